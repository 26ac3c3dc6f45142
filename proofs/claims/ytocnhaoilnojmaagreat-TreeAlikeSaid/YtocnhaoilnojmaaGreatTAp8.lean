/- Texts R8B, R8D, R8E, TrKe, TrDl, LwA, LwB, LwP, LwS, LwT, LwN, one behind the other (what the statement TreeAlike does not use is left out). -/
import Derived.Test.YtocnhaoilnojmaaGreatTAp1
import Derived.Test.YtocnhaoilnojmaaGreatTAp7
import Derived.Test.YtocnhaoilnojmaaGreatTAp6
import Derived.Test.YtocnhaoilnojmaaGreatTAp5
import Derived.Test.YtocnhaoilnojmaaGreatTAp4
namespace Go.Proofs.YtocnhaoilnojmaaGreat
open Go Go.RowKit
set_option linter.all false
set_option maxRecDepth 100000
/-- What a call leaves of the document's map. -/
def MpS (q : Nat) (w w' : World) (es' : Es) : Prop := ∃ mv', MpM w' q mv' es' ∧ Kp (fun k => k = q) w w' ∧ ∀ g, mv'.ownBlock = some g → w.heap.size ≤ g
theorem esC_one1 (es : Es) : ∀ c ∈ esC es, c.oneCell' = true := fun c hc => by
 obtain ⟨x, -, hx⟩ := List.mem_flatMap.1 hc
 simp at hx
 rcases hx with rfl | rfl <;> rfl
section
variable {w : World} {q : Nat} {mv : Value} {es : Es}
set_option maxHeartbeats 4000000 in
theorem putM_ret (h : MpM w q mv es) (hl : es.length + 1 ≤ 1000000) (k v : Bytes) : Ret Tryz.prog 39 [ptr q 0, S k, S v] w fun u w' => u = .tuple #[] ∧ MpS q w w' (insE es k v) := by
 have hAt := at_ret h k
 have hil := insE_len es k v
 obtain ⟨a, c, rfl, -⟩ := h.sl.rd.shape
 have hB := h.blk
 have hR := h.sl.rd
 have hpl := posE_le es k
 have hlq := hB.lt
 have hle := h.le
 have hnc : es.length ≤ c := by
  rcases h.sl.shape with ⟨e, e0⟩ | ⟨g, cap, e, e1⟩
  ·omega
  ·cases e; exact e1
 have hml : maxLen = 9223372036854775807 := rfl
 obtain ⟨pv, hpv, hpr⟩ := rd_pre hR hpl
 rw [esC_take] at hpr
 refine ret_of_run (e := [(0, _), (1, _), (2, _)]) Tryz.func39 rfl Tryz.ntmps39 rfl rfl ?_; refine qN rfl ?_; refine qV (ymv rfl) ?_; refine qV (ymv rfl) ?_; refine rCall rfl rfl (yc (args := [.tmp 7, .tmp 8]) cf41 rfl) (hAt) ?_
 rintro _ w1 ⟨rfl, rfl⟩
 refine qV (yas rfl) ?_; refine rEnd ?_; refine run_seq ?_; refine run_seq ?_; refine run_cut (fun e' w' => ∃ f : Bool, e' = [(0, ptr q 0), (1, S k), (2, S v), (6, I ((posE es k : Nat) : Int)), (28, .bool f)] ∧ w' = w1 ∧ (f = true ↔ hasE es k)) ?hkf (fun hkf => ?hmainf)
 case hkf =>
  rintro e' w1 ⟨f, rfl, rfl, hf⟩
  have hg : Ext w1 w1.drew := Ext.drew0 w1
  refine run_cond rfl (fun hff => ?_) (fun hff => ?_)
  ·skip
   have hhas := hf.1 hff
   have hlt := hasE_lt hhas
   obtain ⟨sv, hsv, hsr⟩ := rd_suf (i := posE es k + 1) hR (by omega) hnc
   rw [esC_drop] at hsr
   refine run_seq ?_; refine run_drawL [24] (fun w' => Ext w1 w') (by kernel_rfl) rfl ?_; refine qL [22, 23, 24] 0 rfl (fun _ hS => ymv rfl) (hg) ?_; refine qL [3, 4, 5, 7, 8, 13, 21, 22, 23, 24] 2 rfl (fun _ hS => ymv rfl) (hg) ?_; refine qL [4, 5, 7, 8, 13, 21, 22, 23, 24] 3 rfl (fun _ hS => (by first | exact ync rfl | exact yncf rfl)) (hg) ?_; refine qL [5, 7, 8, 13, 21, 22, 23, 24] 4 rfl (fun _ hS => yfa fl32_0 rfl) (hg) ?_; refine qL [7, 8, 13, 21, 22, 23, 24] 5 rfl (fun _ hS => yld U30 rfl rfl (hS.blk hB) rfl) (hg) ?_
   refine qL [7, 8, 13, 21, 22, 23, 24] 6 rfl (fun _ hS => ymv rfl) (hg) ?_; refine qL [11, 12, 13, 21, 22, 23, 24] 9 rfl (fun _ hS => ymv rfl) (hg) ?_; refine qL [11, 12, 13, 21, 22, 23, 24] 10 rfl (fun _ hS => ymv rfl) (hg) ?_; refine qL [12, 13, 21, 22, 23, 24] 11 rfl (fun _ hS => ybd (parts := [(0, .tmp 38), (1, .tmp 39)]) (cs := [_, _]) ti41 rfl sp41 rfl rfl) (hg) ?_; refine qL [15, 16, 17, 20, 21, 22, 23, 24] 14 rfl (fun _ hS => ymv rfl) (hg) ?_; refine qL [16, 17, 20, 21, 22, 23, 24] 15 rfl (fun _ hS => (by first | exact ync rfl | exact yncf rfl)) (hg) ?_
   refine qL [17, 20, 21, 22, 23, 24] 16 rfl (fun _ hS => yfa fl32_0 rfl) (hg) ?_; refine qL [20, 21, 22, 23, 24] 17 rfl (fun _ hS => yld U30 rfl rfl (hS.blk hB) rfl) (hg) ?_; refine qL [19, 20, 21, 22, 23, 24] 18 rfl (fun _ hS => ymv rfl) (hg) ?_; refine qL [20, 21, 22, 23, 24] 19 rfl (fun _ hS => yad rfl rfl (by omega)) (hg) ?_; refine qL [8, 13, 21, 22, 23, 24] 7 rfl (fun _ hS => yslT U30 ti41 rfl rfl (by omega) hpv) (hg) ?_; refine qL [21, 22, 23, 24] 20 rfl (fun _ hS => yslF U30 ti41 rfl rfl (by omega) hnc hsv) (hg) ?_; refine hTwoL (i := 1) (j := 12) (by kernel_rfl) ?_ ?_
   ·skip
    refine nValPL (i := 1) rfl rfl rfl (pbs (parts := []) (cs := []) (zs := []) U30 ti41 rfl (by kernel_rfl) rfl rfl rfl (by decide)) ?_
    rintro _ w2 ⟨b2, rfl, ⟨hb2, hx2, hB2⟩, hS2⟩
    refine ⟨hg.trans hx2, ?_⟩
    have hl2 : w1.heap.size ≤ b2 := by have := hg.size; omega
    have hlt2 := hB2.lt
    have hg := hg.trans hx2
    try have hS5 := hS5.ext hx2
    refine hTwoL (i := 8) (j := 12) (by kernel_rfl) ?_ ?_
    ·skip
     refine nValPL (i := 8) rfl rfl rfl (pap U30 ti41 rfl (by decide) rfl rfl hS2 (hpr.ext hg) (esC_one1 _) (by omega) (by omega)) ?_
     rintro v3 w3 ⟨hS3, hk3, ho3, -⟩
     refine ⟨hg.trans_new hk3 (fun i hi => by have e : b2 = i := Option.some.inj hi; omega), ?_⟩
     have hl3 : ∀ g, v3.ownBlock = some g → w1.heap.size ≤ g := fun g hg' => by
      have := hg.size
      rcases ho3 g hg' with e | e
      ·have e : b2 = g := Option.some.inj e; omega
      ·omega
     try have hS5 := hS5.kp hk3 (fun g hg' e => by have e : b2 = g := Option.some.inj e; have e' : b5 = g := Option.some.inj hg'; omega)
     have hg := hg.trans_new hk3 (fun i hi => by have e : b2 = i := Option.some.inj hi; omega)
     rw [List.nil_append, Nat.zero_add] at hS3
     refine hOneL (i := 12) (by kernel_rfl) ?_; refine nValPL (i := 12) rfl rfl rfl (pbs (parts := [(0, .tmp 40)]) (cs := [_, _]) (zs := [Value.string ⟨#[]⟩, Value.string ⟨#[]⟩]) U30 ti41 rfl (by kernel_rfl) rfl rfl rfl (by decide)) ?_
     rintro _ w5 ⟨b5, rfl, ⟨hb5, hx5, hB5⟩, hS5⟩
     refine ⟨hg.trans hx5, ?_⟩
     have hg := hg.trans hx5
     have hlt5 := hB5.lt
     try have hS2 := hS2.ext hx5
     try have hS3 := hS3.ext hx5
     refine hOneL (i := 13) (by kernel_rfl) ?_; refine nValPL (i := 13) rfl rfl rfl (pap U30 ti41 rfl (by decide) rfl rfl hS3 hS5.rd (by intro c hc; simp at hc; rcases hc with rfl | rfl <;> rfl) (by omega) (by omega)) ?_
     rintro v6 w6 ⟨hS6, hk6, ho6, -⟩
     refine ⟨hg.trans_new hk6 (fun i hi => hl3 i hi), ?_⟩
     have hl6 : ∀ g, v6.ownBlock = some g → w1.heap.size ≤ g := fun g hg' => by
      have := hg.size
      rcases ho6 g hg' with e | e
      ·exact hl3 g e
      ·omega
     have hg := hg.trans_new hk6 (fun i hi => hl3 i hi)
     refine hOneL (i := 21) (by kernel_rfl) ?_; refine nValPL (i := 21) rfl rfl rfl (pap U30 ti41 rfl (by decide) rfl rfl hS6 (hsr.ext hg) (esC_one1 _) (by omega) (by omega)) ?_
     rintro v7 w7 ⟨hS7, hk7, ho7, -⟩
     refine ⟨hg.trans_new hk7 (fun i hi => hl6 i hi), ?_⟩
     have hl7 : ∀ g, v7.ownBlock = some g → w1.heap.size ≤ g := fun g hg' => by
      have := hg.size
      rcases ho7 g hg' with e | e
      ·exact hl6 g e
      ·omega
     have hg := hg.trans_new hk7 (fun i hi => hl6 i hi)
     refine qL [23, 24] 22 rfl (fun _ hS => (by first | exact ync rfl | exact yncf rfl)) hg ?_; refine qL [24] 23 rfl (fun _ hS => yfa fl32_0 rfl) hg ?_; refine hLate [24] (by kernel_rfl) (by kernel_rfl) ?_; refine qO 24 ?_; refine nEffP (i := 24) rfl rfl (zst ti30 rfl rfl (oneV_sl hS7) (hg.blk hB) (by simp)) ?_
     rintro w8 ⟨hB8, hk8⟩
     refine ⟨trivial, ?_⟩
     refine qE ?_; refine Run.qb (e := [(0, _), (1, _), (2, _), (6, _)]) ?_
     have hk18 : Kp (fun k => k = q) w1 w8 := hg.kp.trans hk8
     have hM8 : MpM w8 q v7 (insE es k v) := ⟨hB8, by
      have := hS7.kp hk8 (fun g hg' e => by have := hl7 g hg'; omega)
      rw [show insE es k v = es.take (posE es k) ++ [(k, v)] ++ es.drop (posE es k + 1) by unfold insE; rw [if_pos hhas]; simp]
      rw [esC_app, esC_app, esC_one, List.length_append, List.length_append, List.length_take, List.length_drop, Nat.min_eq_left hpl]
      exact this, fun e => by have := hl7 q e; omega, by rw [hil]; split <;> omega⟩
     refine run_ret Tryz.func39 rfl ?_
     exact ⟨_, rfl, rfl, ⟨_, hM8, hk18, hl7⟩⟩
    ·skip
     refine nValPL (i := 12) rfl rfl rfl (pbs (parts := [(0, .tmp 40)]) (cs := [_, _]) (zs := [Value.string ⟨#[]⟩, Value.string ⟨#[]⟩]) U30 ti41 rfl (by kernel_rfl) rfl rfl rfl (by decide)) ?_
     rintro _ w5 ⟨b5, rfl, ⟨hb5, hx5, hB5⟩, hS5⟩
     refine ⟨hg.trans hx5, ?_⟩
     have hg := hg.trans hx5
     have hlt5 := hB5.lt
     try have hS2 := hS2.ext hx5
     try have hS3 := hS3.ext hx5
     refine hOneL (i := 8) (by kernel_rfl) ?_; refine nValPL (i := 8) rfl rfl rfl (pap U30 ti41 rfl (by decide) rfl rfl hS2 (hpr.ext hg) (esC_one1 _) (by omega) (by omega)) ?_
     rintro v3 w3 ⟨hS3, hk3, ho3, -⟩
     refine ⟨hg.trans_new hk3 (fun i hi => by have e : b2 = i := Option.some.inj hi; omega), ?_⟩
     have hl3 : ∀ g, v3.ownBlock = some g → w1.heap.size ≤ g := fun g hg' => by
      have := hg.size
      rcases ho3 g hg' with e | e
      ·have e : b2 = g := Option.some.inj e; omega
      ·omega
     try have hS5 := hS5.kp hk3 (fun g hg' e => by have e : b2 = g := Option.some.inj e; have e' : b5 = g := Option.some.inj hg'; omega)
     have hg := hg.trans_new hk3 (fun i hi => by have e : b2 = i := Option.some.inj hi; omega)
     rw [List.nil_append, Nat.zero_add] at hS3
     refine hOneL (i := 13) (by kernel_rfl) ?_; refine nValPL (i := 13) rfl rfl rfl (pap U30 ti41 rfl (by decide) rfl rfl hS3 hS5.rd (by intro c hc; simp at hc; rcases hc with rfl | rfl <;> rfl) (by omega) (by omega)) ?_
     rintro v6 w6 ⟨hS6, hk6, ho6, -⟩
     refine ⟨hg.trans_new hk6 (fun i hi => hl3 i hi), ?_⟩
     have hl6 : ∀ g, v6.ownBlock = some g → w1.heap.size ≤ g := fun g hg' => by
      have := hg.size
      rcases ho6 g hg' with e | e
      ·exact hl3 g e
      ·omega
     have hg := hg.trans_new hk6 (fun i hi => hl3 i hi)
     refine hOneL (i := 21) (by kernel_rfl) ?_; refine nValPL (i := 21) rfl rfl rfl (pap U30 ti41 rfl (by decide) rfl rfl hS6 (hsr.ext hg) (esC_one1 _) (by omega) (by omega)) ?_
     rintro v7 w7 ⟨hS7, hk7, ho7, -⟩
     refine ⟨hg.trans_new hk7 (fun i hi => hl6 i hi), ?_⟩
     have hl7 : ∀ g, v7.ownBlock = some g → w1.heap.size ≤ g := fun g hg' => by
      have := hg.size
      rcases ho7 g hg' with e | e
      ·exact hl6 g e
      ·omega
     have hg := hg.trans_new hk7 (fun i hi => hl6 i hi)
     refine qL [23, 24] 22 rfl (fun _ hS => (by first | exact ync rfl | exact yncf rfl)) hg ?_; refine qL [24] 23 rfl (fun _ hS => yfa fl32_0 rfl) hg ?_; refine hLate [24] (by kernel_rfl) (by kernel_rfl) ?_; refine qO 24 ?_; refine nEffP (i := 24) rfl rfl (zst ti30 rfl rfl (oneV_sl hS7) (hg.blk hB) (by simp)) ?_
     rintro w8 ⟨hB8, hk8⟩
     refine ⟨trivial, ?_⟩
     refine qE ?_; refine Run.qb (e := [(0, _), (1, _), (2, _), (6, _)]) ?_
     have hk18 : Kp (fun k => k = q) w1 w8 := hg.kp.trans hk8
     have hM8 : MpM w8 q v7 (insE es k v) := ⟨hB8, by
      have := hS7.kp hk8 (fun g hg' e => by have := hl7 g hg'; omega)
      rw [show insE es k v = es.take (posE es k) ++ [(k, v)] ++ es.drop (posE es k + 1) by unfold insE; rw [if_pos hhas]; simp]
      rw [esC_app, esC_app, esC_one, List.length_append, List.length_append, List.length_take, List.length_drop, Nat.min_eq_left hpl]
      exact this, fun e => by have := hl7 q e; omega, by rw [hil]; split <;> omega⟩
     refine run_ret Tryz.func39 rfl ?_
     exact ⟨_, rfl, rfl, ⟨_, hM8, hk18, hl7⟩⟩
   ·skip
    refine nValPL (i := 12) rfl rfl rfl (pbs (parts := [(0, .tmp 40)]) (cs := [_, _]) (zs := [Value.string ⟨#[]⟩, Value.string ⟨#[]⟩]) U30 ti41 rfl (by kernel_rfl) rfl rfl rfl (by decide)) ?_
    rintro _ w5 ⟨b5, rfl, ⟨hb5, hx5, hB5⟩, hS5⟩
    refine ⟨hg.trans hx5, ?_⟩
    have hg := hg.trans hx5
    have hlt5 := hB5.lt
    try have hS2 := hS2.ext hx5
    try have hS3 := hS3.ext hx5
    refine hOneL (i := 1) (by kernel_rfl) ?_; refine nValPL (i := 1) rfl rfl rfl (pbs (parts := []) (cs := []) (zs := []) U30 ti41 rfl (by kernel_rfl) rfl rfl rfl (by decide)) ?_
    rintro _ w2 ⟨b2, rfl, ⟨hb2, hx2, hB2⟩, hS2⟩
    refine ⟨hg.trans hx2, ?_⟩
    have hl2 : w1.heap.size ≤ b2 := by have := hg.size; omega
    have hlt2 := hB2.lt
    have hg := hg.trans hx2
    try have hS5 := hS5.ext hx2
    refine hOneL (i := 8) (by kernel_rfl) ?_; refine nValPL (i := 8) rfl rfl rfl (pap U30 ti41 rfl (by decide) rfl rfl hS2 (hpr.ext hg) (esC_one1 _) (by omega) (by omega)) ?_
    rintro v3 w3 ⟨hS3, hk3, ho3, -⟩
    refine ⟨hg.trans_new hk3 (fun i hi => by have e : b2 = i := Option.some.inj hi; omega), ?_⟩
    have hl3 : ∀ g, v3.ownBlock = some g → w1.heap.size ≤ g := fun g hg' => by
     have := hg.size
     rcases ho3 g hg' with e | e
     ·have e : b2 = g := Option.some.inj e; omega
     ·omega
    try have hS5 := hS5.kp hk3 (fun g hg' e => by have e : b2 = g := Option.some.inj e; have e' : b5 = g := Option.some.inj hg'; omega)
    have hg := hg.trans_new hk3 (fun i hi => by have e : b2 = i := Option.some.inj hi; omega)
    rw [List.nil_append, Nat.zero_add] at hS3
    refine hOneL (i := 13) (by kernel_rfl) ?_; refine nValPL (i := 13) rfl rfl rfl (pap U30 ti41 rfl (by decide) rfl rfl hS3 hS5.rd (by intro c hc; simp at hc; rcases hc with rfl | rfl <;> rfl) (by omega) (by omega)) ?_
    rintro v6 w6 ⟨hS6, hk6, ho6, -⟩
    refine ⟨hg.trans_new hk6 (fun i hi => hl3 i hi), ?_⟩
    have hl6 : ∀ g, v6.ownBlock = some g → w1.heap.size ≤ g := fun g hg' => by
     have := hg.size
     rcases ho6 g hg' with e | e
     ·exact hl3 g e
     ·omega
    have hg := hg.trans_new hk6 (fun i hi => hl3 i hi)
    refine hOneL (i := 21) (by kernel_rfl) ?_; refine nValPL (i := 21) rfl rfl rfl (pap U30 ti41 rfl (by decide) rfl rfl hS6 (hsr.ext hg) (esC_one1 _) (by omega) (by omega)) ?_
    rintro v7 w7 ⟨hS7, hk7, ho7, -⟩
    refine ⟨hg.trans_new hk7 (fun i hi => hl6 i hi), ?_⟩
    have hl7 : ∀ g, v7.ownBlock = some g → w1.heap.size ≤ g := fun g hg' => by
     have := hg.size
     rcases ho7 g hg' with e | e
     ·exact hl6 g e
     ·omega
    have hg := hg.trans_new hk7 (fun i hi => hl6 i hi)
    refine qL [23, 24] 22 rfl (fun _ hS => (by first | exact ync rfl | exact yncf rfl)) hg ?_; refine qL [24] 23 rfl (fun _ hS => yfa fl32_0 rfl) hg ?_; refine hLate [24] (by kernel_rfl) (by kernel_rfl) ?_; refine qO 24 ?_; refine nEffP (i := 24) rfl rfl (zst ti30 rfl rfl (oneV_sl hS7) (hg.blk hB) (by simp)) ?_
    rintro w8 ⟨hB8, hk8⟩
    refine ⟨trivial, ?_⟩
    refine qE ?_; refine Run.qb (e := [(0, _), (1, _), (2, _), (6, _)]) ?_
    have hk18 : Kp (fun k => k = q) w1 w8 := hg.kp.trans hk8
    have hM8 : MpM w8 q v7 (insE es k v) := ⟨hB8, by
     have := hS7.kp hk8 (fun g hg' e => by have := hl7 g hg'; omega)
     rw [show insE es k v = es.take (posE es k) ++ [(k, v)] ++ es.drop (posE es k + 1) by unfold insE; rw [if_pos hhas]; simp]
     rw [esC_app, esC_app, esC_one, List.length_append, List.length_append, List.length_take, List.length_drop, Nat.min_eq_left hpl]
     exact this, fun e => by have := hl7 q e; omega, by rw [hil]; split <;> omega⟩
    refine run_ret Tryz.func39 rfl ?_
    exact ⟨_, rfl, rfl, ⟨_, hM8, hk18, hl7⟩⟩
  ·skip
   have hhas : ¬ hasE es k := fun e => by rw [hf.2 e] at hff; cases hff
   obtain ⟨sv, hsv, hsr⟩ := rd_suf (i := posE es k) hR (by omega) hnc
   rw [esC_drop] at hsr
   refine run_skip ?_; refine run_drawL [23] (fun w' => Ext w1 w') (by kernel_rfl) rfl ?_; refine qL [21, 22, 23] 0 rfl (fun _ hS => ymv rfl) (hg) ?_; refine qL [3, 4, 5, 7, 8, 13, 20, 21, 22, 23] 2 rfl (fun _ hS => ymv rfl) (hg) ?_; refine qL [4, 5, 7, 8, 13, 20, 21, 22, 23] 3 rfl (fun _ hS => (by first | exact ync rfl | exact yncf rfl)) (hg) ?_; refine qL [5, 7, 8, 13, 20, 21, 22, 23] 4 rfl (fun _ hS => yfa fl32_0 rfl) (hg) ?_; refine qL [7, 8, 13, 20, 21, 22, 23] 5 rfl (fun _ hS => yld U30 rfl rfl (hS.blk hB) rfl) (hg) ?_
   refine qL [7, 8, 13, 20, 21, 22, 23] 6 rfl (fun _ hS => ymv rfl) (hg) ?_; refine qL [11, 12, 13, 20, 21, 22, 23] 9 rfl (fun _ hS => ymv rfl) (hg) ?_; refine qL [11, 12, 13, 20, 21, 22, 23] 10 rfl (fun _ hS => ymv rfl) (hg) ?_; refine qL [12, 13, 20, 21, 22, 23] 11 rfl (fun _ hS => ybd (parts := [(0, .tmp 62), (1, .tmp 63)]) (cs := [_, _]) ti41 rfl sp41 rfl rfl) (hg) ?_; refine qL [15, 16, 17, 19, 20, 21, 22, 23] 14 rfl (fun _ hS => ymv rfl) (hg) ?_; refine qL [16, 17, 19, 20, 21, 22, 23] 15 rfl (fun _ hS => (by first | exact ync rfl | exact yncf rfl)) (hg) ?_
   refine qL [17, 19, 20, 21, 22, 23] 16 rfl (fun _ hS => yfa fl32_0 rfl) (hg) ?_; refine qL [19, 20, 21, 22, 23] 17 rfl (fun _ hS => yld U30 rfl rfl (hS.blk hB) rfl) (hg) ?_; refine qL [19, 20, 21, 22, 23] 18 rfl (fun _ hS => ymv rfl) (hg) ?_; refine qL [8, 13, 20, 21, 22, 23] 7 rfl (fun _ hS => yslT U30 ti41 rfl rfl (by omega) hpv) (hg) ?_; refine qL [20, 21, 22, 23] 19 rfl (fun _ hS => yslF U30 ti41 rfl rfl (by omega) hnc hsv) (hg) ?_; refine hTwoL (i := 1) (j := 12) (by kernel_rfl) ?_ ?_
   ·skip
    refine nValPL (i := 1) rfl rfl rfl (pbs (parts := []) (cs := []) (zs := []) U30 ti41 rfl (by kernel_rfl) rfl rfl rfl (by decide)) ?_
    rintro _ w2 ⟨b2, rfl, ⟨hb2, hx2, hB2⟩, hS2⟩
    refine ⟨hg.trans hx2, ?_⟩
    have hl2 : w1.heap.size ≤ b2 := by have := hg.size; omega
    have hlt2 := hB2.lt
    have hg := hg.trans hx2
    try have hS5 := hS5.ext hx2
    refine hTwoL (i := 8) (j := 12) (by kernel_rfl) ?_ ?_
    ·skip
     refine nValPL (i := 8) rfl rfl rfl (pap U30 ti41 rfl (by decide) rfl rfl hS2 (hpr.ext hg) (esC_one1 _) (by omega) (by omega)) ?_
     rintro v3 w3 ⟨hS3, hk3, ho3, -⟩
     refine ⟨hg.trans_new hk3 (fun i hi => by have e : b2 = i := Option.some.inj hi; omega), ?_⟩
     have hl3 : ∀ g, v3.ownBlock = some g → w1.heap.size ≤ g := fun g hg' => by
      have := hg.size
      rcases ho3 g hg' with e | e
      ·have e : b2 = g := Option.some.inj e; omega
      ·omega
     try have hS5 := hS5.kp hk3 (fun g hg' e => by have e : b2 = g := Option.some.inj e; have e' : b5 = g := Option.some.inj hg'; omega)
     have hg := hg.trans_new hk3 (fun i hi => by have e : b2 = i := Option.some.inj hi; omega)
     rw [List.nil_append, Nat.zero_add] at hS3
     refine hOneL (i := 12) (by kernel_rfl) ?_; refine nValPL (i := 12) rfl rfl rfl (pbs (parts := [(0, .tmp 64)]) (cs := [_, _]) (zs := [Value.string ⟨#[]⟩, Value.string ⟨#[]⟩]) U30 ti41 rfl (by kernel_rfl) rfl rfl rfl (by decide)) ?_
     rintro _ w5 ⟨b5, rfl, ⟨hb5, hx5, hB5⟩, hS5⟩
     refine ⟨hg.trans hx5, ?_⟩
     have hg := hg.trans hx5
     have hlt5 := hB5.lt
     try have hS2 := hS2.ext hx5
     try have hS3 := hS3.ext hx5
     refine hOneL (i := 13) (by kernel_rfl) ?_; refine nValPL (i := 13) rfl rfl rfl (pap U30 ti41 rfl (by decide) rfl rfl hS3 hS5.rd (by intro c hc; simp at hc; rcases hc with rfl | rfl <;> rfl) (by omega) (by omega)) ?_
     rintro v6 w6 ⟨hS6, hk6, ho6, -⟩
     refine ⟨hg.trans_new hk6 (fun i hi => hl3 i hi), ?_⟩
     have hl6 : ∀ g, v6.ownBlock = some g → w1.heap.size ≤ g := fun g hg' => by
      have := hg.size
      rcases ho6 g hg' with e | e
      ·exact hl3 g e
      ·omega
     have hg := hg.trans_new hk6 (fun i hi => hl3 i hi)
     refine hOneL (i := 20) (by kernel_rfl) ?_; refine nValPL (i := 20) rfl rfl rfl (pap U30 ti41 rfl (by decide) rfl rfl hS6 (hsr.ext hg) (esC_one1 _) (by omega) (by omega)) ?_
     rintro v7 w7 ⟨hS7, hk7, ho7, -⟩
     refine ⟨hg.trans_new hk7 (fun i hi => hl6 i hi), ?_⟩
     have hl7 : ∀ g, v7.ownBlock = some g → w1.heap.size ≤ g := fun g hg' => by
      have := hg.size
      rcases ho7 g hg' with e | e
      ·exact hl6 g e
      ·omega
     have hg := hg.trans_new hk7 (fun i hi => hl6 i hi)
     refine qL [22, 23] 21 rfl (fun _ hS => (by first | exact ync rfl | exact yncf rfl)) hg ?_; refine qL [23] 22 rfl (fun _ hS => yfa fl32_0 rfl) hg ?_; refine hLate [23] (by kernel_rfl) (by kernel_rfl) ?_; refine qO 23 ?_; refine nEffP (i := 23) rfl rfl (zst ti30 rfl rfl (oneV_sl hS7) (hg.blk hB) (by simp)) ?_
     rintro w8 ⟨hB8, hk8⟩
     refine ⟨trivial, ?_⟩
     refine qE ?_; refine Run.qb (e := []) ?_
     have hk18 : Kp (fun k => k = q) w1 w8 := hg.kp.trans hk8
     have hM8 : MpM w8 q v7 (insE es k v) := ⟨hB8, by
      have := hS7.kp hk8 (fun g hg' e => by have := hl7 g hg'; omega)
      rw [show insE es k v = es.take (posE es k) ++ [(k, v)] ++ es.drop (posE es k) by unfold insE; rw [if_neg hhas]; simp]
      rw [esC_app, esC_app, esC_one, List.length_append, List.length_append, List.length_take, List.length_drop, Nat.min_eq_left hpl]
      exact this, fun e => by have := hl7 q e; omega, by rw [hil]; split <;> omega⟩
     refine run_end Tryz.func39 rfl ?_
     exact ⟨_, rfl, rfl, ⟨_, hM8, hk18, hl7⟩⟩
    ·skip
     refine nValPL (i := 12) rfl rfl rfl (pbs (parts := [(0, .tmp 64)]) (cs := [_, _]) (zs := [Value.string ⟨#[]⟩, Value.string ⟨#[]⟩]) U30 ti41 rfl (by kernel_rfl) rfl rfl rfl (by decide)) ?_
     rintro _ w5 ⟨b5, rfl, ⟨hb5, hx5, hB5⟩, hS5⟩
     refine ⟨hg.trans hx5, ?_⟩
     have hg := hg.trans hx5
     have hlt5 := hB5.lt
     try have hS2 := hS2.ext hx5
     try have hS3 := hS3.ext hx5
     refine hOneL (i := 8) (by kernel_rfl) ?_; refine nValPL (i := 8) rfl rfl rfl (pap U30 ti41 rfl (by decide) rfl rfl hS2 (hpr.ext hg) (esC_one1 _) (by omega) (by omega)) ?_
     rintro v3 w3 ⟨hS3, hk3, ho3, -⟩
     refine ⟨hg.trans_new hk3 (fun i hi => by have e : b2 = i := Option.some.inj hi; omega), ?_⟩
     have hl3 : ∀ g, v3.ownBlock = some g → w1.heap.size ≤ g := fun g hg' => by
      have := hg.size
      rcases ho3 g hg' with e | e
      ·have e : b2 = g := Option.some.inj e; omega
      ·omega
     try have hS5 := hS5.kp hk3 (fun g hg' e => by have e : b2 = g := Option.some.inj e; have e' : b5 = g := Option.some.inj hg'; omega)
     have hg := hg.trans_new hk3 (fun i hi => by have e : b2 = i := Option.some.inj hi; omega)
     rw [List.nil_append, Nat.zero_add] at hS3
     refine hOneL (i := 13) (by kernel_rfl) ?_; refine nValPL (i := 13) rfl rfl rfl (pap U30 ti41 rfl (by decide) rfl rfl hS3 hS5.rd (by intro c hc; simp at hc; rcases hc with rfl | rfl <;> rfl) (by omega) (by omega)) ?_
     rintro v6 w6 ⟨hS6, hk6, ho6, -⟩
     refine ⟨hg.trans_new hk6 (fun i hi => hl3 i hi), ?_⟩
     have hl6 : ∀ g, v6.ownBlock = some g → w1.heap.size ≤ g := fun g hg' => by
      have := hg.size
      rcases ho6 g hg' with e | e
      ·exact hl3 g e
      ·omega
     have hg := hg.trans_new hk6 (fun i hi => hl3 i hi)
     refine hOneL (i := 20) (by kernel_rfl) ?_; refine nValPL (i := 20) rfl rfl rfl (pap U30 ti41 rfl (by decide) rfl rfl hS6 (hsr.ext hg) (esC_one1 _) (by omega) (by omega)) ?_
     rintro v7 w7 ⟨hS7, hk7, ho7, -⟩
     refine ⟨hg.trans_new hk7 (fun i hi => hl6 i hi), ?_⟩
     have hl7 : ∀ g, v7.ownBlock = some g → w1.heap.size ≤ g := fun g hg' => by
      have := hg.size
      rcases ho7 g hg' with e | e
      ·exact hl6 g e
      ·omega
     have hg := hg.trans_new hk7 (fun i hi => hl6 i hi)
     refine qL [22, 23] 21 rfl (fun _ hS => (by first | exact ync rfl | exact yncf rfl)) hg ?_; refine qL [23] 22 rfl (fun _ hS => yfa fl32_0 rfl) hg ?_; refine hLate [23] (by kernel_rfl) (by kernel_rfl) ?_; refine qO 23 ?_; refine nEffP (i := 23) rfl rfl (zst ti30 rfl rfl (oneV_sl hS7) (hg.blk hB) (by simp)) ?_
     rintro w8 ⟨hB8, hk8⟩
     refine ⟨trivial, ?_⟩
     refine qE ?_; refine Run.qb (e := []) ?_
     have hk18 : Kp (fun k => k = q) w1 w8 := hg.kp.trans hk8
     have hM8 : MpM w8 q v7 (insE es k v) := ⟨hB8, by
      have := hS7.kp hk8 (fun g hg' e => by have := hl7 g hg'; omega)
      rw [show insE es k v = es.take (posE es k) ++ [(k, v)] ++ es.drop (posE es k) by unfold insE; rw [if_neg hhas]; simp]
      rw [esC_app, esC_app, esC_one, List.length_append, List.length_append, List.length_take, List.length_drop, Nat.min_eq_left hpl]
      exact this, fun e => by have := hl7 q e; omega, by rw [hil]; split <;> omega⟩
     refine run_end Tryz.func39 rfl ?_
     exact ⟨_, rfl, rfl, ⟨_, hM8, hk18, hl7⟩⟩
   ·skip
    refine nValPL (i := 12) rfl rfl rfl (pbs (parts := [(0, .tmp 64)]) (cs := [_, _]) (zs := [Value.string ⟨#[]⟩, Value.string ⟨#[]⟩]) U30 ti41 rfl (by kernel_rfl) rfl rfl rfl (by decide)) ?_
    rintro _ w5 ⟨b5, rfl, ⟨hb5, hx5, hB5⟩, hS5⟩
    refine ⟨hg.trans hx5, ?_⟩
    have hg := hg.trans hx5
    have hlt5 := hB5.lt
    try have hS2 := hS2.ext hx5
    try have hS3 := hS3.ext hx5
    refine hOneL (i := 1) (by kernel_rfl) ?_; refine nValPL (i := 1) rfl rfl rfl (pbs (parts := []) (cs := []) (zs := []) U30 ti41 rfl (by kernel_rfl) rfl rfl rfl (by decide)) ?_
    rintro _ w2 ⟨b2, rfl, ⟨hb2, hx2, hB2⟩, hS2⟩
    refine ⟨hg.trans hx2, ?_⟩
    have hl2 : w1.heap.size ≤ b2 := by have := hg.size; omega
    have hlt2 := hB2.lt
    have hg := hg.trans hx2
    try have hS5 := hS5.ext hx2
    refine hOneL (i := 8) (by kernel_rfl) ?_; refine nValPL (i := 8) rfl rfl rfl (pap U30 ti41 rfl (by decide) rfl rfl hS2 (hpr.ext hg) (esC_one1 _) (by omega) (by omega)) ?_
    rintro v3 w3 ⟨hS3, hk3, ho3, -⟩
    refine ⟨hg.trans_new hk3 (fun i hi => by have e : b2 = i := Option.some.inj hi; omega), ?_⟩
    have hl3 : ∀ g, v3.ownBlock = some g → w1.heap.size ≤ g := fun g hg' => by
     have := hg.size
     rcases ho3 g hg' with e | e
     ·have e : b2 = g := Option.some.inj e; omega
     ·omega
    try have hS5 := hS5.kp hk3 (fun g hg' e => by have e : b2 = g := Option.some.inj e; have e' : b5 = g := Option.some.inj hg'; omega)
    have hg := hg.trans_new hk3 (fun i hi => by have e : b2 = i := Option.some.inj hi; omega)
    rw [List.nil_append, Nat.zero_add] at hS3
    refine hOneL (i := 13) (by kernel_rfl) ?_; refine nValPL (i := 13) rfl rfl rfl (pap U30 ti41 rfl (by decide) rfl rfl hS3 hS5.rd (by intro c hc; simp at hc; rcases hc with rfl | rfl <;> rfl) (by omega) (by omega)) ?_
    rintro v6 w6 ⟨hS6, hk6, ho6, -⟩
    refine ⟨hg.trans_new hk6 (fun i hi => hl3 i hi), ?_⟩
    have hl6 : ∀ g, v6.ownBlock = some g → w1.heap.size ≤ g := fun g hg' => by
     have := hg.size
     rcases ho6 g hg' with e | e
     ·exact hl3 g e
     ·omega
    have hg := hg.trans_new hk6 (fun i hi => hl3 i hi)
    refine hOneL (i := 20) (by kernel_rfl) ?_; refine nValPL (i := 20) rfl rfl rfl (pap U30 ti41 rfl (by decide) rfl rfl hS6 (hsr.ext hg) (esC_one1 _) (by omega) (by omega)) ?_
    rintro v7 w7 ⟨hS7, hk7, ho7, -⟩
    refine ⟨hg.trans_new hk7 (fun i hi => hl6 i hi), ?_⟩
    have hl7 : ∀ g, v7.ownBlock = some g → w1.heap.size ≤ g := fun g hg' => by
     have := hg.size
     rcases ho7 g hg' with e | e
     ·exact hl6 g e
     ·omega
    have hg := hg.trans_new hk7 (fun i hi => hl6 i hi)
    refine qL [22, 23] 21 rfl (fun _ hS => (by first | exact ync rfl | exact yncf rfl)) hg ?_; refine qL [23] 22 rfl (fun _ hS => yfa fl32_0 rfl) hg ?_; refine hLate [23] (by kernel_rfl) (by kernel_rfl) ?_; refine qO 23 ?_; refine nEffP (i := 23) rfl rfl (zst ti30 rfl rfl (oneV_sl hS7) (hg.blk hB) (by simp)) ?_
    rintro w8 ⟨hB8, hk8⟩
    refine ⟨trivial, ?_⟩
    refine qE ?_; refine Run.qb (e := []) ?_
    have hk18 : Kp (fun k => k = q) w1 w8 := hg.kp.trans hk8
    have hM8 : MpM w8 q v7 (insE es k v) := ⟨hB8, by
     have := hS7.kp hk8 (fun g hg' e => by have := hl7 g hg'; omega)
     rw [show insE es k v = es.take (posE es k) ++ [(k, v)] ++ es.drop (posE es k) by unfold insE; rw [if_neg hhas]; simp]
     rw [esC_app, esC_app, esC_one, List.length_append, List.length_append, List.length_take, List.length_drop, Nat.min_eq_left hpl]
     exact this, fun e => by have := hl7 q e; omega, by rw [hil]; split <;> omega⟩
    refine run_end Tryz.func39 rfl ?_
    exact ⟨_, rfl, rfl, ⟨_, hM8, hk18, hl7⟩⟩
 case hmainf =>
  refine run_reg rfl ?_; refine qV (ymv rfl) ?_; refine qV (ymv rfl) ?_; refine qV ((by first | exact ync rfl | exact yncf rfl)) ?_; refine qV (yfa fl32_0 rfl) ?_; refine qV (yld U30 rfl rfl hB rfl) ?_; refine qV (yln U30 rfl) ?_; refine qV (ylt rfl rfl) ?_; refine qV (ymv rfl) ?_; refine rVal_if (fun h1 => ?_) (fun h1 => ?_)
  ·skip
   have hi' : posE es k < es.length := by omega
   obtain ⟨lb, lo, y, rfl, hy⟩ := rd_ens hR rfl hi'
   have hst := hasE_at hy
   refine qV (ymv rfl) ?_; refine qV ((by first | exact ync rfl | exact yncf rfl)) ?_; refine qV (yfa fl32_0 rfl) ?_; refine qV (yld U30 rfl rfl hB rfl) ?_; refine qV (ymv rfl) ?_; refine qV (yis U30 ti41 rfl rfl (by omega)) ?_; refine qV (yfa fl41_0 rfl) ?_; refine qV (yldc U9 rfl rfl (rd_en0 hR hi' hy)) ?_; refine qV (ymv rfl) ?_; refine qV (yeqS rfl rfl) ?_; refine qV (ypT rfl rfl) ?_; refine rEnd ?_; refine Run.qb (e := [(0, _), (1, _), (2, _), (6, _), (28, _)]) ?_; refine (hkf _ _ ⟨_, rfl, rfl, ?_⟩).qb
   rw [hst]; simp
  ·skip
   refine qS ?_; refine qS ?_; refine qS ?_; refine qS ?_; refine qS ?_; refine qS ?_; refine qS ?_; refine qS ?_; refine qS ?_; refine qS ?_; refine qV (ypF rfl rfl) ?_; refine rEnd ?_; refine Run.qb (e := [(0, _), (1, _), (2, _), (6, _), (28, _)]) ?_
   exact (hkf _ _ ⟨false, rfl, rfl, ⟨fun h => Bool.noConfusion h, fun hh => absurd hh (hasE_no (by omega))⟩⟩).qb
set_option maxHeartbeats 4000000 in
theorem delM_ret (h : MpM w q mv es) (k : Bytes) : Ret Tryz.prog 12 [ptr q 0, S k] w fun u w' => u = I (getR es k).2 ∧ (if (getR es k).2 = 0 then MpS q w w' (delE es k) else w' = w) := by
 have hAt := at_ret h k
 have hGet := getM_ret h k
 obtain ⟨a, c, rfl, -⟩ := h.sl.rd.shape
 have hB := h.blk
 have hR := h.sl.rd
 have hpl := posE_le es k
 have hlq := hB.lt
 have hle := h.le
 have hnc : es.length ≤ c := by
  rcases h.sl.shape with ⟨e, e0⟩ | ⟨g, cap, e, e1⟩
  ·omega
  ·cases e; exact e1
 have hml : maxLen = 9223372036854775807 := rfl
 obtain ⟨pv, hpv, hpr⟩ := rd_pre hR hpl
 rw [esC_take] at hpr
 refine ret_of_run (e := [(0, _), (1, _)]) Tryz.func12 rfl Tryz.ntmps12 rfl rfl ?_; refine qN rfl ?_; refine qV (yas rfl) ?_; refine qM rfl ?_; refine qV (ymv rfl) ?_; refine qV (ymv rfl) ?_; refine rCall rfl rfl (yc (args := [.tmp 9, .tmp 10]) cf10 rfl) (hGet) ?_
 rintro _ w1 ⟨rfl, rfl⟩
 refine qV (ymv rfl) ?_; refine qV (yex rfl rfl) ?_; refine qV (yex rfl rfl) ?_; refine qV (yas rfl) ?_; refine qV (yas rfl) ?_; refine rEnd ?_; refine run_seq ?_; refine qN rfl ?_; refine qV (ymv rfl) ?_; refine qV (yne rfl rfl) ?_; refine rEnd ?_; refine run_if rfl (fun h1 => ?_) (fun h1 => ?_)
 ·skip
  refine qN rfl ?_; refine qV (ymv rfl) ?_; refine qV (yas rfl) ?_; refine rEnd ?_; refine run_ret Tryz.func12 rfl ?_
  exact ⟨_, rfl, rfl, by rw [if_neg h1]⟩
 ·skip
  have h0 : (getR es k).2 = 0 := Decidable.not_not.1 h1
  have hhas : hasE es k := by
   by_cases hh : hasE es k
   ·exact hh
   ·unfold getR at h0
    rw [getE_none hh] at h0
    split at h0 <;> cases h0
  have hlt := hasE_lt hhas
  have hdl := delE_len hhas
  refine run_skip ?_; refine qN rfl ?_; refine qV (ymv rfl) ?_; refine qV (ymv rfl) ?_; refine rCall rfl rfl (yc (args := [.tmp 17, .tmp 18]) cf41 rfl) (hAt) ?_
  rintro _ w1 ⟨rfl, rfl⟩
  obtain ⟨sv, hsv, hsr⟩ := rd_suf (i := posE es k + 1) hR (by omega) hnc
  rw [esC_drop] at hsr
  have hg : Ext w1 w1.drew := Ext.drew0 w1
  refine qV (yas rfl) ?_; refine rEnd ?_; refine run_seq ?_; refine run_drawL [19] (fun w' => Ext w1 w') (by kernel_rfl) rfl ?_; refine qL [17, 18, 19] 0 rfl (fun _ hS => ymv rfl) (hg) ?_; refine qL [3, 4, 5, 7, 8, 16, 17, 18, 19] 2 rfl (fun _ hS => ymv rfl) (hg) ?_; refine qL [4, 5, 7, 8, 16, 17, 18, 19] 3 rfl (fun _ hS => (by first | exact ync rfl | exact yncf rfl)) (hg) ?_; refine qL [5, 7, 8, 16, 17, 18, 19] 4 rfl (fun _ hS => yfa fl32_0 rfl) (hg) ?_; refine qL [7, 8, 16, 17, 18, 19] 5 rfl (fun _ hS => yld U30 rfl rfl (hS.blk hB) rfl) (hg) ?_
  refine qL [7, 8, 16, 17, 18, 19] 6 rfl (fun _ hS => ymv rfl) (hg) ?_; refine qL [10, 11, 12, 15, 16, 17, 18, 19] 9 rfl (fun _ hS => ymv rfl) (hg) ?_; refine qL [11, 12, 15, 16, 17, 18, 19] 10 rfl (fun _ hS => (by first | exact ync rfl | exact yncf rfl)) (hg) ?_; refine qL [12, 15, 16, 17, 18, 19] 11 rfl (fun _ hS => yfa fl32_0 rfl) (hg) ?_; refine qL [15, 16, 17, 18, 19] 12 rfl (fun _ hS => yld U30 rfl rfl (hS.blk hB) rfl) (hg) ?_; refine qL [14, 15, 16, 17, 18, 19] 13 rfl (fun _ hS => ymv rfl) (hg) ?_; refine qL [15, 16, 17, 18, 19] 14 rfl (fun _ hS => yad rfl rfl (by omega)) (hg) ?_
  refine qL [8, 16, 17, 18, 19] 7 rfl (fun _ hS => yslT U30 ti41 rfl rfl (by omega) hpv) (hg) ?_; refine qL [16, 17, 18, 19] 15 rfl (fun _ hS => yslF U30 ti41 rfl rfl (by omega) hnc hsv) (hg) ?_; refine hOneL (i := 1) (by kernel_rfl) ?_; refine nValPL (i := 1) rfl rfl rfl (pbs (parts := []) (cs := []) (zs := []) U30 ti41 rfl (by kernel_rfl) rfl rfl rfl (by decide)) ?_
  rintro _ w2 ⟨b2, rfl, ⟨hb2, hx2, hB2⟩, hS2⟩
  refine ⟨hg.trans hx2, ?_⟩
  have hl2 : w1.heap.size ≤ b2 := by have := hg.size; omega
  have hlt2 := hB2.lt
  have hg := hg.trans hx2
  try have hS5 := hS5.ext hx2
  refine hOneL (i := 8) (by kernel_rfl) ?_; refine nValPL (i := 8) rfl rfl rfl (pap U30 ti41 rfl (by decide) rfl rfl hS2 (hpr.ext hg) (esC_one1 _) (by omega) (by omega)) ?_
  rintro v3 w3 ⟨hS3, hk3, ho3, -⟩
  refine ⟨hg.trans_new hk3 (fun i hi => by have e : b2 = i := Option.some.inj hi; omega), ?_⟩
  have hl3 : ∀ g, v3.ownBlock = some g → w1.heap.size ≤ g := fun g hg' => by
   have := hg.size
   rcases ho3 g hg' with e | e
   ·have e : b2 = g := Option.some.inj e; omega
   ·omega
  try have hS5 := hS5.kp hk3 (fun g hg' e => by have e : b2 = g := Option.some.inj e; have e' : b5 = g := Option.some.inj hg'; omega)
  have hg := hg.trans_new hk3 (fun i hi => by have e : b2 = i := Option.some.inj hi; omega)
  rw [List.nil_append, Nat.zero_add] at hS3
  refine hOneL (i := 16) (by kernel_rfl) ?_; refine nValPL (i := 16) rfl rfl rfl (pap U30 ti41 rfl (by decide) rfl rfl hS3 (hsr.ext hg) (esC_one1 _) (by omega) (by omega)) ?_
  rintro v7 w7 ⟨hS7, hk7, ho7, -⟩
  refine ⟨hg.trans_new hk7 (fun i hi => hl3 i hi), ?_⟩
  have hl7 : ∀ g, v7.ownBlock = some g → w1.heap.size ≤ g := fun g hg' => by
   have := hg.size
   rcases ho7 g hg' with e | e
   ·exact hl3 g e
   ·omega
  have hg := hg.trans_new hk7 (fun i hi => hl3 i hi)
  refine qL [18, 19] 17 rfl (fun _ hS => (by first | exact ync rfl | exact yncf rfl)) hg ?_; refine qL [19] 18 rfl (fun _ hS => yfa fl32_0 rfl) hg ?_; refine hLate [19] (by kernel_rfl) (by kernel_rfl) ?_; refine qO 19 ?_; refine nEffP (i := 19) rfl rfl (zst ti30 rfl rfl (oneV_sl hS7) (hg.blk hB) (by simp)) ?_
  rintro w8 ⟨hB8, hk8⟩
  refine ⟨trivial, ?_⟩
  refine qE ?_; refine Run.qb (e := [(4, _)]) ?_; refine qN rfl ?_; refine qV (yas rfl) ?_; refine rEnd ?_
  have hk18 : Kp (fun k => k = q) w1 w8 := hg.kp.trans hk8
  have hM8 : MpM w8 q v7 (delE es k) := ⟨hB8, by
   have := hS7.kp hk8 (fun g hg' e => by have := hl7 g hg'; omega)
   rw [show delE es k = es.take (posE es k) ++ es.drop (posE es k + 1) by unfold delE; rw [if_pos hhas]]
   rw [esC_app, List.length_append, List.length_take, List.length_drop, Nat.min_eq_left hpl]
   exact this, fun e => by have := hl7 q e; omega, by omega⟩
  refine run_ret Tryz.func12 rfl ?_
  exact ⟨_, rfl, by rw [h0]; rfl, by rw [if_pos h0]; exact ⟨_, hM8, hk18, hl7⟩⟩
end
end Go.Proofs.YtocnhaoilnojmaaGreat
namespace Go.Proofs.YtocnhaoilnojmaaGreat
open Go Go.RowKit
set_option linter.all false
set_option maxRecDepth 100000
/-- How often each page was come to. -/
def metC (l : Pgs) (V : List Int) : List Value := l.map fun y => I (if y.1 ∈ V then 1 else 0)
theorem metC_same {l : Pgs} {V V' : List Int} (h : ∀ x, x ∈ V ↔ x ∈ V') : metC l V = metC l V' := by
 unfold metC
 apply List.map_congr_left
 intro y _
 by_cases hy : y.1 ∈ V
 ·rw [if_pos hy, if_pos ((h _).1 hy)]
 ·rw [if_neg hy, if_neg (fun e => hy ((h _).2 e))]
theorem metC_get {l : Pgs} {V : List Int} {i : Nat} {y : Int × Bytes} (hy : l[i]? = some y) : (metC l V)[i]? = some (I (if y.1 ∈ V then 1 else 0)) := by
 unfold metC; rw [List.getElem?_map, hy]; rfl
theorem metC_set {l : Pgs} {V : List Int} {i : Nat} {y : Int × Bytes} (hn : (l.map (·.1)).Nodup) (hy : l[i]? = some y) (hV : y.1 ∉ V) : (metC l V).set i (I 1) = metC l (y.1 :: V) := by
 apply List.ext_getElem?
 intro j
 rw [List.getElem?_set]
 by_cases e : i = j
 ·subst e
  have hl : i < (metC l V).length := by unfold metC; rw [List.length_map]; exact (List.getElem?_eq_some_iff.1 hy).1
  rw [if_pos rfl, if_pos hl, metC_get hy, if_pos (List.mem_cons_self ..)]
 ·rw [if_neg e]
  unfold metC
  rw [List.getElem?_map, List.getElem?_map]
  cases hj : l[j]? with
  | none => rfl
  | some x =>
    have hne : x.1 ≠ y.1 := fun he => by
     have e1 : (l.map (·.1))[i]? = some y.1 := by rw [List.getElem?_map, hy]; rfl
     have e2 : (l.map (·.1))[j]? = some y.1 := by rw [List.getElem?_map, hj, ← he]; rfl
     obtain ⟨j1, j2⟩ := List.getElem?_eq_some_iff.1 e1
     obtain ⟨k1, k2⟩ := List.getElem?_eq_some_iff.1 e2
     exact e (nodup_get hn j1 k1 (by rw [j2, k2]))
    simp [hne]
/-- What is gone through, in memory. -/
structure WkC (w : World) (q mb z : Nat) (lv : Value) (l : Pgs) : Prop where
 blk : Blk w q [I (z : Int), lv, .slice (some ⟨mb, 0, none⟩) l.length l.length] 97
 rd : Rd w lv 2 l.length (pgC l)
 n1 : q ≠ mb
 n2 : 0 < l.length → lv.ownBlock ≠ some mb
theorem WkC.kp {w w' : World} {q mb z : Nat} {lv : Value} {l : Pgs} (h : WkC w q mb z lv l) (k : Kp (fun k => k = mb) w w') : WkC w' q mb z lv l :=
 ⟨k.blk h.blk h.n1, Rd.kpz h.rd k (fun h0 g hg e => h.n2 h0 (by rw [hg, e])), h.n1, h.n2⟩
theorem WkC.ext {w w' : World} {q mb z : Nat} {lv : Value} {l : Pgs} (h : WkC w q mb z lv l) (k : Ext w w') : WkC w' q mb z lv l := h.kp k.kp
def WkAt (q mb z : Nat) (lv : Value) (l : Pgs) (k : Nat) : Prop := ∀ (w : World) (no : Int) (lo : Bytes) (hi : Option Bytes) (tb : Bytes) (V : List Int) (rt : Bool),
 WkC w q mb z lv l → Blk w mb (metC l V) 3 → V.Nodup → (∀ x ∈ V, x ∈ l.map (·.1)) → l.length ≤ V.length + k → spanOk hi tb →
 Ret Tryz.prog 54 [ptr q 0, I no, .agg (spanC lo hi tb).toArray, .bool rt] w fun v w' => Kp (fun k => k = mb) w w' ∧
  ((∃ (h : Nat) (ns : List Int) (es : Es) (ov : Value), v = .tuple #[ov, I (h : Int), .bool true] ∧ Sub1 z (nodesOf z l) V rt no lo hi h ns es ∧ Sl w' ov 41 2 es.length (esC es) ∧ (∀ g, ov.ownBlock = some g → w.heap.size ≤ g) ∧ Blk w' mb (metC l (ns ++ V)) 3 ∧ es.length ≤ ns.length * 100000) ∨ (v = .tuple #[.slice none 0 0, I 0, .bool false] ∧ NoSub z (nodesOf z l) V rt no lo hi))
theorem dec_uni {w w' : World} {v : Value} {s : Bytes} (h : (∃ n kv vv cv, dec s = some n ∧ v = .tuple #[ndv n kv vv cv, I 0] ∧ NdP w' n kv vv cv ∧ ∀ g, kv.ownBlock = some g ∨ vv.ownBlock = some g ∨ cv.ownBlock = some g → w.heap.size ≤ g) ∨ (dec s = none ∧ v = .tuple #[.agg #[.bool false, .slice none 0 0, .slice none 0 0, .slice none 0 0], I 4])) :
  ∃ n kv vv cv x, v = .tuple #[ndv n kv vv cv, I x] ∧ NdP w' n kv vv cv ∧ (∀ g, ownP kv vv cv g → w.heap.size ≤ g) ∧ ((dec s = some n ∧ x = 0) ∨ (dec s = none ∧ x = 4)) := by
 rcases h with ⟨n, kv, vv, cv, h1, h2, h3, h4⟩ | ⟨h1, h2⟩
 ·exact ⟨n, kv, vv, cv, 0, h2, h3, h4, .inl ⟨h1, rfl⟩⟩
 ·exact ⟨⟨false, [], [], []⟩, _, _, _, 4, h2, ⟨Sl.nil _ _ _, Sl.nil _ _ _, Sl.nil _ _ _, ⟨by decide, by decide, by decide, by simp, by simp, by simp⟩, fun g hg => by simp [Value.ownBlock] at hg, fun g hg => by simp [Value.ownBlock] at hg⟩, fun g hg => by simp [ownP, Value.ownBlock] at hg, .inr ⟨h1, rfl⟩⟩
set_option maxHeartbeats 8000000 in
theorem wkAt_step {q mb z k : Nat} {lv : Value} {l : Pgs} (hz : sizeOk (z : Int)) (hnn : (l.map (·.1)).Nodup) (hl : l.length ≤ 1000000) (ht : ∀ y ∈ l, y.2.length ≤ 140737488355328) (ihk : ∀ k', k' < k → WkAt q mb z lv l k') : WkAt q mb z lv l k := by
 intro w no lo hi tb V rt hc hm hVn hVp hk hto
 obtain ⟨z1, z2, -⟩ := id hz
 have hoz : orderE z ≤ 1100 := by unfold orderE; omega
 obtain ⟨la, lc, rfl, -⟩ := hc.rd.shape
 have hml : maxLen = 9223372036854775807 := rfl
 refine ret_of_run (e := [(0, _), (1, _), (2, _), (3, _)]) Tryz.func54 rfl Tryz.ntmps54 rfl rfl ?_; refine qN rfl ?_; refine rValP rfl rfl (pbx rfl (cs := spanC lo hi tb) rfl) ?_
 rintro _ w1 ⟨b6, rfl, hb6, hx1, hB6⟩
 replace hB6 : Blk w1 b6 [S lo, S tb, .bool hi.isSome] 100 := hB6
 have hc1 := hc.ext hx1
 have hm1 := hx1.blk hm
 have hBc1 := hc1.blk
 have hl6 := hB6.lt
 have hlm := hm.lt
 have hlq := hc.blk.lt
 have hz1 := hx1.size
 have hbad : ∀ {w' : World}, Kp (fun k => k = mb) w w' → NoSub z (nodesOf z l) V rt no lo hi → Kp (fun k => k = mb) w w' ∧ ((∃ (h : Nat) (ns : List Int) (es : Es) (ov : Value), (Value.tuple #[.slice none 0 0, I 0, .bool false]) = .tuple #[ov, I (h : Int), .bool true] ∧ Sub1 z (nodesOf z l) V rt no lo hi h ns es ∧ Sl w' ov 41 2 es.length (esC es) ∧ (∀ g, ov.ownBlock = some g → w.heap.size ≤ g) ∧ Blk w' mb (metC l (ns ++ V)) 3 ∧ es.length ≤ ns.length * 100000) ∨ ((Value.tuple #[.slice none 0 0, I 0, .bool false]) = .tuple #[.slice none 0 0, I 0, .bool false] ∧ NoSub z (nodesOf z l) V rt no lo hi)) := fun hk hn => ⟨hk, .inr ⟨rfl, hn⟩⟩
 refine qV (yas rfl) ?_; refine qV (yas rfl) ?_; refine qV (yas rfl) ?_; refine qM rfl ?_; refine qV (ymv rfl) ?_; refine qV ((by first | exact ync rfl | exact yncf rfl)) ?_; refine qV (yfa fl97_1 rfl) ?_; refine qV (yld U33 rfl rfl hBc1 rfl) ?_; refine qV (ymv rfl) ?_; refine rCall rfl rfl (yc (args := [.tmp 28, .tmp 29]) cf53 rfl) (find_ret hc1.rd hl no) ?_
 rintro v1 w1 ⟨rfl, hv⟩
 rcases hv with ⟨i, y, rfl, hy, hyn, -⟩ | ⟨rfl, hno⟩
 ·subst hyn
  have hi' : i < l.length := (List.getElem?_eq_some_iff.1 hy).1
  have hym := List.mem_of_getElem? hy
  obtain ⟨lb, lof, y', rfl, hy'⟩ := rd_pgs hc.rd rfl hi'
  have hmg := metC_get (V := V) hy
  have hml1 : (metC l V).length = l.length := by unfold metC; rw [List.length_map]
  obtain ⟨cnt, hcnt⟩ : ∃ cnt : Nat, (if y.1 ∈ V then (1 : Int) else 0) = (cnt : Int) ∧ ((cnt = 0 ∧ y.1 ∉ V) ∨ (cnt = 1 ∧ y.1 ∈ V)) := by
   by_cases hmV : y.1 ∈ V
   ·exact ⟨1, by rw [if_pos hmV]; rfl, .inr ⟨rfl, hmV⟩⟩
   ·exact ⟨0, by rw [if_neg hmV]; rfl, .inl ⟨rfl, hmV⟩⟩
  rw [hcnt.1] at hmg
  have hnodes : nodesOf z l y.1 = ndOf z y.2 := nodesOf_mem hnn hym
  refine qV (yas rfl) ?_; refine rEnd ?_; refine run_seq ?_; refine qN rfl ?_; refine qV (ymv rfl) ?_; refine qV (ylt rfl rfl) ?_; refine rEnd ?_; refine run_if rfl (fun h0 => ?_) (fun h0 => ?_)
  ·omega
  ·skip
   refine run_skip ?_; refine qN rfl ?_; refine qV (ymv rfl) ?_; refine qV ((by first | exact ync rfl | exact yncf rfl)) ?_; refine qV (yfa fl97_2 rfl) ?_; refine qV (yld U34 rfl rfl hBc1 rfl) ?_; refine qV (ymv rfl) ?_; refine qV (yis U34 ti3 rfl rfl (by omega)) ?_; refine qV (yldc U3 rfl rfl (by rw [hm1.cell]; rw [Nat.zero_add, Nat.mul_one]; exact hmg)) ?_
   refine qV (yad rfl rfl (by omega)) ?_; refine qV (yis U34 ti3 rfl rfl (by omega)) ?_; refine rEffP rfl (zst ti3 rfl rfl rfl hm1 (by omega)) ?_
   rintro w2 ⟨hm2, hk2⟩
   have hc2 := hc1.kp hk2
   have hz2 := hk2.size
   have hBc2 := hc2.blk
   rw [Nat.zero_add, Nat.mul_one] at hm2
   have hB62 := hk2.blk hB6 (by omega)
   refine rEnd ?_; refine Run.qb (e := [(0, _), (3, _), (6, _), (8, _), (9, _), (10, _), (11, _)]) ?_; refine qN rfl ?_; refine qV (ymv rfl) ?_; refine qV ((by first | exact ync rfl | exact yncf rfl)) ?_; refine qV (yfa fl97_1 rfl) ?_; refine qV (yld U33 rfl rfl hBc2 rfl) ?_; refine qV (ymv rfl) ?_; refine qV (yis U33 ti54 rfl rfl (by omega)) ?_; refine qV (yfa fl54_1 rfl) ?_; refine qV (yldc U9 rfl rfl (rd_pg1 hc2.rd hi' hy)) ?_; refine rCall rfl rfl (yc (args := [.tmp 50]) cf86 rfl) (rdecode_ret y.2 (ht y hym) w2) ?_
   rintro v3 w3 ⟨hx3, hv3⟩
   obtain ⟨n, kv, vv, cv, x, rfl, hP, hPlo, hdx⟩ := dec_uni hv3
   obtain ⟨ka, kac, hkq, -⟩ := hP.keys.rd.shape
   obtain ⟨va, vac, hvq, -⟩ := hP.vals.rd.shape
   obtain ⟨ca, cac, hcq, -⟩ := hP.kids.rd.shape
   subst hkq
   subst hvq
   subst hcq
   unfold ndv
   refine qV (ymv rfl) ?_; refine qV (yex rfl rfl) ?_; refine qV (yex rfl rfl) ?_; refine rValP rfl rfl (pal (cs := [_, _, _, _]) ti130 rfl) ?_
   rintro _ w4 ⟨b12, rfl, hb12, hx4, hB4⟩
   refine rEffP rfl (zstA ti130 rfl rfl rfl rfl hB4 (by simp)) ?_
   rintro w5 ⟨hB5, hk5⟩
   have hB12 : Blk w5 b12 [.bool n.leaf, .slice ka n.keys.length kac, .slice va n.vals.length vac, .slice ca n.kids.length cac] 130 := hB5
   have hz3 := hx3.size
   have hz4 := hx4.size
   have hl12 := hB4.lt
   have hx35 : Ext w3 w5 := hx4.trans_new hk5 (fun j hj => by omega)
   have hx25 := hx3.trans hx35
   have hz5 := hx25.size
   have hP5 := hP.kp hx35.kp (fun _ _ => id)
   have hbo : ∀ g, ownP (.slice ka n.keys.length kac) (.slice va n.vals.length vac) (.slice ca n.kids.length cac) g → g < w3.heap.size := fun g hg => hP.lt hg
   have hc5 := hc2.ext hx25
   have hm5 := hx25.blk hm2
   have hB65 := hx25.blk hB62
   have hk05 : Kp (fun k => k = mb) w w5 := (hx1.kp.trans hk2).trans hx25.kp
   have hBc5 := hc5.blk
   refine qV (yas rfl) ?_; refine rEnd ?_; refine run_seq ?_; refine run_seq ?_; refine run_cut (fun e' w' => ∃ f : Bool, e' = [(0, ptr q 0), (3, .bool rt), (6, ptr b6 0), (12, ptr b12 0), (81, .bool f)] ∧ Ext w5 w' ∧ (f = true → NoSub z (nodesOf z l) V rt y.1 lo hi) ∧ (f = false → nodesOf z l y.1 = some n ∧ y.1 ∉ V)) ?hkf (fun hkf => ?hmainf)
   case hkf =>
    rintro e' w6 ⟨f, rfl, hx6, hf1, hf2⟩
    refine run_cond rfl (fun hff => ?_) (fun hff => ?_)
    ·skip
     refine qN rfl ?_; refine qV (yas rfl) ?_; refine qV (yas rfl) ?_; refine qV (yas rfl) ?_; refine rEnd ?_; refine run_ret Tryz.func54 rfl ?_
     exact ⟨_, rfl, hbad (hk05.trans hx6.kp) (hf1 hff)⟩
    ·skip
     obtain ⟨hn, hnV⟩ := hf2 hff
     have hokn : NdOk z n := (nodesOf_ok hn).1.ok
     have hbd := hP5.bd
     have hbc := hbd.cl
     have hkll := hbd.kl
     obtain rfl : cnt = 0 := hcnt.2.elim (fun e => e.1) (fun e => absurd e.2 hnV)
     have hc6 := hc5.ext hx6
     have hm6 : Blk w6 mb (metC l (y.1 :: V)) 3 := by
      rw [← metC_set hnn hy hnV]
      exact hx6.blk hm5
     have hB66 := hx6.blk hB65
     have hB126 := hx6.blk hB12
     have hP6 := hP5.kp hx6.kp (fun _ _ => id)
     have hk06 := hk05.trans hx6.kp
     have hz6 := hx6.size
     have hBc6 := hc6.blk
     refine run_skip ?_; refine qN rfl ?_; refine qV (ymv rfl) ?_; refine qV ((by first | exact ync rfl | exact yncf rfl)) ?_; refine qV (yfa fl97_0 rfl) ?_; refine qV (yld U3 rfl rfl hBc6 rfl) ?_; refine rCall rfl rfl (yc (args := [.tmp 86]) cf87 rfl) (rorder_ok hz _) ?_
     rintro _ w6 ⟨rfl, rfl⟩
     refine qV (ymv rfl) ?_; refine qV (yex rfl rfl) ?_; refine qV (yex rfl rfl) ?_; refine qV (yas rfl) ?_; refine qV (yas rfl) ?_; refine rEnd ?_; refine run_seq ?_; refine run_seq ?_; refine run_cut (fun e' w' => ∃ g : Bool, e' = [(0, ptr q 0), (6, ptr b6 0), (12, ptr b12 0), (134, .bool g)] ∧ Ext w6 w' ∧ (g = true → NoSub z (nodesOf z l) V rt y.1 lo hi) ∧ (g = false → if rt = true then n.keys ≠ [] else ¬ n.low z)) ?hkg (fun hkg => ?hmaing)
     case hkg =>
      rintro e' w7 ⟨g, rfl, hx7, hg1, hg2⟩
      have hk07 := hk06.trans hx7.kp
      refine run_cond rfl (fun hgg => ?_) (fun hgg => ?_)
      ·skip
       refine qN rfl ?_; refine qV (yas rfl) ?_; refine qV (yas rfl) ?_; refine qV (yas rfl) ?_; refine rEnd ?_; refine run_ret Tryz.func54 rfl ?_
       exact ⟨_, rfl, hbad hk07 (hg1 hgg)⟩
      ·skip
       have hcnd := hg2 hgg
       have hc7 := hc6.ext hx7
       have hm7 := hx7.blk hm6
       have hB67 := hx7.blk hB66
       have hB127 := hx7.blk hB126
       have hP7 := hP6.kp hx7.kp (fun _ _ => id)
       have hz7 := hx7.size
       refine run_skip ?_; refine run_seq ?_; refine qN rfl ?_; refine qV (yas rfl) ?_; refine rEnd ?_; refine run_block ?_; refine run_cut2 (fun e' w' => e' = [(0, ptr q 0), (6, ptr b6 0), (12, ptr b12 0)] ∧ Ext w7 w' ∧ ∀ k ∈ n.keys, inB lo hi k) ?hkl (fun hkl => ?hmainl)
       case hkl =>
        rintro e' w8 ⟨rfl, hx8, hin⟩
        have hk08 := hk07.trans hx8.kp
        have hc8 := hc7.ext hx8
        have hm8 := hx8.blk hm7
        have hB68 := hx8.blk hB67
        have hB128 := hx8.blk hB127
        have hP8 := hP7.kp hx8.kp (fun _ _ => id)
        have hz8 := hx8.size
        have hc8' := hc8
        have hlw : w.heap.size ≤ w8.heap.size := by omega
        have hnb : ∀ g, ownP (.slice ka n.keys.length kac) (.slice va n.vals.length vac) (.slice ca n.kids.length cac) g → g ≠ mb := fun g hg => by
         have := hPlo g hg
         omega
        have hsubn : ∀ x, nodesOf z l x ≠ none → x ∈ l.map (·.1) := fun x hx => by
         obtain ⟨m, hm⟩ := Option.ne_none_iff_exists'.1 hx
         exact (nodesOf_ok hm).2
        have hno : y.1 ∈ l.map (·.1) := List.mem_map.2 ⟨y, hym, rfl⟩
        have hll : (l.map (·.1)).length = l.length := by simp
        have hVlt : V.length < l.length := by
         have : (y.1 :: V).length ≤ (l.map (·.1)).length := List.Nodup.length_le_of_subset (List.nodup_cons.2 ⟨hnV, hVn⟩) (fun x hx => by
          rcases List.mem_cons.1 hx with rfl | hx
          ·exact hno
          ·exact hVp x hx)
         rw [List.length_cons] at this
         omega
        refine qN rfl ?_; refine qV (yas rfl) ?_; refine rEnd ?_; refine run_seq ?_; refine qN rfl ?_; refine qV (yfa fl130_0 rfl) ?_; refine qV (yld U4 rfl rfl hB128 rfl) ?_
        rcases nd_cases hokn with ⟨E, rfl⟩ | ⟨c, ps, rfl⟩
        ·have hkE : (leafNd E).keys.length = E.length := by simp [leafNd]
         have hvE : (leafNd E).vals.length = E.length := by simp [leafNd]
         have hE1 : E.length ≤ 100000 := by omega
         refine rEnd ?_; refine run_true rfl ?_; refine run_seq ?_; refine qN rfl ?_; refine qV (yas rfl) ?_; refine rEnd ?_; refine run_block ?_; refine run_loop (α := Nat × Value) ((0, .slice none 0 0)) (fun x => [(12, ptr b12 0), (17, x.2), (18, I (x.1 : Int))]) (fun x w' => x.1 ≤ E.length ∧ Ext w8 w' ∧ Sl w' x.2 41 2 (E.take x.1).length (esC (E.take x.1)) ∧ ∀ g, x.2.ownBlock = some g → w8.heap.size ≤ g) (fun x => E.length - x.1) (by repeat (first | exact Sub.nil | refine Sub.cons rfl ?_)) ?hI ?hround
         case hI => exact ⟨Nat.zero_le _, Ext.refl _, Sl.nil _ _ _, fun g hg => by simp [Value.ownBlock] at hg⟩
         case hround =>
          rintro ⟨j, ov⟩ w9 ⟨hj, hx9, hS9, ho9⟩ ih
          dsimp only at hj hS9 ho9
          have htl : (E.take j).length = j := by rw [List.length_take]; omega
          have hB129 := hx9.blk hB128
          have hK8 := hP8.keys.rd
          have hV8 := hP8.vals.rd
          try dsimp only
          refine run_seq ?_; refine qN rfl ?_; refine qV (ymv rfl) ?_; refine qV (yfa fl130_1 rfl) ?_; refine qV (yld U23 rfl rfl hB129 rfl) ?_; refine qV (yln U23 rfl) ?_; refine qV (ylt rfl rfl) ?_; refine rEnd ?_; refine run_if rfl (fun hlt => ?_) (fun hlt => ?_)
          ·skip
           have hj' : j < E.length := by omega
           obtain ⟨x, hx⟩ : ∃ x, E[j]? = some x := ⟨_, List.getElem?_eq_getElem hj'⟩
           obtain ⟨kb, ko, s, rfl, hs⟩ := rd_getsK hK8 (by simp) (show j < _ by omega)
           obtain ⟨kb2, ko2, s2, rfl, hs2⟩ := rd_getsK hV8 (by simp) (show j < _ by omega)
           have es : s = x.1 := by simp [leafNd, hx] at hs; exact hs.symm
           have es2 : s2 = x.2 := by simp [leafNd, hx] at hs2; exact hs2.symm
           have hg : Ext w8 w9.drew := hx9.trans (Ext.drew0 w9)
           refine run_skip ?_; refine run_seq ?_; refine run_block ?_; refine run_draw (fun w' => Ext w8 w') (by kernel_rfl) rfl ?_; refine qT 0 rfl (fun _ hS => ymv rfl) (hg) ?_; refine qT 1 rfl (fun _ hS => yfa fl130_1 rfl) (hg) ?_; refine qT 2 rfl (fun _ hS => yld U23 rfl rfl (hS.blk hB128) rfl) (hg) ?_; refine qT 3 rfl (fun _ hS => ymv rfl) (hg) ?_; refine qT 4 rfl (fun _ hS => yis U23 ti9 rfl rfl (by omega)) (hg) ?_; refine qT 6 rfl (fun _ hS => yfa fl130_2 rfl) (hg) ?_; refine qT 7 rfl (fun _ hS => yld U23 rfl rfl (hS.blk hB128) rfl) (hg) ?_
           refine qT 8 rfl (fun _ hS => ymv rfl) (hg) ?_; refine qT 9 rfl (fun _ hS => yis U23 ti9 rfl rfl (by omega)) (hg) ?_; refine qT 5 rfl (fun _ hS => yldc U9 rfl rfl (rd_str (hK8.ext hS) (by omega) hs)) (hg) ?_; refine qT 10 rfl (fun _ hS => yldc U9 rfl rfl (rd_str (hV8.ext hS) (by omega) hs2)) (hg) ?_
           rw [es, es2]
           refine qT 11 rfl (fun _ hS => ybd (parts := [(0, .tmp 164), (1, .tmp 169)]) (cs := [_, _]) ti41 rfl sp41 rfl rfl) (hg) ?_; refine qO 12 ?_; refine nValP (i := 12) rfl rfl rfl (pbs (parts := [(0, .tmp 170)]) (cs := [_, _]) (zs := [Value.string ⟨#[]⟩, Value.string ⟨#[]⟩]) U30 ti41 rfl (by kernel_rfl) rfl rfl rfl (by decide)) ?_
           rintro _ w10 ⟨b10, rfl, ⟨hb10, hx10, hB10⟩, hS10⟩
           refine ⟨hg.trans hx10, ?_⟩
           have hz9 := hx9.size
           have hgz := (hg.trans hx10).size
           refine qO 13 ?_; refine nValP (i := 13) rfl rfl rfl (pap U30 ti41 rfl (by decide) rfl rfl (hS9.ext ((Ext.drew0 w9).trans hx10)) hS10.rd (by intro c hc; simp at hc; rcases hc with rfl | rfl <;> rfl) (by omega) (by omega)) ?_
           rintro ov2 w11 ⟨hS11, hk11, ho11, -⟩
           refine ⟨(hg.trans hx10).trans_new hk11 (fun i hi => ho9 i hi), ?_⟩
           refine qT 14 rfl (fun _ hS => yas rfl) ((hg.trans hx10).trans_new hk11 (fun i hi => ho9 i hi)) ?_; refine qE ?_; refine run_inBlock ?_; refine run_reg rfl ?_; refine qV (ymv rfl) ?_; refine qV (yad rfl rfl (by omega)) ?_; refine qV (yas rfl) ?_; refine rEnd ?_; refine (ih (j + 1, ov2) w11 ⟨by dsimp only; omega, (hg.trans hx10).trans_new hk11 (fun i hi => ho9 i hi), ?_, fun g hg' => ?_⟩ (by dsimp only; omega)).qb
           ·obtain ⟨h1, h2⟩ := List.getElem?_eq_some_iff.1 hx
            dsimp only
            rw [List.take_succ_eq_append_getElem h1, h2, esC_app, esC_one, List.length_append]
            exact hS11
           ·rcases ho11 g hg' with e | e
            ·exact ho9 g e
            ·omega
          ·skip
           have hjE : j = E.length := by omega
           subst hjE
           rw [List.take_length] at hS9
           refine run_exit rfl ?_; refine qN rfl ?_; refine qV (ymv rfl) ?_; refine qV (yas rfl) ?_; refine qV (yas rfl) ?_; refine qV (yas rfl) ?_; refine rEnd ?_; refine run_ret Tryz.func54 rfl ?_
           exact ⟨_, rfl, hk08.trans hx9.kp, .inl ⟨1, [y.1], E, ov, rfl, sub1_leaf hz hn hokn hin hnV hcnd, hS9, fun g hg => by have := ho9 g hg; omega, hx9.blk hm8, by simp; omega⟩⟩
        ·skip
         have kcl : (innNd c ps).kids.length = ps.length + 1 := by simp [innNd]
         have kkl : (innNd c ps).keys.length = ps.length := by simp [innNd]
         have hbcl := hbd.cl
         rw [kcl] at hbcl
         have hb12n : b12 ≠ mb := by omega
         have hb6n : b6 ≠ mb := by omega
         refine rEnd ?_; refine run_false rfl ?_; refine run_skip ?_; refine qN rfl ?_; refine qV (yas rfl) ?_; refine rEnd ?_; refine run_seq ?_; refine qN rfl ?_; refine qV (yas rfl) ?_; refine rEnd ?_; refine run_block ?_
         refine run_loop (α := List (List Int × Es) × Nat × Value) (([], 0, .slice none 0 0)) (fun x => [(0, ptr q 0), (6, ptr b6 0), (12, ptr b12 0), (17, x.2.2), (19, I (x.2.1 : Int)), (20, I (x.1.length : Int))]) (fun x w' => KidsU z (nodesOf z l) V y.1 lo hi c ps x.2.1 x.1 ∧ Kp (fun k => k = mb) w8 w' ∧ Sl w' x.2.2 41 2 (x.1.flatMap (·.2)).length (esC (x.1.flatMap (·.2))) ∧ (∀ g, x.2.2.ownBlock = some g → w8.heap.size ≤ g) ∧ Blk w' mb (metC l (x.1.flatMap (·.1) ++ y.1 :: V)) 3 ∧ (x.1.flatMap (·.2)).length ≤ (x.1.flatMap (·.1)).length * 100000 ∧ x.2.1 ≤ 1000000) (fun x => ps.length + 1 - x.1.length) (by repeat (first | exact Sub.nil | refine Sub.cons rfl ?_)) ?hI ?hround
         case hI => exact ⟨KidsU.nil 0, Kp.refl _ _, Sl.nil _ _ _, fun g hg => by simp [Value.ownBlock] at hg, hm8, Nat.le_refl _, Nat.zero_le _⟩
         case hround =>
          rintro ⟨L, hh, ov⟩ w9 ⟨K, hk9, hS9, ho9, hm9, hcb9, hhb⟩ ih
          dsimp only at K hS9 ho9 hm9 hcb9 hhb
          have hc9 := hc8.kp hk9
          have hB129 := hk9.blk hB128 hb12n
          have hB69 := hk9.blk hB68 hb6n
          have hK9 := Sl.rd (hP8.keys.kp hk9 (fun g hg => hnb g (.inl hg)))
          have hC9 := Sl.rd (hP8.kids.kp hk9 (fun g hg => hnb g (.inr (.inr hg))))
          have hk09 := hk08.trans hk9
          have hz9 := hk9.size
          have hKl := K.len
          have hnVi : (L.flatMap (·.1) ++ y.1 :: V).Nodup := List.nodup_append.2 ⟨K.nd, List.nodup_cons.2 ⟨hnV, hVn⟩, fun x hx v hv e => K.out x hx (e ▸ hv)⟩
          have hLpg : ∀ x ∈ L.flatMap (·.1), x ∈ l.map (·.1) := fun x hx => by
           obtain ⟨u, hu, hxl⟩ := List.mem_flatMap.1 hx
           obtain ⟨j, hj', e⟩ := List.getElem_of_mem hu
           have hb := K.bn j _ u (List.getElem?_eq_getElem (by rw [bnds_length]; omega)) (by rw [List.getElem?_eq_getElem hj', e])
           exact hsubn x (hb.1.some x hxl)
          have hVpi : ∀ x ∈ L.flatMap (·.1) ++ y.1 :: V, x ∈ l.map (·.1) := fun x hx => by
           rcases List.mem_append.1 hx with hx | hx
           ·exact hLpg x hx
           ·rcases List.mem_cons.1 hx with rfl | hx
            ·exact hno
            ·exact hVp x hx
          have hLl := List.Nodup.length_le_of_subset K.nd hLpg
          have hVl2 : V.length + 1 ≤ (L.flatMap (·.1) ++ y.1 :: V).length := by rw [List.length_append, List.length_cons]; omega
          try dsimp only
          refine run_seq ?_; refine qN rfl ?_; refine qV (ymv rfl) ?_; refine qV (yfa fl130_3 rfl) ?_; refine qV (yld U82 rfl rfl hB129 rfl) ?_; refine qV (yln U82 rfl) ?_; refine qV (ylt rfl rfl) ?_; refine rEnd ?_; refine run_if rfl (fun hlt' => ?_) (fun hlt' => ?_)
          ·skip
           have hil : L.length < ps.length + 1 := by omega
           obtain ⟨a, lo', hi', hb, ha, hlo', hhi'⟩ := bnds_get hi ps lo c L.length (by omega)
           have hal := hbd.cs a (List.mem_of_getElem? (show (innNd c ps).kids[_]? = some a from ha))
           refine run_skip ?_; refine run_seq ?_; refine run_block ?_; refine qN rfl ?_; refine qV (yldA U100 rfl ti100 rfl (Blk.cells (n := 3) hB69 (news := [_, _, _]) rfl) rfl) ?_; refine rValP rfl rfl (pal (cs := [_, _, _]) ti100 rfl) ?_
           rintro _ w10 ⟨b21, rfl, hb21, hx10, hB10⟩
           refine rEffP rfl (zstA ti100 rfl rfl rfl rfl hB10 (by simp)) ?_
           rintro w11 ⟨hB11, hk11⟩
           have hB21 : Blk w11 b21 [S lo, S tb, .bool hi.isSome] 100 := hB11
           have hl10 := hB10.lt
           have hz10 := hx10.size
           have hx911 : Ext w9 w11 := hx10.trans_new hk11 (fun j hj => by omega)
           have hz11 := hx911.size
           have hl21 := hB21.lt
           refine rEnd ?_; refine run_seq ?_; refine qN rfl ?_; refine qV (ymv rfl) ?_; refine qV (ygt rfl rfl) ?_; refine rEnd ?_; refine run_cut (fun e' w' => e' = [(0, ptr q 0), (6, ptr b6 0), (12, ptr b12 0), (17, ov), (19, I (hh : Int)), (20, I (L.length : Int)), (21, ptr b21 0)] ∧ Blk w' b21 [S lo', S tb, .bool hi.isSome] 100 ∧ Ext w9 w') ?hku (fun hku => ?hmainu)
           case hku =>
            rintro e' w12 ⟨rfl, hB212, hx12⟩
            have hB1212 := hx12.blk hB129
            refine run_seq ?_; refine qN rfl ?_; refine qV (ymv rfl) ?_; refine qV (yfa fl130_1 rfl) ?_; refine qV (yld U23 rfl rfl hB1212 rfl) ?_; refine qV (yln U23 rfl) ?_; refine qV (ylt rfl rfl) ?_; refine rEnd ?_; refine run_cut (fun e' w' => e' = [(0, ptr q 0), (6, ptr b6 0), (12, ptr b12 0), (17, ov), (19, I (hh : Int)), (20, I (L.length : Int)), (21, ptr b21 0)] ∧ (∃ tb', Blk w' b21 [S lo', S tb', .bool hi'.isSome] 100 ∧ spanOk hi' tb') ∧ Ext w9 w') ?hkv (fun hkv => ?hmainv)
            case hkv =>
             rintro e' w13 ⟨rfl, ⟨tb', hB213, hso⟩, hx13⟩
             obtain ⟨cb, co, a', rfl, ha'⟩ := rd_getuN hC9 rfl (show L.length < _ by omega)
             have hB1213 := hx13.blk hB129
             have hC13 := hC9.ext hx13
             have hl213 := hB213.lt
             have hz13 := hx13.size
             have hg : Ext w13 w13.drew := Ext.drew0 w13
             have hb21n : b21 ≠ mb := by omega
             refine run_seq ?_; refine run_draw (fun w' => Kp (fun k => k = mb) w13 w') (by kernel_rfl) rfl ?_; refine qT 0 rfl (fun _ hS => ymv rfl) (hg.kp) ?_; refine qT 1 rfl (fun _ hS => yfa fl130_3 rfl) (hg.kp) ?_; refine qT 2 rfl (fun _ hS => (by first | exact yld U82 rfl rfl (hS.blk hB1213 hb12n) rfl | exact yld U82 rfl rfl (hS.blk hB213 hb21n) rfl)) (hg.kp) ?_; refine qT 3 rfl (fun _ hS => ymv rfl) (hg.kp) ?_; refine qT 4 rfl (fun _ hS => yis U82 ti89 rfl rfl (by omega)) (hg.kp) ?_
             refine qT 7 rfl (fun _ hS => (by first | exact yldA U100 rfl ti100 rfl (Blk.cells (n := 3) (hS.blk hB1213 hb12n) (news := [_, _, _]) rfl) rfl | exact yldA U100 rfl ti100 rfl (Blk.cells (n := 3) (hS.blk hB213 hb21n) (news := [_, _, _]) rfl) rfl)) (hg.kp) ?_; refine qT 5 rfl (fun _ hS => yldc U89 rfl rfl (rd_u32 (hC13.kp hS (fun g hg => hnb g (.inr (.inr hg)))) (by omega) ha)) (hg.kp) ?_; refine qT 6 rfl (fun _ hS => ycvSi64 rfl U89 U3 (by omega)) (hg.kp) ?_; refine qO 8 ?_
             refine nCall (i := 8) rfl rfl rfl (yc (args := [.tmp 204, .tmp 210, .tmp 211, .const (Value.bool false)]) cf54 rfl) (ihk (k - 1) (by omega) _ (a : Int) lo' hi' tb' (L.flatMap (·.1) ++ y.1 :: V) false ((hc9.ext hx13).ext hg) (hg.blk (hx13.blk hm9)) hnVi hVpi (by omega) hso) ?_
             rintro v14 w14 ⟨hk14, hv14⟩
             refine ⟨hg.kp.trans hk14, ?_⟩
             have hk914 : Kp (fun k => k = mb) w9 w14 := (hx13.trans hg).kp.trans hk14
             have hk014 := hk09.trans hk914
             rcases hv14 with ⟨d, n5, e5, ov5, rfl, s5, hS5, ho5, hm14, hcb5⟩ | ⟨rfl, hno6⟩
             ·have hdn := List.Nodup.length_le_of_subset s5.nd (fun x hx => hsubn x (s5.bn.some x hx))
              have hdl : d ≤ 1000000 := by
               have h1 := bn_height hz s5.bn
               omega
              have e1 : (L ++ [(n5, e5)]).flatMap (·.1) = L.flatMap (·.1) ++ n5 := by simp
              have e2 : (L ++ [(n5, e5)]).flatMap (·.2) = L.flatMap (·.2) ++ e5 := by simp
              have e3 : ((L.length : Int) + 1) = (((L ++ [(n5, e5)]).length : Nat) : Int) := by simp
              have hS14 : Sl w14 ov 41 2 (L.flatMap (·.2)).length (esC (L.flatMap (·.2))) := hS9.kp hk914 (fun g hg' e => by have := ho9 g hg'; omega)
              have hnext : KidsU z (nodesOf z l) V y.1 lo hi c ps d (L ++ [(n5, e5)]) → ∀ (w15 : World) (ov2 : Value), Sl w15 ov2 41 2 ((L.flatMap (·.2)).length + e5.length) (esC (L.flatMap (·.2)) ++ esC e5) → Kp (fun k => ov.ownBlock = some k) w14 w15 → (∀ g, ov2.ownBlock = some g → ov.ownBlock = some g ∨ w14.heap.size ≤ g) → KidsU z (nodesOf z l) V y.1 lo hi c ps d (L ++ [(n5, e5)]) ∧ Kp (fun k => k = mb) w8 w15 ∧ Sl w15 ov2 41 2 ((L ++ [(n5, e5)]).flatMap (·.2)).length (esC ((L ++ [(n5, e5)]).flatMap (·.2))) ∧ (∀ g, ov2.ownBlock = some g → w8.heap.size ≤ g) ∧ Blk w15 mb (metC l ((L ++ [(n5, e5)]).flatMap (·.1) ++ y.1 :: V)) 3 ∧ ((L ++ [(n5, e5)]).flatMap (·.2)).length ≤ ((L ++ [(n5, e5)]).flatMap (·.1)).length * 100000 ∧ d ≤ 1000000 := fun K' w15 ov2 hS15 hk15 ho15 => by
               rw [e1, e2]
               refine ⟨K', (hk9.trans hk914).trans_new hk15 (fun i hi => .inl (ho9 i hi)), ?_, fun g hg' => ?_, ?_, ?_, hdl⟩
               ·rw [esC_app, List.length_append]; exact hS15
               ·rcases ho15 g hg' with e | e
                ·exact ho9 g e
                ·have := hk914.size; omega
               ·refine hk15.blk ?_ (fun e => by have := ho9 mb e; omega)
                rw [metC_same (V' := n5 ++ (L.flatMap (·.1) ++ y.1 :: V)) (fun x => by simp only [List.mem_append]; exact ⟨fun h => by rcases h with (h | h) | h; exact .inr (.inl h); exact .inl h; exact .inr (.inr h), fun h => by rcases h with h | h | h; exact .inl (.inr h); exact .inl (.inl h); exact .inr h⟩)]
                exact hm14
               ·simp only [List.length_append]; omega
              have hfin : ∀ K' : KidsU z (nodesOf z l) V y.1 lo hi c ps d (L ++ [(n5, e5)]), ((L.flatMap (·.2)).length + e5.length) * 32 ≤ 140737488355328 := fun K' => by
               have h1 := List.Nodup.length_le_of_subset K'.nd (l₂ := l.map (·.1)) (fun x hx => by
                rw [e1] at hx
                rcases List.mem_append.1 hx with hx | hx
                ·exact hLpg x hx
                ·exact hsubn x (s5.bn.some x hx))
               rw [e1, List.length_append, hll] at h1
               omega
              refine qT 9 rfl (fun _ hS => ymv rfl) (hg.kp.trans hk14) ?_; refine qT 10 rfl (fun _ hS => yex rfl rfl) (hg.kp.trans hk14) ?_; refine qT 11 rfl (fun _ hS => yex rfl rfl) (hg.kp.trans hk14) ?_; refine qT 12 rfl (fun _ hS => yex rfl rfl) (hg.kp.trans hk14) ?_; refine qT 13 rfl (fun _ hS => yas rfl) (hg.kp.trans hk14) ?_; refine qT 14 rfl (fun _ hS => yas rfl) (hg.kp.trans hk14) ?_; refine qT 15 rfl (fun _ hS => yas rfl) (hg.kp.trans hk14) ?_; refine qE ?_; refine run_seq ?_; refine qN rfl ?_; refine qV (ymv rfl) ?_
              refine qV ((by first | exact yntd rfl | exact ynt rfl)) ?_; refine qV (ymv rfl) ?_; refine qV (ymv rfl) ?_; refine qV (ygt rfl rfl) ?_; refine qV (ymv rfl) ?_; refine rVal_if (fun hi0 => ?_) (fun hi0 => ?_)
              ·skip
               refine qV (ymv rfl) ?_; refine qV (ymv rfl) ?_; refine qV (yne rfl rfl) ?_; refine qV (ypT rfl rfl) ?_; refine qV (ypF rfl rfl) ?_; refine rEnd ?_; refine run_if rfl (fun hne => ?_) (fun hne => ?_)
               ·skip
                refine qN rfl ?_; refine qV (yas rfl) ?_; refine qV (yas rfl) ?_; refine qV (yas rfl) ?_; refine rEnd ?_; refine run_ret Tryz.func54 rfl ?_
                exact ⟨_, rfl, hbad hk014 (kidsU_dep hz hn K (by omega) hb s5 (by omega))⟩
               ·skip
                have hdh : d = hh := by omega
                subst hdh
                have K' := K.step hb s5
                have hb32 := hfin K'
                refine run_skip ?_; refine qN rfl ?_; refine qV (ymv rfl) ?_; refine qV (yas rfl) ?_; refine rEnd ?_; refine run_reg rfl ?_; refine qV (ymv rfl) ?_; refine qV (ymv rfl) ?_; refine rValP rfl rfl (pap U30 ti41 rfl (by decide) rfl rfl hS14 hS5.rd (esC_one1 _) hb32 (by omega)) ?_
                rintro ov2 w15 ⟨hS15, hk15, ho15, -⟩
                refine qV (yas rfl) ?_; refine rEnd ?_; refine run_inBlock ?_; refine run_reg rfl ?_; refine qV (ymv rfl) ?_; refine qV (yad rfl rfl (by omega)) ?_; refine qV (yas rfl) ?_; refine rEnd ?_
                rw [e3]
                exact (ih (L ++ [(n5, e5)], d, ov2) w15 (hnext K' w15 ov2 hS15 hk15 ho15) (by simp; omega)).qb
              ·skip
               have hL0 : L = [] := List.eq_nil_of_length_eq_zero (by omega)
               have K' : KidsU z (nodesOf z l) V y.1 lo hi c ps d (L ++ [(n5, e5)]) := by
                subst hL0
                exact (KidsU.nil d).step hb s5
               have hb32 := hfin K'
               refine qS ?_; refine qS ?_; refine qS ?_; refine qV (ypF rfl rfl) ?_; refine qV (ypF rfl rfl) ?_; refine rEnd ?_; refine run_false rfl ?_; refine run_skip ?_; refine qN rfl ?_; refine qV (ymv rfl) ?_; refine qV (yas rfl) ?_; refine rEnd ?_; refine run_reg rfl ?_; refine qV (ymv rfl) ?_; refine qV (ymv rfl) ?_; refine rValP rfl rfl (pap U30 ti41 rfl (by decide) rfl rfl hS14 hS5.rd (esC_one1 _) hb32 (by omega)) ?_
               rintro ov2 w15 ⟨hS15, hk15, ho15, -⟩
               refine qV (yas rfl) ?_; refine rEnd ?_; refine run_inBlock ?_; refine run_reg rfl ?_; refine qV (ymv rfl) ?_; refine qV (yad rfl rfl (by omega)) ?_; refine qV (yas rfl) ?_; refine rEnd ?_
               rw [e3]
               exact (ih (L ++ [(n5, e5)], d, ov2) w15 (hnext K' w15 ov2 hS15 hk15 ho15) (by simp; omega)).qb
             ·skip
              refine qT 9 rfl (fun _ hS => ymv rfl) (hg.kp.trans hk14) ?_; refine qT 10 rfl (fun _ hS => yex rfl rfl) (hg.kp.trans hk14) ?_; refine qT 11 rfl (fun _ hS => yex rfl rfl) (hg.kp.trans hk14) ?_; refine qT 12 rfl (fun _ hS => yex rfl rfl) (hg.kp.trans hk14) ?_; refine qT 13 rfl (fun _ hS => yas rfl) (hg.kp.trans hk14) ?_; refine qT 14 rfl (fun _ hS => yas rfl) (hg.kp.trans hk14) ?_; refine qT 15 rfl (fun _ hS => yas rfl) (hg.kp.trans hk14) ?_; refine qE ?_; refine run_seq ?_; refine qN rfl ?_; refine qV (ymv rfl) ?_
              refine qV ((by first | exact yntd rfl | exact ynt rfl)) ?_; refine qV (ymv rfl) ?_; refine qS ?_; refine qS ?_; refine qS ?_; refine qS ?_; refine qS ?_; refine qS ?_; refine qS ?_; refine qV (ypT rfl rfl) ?_; refine rEnd ?_; refine run_true rfl ?_; refine qN rfl ?_; refine qV (yas rfl) ?_; refine qV (yas rfl) ?_; refine qV (yas rfl) ?_; refine rEnd ?_; refine run_ret Tryz.func54 rfl ?_
              exact ⟨_, rfl, hbad hk014 (kidsU_no hz hn K hb hno6)⟩
            case hmainv =>
             have hl212 := hB212.lt
             refine run_if rfl (fun hi1 => ?_) (fun hi1 => ?_)
             ·skip
              obtain ⟨k1, e1, hj, rfl⟩ : ∃ k1, L.length < ps.length ∧ (ps.map (·.1))[L.length]? = some k1 ∧ hi' = some k1 := hhi'.elim (fun e => by have := e.1; omega) id
              have hs' : (innNd c ps).keys[L.length]? = some k1 := hj
              obtain ⟨kb, ko, s', rfl, -⟩ := rd_getsK hK9 (by simp) (show L.length < _ by omega)
              refine qN rfl ?_; refine qV (yfa fl130_1 rfl) ?_; refine qV (yld U23 rfl rfl hB1212 rfl) ?_; refine qV (ymv rfl) ?_; refine qV (yis U23 ti9 rfl rfl (by omega)) ?_; refine qV (yldc U9 rfl rfl (rd_str (hK9.ext hx12) (by omega) hs')) ?_; refine qV (yfa fl100_1 rfl) ?_; refine rEffP rfl (zst ti9 rfl rfl rfl hB212 (by simp)) ?_
              rintro w13 ⟨hB13s, hk13⟩
              refine rEnd ?_; refine run_reg rfl ?_; refine qV (yfa fl100_2 rfl) ?_; refine rEffP rfl (zst ti4 rfl rfl rfl hB13s (by simp)) ?_
              rintro w14 ⟨hB14s, hk14⟩
              refine rEnd ?_
              exact (hkv _ _ ⟨rfl, ⟨k1, hB14s, fun u hu => by cases hu; rfl⟩, (hx12.trans_new hk13 (fun j hj => by omega)).trans_new hk14 (fun j hj => by omega)⟩).qb
             ·skip
              obtain rfl : hi' = hi := hhi'.elim (fun e => e.2) (fun e => by obtain ⟨k1, e, -⟩ := e; omega)
              refine run_skip ?_
              exact (hkv _ _ ⟨rfl, ⟨tb, hB212, hto⟩, hx12⟩).qb
           case hmainu =>
            refine run_if rfl (fun hi0 => ?_) (fun hi0 => ?_)
            ·skip
             obtain ⟨j, ej, hj⟩ : ∃ j, L.length = j + 1 ∧ (ps.map (·.1))[j]? = some lo' := hlo'.elim (fun e => by have := e.1; omega) id
             have hs' : (innNd c ps).keys[j]? = some lo' := hj
             obtain ⟨kb, ko, s', rfl, -⟩ := rd_getsK hK9 (by simp) (show j < _ by omega)
             have hB1211 := hx911.blk hB129
             refine run_reg rfl ?_; refine qV (yfa fl130_1 rfl) ?_; refine qV (yld U23 rfl rfl hB1211 rfl) ?_; refine qV (ymv rfl) ?_; refine qV (ysb rfl rfl (by omega)) ?_
             rw [show ((L.length : Int) - 1) = ((j : Nat) : Int) by omega]
             refine qV (yis U23 ti9 rfl rfl (by omega)) ?_; refine qV (yldc U9 rfl rfl (rd_str (hK9.ext hx911) (by omega) hs')) ?_; refine qV (yfa fl100_0 rfl) ?_; refine rEffP rfl (zst ti9 rfl rfl rfl hB21 (by simp)) ?_
             rintro w12 ⟨hB12s, hk12⟩
             refine rEnd ?_
             exact (hku _ _ ⟨rfl, hB12s, hx911.trans_new hk12 (fun j hj => by omega)⟩).qb
            ·skip
             obtain rfl : lo' = lo := hlo'.elim (fun e => e.2) (fun e => by obtain ⟨j, e, -⟩ := e; omega)
             refine run_skip ?_
             exact (hku _ _ ⟨rfl, hB21, hx911⟩).qb
          ·skip
           have hLl : L.length = ps.length + 1 := by omega
           refine run_exit rfl ?_; refine qN rfl ?_; refine qV (ymv rfl) ?_; refine qV (ymv rfl) ?_; refine qV (yad rfl rfl (by omega)) ?_; refine qV (yas rfl) ?_; refine qV (yas rfl) ?_; refine qV (yas rfl) ?_; refine rEnd ?_; refine run_ret Tryz.func54 rfl ?_; refine ⟨_, rfl, hk09, .inl ⟨hh + 1, y.1 :: L.flatMap (·.1), L.flatMap (·.2), ov, by simp [resVal], kidsU_all hz hn hokn hin K hLl hnV hcnd, hS9, fun g hg => by have := ho9 g hg; omega, ?_, Nat.le_trans hcb9 (Nat.mul_le_mul_right _ (Nat.le_succ _))⟩⟩
           rw [metC_same (V' := L.flatMap (·.1) ++ y.1 :: V) (fun x => by simp only [List.mem_append, List.mem_cons]; exact ⟨fun h => by rcases h with (h | h) | h; exact .inr (.inl h); exact .inl h; exact .inr (.inr h), fun h => by rcases h with h | h | h; exact .inl (.inr h); exact .inl (.inl h); exact .inr h⟩)]
           exact hm9
       case hmainl =>
        refine run_loop (α := Nat) (0) (fun i => [(0, ptr q 0), (6, ptr b6 0), (12, ptr b12 0), (16, I (i : Int))]) (fun i w' => i ≤ n.keys.length ∧ Ext w7 w' ∧ ∀ k ∈ n.keys.take i, inB lo hi k) (fun i => n.keys.length - i) (by repeat (first | exact Sub.nil | refine Sub.cons rfl ?_)) ?hI ?hround
        case hI => exact ⟨Nat.zero_le _, Ext.refl _, by simp⟩
        case hround =>
         rintro j w8 ⟨hj, hx8, hall⟩ ih
         have hB128 := hx8.blk hB127
         have hB68 := hx8.blk hB67
         have hK8 := hP7.keys.rd.ext hx8
         have hk08 := hk07.trans hx8.kp
         try dsimp only
         refine run_seq ?_; refine qN rfl ?_; refine qV (ymv rfl) ?_; refine qV (yfa fl130_1 rfl) ?_; refine qV (yld U23 rfl rfl hB128 rfl) ?_; refine qV (yln U23 rfl) ?_; refine qV (ylt rfl rfl) ?_; refine rEnd ?_; refine run_if rfl (fun hlt => ?_) (fun hlt => ?_)
         ·skip
          have hj' : j < n.keys.length := by omega
          obtain ⟨kb, ko, s, rfl, hs⟩ := rd_getsK hK8 (by simp) hj'
          have hsm := List.mem_of_getElem? hs
          have hg : Ext w8 w8.drew := Ext.drew0 w8
          refine run_skip ?_; refine run_seq ?_; refine run_block ?_; refine run_seq ?_; refine run_draw (fun w' => Ext w8 w') (by kernel_rfl) rfl ?_; refine qT 0 rfl (fun _ hS => (by first | exact yldA U100 rfl ti100 rfl (Blk.cells (n := 3) (hS.blk hB128) (news := [_, _, _]) rfl) rfl | exact yldA U100 rfl ti100 rfl (Blk.cells (n := 3) (hS.blk hB68) (news := [_, _, _]) rfl) rfl)) (hg) ?_; refine qT 1 rfl (fun _ hS => yfa fl130_1 rfl) (hg) ?_; refine qT 2 rfl (fun _ hS => (by first | exact yld U23 rfl rfl (hS.blk hB128) rfl | exact yld U23 rfl rfl (hS.blk hB68) rfl)) (hg) ?_
          refine qT 3 rfl (fun _ hS => ymv rfl) (hg) ?_; refine qT 4 rfl (fun _ hS => yis U23 ti9 rfl rfl (by omega)) (hg) ?_; refine qT 5 rfl (fun _ hS => yldc U9 rfl rfl (rd_str (hK8.ext hS) hj' hs)) (hg) ?_; refine qO 6 ?_; refine nCall (i := 6) rfl rfl rfl (yc (args := [.tmp 142, .tmp 147]) cf89 rfl) (inside_ret hto s _) ?_
          rintro v9 w9 ⟨hx9, qn, rfl, hqn⟩
          refine ⟨hg.trans hx9, ?_⟩
          refine qT 7 rfl (fun _ hS => (by first | exact yntd rfl | exact ynt rfl)) (hg.trans hx9) ?_; refine qE ?_; refine run_cond rfl (fun hq2 => ?_) (fun hq2 => ?_)
          ·skip
           refine qN rfl ?_; refine qV (yas rfl) ?_; refine qV (yas rfl) ?_; refine qV (yas rfl) ?_; refine rEnd ?_; refine run_ret Tryz.func54 rfl ?_; refine ⟨_, rfl, hbad (hk08.trans (hg.trans hx9).kp) (nosub_key hn hsm (fun hh => ?_))⟩
           rw [hqn.2 hh] at hq2; cases hq2
          ·skip
           refine run_skip ?_; refine run_inBlock ?_; refine run_reg rfl ?_; refine qV (ymv rfl) ?_; refine qV (yad rfl rfl (by omega)) ?_; refine qV (yas rfl) ?_; refine rEnd ?_; refine (ih (j + 1) _ ⟨by omega, hx8.trans (hg.trans hx9), fun k hk => ?_⟩ (by omega)).qb
           rcases (mem_take_succ hs).1 hk with hk | rfl
           ·exact hall k hk
           ·exact hqn.1 (by simpa using hq2)
         ·skip
          rw [List.take_of_length_le (by omega)] at hall
          refine run_exit rfl ?_
          exact (hkl _ _ ⟨rfl, hx8, hall⟩).qb
     case hmaing =>
      have hg : Ext w6 w6.drew := Ext.drew0 w6
      cases rt with
      | true =>
        refine run_draw (fun w' => Ext w6 w') (by kernel_rfl) rfl ?_; refine qT 0 rfl (fun _ hS => ymv rfl) (hg) ?_; refine qT 1 rfl (fun _ hS => ymv rfl) (hg) ?_; refine qT 2 rfl (fun _ hS => yfa fl130_1 rfl) (hg) ?_; refine qT 3 rfl (fun _ hS => (by first | exact yld U23 rfl rfl (hS.blk hBc6) rfl | exact yld U23 rfl rfl (hS.blk hB126) rfl)) (hg) ?_; refine qT 4 rfl (fun _ hS => yln U23 rfl) (hg) ?_; refine qT 5 rfl (fun _ hS => ylt rfl rfl) (hg) ?_; refine qT 6 rfl (fun _ hS => ypT rfl rfl) (hg) ?_; refine qT 7 rfl (fun _ hS => ymv rfl) (hg) ?_
        refine rh_if (fun h1 => ?_) (fun h1 => ?_)
        ·skip
         refine qJ 8 rfl (hg) ?_; refine qJ 9 rfl (hg) ?_; refine qJ 10 rfl (hg) ?_; refine qJ 11 rfl (hg) ?_; refine qJ 12 rfl (hg) ?_; refine qJ 13 rfl (hg) ?_; refine qJ 14 rfl (hg) ?_; refine qJ 15 rfl (hg) ?_; refine qJ 16 rfl (hg) ?_; refine qJ 17 rfl (hg) ?_; refine qJ 18 rfl (hg) ?_; refine qJ 19 rfl (hg) ?_; refine qJ 20 rfl (hg) ?_; refine qJ 21 rfl (hg) ?_; refine qJ 22 rfl (hg) ?_; refine qJ 23 rfl (hg) ?_; refine qJ 24 rfl (hg) ?_; refine qJ 25 rfl (hg) ?_; refine qT 26 rfl (fun _ hS => ypT rfl rfl) (hg) ?_; refine qT 27 rfl (fun _ hS => ymv rfl) (hg) ?_
         refine qJ 28 rfl (hg) ?_; refine qJ 29 rfl (hg) ?_; refine qJ 30 rfl (hg) ?_; refine qJ 31 rfl (hg) ?_; refine qJ 32 rfl (hg) ?_; refine qJ 33 rfl (hg) ?_; refine qJ 34 rfl (hg) ?_; refine qJ 35 rfl (hg) ?_; refine qJ 36 rfl (hg) ?_; refine qJ 37 rfl (hg) ?_; refine qJ 38 rfl (hg) ?_; refine qJ 39 rfl (hg) ?_; refine qJ 40 rfl (hg) ?_; refine qJ 41 rfl (hg) ?_; refine qJ 42 rfl (hg) ?_; refine qJ 43 rfl (hg) ?_; refine qT 44 rfl (fun _ hS => ypT rfl rfl) (hg) ?_; refine qE ?_; refine Run.qb (e := [(0, _), (6, _), (12, _), (134, _)]) ?_
         refine (hkg _ _ ⟨true, rfl, hg, fun _ => nosub_cnd hn ?_, fun h => Bool.noConfusion h⟩).qb
         rw [if_pos rfl]
         intro h
         exact h (List.eq_nil_of_length_eq_zero (by omega))
        ·skip
         refine qT 8 rfl (fun _ hS => ymv rfl) (hg) ?_; refine qT 9 rfl (fun _ hS => (by first | exact yntd rfl | exact ynt rfl)) (hg) ?_; refine qT 10 rfl (fun _ hS => ymv rfl) (hg) ?_; refine qJ 11 rfl (hg) ?_; refine qJ 12 rfl (hg) ?_; refine qT 13 rfl (fun _ hS => ypF rfl rfl) (hg) ?_; refine qT 14 rfl (fun _ hS => ymv rfl) (hg) ?_; refine qJ 15 rfl (hg) ?_; refine qJ 16 rfl (hg) ?_; refine qJ 17 rfl (hg) ?_; refine qJ 18 rfl (hg) ?_; refine qJ 19 rfl (hg) ?_; refine qJ 20 rfl (hg) ?_; refine qJ 21 rfl (hg) ?_; refine qJ 22 rfl (hg) ?_; refine qJ 23 rfl (hg) ?_
         refine qJ 24 rfl (hg) ?_; refine qT 25 rfl (fun _ hS => ypF rfl rfl) (hg) ?_; refine qT 26 rfl (fun _ hS => ypF rfl rfl) (hg) ?_; refine qT 27 rfl (fun _ hS => ymv rfl) (hg) ?_; refine qT 28 rfl (fun _ hS => ymv rfl) (hg) ?_; refine qT 29 rfl (fun _ hS => (by first | exact yntd rfl | exact ynt rfl)) (hg) ?_; refine qT 30 rfl (fun _ hS => ymv rfl) (hg) ?_; refine qJ 31 rfl (hg) ?_; refine qJ 32 rfl (hg) ?_; refine qJ 33 rfl (hg) ?_; refine qT 34 rfl (fun _ hS => ypF rfl rfl) (hg) ?_; refine qT 35 rfl (fun _ hS => ymv rfl) (hg) ?_; refine qJ 36 rfl (hg) ?_
         refine qJ 37 rfl (hg) ?_; refine qJ 38 rfl (hg) ?_; refine qJ 39 rfl (hg) ?_; refine qJ 40 rfl (hg) ?_; refine qJ 41 rfl (hg) ?_; refine qJ 42 rfl (hg) ?_; refine qT 43 rfl (fun _ hS => ypF rfl rfl) (hg) ?_; refine qT 44 rfl (fun _ hS => ypF rfl rfl) (hg) ?_; refine qE ?_; refine Run.qb (e := [(0, _), (6, _), (12, _), (134, _)]) ?_; refine (hkg _ _ ⟨false, rfl, hg, fun h => Bool.noConfusion h, fun _ => ?_⟩).qb
         rw [if_pos rfl]
         intro h
         rw [h] at h1
         exact h1 (by simp)
      | false =>
        have hR6 : NdR w6 n (.slice ka n.keys.length kac) (.slice va n.vals.length vac) (.slice ca n.kids.length cac) := ⟨hP6.keys.rd, hP6.vals.rd, hP6.kids.rd⟩
        have hby := hbd.bytes
        cases hlf : n.leaf with
        | true =>
          have hBx : Blk w6 b12 [.bool true, .slice ka n.keys.length kac, .slice va n.vals.length vac, .slice ca n.kids.length cac] 130 := by rw [← hlf]; exact hB126
          have hrb := fun (w' : World) (hx : Ext w6 w') => rbytes_ret (n := n) (hR6.ext hx) hbd
          simp only [ndv, hlf] at hrb
          refine run_draw (fun w' => Ext w6 w') (by kernel_rfl) rfl ?_; refine qT 0 rfl (fun _ hS => ymv rfl) (hg) ?_; refine qT 1 rfl (fun _ hS => ymv rfl) (hg) ?_; refine qJ 2 rfl (hg) ?_; refine qJ 3 rfl (hg) ?_; refine qJ 4 rfl (hg) ?_; refine qJ 5 rfl (hg) ?_; refine qT 6 rfl (fun _ hS => ypF rfl rfl) (hg) ?_; refine qT 7 rfl (fun _ hS => ymv rfl) (hg) ?_; refine qT 8 rfl (fun _ hS => ymv rfl) (hg) ?_; refine qT 9 rfl (fun _ hS => (by first | exact yntd rfl | exact ynt rfl)) (hg) ?_; refine qT 10 rfl (fun _ hS => ymv rfl) (hg) ?_
          refine qT 11 rfl (fun _ hS => yfa fl130_0 rfl) (hg) ?_; refine qT 12 rfl (fun _ hS => (by first | exact yld U4 rfl rfl (hS.blk hBc6) rfl | exact yld U4 rfl rfl (hS.blk hBx) rfl)) (hg) ?_; refine qT 13 rfl (fun _ hS => ypT rfl rfl) (hg) ?_; refine qT 14 rfl (fun _ hS => ymv rfl) (hg) ?_; refine qT 15 rfl (fun _ hS => (by first | exact yldA U130 rfl ti130 rfl (Blk.cells (n := 4) (hS.blk hBc6) (news := [_, _, _, _]) rfl) rfl | exact yldA U130 rfl ti130 rfl (Blk.cells (n := 4) (hS.blk hBx) (news := [_, _, _, _]) rfl) rfl)) (hg) ?_; refine qT 19 rfl (fun _ hS => ymv rfl) (hg) ?_
          refine qT 20 rfl (fun _ hS => (by first | exact ync rfl | exact yncf rfl)) (hg) ?_; refine qT 21 rfl (fun _ hS => yfa fl97_0 rfl) (hg) ?_; refine qT 22 rfl (fun _ hS => (by first | exact yld U3 rfl rfl (hS.blk hBc6) rfl | exact yld U3 rfl rfl (hS.blk hBx) rfl)) (hg) ?_; refine qT 23 rfl (fun _ hS => ysb rfl rfl (by omega)) (hg) ?_; refine qO 16 ?_; refine nCall (i := 16) rfl rfl rfl (yc (args := [.tmp 105]) cf88 rfl) (hrb _ hg) ?_
          rintro _ w8 ⟨rfl, hx8⟩
          refine ⟨hg.trans hx8, ?_⟩
          refine qT 17 rfl (fun _ hS => ysb rfl rfl (by omega)) (hg.trans hx8) ?_; refine qT 18 rfl (fun _ hS => yml rfl rfl (by omega)) (hg.trans hx8) ?_; refine qT 24 rfl (fun _ hS => ylt rfl rfl) (hg.trans hx8) ?_; refine qT 25 rfl (fun _ hS => ypT rfl rfl) (hg.trans hx8) ?_; refine qT 26 rfl (fun _ hS => ypF rfl rfl) (hg.trans hx8) ?_; refine qT 27 rfl (fun _ hS => ymv rfl) (hg.trans hx8) ?_; refine rh_if (fun h1 => ?_) (fun h1 => ?_)
          ·skip
           refine qJ 28 rfl (hg.trans hx8) ?_; refine qJ 29 rfl (hg.trans hx8) ?_; refine qJ 30 rfl (hg.trans hx8) ?_; refine qJ 31 rfl (hg.trans hx8) ?_; refine qJ 32 rfl (hg.trans hx8) ?_; refine qJ 33 rfl (hg.trans hx8) ?_; refine qJ 34 rfl (hg.trans hx8) ?_; refine qJ 35 rfl (hg.trans hx8) ?_; refine qJ 36 rfl (hg.trans hx8) ?_; refine qJ 37 rfl (hg.trans hx8) ?_; refine qJ 38 rfl (hg.trans hx8) ?_; refine qJ 39 rfl (hg.trans hx8) ?_; refine qJ 40 rfl (hg.trans hx8) ?_; refine qJ 41 rfl (hg.trans hx8) ?_; refine qJ 42 rfl (hg.trans hx8) ?_; refine qJ 43 rfl (hg.trans hx8) ?_
           refine qT 44 rfl (fun _ hS => ypT rfl rfl) (hg.trans hx8) ?_; refine qE ?_; refine Run.qb (e := [(0, _), (6, _), (12, _), (134, _)]) ?_; refine (hkg _ _ ⟨true, rfl, hg.trans hx8, fun _ => nosub_cnd hn ?_, fun h => Bool.noConfusion h⟩).qb
           rw [if_neg (by simp)]
           intro h
           refine h ?_
           unfold Nd.low
           rw [if_pos hlf]
           omega
          ·skip
           refine qT 28 rfl (fun _ hS => ymv rfl) (hg.trans hx8) ?_; refine qT 29 rfl (fun _ hS => (by first | exact yntd rfl | exact ynt rfl)) (hg.trans hx8) ?_; refine qT 30 rfl (fun _ hS => ymv rfl) (hg.trans hx8) ?_; refine qT 31 rfl (fun _ hS => yfa fl130_0 rfl) (hg.trans hx8) ?_; refine qT 32 rfl (fun _ hS => (by first | exact yld U4 rfl rfl (hS.blk hBc6) rfl | exact yld U4 rfl rfl (hS.blk hBx) rfl)) (hg.trans hx8) ?_; refine qT 33 rfl (fun _ hS => (by first | exact yntd rfl | exact ynt rfl)) (hg.trans hx8) ?_; refine qT 34 rfl (fun _ hS => ypT rfl rfl) (hg.trans hx8) ?_
           refine qT 35 rfl (fun _ hS => ymv rfl) (hg.trans hx8) ?_; refine qJ 36 rfl (hg.trans hx8) ?_; refine qJ 37 rfl (hg.trans hx8) ?_; refine qJ 38 rfl (hg.trans hx8) ?_; refine qJ 39 rfl (hg.trans hx8) ?_; refine qJ 40 rfl (hg.trans hx8) ?_; refine qJ 41 rfl (hg.trans hx8) ?_; refine qJ 42 rfl (hg.trans hx8) ?_; refine qT 43 rfl (fun _ hS => ypF rfl rfl) (hg.trans hx8) ?_; refine qT 44 rfl (fun _ hS => ypF rfl rfl) (hg.trans hx8) ?_; refine qE ?_; refine Run.qb (e := [(0, _), (6, _), (12, _), (134, _)]) ?_
           refine (hkg _ _ ⟨false, rfl, hg.trans hx8, fun h => Bool.noConfusion h, fun _ => ?_⟩).qb
           rw [if_neg (by simp)]
           unfold Nd.low
           rw [if_pos hlf]
           omega
        | false =>
          have hBx : Blk w6 b12 [.bool false, .slice ka n.keys.length kac, .slice va n.vals.length vac, .slice ca n.kids.length cac] 130 := by rw [← hlf]; exact hB126
          refine run_draw (fun w' => Ext w6 w') (by kernel_rfl) rfl ?_; refine qT 0 rfl (fun _ hS => ymv rfl) (hg) ?_; refine qT 1 rfl (fun _ hS => ymv rfl) (hg) ?_; refine qJ 2 rfl (hg) ?_; refine qJ 3 rfl (hg) ?_; refine qJ 4 rfl (hg) ?_; refine qJ 5 rfl (hg) ?_; refine qT 6 rfl (fun _ hS => ypF rfl rfl) (hg) ?_; refine qT 7 rfl (fun _ hS => ymv rfl) (hg) ?_; refine qT 8 rfl (fun _ hS => ymv rfl) (hg) ?_; refine qT 9 rfl (fun _ hS => (by first | exact yntd rfl | exact ynt rfl)) (hg) ?_; refine qT 10 rfl (fun _ hS => ymv rfl) (hg) ?_
          refine qT 11 rfl (fun _ hS => yfa fl130_0 rfl) (hg) ?_; refine qT 12 rfl (fun _ hS => (by first | exact yld U4 rfl rfl (hS.blk hBc6) rfl | exact yld U4 rfl rfl (hS.blk hBx) rfl)) (hg) ?_; refine qT 13 rfl (fun _ hS => ypT rfl rfl) (hg) ?_; refine qT 14 rfl (fun _ hS => ymv rfl) (hg) ?_; refine qJ 15 rfl (hg) ?_; refine qJ 16 rfl (hg) ?_; refine qJ 17 rfl (hg) ?_; refine qJ 18 rfl (hg) ?_; refine qJ 19 rfl (hg) ?_; refine qJ 20 rfl (hg) ?_; refine qJ 21 rfl (hg) ?_; refine qJ 22 rfl (hg) ?_; refine qJ 23 rfl (hg) ?_; refine qJ 24 rfl (hg) ?_
          refine qT 25 rfl (fun _ hS => ypF rfl rfl) (hg) ?_; refine qT 26 rfl (fun _ hS => ypF rfl rfl) (hg) ?_; refine qT 27 rfl (fun _ hS => ymv rfl) (hg) ?_; refine qT 28 rfl (fun _ hS => ymv rfl) (hg) ?_; refine qT 29 rfl (fun _ hS => (by first | exact yntd rfl | exact ynt rfl)) (hg) ?_; refine qT 30 rfl (fun _ hS => ymv rfl) (hg) ?_; refine qT 31 rfl (fun _ hS => yfa fl130_0 rfl) (hg) ?_; refine qT 32 rfl (fun _ hS => (by first | exact yld U4 rfl rfl (hS.blk hBc6) rfl | exact yld U4 rfl rfl (hS.blk hBx) rfl)) (hg) ?_
          refine qT 33 rfl (fun _ hS => (by first | exact yntd rfl | exact ynt rfl)) (hg) ?_; refine qT 34 rfl (fun _ hS => ypT rfl rfl) (hg) ?_; refine qT 35 rfl (fun _ hS => ymv rfl) (hg) ?_; refine qT 36 rfl (fun _ hS => yfa fl130_3 rfl) (hg) ?_; refine qT 37 rfl (fun _ hS => (by first | exact yld U82 rfl rfl (hS.blk hBc6) rfl | exact yld U82 rfl rfl (hS.blk hBx) rfl)) (hg) ?_; refine qT 38 rfl (fun _ hS => yln U82 rfl) (hg) ?_; refine qT 39 rfl (fun _ hS => ymv rfl) (hg) ?_; refine qT 40 rfl (fun _ hS => yad rfl rfl (by omega)) (hg) ?_
          refine qT 41 rfl (fun _ hS => yqu rfl rfl (by omega)) (hg) ?_; refine qT 42 rfl (fun _ hS => ylt rfl rfl) (hg) ?_; refine qT 43 rfl (fun _ hS => ypT rfl rfl) (hg) ?_; refine qT 44 rfl (fun _ hS => ypF rfl rfl) (hg) ?_; refine qE ?_; refine Run.qb (e := [(0, _), (6, _), (12, _), (134, _)]) ?_; refine (hkg _ _ ⟨_, rfl, hg, ?_, ?_⟩).qb
          ·intro h
           have h := of_decide_eq_true h
           refine nosub_cnd hn ?_
           rw [if_neg (by simp)]
           intro h'
           refine h' ?_
           unfold Nd.low
           rw [if_neg (by rw [hlf]; simp)]
           omega
          ·intro h
           have h := of_decide_eq_false h
           rw [if_neg (by simp)]
           unfold Nd.low
           rw [if_neg (by rw [hlf]; simp)]
           omega
   case hmainf =>
    have hg : Ext w5 w5.drew := Ext.drew0 w5
    refine run_draw (fun w' => Ext w5 w') (by kernel_rfl) rfl ?_; refine qT 0 rfl (fun _ hS => ymv rfl) (hg) ?_; refine qT 1 rfl (fun _ hS => (by first | exact ync rfl | exact yncf rfl)) (hg) ?_; refine qT 2 rfl (fun _ hS => yfa fl97_2 rfl) (hg) ?_; refine qT 3 rfl (fun _ hS => yld U34 rfl rfl (hS.blk hBc5) rfl) (hg) ?_; refine qT 4 rfl (fun _ hS => ymv rfl) (hg) ?_; refine qT 5 rfl (fun _ hS => yis U34 ti3 rfl rfl (by omega)) (hg) ?_; refine qT 6 rfl (fun _ hS => yldc U3 rfl rfl (by rw [(hS.blk hm5).cell]; rw [Nat.zero_add, Nat.mul_one, List.getElem?_set_self (by omega)])) (hg) ?_
    refine qT 7 rfl (fun _ hS => ygt rfl rfl) (hg) ?_; refine qT 8 rfl (fun _ hS => ymv rfl) (hg) ?_; refine rh_if (fun h1 => ?_) (fun h1 => ?_)
    ·skip
     refine qJ 9 rfl (hg) ?_; refine qJ 10 rfl (hg) ?_; refine qT 11 rfl (fun _ hS => ypT rfl rfl) (hg) ?_; refine qT 12 rfl (fun _ hS => ymv rfl) (hg) ?_; refine qJ 13 rfl (hg) ?_; refine qJ 14 rfl (hg) ?_; refine qJ 15 rfl (hg) ?_; refine qJ 16 rfl (hg) ?_; refine qJ 17 rfl (hg) ?_; refine qJ 18 rfl (hg) ?_; refine qJ 19 rfl (hg) ?_; refine qJ 20 rfl (hg) ?_; refine qJ 21 rfl (hg) ?_; refine qJ 22 rfl (hg) ?_; refine qJ 23 rfl (hg) ?_; refine qJ 24 rfl (hg) ?_; refine qJ 25 rfl (hg) ?_; refine qJ 26 rfl (hg) ?_; refine qT 27 rfl (fun _ hS => ypT rfl rfl) (hg) ?_; refine qE ?_
     refine Run.qb (e := [(0, _), (3, _), (6, _), (8, _), (9, _), (10, _), (12, _), (81, _)]) ?_
     exact (hkf _ _ ⟨true, rfl, hg, fun _ => nosub_met (hcnt.2.elim (fun e => by have := e.1; omega) (fun e => e.2)), fun h => Bool.noConfusion h⟩).qb
    ·skip
     obtain ⟨hnV, hc0⟩ : y.1 ∉ V ∧ cnt = 0 := hcnt.2.elim (fun e => ⟨e.2, e.1⟩) (fun e => by have := e.1; omega)
     refine qT 9 rfl (fun _ hS => ymv rfl) (hg) ?_; refine qT 10 rfl (fun _ hS => yne rfl rfl) (hg) ?_; refine qT 11 rfl (fun _ hS => ypF rfl rfl) (hg) ?_; refine qT 12 rfl (fun _ hS => ymv rfl) (hg) ?_; refine rh_if (fun h2 => ?_) (fun h2 => ?_)
     ·skip
      refine qJ 13 rfl (hg) ?_; refine qJ 14 rfl (hg) ?_; refine qJ 15 rfl (hg) ?_; refine qJ 16 rfl (hg) ?_; refine qJ 17 rfl (hg) ?_; refine qJ 18 rfl (hg) ?_; refine qJ 19 rfl (hg) ?_; refine qJ 20 rfl (hg) ?_; refine qJ 21 rfl (hg) ?_; refine qJ 22 rfl (hg) ?_; refine qJ 23 rfl (hg) ?_; refine qJ 24 rfl (hg) ?_; refine qJ 25 rfl (hg) ?_; refine qJ 26 rfl (hg) ?_; refine qT 27 rfl (fun _ hS => ypT rfl rfl) (hg) ?_; refine qE ?_; refine Run.qb (e := [(0, _), (3, _), (6, _), (8, _), (9, _), (10, _), (12, _), (81, _)]) ?_
      refine (hkf _ _ ⟨true, rfl, hg, fun _ => nosub_none ?_, fun h => Bool.noConfusion h⟩).qb
      rw [hnodes]
      unfold ndOf
      rcases hdx with ⟨-, e⟩ | ⟨e, -⟩
      ·exact absurd e h2
      ·rw [e]; split <;> rfl
     ·skip
      have hd : dec y.2 = some n := hdx.elim (fun e => e.1) (fun e => absurd e.2 (by have := e.2; omega))
      refine qT 13 rfl (fun _ hS => ymv rfl) (hg) ?_; refine qT 14 rfl (fun _ hS => (by first | exact ync rfl | exact yncf rfl)) (hg) ?_; refine qT 15 rfl (fun _ hS => yfa fl97_1 rfl) (hg) ?_; refine qT 16 rfl (fun _ hS => yld U33 rfl rfl (hS.blk hBc5) rfl) (hg) ?_; refine qT 17 rfl (fun _ hS => ymv rfl) (hg) ?_; refine qT 18 rfl (fun _ hS => yis U33 ti54 rfl rfl (by omega)) (hg) ?_; refine qT 19 rfl (fun _ hS => yfa fl54_1 rfl) (hg) ?_; refine qT 22 rfl (fun _ hS => ymv rfl) (hg) ?_; refine qT 23 rfl (fun _ hS => (by first | exact ync rfl | exact yncf rfl)) (hg) ?_
      refine qT 24 rfl (fun _ hS => yfa fl97_0 rfl) (hg) ?_; refine qT 25 rfl (fun _ hS => yld U3 rfl rfl (hS.blk hBc5) rfl) (hg) ?_; refine qT 20 rfl (fun _ hS => yldc U9 rfl rfl (rd_pg1 (hc5.ext hS).rd hi' hy)) (hg) ?_; refine qT 21 rfl (fun _ hS => ylnS U9 rfl) (hg) ?_; refine qT 26 rfl (fun _ hS => yne rfl rfl) (hg) ?_; refine qT 27 rfl (fun _ hS => ypF rfl rfl) (hg) ?_; refine qE ?_; refine Run.qb (e := [(0, _), (3, _), (6, _), (8, _), (9, _), (10, _), (12, _), (81, _)]) ?_; refine (hkf _ _ ⟨_, rfl, hg, ?_, ?_⟩).qb
      ·intro h
       refine nosub_none ?_
       rw [hnodes]
       unfold ndOf
       rw [if_neg (by have := of_decide_eq_true h; omega)]
      ·intro h
       refine ⟨?_, hnV⟩
       rw [hnodes]
       unfold ndOf
       rw [if_pos (by have := of_decide_eq_false h; omega)]
       exact hd
 ·skip
  refine qV (yas rfl) ?_; refine rEnd ?_; refine run_seq ?_; refine qN rfl ?_; refine qV (ymv rfl) ?_; refine qV (ylt rfl rfl) ?_; refine rEnd ?_; refine run_if rfl (fun h0 => ?_) (fun h0 => ?_)
  ·skip
   refine qN rfl ?_; refine qV (yas rfl) ?_; refine qV (yas rfl) ?_; refine qV (yas rfl) ?_; refine rEnd ?_; refine run_ret Tryz.func54 rfl ?_
   exact ⟨_, rfl, hbad hx1.kp (nosub_none (nodesOf_none hno))⟩
  ·exact absurd (show ((-1 : Int) < 0) by decide) h0
theorem wkAt_all {q mb z : Nat} {lv : Value} {l : Pgs} (hz : sizeOk (z : Int)) (hnn : (l.map (·.1)).Nodup) (hl : l.length ≤ 1000000) (ht : ∀ y ∈ l, y.2.length ≤ 140737488355328) : ∀ k, WkAt q mb z lv l k := fun k => Nat.strongRecOn k fun k ih => wkAt_step hz hnn hl ht ih
end Go.Proofs.YtocnhaoilnojmaaGreat
namespace Go.Proofs.YtocnhaoilnojmaaGreat
open Go Go.RowKit
set_option linter.all false
set_option maxRecDepth 100000
theorem metC_nil (l : Pgs) : metC l [] = List.replicate l.length (I 0) := by
 unfold metC
 induction l with
 | nil => rfl
 | cons a r ih => rw [List.map_cons, ih, List.length_cons, List.replicate_succ]; rfl
section
variable {w : World}
set_option maxHeartbeats 8000000 in
theorem shape_ret {z : Nat} {root : Int} {lv : Value} {l : Pgs} (hnum : numsOk (z : Int) root l) (hR : Rd w lv 2 l.length (pgC l)) (hl : l.length ≤ 1000000) (ht : ∀ y ∈ l, y.2.length ≤ 140737488355328) :
  Ret Tryz.prog 19 [I (z : Int), I root, lv] w fun v w' => Ext w w' ∧ ((∃ H ns es ov, LoadOk z root l H ns es ∧ v = .tuple #[ov, I ((H : Nat) : Int), .bool true] ∧ Sl w' ov 41 2 es.length (esC es) ∧ (∀ g, ov.ownBlock = some g → w.heap.size ≤ g) ∧ es.length ≤ l.length * 100000) ∨ ((∀ H ns es, ¬ LoadOk z root l H ns es) ∧ v = .tuple #[.slice none 0 0, I 0, .bool false])) := by
 obtain ⟨hz, hroot, hnn, hnb⟩ := id hnum
 obtain ⟨la, lc, rfl, -⟩ := id hR.shape
 have hml : maxLen = 9223372036854775807 := rfl
 refine ret_of_run (e := [(0, _), (1, _), (2, _)]) Tryz.func19 rfl Tryz.ntmps19 rfl rfl ?_; refine qN rfl ?_; refine qV (yas rfl) ?_; refine qV (yas rfl) ?_; refine qV (yas rfl) ?_; refine rEnd ?_; refine run_seq ?_; refine qN rfl ?_; refine qV (ymv rfl) ?_; refine qV (yeq rfl rfl) ?_; refine rEnd ?_; refine run_if rfl (fun hr0 => ?_) (fun hr0 => ?_)
 ·skip
  refine qN rfl ?_; refine qV (ymv rfl) ?_; refine qV (yln U33 rfl) ?_; refine qV (yeq rfl rfl) ?_; refine qV (yas rfl) ?_; refine qV (yas rfl) ?_; refine qV (yas rfl) ?_; refine rEnd ?_; refine run_ret Tryz.func19 rfl ?_
  by_cases hl0 : l = []
  ·refine ⟨_, rfl, Ext.refl _, .inl ⟨0, [], [], .slice none 0 0, .inl ⟨hr0, hl0, rfl, rfl, rfl⟩, ?_, Sl.nil _ _ _, fun g hg => by simp [Value.ownBlock] at hg, by simp⟩⟩
   rw [hl0]; rfl
  ·have : l.length ≠ 0 := fun e => hl0 (List.eq_nil_of_length_eq_zero e)
   refine ⟨_, rfl, Ext.refl _, .inr ⟨fun H ns es h => ?_, ?_⟩⟩
   ·rcases h with h | h
    ·exact hl0 h.2.1
    ·exact h.1 hr0
   ·rw [decide_eq_false (by omega)]; rfl
 ·skip
  refine run_skip ?_; refine qN rfl ?_; refine qV (ymv rfl) ?_; refine qV (ymv rfl) ?_; refine qV (ymv rfl) ?_; refine qV (yln U33 rfl) ?_; refine rValP rfl rfl (pmk U34 ti3 rfl rfl rfl (Nat.le_refl _) (by omega) (by omega)) ?_
  rintro _ w1 ⟨mb, rfl, ⟨hb1, hx1, hB1⟩, hS1⟩
  refine qV (ybd (parts := [(0, .tmp 19), (1, .tmp 20), (2, .tmp 23)]) (cs := [_, _, _]) ti97 rfl sp97 rfl rfl) ?_; refine rValP rfl rfl (pbx rfl rfl) ?_
  rintro _ w2 ⟨q, rfl, hq2, hx2, hB2⟩
  have hlm := hB1.lt
  have hz1 := hx1.size
  have hz2 := hx2.size
  have hlq := hB2.lt
  have hx02 := hx1.trans hx2
  have hc2 : WkC w2 q mb z (.slice la l.length lc) l := ⟨hB2, hR.ext hx02, by omega, fun h0 e => by have := Rd.ltz hR (by omega) h0 e; omega⟩
  have hm2 : Blk w2 mb (metC l []) 3 := by rw [metC_nil]; exact hx2.blk hB1
  refine qV (yas rfl) ?_; refine qM rfl ?_; refine qV (ymv rfl) ?_; refine qV (ymv rfl) ?_; refine qV (ybd (parts := []) (cs := [_, _, _]) ti100 rfl sp100 rfl rfl) ?_; refine rCall rfl rfl (yc (args := [.tmp 27, .tmp 28, .tmp 29, .const (Value.bool true)]) cf54 rfl) (wkAt_all hz hnn hl ht l.length w2 root [] none [] [] true hc2 hm2 List.nodup_nil (by simp) (by simp) (fun u hu => by cases hu)) ?_
  rintro v3 w3 ⟨hk3, hv3⟩
  have hx3 : Ext w w3 := hx02.trans_new hk3 (fun i hi => by omega)
  rcases hv3 with ⟨h, ns, es, ov, rfl, s, hSo, hoo, hm3, hcb⟩ | ⟨rfl, hno⟩
  ·have hc3 := hc2.kp hk3
   have hB3 := hc3.blk
   have hsub : ∀ x ∈ ns, x ∈ l.map (·.1) := fun x hx => by
    obtain ⟨m, hm⟩ := Option.ne_none_iff_exists'.1 (s.bn.some x hx)
    exact (nodesOf_ok hm).2
   have hll : (l.map (·.1)).length = l.length := by simp
   have hle := List.Nodup.length_le_of_subset s.nd hsub
   rw [List.append_nil] at hm3
   have hml3 : (metC l ns).length = l.length := by unfold metC; rw [List.length_map]
   refine qV (ymv rfl) ?_; refine qV (yex rfl rfl) ?_; refine qV (yex rfl rfl) ?_; refine qV (yex rfl rfl) ?_; refine qV (yas rfl) ?_; refine qV (yas rfl) ?_; refine qV (yas rfl) ?_; refine rEnd ?_; refine Run.qb (e := [(2, _), (6, _), (7, _), (8, _), (9, _), (10, _), (11, _), (12, _)]) ?_; refine run_seq ?_; refine qN rfl ?_; refine qV (yas rfl) ?_; refine rEnd ?_; refine run_block ?_
   refine run_loop (α := Nat × Bool) ((0, true)) (fun x => [(2, .slice la l.length lc), (9, ptr q 0), (10, ov), (11, I (h : Int)), (12, .bool x.2), (13, I (x.1 : Int))]) (fun x w' => w' = w3 ∧ x.1 ≤ l.length ∧ (x.2 = true ↔ ∀ y ∈ l.take x.1, y.1 ∈ ns)) (fun x => l.length - x.1) (by repeat (first | exact Sub.nil | refine Sub.cons rfl ?_)) ?hI ?hround
   case hI => exact ⟨rfl, Nat.zero_le _, by simp⟩
   case hround =>
    rintro ⟨i, ok⟩ w4 ⟨rfl, hi, hok⟩ ih
    dsimp only at hi hok
    try dsimp only
    refine run_seq ?_; refine qN rfl ?_; refine qV (ymv rfl) ?_; refine qV (ymv rfl) ?_; refine qV (yln U33 rfl) ?_; refine qV (ylt rfl rfl) ?_; refine rEnd ?_; refine run_if rfl (fun hlt => ?_) (fun hlt => ?_)
    ·skip
     have hi' : i < l.length := by omega
     obtain ⟨y, hy⟩ : ∃ y, l[i]? = some y := ⟨_, List.getElem?_eq_getElem hi'⟩
     refine run_skip ?_; refine run_seq ?_; refine run_block ?_; refine run_reg rfl ?_; refine qV (ymv rfl) ?_; refine qV (ymv rfl) ?_; refine rVal_bool (fun h1 => ?_) (fun h1 => ?_)
     ·skip
      refine qV (ymv rfl) ?_; refine qV ((by first | exact ync rfl | exact yncf rfl)) ?_; refine qV (yfa fl97_2 rfl) ?_; refine qV (yld U34 rfl rfl hB3 rfl) ?_; refine qV (ymv rfl) ?_; refine qV (yis U34 ti3 rfl rfl (by omega)) ?_; refine qV (yldc U3 rfl rfl (by rw [hm3.cell]; rw [Nat.zero_add, Nat.mul_one]; exact metC_get hy)) ?_
      refine qV (yeq rfl rfl) ?_; refine qV (ypT rfl rfl) ?_; refine qV (yas rfl) ?_; refine rEnd ?_; refine run_inBlock ?_; refine run_reg rfl ?_; refine qV (ymv rfl) ?_; refine qV (yad rfl rfl (by omega)) ?_; refine qV (yas rfl) ?_; refine rEnd ?_; refine (ih (i + 1, _) w4 ⟨rfl, by dsimp only; omega, ?_⟩ (by dsimp only; omega)).qb
      dsimp only
      constructor
      ·intro hh x hx
       rcases (mem_take_succ hy).1 hx with hx | rfl
       ·exact (hok.1 h1) x hx
       ·by_cases hm : x.1 ∈ ns
        ·exact hm
        ·rw [if_neg hm] at hh; cases hh
      ·intro hh
       rw [if_pos (hh y ((mem_take_succ hy).2 (.inr rfl)))]; rfl
     ·skip
      refine qS ?_; refine qS ?_; refine qS ?_; refine qS ?_; refine qS ?_; refine qS ?_; refine qS ?_; refine qS ?_; refine qV (ypF rfl rfl) ?_; refine qV (yas rfl) ?_; refine rEnd ?_; refine run_inBlock ?_; refine run_reg rfl ?_; refine qV (ymv rfl) ?_; refine qV (yad rfl rfl (by omega)) ?_; refine qV (yas rfl) ?_; refine rEnd ?_; refine (ih (i + 1, _) w4 ⟨rfl, by dsimp only; omega, ?_⟩ (by dsimp only; omega)).qb
      dsimp only
      constructor
      ·intro hh; cases hh
      ·intro hh
       have := hok.2 (fun x hx => hh x ((mem_take_succ hy).2 (.inl hx)))
       rw [h1] at this; cases this
    ·skip
     rw [List.take_of_length_le (by omega)] at hok
     refine run_exit rfl ?_; refine run_seq ?_; refine qN rfl ?_; refine qV (ymv rfl) ?_; refine qV ((by first | exact yntd rfl | exact ynt rfl)) ?_; refine rEnd ?_; refine run_cond rfl (fun h2 => ?_) (fun h2 => ?_)
     ·skip
      have h2' : ok = false := by simpa using h2
      refine qN rfl ?_; refine qV (yas rfl) ?_; refine qV (yas rfl) ?_; refine qV (yas rfl) ?_; refine rEnd ?_; refine run_ret Tryz.func19 rfl ?_; refine ⟨_, rfl, hx3, .inr ⟨fun H ns' es' hh => ?_, rfl⟩⟩
      rcases hh with hh | ⟨-, s', hl'⟩
      ·exact hr0 hh.1
      ·obtain ⟨-, rfl, -⟩ := bn_det hz s.bn s'.bn
       have := hok.2 (fun y hy => sub_of_len s.nd hsub (by rw [hll, hl']; exact Nat.le_refl _) _ (List.mem_map.2 ⟨y, hy, rfl⟩))
       rw [h2'] at this; cases this
     ·skip
      have h2' : ok = true := by simpa using h2
      have hall := hok.1 h2'
      refine run_skip ?_; refine qN rfl ?_; refine qV (ymv rfl) ?_; refine qV (ymv rfl) ?_; refine qV (yas rfl) ?_; refine qV (yas rfl) ?_; refine qV (yas rfl) ?_; refine rEnd ?_; refine run_ret Tryz.func19 rfl ?_; refine ⟨_, rfl, hx3, .inl ⟨h, ns, es, ov, .inr ⟨hr0, s, ?_⟩, rfl, hSo, fun g hg => by have := hoo g hg; omega, Nat.le_trans hcb (Nat.mul_le_mul_right _ (by omega))⟩⟩
      have := List.Nodup.length_le_of_subset hnn (l₂ := ns) (fun x hx => by
       obtain ⟨y, hy, rfl⟩ := List.mem_map.1 hx
       exact hall y hy)
      omega
  ·skip
   refine qV (ymv rfl) ?_; refine qV (yex rfl rfl) ?_; refine qV (yex rfl rfl) ?_; refine qV (yex rfl rfl) ?_; refine qV (yas rfl) ?_; refine qV (yas rfl) ?_; refine qV (yas rfl) ?_; refine rEnd ?_; refine Run.qb (e := [(2, _), (6, _), (7, _), (8, _), (9, _), (10, _), (11, _), (12, _)]) ?_; refine run_seq ?_; refine qN rfl ?_; refine qV (yas rfl) ?_; refine rEnd ?_; refine run_block ?_
   refine run_loop (α := Nat) (0) (fun i => [(2, .slice la l.length lc), (12, .bool false), (13, I (i : Int))]) (fun i w' => w' = w3 ∧ i ≤ l.length) (fun i => l.length - i) (by repeat (first | exact Sub.nil | refine Sub.cons rfl ?_)) ?hI ?hround
   case hI => exact ⟨rfl, Nat.zero_le _⟩
   case hround =>
    rintro i w4 ⟨rfl, hi⟩ ih
    try dsimp only
    refine run_seq ?_; refine qN rfl ?_; refine qV (ymv rfl) ?_; refine qV (ymv rfl) ?_; refine qV (yln U33 rfl) ?_; refine qV (ylt rfl rfl) ?_; refine rEnd ?_; refine run_if rfl (fun hlt => ?_) (fun hlt => ?_)
    ·skip
     refine run_skip ?_; refine run_seq ?_; refine run_block ?_; refine run_reg rfl ?_; refine qV (ymv rfl) ?_; refine qV (ymv rfl) ?_; refine qS ?_; refine qS ?_; refine qS ?_; refine qS ?_; refine qS ?_; refine qS ?_; refine qS ?_; refine qS ?_; refine qV (ypF rfl rfl) ?_; refine qV (yas rfl) ?_; refine rEnd ?_; refine run_inBlock ?_; refine run_reg rfl ?_; refine qV (ymv rfl) ?_; refine qV (yad rfl rfl (by omega)) ?_; refine qV (yas rfl) ?_; refine rEnd ?_
     exact (ih (i + 1) w4 ⟨rfl, by omega⟩ (by omega)).qb
    ·skip
     refine run_exit rfl ?_; refine run_seq ?_; refine qN rfl ?_; refine qV (ymv rfl) ?_; refine qV ((by first | exact yntd rfl | exact ynt rfl)) ?_; refine rEnd ?_; refine run_true rfl ?_; refine qN rfl ?_; refine qV (yas rfl) ?_; refine qV (yas rfl) ?_; refine qV (yas rfl) ?_; refine rEnd ?_; refine run_ret Tryz.func19 rfl ?_; refine ⟨_, rfl, hx3, .inr ⟨fun H ns' es' hh => ?_, rfl⟩⟩
     rcases hh with hh | ⟨-, s', hl'⟩
     ·exact hr0 hh.1
     ·exact hno _ _ _ s'
end
end Go.Proofs.YtocnhaoilnojmaaGreat
namespace Go.Proofs.YtocnhaoilnojmaaGreat
open Go Go.RowKit
set_option linter.all false
set_option maxRecDepth 100000
/-- The variables that Delete's way down sees: the tree, key, itself. -/
structure DelC (w : World) (F : Nat → Prop) (p : Nat) (k : Bytes) (bt bk bp : Nat) : Prop where
 t : Blk w bt [ptr p 0] 24
 k : Blk w bk [S k] 9
 f : Blk w bp [.func (.func 43) #[] #[ptr bt 0, ptr bk 0, ptr bp 0]] 80
 n : ¬ F bt ∧ ¬ F bk ∧ ¬ F bp
theorem DelC.kp {w w' : World} {F F' : Nat → Prop} {p : Nat} {k : Bytes} {bt bk bp : Nat} (h : DelC w F p k bt bk bp) (hk : Kp F w w') (hF : ∀ i, F' i → F i ∨ w.heap.size ≤ i) : DelC w' F' p k bt bk bp := by
 obtain ⟨n1, n2, n4⟩ := h.n
 have h1 := h.t.lt
 have h2 := h.k.lt
 have h4 := h.f.lt
 exact ⟨hk.blk h.t n1, hk.blk h.k n2, hk.blk h.f n4, fun e => (hF _ e).elim n1 (by omega), fun e => (hF _ e).elim n2 (by omega), fun e => (hF _ e).elim n4 (by omega)⟩
/-- What Delete's way down leaves. -/
structure DelPost (T : Tr) (h : Nat) (no : Int) (lo : Bytes) (hi : Option Bytes) (ns : List Int) (es : Es) (k : Bytes) (T' : Tr) : Prop where
 cnt : T'.count = T.count
 evo : Evo T T' 0
 one : One T.size h T.nodes T'.nodes no lo hi ns (delE es k)
 keys : (∀ m, T.nodes no = some m → ¬ m.low T.size) → ∀ m, T'.nodes no = some m → m.keys ≠ []
def DelAt (p : Nat) (k : Bytes) (bt bk bp : Nat) (H : Nat) : Prop := ∀ (w : World) (T : Tr) (nb : Int → Nat) (F : Nat → Prop) (no : Int) (lo : Bytes) (hi : Option Bytes) (ns : List Int) (es : Es),
 TreeA w p T nb F → DelC w F p k bt bk bp → Bn T.size T.nodes H no lo hi ns es → ns.Nodup → inB lo hi k → hasE es k → GivS T → (∀ x ∈ T.given, 1 ≤ x ∧ x ≤ 2147483647) → (∀ x, T.nodes x ≠ none → 1 ≤ x ∧ x ≤ 2147483647) → (∀ c ps, T.nodes no = some (innNd c ps) → ps ≠ []) →
 Ret Tryz.prog 43 [I no, ptr bt 0, ptr bk 0, ptr bp 0] w fun val w' => val = .tuple #[] ∧ ∃ T' F', TreeA w' p T' nb F' ∧ DelPost T H no lo hi ns es k T' ∧ Kp F w w' ∧ ∀ i, F' i → F i ∨ w.heap.size ≤ i
/-- A leaf that is full enough has two entries. -/
theorem full_two {z : Nat} {E : Es} (hz : sizeOk (z : Int)) (hE : EsOk z E) (hl : ¬ (leafNd E).low z) : 2 ≤ E.length := by
 obtain ⟨z1, z2, z3⟩ := hz
 match E, hE, hl with
 | [], _, hl => exact absurd (by rw [leafNd_low]; simp [entB]; omega) hl
 | [x], hE, hl =>
   have h1 := (hE.one x (by simp))
   exfalso; apply hl
   rw [leafNd_low]
   have : mostE z = (z - 3) / 4 := rfl
   simp [entB] at h1 ⊢
   omega
 | _ :: _ :: _, _, _ => simp
section
variable {w : World}
set_option maxHeartbeats 4000000 in
theorem delAt_leaf {p : Nat} {k : Bytes} {bt bk bp : Nat} : DelAt p k bt bk bp 1 := by
 intro w T nb F no lo hi ns E h hc hB hnd hin hhas hg hgr hnr hne
 have hz : sizeOk (T.size : Int) := size_ok h
 obtain ⟨z1, z2, -⟩ := id hz
 obtain ⟨hn, hns, hok, hbE, hinE⟩ := hB.leaf (by omega)
 obtain ⟨hD, hDv⟩ := del_leaf (k := k) hz hB
 have hlE := entB_len hok
 have hdel : delE E k = E.take (posE E k) ++ E.drop (posE E k + 1) := by unfold delE; rw [if_pos hhas]
 have hsub : (delE E k).Sublist E := by
  rw [hdel]
  conv => rhs; rw [← List.take_append_drop (posE E k) E]
  exact (List.Sublist.refl _).append (by rw [← List.drop_drop]; exact List.drop_sublist _ _)
 have hok' : EsOk T.size (delE E k) := hok.sub hsub
 obtain ⟨-, -, -, hbE', -⟩ := hD.leaf (by omega)
 have hbd' := leaf_bd hz hok' (by omega)
 obtain ⟨mN, mC, mO, gv, kn, kc, ko, O⟩ := h.opn
 obtain ⟨q, hq, hM, hqF, hcl⟩ := h.nodeF hn
 obtain ⟨qb, qk, qv, qc⟩ := q
 dsimp only at hq
 subst hq
 have hBn := hM.blk
 have hK := hM.keys
 have hV := hM.vals
 have hC := hM.kids
 have hd1 := hM.d1
 have hd2 := hM.d2
 have hd3 := hM.d3
 dsimp only at hBn hK hV hC hd1 hd2 hd3
 have hvl : (leafNd E).vals.length = E.length := by simp [leafNd]
 have hkl : (leafNd E).keys.length = E.length := by simp [leafNd]
 rw [hvl] at hV
 rw [hkl] at hK
 have hBt := hc.t
 have hBk := hc.k
 have hp : pos (leafNd E).keys k = posE E k := rfl
 have hlt := hasE_lt hhas
 have hFl := h.lt
 refine ret_of_run (e := [(0, _), (1, _), (2, _), (3, _)]) Tryz.func43 rfl Tryz.ntmps43 rfl rfl ?_; refine qN rfl ?_; refine qV ((by first | exact yld U24 rfl rfl hBt rfl | exact yld U24 rfl rfl O.blk rfl | exact yld U24 rfl rfl hBn rfl)) ?_; refine qV ((by first | exact ync rfl | exact yncf rfl)) ?_; refine qV (yfa fl74_5 rfl) ?_; refine qV ((by first | exact yld U71 rfl rfl hBt rfl | exact yld U71 rfl rfl O.blk rfl | exact yld U71 rfl rfl hBn rfl)) ?_; refine qV (ymv rfl) ?_; refine qV (ylk (k := no) (K := KZ) U71 (ky_int U3) ti81 rfl rfl O.nm.l) ?_
 rw [show (getL kn no).getD (.pointer none) = ptr (nb no) 0 by rw [O.ng no, hn]; rfl]
 refine qV (yas rfl) ?_; refine rEnd ?_; refine run_seq ?_; refine qN rfl ?_; refine qV (ymv rfl) ?_; refine qV ((by first | exact ync rfl | exact yncf rfl)) ?_; refine qV (yfa fl84_0 rfl) ?_; refine qV ((by first | exact yld U4 rfl rfl hBt rfl | exact yld U4 rfl rfl O.blk rfl | exact yld U4 rfl rfl hBn rfl)) ?_; refine rEnd ?_; refine run_true rfl ?_; refine run_seq ?_
 have hg0 : Ext w w.drew := Ext.drew0 w
 refine run_draw (fun w' => Ext w w') (by kernel_rfl) rfl ?_; refine qT 0 rfl (fun _ hS => ymv rfl) (hg0) ?_; refine qT 1 rfl (fun _ hS => (by first | exact ync rfl | exact yncf rfl)) (hg0) ?_; refine qT 2 rfl (fun _ hS => yfa fl84_1 rfl) (hg0) ?_; refine qT 3 rfl (fun _ hS => (by first | exact yld U23 rfl rfl (hS.blk hBn) rfl | exact yld U23 rfl rfl (hS.blk hBk) rfl)) (hg0) ?_; refine qT 4 rfl (fun _ hS => (by first | exact yld U9 rfl rfl (hS.blk hBn) rfl | exact yld U9 rfl rfl (hS.blk hBk) rfl)) (hg0) ?_; refine qO 5 ?_
 refine nCall (i := 5) rfl rfl rfl (yc (args := [.tmp 23, .tmp 24]) cf44 rfl) (bsearch_ret (leafNd E).keys k qk _ ((hM.keys.ext hg0).rd) (by rw [hkl]; omega) hok.rise) ?_
 rintro _ w1 ⟨rfl, rfl⟩
 refine ⟨hg0, ?_⟩
 rw [hp]
 refine qT 6 rfl (fun _ hS => ymv rfl) (hg0) ?_; refine qT 7 rfl (fun _ hS => yex rfl rfl) (hg0) ?_; refine qT 8 rfl (fun _ hS => yex rfl rfl) (hg0) ?_; refine qT 9 rfl (fun _ hS => yas rfl) (hg0) ?_; refine qT 10 rfl (fun _ hS => yas rfl) (hg0) ?_; refine qE ?_; refine Run.qb (e := [(0, _), (1, _), (2, _), (3, _), (5, _), (6, _)]) ?_; refine run_seq ?_
 have hone : ∀ {l : List Bytes}, ∀ c' ∈ l.map S, c'.oneCell' = true := fun c' hc => by obtain ⟨z, -, rfl⟩ := List.mem_map.1 hc; rfl
 obtain ⟨Q, hQ⟩ : ∃ Q : Nat → Prop, Q = fun g => qk.ownBlock = some g ∨ qv.ownBlock = some g := ⟨_, rfl⟩
 have hQF : ∀ g, Q g → F g := fun g hg => by
  rw [hQ] at hg
  exact (hqF g (hg.elim (fun e => .inr (.inl e)) (fun e => .inr (.inr (.inl e))))).1
 have hQn : ¬ Q (nb no) := fun e => by
  rw [hQ] at e
  exact e.elim hd1.1 hd1.2.1
 have hQk : ∀ g, qk.ownBlock = some g → Q g := fun g hg => by rw [hQ]; exact .inl hg
 have hQv : ∀ g, qv.ownBlock = some g → Q g := fun g hg => by rw [hQ]; exact .inr hg
 have hQl : ∀ g, Q g → g < w.heap.size := fun g hg => hFl g (hQF g hg)
 refine run_cut (fun e' w2 => ∃ kv' vv', e' = [(0, I no), (1, ptr bt 0), (2, ptr bk 0), (3, ptr bp 0), (5, ptr (nb no) 0)] ∧ NdM w2 (leafNd (delE E k)) ⟨nb no, kv', vv', qc⟩ ∧ (∀ g, Pl.fp ⟨nb no, kv', vv', qc⟩ g → Pl.fp ⟨nb no, qk, qv, qc⟩ g ∨ w.heap.size ≤ g) ∧ Kp (Pl.fp ⟨nb no, qk, qv, qc⟩) w w2) ?hkn (fun hkn => ?hmainn)
 case hkn =>
  rintro e' w23 ⟨kv9, vv17, rfl, hM', hfp, hk2⟩
  obtain ⟨F', h', hF'⟩ := hcl w23 _ ⟨nb no, kv9, vv17, qc⟩ rfl hM' hk2 (fun g hg => (hfp g hg).imp id (fun e hh => by have := hFl g hh; omega))
  have hF2 : ∀ g, F' g → F g ∨ w.heap.size ≤ g := fun g hg => by
   rcases hF' g hg with e | e
   ·exact .inl e
   ·exact (hfp g e).imp (fun e => (hqF g e).1) id
  have hk2F : Kp F w w23 := hk2.mono' (fun g hg => (hqF g hg).1)
  have hc2 := hc.kp hk2F hF2
  have hBt2 := hc2.t
  obtain ⟨mN2, mC2, mO2, gv2, kn2, kc2, ko2, O2⟩ := h'.opn
  refine qN rfl ?_; refine qV ((by first | exact yld U24 rfl rfl hBt2 rfl | exact yld U24 rfl rfl O2.blk rfl)) ?_; refine qV ((by first | exact ync rfl | exact yncf rfl)) ?_; refine qV (yfa fl74_7 rfl) ?_; refine qV ((by first | exact yld U72 rfl rfl hBt2 rfl | exact yld U72 rfl rfl O2.blk rfl)) ?_; refine qV (ymv rfl) ?_; refine rEffP rfl (zmuB (k := no) (K := KZ) U72 (ky_int U3) rfl rfl rfl O2.cm) ?_
  rintro w3 ⟨hM3, hk3⟩
  have h3 := O2.setC w3 _ (updI (T.setN no (leafNd (delE E k))).changed no true) hM3 hk3 (fun x => by
   rw [getL_put]
   by_cases e : x = no
   ·subst e; simp [flag, updI]
   ·rw [if_neg e, O2.cg]; simp [updI, e])
  have hk23 : Kp F' w23 w3 := hk3.mono' (fun k hk => by rw [hk]; exact O2.fp.2.2.1)
  refine rEnd ?_; refine run_ret Tryz.func43 rfl ?_; refine ⟨_, rfl, rfl, (T.setN no (leafNd (delE E k))).mark no, F', h3, ⟨rfl, Evo.set hg hn, ⟨_, hD, hDv⟩, fun hlow m hm => ?_⟩, hk2F.trans_new hk23 (fun i hi => (hF2 i hi).symm), hF2⟩
  have h2 := full_two hz hok (hlow _ hn)
  have hm' : updI T.nodes no (some (leafNd (delE E k))) no = some m := hm
  rw [updI_same] at hm'
  cases hm'
  intro e
  have e' : (delE E k).length = 0 := by have := congrArg List.length e; simpa [leafNd] using this
  rw [hdel, List.length_append, List.length_take, List.length_drop] at e'
  omega
 case hmainn =>
  have hgg := hg0.trans (Ext.drew0 w.drew)
  have hkc : Kp Q w w.drew.drew := hgg.kp
  have hK0 := hK.ext hgg
  have hV0 := hV.ext hgg
  refine run_drawL [20,23] (fun w' => Kp Q w w') (by kernel_rfl) rfl ?_; refine qL [18, 19, 20, 21, 22, 23] 0 rfl (fun _ hS => ymv rfl) (hkc) ?_; refine hTakeU (i := 1) rfl (by kernel_rfl) rfl rfl (fun _ => ymv rfl) (hkc) ?_; refine qL [3, 4, 5, 9, 17, 18, 19, 20, 21, 22, 23] 2 rfl (fun _ hS => ymv rfl) (hkc) ?_; refine qL [4, 5, 9, 17, 18, 19, 20, 21, 22, 23] 3 rfl (fun _ hS => (by first | exact ync rfl | exact yncf rfl)) (hkc) ?_; refine qL [5, 9, 17, 18, 19, 20, 21, 22, 23] 4 rfl (fun _ hS => yfa fl84_1 rfl) (hkc) ?_
  refine qL [9, 17, 18, 19, 20, 21, 22, 23] 5 rfl (fun _ hS => yld U23 rfl rfl (hS.blk hBn hQn) rfl) (hkc) ?_; refine qL [9, 17, 18, 19, 20, 21, 22, 23] 6 rfl (fun _ hS => ymv rfl) (hkc) ?_; refine qL [8, 9, 17, 18, 19, 20, 21, 22, 23] 7 rfl (fun _ hS => ymv rfl) (hkc) ?_; refine qL [9, 17, 18, 19, 20, 21, 22, 23] 8 rfl (fun _ hS => yad rfl rfl (by omega)) (hkc) ?_; refine qL [11, 12, 13, 17, 18, 19, 20, 21, 22, 23] 10 rfl (fun _ hS => ymv rfl) (hkc) ?_; refine qL [12, 13, 17, 18, 19, 20, 21, 22, 23] 11 rfl (fun _ hS => (by first | exact ync rfl | exact yncf rfl)) (hkc) ?_
  refine qL [13, 17, 18, 19, 20, 21, 22, 23] 12 rfl (fun _ hS => yfa fl84_2 rfl) (hkc) ?_; refine qL [17, 18, 19, 20, 21, 22, 23] 13 rfl (fun _ hS => yld U23 rfl rfl (hS.blk hBn hQn) rfl) (hkc) ?_; refine qL [17, 18, 19, 20, 21, 22, 23] 14 rfl (fun _ hS => ymv rfl) (hkc) ?_; refine qL [16, 17, 18, 19, 20, 21, 22, 23] 15 rfl (fun _ hS => ymv rfl) (hkc) ?_; refine qL [17, 18, 19, 20, 21, 22, 23] 16 rfl (fun _ hS => yad rfl rfl (by omega)) (hkc) ?_; refine hOneL (i := 9) (by kernel_rfl) ?_
  refine nCallL (i := 9) rfl rfl rfl (yc (args := [.tmp 33, .tmp 34, .tmp 36]) cf45 rfl) (delS_ret (i := posE E k) hK0 hone hlt (by omega)) ?_
  rintro kv9 w9 ⟨hS9, hk9, ho9⟩
  refine ⟨hkc.trans (hk9.mono' hQk), ?_⟩
  have hkc := hkc.trans (hk9.mono' hQk)
  have hV0 := hV0.kp hk9 (fun g hg e => (hd2 g e).1 hg)
  refine hOneL (i := 17) (by kernel_rfl) ?_; refine nCallL (i := 17) rfl rfl rfl (yc (args := [.tmp 41, .tmp 42, .tmp 44]) cf45 rfl) (delS_ret (i := posE E k) hV0 hone hlt (by omega)) ?_
  rintro vv17 w17 ⟨hS17, hk17, ho17⟩
  refine ⟨hkc.trans (hk17.mono' hQv), ?_⟩
  have hkc := hkc.trans (hk17.mono' hQv)
  have hS9 := hS9.kp hk17 (fun g hg e => (hd2 g (ho9 g hg)).1 e)
  refine qL [19, 20, 21, 22, 23] 18 rfl (fun _ hS => (by first | exact ync rfl | exact yncf rfl)) hkc ?_; refine qL [20, 21, 22, 23] 19 rfl (fun _ hS => yfa fl84_1 rfl) hkc ?_; refine hLate [20] (by kernel_rfl) (by kernel_rfl) ?_; refine qO 20 ?_; refine nEffP (i := 20) rfl rfl (zst ti23 rfl rfl (oneV_sl hS9) (hkc.blk hBn hQn) (by simp)) ?_
  rintro w20 ⟨hB20, hk20⟩
  refine ⟨trivial, ?_⟩
  refine qT 21 rfl (fun _ hS => (by first | exact ync rfl | exact yncf rfl)) (trivial) ?_; refine qT 22 rfl (fun _ hS => yfa fl84_2 rfl) (trivial) ?_; refine qO 23 ?_; refine nEffP (i := 23) rfl rfl (zst ti23 rfl rfl (oneV_sl hS17) hB20 (by simp)) ?_
  rintro w23 ⟨hB23, hk23⟩
  refine ⟨trivial, ?_⟩
  refine qE ?_; refine Run.qb (e := [(0, _), (1, _), (2, _), (3, _), (5, _)]) ?_
  have hk1723 := hk20.trans hk23
  have hnk : ∀ g, kv9.ownBlock = some g → g ≠ nb no := fun g hg e => by
   have h := ho9 g hg; rw [e] at h; exact hd1.1 h
  have hnv : ∀ g, vv17.ownBlock = some g → g ≠ nb no := fun g hg e => by
   have h := ho17 g hg; rw [e] at h; exact hd1.2.1 h
  obtain ⟨hM', hfp⟩ := hM.re (w' := w23) (n' := leafNd (delE E k)) (kv' := kv9) (vv' := vv17) (cv' := qc) hB23 (by
    have e : (leafNd (delE E k)).keys = (leafNd E).keys.take (posE E k) ++ (leafNd E).keys.drop (posE E k + 1) := by rw [hdel]; simp [leafNd]
    rw [e]
    have := hS9.kp hk1723 hnk
    simp only [List.map_append, List.map_take, List.map_drop, List.length_append, List.length_take, List.length_drop, hkl]
    rw [show min (posE E k) E.length + (E.length - (posE E k + 1)) = E.length - 1 by omega]
    exact this) (by
    have e : (leafNd (delE E k)).vals = (leafNd E).vals.take (posE E k) ++ (leafNd E).vals.drop (posE E k + 1) := by rw [hdel]; simp [leafNd]
    rw [e]
    have := hS17.kp hk1723 hnv
    simp only [List.map_append, List.map_take, List.map_drop, List.length_append, List.length_take, List.length_drop, hvl]
    rw [show min (posE E k) E.length + (E.length - (posE E k + 1)) = E.length - 1 by omega]
    exact this) (by
    have e : (leafNd (delE E k)).kids = (leafNd E).kids := rfl
    rw [e]
    exact (hC.kp hkc (fun g hg e => by
     rw [hQ] at e
     rcases e with e | e
     ·exact (hd2 g e).2 hg
     ·exact hd3 g e hg)).kp hk1723 (fun g hg e => hd1.2.2 (by rw [← e]; exact hg))) hbd' (fun g hg => .inl (ho9 g hg)) (fun g hg => .inl (ho17 g hg)) (fun g hg => .inl hg) (fun g hg => ⟨fun e => absurd (hM.lt g (.inr (.inl (ho9 g e)))) (by omega), fun e => absurd (hM.lt g (.inr (.inr (.inl (ho17 g e))))) (by omega)⟩)
  have hk2 : Kp (Pl.fp ⟨nb no, qk, qv, qc⟩) w w23 := (hkc.mono' (fun g hg => by
   rw [hQ] at hg
   exact hg.elim (fun e => .inr (.inl e)) (fun e => .inr (.inr (.inl e))))).trans (hk1723.mono' (fun g hg => .inl hg))
  exact (hkn _ _ ⟨kv9, vv17, rfl, hM', hfp, hk2⟩).qb
set_option maxHeartbeats 4000000 in
theorem delAt_inner {p : Nat} {k : Bytes} {bt bk bp h0 : Nat} (ih : DelAt p k bt bk bp (h0 + 1)) : DelAt p k bt bk bp (h0 + 2) := by
 intro w T nb F no lo hi ns es h hc hB hnd hin hhas hg hgr hnr hne
 have hz : sizeOk (T.size : Int) := size_ok h
 obtain ⟨z1, z2, -⟩ := id hz
 have hor : orderE T.size ≤ 1000 ∧ 8 ≤ orderE T.size := by unfold orderE; omega
 obtain ⟨c, ps, ns', hn, hns, hko, hlo, hnz, hfull, a, lo', hi', nm, em, e1, e2, ha, hBa, hnda, hina, hnonm, hsub, hes, he1, he2, hone, -⟩ := inner_step hz hB hnd hin
 obtain ⟨i, hi0⟩ : ∃ i, wayI (ps.map (·.1)) k = i := ⟨_, rfl⟩
 rw [hi0] at ha
 have hile : i ≤ ps.length := by have := wayI_le (ps.map (·.1)) k; rw [hi0, List.length_map] at this; exact this
 have hhas' : hasE em k := by rw [hes] at hhas; exact (hasE_mid he1 he2).1 hhas
 have hdel : delE es k = e1 ++ (delE em k ++ e2) := by rw [hes]; exact delE_mid he1 he2
 obtain ⟨mN, mC, mO, gv, kn, kc, ko, O⟩ := h.opn
 obtain ⟨q, hq, hM, hqF, -⟩ := h.nodeF hn
 obtain ⟨qb, qk, qv, qc⟩ := q
 dsimp only at hq
 subst hq
 have hBn := hM.blk
 have hC := hM.kids
 dsimp only at hBn hC
 have kcl : (innNd c ps).kids.length = ps.length + 1 := by simp [innNd]
 rw [kcl] at hC
 obtain ⟨gc, cc, rfl⟩ := some_of hC (by omega)
 have hal := hM.bd.cs a (List.mem_of_getElem? (show (innNd c ps).kids[_]? = some a from ha))
 have hamem : a ∈ c :: ps.map (·.2) := List.mem_of_getElem? ha
 have hBt := hc.t
 have hBk := hc.k
 have hBp := hc.f
 have hg0 : Ext w w.drew := Ext.drew0 w
 refine ret_of_run (e := [(0, _), (1, _), (2, _), (3, _)]) Tryz.func43 rfl Tryz.ntmps43 rfl rfl ?_; refine qN rfl ?_; refine qV ((by first | exact yld U24 rfl rfl hBt rfl | exact yld U24 rfl rfl O.blk rfl | exact yld U24 rfl rfl hBn rfl | exact yld U24 rfl rfl hBk rfl)) ?_; refine qV ((by first | exact ync rfl | exact yncf rfl)) ?_; refine qV (yfa fl74_5 rfl) ?_; refine qV ((by first | exact yld U71 rfl rfl hBt rfl | exact yld U71 rfl rfl O.blk rfl | exact yld U71 rfl rfl hBn rfl | exact yld U71 rfl rfl hBk rfl)) ?_; refine qV (ymv rfl) ?_
 refine qV (ylk (k := no) (K := KZ) U71 (ky_int U3) ti81 rfl rfl O.nm.l) ?_
 rw [show (getL kn no).getD (.pointer none) = ptr (nb no) 0 by rw [O.ng no, hn]; rfl]
 refine qV (yas rfl) ?_; refine rEnd ?_; refine run_seq ?_; refine qN rfl ?_; refine qV (ymv rfl) ?_; refine qV ((by first | exact ync rfl | exact yncf rfl)) ?_; refine qV (yfa fl84_0 rfl) ?_; refine qV ((by first | exact yld U4 rfl rfl hBt rfl | exact yld U4 rfl rfl O.blk rfl | exact yld U4 rfl rfl hBn rfl | exact yld U4 rfl rfl hBk rfl)) ?_; refine rEnd ?_; refine run_false rfl ?_; refine run_skip ?_; refine qN rfl ?_; refine qV (ymv rfl) ?_; refine qV ((by first | exact yld U9 rfl rfl hBt rfl | exact yld U9 rfl rfl O.blk rfl | exact yld U9 rfl rfl hBn rfl | exact yld U9 rfl rfl hBk rfl)) ?_
 refine rCall rfl rfl (yc (args := [.tmp 55, .tmp 56]) cf46 rfl) (way_ret k hBn hM.r hM.bd hko.2) ?_
 rintro _ w ⟨rfl, rfl⟩
 rw [show wayI (innNd c ps).keys k = i from hi0]
 refine qV (yas rfl) ?_; refine rEnd ?_; refine run_seq ?_; refine run_drawL [9] (fun w' => Ext w w') (by kernel_rfl) rfl ?_; refine qL [9] 0 rfl (fun _ hS => (by first | exact yld U80 rfl rfl (hS.blk hBn) rfl | exact yld U80 rfl rfl (hS.blk hBp) rfl)) (hg0) ?_; refine qL [2, 3, 4, 6, 7, 8, 9] 1 rfl (fun _ hS => ymv rfl) (hg0) ?_; refine qL [3, 4, 6, 7, 8, 9] 2 rfl (fun _ hS => (by first | exact ync rfl | exact yncf rfl)) (hg0) ?_; refine qL [4, 6, 7, 8, 9] 3 rfl (fun _ hS => yfa fl84_3 rfl) (hg0) ?_
 refine qL [6, 7, 8, 9] 4 rfl (fun _ hS => (by first | exact yld U82 rfl rfl (hS.blk hBn) rfl | exact yld U82 rfl rfl (hS.blk hBp) rfl)) (hg0) ?_; refine qL [6, 7, 8, 9] 5 rfl (fun _ hS => ymv rfl) (hg0) ?_; refine qL [7, 8, 9] 6 rfl (fun _ hS => yis U82 ti89 rfl rfl (by omega)) (hg0) ?_; refine qL [8, 9] 7 rfl (fun _ hS => yldc U89 rfl rfl (rd_u32 ((hC.ext hS).rd) (by omega) ha)) (hg0) ?_; refine qL [9] 8 rfl (fun _ hS => ycvSi64 rfl U89 U3 (by omega)) (hg0) ?_; refine hLate [9] (by kernel_rfl) (by kernel_rfl) ?_; refine qO 9 ?_
 refine nCall (i := 9) rfl rfl rfl (ycv' (args := [.tmp 66]) cf43 rfl rfl) (ih _ T nb F (a : Int) lo' hi' nm em (h.ext hg0) (hc.kp hg0.kp (fun i hi => .inl hi)) hBa hnda hina hhas' hg hgr hnr (fun c' ps' hn' e => by have := full_inn (hfull a hamem) hz hn'; rw [e] at this; simp at this)) ?_
 rintro v1 w1 ⟨rfl, T1, F1, h1, ⟨hcn1, hE1, ⟨nm', hBa1, hev1⟩, hkeys⟩, hk1, hF1⟩
 refine ⟨trivial, ?_⟩
 have hsz : T1.size = T.size := hE1.size
 have hgr1 : ∀ x ∈ T1.given, 1 ≤ x ∧ x ≤ 2147483647 := fun x hx => (hE1.giv x hx).elim (hgr x) (fun e => hnr x e.1)
 have hgl1 : T1.given.length ≤ 2147483647 := by have := rise_len hE1.srt.rise hgr1; omega
 have hk01 : Kp F w w1 := hg0.kp.trans hk1
 have hz0 := hg0.size
 have hF01 : ∀ i, F1 i → F i ∨ w.heap.size ≤ i := fun i hi => (hF1 i hi).imp id (fun e => by omega)
 have hc1 : DelC w1 F1 p k bt bk bp := hc.kp hk01 hF01
 have hBt1 := hc1.t
 obtain ⟨ns1, M, hev2⟩ := hone T1.nodes nm' _ hBa1 hev1
 have M1 : Mid T1.size h0 T1.nodes no lo hi c ps ns1 (e1 ++ (delE em k ++ e2)) a := by rw [hsz]; exact M
 refine qE ?_; refine Run.qb (e := [(0, _), (1, _), (8, _)]) ?_; refine run_reg rfl ?_; refine qV (yld U24 rfl rfl hBt1 rfl) ?_; refine qV (ymv rfl) ?_; refine qV (ymv rfl) ?_; refine rCall rfl rfl (yc (args := [.tmp 68, .tmp 69, .tmp 70]) cf47 rfl) (even_all h1 M1 (hne c ps hn) hile ha (hkeys (hfull a hamem)) hE1.srt (by omega)) ?_
 rintro _ w2 ⟨rfl, T2, F2, ns2, h2, b1, b2, b3, b4, ⟨ps', hn2, hps'⟩, hk2, hF2⟩
 rw [hsz] at b1
 refine rEnd ?_; refine run_end Tryz.func43 rfl ?_; refine ⟨_, rfl, rfl, T2, F2, h2, ⟨by rw [b4, hcn1], (hE1.trans b3).mono (by omega), ⟨ns2, by rw [hdel]; exact b1, hev2.trans b2⟩, fun hlow m hm => ?_⟩, hk01.trans_new hk2 (fun i hi => (hF01 i hi).symm), fun i hi => ?_⟩
 ·rw [hn2] at hm
  cases hm
  have := hlow _ hn
  rw [innNd_low] at this
  intro e
  have : ps' = [] := by simpa [innNd] using e
  subst this
  simp at hps'
  omega
 ·have := hk01.size
  rcases hF2 i hi with e | e
  ·exact hF01 i e
  ·exact .inr (by omega)
theorem delAt_all {p : Nat} {k : Bytes} {bt bk bp : Nat} : ∀ H, DelAt p k bt bk bp (H + 1)
 | 0 => delAt_leaf
 | h + 1 => delAt_inner (delAt_all h)
end
end Go.Proofs.YtocnhaoilnojmaaGreat
namespace Go.Proofs.YtocnhaoilnojmaaGreat
open Go Go.RowKit
set_option linter.all false
set_option maxRecDepth 100000
theorem getR_ok {es : Es} {k : Bytes} (h : (getR es k).2 = 0) : keyOk k ∧ hasE es k := by
 unfold getR at h
 by_cases hk : keyOk k
 ·rw [if_pos hk] at h
  by_cases hh : hasE es k
  ·exact ⟨hk, hh⟩
  ·rw [getE_none hh] at h
   simp at h
 ·rw [if_neg hk] at h
  simp at h
section
variable {w : World} {p : Nat} {T : Tr} {nb : Int → Nat} {F : Nat → Prop}
set_option maxHeartbeats 4000000 in
theorem deleteT_ret (h : TreeA w p T nb F) {H : Nat} {ns : List Int} {es : Es} (hI : Inv T H ns es) (hes : es.length ≤ 900000) (k : Bytes) :
  Ret Tryz.prog 11 [ptr p 0, S k] w fun val w' => (val = I (getR es k).2 ∧ (getR es k).2 ≠ 0 ∧ Ext w w') ∨ (val = I 0 ∧ (getR es k).2 = 0 ∧ ∃ T' H' ns', TreeS p F w w' T' H' ns' (delE es k) ∧ EvoR T T' 0) := by
 have hz : sizeOk (T.size : Int) := size_ok h
 obtain ⟨z1, z2, -⟩ := id hz
 have hgl := hI.gl
 have hlt := h.lt
 refine ret_of_run (e := [(0, _), (1, _)]) Tryz.func11 rfl Tryz.ntmps11 rfl rfl ?_; refine qN rfl ?_; refine rValP rfl rfl (pbx rfl rfl) ?_
 rintro _ w1 ⟨bt, rfl, hbt, hx1, hB1⟩
 refine rValP rfl rfl (pbx rfl rfl) ?_
 rintro _ w2 ⟨bk, rfl, hbk, hx2, hB2⟩
 have hz1 := hx1.size
 have hz2 := hx2.size
 have hBt2 := hx2.blk hB1
 have hx02 : Ext w w2 := hx1.trans hx2
 have hFt : ¬ F bt := fun e => by have := hlt _ e; omega
 have hFk : ¬ F bk := fun e => by have := hlt _ e; omega
 refine qV (yas rfl) ?_; refine rEnd ?_; refine run_seq ?_; refine qN rfl ?_; refine qV ((by first | exact yld U24 rfl rfl hBt2 rfl | exact yld U24 rfl rfl hB2 rfl)) ?_; refine qV ((by first | exact yld U9 rfl rfl hBt2 rfl | exact yld U9 rfl rfl hB2 rfl)) ?_; refine rCall rfl rfl (yc (args := [.tmp 9, .tmp 10]) cf42 rfl) (get_ret (h.ext hx02) hI k) ?_
 rintro _ w3 ⟨rfl, hx3⟩
 have hx03 := hx02.trans hx3
 refine qV (ymv rfl) ?_; refine qV (yex rfl rfl) ?_; refine qV (yex rfl rfl) ?_; refine qV (yas rfl) ?_; refine qV (yas rfl) ?_; refine qM rfl ?_; refine qV (ymv rfl) ?_; refine qV (yne rfl rfl) ?_; refine rEnd ?_; refine run_if rfl (fun he => ?_) (fun he => ?_)
 ·skip
  refine qN rfl ?_; refine qV (ymv rfl) ?_; refine qV (yas rfl) ?_; refine rEnd ?_; refine run_ret Tryz.func11 rfl ?_
  exact ⟨_, rfl, .inl ⟨rfl, he, hx03⟩⟩
 ·skip
  have he' : (getR es k).2 = 0 := by omega
  obtain ⟨hk, hhas⟩ := getR_ok he'
  have hBt3 := hx3.blk hBt2
  have hBk3 := hx3.blk hB2
  have hz3 := hx3.size
  refine run_skip ?_; refine qN rfl ?_; refine rValP rfl rfl (pal (cs := [_]) ti80 rfl) ?_
  rintro _ w4 ⟨bp, rfl, hbp, hx4, hB4⟩
  refine qM rfl ?_; refine qV (ymf (first := []) (caps := [.tmp 2, .tmp 3, .tmp 7]) rfl rfl) ?_; refine rEffP rfl (zst ti80 rfl rfl rfl hB4 (by simp)) ?_
  rintro w5 ⟨hB5, hk5⟩
  have hx35 : Ext w3 w5 := hx4.trans_new hk5 (fun i hi => by omega)
  have hx05 := hx03.trans hx35
  have h5 := h.ext hx05
  have hFp : ¬ F bp := fun e => by have := hlt _ e; omega
  have hc5 : DelC w5 F p k bt bk bp := ⟨hx35.blk hBt3, hx35.blk hBk3, hB5, hFt, hFk, hFp⟩
  have hg5 : Ext w5 w5.drew := Ext.drew0 w5
  have hr : T.root ≠ 0 := fun e => by
   rcases hI.std with ⟨-, -, -, e'⟩ | ⟨e', -⟩
   ·rw [e'] at hhas
    have := hasE_lt hhas
    simp at this
   ·exact e' e
  have hP := hI.toP hr
  have hdel : Ret Tryz.prog 43 [I T.root, ptr bt 0, ptr bk 0, ptr bp 0] w5.drew fun val w' => val = .tuple #[] ∧ ∃ T' F', TreeA w' p T' nb F' ∧ DelPost T H T.root [] none ns es k T' ∧ Kp F w5.drew w' ∧ ∀ i, F' i → F i ∨ w5.drew.heap.size ≤ i := by
   obtain ⟨h0, rfl⟩ : ∃ h0, H = h0 + 1 := ⟨H - 1, by have := hP.bn.pos; omega⟩
   refine delAt_all h0 _ T nb F T.root [] none ns es (h5.ext hg5) (hc5.kp hg5.kp (fun i hi => .inl hi)) hP.bn hP.nd (inB_top k) hhas hI.giv hI.gnum hI.num (fun c ps hn => ?_)
   rcases hI.std with ⟨e, -⟩ | ⟨-, -, -, -, hk'⟩
   ·exact absurd e hr
   ·have := hk' _ hn
    intro e
    rw [e] at this
    exact this rfl
  obtain ⟨mN5, mC5, mO5, gv5, kn5, kc5, ko5, O5⟩ := h5.opn
  have hBO5 := O5.blk
  have hBt5 := hc5.t
  refine rEnd ?_; refine run_seq ?_; refine run_drawL [5] (fun w' => Ext w5 w') (by kernel_rfl) rfl ?_; refine qL [5] 0 rfl (fun _ hS => (by first | exact yld U80 rfl rfl (hS.blk hB5) rfl | exact yld U80 rfl rfl (hS.blk hBt5) rfl | exact yld U80 rfl rfl (hS.blk hBO5) rfl)) (hg5) ?_; refine qL [2, 3, 4, 5] 1 rfl (fun _ hS => (by first | exact yld U24 rfl rfl (hS.blk hB5) rfl | exact yld U24 rfl rfl (hS.blk hBt5) rfl | exact yld U24 rfl rfl (hS.blk hBO5) rfl)) (hg5) ?_; refine qL [3, 4, 5] 2 rfl (fun _ hS => (by first | exact ync rfl | exact yncf rfl)) (hg5) ?_
  refine qL [4, 5] 3 rfl (fun _ hS => yfa fl74_1 rfl) (hg5) ?_; refine qL [5] 4 rfl (fun _ hS => (by first | exact yld U3 rfl rfl (hS.blk hB5) rfl | exact yld U3 rfl rfl (hS.blk hBt5) rfl | exact yld U3 rfl rfl (hS.blk hBO5) rfl)) (hg5) ?_; refine hLate [5] (by kernel_rfl) (by kernel_rfl) ?_; refine qO 5 ?_; refine nCall (i := 5) rfl rfl rfl (ycv' (args := [.tmp 22]) cf43 rfl rfl) (hdel) ?_
  rintro _ w8 ⟨rfl, T2, F2, h2, ⟨hcn2, hE2, hone, -⟩, hk2, hF2⟩
  refine ⟨trivial, ?_⟩
  have hk08 : Kp F w w8 := (hx05.trans hg5).kp.trans hk2
  have hz5 := hg5.size
  have hz05 := hx05.size
  have hF2' : ∀ g, F2 g → F g ∨ w.heap.size ≤ g := fun g hg => (hF2 g hg).imp id (fun e => by omega)
  have hBt8 := (hg5.kp.trans hk2).blk hBt5 hFt
  obtain ⟨mN8, mC8, mO8, gv8, kn8, kc8, ko8, O8⟩ := h2.opn
  have hBO8 := O8.blk
  have hF2t : ¬ F2 bt := fun e => (hF2 _ e).elim hFt (by have := hBt5.lt; omega)
  obtain ⟨nsx, hb2, hev2⟩ := hone
  have hdl := delE_len hhas
  have hcp : T.count = es.length := hI.cnt
  refine qE ?_; refine qN rfl ?_; refine qV ((by first | exact yld U24 rfl rfl hBt8 rfl | exact yld U24 rfl rfl hBO8 rfl)) ?_; refine qV ((by first | exact ync rfl | exact yncf rfl)) ?_; refine qV (yfa fl74_4 rfl) ?_; refine qV ((by first | exact yld U3 rfl rfl hBt8 rfl | exact yld U3 rfl rfl hBO8 rfl)) ?_; refine qV (ysb rfl rfl (by omega)) ?_; refine qV ((by first | exact ync rfl | exact yncf rfl)) ?_; refine qV (yfa fl74_4 rfl) ?_; refine rEffP rfl (zst ti3 rfl rfl rfl hBO8 (by simp [trCs])) ?_
  rintro w9 ⟨hB9, hk9⟩
  have e9 : (T2.count : Int) - 1 = ((T.count - 1 : Nat) : Int) := by rw [hcn2]; omega
  rw [e9] at hB9
  have h9 := O8.setB w9 T2.root (T.count - 1) (by simpa [trCs] using hB9) hk9
  have hE3 : Evo T { T2 with root := T2.root, count := T.count - 1 } 0 := ⟨hE2.size, hE2.old, hE2.root, hE2.len, hE2.giv, hE2.nod, ⟨hE2.srt.rise, hE2.srt.free⟩, hE2.chg⟩
  have hI2 : InvP { T2 with root := T2.root, count := T.count - 1 } H nsx (delE es k) := hP.step hE3 hb2 hev2 (by show T.count - 1 = _; omega)
  have hBt9 := hk9.blk hBt8 (fun e => hF2t (by rw [e]; exact O8.fp.1))
  refine rEnd ?_; refine Run.qb (e := [(2, _), (4, _)]) ?_; refine qN rfl ?_; refine qV (yld U24 rfl rfl hBt9 rfl) ?_; refine rCall rfl rfl (yc (args := [.tmp 31]) cf48 rfl) (settle_ret h9 hI2) ?_
  rintro _ w10 ⟨rfl, T3, H3, ns3, F3, h3, hI3, hH3, hE4, hk10, hF3⟩
  refine qM rfl ?_; refine qV (yas rfl) ?_; refine rEnd ?_; refine run_ret Tryz.func11 rfl ?_
  have hk9F : Kp F2 w8 w9 := hk9.mono' (fun i hi => by rw [hi]; exact O8.fp.1)
  have hz8 := hk08.size
  have hz9 := hk9.size
  refine ⟨_, rfl, .inr ⟨rfl, he', T3, H3, ns3, ⟨_, F3, h3, hI3, (hk08.trans_new (hk9F.trans hk10) (fun i hi => (hF2' i hi).symm)), fun g hg => ?_⟩, hE3.toR.trans hE4⟩⟩
  rcases hF3 g hg with e | e
  ·exact hF2' g e
  ·exact .inr (by omega)
end
end Go.Proofs.YtocnhaoilnojmaaGreat
namespace Go.Proofs.YtocnhaoilnojmaaGreat
open Go Go.RowKit
set_option linter.all false
set_option maxRecDepth 100000
theorem Inv.pos {T : Tr} {H : Nat} {ns : List Int} {es : Es} (h : Inv T H ns es) (hz : sizeOk (T.size : Int)) : (T.root = 0 ↔ es = []) ∧ (es ≠ [] → 1 ≤ H) := by
 rcases h.std with ⟨h0, -, -, rfl⟩ | ⟨h0, h1, h2, -, h3⟩
 ·exact ⟨⟨fun _ => rfl, fun _ => h0⟩, fun e => absurd rfl e⟩
 ·refine ⟨⟨fun e => absurd e h0, fun e => ?_⟩, fun _ => h1⟩
  have := (bn_cnts hz h2 h3).1
  rw [e] at this
  simp at this
section
variable {w : World}
set_option maxHeartbeats 1000000 in
theorem awake_ret (w : World) : Ret Tryz.prog 16 [] w fun v w' => v = .bool true ∧ Ext w w' := by
 have hz : sizeOk ((512 : Nat) : Int) := by unfold sizeOk; decide
 refine ret_of_run (e := []) Tryz.func16 rfl Tryz.ntmps16 rfl rfl ?_; refine qN rfl ?_; refine qV (yas rfl) ?_; refine qM rfl ?_; refine rCall rfl rfl (yc (args := [.const (Value.int .i64 512)]) cf8 rfl) (newT_ret 512) ?_
 rintro v1 w1 ⟨hx1, hv1⟩
 obtain ⟨p, F, rfl, h1, hF⟩ : ∃ p F, v1 = .tuple #[ptr p 0, I 0] ∧ TreeA w1 p (Tr0 512) (fun _ => 0) F ∧ ∀ k, F k → w.heap.size ≤ k := by
  rcases hv1 with ⟨-, h⟩ | ⟨h, -⟩
  ·exact h
  ·exact absurd hz h
 refine qV (ymv rfl) ?_; refine qV (yex rfl rfl) ?_; refine qV (yex rfl rfl) ?_; refine qV (yas rfl) ?_; refine qV (yas rfl) ?_; refine qM rfl ?_; refine qV (ymv rfl) ?_; refine rValP rfl rfl (pbs (parts := [(0, .const (Value.int .i64 9)), (1, .const (Value.int .i64 7))]) (cs := [_, _]) (zs := [Value.int .i64 0, Value.int .i64 0]) U34 ti3 rfl (by kernel_rfl) rfl rfl rfl (by decide)) ?_
 rintro _ w2 ⟨b2, rfl, ⟨hb2, hx2, hB2⟩, hS2⟩
 have hok : giveOk (Tr0 512) [9, 7] := ⟨by decide, fun x hx => ⟨by simp at hx; omega, rfl, rfl, List.not_mem_nil⟩⟩
 have hz1 := hx1.size
 have hz2 := hx2.size
 refine rCall rfl rfl (yc (args := [.tmp 11, .tmp 12]) cf50 rfl) (give_ret (h1.ext hx2) (inv0 512) (l := [9, 7]) hS2.rd (by decide)) ?_
 rintro v3 w3 hv3
 obtain ⟨rfl, hk3, F3, h3, hF3⟩ : v3 = I 0 ∧ Kp F w2 w3 ∧ ∃ F', TreeA w3 p { Tr0 512 with given := sortZ ((Tr0 512).given ++ [9, 7]) } (fun _ => 0) F' ∧ ∀ k, F' k → F k ∨ w2.heap.size ≤ k := by
  rcases hv3 with ⟨h, -, h', h''⟩ | ⟨-, h, -⟩
  ·exact ⟨h, h', h''⟩
  ·exact absurd hok h
 have hI3 := (inv0 512).give hok
 refine qV (yas rfl) ?_; refine qM rfl ?_; refine qV (ymv rfl) ?_; refine rCall rfl rfl (yc (args := [.tmp 14, .const (Value.string (⟨#[97]⟩)), .const (Value.string (⟨#[120]⟩))]) cf38 rfl) (putT_ret h3 hI3 (by simp) _ _ (by decide) (by decide)) ?_
 rintro v4 w4 hv4
 obtain ⟨rfl, T4, H4, ns4, nb4, F4, h4, hI4, hk4, hF4, hev⟩ : v4 = I 0 ∧ ∃ T4 H4 ns4 nb4 F4, TreeA w4 p T4 nb4 F4 ∧ Inv T4 H4 ns4 [([97], [120])] ∧ Kp F3 w3 w4 ∧ (∀ k, F4 k → F3 k ∨ w3.heap.size ≤ k) ∧ EvoR _ T4 (0 + 3) := by
  rcases hv4 with ⟨-, h, -⟩ | ⟨-, -, h, -⟩ | ⟨h, -, -, T4, H4, ns4, ⟨nb4, F4, h1, h2, h3, h4⟩, h5⟩
  ·exact absurd (by unfold may keyOk mostE Tr0; decide) h
  ·rw [show (sortZ ((Tr0 512).given ++ [9, 7])).length = 2 by rw [sortZ_len]; rfl] at h; omega
  ·exact ⟨h, T4, H4, ns4, nb4, F4, h1, h2, h3, h4, h5⟩
 refine qV (yas rfl) ?_; refine qM rfl ?_; refine qV (ymv rfl) ?_; refine rCall rfl rfl (yc (args := [.tmp 17, .const (Value.string (⟨#[97]⟩))]) cf42 rfl) (get_ret h4 hI4 _) ?_
 rintro _ w5 ⟨rfl, hx5⟩
 have hz4 : sizeOk (T4.size : Int) := by rw [(show Evo _ _ _ from hev).size]; exact hz
 have hH1 := (Inv.cnts hz4 hI4).2
 have hH2 := (hI4.pos hz4).2 (by simp)
 have hH : H4 = 1 := by simp at hH1; omega
 have hc4 : T4.count = 1 := by rw [hI4.cnt]; rfl
 have h5 := h4.ext hx5
 rw [show getR [([97], [120])] [97] = ([120], 0) by rfl]
 refine qV (ymv rfl) ?_; refine qV (yex rfl rfl) ?_; refine qV (yex rfl rfl) ?_; refine qV (yas rfl) ?_; refine qV (yas rfl) ?_; refine qM rfl ?_; refine qV (ymv rfl) ?_; refine qV (yeq rfl rfl) ?_; refine rTrue (by (first | rfl | assumption | omega | decide)) ?_; refine qV (ymv rfl) ?_; refine qV (ymv rfl) ?_; refine qV (yeq rfl rfl) ?_; refine rTrue (by (first | rfl | assumption | omega | decide)) ?_; refine qV (ypT rfl rfl) ?_; refine qV (ymv rfl) ?_; refine qV (ymv rfl) ?_; refine qV (yeq rfl rfl) ?_; refine rTrue (by (first | rfl | assumption | omega | decide)) ?_
 refine qV (ypT rfl rfl) ?_; refine qV (ymv rfl) ?_; refine qV (ymv rfl) ?_; refine qV (yeq rfl rfl) ?_; refine rTrue (by (first | rfl | assumption | omega | decide)) ?_; refine qV (ypT rfl rfl) ?_; refine qV (ymv rfl) ?_; refine qV (ymv rfl) ?_; refine qV (yeqS rfl rfl) ?_; refine rTrue (by (first | rfl | assumption | omega | decide)) ?_; refine qV (ypT rfl rfl) ?_; refine qV (ymv rfl) ?_; refine qV (ymv rfl) ?_; refine rCall rfl rfl (yc (args := [.tmp 40]) cf14 rfl) (lenT_ret h5) ?_
 rintro _ w6 ⟨rfl, rfl⟩
 rw [hc4]
 refine qV (yeq rfl rfl) ?_; refine rTrue (by (first | rfl | assumption | omega | decide)) ?_; refine qV (ypT rfl rfl) ?_; refine qV (ymv rfl) ?_; refine qV (ymv rfl) ?_; refine rCall rfl rfl (yc (args := [.tmp 45]) cf20 rfl) (depth_ret h5 hI4 (by omega)) ?_
 rintro _ w6 ⟨rfl, rfl⟩
 rw [hH]
 refine qV (yeq rfl rfl) ?_; refine rTrue (by (first | rfl | assumption | omega | decide)) ?_; refine qV (ypT rfl rfl) ?_; refine qV (yas rfl) ?_; refine rEnd ?_; refine Run.qb (e := [(0, _)]) ?_; refine run_ret Tryz.func16 rfl ?_; refine ⟨_, rfl, rfl, ?_⟩
 have hF3' : ∀ k, F3 k → w.heap.size ≤ k := fun k hk => (hF3 k hk).elim (hF k) (fun e => by omega)
 exact (((hx1.trans hx2).trans_new hk3 (fun i hi => hF i hi)).trans_new hk4 (fun i hi => hF3' i hi)).trans hx5
/-- Is a number among these? -/
theorem has_ret {lv : Value} {l : List Int} (hR : Rd w lv 1 l.length (l.map I)) (hl : l.length ≤ 17592186044416) (no : Int) : Ret Tryz.prog 33 [lv, I no] w fun v w' => v = .bool (decide (no ∈ l)) ∧ w' = w := by
 obtain ⟨a, c, rfl, -⟩ := hR.shape
 refine ret_of_run (e := [(0, _), (1, _)]) Tryz.func33 rfl Tryz.ntmps33 rfl rfl ?_; refine qN rfl ?_; refine qV (yas rfl) ?_; refine rEnd ?_; refine run_seq ?_; refine qN rfl ?_; refine qV (yas rfl) ?_; refine rEnd ?_; refine run_block ?_; refine run_loop (α := Nat) (0) (fun i => [(0, .slice a l.length c), (1, I no), (5, I (i : Int))]) (fun i w' => w' = w ∧ i ≤ l.length ∧ no ∉ l.take i) (fun i => l.length - i) (by repeat (first | exact Sub.nil | refine Sub.cons rfl ?_)) ?hI ?hround
 case hI => exact ⟨rfl, Nat.zero_le _, by simp⟩
 case hround =>
  rintro i w1 ⟨rfl, hi, hall⟩ ih
  try dsimp only
  refine run_seq ?_; refine qN rfl ?_; refine qV (ymv rfl) ?_; refine qV (ymv rfl) ?_; refine qV (yln U34 rfl) ?_; refine qV (ylt rfl rfl) ?_; refine rEnd ?_; refine run_if rfl (fun hlt => ?_) (fun hlt => ?_)
  ·skip
   have hi' : i < l.length := by omega
   obtain ⟨lb, lo, y, rfl, hy⟩ := rd_getI hR hi'
   refine run_skip ?_; refine run_seq ?_; refine run_block ?_; refine qN rfl ?_; refine qV (ymv rfl) ?_; refine qV (ymv rfl) ?_; refine qV (yis U34 ti3 rfl rfl (by omega)) ?_; refine qV (yldc U3 rfl rfl (rd_intT hR hi' hy)) ?_; refine qV (ymv rfl) ?_; refine qV (yeq rfl rfl) ?_; refine rEnd ?_; refine run_if rfl (fun he => ?_) (fun he => ?_)
   ·skip
    refine qN rfl ?_; refine qV (yas rfl) ?_; refine rEnd ?_; refine run_ret Tryz.func33 rfl ?_
    exact ⟨_, rfl, by rw [decide_eq_true (by rw [← he]; exact List.mem_of_getElem? hy)]; rfl, rfl⟩
   ·skip
    refine run_skip ?_; refine run_inBlock ?_; refine run_reg rfl ?_; refine qV (ymv rfl) ?_; refine qV (yad rfl rfl (by omega)) ?_; refine qV (yas rfl) ?_; refine rEnd ?_; refine (ih (i + 1) _ ⟨rfl, by omega, fun hh => ?_⟩ (by omega)).qb
    rcases (mem_take_succ hy).1 hh with hx | hx
    ·exact hall hx
    ·exact he hx.symm
  ·skip
   rw [List.take_of_length_le (by omega)] at hall
   refine run_exit rfl ?_; refine qN rfl ?_; refine qV (yas rfl) ?_; refine rEnd ?_; refine run_ret Tryz.func33 rfl ?_
   exact ⟨_, rfl, by rw [decide_eq_false hall]; rfl, rfl⟩
/-- Is there a page of a number? -/
theorem page_ret {lv : Value} {l : Pgs} (hR : Rd w lv 2 l.length (pgC l)) (hl : l.length ≤ 17592186044416) (no : Int) : Ret Tryz.prog 32 [lv, I no] w fun v w' => v = .bool (decide (no ∈ l.map (·.1))) ∧ w' = w := by
 obtain ⟨a, c, rfl, -⟩ := hR.shape
 refine ret_of_run (e := [(0, _), (1, _)]) Tryz.func32 rfl Tryz.ntmps32 rfl rfl ?_; refine qN rfl ?_; refine qV (yas rfl) ?_; refine rEnd ?_; refine run_seq ?_; refine qN rfl ?_; refine qV (yas rfl) ?_; refine rEnd ?_; refine run_block ?_; refine run_loop (α := Nat) (0) (fun i => [(0, .slice a l.length c), (1, I no), (5, I (i : Int))]) (fun i w' => w' = w ∧ i ≤ l.length ∧ no ∉ (l.take i).map (·.1)) (fun i => l.length - i) (by repeat (first | exact Sub.nil | refine Sub.cons rfl ?_)) ?hI ?hround
 case hI => exact ⟨rfl, Nat.zero_le _, by simp⟩
 case hround =>
  rintro i w1 ⟨rfl, hi, hall⟩ ih
  try dsimp only
  refine run_seq ?_; refine qN rfl ?_; refine qV (ymv rfl) ?_; refine qV (ymv rfl) ?_; refine qV (yln U33 rfl) ?_; refine qV (ylt rfl rfl) ?_; refine rEnd ?_; refine run_if rfl (fun hlt => ?_) (fun hlt => ?_)
  ·skip
   have hi' : i < l.length := by omega
   obtain ⟨lb, lo, y, rfl, hy⟩ := rd_pgs hR rfl hi'
   refine run_skip ?_; refine run_seq ?_; refine run_block ?_; refine qN rfl ?_; refine qV (ymv rfl) ?_; refine qV (ymv rfl) ?_; refine qV (yis U33 ti54 rfl rfl (by omega)) ?_; refine qV (yfa fl54_0 rfl) ?_; refine qV (yldc U3 rfl rfl (rd_pg0 hR hi' hy)) ?_; refine qV (ymv rfl) ?_; refine qV (yeq rfl rfl) ?_; refine rEnd ?_; refine run_if rfl (fun he => ?_) (fun he => ?_)
   ·skip
    refine qN rfl ?_; refine qV (yas rfl) ?_; refine rEnd ?_; refine run_ret Tryz.func32 rfl ?_
    exact ⟨_, rfl, by rw [decide_eq_true (List.mem_map.2 ⟨y, List.mem_of_getElem? hy, he⟩)]; rfl, rfl⟩
   ·skip
    refine run_skip ?_; refine run_inBlock ?_; refine run_reg rfl ?_; refine qV (ymv rfl) ?_; refine qV (yad rfl rfl (by omega)) ?_; refine qV (yas rfl) ?_; refine rEnd ?_; refine (ih (i + 1) _ ⟨rfl, by omega, fun hh => ?_⟩ (by omega)).qb
    obtain ⟨x, hx, e⟩ := List.mem_map.1 hh
    rcases (mem_take_succ hy).1 hx with hx | rfl
    ·exact hall (List.mem_map.2 ⟨x, hx, e⟩)
    ·exact he e
  ·skip
   rw [List.take_of_length_le (by omega)] at hall
   refine run_exit rfl ?_; refine qN rfl ?_; refine qV (yas rfl) ?_; refine rEnd ?_; refine run_ret Tryz.func32 rfl ?_
   exact ⟨_, rfl, by rw [decide_eq_false hall]; rfl, rfl⟩
/-- The document's pages of the program's. -/
theorem pagesL_ret {lv : Value} {l : Pgs} (hR : Rd w lv 2 l.length (pgC l)) (hl : l.length ≤ 1000000) : Ret Tryz.prog 29 [lv] w fun v w' => Ext w w' ∧ Sl w' v 54 2 l.length (pgC l) ∧ ∀ g, v.ownBlock = some g → w.heap.size ≤ g := by
 obtain ⟨a, c, rfl, -⟩ := hR.shape
 have hml : maxLen = 9223372036854775807 := rfl
 refine ret_of_run (e := [(0, _)]) Tryz.func29 rfl Tryz.ntmps29 rfl rfl ?_; refine qN rfl ?_; refine qV (yas rfl) ?_; refine qM rfl ?_; refine qV (yas rfl) ?_; refine rEnd ?_; refine run_seq ?_; refine qN rfl ?_; refine qV (yas rfl) ?_; refine rEnd ?_; refine run_block ?_
 refine run_loop (α := Nat × Value) ((0, .slice none 0 0)) (fun x => [(0, .slice a l.length c), (3, x.2), (4, I (x.1 : Int))]) (fun x w' => x.1 ≤ l.length ∧ Ext w w' ∧ Sl w' x.2 54 2 (l.take x.1).length (pgC (l.take x.1)) ∧ ∀ g, x.2.ownBlock = some g → w.heap.size ≤ g) (fun x => l.length - x.1) (by repeat (first | exact Sub.nil | refine Sub.cons rfl ?_)) ?hI ?hround
 case hI => exact ⟨Nat.zero_le _, Ext.refl _, Sl.nil _ _ _, fun g hg => by simp [Value.ownBlock] at hg⟩
 case hround =>
  rintro ⟨j, ov⟩ w1 ⟨hj, hx1, hS1, ho1⟩ ih
  dsimp only at hj hS1 ho1
  have htl : (l.take j).length = j := by rw [List.length_take]; omega
  try dsimp only
  refine run_seq ?_; refine qN rfl ?_; refine qV (ymv rfl) ?_; refine qV (ymv rfl) ?_; refine qV (yln U52 rfl) ?_; refine qV (ylt rfl rfl) ?_; refine rEnd ?_; refine run_if rfl (fun hlt => ?_) (fun hlt => ?_)
  ·skip
   have hj' : j < l.length := by omega
   obtain ⟨lb, lo, y, rfl, hy⟩ := rd_pgs hR rfl hj'
   have hg : Ext w w1.drew := hx1.trans (Ext.drew0 w1)
   have hz1 := hx1.size
   refine run_skip ?_; refine run_seq ?_; refine run_block ?_; refine run_draw (fun w' => Ext w w') (by kernel_rfl) rfl ?_; refine qT 0 rfl (fun _ hS => ymv rfl) (hg) ?_; refine qT 1 rfl (fun _ hS => ymv rfl) (hg) ?_; refine qT 2 rfl (fun _ hS => ymv rfl) (hg) ?_; refine qT 3 rfl (fun _ hS => yis U52 ti55 rfl rfl (by omega)) (hg) ?_; refine qT 4 rfl (fun _ hS => yfa fl55_0 rfl) (hg) ?_; refine qT 6 rfl (fun _ hS => ymv rfl) (hg) ?_; refine qT 7 rfl (fun _ hS => ymv rfl) (hg) ?_; refine qT 8 rfl (fun _ hS => yis U52 ti55 rfl rfl (by omega)) (hg) ?_
   refine qT 9 rfl (fun _ hS => yfa fl55_1 rfl) (hg) ?_; refine qT 5 rfl (fun _ hS => yldc U3 rfl rfl (rd_pg0 (hR.ext hS) hj' hy)) (hg) ?_; refine qT 10 rfl (fun _ hS => yldc U9 rfl rfl (rd_pg1 (hR.ext hS) hj' hy)) (hg) ?_; refine qT 11 rfl (fun _ hS => ybd (parts := [(0, .tmp 16), (1, .tmp 21)]) (cs := [_, _]) ti54 rfl sp54 rfl rfl) (hg) ?_; refine qO 12 ?_; refine nValP (i := 12) rfl rfl rfl (pbs (parts := [(0, .tmp 22)]) (cs := [_, _]) (zs := [Value.int .i64 0, Value.string ⟨#[]⟩]) U33 ti54 rfl (by kernel_rfl) rfl rfl rfl (by decide)) ?_
   rintro _ w2 ⟨b2, rfl, ⟨hb2, hx2, hB2⟩, hS2⟩
   refine ⟨hg.trans hx2, ?_⟩
   have hgz := (hg.trans hx2).size
   refine qO 13 ?_; refine nValP (i := 13) rfl rfl rfl (pap U33 ti54 rfl (by decide) rfl rfl (hS1.ext ((Ext.drew0 w1).trans hx2)) hS2.rd (by intro c hc; simp at hc; rcases hc with rfl | rfl <;> rfl) (by omega) (by omega)) ?_
   rintro ov2 w3 ⟨hS3, hk3, ho3, -⟩
   refine ⟨(hg.trans hx2).trans_new hk3 (fun i hi => ho1 i hi), ?_⟩
   refine qT 14 rfl (fun _ hS => yas rfl) ((hg.trans hx2).trans_new hk3 (fun i hi => ho1 i hi)) ?_; refine qE ?_; refine run_inBlock ?_; refine run_reg rfl ?_; refine qV (ymv rfl) ?_; refine qV (yad rfl rfl (by omega)) ?_; refine qV (yas rfl) ?_; refine rEnd ?_; refine (ih (j + 1, ov2) w3 ⟨by dsimp only; omega, (hg.trans hx2).trans_new hk3 (fun i hi => ho1 i hi), ?_, fun g hg' => ?_⟩ (by dsimp only; omega)).qb
   ·obtain ⟨h1, h2⟩ := List.getElem?_eq_some_iff.1 hy
    dsimp only
    rw [List.take_succ_eq_append_getElem h1, h2, pgC_app, List.length_append]
    exact hS3
   ·rcases ho3 g hg' with e | e
    ·exact ho1 g e
    ·omega
  ·skip
   have hjE : j = l.length := by omega
   subst hjE
   rw [List.take_length] at hS1
   refine run_exit rfl ?_; refine qN rfl ?_; refine qV (ymv rfl) ?_; refine qV (yas rfl) ?_; refine rEnd ?_; refine run_ret Tryz.func29 rfl ?_
   exact ⟨_, rfl, hx1, hS1, ho1⟩
end
end Go.Proofs.YtocnhaoilnojmaaGreat
namespace Go.Proofs.YtocnhaoilnojmaaGreat
open Go Go.RowKit
set_option linter.all false
set_option maxRecDepth 100000
theorem LoadOk.det {z : Nat} {root : Int} {l : Pgs} {H H' : Nat} {ns ns' : List Int} {es es' : Es} (hz : sizeOk (z : Int)) (h : LoadOk z root l H ns es) (h' : LoadOk z root l H' ns' es') : H = H' ∧ ns = ns' ∧ es = es' := by
 rcases h with ⟨h1, rfl, rfl, rfl, rfl⟩ | ⟨h0, s, hl⟩
 ·rcases h' with ⟨-, -, rfl, rfl, rfl⟩ | ⟨h0, -⟩
  ·exact ⟨rfl, rfl, rfl⟩
  ·exact absurd h1 h0
 ·rcases h' with ⟨h1, -⟩ | ⟨-, s', -⟩
  ·exact absurd h1 h0
  ·exact bn_det hz s.bn s'.bn
theorem lt_nil (a : Bytes) : lt a [] = false := by cases a <;> rfl
theorem rangeE_all {es : Es} {n : Nat} (h : es.length ≤ n) : rangeE es [] n = es := by
 unfold rangeE
 rw [List.filter_eq_self.2 (fun x _ => by rw [lt_nil]; rfl), List.take_of_length_le h]
section
variable {w : World}
end
end Go.Proofs.YtocnhaoilnojmaaGreat
namespace Go.Proofs.YtocnhaoilnojmaaGreat
open Go Go.RowKit
set_option linter.all false
set_option maxRecDepth 100000
/-- The numbers of kids have 32 bits. -/
def Kids32 (N : Nodes) : Prop := ∀ x n, N x = some n → ∀ c ∈ n.kids, c < 4294967296
theorem TreeA.kids32 {w : World} {p : Nat} {T : Tr} {nb : Int → Nat} {F : Nat → Prop} (h : TreeA w p T nb F) : Kids32 T.nodes := fun x n hn => by
 obtain ⟨q, -, hM, -⟩ := h.node hn
 exact hM.bd.cs
/-- A list of the tree's pages, whatever their order. -/
structure OwnP (T : Tr) (ns : List Int) (l : Pgs) : Prop where
 nd : (l.map (·.1)).Nodup
 mem : ∀ x, x ∈ l.map (·.1) ↔ x ∈ ns
 txt : ∀ y ∈ l, y.2 = encAt T.size T.nodes y.1
 len : l.length = ns.length
theorem ownP_pgs {T : Tr} {ns : List Int} (hn : ns.Nodup) : OwnP T ns (pgs T.size T.nodes ns fun _ => true) :=
 ⟨(pgs_rise hn).nodup1, fun x => by rw [pgs_fst, List.mem_filter, sortZ_mem]; simp, fun y hy => (pgs_mem.1 hy).2.2, pgs_all_len⟩
section
variable {T : Tr} {H : Nat} {ns : List Int} {es : Es} {l : Pgs}
theorem OwnP.nodes (h : OwnP T ns l) (hI : Inv T H ns es) (hz : sizeOk (T.size : Int)) (hk : Kids32 T.nodes) : nodesOf T.size l = T.nodes := by
 funext x
 by_cases hx : x ∈ l.map (·.1)
 ·obtain ⟨y, hy, rfl⟩ := List.mem_map.1 hx
  rw [nodesOf_mem h.nd hy]
  obtain ⟨n, hn⟩ := Option.ne_none_iff_exists'.1 ((hI.mem y.1).2 ((h.mem y.1).1 hx))
  have hok := hI.ok hz hn
  rw [hn]
  unfold ndOf
  rw [h.txt y hy]
  unfold encAt
  rw [hn]
  dsimp only
  rw [if_pos (enc_length hok)]
  exact dec_enc hz ⟨hok, hk _ n hn⟩
 ·rw [nodesOf_none hx]
  cases e : T.nodes x with
  | none => rfl
  | some n => exact absurd ((h.mem x).2 ((hI.mem x).1 (by rw [e]; simp))) hx
theorem OwnP.ok (h : OwnP T ns l) (hI : Inv T H ns es) (hz : sizeOk (T.size : Int)) (hk : Kids32 T.nodes) : LoadOk T.size T.root l H ns es := by
 have hN := h.nodes hI hz hk
 rcases hI.std with ⟨h0, h1, h2, h3⟩ | ⟨h0, h1, hB, hnd, hr⟩
 ·refine .inl ⟨h0, ?_, h1, h2, h3⟩
  exact List.eq_nil_of_length_eq_zero (by rw [h.len, h2]; rfl)
 ·refine .inr ⟨h0, ⟨by rw [hN]; exact hB, hnd, by simp, fun n hn => ?_⟩, h.len.symm⟩
  rw [hN] at hn
  simpa using hr n hn
theorem OwnP.nums (h : OwnP T ns l) (hI : Inv T H ns es) (hz : sizeOk (T.size : Int)) : numsOk (T.size : Int) T.root l := by
 refine ⟨hz, ?_, h.nd, fun x hx => hI.num x.1 ((hI.mem x.1).2 ((h.mem x.1).1 (List.mem_map.2 ⟨x, hx, rfl⟩)))⟩
 rcases hI.std with ⟨h0, -⟩ | ⟨h0, -, hB, -, -⟩
 ·omega
 ·have := hI.num T.root ((hI.mem T.root).2 hB.mem)
  omega
theorem OwnP.short (h : OwnP T ns l) (hI : Inv T H ns es) (hz : sizeOk (T.size : Int)) : ∀ y ∈ l, y.2.length ≤ 140737488355328 := fun y hy => by
 rw [h.txt y hy]
 unfold encAt
 cases e : T.nodes y.1 with
 | none => simp
 | some n =>
   dsimp only
   rw [enc_length (hI.ok hz e)]
   have := hz.2.1
   omega
/-- Keys of a tree rise. -/
theorem Inv.rise (hI : Inv T H ns es) (hz : sizeOk (T.size : Int)) : Rise (es.map (·.1)) := by
 rcases hI.std with ⟨-, -, -, rfl⟩ | ⟨h0, h1, hB, hnd, hr⟩
 ·exact List.Pairwise.nil
 ·exact hB.keys.2
end
end Go.Proofs.YtocnhaoilnojmaaGreat
namespace Go.Proofs.YtocnhaoilnojmaaGreat
open Go Go.RowKit
set_option linter.all false
set_option maxRecDepth 100000
/-- The state, as plain data: the tree, what was stored (nodes, numbers), the numbers given, the next one. -/
structure Sx where
 T : Tr
 H : Nat
 ns : List Int
 es : Es
 O : Nodes
 os : List Int
 gs : List Int
 nx : Nat
/-- What holds of it behind so many calls. -/
structure Gh (X : Sx) (k : Nat) : Prop where
 inv : Inv X.T X.H X.ns X.es
 ond : X.os.Nodup
 om : ∀ x, X.O x ≠ none ↔ x ∈ X.os
 old : ∀ x, X.T.old x = true ↔ X.O x ≠ none
 same : ∀ x, X.T.changed x = false → X.T.nodes x ≠ none → X.T.nodes x = X.O x
 src : ∀ x, (X.T.nodes x ≠ none ∨ x ∈ X.T.given) → x ∈ X.os ∨ x ∈ X.gs
 el : X.es.length ≤ k
 ol : X.os.length ≤ 2 * k
 nl : X.nx ≤ 2000 * k
 gl : X.gs.length ≤ 4294967296 * k
theorem Gh.mono {X : Sx} {k k' : Nat} (h : Gh X k) (hk : k ≤ k') : Gh X k' :=
 ⟨h.inv, h.ond, h.om, h.old, h.same, h.src, Nat.le_trans h.el hk, Nat.le_trans h.ol (Nat.mul_le_mul_left _ hk), Nat.le_trans h.nl (Nat.mul_le_mul_left _ hk), Nat.le_trans h.gl (Nat.mul_le_mul_left _ hk)⟩
theorem gh0 (z : Nat) : Gh ⟨Tr0 z, 0, [], [], fun _ => none, [], [], 0⟩ 0 :=
 ⟨inv0 z, List.nodup_nil, fun x => by simp, fun x => by simp [Tr0], fun x _ h => absurd rfl h, fun x h => by simp [Tr0] at h, Nat.le_refl _, Nat.le_refl _, Nat.le_refl _, Nat.le_refl _⟩
/-- Put or Delete. -/
theorem Gh.evo {X : Sx} {k g : Nat} (h : Gh X k) {T' : Tr} {H' : Nat} {ns' : List Int} {es' : Es} (e : EvoR X.T T' g) (hI : Inv T' H' ns' es') {k' : Nat} (hk : k ≤ k') (hl : es'.length ≤ k') : Gh { X with T := T', H := H', ns := ns', es := es' } k' := by
 have e' : Evo _ _ _ := e
 have hm := h.mono hk
 refine ⟨hI, h.ond, h.om, fun x => by rw [show T'.old = X.T.old from e'.old]; exact h.old x, fun x hc hn => ?_, fun x hx => ?_, hl, hm.ol, hm.nl, hm.gl⟩
 ·rcases e'.chg x hc with h1 | ⟨h1, h2⟩
  ·exact absurd h1 hn
  ·have h1' : T'.nodes x = X.T.nodes x := h1
   dsimp only at hn ⊢
   rw [h1'] at hn ⊢
   exact h.same x h2 hn
 ·rcases hx with hx | hx
  ·exact h.src x (e'.nod x hx)
  ·rcases e'.giv x hx with h1 | h1
   ·exact h.src x (.inr h1)
   ·exact h.src x (.inl h1.1)
/-- Give. -/
theorem Gh.give {X : Sx} {k : Nat} (h : Gh X k) {l : List Int} (hl : giveOk X.T l) : Gh { X with T := { X.T with given := sortZ (X.T.given ++ l) }, gs := X.gs ++ l } (k + 1) := by
 have hm := h.mono (Nat.le_succ k)
 refine ⟨h.inv.give hl, h.ond, h.om, h.old, h.same, fun x hx => ?_, hm.el, hm.ol, hm.nl, ?_⟩
 ·rcases hx with hx | hx
  ·rcases h.src x (.inl hx) with h1 | h1
   ·exact .inl h1
   ·exact .inr (List.mem_append_left _ h1)
  ·rcases List.mem_append.1 (sortZ_mem.1 hx) with hx | hx
   ·rcases h.src x (.inr hx) with h1 | h1
    ·exact .inl h1
    ·exact .inr (List.mem_append_left _ h1)
   ·exact .inr (List.mem_append_right _ hx)
 ·have h1 := nodup_le hl.1 (fun x hx => (hl.2 x hx).1)
  have h2 := h.gl
  dsimp only
  rw [List.length_append, Nat.mul_succ]
  omega
/-- Clean. -/
def Sx.clean (X : Sx) : Sx := { X with T := { X.T with changed := fun _ => false, old := fun x => (X.T.nodes x).isSome }, O := X.T.nodes, os := X.ns, gs := X.T.given }
theorem Gh.clean {X : Sx} {k : Nat} (h : Gh X k) (hz : sizeOk (X.T.size : Int)) (h0 : 1 ≤ k) : Gh X.clean k := by
 have hI := h.inv
 have hc := Inv.cnts hz hI
 have hel := h.el
 refine ⟨⟨hI.std, hI.all, hI.cnt, hI.num, hI.gnum, ⟨hI.giv.rise, fun x hx => ⟨(hI.giv.free x hx).1, ?_⟩⟩, fun x hx _ => ?_⟩, hI.nodup, hI.mem, fun x => ?_, fun x _ _ => rfl, fun x hx => ?_, h.el, ?_, h.nl, ?_⟩
 ·show (X.T.nodes x).isSome = false
  rw [(hI.giv.free x hx).1]; rfl
 ·show (X.T.nodes x).isSome = true
  exact Option.isSome_iff_ne_none.2 hx
 ·show (X.T.nodes x).isSome = true ↔ _
  exact Option.isSome_iff_ne_none
 ·rcases hx with hx | hx
  ·exact .inl ((hI.mem x).1 hx)
  ·exact .inr hx
 ·show X.ns.length ≤ _
  omega
 ·show X.T.given.length ≤ _
  have := hI.gl
  have : 4294967296 * 1 ≤ 4294967296 * k := Nat.mul_le_mul_left _ h0
  omega
/-- Load of the tree's own pages. -/
noncomputable def Sx.load (X : Sx) (l : Pgs) : Sx := { X with T := TrL X.T.size X.T.root l X.es.length, O := X.T.nodes, os := X.ns, gs := [] }
theorem Gh.load {X : Sx} {k : Nat} (h : Gh X k) (hz : sizeOk (X.T.size : Int)) {l : Pgs} (hl : OwnP X.T X.ns l) (hk : Kids32 X.T.nodes) : Gh (X.load l) k := by
 have hI := h.inv
 have hc := Inv.cnts hz hI
 have hel := h.el
 have hN := hl.nodes hI hz hk
 have hN' : ∀ x, (TrL X.T.size X.T.root l X.es.length).nodes x = X.T.nodes x := fun x => congrFun hN x
 refine ⟨(hl.ok hI hz hk).inv (hl.nums hI hz), hI.nodup, hI.mem, fun x => ?_, fun x _ _ => hN' x, fun x hx => ?_, h.el, ?_, h.nl, Nat.zero_le _⟩
 ·show decide (x ∈ l.map (·.1)) = true ↔ X.T.nodes x ≠ none
  rw [decide_eq_true_iff, hl.mem x, hI.mem x]
 ·rcases hx with hx | hx
  ·refine .inl ((hI.mem x).1 ?_)
   rw [← hN' x]; exact hx
  ·cases hx
 ·show X.ns.length ≤ _
  omega
/-- The state in memory. -/
structure StM (w : World) (q : Nat) (X : Sx) (p m : Nat) (mv sv gv : Value) (nb : Int → Nat) (F : Nat → Prop) : Prop where
 blk : Blk w q [I (X.T.size : Int), ptr p 0, ptr m 0, sv, gv, I (X.nx : Int)] 36
 tree : TreeA w p X.T nb F
 map : MpM w m mv X.es
 sto : Sl w sv 54 2 (pgs X.T.size X.O X.os fun _ => true).length (pgC (pgs X.T.size X.O X.os fun _ => true))
 giv : Sl w gv 3 1 X.gs.length (X.gs.map I)
 qm : q ≠ m
 fq : ¬ F q
 fm : ¬ F m
 ov : ∀ g, mv.ownBlock = some g ∨ sv.ownBlock = some g ∨ gv.ownBlock = some g → g ≠ q ∧ g ≠ m ∧ ¬ F g
 og : ∀ g, gv.ownBlock = some g → mv.ownBlock ≠ some g ∧ sv.ownBlock ≠ some g
/-- Where it lies. -/
def fpS (q m : Nat) (mv sv gv : Value) (F : Nat → Prop) (k : Nat) : Prop := k = q ∨ k = m ∨ mv.ownBlock = some k ∨ sv.ownBlock = some k ∨ gv.ownBlock = some k ∨ F k
section
variable {w w' : World} {q : Nat} {X : Sx} {p m : Nat} {mv sv gv : Value} {nb : Int → Nat} {F : Nat → Prop}
theorem StM.ext (h : StM w q X p m mv sv gv nb F) (k : Ext w w') : StM w' q X p m mv sv gv nb F :=
 ⟨k.blk h.blk, h.tree.ext k, h.map.ext k, h.sto.ext k, h.giv.ext k, h.qm, h.fq, h.fm, h.ov, h.og⟩
theorem StM.lt (h : StM w q X p m mv sv gv nb F) {k : Nat} (hk : fpS q m mv sv gv F k) : k < w.heap.size := by
 rcases hk with rfl | rfl | hk | hk | hk | hk
 ·exact h.blk.lt
 ·exact h.map.blk.lt
 ·exact h.map.sl.lt hk
 ·exact h.sto.lt hk
 ·exact h.giv.lt hk
 ·exact h.tree.lt k hk
end
end Go.Proofs.YtocnhaoilnojmaaGreat
namespace Go.Proofs.YtocnhaoilnojmaaGreat
open Go Go.RowKit
set_option linter.all false
set_option maxRecDepth 100000
section
variable {w w' w1 w2 : World} {q : Nat} {X : Sx} {p m : Nat} {mv sv gv : Value} {nb : Int → Nat} {F : Nat → Prop}
theorem StM.treed (h : StM w q X p m mv sv gv nb F) {T' : Tr} {nb' : Int → Nat} {F' : Nat → Prop} (hT : TreeA w' p T' nb' F') (hs : T'.size = X.T.size) (hk : Kp F w w') (hF : ∀ k, F' k → F k ∨ w.heap.size ≤ k) :
  StM w' q { X with T := T' } p m mv sv gv nb' F' ∧ Kp (fpS q m mv sv gv F) w w' ∧ ∀ k, fpS q m mv sv gv F' k → fpS q m mv sv gv F k ∨ w.heap.size ≤ k := by
 have hq := h.blk.lt
 have hm := h.map.blk.lt
 refine ⟨⟨?_, hT, h.map.kp hk h.fm (fun g hg => (h.ov g (.inl hg)).2.2), ?_, h.giv.kp hk (fun g hg => (h.ov g (.inr (.inr hg))).2.2), h.qm, fun e => (hF q e).elim h.fq (fun e => by omega), fun e => (hF m e).elim h.fm (fun e => by omega), fun g hg => ⟨(h.ov g hg).1, (h.ov g hg).2.1, fun e => (hF g e).elim (h.ov g hg).2.2 (fun e => ?_)⟩, h.og⟩, hk.mono' (fun k hk => .inr (.inr (.inr (.inr (.inr hk))))), fun k hk => ?_⟩
 ·have := hk.blk h.blk h.fq
  rw [← hs] at this
  exact this
 ·dsimp only
  rw [hs]
  exact h.sto.kp hk (fun g hg => (h.ov g (.inr (.inl hg))).2.2)
 ·have := h.lt (k := g) (by rcases hg with hg | hg | hg; exact .inr (.inr (.inl hg)); exact .inr (.inr (.inr (.inl hg))); exact .inr (.inr (.inr (.inr (.inl hg)))))
  omega
 ·rcases hk with hk | hk | hk | hk | hk | hk
  ·exact .inl (.inl hk)
  ·exact .inl (.inr (.inl hk))
  ·exact .inl (.inr (.inr (.inl hk)))
  ·exact .inl (.inr (.inr (.inr (.inl hk))))
  ·exact .inl (.inr (.inr (.inr (.inr (.inl hk)))))
  ·exact (hF k hk).imp (fun e => .inr (.inr (.inr (.inr (.inr e))))) id
theorem StM.next (h : StM w q X p m mv sv gv nb F) {n : Nat} (hB : Blk w' q [I (X.T.size : Int), ptr p 0, ptr m 0, sv, gv, I (n : Int)] 36) (hk : Kp (fun k => k = q) w w') : StM w' q { X with nx := n } p m mv sv gv nb F :=
 ⟨hB, h.tree.kp hk (fun g hg e => h.fq (e ▸ hg)), h.map.kp hk (fun e => h.qm e.symm) (fun g hg e => (h.ov g (.inl hg)).1 e), h.sto.kp hk (fun g hg e => (h.ov g (.inr (.inl hg))).1 e), h.giv.kp hk (fun g hg e => (h.ov g (.inr (.inr hg))).1 e), h.qm, h.fq, h.fm, h.ov, h.og⟩
theorem StM.gave (h : StM w q X p m mv sv gv nb F) {gs' : List Int} {gv' : Value} (hS : Sl w1 gv' 3 1 gs'.length (gs'.map I)) (hk1 : Kp (fun k => gv.ownBlock = some k) w w1) (ho : ∀ g, gv'.ownBlock = some g → gv.ownBlock = some g ∨ w.heap.size ≤ g)
  (hB : Blk w2 q [I (X.T.size : Int), ptr p 0, ptr m 0, sv, gv', I (X.nx : Int)] 36) (hk2 : Kp (fun k => k = q) w1 w2) :
  StM w2 q { X with gs := gs' } p m mv sv gv' nb F ∧ Kp (fpS q m mv sv gv F) w w2 ∧ ∀ k, fpS q m mv sv gv' F k → fpS q m mv sv gv F k ∨ w.heap.size ≤ k := by
 have hkk : Kp (fun k => k = q ∨ gv.ownBlock = some k) w w2 := (hk1.mono' (fun k e => .inr e)).trans (hk2.mono' (fun k e => .inl e))
 have hov' : ∀ g, gv'.ownBlock = some g → g ≠ q ∧ g ≠ m ∧ ¬ F g ∧ mv.ownBlock ≠ some g ∧ sv.ownBlock ≠ some g := fun g hg => by
  rcases ho g hg with e | e
  ·have h1 := h.ov g (.inr (.inr e))
   have h2 := h.og g e
   exact ⟨h1.1, h1.2.1, h1.2.2, h2.1, h2.2⟩
  ·have h1 := h.blk.lt
   have h2 := h.map.blk.lt
   exact ⟨by omega, by omega, fun e' => by have := h.tree.lt g e'; omega, fun e' => by have := h.map.sl.lt e'; omega, fun e' => by have := h.sto.lt e'; omega⟩
 refine ⟨⟨hB, h.tree.kp hkk (fun g hg e => e.elim (fun e => h.fq (e ▸ hg)) (fun e => (h.ov g (.inr (.inr e))).2.2 hg)), h.map.kp hkk (fun e => e.elim (fun e => h.qm e.symm) (fun e => (h.ov m (.inr (.inr e))).2.1 rfl)) (fun g hg e => e.elim (fun e => (h.ov g (.inl hg)).1 e) (fun e => (h.og g e).1 hg)), h.sto.kp hkk (fun g hg e => e.elim (fun e => (h.ov g (.inr (.inl hg))).1 e) (fun e => (h.og g e).2 hg)), hS.kp hk2 (fun g hg e => (hov' g hg).1 e), h.qm, h.fq, h.fm, fun g hg => ?_, fun g hg => (hov' g hg).2.2.2⟩, hkk.mono' (fun k e => e.elim .inl (fun e => .inr (.inr (.inr (.inr (.inl e)))))), fun k hk => ?_⟩
 ·rcases hg with hg | hg | hg
  ·exact h.ov g (.inl hg)
  ·exact h.ov g (.inr (.inl hg))
  ·have := hov' g hg; exact ⟨this.1, this.2.1, this.2.2.1⟩
 ·rcases hk with hk | hk | hk | hk | hk | hk
  ·exact .inl (.inl hk)
  ·exact .inl (.inr (.inl hk))
  ·exact .inl (.inr (.inr (.inl hk)))
  ·exact .inl (.inr (.inr (.inr (.inl hk))))
  ·exact (ho k hk).imp (fun e => .inr (.inr (.inr (.inr (.inl e))))) id
  ·exact .inl (.inr (.inr (.inr (.inr (.inr hk)))))
theorem StM.mapped (h : StM w q X p m mv sv gv nb F) {es' : Es} (hM : MpS m w w' es') :
  ∃ mv', StM w' q { X with es := es' } p m mv' sv gv nb F ∧ Kp (fpS q m mv sv gv F) w w' ∧ ∀ k, fpS q m mv' sv gv F k → fpS q m mv sv gv F k ∨ w.heap.size ≤ k := by
 obtain ⟨mv', hM, hk, ho⟩ := hM
 have hq := h.blk.lt
 have hm := h.map.blk.lt
 refine ⟨mv', ⟨hk.blk h.blk h.qm, h.tree.kp hk (fun g hg e => h.fm (e ▸ hg)), hM, h.sto.kp hk (fun g hg e => (h.ov g (.inr (.inl hg))).2.1 e), h.giv.kp hk (fun g hg e => (h.ov g (.inr (.inr hg))).2.1 e), h.qm, h.fq, h.fm, fun g hg => ?_, fun g hg => ⟨fun e => ?_, (h.og g hg).2⟩⟩, hk.mono' (fun k e => .inr (.inl e)), fun k hk' => ?_⟩
 ·rcases hg with hg | hg | hg
  ·have := ho g hg
   exact ⟨by omega, by omega, fun e => by have := h.tree.lt g e; omega⟩
  ·exact h.ov g (.inr (.inl hg))
  ·exact h.ov g (.inr (.inr hg))
 ·have := ho g e
  have := h.giv.lt hg
  omega
 ·rcases hk' with hk' | hk' | hk' | hk' | hk' | hk'
  ·exact .inl (.inl hk')
  ·exact .inl (.inr (.inl hk'))
  ·exact .inr (ho k hk')
  ·exact .inl (.inr (.inr (.inr (.inl hk'))))
  ·exact .inl (.inr (.inr (.inr (.inr (.inl hk')))))
  ·exact .inl (.inr (.inr (.inr (.inr (.inr hk')))))
end
theorem StM.hn {w : World} {q : Nat} {X : Sx} {p m : Nat} {mv sv gv : Value} {nb : Int → Nat} {F : Nat → Prop} (h : StM w q X p m mv sv gv nb F) (a : Nat) (b : List Int) : StM w q { X with H := a, ns := b } p m mv sv gv nb F :=
 ⟨h.blk, h.tree, h.map, h.sto, h.giv, h.qm, h.fq, h.fm, h.ov, h.og⟩
/-- The state at q with a footprint. -/
def StF (w : World) (q m : Nat) (X : Sx) (fp : Nat → Prop) : Prop := ∃ p mv sv gv nb F, StM w q X p m mv sv gv nb F ∧ ∀ k, fp k ↔ fpS q m mv sv gv F k
/-- What a call leaves of it. -/
def StR (q m : Nat) (fp : Nat → Prop) (w w' : World) (X' : Sx) : Prop := ∃ fp', StF w' q m X' fp' ∧ Kp fp w w' ∧ ∀ k, fp' k → fp k ∨ w.heap.size ≤ k
section
variable {w w' w1 w2 : World} {q m : Nat} {X X1 X2 : Sx} {fp : Nat → Prop}
theorem StF.lt (h : StF w q m X fp) {k : Nat} (hk : fp k) : k < w.heap.size := by
 obtain ⟨p, mv, sv, gv, nb, F, hM, hf⟩ := h
 exact hM.lt ((hf k).1 hk)
theorem StF.ext (h : StF w q m X fp) (k : Ext w w') : StF w' q m X fp := by
 obtain ⟨p, mv, sv, gv, nb, F, hM, hf⟩ := h
 exact ⟨p, mv, sv, gv, nb, F, hM.ext k, hf⟩
theorem StR.refl (h : StF w q m X fp) (k : Ext w w') : StR q m fp w w' X := ⟨fp, h.ext k, k.kp, fun _ h => .inl h⟩
theorem StR.trans (h1 : StR q m fp w w1 X1) (h2 : ∀ fp', StF w1 q m X1 fp' → StR q m fp' w1 w2 X2) : StR q m fp w w2 X2 := by
 obtain ⟨f1, s1, k1, n1⟩ := h1
 obtain ⟨f2, s2, k2, n2⟩ := h2 f1 s1
 refine ⟨f2, s2, k1.trans_new k2 (fun i hi => (n1 i hi).symm), fun k hk => ?_⟩
 rcases n2 k hk with h | h
 ·exact n1 k h
 ·have := k1.size; exact .inr (by omega)
end
end Go.Proofs.YtocnhaoilnojmaaGreat
namespace Go.Proofs.YtocnhaoilnojmaaGreat
open Go Go.RowKit
set_option linter.all false
set_option maxRecDepth 100000
/-- So many numbers were tried. -/
structure NeedI (X X' : Sx) (i : Nat) : Prop where
 eH : X'.H = X.H
 en : X'.ns = X.ns
 ee : X'.es = X.es
 eO : X'.O = X.O
 eo : X'.os = X.os
 ex : X'.nx = X.nx + i
 eT : X'.T = { X.T with given := X'.T.given }
 inv : Inv X'.T X.H X.ns X.es
 src : ∀ x ∈ X'.T.given, x ∈ X.os ∨ x ∈ X'.gs
 gsub : ∀ x ∈ X.gs, x ∈ X'.gs
 gl : X'.gs.length ≤ X.gs.length + i
 tried : ∃ D : List Int, D.Nodup ∧ (∀ x ∈ D, x ∈ X.ns ∨ x ∈ X.os ∨ x ∈ X.T.given) ∧ (∀ x ∈ D, x ≤ (X.nx : Int) + i) ∧ X'.T.given.length + D.length = X.T.given.length + i
 new : ∀ x ∈ X'.T.given, x ∈ X.T.given ∨ x ≤ (X.nx : Int) + i
section
variable {X X' : Sx} {k i : Nat}
theorem NeedI.zero (hG : Gh X k) : NeedI X X 0 :=
 ⟨rfl, rfl, rfl, rfl, rfl, rfl, rfl, hG.inv, fun x hx => hG.src x (.inr hx), fun x hx => hx, Nat.le_refl _, ⟨[], List.nodup_nil, by simp, by simp, rfl⟩, fun x hx => .inl hx⟩
theorem NeedI.yes (h : NeedI X X' i) (hok : giveOk X'.T [((X'.nx + 1 : Nat) : Int)]) : NeedI X { X' with T := { X'.T with given := sortZ (X'.T.given ++ [((X'.nx + 1 : Nat) : Int)]) }, gs := X'.gs ++ [((X'.nx + 1 : Nat) : Int)], nx := X'.nx + 1 } (i + 1) := by
 obtain ⟨D, d1, d2, d3, d4⟩ := h.tried
 have hx := h.ex
 refine ⟨h.eH, h.en, h.ee, h.eO, h.eo, by dsimp only; omega, by rw [h.eT], h.inv.give hok, fun x hx' => ?_, fun x hx' => List.mem_append_left _ (h.gsub x hx'), by dsimp only; rw [List.length_append]; have := h.gl; simp; omega, ⟨D, d1, d2, fun x hx' => by have := d3 x hx'; omega, by dsimp only; rw [sortZ_len, List.length_append]; simp; omega⟩, fun x hx' => ?_⟩
 ·rcases List.mem_append.1 (sortZ_mem.1 hx') with h1 | h1
  ·exact (h.src x h1).imp id (fun e => List.mem_append_left _ e)
  ·exact .inr (List.mem_append_right _ h1)
 ·rcases List.mem_append.1 (sortZ_mem.1 hx') with h1 | h1
  ·exact (h.new x h1).imp id (fun e => by omega)
  ·simp at h1
   exact .inr (by omega)
theorem NeedI.no (h : NeedI X X' i) (hG : Gh X k) (hk : k ≤ 1000) (hi : i ≤ 2000) (hno : ¬ giveOk X'.T [((X'.nx + 1 : Nat) : Int)]) : NeedI X { X' with nx := X'.nx + 1 } (i + 1) := by
 obtain ⟨D, d1, d2, d3, d4⟩ := h.tried
 have hx := h.ex
 have hnl := hG.nl
 refine ⟨h.eH, h.en, h.ee, h.eO, h.eo, by dsimp only; omega, h.eT, h.inv, h.src, h.gsub, by dsimp only; have := h.gl; omega, ⟨((X'.nx + 1 : Nat) : Int) :: D, List.nodup_cons.2 ⟨fun e => by have := d3 _ e; omega, d1⟩, fun x hx' => ?_, fun x hx' => ?_, by simp; omega⟩, fun x hx' => (h.new x hx').imp id (fun e => by omega)⟩
 ·rcases List.mem_cons.1 hx' with rfl | hx'
  ·by_cases hn : X.T.nodes ((X'.nx + 1 : Nat) : Int) = none
   ·by_cases ho : X.T.old ((X'.nx + 1 : Nat) : Int) = true
    ·exact .inr (.inl ((hG.om _).1 ((hG.old _).1 ho)))
    ·by_cases hg : ((X'.nx + 1 : Nat) : Int) ∈ X'.T.given
     ·rcases h.new _ hg with e | e
      ·exact .inr (.inr e)
      ·omega
     ·exfalso
      refine hno ⟨by simp, fun x hx => ?_⟩
      simp only [List.mem_singleton] at hx
      subst hx
      refine ⟨by omega, by rw [h.eT]; exact hn, by rw [h.eT]; simpa using ho, hg⟩
   ·exact .inl ((hG.inv.mem _).1 hn)
  ·exact d2 x hx'
 ·rcases List.mem_cons.1 hx' with rfl | hx'
  ·omega
  ·have := d3 x hx'; omega
theorem NeedI.fin (h : NeedI X X' 2000) (hG : Gh X k) (hz : sizeOk (X.T.size : Int)) (hk : k ≤ 350) : X.H + 1 ≤ X'.T.given.length := by
 obtain ⟨D, d1, d2, d3, d4⟩ := h.tried
 have hc := Inv.cnts hz hG.inv
 have h1 := List.Nodup.length_le_of_subset d1 (l₂ := X.ns ++ (X.os ++ X.T.given)) (fun x hx => by
  rcases d2 x hx with e | e | e
  ·exact List.mem_append_left _ e
  ·exact List.mem_append_right _ (List.mem_append_left _ e)
  ·exact List.mem_append_right _ (List.mem_append_right _ e))
 simp only [List.length_append] at h1
 have := hG.el
 have := hG.ol
 omega
theorem NeedI.gh (h : NeedI X X' i) (hG : Gh X k) (hi : i ≤ 2000) : Gh X' (k + 1) := by
 have hm := hG.mono (Nat.le_succ k)
 have hT := h.eT
 have e1 : X'.T.nodes = X.T.nodes := by rw [hT]
 have e2 : X'.T.old = X.T.old := by rw [hT]
 have e3 : X'.T.changed = X.T.changed := by rw [hT]
 refine ⟨by rw [h.eH, h.en, h.ee]; exact h.inv, by rw [h.eo]; exact hG.ond, by rw [h.eO, h.eo]; exact hG.om, by rw [h.eO, e2]; exact hG.old, by rw [h.eO, e1, e3]; exact hG.same, fun x hx => ?_, by rw [h.ee]; exact hm.el, by rw [h.eo]; exact hm.ol, ?_, ?_⟩
 ·rw [h.eo]
  rw [e1] at hx
  rcases hx with hx | hx
  ·exact (hG.src x (.inl hx)).imp id (h.gsub x)
  ·exact h.src x hx
 ·have := h.ex
  have := hG.nl
  rw [Nat.mul_succ]; omega
 ·have := h.gl
  have := hG.gl
  rw [Nat.mul_succ]; omega
end
end Go.Proofs.YtocnhaoilnojmaaGreat
