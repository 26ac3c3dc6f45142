/- The document's device (wattleref04): New, Twin walked. -/
import Derived.Test.YtdapkfppcaaohaaRefF
namespace Go.Proofs.Ytdapkfppcaaohaa
open Go Go.RowKit
set_option linter.all false
set_option maxRecDepth 100000

theorem rtwin_ret {w : World} {q : Nat} {sv ca kp : Value} {l : List Int} {tn : Int} {mk : UInt8} {D : Dev} (h : RefM w q sv ca kp l tn mk D) (hk : l.length ≤ 17592186044416) (hc : D.cache.length ≤ 1000000000) :
    Ret Try.prog 43 [ptr q 0] w fun v w' => ∃ q' sv' ca' kp', v = ptr q' 0 ∧ RefM w' q' sv' ca' kp' l tn mk D ∧ Ext w w' ∧ ∀ i, fpR q' sv' ca' kp' i → w.heap.size ≤ i := by
  have hml : maxLen = 9223372036854775807 := rfl
  have hB := h.ok.hB
  have h0 := h
  have hM := h.blk
  obtain ⟨ak, capk, rfl, hak⟩ := h.keep.rd.shape
  obtain ⟨sa, caps, rfl, hsa⟩ := h.safe.rd.shape
  obtain ⟨ac, capc, rfl, hac⟩ := h.cache.rd.shape
  refine ret_of_run (e := [(0, _)]) Try.func43 rfl Try.ntmps43 rfl rfl ?_
  refine run_seq ?_
  refine run_reg rfl ?_
  refine rVal rfl rfl (yas rfl) ?_
  refine rEnd ?_
  refine run_seq ?_
  refine run_draw (fun w' => Ext w w') (by kernel_rfl) rfl ?_
  refine hTake (i := 0) rfl (by kernel_rfl) rfl rfl (fun _ hS => ymv rfl) (Ext.drew0 w) ?_
  refine hTake (i := 1) rfl (by kernel_rfl) rfl rfl (fun _ hS => (by first | exact ync rfl | exact yncf rfl)) (Ext.drew0 w) ?_
  refine hTake (i := 2) rfl (by kernel_rfl) rfl rfl (fun _ hS => yfa fl86_0 rfl) (Ext.drew0 w) ?_
  refine hTake (i := 3) rfl (by kernel_rfl) rfl rfl (fun _ hS => yldA Try.underlying74 rfl ti74 rfl (Blk.cells (n := 2) (Ext.blk hS hM) (news := [_, _]) rfl) rfl) (Ext.drew0 w) ?_
  refine hTake (i := 4) rfl (by kernel_rfl) rfl rfl (fun _ hS => ymv rfl) (Ext.drew0 w) ?_
  refine hTake (i := 5) rfl (by kernel_rfl) rfl rfl (fun _ hS => (by first | exact ync rfl | exact yncf rfl)) (Ext.drew0 w) ?_
  refine hTake (i := 6) rfl (by kernel_rfl) rfl rfl (fun _ hS => yfa fl86_3 rfl) (Ext.drew0 w) ?_
  refine hTake (i := 7) rfl (by kernel_rfl) rfl rfl (fun _ hS => yld Try.underlying3 rfl rfl (Ext.blk hS hM) rfl) (Ext.drew0 w) ?_
  refine hTake (i := 9) rfl (by kernel_rfl) rfl rfl (fun _ hS => ymv rfl) (Ext.drew0 w) ?_
  refine hTake (i := 10) rfl (by kernel_rfl) rfl rfl (fun _ hS => (by first | exact ync rfl | exact yncf rfl)) (Ext.drew0 w) ?_
  refine hTake (i := 11) rfl (by kernel_rfl) rfl rfl (fun _ hS => yfa fl86_4 rfl) (Ext.drew0 w) ?_
  refine hTake (i := 12) rfl (by kernel_rfl) rfl rfl (fun _ hS => yfa fl45_0 rfl) (Ext.drew0 w) ?_
  refine hTake (i := 13) rfl (by kernel_rfl) rfl rfl (fun _ hS => yld Try.underlying43 rfl rfl (Ext.blk hS hM) rfl) (Ext.drew0 w) ?_
  refine hTake (i := 15) rfl (by kernel_rfl) rfl rfl (fun _ hS => ymv rfl) (Ext.drew0 w) ?_
  refine hTake (i := 16) rfl (by kernel_rfl) rfl rfl (fun _ hS => (by first | exact ync rfl | exact yncf rfl)) (Ext.drew0 w) ?_
  refine hTake (i := 17) rfl (by kernel_rfl) rfl rfl (fun _ hS => yfa fl86_4 rfl) (Ext.drew0 w) ?_
  refine hTake (i := 18) rfl (by kernel_rfl) rfl rfl (fun _ hS => yfa fl45_1 rfl) (Ext.drew0 w) ?_
  refine hTake (i := 19) rfl (by kernel_rfl) rfl rfl (fun _ hS => yld Try.underlying3 rfl rfl (Ext.blk hS hM) rfl) (Ext.drew0 w) ?_
  refine hTake (i := 20) rfl (by kernel_rfl) rfl rfl (fun _ hS => ymv rfl) (Ext.drew0 w) ?_
  refine hTake (i := 21) rfl (by kernel_rfl) rfl rfl (fun _ hS => (by first | exact ync rfl | exact yncf rfl)) (Ext.drew0 w) ?_
  refine hTake (i := 22) rfl (by kernel_rfl) rfl rfl (fun _ hS => yfa fl86_4 rfl) (Ext.drew0 w) ?_
  refine hTake (i := 23) rfl (by kernel_rfl) rfl rfl (fun _ hS => yfa fl45_2 rfl) (Ext.drew0 w) ?_
  refine hTake (i := 24) rfl (by kernel_rfl) rfl rfl (fun _ hS => yld Try.underlying5 rfl rfl (Ext.blk hS hM) rfl) (Ext.drew0 w) ?_
  refine hTake (i := 26) rfl (by kernel_rfl) rfl rfl (fun _ hS => ymv rfl) (Ext.drew0 w) ?_
  refine hTake (i := 27) rfl (by kernel_rfl) rfl rfl (fun _ hS => (by first | exact ync rfl | exact yncf rfl)) (Ext.drew0 w) ?_
  refine hTake (i := 28) rfl (by kernel_rfl) rfl rfl (fun _ hS => yfa fl86_5 rfl) (Ext.drew0 w) ?_
  refine hTake (i := 29) rfl (by kernel_rfl) rfl rfl (fun _ hS => yld Try.underlying4 rfl rfl (Ext.blk hS hM) rfl) (Ext.drew0 w) ?_
  refine hTake (i := 30) rfl (by kernel_rfl) rfl rfl (fun _ hS => ymv rfl) (Ext.drew0 w) ?_
  refine hTake (i := 31) rfl (by kernel_rfl) rfl rfl (fun _ hS => (by first | exact ync rfl | exact yncf rfl)) (Ext.drew0 w) ?_
  refine hTake (i := 32) rfl (by kernel_rfl) rfl rfl (fun _ hS => yfa fl86_6 rfl) (Ext.drew0 w) ?_
  refine hTake (i := 33) rfl (by kernel_rfl) rfl rfl (fun _ hS => yld Try.underlying3 rfl rfl (Ext.blk hS hM) rfl) (Ext.drew0 w) ?_
  refine hTake (i := 34) rfl (by kernel_rfl) rfl rfl (fun _ hS => ymv rfl) (Ext.drew0 w) ?_
  refine hTake (i := 35) rfl (by kernel_rfl) rfl rfl (fun _ hS => (by first | exact ync rfl | exact yncf rfl)) (Ext.drew0 w) ?_
  refine hTake (i := 36) rfl (by kernel_rfl) rfl rfl (fun _ hS => yfa fl86_7 rfl) (Ext.drew0 w) ?_
  refine hTake (i := 37) rfl (by kernel_rfl) rfl rfl (fun _ hS => yld Try.underlying3 rfl rfl (Ext.blk hS hM) rfl) (Ext.drew0 w) ?_
  refine hOne (i := 8) (by kernel_rfl) ?_
  refine nValP (i := 8) rfl rfl rfl (pbs (parts := []) (cs := []) (zs := []) Try.underlying43 ti3 rfl (by kernel_rfl) rfl rfl rfl (by decide)) ?_
  rintro _ w1 ⟨b5, rfl, ⟨hb5, hx1, hB5⟩, hS5⟩
  refine ⟨(Ext.drew0 w).trans hx1, ?_⟩
  have hx1' : Ext w w1 := (Ext.drew0 w).trans hx1
  have hs1 := hx1'.size
  have hb5' : w.heap.size ≤ b5 := by have := hb5; simp at this; omega
  refine hOne (i := 14) (by kernel_rfl) ?_
  refine nValP (i := 14) rfl rfl rfl (pap Try.underlying43 ti3 rfl (by decide) rfl rfl hS5 (h.keep.rd.ext hx1') (ints_one l) (by omega) (by omega)) ?_
  rintro v' w2 ⟨hS2, hk2, hown2, -⟩
  refine ⟨hx1'.trans_new hk2 (fun i hi => by have h' : b5 = i := Option.some.inj hi; omega), ?_⟩
  have hx2 : Ext w w2 := hx1'.trans_new hk2 (fun i hi => by have h' : b5 = i := Option.some.inj hi; omega)
  have hs2 := hx2.size
  simp only [Nat.zero_add, List.nil_append] at hS2
  have hg2 : ∀ g, v'.ownBlock = some g → w.heap.size ≤ g := fun g hg => by
    rcases hown2 g hg with h' | h'
    · have h'' : b5 = g := Option.some.inj h'
      omega
    · omega
  obtain ⟨a2, cap2, rfl, -⟩ := hS2.rd.shape
  refine hTake (i := 25) rfl (by kernel_rfl) rfl rfl (fun _ hS => ybd (parts := [(0, .tmp 18), (1, .tmp 23), (2, .tmp 28)]) (cs := [_, _, _]) ti45 rfl sp45 rfl rfl) (hx1'.trans_new hk2 (fun i hi => by have h' : b5 = i := Option.some.inj hi; omega)) ?_
  refine hTake (i := 38) rfl (by kernel_rfl) rfl rfl (fun _ hS => ybd (parts := [(0, .tmp 7), (3, .tmp 11), (4, .tmp 29), (5, .tmp 33), (6, .tmp 37), (7, .tmp 41)]) (cs := [_, _, _, _, _, _, _, _, _, _, _]) ti86 rfl sp86 rfl rfl) (hx1'.trans_new hk2 (fun i hi => by have h' : b5 = i := Option.some.inj hi; omega)) ?_
  refine hOne (i := 39) (by kernel_rfl) ?_
  refine nValP (i := 39) rfl rfl rfl (pbx rfl rfl) ?_
  rintro _ w3 ⟨q', rfl, hq', hx3, hB3⟩
  refine ⟨hx2.trans hx3, ?_⟩
  have hx03 := hx2.trans hx3
  have hs3 := hx3.size
  have hl3 := hB3.lt
  have hS3 := hS2.ext hx3
  refine hTake (i := 40) rfl (by kernel_rfl) rfl rfl (fun _ hS => yas rfl) (hx2.trans hx3) ?_
  refine hEnd (by kernel_rfl) ?_
  refine Run.sub (e := [(0, _), (2, _), (3, _)]) ?_ (by repeat (first | exact Sub.nil | refine Sub.cons rfl ?_))
  refine run_seq ?_
  refine run_reg rfl ?_
  refine rVal rfl rfl (ymv rfl) ?_
  refine rValP rfl rfl (pbs (parts := []) (cs := []) (zs := []) Try.underlying47 ti9 rfl (by kernel_rfl) rfl rfl rfl (by decide)) ?_
  rintro _ w4 ⟨b4, rfl, ⟨hb4, hx4, hB4⟩, hS4⟩
  have hx04 := hx03.trans hx4
  have h4 := h.ext hx04
  have hM4 := h4.blk
  have hs4 := hx4.size
  refine rVal rfl rfl (ymv rfl) ?_
  refine rVal rfl rfl ((by first | exact ync rfl | exact yncf rfl)) ?_
  refine rVal rfl rfl (yfa fl86_1 rfl) ?_
  refine rVal rfl rfl (yld Try.underlying47 rfl rfl hM4 rfl) ?_
  refine rValP rfl rfl (pap Try.underlying47 ti9 rfl (by decide) rfl rfl hS4 h4.safe.rd (fun c hc => by simp at hc; obtain ⟨_, _, rfl⟩ := hc; rfl) (by omega) (by omega)) ?_
  rintro v5 w5 ⟨hS5', hk5, hown5, -⟩
  simp only [Nat.zero_add, List.nil_append] at hS5'
  have hk5n : ∀ i, (Value.slice (some ⟨b4, 0, none⟩) 0 0).ownBlock = some i → w3.heap.size ≤ i := fun i hi => by have h' : b4 = i := Option.some.inj hi; omega
  have hx05 : Ext w w5 := hx04.trans_new hk5 (fun i hi => by have := hk5n i hi; omega)
  have hx35 : Ext w3 w5 := hx4.trans_new hk5 (fun i hi => hk5n i hi)
  have hs5 := hx35.size
  have hg5 : ∀ g, v5.ownBlock = some g → w3.heap.size ≤ g := fun g hg => by
    rcases hown5 g hg with h' | h'
    · exact hk5n g h'
    · omega
  refine rVal rfl rfl ((by first | exact ync rfl | exact yncf rfl)) ?_
  refine rVal rfl rfl (yfa fl86_1 rfl) ?_
  refine rEffP rfl (zst ti47 rfl rfl (sl_one hS5') (hx35.blk hB3) (by simp)) ?_
  rintro w6 ⟨hB6, hk6⟩
  have hx06 : Ext w w6 := hx05.trans_new hk6 (fun i hi => by omega)
  have hs6 := hk6.size
  have h6 := h.ext hx06
  have hM6 := h6.blk
  have hS56 : Sl w6 v5 9 1 D.B (D.safes.map S) := hS5'.kp hk6 fun g hg => by have := hg5 g hg; omega
  have hS36 : Sl w6 (.slice a2 l.length cap2) 3 1 l.length (l.map I) := by
    have hq2 : ∀ g, (Value.slice a2 l.length cap2).ownBlock = some g → ¬ g = q' := fun g hg => by have := hS2.lt hg; omega
    exact (hS3.ext hx35).kp hk6 fun g hg => hq2 g hg
  refine rEnd ?_
  refine run_seq ?_
  refine run_reg rfl ?_
  refine rVal rfl rfl (ymv rfl) ?_
  refine rValP rfl rfl (pbs (parts := []) (cs := []) (zs := []) Try.underlying84 ti128 rfl (by kernel_rfl) rfl rfl rfl (by decide)) ?_
  rintro _ w7 ⟨b7, rfl, ⟨hb7, hx7, hB7⟩, hS7⟩
  have hx07 := hx06.trans hx7
  have h7 := h.ext hx07
  have hM7 := h7.blk
  have hs7 := hx7.size
  refine rVal rfl rfl (ymv rfl) ?_
  refine rVal rfl rfl ((by first | exact ync rfl | exact yncf rfl)) ?_
  refine rVal rfl rfl (yfa fl86_2 rfl) ?_
  refine rVal rfl rfl (yld Try.underlying84 rfl rfl hM7 rfl) ?_
  refine rValP rfl rfl (pap Try.underlying84 ti128 rfl (by decide) rfl rfl hS7 h7.cache.rd (wrs_one _) (by omega) (by omega)) ?_
  rintro v8 w8 ⟨hS8, hk8, hown8, -⟩
  simp only [Nat.zero_add, List.nil_append] at hS8
  have hk8n : ∀ i, (Value.slice (some ⟨b7, 0, none⟩) 0 0).ownBlock = some i → w6.heap.size ≤ i := fun i hi => by have h' : b7 = i := Option.some.inj hi; omega
  have hx68 : Ext w6 w8 := hx7.trans_new hk8 (fun i hi => hk8n i hi)
  have hs8 := hx68.size
  have hg8 : ∀ g, v8.ownBlock = some g → w6.heap.size ≤ g := fun g hg => by
    rcases hown8 g hg with h' | h'
    · exact hk8n g h'
    · omega
  refine rVal rfl rfl ((by first | exact ync rfl | exact yncf rfl)) ?_
  refine rVal rfl rfl (yfa fl86_2 rfl) ?_
  refine rEffP rfl (zst ti84 rfl rfl (sl_one hS8) (hx68.blk hB6) (by simp)) ?_
  rintro w9 ⟨hB9, hk9⟩
  have hx69 : Kp (fun i => i = q') w6 w9 := hx68.kp.trans hk9
  refine rEnd ?_
  refine run_seq ?_
  refine run_reg rfl ?_
  refine rVal rfl rfl (ymv rfl) ?_
  refine rVal rfl rfl (yas rfl) ?_
  refine rEnd ?_
  refine run_ret Try.func43 rfl ?_
  have hne2 : ∀ g, (Value.slice a2 l.length cap2).ownBlock = some g → ¬ g = q' := fun g hg => by have := hS2.lt hg; omega
  refine ⟨_, rfl, q', v5, v8, _, rfl, ⟨hB9, hS56.kp hx69 (fun g hg => by have := hg5 g hg; omega), hS8.kp hk9 (fun g hg => by have := hg8 g hg; omega), hS36.kp hx69 hne2, h.crash, h.ok, h.len⟩, (hx06.trans hx68).trans_new hk9 (fun i hi => by omega), fun i hi => ?_⟩
  rcases hi with h' | h' | h' | h'
  · omega
  · have := hg5 i h'; omega
  · have := hg8 i h'; omega
  · exact hg2 i h'

def rnewCs (B N : Nat) (u : Value) : List Value := [I (B : Int), I (N : Int), u, .slice none 0 0, I 0, .slice none 0 0, I 0, .int .u8 0, .bool false, I 0, I 0]

theorem rnew_bad (b n : Int) (w : World) (hg : ¬ geoOk b n) : Ret Try.prog 40 [.agg #[I b, I n]] w fun v w' => v = .tuple #[.pointer none, I 1] ∧ Ext w w' := by
  refine ret_of_run (e := [(0, _)]) Try.func40 rfl Try.ntmps40 rfl rfl ?_
  refine run_seq ?_
  refine run_reg rfl ?_
  refine rValP rfl rfl (pbx rfl rfl) ?_
  rintro _ w1 ⟨b1, rfl, hb1, hx1, hB1⟩
  refine rVal rfl rfl (yas rfl) ?_
  refine rVal rfl rfl (yas rfl) ?_
  refine rEnd ?_
  refine run_seq ?_
  refine run_seq ?_
  refine run_reg rfl ?_
  refine rVal rfl rfl (yldA Try.underlying74 rfl ti74 rfl (Blk.cells (n := 2) hB1 (news := [_, _]) rfl) rfl) ?_
  refine rCall rfl rfl (yc (args := [.tmp 6]) cf42 rfl) (rcheck_ret b n _) ?_
  rintro _ w2 ⟨rfl, hx2⟩
  rw [if_neg hg]
  refine rVal rfl rfl (yne rfl rfl) ?_
  refine rEnd ?_
  refine run_if rfl (fun hz => ?_) (fun hz => ?_)
  · skip
    refine run_seq ?_
    refine run_reg rfl ?_
    refine rVal rfl rfl (yas rfl) ?_
    refine rVal rfl rfl (yas rfl) ?_
    refine rEnd ?_
    refine run_ret Try.func40 rfl ?_
    exact ⟨_, rfl, rfl, hx1.trans hx2⟩
  · skip
    exact absurd (by decide) hz

theorem rnew_ok (B N : Nat) (w : World) (hg : geoOk B N) : Ret Try.prog 40 [.agg #[I (B : Int), I (N : Int)]] w fun v w' => ∃ q sv, v = .tuple #[ptr q 0, I 0] ∧ RefM w' q sv (.slice none 0 0) (.slice none 0 0) [] 0 0 (Dev.fresh B N) ∧ Ext w w' ∧ ∀ i, fpR q sv (.slice none 0 0) (.slice none 0 0) i → w.heap.size ≤ i := by
  have hml : maxLen = 9223372036854775807 := rfl
  obtain ⟨g1, g2, g3, g4⟩ := hg
  refine ret_of_run (e := [(0, _)]) Try.func40 rfl Try.ntmps40 rfl rfl ?_
  refine run_seq ?_
  refine run_reg rfl ?_
  refine rValP rfl rfl (pbx rfl rfl) ?_
  rintro _ w1 ⟨b1, rfl, hb1, hx1, hB1⟩
  refine rVal rfl rfl (yas rfl) ?_
  refine rVal rfl rfl (yas rfl) ?_
  refine rEnd ?_
  refine run_seq ?_
  refine run_seq ?_
  refine run_reg rfl ?_
  refine rVal rfl rfl (yldA Try.underlying74 rfl ti74 rfl (Blk.cells (n := 2) hB1 (news := [_, _]) rfl) rfl) ?_
  refine rCall rfl rfl (yc (args := [.tmp 6]) cf42 rfl) (rcheck_ret B N _) ?_
  rintro _ w2 ⟨rfl, hx2⟩
  rw [if_pos ⟨g1, g2, g3, g4⟩]
  replace hB1 := hx2.blk hB1
  refine rVal rfl rfl (yne rfl rfl) ?_
  refine rEnd ?_
  refine run_if rfl (fun hz => ?_) (fun hz => ?_)
  · skip
    exact absurd hz (by decide)
  · skip
    refine run_skip ?_
    refine run_seq ?_
    refine run_reg rfl ?_
    refine rVal rfl rfl (yldA Try.underlying74 rfl ti74 rfl (Blk.cells (n := 2) hB1 (news := [_, _]) rfl) rfl) ?_
    refine rVal rfl rfl (ybd (parts := [(0, .tmp 9)]) (cs := [_, _, _, _, _, _, _, _, _, _, _]) ti86 rfl sp86 rfl rfl) ?_
    refine rValP rfl rfl (pbx rfl rfl) ?_
    rintro _ w3 ⟨q, rfl, hq, hx3, hB3⟩
    replace hB3 : Blk w3 q (rnewCs B N (.slice none 0 0)) 86 := hB3
    have hs1 := hx1.size
    have hs2 := hx2.size
    have hs3 := hx3.size
    have hB13 := hx3.blk hB1
    have hx03 := (hx1.trans hx2).trans hx3
    have hbq : ¬ b1 = q := by have := hB1.lt; omega
    refine rVal rfl rfl (yas rfl) ?_
    refine rEnd ?_
    refine run_seq ?_
    refine run_seq ?_
    refine run_reg rfl ?_
    refine rVal rfl rfl (yas rfl) ?_
    refine rEnd ?_
    refine run_block ?_
    refine run_loop (α := Nat × Value) ((0, .slice none 0 0)) (fun i => [(1, ptr b1 0), (4, ptr q 0), (5, I (i.1 : Int))]) (fun i wi => i.1 ≤ B ∧ Blk wi q (rnewCs B N i.2) 86 ∧ Sl wi i.2 9 1 i.1 (List.replicate i.1 (S (zeros (512 * N)))) ∧ Blk wi b1 [I (B : Int), I (N : Int)] 74 ∧ Ext w wi ∧ ∀ g, i.2.ownBlock = some g → w2.heap.size ≤ g ∧ ¬ g = q) (fun i => B - i.1) (by repeat (first | exact Sub.nil | refine Sub.cons rfl ?_)) ?hI ?hround
    case hI => exact ⟨by simp, hB3, Sl.nil _ _ _, hB13, hx03, fun g hg => by cases hg⟩
    case hround =>
      rintro ⟨i, u⟩ wi ⟨hi, hBq, hSu, hB1i, hxi, hgu⟩ ih
      simp only at hi hBq hSu hgu
      have hszi := hxi.size
      have hqi := hBq.lt
      have hb1i := hB1i.lt
      obtain ⟨ua, ucap, rfl, hua⟩ := hSu.rd.shape
      -- the end of a round: appended, stored
      have fin : ∀ (w8 : World) (v8 : Value) (w9 : World), Kp (fun k => (Value.slice ua i ucap).ownBlock = some k) wi w8 → Sl w8 v8 9 1 (i + 1) (List.replicate i (S (zeros (512 * N))) ++ [S (zeros (512 * N))]) → (∀ g, v8.ownBlock = some g → (Value.slice ua i ucap).ownBlock = some g ∨ wi.heap.size ≤ g) →
          Blk w9 q (rnewCs B N v8) 86 → Kp (fun k => k = q) w8 w9 → (i + 1 ≤ B) → (i + 1, v8).1 ≤ B ∧ Blk w9 q (rnewCs B N (i + 1, v8).2) 86 ∧ Sl w9 (i + 1, v8).2 9 1 (i + 1, v8).1 (List.replicate (i + 1, v8).1 (S (zeros (512 * N)))) ∧ Blk w9 b1 [I (B : Int), I (N : Int)] 74 ∧ Ext w w9 ∧ ∀ g, (i + 1, v8).2.ownBlock = some g → w2.heap.size ≤ g ∧ ¬ g = q := by
        intro w8 v8 w9 hk8 hS8 hown hB9 hk9 hlt
        have hg8 : ∀ g, v8.ownBlock = some g → w2.heap.size ≤ g ∧ ¬ g = q := fun g hg => by
          rcases hown g hg with h' | h'
          · exact hgu g h'
          · have := hB3.lt; exact ⟨by omega, by omega⟩
        refine ⟨hlt, hB9, ?_, (hk9.blk (hk8.blk hB1i fun h => by have := (hgu b1 h).1; have := hB1.lt; omega) (by omega)), (hxi.trans_new hk8 fun k hk => by have := (hgu k hk).1; omega).trans_new hk9 (fun k hk => by omega), hg8⟩
        show Sl w9 v8 _ 1 (i + 1) (List.replicate (i + 1) _)
        rw [List.replicate_succ']
        exact hS8.kp hk9 fun g hg => (hg8 g hg).2
      dsimp only
      refine run_seq ?_
      refine run_seq ?_
      refine run_reg rfl ?_
      refine rVal rfl rfl (ymv rfl) ?_
      refine rVal rfl rfl (yfa fl74_0 rfl) ?_
      refine rVal rfl rfl (yld Try.underlying3 rfl rfl hB1i rfl) ?_
      refine rVal rfl rfl (ylt rfl rfl) ?_
      refine rEnd ?_
      refine run_if rfl (fun hlt => ?_) (fun hlt => ?_)
      · skip
        refine run_skip ?_
        refine run_seq ?_
        refine run_block ?_
        obtain ⟨Sc, hSc⟩ : ∃ Sc : Nat → Prop, Sc = fun k => k = q ∨ (Value.slice ua i ucap).ownBlock = some k := ⟨_, rfl⟩
        have hb1n : ¬ Sc b1 := by
          rw [hSc]; rintro (h | h)
          · exact hbq h
          · have := (hgu b1 h).1; have := hB1.lt; omega
        have h0 : Kp Sc wi wi.drew := (Kp.refl _ wi).drew
        have hx0 : Ext wi wi.drew := Ext.drew0 wi
        refine run_draw (fun w' => Kp Sc wi w') (by kernel_rfl) rfl ?_
        refine hTake (i := 0) rfl (by kernel_rfl) rfl rfl (fun _ hS => ymv rfl) (h0) ?_
        refine hTake (i := 1) rfl (by kernel_rfl) rfl rfl (fun _ hS => ymv rfl) (h0) ?_
        refine hTake (i := 2) rfl (by kernel_rfl) rfl rfl (fun _ hS => (by first | exact ync rfl | exact yncf rfl)) (h0) ?_
        refine hTake (i := 3) rfl (by kernel_rfl) rfl rfl (fun _ hS => yfa fl86_1 rfl) (h0) ?_
        refine hTake (i := 5) rfl (by kernel_rfl) rfl rfl (fun _ hS => yfa fl74_1 rfl) (h0) ?_
        refine hTake (i := 6) rfl (by kernel_rfl) rfl rfl (fun _ hS => yld Try.underlying3 rfl rfl (hS.blk hB1i hb1n) rfl) (h0) ?_
        refine hTake (i := 7) rfl (by kernel_rfl) rfl rfl (fun _ hS => yml rfl rfl (by omega)) (h0) ?_
        refine hTwo (i := 4) (j := 8) (by kernel_rfl) ?_ ?_
        · skip
          refine nVal (i := 4) rfl rfl rfl (yld Try.underlying47 rfl rfl ((hx0).blk hBq) rfl) (h0) ?_
          refine hOne (i := 8) (by kernel_rfl) ?_
          refine nValP (i := 8) rfl rfl rfl (pmk (c := 512 * N) (n := 512 * N) Try.underlying30 ti5 rfl rfl rfl (by omega) (by omega) (by omega)) ?_
          rintro _ wa ⟨ba, rfl, ⟨hba, hxa, hBa⟩, -⟩
          refine ⟨(h0).trans hxa.kp, ?_⟩
          refine hOne (i := 9) (by kernel_rfl) ?_
          refine nVal (i := 9) rfl rfl rfl (yB2S (l := zeros (512 * N)) Try.underlying30 Try.underlying5 Try.underlying9 rfl hBa (zeros_whole _) (by simp [zeros])) ((h0).trans hxa.kp) ?_
          refine hOne (i := 10) (by kernel_rfl) ?_
          refine nValP (i := 10) rfl rfl rfl (pbs (parts := [(0, .tmp 27)]) (cs := [_]) (zs := [Value.string ⟨#[]⟩]) Try.underlying47 ti9 rfl (by kernel_rfl) rfl rfl rfl (by decide)) ?_
          rintro _ wb ⟨bb, rfl, ⟨hbb, hxb, hBb⟩, hSb⟩
          refine ⟨((h0).trans hxa.kp).trans hxb.kp, ?_⟩
          have hxab : Ext wi wb := ((hx0).trans hxa).trans hxb
          have hkab : Kp Sc wi wb := ((h0).trans hxa.kp).trans hxb.kp
          refine hOne (i := 11) (by kernel_rfl) ?_
          refine nValP (i := 11) rfl rfl rfl (pap Try.underlying47 ti9 rfl (by decide) rfl rfl (hSu.ext hxab) hSb.rd (by intro c hc; simp at hc; subst hc; rfl) (by omega) (by omega)) ?_
          rintro v8 w8 ⟨hS8, hk8, hown8, -⟩
          refine ⟨hkab.trans (hk8.mono' fun k hk => by rw [hSc]; exact .inr hk), ?_⟩
          have hk8' := hkab.trans (hk8.mono' (S' := Sc) fun k hk => by rw [hSc]; exact .inr hk)
          refine hTake (i := 12) rfl (by kernel_rfl) rfl rfl (fun _ hS => (by first | exact ync rfl | exact yncf rfl)) (hkab.trans (hk8.mono' fun k hk => by rw [hSc]; exact .inr hk)) ?_
          refine hTake (i := 13) rfl (by kernel_rfl) rfl rfl (fun _ hS => yfa fl86_1 rfl) (hkab.trans (hk8.mono' fun k hk => by rw [hSc]; exact .inr hk)) ?_
          refine hOne (i := 14) (by kernel_rfl) ?_
          refine nEffP (i := 14) rfl rfl (zst ti47 rfl rfl (sl_one hS8) (hk8.blk (hxab.blk hBq) (fun h => (hgu q h).2 rfl)) (by simp [rnewCs])) ?_
          rintro w9 ⟨hB9, hk9⟩
          refine ⟨hk8'.trans (hk9.mono' fun k hk => by rw [hSc]; exact .inl hk), ?_⟩
          refine hEnd (by kernel_rfl) ?_
          refine run_inBlock ?_
          refine run_reg rfl ?_
          refine rVal rfl rfl (ymv rfl) ?_
          refine rVal rfl rfl (yad rfl rfl (by omega)) ?_
          refine rVal rfl rfl (yas rfl) ?_
          refine rEnd ?_
          exact (ih (i + 1, v8) w9 (fin w8 v8 w9 (hxab.kp.trans hk8) hS8 (fun g hg => (hown8 g hg).imp id fun h => Nat.le_trans hxab.size h) hB9 hk9 (by omega)) (by show B - (i + 1) < B - i; omega)).sub (by repeat (first | exact Sub.nil | refine Sub.cons rfl ?_))
        · skip
          refine nValP (i := 8) rfl rfl rfl (pmk (c := 512 * N) (n := 512 * N) Try.underlying30 ti5 rfl rfl rfl (by omega) (by omega) (by omega)) ?_
          rintro _ wa ⟨ba, rfl, ⟨hba, hxa, hBa⟩, -⟩
          refine ⟨h0.trans hxa.kp, ?_⟩
          replace h0 := h0.trans hxa.kp
          replace hx0 := hx0.trans hxa
          refine hTwo (i := 4) (j := 9) (by kernel_rfl) ?_ ?_
          · skip
            refine nVal (i := 4) rfl rfl rfl (yld Try.underlying47 rfl rfl ((hx0).blk hBq) rfl) (h0) ?_
            refine hOne (i := 9) (by kernel_rfl) ?_
            refine nVal (i := 9) rfl rfl rfl (yB2S (l := zeros (512 * N)) Try.underlying30 Try.underlying5 Try.underlying9 rfl hBa (zeros_whole _) (by simp [zeros])) (h0) ?_
            refine hOne (i := 10) (by kernel_rfl) ?_
            refine nValP (i := 10) rfl rfl rfl (pbs (parts := [(0, .tmp 27)]) (cs := [_]) (zs := [Value.string ⟨#[]⟩]) Try.underlying47 ti9 rfl (by kernel_rfl) rfl rfl rfl (by decide)) ?_
            rintro _ wb ⟨bb, rfl, ⟨hbb, hxb, hBb⟩, hSb⟩
            refine ⟨(h0).trans hxb.kp, ?_⟩
            have hxab : Ext wi wb := (hx0).trans hxb
            have hkab : Kp Sc wi wb := (h0).trans hxb.kp
            refine hOne (i := 11) (by kernel_rfl) ?_
            refine nValP (i := 11) rfl rfl rfl (pap Try.underlying47 ti9 rfl (by decide) rfl rfl (hSu.ext hxab) hSb.rd (by intro c hc; simp at hc; subst hc; rfl) (by omega) (by omega)) ?_
            rintro v8 w8 ⟨hS8, hk8, hown8, -⟩
            refine ⟨hkab.trans (hk8.mono' fun k hk => by rw [hSc]; exact .inr hk), ?_⟩
            have hk8' := hkab.trans (hk8.mono' (S' := Sc) fun k hk => by rw [hSc]; exact .inr hk)
            refine hTake (i := 12) rfl (by kernel_rfl) rfl rfl (fun _ hS => (by first | exact ync rfl | exact yncf rfl)) (hkab.trans (hk8.mono' fun k hk => by rw [hSc]; exact .inr hk)) ?_
            refine hTake (i := 13) rfl (by kernel_rfl) rfl rfl (fun _ hS => yfa fl86_1 rfl) (hkab.trans (hk8.mono' fun k hk => by rw [hSc]; exact .inr hk)) ?_
            refine hOne (i := 14) (by kernel_rfl) ?_
            refine nEffP (i := 14) rfl rfl (zst ti47 rfl rfl (sl_one hS8) (hk8.blk (hxab.blk hBq) (fun h => (hgu q h).2 rfl)) (by simp [rnewCs])) ?_
            rintro w9 ⟨hB9, hk9⟩
            refine ⟨hk8'.trans (hk9.mono' fun k hk => by rw [hSc]; exact .inl hk), ?_⟩
            refine hEnd (by kernel_rfl) ?_
            refine run_inBlock ?_
            refine run_reg rfl ?_
            refine rVal rfl rfl (ymv rfl) ?_
            refine rVal rfl rfl (yad rfl rfl (by omega)) ?_
            refine rVal rfl rfl (yas rfl) ?_
            refine rEnd ?_
            exact (ih (i + 1, v8) w9 (fin w8 v8 w9 (hxab.kp.trans hk8) hS8 (fun g hg => (hown8 g hg).imp id fun h => Nat.le_trans hxab.size h) hB9 hk9 (by omega)) (by show B - (i + 1) < B - i; omega)).sub (by repeat (first | exact Sub.nil | refine Sub.cons rfl ?_))
          · skip
            refine nVal (i := 9) rfl rfl rfl (yB2S (l := zeros (512 * N)) Try.underlying30 Try.underlying5 Try.underlying9 rfl hBa (zeros_whole _) (by simp [zeros])) (h0) ?_
            refine hTwo (i := 4) (j := 10) (by kernel_rfl) ?_ ?_
            · skip
              refine nVal (i := 4) rfl rfl rfl (yld Try.underlying47 rfl rfl ((hx0).blk hBq) rfl) (h0) ?_
              refine hOne (i := 10) (by kernel_rfl) ?_
              refine nValP (i := 10) rfl rfl rfl (pbs (parts := [(0, .tmp 27)]) (cs := [_]) (zs := [Value.string ⟨#[]⟩]) Try.underlying47 ti9 rfl (by kernel_rfl) rfl rfl rfl (by decide)) ?_
              rintro _ wb ⟨bb, rfl, ⟨hbb, hxb, hBb⟩, hSb⟩
              refine ⟨(h0).trans hxb.kp, ?_⟩
              have hxab : Ext wi wb := (hx0).trans hxb
              have hkab : Kp Sc wi wb := (h0).trans hxb.kp
              refine hOne (i := 11) (by kernel_rfl) ?_
              refine nValP (i := 11) rfl rfl rfl (pap Try.underlying47 ti9 rfl (by decide) rfl rfl (hSu.ext hxab) hSb.rd (by intro c hc; simp at hc; subst hc; rfl) (by omega) (by omega)) ?_
              rintro v8 w8 ⟨hS8, hk8, hown8, -⟩
              refine ⟨hkab.trans (hk8.mono' fun k hk => by rw [hSc]; exact .inr hk), ?_⟩
              have hk8' := hkab.trans (hk8.mono' (S' := Sc) fun k hk => by rw [hSc]; exact .inr hk)
              refine hTake (i := 12) rfl (by kernel_rfl) rfl rfl (fun _ hS => (by first | exact ync rfl | exact yncf rfl)) (hkab.trans (hk8.mono' fun k hk => by rw [hSc]; exact .inr hk)) ?_
              refine hTake (i := 13) rfl (by kernel_rfl) rfl rfl (fun _ hS => yfa fl86_1 rfl) (hkab.trans (hk8.mono' fun k hk => by rw [hSc]; exact .inr hk)) ?_
              refine hOne (i := 14) (by kernel_rfl) ?_
              refine nEffP (i := 14) rfl rfl (zst ti47 rfl rfl (sl_one hS8) (hk8.blk (hxab.blk hBq) (fun h => (hgu q h).2 rfl)) (by simp [rnewCs])) ?_
              rintro w9 ⟨hB9, hk9⟩
              refine ⟨hk8'.trans (hk9.mono' fun k hk => by rw [hSc]; exact .inl hk), ?_⟩
              refine hEnd (by kernel_rfl) ?_
              refine run_inBlock ?_
              refine run_reg rfl ?_
              refine rVal rfl rfl (ymv rfl) ?_
              refine rVal rfl rfl (yad rfl rfl (by omega)) ?_
              refine rVal rfl rfl (yas rfl) ?_
              refine rEnd ?_
              exact (ih (i + 1, v8) w9 (fin w8 v8 w9 (hxab.kp.trans hk8) hS8 (fun g hg => (hown8 g hg).imp id fun h => Nat.le_trans hxab.size h) hB9 hk9 (by omega)) (by show B - (i + 1) < B - i; omega)).sub (by repeat (first | exact Sub.nil | refine Sub.cons rfl ?_))
            · skip
              refine nValP (i := 10) rfl rfl rfl (pbs (parts := [(0, .tmp 27)]) (cs := [_]) (zs := [Value.string ⟨#[]⟩]) Try.underlying47 ti9 rfl (by kernel_rfl) rfl rfl rfl (by decide)) ?_
              rintro _ wb ⟨bb, rfl, ⟨hbb, hxb, hBb⟩, hSb⟩
              refine ⟨(h0).trans hxb.kp, ?_⟩
              refine hOne (i := 4) (by kernel_rfl) ?_
              refine nVal (i := 4) rfl rfl rfl (yld Try.underlying47 rfl rfl (((hx0).trans hxb).blk hBq) rfl) ((h0).trans hxb.kp) ?_
              have hxab : Ext wi wb := (hx0).trans hxb
              have hkab : Kp Sc wi wb := (h0).trans hxb.kp
              refine hOne (i := 11) (by kernel_rfl) ?_
              refine nValP (i := 11) rfl rfl rfl (pap Try.underlying47 ti9 rfl (by decide) rfl rfl (hSu.ext hxab) hSb.rd (by intro c hc; simp at hc; subst hc; rfl) (by omega) (by omega)) ?_
              rintro v8 w8 ⟨hS8, hk8, hown8, -⟩
              refine ⟨hkab.trans (hk8.mono' fun k hk => by rw [hSc]; exact .inr hk), ?_⟩
              have hk8' := hkab.trans (hk8.mono' (S' := Sc) fun k hk => by rw [hSc]; exact .inr hk)
              refine hTake (i := 12) rfl (by kernel_rfl) rfl rfl (fun _ hS => (by first | exact ync rfl | exact yncf rfl)) (hkab.trans (hk8.mono' fun k hk => by rw [hSc]; exact .inr hk)) ?_
              refine hTake (i := 13) rfl (by kernel_rfl) rfl rfl (fun _ hS => yfa fl86_1 rfl) (hkab.trans (hk8.mono' fun k hk => by rw [hSc]; exact .inr hk)) ?_
              refine hOne (i := 14) (by kernel_rfl) ?_
              refine nEffP (i := 14) rfl rfl (zst ti47 rfl rfl (sl_one hS8) (hk8.blk (hxab.blk hBq) (fun h => (hgu q h).2 rfl)) (by simp [rnewCs])) ?_
              rintro w9 ⟨hB9, hk9⟩
              refine ⟨hk8'.trans (hk9.mono' fun k hk => by rw [hSc]; exact .inl hk), ?_⟩
              refine hEnd (by kernel_rfl) ?_
              refine run_inBlock ?_
              refine run_reg rfl ?_
              refine rVal rfl rfl (ymv rfl) ?_
              refine rVal rfl rfl (yad rfl rfl (by omega)) ?_
              refine rVal rfl rfl (yas rfl) ?_
              refine rEnd ?_
              exact (ih (i + 1, v8) w9 (fin w8 v8 w9 (hxab.kp.trans hk8) hS8 (fun g hg => (hown8 g hg).imp id fun h => Nat.le_trans hxab.size h) hB9 hk9 (by omega)) (by show B - (i + 1) < B - i; omega)).sub (by repeat (first | exact Sub.nil | refine Sub.cons rfl ?_))
      · skip
        have hin : i = B := by omega
        subst hin
        have hsf : (Dev.fresh i N).safes.map S = List.replicate i (S (zeros (512 * N))) := by
          apply List.ext_getElem?
          intro j
          rw [List.getElem?_map, List.getElem?_replicate]
          by_cases hj : j < i
          · rw [safes_get (Dev.fresh i N) j hj, if_pos hj]; rfl
          · rw [if_neg hj, List.getElem?_eq_none (by simp [Dev.fresh]; omega)]; rfl
        refine run_exit rfl ?_
        refine run_seq ?_
        refine run_reg rfl ?_
        refine rVal rfl rfl (ymv rfl) ?_
        refine rVal rfl rfl (yas rfl) ?_
        refine rVal rfl rfl (yas rfl) ?_
        refine rEnd ?_
        refine run_ret Try.func40 rfl ?_
        refine ⟨_, rfl, q, _, rfl, ⟨hBq, ?_, Sl.nil _ _ _, Sl.nil _ _ _, fun h => absurd rfl h, ?_, by simp⟩, hxi, fun k hk => ?_⟩
        · show Sl wi _ _ 1 i _
          rw [hsf]; exact hSu
        · exact ⟨⟨by show 16 ≤ i; omega, by show i ≤ 4096; omega⟩, ⟨by show 1 ≤ N; omega, by show N ≤ 8; omega⟩, (by simp [Dev.fresh]), (fun n s h => by cases h), (fun x hx => by cases hx), (by simp [Dev.fresh]), (by simp [Dev.fresh])⟩
        · rcases hk with h | h | h | h
          · omega
          · have := (hgu k h).1; omega
          · cases h
          · cases h
end Go.Proofs.Ytdapkfppcaaohaa
