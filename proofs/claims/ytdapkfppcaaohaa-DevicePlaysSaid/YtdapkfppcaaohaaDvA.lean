/- The helpers of the statements on devices walked: in, kept. -/
import Derived.Test.YtdapkfppcaaohaaRefG
namespace Go.Proofs.Ytdapkfppcaaohaa
open Go Go.RowKit
set_option linter.all false
set_option maxRecDepth 100000

/-- A crash as the program's, with a mark behind. -/
def InC (w : World) (g cap : Nat) (l : List Int) : Prop := Sl w (.slice (some ⟨g, 0, none⟩) (l.length + 1) cap) 3 1 (l.length + 1) (l.map I ++ [I 987])

theorem in_ret {w : World} (cv : Value) (l : List Int) (tn : Int) (mk : UInt8) (hl : l.length ≤ 17592186044415) (hr : Rd w cv 1 l.length (l.map I)) :
    Ret Try.prog 26 [.agg #[cv, I tn, u8v mk]] w fun v w' => ∃ g cap, v = .agg #[.slice (some ⟨g, 0, none⟩) l.length cap, I tn, u8v mk] ∧ InC w' g cap l ∧ Ext w w' ∧ w.heap.size ≤ g := by
  have hml : maxLen = 9223372036854775807 := rfl
  obtain ⟨ac, capc, rfl, hac⟩ := hr.shape
  refine ret_of_run (e := [(0, _)]) Try.func26 rfl Try.ntmps26 rfl rfl ?_
  refine run_seq ?_
  refine run_reg rfl ?_
  refine rValP rfl rfl (pbx rfl rfl) ?_
  rintro _ w1 ⟨b1, rfl, hb1, hx1, hB1⟩
  refine rValP rfl rfl (pal (cs := [_, _, _]) ti51 rfl) ?_
  rintro _ w2 ⟨b2, rfl, hb2, hx2, hB2⟩
  have hlt0 := hB1.lt
  replace hB1 := hx2.blk hB1
  have hx12 := hx1.trans hx2
  replace hr := hr.ext hx12
  have hlt1 := hB1.lt
  have hlt2 := hB2.lt
  have hs12 := hx12.size
  have hs1 := hx1.size
  refine rEnd ?_
  refine run_seq ?_
  refine run_reg rfl ?_
  refine rVal rfl rfl (yfa fl45_0 rfl) ?_
  refine rVal rfl rfl (yld Try.underlying43 rfl rfl hB1 rfl) ?_
  refine rVal rfl rfl (yln Try.underlying43 rfl) ?_
  refine rVal rfl rfl (yas rfl) ?_
  refine rEnd ?_
  refine run_seq ?_
  refine run_draw (fun w' => Blk w' b1 [.slice ac l.length capc, I tn, u8v mk] 45) (by kernel_rfl) rfl ?_
  refine hTake (i := 1) rfl (by kernel_rfl) rfl rfl (fun _ hS => yfa fl45_0 rfl) ((Ext.drew0 w2).blk hB1) ?_
  refine hTake (i := 2) rfl (by kernel_rfl) rfl rfl (fun _ hS => yld Try.underlying43 rfl rfl hS rfl) ((Ext.drew0 w2).blk hB1) ?_
  refine hTake (i := 6) rfl (by kernel_rfl) rfl rfl (fun _ hS => ymv rfl) ((Ext.drew0 w2).blk hB1) ?_
  refine hTake (i := 8) rfl (by kernel_rfl) rfl rfl (fun _ hS => yfa fl45_1 rfl) ((Ext.drew0 w2).blk hB1) ?_
  refine hTake (i := 9) rfl (by kernel_rfl) rfl rfl (fun _ hS => yld Try.underlying3 rfl rfl hS rfl) ((Ext.drew0 w2).blk hB1) ?_
  refine hTake (i := 10) rfl (by kernel_rfl) rfl rfl (fun _ hS => yfa fl45_2 rfl) ((Ext.drew0 w2).blk hB1) ?_
  refine hTake (i := 11) rfl (by kernel_rfl) rfl rfl (fun _ hS => yld Try.underlying5 rfl rfl hS rfl) ((Ext.drew0 w2).blk hB1) ?_
  refine hTwo (i := 0) (j := 4) (by kernel_rfl) ?_ ?_
  · skip
    refine nValP (i := 0) rfl rfl rfl (pbs (parts := []) (cs := []) (zs := []) Try.underlying43 ti3 rfl (by kernel_rfl) rfl rfl rfl (by decide)) ?_
    rintro _ wa ⟨ba, rfl, ⟨hba, hxa, hBa⟩, hSa⟩
    refine ⟨((Ext.drew0 w2).trans hxa).blk hB1, ?_⟩
    have hX : Ext w2 wa := (Ext.drew0 w2).trans hxa
    have hba' : w2.heap.size ≤ ba := by have := hba; simp at this; omega
    refine hTwo (i := 3) (j := 4) (by kernel_rfl) ?_ ?_
    · skip
      refine nValP (i := 3) rfl rfl rfl (pap Try.underlying43 ti3 rfl (by decide) rfl rfl (hSa) (hr.ext hX) (ints_one l) (by omega) (by omega)) ?_
      rintro v3 wc ⟨hS3, hkc, hownc, -⟩
      refine ⟨(hX.trans_new hkc (fun i hi => by have h' : ba = i := Option.some.inj hi; omega)).blk hB1, ?_⟩
      have hXc : Ext w2 wc := hX.trans_new hkc (fun i hi => by have h' : ba = i := Option.some.inj hi; omega)
      have hszc := hXc.size
      have hszx := hX.size
      have hg3 : ∀ g, v3.ownBlock = some g → w2.heap.size ≤ g := fun g hg => by
        rcases hownc g hg with h' | h'
        · have h'' : ba = g := Option.some.inj h'
          omega
        · omega
      simp only [Nat.zero_add, List.nil_append] at hS3
      refine hOne (i := 4) (by kernel_rfl) ?_
      refine nValP (i := 4) rfl rfl rfl (pbs (parts := [(0, .const (Value.int .i64 987))]) (cs := [_]) (zs := [Value.int .i64 0]) Try.underlying43 ti3 rfl (by kernel_rfl) rfl rfl rfl (by decide)) ?_
      rintro _ wb ⟨bb, rfl, ⟨hbb, hxb, hBb⟩, hSb⟩
      refine ⟨((hXc).trans hxb).blk hB1, ?_⟩
      have hXz := hXc.trans hxb
      have hS3z := hS3.ext hxb
      have hS4z := hSb
      refine hOne (i := 5) (by kernel_rfl) ?_
      refine nValP (i := 5) rfl rfl rfl (pap Try.underlying43 ti3 rfl (by decide) rfl rfl hS3z hS4z.rd (by intro c hc; simp at hc; subst hc; rfl) (by omega) (by omega)) ?_
      rintro v5 w5 ⟨hS5, hk5, hown5, -⟩
      refine ⟨(hXz.trans_new hk5 hg3).blk hB1, ?_⟩
      have hX5 : Ext w2 w5 := hXz.trans_new hk5 hg3
      have hsz5 := hX5.size
      have hszz := hXz.size
      rcases hS5.shape with ⟨-, h⟩ | ⟨g, cap, rfl, hcap⟩
      · omega
      have hgg : w2.heap.size ≤ g := by
        rcases hown5 g rfl with h' | h'
        · exact hg3 g h'
        · omega
      refine hTake (i := 7) rfl (by kernel_rfl) rfl rfl (fun _ hS => yslVt (j := l.length) Try.underlying43 ti3 rfl rfl (by omega)) ((hXz.trans_new hk5 hg3).blk hB1) ?_
      refine hTake (i := 12) rfl (by kernel_rfl) rfl rfl (fun _ hS => ybd (parts := [(0, .tmp 14), (1, .tmp 16), (2, .tmp 18)]) (cs := [_, _, _]) ti51 rfl sp51 rfl rfl) ((hXz.trans_new hk5 hg3).blk hB1) ?_
      refine hOne (i := 13) (by kernel_rfl) ?_
      refine nEffP (i := 13) rfl rfl (zstA (news := [.slice (some ⟨g, 0, none⟩) l.length cap, I tn, u8v mk]) ti51 rfl rfl rfl rfl (hX5.blk hB2) (by simp)) ?_
      rintro w6 ⟨hB6, hk6⟩
      refine ⟨hk6.blk (hX5.blk hB1) (by omega), ?_⟩
      refine hEnd (by kernel_rfl) ?_
      refine run_retR Try.func26 (.cell Try.underlying51 rfl ti51 rfl (Blk.cells (n := 3) hB6 (news := [_, _, _]) rfl) rfl .nil) ?_
      exact ⟨_, rfl, g, cap, rfl, hS5.kp hk6 (fun g' hg' => by have h' : g = g' := Option.some.inj hg'; omega), (hx12.trans hX5).trans_new hk6 (fun i hi => by omega), by omega⟩
    · skip
      refine nValP (i := 4) rfl rfl rfl (pbs (parts := [(0, .const (Value.int .i64 987))]) (cs := [_]) (zs := [Value.int .i64 0]) Try.underlying43 ti3 rfl (by kernel_rfl) rfl rfl rfl (by decide)) ?_
      rintro _ wb ⟨bb, rfl, ⟨hbb, hxb, hBb⟩, hSb⟩
      refine ⟨((hX).trans hxb).blk hB1, ?_⟩
      replace hX := hX.trans hxb
      refine hOne (i := 3) (by kernel_rfl) ?_
      refine nValP (i := 3) rfl rfl rfl (pap Try.underlying43 ti3 rfl (by decide) rfl rfl (hSa.ext hxb) (hr.ext hX) (ints_one l) (by omega) (by omega)) ?_
      rintro v3 wc ⟨hS3, hkc, hownc, -⟩
      refine ⟨(hX.trans_new hkc (fun i hi => by have h' : ba = i := Option.some.inj hi; omega)).blk hB1, ?_⟩
      have hXc : Ext w2 wc := hX.trans_new hkc (fun i hi => by have h' : ba = i := Option.some.inj hi; omega)
      have hszc := hXc.size
      have hszx := hX.size
      have hg3 : ∀ g, v3.ownBlock = some g → w2.heap.size ≤ g := fun g hg => by
        rcases hownc g hg with h' | h'
        · have h'' : ba = g := Option.some.inj h'
          omega
        · omega
      simp only [Nat.zero_add, List.nil_append] at hS3
      have hXz := hXc
      have hS3z := hS3
      have hS4z := hSb.kp hkc (fun g hg hh => by have h1 : bb = g := Option.some.inj hg; have h2 : ba = g := Option.some.inj hh; have := hBa.lt; omega)
      refine hOne (i := 5) (by kernel_rfl) ?_
      refine nValP (i := 5) rfl rfl rfl (pap Try.underlying43 ti3 rfl (by decide) rfl rfl hS3z hS4z.rd (by intro c hc; simp at hc; subst hc; rfl) (by omega) (by omega)) ?_
      rintro v5 w5 ⟨hS5, hk5, hown5, -⟩
      refine ⟨(hXz.trans_new hk5 hg3).blk hB1, ?_⟩
      have hX5 : Ext w2 w5 := hXz.trans_new hk5 hg3
      have hsz5 := hX5.size
      have hszz := hXz.size
      rcases hS5.shape with ⟨-, h⟩ | ⟨g, cap, rfl, hcap⟩
      · omega
      have hgg : w2.heap.size ≤ g := by
        rcases hown5 g rfl with h' | h'
        · exact hg3 g h'
        · omega
      refine hTake (i := 7) rfl (by kernel_rfl) rfl rfl (fun _ hS => yslVt (j := l.length) Try.underlying43 ti3 rfl rfl (by omega)) ((hXz.trans_new hk5 hg3).blk hB1) ?_
      refine hTake (i := 12) rfl (by kernel_rfl) rfl rfl (fun _ hS => ybd (parts := [(0, .tmp 14), (1, .tmp 16), (2, .tmp 18)]) (cs := [_, _, _]) ti51 rfl sp51 rfl rfl) ((hXz.trans_new hk5 hg3).blk hB1) ?_
      refine hOne (i := 13) (by kernel_rfl) ?_
      refine nEffP (i := 13) rfl rfl (zstA (news := [.slice (some ⟨g, 0, none⟩) l.length cap, I tn, u8v mk]) ti51 rfl rfl rfl rfl (hX5.blk hB2) (by simp)) ?_
      rintro w6 ⟨hB6, hk6⟩
      refine ⟨hk6.blk (hX5.blk hB1) (by omega), ?_⟩
      refine hEnd (by kernel_rfl) ?_
      refine run_retR Try.func26 (.cell Try.underlying51 rfl ti51 rfl (Blk.cells (n := 3) hB6 (news := [_, _, _]) rfl) rfl .nil) ?_
      exact ⟨_, rfl, g, cap, rfl, hS5.kp hk6 (fun g' hg' => by have h' : g = g' := Option.some.inj hg'; omega), (hx12.trans hX5).trans_new hk6 (fun i hi => by omega), by omega⟩
  · skip
    refine nValP (i := 4) rfl rfl rfl (pbs (parts := [(0, .const (Value.int .i64 987))]) (cs := [_]) (zs := [Value.int .i64 0]) Try.underlying43 ti3 rfl (by kernel_rfl) rfl rfl rfl (by decide)) ?_
    rintro _ wb ⟨bb, rfl, ⟨hbb, hxb, hBb⟩, hSb⟩
    refine ⟨((Ext.drew0 w2).trans hxb).blk hB1, ?_⟩
    have hXb : Ext w2 wb := (Ext.drew0 w2).trans hxb
    refine hOne (i := 0) (by kernel_rfl) ?_
    refine nValP (i := 0) rfl rfl rfl (pbs (parts := []) (cs := []) (zs := []) Try.underlying43 ti3 rfl (by kernel_rfl) rfl rfl rfl (by decide)) ?_
    rintro _ wa ⟨ba, rfl, ⟨hba, hxa, hBa⟩, hSa⟩
    refine ⟨((hXb).trans hxa).blk hB1, ?_⟩
    have hX : Ext w2 wa := hXb.trans hxa
    have hba' : w2.heap.size ≤ ba := by have := hXb.size; omega
    refine hOne (i := 3) (by kernel_rfl) ?_
    refine nValP (i := 3) rfl rfl rfl (pap Try.underlying43 ti3 rfl (by decide) rfl rfl (hSa) (hr.ext hX) (ints_one l) (by omega) (by omega)) ?_
    rintro v3 wc ⟨hS3, hkc, hownc, -⟩
    refine ⟨(hX.trans_new hkc (fun i hi => by have h' : ba = i := Option.some.inj hi; omega)).blk hB1, ?_⟩
    have hXc : Ext w2 wc := hX.trans_new hkc (fun i hi => by have h' : ba = i := Option.some.inj hi; omega)
    have hszc := hXc.size
    have hszx := hX.size
    have hg3 : ∀ g, v3.ownBlock = some g → w2.heap.size ≤ g := fun g hg => by
      rcases hownc g hg with h' | h'
      · have h'' : ba = g := Option.some.inj h'
        omega
      · omega
    simp only [Nat.zero_add, List.nil_append] at hS3
    have hXz := hXc
    have hS3z := hS3
    have hS4z := (hSb.ext hxa).kp hkc (fun g hg hh => by have h1 : bb = g := Option.some.inj hg; have h2 : ba = g := Option.some.inj hh; have := hBb.lt; omega)
    refine hOne (i := 5) (by kernel_rfl) ?_
    refine nValP (i := 5) rfl rfl rfl (pap Try.underlying43 ti3 rfl (by decide) rfl rfl hS3z hS4z.rd (by intro c hc; simp at hc; subst hc; rfl) (by omega) (by omega)) ?_
    rintro v5 w5 ⟨hS5, hk5, hown5, -⟩
    refine ⟨(hXz.trans_new hk5 hg3).blk hB1, ?_⟩
    have hX5 : Ext w2 w5 := hXz.trans_new hk5 hg3
    have hsz5 := hX5.size
    have hszz := hXz.size
    rcases hS5.shape with ⟨-, h⟩ | ⟨g, cap, rfl, hcap⟩
    · omega
    have hgg : w2.heap.size ≤ g := by
      rcases hown5 g rfl with h' | h'
      · exact hg3 g h'
      · omega
    refine hTake (i := 7) rfl (by kernel_rfl) rfl rfl (fun _ hS => yslVt (j := l.length) Try.underlying43 ti3 rfl rfl (by omega)) ((hXz.trans_new hk5 hg3).blk hB1) ?_
    refine hTake (i := 12) rfl (by kernel_rfl) rfl rfl (fun _ hS => ybd (parts := [(0, .tmp 14), (1, .tmp 16), (2, .tmp 18)]) (cs := [_, _, _]) ti51 rfl sp51 rfl rfl) ((hXz.trans_new hk5 hg3).blk hB1) ?_
    refine hOne (i := 13) (by kernel_rfl) ?_
    refine nEffP (i := 13) rfl rfl (zstA (news := [.slice (some ⟨g, 0, none⟩) l.length cap, I tn, u8v mk]) ti51 rfl rfl rfl rfl (hX5.blk hB2) (by simp)) ?_
    rintro w6 ⟨hB6, hk6⟩
    refine ⟨hk6.blk (hX5.blk hB1) (by omega), ?_⟩
    refine hEnd (by kernel_rfl) ?_
    refine run_retR Try.func26 (.cell Try.underlying51 rfl ti51 rfl (Blk.cells (n := 3) hB6 (news := [_, _, _]) rfl) rfl .nil) ?_
    exact ⟨_, rfl, g, cap, rfl, hS5.kp hk6 (fun g' hg' => by have h' : g = g' := Option.some.inj hg'; omega), (hx12.trans hX5).trans_new hk6 (fun i hi => by omega), by omega⟩

theorem InC.cell {w : World} {g cap : Nat} {l : List Int} (h : InC w g cap l) (i : Nat) (hi : i < l.length) : w.cell? ⟨g, 0 + i * 1, none⟩ = some (I l[i]) := by
  have := sl_cellN h (j := i) (u := I l[i]) (by rw [List.getElem?_append_left (by simpa using hi), List.getElem?_map, List.getElem?_eq_getElem hi]; rfl)
  simpa using this
theorem InC.mark {w : World} {g cap : Nat} {l : List Int} (h : InC w g cap l) : w.cell? ⟨g, 0 + l.length * 1, none⟩ = some (I 987) := by
  have := sl_cellN h (j := l.length) (u := I 987) (by rw [List.getElem?_append_right (by simp)]; simp)
  simpa using this
theorem InC.rd {w : World} {g cap : Nat} {l : List Int} (h : InC w g cap l) : Rd w (.slice (some ⟨g, 0, none⟩) l.length cap) 1 l.length (l.map I) := by
  refine ⟨by simp, .inr ⟨g, 0, cap, rfl, fun j u hj => ?_⟩⟩
  exact sl_cellN h (by
    rw [List.getElem?_append_left (by
      rcases Nat.lt_or_ge j (l.map I).length with h' | h'
      · exact h'
      · rw [List.getElem?_eq_none h'] at hj; cases hj)]
    exact hj)
theorem InC.cap {w : World} {g cap : Nat} {l : List Int} (h : InC w g cap l) : l.length + 1 ≤ cap := by
  rcases h.shape with ⟨h', -⟩ | ⟨g', cap', h', hc⟩
  · cases h'
  · cases h'; exact hc

theorem kept_ret' {w : World} {g cap : Nat} {l : List Int} (cv : Value) (tn tn' : Int) (mk mk' : UInt8) (hl : l.length ≤ 17592186044415) (hI : InC w g cap l) (hr : Rd w cv 1 l.length (l.map I)) :
    Ret Try.prog 78 [.agg #[.slice (some ⟨g, 0, none⟩) l.length cap, I tn, u8v mk], .agg #[cv, I tn', u8v mk']] w fun v w' => v = .bool true ∧ Ext w w' := by
  have hcap := hI.cap
  obtain ⟨ac, capc, rfl, hac⟩ := hr.shape
  refine ret_of_run (e := [(0, _), (1, _)]) Try.func78 rfl Try.ntmps78 rfl rfl ?_
  refine run_seq ?_
  refine run_reg rfl ?_
  refine rValP rfl rfl (pbx rfl rfl) ?_
  rintro _ w1 ⟨b2, rfl, hb2, hx1, hB2⟩
  refine rValP rfl rfl (pbx rfl rfl) ?_
  rintro _ w2 ⟨b3, rfl, hb3, hx2, hB3⟩
  replace hB2 := hx2.blk hB2
  have hx12 := hx1.trans hx2
  replace hI : InC w2 g cap l := Sl.ext hI hx12
  replace hr := hr.ext hx12
  refine rVal rfl rfl (yas rfl) ?_
  refine rEnd ?_
  refine run_seq ?_
  refine run_reg rfl ?_
  refine rVal rfl rfl (yfa fl45_0 rfl) ?_
  refine rVal rfl rfl ((by first | exact yld Try.underlying43 rfl rfl hB2 rfl | exact yld Try.underlying43 rfl rfl hB3 rfl)) ?_
  refine rVal rfl rfl (yln Try.underlying43 rfl) ?_
  refine rVal rfl rfl (yas rfl) ?_
  refine rEnd ?_
  refine run_seq ?_
  refine run_seq ?_
  refine run_reg rfl ?_
  refine rVal rfl rfl (yfa fl51_0 rfl) ?_
  refine rVal rfl rfl ((by first | exact yld Try.underlying43 rfl rfl hB2 rfl | exact yld Try.underlying43 rfl rfl hB3 rfl)) ?_
  refine rVal rfl rfl (yln Try.underlying43 rfl) ?_
  refine rVal rfl rfl (ymv rfl) ?_
  refine rVal rfl rfl (yne rfl rfl) ?_
  refine rFalse (by (first | exact fun h => h rfl | assumption | omega)) ?_
  refine rVal rfl rfl (ymv rfl) ?_
  refine rVal rfl rfl (yfa fl51_0 rfl) ?_
  refine rVal rfl rfl ((by first | exact yld Try.underlying43 rfl rfl hB2 rfl | exact yld Try.underlying43 rfl rfl hB3 rfl)) ?_
  refine rVal rfl rfl (ymv rfl) ?_
  refine rVal rfl rfl (yad rfl rfl (by omega)) ?_
  refine rVal rfl rfl (yslVt (j := l.length + 1) Try.underlying43 ti3 rfl rfl (by omega)) ?_
  refine rVal rfl rfl (ymv rfl) ?_
  refine rVal rfl rfl (yis Try.underlying43 ti3 rfl rfl (by omega)) ?_
  refine rVal rfl rfl (yldc Try.underlying3 rfl rfl hI.mark) ?_
  refine rVal rfl rfl (yne rfl rfl) ?_
  refine rFalse (by (first | exact fun h => h rfl | assumption | omega)) ?_
  refine rVal rfl rfl (ypF rfl rfl) ?_
  refine rEnd ?_
  refine Run.sub (e := [(2, _), (3, _), (4, _), (5, _), (25, _)]) ?_ (by repeat (first | exact Sub.nil | refine Sub.cons rfl ?_))
  refine run_false rfl ?_
  refine run_skip ?_
  refine run_seq ?_
  refine run_seq ?_
  refine run_reg rfl ?_
  refine rVal rfl rfl (yas rfl) ?_
  refine rEnd ?_
  refine run_block ?_
  refine run_loop (α := Nat) (0) (fun i => [(2, ptr b2 0), (3, ptr b3 0), (5, I (l.length : Int)), (6, I (i : Int))]) (fun i wi => i ≤ l.length ∧ Ext w2 wi) (fun i => l.length - i) (by repeat (first | exact Sub.nil | refine Sub.cons rfl ?_)) ?hI ?hround
  case hI => exact ⟨by omega, Ext.refl _⟩
  case hround =>
    rintro i wi ⟨hi, hxi⟩ ih
    dsimp only
    refine run_seq ?_
    refine run_seq ?_
    refine run_reg rfl ?_
    refine rVal rfl rfl (ymv rfl) ?_
    refine rVal rfl rfl (ymv rfl) ?_
    refine rVal rfl rfl (ylt rfl rfl) ?_
    refine rEnd ?_
    refine run_if rfl (fun hlt => ?_) (fun hlt => ?_)
    · skip
      have hlt' : i < l.length := by omega
      have hB2i := hxi.blk hB2
      have hB3i := hxi.blk hB3
      have hIi : InC wi g cap l := Sl.ext hI hxi
      have hri := hr.ext hxi
      rcases hri.2 with ⟨c, -, h⟩ | ⟨gc, offc, capc', hva, hcc⟩
      · omega
      cases hva
      have c1 := hIi.cell i hlt'
      have c2 := hcc (i * 1) (I l[i]) (by simp [List.getElem?_eq_getElem hlt'])
      refine run_skip ?_
      refine run_seq ?_
      refine run_block ?_
      refine run_seq ?_
      refine run_draw (fun w' => w' = wi.drew) (by kernel_rfl) rfl ?_
      refine hTake (i := 0) rfl (by kernel_rfl) rfl rfl (fun _ hS => yfa fl51_0 rfl) (rfl) ?_
      refine hTake (i := 1) rfl (by kernel_rfl) rfl rfl (fun _ hS => (by first | exact yld Try.underlying43 rfl rfl (by rw [hS]; exact (Ext.drew0 wi).blk hB2i) rfl | exact yld Try.underlying43 rfl rfl (by rw [hS]; exact (Ext.drew0 wi).blk hB3i) rfl)) (rfl) ?_
      refine hTake (i := 2) rfl (by kernel_rfl) rfl rfl (fun _ hS => ymv rfl) (rfl) ?_
      refine hTake (i := 3) rfl (by kernel_rfl) rfl rfl (fun _ hS => yis Try.underlying43 ti3 rfl rfl (by omega)) (rfl) ?_
      refine hTake (i := 5) rfl (by kernel_rfl) rfl rfl (fun _ hS => yfa fl45_0 rfl) (rfl) ?_
      refine hTake (i := 6) rfl (by kernel_rfl) rfl rfl (fun _ hS => (by first | exact yld Try.underlying43 rfl rfl (by rw [hS]; exact (Ext.drew0 wi).blk hB2i) rfl | exact yld Try.underlying43 rfl rfl (by rw [hS]; exact (Ext.drew0 wi).blk hB3i) rfl)) (rfl) ?_
      refine hTake (i := 7) rfl (by kernel_rfl) rfl rfl (fun _ hS => ymv rfl) (rfl) ?_
      refine hTake (i := 8) rfl (by kernel_rfl) rfl rfl (fun _ hS => yis Try.underlying43 ti3 rfl rfl (by omega)) (rfl) ?_
      refine hTake (i := 4) rfl (by kernel_rfl) rfl rfl (fun _ hS => yldc Try.underlying3 rfl rfl (by rw [hS]; exact c1)) (rfl) ?_
      refine hTake (i := 9) rfl (by kernel_rfl) rfl rfl (fun _ hS => yldc Try.underlying3 rfl rfl (by rw [hS]; exact c2)) (rfl) ?_
      refine hTake (i := 10) rfl (by kernel_rfl) rfl rfl (fun _ hS => yne rfl rfl) (rfl) ?_
      refine hFalse (by (first | exact fun h => h rfl | assumption | omega)) ?_
      refine hEnd (by kernel_rfl) ?_
      refine run_false rfl ?_
      refine run_skip ?_
      refine run_inBlock ?_
      refine run_reg rfl ?_
      refine rVal rfl rfl (ymv rfl) ?_
      refine rVal rfl rfl (yad rfl rfl (by omega)) ?_
      refine rVal rfl rfl (yas rfl) ?_
      refine rEnd ?_
      exact (ih (i + 1) _ ⟨by omega, hxi.trans (Ext.drew0 wi)⟩ (by omega)).sub (by repeat (first | exact Sub.nil | refine Sub.cons rfl ?_))
    · skip
      refine run_exit rfl ?_
      refine run_seq ?_
      refine run_reg rfl ?_
      refine rVal rfl rfl (yas rfl) ?_
      refine rEnd ?_
      refine run_ret Try.func78 rfl ?_
      exact ⟨_, rfl, rfl, hx12.trans hxi⟩
end Go.Proofs.Ytdapkfppcaaohaa
