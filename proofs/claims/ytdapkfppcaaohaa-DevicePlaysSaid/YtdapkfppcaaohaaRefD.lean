/- The document's device (wattleref04): Pull, Write, Flush, Plan walked. -/
import Derived.Test.YtdapkfppcaaohaaRefC
namespace Go.Proofs.Ytdapkfppcaaohaa
open Go Go.RowKit
set_option linter.all false
set_option maxRecDepth 100000

section
variable {w w' : World} {q : Nat} {sv ca kp : Value} {l : List Int} {tn : Int} {mk : UInt8} {D : Dev}

theorem RefM.svE (h : RefM w q sv ca kp l tn mk D) : ∃ gs caps, sv = .slice (some ⟨gs, 0, none⟩) D.B caps := by
  have := h.ok.hB
  rcases h.safe.shape with ⟨-, e⟩ | ⟨gs, caps, e, -⟩
  · omega
  · exact ⟨gs, caps, e⟩
theorem updR_fall {gs caps : Nat} {D : Dev} (k : Kp (fun i => i = q ∨ i = gs) w w') : Upd (fpR q (.slice (some ⟨gs, 0, none⟩) D.B caps) ca kp) (fpR q (.slice (some ⟨gs, 0, none⟩) D.B caps) (.slice none 0 0) kp) w w' :=
  ⟨k.mono' fun i hi => hi.elim .inl fun h => .inr (.inl (by rw [h]; rfl)), fun i hi => by
    rcases hi with h | h | h | h
    · exact .inl (.inl h)
    · exact .inl (.inr (.inl h))
    · cases h
    · exact .inl (.inr (.inr (.inr h)))⟩

theorem rpull_ret (h : RefM w q sv ca kp l tn mk D) (cv : Value) (l' : List Int) (tn' : Int) (mk' : UInt8) (hl : l'.length ≤ 17592186044416) (hr : Rd w cv 1 l'.length (l'.map I)) (hg : 0 < l'.length → ∀ g, sv.ownBlock = some g → cv.ownBlock ≠ some g) (hc : D.Bd) :
    Ret Try.prog 75 [ptr q 0, .agg #[cv, I tn', u8v mk']] w fun v w' => v = I (if D.down then 8 else 0) ∧ RefR w q sv ca kp (if D.down then D else D.fall l' tn' mk') w' := by
  obtain ⟨gs, caps, rfl⟩ := h.svE
  obtain ⟨ac, capc, rfl, hac⟩ := hr.shape
  have hg' := fun h0 => hg h0 gs rfl
  refine ret_of_run (e := [(0, _), (1, _)]) Try.func75 rfl Try.ntmps75 rfl rfl ?_
  refine run_seq ?_
  refine run_reg rfl ?_
  refine rValP rfl rfl (pbx rfl rfl) ?_
  rintro _ w1 ⟨b3, rfl, hb3, hx1, hB3⟩
  replace h := h.ext hx1
  replace hr := hr.ext hx1
  have hM := h.blk
  refine rVal rfl rfl (yas rfl) ?_
  refine rEnd ?_
  refine run_seq ?_
  refine run_seq ?_
  refine run_reg rfl ?_
  refine rVal rfl rfl (ymv rfl) ?_
  refine rVal rfl rfl ((by first | exact ync rfl | exact yncf rfl)) ?_
  refine rVal rfl rfl (yfa fl86_5 rfl) ?_
  refine rVal rfl rfl (yld Try.underlying4 rfl rfl hM rfl) ?_
  refine rEnd ?_
  cases hd : D.down with
  | true =>
    refine run_true rfl ?_
    refine run_seq ?_
    refine run_reg rfl ?_
    refine rVal rfl rfl (yas rfl) ?_
    refine rEnd ?_
    refine run_ret Try.func75 rfl ?_
    exact ⟨_, rfl, rfl, RefR.same h hx1⟩
  | false =>
    refine run_false rfl ?_
    refine run_skip ?_
    refine run_seq ?_
    refine run_reg rfl ?_
    refine rVal rfl rfl (ymv rfl) ?_
    refine rVal rfl rfl (yldA Try.underlying45 rfl ti45 rfl (Blk.cells (n := 3) hB3 (news := [_, _, _]) rfl) rfl) ?_
    refine rCall rfl rfl (yc (args := [.tmp 9, .tmp 10]) cf86 rfl) (rfall_ret h l' tn' mk' hl hr hg' (by have := hc.2.1; omega)) ?_
    rintro _ w3 ⟨rfl, h3, hk3⟩
    refine rEnd ?_
    refine run_seq ?_
    refine run_reg rfl ?_
    refine rVal rfl rfl (yas rfl) ?_
    refine rEnd ?_
    refine run_ret Try.func75 rfl ?_
    exact ⟨_, rfl, rfl, RefR.trans hx1.upd ⟨_, _, _, _, _, _, h3, updR_fall hk3⟩⟩

theorem RefM.gone (h : RefM w q sv ca kp l tn mk D) {g : Nat} (hg : ca.ownBlock = some g) : ¬ g = q ∧ sv.ownBlock ≠ some g ∧ kp.ownBlock ≠ some g := by
  obtain ⟨xs, fz', hx⟩ := sl_block h.cache hg
  refine ⟨fun e => h.sep.2.1 (by rw [hg, e]), fun e => ?_, fun e => ?_⟩
  · obtain ⟨ys, fy, hy⟩ := sl_block h.safe e
    rw [hx] at hy
    exact absurd (Obj.cells.inj (Option.some.inj hy)).2.1 (by decide)
  · obtain ⟨ys, fy, hy⟩ := sl_block h.keep e
    rw [hx] at hy
    exact absurd (Obj.cells.inj (Option.some.inj hy)).2.1 (by decide)

theorem Dev.Ok.push {D : Dev} (h : D.Ok) {n : Int} {s : Bytes} (hn : 0 ≤ n ∧ n < (D.B : Int)) (hs : s.length = 512 * D.N) : (D.push n s).Ok :=
  ⟨h.hB, h.hN, h.due, h.sf, fun x hx => by
    simp only [Dev.push, List.mem_append, List.mem_singleton] at hx
    rcases hx with hx | rfl
    · exact h.cache x hx
    · exact ⟨hn.1, hn.2, hs⟩, h.len, h.reads⟩

theorem rwrite_ret (n : Int) (s : Bytes) (h : RefM w q sv ca kp l tn mk D) (hc : D.Bd) (hk : l.length ≤ 17592186044416) :
    Ret Try.prog 71 [ptr q 0, I n, S s] w fun v w' => v = I (D.write n s).2 ∧ RefR w q sv ca kp (D.write n s).1 w' := by
  have hml : maxLen = 9223372036854775807 := rfl
  obtain ⟨hc1, hc2, hc3⟩ := hc
  have hcal := h.ok.len
  have hM := h.blk
  refine ret_of_run (e := [(0, _), (1, _), (2, _)]) Try.func71 rfl Try.ntmps71 rfl rfl ?_
  refine run_seq ?_
  refine run_reg rfl ?_
  refine rVal rfl rfl (yas rfl) ?_
  refine rEnd ?_
  refine run_seq ?_
  refine run_seq ?_
  refine run_reg rfl ?_
  refine rVal rfl rfl (ymv rfl) ?_
  refine rVal rfl rfl ((by first | exact ync rfl | exact yncf rfl)) ?_
  refine rVal rfl rfl (yfa fl86_5 rfl) ?_
  refine rVal rfl rfl (yld Try.underlying4 rfl rfl hM rfl) ?_
  refine rEnd ?_
  cases hd : D.down with
  | true =>
    refine run_true rfl ?_
    refine run_seq ?_
    refine run_reg rfl ?_
    refine rVal rfl rfl (yas rfl) ?_
    refine rEnd ?_
    refine run_ret Try.func71 rfl ?_
    have e : D.write n s = (D, 8) := by simp [Dev.write, hd]
    rw [e]
    exact ⟨_, rfl, rfl, RefR.same h (Ext.refl _)⟩
  | false =>
    refine run_false rfl ?_
    refine run_skip ?_
    refine run_seq ?_
    refine run_seq ?_
    refine run_reg rfl ?_
    refine rVal rfl rfl (ymv rfl) ?_
    refine rVal rfl rfl (ylt rfl rfl) ?_
    refine rVal_if (fun h1 => ?_) (fun h1 => ?_)
    · skip
      refine rVal rfl rfl (ymv rfl) ?_
      refine rSkip rfl rfl ?_
      refine rSkip rfl rfl ?_
      refine rSkip rfl rfl ?_
      refine rSkip rfl rfl ?_
      refine rSkip rfl rfl ?_
      refine rSkip rfl rfl ?_
      refine rSkip rfl rfl ?_
      refine rVal rfl rfl (ypT rfl rfl) ?_
      refine rVal rfl rfl (ymv rfl) ?_
      refine rSkip rfl rfl ?_
      refine rSkip rfl rfl ?_
      refine rSkip rfl rfl ?_
      refine rSkip rfl rfl ?_
      refine rSkip rfl rfl ?_
      refine rVal rfl rfl (ypT rfl rfl) ?_
      refine rEnd ?_
      refine Run.sub (e := [(0, _), (1, _), (2, _), (6, _), (29, _)]) ?_ (by repeat (first | exact Sub.nil | refine Sub.cons rfl ?_))
      refine run_true rfl ?_
      refine run_seq ?_
      refine run_reg rfl ?_
      refine rVal rfl rfl (yas rfl) ?_
      refine rEnd ?_
      refine run_ret Try.func71 rfl ?_
      have e : D.write n s = (D, 1) := by
        have : D.has n = false := by simp [Dev.has]; omega
        simp [Dev.write, hd, this]
      rw [e]
      exact ⟨_, rfl, rfl, RefR.same h (Ext.refl _)⟩
    · skip
      refine rVal rfl rfl (ymv rfl) ?_
      refine rVal rfl rfl (ymv rfl) ?_
      refine rVal rfl rfl (ymv rfl) ?_
      refine rVal rfl rfl ((by first | exact ync rfl | exact yncf rfl)) ?_
      refine rVal rfl rfl (yfa fl86_0 rfl) ?_
      refine rVal rfl rfl (yfa fl74_0 rfl) ?_
      refine rVal rfl rfl (yld Try.underlying3 rfl rfl hM rfl) ?_
      refine rVal rfl rfl (yge rfl rfl) ?_
      refine rVal_if (fun h2 => ?_) (fun h2 => ?_)
      · skip
        refine rVal rfl rfl (ypF rfl rfl) ?_
        refine rVal rfl rfl (ymv rfl) ?_
        refine rSkip rfl rfl ?_
        refine rSkip rfl rfl ?_
        refine rSkip rfl rfl ?_
        refine rSkip rfl rfl ?_
        refine rSkip rfl rfl ?_
        refine rVal rfl rfl (ypT rfl rfl) ?_
        refine rEnd ?_
        refine Run.sub (e := [(0, _), (1, _), (2, _), (6, _), (29, _)]) ?_ (by repeat (first | exact Sub.nil | refine Sub.cons rfl ?_))
        refine run_true rfl ?_
        refine run_seq ?_
        refine run_reg rfl ?_
        refine rVal rfl rfl (yas rfl) ?_
        refine rEnd ?_
        refine run_ret Try.func71 rfl ?_
        have e : D.write n s = (D, 1) := by
          have : D.has n = false := by simp [Dev.has]; omega
          simp [Dev.write, hd, this]
        rw [e]
        exact ⟨_, rfl, rfl, RefR.same h (Ext.refl _)⟩
      · skip
        have hh : D.has n = true := by simp [Dev.has]; omega
        refine rVal rfl rfl (ypF rfl rfl) ?_
        refine rVal rfl rfl (ymv rfl) ?_
        refine rVal rfl rfl (ymv rfl) ?_
        refine rVal rfl rfl (ylnS Try.underlying9 rfl) ?_
        refine rVal rfl rfl (ymv rfl) ?_
        refine rCall rfl rfl (yc (args := [.tmp 26]) cf47 rfl) (rsize_ret h) ?_
        rintro _ w2 ⟨rfl, rfl⟩
        refine rVal rfl rfl (yne rfl rfl) ?_
        refine rVal_if (fun h3 => ?_) (fun h3 => ?_)
        · skip
          refine rVal rfl rfl (ypF rfl rfl) ?_
          refine rEnd ?_
          refine Run.sub (e := [(0, _), (1, _), (2, _), (6, _), (29, _)]) ?_ (by repeat (first | exact Sub.nil | refine Sub.cons rfl ?_))
          refine run_true rfl ?_
          refine run_seq ?_
          refine run_reg rfl ?_
          refine rVal rfl rfl (yas rfl) ?_
          refine rEnd ?_
          refine run_ret Try.func71 rfl ?_
          have e : D.write n s = (D, 1) := by
            have : s.length ≠ 512 * D.N := by omega
            simp [Dev.write, hd, hh, this]
          rw [e]
          exact ⟨_, rfl, rfl, RefR.same h (Ext.refl _)⟩
        · skip
          have hsl : s.length = 512 * D.N := by omega
          refine rVal rfl rfl (ypF rfl rfl) ?_
          refine rEnd ?_
          refine Run.sub (e := [(0, _), (1, _), (2, _), (6, _), (29, _)]) ?_ (by repeat (first | exact Sub.nil | refine Sub.cons rfl ?_))
          refine run_false rfl ?_
          refine run_skip ?_
          refine run_seq ?_
          refine run_reg rfl ?_
          refine rVal rfl rfl (ymv rfl) ?_
          refine rCall rfl rfl (yc (args := [.tmp 30]) cf85 rfl) (rcounted_ret h hc1) ?_
          rintro _ w3 ⟨rfl, h3, hk3⟩
          obtain ⟨a, cap, rfl, ha⟩ := h3.cache.rd.shape
          have hM3 := h3.blk
          refine rVal rfl rfl (yas rfl) ?_
          refine rEnd ?_
          refine run_seq ?_
          refine run_reg rfl ?_
          refine rVal rfl rfl (ymv rfl) ?_
          refine rVal rfl rfl (ymv rfl) ?_
          refine rVal rfl rfl ((by first | exact ync rfl | exact yncf rfl)) ?_
          refine rVal rfl rfl (yfa fl86_2 rfl) ?_
          refine rVal rfl rfl (yld Try.underlying84 rfl rfl hM3 rfl) ?_
          refine rVal rfl rfl (ymv rfl) ?_
          refine rVal rfl rfl (ymv rfl) ?_
          refine rVal rfl rfl (ybd (parts := [(0, .tmp 37), (1, .tmp 38)]) (cs := [_, _]) ti128 rfl sp128 rfl rfl) ?_
          refine rValP rfl rfl (pbs (parts := [(0, .tmp 39)]) (cs := [_, _]) (zs := [Value.int .i64 0, Value.string ⟨#[]⟩]) Try.underlying84 ti128 rfl (by kernel_rfl) rfl rfl rfl (by decide)) ?_
          rintro _ w4 ⟨b4, rfl, ⟨hb4, hx4, hB4⟩, hS4⟩
          have h4 := h3.ext hx4
          refine rValP rfl rfl (pap Try.underlying84 ti128 rfl (by decide) rfl rfl h4.cache hS4.rd (by intro c hc; simp at hc; rcases hc with rfl | rfl <;> rfl) (by show (D.cache.length + 1) * _ ≤ _; omega) (by show D.cache.length + 1 ≤ _; omega)) ?_
          rintro v' w5 ⟨hS5, hk5, hown5, -⟩
          have hvo : oneV v' = true := sl_one hS5
          have hM5 := hk5.blk h4.blk (fun hg => (h4.gone hg).1 rfl)
          refine rVal rfl rfl ((by first | exact ync rfl | exact yncf rfl)) ?_
          refine rVal rfl rfl (yfa fl86_2 rfl) ?_
          refine rEffP rfl (zst ti84 rfl rfl hvo hM5 (by simp)) ?_
          rintro w6 ⟨hB6, hk6⟩
          have hnq : ∀ g, v'.ownBlock = some g → ¬ g = q := fun g hg => by
            rcases hown5 g hg with h' | h'
            · exact (h4.gone h').1
            · have := h4.blk.lt; omega
          have h6 : RefM w6 q sv v' kp l tn mk (D.push n s).count := by
            refine ⟨hB6, ?_, ?_, ?_, ?_, (h.ok.push (by omega) hsl).count, h.len⟩
            · exact (h4.safe.kp hk5 fun g hg hc => (h4.gone hc).2.1 hg).kp hk6 fun g hg e => h4.sep.1 (by rw [hg, e])
            · have e : wrs (D.push n s).count.cache = wrs D.cache ++ [I n, S s] := by simp [Dev.push, Dev.count, wrs, wr]
              have e2 : (D.push n s).count.cache.length = D.cache.length + 1 := by simp [Dev.push, Dev.count]
              rw [e, e2]
              exact hS5.kp hk6 hnq
            · exact (h4.keep.kp hk5 fun g hg hc => (h4.gone hc).2.2 hg).kp hk6 fun g hg e => h4.sep.2.2 (by rw [hg, e])
            · intro hdu
              refine h.crash fun e0 => hdu ?_
              simp [Dev.push, Dev.count, e0]
          have hs4 := hx4.size
          have hs3 := hk3.size
          have hu : Upd (fpR q sv (.slice a D.count.cache.length cap) kp) (fpR q sv v' kp) w2 w6 := by
            refine ⟨((hk3.mono' fun i hi => .inl hi).trans (hx4.kp.trans (hk5.mono' fun i hi => .inr (.inr (.inl hi))))).trans (hk6.mono' fun i hi => .inl hi), fun i hi => ?_⟩
            rcases hi with h' | h' | h' | h'
            · exact .inl (.inl h')
            · exact .inl (.inr (.inl h'))
            · rcases hown5 i h' with h'' | h''
              · exact .inl (.inr (.inr (.inl h'')))
              · exact .inr (by omega)
            · exact .inl (.inr (.inr (.inr h')))
          refine rEnd ?_
          refine run_seq ?_
          refine run_seq ?_
          refine run_reg rfl ?_
          refine rVal rfl rfl (ymv rfl) ?_
          refine rEnd ?_
          refine run_if rfl (fun hdue => ?_) (fun hdue => ?_)
          · skip
            obtain ⟨c1, c2, c3⟩ := h.crash (by omega)
            obtain ⟨gs, caps, rfl⟩ := h6.svE
            have hM6 := h6.blk
            refine run_seq ?_
            refine run_reg rfl ?_
            refine rVal rfl rfl (ymv rfl) ?_
            refine rVal rfl rfl (ymv rfl) ?_
            refine rVal rfl rfl ((by first | exact ync rfl | exact yncf rfl)) ?_
            refine rVal rfl rfl (yfa fl86_4 rfl) ?_
            refine rVal rfl rfl (yldA Try.underlying45 rfl ti45 rfl (Blk.cells (n := 3) hM6 (news := [_, _, _]) rfl) rfl) ?_
            refine rCall rfl rfl (yc (args := [.tmp 45, .tmp 49]) cf86 rfl) (rfall_ret h6 l tn mk hk h6.keep.rd (fun _ => (RefM.sepS h6).2.2) (by show (D.cache ++ [(n, s)]).length < 2000000000000; simp; omega)) ?_
            rintro _ w8 ⟨rfl, h8, hk8⟩
            refine rEnd ?_
            refine Run.sub (e := [(6, _)]) ?_ (by repeat (first | exact Sub.nil | refine Sub.cons rfl ?_))
            refine run_seq ?_
            refine run_reg rfl ?_
            refine rVal rfl rfl (yas rfl) ?_
            refine rEnd ?_
            refine run_ret Try.func71 rfl ?_
            have e : D.write n s = (((D.push n s).count).drop', 8) := by
              have hdue' : D.due = 1 := hdue
              simp [Dev.write, hd, hh, hsl, hdue']
            rw [e]
            have e2 : (D.push n s).count.drop' = (D.push n s).count.fall l tn mk := by rw [← c1, ← c2, ← c3]; rfl
            rw [e2]
            exact ⟨_, rfl, rfl, _, _, _, _, _, _, h8, hu.trans (updR_fall hk8)⟩
          · skip
            refine run_skip ?_
            refine run_seq ?_
            refine run_reg rfl ?_
            refine rVal rfl rfl (yas rfl) ?_
            refine rEnd ?_
            refine run_ret Try.func71 rfl ?_
            have e : D.write n s = ((D.push n s).count, 0) := by
              have hdue' : ¬ D.due = 1 := hdue
              simp [Dev.write, hd, hh, hsl, hdue']
            rw [e]
            exact ⟨_, rfl, rfl, _, _, _, _, _, _, h6, hu⟩
theorem sl_cellN {w : World} {g n cap e size j : Nat} {cs : List Value} {u : Value} (h : Sl w (.slice (some ⟨g, 0, none⟩) n cap) e size n cs) (hu : cs[j]? = some u) : w.cell? ⟨g, 0 + j, none⟩ = some u := by
  obtain ⟨-, ⟨hz, -⟩ | ⟨g1, cap1, cur, hv1, hb, hg, hn, hm, hsz, htk⟩⟩ := h
  · cases hz
  · cases hv1
    have h1 : cur.toList[j]? = some u := by
      rw [← htk, List.getElem?_take] at hu
      split at hu
      · exact hu
      · cases hu
    simp [World.cell?, hg]
    simpa using h1

theorem rflush_ret (h : RefM w q sv ca kp l tn mk D) (hc : D.Bd) (hk : l.length ≤ 17592186044416) :
    Ret Try.prog 72 [ptr q 0] w fun v w' => v = I D.flush.2 ∧ RefR w q sv ca kp D.flush.1 w' := by
  obtain ⟨hc1, hc2, hc3⟩ := hc
  have hcal := h.ok.len
  have hM := h.blk
  refine ret_of_run (e := [(0, _)]) Try.func72 rfl Try.ntmps72 rfl rfl ?_
  refine run_seq ?_
  refine run_reg rfl ?_
  refine rVal rfl rfl (yas rfl) ?_
  refine rEnd ?_
  refine run_seq ?_
  refine run_seq ?_
  refine run_reg rfl ?_
  refine rVal rfl rfl (ymv rfl) ?_
  refine rVal rfl rfl ((by first | exact ync rfl | exact yncf rfl)) ?_
  refine rVal rfl rfl (yfa fl86_5 rfl) ?_
  refine rVal rfl rfl (yld Try.underlying4 rfl rfl hM rfl) ?_
  refine rEnd ?_
  cases hd : D.down with
  | true =>
    refine run_true rfl ?_
    refine run_seq ?_
    refine run_reg rfl ?_
    refine rVal rfl rfl (yas rfl) ?_
    refine rEnd ?_
    refine run_ret Try.func72 rfl ?_
    have e : D.flush = (D, 8) := by simp [Dev.flush, hd]
    rw [e]
    exact ⟨_, rfl, rfl, RefR.same h (Ext.refl _)⟩
  | false =>
    refine run_false rfl ?_
    refine run_skip ?_
    refine run_seq ?_
    refine run_seq ?_
    refine run_reg rfl ?_
    refine rVal rfl rfl (ymv rfl) ?_
    refine rCall rfl rfl (yc (args := [.tmp 8]) cf85 rfl) (rcounted_ret h hc1) ?_
    rintro _ w3 ⟨rfl, h3, hk3⟩
    obtain ⟨gs, caps, rfl⟩ := h3.svE
    have hM3 := h3.blk
    obtain ⟨s1, s2, s3⟩ := RefM.sepS h3
    refine rEnd ?_
    refine run_if rfl (fun hdue => ?_) (fun hdue => ?_)
    · skip
      obtain ⟨c1, c2, c3⟩ := h.crash (by omega)
      refine run_seq ?_
      refine run_reg rfl ?_
      refine rVal rfl rfl (ymv rfl) ?_
      refine rVal rfl rfl (ymv rfl) ?_
      refine rVal rfl rfl ((by first | exact ync rfl | exact yncf rfl)) ?_
      refine rVal rfl rfl (yfa fl86_4 rfl) ?_
      refine rVal rfl rfl (yldA Try.underlying45 rfl ti45 rfl (Blk.cells (n := 3) hM3 (news := [_, _, _]) rfl) rfl) ?_
      refine rCall rfl rfl (yc (args := [.tmp 10, .tmp 14]) cf86 rfl) (rfall_ret h3 l tn mk hk h3.keep.rd (fun _ => s3) (by show D.cache.length < 2000000000000; omega)) ?_
      rintro _ w8 ⟨rfl, h8, hk8⟩
      refine rEnd ?_
      refine run_seq ?_
      refine run_reg rfl ?_
      refine rVal rfl rfl (yas rfl) ?_
      refine rEnd ?_
      refine run_ret Try.func72 rfl ?_
      have e : D.flush = (D.count.drop', 8) := by simp [Dev.flush, hd, hdue]
      rw [e]
      have e2 : D.count.drop' = D.count.fall l tn mk := by rw [← c1, ← c2, ← c3]; rfl
      rw [e2]
      exact ⟨_, rfl, rfl, _, _, _, _, _, _, h8, (show Upd (fpR q (.slice (some ⟨gs, 0, none⟩) D.count.B caps) ca kp) (fpR q (.slice (some ⟨gs, 0, none⟩) D.count.B caps) ca kp) w w3 from ⟨hk3.mono' fun _ h => .inl h, fun _ h => .inl h⟩).trans (updR_fall hk8)⟩
    · skip
      obtain ⟨a, cap, rfl, ha⟩ := h3.cache.rd.shape
      refine run_skip ?_
      refine run_seq ?_
      refine run_seq ?_
      refine run_reg rfl ?_
      refine rVal rfl rfl (yas rfl) ?_
      refine rEnd ?_
      refine run_block ?_
      refine run_loop (α := Nat) (0) (fun i => [(0, ptr q 0), (3, I (i : Int))]) (fun i wi => i ≤ D.cache.length ∧ RefM wi q (.slice (some ⟨gs, 0, none⟩) D.B caps) (.slice a D.cache.length cap) kp l tn mk { D.count with sf := D.flushTo i } ∧ Kp (fun k => k = gs) w3 wi) (fun i => D.cache.length - i) (by repeat (first | exact Sub.nil | refine Sub.cons rfl ?_)) ?hI ?hround
      case hI => exact ⟨by omega, h3, Kp.refl _ _⟩
      case hround =>
        rintro i wi ⟨hi, hd', hki⟩ ih
        dsimp only
        have hMi := hd'.blk
        refine run_seq ?_
        refine run_seq ?_
        refine run_reg rfl ?_
        refine rVal rfl rfl (ymv rfl) ?_
        refine rVal rfl rfl (ymv rfl) ?_
        refine rVal rfl rfl ((by first | exact ync rfl | exact yncf rfl)) ?_
        refine rVal rfl rfl (yfa fl86_2 rfl) ?_
        refine rVal rfl rfl (yld Try.underlying84 rfl rfl hMi rfl) ?_
        refine rVal rfl rfl (yln Try.underlying84 rfl) ?_
        refine rVal rfl rfl (ylt rfl rfl) ?_
        refine rEnd ?_
        refine run_if rfl (fun hlt => ?_) (fun hlt => ?_)
        · skip
          have hlt' : i < D.cache.length := by omega
          have hcache := hd'.cache
          rcases hcache.shape with ⟨-, h⟩ | ⟨gb, cap', hva, hcap⟩
          · exact absurd h (by show ¬ D.cache.length = 0; omega)
          cases hva
          obtain ⟨x, hx⟩ : ∃ x, D.cache[i]? = some x := ⟨_, List.getElem?_eq_getElem hlt'⟩
          obtain ⟨hx1, hx2⟩ := wrs_at D.cache i x hx
          have hxok := hd'.ok.cache x (List.mem_of_getElem? hx)
          obtain ⟨xn, xd⟩ := x
          simp only at hxok
          obtain ⟨m, rfl⟩ : ∃ m : Nat, xn = m := ⟨xn.toNat, by omega⟩
          have hmB : m < D.B := by have h : (m : Int) < (D.B : Int) := hxok.2.1; omega
          obtain ⟨d1, d2, d3⟩ := RefM.sepS (D := { D.count with sf := D.flushTo i }) hd'
          have hcs : ∀ w', Kp (fun k => k = gs) wi w' → Sl w' (.slice (some ⟨gb, 0, none⟩) D.cache.length cap) 128 2 D.cache.length (wrs D.cache) := fun w' hS => hcache.kp hS (fun g hg e => d2 (by rw [hg, e]))
          refine run_skip ?_
          refine run_seq ?_
          refine run_block ?_
          refine run_draw (fun w' => Kp (fun k => k = gs) wi w') (by kernel_rfl) rfl ?_
          refine hTake (i := 0) rfl (by kernel_rfl) rfl rfl (fun _ hS => ymv rfl) ((Kp.refl _ wi).drew) ?_
          refine hTake (i := 1) rfl (by kernel_rfl) rfl rfl (fun _ hS => (by first | exact ync rfl | exact yncf rfl)) ((Kp.refl _ wi).drew) ?_
          refine hTake (i := 2) rfl (by kernel_rfl) rfl rfl (fun _ hS => yfa fl86_1 rfl) ((Kp.refl _ wi).drew) ?_
          refine hTake (i := 3) rfl (by kernel_rfl) rfl rfl (fun _ hS => yld Try.underlying47 rfl rfl (hS.blk hMi d1) rfl) ((Kp.refl _ wi).drew) ?_
          refine hTake (i := 4) rfl (by kernel_rfl) rfl rfl (fun _ hS => ymv rfl) ((Kp.refl _ wi).drew) ?_
          refine hTake (i := 5) rfl (by kernel_rfl) rfl rfl (fun _ hS => (by first | exact ync rfl | exact yncf rfl)) ((Kp.refl _ wi).drew) ?_
          refine hTake (i := 6) rfl (by kernel_rfl) rfl rfl (fun _ hS => yfa fl86_2 rfl) ((Kp.refl _ wi).drew) ?_
          refine hTake (i := 7) rfl (by kernel_rfl) rfl rfl (fun _ hS => yld Try.underlying84 rfl rfl (hS.blk hMi d1) rfl) ((Kp.refl _ wi).drew) ?_
          refine hTake (i := 8) rfl (by kernel_rfl) rfl rfl (fun _ hS => ymv rfl) ((Kp.refl _ wi).drew) ?_
          refine hTake (i := 9) rfl (by kernel_rfl) rfl rfl (fun _ hS => yis Try.underlying84 ti128 rfl rfl (by omega)) ((Kp.refl _ wi).drew) ?_
          refine hTake (i := 10) rfl (by kernel_rfl) rfl rfl (fun _ hS => yfa fl128_0 rfl) ((Kp.refl _ wi).drew) ?_
          refine hTake (i := 12) rfl (by kernel_rfl) rfl rfl (fun _ hS => ymv rfl) ((Kp.refl _ wi).drew) ?_
          refine hTake (i := 13) rfl (by kernel_rfl) rfl rfl (fun _ hS => (by first | exact ync rfl | exact yncf rfl)) ((Kp.refl _ wi).drew) ?_
          refine hTake (i := 14) rfl (by kernel_rfl) rfl rfl (fun _ hS => yfa fl86_2 rfl) ((Kp.refl _ wi).drew) ?_
          refine hTake (i := 15) rfl (by kernel_rfl) rfl rfl (fun _ hS => yld Try.underlying84 rfl rfl (hS.blk hMi d1) rfl) ((Kp.refl _ wi).drew) ?_
          refine hTake (i := 16) rfl (by kernel_rfl) rfl rfl (fun _ hS => ymv rfl) ((Kp.refl _ wi).drew) ?_
          refine hTake (i := 17) rfl (by kernel_rfl) rfl rfl (fun _ hS => yis Try.underlying84 ti128 rfl rfl (by omega)) ((Kp.refl _ wi).drew) ?_
          refine hTake (i := 18) rfl (by kernel_rfl) rfl rfl (fun _ hS => yfa fl128_1 rfl) ((Kp.refl _ wi).drew) ?_
          refine hTake (i := 11) rfl (by kernel_rfl) rfl rfl (fun _ hS => yldc Try.underlying3 rfl rfl (sl_cellN (hcs _ hS) hx1)) ((Kp.refl _ wi).drew) ?_
          refine hTake (i := 19) rfl (by kernel_rfl) rfl rfl (fun _ hS => yldc Try.underlying9 rfl rfl (sl_cellN (hcs _ hS) hx2)) ((Kp.refl _ wi).drew) ?_
          refine hTake (i := 20) rfl (by kernel_rfl) rfl rfl (fun _ hS => yis Try.underlying47 ti9 rfl rfl (by omega)) ((Kp.refl _ wi).drew) ?_
          refine hOne (i := 21) (by kernel_rfl) ?_
          refine nEffP (i := 21) rfl rfl (zstSl ti9 rfl rfl rfl (hd'.safe.ext (Ext.drew0 wi)) (by simp; omega)) ?_
          rintro w7 ⟨hS7, hk7⟩
          refine ⟨(Kp.refl _ wi).drew.trans hk7, ?_⟩
          have hk7' := (Kp.refl (fun i => i = gs) wi).drew.trans hk7
          have hd7 := RefM.put (D := { D.count with sf := D.flushTo i }) (n := m) (s := xd) hd' (by simpa [Dev.count] using hS7) hk7' hmB hxok.2.2
          have ef : upd (D.flushTo i) (m : Int) xd = D.flushTo (i + 1) := by
            rw [flushTo_at hx]
          simp only [ef] at hd7
          refine hEnd (by kernel_rfl) ?_
          refine run_inBlock ?_
          refine run_reg rfl ?_
          refine rVal rfl rfl (ymv rfl) ?_
          refine rVal rfl rfl (yad rfl rfl (by omega)) ?_
          refine rVal rfl rfl (yas rfl) ?_
          refine rEnd ?_
          exact (ih (i + 1) w7 ⟨by omega, hd7, hki.trans hk7'⟩ (by omega)).sub (by repeat (first | exact Sub.nil | refine Sub.cons rfl ?_))
        · skip
          have hin : i = D.cache.length := by omega
          subst hin
          refine run_exit rfl ?_
          refine run_seq ?_
          refine run_reg rfl ?_
          refine rVal rfl rfl (ymv rfl) ?_
          refine rVal rfl rfl ((by first | exact ync rfl | exact yncf rfl)) ?_
          refine rVal rfl rfl (yfa fl86_2 rfl) ?_
          refine rEffP rfl (zst ti84 rfl rfl rfl hMi (by simp)) ?_
          rintro w5 ⟨hB5, hk5⟩
          refine rEnd ?_
          refine run_seq ?_
          refine run_reg rfl ?_
          refine rVal rfl rfl (yas rfl) ?_
          refine rEnd ?_
          refine run_ret Try.func72 rfl ?_
          have e : D.flush = ({ D.count with sf := D.flushTo D.cache.length, cache := [] }, 0) := by simp [Dev.flush, hd, hdue]
          rw [e]
          obtain ⟨t1, t2, t3⟩ := hd'.sep
          refine ⟨_, rfl, rfl, .slice (some ⟨gs, 0, none⟩) D.B caps, .slice none 0 0, kp, l, tn, mk, ⟨hB5, hd'.safe.kp hk5 (fun g hg e => t1 (by rw [hg, e])), Sl.nil w5 _ _, hd'.keep.kp hk5 (fun g hg e => t3 (by rw [hg, e])), hd'.crash, ?_, hd'.len⟩, ?_⟩
          · exact ⟨hd'.ok.hB, hd'.ok.hN, hd'.ok.due, hd'.ok.sf, fun x hx => by simp at hx, hd'.ok.len, hd'.ok.reads⟩
          · refine ⟨(hk3.mono' fun _ h => .inl h).trans ((hki.mono' fun _ h => .inr (.inl (by rw [h]; rfl))).trans (hk5.mono' fun _ h => .inl h)), fun i hi => ?_⟩
            rcases hi with h' | h' | h' | h'
            · exact .inl (.inl h')
            · exact .inl (.inr (.inl h'))
            · cases h'
            · exact .inl (.inr (.inr (.inr h')))

theorem rplan_ret (at' : Int) (cv : Value) (l' : List Int) (tn' : Int) (mk' : UInt8) (h : RefM w q sv ca kp l tn mk D) (hl : l'.length ≤ 17592186044416) (hr : Rd w cv 1 l'.length (l'.map I)) (hq : 0 < l'.length → cv.ownBlock ≠ some q) (hat : at' ≤ 9223372036854775807) :
    Ret Try.prog 74 [ptr q 0, I at', .agg #[cv, I tn', u8v mk']] w fun v w' => v = I (D.plan at' l' tn' mk').2 ∧ RefR w q sv ca kp (D.plan at' l' tn' mk').1 w' := by
  have hml : maxLen = 9223372036854775807 := rfl
  obtain ⟨ac, capc, rfl, hac⟩ := hr.shape
  have hlw := h.lt
  refine ret_of_run (e := [(0, _), (1, _), (2, _)]) Try.func74 rfl Try.ntmps74 rfl rfl ?_
  refine run_seq ?_
  refine run_reg rfl ?_
  refine rValP rfl rfl (pbx rfl rfl) ?_
  rintro _ w1 ⟨b3, rfl, hb3, hx1, hB3⟩
  replace h := h.ext hx1
  replace hr := hr.ext hx1
  have hM := h.blk
  have hs1 := hx1.size
  have hqw := hlw q (.inl rfl)
  have hl3 := hB3.lt
  refine rVal rfl rfl (yas rfl) ?_
  refine rEnd ?_
  refine run_seq ?_
  refine run_seq ?_
  refine run_reg rfl ?_
  refine rVal rfl rfl (ymv rfl) ?_
  refine rVal rfl rfl ((by first | exact ync rfl | exact yncf rfl)) ?_
  refine rVal rfl rfl (yfa fl86_5 rfl) ?_
  refine rVal rfl rfl (yld Try.underlying4 rfl rfl hM rfl) ?_
  refine rEnd ?_
  cases hd : D.down with
  | true =>
    refine run_true rfl ?_
    refine run_seq ?_
    refine run_reg rfl ?_
    refine rVal rfl rfl (yas rfl) ?_
    refine rEnd ?_
    refine run_ret Try.func74 rfl ?_
    have e : D.plan at' l' tn' mk' = (D, 8) := by simp [Dev.plan, hd]
    rw [e]
    exact ⟨_, rfl, rfl, RefR.same h hx1⟩
  | false =>
    refine run_false rfl ?_
    refine run_skip ?_
    refine run_seq ?_
    refine run_seq ?_
    refine run_reg rfl ?_
    refine rVal rfl rfl (ymv rfl) ?_
    refine rVal rfl rfl (ylt rfl rfl) ?_
    refine rEnd ?_
    refine run_if rfl (fun hneg => ?_) (fun hneg => ?_)
    · skip
      refine run_seq ?_
      refine run_reg rfl ?_
      refine rVal rfl rfl (yas rfl) ?_
      refine rEnd ?_
      refine run_ret Try.func74 rfl ?_
      have e : D.plan at' l' tn' mk' = (D, 1) := by simp [Dev.plan, hd, hneg]
      rw [e]
      exact ⟨_, rfl, rfl, RefR.same h hx1⟩
    · skip
      refine run_skip ?_
      refine run_seq ?_
      refine run_reg rfl ?_
      refine rVal rfl rfl (ymv rfl) ?_
      refine rVal rfl rfl (ymv rfl) ?_
      refine rVal rfl rfl ((by first | exact ync rfl | exact yncf rfl)) ?_
      refine rVal rfl rfl (yfa fl86_3 rfl) ?_
      refine rEffP rfl (zst ti3 rfl rfl rfl hM (by simp)) ?_
      rintro w2 ⟨hM2, hk2⟩
      have hB32 := hk2.blk hB3 (by omega)
      obtain ⟨t1, t2, t3⟩ := h.sep
      have hs2 := hk2.size
      have hr2 : Rd w2 (.slice ac l'.length capc) 1 l'.length (l'.map I) := hr.kp0 hk2 (fun h0 g hg e => hq h0 (by rw [hg, e]))
      refine rEnd ?_
      refine run_seq ?_
      refine run_draw (fun w' => Kp (fun k => k = q) w2 w') (by kernel_rfl) rfl ?_
      refine hTake (i := 0) rfl (by kernel_rfl) rfl rfl (fun _ hS => ymv rfl) ((Kp.refl _ w2).drew) ?_
      refine hTake (i := 2) rfl (by kernel_rfl) rfl rfl (fun _ hS => yfa fl45_0 rfl) ((Kp.refl _ w2).drew) ?_
      refine hTake (i := 3) rfl (by kernel_rfl) rfl rfl (fun _ hS => yld Try.underlying43 rfl rfl (hS.blk hB32 (by omega)) rfl) ((Kp.refl _ w2).drew) ?_
      refine hTake (i := 5) rfl (by kernel_rfl) rfl rfl (fun _ hS => yfa fl45_1 rfl) ((Kp.refl _ w2).drew) ?_
      refine hTake (i := 6) rfl (by kernel_rfl) rfl rfl (fun _ hS => yld Try.underlying3 rfl rfl (hS.blk hB32 (by omega)) rfl) ((Kp.refl _ w2).drew) ?_
      refine hTake (i := 7) rfl (by kernel_rfl) rfl rfl (fun _ hS => yfa fl45_2 rfl) ((Kp.refl _ w2).drew) ?_
      refine hTake (i := 8) rfl (by kernel_rfl) rfl rfl (fun _ hS => yld Try.underlying5 rfl rfl (hS.blk hB32 (by omega)) rfl) ((Kp.refl _ w2).drew) ?_
      refine hOne (i := 1) (by kernel_rfl) ?_
      refine nValP (i := 1) rfl rfl rfl (pbs (parts := []) (cs := []) (zs := []) Try.underlying43 ti3 rfl (by kernel_rfl) rfl rfl rfl (by decide)) ?_
      rintro _ w3 ⟨b5, rfl, ⟨hb5, hx3, hB5⟩, hS5⟩
      refine ⟨(Kp.refl _ w2).drew.trans hx3.kp, ?_⟩
      have hx3' : Ext w2 w3 := (Ext.drew0 w2).trans hx3
      have hs3 := hx3'.size
      have hb5' : w2.heap.size ≤ b5 := by have := hb5; simp at this; omega
      refine hOne (i := 4) (by kernel_rfl) ?_
      refine nValP (i := 4) rfl rfl rfl (pap Try.underlying43 ti3 rfl (by decide) rfl rfl hS5 (hr2.ext hx3') (ints_one l') (by omega) (by omega)) ?_
      rintro v' w4 ⟨hS4, hk4, hown4, -⟩
      refine ⟨(hx3'.trans_new hk4 (fun i hi => by have h' : b5 = i := Option.some.inj hi; omega)).kp, ?_⟩
      have hx4 : Ext w2 w4 := hx3'.trans_new hk4 (fun i hi => by have h' : b5 = i := Option.some.inj hi; omega)
      have hs4 := hx4.size
      simp only [Nat.zero_add, List.nil_append] at hS4
      have hg4 : ∀ g, v'.ownBlock = some g → w2.heap.size ≤ g := fun g hg => by
        rcases hown4 g hg with h' | h'
        · have h'' : b5 = g := Option.some.inj h'
          omega
        · omega
      obtain ⟨a4, cap4, rfl, -⟩ := hS4.rd.shape
      refine hTake (i := 9) rfl (by kernel_rfl) rfl rfl (fun _ hS => ybd (parts := [(0, .tmp 21), (1, .tmp 23), (2, .tmp 25)]) (cs := [_, _, _]) ti45 rfl sp45 rfl rfl) ((hx3'.trans_new hk4 (fun i hi => by have h' : b5 = i := Option.some.inj hi; omega)).kp) ?_
      refine hTake (i := 10) rfl (by kernel_rfl) rfl rfl (fun _ hS => (by first | exact ync rfl | exact yncf rfl)) ((hx3'.trans_new hk4 (fun i hi => by have h' : b5 = i := Option.some.inj hi; omega)).kp) ?_
      refine hTake (i := 11) rfl (by kernel_rfl) rfl rfl (fun _ hS => yfa fl86_4 rfl) ((hx3'.trans_new hk4 (fun i hi => by have h' : b5 = i := Option.some.inj hi; omega)).kp) ?_
      refine hOne (i := 12) (by kernel_rfl) ?_
      refine nEffP (i := 12) rfl rfl (zstA (news := [.slice a4 l'.length cap4, I tn', u8v mk']) ti45 rfl rfl rfl rfl (hx4.blk hM2) (by simp)) ?_
      rintro w5 ⟨hB5', hk5⟩
      refine ⟨hx4.kp.trans hk5, ?_⟩
      refine hEnd (by kernel_rfl) ?_
      refine Run.sub (e := [(6, _)]) ?_ (by repeat (first | exact Sub.nil | refine Sub.cons rfl ?_))
      refine run_seq ?_
      refine run_reg rfl ?_
      refine rVal rfl rfl (yas rfl) ?_
      refine rEnd ?_
      refine run_ret Try.func74 rfl ?_
      have e : D.plan at' l' tn' mk' = ({ D with due := at', keep := l', torn := tn', mask := mk' }, 0) := by
        simp [Dev.plan, hd, hneg]
      rw [e]
      have hk25 : Kp (fun k => k = q) w1 w5 := hk2.trans (hx4.kp.trans hk5)
      refine ⟨_, rfl, rfl, sv, ca, _, l', tn', mk', ⟨hB5', h.safe.kp hk25 (fun g hg e => t1 (by rw [hg, e])), h.cache.kp hk25 (fun g hg e => t2 (by rw [hg, e])), hS4.kp hk5 (fun g hg => by have := hg4 g hg; omega), fun _ => ⟨rfl, rfl, rfl⟩, ?_, hl⟩, ?_⟩
      · exact ⟨h.ok.hB, h.ok.hN, ⟨by show 0 ≤ at'; omega, hat⟩, h.ok.sf, h.ok.cache, h.ok.len, h.ok.reads⟩
      · refine ⟨hx1.kp.trans (hk25.mono' fun i hi => .inl hi), fun i hi => ?_⟩
        rcases hi with h' | h' | h' | h'
        · exact .inl (.inl h')
        · exact .inl (.inr (.inl h'))
        · exact .inl (.inr (.inr (.inl h')))
        · have := hg4 i h'; exact .inr (by omega)
end
end Go.Proofs.Ytdapkfppcaaohaa
