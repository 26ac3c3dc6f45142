/- Texts DevE, DevF, DevG, JnD, JnQ, JnG, JnR, one behind the other (what the statement JournalWhole does not use is left out). -/
import Derived.Test.YtkhkebcflaokpaaWh7
namespace Go.Proofs.Ytkhkebcflaokpaa
open Go Go.RowKit
set_option linter.all false
set_option maxRecDepth 100000

/-- What Write makes of the device. -/
def Dev.push (D : Dev) (n : Int) (s : Bytes) : Dev := { D with cache := D.cache ++ [(n, s)] }
def Dev.drop' (D : Dev) : Dev := D.fall D.keep D.torn D.mask
def Dev.write (D : Dev) (n : Int) (s : Bytes) : Dev × Int :=
  if D.down then (D, 8)
  else if D.has n = false ∨ s.length ≠ 512 * D.N then (D, 1)
  else if D.due = 1 then (((D.push n s).count).drop', 8) else ((D.push n s).count, 0)

/-- What Read makes of it, and answers. -/
def Dev.read (D : Dev) (n : Int) : Dev × Bytes × Int :=
  if D.down then (D, [], 8) else if D.has n = false then (D, [], 1) else ({ D with reads := D.reads + 1 }, D.now n, 0)

def Dev.plan (D : Dev) (at' : Int) (l : List Int) (tn : Int) (mk : UInt8) : Dev × Int :=
  if D.down then (D, 8) else if at' < 0 then (D, 1) else ({ D with due := at', keep := l, torn := tn, mask := mk }, 0)

/-- The device at p has turned into D'. -/
def DevR (w : World) (p m : Nat) (kp ca : Value) (D' : Dev) (w' : World) : Prop := ∃ kp' ca', DevM w' p m kp' ca' D' ∧ Upd (fpD p m kp ca) (fpD p m kp' ca') w w'
theorem DevR.same {w w' : World} {p m : Nat} {kp ca : Value} {D : Dev} (h : DevM w' p m kp ca D) (k : Ext w w') : DevR w p m kp ca D w' := ⟨kp, ca, h, k.upd⟩
theorem DevR.kept {w w' : World} {p m : Nat} {kp ca : Value} {D : Dev} (h : DevM w' p m kp ca D) (k : Kp (fun i => i = p) w w') : DevR w p m kp ca D w' :=
  ⟨kp, ca, h, k.mono' fun _ h => .inl h, fun _ h => .inl h⟩
theorem DevR.trans {w w1 w2 : World} {p m : Nat} {kp ca kp1 ca1 : Value} {D D' : Dev} (k : Upd (fpD p m kp ca) (fpD p m kp1 ca1) w w1) (h : DevR w1 p m kp1 ca1 D' w2) : DevR w p m kp ca D' w2 := by
  obtain ⟨kp2, ca2, h1, h2⟩ := h
  exact ⟨kp2, ca2, h1, k.trans h2⟩
theorem upd_fall {w w' : World} {p m : Nat} {kp ca : Value} (k : Kp (fun i => i = p ∨ i = m) w w') : Upd (fpD p m kp ca) (fpD p m (.slice none 0 0) (.slice none 0 0)) w w' :=
  ⟨k.mono' fun i hi => hi.elim .inl fun h => .inr (.inl h), fun i hi => by
    rcases hi with h | h | h | h
    · exact .inl (.inl h)
    · exact .inl (.inr (.inl h))
    · cases h
    · cases h⟩

section
variable {w : World} {p m : Nat} {kp ca : Value} {D : Dev}

theorem pull_ret (h : DevM w p m kp ca D) (cv : Value) (l : List Int) (tn : Int) (mk : UInt8) (hl : l.length ≤ 17592186044416) (hr : Rd w cv 1 l.length (l.map I)) (hc : D.Bd) :
    Ret Try.prog 21 [ptr p 0, .agg #[cv, I tn, u8v mk]] w fun v w' => v = I (if D.down then 8 else 0) ∧ DevR w p m kp ca (if D.down then D else D.fall l tn mk) w' := by
  obtain ⟨ac, capc, rfl, hac⟩ := hr.shape
  refine ret_of_run (e := [(0, _), (1, _)]) Try.func21 rfl Try.ntmps21 rfl rfl ?_; refine run_seq ?_; refine run_reg rfl ?_; refine rValP rfl rfl (pbx rfl rfl) ?_
  rintro _ w1 ⟨b3, rfl, hb3, hx1, hB3⟩
  replace h := h.ext hx1
  replace hr := hr.ext hx1
  refine rVal rfl rfl (yas rfl) ?_; refine rEnd ?_; refine run_seq ?_; refine run_seq ?_; refine run_reg rfl ?_; refine rVal rfl rfl (ymv rfl) ?_; refine rCall rfl rfl (yc (args := [.tmp 6]) cf48 rfl) (ready_ret h) ?_
  rintro _ w2 ⟨rfl, rfl⟩
  cases hd : D.down with
  | true =>
    refine rVal rfl rfl (yas rfl) ?_; refine rEnd ?_; refine run_seq ?_; refine run_reg rfl ?_; refine rVal rfl rfl (ymv rfl) ?_; refine rVal rfl rfl (yne rfl rfl) ?_; refine rEnd ?_; refine run_if rfl (fun hz => ?_) (fun hz => ?_)
    · skip
      refine run_seq ?_; refine run_reg rfl ?_; refine rVal rfl rfl (ymv rfl) ?_; refine rVal rfl rfl (yas rfl) ?_; refine rEnd ?_; refine run_ret Try.func21 rfl ?_
      exact ⟨_, rfl, rfl, _, _, h, hx1.upd⟩
    · skip
      exact absurd (by decide) hz
  | false =>
    refine rVal rfl rfl (yas rfl) ?_; refine rEnd ?_; refine run_seq ?_; refine run_reg rfl ?_; refine rVal rfl rfl (ymv rfl) ?_; refine rVal rfl rfl (yne rfl rfl) ?_; refine rEnd ?_; refine run_if rfl (fun hz => ?_) (fun hz => ?_)
    · skip
      exact absurd hz (by decide)
    · skip
      refine run_skip ?_; refine run_seq ?_; refine run_reg rfl ?_; refine rVal rfl rfl (ymv rfl) ?_; refine rVal rfl rfl (yldA Try.underlying45 rfl ti45 rfl (Blk.cells (n := 3) hB3 (news := [_, _, _]) rfl) rfl) ?_; refine rCall rfl rfl (yc (args := [.tmp 11, .tmp 12]) cf50 rfl) (fall_ret h l tn mk hl hr (by have := hc.2.1; omega)) ?_
      rintro _ w3 ⟨rfl, h3, hk3⟩
      refine rEnd ?_; refine run_seq ?_; refine run_reg rfl ?_; refine rVal rfl rfl (yas rfl) ?_; refine rEnd ?_; refine run_ret Try.func21 rfl ?_; refine ⟨_, rfl, rfl, _, _, h3, hx1.kp.trans (hk3.mono' fun i hi => hi.elim .inl fun h => .inr (.inl h)), fun i hi => ?_⟩
      rcases hi with h | h | h | h
      · exact .inl (.inl h)
      · exact .inl (.inr (.inl h))
      · cases h
      · cases h

theorem read_ret (n : Int) (h : DevM w p m kp ca D) (hc : D.Bd) :
    Ret Try.prog 34 [ptr p 0, I n] w fun v w' => v = .tuple #[S (D.read n).2.1, I (D.read n).2.2] ∧ DevR w p m kp ca (D.read n).1 w' := by
  have hrd := h.ok.reads
  have hc3 := hc.2.2
  refine ret_of_run (e := [(0, _), (1, _)]) Try.func34 rfl Try.ntmps34 rfl rfl ?_; refine run_seq ?_; refine run_reg rfl ?_; refine rVal rfl rfl (yas rfl) ?_; refine rVal rfl rfl (yas rfl) ?_; refine rEnd ?_; refine run_seq ?_; refine run_seq ?_; refine run_reg rfl ?_; refine rVal rfl rfl (ymv rfl) ?_; refine rCall rfl rfl (yc (args := [.tmp 7]) cf48 rfl) (ready_ret h) ?_
  rintro _ w1 ⟨rfl, rfl⟩
  cases hd : D.down with
  | true =>
    refine rVal rfl rfl (yas rfl) ?_; refine rEnd ?_; refine run_seq ?_; refine run_reg rfl ?_; refine rVal rfl rfl (ymv rfl) ?_; refine rVal rfl rfl (yne rfl rfl) ?_; refine rEnd ?_; refine run_if rfl (fun hz => ?_) (fun hz => ?_)
    · skip
      refine run_seq ?_; refine run_reg rfl ?_; refine rVal rfl rfl (ymv rfl) ?_; refine rVal rfl rfl (yas rfl) ?_; refine rVal rfl rfl (yas rfl) ?_; refine rEnd ?_; refine run_ret Try.func34 rfl ?_
      have e : D.read n = (D, [], 8) := by simp [Dev.read, hd]
      rw [e]
      exact ⟨_, rfl, rfl, DevR.same h (Ext.refl _)⟩
    · skip
      exact absurd (by decide) hz
  | false =>
    refine rVal rfl rfl (yas rfl) ?_; refine rEnd ?_; refine run_seq ?_; refine run_reg rfl ?_; refine rVal rfl rfl (ymv rfl) ?_; refine rVal rfl rfl (yne rfl rfl) ?_; refine rEnd ?_; refine run_if rfl (fun hz => ?_) (fun hz => ?_)
    · skip
      exact absurd hz (by decide)
    · skip
      refine run_skip ?_; refine run_seq ?_; refine run_seq ?_; refine run_reg rfl ?_; refine rVal rfl rfl (ymv rfl) ?_; refine rVal rfl rfl (ymv rfl) ?_; refine rCall rfl rfl (yc (args := [.tmp 12, .tmp 13]) cf59 rfl) (has_ret n h) ?_
      rintro _ w2 ⟨rfl, rfl⟩
      cases hh : D.has n with
      | false =>
        refine rVal rfl rfl ((by first | exact yntd rfl | exact ynt rfl)) ?_; refine rEnd ?_; refine run_true rfl ?_; refine run_seq ?_; refine run_reg rfl ?_; refine rVal rfl rfl (yas rfl) ?_; refine rVal rfl rfl (yas rfl) ?_; refine rEnd ?_; refine run_ret Try.func34 rfl ?_
        have e : D.read n = (D, [], 1) := by simp [Dev.read, hd, hh]
        rw [e]
        exact ⟨_, rfl, rfl, DevR.same h (Ext.refl _)⟩
      | true =>
        refine rVal rfl rfl ((by first | exact yntd rfl | exact ynt rfl)) ?_; refine rEnd ?_; refine run_false rfl ?_
        have hM := h.blk
        refine run_skip ?_; refine run_seq ?_; refine run_reg rfl ?_; refine rVal rfl rfl (ymv rfl) ?_; refine rVal rfl rfl ((by first | exact ync rfl | exact yncf rfl)) ?_; refine rVal rfl rfl (yfa fl66_6 rfl) ?_; refine rVal rfl rfl (yld Try.underlying3 rfl rfl hM rfl) ?_; refine rVal rfl rfl (yad rfl rfl (by omega)) ?_; refine rVal rfl rfl ((by first | exact ync rfl | exact yncf rfl)) ?_; refine rVal rfl rfl (yfa fl66_6 rfl) ?_; refine rEffP rfl (zst ti3 rfl rfl rfl hM (by simp)) ?_
        rintro w3 ⟨hM3, hk3⟩
        have h3 := h.turn (D' := { D with reads := D.reads + 1 }) hM3 hk3 rfl rfl rfl rfl ⟨h.ok.hB, h.ok.hN, h.ok.due, h.ok.sf, h.ok.cache, h.ok.len, by show 0 ≤ D.reads + 1; omega⟩
        refine rEnd ?_; refine run_seq ?_; refine run_reg rfl ?_; refine rVal rfl rfl (ymv rfl) ?_; refine rVal rfl rfl (ymv rfl) ?_; refine rCall rfl rfl (yc (args := [.tmp 23, .tmp 24]) cf60 rfl) (now_ret n h3 hc.2.1) ?_
        rintro _ w4 ⟨rfl, hx4⟩
        refine rVal rfl rfl (yas rfl) ?_; refine rVal rfl rfl (yas rfl) ?_; refine rEnd ?_; refine run_ret Try.func34 rfl ?_
        have e : D.read n = ({ D with reads := D.reads + 1 }, D.now n, 0) := by simp [Dev.read, hd, hh]
        rw [e]
        exact ⟨_, rfl, rfl, kp, ca, h3.ext hx4, (hk3.mono' fun _ h => .inl h).trans hx4.kp, fun _ h => .inl h⟩

theorem write_ret (n : Int) (s : Bytes) (h : DevM w p m kp ca D) (hc : D.Bd) (hk : D.keep.length ≤ 17592186044416) :
    Ret Try.prog 56 [ptr p 0, I n, S s] w fun v w' => v = I (D.write n s).2 ∧ DevR w p m kp ca (D.write n s).1 w' := by
  have hml : maxLen = 9223372036854775807 := rfl
  obtain ⟨hc1, hc2, hc3⟩ := hc
  have hcal := h.ok.len
  refine ret_of_run (e := [(0, _), (1, _), (2, _)]) Try.func56 rfl Try.ntmps56 rfl rfl ?_; refine run_seq ?_; refine run_reg rfl ?_; refine rVal rfl rfl (yas rfl) ?_; refine rEnd ?_; refine run_seq ?_; refine run_seq ?_; refine run_reg rfl ?_; refine rVal rfl rfl (ymv rfl) ?_; refine rCall rfl rfl (yc (args := [.tmp 8]) cf48 rfl) (ready_ret h) ?_
  rintro _ w1 ⟨rfl, rfl⟩
  cases hd : D.down with
  | true =>
    refine rVal rfl rfl (yas rfl) ?_; refine rEnd ?_; refine run_seq ?_; refine run_reg rfl ?_; refine rVal rfl rfl (ymv rfl) ?_; refine rVal rfl rfl (yne rfl rfl) ?_; refine rEnd ?_; refine run_if rfl (fun hz => ?_) (fun hz => ?_)
    · skip
      refine run_seq ?_; refine run_reg rfl ?_; refine rVal rfl rfl (ymv rfl) ?_; refine rVal rfl rfl (yas rfl) ?_; refine rEnd ?_; refine run_ret Try.func56 rfl ?_
      have e : D.write n s = (D, 8) := by simp [Dev.write, hd]
      rw [e]
      exact ⟨_, rfl, rfl, DevR.same h (Ext.refl _)⟩
    · skip
      exact absurd (by decide) hz
  | false =>
    refine rVal rfl rfl (yas rfl) ?_; refine rEnd ?_; refine run_seq ?_; refine run_reg rfl ?_; refine rVal rfl rfl (ymv rfl) ?_; refine rVal rfl rfl (yne rfl rfl) ?_; refine rEnd ?_; refine run_if rfl (fun hz => ?_) (fun hz => ?_)
    · skip
      exact absurd hz (by decide)
    · skip
      refine run_skip ?_; refine run_seq ?_; refine run_seq ?_; refine run_reg rfl ?_; refine rVal rfl rfl (ymv rfl) ?_; refine rVal rfl rfl (ymv rfl) ?_; refine rCall rfl rfl (yc (args := [.tmp 13, .tmp 14]) cf59 rfl) (has_ret n h) ?_
      rintro _ w2 ⟨rfl, rfl⟩
      cases hh : D.has n with
      | false =>
        refine rVal rfl rfl ((by first | exact yntd rfl | exact ynt rfl)) ?_; refine rVal rfl rfl (ymv rfl) ?_; refine rSkip rfl rfl ?_; refine rSkip rfl rfl ?_; refine rSkip rfl rfl ?_; refine rSkip rfl rfl ?_; refine rSkip rfl rfl ?_; refine rVal rfl rfl (ypT rfl rfl) ?_; refine rEnd ?_; refine run_true rfl ?_; refine run_seq ?_; refine run_reg rfl ?_; refine rVal rfl rfl (yas rfl) ?_; refine rEnd ?_; refine run_ret Try.func56 rfl ?_
        have e : D.write n s = (D, 1) := by simp [Dev.write, hd, hh]
        rw [e]
        exact ⟨_, rfl, rfl, DevR.same h (Ext.refl _)⟩
      | true =>
        have hn : 0 ≤ n ∧ n < (D.B : Int) := by simpa [Dev.has] using hh
        refine rVal rfl rfl ((by first | exact yntd rfl | exact ynt rfl)) ?_; refine rVal rfl rfl (ymv rfl) ?_; refine rVal rfl rfl (ymv rfl) ?_; refine rVal rfl rfl (ylnS Try.underlying9 rfl) ?_; refine rVal rfl rfl (ymv rfl) ?_; refine rCall rfl rfl (yc (args := [.tmp 20]) cf20 rfl) (size_ret h) ?_
        rintro _ w3 ⟨rfl, rfl⟩
        refine rVal rfl rfl (yne rfl rfl) ?_; refine rVal rfl rfl (ypF rfl rfl) ?_; refine rEnd ?_; refine run_if rfl (fun hsz => ?_) (fun hsz => ?_)
        · skip
          refine run_seq ?_; refine run_reg rfl ?_; refine rVal rfl rfl (yas rfl) ?_; refine rEnd ?_; refine run_ret Try.func56 rfl ?_
          have e : D.write n s = (D, 1) := by
            have : s.length ≠ 512 * D.N := by omega
            simp [Dev.write, hd, hh, this]
          rw [e]
          exact ⟨_, rfl, rfl, DevR.same h (Ext.refl _)⟩
        · skip
          have hsl : s.length = 512 * D.N := by omega
          obtain ⟨a, cap, rfl, ha⟩ := h.cache.rd.shape
          have hM := h.blk
          refine run_skip ?_; refine run_seq ?_; refine run_reg rfl ?_; refine rVal rfl rfl (ymv rfl) ?_; refine rVal rfl rfl (ymv rfl) ?_; refine rVal rfl rfl ((by first | exact ync rfl | exact yncf rfl)) ?_; refine rVal rfl rfl (yfa fl66_3 rfl) ?_; refine rVal rfl rfl (yld Try.underlying64 rfl rfl hM rfl) ?_; refine rVal rfl rfl (ymv rfl) ?_; refine rVal rfl rfl (ymv rfl) ?_; refine rVal rfl rfl (ybd (parts := [(0, .tmp 29), (1, .tmp 30)]) (cs := [_, _]) ti98 rfl sp98 rfl rfl) ?_
          refine rValP rfl rfl (pbs (parts := [(0, .tmp 31)]) (cs := [_, _]) (zs := [Value.int .i64 0, Value.string ⟨#[]⟩]) Try.underlying64 ti98 rfl (by kernel_rfl) rfl rfl rfl (by decide)) ?_
          rintro _ w4 ⟨b4, rfl, ⟨hb4, hx4, hB4⟩, hS4⟩
          have hc4 := h.cache.ext hx4
          refine rValP rfl rfl (pap Try.underlying64 ti98 rfl (by decide) rfl rfl hc4 hS4.rd (by intro c hc; simp at hc; rcases hc with rfl | rfl <;> rfl) (by omega) (by omega)) ?_
          rintro v' w5 ⟨hS5, hk5, hown5, -⟩
          have hvo : oneV v' = true := by rcases hS5.shape with ⟨rfl, -⟩ | ⟨g, cap, rfl, -⟩ <;> rfl
          have h4 := h.ext hx4
          have hpc : ∀ g, (Value.slice a D.cache.length cap).ownBlock = some g → ¬ g = p := fun g hg hgp => by
            obtain ⟨xs, fz', hx⟩ := sl_block h4.cache hg
            obtain ⟨fz, hb, -⟩ := h4.blk
            rw [hgp, hb] at hx; cases hx
          have hM5 := hk5.blk h4.blk (fun hg => hpc p hg rfl)
          refine rVal rfl rfl ((by first | exact ync rfl | exact yncf rfl)) ?_; refine rVal rfl rfl (yfa fl66_3 rfl) ?_; refine rEffP rfl (zst ti64 rfl rfl hvo hM5 (by simp)) ?_
          rintro w6 ⟨hB6, hk6⟩
          have hpl := h.blk.lt
          have h6 : DevM w6 p m kp v' (D.push n s) := by
            refine ⟨hB6, ?_, ?_, ?_, ?_⟩
            · obtain ⟨kv, hkv, hsf⟩ := h4.map
              exact ⟨kv, hk6.map (hk5.map hkv fun hg => (h4.sepc hg).2.1 rfl) fun e => h4.pm e.symm, hsf⟩
            · have e : wrs (D.push n s).cache = wrs D.cache ++ [I n, S s] := by simp [Dev.push, wrs, wr]
              have e2 : (D.push n s).cache.length = D.cache.length + 1 := by simp [Dev.push]
              rw [e, e2]
              refine hS5.kp hk6 fun g hg => ?_
              rcases hown5 g hg with h' | h'
              · exact (h4.sepc h').1
              · have := hx4.size; omega
            · refine (h4.keep.kp hk5 fun g hg hc => (h4.sepk hg).2.2 hc).kp hk6 fun g hg => (h4.sepk hg).1
            · refine ⟨h.ok.hB, h.ok.hN, h.ok.due, h.ok.sf, fun x hx => ?_, h.ok.len, h.ok.reads⟩
              simp only [Dev.push, List.mem_append, List.mem_singleton] at hx
              rcases hx with hx | rfl
              · exact h.ok.cache x hx
              · exact ⟨hn.1, hn.2, hsl⟩
          refine rEnd ?_; refine Run.sub (e := [(0, _), (6, _)]) ?_ (by repeat (first | exact Sub.nil | refine Sub.cons rfl ?_))
          refine run_seq ?_; refine run_seq ?_; refine run_reg rfl ?_; refine rVal rfl rfl (ymv rfl) ?_; refine rCall rfl rfl (yc (args := [.tmp 36]) cf49 rfl) (counted_ret h6 hc1) ?_
          rintro _ w7 ⟨rfl, h7, hk7⟩
          have hu : Upd (fpD p m kp (.slice a D.cache.length cap)) (fpD p m kp v') w3 w7 := by
            refine ⟨(hx4.kp.trans (hk5.mono' fun i hi => .inr (.inr (.inl hi)))).trans ((hk6.mono' fun i hi => .inl hi).trans (hk7.mono' fun i hi => .inl hi)), fun i hi => ?_⟩
            rcases hi with h' | h' | h' | h'
            · exact .inl (.inl h')
            · exact .inl (.inr (.inl h'))
            · rcases hown5 i h' with h'' | h''
              · exact .inl (.inr (.inr (.inl h'')))
              · have := hx4.size; exact .inr (by omega)
            · exact .inl (.inr (.inr (.inr h')))
          refine rEnd ?_; refine run_if rfl (fun hdue => ?_) (fun hdue => ?_)
          · skip
            have hM7 := h7.blk
            refine run_seq ?_; refine run_reg rfl ?_; refine rVal rfl rfl (ymv rfl) ?_; refine rVal rfl rfl (ymv rfl) ?_; refine rVal rfl rfl ((by first | exact ync rfl | exact yncf rfl)) ?_; refine rVal rfl rfl (yfa fl66_0 rfl) ?_; refine rVal rfl rfl (yfa fl63_1 rfl) ?_; refine rVal rfl rfl (yldA Try.underlying45 rfl ti45 rfl (Blk.cells (n := 3) hM7 (news := [_, _, _]) rfl) rfl) ?_; refine rCall rfl rfl (yc (args := [.tmp 38, .tmp 43]) cf50 rfl) (fall_ret h7 D.keep D.torn D.mask hk (h7.keep.rd) (by show (D.cache ++ [(n, s)]).length < 2000000000000; simp; omega)) ?_
            rintro _ w8 ⟨rfl, h8, hk8⟩
            refine rEnd ?_; refine run_seq ?_; refine run_reg rfl ?_; refine rVal rfl rfl (yas rfl) ?_; refine rEnd ?_; refine run_ret Try.func56 rfl ?_
            have e : D.write n s = (((D.push n s).count).drop', 8) := by
              have hdue' : D.due = 1 := hdue
              simp [Dev.write, hd, hh, hsl, hdue']
            rw [e]
            exact ⟨_, rfl, rfl, _, _, h8, hu.trans (upd_fall hk8)⟩
          · skip
            refine run_skip ?_; refine run_seq ?_; refine run_reg rfl ?_; refine rVal rfl rfl (yas rfl) ?_; refine rEnd ?_; refine run_ret Try.func56 rfl ?_
            have e : D.write n s = ((D.push n s).count, 0) := by
              have hdue' : ¬ D.due = 1 := hdue
              simp [Dev.write, hd, hh, hsl, hdue']
            rw [e]
            exact ⟨_, rfl, rfl, _, _, h7, hu⟩

theorem plan_ret (at' : Int) (cv : Value) (l : List Int) (tn : Int) (mk : UInt8) (h : DevM w p m kp ca D) (hl : l.length ≤ 17592186044416) (hr : Rd w cv 1 l.length (l.map I)) (hcap : cv = .slice none 0 0 ∨ ∃ a cap, cv = .slice (some a) l.length cap) (hat : at' ≤ 9223372036854775807) :
    Ret Try.prog 14 [ptr p 0, I at', .agg #[cv, I tn, u8v mk]] w fun v w' => v = I (D.plan at' l tn mk).2 ∧ DevR w p m kp ca (D.plan at' l tn mk).1 w' := by
  have hcv : oneV cv = true := by rcases hcap with rfl | ⟨a, cap, rfl⟩ <;> rfl
  refine ret_of_run (e := [(0, _), (1, _), (2, _)]) Try.func14 rfl Try.ntmps14 rfl rfl ?_; refine run_seq ?_; refine run_reg rfl ?_; refine rValP rfl rfl (pbx rfl (cs := [cv, I tn, u8v mk]) rfl) ?_
  rintro _ w1 ⟨b3, rfl, hb3, hx1, hB3⟩
  replace h := h.ext hx1
  replace hr := hr.ext hx1
  refine rVal rfl rfl (yas rfl) ?_; refine rEnd ?_; refine run_seq ?_; refine run_seq ?_; refine run_reg rfl ?_; refine rVal rfl rfl (ymv rfl) ?_; refine rCall rfl rfl (yc (args := [.tmp 8]) cf48 rfl) (ready_ret h) ?_
  rintro _ w2 ⟨rfl, rfl⟩
  cases hd : D.down with
  | true =>
    refine rVal rfl rfl (yas rfl) ?_; refine rEnd ?_; refine run_seq ?_; refine run_reg rfl ?_; refine rVal rfl rfl (ymv rfl) ?_; refine rVal rfl rfl (yne rfl rfl) ?_; refine rEnd ?_; refine run_if rfl (fun hz => ?_) (fun hz => ?_)
    · skip
      refine run_seq ?_; refine run_reg rfl ?_; refine rVal rfl rfl (ymv rfl) ?_; refine rVal rfl rfl (yas rfl) ?_; refine rEnd ?_; refine run_ret Try.func14 rfl ?_
      have e : D.plan at' l tn mk = (D, 8) := by simp [Dev.plan, hd]
      rw [e]
      exact ⟨_, rfl, rfl, DevR.same h hx1⟩
    · skip
      exact absurd (by decide) hz
  | false =>
    refine rVal rfl rfl (yas rfl) ?_; refine rEnd ?_; refine run_seq ?_; refine run_reg rfl ?_; refine rVal rfl rfl (ymv rfl) ?_; refine rVal rfl rfl (yne rfl rfl) ?_; refine rEnd ?_; refine run_if rfl (fun hz => ?_) (fun hz => ?_)
    · skip
      exact absurd hz (by decide)
    · skip
      refine run_skip ?_; refine run_seq ?_; refine run_seq ?_; refine run_reg rfl ?_; refine rVal rfl rfl (ymv rfl) ?_; refine rVal rfl rfl (ylt rfl rfl) ?_; refine rEnd ?_; refine run_if rfl (fun hneg => ?_) (fun hneg => ?_)
      · skip
        refine run_seq ?_; refine run_reg rfl ?_; refine rVal rfl rfl (yas rfl) ?_; refine rEnd ?_; refine run_ret Try.func14 rfl ?_
        have e : D.plan at' l tn mk = (D, 1) := by
          have : at' < 0 := by omega
          simp [Dev.plan, hd, this]
        rw [e]
        exact ⟨_, rfl, rfl, DevR.same h hx1⟩
      · skip
        refine run_skip ?_; refine run_seq ?_; refine run_reg rfl ?_; refine rVal rfl rfl (ymv rfl) ?_; refine rVal rfl rfl (ymv rfl) ?_; refine rVal rfl rfl (yldA Try.underlying45 rfl ti45 rfl (Blk.cells (n := 3) hB3 (news := [_, _, _]) rfl) rfl) ?_; refine rCall rfl rfl (yc (args := [.tmp 17]) cf52 rfl) (own_ret cv l tn mk hl hr hcap) ?_
        rintro _ w3 ⟨v', rfl, hS3, hx3, hg3⟩
        have hvo' : oneV v' = true := by rcases hS3.shape with ⟨rfl, -⟩ | ⟨g, cap, rfl, -⟩ <;> rfl
        have h3 := h.ext hx3
        have hpl := h.blk.lt
        -- AT: op Op.build dst 19 "blockdev.go:197" ["Op.build", "63", [["Prod.mk", "0", ["Operand.tmp", "16"]], ["Prod.mk", "1", ["Operand.tmp", "18"]]]]
        refine rVal rfl rfl (ybd (parts := [(0, .tmp 16), (1, .tmp 18)]) (cs := [_, _, _, _]) ti63 rfl sp63 rfl rfl) ?_; refine rVal rfl rfl ((by first | exact ync rfl | exact yncf rfl)) ?_; refine rVal rfl rfl (yfa fl66_0 rfl) ?_; refine rEffP rfl (zstA (news := [I at', v', I tn, u8v mk]) ti63 rfl rfl (by simp only [List.all_cons, hvo', List.all_nil, Bool.and_true, Bool.true_and]; rfl) rfl h3.blk (by simp)) ?_
        rintro w4 ⟨hB4, hk4⟩
        refine rEnd ?_; refine run_seq ?_; refine run_reg rfl ?_; refine rVal rfl rfl (yas rfl) ?_; refine rEnd ?_; refine run_ret Try.func14 rfl ?_
        have e : D.plan at' l tn mk = ({ D with due := at', keep := l, torn := tn, mask := mk }, 0) := by
          have : ¬ at' < 0 := by omega
          simp [Dev.plan, hd, this]
        rw [e]
        have hlt' := h.lt
        obtain ⟨kv, hkv, hsf⟩ := h3.map
        refine ⟨_, rfl, rfl, v', ca, ⟨hB4, ⟨kv, hk4.map hkv fun e => h3.pm e.symm, hsf⟩, h3.cache.kp hk4 fun g hg => (h3.sepc hg).1, hS3.kp hk4 fun g hg => by have := hg3 g hg; omega, ?_⟩, ?_⟩
        · exact ⟨h.ok.hB, h.ok.hN, ⟨by show 0 ≤ at'; omega, hat⟩, h.ok.sf, h.ok.cache, h.ok.len, h.ok.reads⟩
        · refine ⟨(hx1.trans hx3).kp.trans (hk4.mono' fun i hi => .inl hi), fun i hi => ?_⟩
          rcases hi with h' | h' | h' | h'
          · exact .inl (.inl h')
          · exact .inl (.inr (.inl h'))
          · exact .inl (.inr (.inr (.inl h')))
          · have := hg3 i h'; have := hx1.size; exact .inr (by omega)
end
end Go.Proofs.Ytkhkebcflaokpaa
namespace Go.Proofs.Ytkhkebcflaokpaa
open Go Go.RowKit
set_option linter.all false
set_option maxRecDepth 100000

/-- What is safe when the first i writes of the cache have been flushed. -/
def Dev.flushTo (D : Dev) : Nat → (Int → Option Bytes)
  | 0 => D.sf
  | i + 1 => match D.cache[i]? with
    | none => D.flushTo i
    | some x => upd (D.flushTo i) x.1 x.2
def Dev.flush (D : Dev) : Dev × Int :=
  if D.down then (D, 8) else if D.due = 1 then (D.count.drop', 8) else ({ D.count with sf := D.flushTo D.cache.length, cache := [] }, 0)

theorem flushTo_at {D : Dev} {i : Nat} {x : Int × Bytes} (hx : D.cache[i]? = some x) : D.flushTo (i + 1) = upd (D.flushTo i) x.1 x.2 := by
  simp only [Dev.flushTo, hx]

section
variable {w : World} {p m : Nat} {kp ca : Value} {D : Dev}

theorem flush_ret (h : DevM w p m kp ca D) (hc : D.Bd) (hk : D.keep.length ≤ 17592186044416) :
    Ret Try.prog 12 [ptr p 0] w fun v w' => v = I D.flush.2 ∧ DevR w p m kp ca D.flush.1 w' := by
  obtain ⟨hc1, hc2, hc3⟩ := hc
  have hcal := h.ok.len
  refine ret_of_run (e := [(0, _)]) Try.func12 rfl Try.ntmps12 rfl rfl ?_; refine run_seq ?_; refine run_reg rfl ?_; refine rVal rfl rfl (yas rfl) ?_; refine rEnd ?_; refine run_seq ?_; refine run_seq ?_; refine run_reg rfl ?_; refine rVal rfl rfl (ymv rfl) ?_; refine rCall rfl rfl (yc (args := [.tmp 6]) cf48 rfl) (ready_ret h) ?_
  rintro _ w1 ⟨rfl, rfl⟩
  cases hd : D.down with
  | true =>
    refine rVal rfl rfl (yas rfl) ?_; refine rEnd ?_; refine run_seq ?_; refine run_reg rfl ?_; refine rVal rfl rfl (ymv rfl) ?_; refine rVal rfl rfl (yne rfl rfl) ?_; refine rEnd ?_; refine run_if rfl (fun hz => ?_) (fun hz => ?_)
    · skip
      refine run_seq ?_; refine run_reg rfl ?_; refine rVal rfl rfl (ymv rfl) ?_; refine rVal rfl rfl (yas rfl) ?_; refine rEnd ?_; refine run_ret Try.func12 rfl ?_
      have e : D.flush = (D, 8) := by simp [Dev.flush, hd]
      rw [e]
      exact ⟨_, rfl, rfl, DevR.same h (Ext.refl _)⟩
    · skip
      exact absurd (by decide) hz
  | false =>
    refine rVal rfl rfl (yas rfl) ?_; refine rEnd ?_; refine run_seq ?_; refine run_reg rfl ?_; refine rVal rfl rfl (ymv rfl) ?_; refine rVal rfl rfl (yne rfl rfl) ?_; refine rEnd ?_; refine run_if rfl (fun hz => ?_) (fun hz => ?_)
    · skip
      exact absurd hz (by decide)
    · skip
      refine run_skip ?_; refine run_seq ?_; refine run_seq ?_; refine run_reg rfl ?_; refine rVal rfl rfl (ymv rfl) ?_; refine rCall rfl rfl (yc (args := [.tmp 11]) cf49 rfl) (counted_ret h hc1) ?_
      rintro _ w2 ⟨rfl, h2, hk2⟩
      have hM2 := h2.blk
      refine rEnd ?_; refine run_if rfl (fun hdue => ?_) (fun hdue => ?_)
      · skip
        refine run_seq ?_; refine run_reg rfl ?_; refine rVal rfl rfl (ymv rfl) ?_; refine rVal rfl rfl (ymv rfl) ?_; refine rVal rfl rfl ((by first | exact ync rfl | exact yncf rfl)) ?_; refine rVal rfl rfl (yfa fl66_0 rfl) ?_; refine rVal rfl rfl (yfa fl63_1 rfl) ?_; refine rVal rfl rfl (yldA Try.underlying45 rfl ti45 rfl (Blk.cells (n := 3) hM2 (news := [_, _, _]) rfl) rfl) ?_; refine rCall rfl rfl (yc (args := [.tmp 13, .tmp 18]) cf50 rfl) (fall_ret h2 D.keep D.torn D.mask hk h2.keep.rd (by show D.cache.length < _; omega)) ?_
        rintro _ w3 ⟨rfl, h3, hk3⟩
        refine rEnd ?_; refine run_seq ?_; refine run_reg rfl ?_; refine rVal rfl rfl (yas rfl) ?_; refine rEnd ?_; refine run_ret Try.func12 rfl ?_
        have e : D.flush = (D.count.drop', 8) := by simp [Dev.flush, hd, hdue]
        rw [e]
        exact ⟨_, rfl, rfl, _, _, h3, (show Upd (fpD p m kp ca) (fpD p m kp ca) w1 w2 from ⟨hk2.mono' fun _ h => .inl h, fun _ h => .inl h⟩).trans (upd_fall hk3)⟩
      · skip
        have hmw := h2.lt m (.inr (.inl rfl))
        obtain ⟨a, cap, rfl, ha⟩ := h2.cache.rd.shape
        refine run_skip ?_; refine run_seq ?_; refine run_seq ?_; refine run_reg rfl ?_; refine rVal rfl rfl (ymv rfl) ?_; refine rVal rfl rfl ((by first | exact ync rfl | exact yncf rfl)) ?_; refine rVal rfl rfl (yfa fl66_3 rfl) ?_; refine rVal rfl rfl (yld Try.underlying64 rfl rfl hM2 rfl) ?_; refine rVal rfl rfl (yln Try.underlying64 rfl) ?_; refine rVal rfl rfl (ymv rfl) ?_; refine rEnd ?_; refine run_block ?_
        refine run_loop (α := Nat) (0) (fun i => [(0, ptr p 0), (23, .slice a D.cache.length cap), (24, I (D.cache.length : Int)), (25, I (i : Int))]) (fun i wi => i ≤ D.cache.length ∧ DevM wi p m kp (.slice a D.cache.length cap) { D.count with sf := D.flushTo i } ∧ Kp (fun k => k = m) w2 wi) (fun i => D.cache.length - i) (by repeat (first | exact Sub.nil | refine Sub.cons rfl ?_)) ?hI ?hround
        case hI => exact ⟨by omega, h2, Kp.refl _ _⟩
        case hround =>
          rintro i wi ⟨hi, hd', hki⟩ ih
          try dsimp only
          have hszi := hki.size
          refine run_seq ?_; refine run_reg rfl ?_; refine rVal rfl rfl (ylt rfl rfl) ?_; refine rEnd ?_; refine run_seq ?_; refine run_if rfl (fun hlt => ?_) (fun hlt => ?_)
          · skip
            have hlt' : i < D.cache.length := by omega
            have hcache := hd'.cache
            rcases hcache.shape with ⟨-, h⟩ | ⟨gb, cap', hva, hcap⟩
            · exact absurd h (by show ¬ D.cache.length = 0; omega)
            cases hva
            obtain ⟨x, hx⟩ : ∃ x, D.cache[i]? = some x := ⟨_, List.getElem?_eq_getElem hlt'⟩
            have hxe : D.cache[i] = x := by rw [List.getElem?_eq_getElem hlt'] at hx; exact Option.some.inj hx
            have hcs : ((wrs D.cache).drop (i * 2)).take 2 = wr x := by rw [wrs_get _ _ hlt', hxe]
            have hxok := hd'.ok.cache x (List.mem_of_getElem? hx)
            have hcp := hcache.part hcs
            refine run_skip ?_; refine run_seq ?_; refine run_block ?_; refine run_seq ?_; refine run_reg rfl ?_; refine rVal rfl rfl (yis Try.underlying64 ti98 rfl rfl (by omega)) ?_; refine rVal rfl rfl (yldA Try.underlying98 rfl ti98 rfl hcp rfl) ?_; refine rValP rfl rfl (pal (cs := [_, _]) ti98 rfl) ?_
            rintro _ w3 ⟨b5, rfl, hb5, hx3, hB5⟩
            refine rEffP rfl (zstA ti98 rfl rfl rfl rfl hB5 (by simp)) ?_
            rintro w4 ⟨hB5', hk4⟩
            replace hB5' : Blk w4 b5 [I x.1, S x.2] 98 := hB5'
            have hx4 : Ext wi w4 := hx3.trans_new hk4 (fun j hj => by omega)
            have hd4 := hd'.ext hx4
            have hM4 := hd4.blk
            obtain ⟨kv, hkv, hsf⟩ := hd4.map
            refine rEnd ?_; refine run_draw (fun w' => Kp (fun k => k = m) w4 w') (by kernel_rfl) rfl ?_; refine hTake (i := 0) rfl (by kernel_rfl) rfl rfl (fun _ hS => ymv rfl) ((Kp.refl _ w4).drew) ?_; refine hTake (i := 1) rfl (by kernel_rfl) rfl rfl (fun _ hS => (by first | exact ync rfl | exact yncf rfl)) ((Kp.refl _ w4).drew) ?_; refine hTake (i := 2) rfl (by kernel_rfl) rfl rfl (fun _ hS => yfa fl66_2 rfl) ((Kp.refl _ w4).drew) ?_
            refine hTake (i := 3) rfl (by kernel_rfl) rfl rfl (fun _ hS => (by first | exact yld Try.underlying61 rfl rfl (hS.blk hM4 hd4.pm) rfl | exact yld Try.underlying61 rfl rfl (hS.blk hB5' (by omega)) rfl)) ((Kp.refl _ w4).drew) ?_; refine hTake (i := 4) rfl (by kernel_rfl) rfl rfl (fun _ hS => yfa fl98_0 rfl) ((Kp.refl _ w4).drew) ?_; refine hTake (i := 5) rfl (by kernel_rfl) rfl rfl (fun _ hS => (by first | exact yld Try.underlying3 rfl rfl (hS.blk hM4 hd4.pm) rfl | exact yld Try.underlying3 rfl rfl (hS.blk hB5' (by omega)) rfl)) ((Kp.refl _ w4).drew) ?_
            refine hTake (i := 6) rfl (by kernel_rfl) rfl rfl (fun _ hS => yfa fl98_1 rfl) ((Kp.refl _ w4).drew) ?_; refine hTake (i := 7) rfl (by kernel_rfl) rfl rfl (fun _ hS => (by first | exact yld Try.underlying9 rfl rfl (hS.blk hM4 hd4.pm) rfl | exact yld Try.underlying9 rfl rfl (hS.blk hB5' (by omega)) rfl)) ((Kp.refl _ w4).drew) ?_; refine hOne (i := 8) (by kernel_rfl) ?_; refine nEffP (i := 8) rfl rfl (zmu (k := x.1) (K := KI) Try.underlying61 (ky_int Try.underlying3) rfl rfl rfl (Ext.map (Ext.drew0 w4) hkv)) ?_
            rintro w7 ⟨hm7, hk7⟩
            refine ⟨(Kp.refl _ w4).drew.trans hk7, ?_⟩
            have hk7' := (Kp.refl (fun i => i = m) w4).drew.trans hk7
            have hd7 := hd4.put hsf hm7 hk7' (hd4.ok.put ⟨hxok.1, hxok.2.1⟩ hxok.2.2)
            have ef : upd (D.flushTo i) x.1 x.2 = D.flushTo (i + 1) := (flushTo_at hx).symm
            simp only [ef] at hd7
            refine hEnd (by kernel_rfl) ?_; refine run_inBlock ?_; refine run_reg rfl ?_; refine rVal rfl rfl (yad rfl rfl (by omega)) ?_; refine rVal rfl rfl (ymv rfl) ?_; refine rEnd ?_
            exact (ih (i + 1) w7 ⟨by omega, hd7, hki.trans (hx4.kp.trans hk7')⟩ (by omega)).sub (by repeat (first | exact Sub.nil | refine Sub.cons rfl ?_))
          · skip
            have hin : i = D.cache.length := by omega
            subst hin
            have hMx := hd'.blk
            refine run_exit rfl ?_; refine run_seq ?_; refine run_reg rfl ?_; refine rVal rfl rfl (ymv rfl) ?_; refine rVal rfl rfl ((by first | exact ync rfl | exact yncf rfl)) ?_; refine rVal rfl rfl (yfa fl66_3 rfl) ?_; refine rEffP rfl (zst ti64 rfl rfl rfl hMx (by simp)) ?_
            rintro w5 ⟨hB5, hk5⟩
            refine rEnd ?_; refine run_seq ?_; refine run_reg rfl ?_; refine rVal rfl rfl (yas rfl) ?_; refine rEnd ?_; refine run_ret Try.func12 rfl ?_
            have e : D.flush = ({ D.count with sf := D.flushTo D.cache.length, cache := [] }, 0) := by simp [Dev.flush, hd, hdue]
            rw [e]
            obtain ⟨kv, hkv, hsf⟩ := hd'.map
            refine ⟨_, rfl, rfl, kp, .slice none 0 0, ⟨hB5, ⟨kv, hk5.map hkv fun e => hd'.pm e.symm, hsf⟩, Sl.nil w5 _ _, hd'.keep.kp hk5 fun g hg => (hd'.sepk hg).1, ?_⟩, ?_⟩
            · exact ⟨hd'.ok.hB, hd'.ok.hN, hd'.ok.due, hd'.ok.sf, fun x hx => by simp at hx, hd'.ok.len, hd'.ok.reads⟩
            · refine ⟨(hk2.mono' fun _ h => .inl h).trans ((hki.mono' fun _ h => .inr (.inl h)).trans (hk5.mono' fun _ h => .inl h)), fun i hi => ?_⟩
              rcases hi with h' | h' | h' | h'
              · exact .inl (.inl h')
              · exact .inl (.inr (.inl h'))
              · cases h'
              · exact .inl (.inr (.inr (.inr h')))

def Dev.imageTo (D : Dev) (n : Nat) : List Bytes := (List.range n).map fun j : Nat => D.now (j : Int)
def Dev.image (D : Dev) : List Bytes := D.imageTo D.B
theorem imageTo_succ (D : Dev) (n : Nat) : D.imageTo (n + 1) = D.imageTo n ++ [D.now (n : Int)] := by simp [Dev.imageTo, List.range_succ]
@[simp] theorem imageTo_length (D : Dev) (n : Nat) : (D.imageTo n).length = n := by simp [Dev.imageTo]

theorem image_ret (h : DevM w p m kp ca D) (hc : D.cache.length < 1000000000000) :
    Ret Try.prog 51 [ptr p 0] w fun v w' => Sl w' v 9 1 D.B (D.image.map S) ∧ Ext w w' ∧ ∀ g, v.ownBlock = some g → w.heap.size ≤ g := by
  have hml : maxLen = 9223372036854775807 := rfl
  have hM := h.blk
  have hB := h.ok.hB
  have hfl := h.lt
  refine ret_of_run (e := [(0, _)]) Try.func51 rfl Try.ntmps51 rfl rfl ?_; refine run_seq ?_; refine run_reg rfl ?_; refine rVal rfl rfl (yas rfl) ?_; refine rEnd ?_; refine run_seq ?_; refine run_seq ?_; refine run_reg rfl ?_; refine rVal rfl rfl (ymv rfl) ?_; refine rVal rfl rfl (yeqpN Try.underlying26 rfl rfl) ?_; refine rEnd ?_; refine run_false rfl ?_; refine run_skip ?_; refine run_seq ?_; refine run_reg rfl ?_; refine rVal rfl rfl (ymv rfl) ?_; refine rVal rfl rfl ((by first | exact ync rfl | exact yncf rfl)) ?_; refine rVal rfl rfl (yfa fl66_1 rfl) ?_
  refine rVal rfl rfl (yfa fl31_0 rfl) ?_; refine rVal rfl rfl (yld Try.underlying3 rfl rfl hM rfl) ?_; refine rValP rfl rfl (pmk (c := D.B) (n := 0) Try.underlying42 ti9 rfl rfl rfl (by omega) (by omega) (by omega)) ?_
  rintro _ w1 ⟨b1, rfl, ⟨hb1, hx1, hB1⟩, hS1⟩
  replace h := h.ext hx1
  have hM1 := h.blk
  refine rVal rfl rfl (yas rfl) ?_; refine rEnd ?_; refine run_seq ?_; refine run_seq ?_; refine run_reg rfl ?_; refine rVal rfl rfl (ymv rfl) ?_; refine rVal rfl rfl ((by first | exact ync rfl | exact yncf rfl)) ?_; refine rVal rfl rfl (yfa fl66_1 rfl) ?_; refine rVal rfl rfl (yfa fl31_0 rfl) ?_; refine rVal rfl rfl (yld Try.underlying3 rfl rfl hM1 rfl) ?_; refine rVal rfl rfl (ymv rfl) ?_; refine rEnd ?_; refine run_block ?_
  refine run_loop (α := Nat × Value) ((0, .slice (some ⟨b1, 0, none⟩) 0 D.B)) (fun i => [(0, ptr p 0), (3, i.2), (17, I (D.B : Int)), (18, I (i.1 : Int))]) (fun i wi => i.1 ≤ D.B ∧ DevM wi p m kp ca D ∧ Sl wi i.2 9 1 i.1 ((D.imageTo i.1).map S) ∧ Ext w wi ∧ ∀ g, i.2.ownBlock = some g → w.heap.size ≤ g) (fun i => D.B - i.1) (by repeat (first | exact Sub.nil | refine Sub.cons rfl ?_)) ?hI ?hround
  case hI => exact ⟨by simp, h, hS1, hx1, fun g hg => by have hg' : b1 = g := Option.some.inj hg; omega⟩
  case hround =>
    rintro ⟨i, u⟩ wi ⟨hi, hd, hSi, hxi, hgi⟩ ih
    try dsimp only
    refine run_seq ?_; refine run_reg rfl ?_; refine rVal rfl rfl (ylt rfl rfl) ?_; refine rEnd ?_; refine run_seq ?_; refine run_if rfl (fun hlt => ?_) (fun hlt => ?_)
    · skip
      simp only at hi hSi hgi
      refine run_skip ?_; refine run_seq ?_; refine run_block ?_; refine run_seq ?_; refine run_reg rfl ?_; refine rVal rfl rfl (ymv rfl) ?_; refine rVal rfl rfl (yas rfl) ?_; refine rEnd ?_; refine run_reg rfl ?_; refine rVal rfl rfl (ymv rfl) ?_; refine rVal rfl rfl (ymv rfl) ?_; refine rVal rfl rfl (ymv rfl) ?_; refine rCall rfl rfl (yc (args := [.tmp 22, .tmp 23]) cf60 rfl) (now_ret (i : Int) hd hc) ?_
      rintro _ w2 ⟨rfl, hx2⟩
      refine rValP rfl rfl (pbs (parts := [(0, .tmp 24)]) (cs := [_]) (zs := [Value.string ⟨#[]⟩]) Try.underlying42 ti9 rfl (by kernel_rfl) rfl rfl rfl (by decide)) ?_
      rintro _ w3 ⟨b3, rfl, ⟨hb3, hx3, hB3⟩, hS3⟩
      have hx23 := hx2.trans hx3
      refine rValP rfl rfl (pap Try.underlying42 ti9 rfl (by decide) rfl rfl (hSi.ext hx23) hS3.rd (by intro c hc; simp at hc; subst hc; rfl) (by omega) (by omega)) ?_
      rintro v' w4 ⟨hS4, hk4, hown4, -⟩
      have hgo : ∀ g, u.ownBlock = some g → ¬ fpD p m kp ca g := fun g hg hf => by
        have := hgi g hg
        have := hfl g hf
        omega
      have hd4 := (hd.ext hx23).kp hk4 fun k hk hu => hgo k hu hk
      refine rVal rfl rfl (yas rfl) ?_; refine rEnd ?_; refine run_inBlock ?_; refine run_reg rfl ?_; refine rVal rfl rfl (yad rfl rfl (by omega)) ?_; refine rVal rfl rfl (ymv rfl) ?_; refine rEnd ?_; refine (ih (i + 1, v') w4 ⟨by show i + 1 ≤ D.B; omega, hd4, ?_, (hxi.trans hx23).trans_new hk4 (fun k hk => hgi k hk), fun g hg => ?_⟩ (by show D.B - (i + 1) < D.B - i; omega)).sub (by repeat (first | exact Sub.nil | refine Sub.cons rfl ?_))
      · rw [imageTo_succ, List.map_append]; exact hS4
      · rcases hown4 g hg with h' | h'
        · exact hgi g h'
        · have := hxi.size; have := hx23.size; omega
    · skip
      simp only at hi hSi hgi
      have hin : i = D.B := by omega
      subst hin
      refine run_exit rfl ?_; refine run_seq ?_; refine run_reg rfl ?_; refine rVal rfl rfl (ymv rfl) ?_; refine rVal rfl rfl (yas rfl) ?_; refine rEnd ?_; refine run_ret Try.func51 rfl ?_
      exact ⟨_, rfl, hSi, hxi, hgi⟩

theorem sl_one {w : World} {v : Value} {e size n : Nat} {cs : List Value} (h : Sl w v e size n cs) : oneV v = true := by
  rcases h.shape with ⟨rfl, -⟩ | ⟨g, cap, rfl, -⟩ <;> rfl

end
end Go.Proofs.Ytkhkebcflaokpaa
namespace Go.Proofs.Ytkhkebcflaokpaa
open Go Go.RowKit
set_option linter.all false
set_option maxRecDepth 100000

def geoOk (b n : Int) : Prop := 16 ≤ b ∧ b ≤ 4096 ∧ 1 ≤ n ∧ n ≤ 8
instance (b n : Int) : Decidable (geoOk b n) := by unfold geoOk; infer_instance
def Dev.fresh (B N : Nat) : Dev := ⟨0, [], 0, 0, B, N, fun _ => none, [], false, 0, 0⟩

theorem check_ret (b n : Int) (w : World) : Ret Try.prog 26 [.agg #[I b, I n]] w fun v w' => v = I (if geoOk b n then 0 else 1) ∧ Ext w w' := by
  refine ret_of_run (e := [(0, _)]) Try.func26 rfl Try.ntmps26 rfl rfl ?_; refine run_seq ?_; refine run_reg rfl ?_; refine rValP rfl rfl (pbx rfl rfl) ?_
  rintro _ w1 ⟨b1, rfl, hb1, hx1, hB1⟩
  by_cases hg : geoOk b n
  · obtain ⟨g1, g2, g3, g4⟩ := hg
    refine rVal rfl rfl (yas rfl) ?_; refine rEnd ?_; refine run_seq ?_; refine run_seq ?_; refine run_reg rfl ?_; refine rVal rfl rfl (yfa fl31_0 rfl) ?_; refine rVal rfl rfl (yld Try.underlying3 rfl rfl hB1 rfl) ?_; refine rVal rfl rfl (ylt rfl rfl) ?_; refine rFalse (by (first | exact fun h => h rfl | assumption | omega)) ?_; refine rVal rfl rfl (ymv rfl) ?_; refine rVal rfl rfl (yfa fl31_0 rfl) ?_; refine rVal rfl rfl (yld Try.underlying3 rfl rfl hB1 rfl) ?_; refine rVal rfl rfl (ygt rfl rfl) ?_; refine rFalse (by (first | exact fun h => h rfl | assumption | omega)) ?_
    refine rVal rfl rfl (ypF rfl rfl) ?_; refine rVal rfl rfl (ymv rfl) ?_; refine rVal rfl rfl (yfa fl31_1 rfl) ?_; refine rVal rfl rfl (yld Try.underlying3 rfl rfl hB1 rfl) ?_; refine rVal rfl rfl (ylt rfl rfl) ?_; refine rFalse (by (first | exact fun h => h rfl | assumption | omega)) ?_; refine rVal rfl rfl (ypF rfl rfl) ?_; refine rVal rfl rfl (ymv rfl) ?_; refine rVal rfl rfl (yfa fl31_1 rfl) ?_; refine rVal rfl rfl (yld Try.underlying3 rfl rfl hB1 rfl) ?_; refine rVal rfl rfl (ygt rfl rfl) ?_; refine rFalse (by (first | exact fun h => h rfl | assumption | omega)) ?_
    refine rVal rfl rfl (ypF rfl rfl) ?_; refine rEnd ?_; refine run_false rfl ?_; refine run_skip ?_; refine run_seq ?_; refine run_reg rfl ?_; refine rVal rfl rfl (yas rfl) ?_; refine rEnd ?_; refine run_ret Try.func26 rfl ?_
    exact ⟨_, rfl, by rw [if_pos ⟨g1, g2, g3, g4⟩]; rfl, hx1⟩
  · skip
    refine rVal rfl rfl (yas rfl) ?_; refine rEnd ?_; refine run_seq ?_; refine run_seq ?_; refine run_reg rfl ?_; refine rVal rfl rfl (yfa fl31_0 rfl) ?_; refine rVal rfl rfl (yld Try.underlying3 rfl rfl hB1 rfl) ?_; refine rVal rfl rfl (ylt rfl rfl) ?_; refine rVal_if (fun h1 => ?_) (fun h1 => ?_)
    · skip
      refine rVal rfl rfl (ymv rfl) ?_; refine rSkip rfl rfl ?_; refine rSkip rfl rfl ?_; refine rSkip rfl rfl ?_; refine rVal rfl rfl (ypT rfl rfl) ?_; refine rVal rfl rfl (ymv rfl) ?_; refine rSkip rfl rfl ?_; refine rSkip rfl rfl ?_; refine rSkip rfl rfl ?_; refine rVal rfl rfl (ypT rfl rfl) ?_; refine rVal rfl rfl (ymv rfl) ?_; refine rSkip rfl rfl ?_; refine rSkip rfl rfl ?_; refine rSkip rfl rfl ?_; refine rVal rfl rfl (ypT rfl rfl) ?_; refine rEnd ?_; refine run_true rfl ?_; refine run_seq ?_; refine run_reg rfl ?_; refine rVal rfl rfl (yas rfl) ?_; refine rEnd ?_
      refine run_ret Try.func26 rfl ?_
      exact ⟨_, rfl, by rw [if_neg hg]; rfl, hx1⟩
    · skip
      refine rVal rfl rfl (ymv rfl) ?_; refine rVal rfl rfl (yfa fl31_0 rfl) ?_; refine rVal rfl rfl (yld Try.underlying3 rfl rfl hB1 rfl) ?_; refine rVal rfl rfl (ygt rfl rfl) ?_; refine rVal rfl rfl (ypF rfl rfl) ?_; refine rVal_if (fun h2 => ?_) (fun h2 => ?_)
      · skip
        refine rVal rfl rfl (ymv rfl) ?_; refine rSkip rfl rfl ?_; refine rSkip rfl rfl ?_; refine rSkip rfl rfl ?_; refine rVal rfl rfl (ypT rfl rfl) ?_; refine rVal rfl rfl (ymv rfl) ?_; refine rSkip rfl rfl ?_; refine rSkip rfl rfl ?_; refine rSkip rfl rfl ?_; refine rVal rfl rfl (ypT rfl rfl) ?_; refine rEnd ?_; refine run_true rfl ?_; refine run_seq ?_; refine run_reg rfl ?_; refine rVal rfl rfl (yas rfl) ?_; refine rEnd ?_; refine run_ret Try.func26 rfl ?_
        exact ⟨_, rfl, by rw [if_neg hg]; rfl, hx1⟩
      · skip
        refine rVal rfl rfl (ymv rfl) ?_; refine rVal rfl rfl (yfa fl31_1 rfl) ?_; refine rVal rfl rfl (yld Try.underlying3 rfl rfl hB1 rfl) ?_; refine rVal rfl rfl (ylt rfl rfl) ?_; refine rVal rfl rfl (ypF rfl rfl) ?_; refine rVal_if (fun h3 => ?_) (fun h3 => ?_)
        · skip
          refine rVal rfl rfl (ymv rfl) ?_; refine rSkip rfl rfl ?_; refine rSkip rfl rfl ?_; refine rSkip rfl rfl ?_; refine rVal rfl rfl (ypT rfl rfl) ?_; refine rEnd ?_; refine run_true rfl ?_; refine run_seq ?_; refine run_reg rfl ?_; refine rVal rfl rfl (yas rfl) ?_; refine rEnd ?_; refine run_ret Try.func26 rfl ?_
          exact ⟨_, rfl, by rw [if_neg hg]; rfl, hx1⟩
        · skip
          have : 8 < n := by unfold geoOk at hg; omega
          refine rVal rfl rfl (ymv rfl) ?_; refine rVal rfl rfl (yfa fl31_1 rfl) ?_; refine rVal rfl rfl (yld Try.underlying3 rfl rfl hB1 rfl) ?_; refine rVal rfl rfl (ygt rfl rfl) ?_; refine rTrue (by (first | rfl | assumption | omega | decide)) ?_; refine rVal rfl rfl (ypF rfl rfl) ?_; refine rEnd ?_; refine run_true rfl ?_; refine run_seq ?_; refine run_reg rfl ?_; refine rVal rfl rfl (yas rfl) ?_; refine rEnd ?_; refine run_ret Try.func26 rfl ?_
          exact ⟨_, rfl, by rw [if_neg hg]; rfl, hx1⟩

theorem new_ok (B N : Nat) (w : World) (hg : geoOk B N) : Ret Try.prog 6 [.agg #[I (B : Int), I (N : Int)]] w fun v w' => ∃ p m, v = .tuple #[ptr p 0, I 0] ∧ DevM w' p m (.slice none 0 0) (.slice none 0 0) (Dev.fresh B N) ∧ Ext w w' ∧ w.heap.size ≤ p ∧ w.heap.size ≤ m := by
  obtain ⟨g1, g2, g3, g4⟩ := hg
  refine ret_of_run (e := [(0, _)]) Try.func6 rfl Try.ntmps6 rfl rfl ?_; refine run_seq ?_; refine run_reg rfl ?_; refine rValP rfl rfl (pbx rfl rfl) ?_
  rintro _ w1 ⟨b1, rfl, hb1, hx1, hB1⟩
  refine rVal rfl rfl (yas rfl) ?_; refine rVal rfl rfl (yas rfl) ?_; refine rEnd ?_; refine run_seq ?_; refine run_seq ?_; refine run_reg rfl ?_; refine rVal rfl rfl (yldA Try.underlying31 rfl ti31 rfl (Blk.cells (n := 2) hB1 (news := [_, _]) rfl) rfl) ?_; refine rCall rfl rfl (yc (args := [.tmp 5]) cf26 rfl) (check_ret B N _) ?_
  rintro _ w2 ⟨rfl, hx2⟩
  rw [if_pos ⟨g1, g2, g3, g4⟩]
  replace hB1 := hx2.blk hB1
  refine rVal rfl rfl (yas rfl) ?_; refine rEnd ?_; refine run_seq ?_; refine run_reg rfl ?_; refine rVal rfl rfl (ymv rfl) ?_; refine rVal rfl rfl (yne rfl rfl) ?_; refine rEnd ?_; refine run_if rfl (fun hz => ?_) (fun hz => ?_)
  · skip
    exact absurd hz (by decide)
  · skip
    refine run_skip ?_; refine run_seq ?_; refine run_reg rfl ?_; refine rVal rfl rfl (yldA Try.underlying31 rfl ti31 rfl (Blk.cells (n := 2) hB1 (news := [_, _]) rfl) rfl) ?_; refine rValP rfl rfl (pmm) ?_
    rintro _ w3 ⟨m, rfl, hm, hx3, hM3⟩
    refine rVal rfl rfl (ybd (parts := [(1, .tmp 10), (2, .tmp 11)]) (cs := [_, _, _, _, _, _, _, _, _, _, _]) ti66 rfl sp66 rfl rfl) ?_; refine rValP rfl rfl (pbx rfl rfl) ?_
    rintro _ w4 ⟨p, rfl, hp, hx4, hB4⟩
    refine rVal rfl rfl (yas rfl) ?_; refine rVal rfl rfl (yas rfl) ?_; refine rEnd ?_; refine run_ret Try.func6 rfl ?_
    have hs1 := hx1.size
    have hs2 := hx2.size
    have hs3 := hx3.size
    have hMM : MapL KI w4 m [] := ⟨⟨#[], 0, hx4.heap hM3 id, rfl⟩, by simp⟩
    refine ⟨_, rfl, p, m, rfl, ⟨hB4, ⟨[], hMM, fun n => rfl⟩, Sl.nil w4 _ _, Sl.nil w4 _ _, ?_⟩, ((hx1.trans hx2).trans hx3).trans hx4, by omega, by omega⟩
    exact ⟨⟨by show 16 ≤ B; omega, by show B ≤ 4096; omega⟩, ⟨by show 1 ≤ N; omega, by show N ≤ 8; omega⟩, (by simp [Dev.fresh]), (fun n s h => by cases h), (fun x hx => by cases hx), (by simp [Dev.fresh]), (by simp [Dev.fresh])⟩

def over (s : Bytes) (at' : Nat) (d : Bytes) : Bytes := s.take at' ++ d ++ s.drop (at' + d.length)
def Dev.corOk (D : Dev) (n at' : Int) (d : Bytes) : Prop := D.has n = true ∧ 0 ≤ at' ∧ at' + (d.length : Int) ≤ ((512 * D.N : Nat) : Int)
instance (D : Dev) (n at' : Int) (d : Bytes) : Decidable (D.corOk n at' d) := by unfold Dev.corOk; infer_instance
def corW (n : Int) (a : Nat) (d : Bytes) (x : Int × Bytes) : Int × Bytes := if x.1 = n then (x.1, over x.2 a d) else x
/-- The first i writes of the cache have been overwritten. -/
def corTo (n : Int) (a : Nat) (d : Bytes) (l : List (Int × Bytes)) (i : Nat) : List (Int × Bytes) := (l.take i).map (corW n a d) ++ l.drop i
@[simp] theorem corTo_length (n : Int) (a : Nat) (d : Bytes) (l : List (Int × Bytes)) (i : Nat) : (corTo n a d l i).length = l.length := by simp [corTo]; omega
def Dev.corrupt (D : Dev) (n at' : Int) (d : Bytes) : Dev × Int :=
  if D.corOk n at' d then ({ D with sf := upd D.sf n (over (D.kept n) at'.toNat d), cache := D.cache.map (corW n at'.toNat d) }, 0) else (D, 1)

end Go.Proofs.Ytkhkebcflaokpaa
namespace Go.Proofs.Ytkhkebcflaokpaa
open Go Go.RowKit
set_option linter.all false
set_option maxRecDepth 100000

def Dev.nowTo (D : Dev) (n : Int) (i : Nat) : Bytes := (lastW (D.cache.take i) n).getD (D.kept n)
theorem lastW_snoc (l : List (Int × Bytes)) (x : Int × Bytes) (n : Int) : lastW (l ++ [x]) n = if x.1 = n then some x.2 else lastW l n := by
  unfold lastW
  rw [List.reverse_append, List.reverse_singleton, List.singleton_append, List.find?_cons]
  by_cases h : x.1 = n
  · simp [h]
  · have hb : (x.1 == n) = false := by simpa using h
    simp [hb, h]
theorem nowTo_succ {D : Dev} {n : Int} {i : Nat} {x : Int × Bytes} (hx : D.cache[i]? = some x) : D.nowTo n (i + 1) = if x.1 = n then x.2 else D.nowTo n i := by
  have hi : i < D.cache.length := by
    rcases Nat.lt_or_ge i D.cache.length with h | h
    · exact h
    · rw [List.getElem?_eq_none h] at hx; cases hx
  have he : D.cache[i] = x := by rw [List.getElem?_eq_getElem hi] at hx; exact Option.some.inj hx
  unfold Dev.nowTo
  rw [List.take_succ_eq_append_getElem hi, he, lastW_snoc]
  split <;> rfl
theorem wrs_at (l : List (Int × Bytes)) (i : Nat) (x : Int × Bytes) (hx : l[i]? = some x) : (wrs l)[i * 2]? = some (I x.1) ∧ (wrs l)[i * 2 + 1]? = some (S x.2) := by
  have hi : i < l.length := by
    rcases Nat.lt_or_ge i l.length with h | h
    · exact h
    · rw [List.getElem?_eq_none h] at hx; cases hx
  have he : l[i] = x := by rw [List.getElem?_eq_getElem hi] at hx; exact Option.some.inj hx
  have h := wrs_get l i hi
  rw [he] at h
  have h0 := congrArg (·[0]?) h
  have h1 := congrArg (·[1]?) h
  simp [wr, List.getElem?_take, List.getElem?_drop] at h0 h1
  exact ⟨h0, h1⟩

theorem Rd.kp0 {S : Nat → Prop} {w w' : World} {v : Value} {size n : Nat} {cs : List Value} (h : Rd w v size n cs) (k : Kp S w w') (hn : 0 < n → ∀ g, v.ownBlock = some g → ¬ S g) : Rd w' v size n cs := by
  rcases Nat.eq_zero_or_pos n with h0 | h0
  · subst h0
    refine ⟨h.1, ?_⟩
    have hl : cs = [] := List.eq_nil_of_length_eq_zero (by have := h.1; omega)
    rcases h.2 with h2 | ⟨b, off, cap, e, -⟩
    · exact .inl h2
    · exact .inr ⟨b, off, cap, e, fun j u hj => by rw [hl] at hj; simp at hj⟩
  · exact h.kp k (hn h0)
theorem Rd.lt0 {w : World} {v : Value} {size n g : Nat} {cs : List Value} (h : Rd w v size n cs) (hs : 0 < size) (hn : 0 < n) (hg : v.ownBlock = some g) : g < w.heap.size := by
  rcases h.2 with ⟨c, -, h2⟩ | ⟨b, off, cap, e, hc⟩
  · omega
  · rw [e] at hg
    have e2 : b = g := Option.some.inj hg
    subst e2
    have hl : 0 < cs.length := by rw [h.1]; exact Nat.mul_pos hn hs
    exact World.block_lt_of_cell? w _ (hc 0 cs[0] (List.getElem?_eq_getElem hl))

theorem Dev.Ok.push {D : Dev} (h : D.Ok) {n : Int} {s : Bytes} (hn : 0 ≤ n ∧ n < (D.B : Int)) (hs : s.length = 512 * D.N) : (D.push n s).Ok :=
  ⟨h.hB, h.hN, h.due, h.sf, fun x hx => by
    simp only [Dev.push, List.mem_append, List.mem_singleton] at hx
    rcases hx with hx | rfl
    · exact h.cache x hx
    · exact ⟨hn.1, hn.2, hs⟩, h.len, h.reads⟩

/-! ### Bounds -/
/-- Not more than k calls were made. -/
def Dev.Small (D : Dev) (k : Nat) : Prop := D.calls ≤ k ∧ D.cache.length ≤ k ∧ D.reads ≤ k ∧ D.keep.length ≤ 17592186044416
theorem Dev.Small.bd {D : Dev} {k : Nat} (h : D.Small k) (hk : k ≤ 1000000) : D.Bd := ⟨by have := h.1; omega, by have := h.2.1; omega, by have := h.2.2.1; omega⟩
theorem Dev.Small.mono {D : Dev} {k k' : Nat} (h : D.Small k) (hk : k ≤ k') : D.Small k' := ⟨by have := h.1; omega, by have := h.2.1; omega, by have := h.2.2.1; omega, h.2.2.2⟩
theorem small_fresh (B N : Nat) : (Dev.fresh B N).Small 0 := ⟨by simp [Dev.fresh], by simp [Dev.fresh], by simp [Dev.fresh], by simp [Dev.fresh]⟩
theorem small_fall {D : Dev} {k : Nat} (h : D.Small k) (l : List Int) (tn : Int) (mk : UInt8) : (D.fall l tn mk).Small k := ⟨h.1, by simp [Dev.fall], h.2.2.1, by simp [Dev.fall]⟩
theorem small_count {D : Dev} {k : Nat} (h : D.Small k) : D.count.Small (k + 1) := ⟨by have := h.1; simp [Dev.count]; omega, by have := h.2.1; simp [Dev.count]; omega, by have := h.2.2.1; simp [Dev.count]; omega, h.2.2.2⟩
theorem small_write {D : Dev} {k : Nat} (h : D.Small k) (n : Int) (s : Bytes) : (D.write n s).1.Small (k + 1) := by
  have hp : (D.push n s).count.Small (k + 1) := ⟨by have := h.1; simp [Dev.count, Dev.push]; omega, by have := h.2.1; simp [Dev.count, Dev.push]; omega, by have := h.2.2.1; simp [Dev.count, Dev.push]; omega, h.2.2.2⟩
  unfold Dev.write
  split
  · exact h.mono (by omega)
  · split
    · exact h.mono (by omega)
    · split
      · exact small_fall hp _ _ _
      · exact hp
theorem small_flush {D : Dev} {k : Nat} (h : D.Small k) : D.flush.1.Small (k + 1) := by
  unfold Dev.flush
  split
  · exact h.mono (by omega)
  · split
    · exact small_fall (small_count h) _ _ _
    · have := small_count h; exact ⟨this.1, by simp, this.2.2.1, this.2.2.2⟩
/-! ### By footprints -/
/-- The device at p has turned into D', and nothing else was changed. -/
def DevT (w : World) (p : Nat) (F : Nat → Prop) (D' : Dev) (w' : World) : Prop := ∃ F', DevA w' p D' F' ∧ Upd F F' w w'
theorem DevR.toA {w w' : World} {p m : Nat} {kp ca : Value} {D' : Dev} {F : Nat → Prop} (hF : ∀ k, F k ↔ fpD p m kp ca k) (h : DevR w p m kp ca D' w') : DevT w p F D' w' := by
  have e : F = fpD p m kp ca := funext fun k => propext (hF k)
  subst e
  obtain ⟨kp', ca', h1, h2⟩ := h
  exact ⟨_, ⟨m, kp', ca', h1, fun k => Iff.rfl⟩, h2⟩
theorem DevT.kept {w w' : World} {p : Nat} {D' : Dev} {F : Nat → Prop} (h : DevA w' p D' F) (k : Kp (fun i => i = p) w w') (hp : F p) : DevT w p F D' w' := ⟨F, h, k.mono' fun i hi => by rw [hi]; exact hp, fun _ h => .inl h⟩
theorem Upd.dis {F F' G : Nat → Prop} {w w' : World} (k : Upd F F' w w') (hG : ∀ i, G i → i < w.heap.size) (hd : ∀ i, F i → ¬ G i) : ∀ i, F' i → ¬ G i := fun i hi hg => by
  rcases k.2 i hi with h | h
  · exact hd i h hg
  · have := hG i hg; omega
theorem Upd.low {F F' : Nat → Prop} {w0 w w' : World} (k : Upd F F' w w') (hs : w0.heap.size ≤ w.heap.size) (hl : ∀ i, F i → w0.heap.size ≤ i) : ∀ i, F' i → w0.heap.size ≤ i := fun i hi => (k.2 i hi).elim (hl i) fun h => Nat.le_trans hs h
theorem Upd.ext {F F' : Nat → Prop} {w0 w w' : World} (k : Upd F F' w w') (hx : Ext w0 w) (hl : ∀ i, F i → w0.heap.size ≤ i) : Ext w0 w' := hx.trans_new k.1 hl

section
variable {w : World} {p : Nat} {D : Dev} {F : Nat → Prop}
theorem imageA_ret (h : DevA w p D F) {k : Nat} (hs : D.Small k) (hk : k ≤ 1000000) :
    Ret Try.prog 51 [ptr p 0] w fun v w' => Sl w' v 9 1 D.B (D.image.map S) ∧ Ext w w' ∧ ∀ g, v.ownBlock = some g → w.heap.size ≤ g := by
  obtain ⟨m, kp, ca, h1, hF⟩ := h
  exact image_ret h1 (hs.bd hk).2.1
theorem downA_ret (h : DevA w p D F) : Ret Try.prog 16 [ptr p 0] w fun v w' => v = .bool D.down ∧ w' = w := by
  obtain ⟨m, kp, ca, h1, hF⟩ := h; exact down_ret h1
theorem sizeA_ret (h : DevA w p D F) : Ret Try.prog 20 [ptr p 0] w fun v w' => v = I ((512 * D.N : Nat) : Int) ∧ w' = w := by
  obtain ⟨m, kp, ca, h1, hF⟩ := h; exact size_ret h1
theorem blocksA_ret (h : DevA w p D F) : Ret Try.prog 74 [ptr p 0] w fun v w' => v = I (D.B : Int) ∧ w' = w := by
  obtain ⟨m, kp, ca, h1, hF⟩ := h; exact blocks_ret h1
theorem restartA_ret (h : DevA w p D F) : Ret Try.prog 17 [ptr p 0] w fun v w' => v = I (if D.down then 0 else 5) ∧ DevT w p F { D with down := false } w' := by
  obtain ⟨m, kp, ca, h1, hF⟩ := h
  exact (restart_ret h1).mono fun v w' ⟨e, h2, hk⟩ => ⟨e, (DevR.kept h2 hk).toA hF⟩
theorem writeA_ret (n : Int) (s : Bytes) (h : DevA w p D F) {k : Nat} (hs : D.Small k) (hk : k ≤ 1000000) :
    Ret Try.prog 56 [ptr p 0, I n, S s] w fun v w' => v = I (D.write n s).2 ∧ DevT w p F (D.write n s).1 w' := by
  obtain ⟨m, kp, ca, h1, hF⟩ := h
  exact (write_ret n s h1 (hs.bd hk) hs.2.2.2).mono fun v w' ⟨e, h2⟩ => ⟨e, h2.toA hF⟩
theorem flushA_ret (h : DevA w p D F) {k : Nat} (hs : D.Small k) (hk : k ≤ 1000000) :
    Ret Try.prog 12 [ptr p 0] w fun v w' => v = I D.flush.2 ∧ DevT w p F D.flush.1 w' := by
  obtain ⟨m, kp, ca, h1, hF⟩ := h
  exact (flush_ret h1 (hs.bd hk) hs.2.2.2).mono fun v w' ⟨e, h2⟩ => ⟨e, h2.toA hF⟩
theorem readA_ret (n : Int) (h : DevA w p D F) {k : Nat} (hs : D.Small k) (hk : k ≤ 1000000) :
    Ret Try.prog 34 [ptr p 0, I n] w fun v w' => v = .tuple #[S (D.read n).2.1, I (D.read n).2.2] ∧ DevT w p F (D.read n).1 w' := by
  obtain ⟨m, kp, ca, h1, hF⟩ := h
  exact (read_ret n h1 (hs.bd hk)).mono fun v w' ⟨e, h2⟩ => ⟨e, h2.toA hF⟩
theorem planA_ret (at' : Int) (cv : Value) (l : List Int) (tn : Int) (mk : UInt8) (h : DevA w p D F) (hl : l.length ≤ 17592186044416) (hr : Rd w cv 1 l.length (l.map I)) (hcap : cv = .slice none 0 0 ∨ ∃ a cap, cv = .slice (some a) l.length cap) (hat : at' ≤ 9223372036854775807) :
    Ret Try.prog 14 [ptr p 0, I at', .agg #[cv, I tn, u8v mk]] w fun v w' => v = I (D.plan at' l tn mk).2 ∧ DevT w p F (D.plan at' l tn mk).1 w' := by
  obtain ⟨m, kp, ca, h1, hF⟩ := h
  exact (plan_ret at' cv l tn mk h1 hl hr hcap hat).mono fun v w' ⟨e, h2⟩ => ⟨e, h2.toA hF⟩
theorem pullA_ret (cv : Value) (l : List Int) (tn : Int) (mk : UInt8) (h : DevA w p D F) {k : Nat} (hs : D.Small k) (hk : k ≤ 1000000) (hl : l.length ≤ 17592186044416) (hr : Rd w cv 1 l.length (l.map I)) :
    Ret Try.prog 21 [ptr p 0, .agg #[cv, I tn, u8v mk]] w fun v w' => v = I (if D.down then 8 else 0) ∧ DevT w p F (if D.down then D else D.fall l tn mk) w' := by
  obtain ⟨m, kp, ca, h1, hF⟩ := h
  exact (pull_ret h1 cv l tn mk hl hr (hs.bd hk)).mono fun v w' ⟨e, h2⟩ => ⟨e, h2.toA hF⟩
theorem newA_ok (B N : Nat) (w : World) (hg : geoOk B N) : Ret Try.prog 6 [.agg #[I (B : Int), I (N : Int)]] w fun v w' => ∃ p F, v = .tuple #[ptr p 0, I 0] ∧ DevA w' p (Dev.fresh B N) F ∧ Ext w w' ∧ ∀ i, F i → w.heap.size ≤ i :=
  (new_ok B N w hg).mono fun v w' ⟨p, m, e, h, hx, h1, h2⟩ => ⟨p, _, e, ⟨m, _, _, h, fun k => Iff.rfl⟩, hx, fun i hi => by
    rcases hi with h | h | h | h
    · omega
    · omega
    · cases h
    · cases h⟩
end

theorem Rd.elem {w : World} {b off n cap size i : Nat} {flat news : List Value} (h : Rd w (.slice (some ⟨b, off, none⟩) n cap) size n flat) (hn : (flat.drop (i * size)).take size = news) : ∀ j u, news[j]? = some u → w.cell? ⟨b, off + i * size + j, none⟩ = some u := fun j u hj => by
  rcases h.2 with ⟨c, -, hz⟩ | ⟨b', off', cap', hv, hc⟩
  · have hl := h.1
    rw [hz, Nat.zero_mul] at hl
    rw [← hn, List.eq_nil_of_length_eq_zero hl] at hj
    simp at hj
  · cases hv
    have := hc (i * size + j) u (by
      rw [← hn, List.getElem?_take] at hj
      split at hj
      · rw [List.getElem?_drop] at hj; exact hj
      · cases hj)
    rw [Nat.add_assoc]; exact this
def nrm (z b : Int) : Int := (z.tmod b + b).tmod b
theorem tmod_range (z b : Int) (hb : 0 < b) : -b < z.tmod b ∧ z.tmod b < b := by
  have h2 := Int.tmod_lt_of_pos z hb
  refine ⟨?_, h2⟩
  have h3 := Int.tmod_lt_of_pos (-z) hb
  rw [Int.neg_tmod] at h3
  omega
theorem nrm_range (z b : Int) (hb : 0 < b) : 0 ≤ nrm z b ∧ nrm z b < b := by
  obtain ⟨h1, h2⟩ := tmod_range z b hb
  unfold nrm
  exact ⟨Int.tmod_nonneg _ (by omega), Int.tmod_lt_of_pos _ hb⟩

/-- A device that is up, with no crash to come. -/
def Dev.Calm (D : Dev) (B N : Nat) : Prop := D.down = false ∧ D.due = 0 ∧ D.B = B ∧ D.N = N
/-- Writes read from memory. -/
structure PutsM (w : World) (v : Value) (l : List (Int × Bytes)) : Prop where
  rd : Rd w v 2 l.length (wrs l)
  len : l.length ≤ 140737488355328
  data : ∀ x ∈ l, x.2.length ≤ 140737488355328
theorem PutsM.ext {w w' : World} {v : Value} {l : List (Int × Bytes)} (h : PutsM w v l) (k : Ext w w') : PutsM w' v l := ⟨h.rd.ext k, h.len, h.data⟩
theorem rd_get {w : World} {v : Value} {l : List (Int × Bytes)} {i : Nat} (h : Rd w v 2 l.length (wrs l)) (hi : i < l.length) : ∃ b off cap x, v = .slice (some ⟨b, off, none⟩) l.length cap ∧ l[i]? = some x := by
  rcases h.2 with ⟨c, -, hz⟩ | ⟨b, off, cap, hv, -⟩
  · omega
  · exact ⟨b, off, cap, l[i], hv, List.getElem?_eq_getElem hi⟩
theorem rd_at {w : World} {b off n cap : Nat} {l : List (Int × Bytes)} {i : Nat} {x : Int × Bytes} (h : Rd w (.slice (some ⟨b, off, none⟩) n cap) 2 n (wrs l)) (hi : i < n) (hx : l[i]? = some x) : w.cell? ⟨b, off + i * 2, none⟩ = some (I x.1) ∧ w.cell? ⟨b, off + i * 2 + 1, none⟩ = some (S x.2) := by
  rcases h.2 with ⟨c, -, hz⟩ | ⟨b', off', cap', hv, hc⟩
  · omega
  · cases hv
    obtain ⟨h1, h2⟩ := wrs_at l i x hx
    exact ⟨hc _ _ h1, by rw [Nat.add_assoc]; exact hc _ _ h2⟩

/-- What a block has when i writes have met the crash. -/
def Dev.keptTo (D : Dev) (l : List Int) (tn : Int) (mk : UInt8) (i : Nat) (n : Int) : Bytes := ((D.fallTo l tn mk i) n).getD (zeros (512 * D.N))
theorem keptTo_fall (D : Dev) (l : List Int) (tn : Int) (mk : UInt8) (n : Int) : (D.fall l tn mk).kept n = D.keptTo l tn mk D.cache.length n := rfl
theorem keptTo_succ {D : Dev} {l : List Int} {tn : Int} {mk : UInt8} {i : Nat} {x : Int × Bytes} (hx : D.cache[i]? = some x) (n : Int) : D.keptTo l tn mk (i + 1) n =
    if n = x.1 then (if (i : Int) = tn then mixN mk (D.keptTo l tn mk i n) x.2 D.N else if (i : Int) ∈ l then x.2 else D.keptTo l tn mk i n) else D.keptTo l tn mk i n := by
  unfold Dev.keptTo
  rw [fallTo_at hx]
  by_cases h1 : n = x.1
  · subst h1
    rw [if_pos rfl]
    split
    · simp [upd]
    · split
      · simp [upd]
      · rfl
  · rw [if_neg h1]
    split
    · simp [upd, h1]
    · split
      · simp [upd, h1]
      · rfl
theorem get_lt {α : Type} {l : List α} {i : Nat} (h : i < l.length) : ∃ x, l[i]? = some x ∧ x ∈ l := ⟨l[i], List.getElem?_eq_getElem h, List.getElem_mem h⟩

/-- A sector of a block. -/
def sec (s : Bytes) (k : Nat) : Bytes := (s.drop (512 * k)).take 512
theorem sec_splB (c x : Bytes) (s k N : Nat) (hc : c.length = 512 * N) (hx : x.length = 512) (hs : s < N) (hk : k < N) : sec (splB c (512 * s) x) k = if k = s then x else sec c k := by
  unfold sec splB
  by_cases h : k = s
  · subst h
    rw [if_pos rfl, List.append_assoc, List.drop_append_of_le_length (by simp; omega)]
    rw [List.drop_eq_nil_of_le (by simp; omega), List.nil_append, List.take_append_of_le_length (by omega), ← hx, List.take_length]
  · rw [if_neg h]
    apply List.ext_getElem?
    intro j
    rw [List.getElem?_take, List.getElem?_take, List.getElem?_drop, List.getElem?_drop]
    by_cases hj : j < 512
    · rw [if_pos hj, if_pos hj]
      rcases Nat.lt_or_gt_of_ne h with hlt | hgt
      · rw [List.append_assoc, List.getElem?_append_left (by simp; omega), List.getElem?_take, if_pos (by omega)]
      · rw [List.getElem?_append_right (by simp; omega), List.getElem?_drop]
        congr 1
        simp
        omega
    · rw [if_neg hj, if_neg hj]
/-- A sector of a torn write is the one's or the other's. -/
theorem sec_mix (mk : UInt8) (a b : Bytes) (N : Nat) (ha : a.length = 512 * N) (hb : b.length = 512 * N) (k : Nat) (hk : k < N) : ∀ s, s ≤ N → sec (mixN mk a b s) k = sec a k ∨ sec (mixN mk a b s) k = sec b k
  | 0, _ => .inl rfl
  | s + 1, h => by
    have ih := sec_mix mk a b N ha hb k hk s (by omega)
    simp only [mixN]
    split
    · rw [sec_splB _ _ s k N (mixN_length mk a b N ha hb s (by omega)) (by simp; omega) (by omega) hk]
      split
      · rename_i e; subst e; exact .inr rfl
      · exact ih
    · exact ih
theorem keptTo_length {D : Dev} (h : D.Ok) (l : List Int) (tn : Int) (mk : UInt8) (n : Int) : ∀ i, i ≤ D.cache.length → (D.keptTo l tn mk i n).length = 512 * D.N
  | 0, _ => h.kept n
  | i + 1, hi => by
    have ih := keptTo_length h l tn mk n i (by omega)
    obtain ⟨x, hx, hm⟩ := get_lt (show i < D.cache.length by omega)
    have hxl := (h.cache x hm).2.2
    rw [keptTo_succ hx]
    split
    · split
      · exact mixN_length mk _ _ D.N ih hxl D.N (Nat.le_refl _)
      · split
        · exact hxl
        · exact ih
    · exact ih
/-- Each sector is what it was, or what a write had there. -/
theorem sec_fall {D : Dev} (h : D.Ok) (l : List Int) (tn : Int) (mk : UInt8) (n : Int) (k : Nat) (hk : k < D.N) : ∀ i, i ≤ D.cache.length → sec (D.keptTo l tn mk i n) k = sec (D.kept n) k ∨ ∃ x ∈ D.cache, x.1 = n ∧ sec (D.keptTo l tn mk i n) k = sec x.2 k
  | 0, _ => .inl rfl
  | i + 1, hi => by
    have ih := sec_fall h l tn mk n k hk i (by omega)
    obtain ⟨x, hx, hm⟩ := get_lt (show i < D.cache.length by omega)
    have hxl := (h.cache x hm).2.2
    rw [keptTo_succ hx]
    split
    · rename_i e
      split
      · rcases sec_mix mk (D.keptTo l tn mk i n) x.2 D.N (keptTo_length h l tn mk n i (by omega)) hxl k hk D.N (Nat.le_refl _) with h' | h'
        · rw [h']; exact ih
        · exact .inr ⟨x, hm, e.symm, h'⟩
      · split
        · exact .inr ⟨x, hm, e.symm, rfl⟩
        · exact ih
    · exact ih
/-- The bytes doubled until there are n. -/
def grow : Nat → Bytes → Nat → Bytes
  | 0, s, _ => s
  | f + 1, s, n => if s.length < n then grow f (s ++ s) n else s
def fill (s : Bytes) (n : Nat) : Bytes := (grow (n + 1) (if s = [] then [0] else s) n).take n
theorem grow_length (n : Nat) : ∀ (f : Nat) (s : Bytes), s ≠ [] → n < f + s.length → n ≤ (grow f s n).length
  | 0, s, h0, h => by simp only [grow]; omega
  | f + 1, s, h0, h => by
    have : 0 < s.length := List.length_pos_iff.2 h0
    simp only [grow]
    split
    · exact grow_length n f (s ++ s) (by simp [h0]) (by simp; omega)
    · omega
theorem fill_length (s : Bytes) (n : Nat) : (fill s n).length = n := by
  have := grow_length n (n + 1) (if s = [] then [0] else s) (by split <;> simp_all) (by omega)
  simp [fill]; omega

theorem fill_ret (s : Bytes) (n : Nat) (w : World) (hn : n ≤ 100000) (hs : s.length ≤ 140737488355328) :
    Ret Try.prog 33 [S s, I (n : Int)] w fun v w' => v = S (fill s n) ∧ w' = w := by
  refine ret_of_run (e := [(0, _), (1, _)]) Try.func33 rfl Try.ntmps33 rfl rfl ?_; refine run_seq ?_; refine run_reg rfl ?_; refine rVal rfl rfl (yas rfl) ?_; refine rEnd ?_; refine run_seq ?_; refine run_seq ?_; refine run_reg rfl ?_; refine rVal rfl rfl (ymv rfl) ?_; refine rVal rfl rfl (yeqS rfl rfl) ?_; refine rEnd ?_
  obtain ⟨s0, hs0⟩ : ∃ s0, (if s = [] then [0] else s) = s0 := ⟨_, rfl⟩
  have hne : s0 ≠ [] := by
    rw [← hs0]; split
    · simp
    · assumption
  have hlen : s0.length ≤ 140737488355328 := by
    rw [← hs0]; split
    · simp
    · exact hs
  refine run_cut (fun e' w' => e' = [(0, S s0), (1, I (n : Int))] ∧ w' = w) ?hk (fun hk => ?hmain)
  case hk =>
    rintro _ w1 ⟨rfl, rfl⟩
    refine run_seq ?_; refine run_block ?_; refine run_loop (α := Nat × Bytes) ((n + 1, s0)) (fun i => [(0, S i.2), (1, I (n : Int))]) (fun i w' => w' = w1 ∧ i.2 ≠ [] ∧ i.2.length ≤ 140737488355328 ∧ n < i.1 + i.2.length ∧ grow i.1 i.2 n = grow (n + 1) s0 n) (fun i => i.1) (by repeat (first | exact Sub.nil | refine Sub.cons rfl ?_)) ?hI ?hround
    case hI => exact ⟨rfl, hne, hlen, by show n < n + 1 + s0.length; omega, rfl⟩
    case hround =>
      rintro ⟨f, c⟩ _ ⟨rfl, hc0, hcl, hcf, hcg⟩ ih
      simp only at hc0 hcl hcf hcg
      have hcp : 0 < c.length := List.length_pos_iff.2 hc0
      try dsimp only
      refine run_seq ?_; refine run_seq ?_; refine run_reg rfl ?_; refine rVal rfl rfl (ymv rfl) ?_; refine rVal rfl rfl (ylnS Try.underlying9 rfl) ?_; refine rVal rfl rfl (ymv rfl) ?_; refine rVal rfl rfl (ylt rfl rfl) ?_; refine rEnd ?_; refine run_if rfl (fun hlt => ?_) (fun hlt => ?_)
      · skip
        obtain ⟨f', rfl⟩ : ∃ f', f = f' + 1 := ⟨f - 1, by omega⟩
        refine run_skip ?_; refine run_block ?_; refine run_reg rfl ?_; refine rVal rfl rfl (ymv rfl) ?_; refine rVal rfl rfl (ymv rfl) ?_; refine rVal rfl rfl (ycatS rfl rfl (by first | omega | (simp; done) | (simp; omega))) ?_
        refine rVal rfl rfl (yas rfl) ?_; refine rEnd ?_; refine run_inBlock ?_; refine (ih (f', c ++ c) _ ⟨rfl, by simp [hc0], by simp; omega, by simp; omega, ?_⟩ (by show f' < f' + 1; omega)).sub (by repeat (first | exact Sub.nil | refine Sub.cons rfl ?_))
        rw [← hcg]
        simp only [grow]
        rw [if_pos (by omega)]
      · skip
        have hcl' : n ≤ c.length := by omega
        have hgc : grow f c n = c := by
          cases f with
          | zero => rfl
          | succ f => simp only [grow]; rw [if_neg (by omega)]
        refine run_exit rfl ?_; refine run_seq ?_; refine run_reg rfl ?_; refine rVal rfl rfl (ymv rfl) ?_; refine rVal rfl rfl (ymv rfl) ?_; refine rVal rfl rfl (yslSt Try.underlying9 rfl rfl (by omega)) ?_; refine rVal rfl rfl (yas rfl) ?_; refine rEnd ?_; refine run_ret Try.func33 rfl ?_; refine ⟨_, rfl, ?_, rfl⟩
        simp only [resVal, fill, hs0, ← hcg, hgc]
  case hmain =>
    refine run_if rfl (fun h => ?_) (fun h => ?_)
    · skip
      refine run_reg rfl ?_; refine rVal rfl rfl (yas rfl) ?_; refine rEnd ?_
      have e : s0 = [0] := by rw [← hs0, if_pos h]
      rw [e] at hk
      exact (hk _ _ ⟨rfl, rfl⟩).sub (by repeat (first | exact Sub.nil | refine Sub.cons rfl ?_))
    · skip
      refine run_skip ?_
      have e : s0 = s := by rw [← hs0, if_neg h]
      rw [e] at hk
      exact (hk _ _ ⟨rfl, rfl⟩).sub (by repeat (first | exact Sub.nil | refine Sub.cons rfl ?_))

theorem same_ret (u v : Value) (a b : List Bytes) (w : World) (ha : Rd w u 1 a.length (a.map S)) (hb : Rd w v 1 b.length (b.map S)) (hla : a.length ≤ 1000000) (hlb : b.length ≤ 1000000) :
    Ret Try.prog 18 [u, v] w fun x w' => x = .bool (decide (a = b)) ∧ Ext w w' := by
  obtain ⟨aa, capa, rfl, hza⟩ := ha.shape
  obtain ⟨ab, capb, rfl, hzb⟩ := hb.shape
  refine ret_of_run (e := [(0, _), (1, _)]) Try.func18 rfl Try.ntmps18 rfl rfl ?_; refine run_seq ?_; refine run_reg rfl ?_; refine rVal rfl rfl (yas rfl) ?_; refine rEnd ?_; refine run_seq ?_; refine run_seq ?_; refine run_reg rfl ?_; refine rVal rfl rfl (ymv rfl) ?_; refine rVal rfl rfl (yln Try.underlying42 rfl) ?_; refine rVal rfl rfl (ymv rfl) ?_; refine rVal rfl rfl (yln Try.underlying42 rfl) ?_; refine rVal rfl rfl (yne rfl rfl) ?_; refine rEnd ?_; refine run_if rfl (fun hl => ?_) (fun hl => ?_)
  · skip
    refine run_seq ?_; refine run_reg rfl ?_; refine rVal rfl rfl (yas rfl) ?_; refine rEnd ?_; refine run_ret Try.func18 rfl ?_
    have : a ≠ b := fun e => by rw [e] at hl; exact hl rfl
    exact ⟨_, rfl, by simp [resVal, this], Ext.refl w⟩
  · skip
    have hl' : a.length = b.length := by omega
    refine run_skip ?_; refine run_seq ?_; refine run_seq ?_; refine run_reg rfl ?_; refine rVal rfl rfl (yas rfl) ?_; refine rEnd ?_; refine run_block ?_; refine run_loop (α := Nat) (0) (fun i => [(0, .slice aa a.length capa), (1, .slice ab b.length capb), (5, I (i : Int))]) (fun i wi => Ext w wi ∧ i ≤ a.length ∧ a.take i = b.take i) (fun i => a.length - i) (by repeat (first | exact Sub.nil | refine Sub.cons rfl ?_)) ?hI ?hround
    case hI => exact ⟨Ext.refl w, by omega, by simp⟩
    case hround =>
      rintro i wi ⟨hx, hi, ht⟩ ih
      try dsimp only
      refine run_seq ?_; refine run_seq ?_; refine run_reg rfl ?_; refine rVal rfl rfl (ymv rfl) ?_; refine rVal rfl rfl (ymv rfl) ?_; refine rVal rfl rfl (yln Try.underlying42 rfl) ?_; refine rVal rfl rfl (ylt rfl rfl) ?_; refine rEnd ?_; refine run_if rfl (fun hlt => ?_) (fun hlt => ?_)
      · skip
        have hlt' : i < a.length := by omega
        have hltb : i < b.length := by omega
        have ha' := ha.ext hx
        have hb' := hb.ext hx
        obtain ⟨x, hxe⟩ : ∃ x, a[i] = x := ⟨_, rfl⟩
        obtain ⟨y, hye⟩ : ∃ y, b[i] = y := ⟨_, rfl⟩
        rcases ha'.2 with ⟨c, -, h⟩ | ⟨ga, offa, capa', hva, hca⟩
        · omega
        rcases hb'.2 with ⟨c, -, h⟩ | ⟨gb, offb, capb', hvb, hcb⟩
        · omega
        cases hva
        cases hvb
        have c1 := hca (i * 1) (S x) (by simp [List.getElem?_eq_getElem hlt', hxe])
        have c2 := hcb (i * 1) (S y) (by simp [List.getElem?_eq_getElem hltb, hye])
        refine run_skip ?_; refine run_seq ?_; refine run_block ?_; refine run_seq ?_; refine run_draw (fun w' => w' = wi.drew) (by kernel_rfl) rfl ?_; refine hTake (i := 0) rfl (by kernel_rfl) rfl rfl (fun _ hS => ymv rfl) (rfl) ?_; refine hTake (i := 1) rfl (by kernel_rfl) rfl rfl (fun _ hS => ymv rfl) (rfl) ?_; refine hTake (i := 2) rfl (by kernel_rfl) rfl rfl (fun _ hS => yis Try.underlying42 ti9 rfl rfl (by omega)) (rfl) ?_; refine hTake (i := 4) rfl (by kernel_rfl) rfl rfl (fun _ hS => ymv rfl) (rfl) ?_; refine hTake (i := 5) rfl (by kernel_rfl) rfl rfl (fun _ hS => ymv rfl) (rfl) ?_
        refine hTake (i := 6) rfl (by kernel_rfl) rfl rfl (fun _ hS => yis Try.underlying42 ti9 rfl rfl (by omega)) (rfl) ?_; refine hTake (i := 3) rfl (by kernel_rfl) rfl rfl (fun _ hS => yldc Try.underlying9 rfl rfl (by rw [hS]; exact c1)) (rfl) ?_
        refine hTake (i := 7) rfl (by kernel_rfl) rfl rfl (fun _ hS => yldc Try.underlying9 rfl rfl (by rw [hS]; exact c2)) (rfl) ?_
        refine hTake (i := 8) rfl (by kernel_rfl) rfl rfl (fun _ hS => yneS rfl rfl) (rfl) ?_; refine hEnd (by kernel_rfl) ?_; refine run_if rfl (fun hne => ?_) (fun hne => ?_)
        · skip
          refine run_seq ?_; refine run_reg rfl ?_; refine rVal rfl rfl (yas rfl) ?_; refine rEnd ?_; refine run_ret Try.func18 rfl ?_
          have : a ≠ b := fun e => by subst e; rw [hxe] at hye; exact hne hye
          exact ⟨_, rfl, by simp [resVal, this], hx.trans (Ext.drew0 wi)⟩
        · skip
          refine run_skip ?_; refine run_inBlock ?_; refine run_reg rfl ?_; refine rVal rfl rfl (ymv rfl) ?_; refine rVal rfl rfl (yad rfl rfl (by omega)) ?_; refine rVal rfl rfl (yas rfl) ?_; refine rEnd ?_
          have hxy : x = y := by simpa using hne
          exact (ih (i + 1) _ ⟨hx.trans (Ext.drew0 wi), by omega, by rw [List.take_succ_eq_append_getElem hlt', List.take_succ_eq_append_getElem hltb, ht, hxe, hye, hxy]⟩ (by omega)).sub (by repeat (first | exact Sub.nil | refine Sub.cons rfl ?_))
      · skip
        have hin : i = a.length := by omega
        subst hin
        have : a = b := by rw [hl'] at ht; rw [← List.take_length (l := b), ← ht, ← hl', List.take_length]
        refine run_exit rfl ?_; refine run_seq ?_; refine run_reg rfl ?_; refine rVal rfl rfl (yas rfl) ?_; refine rEnd ?_; refine run_ret Try.func18 rfl ?_
        exact ⟨_, rfl, by simp [resVal, this], hx⟩
end Go.Proofs.Ytkhkebcflaokpaa
namespace Go.Proofs.Ytkhkebcflaokpaa
open Go Go.RowKit
set_option linter.all false

/-- What blocks have. -/
abbrev Cont := Int → Bytes
/-- A device and a journal's region on it: sectors of a block, blocks, where the region starts, places of the ring. -/
structure Geo where
  N : Nat
  B : Nat
  s : Nat
  L : Nat
structure Geo.Ok (g : Geo) : Prop where
  hN : 1 ≤ g.N ∧ g.N ≤ 8
  hL : 4 ≤ g.L
  hB : g.s + 2 + g.L ≤ g.B ∧ g.B ≤ 4096 ∧ 16 ≤ g.B
abbrev Geo.size (g : Geo) : Nat := 512 * g.N
def Geo.place (g : Geo) (i : Nat) : Int := ((g.s + 2 + i % g.L : Nat) : Int)
def Geo.hd (g : Geo) (a : Nat) : Int := ((g.s + a : Nat) : Int)
def Geo.out (g : Geo) (n : Int) : Prop := 0 ≤ n ∧ n < (g.B : Int) ∧ (n < (g.s : Int) ∨ ((g.s + 2 + g.L : Nat) : Int) ≤ n)
instance Geo.outDec (g : Geo) (n : Int) : Decidable (g.out n) := by unfold Geo.out; infer_instance
abbrev Geo.most (g : Geo) : Nat := mostN g.L g.size
abbrev Tx := List (Int × Bytes)
/-- A transaction that may be. -/
structure TxOk (g : Geo) (t : Tx) : Prop where
  most : t.length ≤ g.most
  nd : (t.map (·.1)).Nodup
  out : ∀ x ∈ t, g.out x.1 ∧ x.2.length = g.size

theorem sec_ext {a b : Bytes} {N : Nat} (ha : a.length = 512 * N) (hb : b.length = 512 * N) (h : ∀ k, k < N → sec a k = sec b k) : a = b := by
  apply List.ext_getElem?
  intro i
  by_cases hi : i < 512 * N
  · have hk : i / 512 < N := Nat.div_lt_of_lt_mul hi
    have h1 := congrArg (·[i % 512]?) (h (i / 512) hk)
    simp only [sec, List.getElem?_take, List.getElem?_drop] at h1
    have hm : i % 512 < 512 := Nat.mod_lt _ (by decide)
    rw [if_pos hm, if_pos hm] at h1
    have e : 512 * (i / 512) + i % 512 = i := Nat.div_add_mod i 512
    rwa [e] at h1
  · rw [List.getElem?_eq_none (by omega), List.getElem?_eq_none (by omega)]

/-- What blocks have when writes are over them. -/
def nowOf (base : Cont) (C : List (Int × Bytes)) : Cont := fun n => (lastW C n).getD (base n)
theorem nowOf_nil (base : Cont) : nowOf base [] = base := by funext n; simp [nowOf, lastW]
theorem lastW_app (a b : List (Int × Bytes)) (n : Int) : lastW (a ++ b) n = (lastW b n).or (lastW a n) := by
  unfold lastW
  rw [List.reverse_append, List.find?_append]
  cases List.find? (fun x => x.1 == n) b.reverse <;> simp
theorem nowOf_app (base : Cont) (a b : List (Int × Bytes)) : nowOf base (a ++ b) = nowOf (nowOf base a) b := by
  funext n
  simp only [nowOf, lastW_app]
  cases lastW b n <;> simp
theorem lastW_off {C : List (Int × Bytes)} {n : Int} (h : ∀ x ∈ C, x.1 ≠ n) : lastW C n = none := by
  unfold lastW
  rw [List.find?_eq_none.2]
  · rfl
  · intro x hx
    have := h x (by simpa using hx)
    simpa using this
theorem lastW_some {C : List (Int × Bytes)} {n : Int} (h : ∃ x ∈ C, x.1 = n) : ∃ x ∈ C, x.1 = n ∧ lastW C n = some x.2 := by
  unfold lastW
  cases hf : List.find? (fun x => x.1 == n) C.reverse with
  | none =>
    obtain ⟨x, hx, e⟩ := h
    have := List.find?_eq_none.1 hf x (by simpa using hx)
    simp [e] at this
  | some x =>
    refine ⟨x, by simpa using List.mem_of_find?_eq_some hf, by simpa using List.find?_some hf, rfl⟩
theorem nowOf_same {base : Cont} {C : List (Int × Bytes)} {n : Int} (h : ∀ x ∈ C, x.1 ≠ n) : nowOf base C n = base n := by simp [nowOf, lastW_off h]
theorem nowOf_one {base : Cont} {n : Int} {s : Bytes} : nowOf base [(n, s)] n = s := by simp [nowOf, lastW]
/-- What lies beneath does not matter where writes lie over it. -/
theorem nowOf_over {base base' : Cont} {C : List (Int × Bytes)} {n : Int} (h : (∃ x ∈ C, x.1 = n) ∨ base n = base' n) : nowOf base C n = nowOf base' C n := by
  rcases h with h | h
  · obtain ⟨x, -, -, e⟩ := lastW_some h
    simp [nowOf, e]
  · simp [nowOf, h]
theorem nowOf_len {base : Cont} {C : List (Int × Bytes)} {m : Nat} (hb : ∀ n, (base n).length = m) (hC : ∀ x ∈ C, x.2.length = m) (n : Int) : (nowOf base C n).length = m := by
  by_cases h : ∃ x ∈ C, x.1 = n
  · obtain ⟨x, hx, -, e⟩ := lastW_some h
    simp [nowOf, e, hC x hx]
  · rw [nowOf_same (fun x hx e => h ⟨x, hx, e⟩)]; exact hb n

/-- A disk that a crash can leave. -/
structure Poss (N : Nat) (base : Cont) (C : List (Int × Bytes)) (f : Cont) : Prop where
  len : ∀ n, (f n).length = 512 * N
  sec : ∀ n k, k < N → sec (f n) k = sec (base n) k ∨ ∃ x ∈ C, x.1 = n ∧ sec (f n) k = sec x.2 k
theorem Poss.mono {N : Nat} {base : Cont} {C C' : List (Int × Bytes)} {f : Cont} (h : Poss N base C f) (hs : ∀ x ∈ C, x ∈ C') : Poss N base C' f :=
  ⟨h.len, fun n k hk => (h.sec n k hk).imp id fun ⟨x, hx, e⟩ => ⟨x, hs x hx, e⟩⟩
theorem Poss.same {N : Nat} {base : Cont} {C : List (Int × Bytes)} {f : Cont} (h : Poss N base C f) {n : Int} (hb : (base n).length = 512 * N) (hn : ∀ x ∈ C, x.1 ≠ n) : f n = base n :=
  sec_ext (h.len n) hb fun k hk => by
    rcases h.sec n k hk with e | ⟨x, hx, e, -⟩
    · exact e
    · exact absurd e (hn x hx)
theorem poss_fall {D : Dev} (h : D.Ok) (l : List Int) (tn : Int) (mk : UInt8) : Poss D.N D.kept D.cache (D.fall l tn mk).kept :=
  ⟨fun n => by rw [keptTo_fall]; exact keptTo_length h l tn mk n _ (Nat.le_refl _), fun n k hk => by
    rw [keptTo_fall]; exact sec_fall h l tn mk n k hk _ (Nat.le_refl _)⟩

/-- A device that is up: what is safe, what is written and not. -/
structure Up (D : Dev) (g : Geo) (base : Cont) (C : List (Int × Bytes)) : Prop where
  ok : D.Ok
  down : D.down = false
  kept : D.kept = base
  cache : D.cache = C
  hB : D.B = g.B
  hN : D.N = g.N
/-- One that fell. -/
structure Fell (D : Dev) (g : Geo) (f : Cont) : Prop where
  ok : D.Ok
  down : D.down = true
  kept : D.kept = f
  cache : D.cache = []
  due : D.due = 0
  hB : D.B = g.B
  hN : D.N = g.N
theorem Up.len {D : Dev} {g : Geo} {base : Cont} {C : List (Int × Bytes)} (h : Up D g base C) (n : Int) : (base n).length = g.size := by
  rw [← h.kept, h.ok.kept, h.hN]
theorem Up.lenC {D : Dev} {g : Geo} {base : Cont} {C : List (Int × Bytes)} (h : Up D g base C) : ∀ x ∈ C, x.2.length = g.size := fun x hx => by
  rw [← h.cache] at hx
  rw [(h.ok.cache x hx).2.2, h.hN]
theorem Up.now {D : Dev} {g : Geo} {base : Cont} {C : List (Int × Bytes)} (h : Up D g base C) (n : Int) : D.now n = nowOf base C n := by
  unfold Dev.now nowOf
  rw [h.cache, h.kept]
theorem Fell.restart {D : Dev} {g : Geo} {f : Cont} (h : Fell D g f) : Up { D with down := false } g f [] :=
  ⟨⟨h.ok.hB, h.ok.hN, h.ok.due, h.ok.sf, h.ok.cache, h.ok.len, h.ok.reads⟩, rfl, h.kept, h.cache, h.hB, h.hN⟩
theorem fallOk {D : Dev} (h : D.Ok) (l : List Int) (tn : Int) (mk : UInt8) : (D.fall l tn mk).Ok := by
  refine ⟨h.hB, h.hN, ?_, ?_, ?_, h.len, h.reads⟩
  · show 0 ≤ (0 : Int) ∧ (0 : Int) ≤ _; omega
  · have : ∀ i, ∀ n s, D.fallTo l tn mk i n = some s → 0 ≤ n ∧ n < (D.B : Int) ∧ s.length = 512 * D.N := by
      intro i
      induction i with
      | zero => exact h.sf
      | succ i ih =>
        intro n s
        cases hx : D.cache[i]? with
        | none => simp only [Dev.fallTo, hx]; exact ih n s
        | some x =>
          have hm : x ∈ D.cache := List.mem_of_getElem? hx
          have hc := h.cache x hm
          rw [fallTo_at hx]
          have hk : (((D.fallTo l tn mk i) x.1).getD (zeros (512 * D.N))).length = 512 * D.N := by
            cases hs : D.fallTo l tn mk i x.1 with
            | none => simp [zeros]
            | some t => exact (ih _ _ hs).2.2
          split
          · simp only [upd]
            split
            · intro e; cases e
              rename_i e1; subst e1
              exact ⟨hc.1, hc.2.1, mixN_length _ _ _ D.N hk hc.2.2 D.N (Nat.le_refl _)⟩
            · exact ih n s
          · split
            · simp only [upd]
              split
              · intro e; cases e
                rename_i e1; subst e1
                exact hc
              · exact ih n s
            · exact ih n s
    exact this _
  · intro x hx
    have : x ∈ ([] : List (Int × Bytes)) := hx
    cases this
theorem fell_of {D : Dev} {g : Geo} (h : D.Ok) (hB : D.B = g.B) (hN : D.N = g.N) (l : List Int) (tn : Int) (mk : UInt8) : Fell (D.fall l tn mk) g (D.fall l tn mk).kept :=
  ⟨fallOk h l tn mk, rfl, rfl, rfl, rfl, hB, hN⟩
theorem Up.fall {D : Dev} {g : Geo} {base : Cont} {C : List (Int × Bytes)} (h : Up D g base C) (l : List Int) (tn : Int) (mk : UInt8) : Fell (D.fall l tn mk) g (D.fall l tn mk).kept ∧ Poss g.N base C (D.fall l tn mk).kept := by
  have := poss_fall h.ok l tn mk
  rw [h.kept, h.cache, h.hN] at this
  exact ⟨fell_of h.ok h.hB h.hN l tn mk, this⟩

/-- What steps make of a device: they end with the first error. -/
def runS (D : Dev) : List Stp → Dev × Int
  | [] => (D, 0)
  | .put n s :: r => if (D.write n s).2 = 0 then runS (D.write n s).1 r else D.write n s
  | .flush :: r => if D.flush.2 = 0 then runS D.flush.1 r else D.flush
def puts (l : List (Int × Bytes)) : List Stp := l.map fun x => .put x.1 x.2
@[simp] theorem puts_cons (x : Int × Bytes) (r : List (Int × Bytes)) : puts (x :: r) = .put x.1 x.2 :: puts r := rfl
@[simp] theorem puts_nil : puts [] = [] := rfl
@[simp] theorem puts_app (a b : List (Int × Bytes)) : puts (a ++ b) = puts a ++ puts b := by simp [puts]
@[simp] theorem puts_length (a : List (Int × Bytes)) : (puts a).length = a.length := by simp [puts]

theorem countOk {D : Dev} (h : D.Ok) : D.count.Ok := h.count
theorem Up.push {D : Dev} {g : Geo} {base : Cont} {C : List (Int × Bytes)} (h : Up D g base C) {n : Int} {s : Bytes} (hn : 0 ≤ n ∧ n < (g.B : Int)) (hs : s.length = g.size) : Up (D.push n s).count g base (C ++ [(n, s)]) := by
  refine ⟨countOk (h.ok.push (by rw [h.hB]; exact hn) (by rw [h.hN]; exact hs)), h.down, h.kept, ?_, h.hB, h.hN⟩
  show D.cache ++ [(n, s)] = _
  rw [h.cache]
theorem write_spec {D : Dev} {g : Geo} {base : Cont} {C : List (Int × Bytes)} (h : Up D g base C) {n : Int} {s : Bytes} (hn : 0 ≤ n ∧ n < (g.B : Int)) (hs : s.length = g.size) :
    ((D.write n s).2 = 0 ∧ Up (D.write n s).1 g base (C ++ [(n, s)]) ∧ (D.due = 0 → (D.write n s).1.due = 0)) ∨ ((D.write n s).2 = 8 ∧ D.due ≠ 0 ∧ ∃ f, Fell (D.write n s).1 g f ∧ Poss g.N base (C ++ [(n, s)]) f) := by
  have hp := h.push hn hs
  have hh : D.has n = true := by simp [Dev.has, h.hB]; omega
  unfold Dev.write
  rw [if_neg (by simp [h.down]), if_neg (by simp [hh, hs, h.hN])]
  by_cases hd : D.due = 1
  · rw [if_pos hd]
    right
    obtain ⟨h1, h2⟩ := hp.fall (D.push n s).count.keep (D.push n s).count.torn (D.push n s).count.mask
    exact ⟨rfl, by omega, _, h1, h2⟩
  · rw [if_neg hd]
    left
    refine ⟨rfl, hp, fun e => ?_⟩
    simp [Dev.count, Dev.push, e]
theorem flushTo_now (D : Dev) (n : Int) : ∀ i, i ≤ D.cache.length → ((D.flushTo i) n).getD (zeros (512 * D.N)) = D.nowTo n i
  | 0, _ => by simp [Dev.flushTo, Dev.nowTo, lastW, Dev.kept]
  | i + 1, hi => by
    obtain ⟨x, hx, hm⟩ := get_lt (show i < D.cache.length by omega)
    rw [flushTo_at hx, nowTo_succ hx]
    have ih := flushTo_now D n i (by omega)
    simp only [upd]
    by_cases e : n = x.1
    · subst e; simp
    · rw [if_neg e, if_neg (fun h => e h.symm)]; exact ih
theorem flushTo_ok {D : Dev} (h : D.Ok) : ∀ i, ∀ n s, D.flushTo i n = some s → 0 ≤ n ∧ n < (D.B : Int) ∧ s.length = 512 * D.N
  | 0 => h.sf
  | i + 1 => fun n s => by
    have ih := flushTo_ok h i
    cases hx : D.cache[i]? with
    | none => simp only [Dev.flushTo, hx]; exact ih n s
    | some x =>
      have hc := h.cache x (List.mem_of_getElem? hx)
      rw [flushTo_at hx]
      simp only [upd]
      split
      · intro e; cases e
        rename_i e1; subst e1
        exact hc
      · exact ih n s
theorem flush_spec {D : Dev} {g : Geo} {base : Cont} {C : List (Int × Bytes)} (h : Up D g base C) :
    (D.flush.2 = 0 ∧ Up D.flush.1 g (nowOf base C) [] ∧ (D.due = 0 → D.flush.1.due = 0)) ∨ (D.flush.2 = 8 ∧ D.due ≠ 0 ∧ ∃ f, Fell D.flush.1 g f ∧ Poss g.N base C f) := by
  unfold Dev.flush
  rw [if_neg (by simp [h.down])]
  by_cases hd : D.due = 1
  · rw [if_pos hd]
    right
    have hc : Up D.count g base C := ⟨countOk h.ok, h.down, h.kept, h.cache, h.hB, h.hN⟩
    obtain ⟨h1, h2⟩ := hc.fall D.count.keep D.count.torn D.count.mask
    exact ⟨rfl, by omega, _, h1, h2⟩
  · rw [if_neg hd]
    left
    have hc := countOk h.ok
    refine ⟨rfl, ⟨⟨hc.hB, hc.hN, hc.due, flushTo_ok h.ok _, fun x hx => (by cases hx), hc.len, hc.reads⟩, h.down, ?_, rfl, h.hB, h.hN⟩, fun e => by simp [Dev.count, e]⟩
    funext n
    rw [← h.now n]
    have := flushTo_now D n D.cache.length (Nat.le_refl _)
    show ((D.flushTo D.cache.length) n).getD (zeros (512 * D.N)) = _
    rw [this]
    simp [Dev.nowTo, Dev.now]

/-- A list of writes. -/
theorem runS_puts {g : Geo} {base : Cont} : ∀ (ws : List (Int × Bytes)) {D : Dev} {C : List (Int × Bytes)} (h : Up D g base C) (hw : ∀ x ∈ ws, (0 ≤ x.1 ∧ x.1 < (g.B : Int)) ∧ x.2.length = g.size) (rest : List Stp),
    (∃ D', runS D (puts ws ++ rest) = runS D' rest ∧ Up D' g base (C ++ ws) ∧ (D.due = 0 → D'.due = 0)) ∨ (∃ D' f, runS D (puts ws ++ rest) = (D', 8) ∧ D.due ≠ 0 ∧ Fell D' g f ∧ Poss g.N base (C ++ ws) f)
  | [], D, C, h, _, rest => .inl ⟨D, rfl, by simpa using h, id⟩
  | x :: r, D, C, h, hw, rest => by
    obtain ⟨hx1, hx2⟩ := hw x (List.mem_cons_self ..)
    have e : C ++ x :: r = (C ++ [(x.1, x.2)]) ++ r := by simp
    rcases write_spec h hx1 hx2 with ⟨h0, hU, hdu⟩ | ⟨h0, hdu, f, hF, hP⟩
    · simp only [puts_cons, List.cons_append, runS]
      rw [if_pos h0]
      rcases runS_puts r hU (fun y hy => hw y (List.mem_cons_of_mem _ hy)) rest with ⟨D', e1, h1, h2⟩ | ⟨D', f, e1, h1, h2, h3⟩
      · exact .inl ⟨D', e1, by rw [e]; exact h1, fun h => h2 (hdu h)⟩
      · exact .inr ⟨D', f, e1, fun h => h1 (hdu h), h2, by rw [e]; exact h3⟩
    · simp only [puts_cons, List.cons_append, runS]
      rw [if_neg (by rw [h0]; decide)]
      refine .inr ⟨_, f, ?_, hdu, hF, hP.mono fun y hy => ?_⟩
      · rw [← h0]
      · rw [e]; exact List.mem_append_left _ hy
theorem runS_flush {g : Geo} {base : Cont} {D : Dev} {C : List (Int × Bytes)} (h : Up D g base C) (rest : List Stp) :
    (∃ D', runS D (.flush :: rest) = runS D' rest ∧ Up D' g (nowOf base C) [] ∧ (D.due = 0 → D'.due = 0)) ∨ (∃ D' f, runS D (.flush :: rest) = (D', 8) ∧ D.due ≠ 0 ∧ Fell D' g f ∧ Poss g.N base C f) := by
  simp only [runS]
  rcases flush_spec h with ⟨h0, hU, hdu⟩ | ⟨h0, hdu, f, hF, hP⟩
  · rw [if_pos h0]; exact .inl ⟨_, rfl, hU, hdu⟩
  · rw [if_neg (by rw [h0]; decide)]
    exact .inr ⟨_, f, by rw [← h0], hdu, hF, hP⟩
end Go.Proofs.Ytkhkebcflaokpaa
namespace Go.Proofs.Ytkhkebcflaokpaa
open Go Go.RowKit
set_option linter.all false

/-! ### Places -/
theorem mod_inj {i j L : Nat} (h1 : i ≤ j) (h2 : j < i + L) (h : i % L = j % L) : i = j := by
  have h3 : (j - i) % L = 0 := Nat.sub_mod_eq_zero_of_mod_eq h.symm
  rw [Nat.mod_eq_of_lt (by omega)] at h3
  omega
theorem place_inj {g : Geo} {i j : Nat} (h1 : i ≤ j) (h2 : j < i + g.L) (h : g.place i = g.place j) : i = j := by
  unfold Geo.place at h
  exact mod_inj h1 h2 (by omega)
theorem place_lt {g : Geo} (hg : g.Ok) (i : Nat) : i % g.L < g.L := Nat.mod_lt _ (by have := hg.hL; omega)
theorem place_on {g : Geo} (hg : g.Ok) (i : Nat) : 0 ≤ g.place i ∧ g.place i < (g.B : Int) := by
  have := place_lt hg i
  have := hg.hB
  unfold Geo.place; omega
theorem place_hd {g : Geo} (i a : Nat) (ha : a ≤ 1) : g.place i ≠ g.hd a := by unfold Geo.place Geo.hd; omega
theorem place_out {g : Geo} (hg : g.Ok) {i : Nat} {n : Int} (hn : g.out n) : g.place i ≠ n := by
  have := place_lt hg i
  unfold Geo.place; unfold Geo.out at hn; omega
theorem hd_out {g : Geo} {a : Nat} {n : Int} (ha : a ≤ 1) (hn : g.out n) : g.hd a ≠ n := by
  unfold Geo.hd; unfold Geo.out at hn; omega
theorem hd_on {g : Geo} (hg : g.Ok) (a : Nat) (ha : a ≤ 1) : 0 ≤ g.hd a ∧ g.hd a < (g.B : Int) := by
  have := hg.hB; have := hg.hL
  unfold Geo.hd; omega

/-! ### What stands in the ring -/
/-- The data of a transaction, in places one behind the other. -/
def dataW (g : Geo) : Nat → Tx → List (Int × Bytes)
  | _, [] => []
  | i, x :: r => (g.place i, laidB x.2) :: dataW g (i + 1) r
def laidAll (t : Tx) : Bytes := t.flatMap fun x => laidB x.2
def allB (g : Geo) (num : Nat) (t : Tx) : Bytes := descB num t g.size ++ laidAll t
def recT (g : Geo) (num : Nat) (t : Tx) : Bytes := recB num (allB g num t) g.size
theorem dataW_app (g : Geo) : ∀ (l : Tx) (i : Nat) (m : Tx), dataW g i (l ++ m) = dataW g i l ++ dataW g (i + l.length) m
  | [], i, m => by simp [dataW]
  | x :: r, i, m => by
    simp only [List.cons_append, dataW, List.length_cons]
    rw [dataW_app g r (i + 1) m, show i + 1 + r.length = i + (r.length + 1) by omega]
@[simp] theorem dataW_length (g : Geo) : ∀ (i : Nat) (l : Tx), (dataW g i l).length = l.length
  | _, [] => rfl
  | i, x :: r => by simp [dataW, dataW_length g (i + 1) r]
theorem dataW_mem {g : Geo} : ∀ {i : Nat} {l : Tx} {y : Int × Bytes}, y ∈ dataW g i l → ∃ j x, j < l.length ∧ x ∈ l ∧ y = (g.place (i + j), laidB x.2)
  | _, [], y, h => by simp [dataW] at h
  | i, x :: r, y, h => by
    simp only [dataW, List.mem_cons] at h
    rcases h with rfl | h
    · exact ⟨0, x, by simp, by simp, rfl⟩
    · obtain ⟨j, z, hj, hz, e⟩ := dataW_mem h
      exact ⟨j + 1, z, by simp; omega, by simp [hz], by rw [e]; congr 2; omega⟩
/-- What the ring has once they are written. -/
theorem dataW_at {g : Geo} (base : Cont) : ∀ (l : Tx) (i j : Nat) (x : Int × Bytes), l.length ≤ g.L → l[j]? = some x → nowOf base (dataW g i l) (g.place (i + j)) = laidB x.2
  | [], i, j, x, _, h => by simp at h
  | y :: r, i, 0, x, hl, h => by
    simp at h; subst h
    simp only [dataW]
    rw [show ((g.place i, laidB y.2) :: dataW g (i + 1) r) = [(g.place i, laidB y.2)] ++ dataW g (i + 1) r from rfl, nowOf_app, nowOf_same]
    · exact nowOf_one
    · intro z hz e
      obtain ⟨k, u, hk, -, rfl⟩ := dataW_mem hz
      simp at hl
      have := place_inj (g := g) (i := i + 0) (j := i + 1 + k) (by omega) (by omega) e.symm
      omega
  | y :: r, i, j + 1, x, hl, h => by
    simp at h hl
    simp only [dataW]
    rw [show ((g.place i, laidB y.2) :: dataW g (i + 1) r) = [(g.place i, laidB y.2)] ++ dataW g (i + 1) r from rfl, nowOf_app]
    have := dataW_at (g := g) (nowOf base [(g.place i, laidB y.2)]) r (i + 1) j x (by omega) h
    rw [show i + (j + 1) = i + 1 + j by omega]
    exact this

/-- A transaction stands at a place. -/
structure TxAt (g : Geo) (f : Cont) (i num : Nat) (t : Tx) : Prop where
  desc : f (g.place i) = descB num t g.size
  data : ∀ (j : Nat) (x : Int × Bytes), t[j]? = some x → f (g.place (i + 1 + j)) = laidB x.2
  rcd : sub (f (g.place (i + 1 + t.length))) 0 512 = sub (recT g num t) 0 512
def TxsAt (g : Geo) (f : Cont) : Nat → Nat → List Tx → Prop
  | _, _, [] => True
  | i, num, t :: r => TxAt g f i num t ∧ TxsAt g f (i + t.length + 2) (num + 1) r
def room : List Tx → Nat
  | [] => 0
  | t :: r => t.length + 2 + room r
theorem room_app : ∀ (a b : List Tx), room (a ++ b) = room a + room b
  | [], b => by simp [room]
  | t :: r, b => by simp only [List.cons_append, room, room_app r b]; omega
theorem len_room : ∀ (a : List Tx), 2 * a.length ≤ room a
  | [] => by simp [room]
  | t :: r => by have := len_room r; simp only [room, List.length_cons]; omega
theorem txsAt_app (g : Geo) (f : Cont) : ∀ (a : List Tx) (i num : Nat) (b : List Tx), TxsAt g f i num (a ++ b) ↔ TxsAt g f i num a ∧ TxsAt g f (i + room a) (num + a.length) b
  | [], i, num, b => by simp [TxsAt, room]
  | t :: r, i, num, b => by
    simp only [List.cons_append, TxsAt, room, List.length_cons]
    rw [txsAt_app g f r, and_assoc, show i + t.length + 2 + room r = i + (t.length + 2 + room r) by omega, show num + 1 + r.length = num + (r.length + 1) by omega]
theorem TxAt.move {g : Geo} {f f' : Cont} {i num : Nat} {t : Tx} (h : TxAt g f i num t) (he : ∀ k, k < t.length + 2 → f' (g.place (i + k)) = f (g.place (i + k))) : TxAt g f' i num t := by
  refine ⟨?_, fun j x hx => ?_, ?_⟩
  · rw [← h.desc]; exact he 0 (by omega)
  · have hj : j < t.length := by
      rcases Nat.lt_or_ge j t.length with h' | h'
      · exact h'
      · rw [List.getElem?_eq_none h'] at hx; cases hx
    rw [← h.data j x hx, show i + 1 + j = i + (1 + j) by omega]; exact he (1 + j) (by omega)
  · rw [← h.rcd, show i + 1 + t.length = i + (1 + t.length) by omega, he (1 + t.length) (by omega)]
theorem TxsAt.move {g : Geo} {f f' : Cont} : ∀ {T : List Tx} {i num : Nat}, TxsAt g f i num T → (∀ k, k < room T → f' (g.place (i + k)) = f (g.place (i + k))) → TxsAt g f' i num T
  | [], _, _, _, _ => trivial
  | t :: r, i, num, h, he => by
    simp only [room] at he
    refine ⟨h.1.move fun k hk => he k (by omega), h.2.move fun k hk => ?_⟩
    have := he (t.length + 2 + k) (by omega)
    rw [show i + t.length + 2 + k = i + (t.length + 2 + k) by omega]; exact this

/-- No record in the ring has a number from M on. -/
def NoRec (g : Geo) (f : Cont) (M : Nat) : Prop := ∀ i m, m < 18446744073709551616 → sub (f (g.place i)) 0 12 = rcB ++ fixB m 8 → m < M
/-- A region in order: its head, and which head block that is; the transactions in the ring. -/
structure Good (g : Geo) (f : Cont) (h : Hd) (a : Nat) (T : List Tx) : Prop where
  ha : a ≤ 1
  hok : h.Ok
  head : f (g.hd a) = h.block g.size
  other : f (g.hd (1 - a)) = zeros g.size ∨ ∃ h' : Hd, h'.Ok ∧ h'.own < h.own ∧ f (g.hd (1 - a)) = h'.block g.size
  tail : h.tail < g.L
  txs : TxsAt g f h.tail h.number T
  room : room T ≤ g.L
  norec : NoRec g f (h.number + T.length)
  ok : ∀ t ∈ T, TxOk g t ∧ t ≠ []
  len : ∀ n, (f n).length = g.size

/-- Writes of transactions. -/
def domT (T : List Tx) (n : Int) : Prop := ∃ x ∈ T.flatten, x.1 = n
theorem Good.move {g : Geo} {f f' : Cont} {h : Hd} {a : Nat} {T : List Tx} (G : Good g f h a T) (h1 : ∀ a, a ≤ 1 → f' (g.hd a) = f (g.hd a)) (h2 : ∀ k, k < Proofs.Ytkhkebcflaokpaa.room T → f' (g.place (h.tail + k)) = f (g.place (h.tail + k)))
    (h3 : NoRec g f' (h.number + T.length)) (h4 : ∀ n, (f' n).length = g.size) : Good g f' h a T := by
  have ha := G.ha
  refine ⟨G.ha, G.hok, by rw [h1 a ha]; exact G.head, by rw [h1 (1 - a) (by omega)]; exact G.other, G.tail, G.txs.move h2, G.room, h3, G.ok, h4⟩
theorem Good.outs {g : Geo} {f : Cont} {h : Hd} {a : Nat} {T : List Tx} (G : Good g f h a T) : ∀ x ∈ T.flatten, g.out x.1 ∧ x.2.length = g.size := fun x hx => by
  obtain ⟨t, ht, hx⟩ := List.mem_flatten.1 hx
  exact (G.ok t ht).1.out x hx

/-- The region is in order, and the blocks outside are, when all is done again, as was says; what is written and not safe will be done again. -/
structure Safe (g : Geo) (base : Cont) (C : List (Int × Bytes)) (h : Hd) (a : Nat) (T : List Tx) (was : Cont) : Prop where
  good : Good g base h a T
  dom : ∀ x ∈ C, domT T x.1
  was : ∀ n, g.out n → nowOf base T.flatten n = was n
/-- A disk of which opening makes was. -/
def Dsk (g : Geo) (f : Cont) (K : Nat) (was : Cont) : Prop := ∃ h a T, Good g f h a T ∧ h.own ≤ K ∧ h.number + T.length ≤ K ∧ ∀ n, g.out n → nowOf f T.flatten n = was n
theorem Dsk.mono {g : Geo} {f : Cont} {K K' : Nat} {was : Cont} (h : Dsk g f K was) (hk : K ≤ K') : Dsk g f K' was := by
  obtain ⟨h, a, T, G, h1, h2, h3⟩ := h
  exact ⟨h, a, T, G, by omega, by omega, h3⟩
theorem domT_out {g : Geo} {f : Cont} {h : Hd} {a : Nat} {T : List Tx} (G : Good g f h a T) {n : Int} (hn : domT T n) : g.out n := by
  obtain ⟨x, hx, e⟩ := hn
  rw [← e]; exact (G.outs x hx).1
/-- A crash where only writes that will be done again are not safe. -/
theorem Safe.crash {g : Geo} (hg : g.Ok) {base f : Cont} {C : List (Int × Bytes)} {h : Hd} {a : Nat} {T : List Tx} {was : Cont} (S : Safe g base C h a T was) (hP : Poss g.N base C f) : Good g f h a T ∧ ∀ n, g.out n → nowOf f T.flatten n = was n := by
  have hs : ∀ n, ¬ domT T n → f n = base n := fun n hn => hP.same (S.good.len n) fun x hx e => hn (by rw [← e]; exact S.dom x hx)
  have hp : ∀ i, f (g.place i) = base (g.place i) := fun i => hs _ fun hd => place_out hg (domT_out S.good hd) rfl
  have hh : ∀ a, a ≤ 1 → f (g.hd a) = base (g.hd a) := fun a ha => hs _ fun hd => hd_out ha (domT_out S.good hd) rfl
  refine ⟨S.good.move hh (fun k _ => hp _) (fun i m hm hi => S.good.norec i m hm (by rw [hp] at hi; exact hi)) hP.len, fun n hn => ?_⟩
  rw [← S.was n hn]
  refine nowOf_over ?_
  by_cases hd : domT T n
  · exact .inl hd
  · exact .inr (hs n hd)
theorem Safe.dsk {g : Geo} (hg : g.Ok) {base f : Cont} {C : List (Int × Bytes)} {h : Hd} {a : Nat} {T : List Tx} {was : Cont} (S : Safe g base C h a T was) (hP : Poss g.N base C f) {K : Nat} (h1 : h.own ≤ K) (h2 : h.number + T.length ≤ K) : Dsk g f K was := by
  obtain ⟨G, hw⟩ := S.crash hg hP
  exact ⟨h, a, T, G, h1, h2, hw⟩

theorem sub_sec0 (s : Bytes) (n : Nat) (hn : n ≤ 512) : sub (sec s 0) 0 n = sub s 0 n := by
  have : sec s 0 = sub s 0 512 := by simp [sec, sub]
  rw [this, sub_sub (by omega)]
/-- The front of a block that a crash left is the front of what was there, or of what was written there. -/
theorem Poss.front {g : Geo} (hg : g.Ok) {base f : Cont} {C : List (Int × Bytes)} (hP : Poss g.N base C f) (n : Int) (m : Nat) (hm : m ≤ 512) : sub (f n) 0 m = sub (base n) 0 m ∨ ∃ x ∈ C, x.1 = n ∧ sub (f n) 0 m = sub x.2 0 m := by
  rcases hP.sec n 0 hg.hN.1 with h | ⟨x, hx, e, h⟩
  · left
    have := congrArg (sub · 0 m) h
    simp only [sub_sec0 _ _ hm] at this
    exact this
  · right
    have := congrArg (sub · 0 m) h
    simp only [sub_sec0 _ _ hm] at this
    exact ⟨x, hx, e, this⟩
theorem front12 {s : Bytes} {m : Nat} (h : sub s 0 12 = rcB ++ fixB m 8) : sub s 0 4 = rcB := by
  have : sub (sub s 0 12) 0 4 = sub (rcB ++ fixB m 8) 0 4 := by rw [h]
  rw [sub_sub (by omega), sub_left (by simp [rcB])] at this
  rw [this]; exact sub_all (by simp [rcB])

/-! ### A transaction is written to the ring -/
section
variable {g : Geo} {base : Cont} {C : List (Int × Bytes)} {h : Hd} {a : Nat} {T : List Tx} {was : Cont} {t : Tx}

/-- The descriptor and the data. -/
def ringW (g : Geo) (i num : Nat) (t : Tx) : List (Int × Bytes) := (g.place i, descB num t g.size) :: dataW g (i + 1) t
theorem ringW_mem {i num : Nat} {y : Int × Bytes} (hy : y ∈ ringW g i num t) : ∃ k, k < t.length + 1 ∧ y.1 = g.place (i + k) ∧ sub y.2 0 4 ≠ rcB := by
  simp only [ringW, List.mem_cons] at hy
  rcases hy with rfl | hy
  · exact ⟨0, by omega, rfl, desc_first _ _ _⟩
  · obtain ⟨j, x, hj, -, rfl⟩ := dataW_mem hy
    exact ⟨1 + j, by omega, by simp only []; congr 1; omega, laid_first _⟩
theorem most_le (hg : g.Ok) (ht : TxOk g t) : t.length + 2 ≤ g.L ∧ 20 + 4 * t.length ≤ g.size := by
  have := ht.most
  have := hg.hL
  have := hg.hN
  unfold Geo.most mostN at *
  unfold Geo.size at *
  omega
theorem ringW_ok (hg : g.Ok) (ht : TxOk g t) {i num : Nat} : ∀ y ∈ ringW g i num t, (0 ≤ y.1 ∧ y.1 < (g.B : Int)) ∧ y.2.length = g.size := by
  obtain ⟨-, h2⟩ := most_le hg ht
  intro y hy
  simp only [ringW, List.mem_cons] at hy
  rcases hy with rfl | hy
  · exact ⟨place_on hg _, descB_length h2⟩
  · obtain ⟨j, x, hj, hx, rfl⟩ := dataW_mem hy
    exact ⟨place_on hg _, by simp only []; rw [laidB_length]; exact (ht.out x hx).2⟩
/-- The blocks of the ring that a transaction is written to are none of those that are in use. -/
theorem free_ne {k k' : Nat} (hr : room T + t.length + 2 ≤ g.L) (hk : k < t.length + 2) (hk' : k' < room T) : g.place (h.tail + k') ≠ g.place (h.tail + room T + k) := fun e => by
  have := place_inj (g := g) (i := h.tail + k') (j := h.tail + room T + k) (by omega) (by omega) e
  omega

theorem Safe.ring (hg : g.Ok) (S : Safe g base C h a T was) (hr : room T + t.length + 2 ≤ g.L) (num : Nat) {f : Cont} (hP : Poss g.N base (C ++ ringW g (h.tail + room T) num t) f) : Good g f h a T ∧ ∀ n, g.out n → nowOf f T.flatten n = was n := by
  have hs : ∀ n, ¬ domT T n → (∀ k, k < t.length + 1 → g.place (h.tail + room T + k) ≠ n) → f n = base n := fun n hn hk => hP.same (S.good.len n) fun x hx e => by
    rcases List.mem_append.1 hx with hx | hx
    · exact hn (by rw [← e]; exact S.dom x hx)
    · obtain ⟨k, hk', e', -⟩ := ringW_mem hx
      exact hk k hk' (by rw [← e', e])
  have hh : ∀ a, a ≤ 1 → f (g.hd a) = base (g.hd a) := fun a ha => hs _ (fun hd => hd_out ha (domT_out S.good hd) rfl) fun k _ => place_hd _ a ha
  have hpl : ∀ i, ¬ domT T (g.place i) := fun i hd => place_out hg (domT_out S.good hd) rfl
  refine ⟨S.good.move hh (fun k hk => hs _ (hpl _) fun k' hk' e => free_ne (h := h) (t := t) hr (by omega) hk e.symm) (fun i m hm hi => ?_) hP.len, fun n hn => ?_⟩
  · rcases hP.front hg (g.place i) 12 (by decide) with e | ⟨x, hx, e, e2⟩
    · exact S.good.norec i m hm (by rw [← e]; exact hi)
    · rcases List.mem_append.1 hx with hx | hx
      · exact absurd (S.dom x hx) (by rw [e]; exact hpl i)
      · obtain ⟨k, -, -, hne⟩ := ringW_mem hx
        exact absurd (front12 (by rw [← e2]; exact hi)) hne
  · rw [← S.was n hn]
    refine nowOf_over ?_
    by_cases hd : domT T n
    · exact .inl hd
    · exact .inr (hs n hd fun k _ => place_out hg hn)

/-- Behind the flush: what stands there. -/
structure Laid (g : Geo) (base : Cont) (h : Hd) (a : Nat) (T : List Tx) (was : Cont) (t : Tx) : Prop where
  good : Good g base h a T
  was : ∀ n, g.out n → base n = was n ∧ nowOf base T.flatten n = was n
  desc : base (g.place (h.tail + room T)) = descB (h.number + T.length) t g.size
  data : ∀ (j : Nat) (x : Int × Bytes), t[j]? = some x → base (g.place (h.tail + room T + 1 + j)) = laidB x.2
theorem nowOf_poss {N : Nat} {base : Cont} {C : List (Int × Bytes)} (hl : ∀ n, (base n).length = 512 * N) (hC : ∀ x ∈ C, x.2.length = 512 * N) : Poss N base C (nowOf base C) :=
  ⟨nowOf_len hl hC, fun n k _ => by
    by_cases h : ∃ x ∈ C, x.1 = n
    · obtain ⟨x, hx, e, e2⟩ := lastW_some h
      exact .inr ⟨x, hx, e, by simp [nowOf, e2]⟩
    · exact .inl (by rw [nowOf_same fun x hx e => h ⟨x, hx, e⟩])⟩
theorem Safe.laid (hg : g.Ok) (S : Safe g base C h a T was) (hn : ∀ n, g.out n → nowOf base C n = was n) (hC : ∀ x ∈ C, x.2.length = g.size) (ht : TxOk g t) (hr : room T + t.length + 2 ≤ g.L) :
    Laid g (nowOf base (C ++ ringW g (h.tail + room T) (h.number + T.length) t)) h a T was t := by
  have hw := ringW_ok hg ht (i := h.tail + room T) (num := h.number + T.length)
  have hP := nowOf_poss (N := g.N) (C := C ++ ringW g (h.tail + room T) (h.number + T.length) t) S.good.len (fun x hx => (List.mem_append.1 hx).elim (hC x) fun h => (hw x h).2)
  obtain ⟨G, hw2⟩ := S.ring hg hr _ hP
  refine ⟨G, fun n ho => ⟨?_, hw2 n ho⟩, ?_, fun j x hx => ?_⟩
  · rw [nowOf_app, nowOf_same]
    · exact hn n ho
    · intro x hx e
      obtain ⟨k, -, e', -⟩ := ringW_mem hx
      exact place_out hg ho (by rw [← e', e])
  · rw [nowOf_app]
    simp only [ringW]
    rw [show (g.place (h.tail + room T), descB (h.number + T.length) t g.size) :: dataW g (h.tail + room T + 1) t = [(g.place (h.tail + room T), descB (h.number + T.length) t g.size)] ++ dataW g (h.tail + room T + 1) t from rfl, nowOf_app, nowOf_same]
    · exact nowOf_one
    · intro x hx e
      obtain ⟨j, y, hj, -, rfl⟩ := dataW_mem hx
      have := place_inj (g := g) (i := h.tail + room T) (j := h.tail + room T + 1 + j) (by omega) (by omega) e.symm
      omega
  · rw [nowOf_app]
    simp only [ringW]
    rw [show (g.place (h.tail + room T), descB (h.number + T.length) t g.size) :: dataW g (h.tail + room T + 1) t = [(g.place (h.tail + room T), descB (h.number + T.length) t g.size)] ++ dataW g (h.tail + room T + 1) t from rfl, nowOf_app]
    exact dataW_at _ t _ j x (by omega) hx

theorem flatten_snoc (T : List Tx) (t : Tx) : (T ++ [t]).flatten = T.flatten ++ t := by simp
/-- The record: it is there, and then the transaction is; or it is not. -/
theorem Laid.rcd (hg : g.Ok) (S : Laid g base h a T was t) (ht : TxOk g t) (hne : t ≠ []) (hr : room T + t.length + 2 ≤ g.L) (hnum : h.number + T.length < 18446744073709551616) {f : Cont} (hP : Poss g.N base [(g.place (h.tail + room T + 1 + t.length), recT g (h.number + T.length) t)] f) :
    (Good g f h a T ∨ Good g f h a (T ++ [t])) ∧ (∀ n, g.out n → f n = was n ∧ nowOf f T.flatten n = was n) := by
  have hs : ∀ n, g.place (h.tail + room T + 1 + t.length) ≠ n → f n = base n := fun n hn => hP.same (S.good.len n) fun x hx e => by
    simp at hx; subst hx; exact hn e
  have hh : ∀ a, a ≤ 1 → f (g.hd a) = base (g.hd a) := fun a ha => hs _ (place_hd _ a ha)
  have hT : ∀ k, k < room T → f (g.place (h.tail + k)) = base (g.place (h.tail + k)) := fun k hk => hs _ fun e => free_ne (h := h) (t := t) (k := 1 + t.length) hr (by omega) hk (by rw [← e]; congr 1; omega)
  have hO : ∀ n, g.out n → f n = was n ∧ nowOf f T.flatten n = was n := fun n hn => by
    have e := hs n (place_out hg hn)
    exact ⟨by rw [e]; exact (S.was n hn).1, by rw [← (S.was n hn).2]; exact nowOf_over (.inr e)⟩
  refine ⟨?_, hO⟩
  rcases hP.sec (g.place (h.tail + room T + 1 + t.length)) 0 hg.hN.1 with e | ⟨x, hx, -, e⟩
  · left
    refine S.good.move hh hT (fun i m hm hi => S.good.norec i m hm ?_) hP.len
    by_cases hi' : g.place (h.tail + room T + 1 + t.length) = g.place i
    · have := congrArg (sub · 0 12) e
      simp only [sub_sec0 _ 12 (by decide)] at this
      rw [← hi', ← this, hi']; exact hi
    · rw [← hs _ hi']; exact hi
  · right
    simp at hx; subst hx
    simp only at e
    have hsz : 16 ≤ g.size := by have := hg.hN; unfold Geo.size; omega
    have ha := S.good.ha
    refine ⟨S.good.ha, S.good.hok, by rw [hh a ha]; exact S.good.head, by rw [hh (1 - a) (by omega)]; exact S.good.other, S.good.tail, ?_, ?_, ?_, ?_, hP.len⟩
    · rw [txsAt_app]
      refine ⟨S.good.txs.move hT, ⟨?_, fun j x hx => ?_, ?_⟩, trivial⟩
      · rw [← S.desc]
        exact hs _ fun e => by
          have := place_inj (g := g) (i := h.tail + room T) (j := h.tail + room T + 1 + t.length) (by omega) (by omega) e.symm
          omega
      · have hj : j < t.length := by
          rcases Nat.lt_or_ge j t.length with h' | h'
          · exact h'
          · rw [List.getElem?_eq_none h'] at hx; cases hx
        rw [← S.data j x hx]
        exact hs _ fun e => by
          have := place_inj (g := g) (i := h.tail + room T + 1 + j) (j := h.tail + room T + 1 + t.length) (by omega) (by omega) e.symm
          omega
      · have e2 : ∀ s : Bytes, sec s 0 = sub s 0 512 := fun s => by simp [sec, sub]
        rw [e2, e2] at e
        exact e
    · rw [room_app]; simp only [room]; omega
    · intro i m hm hi
      simp only [List.length_append, List.length_cons, List.length_nil]
      by_cases hi' : g.place (h.tail + room T + 1 + t.length) = g.place i
      · have := congrArg (sub · 0 12) e
        simp only [sub_sec0 _ 12 (by decide)] at this
        rw [hi', hi] at this
        unfold recT at this
        rw [rec_front] at this
        have := fixB_inj (List.append_cancel_left this) (by simpa using hm) (by simpa using hnum)
        omega
      · have := S.good.norec i m hm (by rw [← hs _ hi']; exact hi)
        omega
    · intro u hu
      rcases List.mem_append.1 hu with hu | hu
      · exact S.good.ok u hu
      · simp at hu; subst hu; exact ⟨ht, hne⟩
/-- Behind the second flush. -/
theorem Laid.done (hg : g.Ok) (S : Laid g base h a T was t) (ht : TxOk g t) (hne : t ≠ []) (hr : room T + t.length + 2 ≤ g.L) (hnum : h.number + T.length < 18446744073709551616) :
    Good g (nowOf base [(g.place (h.tail + room T + 1 + t.length), recT g (h.number + T.length) t)]) h a (T ++ [t]) ∧ (∀ n, g.out n → nowOf base [(g.place (h.tail + room T + 1 + t.length), recT g (h.number + T.length) t)] n = was n) := by
  have hsz : 16 ≤ g.size := by have := hg.hN; unfold Geo.size; omega
  have hl : (recT g (h.number + T.length) t).length = 512 * g.N := recB_length hsz
  have hP := nowOf_poss (N := g.N) (C := [(g.place (h.tail + room T + 1 + t.length), recT g (h.number + T.length) t)]) S.good.len (fun x hx => by simp at hx; subst hx; exact hl)
  obtain ⟨h1, h2⟩ := S.rcd hg ht hne hr hnum hP
  refine ⟨?_, fun n hn => (h2 n hn).1⟩
  rcases h1 with h1 | h1
  · exfalso
    have := h1.norec (h.tail + room T + 1 + t.length) (h.number + T.length) hnum (by rw [nowOf_one]; exact rec_front ..)
    omega
  · exact h1
/-- All is written where it shall be. -/
theorem Safe.home (hg : g.Ok) {base : Cont} (G : Good g base h a (T ++ [t])) (hw : ∀ n, g.out n → base n = was n) (hd : ∀ n, g.out n → nowOf base T.flatten n = was n) {C : List (Int × Bytes)} (hC : ∀ x ∈ C, x ∈ t) : Safe g base C h a (T ++ [t]) (nowOf was t) :=
  ⟨G, fun x hx => ⟨x, by rw [flatten_snoc]; exact List.mem_append_right _ (hC x hx), rfl⟩, fun n hn => by
    rw [flatten_snoc, nowOf_app]
    exact nowOf_over (.inr (hd n hn))⟩
end

/-! ### The other head -/
section
variable {g : Geo} {base : Cont} {C : List (Int × Bytes)} {h : Hd} {a : Nat} {T : List Tx} {was : Cont}
theorem Safe.flushed (hg : g.Ok) (S : Safe g base C h a T was) (hC : ∀ x ∈ C, x.2.length = g.size) : Good g (nowOf base C) h a T ∧ ∀ n, g.out n → nowOf (nowOf base C) T.flatten n = was n :=
  S.crash hg (nowOf_poss S.good.len hC)
theorem sec_block (h : Hd) {N k : Nat} (hk : 0 < k) (hN : 1 ≤ N) : sec (h.block (512 * N)) k = sec (zeros (512 * N)) k := by
  have e : ∀ i, 28 ≤ i → (h.block (512 * N))[i]? = (zeros (512 * N))[i]? := fun i hi => by
    unfold Hd.block filB
    rw [List.getElem?_append_right (by simp; omega)]
    simp only [zeros, List.getElem?_replicate, sumB_length, Hd.body_length]
    by_cases h1 : i < 512 * N
    · rw [if_pos h1, if_pos (by omega)]
    · rw [if_neg h1, if_neg (by omega)]
  apply List.ext_getElem?
  intro j
  simp only [sec, List.getElem?_take, List.getElem?_drop]
  split
  · exact e _ (by omega)
  · rfl
theorem zeros_length (n : Nat) : (zeros n).length = n := by simp [zeros]
/-- A crash while a head block is written: it is as it was, or as it shall be. -/
theorem head_or (hg : g.Ok) {n : Int} (hb : base n = zeros g.size ∨ ∃ h' : Hd, base n = h'.block g.size) (h2 : Hd) {f : Cont} (hP : Poss g.N base [(n, h2.block g.size)] f) : f n = base n ∨ f n = h2.block g.size := by
  have hsz : 28 ≤ g.size := by have := hg.hN; unfold Geo.size; omega
  have hbl : (base n).length = 512 * g.N := by
    rcases hb with e | ⟨h', e⟩
    · rw [e]; exact zeros_length _
    · rw [e]; exact h'.block_length hsz
  have hz : ∀ k, 0 < k → sec (base n) k = sec (h2.block g.size) k := fun k hk => by
    have h0 := sec_block h2 hk hg.hN.1
    rw [show h2.block g.size = h2.block (512 * g.N) from rfl, h0]
    rcases hb with e | ⟨h', e⟩
    · rw [e]
    · rw [e]; exact sec_block h' hk hg.hN.1
  rcases hP.sec n 0 hg.hN.1 with e | ⟨x, hx, -, e⟩
  · left
    refine sec_ext (hP.len n) hbl fun k hk => ?_
    rcases Nat.eq_zero_or_pos k with rfl | hk0
    · exact e
    · rcases hP.sec n k hk with e' | ⟨x, hx, -, e'⟩
      · exact e'
      · simp at hx; subst hx; rw [e', hz k hk0]
  · right
    simp at hx; subst hx
    refine sec_ext (hP.len n) (h2.block_length hsz) fun k hk => ?_
    rcases Nat.eq_zero_or_pos k with rfl | hk0
    · exact e
    · rcases hP.sec n k hk with e' | ⟨x, hx, -, e'⟩
      · rw [e', hz k hk0]
      · simp at hx; subst hx; exact e'
def Hd.next (h : Hd) (g : Geo) (T : List Tx) : Hd := ⟨h.own + 1, (h.tail + room T) % g.L, h.number + T.length⟩
theorem turned (hg : g.Ok) (G : Good g base h a T) (hok : (h.next g T).Ok) {f : Cont} (hf : f (g.hd (1 - a)) = (h.next g T).block g.size) (hs : ∀ n, n ≠ g.hd (1 - a) → f n = base n) (hl : ∀ n, (f n).length = g.size) : Good g f (h.next g T) (1 - a) [] := by
  have ha := G.ha
  have hp : ∀ i, f (g.place i) = base (g.place i) := fun i => hs _ (place_hd _ _ (by omega))
  refine ⟨by omega, hok, hf, .inr ⟨h, G.hok, by show h.own < h.own + 1; omega, ?_⟩, Nat.mod_lt _ (by have := hg.hL; omega), trivial, Nat.zero_le _, fun i m hm hi => ?_, fun t ht => by simp at ht, hl⟩
  · rw [show 1 - (1 - a) = a by omega, hs _ (by unfold Geo.hd; omega)]; exact G.head
  · exact G.norec i m hm (by rw [hp] at hi; exact hi)
theorem turn_crash (hg : g.Ok) (G : Good g base h a T) (hw : ∀ n, g.out n → base n = was n ∧ nowOf base T.flatten n = was n) (hok : (h.next g T).Ok) {f : Cont} (hP : Poss g.N base [(g.hd (1 - a), (h.next g T).block g.size)] f) {K : Nat} (h1 : h.own + 1 ≤ K) (h2 : h.number + T.length ≤ K) : Dsk g f K was := by
  have ha := G.ha
  have hs : ∀ n, n ≠ g.hd (1 - a) → f n = base n := fun n hn => hP.same (G.len n) fun x hx e => by simp at hx; subst hx; exact hn e.symm
  rcases head_or hg (G.other.imp id fun ⟨h', _, _, e⟩ => ⟨h', e⟩) (h.next g T) hP with e | e
  · have hf : f = base := by
      funext n
      by_cases hn : n = g.hd (1 - a)
      · rw [hn]; exact e
      · exact hs n hn
    rw [hf]
    exact ⟨h, a, T, G, by omega, h2, fun n hn => (hw n hn).2⟩
  · refine ⟨_, _, [], turned hg G hok e hs hP.len, h1, by simpa [Hd.next] using h2, fun n hn => ?_⟩
    rw [List.flatten_nil, nowOf_nil, hs n (fun e => hd_out (by omega) hn e.symm)]
    exact (hw n hn).1
theorem turn_done (hg : g.Ok) (G : Good g base h a T) (hw : ∀ n, g.out n → base n = was n) (hok : (h.next g T).Ok) :
    Good g (nowOf base [(g.hd (1 - a), (h.next g T).block g.size)]) (h.next g T) (1 - a) [] ∧ ∀ n, g.out n → nowOf base [(g.hd (1 - a), (h.next g T).block g.size)] n = was n := by
  have ha := G.ha
  have hsz : 28 ≤ g.size := by have := hg.hN; unfold Geo.size; omega
  have hs : ∀ n, n ≠ g.hd (1 - a) → nowOf base [(g.hd (1 - a), (h.next g T).block g.size)] n = base n := fun n hn => nowOf_same fun x hx e => by simp at hx; subst hx; exact hn e.symm
  refine ⟨turned hg G hok nowOf_one hs (nowOf_len G.len fun x hx => by simp at hx; subst hx; exact (h.next g T).block_length hsz), fun n hn => ?_⟩
  rw [hs n (fun e => hd_out (by omega) hn e.symm)]; exact hw n hn
end
end Go.Proofs.Ytkhkebcflaokpaa
namespace Go.Proofs.Ytkhkebcflaokpaa
open Go Go.RowKit
set_option linter.all false

section
variable {g : Geo} {base : Cont} {C : List (Int × Bytes)} {h : Hd} {a : Nat} {T : List Tx} {was : Cont} {t : Tx} {D : Dev} {K : Nat}

/-- What a transaction does. -/
def commitS (g : Geo) (i num : Nat) (t : Tx) : List Stp := puts (ringW g i num t) ++ (.flush :: (puts [(g.place (i + 1 + t.length), recT g num t)] ++ (.flush :: (puts t ++ []))))
theorem runS_nil (D : Dev) : runS D [] = (D, 0) := rfl

theorem out_on {n : Int} (h : g.out n) : 0 ≤ n ∧ n < (g.B : Int) := ⟨h.1, h.2.1⟩
theorem runS_commit (hg : g.Ok) (U : Up D g base C) (S : Safe g base C h a T was) (hn : ∀ n, g.out n → nowOf base C n = was n) (ht : TxOk g t) (hne : t ≠ []) (hr : room T + t.length + 2 ≤ g.L) (hK : K < 18446744073709551616) (h1 : h.own ≤ K) (h2 : h.number + T.length + 1 ≤ K) :
    (∃ D' base', runS D (commitS g (h.tail + room T) (h.number + T.length) t) = (D', 0) ∧ Up D' g base' t ∧ Safe g base' t h a (T ++ [t]) (nowOf was t) ∧ (∀ n, g.out n → nowOf base' t n = nowOf was t n) ∧ (D.due = 0 → D'.due = 0)) ∨
    (∃ D' f, runS D (commitS g (h.tail + room T) (h.number + T.length) t) = (D', 8) ∧ D.due ≠ 0 ∧ Fell D' g f ∧ (Dsk g f K was ∨ Dsk g f K (nowOf was t))) := by
  have hsz : 16 ≤ g.size := by have := hg.hN; unfold Geo.size; omega
  have hnum : h.number + T.length < 18446744073709551616 := by omega
  unfold commitS
  rcases runS_puts (ringW g (h.tail + room T) (h.number + T.length) t) U (ringW_ok hg ht) (.flush :: (puts [(g.place (h.tail + room T + 1 + t.length), recT g (h.number + T.length) t)] ++ (.flush :: (puts t ++ [])))) with ⟨D1, e1, U1, d1⟩ | ⟨D1, f, e1, d1, F1, P1⟩
  · rw [e1]
    rcases runS_flush U1 (puts [(g.place (h.tail + room T + 1 + t.length), recT g (h.number + T.length) t)] ++ (.flush :: (puts t ++ []))) with ⟨D2, e2, U2, d2⟩ | ⟨D2, f, e2, d2, F2, P2⟩
    · rw [e2]
      have S2 := S.laid hg hn U.lenC ht hr
      rcases runS_puts [(g.place (h.tail + room T + 1 + t.length), recT g (h.number + T.length) t)] U2 (fun x hx => by simp at hx; subst hx; exact ⟨place_on hg _, recB_length hsz⟩) (.flush :: (puts t ++ [])) with ⟨D3, e3, U3, d3⟩ | ⟨D3, f, e3, d3, F3, P3⟩
      · rw [e3]
        rw [List.nil_append] at U3
        rcases runS_flush U3 (puts t ++ []) with ⟨D4, e4, U4, d4⟩ | ⟨D4, f, e4, d4, F4, P4⟩
        · rw [e4]
          obtain ⟨G4, w4⟩ := S2.done hg ht hne hr hnum
          have hd4 : ∀ n, g.out n → nowOf (nowOf (nowOf base (C ++ ringW g (h.tail + room T) (h.number + T.length) t)) [(g.place (h.tail + room T + 1 + t.length), recT g (h.number + T.length) t)]) T.flatten n = was n := fun n ho => by
            rw [← (S2.was n ho).2]
            refine nowOf_over (.inr (nowOf_same fun x hx e => ?_))
            simp at hx; subst hx; exact place_out hg ho e
          rcases runS_puts t U4 (fun x hx => ⟨out_on (ht.out x hx).1, (ht.out x hx).2⟩) [] with ⟨D5, e5, U5, d5⟩ | ⟨D5, f, e5, d5, F5, P5⟩
          · left
            rw [e5]
            rw [List.nil_append] at U5
            exact ⟨D5, _, rfl, U5, Safe.home hg G4 w4 hd4 (fun x hx => hx), fun n ho => nowOf_over (.inr (w4 n ho)), fun h => d5 (d4 (d3 (d2 (d1 h))))⟩
          · right
            rw [e5]
            rw [List.nil_append] at P5
            exact ⟨D5, f, rfl, fun h => d5 (d4 (d3 (d2 (d1 h)))), F5, .inr ((Safe.home hg G4 w4 hd4 (fun x hx => hx)).dsk hg P5 h1 (by simp; omega))⟩
        · right
          rw [e4]
          refine ⟨D4, f, rfl, fun h => d4 (d3 (d2 (d1 h))), F4, ?_⟩
          obtain ⟨hG, hw⟩ := S2.rcd hg ht hne hr hnum P4
          rcases hG with hG | hG
          · exact .inl ⟨h, a, T, hG, h1, by omega, fun n ho => (hw n ho).2⟩
          · exact .inr ⟨h, a, T ++ [t], hG, h1, by simp; omega, fun n ho => by
              rw [flatten_snoc, nowOf_app]
              exact nowOf_over (.inr (hw n ho).2)⟩
      · right
        rw [e3]
        rw [List.nil_append] at P3
        refine ⟨D3, f, rfl, fun h => d3 (d2 (d1 h)), F3, ?_⟩
        obtain ⟨hG, hw⟩ := S2.rcd hg ht hne hr hnum P3
        rcases hG with hG | hG
        · exact .inl ⟨h, a, T, hG, h1, by omega, fun n ho => (hw n ho).2⟩
        · exact .inr ⟨h, a, T ++ [t], hG, h1, by simp; omega, fun n ho => by
            rw [flatten_snoc, nowOf_app]
            exact nowOf_over (.inr (hw n ho).2)⟩
    · right
      rw [e2]
      obtain ⟨hG, hw⟩ := S.ring hg hr _ P2
      exact ⟨D2, f, rfl, fun h => d2 (d1 h), F2, .inl ⟨h, a, T, hG, h1, by omega, hw⟩⟩
  · right
    rw [e1]
    obtain ⟨hG, hw⟩ := S.ring hg hr _ P1
    exact ⟨D1, f, rfl, d1, F1, .inl ⟨h, a, T, hG, h1, by omega, hw⟩⟩

/-- The other head block is made the head. -/
def turnS (g : Geo) (h : Hd) (a : Nat) (T : List Tx) : List Stp := [.flush, .put (g.hd (1 - a)) ((h.next g T).block g.size), .flush]
theorem runS_turn (hg : g.Ok) (U : Up D g base C) (S : Safe g base C h a T was) (hn : ∀ n, g.out n → nowOf base C n = was n) (hok : (h.next g T).Ok) (h1 : h.own + 1 ≤ K) (h2 : h.number + T.length ≤ K) :
    (∃ D' base', runS D (turnS g h a T) = (D', 0) ∧ Up D' g base' [] ∧ Good g base' (h.next g T) (1 - a) [] ∧ (∀ n, g.out n → base' n = was n) ∧ (D.due = 0 → D'.due = 0)) ∨
    (∃ D' f, runS D (turnS g h a T) = (D', 8) ∧ D.due ≠ 0 ∧ Fell D' g f ∧ Dsk g f K was) := by
  have hsz : 28 ≤ g.size := by have := hg.hN; unfold Geo.size; omega
  have ha := S.good.ha
  unfold turnS
  rcases runS_flush U [.put (g.hd (1 - a)) ((h.next g T).block g.size), .flush] with ⟨D1, e1, U1, d1⟩ | ⟨D1, f, e1, d1, F1, P1⟩
  · rw [e1]
    obtain ⟨G1, w1⟩ := S.flushed hg U.lenC
    have hw : ∀ n, g.out n → nowOf base C n = was n ∧ nowOf (nowOf base C) T.flatten n = was n := fun n ho => ⟨hn n ho, w1 n ho⟩
    rcases runS_puts [(g.hd (1 - a), (h.next g T).block g.size)] U1 (fun x hx => by simp at hx; subst hx; exact ⟨hd_on hg _ (by omega), (h.next g T).block_length hsz⟩) [.flush] with ⟨D2, e2, U2, d2⟩ | ⟨D2, f, e2, d2, F2, P2⟩
    · rw [puts_cons, puts_nil, List.cons_append, List.nil_append] at e2
      rw [e2]
      rw [List.nil_append] at U2
      rcases runS_flush U2 [] with ⟨D3, e3, U3, d3⟩ | ⟨D3, f, e3, d3, F3, P3⟩
      · left
        rw [e3]
        obtain ⟨G3, w3⟩ := turn_done hg G1 hn hok
        exact ⟨D3, _, rfl, U3, G3, w3, fun h => d3 (d2 (d1 h))⟩
      · right
        rw [e3]
        exact ⟨D3, f, rfl, fun h => d3 (d2 (d1 h)), F3, turn_crash hg G1 hw hok P3 h1 h2⟩
    · rw [puts_cons, puts_nil, List.cons_append, List.nil_append] at e2
      rw [e2]
      rw [List.nil_append] at P2
      right
      exact ⟨D2, f, rfl, fun h => d2 (d1 h), F2, turn_crash hg G1 hw hok P2 h1 h2⟩
  · right
    rw [e1]
    exact ⟨D1, f, rfl, d1, F1, S.dsk hg P1 (by omega) h2⟩

/-! ### A region formatted anew -/
def blankW (g : Geo) : Nat → List (Int × Bytes)
  | 0 => []
  | n + 1 => blankW g n ++ [(((g.s + n : Nat) : Int), zeros g.size)]
def hd0 : Hd := ⟨1, 0, 1⟩
def formatS (g : Geo) : List Stp := puts (blankW g (g.L + 2)) ++ (.flush :: (puts [(g.hd 0, hd0.block g.size)] ++ [.flush]))
theorem blankW_mem {n : Nat} {x : Int × Bytes} : x ∈ blankW g n ↔ ∃ i, i < n ∧ x = (((g.s + i : Nat) : Int), zeros g.size) := by
  induction n with
  | zero => simp [blankW]
  | succ n ih =>
    simp only [blankW, List.mem_append, ih, List.mem_singleton]
    constructor
    · rintro (⟨i, hi, e⟩ | e)
      · exact ⟨i, by omega, e⟩
      · exact ⟨n, by omega, e⟩
    · rintro ⟨i, hi, e⟩
      by_cases h : i = n
      · subst h; exact .inr e
      · exact .inl ⟨i, by omega, e⟩
theorem blank_now (base : Cont) {n i : Nat} (hi : i < n) : nowOf base (blankW g n) ((g.s + i : Nat) : Int) = zeros g.size := by
  obtain ⟨x, hx, -, e⟩ := lastW_some (C := blankW g n) (n := ((g.s + i : Nat) : Int)) ⟨_, blankW_mem.2 ⟨i, hi, rfl⟩, rfl⟩
  obtain ⟨j, -, rfl⟩ := blankW_mem.1 hx
  unfold nowOf
  rw [e]; rfl
theorem runS_format (hg : g.Ok) (U : Up D g base []) :
    (∃ D' base', runS D (formatS g) = (D', 0) ∧ Up D' g base' [] ∧ Good g base' hd0 0 [] ∧ (∀ n, g.out n → base' n = base n) ∧ (D.due = 0 → D'.due = 0)) ∨
    (∃ D' f, runS D (formatS g) = (D', 8) ∧ D.due ≠ 0 ∧ Fell D' g f ∧ ∀ n, g.out n → f n = base n) := by
  have hsz : 28 ≤ g.size := by have := hg.hN; unfold Geo.size; omega
  have hB := hg.hB
  have hL := hg.hL
  have hout : ∀ n, g.out n → ∀ x ∈ blankW g (g.L + 2), x.1 ≠ n := fun n hn x hx e => by
    obtain ⟨i, hi, rfl⟩ := blankW_mem.1 hx
    unfold Geo.out at hn
    simp only at e
    omega
  have hhd : ∀ n, g.out n → ∀ x ∈ [(g.hd 0, hd0.block g.size)], x.1 ≠ n := fun n hn x hx e => by
    simp at hx; subst hx; exact hd_out (by omega) hn e
  unfold formatS
  rcases runS_puts (blankW g (g.L + 2)) U (fun x hx => by
      obtain ⟨i, hi, rfl⟩ := blankW_mem.1 hx
      exact ⟨by simp only; omega, zeros_length _⟩) (.flush :: (puts [(g.hd 0, hd0.block g.size)] ++ [.flush])) with ⟨D1, e1, U1, d1⟩ | ⟨D1, f, e1, d1, F1, P1⟩
  · rw [e1]
    rw [List.nil_append] at U1
    rcases runS_flush U1 (puts [(g.hd 0, hd0.block g.size)] ++ [.flush]) with ⟨D2, e2, U2, d2⟩ | ⟨D2, f, e2, d2, F2, P2⟩
    · rw [e2]
      rcases runS_puts [(g.hd 0, hd0.block g.size)] U2 (fun x hx => by simp at hx; subst hx; exact ⟨hd_on hg _ (by omega), hd0.block_length hsz⟩) [.flush] with ⟨D3, e3, U3, d3⟩ | ⟨D3, f, e3, d3, F3, P3⟩
      · rw [e3]
        rw [List.nil_append] at U3
        rcases runS_flush U3 [] with ⟨D4, e4, U4, d4⟩ | ⟨D4, f, e4, d4, F4, P4⟩
        · left
          rw [e4]
          have hp : ∀ i, nowOf (nowOf base (blankW g (g.L + 2))) [(g.hd 0, hd0.block g.size)] (g.place i) = zeros g.size := fun i => by
            rw [nowOf_same fun x hx e => by simp at hx; subst hx; exact place_hd i 0 (by omega) e.symm]
            have := place_lt hg i
            have e : g.place i = ((g.s + (2 + i % g.L) : Nat) : Int) := by unfold Geo.place; omega
            rw [e]; exact blank_now base (by omega)
          refine ⟨D4, _, rfl, U4, ⟨by omega, ⟨by decide, by decide, by decide⟩, nowOf_one, .inl ?_, by show 0 < g.L; omega, trivial, Nat.zero_le _, fun i m hm hi => ?_, fun t ht => by simp at ht, U4.len⟩, fun n hn => ?_, fun h => d4 (d3 (d2 (d1 h)))⟩
          · rw [nowOf_same fun x hx e => by simp at hx; subst hx; unfold Geo.hd at e; omega]
            exact blank_now base (by omega)
          · rw [hp] at hi
            exact absurd (front12 hi) (zeros_first _)
          · rw [nowOf_same (hhd n hn), nowOf_same (hout n hn)]
        · right
          rw [e4]
          refine ⟨D4, f, rfl, fun h => d4 (d3 (d2 (d1 h))), F4, fun n hn => ?_⟩
          rw [P4.same (U3.len n) (hhd n hn), nowOf_same (hout n hn)]
      · right
        rw [e3]
        rw [List.nil_append] at P3
        refine ⟨D3, f, rfl, fun h => d3 (d2 (d1 h)), F3, fun n hn => ?_⟩
        rw [P3.same (U2.len n) (hhd n hn), nowOf_same (hout n hn)]
    · right
      rw [e2]
      refine ⟨D2, f, rfl, fun h => d2 (d1 h), F2, fun n hn => ?_⟩
      exact P2.same (U1.len n) (hout n hn)
  · right
    rw [e1]
    rw [List.nil_append] at P1
    exact ⟨D1, f, rfl, d1, F1, fun n hn => P1.same (U.len n) (hout n hn)⟩
end
end Go.Proofs.Ytkhkebcflaokpaa
