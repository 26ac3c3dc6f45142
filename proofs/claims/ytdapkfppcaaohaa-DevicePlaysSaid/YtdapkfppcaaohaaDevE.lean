/- The device's functions walked: Write, Flush, Plan, Pull, Read. -/
import Derived.Test.YtdapkfppcaaohaaDevD
namespace Go.Proofs.Ytdapkfppcaaohaa
open Go Go.RowKit
set_option linter.all false
set_option maxRecDepth 100000

/-- What Write makes of the device. -/
def Dev.push (D : Dev) (n : Int) (s : Bytes) : Dev := { D with cache := D.cache ++ [(n, s)] }
def Dev.drop' (D : Dev) : Dev := D.fall D.keep D.torn D.mask
def Dev.write (D : Dev) (n : Int) (s : Bytes) : Dev × Int :=
  if D.down then (D, 8)
  else if D.has n = false ∨ s.length ≠ 512 * D.N then (D, 1)
  else if D.due = 1 then (((D.push n s).count).drop', 8) else ((D.push n s).count, 0)

/-- What Read makes of it, and answers. -/
def Dev.read (D : Dev) (n : Int) : Dev × Bytes × Int :=
  if D.down then (D, [], 8) else if D.has n = false then (D, [], 1) else ({ D with reads := D.reads + 1 }, D.now n, 0)

def Dev.plan (D : Dev) (at' : Int) (l : List Int) (tn : Int) (mk : UInt8) : Dev × Int :=
  if D.down then (D, 8) else if at' < 0 then (D, 1) else ({ D with due := at', keep := l, torn := tn, mask := mk }, 0)

/-- The device at p has turned into D'. -/
def DevR (w : World) (p m : Nat) (kp ca : Value) (D' : Dev) (w' : World) : Prop := ∃ kp' ca', DevM w' p m kp' ca' D' ∧ Upd (fpD p m kp ca) (fpD p m kp' ca') w w'
theorem DevR.same {w w' : World} {p m : Nat} {kp ca : Value} {D : Dev} (h : DevM w' p m kp ca D) (k : Ext w w') : DevR w p m kp ca D w' := ⟨kp, ca, h, k.upd⟩
theorem DevR.kept {w w' : World} {p m : Nat} {kp ca : Value} {D : Dev} (h : DevM w' p m kp ca D) (k : Kp (fun i => i = p) w w') : DevR w p m kp ca D w' :=
  ⟨kp, ca, h, k.mono' fun _ h => .inl h, fun _ h => .inl h⟩
theorem DevR.trans {w w1 w2 : World} {p m : Nat} {kp ca kp1 ca1 : Value} {D D' : Dev} (k : Upd (fpD p m kp ca) (fpD p m kp1 ca1) w w1) (h : DevR w1 p m kp1 ca1 D' w2) : DevR w p m kp ca D' w2 := by
  obtain ⟨kp2, ca2, h1, h2⟩ := h
  exact ⟨kp2, ca2, h1, k.trans h2⟩
theorem upd_fall {w w' : World} {p m : Nat} {kp ca : Value} (k : Kp (fun i => i = p ∨ i = m) w w') : Upd (fpD p m kp ca) (fpD p m (.slice none 0 0) (.slice none 0 0)) w w' :=
  ⟨k.mono' fun i hi => hi.elim .inl fun h => .inr (.inl h), fun i hi => by
    rcases hi with h | h | h | h
    · exact .inl (.inl h)
    · exact .inl (.inr (.inl h))
    · cases h
    · cases h⟩

section
variable {w : World} {p m : Nat} {kp ca : Value} {D : Dev}

theorem pull_ret (h : DevM w p m kp ca D) (cv : Value) (l : List Int) (tn : Int) (mk : UInt8) (hl : l.length ≤ 17592186044416) (hr : Rd w cv 1 l.length (l.map I)) (hc : D.Bd) :
    Ret Try.prog 25 [ptr p 0, .agg #[cv, I tn, u8v mk]] w fun v w' => v = I (if D.down then 8 else 0) ∧ DevR w p m kp ca (if D.down then D else D.fall l tn mk) w' := by
  obtain ⟨ac, capc, rfl, hac⟩ := hr.shape
  refine ret_of_run (e := [(0, _), (1, _)]) Try.func25 rfl Try.ntmps25 rfl rfl ?_
  refine run_seq ?_
  refine run_reg rfl ?_
  refine rValP rfl rfl (pbx rfl rfl) ?_
  rintro _ w1 ⟨b3, rfl, hb3, hx1, hB3⟩
  replace h := h.ext hx1
  replace hr := hr.ext hx1
  refine rVal rfl rfl (yas rfl) ?_
  refine rEnd ?_
  refine run_seq ?_
  refine run_seq ?_
  refine run_reg rfl ?_
  refine rVal rfl rfl (ymv rfl) ?_
  refine rCall rfl rfl (yc (args := [.tmp 6]) cf61 rfl) (ready_ret h) ?_
  rintro _ w2 ⟨rfl, rfl⟩
  cases hd : D.down with
  | true =>
    refine rVal rfl rfl (yas rfl) ?_
    refine rEnd ?_
    refine run_seq ?_
    refine run_reg rfl ?_
    refine rVal rfl rfl (ymv rfl) ?_
    refine rVal rfl rfl (yne rfl rfl) ?_
    refine rEnd ?_
    refine run_if rfl (fun hz => ?_) (fun hz => ?_)
    · skip
      refine run_seq ?_
      refine run_reg rfl ?_
      refine rVal rfl rfl (ymv rfl) ?_
      refine rVal rfl rfl (yas rfl) ?_
      refine rEnd ?_
      refine run_ret Try.func25 rfl ?_
      exact ⟨_, rfl, rfl, _, _, h, hx1.upd⟩
    · skip
      exact absurd (by decide) hz
  | false =>
    refine rVal rfl rfl (yas rfl) ?_
    refine rEnd ?_
    refine run_seq ?_
    refine run_reg rfl ?_
    refine rVal rfl rfl (ymv rfl) ?_
    refine rVal rfl rfl (yne rfl rfl) ?_
    refine rEnd ?_
    refine run_if rfl (fun hz => ?_) (fun hz => ?_)
    · skip
      exact absurd hz (by decide)
    · skip
      refine run_skip ?_
      refine run_seq ?_
      refine run_reg rfl ?_
      refine rVal rfl rfl (ymv rfl) ?_
      refine rVal rfl rfl (yldA Try.underlying51 rfl ti51 rfl (Blk.cells (n := 3) hB3 (news := [_, _, _]) rfl) rfl) ?_
      refine rCall rfl rfl (yc (args := [.tmp 11, .tmp 12]) cf62 rfl) (fall_ret h l tn mk hl hr (by have := hc.2.1; omega)) ?_
      rintro _ w3 ⟨rfl, h3, hk3⟩
      refine rEnd ?_
      refine run_seq ?_
      refine run_reg rfl ?_
      refine rVal rfl rfl (yas rfl) ?_
      refine rEnd ?_
      refine run_ret Try.func25 rfl ?_
      refine ⟨_, rfl, rfl, _, _, h3, hx1.kp.trans (hk3.mono' fun i hi => hi.elim .inl fun h => .inr (.inl h)), fun i hi => ?_⟩
      rcases hi with h | h | h | h
      · exact .inl (.inl h)
      · exact .inl (.inr (.inl h))
      · cases h
      · cases h

theorem read_ret (n : Int) (h : DevM w p m kp ca D) (hc : D.Bd) :
    Ret Try.prog 49 [ptr p 0, I n] w fun v w' => v = .tuple #[S (D.read n).2.1, I (D.read n).2.2] ∧ DevR w p m kp ca (D.read n).1 w' := by
  have hrd := h.ok.reads
  have hc3 := hc.2.2
  refine ret_of_run (e := [(0, _), (1, _)]) Try.func49 rfl Try.ntmps49 rfl rfl ?_
  refine run_seq ?_
  refine run_reg rfl ?_
  refine rVal rfl rfl (yas rfl) ?_
  refine rVal rfl rfl (yas rfl) ?_
  refine rEnd ?_
  refine run_seq ?_
  refine run_seq ?_
  refine run_reg rfl ?_
  refine rVal rfl rfl (ymv rfl) ?_
  refine rCall rfl rfl (yc (args := [.tmp 7]) cf61 rfl) (ready_ret h) ?_
  rintro _ w1 ⟨rfl, rfl⟩
  cases hd : D.down with
  | true =>
    refine rVal rfl rfl (yas rfl) ?_
    refine rEnd ?_
    refine run_seq ?_
    refine run_reg rfl ?_
    refine rVal rfl rfl (ymv rfl) ?_
    refine rVal rfl rfl (yne rfl rfl) ?_
    refine rEnd ?_
    refine run_if rfl (fun hz => ?_) (fun hz => ?_)
    · skip
      refine run_seq ?_
      refine run_reg rfl ?_
      refine rVal rfl rfl (ymv rfl) ?_
      refine rVal rfl rfl (yas rfl) ?_
      refine rVal rfl rfl (yas rfl) ?_
      refine rEnd ?_
      refine run_ret Try.func49 rfl ?_
      have e : D.read n = (D, [], 8) := by simp [Dev.read, hd]
      rw [e]
      exact ⟨_, rfl, rfl, DevR.same h (Ext.refl _)⟩
    · skip
      exact absurd (by decide) hz
  | false =>
    refine rVal rfl rfl (yas rfl) ?_
    refine rEnd ?_
    refine run_seq ?_
    refine run_reg rfl ?_
    refine rVal rfl rfl (ymv rfl) ?_
    refine rVal rfl rfl (yne rfl rfl) ?_
    refine rEnd ?_
    refine run_if rfl (fun hz => ?_) (fun hz => ?_)
    · skip
      exact absurd hz (by decide)
    · skip
      refine run_skip ?_
      refine run_seq ?_
      refine run_seq ?_
      refine run_reg rfl ?_
      refine rVal rfl rfl (ymv rfl) ?_
      refine rVal rfl rfl (ymv rfl) ?_
      refine rCall rfl rfl (yc (args := [.tmp 12, .tmp 13]) cf67 rfl) (has_ret n h) ?_
      rintro _ w2 ⟨rfl, rfl⟩
      cases hh : D.has n with
      | false =>
        refine rVal rfl rfl ((by first | exact yntd rfl | exact ynt rfl)) ?_
        refine rEnd ?_
        refine run_true rfl ?_
        refine run_seq ?_
        refine run_reg rfl ?_
        refine rVal rfl rfl (yas rfl) ?_
        refine rVal rfl rfl (yas rfl) ?_
        refine rEnd ?_
        refine run_ret Try.func49 rfl ?_
        have e : D.read n = (D, [], 1) := by simp [Dev.read, hd, hh]
        rw [e]
        exact ⟨_, rfl, rfl, DevR.same h (Ext.refl _)⟩
      | true =>
        refine rVal rfl rfl ((by first | exact yntd rfl | exact ynt rfl)) ?_
        refine rEnd ?_
        refine run_false rfl ?_
        have hM := h.blk
        refine run_skip ?_
        refine run_seq ?_
        refine run_reg rfl ?_
        refine rVal rfl rfl (ymv rfl) ?_
        refine rVal rfl rfl ((by first | exact ync rfl | exact yncf rfl)) ?_
        refine rVal rfl rfl (yfa fl108_6 rfl) ?_
        refine rVal rfl rfl (yld Try.underlying3 rfl rfl hM rfl) ?_
        refine rVal rfl rfl (yad rfl rfl (by omega)) ?_
        refine rVal rfl rfl ((by first | exact ync rfl | exact yncf rfl)) ?_
        refine rVal rfl rfl (yfa fl108_6 rfl) ?_
        refine rEffP rfl (zst ti3 rfl rfl rfl hM (by simp)) ?_
        rintro w3 ⟨hM3, hk3⟩
        have h3 := h.turn (D' := { D with reads := D.reads + 1 }) hM3 hk3 rfl rfl rfl rfl ⟨h.ok.hB, h.ok.hN, h.ok.due, h.ok.sf, h.ok.cache, h.ok.len, by show 0 ≤ D.reads + 1; omega⟩
        refine rEnd ?_
        refine run_seq ?_
        refine run_reg rfl ?_
        refine rVal rfl rfl (ymv rfl) ?_
        refine rVal rfl rfl (ymv rfl) ?_
        refine rCall rfl rfl (yc (args := [.tmp 23, .tmp 24]) cf63 rfl) (now_ret n h3 hc.2.1) ?_
        rintro _ w4 ⟨rfl, hx4⟩
        refine rVal rfl rfl (yas rfl) ?_
        refine rVal rfl rfl (yas rfl) ?_
        refine rEnd ?_
        refine run_ret Try.func49 rfl ?_
        have e : D.read n = ({ D with reads := D.reads + 1 }, D.now n, 0) := by simp [Dev.read, hd, hh]
        rw [e]
        exact ⟨_, rfl, rfl, kp, ca, h3.ext hx4, (hk3.mono' fun _ h => .inl h).trans hx4.kp, fun _ h => .inl h⟩

theorem write_ret (n : Int) (s : Bytes) (h : DevM w p m kp ca D) (hc : D.Bd) (hk : D.keep.length ≤ 17592186044416) :
    Ret Try.prog 37 [ptr p 0, I n, S s] w fun v w' => v = I (D.write n s).2 ∧ DevR w p m kp ca (D.write n s).1 w' := by
  have hml : maxLen = 9223372036854775807 := rfl
  obtain ⟨hc1, hc2, hc3⟩ := hc
  have hcal := h.ok.len
  refine ret_of_run (e := [(0, _), (1, _), (2, _)]) Try.func37 rfl Try.ntmps37 rfl rfl ?_
  refine run_seq ?_
  refine run_reg rfl ?_
  refine rVal rfl rfl (yas rfl) ?_
  refine rEnd ?_
  refine run_seq ?_
  refine run_seq ?_
  refine run_reg rfl ?_
  refine rVal rfl rfl (ymv rfl) ?_
  refine rCall rfl rfl (yc (args := [.tmp 8]) cf61 rfl) (ready_ret h) ?_
  rintro _ w1 ⟨rfl, rfl⟩
  cases hd : D.down with
  | true =>
    refine rVal rfl rfl (yas rfl) ?_
    refine rEnd ?_
    refine run_seq ?_
    refine run_reg rfl ?_
    refine rVal rfl rfl (ymv rfl) ?_
    refine rVal rfl rfl (yne rfl rfl) ?_
    refine rEnd ?_
    refine run_if rfl (fun hz => ?_) (fun hz => ?_)
    · skip
      refine run_seq ?_
      refine run_reg rfl ?_
      refine rVal rfl rfl (ymv rfl) ?_
      refine rVal rfl rfl (yas rfl) ?_
      refine rEnd ?_
      refine run_ret Try.func37 rfl ?_
      have e : D.write n s = (D, 8) := by simp [Dev.write, hd]
      rw [e]
      exact ⟨_, rfl, rfl, DevR.same h (Ext.refl _)⟩
    · skip
      exact absurd (by decide) hz
  | false =>
    refine rVal rfl rfl (yas rfl) ?_
    refine rEnd ?_
    refine run_seq ?_
    refine run_reg rfl ?_
    refine rVal rfl rfl (ymv rfl) ?_
    refine rVal rfl rfl (yne rfl rfl) ?_
    refine rEnd ?_
    refine run_if rfl (fun hz => ?_) (fun hz => ?_)
    · skip
      exact absurd hz (by decide)
    · skip
      refine run_skip ?_
      refine run_seq ?_
      refine run_seq ?_
      refine run_reg rfl ?_
      refine rVal rfl rfl (ymv rfl) ?_
      refine rVal rfl rfl (ymv rfl) ?_
      refine rCall rfl rfl (yc (args := [.tmp 13, .tmp 14]) cf67 rfl) (has_ret n h) ?_
      rintro _ w2 ⟨rfl, rfl⟩
      cases hh : D.has n with
      | false =>
        refine rVal rfl rfl ((by first | exact yntd rfl | exact ynt rfl)) ?_
        refine rVal rfl rfl (ymv rfl) ?_
        refine rSkip rfl rfl ?_
        refine rSkip rfl rfl ?_
        refine rSkip rfl rfl ?_
        refine rSkip rfl rfl ?_
        refine rSkip rfl rfl ?_
        refine rVal rfl rfl (ypT rfl rfl) ?_
        refine rEnd ?_
        refine run_true rfl ?_
        refine run_seq ?_
        refine run_reg rfl ?_
        refine rVal rfl rfl (yas rfl) ?_
        refine rEnd ?_
        refine run_ret Try.func37 rfl ?_
        have e : D.write n s = (D, 1) := by simp [Dev.write, hd, hh]
        rw [e]
        exact ⟨_, rfl, rfl, DevR.same h (Ext.refl _)⟩
      | true =>
        have hn : 0 ≤ n ∧ n < (D.B : Int) := by simpa [Dev.has] using hh
        refine rVal rfl rfl ((by first | exact yntd rfl | exact ynt rfl)) ?_
        refine rVal rfl rfl (ymv rfl) ?_
        refine rVal rfl rfl (ymv rfl) ?_
        refine rVal rfl rfl (ylnS Try.underlying9 rfl) ?_
        refine rVal rfl rfl (ymv rfl) ?_
        refine rCall rfl rfl (yc (args := [.tmp 20]) cf46 rfl) (size_ret h) ?_
        rintro _ w3 ⟨rfl, rfl⟩
        refine rVal rfl rfl (yne rfl rfl) ?_
        refine rVal rfl rfl (ypF rfl rfl) ?_
        refine rEnd ?_
        refine run_if rfl (fun hsz => ?_) (fun hsz => ?_)
        · skip
          refine run_seq ?_
          refine run_reg rfl ?_
          refine rVal rfl rfl (yas rfl) ?_
          refine rEnd ?_
          refine run_ret Try.func37 rfl ?_
          have e : D.write n s = (D, 1) := by
            have : s.length ≠ 512 * D.N := by omega
            simp [Dev.write, hd, hh, this]
          rw [e]
          exact ⟨_, rfl, rfl, DevR.same h (Ext.refl _)⟩
        · skip
          have hsl : s.length = 512 * D.N := by omega
          obtain ⟨a, cap, rfl, ha⟩ := h.cache.rd.shape
          have hM := h.blk
          refine run_skip ?_
          refine run_seq ?_
          refine run_reg rfl ?_
          refine rVal rfl rfl (ymv rfl) ?_
          refine rVal rfl rfl (ymv rfl) ?_
          refine rVal rfl rfl ((by first | exact ync rfl | exact yncf rfl)) ?_
          refine rVal rfl rfl (yfa fl108_3 rfl) ?_
          refine rVal rfl rfl (yld Try.underlying106 rfl rfl hM rfl) ?_
          refine rVal rfl rfl (ymv rfl) ?_
          refine rVal rfl rfl (ymv rfl) ?_
          refine rVal rfl rfl (ybd (parts := [(0, .tmp 29), (1, .tmp 30)]) (cs := [_, _]) ti114 rfl sp114 rfl rfl) ?_
          refine rValP rfl rfl (pbs (parts := [(0, .tmp 31)]) (cs := [_, _]) (zs := [Value.int .i64 0, Value.string ⟨#[]⟩]) Try.underlying106 ti114 rfl (by kernel_rfl) rfl rfl rfl (by decide)) ?_
          rintro _ w4 ⟨b4, rfl, ⟨hb4, hx4, hB4⟩, hS4⟩
          have hc4 := h.cache.ext hx4
          refine rValP rfl rfl (pap Try.underlying106 ti114 rfl (by decide) rfl rfl hc4 hS4.rd (by intro c hc; simp at hc; rcases hc with rfl | rfl <;> rfl) (by omega) (by omega)) ?_
          rintro v' w5 ⟨hS5, hk5, hown5, -⟩
          have hvo : oneV v' = true := by rcases hS5.shape with ⟨rfl, -⟩ | ⟨g, cap, rfl, -⟩ <;> rfl
          have h4 := h.ext hx4
          have hpc : ∀ g, (Value.slice a D.cache.length cap).ownBlock = some g → ¬ g = p := fun g hg hgp => by
            obtain ⟨xs, fz', hx⟩ := sl_block h4.cache hg
            obtain ⟨fz, hb, -⟩ := h4.blk
            rw [hgp, hb] at hx; cases hx
          have hM5 := hk5.blk h4.blk (fun hg => hpc p hg rfl)
          refine rVal rfl rfl ((by first | exact ync rfl | exact yncf rfl)) ?_
          refine rVal rfl rfl (yfa fl108_3 rfl) ?_
          refine rEffP rfl (zst ti106 rfl rfl hvo hM5 (by simp)) ?_
          rintro w6 ⟨hB6, hk6⟩
          have hpl := h.blk.lt
          have h6 : DevM w6 p m kp v' (D.push n s) := by
            refine ⟨hB6, ?_, ?_, ?_, ?_⟩
            · obtain ⟨kv, hkv, hsf⟩ := h4.map
              exact ⟨kv, hk6.map (hk5.map hkv fun hg => (h4.sepc hg).2.1 rfl) fun e => h4.pm e.symm, hsf⟩
            · have e : wrs (D.push n s).cache = wrs D.cache ++ [I n, S s] := by simp [Dev.push, wrs, wr]
              have e2 : (D.push n s).cache.length = D.cache.length + 1 := by simp [Dev.push]
              rw [e, e2]
              refine hS5.kp hk6 fun g hg => ?_
              rcases hown5 g hg with h' | h'
              · exact (h4.sepc h').1
              · have := hx4.size; omega
            · refine (h4.keep.kp hk5 fun g hg hc => (h4.sepk hg).2.2 hc).kp hk6 fun g hg => (h4.sepk hg).1
            · refine ⟨h.ok.hB, h.ok.hN, h.ok.due, h.ok.sf, fun x hx => ?_, h.ok.len, h.ok.reads⟩
              simp only [Dev.push, List.mem_append, List.mem_singleton] at hx
              rcases hx with hx | rfl
              · exact h.ok.cache x hx
              · exact ⟨hn.1, hn.2, hsl⟩
          refine rEnd ?_
          refine Run.sub (e := [(0, _), (6, _)]) ?_ (by repeat (first | exact Sub.nil | refine Sub.cons rfl ?_))
          refine run_seq ?_
          refine run_seq ?_
          refine run_reg rfl ?_
          refine rVal rfl rfl (ymv rfl) ?_
          refine rCall rfl rfl (yc (args := [.tmp 36]) cf70 rfl) (counted_ret h6 hc1) ?_
          rintro _ w7 ⟨rfl, h7, hk7⟩
          have hu : Upd (fpD p m kp (.slice a D.cache.length cap)) (fpD p m kp v') w3 w7 := by
            refine ⟨(hx4.kp.trans (hk5.mono' fun i hi => .inr (.inr (.inl hi)))).trans ((hk6.mono' fun i hi => .inl hi).trans (hk7.mono' fun i hi => .inl hi)), fun i hi => ?_⟩
            rcases hi with h' | h' | h' | h'
            · exact .inl (.inl h')
            · exact .inl (.inr (.inl h'))
            · rcases hown5 i h' with h'' | h''
              · exact .inl (.inr (.inr (.inl h'')))
              · have := hx4.size; exact .inr (by omega)
            · exact .inl (.inr (.inr (.inr h')))
          refine rEnd ?_
          refine run_if rfl (fun hdue => ?_) (fun hdue => ?_)
          · skip
            have hM7 := h7.blk
            refine run_seq ?_
            refine run_reg rfl ?_
            refine rVal rfl rfl (ymv rfl) ?_
            refine rVal rfl rfl (ymv rfl) ?_
            refine rVal rfl rfl ((by first | exact ync rfl | exact yncf rfl)) ?_
            refine rVal rfl rfl (yfa fl108_0 rfl) ?_
            refine rVal rfl rfl (yfa fl104_1 rfl) ?_
            refine rVal rfl rfl (yldA Try.underlying51 rfl ti51 rfl (Blk.cells (n := 3) hM7 (news := [_, _, _]) rfl) rfl) ?_
            refine rCall rfl rfl (yc (args := [.tmp 38, .tmp 43]) cf62 rfl) (fall_ret h7 D.keep D.torn D.mask hk (h7.keep.rd) (by show (D.cache ++ [(n, s)]).length < 2000000000000; simp; omega)) ?_
            rintro _ w8 ⟨rfl, h8, hk8⟩
            refine rEnd ?_
            refine run_seq ?_
            refine run_reg rfl ?_
            refine rVal rfl rfl (yas rfl) ?_
            refine rEnd ?_
            refine run_ret Try.func37 rfl ?_
            have e : D.write n s = (((D.push n s).count).drop', 8) := by
              have hdue' : D.due = 1 := hdue
              simp [Dev.write, hd, hh, hsl, hdue']
            rw [e]
            exact ⟨_, rfl, rfl, _, _, h8, hu.trans (upd_fall hk8)⟩
          · skip
            refine run_skip ?_
            refine run_seq ?_
            refine run_reg rfl ?_
            refine rVal rfl rfl (yas rfl) ?_
            refine rEnd ?_
            refine run_ret Try.func37 rfl ?_
            have e : D.write n s = ((D.push n s).count, 0) := by
              have hdue' : ¬ D.due = 1 := hdue
              simp [Dev.write, hd, hh, hsl, hdue']
            rw [e]
            exact ⟨_, rfl, rfl, _, _, h7, hu⟩

theorem plan_ret (at' : Int) (cv : Value) (l : List Int) (tn : Int) (mk : UInt8) (h : DevM w p m kp ca D) (hl : l.length ≤ 17592186044416) (hr : Rd w cv 1 l.length (l.map I)) (hcap : cv = .slice none 0 0 ∨ ∃ a cap, cv = .slice (some a) l.length cap) (hat : at' ≤ 9223372036854775807) :
    Ret Try.prog 50 [ptr p 0, I at', .agg #[cv, I tn, u8v mk]] w fun v w' => v = I (D.plan at' l tn mk).2 ∧ DevR w p m kp ca (D.plan at' l tn mk).1 w' := by
  have hcv : oneV cv = true := by rcases hcap with rfl | ⟨a, cap, rfl⟩ <;> rfl
  refine ret_of_run (e := [(0, _), (1, _), (2, _)]) Try.func50 rfl Try.ntmps50 rfl rfl ?_
  refine run_seq ?_
  refine run_reg rfl ?_
  refine rValP rfl rfl (pbx rfl (cs := [cv, I tn, u8v mk]) rfl) ?_
  rintro _ w1 ⟨b3, rfl, hb3, hx1, hB3⟩
  replace h := h.ext hx1
  replace hr := hr.ext hx1
  refine rVal rfl rfl (yas rfl) ?_
  refine rEnd ?_
  refine run_seq ?_
  refine run_seq ?_
  refine run_reg rfl ?_
  refine rVal rfl rfl (ymv rfl) ?_
  refine rCall rfl rfl (yc (args := [.tmp 8]) cf61 rfl) (ready_ret h) ?_
  rintro _ w2 ⟨rfl, rfl⟩
  cases hd : D.down with
  | true =>
    refine rVal rfl rfl (yas rfl) ?_
    refine rEnd ?_
    refine run_seq ?_
    refine run_reg rfl ?_
    refine rVal rfl rfl (ymv rfl) ?_
    refine rVal rfl rfl (yne rfl rfl) ?_
    refine rEnd ?_
    refine run_if rfl (fun hz => ?_) (fun hz => ?_)
    · skip
      refine run_seq ?_
      refine run_reg rfl ?_
      refine rVal rfl rfl (ymv rfl) ?_
      refine rVal rfl rfl (yas rfl) ?_
      refine rEnd ?_
      refine run_ret Try.func50 rfl ?_
      have e : D.plan at' l tn mk = (D, 8) := by simp [Dev.plan, hd]
      rw [e]
      exact ⟨_, rfl, rfl, DevR.same h hx1⟩
    · skip
      exact absurd (by decide) hz
  | false =>
    refine rVal rfl rfl (yas rfl) ?_
    refine rEnd ?_
    refine run_seq ?_
    refine run_reg rfl ?_
    refine rVal rfl rfl (ymv rfl) ?_
    refine rVal rfl rfl (yne rfl rfl) ?_
    refine rEnd ?_
    refine run_if rfl (fun hz => ?_) (fun hz => ?_)
    · skip
      exact absurd hz (by decide)
    · skip
      refine run_skip ?_
      refine run_seq ?_
      refine run_seq ?_
      refine run_reg rfl ?_
      refine rVal rfl rfl (ymv rfl) ?_
      refine rVal rfl rfl (ylt rfl rfl) ?_
      refine rEnd ?_
      refine run_if rfl (fun hneg => ?_) (fun hneg => ?_)
      · skip
        refine run_seq ?_
        refine run_reg rfl ?_
        refine rVal rfl rfl (yas rfl) ?_
        refine rEnd ?_
        refine run_ret Try.func50 rfl ?_
        have e : D.plan at' l tn mk = (D, 1) := by
          have : at' < 0 := by omega
          simp [Dev.plan, hd, this]
        rw [e]
        exact ⟨_, rfl, rfl, DevR.same h hx1⟩
      · skip
        refine run_skip ?_
        refine run_seq ?_
        refine run_reg rfl ?_
        refine rVal rfl rfl (ymv rfl) ?_
        refine rVal rfl rfl (ymv rfl) ?_
        refine rVal rfl rfl (yldA Try.underlying51 rfl ti51 rfl (Blk.cells (n := 3) hB3 (news := [_, _, _]) rfl) rfl) ?_
        refine rCall rfl rfl (yc (args := [.tmp 17]) cf64 rfl) (own_ret cv l tn mk hl hr hcap) ?_
        rintro _ w3 ⟨v', rfl, hS3, hx3, hg3⟩
        have hvo' : oneV v' = true := by rcases hS3.shape with ⟨rfl, -⟩ | ⟨g, cap, rfl, -⟩ <;> rfl
        have h3 := h.ext hx3
        have hpl := h.blk.lt
        -- AT: op Op.build dst 19 "blockdev.go:197" ["Op.build", "104", [["Prod.mk", "0", ["Operand.tmp", "16"]], ["Prod.mk", "1", ["Operand.tmp", "18"]]]]
        refine rVal rfl rfl (ybd (parts := [(0, .tmp 16), (1, .tmp 18)]) (cs := [_, _, _, _]) ti104 rfl sp104 rfl rfl) ?_
        refine rVal rfl rfl ((by first | exact ync rfl | exact yncf rfl)) ?_
        refine rVal rfl rfl (yfa fl108_0 rfl) ?_
        refine rEffP rfl (zstA (news := [I at', v', I tn, u8v mk]) ti104 rfl rfl (by simp only [List.all_cons, hvo', List.all_nil, Bool.and_true, Bool.true_and]; rfl) rfl h3.blk (by simp)) ?_
        rintro w4 ⟨hB4, hk4⟩
        refine rEnd ?_
        refine run_seq ?_
        refine run_reg rfl ?_
        refine rVal rfl rfl (yas rfl) ?_
        refine rEnd ?_
        refine run_ret Try.func50 rfl ?_
        have e : D.plan at' l tn mk = ({ D with due := at', keep := l, torn := tn, mask := mk }, 0) := by
          have : ¬ at' < 0 := by omega
          simp [Dev.plan, hd, this]
        rw [e]
        have hlt' := h.lt
        obtain ⟨kv, hkv, hsf⟩ := h3.map
        refine ⟨_, rfl, rfl, v', ca, ⟨hB4, ⟨kv, hk4.map hkv fun e => h3.pm e.symm, hsf⟩, h3.cache.kp hk4 fun g hg => (h3.sepc hg).1, hS3.kp hk4 fun g hg => by have := hg3 g hg; omega, ?_⟩, ?_⟩
        · exact ⟨h.ok.hB, h.ok.hN, ⟨by show 0 ≤ at'; omega, hat⟩, h.ok.sf, h.ok.cache, h.ok.len, h.ok.reads⟩
        · refine ⟨(hx1.trans hx3).kp.trans (hk4.mono' fun i hi => .inl hi), fun i hi => ?_⟩
          rcases hi with h' | h' | h' | h'
          · exact .inl (.inl h')
          · exact .inl (.inr (.inl h'))
          · exact .inl (.inr (.inr (.inl h')))
          · have := hg3 i h'; have := hx1.size; exact .inr (by omega)
end
end Go.Proofs.Ytdapkfppcaaohaa
