/- The document's device (wattleref04): how it lies in memory for the plain device D; its small functions walked. -/
import Derived.Test.YtdapkfppcaaohaaDevG
namespace Go.Proofs.Ytdapkfppcaaohaa
open Go Go.RowKit
set_option linter.all false
set_option maxRecDepth 100000

/-- The document's device's own block. -/
def refCs (sv ca kp : Value) (tn : Int) (mk : UInt8) (D : Dev) : List Value := [I (D.B : Int), I (D.N : Int), sv, ca, I D.due, kp, I tn, u8v mk, .bool D.down, I D.calls, I D.reads]
@[simp] theorem refCs_length (sv ca kp : Value) (tn : Int) (mk : UInt8) (D : Dev) : (refCs sv ca kp tn mk D).length = 11 := rfl
/-- What is safe of all blocks. -/
def Dev.safes (D : Dev) : List Bytes := (List.range D.B).map fun j : Nat => D.kept (j : Int)
@[simp] theorem safes_length (D : Dev) : D.safes.length = D.B := by simp [Dev.safes]
theorem safes_get (D : Dev) (j : Nat) (h : j < D.B) : D.safes[j]? = some (D.kept (j : Int)) := by simp [Dev.safes, h]

structure RefM (w : World) (q : Nat) (sv ca kp : Value) (l : List Int) (tn : Int) (mk : UInt8) (D : Dev) : Prop where
  blk : Blk w q (refCs sv ca kp tn mk D) 86
  safe : Sl w sv 9 1 D.B (D.safes.map S)
  cache : Sl w ca 128 2 D.cache.length (wrs D.cache)
  keep : Sl w kp 3 1 l.length (l.map I)
  crash : D.due ≠ 0 → D.keep = l ∧ D.torn = tn ∧ D.mask = mk
  ok : D.Ok
  len : l.length ≤ 17592186044416

def fpR (q : Nat) (sv ca kp : Value) : Nat → Prop := fun k => k = q ∨ sv.ownBlock = some k ∨ ca.ownBlock = some k ∨ kp.ownBlock = some k

section
variable {w w' : World} {q : Nat} {sv ca kp : Value} {l : List Int} {tn : Int} {mk : UInt8} {D : Dev}

theorem RefM.carry {T : Nat → Prop} (h : RefM w q sv ca kp l tn mk D) (k : Kp T w w') (hn : ∀ i, fpR q sv ca kp i → ¬ T i) : RefM w' q sv ca kp l tn mk D :=
  ⟨k.blk h.blk (hn q (.inl rfl)), h.safe.kp k fun g hg => hn g (.inr (.inl hg)), h.cache.kp k fun g hg => hn g (.inr (.inr (.inl hg))), h.keep.kp k fun g hg => hn g (.inr (.inr (.inr hg))), h.crash, h.ok, h.len⟩
theorem RefM.ext (h : RefM w q sv ca kp l tn mk D) (k : Ext w w') : RefM w' q sv ca kp l tn mk D := h.carry k fun _ _ => id
theorem RefM.lt (h : RefM w q sv ca kp l tn mk D) : ∀ k, fpR q sv ca kp k → k < w.heap.size := by
  intro k hk
  rcases hk with rfl | hc | hc | hc
  · exact h.blk.lt
  · exact h.safe.lt hc
  · exact h.cache.lt hc
  · exact h.keep.lt hc
/-- The block of a slice is not the device's own. -/
theorem RefM.sep (h : RefM w q sv ca kp l tn mk D) : sv.ownBlock ≠ some q ∧ ca.ownBlock ≠ some q ∧ kp.ownBlock ≠ some q := by
  obtain ⟨fz, hb, -⟩ := h.blk
  refine ⟨fun e => ?_, fun e => ?_, fun e => ?_⟩
  · obtain ⟨xs, fz', hx⟩ := sl_block h.safe e
    rw [hx] at hb
    have := (Obj.cells.inj (Option.some.inj hb)).2.1
    exact absurd this (by decide)
  · obtain ⟨xs, fz', hx⟩ := sl_block h.cache e
    rw [hx] at hb
    have := (Obj.cells.inj (Option.some.inj hb)).2.1
    exact absurd this (by decide)
  · obtain ⟨xs, fz', hx⟩ := sl_block h.keep e
    rw [hx] at hb
    have := (Obj.cells.inj (Option.some.inj hb)).2.1
    exact absurd this (by decide)
/-- The device's own block has turned, and nothing else. -/
theorem RefM.turn {D' : Dev} (h : RefM w q sv ca kp l tn mk D) (hb : Blk w' q (refCs sv ca kp tn mk D') 86) (k : Kp (fun i => i = q) w w') (h1 : D'.sf = D.sf) (h2 : D'.cache = D.cache) (h3 : D'.N = D.N) (h4 : D'.B = D.B) (hc : D'.due ≠ 0 → D'.keep = l ∧ D'.torn = tn ∧ D'.mask = mk) (hok : D'.Ok) : RefM w' q sv ca kp l tn mk D' := by
  obtain ⟨s1, s2, s3⟩ := h.sep
  have hs : D'.safes = D.safes := by simp [Dev.safes, Dev.kept, h1, h3, h4]
  refine ⟨hb, ?_, ?_, h.keep.kp k (fun g hg e => s3 (by rw [hg, e])), hc, hok, h.len⟩
  · rw [hs, h4]; exact h.safe.kp k (fun g hg e => s1 (by rw [hg, e]))
  · rw [h2]; exact h.cache.kp k (fun g hg e => s2 (by rw [hg, e]))

theorem rsize_ret (h : RefM w q sv ca kp l tn mk D) : Ret Try.prog 47 [ptr q 0] w fun v w' => v = I ((512 * D.N : Nat) : Int) ∧ w' = w := by
  have hM := h.blk
  have hN := h.ok.hN
  refine ret_of_run (e := [(0, _)]) Try.func47 rfl Try.ntmps47 rfl rfl ?_
  refine run_seq ?_
  refine run_reg rfl ?_
  refine rVal rfl rfl (yas rfl) ?_
  refine rEnd ?_
  refine run_seq ?_
  refine run_reg rfl ?_
  refine rVal rfl rfl (ymv rfl) ?_
  refine rVal rfl rfl ((by first | exact ync rfl | exact yncf rfl)) ?_
  refine rVal rfl rfl (yfa fl86_0 rfl) ?_
  refine rVal rfl rfl (yfa fl74_1 rfl) ?_
  refine rVal rfl rfl (yld Try.underlying3 rfl rfl hM rfl) ?_
  refine rVal rfl rfl (yml rfl rfl (by omega)) ?_
  refine rVal rfl rfl (yas rfl) ?_
  refine rEnd ?_
  refine run_ret Try.func47 rfl ?_
  refine ⟨_, rfl, ?_, rfl⟩
  show I _ = I _
  congr 1

theorem rcounted_ret (h : RefM w q sv ca kp l tn mk D) (hc : D.calls < 1000000000000) : Ret Try.prog 85 [ptr q 0] w fun v w' => v = .bool (decide (D.due = 1)) ∧ RefM w' q sv ca kp l tn mk D.count ∧ Kp (fun k => k = q) w w' := by
  have hM := h.blk
  have hdue := h.ok.due
  have hlen := h.ok.len
  refine ret_of_run (e := [(0, _)]) Try.func85 rfl Try.ntmps85 rfl rfl ?_
  refine run_seq ?_
  refine run_reg rfl ?_
  refine rVal rfl rfl (yas rfl) ?_
  refine rEnd ?_
  refine run_seq ?_
  refine run_reg rfl ?_
  refine rVal rfl rfl (ymv rfl) ?_
  refine rVal rfl rfl ((by first | exact ync rfl | exact yncf rfl)) ?_
  refine rVal rfl rfl (yfa fl86_6 rfl) ?_
  refine rVal rfl rfl (yld Try.underlying3 rfl rfl hM rfl) ?_
  refine rVal rfl rfl (yad rfl rfl (by omega)) ?_
  refine rVal rfl rfl ((by first | exact ync rfl | exact yncf rfl)) ?_
  refine rVal rfl rfl (yfa fl86_6 rfl) ?_
  refine rEffP rfl (zst ti3 rfl rfl rfl hM (by simp)) ?_
  rintro w1 ⟨hM1, hk1⟩
  refine rEnd ?_
  refine run_seq ?_
  refine run_seq ?_
  refine run_reg rfl ?_
  refine rVal rfl rfl (ymv rfl) ?_
  refine rVal rfl rfl ((by first | exact ync rfl | exact yncf rfl)) ?_
  refine rVal rfl rfl (yfa fl86_3 rfl) ?_
  refine rVal rfl rfl (yld Try.underlying3 rfl rfl hM1 rfl) ?_
  refine rVal rfl rfl (yeq rfl rfl) ?_
  refine rEnd ?_
  refine run_if rfl (fun h0 => ?_) (fun h0 => ?_)
  · skip
    refine run_seq ?_
    refine run_reg rfl ?_
    refine rVal rfl rfl (yas rfl) ?_
    refine rEnd ?_
    refine run_ret Try.func85 rfl ?_
    have e0 : (refCs sv ca kp tn mk D).set (0 + 9) (I (D.calls + 1)) = refCs sv ca kp tn mk D.count := by simp [refCs, Dev.count, h0]
    rw [e0] at hM1
    exact ⟨_, rfl, by simp [resVal]; omega, h.turn hM1 hk1 rfl rfl rfl rfl (fun hh => absurd (by simp [Dev.count, h0]) hh) h.ok.count, hk1⟩
  · skip
    refine run_skip ?_
    refine run_seq ?_
    refine run_reg rfl ?_
    refine rVal rfl rfl (ymv rfl) ?_
    refine rVal rfl rfl ((by first | exact ync rfl | exact yncf rfl)) ?_
    refine rVal rfl rfl (yfa fl86_3 rfl) ?_
    refine rVal rfl rfl (yld Try.underlying3 rfl rfl hM1 rfl) ?_
    refine rVal rfl rfl (ysb rfl rfl (by omega)) ?_
    refine rVal rfl rfl ((by first | exact ync rfl | exact yncf rfl)) ?_
    refine rVal rfl rfl (yfa fl86_3 rfl) ?_
    refine rEffP rfl (zst ti3 rfl rfl rfl hM1 (by simp)) ?_
    rintro w2 ⟨hM2, hk2⟩
    refine rEnd ?_
    refine run_seq ?_
    refine run_reg rfl ?_
    refine rVal rfl rfl (ymv rfl) ?_
    refine rVal rfl rfl ((by first | exact ync rfl | exact yncf rfl)) ?_
    refine rVal rfl rfl (yfa fl86_3 rfl) ?_
    refine rVal rfl rfl (yld Try.underlying3 rfl rfl hM2 rfl) ?_
    refine rVal rfl rfl (yeq rfl rfl) ?_
    refine rVal rfl rfl (yas rfl) ?_
    refine rEnd ?_
    refine Run.sub (e := [(2, _)]) ?_ (by repeat (first | exact Sub.nil | refine Sub.cons rfl ?_))
    refine run_ret Try.func85 rfl ?_
    have e0 : ((refCs sv ca kp tn mk D).set (0 + 9) (I (D.calls + 1))).set (0 + 4) (I (D.due - 1)) = refCs sv ca kp tn mk D.count := by simp [refCs, Dev.count, h0]
    rw [e0] at hM2
    exact ⟨_, rfl, by simp [resVal]; omega, h.turn hM2 (hk1.trans hk2) rfl rfl rfl rfl (fun _ => h.crash h0) h.ok.count, hk1.trans hk2⟩

theorem rrestart_ret (h : RefM w q sv ca kp l tn mk D) : Ret Try.prog 76 [ptr q 0] w fun v w' => v = I (if D.down then 0 else 5) ∧ RefM w' q sv ca kp l tn mk { D with down := false } ∧ Kp (fun k => k = q) w w' := by
  have hM := h.blk
  refine ret_of_run (e := [(0, _)]) Try.func76 rfl Try.ntmps76 rfl rfl ?_
  refine run_seq ?_
  refine run_reg rfl ?_
  refine rVal rfl rfl (yas rfl) ?_
  refine rEnd ?_
  refine run_seq ?_
  refine run_seq ?_
  refine run_reg rfl ?_
  refine rVal rfl rfl (ymv rfl) ?_
  refine rVal rfl rfl ((by first | exact ync rfl | exact yncf rfl)) ?_
  refine rVal rfl rfl (yfa fl86_5 rfl) ?_
  refine rVal rfl rfl (yld Try.underlying4 rfl rfl hM rfl) ?_
  refine rVal rfl rfl ((by first | exact yntd rfl | exact ynt rfl)) ?_
  refine rEnd ?_
  cases hd : D.down with
  | false =>
    refine run_true rfl ?_
    refine run_seq ?_
    refine run_reg rfl ?_
    refine rVal rfl rfl (yas rfl) ?_
    refine rEnd ?_
    refine run_ret Try.func76 rfl ?_
    have e : { D with down := false } = D := by cases D; simp_all
    exact ⟨_, rfl, rfl, by rw [e]; exact h, Kp.refl _ _⟩
  | true =>
    refine run_false rfl ?_
    refine run_skip ?_
    refine run_seq ?_
    refine run_reg rfl ?_
    refine rVal rfl rfl (ymv rfl) ?_
    refine rVal rfl rfl ((by first | exact ync rfl | exact yncf rfl)) ?_
    refine rVal rfl rfl (yfa fl86_5 rfl) ?_
    refine rEffP rfl (zst ti4 rfl rfl rfl hM (by simp)) ?_
    rintro w1 ⟨hM1, hk1⟩
    refine rEnd ?_
    refine run_seq ?_
    refine run_reg rfl ?_
    refine rVal rfl rfl (yas rfl) ?_
    refine rEnd ?_
    refine run_ret Try.func76 rfl ?_
    exact ⟨_, rfl, rfl, h.turn hM1 hk1 rfl rfl rfl rfl h.crash ⟨h.ok.hB, h.ok.hN, h.ok.due, h.ok.sf, h.ok.cache, h.ok.len, h.ok.reads⟩, hk1⟩
end
end Go.Proofs.Ytdapkfppcaaohaa
