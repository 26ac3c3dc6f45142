/- The device's functions walked: the small ones. -/
import Derived.Test.YtdapkfppcaaohaaDevP
namespace Go.Proofs.Ytdapkfppcaaohaa
open Go Go.RowKit
set_option linter.all false
set_option maxRecDepth 100000

theorem zeros_whole (n : Nat) : ((List.replicate n (Value.int .u8 0)).drop 0).take n = (zeros n).map u8v := by
  simp [zeros, u8v]

section
variable {w : World} {p m : Nat} {kp ca : Value} {D : Dev}

theorem blocks_ret (h : DevM w p m kp ca D) : Ret Try.prog 45 [ptr p 0] w fun v w' => v = I (D.B : Int) ∧ w' = w := by
  have hM := h.blk
  refine ret_of_run (e := [(0, _)]) Try.func45 rfl Try.ntmps45 rfl rfl ?_
  refine run_seq ?_
  refine run_reg rfl ?_
  refine rVal rfl rfl (yas rfl) ?_
  refine rEnd ?_
  refine run_seq ?_
  refine run_seq ?_
  refine run_reg rfl ?_
  refine rVal rfl rfl (ymv rfl) ?_
  refine rVal rfl rfl (yeqpN Try.underlying46 rfl rfl) ?_
  refine rEnd ?_
  refine run_false rfl ?_
  refine run_skip ?_
  refine run_seq ?_
  refine run_reg rfl ?_
  refine rVal rfl rfl (ymv rfl) ?_
  refine rVal rfl rfl ((by first | exact ync rfl | exact yncf rfl)) ?_
  refine rVal rfl rfl (yfa fl108_1 rfl) ?_
  refine rVal rfl rfl (yfa fl68_0 rfl) ?_
  refine rVal rfl rfl (yld Try.underlying3 rfl rfl hM rfl) ?_
  refine rVal rfl rfl (yas rfl) ?_
  refine rEnd ?_
  refine run_ret Try.func45 rfl ?_
  exact ⟨_, rfl, rfl, rfl⟩

theorem size_ret (h : DevM w p m kp ca D) : Ret Try.prog 46 [ptr p 0] w fun v w' => v = I ((512 * D.N : Nat) : Int) ∧ w' = w := by
  have hM := h.blk
  have hN := h.ok.hN
  refine ret_of_run (e := [(0, _)]) Try.func46 rfl Try.ntmps46 rfl rfl ?_
  refine run_seq ?_
  refine run_reg rfl ?_
  refine rVal rfl rfl (yas rfl) ?_
  refine rEnd ?_
  refine run_seq ?_
  refine run_seq ?_
  refine run_reg rfl ?_
  refine rVal rfl rfl (ymv rfl) ?_
  refine rVal rfl rfl (yeqpN Try.underlying46 rfl rfl) ?_
  refine rEnd ?_
  refine run_false rfl ?_
  refine run_skip ?_
  refine run_seq ?_
  refine run_reg rfl ?_
  refine rVal rfl rfl (ymv rfl) ?_
  refine rVal rfl rfl ((by first | exact ync rfl | exact yncf rfl)) ?_
  refine rVal rfl rfl (yfa fl108_1 rfl) ?_
  refine rVal rfl rfl (yfa fl68_1 rfl) ?_
  refine rVal rfl rfl (yld Try.underlying3 rfl rfl hM rfl) ?_
  refine rVal rfl rfl (yml rfl rfl (by omega)) ?_
  refine rVal rfl rfl (yas rfl) ?_
  refine rEnd ?_
  refine run_ret Try.func46 rfl ?_
  refine ⟨_, rfl, ?_, rfl⟩
  show I _ = I _
  congr 1; omega

theorem ready_ret (h : DevM w p m kp ca D) : Ret Try.prog 61 [ptr p 0] w fun v w' => v = I (if D.down then 8 else 0) ∧ w' = w := by
  have hM := h.blk
  refine ret_of_run (e := [(0, _)]) Try.func61 rfl Try.ntmps61 rfl rfl ?_
  refine run_seq ?_
  refine run_reg rfl ?_
  refine rVal rfl rfl (yas rfl) ?_
  refine rEnd ?_
  refine run_seq ?_
  refine run_block ?_
  refine run_seq ?_
  refine run_reg rfl ?_
  refine rVal rfl rfl (ymv rfl) ?_
  refine rVal rfl rfl (yeqpN Try.underlying46 rfl rfl) ?_
  refine rVal rfl rfl (yas rfl) ?_
  refine rEnd ?_
  refine run_false rfl ?_
  refine run_seq ?_
  refine run_reg rfl ?_
  refine rVal rfl rfl (ymv rfl) ?_
  refine rVal rfl rfl ((by first | exact ync rfl | exact yncf rfl)) ?_
  refine rVal rfl rfl (yfa fl108_4 rfl) ?_
  refine rVal rfl rfl (yld Try.underlying4 rfl rfl hM rfl) ?_
  refine rVal rfl rfl (yas rfl) ?_
  refine rEnd ?_
  refine run_cond rfl (fun hd => ?_) (fun hd => ?_)
  · skip
    refine run_seq ?_
    refine run_reg rfl ?_
    refine rVal rfl rfl (yas rfl) ?_
    refine rEnd ?_
    refine run_ret Try.func61 rfl ?_
    exact ⟨_, rfl, by simp [hd, resVal], rfl⟩
  · skip
    refine run_skip ?_
    refine run_inBlock ?_
    refine run_seq ?_
    refine run_reg rfl ?_
    refine rVal rfl rfl (yas rfl) ?_
    refine rEnd ?_
    refine run_ret Try.func61 rfl ?_
    exact ⟨_, rfl, by simp [hd, resVal], rfl⟩

theorem has_ret (n : Int) (h : DevM w p m kp ca D) : Ret Try.prog 67 [ptr p 0, I n] w fun v w' => v = .bool (D.has n) ∧ w' = w := by
  have hM := h.blk
  refine ret_of_run (e := [(0, _), (1, _)]) Try.func67 rfl Try.ntmps67 rfl rfl ?_
  refine run_seq ?_
  refine run_reg rfl ?_
  refine rVal rfl rfl (yas rfl) ?_
  refine rEnd ?_
  refine run_seq ?_
  refine run_reg rfl ?_
  refine rVal rfl rfl (ymv rfl) ?_
  refine rVal rfl rfl (yge rfl rfl) ?_
  refine rVal_if (fun h1 => ?_) (fun h1 => ?_)
  · skip
    refine rVal rfl rfl (ymv rfl) ?_
    refine rVal rfl rfl (ymv rfl) ?_
    refine rVal rfl rfl (ymv rfl) ?_
    refine rVal rfl rfl ((by first | exact ync rfl | exact yncf rfl)) ?_
    refine rVal rfl rfl (yfa fl108_1 rfl) ?_
    refine rVal rfl rfl (yfa fl68_0 rfl) ?_
    refine rVal rfl rfl (yld Try.underlying3 rfl rfl hM rfl) ?_
    refine rVal rfl rfl (ylt rfl rfl) ?_
    refine rVal rfl rfl (ypT rfl rfl) ?_
    refine rVal rfl rfl (yas rfl) ?_
    refine rEnd ?_
    refine run_ret Try.func67 rfl ?_
    refine ⟨_, rfl, ?_, rfl⟩
    simp [Dev.has, h1, resVal]
  · skip
    refine rVal rfl rfl (ymv rfl) ?_
    refine rSkip rfl rfl ?_
    refine rSkip rfl rfl ?_
    refine rSkip rfl rfl ?_
    refine rSkip rfl rfl ?_
    refine rSkip rfl rfl ?_
    refine rSkip rfl rfl ?_
    refine rSkip rfl rfl ?_
    refine rVal rfl rfl (ypF rfl rfl) ?_
    refine rVal rfl rfl (yas rfl) ?_
    refine rEnd ?_
    refine run_ret Try.func67 rfl ?_
    refine ⟨_, rfl, ?_, rfl⟩
    simp [Dev.has, h1, resVal]

theorem kept_ret (n : Int) (h : DevM w p m kp ca D) : Ret Try.prog 69 [ptr p 0, I n] w fun v w' => v = S (D.kept n) ∧ Ext w w' := by
  have hM := h.blk
  have hN := h.ok.hN
  have hml : maxLen = 9223372036854775807 := rfl
  obtain ⟨kv, hkv, hsf⟩ := h.map
  refine ret_of_run (e := [(0, _), (1, _)]) Try.func69 rfl Try.ntmps69 rfl rfl ?_
  refine run_seq ?_
  refine run_reg rfl ?_
  refine rVal rfl rfl (yas rfl) ?_
  refine rEnd ?_
  refine run_seq ?_
  refine run_seq ?_
  refine run_reg rfl ?_
  refine rVal rfl rfl (ymv rfl) ?_
  refine rVal rfl rfl ((by first | exact ync rfl | exact yncf rfl)) ?_
  refine rVal rfl rfl (yfa fl108_2 rfl) ?_
  refine rVal rfl rfl (yld Try.underlying105 rfl rfl hM rfl) ?_
  refine rVal rfl rfl (ymv rfl) ?_
  refine rVal rfl rfl (ylk2 (k := n) (K := KI) Try.underlying105 (ky_int Try.underlying3) ti9 rfl rfl hkv) ?_
  rw [hsf n]
  cases hs : D.sf n with
  | some s =>
    refine rVal rfl rfl (ymv rfl) ?_
    refine rVal rfl rfl (yex rfl rfl) ?_
    refine rVal rfl rfl (yex rfl rfl) ?_
    refine rVal rfl rfl (yas rfl) ?_
    refine rVal rfl rfl (yas rfl) ?_
    refine rEnd ?_
    refine run_seq ?_
    refine run_reg rfl ?_
    refine rVal rfl rfl (ymv rfl) ?_
    refine rEnd ?_
    refine run_true rfl ?_
    refine run_seq ?_
    refine run_reg rfl ?_
    refine rVal rfl rfl (ymv rfl) ?_
    refine rVal rfl rfl (yas rfl) ?_
    refine rEnd ?_
    refine run_ret Try.func69 rfl ?_
    exact ⟨_, rfl, by simp [Dev.kept, hs, resVal], Ext.refl w⟩
  | none =>
    refine rVal rfl rfl (ymv rfl) ?_
    refine rVal rfl rfl (yex rfl rfl) ?_
    refine rVal rfl rfl (yex rfl rfl) ?_
    refine rVal rfl rfl (yas rfl) ?_
    refine rVal rfl rfl (yas rfl) ?_
    refine rEnd ?_
    refine run_seq ?_
    refine run_reg rfl ?_
    refine rVal rfl rfl (ymv rfl) ?_
    refine rEnd ?_
    refine run_false rfl ?_
    refine run_skip ?_
    refine run_seq ?_
    refine run_reg rfl ?_
    refine rVal rfl rfl (ymv rfl) ?_
    refine rCall rfl rfl (yc (args := [.tmp 18]) cf46 rfl) (size_ret h) ?_
    rintro _ w1 ⟨rfl, rfl⟩
    refine rValP rfl rfl (pmk (c := 512 * D.N) (n := 512 * D.N) Try.underlying30 ti5 rfl rfl rfl (by omega) (by omega) (by omega)) ?_
    rintro _ w1 ⟨b1, rfl, ⟨hb1, hx1, hB1⟩, -⟩
    refine rVal rfl rfl (yB2S (l := zeros (512 * D.N)) Try.underlying30 Try.underlying5 Try.underlying9 rfl hB1 (zeros_whole _) (by simp [zeros])) ?_
    refine rVal rfl rfl (yas rfl) ?_
    refine rEnd ?_
    refine run_ret Try.func69 rfl ?_
    exact ⟨_, rfl, by simp [Dev.kept, hs, resVal], hx1⟩

theorem counted_ret (h : DevM w p m kp ca D) (hc : D.calls < 1000000000000) : Ret Try.prog 70 [ptr p 0] w fun v w' => v = .bool (decide (D.due = 1)) ∧ DevM w' p m kp ca D.count ∧ Kp (fun k => k = p) w w' := by
  have hM := h.blk
  have hdue := h.ok.due
  have hlen := h.ok.len
  refine ret_of_run (e := [(0, _)]) Try.func70 rfl Try.ntmps70 rfl rfl ?_
  refine run_seq ?_
  refine run_reg rfl ?_
  refine rVal rfl rfl (yas rfl) ?_
  refine rEnd ?_
  refine run_seq ?_
  refine run_reg rfl ?_
  refine rVal rfl rfl (ymv rfl) ?_
  refine rVal rfl rfl ((by first | exact ync rfl | exact yncf rfl)) ?_
  refine rVal rfl rfl (yfa fl108_5 rfl) ?_
  refine rVal rfl rfl (yld Try.underlying3 rfl rfl hM rfl) ?_
  refine rVal rfl rfl (yad rfl rfl (by omega)) ?_
  refine rVal rfl rfl ((by first | exact ync rfl | exact yncf rfl)) ?_
  refine rVal rfl rfl (yfa fl108_5 rfl) ?_
  refine rEffP rfl (zst ti3 rfl rfl rfl hM (by simp)) ?_
  rintro w1 ⟨hM1, hk1⟩
  refine rEnd ?_
  refine run_seq ?_
  refine run_seq ?_
  refine run_reg rfl ?_
  refine rVal rfl rfl (ymv rfl) ?_
  refine rVal rfl rfl ((by first | exact ync rfl | exact yncf rfl)) ?_
  refine rVal rfl rfl (yfa fl108_0 rfl) ?_
  refine rVal rfl rfl (yfa fl104_0 rfl) ?_
  refine rVal rfl rfl (yld Try.underlying3 rfl rfl hM1 rfl) ?_
  refine rVal rfl rfl (yeq rfl rfl) ?_
  refine rEnd ?_
  refine run_if rfl (fun h0 => ?_) (fun h0 => ?_)
  · skip
    refine run_seq ?_
    refine run_reg rfl ?_
    refine rVal rfl rfl (yas rfl) ?_
    refine rEnd ?_
    refine run_ret Try.func70 rfl ?_
    have e0 : (devCs kp ca m D).set (0 + 9) (I (D.calls + 1)) = devCs kp ca m D.count := by simp [devCs, Dev.count, h0]
    rw [e0] at hM1
    exact ⟨_, rfl, by simp [resVal]; omega, h.turn hM1 hk1 rfl rfl rfl rfl h.ok.count, hk1⟩
  · skip
    refine run_skip ?_
    refine run_seq ?_
    refine run_reg rfl ?_
    refine rVal rfl rfl (ymv rfl) ?_
    refine rVal rfl rfl ((by first | exact ync rfl | exact yncf rfl)) ?_
    refine rVal rfl rfl (yfa fl108_0 rfl) ?_
    refine rVal rfl rfl (yfa fl104_0 rfl) ?_
    refine rVal rfl rfl (yld Try.underlying3 rfl rfl hM1 rfl) ?_
    refine rVal rfl rfl (ysb rfl rfl (by omega)) ?_
    refine rVal rfl rfl ((by first | exact ync rfl | exact yncf rfl)) ?_
    refine rVal rfl rfl (yfa fl108_0 rfl) ?_
    refine rVal rfl rfl (yfa fl104_0 rfl) ?_
    refine rEffP rfl (zst ti3 rfl rfl rfl hM1 (by simp)) ?_
    rintro w2 ⟨hM2, hk2⟩
    refine rEnd ?_
    refine run_seq ?_
    refine run_reg rfl ?_
    refine rVal rfl rfl (ymv rfl) ?_
    refine rVal rfl rfl ((by first | exact ync rfl | exact yncf rfl)) ?_
    refine rVal rfl rfl (yfa fl108_0 rfl) ?_
    refine rVal rfl rfl (yfa fl104_0 rfl) ?_
    refine rVal rfl rfl (yld Try.underlying3 rfl rfl hM2 rfl) ?_
    refine rVal rfl rfl (yeq rfl rfl) ?_
    refine rVal rfl rfl (yas rfl) ?_
    refine rEnd ?_
    refine Run.sub (e := [(2, _)]) ?_ (by repeat (first | exact Sub.nil | refine Sub.cons rfl ?_))
    refine run_ret Try.func70 rfl ?_
    have e0 : ((devCs kp ca m D).set (0 + 9) (I (D.calls + 1))).set (0 + 0 + 0) (I (D.due - 1)) = devCs kp ca m D.count := by simp [devCs, Dev.count, h0]
    rw [e0] at hM2
    exact ⟨_, rfl, by simp [resVal]; omega, h.turn hM2 (hk1.trans hk2) rfl rfl rfl rfl h.ok.count, hk1.trans hk2⟩
end
end Go.Proofs.Ytdapkfppcaaohaa
