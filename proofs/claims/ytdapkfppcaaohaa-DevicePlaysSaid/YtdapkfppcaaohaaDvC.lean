/- The helpers of the statements on devices walked: run. -/
import Derived.Test.YtdapkfppcaaohaaDvB
namespace Go.Proofs.Ytdapkfppcaaohaa
open Go Go.RowKit
set_option linter.all false
set_option maxRecDepth 100000

/-- A call, as plain data. -/
structure POp where
  kind : Int
  who : Int
  n : Int
  at' : Int
  data : Bytes
  keep : List Int
  torn : Int
  mask : UInt8
structure POp.Ok (o : POp) : Prop where
  keep : o.keep.length ≤ 17592186044415
  data : o.data.length ≤ 140737488355328
  at' : o.at' ≤ 9223372036854775807
def POp.cv (o : POp) (kv : Value) : Value := .agg #[kv, I o.torn, u8v o.mask]
def POp.val (o : POp) (kv : Value) : Value := .agg #[I o.kind, I o.who, I o.n, I o.at', S o.data, kv, I o.torn, u8v o.mask]
def POp.cs (o : POp) (kv : Value) : List Value := [I o.kind, I o.who, I o.n, I o.at', S o.data, kv, I o.torn, u8v o.mask]

/-- What a call makes of a device, and answers. -/
def Dev.op (D : Dev) (o : POp) : Dev × Bytes × Int :=
  if o.kind = 0 then ((D.write o.n (fill o.data (512 * D.N))).1, [], (D.write o.n (fill o.data (512 * D.N))).2)
  else if o.kind = 1 then ((D.write o.n o.data).1, [], (D.write o.n o.data).2)
  else if o.kind = 2 then (D.flush.1, [], D.flush.2)
  else if o.kind = 3 then D.read o.n
  else if o.kind = 4 then ((D.plan o.at' o.keep o.torn o.mask).1, [], (D.plan o.at' o.keep o.torn o.mask).2)
  else if o.kind = 5 then (if D.down then D else D.fall o.keep o.torn o.mask, [], if D.down then 8 else 0)
  else if o.kind = 6 then ({ D with down := false }, [], if D.down then 0 else 5)
  else if o.kind = 7 then ((D.corrupt o.n o.at' o.data).1, [], (D.corrupt o.n o.at' o.data).2)
  else (D, [], 0)

section
variable {D : Dev} {o : POp}
theorem op0 (h0 : o.kind = 0) : D.op o = ((D.write o.n (fill o.data (512 * D.N))).1, [], (D.write o.n (fill o.data (512 * D.N))).2) := if_pos h0
theorem op1 (h0 : ¬ o.kind = 0) (h1 : o.kind = 1) : D.op o = ((D.write o.n o.data).1, [], (D.write o.n o.data).2) := by simp only [Dev.op, if_neg h0, if_pos h1]
theorem op2 (h0 : ¬ o.kind = 0) (h1 : ¬ o.kind = 1) (h2 : o.kind = 2) : D.op o = (D.flush.1, [], D.flush.2) := by simp only [Dev.op, if_neg h0, if_neg h1, if_pos h2]
theorem op3 (h0 : ¬ o.kind = 0) (h1 : ¬ o.kind = 1) (h2 : ¬ o.kind = 2) (h3 : o.kind = 3) : D.op o = ((D.read o.n).1, (D.read o.n).2.1, (D.read o.n).2.2) := by simp only [Dev.op, if_neg h0, if_neg h1, if_neg h2, if_pos h3]
theorem op4 (h0 : ¬ o.kind = 0) (h1 : ¬ o.kind = 1) (h2 : ¬ o.kind = 2) (h3 : ¬ o.kind = 3) (h4 : o.kind = 4) : D.op o = ((D.plan o.at' o.keep o.torn o.mask).1, [], (D.plan o.at' o.keep o.torn o.mask).2) := by simp only [Dev.op, if_neg h0, if_neg h1, if_neg h2, if_neg h3, if_pos h4]
theorem op5 (h0 : ¬ o.kind = 0) (h1 : ¬ o.kind = 1) (h2 : ¬ o.kind = 2) (h3 : ¬ o.kind = 3) (h4 : ¬ o.kind = 4) (h5 : o.kind = 5) : D.op o = (if D.down then D else D.fall o.keep o.torn o.mask, [], if D.down then 8 else 0) := by simp only [Dev.op, if_neg h0, if_neg h1, if_neg h2, if_neg h3, if_neg h4, if_pos h5]
theorem op6 (h0 : ¬ o.kind = 0) (h1 : ¬ o.kind = 1) (h2 : ¬ o.kind = 2) (h3 : ¬ o.kind = 3) (h4 : ¬ o.kind = 4) (h5 : ¬ o.kind = 5) (h6 : o.kind = 6) : D.op o = ({ D with down := false }, [], if D.down then 0 else 5) := by simp only [Dev.op, if_neg h0, if_neg h1, if_neg h2, if_neg h3, if_neg h4, if_neg h5, if_pos h6]
theorem op7 (h0 : ¬ o.kind = 0) (h1 : ¬ o.kind = 1) (h2 : ¬ o.kind = 2) (h3 : ¬ o.kind = 3) (h4 : ¬ o.kind = 4) (h5 : ¬ o.kind = 5) (h6 : ¬ o.kind = 6) (h7 : o.kind = 7) : D.op o = ((D.corrupt o.n o.at' o.data).1, [], (D.corrupt o.n o.at' o.data).2) := by simp only [Dev.op, if_neg h0, if_neg h1, if_neg h2, if_neg h3, if_neg h4, if_neg h5, if_neg h6, if_pos h7]
theorem op8 (h0 : ¬ o.kind = 0) (h1 : ¬ o.kind = 1) (h2 : ¬ o.kind = 2) (h3 : ¬ o.kind = 3) (h4 : ¬ o.kind = 4) (h5 : ¬ o.kind = 5) (h6 : ¬ o.kind = 6) (h7 : ¬ o.kind = 7) : D.op o = (D, [], 0) := by simp only [Dev.op, if_neg h0, if_neg h1, if_neg h2, if_neg h3, if_neg h4, if_neg h5, if_neg h6, if_neg h7]
end
theorem DevR.blk {w w' : World} {p m b : Nat} {kp ca : Value} {D' : Dev} {cs : List Value} {T : TypeId} (h : DevR w p m kp ca D' w') (hB : Blk w b cs T) (hn : ¬ fpD p m kp ca b) : Blk w' b cs T := by
  obtain ⟨_, _, -, hu⟩ := h
  exact hu.1.blk hB hn
theorem DevR.of {w w' : World} {p m : Nat} {kp ca : Value} {D : Dev} (h : DevM w' p m kp ca D) (k : Kp (fun i => i = p) w w') : DevR w p m kp ca D w' := DevR.kept h k

set_option maxHeartbeats 1000000 in
theorem runOp_ret {w : World} {p m : Nat} {kp ca kv : Value} {D : Dev} (o : POp) (ho : o.Ok) (h : DevM w p m kp ca D) (hb : D.Bd) (hkeep : D.keep.length ≤ 17592186044416) (hr : Rd w kv 1 o.keep.length (o.keep.map I)) :
    Ret Try.prog 33 [ptr p 0, o.val kv] w fun v w' => v = .tuple #[S (D.op o).2.1, I (D.op o).2.2] ∧ DevR w p m kp ca (D.op o).1 w' := by
  obtain ⟨oc1, oc2, oc3⟩ := ho
  obtain ⟨kind, who, n, at', data, keep, torn, mask⟩ := o
  simp only at oc1 oc2 oc3 hr
  have hN := h.ok.hN
  have hlt := h.lt
  obtain ⟨ac, capc, rfl, hac⟩ := hr.shape
  rw [show POp.val ⟨kind, who, n, at', data, keep, torn, mask⟩ (.slice ac keep.length capc) = .agg #[I kind, I who, I n, I at', S data, .slice ac keep.length capc, I torn, u8v mask] from rfl]
  refine ret_of_run (e := [(0, _), (1, _)]) Try.func33 rfl Try.ntmps33 rfl rfl ?_
  refine run_seq ?_
  refine run_reg rfl ?_
  refine rValP rfl rfl (pbx rfl (cs := POp.cs ⟨kind, who, n, at', data, keep, torn, mask⟩ (.slice ac keep.length capc)) rfl) ?_
  rintro _ w1 ⟨b3, rfl, hb3, hx1, hB3⟩
  replace h := h.ext hx1
  replace hr := hr.ext hx1
  have hbn : ∀ k, fpD p m kp ca k → ¬ k = b3 := fun k hk => by have := hlt k hk; omega
  refine rVal rfl rfl (yas rfl) ?_
  refine rVal rfl rfl (yas rfl) ?_
  refine rEnd ?_
  refine run_seq ?_
  refine run_reg rfl ?_
  refine rVal rfl rfl (yas rfl) ?_
  refine rEnd ?_
  refine run_seq ?_
  refine run_reg rfl ?_
  refine rVal rfl rfl (yas rfl) ?_
  refine rEnd ?_
  refine run_seq ?_
  refine run_seq ?_
  refine run_reg rfl ?_
  refine rVal rfl rfl (yfa fl64_0 rfl) ?_
  refine rVal rfl rfl (yld Try.underlying3 rfl rfl hB3 rfl) ?_
  refine rEnd ?_
  refine run_block ?_
  refine run_seq ?_
  refine run_reg rfl ?_
  refine rVal rfl rfl (yeq rfl rfl) ?_
  refine rVal rfl rfl (yas rfl) ?_
  refine rEnd ?_
  refine run_cut (fun e' w' => ∃ s z D', e' = [(6, S s), (7, I z)] ∧ D.op ⟨kind, who, n, at', data, keep, torn, mask⟩ = (D', s, z) ∧ DevR w p m kp ca D' w') ?hk (fun hk => ?hmain)
  case hk =>
    rintro _ w2 ⟨s, z, D', rfl, hop, hD⟩
    refine run_inBlock ?_
    refine run_seq ?_
    refine run_reg rfl ?_
    refine rVal rfl rfl (ymv rfl) ?_
    refine rVal rfl rfl (ymv rfl) ?_
    refine rVal rfl rfl (yas rfl) ?_
    refine rVal rfl rfl (yas rfl) ?_
    refine rEnd ?_
    refine run_ret Try.func33 rfl ?_
    exact ⟨_, rfl, by rw [hop]; rfl, by rw [hop]; exact hD⟩
  case hmain =>
    refine run_if rfl (fun k0 => ?_) (fun k0 => ?_)
    · skip
      refine run_draw (fun w' => Blk w' b3 (POp.cs ⟨kind, who, n, at', data, keep, torn, mask⟩ (.slice ac keep.length capc)) 64) (by kernel_rfl) rfl ?_
      refine hTake (i := 0) rfl (by kernel_rfl) rfl rfl (fun _ hS => ymv rfl) ((Ext.drew0 w1).blk hB3) ?_
      refine hTake (i := 1) rfl (by kernel_rfl) rfl rfl (fun _ hS => yfa fl64_2 rfl) ((Ext.drew0 w1).blk hB3) ?_
      refine hTake (i := 2) rfl (by kernel_rfl) rfl rfl (fun _ hS => yld Try.underlying3 rfl rfl hS rfl) ((Ext.drew0 w1).blk hB3) ?_
      refine hTake (i := 3) rfl (by kernel_rfl) rfl rfl (fun _ hS => yfa fl64_4 rfl) ((Ext.drew0 w1).blk hB3) ?_
      refine hTake (i := 4) rfl (by kernel_rfl) rfl rfl (fun _ hS => yld Try.underlying9 rfl rfl hS rfl) ((Ext.drew0 w1).blk hB3) ?_
      refine hTake (i := 5) rfl (by kernel_rfl) rfl rfl (fun _ hS => ymv rfl) ((Ext.drew0 w1).blk hB3) ?_
      have hd := h.ext (Ext.drew0 w1)
      refine hOne (i := 6) (by kernel_rfl) ?_
      refine nCall (i := 6) rfl rfl rfl (yc (args := [.tmp 17]) cf46 rfl) (size_ret hd) ?_
      rintro _ w2 ⟨rfl, rfl⟩
      refine ⟨(Ext.drew0 w1).blk hB3, ?_⟩
      refine hOne (i := 7) (by kernel_rfl) ?_
      refine nCall (i := 7) rfl rfl rfl (yc (args := [.tmp 16, .tmp 18]) cf38 rfl) (fill_ret data (512 * D.N) _ (by omega) (by omega)) ?_
      rintro _ w3 ⟨rfl, rfl⟩
      refine ⟨(Ext.drew0 w1).blk hB3, ?_⟩
      refine hOne (i := 8) (by kernel_rfl) ?_
      refine nCall (i := 8) rfl rfl rfl (yc (args := [.tmp 12, .tmp 14, .tmp 19]) cf37 rfl) (write_ret n (fill data (512 * D.N)) hd hb hkeep) ?_
      rintro _ w4 ⟨rfl, h4⟩
      refine ⟨h4.blk ((Ext.drew0 w1).blk hB3) (fun hh => hbn b3 hh rfl), ?_⟩
      refine hTake (i := 9) rfl (by kernel_rfl) rfl rfl (fun _ hS => yas rfl) (h4.blk ((Ext.drew0 w1).blk hB3) (fun hh => hbn b3 hh rfl)) ?_
      refine hEnd (by kernel_rfl) ?_
      exact (hk _ _ ⟨_, _, _, rfl, op0 k0, DevR.trans (D := D) (hx1.trans (Ext.drew0 w1)).upd h4⟩).sub (by repeat (first | exact Sub.nil | refine Sub.cons rfl ?_))
    · skip
      refine run_seq ?_
      refine run_reg rfl ?_
      refine rVal rfl rfl (yeq rfl rfl) ?_
      refine rVal rfl rfl (yas rfl) ?_
      refine rEnd ?_
      refine run_if rfl (fun k1 => ?_) (fun k1 => ?_)
      · skip
        refine run_reg rfl ?_
        refine rVal rfl rfl (ymv rfl) ?_
        refine rVal rfl rfl (yfa fl64_2 rfl) ?_
        refine rVal rfl rfl (yld Try.underlying3 rfl rfl hB3 rfl) ?_
        refine rVal rfl rfl (yfa fl64_4 rfl) ?_
        refine rVal rfl rfl (yld Try.underlying9 rfl rfl hB3 rfl) ?_
        refine rCall rfl rfl (yc (args := [.tmp 23, .tmp 25, .tmp 27]) cf37 rfl) (write_ret n data h hb hkeep) ?_
        rintro _ w4 ⟨rfl, h4⟩
        refine rVal rfl rfl (yas rfl) ?_
        refine rEnd ?_
        exact (hk _ _ ⟨_, _, _, rfl, op1 k0 k1, DevR.trans (D := D) hx1.upd h4⟩).sub (by repeat (first | exact Sub.nil | refine Sub.cons rfl ?_))
      · skip
        refine run_seq ?_
        refine run_reg rfl ?_
        refine rVal rfl rfl (yeq rfl rfl) ?_
        refine rVal rfl rfl (yas rfl) ?_
        refine rEnd ?_
        refine run_if rfl (fun k2 => ?_) (fun k2 => ?_)
        · skip
          refine run_reg rfl ?_
          refine rVal rfl rfl (ymv rfl) ?_
          refine rCall rfl rfl (yc (args := [.tmp 31]) cf39 rfl) (flush_ret h hb hkeep) ?_
          rintro _ w4 ⟨rfl, h4⟩
          refine rVal rfl rfl (yas rfl) ?_
          refine rEnd ?_
          exact (hk _ _ ⟨_, _, _, rfl, op2 k0 k1 k2, DevR.trans (D := D) hx1.upd h4⟩).sub (by repeat (first | exact Sub.nil | refine Sub.cons rfl ?_))
        · skip
          refine run_seq ?_
          refine run_reg rfl ?_
          refine rVal rfl rfl (yeq rfl rfl) ?_
          refine rVal rfl rfl (yas rfl) ?_
          refine rEnd ?_
          refine run_if rfl (fun k3 => ?_) (fun k3 => ?_)
          · skip
            refine run_reg rfl ?_
            refine rVal rfl rfl (ymv rfl) ?_
            refine rVal rfl rfl (yfa fl64_2 rfl) ?_
            refine rVal rfl rfl (yld Try.underlying3 rfl rfl hB3 rfl) ?_
            refine rCall rfl rfl (yc (args := [.tmp 36, .tmp 38]) cf49 rfl) (read_ret n h hb) ?_
            rintro _ w4 ⟨rfl, h4⟩
            refine rVal rfl rfl (ymv rfl) ?_
            refine rVal rfl rfl (yex rfl rfl) ?_
            refine rVal rfl rfl (yex rfl rfl) ?_
            refine rVal rfl rfl (yas rfl) ?_
            refine rVal rfl rfl (yas rfl) ?_
            refine rEnd ?_
            exact (hk _ _ ⟨_, _, _, rfl, op3 k0 k1 k2 k3, DevR.trans (D := D) hx1.upd h4⟩).sub (by repeat (first | exact Sub.nil | refine Sub.cons rfl ?_))
          · skip
            refine run_seq ?_
            refine run_reg rfl ?_
            refine rVal rfl rfl (yeq rfl rfl) ?_
            refine rVal rfl rfl (yas rfl) ?_
            refine rEnd ?_
            refine run_if rfl (fun k4 => ?_) (fun k4 => ?_)
            · skip
              refine run_draw (fun w' => Blk w' b3 (POp.cs ⟨kind, who, n, at', data, keep, torn, mask⟩ (.slice ac keep.length capc)) 64) (by kernel_rfl) rfl ?_
              refine hTake (i := 0) rfl (by kernel_rfl) rfl rfl (fun _ hS => ymv rfl) ((Ext.drew0 w1).blk hB3) ?_
              refine hTake (i := 1) rfl (by kernel_rfl) rfl rfl (fun _ hS => yfa fl64_3 rfl) ((Ext.drew0 w1).blk hB3) ?_
              refine hTake (i := 2) rfl (by kernel_rfl) rfl rfl (fun _ hS => yld Try.underlying3 rfl rfl hS rfl) ((Ext.drew0 w1).blk hB3) ?_
              refine hTake (i := 3) rfl (by kernel_rfl) rfl rfl (fun _ hS => yfa fl64_5 rfl) ((Ext.drew0 w1).blk hB3) ?_
              refine hTake (i := 4) rfl (by kernel_rfl) rfl rfl (fun _ hS => yldA Try.underlying45 rfl ti45 rfl (Blk.cells (n := 3) hS (news := [_, _, _]) rfl) rfl) ((Ext.drew0 w1).blk hB3) ?_
              have hd := h.ext (Ext.drew0 w1)
              refine hOne (i := 5) (by kernel_rfl) ?_
              refine nCall (i := 5) rfl rfl rfl (yc (args := [.tmp 48]) cf26 rfl) (in_ret (.slice ac keep.length capc) keep torn mask oc1 (hr.ext (Ext.drew0 w1))) ?_
              rintro _ w2 ⟨g, cap, rfl, hI, hx2, hg⟩
              refine ⟨((Ext.drew0 w1).trans hx2).blk hB3, ?_⟩
              refine hOne (i := 6) (by kernel_rfl) ?_
              refine nCall (i := 6) rfl rfl rfl (yc (args := [.tmp 44, .tmp 46, .tmp 49]) cf50 rfl) (plan_ret at' (.slice (some ⟨g, 0, none⟩) keep.length cap) keep torn mask (hd.ext hx2) (by omega) hI.rd (.inr ⟨_, _, rfl⟩) oc3) ?_
              rintro _ w4 ⟨rfl, h4⟩
              refine ⟨h4.blk (((Ext.drew0 w1).trans hx2).blk hB3) (fun hh => hbn b3 hh rfl), ?_⟩
              refine hTake (i := 7) rfl (by kernel_rfl) rfl rfl (fun _ hS => yas rfl) (h4.blk (((Ext.drew0 w1).trans hx2).blk hB3) (fun hh => hbn b3 hh rfl)) ?_
              refine hEnd (by kernel_rfl) ?_
              refine Run.sub (e := [(4, _), (5, _), (6, _), (7, _)]) ?_ (by repeat (first | exact Sub.nil | refine Sub.cons rfl ?_))
              exact (hk _ _ ⟨_, _, _, rfl, op4 k0 k1 k2 k3 k4, DevR.trans (D := D) ((hx1.trans (Ext.drew0 w1)).trans hx2).upd h4⟩).sub (by repeat (first | exact Sub.nil | refine Sub.cons rfl ?_))
            · skip
              refine run_seq ?_
              refine run_reg rfl ?_
              refine rVal rfl rfl (yeq rfl rfl) ?_
              refine rVal rfl rfl (yas rfl) ?_
              refine rEnd ?_
              refine run_if rfl (fun k5 => ?_) (fun k5 => ?_)
              · skip
                refine run_reg rfl ?_
                refine rVal rfl rfl (ymv rfl) ?_
                refine rVal rfl rfl (yfa fl64_5 rfl) ?_
                refine rVal rfl rfl (yldA Try.underlying45 rfl ti45 rfl (Blk.cells (n := 3) hB3 (news := [_, _, _]) rfl) rfl) ?_
                refine rCall rfl rfl (yc (args := [.tmp 55]) cf26 rfl) (in_ret (.slice ac keep.length capc) keep torn mask oc1 hr) ?_
                rintro _ w2 ⟨g, cap, rfl, hI, hx2, hg⟩
                refine rCall rfl rfl (yc (args := [.tmp 53, .tmp 56]) cf25 rfl) (pull_ret (h.ext hx2) (.slice (some ⟨g, 0, none⟩) keep.length cap) keep torn mask (by omega) hI.rd hb) ?_
                rintro _ w4 ⟨rfl, h4⟩
                refine rVal rfl rfl (yas rfl) ?_
                refine rEnd ?_
                refine Run.sub (e := [(4, _), (5, _), (6, _), (7, _)]) ?_ (by repeat (first | exact Sub.nil | refine Sub.cons rfl ?_))
                exact (hk _ _ ⟨_, _, _, rfl, op5 k0 k1 k2 k3 k4 k5, DevR.trans (D := D) (hx1.trans hx2).upd h4⟩).sub (by repeat (first | exact Sub.nil | refine Sub.cons rfl ?_))
              · skip
                refine run_seq ?_
                refine run_reg rfl ?_
                refine rVal rfl rfl (yeq rfl rfl) ?_
                refine rVal rfl rfl (yas rfl) ?_
                refine rEnd ?_
                refine run_if rfl (fun k6 => ?_) (fun k6 => ?_)
                · skip
                  refine run_reg rfl ?_
                  refine rVal rfl rfl (ymv rfl) ?_
                  refine rCall rfl rfl (yc (args := [.tmp 60]) cf27 rfl) (restart_ret h) ?_
                  rintro _ w4 ⟨rfl, h4, hk4⟩
                  refine rVal rfl rfl (yas rfl) ?_
                  refine rEnd ?_
                  refine Run.sub (e := [(4, _), (5, _), (6, _), (7, _)]) ?_ (by repeat (first | exact Sub.nil | refine Sub.cons rfl ?_))
                  exact (hk _ _ ⟨_, _, _, rfl, op6 k0 k1 k2 k3 k4 k5 k6, DevR.trans (D := D) hx1.upd (DevR.kept h4 hk4)⟩).sub (by repeat (first | exact Sub.nil | refine Sub.cons rfl ?_))
                · skip
                  refine run_seq ?_
                  refine run_reg rfl ?_
                  refine rVal rfl rfl (yeq rfl rfl) ?_
                  refine rVal rfl rfl (yas rfl) ?_
                  refine rEnd ?_
                  refine Run.sub (e := [(0, _), (3, _), (4, _), (5, _), (6, _), (7, _), (62, _)]) ?_ (by repeat (first | exact Sub.nil | refine Sub.cons rfl ?_))
                  refine run_if rfl (fun k7 => ?_) (fun k7 => ?_)
                  · skip
                    refine run_reg rfl ?_
                    refine rVal rfl rfl (ymv rfl) ?_
                    refine rVal rfl rfl (yfa fl64_2 rfl) ?_
                    refine rVal rfl rfl (yld Try.underlying3 rfl rfl hB3 rfl) ?_
                    refine rVal rfl rfl (yfa fl64_3 rfl) ?_
                    refine rVal rfl rfl (yld Try.underlying3 rfl rfl hB3 rfl) ?_
                    refine rVal rfl rfl (yfa fl64_4 rfl) ?_
                    refine rVal rfl rfl (yld Try.underlying9 rfl rfl hB3 rfl) ?_
                    refine rCall rfl rfl (yc (args := [.tmp 64, .tmp 66, .tmp 68, .tmp 70]) cf36 rfl) (corrupt_ret n at' data h hb.2.1 oc3 (by omega)) ?_
                    rintro _ w4 ⟨rfl, h4⟩
                    refine rVal rfl rfl (yas rfl) ?_
                    refine rEnd ?_
                    exact (hk _ _ ⟨_, _, _, rfl, op7 k0 k1 k2 k3 k4 k5 k6 k7, DevR.trans (D := D) hx1.upd h4⟩).sub (by repeat (first | exact Sub.nil | refine Sub.cons rfl ?_))
                  · skip
                    refine run_skip ?_
                    exact (hk _ _ ⟨[], 0, D, rfl, op8 k0 k1 k2 k3 k4 k5 k6 k7, DevR.same h hx1⟩).sub (by repeat (first | exact Sub.nil | refine Sub.cons rfl ?_))
end Go.Proofs.Ytdapkfppcaaohaa
