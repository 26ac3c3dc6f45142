/- The helpers of the statements on devices walked: awake. -/
import Derived.Test.YtdapkfppcaaohaaDvA
import Derived.KernelRfl
namespace Go.Proofs.Ytdapkfppcaaohaa
open Go Go.RowKit
set_option linter.all false
set_option maxRecDepth 100000

def awD : Dev := ((Dev.fresh 16 2).push 3 (fill [97] 1024)).count
theorem aw_write : (Dev.fresh 16 2).write 3 (fill [97] 1024) = (awD, 0) := by
  have h := fill_length [97] 1024
  have hh : (Dev.fresh 16 2).has 3 = true := by decide
  unfold Dev.write
  rw [if_neg (by decide), if_neg (by rw [h, hh]; decide), if_neg (by decide)]
  rfl
theorem aw_mix : mixN 2 (zeros 1024) (fill [97] 1024) 2 = zeros 512 ++ fill [97] 512 := by decide +kernel
theorem aw_now : Dev.now { awD.fall [] 0 2 with down := false } 3 = zeros 512 ++ fill [97] 512 := by
  rw [← aw_mix]
  rfl
theorem aw_read : ∃ D', Dev.read { (if awD.down then awD else awD.fall [] 0 2) with down := false } 3 = (D', zeros 512 ++ fill [97] 512, 0) := by
  refine ⟨{ (awD.fall [] 0 2) with down := false, reads := 1 }, ?_⟩
  rw [← aw_now]
  rfl
theorem awD_ok {w : World} {p m : Nat} {kp ca : Value} (h : DevM w p m kp ca awD) : awD.Bd := ⟨by decide, by show 1 < _; decide, by decide⟩

set_option maxHeartbeats 1000000 in
theorem awake_ret (w : World) : Ret Try.prog 24 [] w fun v w' => v = .bool true ∧ Ext w w' := by
  refine ret_of_run (e := []) Try.func24 rfl Try.ntmps24 rfl rfl ?_
  refine run_seq ?_
  refine run_reg rfl ?_
  refine rVal rfl rfl (yas rfl) ?_
  refine rEnd ?_
  refine run_seq ?_
  refine run_reg rfl ?_
  refine rVal rfl rfl (ybd (parts := [(0, .const (Value.int .i64 16)), (1, .const (Value.int .i64 2))]) (cs := [_, _]) ti68 rfl sp68 rfl rfl) ?_
  refine rCall rfl rfl (yc (args := [.tmp 6]) cf32 rfl) (new_ok 16 2 w (by decide)) ?_
  rintro _ w1 ⟨p, m, rfl, h1, hx1, hp, hm⟩
  refine rVal rfl rfl (ymv rfl) ?_
  refine rVal rfl rfl (yex rfl rfl) ?_
  refine rVal rfl rfl (yex rfl rfl) ?_
  refine rVal rfl rfl (yas rfl) ?_
  refine rVal rfl rfl (yas rfl) ?_
  refine rEnd ?_
  refine run_seq ?_
  refine run_seq ?_
  refine run_reg rfl ?_
  refine rVal rfl rfl (ymv rfl) ?_
  refine rVal rfl rfl (yne rfl rfl) ?_
  refine rFalse (by (first | exact fun h => h rfl | assumption | omega)) ?_
  refine rVal rfl rfl (ymv rfl) ?_
  refine rVal rfl rfl (ymv rfl) ?_
  refine rVal rfl rfl (yeqpN Try.underlying46 rfl rfl) ?_
  refine rVal rfl rfl (ypF rfl rfl) ?_
  refine rVal rfl rfl (ymv rfl) ?_
  refine rVal rfl rfl (ymv rfl) ?_
  refine rCall rfl rfl (yc (args := [.const (Value.string (⟨#[97]⟩)), .const (Value.int .i64 1024)]) cf38 rfl) (fill_ret [97] 1024 w1 (by decide) (by decide)) ?_
  rintro _ w2 ⟨rfl, rfl⟩
  refine rCall rfl rfl (yc (args := [.tmp 17, .const (Value.int .i64 3), .tmp 18]) cf37 rfl) (write_ret 3 (fill [97] 1024) h1 (by refine ⟨by decide, by decide, by decide⟩) (by decide)) ?_
  rintro _ w3 ⟨rfl, h3⟩
  rw [aw_write] at h3 ⊢
  obtain ⟨kp3, ca3, h3, hu3⟩ := h3
  refine rVal rfl rfl (yne rfl rfl) ?_
  refine rFalse (by (first | exact fun h => h rfl | assumption | omega)) ?_
  refine rVal rfl rfl (ypF rfl rfl) ?_
  refine rVal rfl rfl (ymv rfl) ?_
  refine rVal rfl rfl (ymv rfl) ?_
  refine rVal rfl rfl (ybd (parts := [(2, .const (Value.int .u8 2))]) (cs := [_, _, _]) ti51 rfl sp51 rfl rfl) ?_
  refine rCall rfl rfl (yc (args := [.tmp 23, .tmp 24]) cf25 rfl) (pull_ret h3 (.slice none 0 0) [] 0 2 (by decide) (Sl.nil w3 3 1).rd (awD_ok h3)) ?_
  rintro _ w4 ⟨rfl, h4⟩
  obtain ⟨kp4, ca4, h4, hu4⟩ := h4
  refine rVal rfl rfl (yne rfl rfl) ?_
  refine rFalse (by (first | exact fun h => h rfl | assumption | omega)) ?_
  refine rVal rfl rfl (ypF rfl rfl) ?_
  refine rVal rfl rfl (ymv rfl) ?_
  refine rVal rfl rfl (ymv rfl) ?_
  refine rCall rfl rfl (yc (args := [.tmp 29]) cf27 rfl) (restart_ret h4) ?_
  rintro _ w5 ⟨rfl, h5, hk5⟩
  refine rVal rfl rfl (yne rfl rfl) ?_
  refine rFalse (by (first | exact fun h => h rfl | assumption | omega)) ?_
  refine rVal rfl rfl (ypF rfl rfl) ?_
  refine rEnd ?_
  refine Run.sub (e := [(0, _), (1, _), (32, _)]) ?_ (by repeat (first | exact Sub.nil | refine Sub.cons rfl ?_))
  refine run_false rfl ?_
  refine run_skip ?_
  refine run_seq ?_
  refine run_reg rfl ?_
  refine rVal rfl rfl (ymv rfl) ?_
  refine rCall rfl rfl (yc (args := [.tmp 34, .const (Value.int .i64 3)]) cf49 rfl) (read_ret 3 h5 (by refine ⟨by decide, by decide, by decide⟩)) ?_
  rintro _ w6 ⟨rfl, h6⟩
  obtain ⟨kp6, ca6, h6, hu6⟩ := h6
  obtain ⟨D', hD'⟩ := aw_read
  rw [hD'] at h6 ⊢
  have hs1 := hx1.size
  have hfp : ∀ i, fpD p m (.slice none 0 0) (.slice none 0 0) i → w.heap.size ≤ i := fun i hi => by
    rcases hi with h | h | h | h
    · omega
    · omega
    · cases h
    · cases h
  have hfp3 : ∀ i, fpD p m kp3 ca3 i → w.heap.size ≤ i := fun i hi => (hu3.2 i hi).elim (hfp i) fun h => Nat.le_trans hs1 h
  have hx3 : Ext w w3 := hx1.trans_new hu3.1 hfp
  have hfp4 : ∀ i, fpD p m kp4 ca4 i → w.heap.size ≤ i := fun i hi => (hu4.2 i hi).elim (hfp3 i) fun h => Nat.le_trans hx3.size h
  have hx4 : Ext w w4 := hx3.trans_new hu4.1 hfp3
  have hx5 : Ext w w5 := hx4.trans_new hk5 (fun i hi => by omega)
  have hfin : Ext w w6 := hx5.trans_new hu6.1 hfp4
  refine rVal rfl rfl (ymv rfl) ?_
  refine rVal rfl rfl (yex rfl rfl) ?_
  refine rVal rfl rfl (yex rfl rfl) ?_
  refine rVal rfl rfl (yas rfl) ?_
  refine rVal rfl rfl (yas rfl) ?_
  refine rEnd ?_
  refine run_seq ?_
  refine run_draw (fun w' => Ext w6 w') (by kernel_rfl) rfl ?_
  refine hTake (i := 0) rfl (by kernel_rfl) rfl rfl (fun _ hS => ymv rfl) (Ext.drew0 w6) ?_
  refine hTake (i := 1) rfl (by kernel_rfl) rfl rfl (fun _ hS => yeq rfl rfl) (Ext.drew0 w6) ?_
  refine hTrue (by (first | rfl | assumption | omega | decide)) ?_
  refine hTake (i := 2) rfl (by kernel_rfl) rfl rfl (fun _ hS => ymv rfl) (Ext.drew0 w6) ?_
  refine hTake (i := 3) rfl (by kernel_rfl) rfl rfl (fun _ hS => ymv rfl) (Ext.drew0 w6) ?_
  refine hTwo (i := 4) (j := 6) (by kernel_rfl) ?_ ?_
  · skip
    refine nValP (i := 4) rfl rfl rfl (pmk (c := 512) (n := 512) Try.underlying30 ti5 rfl rfl rfl (by decide) (by decide) (by decide)) ?_
    rintro _ wa ⟨ba, rfl, ⟨hba, hxa, hBa⟩, -⟩
    refine ⟨(Ext.drew0 w6).trans hxa, ?_⟩
    refine hTwo (i := 5) (j := 6) (by kernel_rfl) ?_ ?_
    · skip
      refine nVal (i := 5) rfl rfl rfl (yB2S (l := zeros 512) Try.underlying30 Try.underlying5 Try.underlying9 rfl (hBa) (zeros_whole 512) (by rfl)) (((Ext.drew0 w6).trans hxa)) ?_
      refine hOne (i := 6) (by kernel_rfl) ?_
      refine nCall (i := 6) rfl rfl rfl (yc (args := [.const (Value.string (⟨#[97]⟩)), .const (Value.int .i64 512)]) cf38 rfl) (fill_ret [97] 512 _ (by decide) (by decide)) ?_
      rintro _ wb ⟨rfl, rfl⟩
      refine ⟨((Ext.drew0 w6).trans hxa), ?_⟩
      refine hTake (i := 7) rfl (by kernel_rfl) rfl rfl (fun _ hS => ycatS rfl rfl (by decide)) (((Ext.drew0 w6).trans hxa)) ?_
      refine hTake (i := 8) rfl (by kernel_rfl) rfl rfl (fun _ hS => yeqS rfl rfl) (((Ext.drew0 w6).trans hxa)) ?_
      refine hTrue (by (first | rfl | assumption | omega | decide)) ?_
      refine hTake (i := 9) rfl (by kernel_rfl) rfl rfl (fun _ hS => ypT rfl rfl) (((Ext.drew0 w6).trans hxa)) ?_
      refine hTake (i := 10) rfl (by kernel_rfl) rfl rfl (fun _ hS => yas rfl) (((Ext.drew0 w6).trans hxa)) ?_
      refine hEnd (by kernel_rfl) ?_
      refine run_ret Try.func24 rfl ?_
      refine ⟨_, rfl, rfl, hfin.trans (((Ext.drew0 w6).trans hxa))⟩
    · skip
      refine nCall (i := 6) rfl rfl rfl (yc (args := [.const (Value.string (⟨#[97]⟩)), .const (Value.int .i64 512)]) cf38 rfl) (fill_ret [97] 512 _ (by decide) (by decide)) ?_
      rintro _ wb ⟨rfl, rfl⟩
      refine ⟨((Ext.drew0 w6).trans hxa), ?_⟩
      refine hOne (i := 5) (by kernel_rfl) ?_
      refine nVal (i := 5) rfl rfl rfl (yB2S (l := zeros 512) Try.underlying30 Try.underlying5 Try.underlying9 rfl (hBa) (zeros_whole 512) (by rfl)) (((Ext.drew0 w6).trans hxa)) ?_
      refine hTake (i := 7) rfl (by kernel_rfl) rfl rfl (fun _ hS => ycatS rfl rfl (by decide)) (((Ext.drew0 w6).trans hxa)) ?_
      refine hTake (i := 8) rfl (by kernel_rfl) rfl rfl (fun _ hS => yeqS rfl rfl) (((Ext.drew0 w6).trans hxa)) ?_
      refine hTrue (by (first | rfl | assumption | omega | decide)) ?_
      refine hTake (i := 9) rfl (by kernel_rfl) rfl rfl (fun _ hS => ypT rfl rfl) (((Ext.drew0 w6).trans hxa)) ?_
      refine hTake (i := 10) rfl (by kernel_rfl) rfl rfl (fun _ hS => yas rfl) (((Ext.drew0 w6).trans hxa)) ?_
      refine hEnd (by kernel_rfl) ?_
      refine run_ret Try.func24 rfl ?_
      refine ⟨_, rfl, rfl, hfin.trans (((Ext.drew0 w6).trans hxa))⟩
  · skip
    refine nCall (i := 6) rfl rfl rfl (yc (args := [.const (Value.string (⟨#[97]⟩)), .const (Value.int .i64 512)]) cf38 rfl) (fill_ret [97] 512 _ (by decide) (by decide)) ?_
    rintro _ wb ⟨rfl, rfl⟩
    refine ⟨Ext.drew0 w6, ?_⟩
    refine hOne (i := 4) (by kernel_rfl) ?_
    refine nValP (i := 4) rfl rfl rfl (pmk (c := 512) (n := 512) Try.underlying30 ti5 rfl rfl rfl (by decide) (by decide) (by decide)) ?_
    rintro _ wa ⟨ba, rfl, ⟨hba, hxa, hBa⟩, -⟩
    refine ⟨(Ext.drew0 w6).trans hxa, ?_⟩
    refine hOne (i := 5) (by kernel_rfl) ?_
    refine nVal (i := 5) rfl rfl rfl (yB2S (l := zeros 512) Try.underlying30 Try.underlying5 Try.underlying9 rfl (hBa) (zeros_whole 512) (by rfl)) (((Ext.drew0 w6).trans hxa)) ?_
    refine hTake (i := 7) rfl (by kernel_rfl) rfl rfl (fun _ hS => ycatS rfl rfl (by decide)) (((Ext.drew0 w6).trans hxa)) ?_
    refine hTake (i := 8) rfl (by kernel_rfl) rfl rfl (fun _ hS => yeqS rfl rfl) (((Ext.drew0 w6).trans hxa)) ?_
    refine hTrue (by (first | rfl | assumption | omega | decide)) ?_
    refine hTake (i := 9) rfl (by kernel_rfl) rfl rfl (fun _ hS => ypT rfl rfl) (((Ext.drew0 w6).trans hxa)) ?_
    refine hTake (i := 10) rfl (by kernel_rfl) rfl rfl (fun _ hS => yas rfl) (((Ext.drew0 w6).trans hxa)) ?_
    refine hEnd (by kernel_rfl) ?_
    refine run_ret Try.func24 rfl ?_
    refine ⟨_, rfl, rfl, hfin.trans (((Ext.drew0 w6).trans hxa))⟩
end Go.Proofs.Ytdapkfppcaaohaa
