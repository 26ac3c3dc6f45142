/- The device's functions walked: the counts, own, Read, Write, Plan, Pull, Restart. -/
import Derived.Test.YtdapkfppcaaohaaDevB
namespace Go.Proofs.Ytdapkfppcaaohaa
open Go Go.RowKit
set_option linter.all false
set_option maxRecDepth 100000

theorem ints_one (l : List Int) : ∀ c ∈ l.map I, c.oneCell' = true := fun c hc => by
  simp at hc; obtain ⟨_, _, rfl⟩ := hc; rfl
theorem wrs_one (l : List (Int × Bytes)) : ∀ c ∈ wrs l, c.oneCell' = true := fun c hc => by
  simp [wrs, wr] at hc; obtain ⟨_, _, _, h | h⟩ := hc <;> subst h <;> rfl

section
variable {w : World} {p m : Nat} {kp ca : Value} {D : Dev}

theorem down_ret (h : DevM w p m kp ca D) : Ret Try.prog 34 [ptr p 0] w fun v w' => v = .bool D.down ∧ w' = w := by
  have hM := h.blk
  refine ret_of_run (e := [(0, _)]) Try.func34 rfl Try.ntmps34 rfl rfl ?_
  refine run_seq ?_
  refine run_reg rfl ?_
  refine rVal rfl rfl (yas rfl) ?_
  refine rEnd ?_
  refine run_seq ?_
  refine run_reg rfl ?_
  refine rVal rfl rfl (ymv rfl) ?_
  refine rVal rfl rfl (yeqpN Try.underlying46 rfl rfl) ?_
  refine rVal rfl rfl (ymv rfl) ?_
  refine rVal rfl rfl (ymv rfl) ?_
  refine rVal rfl rfl ((by first | exact ync rfl | exact yncf rfl)) ?_
  refine rVal rfl rfl (yfa fl108_4 rfl) ?_
  refine rVal rfl rfl (yld Try.underlying4 rfl rfl hM rfl) ?_
  refine rVal rfl rfl (ypF rfl rfl) ?_
  refine rVal rfl rfl (yas rfl) ?_
  refine rEnd ?_
  refine run_ret Try.func34 rfl ?_
  exact ⟨_, rfl, rfl, rfl⟩
theorem calls_ret (h : DevM w p m kp ca D) : Ret Try.prog 35 [ptr p 0] w fun v w' => v = I D.calls ∧ w' = w := by
  have hM := h.blk
  refine ret_of_run (e := [(0, _)]) Try.func35 rfl Try.ntmps35 rfl rfl ?_
  refine run_seq ?_
  refine run_reg rfl ?_
  refine rVal rfl rfl (yas rfl) ?_
  refine rEnd ?_
  refine run_seq ?_
  refine run_seq ?_
  refine run_reg rfl ?_
  refine rVal rfl rfl (ymv rfl) ?_
  refine rVal rfl rfl (yeqpN Try.underlying46 rfl rfl) ?_
  refine rEnd ?_
  refine run_false rfl ?_
  refine run_skip ?_
  refine run_seq ?_
  refine run_reg rfl ?_
  refine rVal rfl rfl (ymv rfl) ?_
  refine rVal rfl rfl ((by first | exact ync rfl | exact yncf rfl)) ?_
  refine rVal rfl rfl (yfa fl108_5 rfl) ?_
  refine rVal rfl rfl (yld Try.underlying3 rfl rfl hM rfl) ?_
  refine rVal rfl rfl (yas rfl) ?_
  refine rEnd ?_
  refine run_ret Try.func35 rfl ?_
  exact ⟨_, rfl, rfl, rfl⟩
theorem reads_ret (h : DevM w p m kp ca D) : Ret Try.prog 51 [ptr p 0] w fun v w' => v = I D.reads ∧ w' = w := by
  have hM := h.blk
  refine ret_of_run (e := [(0, _)]) Try.func51 rfl Try.ntmps51 rfl rfl ?_
  refine run_seq ?_
  refine run_reg rfl ?_
  refine rVal rfl rfl (yas rfl) ?_
  refine rEnd ?_
  refine run_seq ?_
  refine run_seq ?_
  refine run_reg rfl ?_
  refine rVal rfl rfl (ymv rfl) ?_
  refine rVal rfl rfl (yeqpN Try.underlying46 rfl rfl) ?_
  refine rEnd ?_
  refine run_false rfl ?_
  refine run_skip ?_
  refine run_seq ?_
  refine run_reg rfl ?_
  refine rVal rfl rfl (ymv rfl) ?_
  refine rVal rfl rfl ((by first | exact ync rfl | exact yncf rfl)) ?_
  refine rVal rfl rfl (yfa fl108_6 rfl) ?_
  refine rVal rfl rfl (yld Try.underlying3 rfl rfl hM rfl) ?_
  refine rVal rfl rfl (yas rfl) ?_
  refine rEnd ?_
  refine run_ret Try.func51 rfl ?_
  exact ⟨_, rfl, rfl, rfl⟩
theorem unflushed_ret (h : DevM w p m kp ca D) : Ret Try.prog 30 [ptr p 0] w fun v w' => v = I (D.cache.length : Int) ∧ w' = w := by
  obtain ⟨a, cap, rfl, ha⟩ := h.cache.rd.shape
  have hM := h.blk
  refine ret_of_run (e := [(0, _)]) Try.func30 rfl Try.ntmps30 rfl rfl ?_
  refine run_seq ?_
  refine run_reg rfl ?_
  refine rVal rfl rfl (yas rfl) ?_
  refine rEnd ?_
  refine run_seq ?_
  refine run_seq ?_
  refine run_reg rfl ?_
  refine rVal rfl rfl (ymv rfl) ?_
  refine rVal rfl rfl (yeqpN Try.underlying46 rfl rfl) ?_
  refine rEnd ?_
  refine run_false rfl ?_
  refine run_skip ?_
  refine run_seq ?_
  refine run_reg rfl ?_
  refine rVal rfl rfl (ymv rfl) ?_
  refine rVal rfl rfl ((by first | exact ync rfl | exact yncf rfl)) ?_
  refine rVal rfl rfl (yfa fl108_3 rfl) ?_
  refine rVal rfl rfl (yld Try.underlying106 rfl rfl hM rfl) ?_
  refine rVal rfl rfl (yln Try.underlying106 rfl) ?_
  refine rVal rfl rfl (yas rfl) ?_
  refine rEnd ?_
  refine run_ret Try.func30 rfl ?_
  exact ⟨_, rfl, rfl, rfl⟩

theorem restart_ret (h : DevM w p m kp ca D) : Ret Try.prog 27 [ptr p 0] w fun v w' => v = I (if D.down then 0 else 5) ∧ DevM w' p m kp ca { D with down := false } ∧ Kp (fun k => k = p) w w' := by
  have hM := h.blk
  refine ret_of_run (e := [(0, _)]) Try.func27 rfl Try.ntmps27 rfl rfl ?_
  refine run_seq ?_
  refine run_reg rfl ?_
  refine rVal rfl rfl (yas rfl) ?_
  refine rEnd ?_
  refine run_seq ?_
  refine run_block ?_
  refine run_seq ?_
  refine run_reg rfl ?_
  refine rVal rfl rfl (ymv rfl) ?_
  refine rVal rfl rfl (yeqpN Try.underlying46 rfl rfl) ?_
  refine rVal rfl rfl (yas rfl) ?_
  refine rEnd ?_
  refine run_false rfl ?_
  refine run_seq ?_
  refine run_reg rfl ?_
  refine rVal rfl rfl (ymv rfl) ?_
  refine rVal rfl rfl ((by first | exact ync rfl | exact yncf rfl)) ?_
  refine rVal rfl rfl (yfa fl108_4 rfl) ?_
  refine rVal rfl rfl (yld Try.underlying4 rfl rfl hM rfl) ?_
  refine rVal rfl rfl ((by first | exact yntd rfl | exact ynt rfl)) ?_
  refine rVal rfl rfl (yas rfl) ?_
  refine rEnd ?_
  cases hd : D.down with
  | false =>
    refine run_true rfl ?_
    refine run_seq ?_
    refine run_reg rfl ?_
    refine rVal rfl rfl (yas rfl) ?_
    refine rEnd ?_
    refine run_ret Try.func27 rfl ?_
    have e : { D with down := false } = D := by cases D; simp_all
    exact ⟨_, rfl, rfl, by rw [e]; exact h, Kp.refl _ _⟩
  | true =>
    refine run_false rfl ?_
    refine run_skip ?_
    refine run_inBlock ?_
    refine run_seq ?_
    refine run_reg rfl ?_
    refine rVal rfl rfl (ymv rfl) ?_
    refine rVal rfl rfl ((by first | exact ync rfl | exact yncf rfl)) ?_
    refine rVal rfl rfl (yfa fl108_4 rfl) ?_
    refine rEffP rfl (zst ti4 rfl rfl rfl hM (by simp)) ?_
    rintro w1 ⟨hM1, hk1⟩
    refine rEnd ?_
    refine run_seq ?_
    refine run_reg rfl ?_
    refine rVal rfl rfl (yas rfl) ?_
    refine rEnd ?_
    refine run_ret Try.func27 rfl ?_
    exact ⟨_, rfl, rfl, h.turn hM1 hk1 rfl rfl rfl rfl ⟨h.ok.hB, h.ok.hN, h.ok.due, h.ok.sf, h.ok.cache, h.ok.len, h.ok.reads⟩, hk1⟩

/-- A copy of a list of numbers, in memory of its own. -/
theorem cloneI_ret (v : Value) (l : List Int) (hl : l.length ≤ 17592186044416) (hr : Rd w v 1 l.length (l.map I)) (hcap : v = .slice none 0 0 ∨ ∃ a cap, v = .slice (some a) l.length cap) :
    Ret Try.prog 83 [v] w fun v' w' => Sl w' v' 3 1 l.length (l.map I) ∧ Ext w w' ∧ ∀ g, v'.ownBlock = some g → w.heap.size ≤ g := by
  have hml : maxLen = 9223372036854775807 := rfl
  refine ret_of_run (e := [(0, _)]) Try.func83 rfl Try.ntmps83 rfl rfl ?_
  rcases hcap with rfl | ⟨a, cap, rfl⟩
  · have hl0 : l = [] := by
      obtain ⟨a, cap, h1, h2⟩ := hr.shape
      simp at h1
      exact List.eq_nil_of_length_eq_zero (by omega)
    subst hl0
    refine run_seq ?_
    refine run_reg rfl ?_
    refine rVal rfl rfl (yas rfl) ?_
    refine rEnd ?_
    refine run_seq ?_
    refine run_seq ?_
    refine run_reg rfl ?_
    refine rVal rfl rfl (ymv rfl) ?_
    refine rVal rfl rfl (yeqsN Try.underlying43 rfl rfl) ?_
    refine rEnd ?_
    refine run_true rfl ?_
    refine run_seq ?_
    refine run_reg rfl ?_
    refine rVal rfl rfl (yas rfl) ?_
    refine rEnd ?_
    refine run_ret Try.func83 rfl ?_
    exact ⟨_, rfl, Sl.nil w _ _, Ext.refl w, fun g hg => by cases hg⟩
  · skip
    refine run_seq ?_
    refine run_reg rfl ?_
    refine rVal rfl rfl (yas rfl) ?_
    refine rEnd ?_
    refine run_seq ?_
    refine run_seq ?_
    refine run_reg rfl ?_
    refine rVal rfl rfl (ymv rfl) ?_
    refine rVal rfl rfl (yeqsN Try.underlying43 rfl rfl) ?_
    refine rEnd ?_
    refine run_false rfl ?_
    refine run_skip ?_
    refine run_seq ?_
    refine run_reg rfl ?_
    refine rValP rfl rfl (pbs (parts := []) (cs := []) (zs := []) Try.underlying43 ti3 rfl (by kernel_rfl) rfl rfl rfl (by decide)) ?_
    rintro _ w1 ⟨b5, rfl, ⟨hb5, hx1, hB5⟩, hS5⟩
    refine rVal rfl rfl (ymv rfl) ?_
    refine rValP rfl rfl (pap Try.underlying43 ti3 rfl (by decide) rfl rfl hS5 (hr.ext hx1) (ints_one l) (by omega) (by omega)) ?_
    rintro v' w2 ⟨hS', hk, hown, -⟩
    refine rVal rfl rfl (yas rfl) ?_
    refine rEnd ?_
    refine run_ret Try.func83 rfl ?_
    simp only [Nat.zero_add, List.nil_append] at hS'
    refine ⟨_, rfl, hS', hx1.trans_new hk (fun i hi => ?_), fun g hg => ?_⟩
    · have hi' : b5 = i := Option.some.inj hi
      omega
    · rcases hown g hg with h | h
      · have h' : b5 = g := Option.some.inj h
        omega
      · have := hx1.size; omega

/-- The same of writes. -/
theorem cloneW_ret (v : Value) (l : List (Int × Bytes)) (hl : l.length ≤ 1000000000) (hr : Rd w v 2 l.length (wrs l)) (hcap : v = .slice none 0 0 ∨ ∃ a cap, v = .slice (some a) l.length cap) :
    Ret Try.prog 66 [v] w fun v' w' => Sl w' v' 114 2 l.length (wrs l) ∧ Ext w w' ∧ ∀ g, v'.ownBlock = some g → w.heap.size ≤ g := by
  have hml : maxLen = 9223372036854775807 := rfl
  refine ret_of_run (e := [(0, _)]) Try.func66 rfl Try.ntmps66 rfl rfl ?_
  rcases hcap with rfl | ⟨a, cap, rfl⟩
  · have hl0 : l = [] := by
      obtain ⟨a, cap, h1, h2⟩ := hr.shape
      simp at h1
      exact List.eq_nil_of_length_eq_zero (by omega)
    subst hl0
    refine run_seq ?_
    refine run_reg rfl ?_
    refine rVal rfl rfl (yas rfl) ?_
    refine rEnd ?_
    refine run_seq ?_
    refine run_seq ?_
    refine run_reg rfl ?_
    refine rVal rfl rfl (ymv rfl) ?_
    refine rVal rfl rfl (yeqsN Try.underlying106 rfl rfl) ?_
    refine rEnd ?_
    refine run_true rfl ?_
    refine run_seq ?_
    refine run_reg rfl ?_
    refine rVal rfl rfl (yas rfl) ?_
    refine rEnd ?_
    refine run_ret Try.func66 rfl ?_
    exact ⟨_, rfl, Sl.nil w _ _, Ext.refl w, fun g hg => by cases hg⟩
  · skip
    refine run_seq ?_
    refine run_reg rfl ?_
    refine rVal rfl rfl (yas rfl) ?_
    refine rEnd ?_
    refine run_seq ?_
    refine run_seq ?_
    refine run_reg rfl ?_
    refine rVal rfl rfl (ymv rfl) ?_
    refine rVal rfl rfl (yeqsN Try.underlying106 rfl rfl) ?_
    refine rEnd ?_
    refine run_false rfl ?_
    refine run_skip ?_
    refine run_seq ?_
    refine run_reg rfl ?_
    refine rValP rfl rfl (pbs (parts := []) (cs := []) (zs := []) Try.underlying106 ti114 rfl (by kernel_rfl) rfl rfl rfl (by decide)) ?_
    rintro _ w1 ⟨b5, rfl, ⟨hb5, hx1, hB5⟩, hS5⟩
    refine rVal rfl rfl (ymv rfl) ?_
    refine rValP rfl rfl (pap Try.underlying106 ti114 rfl (by decide) rfl rfl hS5 (hr.ext hx1) (wrs_one l) (by omega) (by omega)) ?_
    rintro v' w2 ⟨hS', hk, hown, -⟩
    refine rVal rfl rfl (yas rfl) ?_
    refine rEnd ?_
    refine run_ret Try.func66 rfl ?_
    simp only [Nat.zero_add, List.nil_append] at hS'
    refine ⟨_, rfl, hS', hx1.trans_new hk (fun i hi => ?_), fun g hg => ?_⟩
    · have hi' : b5 = i := Option.some.inj hi
      omega
    · rcases hown g hg with h | h
      · have h' : b5 = g := Option.some.inj h
        omega
      · have := hx1.size; omega

theorem cloneM_ret (mm : Nat) (kv : List (Int × Value)) (hm : MapL KI w mm kv) :
    Ret Try.prog 65 [.map (some mm)] w fun v' w' => ∃ m', v' = .map (some m') ∧ MapL KI w' m' kv ∧ Ext w w' ∧ w.heap.size ≤ m' := by
  refine ret_of_run (e := [(0, _)]) Try.func65 rfl Try.ntmps65 rfl rfl ?_
  refine run_seq ?_
  refine run_reg rfl ?_
  refine rVal rfl rfl (yas rfl) ?_
  refine rEnd ?_
  refine run_seq ?_
  refine run_seq ?_
  refine run_reg rfl ?_
  refine rVal rfl rfl (ymv rfl) ?_
  refine rVal rfl rfl (yeqmN Try.underlying105 rfl rfl) ?_
  refine rEnd ?_
  refine run_false rfl ?_
  refine run_skip ?_
  refine run_seq ?_
  refine run_reg rfl ?_
  refine rVal rfl rfl (ymv rfl) ?_
  refine rVal rfl rfl (ymkM Try.underlying105 rfl) ?_
  refine rValP rfl rfl (pcl Try.func84 (by kernel_rfl) (by kernel_rfl) (by kernel_rfl) (by kernel_rfl) rfl hm) ?_
  rintro _ w1 ⟨m', rfl, hm', hx1, hM1⟩
  refine rVal rfl rfl (ytaM Try.underlying105 rfl) ?_
  refine rVal rfl rfl (yas rfl) ?_
  refine rEnd ?_
  refine run_ret Try.func65 rfl ?_
  exact ⟨_, rfl, m', rfl, hM1, hx1, by omega⟩

/-- A crash with a list of its own. -/
theorem own_ret (v : Value) (l : List Int) (tn : Int) (mk : UInt8) (hl : l.length ≤ 17592186044416) (hr : Rd w v 1 l.length (l.map I)) (hcap : v = .slice none 0 0 ∨ ∃ a cap, v = .slice (some a) l.length cap) :
    Ret Try.prog 64 [.agg #[v, I tn, u8v mk]] w fun u w' => ∃ v', u = .agg #[v', I tn, u8v mk] ∧ Sl w' v' 3 1 l.length (l.map I) ∧ Ext w w' ∧ ∀ g, v'.ownBlock = some g → w.heap.size ≤ g := by
  have hvo : oneV v = true := by rcases hcap with rfl | ⟨a, cap, rfl⟩ <;> rfl
  refine ret_of_run (e := [(0, _)]) Try.func64 rfl Try.ntmps64 rfl rfl ?_
  refine run_seq ?_
  refine run_reg rfl ?_
  refine rValP rfl rfl (pbx rfl rfl) ?_
  rintro _ w1 ⟨b1, rfl, hb1, hx1, hB1⟩
  refine rValP rfl rfl (pal (cs := [_, _, _]) ti51 rfl) ?_
  rintro _ w2 ⟨b2, rfl, hb2, hx2, hB2⟩
  have l1 := hB1.lt
  have l2 := hB2.lt
  replace hB1 := hx2.blk hB1
  replace hr := (hr.ext hx1).ext hx2
  have hs1 := hx1.size
  have hs2 := hx2.size
  refine rEnd ?_
  refine run_seq ?_
  refine run_reg rfl ?_
  refine rVal rfl rfl (yfa fl51_0 rfl) ?_
  refine rVal rfl rfl (yld Try.underlying43 rfl rfl hB1 rfl) ?_
  refine rCall rfl rfl (yc (args := [.tmp 4]) cf83 rfl) (cloneI_ret v l hl hr hcap) ?_
  rintro v' w3 ⟨hS3, hx3, hg3⟩
  replace hB1 := hx3.blk hB1
  replace hB2 := hx3.blk hB2
  have hvo' : oneV v' = true := by rcases hS3.shape with ⟨rfl, -⟩ | ⟨g, cap, rfl, -⟩ <;> rfl
  have hlt1 := hB1.lt
  refine rVal rfl rfl (yfa fl51_0 rfl) ?_
  refine rEffP rfl (zst ti43 rfl rfl hvo' hB1 (by simp)) ?_
  rintro w4 ⟨hB4, hk4⟩
  replace hB4 : Blk w4 b1 [v', I tn, u8v mk] 51 := hB4
  have hS4 : Sl w4 v' 3 1 l.length (l.map I) := hS3.kp hk4 fun g hg => by have := hg3 g hg; omega
  have hB2' := hk4.blk hB2 (by omega)
  refine rEnd ?_
  refine run_seq ?_
  refine run_reg rfl ?_
  refine rVal rfl rfl (yldA Try.underlying51 rfl ti51 rfl (Blk.cells (n := 3) hB4 (news := [_, _, _]) rfl) rfl) ?_
  refine rEffP rfl (zstA ti51 rfl rfl (by simp only [List.all_cons, hvo', List.all_nil, Bool.and_true, Bool.true_and]; rfl) rfl hB2' (by simp)) ?_
  rintro w5 ⟨hB5, hk5⟩
  refine rEnd ?_
  refine run_retR Try.func64 (.cell Try.underlying51 rfl ti51 rfl (Blk.cells (n := 3) hB5 (news := [_, _, _]) rfl) rfl .nil) ?_
  refine ⟨_, rfl, v', rfl, hS4.kp hk5 fun g hg => by have := hg3 g hg; omega, ?_, fun g hg => by have := hg3 g hg; omega⟩
  exact (((hx1.trans hx2).trans hx3).trans_new hk4 (fun i hi => by omega)).trans_new hk5 (fun i hi => by omega)
end
end Go.Proofs.Ytdapkfppcaaohaa
