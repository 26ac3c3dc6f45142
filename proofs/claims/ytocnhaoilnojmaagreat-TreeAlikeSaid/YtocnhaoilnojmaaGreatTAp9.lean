/- Texts LwQ, LwE, LwR, LwK, LwU, LwV, Row, LwO, LwW, one behind the other (what the statement TreeAlike does not use is left out). -/
import Derived.Test.YtocnhaoilnojmaaGreatTAp1
import Derived.Test.YtocnhaoilnojmaaGreatTAp8
import Derived.Test.YtocnhaoilnojmaaGreatTAp5
import Derived.Laws.StructEq
import Derived.ChangeKeysEq
import Derived.Test.YtocnhaoilnojmaaGreatRows
import Derived.SizedLaws
import Derived.Carry
import Derived.WalkKit
import Derived.ProofKit
import Derived.OpenShut
import Derived.ShutString
import Derived.ChangeOld
import Derived.Below
import Derived.Lib.SmallJoins
import Derived.Deep.Slices
import Derived.Deep.Strs
namespace Go.Proofs.YtocnhaoilnojmaaGreat
open Go Go.RowKit
set_option linter.all false
set_option maxRecDepth 100000
section
variable {w : World} {q : Nat} {X : Sx} {p m : Nat} {mv sv gv : Value} {nb : Int → Nat} {F : Nat → Prop} {k : Nat}
set_option maxHeartbeats 4000000 in
theorem needS_ret (hM : StM w q X p m mv sv gv nb F) (hG : Gh X k) (hz : sizeOk (X.T.size : Int)) (hk : k ≤ 350) :
  Ret Tryz.prog 37 [ptr q 0] w fun v w' => v = .bool true ∧ ∃ X' gv' F' i, StM w' q X' p m mv sv gv' nb F' ∧ NeedI X X' i ∧ i ≤ 2000 ∧ X.H + 1 ≤ X'.T.given.length ∧ Kp (fpS q m mv sv gv F) w w' ∧ ∀ k, fpS q m mv sv gv' F' k → fpS q m mv sv gv F k ∨ w.heap.size ≤ k := by
 have hcn := Inv.cnts hz hG.inv
 have hel := hG.el
 have hml : maxLen = 9223372036854775807 := rfl
 refine ret_of_run (e := [(0, _)]) Tryz.func37 rfl Tryz.ntmps37 rfl rfl ?_; refine qN rfl ?_; refine qV (yas rfl) ?_; refine rEnd ?_; refine run_seq ?_; refine qN rfl ?_; refine qV (yas rfl) ?_; refine rEnd ?_; refine run_block ?_; refine run_cut2 (fun e' w' => e' = [(0, ptr q 0)] ∧ ∃ X' gv' F' i, StM w' q X' p m mv sv gv' nb F' ∧ NeedI X X' i ∧ i ≤ 2000 ∧ X.H + 1 ≤ X'.T.given.length ∧ Kp (fpS q m mv sv gv F) w w' ∧ ∀ k, fpS q m mv sv gv' F' k → fpS q m mv sv gv F k ∨ w.heap.size ≤ k) ?hkz (fun hkz => ?hmainz)
 case hkz =>
  rintro e' w1 ⟨rfl, X', gv', F', i, hM1, hN, hi, hge, hk1, hf1⟩
  have hB1 := hM1.blk
  have hg : Ext w1 w1.drew := Ext.drew0 w1
  have hI1 := hN.inv
  have hgl := hI1.gl
  refine run_seq ?_; refine run_draw (fun w' => Ext w1 w') (by kernel_rfl) rfl ?_; refine qT 0 rfl (fun _ hS => ymv rfl) (hg) ?_; refine qT 1 rfl (fun _ hS => (by first | exact ync rfl | exact yncf rfl)) (hg) ?_; refine qT 2 rfl (fun _ hS => yfa fl36_1 rfl) (hg) ?_; refine qT 3 rfl (fun _ hS => yld U24 rfl rfl (hS.blk hB1) rfl) (hg) ?_; refine qT 6 rfl (fun _ hS => ymv rfl) (hg) ?_; refine qT 7 rfl (fun _ hS => (by first | exact ync rfl | exact yncf rfl)) (hg) ?_; refine qT 8 rfl (fun _ hS => yfa fl36_1 rfl) (hg) ?_; refine qT 9 rfl (fun _ hS => yld U24 rfl rfl (hS.blk hB1) rfl) (hg) ?_
  refine qO 4 ?_; refine nCall (i := 4) rfl rfl rfl (yc (args := [.tmp 56]) cf27 rfl) (given_ret (hM1.tree.ext hg) (by omega)) ?_
  rintro v2 w2 ⟨hS2, hx2, -⟩
  refine ⟨hg.trans hx2, ?_⟩
  obtain ⟨ga, gc, rfl, -⟩ := hS2.rd.shape
  refine qT 5 rfl (fun _ hS => yln U34 rfl) (hg.trans hx2) ?_; refine qO 10 ?_; refine nCall (i := 10) rfl rfl rfl (yc (args := [.tmp 62]) cf25 rfl) (need_ret ((hM1.tree.ext hg).ext hx2) hI1 (by omega)) ?_
  rintro _ w3 ⟨rfl, hw3⟩
  refine ⟨(by rw [hw3]; exact hg.trans hx2), ?_⟩
  have hx3 : Ext w1 w3 := by rw [hw3]; exact hg.trans hx2
  refine qT 11 rfl (fun _ hS => yge rfl rfl) ((by rw [hw3]; exact hg.trans hx2)) ?_
  refine qT 12 rfl (fun _ hS => yas rfl) ((by rw [hw3]; exact hg.trans hx2)) ?_
  refine qE ?_; refine run_ret Tryz.func37 rfl ?_; refine ⟨_, rfl, ?_, X', gv', F', i, hM1.ext hx3, hN, hi, hge, hk1.trans hx3.kp, hf1⟩
  rw [decide_eq_true (by omega)]; rfl
 case hmainz =>
  refine run_loop (α := Nat × Sx × Value × (Nat → Prop)) ((0, X, gv, F)) (fun x => [(0, ptr q 0), (3, I (x.1 : Int))]) (fun x w' => x.1 ≤ 2000 ∧ StM w' q x.2.1 p m mv sv x.2.2.1 nb x.2.2.2 ∧ NeedI X x.2.1 x.1 ∧ Kp (fpS q m mv sv gv F) w w' ∧ ∀ k, fpS q m mv sv x.2.2.1 x.2.2.2 k → fpS q m mv sv gv F k ∨ w.heap.size ≤ k) (fun x => 2000 - x.1) (by repeat (first | exact Sub.nil | refine Sub.cons rfl ?_)) ?hI ?hround
  case hI => exact ⟨Nat.zero_le _, hM, NeedI.zero hG, Kp.refl _ _, fun _ h => .inl h⟩
  case hround =>
   rintro ⟨i, X1, gv1, F1⟩ w1 ⟨hi, hM1, hN, hk1, hf1⟩ ih
   dsimp only at hi hM1 hN hf1
   have hB1 := hM1.blk
   have hg : Ext w1 w1.drew := Ext.drew0 w1
   have hI1 := hN.inv
   have hgl := hI1.gl
   have hT1 : X1.T.size = X.T.size := by rw [hN.eT]
   have hz1 : sizeOk (X1.T.size : Int) := by rw [hT1]; exact hz
   have hex := hN.ex
   have hnl := hG.nl
   have hszk := hk1.size
   try dsimp only
   refine run_seq ?_; refine run_seq ?_; refine run_draw (fun w' => Ext w1 w') (by kernel_rfl) rfl ?_; refine qT 0 rfl (fun _ hS => ymv rfl) (hg) ?_; refine qT 1 rfl (fun _ hS => ylt rfl rfl) (hg) ?_; refine qT 2 rfl (fun _ hS => ymv rfl) (hg) ?_; refine rh_if (fun h2000 => ?_) (fun h2000 => ?_)
   ·skip
    refine qT 3 rfl (fun _ hS => ymv rfl) (hg) ?_; refine qT 4 rfl (fun _ hS => (by first | exact ync rfl | exact yncf rfl)) (hg) ?_; refine qT 5 rfl (fun _ hS => yfa fl36_1 rfl) (hg) ?_; refine qT 6 rfl (fun _ hS => yld U24 rfl rfl (hS.blk hB1) rfl) (hg) ?_; refine qT 9 rfl (fun _ hS => ymv rfl) (hg) ?_; refine qT 10 rfl (fun _ hS => (by first | exact ync rfl | exact yncf rfl)) (hg) ?_; refine qT 11 rfl (fun _ hS => yfa fl36_1 rfl) (hg) ?_; refine qT 12 rfl (fun _ hS => yld U24 rfl rfl (hS.blk hB1) rfl) (hg) ?_; refine qO 7 ?_
    refine nCall (i := 7) rfl rfl rfl (yc (args := [.tmp 10]) cf27 rfl) (given_ret (hM1.tree.ext hg) (by omega)) ?_
    rintro v2 w2 ⟨hS2, hx2, -⟩
    refine ⟨hg.trans hx2, ?_⟩
    obtain ⟨ga, gc, rfl, -⟩ := hS2.rd.shape
    refine qT 8 rfl (fun _ hS => yln U34 rfl) (hg.trans hx2) ?_; refine qO 13 ?_; refine nCall (i := 13) rfl rfl rfl (yc (args := [.tmp 16]) cf25 rfl) (need_ret ((hM1.tree.ext hg).ext hx2) hI1 (by omega)) ?_
    rintro _ w3 ⟨rfl, hw3⟩
    refine ⟨(by rw [hw3]; exact hg.trans hx2), ?_⟩
    have hx3 : Ext w1 w3 := by rw [hw3]; exact hg.trans hx2
    have hM3 := hM1.ext hx3
    have hB3 := hM3.blk
    refine qT 14 rfl (fun _ hS => ylt rfl rfl) ((by rw [hw3]; exact hg.trans hx2)) ?_
    refine qT 15 rfl (fun _ hS => ypT rfl rfl) ((by rw [hw3]; exact hg.trans hx2)) ?_
    refine qE ?_; refine run_if rfl (fun hlt => ?_) (fun hlt => ?_)
    ·skip
     have hi2 : i < 2000 := by omega
     refine run_skip ?_; refine run_seq ?_; refine run_block ?_; refine qN rfl ?_; refine qV (ymv rfl) ?_; refine qV ((by first | exact ync rfl | exact yncf rfl)) ?_; refine qV (yfa fl36_5 rfl) ?_; refine qV (yld U3 rfl rfl hB3 rfl) ?_; refine qV (yad rfl rfl (by omega)) ?_; refine qV ((by first | exact ync rfl | exact yncf rfl)) ?_; refine qV (yfa fl36_5 rfl) ?_
     rw [show ((X1.nx : Int) + 1) = ((X1.nx + 1 : Nat) : Int) by omega]
     refine rEffP rfl (zst ti3 rfl rfl rfl hB3 (by simp)) ?_
     rintro w4 ⟨hB4, hk4⟩
     replace hB4 : Blk w4 q [I (X1.T.size : Int), ptr p 0, ptr m 0, sv, gv1, I ((X1.nx + 1 : Nat) : Int)] 36 := hB4
     have hM4 := hM3.next hB4 hk4
     have hk14 : Kp (fpS q m mv sv gv1 F1) w1 w4 := hx3.kp.trans (hk4.mono' (fun k e => .inl e))
     have hk04 : Kp (fpS q m mv sv gv F) w w4 := hk1.trans_new hk14 (fun i hi => (hf1 i hi).symm)
     have hz4 := hk14.size
     have hg4 : Ext w4 w4.drew := Ext.drew0 w4
     refine rEnd ?_; refine run_seq ?_; refine run_draw (fun w' => Kp F1 w4 w') (by kernel_rfl) rfl ?_; refine qT 0 rfl (fun _ hS => ymv rfl) (hg4.kp) ?_; refine qT 1 rfl (fun _ hS => (by first | exact ync rfl | exact yncf rfl)) (hg4.kp) ?_; refine qT 2 rfl (fun _ hS => yfa fl36_1 rfl) (hg4.kp) ?_; refine qT 3 rfl (fun _ hS => yld U24 rfl rfl (hS.blk hB4 hM1.fq) rfl) (hg4.kp) ?_; refine qT 4 rfl (fun _ hS => ymv rfl) (hg4.kp) ?_; refine qT 5 rfl (fun _ hS => (by first | exact ync rfl | exact yncf rfl)) (hg4.kp) ?_; refine qT 6 rfl (fun _ hS => yfa fl36_5 rfl) (hg4.kp) ?_
     refine qT 7 rfl (fun _ hS => yld U3 rfl rfl (hS.blk hB4 hM1.fq) rfl) (hg4.kp) ?_; refine qO 8 ?_; refine nValP (i := 8) rfl rfl rfl (pbs (parts := [(0, .tmp 36)]) (cs := [_]) (zs := [Value.int .i64 0]) U34 ti3 rfl (by kernel_rfl) rfl rfl rfl (by decide)) ?_
     rintro _ w5 ⟨b5, rfl, ⟨hb5, hx5, hB5⟩, hS5⟩
     refine ⟨hg4.kp.trans hx5.kp, ?_⟩
     have hx45 := hg4.trans hx5
     have hM5 := hM4.ext hx45
     refine qO 9 ?_; refine nCall (i := 9) rfl rfl rfl (yc (args := [.tmp 32, .tmp 37]) cf50 rfl) (give_ret hM5.tree hI1 (l := [((X1.nx + 1 : Nat) : Int)]) hS5.rd (by simp)) ?_
     rintro v6 w6 hv6
     refine ⟨(by rcases hv6 with ⟨-, -, h, -⟩ | ⟨-, -, h⟩; exact hx45.kp.trans h; exact hx45.kp.trans h.kp), ?_⟩
     have hz5 := hx45.size
     have hk46 : Kp F1 w4 w6 := by rcases hv6 with ⟨-, -, h, -⟩ | ⟨-, -, h⟩; exact hx45.kp.trans h; exact hx45.kp.trans h.kp
     rcases hv6 with ⟨rfl, hok, hk6, F6, hT6, hF6⟩ | ⟨rfl, hno, hx6⟩
     ·have hMt := hM5.treed hT6 rfl hk6 hF6
      obtain ⟨hM6, hk56, hf6⟩ := hMt
      have hB6 := hM6.blk
      have hg6 : Ext w6 w6.drew := Ext.drew0 w6
      have hz6 := hk56.size
      have hgl6 := hN.gl
      have hggl := hG.gl
      refine qT 10 rfl (fun _ hS => yeq rfl rfl) hk46 ?_; refine qE ?_; refine run_if rfl (fun hc0 => ?_) (fun hc0 => ?_)
      ·skip
       refine run_drawL [13] (fun w' => Kp (fun k => gv1.ownBlock = some k) w6 w') (by kernel_rfl) rfl ?_; refine qL [11, 12, 13] 0 rfl (fun _ hS => ymv rfl) (hg6.kp) ?_; refine qL [2, 3, 4, 10, 11, 12, 13] 1 rfl (fun _ hS => ymv rfl) (hg6.kp) ?_; refine qL [3, 4, 10, 11, 12, 13] 2 rfl (fun _ hS => (by first | exact ync rfl | exact yncf rfl)) (hg6.kp) ?_; refine qL [4, 10, 11, 12, 13] 3 rfl (fun _ hS => yfa fl36_4 rfl) (hg6.kp) ?_; refine qL [10, 11, 12, 13] 4 rfl (fun _ hS => yld U34 rfl rfl (hS.blk hB6 (fun e => (hM6.ov q (.inr (.inr e))).1 rfl)) rfl) (hg6.kp) ?_
       refine qL [6, 7, 8, 9, 10, 11, 12, 13] 5 rfl (fun _ hS => ymv rfl) (hg6.kp) ?_; refine qL [7, 8, 9, 10, 11, 12, 13] 6 rfl (fun _ hS => (by first | exact ync rfl | exact yncf rfl)) (hg6.kp) ?_; refine qL [8, 9, 10, 11, 12, 13] 7 rfl (fun _ hS => yfa fl36_5 rfl) (hg6.kp) ?_; refine qL [9, 10, 11, 12, 13] 8 rfl (fun _ hS => yld U3 rfl rfl (hS.blk hB6 (fun e => (hM6.ov q (.inr (.inr e))).1 rfl)) rfl) (hg6.kp) ?_; refine hOneL (i := 9) (by kernel_rfl) ?_
       refine nValPL (i := 9) rfl rfl rfl (pbs (parts := [(0, .tmp 48)]) (cs := [_]) (zs := [Value.int .i64 0]) U34 ti3 rfl (by kernel_rfl) rfl rfl rfl (by decide)) ?_
       rintro _ w7 ⟨b7, rfl, ⟨hb7, hx7, hB7⟩, hS7⟩
       refine ⟨hg6.kp.trans hx7.kp, ?_⟩
       have hx67 := hg6.trans hx7
       refine hOneL (i := 10) (by kernel_rfl) ?_; refine nValPL (i := 10) rfl rfl rfl (pap U34 ti3 rfl (by decide) rfl rfl (hM6.giv.ext hx67) hS7.rd (by intro c hc; simp at hc; subst hc; rfl) (by dsimp only; omega) (by dsimp only; omega)) ?_
       rintro gv8 w8 ⟨hS8, hk8, ho8, -⟩
       refine ⟨hx67.kp.trans hk8, ?_⟩
       have hB8 := hk8.blk (hx67.blk hB6) (fun e => (hM6.ov q (.inr (.inr e))).1 rfl)
       refine qL [12, 13] 11 rfl (fun _ hS => (by first | exact ync rfl | exact yncf rfl)) (hx67.kp.trans hk8) ?_; refine qL [13] 12 rfl (fun _ hS => yfa fl36_4 rfl) (hx67.kp.trans hk8) ?_; refine hLate [13] (by kernel_rfl) (by kernel_rfl) ?_; refine qO 13 ?_; refine nEffP (i := 13) rfl rfl (zst ti34 rfl rfl (oneV_sl hS8) hB8 (by simp)) ?_
       rintro w9 ⟨hB9, hk9⟩
       refine ⟨trivial, ?_⟩
       replace hB9 : Blk w9 q [I (X1.T.size : Int), ptr p 0, ptr m 0, sv, gv8, I ((X1.nx + 1 : Nat) : Int)] 36 := hB9
       have hMg := (hM6.ext hx67).gave (gs' := X1.gs ++ [((X1.nx + 1 : Nat) : Int)]) (gv' := gv8) (by rw [List.length_append, List.map_append]; exact hS8) hk8 ho8 hB9 hk9
       obtain ⟨hM9, hk79, hf9⟩ := hMg
       have hz7 := hx67.size
       have hk69 : Kp (fpS q m mv sv gv1 F6) w6 w9 := hx67.kp.trans hk79
       have hk59 : Kp (fpS q m mv sv gv1 F1) w5 w9 := hk56.trans_new hk69 (fun i hi => (hf6 i hi).symm)
       have hk19 : Kp (fpS q m mv sv gv1 F1) w1 w9 := (hk14.trans hx45.kp).trans hk59
       refine qE ?_; refine run_inBlock ?_; refine run_reg rfl ?_; refine qV (ymv rfl) ?_; refine qV (yad rfl rfl (by omega)) ?_; refine qV (yas rfl) ?_; refine rEnd ?_; refine (ih (i + 1, _, gv8, F6) w9 ⟨by dsimp only; omega, hM9, hN.yes hok, hk1.trans_new hk19 (fun i hi => (hf1 i hi).symm), fun k hk => ?_⟩ (by dsimp only; omega)).qb
       rcases hf9 k hk with e | e
       ·rcases hf6 k e with e | e
        ·exact hf1 k e
        ·exact .inr (by omega)
       ·exact .inr (by omega)
      ·skip
       exact absurd rfl hc0
     ·skip
      have hM6 := hM5.ext hx6
      refine qT 10 rfl (fun _ hS => yeq rfl rfl) hk46 ?_; refine qE ?_; refine run_if rfl (fun hc0 => ?_) (fun hc0 => ?_)
      ·exact absurd hc0 (by decide)
      ·skip
       refine run_skip ?_; refine run_inBlock ?_; refine run_reg rfl ?_; refine qV (ymv rfl) ?_; refine qV (yad rfl rfl (by omega)) ?_; refine qV (yas rfl) ?_; refine rEnd ?_; refine (ih (i + 1, _, gv1, F1) w6 ⟨by dsimp only; omega, hM6, hN.no hG (by omega) (by omega) hno, (hk04.trans hx45.kp).trans hx6.kp, hf1⟩ (by dsimp only; omega)).qb
    ·skip
     refine run_exit rfl ?_
     exact (hkz _ _ ⟨rfl, X1, gv1, F1, i, hM3, hN, hi, by omega, hk1.trans hx3.kp, hf1⟩).qb
   ·skip
    have : i = 2000 := by omega
    subst this
    refine qJ 3 rfl (hg) ?_; refine qJ 4 rfl (hg) ?_; refine qJ 5 rfl (hg) ?_; refine qJ 6 rfl (hg) ?_; refine qJ 7 rfl (hg) ?_; refine qJ 8 rfl (hg) ?_; refine qJ 9 rfl (hg) ?_; refine qJ 10 rfl (hg) ?_; refine qJ 11 rfl (hg) ?_; refine qJ 12 rfl (hg) ?_; refine qJ 13 rfl (hg) ?_; refine qJ 14 rfl (hg) ?_; refine qT 15 rfl (fun _ hS => ypF rfl rfl) (hg) ?_; refine qE ?_; refine run_false rfl ?_; refine run_exit rfl ?_
    exact (hkz _ _ ⟨rfl, X1, gv1, F1, 2000, hM1.ext hg, hN, hi, hN.fin hG hz hk, hk1.trans hg.kp, hf1⟩).qb
/-- What lies in an Op. -/
def opC (kd : Int) (key val : Bytes) (n : Int) (nv : Value) (auto : Bool) : List Value := [I kd, S key, S val, I n, nv, .bool auto]
set_option maxHeartbeats 8000000 in
theorem putS_ret (hM : StM w q X p m mv sv gv nb F) (hG : Gh X k) (hz : sizeOk (X.T.size : Int)) (hk : k ≤ 340) (kd : Int) (key val : Bytes) (n : Int) (nv : Value) (auto : Bool) (hkl : key.length ≤ 140737488355328) (hvl : val.length ≤ 140737488355328) :
  Ret Tryz.prog 9 [ptr q 0, .agg (opC kd key val n nv auto).toArray] w fun v w' => v = .bool true ∧ ∃ X' mv' gv' nb' F', StM w' q X' p m mv' sv gv' nb' F' ∧ Gh X' (k + 1) ∧ X'.T.size = X.T.size ∧ ((may X.T.size key val ∧ X'.es = insE X.es key val) ∨ (X'.es = X.es ∧ ¬ (may X.T.size key val ∧ auto = true))) ∧ Kp (fpS q m mv sv gv F) w w' ∧ ∀ k, fpS q m mv' sv gv' F' k → fpS q m mv sv gv F k ∨ w.heap.size ≤ k := by
 have hel := hG.el
 have hml : maxLen = 9223372036854775807 := rfl
 refine ret_of_run (e := [(0, _), (1, _)]) Tryz.func9 rfl Tryz.ntmps9 rfl rfl ?_; refine qN rfl ?_; refine rValP rfl rfl (pbx rfl (cs := opC kd key val n nv auto) rfl) ?_
 rintro _ w1 ⟨b3, rfl, hb3, hx1, hB3⟩
 replace hB3 : Blk w1 b3 [I kd, S key, S val, I n, nv, .bool auto] 39 := hB3
 have hM1 := hM.ext hx1
 have hB1 := hM1.blk
 have hz1 := hx1.size
 have hl3 := hB3.lt
 have hg : Ext w1 w1.drew := Ext.drew0 w1
 refine qV (yas rfl) ?_; refine rEnd ?_; refine run_seq ?_; refine run_draw (fun w' => Ext w1 w') (by kernel_rfl) rfl ?_; refine qT 0 rfl (fun _ hS => ymv rfl) (hg) ?_; refine qT 1 rfl (fun _ hS => (by first | exact ync rfl | exact yncf rfl)) (hg) ?_; refine qT 2 rfl (fun _ hS => yfa fl36_0 rfl) (hg) ?_; refine qT 3 rfl (fun _ hS => (by first | exact yld U3 rfl rfl (hS.blk hB1) rfl | exact yld U3 rfl rfl (hS.blk hB3) rfl)) (hg) ?_; refine qT 4 rfl (fun _ hS => yfa fl39_1 rfl) (hg) ?_
 refine qT 5 rfl (fun _ hS => (by first | exact yld U9 rfl rfl (hS.blk hB1) rfl | exact yld U9 rfl rfl (hS.blk hB3) rfl)) (hg) ?_; refine qT 6 rfl (fun _ hS => yfa fl39_2 rfl) (hg) ?_; refine qT 7 rfl (fun _ hS => (by first | exact yld U9 rfl rfl (hS.blk hB1) rfl | exact yld U9 rfl rfl (hS.blk hB3) rfl)) (hg) ?_; refine qO 8 ?_; refine nCall (i := 8) rfl rfl rfl (yc (args := [.tmp 11, .tmp 13, .tmp 15]) cf36 rfl) (may8_ret X.T.size hz key val hkl hvl _) ?_
 rintro _ w2 ⟨rfl, hw2⟩
 refine ⟨(by rw [hw2]; exact hg), ?_⟩
 have hx2 : Ext w1 w2 := by rw [hw2]; exact hg
 obtain ⟨mb, hmb, hmy⟩ : ∃ mb : Bool, decide (may X.T.size key val) = mb ∧ (mb = true ↔ may X.T.size key val) := ⟨_, rfl, decide_eq_true_iff⟩
 rw [hmb]
 have hM2 := hM1.ext hx2
 have hB32 := hx2.blk hB3
 have hB2 := hM2.blk
 refine qT 9 rfl (fun _ hS => yas rfl) ((by rw [hw2]; exact hg)) ?_
 refine qE ?_; refine run_seq ?_; refine run_seq ?_; refine run_cut (fun e' w' => e' = [(0, ptr q 0), (3, ptr b3 0), (5, .bool mb), (26, .bool false)] ∧ ∃ X1 gv1 F1, StM w' q X1 p m mv sv gv1 nb F1 ∧ Gh X1 (k + 1) ∧ X1.es = X.es ∧ X1.T.size = X.T.size ∧ (auto = true → mb = true → X1.H + 1 ≤ X1.T.given.length) ∧ Kp (fpS q m mv sv gv F) w w' ∧ (∀ k, fpS q m mv sv gv1 F1 k → fpS q m mv sv gv F k ∨ w.heap.size ≤ k) ∧ Blk w' b3 [I kd, S key, S val, I n, nv, .bool auto] 39 ∧ ¬ fpS q m mv sv gv1 F1 b3) ?hka (fun hka => ?hmaina)
 case hka =>
  rintro e' w3 ⟨rfl, X1, gv1, F1, hM3, hG3, hes, hsz, hauto, hk3, hf3, hB33, hb3n⟩
  have hz3 : sizeOk (X1.T.size : Int) := by rw [hsz]; exact hz
  have hI3 := hG3.inv
  have hcn := Inv.cnts hz3 hI3
  have hel3 := hG3.el
  have hgl3 := hI3.gl
  have hB3q := hM3.blk
  have hg : Ext w3 w3.drew := Ext.drew0 w3
  have hsz3 := hk3.size
  refine run_false rfl ?_; refine run_skip ?_; refine run_seq ?_; refine run_draw (fun w' => Ext w3 w') (by kernel_rfl) rfl ?_; refine qT 0 rfl (fun _ hS => ymv rfl) (hg) ?_; refine qT 1 rfl (fun _ hS => (by first | exact ync rfl | exact yncf rfl)) (hg) ?_; refine qT 2 rfl (fun _ hS => yfa fl36_1 rfl) (hg) ?_; refine qT 3 rfl (fun _ hS => yld U24 rfl rfl (hS.blk hB3q) rfl) (hg) ?_; refine qT 6 rfl (fun _ hS => ymv rfl) (hg) ?_; refine qT 7 rfl (fun _ hS => (by first | exact ync rfl | exact yncf rfl)) (hg) ?_; refine qT 8 rfl (fun _ hS => yfa fl36_1 rfl) (hg) ?_
  refine qT 9 rfl (fun _ hS => yld U24 rfl rfl (hS.blk hB3q) rfl) (hg) ?_; refine qO 4 ?_; refine nCall (i := 4) rfl rfl rfl (yc (args := [.tmp 30]) cf27 rfl) (given_ret (hM3.tree.ext hg) (by omega)) ?_
  rintro v4 w4 ⟨hS4, hx4, -⟩
  refine ⟨hg.trans hx4, ?_⟩
  obtain ⟨ga, gc, rfl, -⟩ := hS4.rd.shape
  refine qT 5 rfl (fun _ hS => yln U34 rfl) (hg.trans hx4) ?_; refine qO 10 ?_; refine nCall (i := 10) rfl rfl rfl (yc (args := [.tmp 36]) cf25 rfl) (need_ret ((hM3.tree.ext hg).ext hx4) hI3 (by omega)) ?_
  rintro _ w5 ⟨rfl, hw5⟩
  refine ⟨(by rw [hw5]; exact hg.trans hx4), ?_⟩
  have hx5 : Ext w3 w5 := by rw [hw5]; exact hg.trans hx4
  have hM5 := hM3.ext hx5
  have hB5q := hM5.blk
  have hB35 := hx5.blk hB33
  have hg5 : Ext w5 w5.drew := Ext.drew0 w5
  have hb3F : ¬ F1 b3 := fun e => hb3n (.inr (.inr (.inr (.inr (.inr e)))))
  have hz5 := hx5.size
  refine qT 11 rfl (fun _ hS => ylt rfl rfl) ((by rw [hw5]; exact hg.trans hx4)) ?_
  refine qT 12 rfl (fun _ hS => yas rfl) ((by rw [hw5]; exact hg.trans hx4)) ?_
  refine qE ?_; refine run_seq ?_; refine run_draw (fun w' => Kp F1 w5 w') (by kernel_rfl) rfl ?_; refine qT 0 rfl (fun _ hS => ymv rfl) (hg5.kp) ?_; refine qT 1 rfl (fun _ hS => (by first | exact ync rfl | exact yncf rfl)) (hg5.kp) ?_; refine qT 2 rfl (fun _ hS => yfa fl36_1 rfl) (hg5.kp) ?_; refine qT 3 rfl (fun _ hS => (by first | exact yld U24 rfl rfl (hS.blk hB5q hM5.fq) rfl | exact yld U24 rfl rfl (hS.blk hB35 hb3F) rfl)) (hg5.kp) ?_; refine qT 4 rfl (fun _ hS => yfa fl39_1 rfl) (hg5.kp) ?_
  refine qT 5 rfl (fun _ hS => (by first | exact yld U9 rfl rfl (hS.blk hB5q hM5.fq) rfl | exact yld U9 rfl rfl (hS.blk hB35 hb3F) rfl)) (hg5.kp) ?_; refine qT 6 rfl (fun _ hS => yfa fl39_2 rfl) (hg5.kp) ?_; refine qT 7 rfl (fun _ hS => (by first | exact yld U9 rfl rfl (hS.blk hB5q hM5.fq) rfl | exact yld U9 rfl rfl (hS.blk hB35 hb3F) rfl)) (hg5.kp) ?_; refine qO 8 ?_; refine nCall (i := 8) rfl rfl rfl (yc (args := [.tmp 42, .tmp 44, .tmp 46]) cf38 rfl) (putT_ret (hM5.tree.ext hg5) hI3 (by omega) key val hkl hvl) ?_
  rintro v6 w6 hv6
  refine ⟨(by rcases hv6 with ⟨-, -, h⟩ | ⟨-, -, -, h⟩ | ⟨-, -, -, T', H', ns', ⟨nb', F', -, -, h, -⟩, -⟩; exact hg5.kp.trans h.kp; exact hg5.kp.trans h.kp; exact hg5.kp.trans h), ?_⟩
  have hk56 : Kp F1 w5 w6 := by rcases hv6 with ⟨-, -, h⟩ | ⟨-, -, -, h⟩ | ⟨-, -, -, T', H', ns', ⟨nb', F', -, -, h, -⟩, -⟩; exact hg5.kp.trans h.kp; exact hg5.kp.trans h.kp; exact hg5.kp.trans h
  rw [hsz] at hv6
  rcases hv6 with ⟨rfl, hnm, hx6⟩ | ⟨rfl, hm, hfew, hx6⟩ | ⟨rfl, hm, henough, T', H', ns', ⟨nb', F', hT6, hI6, hk6, hF6⟩, hev⟩
  ·obtain rfl : mb = false := by
    cases mb with
    | false => rfl
    | true => exact absurd (hmy.1 rfl) hnm
   refine qT 9 rfl (fun _ hS => yas rfl) hk56 ?_; refine qE ?_; refine Run.qb (e := [(0, _), (3, _), (5, _), (6, _), (7, _)]) ?_; refine run_seq ?_; refine qN rfl ?_; refine qV (ymv rfl) ?_; refine qV ((by first | exact yntd rfl | exact ynt rfl)) ?_; refine rEnd ?_; refine run_cond rfl (fun h1 => ?_) (fun h1 => ?_)
   ·skip
    refine qN rfl ?_; refine qV (ymv rfl) ?_; refine qV (yeq rfl rfl) ?_; refine qV (yas rfl) ?_; refine rEnd ?_; refine run_ret Tryz.func9 rfl ?_
    exact ⟨_, rfl, rfl, X1, mv, gv1, nb, F1, (hM5.ext hg5).ext hx6, hG3, hsz, .inr ⟨hes, fun h => hnm h.1⟩, (hk3.trans hx5.kp).trans (hg5.trans hx6).kp, hf3⟩
   ·skip
    exact absurd h1 (by decide)
  ·skip
   obtain rfl : mb = true := hmy.2 hm
   refine qT 9 rfl (fun _ hS => yas rfl) hk56 ?_; refine qE ?_; refine Run.qb (e := [(0, _), (3, _), (5, _), (6, _), (7, _)]) ?_; refine run_seq ?_; refine qN rfl ?_; refine qV (ymv rfl) ?_; refine qV ((by first | exact yntd rfl | exact ynt rfl)) ?_; refine rEnd ?_; refine run_cond rfl (fun h1 => ?_) (fun h1 => ?_)
   ·exact absurd h1 (by decide)
   ·skip
    refine run_skip ?_; refine run_seq ?_; refine qN rfl ?_; refine qV (ymv rfl) ?_; refine rEnd ?_; refine run_if rfl (fun h2 => ?_) (fun h2 => ?_)
    ·skip
     refine qN rfl ?_; refine qV (ymv rfl) ?_; refine qV (yeq rfl rfl) ?_; refine qV (yas rfl) ?_; refine rEnd ?_; refine run_ret Tryz.func9 rfl ?_
     exact ⟨_, rfl, rfl, X1, mv, gv1, nb, F1, (hM5.ext hg5).ext hx6, hG3, hsz, .inr ⟨hes, fun h => by have := hauto h.2 rfl; omega⟩, (hk3.trans hx5.kp).trans (hg5.trans hx6).kp, hf3⟩
    ·skip
     omega
  ·skip
   obtain rfl : mb = true := hmy.2 hm
   have hmt := (hM5.ext hg5).treed hT6 (show T'.size = X1.T.size from (show Evo _ _ _ from hev).size) hk6 hF6
   obtain ⟨hM6, hk6', hf6⟩ := hmt
   have hB6q := hM6.blk
   have hB36 := hk56.blk hB35 hb3F
   have hb3m : b3 ≠ m := fun e => hb3n (.inr (.inl e))
   have hb3q : b3 ≠ q := fun e => hb3n (.inl e)
   have hg6 : Ext w6 w6.drew := Ext.drew0 w6
   have hz6 := hk6'.size
   have hz55 := hg5.size
   refine qT 9 rfl (fun _ hS => yas rfl) hk56 ?_; refine qE ?_; refine Run.qb (e := [(0, _), (3, _), (5, _), (6, _), (7, _)]) ?_; refine run_seq ?_; refine qN rfl ?_; refine qV (ymv rfl) ?_; refine qV ((by first | exact yntd rfl | exact ynt rfl)) ?_; refine rEnd ?_; refine run_cond rfl (fun h1 => ?_) (fun h1 => ?_)
   ·exact absurd h1 (by decide)
   ·skip
    refine run_skip ?_; refine run_seq ?_; refine qN rfl ?_; refine qV (ymv rfl) ?_; refine rEnd ?_; refine run_if rfl (fun h2 => ?_) (fun h2 => ?_)
    ·omega
    ·skip
     have hel1 : X1.es.length ≤ k := by rw [hes]; exact hel
     refine run_skip ?_; refine run_seq ?_; refine run_draw (fun w' => Kp (fun k => k = m) w6 w') (by kernel_rfl) rfl ?_; refine qT 0 rfl (fun _ hS => ymv rfl) (hg6.kp) ?_; refine qT 1 rfl (fun _ hS => (by first | exact ync rfl | exact yncf rfl)) (hg6.kp) ?_; refine qT 2 rfl (fun _ hS => yfa fl36_2 rfl) (hg6.kp) ?_; refine qT 3 rfl (fun _ hS => (by first | exact yld U29 rfl rfl (hS.blk hB6q hM6.qm) rfl | exact yld U29 rfl rfl (hS.blk hB36 hb3m) rfl)) (hg6.kp) ?_; refine qT 4 rfl (fun _ hS => yfa fl39_1 rfl) (hg6.kp) ?_
     refine qT 5 rfl (fun _ hS => (by first | exact yld U9 rfl rfl (hS.blk hB6q hM6.qm) rfl | exact yld U9 rfl rfl (hS.blk hB36 hb3m) rfl)) (hg6.kp) ?_; refine qT 6 rfl (fun _ hS => yfa fl39_2 rfl) (hg6.kp) ?_; refine qT 7 rfl (fun _ hS => (by first | exact yld U9 rfl rfl (hS.blk hB6q hM6.qm) rfl | exact yld U9 rfl rfl (hS.blk hB36 hb3m) rfl)) (hg6.kp) ?_; refine qO 8 ?_; refine nCall (i := 8) rfl rfl rfl (yc (args := [.tmp 58, .tmp 60, .tmp 62]) cf39 rfl) (putM_ret (hM6.map.ext hg6) (by dsimp only; omega) key val) ?_
     rintro _ w7 ⟨rfl, hS7⟩
     refine ⟨(by obtain ⟨mv', -, h, -⟩ := hS7; exact hg6.kp.trans h), ?_⟩
     have hk67 : Kp (fun k => k = m) w6 w7 := by obtain ⟨mv', -, h, -⟩ := hS7; exact hg6.kp.trans h
     have hmp := (hM6.ext hg6).mapped hS7
     obtain ⟨mv7, hM7, hk7, hf7⟩ := hmp
     have hz66 := hg6.size
     refine qE ?_; refine qN rfl ?_; refine qV (ymv rfl) ?_; refine qV (yeq rfl rfl) ?_; refine qV (yas rfl) ?_; refine rEnd ?_; refine run_ret Tryz.func9 rfl ?_; refine ⟨_, rfl, rfl, { X1 with T := T', H := H', ns := ns', es := insE X1.es key val }, mv7, gv1, nb', F', hM7.hn H' ns', hG3.evo hev hI6 (Nat.le_refl _) ?_, (show Evo _ _ _ from hev).size.trans hsz, .inl ⟨hm, by dsimp only; rw [hes]⟩, ?_, fun k hk => ?_⟩
     ·rw [insE_len]; split <;> omega
     ·have hk35 : Kp (fpS q m mv sv gv1 F1) w3 w6 := hx5.kp.trans (hg5.kp.trans hk6')
      have hk37 : Kp (fpS q m mv sv gv1 F1) w3 w7 := hk35.trans_new (hg6.kp.trans hk7) (fun i hi => (hf6 i hi).elim .inr (fun e => .inl (by omega)))
      exact hk3.trans_new hk37 (fun i hi => (hf3 i hi).symm)
     ·rcases hf7 k hk with e | e
      ·rcases hf6 k e with e | e
       ·exact hf3 k e
       ·exact .inr (by omega)
      ·exact .inr (by omega)
 case hmaina =>
  have hb3n : ¬ fpS q m mv sv gv F b3 := fun e => by have := hM.lt e; omega
  have hk02 : Kp (fpS q m mv sv gv F) w w2 := (hx1.trans hx2).kp
  cases auto with
  | false =>
    refine run_reg rfl ?_; refine qV (yfa fl39_5 rfl) ?_; refine qV (yld U4 rfl rfl hB32 rfl) ?_; refine qV (ymv rfl) ?_; refine qS ?_; refine qV (ypF rfl rfl) ?_; refine qV (ymv rfl) ?_; refine qS ?_; refine qS ?_; refine qS ?_; refine qV (ypF rfl rfl) ?_; refine rEnd ?_
    exact (hka _ _ ⟨rfl, X, gv, F, hM2, hG.mono (Nat.le_succ k), rfl, rfl, fun h => Bool.noConfusion h, hk02, fun _ h => .inl h, hB32, hb3n⟩).qb
  | true =>
    refine run_reg rfl ?_; refine qV (yfa fl39_5 rfl) ?_; refine qV (yld U4 rfl rfl hB32 rfl) ?_; refine qV (ymv rfl) ?_; refine qV (ymv rfl) ?_; refine qV (ypT rfl rfl) ?_; refine qV (ymv rfl) ?_; refine rVal_bool (fun h1 => ?_) (fun h1 => ?_)
    ·skip
     refine qV (ymv rfl) ?_; refine rCall rfl rfl (yc (args := [.tmp 23]) cf37 rfl) (needS_ret hM2 hG hz (by omega)) ?_
     rintro v3 w3 ⟨rfl, X1, gv1, F1, i, hM3, hN, hi, hge, hk3, hf3⟩
     have hz2 := hx2.size
     have hb3n' : ¬ fpS q m mv sv gv1 F1 b3 := fun e => (hf3 b3 e).elim hb3n (fun e => by omega)
     have hT3 : X1.T.size = X.T.size := by rw [hN.eT]
     refine qV ((by first | exact yntd rfl | exact ynt rfl)) ?_; refine qV (ypT rfl rfl) ?_; refine rEnd ?_
     exact (hka _ _ ⟨rfl, X1, gv1, F1, hM3, hN.gh hG hi, hN.ee, hT3, fun _ _ => by rw [hN.eH]; exact hge, hk02.trans hk3, fun k hk => (hf3 k hk).imp id (fun e => by omega), hk3.blk hB32 hb3n, hb3n'⟩).qb
    ·skip
     refine qS ?_; refine qS ?_; refine qS ?_; refine qV (ypF rfl rfl) ?_; refine rEnd ?_
     exact (hka _ _ ⟨rfl, X, gv, F, hM2, hG.mono (Nat.le_succ k), rfl, rfl, fun _ h => (by rw [h1] at h; cases h), hk02, fun _ h => .inl h, hB32, hb3n⟩).qb
end
end Go.Proofs.YtocnhaoilnojmaaGreat
namespace Go.Proofs.YtocnhaoilnojmaaGreat
open Go Go.RowKit
set_option linter.all false
set_option maxRecDepth 100000
section
variable {P : Program} {e : Env} {d : Option Nat} {ty t t' : TypeId} {pos : String} {aft : Array Edge} {g : Option (Nat × Bool)} {x y : Operand} {w : World} {n : Nat}
theorem eq_strW {p q : Bytes} (ht : P.underlying t = some .string) : (Op.equalIn (n + 1) t (S p) (S q)).run P w = .ok (decide (p = q)) w := by
 simp only [Op.equalIn, Sem.run_bind, run_underlying ht, Result.andThen_ok, Sem.run_pure, S]
 rw [beqS]
theorem yneS2 {f0 f1 : Field} {a b c u : Value} {r0 r1 : Bool} (ht : P.underlying t = some (.struct #[f0, f1])) (hg : P.eqGuardType P.depth t = false) (hs : P.stoodInHeld t = false) (h0 : f0.name ≠ "_") (h1 : f1.name ≠ "_") (o0 : f0.offset = 0) (o1 : f1.offset = 1)
  (k0 : P.plainKey f0.type = true) (k1 : P.plainKey f1.type = true) (hx : look e x = some (.agg #[a, b])) (hy : look e y = some (.agg #[c, u]))
  (e0 : ∀ w, (Op.equalIn 9999 f0.type a c).run P w = .ok r0 w) (e1 : ∀ w, (Op.equalIn 9999 f1.type b u).run P w = .ok r1 w) :
  Y P e ⟨d, .binOp .neq t x y t', ty, pos, aft, g⟩ (.bool (!(r0 && r1))) w w := fun ρ hρ => by
 have hfo : P.fieldsOf t = #[f0, f1] := by simp [Program.fieldsOf, ht]
 have hE : (Op.equalIn 10000 t (.agg #[a, b]) (.agg #[c, u])).run P w = .ok (r0 && r1) w := by
  rw [run_equalIn_struct w 9999 t _ _ (by rw [hfo]; exact ht) hs, hfo]
  have p0 : (part f0.type #[a, b] 0).run P w = .ok a w := run_part_plain _ k0 rfl
  have p1 : (part f1.type #[a, b] 1).run P w = .ok b w := run_part_plain _ k1 rfl
  have q0 : (part f0.type #[c, u] 0).run P w = .ok c w := run_part_plain _ k0 rfl
  have q1 : (part f1.type #[c, u] 1).run P w = .ok u w := run_part_plain _ k1 rfl
  simp only [Op.eqFields, ne_eq, h0, h1, not_false_eq_true, if_true, Sem.run_bind, o0, o1, p0, q0, e0, Result.andThen_ok]
  cases r0 with
  | false => simp [Sem.run_pure]
  | true => simp only [Bool.not_true, Bool.false_eq_true, if_false, Sem.run_bind, p1, q1, e1, Result.andThen_ok]; cases r1 <;> simp [Sem.run_pure]
 simp only [execOp, hρ _ _ hx, hρ _ _ hy, Sem.run_bind, run_eqGuard_agg (hm := hg), run_neq_struct, hE, Result.andThen_ok, Sem.run_pure]
end
section
variable {e : Env} {d : Option Nat} {ty t' : TypeId} {pos : String} {aft : Array Edge} {g : Option (Nat × Bool)} {x y : Operand} {w : World}
/-- Entries of the document. -/
theorem yneE8 {a b c u : Bytes} (hx : look e x = some (.agg #[S a, S b])) (hy : look e y = some (.agg #[S c, S u])) : Y Tryz.prog e ⟨d, .binOp .neq 41 x y t', ty, pos, aft, g⟩ (.bool (!(decide (a = c) && decide (b = u)))) w w :=
 yneS2 U41 (by kernel_rfl) (by kernel_rfl) (by decide) (by decide) rfl rfl (by kernel_rfl) (by kernel_rfl) hx hy (fun w => eq_strW U9) (fun w => eq_strW U9)
end
end Go.Proofs.YtocnhaoilnojmaaGreat
namespace Go.Proofs.YtocnhaoilnojmaaGreat
open Go Go.RowKit
set_option linter.all false
set_option maxRecDepth 100000
theorem some_ofE {w : World} {v : Value} {T s n : Nat} {us : List Value} (h : Sl w v T s n us) : ∃ a c, v = .slice a n c := by
 obtain ⟨a, c, e, -⟩ := h.rd.shape
 exact ⟨a, c, e⟩
theorem rd_en {w : World} {b off n cap : Nat} {l : Es} {i : Nat} {y : Bytes × Bytes} (h : Rd w (.slice (some ⟨b, off, none⟩) n cap) 2 n (esC l)) (hi : i < n) (hy : l[i]? = some y) : ∀ (j : Nat) u, [S y.1, S y.2][j]? = some u → w.cell? ⟨b, off + i * 2 + j, none⟩ = some u := fun j u hj => by
 match j, hj with
 | 0, hj => cases hj; exact rd_en0 h hi hy
 | 1, hj => cases hj; exact rd_en1 h hi hy
section
variable {w : World} {q : Nat} {X : Sx} {p m : Nat} {mv sv gv : Value} {nb : Int → Nat} {F : Nat → Prop} {k : Nat}
set_option maxHeartbeats 8000000 in
theorem shapeS_ret (hM : StM w q X p m mv sv gv nb F) (hG : Gh X k) (hz : sizeOk (X.T.size : Int)) (hk : k ≤ 1000) :
  Ret Tryz.prog 15 [ptr q 0] w fun v w' => v = .bool true ∧ Ext w w' := by
 have hI := hG.inv
 have hcn := Inv.cnts hz hI
 have hel := hG.el
 have hol := hG.ol
 have hgl := hG.gl
 have hml : maxLen = 9223372036854775807 := rfl
 have hnd := hI.nodup
 have hO := ownP_pgs (T := X.T) hnd
 have hKd := hM.tree.kids32
 obtain ⟨l, hl⟩ : ∃ l, (pgs X.T.size X.T.nodes X.ns fun _ => true) = l := ⟨_, rfl⟩
 rw [hl] at hO
 have hll : l.length = X.ns.length := hO.len
 obtain ⟨st, hst⟩ : ∃ st, (pgs X.T.size X.O X.os fun _ => true) = st := ⟨_, rfl⟩
 have hstl : st.length = X.os.length := by rw [← hst, pgs_all_len]
 have hstm : ∀ x, x ∈ st.map (·.1) ↔ x ∈ X.os := fun x => by rw [← hst, pgs_fst, List.mem_filter, sortZ_mem]; simp
 obtain ⟨ma, mc, rfl⟩ := some_ofE hM.map.sl
 have hB := hM.blk
 have hrise : RiseP l := by rw [← hl]; exact pgs_rise hnd
 refine ret_of_run (e := [(0, _)]) Tryz.func15 rfl Tryz.ntmps15 rfl rfl ?_; refine qN rfl ?_; refine qV (yas rfl) ?_; refine qM rfl ?_; refine qV (ymv rfl) ?_; refine qV ((by first | exact ync rfl | exact yncf rfl)) ?_; refine qV (yfa fl36_1 rfl) ?_; refine qV (yld U24 rfl rfl hB rfl) ?_; refine rCall rfl rfl (yc (args := [.tmp 12]) cf22 rfl) (pages_ret hM.tree hI (by omega)) ?_
 rintro v1 w1 ⟨hx1, hS1, -⟩
 rw [hl] at hS1
 refine rCall rfl rfl (yc (args := [.tmp 13]) cf29 rfl) (pagesL_ret (Sl.rd hS1) (by omega)) ?_
 rintro v2 w2 ⟨hx2, hS2, -⟩
 obtain ⟨pa, pc, rfl⟩ := some_ofE hS2
 have hx02 := hx1.trans hx2
 have hM2 := hM.ext hx02
 have hB2 := hM2.blk
 have hg : Ext w2 w2.drew := Ext.drew0 w2
 have hnums := hO.nums hI hz
 have hlok := hO.ok hI hz hKd
 refine qV (yas rfl) ?_; refine rEnd ?_; refine run_seq ?_; refine run_draw (fun w' => Ext w2 w') (by kernel_rfl) rfl ?_; refine qT 0 rfl (fun _ hS => ymv rfl) (hg) ?_; refine qT 1 rfl (fun _ hS => (by first | exact ync rfl | exact yncf rfl)) (hg) ?_; refine qT 2 rfl (fun _ hS => yfa fl36_0 rfl) (hg) ?_; refine qT 3 rfl (fun _ hS => yld U3 rfl rfl (hS.blk hB2) rfl) (hg) ?_; refine qT 4 rfl (fun _ hS => ymv rfl) (hg) ?_; refine qT 5 rfl (fun _ hS => (by first | exact ync rfl | exact yncf rfl)) (hg) ?_; refine qT 6 rfl (fun _ hS => yfa fl36_1 rfl) (hg) ?_
 refine qT 7 rfl (fun _ hS => yld U24 rfl rfl (hS.blk hB2) rfl) (hg) ?_; refine qT 9 rfl (fun _ hS => ymv rfl) (hg) ?_; refine qO 8 ?_; refine nCall (i := 8) rfl rfl rfl (yc (args := [.tmp 23]) cf21 rfl) (rootT_ret (hM2.tree.ext hg)) ?_
 rintro _ w3 ⟨rfl, hw3⟩
 refine ⟨(by rw [hw3]; exact hg), ?_⟩
 have hx3 : Ext w2 w3 := by rw [hw3]; exact hg
 refine qO 10 ?_; refine nCall (i := 10) rfl rfl rfl (yc (args := [.tmp 19, .tmp 24, .tmp 25]) cf19 rfl) (shape_ret hnums (hS2.rd.ext hx3) (by omega) (hO.short hI hz)) ?_
 rintro v4 w4 ⟨hx4, hv4⟩
 refine ⟨hx3.trans hx4, ?_⟩
 obtain ⟨ev, rfl, hE⟩ : ∃ ev, v4 = .tuple #[ev, I ((X.H : Nat) : Int), .bool true] ∧ Sl w4 ev 41 2 X.es.length (esC X.es) := by
  rcases hv4 with ⟨H', ns', es', ov', h1, h2, h3, -⟩ | ⟨h, -⟩
  ·obtain ⟨rfl, rfl, rfl⟩ := hlok.det hz h1
   exact ⟨ov', h2, h3⟩
  ·exact absurd hlok (h X.H X.ns X.es)
 obtain ⟨ea, ec, rfl⟩ := some_ofE hE
 have hx24 := hx3.trans hx4
 have hM4 := hM2.ext hx24
 have hB4 := hM4.blk
 have hMp := hM4.map
 have hS4 := hS2.ext hx24
 refine qT 11 rfl (fun _ hS => ymv rfl) (hx3.trans hx4) ?_; refine qT 12 rfl (fun _ hS => yex rfl rfl) (hx3.trans hx4) ?_; refine qT 13 rfl (fun _ hS => yex rfl rfl) (hx3.trans hx4) ?_; refine qT 14 rfl (fun _ hS => yex rfl rfl) (hx3.trans hx4) ?_; refine qT 15 rfl (fun _ hS => yas rfl) (hx3.trans hx4) ?_; refine qT 16 rfl (fun _ hS => yas rfl) (hx3.trans hx4) ?_; refine qT 17 rfl (fun _ hS => yas rfl) (hx3.trans hx4) ?_; refine qE ?_; refine Run.qb (e := [(0, _), (2, _), (3, _), (4, _), (5, _), (6, _)]) ?_; refine run_seq ?_; refine qN rfl ?_; refine qV (ymv rfl) ?_
 refine qV ((by first | exact yntd rfl | exact ynt rfl)) ?_; refine qV (ymv rfl) ?_
 have hBm4 := hMp.blk
 refine qV (ymv rfl) ?_; refine qV (ymv rfl) ?_; refine qV ((by first | exact ync rfl | exact yncf rfl)) ?_; refine qV (yfa fl36_1 rfl) ?_; refine qV ((by first | exact yld U24 rfl rfl hB4 rfl | exact yld U24 rfl rfl hBm4 rfl)) ?_; refine rCall rfl rfl (yc (args := [.tmp 37]) cf20 rfl) (depth_ret hM4.tree hI (by omega)) ?_
 rintro _ w4 ⟨rfl, rfl⟩
 refine qV (yne rfl rfl) ?_; refine qV (ypF rfl rfl) ?_; refine qV (ymv rfl) ?_; refine rVal_if (fun h1 => ?_) (fun h1 => ?_)
 ·exact absurd rfl h1
 ·skip
  refine qV (ymv rfl) ?_; refine qV (yln U30 rfl) ?_; refine qV (ymv rfl) ?_; refine qV ((by first | exact ync rfl | exact yncf rfl)) ?_; refine qV (yfa fl36_2 rfl) ?_; refine qV ((by first | exact yld U29 rfl rfl hB4 rfl | exact yld U29 rfl rfl hBm4 rfl)) ?_; refine qV ((by first | exact ync rfl | exact yncf rfl)) ?_; refine qV (yfa fl32_0 rfl) ?_; refine qV ((by first | exact yld U30 rfl rfl hB4 rfl | exact yld U30 rfl rfl hBm4 rfl)) ?_; refine qV (yln U30 rfl) ?_; refine qV (yne rfl rfl) ?_; refine qV (ypF rfl rfl) ?_; refine rEnd ?_
  refine Run.qb (e := [(0, _), (2, _), (3, _), (4, _), (53, _)]) ?_; refine run_if rfl (fun h2 => ?_) (fun h2 => ?_)
  ·exact absurd rfl h2
  ·skip
   refine run_skip ?_; refine run_seq ?_; refine qN rfl ?_; refine qV (yas rfl) ?_; refine rEnd ?_; refine run_block ?_; refine run_loop (α := Nat) (0) (fun i => [(0, ptr q 0), (3, .slice pa l.length pc), (4, .slice ea X.es.length ec), (7, I (i : Int))]) (fun i w' => i ≤ X.es.length ∧ Ext w4 w') (fun i => X.es.length - i) (by repeat (first | exact Sub.nil | refine Sub.cons rfl ?_)) ?hI ?hround
   case hI => exact ⟨Nat.zero_le _, Ext.refl _⟩
   case hround =>
    rintro i w5 ⟨hi, hx5⟩ ih
    have hM5 := hM4.ext hx5
    have hB5 := hM5.blk
    have hBm5 := hM5.map.blk
    have hE5 := hE.rd.ext hx5
    have hMs5 := hM5.map.sl.rd
    try dsimp only
    refine run_seq ?_; refine qN rfl ?_; refine qV (ymv rfl) ?_; refine qV (ymv rfl) ?_; refine qV (yln U30 rfl) ?_; refine qV (ylt rfl rfl) ?_; refine rEnd ?_; refine run_if rfl (fun hlt => ?_) (fun hlt => ?_)
    ·skip
     have hi' : i < X.es.length := by omega
     obtain ⟨b1, o1, y, rfl, hy⟩ := rd_ens hE5 rfl hi'
     obtain ⟨b2, o2, y2, rfl, hy2⟩ := rd_ens hMs5 rfl hi'
     have hg5 : Ext w5 w5.drew := Ext.drew0 w5
     refine run_skip ?_; refine run_seq ?_; refine run_block ?_; refine run_seq ?_; refine run_draw (fun w' => Ext w5 w') (by kernel_rfl) rfl ?_; refine qT 0 rfl (fun _ hS => ymv rfl) (hg5) ?_; refine qT 1 rfl (fun _ hS => ymv rfl) (hg5) ?_; refine qT 2 rfl (fun _ hS => yis U30 ti41 rfl rfl (by omega)) (hg5) ?_; refine qT 4 rfl (fun _ hS => ymv rfl) (hg5) ?_; refine qT 5 rfl (fun _ hS => (by first | exact ync rfl | exact yncf rfl)) (hg5) ?_; refine qT 6 rfl (fun _ hS => yfa fl36_2 rfl) (hg5) ?_
     refine qT 7 rfl (fun _ hS => (by first | exact yld U29 rfl rfl (hS.blk hB5) rfl | exact yld U29 rfl rfl (hS.blk hBm5) rfl)) (hg5) ?_; refine qT 8 rfl (fun _ hS => (by first | exact ync rfl | exact yncf rfl)) (hg5) ?_; refine qT 9 rfl (fun _ hS => yfa fl32_0 rfl) (hg5) ?_; refine qT 10 rfl (fun _ hS => (by first | exact yld U30 rfl rfl (hS.blk hB5) rfl | exact yld U30 rfl rfl (hS.blk hBm5) rfl)) (hg5) ?_; refine qT 11 rfl (fun _ hS => ymv rfl) (hg5) ?_; refine qT 12 rfl (fun _ hS => yis U30 ti41 rfl rfl (by omega)) (hg5) ?_
     refine qT 3 rfl (fun _ hS => yldA U41 rfl ti41 rfl (rd_en (hE5.ext hS) hi' hy) rfl) (hg5) ?_; refine qT 13 rfl (fun _ hS => yldA U41 rfl ti41 rfl (rd_en (hMs5.ext hS) hi' hy) rfl) (hg5) ?_; refine qT 14 rfl (fun _ hS => yneE8 rfl rfl) (hg5) ?_; refine qE ?_; refine run_cond rfl (fun h5 => ?_) (fun h5 => ?_)
     ·simp at h5
     ·skip
      refine run_skip ?_; refine run_inBlock ?_; refine run_reg rfl ?_; refine qV (ymv rfl) ?_; refine qV (yad rfl rfl (by omega)) ?_; refine qV (yas rfl) ?_; refine rEnd ?_
      exact (ih (i + 1) _ ⟨by omega, hx5.trans hg5⟩ (by omega)).qb
    ·skip
     refine run_exit rfl ?_; refine run_seq ?_; refine qN rfl ?_; refine qV (yas rfl) ?_; refine rEnd ?_; refine run_block ?_; refine run_loop (α := Nat) (0) (fun i => [(0, ptr q 0), (3, .slice pa l.length pc), (8, I (i : Int))]) (fun i w' => i ≤ l.length ∧ Ext w4 w') (fun i => l.length - i) (by repeat (first | exact Sub.nil | refine Sub.cons rfl ?_)) ?hI ?hround
     case hI => exact ⟨Nat.zero_le _, hx5⟩
     case hround =>
      clear ih hlt
      rintro i w5 ⟨hi, hx5⟩ ih
      have hM5 := hM4.ext hx5
      have hB5 := hM5.blk
      have hP := hS4.rd.ext hx5
      try dsimp only
      refine run_seq ?_; refine qN rfl ?_; refine qV (ymv rfl) ?_; refine qV (ymv rfl) ?_; refine qV (yln U33 rfl) ?_; refine qV (ylt rfl rfl) ?_; refine rEnd ?_; refine run_if rfl (fun hlt => ?_) (fun hlt => ?_)
      ·skip
       have hi' : i < l.length := by omega
       obtain ⟨b1, o1, y, rfl, hy⟩ := rd_pgs hP rfl hi'
       have hg5 : Ext w5 w5.drew := Ext.drew0 w5
       have hsrc := hG.src y.1 (.inl ((hI.mem y.1).2 ((hO.mem y.1).1 (List.mem_map.2 ⟨y, List.mem_of_getElem? hy, rfl⟩))))
       have hsto : ∀ w', Ext w5 w' → Rd w' sv 2 st.length (pgC st) := fun w' hx => by rw [← hst]; exact (hM5.ext hx).sto.rd
       refine run_skip ?_; refine run_seq ?_; refine run_block ?_; refine run_seq ?_; refine run_draw (fun w' => Ext w5 w') (by kernel_rfl) rfl ?_; refine qT 0 rfl (fun _ hS => ymv rfl) (hg5) ?_; refine qT 1 rfl (fun _ hS => ygt rfl rfl) (hg5) ?_; refine qT 2 rfl (fun _ hS => ymv rfl) (hg5) ?_; refine rh_if (fun hi0 => ?_) (fun hi0 => ?_)
       ·skip
        obtain ⟨j, ej⟩ : ∃ j, i = j + 1 := ⟨i - 1, by omega⟩
        obtain ⟨yp, hyp⟩ : ∃ yp, l[j]? = some yp := ⟨_, List.getElem?_eq_getElem (by omega)⟩
        have hlt1 : yp.1 < y.1 := by
         obtain ⟨a1, a2⟩ := List.getElem?_eq_some_iff.1 hyp
         obtain ⟨c1, c2⟩ := List.getElem?_eq_some_iff.1 hy
         have := List.pairwise_iff_getElem.1 hrise j i a1 c1 (by omega)
         rw [a2, c2] at this; exact this
        refine qT 3 rfl (fun _ hS => ymv rfl) (hg5) ?_; refine qT 4 rfl (fun _ hS => ymv rfl) (hg5) ?_; refine qT 5 rfl (fun _ hS => ysb rfl rfl (by omega)) (hg5) ?_; refine qT 9 rfl (fun _ hS => ymv rfl) (hg5) ?_; refine qT 10 rfl (fun _ hS => ymv rfl) (hg5) ?_; refine qT 11 rfl (fun _ hS => yis U33 ti54 rfl rfl (by omega)) (hg5) ?_; refine qT 12 rfl (fun _ hS => yfa fl54_0 rfl) (hg5) ?_
        rw [show ((i : Int) - 1) = ((j : Nat) : Int) by omega]
        refine qT 6 rfl (fun _ hS => yis U33 ti54 rfl rfl (by omega)) (hg5) ?_; refine qT 7 rfl (fun _ hS => yfa fl54_0 rfl) (hg5) ?_; refine qT 8 rfl (fun _ hS => yldc U3 rfl rfl (rd_pg0 (hP.ext hS) (by omega) hyp)) (hg5) ?_; refine qT 13 rfl (fun _ hS => yldc U3 rfl rfl (rd_pg0 (hP.ext hS) hi' hy)) (hg5) ?_; refine qT 14 rfl (fun _ hS => yge rfl rfl) (hg5) ?_; refine qT 15 rfl (fun _ hS => ypT rfl rfl) (hg5) ?_; refine qT 16 rfl (fun _ hS => ymv rfl) (hg5) ?_; refine rh_if (fun hge => ?_) (fun hge => ?_)
        ·omega
        ·skip
         refine qT 17 rfl (fun _ hS => ymv rfl) (hg5) ?_; refine qT 18 rfl (fun _ hS => (by first | exact ync rfl | exact yncf rfl)) (hg5) ?_; refine qT 19 rfl (fun _ hS => yfa fl36_3 rfl) (hg5) ?_; refine qT 20 rfl (fun _ hS => yld U33 rfl rfl (hS.blk hB5) rfl) (hg5) ?_; refine qT 21 rfl (fun _ hS => ymv rfl) (hg5) ?_; refine qT 22 rfl (fun _ hS => ymv rfl) (hg5) ?_; refine qT 23 rfl (fun _ hS => yis U33 ti54 rfl rfl (by omega)) (hg5) ?_; refine qT 24 rfl (fun _ hS => yfa fl54_0 rfl) (hg5) ?_; refine qT 25 rfl (fun _ hS => yldc U3 rfl rfl (rd_pg0 (hP.ext hS) hi' hy)) (hg5) ?_
         refine qO 26 ?_; refine nCall (i := 26) rfl rfl rfl (yc (args := [.tmp 101, .tmp 106]) cf32 rfl) (page_ret (l := st) (hsto _ hg5) (by omega) y.1) ?_
         rintro _ w6 ⟨rfl, hw6⟩
         refine ⟨(by rw [hw6]; exact hg5), ?_⟩
         have hx56 : Ext w5 w6 := by rw [hw6]; exact hg5
         refine qT 27 rfl (fun _ hS => (by first | exact yntd rfl | exact ynt rfl)) ((by rw [hw6]; exact hg5)) ?_
         refine qT 28 rfl (fun _ hS => ymv rfl) ((by rw [hw6]; exact hg5)) ?_
         refine rh_if (fun hp => ?_) (fun hp => ?_)
         ·skip
          refine qT 29 rfl (fun _ hS => ymv rfl) ((by rw [hw6]; exact hg5)) ?_
          refine qT 30 rfl (fun _ hS => (by first | exact ync rfl | exact yncf rfl)) ((by rw [hw6]; exact hg5)) ?_
          refine qT 31 rfl (fun _ hS => yfa fl36_4 rfl) ((by rw [hw6]; exact hg5)) ?_
          refine qT 32 rfl (fun _ hS => yld U34 rfl rfl (hS.blk hB5) rfl) ((by rw [hw6]; exact hg5)) ?_
          refine qT 33 rfl (fun _ hS => ymv rfl) ((by rw [hw6]; exact hg5)) ?_
          refine qT 34 rfl (fun _ hS => ymv rfl) ((by rw [hw6]; exact hg5)) ?_
          refine qT 35 rfl (fun _ hS => yis U33 ti54 rfl rfl (by omega)) ((by rw [hw6]; exact hg5)) ?_
          refine qT 36 rfl (fun _ hS => yfa fl54_0 rfl) ((by rw [hw6]; exact hg5)) ?_
          refine qT 37 rfl (fun _ hS => yldc U3 rfl rfl (rd_pg0 (hP.ext hS) hi' hy)) ((by rw [hw6]; exact hg5)) ?_
          refine qO 38 ?_; refine nCall (i := 38) rfl rfl rfl (yc (args := [.tmp 113, .tmp 118]) cf33 rfl) (has_ret (l := X.gs) (Sl.rd ((hM5.ext hx56).giv)) (by omega) y.1) ?_
          rintro _ w7 ⟨rfl, hw7⟩
          refine ⟨(by rw [hw7]; exact hx56), ?_⟩
          have hx57 : Ext w5 w7 := by rw [hw7]; exact hx56
          refine qT 39 rfl (fun _ hS => (by first | exact yntd rfl | exact ynt rfl)) ((by rw [hw7]; exact hx56)) ?_
          refine qT 40 rfl (fun _ hS => ypT rfl rfl) ((by rw [hw7]; exact hx56)) ?_
          refine qT 41 rfl (fun _ hS => ypF rfl rfl) ((by rw [hw7]; exact hx56)) ?_
          refine qE ?_; refine run_if rfl (fun hq => ?_) (fun hq => ?_)
          ·skip
           exfalso
           rcases hsrc with e | e
           ·exact hp ((hstm _).2 e)
           ·exact hq e
          ·skip
           refine run_skip ?_; refine run_inBlock ?_; refine run_reg rfl ?_; refine qV (ymv rfl) ?_; refine qV (yad rfl rfl (by omega)) ?_; refine qV (yas rfl) ?_; refine rEnd ?_
           exact (ih (i + 1) w7 ⟨by omega, hx5.trans hx57⟩ (by omega)).qb
         ·skip
          refine qJ 29 rfl ((by rw [hw6]; exact hg5)) ?_
          refine qJ 30 rfl ((by rw [hw6]; exact hg5)) ?_
          refine qJ 31 rfl ((by rw [hw6]; exact hg5)) ?_
          refine qJ 32 rfl ((by rw [hw6]; exact hg5)) ?_
          refine qJ 33 rfl ((by rw [hw6]; exact hg5)) ?_
          refine qJ 34 rfl ((by rw [hw6]; exact hg5)) ?_
          refine qJ 35 rfl ((by rw [hw6]; exact hg5)) ?_
          refine qJ 36 rfl ((by rw [hw6]; exact hg5)) ?_
          refine qJ 37 rfl ((by rw [hw6]; exact hg5)) ?_
          refine qJ 38 rfl ((by rw [hw6]; exact hg5)) ?_
          refine qJ 39 rfl ((by rw [hw6]; exact hg5)) ?_
          refine qT 40 rfl (fun _ hS => ypF rfl rfl) ((by rw [hw6]; exact hg5)) ?_
          refine qT 41 rfl (fun _ hS => ypF rfl rfl) ((by rw [hw6]; exact hg5)) ?_
          refine qE ?_; refine run_false rfl ?_; refine run_skip ?_; refine run_inBlock ?_; refine run_reg rfl ?_; refine qV (ymv rfl) ?_; refine qV (yad rfl rfl (by omega)) ?_; refine qV (yas rfl) ?_; refine rEnd ?_
          exact (ih (i + 1) w6 ⟨by omega, hx5.trans hx56⟩ (by omega)).qb
       ·skip
        refine qJ 3 rfl (hg5) ?_; refine qJ 4 rfl (hg5) ?_; refine qJ 5 rfl (hg5) ?_; refine qJ 6 rfl (hg5) ?_; refine qJ 7 rfl (hg5) ?_; refine qJ 8 rfl (hg5) ?_; refine qJ 9 rfl (hg5) ?_; refine qJ 10 rfl (hg5) ?_; refine qJ 11 rfl (hg5) ?_; refine qJ 12 rfl (hg5) ?_; refine qJ 13 rfl (hg5) ?_; refine qJ 14 rfl (hg5) ?_; refine qT 15 rfl (fun _ hS => ypF rfl rfl) (hg5) ?_; refine qT 16 rfl (fun _ hS => ymv rfl) (hg5) ?_; refine qT 17 rfl (fun _ hS => ymv rfl) (hg5) ?_; refine qT 18 rfl (fun _ hS => (by first | exact ync rfl | exact yncf rfl)) (hg5) ?_
        refine qT 19 rfl (fun _ hS => yfa fl36_3 rfl) (hg5) ?_; refine qT 20 rfl (fun _ hS => yld U33 rfl rfl (hS.blk hB5) rfl) (hg5) ?_; refine qT 21 rfl (fun _ hS => ymv rfl) (hg5) ?_; refine qT 22 rfl (fun _ hS => ymv rfl) (hg5) ?_; refine qT 23 rfl (fun _ hS => yis U33 ti54 rfl rfl (by omega)) (hg5) ?_; refine qT 24 rfl (fun _ hS => yfa fl54_0 rfl) (hg5) ?_; refine qT 25 rfl (fun _ hS => yldc U3 rfl rfl (rd_pg0 (hP.ext hS) hi' hy)) (hg5) ?_; refine qO 26 ?_
        refine nCall (i := 26) rfl rfl rfl (yc (args := [.tmp 101, .tmp 106]) cf32 rfl) (page_ret (l := st) (hsto _ hg5) (by omega) y.1) ?_
        rintro _ w6 ⟨rfl, hw6⟩
        refine ⟨(by rw [hw6]; exact hg5), ?_⟩
        have hx56 : Ext w5 w6 := by rw [hw6]; exact hg5
        refine qT 27 rfl (fun _ hS => (by first | exact yntd rfl | exact ynt rfl)) ((by rw [hw6]; exact hg5)) ?_
        refine qT 28 rfl (fun _ hS => ymv rfl) ((by rw [hw6]; exact hg5)) ?_
        refine rh_if (fun hp => ?_) (fun hp => ?_)
        ·skip
         refine qT 29 rfl (fun _ hS => ymv rfl) ((by rw [hw6]; exact hg5)) ?_
         refine qT 30 rfl (fun _ hS => (by first | exact ync rfl | exact yncf rfl)) ((by rw [hw6]; exact hg5)) ?_
         refine qT 31 rfl (fun _ hS => yfa fl36_4 rfl) ((by rw [hw6]; exact hg5)) ?_
         refine qT 32 rfl (fun _ hS => yld U34 rfl rfl (hS.blk hB5) rfl) ((by rw [hw6]; exact hg5)) ?_
         refine qT 33 rfl (fun _ hS => ymv rfl) ((by rw [hw6]; exact hg5)) ?_
         refine qT 34 rfl (fun _ hS => ymv rfl) ((by rw [hw6]; exact hg5)) ?_
         refine qT 35 rfl (fun _ hS => yis U33 ti54 rfl rfl (by omega)) ((by rw [hw6]; exact hg5)) ?_
         refine qT 36 rfl (fun _ hS => yfa fl54_0 rfl) ((by rw [hw6]; exact hg5)) ?_
         refine qT 37 rfl (fun _ hS => yldc U3 rfl rfl (rd_pg0 (hP.ext hS) hi' hy)) ((by rw [hw6]; exact hg5)) ?_
         refine qO 38 ?_; refine nCall (i := 38) rfl rfl rfl (yc (args := [.tmp 113, .tmp 118]) cf33 rfl) (has_ret (l := X.gs) (Sl.rd ((hM5.ext hx56).giv)) (by omega) y.1) ?_
         rintro _ w7 ⟨rfl, hw7⟩
         refine ⟨(by rw [hw7]; exact hx56), ?_⟩
         have hx57 : Ext w5 w7 := by rw [hw7]; exact hx56
         refine qT 39 rfl (fun _ hS => (by first | exact yntd rfl | exact ynt rfl)) ((by rw [hw7]; exact hx56)) ?_
         refine qT 40 rfl (fun _ hS => ypT rfl rfl) ((by rw [hw7]; exact hx56)) ?_
         refine qT 41 rfl (fun _ hS => ypF rfl rfl) ((by rw [hw7]; exact hx56)) ?_
         refine qE ?_; refine run_if rfl (fun hq => ?_) (fun hq => ?_)
         ·skip
          exfalso
          rcases hsrc with e | e
          ·exact hp ((hstm _).2 e)
          ·exact hq e
         ·skip
          refine run_skip ?_; refine run_inBlock ?_; refine run_reg rfl ?_; refine qV (ymv rfl) ?_; refine qV (yad rfl rfl (by omega)) ?_; refine qV (yas rfl) ?_; refine rEnd ?_
          exact (ih (i + 1) w7 ⟨by omega, hx5.trans hx57⟩ (by omega)).qb
        ·skip
         refine qJ 29 rfl ((by rw [hw6]; exact hg5)) ?_
         refine qJ 30 rfl ((by rw [hw6]; exact hg5)) ?_
         refine qJ 31 rfl ((by rw [hw6]; exact hg5)) ?_
         refine qJ 32 rfl ((by rw [hw6]; exact hg5)) ?_
         refine qJ 33 rfl ((by rw [hw6]; exact hg5)) ?_
         refine qJ 34 rfl ((by rw [hw6]; exact hg5)) ?_
         refine qJ 35 rfl ((by rw [hw6]; exact hg5)) ?_
         refine qJ 36 rfl ((by rw [hw6]; exact hg5)) ?_
         refine qJ 37 rfl ((by rw [hw6]; exact hg5)) ?_
         refine qJ 38 rfl ((by rw [hw6]; exact hg5)) ?_
         refine qJ 39 rfl ((by rw [hw6]; exact hg5)) ?_
         refine qT 40 rfl (fun _ hS => ypF rfl rfl) ((by rw [hw6]; exact hg5)) ?_
         refine qT 41 rfl (fun _ hS => ypF rfl rfl) ((by rw [hw6]; exact hg5)) ?_
         refine qE ?_; refine run_false rfl ?_; refine run_skip ?_; refine run_inBlock ?_; refine run_reg rfl ?_; refine qV (ymv rfl) ?_; refine qV (yad rfl rfl (by omega)) ?_; refine qV (yas rfl) ?_; refine rEnd ?_
         exact (ih (i + 1) w6 ⟨by omega, hx5.trans hx56⟩ (by omega)).qb
      ·skip
       refine run_exit rfl ?_; refine qN rfl ?_; refine qV (yas rfl) ?_; refine rEnd ?_; refine run_ret Tryz.func15 rfl ?_
       exact ⟨_, rfl, rfl, (hx02.trans hx24).trans hx5⟩
end
end Go.Proofs.YtocnhaoilnojmaaGreat
namespace Go.Proofs.YtocnhaoilnojmaaGreat
open Go Go.RowKit
set_option linter.all false
set_option maxRecDepth 100000
section
variable {es : Es} {k v : Bytes} {x : Bytes × Bytes}
theorem rise_ne (h : Rise (es.map (·.1))) : (es.map (·.1)).Nodup := h.imp fun {a b} h e => by subst e; rw [lt_irrefl] at h; cases h
theorem hasE_iff (h : Rise (es.map (·.1))) : hasE es k ↔ k ∈ es.map (·.1) := by
 constructor
 ·intro hh; exact List.mem_of_getElem? hh
 ·intro hk
  obtain ⟨i, hi, e⟩ := List.getElem_of_mem hk
  have hge : ¬ i < posE es k := fun hlt => by
   have := pos_lt (l := es.map (·.1)) (t := k) k (by
    have : ((es.map (·.1)).take (pos (es.map (·.1)) k))[i]? = some k := by rw [List.getElem?_take, if_pos (show i < pos (es.map (·.1)) k from hlt), List.getElem?_eq_getElem hi, e]
    exact List.mem_of_getElem? this)
   rw [lt_irrefl] at this; cases this
  rcases Nat.lt_or_eq_of_le (Nat.le_of_not_lt hge) with hlt | heq
  ·have h1 := List.pairwise_iff_getElem.1 h (posE es k) i (by omega) hi hlt
   rw [e] at h1
   have h2 := pos_at (l := es.map (·.1)) (t := k) (List.getElem?_eq_getElem (show posE es k < (es.map (·.1)).length by omega))
   rw [h2] at h1; cases h1
  ·unfold hasE
   rw [heq, List.getElem?_eq_getElem hi, e]
theorem getR_code (h : Rise (es.map (·.1))) : (getR es k).2 = 0 ↔ keyOk k ∧ k ∈ es.map (·.1) := by
 unfold getR
 by_cases hk : keyOk k
 ·rw [if_pos hk]
  by_cases hh : hasE es k
  ·have hlt := hasE_lt hh
   have hm : (es.map (·.2))[posE es k]? = some ((es[posE es k]).2) := by rw [List.getElem?_map, List.getElem?_eq_getElem hlt]; rfl
   rw [getE_some hh hm]
   exact ⟨fun _ => ⟨hk, (hasE_iff h).1 hh⟩, fun _ => rfl⟩
  ·rw [getE_none hh]
   exact ⟨fun e => (by cases e), fun e => absurd ((hasE_iff h).2 e.2) hh⟩
 ·rw [if_neg hk]
  exact ⟨fun e => (by cases e), fun e => absurd e.1 hk⟩
/-- A place in a rising list. -/
theorem split_rise (h : Rise (es.map (·.1))) {i : Nat} (hi : i < es.length) (x : Bytes × Bytes) : (x ∈ es ∧ x.1 ≠ es[i].1) ↔ x ∈ es.take i ++ es.drop (i + 1) := by
 have hnd := rise_ne h
 have he : es = es.take i ++ es[i] :: es.drop (i + 1) := by rw [← List.drop_eq_getElem_cons hi, List.take_append_drop]
 have hnd2 : ((es.take i ++ es[i] :: es.drop (i + 1)).map (·.1)).Nodup := by rw [← he]; exact hnd
 rw [List.map_append, List.map_cons] at hnd2
 obtain ⟨-, n2, n3⟩ := List.nodup_append.1 hnd2
 have n4 := List.nodup_cons.1 n2
 constructor
 ·rintro ⟨hx, hne⟩
  rw [he] at hx
  rcases List.mem_append.1 hx with hx | hx
  ·exact List.mem_append_left _ hx
  ·rcases List.mem_cons.1 hx with e | hx
   ·exact absurd (by rw [e]) hne
   ·exact List.mem_append_right _ hx
 ·intro hx
  rcases List.mem_append.1 hx with hx | hx
  ·exact ⟨List.mem_of_mem_take hx, fun e => n3 _ (List.mem_map.2 ⟨x, hx, rfl⟩) _ (List.mem_cons_self ..) e⟩
  ·exact ⟨List.mem_of_mem_drop hx, fun e => n4.1 (by rw [← e]; exact List.mem_map.2 ⟨x, hx, rfl⟩)⟩
theorem has_at (h : hasE es k) : es[posE es k]'(hasE_lt h) = (k, (es[posE es k]'(hasE_lt h)).2) := by
 have hlt := hasE_lt h
 have := (hasE_at (es := es) (k := k) (List.getElem?_eq_getElem hlt)).1 h
 exact Prod.ext this rfl
theorem mem_ins (h : Rise (es.map (·.1))) : x ∈ insE es k v ↔ x = (k, v) ∨ (x.1 ≠ k ∧ x ∈ es) := by
 by_cases hh : hasE es k
 ·have hlt := hasE_lt hh
  have hs := split_rise h hlt x
  have hk : es[posE es k].1 = k := congrArg Prod.fst (has_at hh)
  rw [hk] at hs
  have e : insE es k v = es.take (posE es k) ++ (k, v) :: es.drop (posE es k + 1) := by unfold insE; rw [if_pos hh]
  rw [e]
  simp only [List.mem_append, List.mem_cons] at hs ⊢
  constructor
  ·rintro (h1 | h1 | h1)
   ·exact .inr (hs.2 (.inl h1)).symm
   ·exact .inl h1
   ·exact .inr (hs.2 (.inr h1)).symm
  ·rintro (h1 | ⟨h1, h2⟩)
   ·exact .inr (.inl h1)
   ·exact (hs.1 ⟨h2, h1⟩).imp id .inr
 ·have hne : ∀ y ∈ es, y.1 ≠ k := fun y hy e => hh ((hasE_iff h).2 (List.mem_map.2 ⟨y, hy, e⟩))
  rw [insE_new hh]
  have he : x ∈ es ↔ x ∈ es.take (posE es k) ∨ x ∈ es.drop (posE es k) := by rw [← List.mem_append, List.take_append_drop]
  simp only [List.mem_append, List.mem_cons]
  constructor
  ·rintro (h1 | h1 | h1)
   ·exact .inr ⟨hne _ (he.2 (.inl h1)), he.2 (.inl h1)⟩
   ·exact .inl h1
   ·exact .inr ⟨hne _ (he.2 (.inr h1)), he.2 (.inr h1)⟩
  ·rintro (h1 | ⟨-, h2⟩)
   ·exact .inr (.inl h1)
   ·exact (he.1 h2).imp id .inr
theorem mem_del (h : Rise (es.map (·.1))) : x ∈ delE es k ↔ x.1 ≠ k ∧ x ∈ es := by
 unfold delE
 by_cases hh : hasE es k
 ·rw [if_pos hh]
  have hs := split_rise h (hasE_lt hh) x
  have hk : (es[posE es k]'(hasE_lt hh)).1 = k := congrArg Prod.fst (has_at hh)
  rw [hk] at hs
  rw [← hs]
  exact And.comm
 ·rw [if_neg hh]
  exact ⟨fun hx => ⟨fun e => hh ((hasE_iff h).2 (List.mem_map.2 ⟨x, hx, e⟩)), hx⟩, fun hx => hx.2⟩
end
/-- Rising lists of the same entries are one. -/
theorem es_ext {a b : Es} (ha : Rise (a.map (·.1))) (hb : Rise (b.map (·.1))) (h : ∀ x, x ∈ a ↔ x ∈ b) : a = b := by
 have na : a.Nodup := List.Pairwise.imp (fun {x y} h e => by subst e; rw [lt_irrefl] at h; cases h) (List.pairwise_map.1 ha)
 have nb : b.Nodup := List.Pairwise.imp (fun {x y} h e => by subst e; rw [lt_irrefl] at h; cases h) (List.pairwise_map.1 hb)
 have hp : a.Perm b := (List.perm_ext_iff_of_nodup na nb).2 h
 exact hp.eq_of_pairwise (le := fun x y => lt x.1 y.1 = true) (fun x y _ _ h1 h2 => by rw [lt_asymm h1] at h2; cases h2) (List.pairwise_map.1 ha) (List.pairwise_map.1 hb)
/-! ### What TreeAlike keeps of the second tree -/
/-- The last entries were put over the others' ones. -/
def AlikeA (oth : List Bytes) (S : Es) (j : Nat) (Q : Es) : Prop := (∀ x ∈ S.drop j, x ∈ Q) ∧ ∀ x ∈ Q, x ∈ S.drop j ∨ (x.1 ∈ oth ∧ x.1 ∉ (S.drop j).map (·.1))
theorem AlikeA.step {oth : List Bytes} {S Q : Es} {j : Nat} (h : AlikeA oth S (j + 1) Q) (hS : Rise (S.map (·.1))) (hQ : Rise (Q.map (·.1))) {x : Bytes × Bytes} (hx : S[j]? = some x) : AlikeA oth S j (insE Q x.1 x.2) := by
 obtain ⟨hj, e⟩ := List.getElem?_eq_some_iff.1 hx
 have hd : S.drop j = x :: S.drop (j + 1) := by rw [List.drop_eq_getElem_cons hj, e]
 have hne : ∀ y ∈ S.drop (j + 1), y.1 ≠ x.1 := fun y hy => by
  have := (split_rise hS hj y).2 (List.mem_append_right _ hy)
  rw [e] at this; exact this.2
 constructor
 ·intro y hy
  rw [hd] at hy
  rw [mem_ins hQ]
  rcases List.mem_cons.1 hy with rfl | hy
  ·exact .inl rfl
  ·exact .inr ⟨hne y hy, h.1 y hy⟩
 ·intro y hy
  rw [mem_ins hQ] at hy
  rw [hd]
  rcases hy with rfl | ⟨h1, h2⟩
  ·exact .inl (List.mem_cons_self ..)
  ·rcases h.2 y h2 with h3 | ⟨h3, h4⟩
   ·exact .inl (List.mem_cons_of_mem _ h3)
   ·refine .inr ⟨h3, fun hm => ?_⟩
    rw [List.map_cons] at hm
    rcases List.mem_cons.1 hm with hm | hm
    ·exact h1 hm
    ·exact h4 hm
/-- The first of the others were deleted, as far as the first tree lacks them. -/
def AlikeB (oth : List Bytes) (S : Es) (i : Nat) (Q : Es) : Prop := (∀ x ∈ S, x ∈ Q) ∧ ∀ x ∈ Q, x ∈ S ∨ (x.1 ∈ oth.drop i ∧ x.1 ∉ S.map (·.1))
theorem AlikeA.fin {oth : List Bytes} {S Q : Es} (h : AlikeA oth S 0 Q) : AlikeB oth S 0 Q := h
theorem AlikeB.del {oth : List Bytes} {S Q : Es} {i : Nat} (h : AlikeB oth S i Q) (hS : Rise (S.map (·.1))) (hQ : Rise (Q.map (·.1))) {o : Bytes} (ho : oth[i]? = some o) (h1 : (getR S o).2 ≠ 0) (h2 : (getR Q o).2 = 0) : AlikeB oth S (i + 1) (delE Q o) := by
 obtain ⟨hi, e⟩ := List.getElem?_eq_some_iff.1 ho
 have hd : oth.drop i = o :: oth.drop (i + 1) := by rw [List.drop_eq_getElem_cons hi, e]
 have hno : o ∉ S.map (·.1) := fun hm => h1 ((getR_code hS).2 ⟨((getR_code hQ).1 h2).1, hm⟩)
 constructor
 ·intro x hx
  rw [mem_del hQ]
  exact ⟨fun e => hno (by rw [← e]; exact List.mem_map.2 ⟨x, hx, rfl⟩), h.1 x hx⟩
 ·intro x hx
  obtain ⟨h3, h4⟩ := (mem_del hQ).1 hx
  rcases h.2 x h4 with h5 | ⟨h5, h6⟩
  ·exact .inl h5
  ·rw [hd] at h5
   rcases List.mem_cons.1 h5 with e | h5
   ·exact absurd e h3
   ·exact .inr ⟨h5, h6⟩
theorem AlikeB.keep {oth : List Bytes} {S Q : Es} {i : Nat} (h : AlikeB oth S i Q) (hS : Rise (S.map (·.1))) (hQ : Rise (Q.map (·.1))) (hk : ∀ x ∈ Q, keyOk x.1) {o : Bytes} (ho : oth[i]? = some o) (h1 : (getR S o).2 = 0 ∨ (getR Q o).2 ≠ 0) : AlikeB oth S (i + 1) Q := by
 obtain ⟨hi, e⟩ := List.getElem?_eq_some_iff.1 ho
 have hd : oth.drop i = o :: oth.drop (i + 1) := by rw [List.drop_eq_getElem_cons hi, e]
 refine ⟨h.1, fun x hx => ?_⟩
 rcases h.2 x hx with h5 | ⟨h5, h6⟩
 ·exact .inl h5
 ·rw [hd] at h5
  rcases List.mem_cons.1 h5 with e | h5
  ·exfalso
   rcases h1 with h1 | h1
   ·exact h6 (by rw [e]; exact ((getR_code hS).1 h1).2)
   ·exact h1 ((getR_code hQ).2 ⟨by rw [← e]; exact hk x hx, by rw [← e]; exact List.mem_map.2 ⟨x, hx, rfl⟩⟩)
  ·exact .inr ⟨h5, h6⟩
theorem AlikeB.fin {oth : List Bytes} {S Q : Es} {i : Nat} (h : AlikeB oth S i Q) (hi : oth.length ≤ i) (hS : Rise (S.map (·.1))) (hQ : Rise (Q.map (·.1))) : S = Q := by
 refine es_ext hS hQ fun x => ⟨h.1 x, fun hx => ?_⟩
 rcases h.2 x hx with h1 | ⟨h1, -⟩
 ·exact h1
 ·rw [List.drop_eq_nil_of_le hi] at h1; cases h1
end Go.Proofs.YtocnhaoilnojmaaGreat
namespace Go.Proofs.YtocnhaoilnojmaaGreat
open Go Go.RowKit
set_option linter.all false
set_option maxRecDepth 100000
theorem flat_nth {α : Type} {f : α → List Value} {k : Nat} (hf : ∀ a, (f a).length = k) : ∀ (l : List α) (i r : Nat), r < k → (l.flatMap f)[i * k + r]? = (l[i]?).bind fun a => (f a)[r]?
 | [], i, r, hr => by simp
 | a :: l, 0, r, hr => by
   rw [List.flatMap_cons, Nat.zero_mul, Nat.zero_add, List.getElem?_append_left (by rw [hf]; exact hr)]
   rfl
 | a :: l, i + 1, r, hr => by
   rw [List.flatMap_cons, List.getElem?_append_right (by rw [hf, Nat.succ_mul]; omega), hf, show (i + 1) * k + r - k = i * k + r by rw [Nat.succ_mul]; omega, flat_nth hf l i r hr]
   rfl
/-- A call as plain data. -/
structure TOp where
 kd : Int
 key : Bytes
 val : Bytes
 n : Int
 nos : List Int
 auto : Bool
 nv : Value
def TOp.cs (o : TOp) : List Value := opC o.kd o.key o.val o.n o.nv o.auto
/-- A list of calls in memory. -/
structure OpsT (w : World) (v : Value) (l : List TOp) : Prop where
 rd : Rd w v 6 l.length (l.flatMap TOp.cs)
 le : l.length ≤ 140737488355328
 nos : ∀ o ∈ l, Rd w o.nv 1 o.nos.length (o.nos.map I) ∧ o.nos.length ≤ 17592186044415
 str : ∀ o ∈ l, o.key.length ≤ 140737488355328 ∧ o.val.length ≤ 140737488355328 ∧ o.n ≤ 9223372036854775807
theorem OpsT.ext {w w' : World} {v : Value} {l : List TOp} (h : OpsT w v l) (k : Ext w w') : OpsT w' v l := ⟨h.rd.ext k, h.le, fun o ho => ⟨(h.nos o ho).1.ext k, (h.nos o ho).2⟩, h.str⟩
theorem rd_op {w : World} {b off n cap : Nat} {l : List TOp} {i : Nat} {o : TOp} (h : Rd w (.slice (some ⟨b, off, none⟩) n cap) 6 n (l.flatMap TOp.cs)) (hi : i < n) (hy : l[i]? = some o) (r : Nat) (hr : r < 6) : w.cell? ⟨b, off + i * 6 + r, none⟩ = o.cs[r]? := by
 rcases h.2 with ⟨c, -, h0⟩ | ⟨b', off', cap', hv, hc⟩
 ·omega
 ·cases hv
  have e := flat_nth (f := TOp.cs) (k := 6) (fun a => rfl) l i r hr
  rw [hy] at e
  have e' : (l.flatMap TOp.cs)[i * 6 + r]? = o.cs[r]? := e
  have hlt : r < o.cs.length := hr
  rw [List.getElem?_eq_getElem hlt] at e' ⊢
  have := hc _ _ e'
  rw [Nat.add_assoc]; exact this
theorem rd_ops {w : World} {a : Option Addr} {cap n : Nat} {l : List TOp} {i : Nat} (h : Rd w (.slice a n cap) 6 n (l.flatMap TOp.cs)) (hn : n = l.length) (hi : i < n) : ∃ b off o, a = some ⟨b, off, none⟩ ∧ l[i]? = some o := by
 rcases h.2 with ⟨c, -, h0⟩ | ⟨b', off', cap', hv, hc⟩
 ·omega
 ·cases hv
  exact ⟨b', off', _, rfl, List.getElem?_eq_getElem (by omega)⟩
section
variable {w w' w0 : World} {q : Nat} {X : Sx} {p m : Nat} {mv sv gv : Value} {nb : Int → Nat} {F : Nat → Prop} {S : Nat → Prop}
theorem StM.kp (h : StM w q X p m mv sv gv nb F) (k : Kp S w w') (hn : ∀ k, fpS q m mv sv gv F k → ¬ S k) : StM w' q X p m mv sv gv nb F :=
 ⟨k.blk h.blk (hn _ (.inl rfl)), h.tree.kp k (fun g hg => hn g (.inr (.inr (.inr (.inr (.inr hg)))))), h.map.kp k (hn _ (.inr (.inl rfl))) (fun g hg => hn g (.inr (.inr (.inl hg)))), h.sto.kp k (fun g hg => hn g (.inr (.inr (.inr (.inl hg))))), h.giv.kp k (fun g hg => hn g (.inr (.inr (.inr (.inr (.inl hg)))))), h.qm, h.fq, h.fm, h.ov, h.og⟩
/-- A new state over a new tree. -/
theorem StM.init {z : Nat} (hT : TreeA w p (Tr0 z) nb F) (hm : Blk w m [.slice none 0 0] 32) (hB : Blk w q [I (z : Int), ptr p 0, ptr m 0, .slice none 0 0, .slice none 0 0, I 0] 36) (hqm : q ≠ m) (hq : ¬ F q) (hmF : ¬ F m) :
  StM w q ⟨Tr0 z, 0, [], [], fun _ => none, [], [], 0⟩ p m (.slice none 0 0) (.slice none 0 0) (.slice none 0 0) nb F :=
 ⟨hB, hT, ⟨hm, Sl.nil _ _ _, by simp [Value.ownBlock], by simp⟩, by
  have e : pgs z (fun _ => none) [] (fun _ => true) = [] := List.eq_nil_of_length_eq_zero (by rw [pgs_all_len]; rfl)
  show Sl w _ _ 2 (pgs z (fun _ => none) [] (fun _ => true)).length (pgC (pgs z (fun _ => none) [] (fun _ => true)))
  rw [e]
  exact Sl.nil _ _ _, Sl.nil _ _ _, hqm, hq, hmF, fun g hg => by simp [Value.ownBlock] at hg, fun g hg => by simp [Value.ownBlock] at hg⟩
end
/-- Two states, apart. -/
def St2 (w0 w : World) (qa pa ma qb pb mb : Nat) (Xa Xb : Sx) : Prop := ∃ mva sva gva nba Fa mvb svb gvb nbb Fb, StM w qa Xa pa ma mva sva gva nba Fa ∧ StM w qb Xb pb mb mvb svb gvb nbb Fb ∧ (∀ k, fpS qa ma mva sva gva Fa k → w0.heap.size ≤ k) ∧ (∀ k, fpS qb mb mvb svb gvb Fb k → w0.heap.size ≤ k) ∧ (∀ k, fpS qa ma mva sva gva Fa k → ¬ fpS qb mb mvb svb gvb Fb k) ∧ Ext w0 w
section
variable {w0 w w' : World} {qa pa ma qb pb mb : Nat} {Xa Xb Xa' : Sx}
theorem St2.symm (h : St2 w0 w qa pa ma qb pb mb Xa Xb) : St2 w0 w qb pb mb qa pa ma Xb Xa := by
 obtain ⟨mva, sva, gva, nba, Fa, mvb, svb, gvb, nbb, Fb, h1, h2, h3, h4, h5, h6⟩ := h
 exact ⟨mvb, svb, gvb, nbb, Fb, mva, sva, gva, nba, Fa, h2, h1, h4, h3, fun k hk hk' => h5 k hk' hk, h6⟩
theorem St2.ext (h : St2 w0 w qa pa ma qb pb mb Xa Xb) (k : Ext w w') : St2 w0 w' qa pa ma qb pb mb Xa Xb := by
 obtain ⟨mva, sva, gva, nba, Fa, mvb, svb, gvb, nbb, Fb, h1, h2, h3, h4, h5, h6⟩ := h
 exact ⟨mva, sva, gva, nba, Fa, mvb, svb, gvb, nbb, Fb, h1.ext k, h2.ext k, h3, h4, h5, h6.trans k⟩
/-- A call on the first of them. -/
theorem St2.opA {mva sva gva : Value} {nba : Int → Nat} {Fa : Nat → Prop} {mvb svb gvb : Value} {nbb : Int → Nat} {Fb : Nat → Prop} (h1 : StM w qa Xa pa ma mva sva gva nba Fa) (h2 : StM w qb Xb pb mb mvb svb gvb nbb Fb) (h3 : ∀ k, fpS qa ma mva sva gva Fa k → w0.heap.size ≤ k) (h4 : ∀ k, fpS qb mb mvb svb gvb Fb k → w0.heap.size ≤ k) (h5 : ∀ k, fpS qa ma mva sva gva Fa k → ¬ fpS qb mb mvb svb gvb Fb k) (h6 : Ext w0 w)
  {mva' sva' gva' : Value} {nba' : Int → Nat} {Fa' : Nat → Prop} (hn : StM w' qa Xa' pa ma mva' sva' gva' nba' Fa') (hk : Kp (fpS qa ma mva sva gva Fa) w w') (hf : ∀ k, fpS qa ma mva' sva' gva' Fa' k → fpS qa ma mva sva gva Fa k ∨ w.heap.size ≤ k) : St2 w0 w' qa pa ma qb pb mb Xa' Xb := by
 refine ⟨mva', sva', gva', nba', Fa', mvb, svb, gvb, nbb, Fb, hn, h2.kp hk (fun k h h' => h5 k h' h), fun k h => ?_, h4, fun k h h' => ?_, h6.trans_new hk (fun i hi => h3 i hi)⟩
 ·rcases hf k h with e | e
  ·exact h3 k e
  ·have := h6.size; omega
 ·rcases hf k h with e | e
  ·exact h5 k e h'
  ·have := h2.lt h'; omega
end
end Go.Proofs.YtocnhaoilnojmaaGreat
namespace Go.Proofs.YtocnhaoilnojmaaGreat
open Go Go.RowKit
set_option linter.all false
set_option maxRecDepth 100000
def X0 : Sx := ⟨Tr0 512, 0, [], [], fun _ => none, [], [], 0⟩
section
variable {e : Env} {d : Option Nat} {ty t' : TypeId} {pos : String} {aft : Array Edge} {g : Option (Nat × Bool)} {x y : Operand} {w : World}
/-- Entries of the program. -/
theorem yneET {a b c u : Bytes} (hx : look e x = some (.agg #[S a, S b])) (hy : look e y = some (.agg #[S c, S u])) : Y Tryz.prog e ⟨d, .binOp .neq 49 x y t', ty, pos, aft, g⟩ (.bool (!(decide (a = c) && decide (b = u)))) w w :=
 yneS2 U49 (by kernel_rfl) (by kernel_rfl) (by decide) (by decide) rfl rfl (by kernel_rfl) (by kernel_rfl) hx hy (fun w => eq_strW U9) (fun w => eq_strW U9)
end
/-- All entries may be. -/
def MayAll (es : Es) : Prop := ∀ x ∈ es, may 512 x.1 x.2
section
variable {w : World}
set_option maxHeartbeats 8000000 in
theorem treeAlike_ret {lv : Value} {l : List TOp} (hL : OpsT w lv l) {ov : Value} {oth : List Bytes} (hO : Rd w ov 1 oth.length (oth.map S)) (hol : oth.length ≤ 140737488355328) (hos : ∀ o ∈ oth, o.length ≤ 140737488355328) :
  Ret Tryz.prog 3 [lv, ov] w fun v w' => v = .bool true ∧ Ext w w' := by
 have hz : sizeOk ((512 : Nat) : Int) := by unfold sizeOk; decide
 have hll := hL.le
 obtain ⟨la, lc, rfl, -⟩ := hL.rd.shape
 obtain ⟨oa, oc, rfl, -⟩ := hO.shape
 refine ret_of_run (e := [(0, _), (1, _)]) Tryz.func3 rfl Tryz.ntmps3 rfl rfl ?_; refine qN rfl ?_; refine qV (yas rfl) ?_; refine qM rfl ?_; refine rCall rfl rfl (yc (args := [.const (Value.int .i64 512)]) cf8 rfl) (newT_ret 512) ?_
 rintro v1 w1 ⟨hx1, hv1⟩
 obtain ⟨pa, Fa, rfl, hTa, hFa⟩ : ∃ p F, v1 = .tuple #[ptr p 0, I 0] ∧ TreeA w1 p (Tr0 512) (fun _ => 0) F ∧ ∀ k, F k → w.heap.size ≤ k := by
  rcases hv1 with ⟨-, h⟩ | ⟨h, -⟩
  ·exact h
  ·exact absurd hz h
 refine qV (ymv rfl) ?_; refine qV (yex rfl rfl) ?_; refine qV (yex rfl rfl) ?_; refine qV (yas rfl) ?_; refine qV (yas rfl) ?_; refine qM rfl ?_; refine rCall rfl rfl (yc (args := [.const (Value.int .i64 512)]) cf8 rfl) (newT_ret 512) ?_
 rintro v2 w2 ⟨hx2, hv2⟩
 obtain ⟨pb, Fb, rfl, hTb, hFb⟩ : ∃ p F, v2 = .tuple #[ptr p 0, I 0] ∧ TreeA w2 p (Tr0 512) (fun _ => 0) F ∧ ∀ k, F k → w1.heap.size ≤ k := by
  rcases hv2 with ⟨-, h⟩ | ⟨h, -⟩
  ·exact h
  ·exact absurd hz h
 refine qV (ymv rfl) ?_; refine qV (yex rfl rfl) ?_; refine qV (yex rfl rfl) ?_; refine qV (yas rfl) ?_; refine qV (yas rfl) ?_; refine rEnd ?_; refine run_seq ?_; refine qN rfl ?_; refine qV (ymv rfl) ?_; refine qV (yne rfl rfl) ?_; refine qV (ymv rfl) ?_; refine rVal_if (fun h1 => ?_) (fun h1 => ?_)
 ·exact absurd rfl h1
 ·skip
  refine qV (ymv rfl) ?_; refine qV (yne rfl rfl) ?_; refine qV (ypF rfl rfl) ?_; refine rEnd ?_; refine run_if rfl (fun h2 => ?_) (fun h2 => ?_)
  ·exact absurd rfl h2
  ·skip
   refine run_skip ?_; refine qN rfl ?_; refine qV (ymv rfl) ?_; refine qV (ybd (parts := []) (cs := [_]) ti32 rfl sp32 rfl rfl) ?_; refine rValP rfl rfl (pbx rfl rfl) ?_
   rintro _ w3 ⟨ma, rfl, hma, hx3, hB3⟩
   refine qV (ybd (parts := [(0, .const (Value.int .i64 512)), (1, .tmp 39), (2, .tmp 41)]) (cs := [_, _, _, _, _, _]) ti36 rfl sp36 rfl rfl) ?_; refine rValP rfl rfl (pbx rfl rfl) ?_
   rintro _ w4 ⟨qa, rfl, hqa, hx4, hB4⟩
   refine qV (yas rfl) ?_; refine rEnd ?_; refine Run.qb (e := [(0, _), (1, _), (4, _), (5, _), (7, _), (9, _)]) ?_; refine qN rfl ?_; refine qV (ymv rfl) ?_; refine qV (ybd (parts := []) (cs := [_]) ti32 rfl sp32 rfl rfl) ?_; refine rValP rfl rfl (pbx rfl rfl) ?_
   rintro _ w5 ⟨mb, rfl, hmb, hx5, hB5⟩
   refine qV (ybd (parts := [(0, .const (Value.int .i64 512)), (1, .tmp 44), (2, .tmp 46)]) (cs := [_, _, _, _, _, _]) ti36 rfl sp36 rfl rfl) ?_; refine rValP rfl rfl (pbx rfl rfl) ?_
   rintro _ w6 ⟨qb, rfl, hqb, hx6, hB6⟩
   have hz1 := hx1.size
   have hz2 := hx2.size
   have hz3 := hx3.size
   have hz4 := hx4.size
   have hz5 := hx5.size
   have hz6 := hx6.size
   have hl3 := hB3.lt
   have hl4 := hB4.lt
   have hl5 := hB5.lt
   have hl6 := hB6.lt
   have hlTa := hTa.lt
   have hlTb := hTb.lt
   have hx26 := ((hx3.trans hx4).trans hx5).trans hx6
   have hMa : StM w6 qa X0 pa ma (.slice none 0 0) (.slice none 0 0) (.slice none 0 0) (fun _ => 0) Fa := StM.init ((hTa.ext hx2).ext hx26) (((hx4.trans hx5).trans hx6).blk hB3) ((hx5.trans hx6).blk hB4) (by omega) (fun e => by have := hlTa _ e; omega) (fun e => by have := hlTa _ e; omega)
   have hMb : StM w6 qb X0 pb mb (.slice none 0 0) (.slice none 0 0) (.slice none 0 0) (fun _ => 0) Fb := StM.init (hTb.ext hx26) (hx6.blk hB5) hB6 (by omega) (fun e => by have := hlTb _ e; omega) (fun e => by have := hlTb _ e; omega)
   have hSt : St2 w w6 qa pa ma qb pb mb X0 X0 := ⟨_, _, _, _, _, _, _, _, _, _, hMa, hMb, fun k hk => by
    rcases hk with e | e | e | e | e | e
    ·omega
    ·omega
    ·simp [Value.ownBlock] at e
    ·simp [Value.ownBlock] at e
    ·simp [Value.ownBlock] at e
    ·exact hFa k e, fun k hk => by
    rcases hk with e | e | e | e | e | e
    ·omega
    ·omega
    ·simp [Value.ownBlock] at e
    ·simp [Value.ownBlock] at e
    ·simp [Value.ownBlock] at e
    ·have := hFb k e; omega, fun k hk hk' => by
    have h1 : k = qa ∨ k = ma ∨ k < w1.heap.size := by
     rcases hk with e | e | e | e | e | e
     ·exact .inl e
     ·exact .inr (.inl e)
     ·simp [Value.ownBlock] at e
     ·simp [Value.ownBlock] at e
     ·simp [Value.ownBlock] at e
     ·exact .inr (.inr (hlTa k e))
    have h2 : k = qb ∨ k = mb ∨ (w1.heap.size ≤ k ∧ k < w2.heap.size) := by
     rcases hk' with e | e | e | e | e | e
     ·exact .inl e
     ·exact .inr (.inl e)
     ·simp [Value.ownBlock] at e
     ·simp [Value.ownBlock] at e
     ·simp [Value.ownBlock] at e
     ·exact .inr (.inr ⟨hFb k e, hlTb k e⟩)
    omega, (hx1.trans hx2).trans hx26⟩
   refine qV (yas rfl) ?_; refine qM rfl ?_; refine qV (ymv rfl) ?_; refine qV (yln U22 rfl) ?_; refine qV (ymi rfl rfl) ?_
   rw [show min ((l.length : Nat) : Int) 60 = ((min l.length 60 : Nat) : Int) by omega]
   obtain ⟨n, hn⟩ : ∃ n, min l.length 60 = n := ⟨_, rfl⟩
   rw [hn]
   have hnl : n ≤ l.length ∧ n ≤ 60 := by omega
   refine qV (yas rfl) ?_; refine rEnd ?_; refine run_seq ?_; refine qN rfl ?_; refine qV (yas rfl) ?_; refine rEnd ?_; refine run_block ?_; refine run_loop (α := Nat) (0) (fun i => [(0, .slice la l.length lc), (1, .slice oa oth.length oc), (5, ptr pa 0), (7, ptr pb 0), (9, ptr qa 0), (10, ptr qb 0), (11, I (n : Int)), (12, I (i : Int))]) (fun i w' => i ≤ n ∧ ∃ Xa, St2 w w' qa pa ma qb pb mb Xa X0 ∧ Gh Xa i ∧ Xa.T.size = 512 ∧ MayAll Xa.es) (fun i => n - i) (by repeat (first | exact Sub.nil | refine Sub.cons rfl ?_)) ?hI ?hround
   case hI => exact ⟨Nat.zero_le _, X0, hSt, gh0 512, rfl, fun x hx => by cases hx⟩
   case hround =>
    rintro i u1 ⟨hi, Xa, hSt, hGa, hsa, hma⟩ ih
    try dsimp only
    refine run_seq ?_; refine qN rfl ?_; refine qV (ymv rfl) ?_; refine qV (ymv rfl) ?_; refine qV (ylt rfl rfl) ?_; refine rEnd ?_; refine run_if rfl (fun hlt => ?_) (fun hlt => ?_)
    ·skip
     obtain ⟨mva, sva, gva, nba, Fa, mvb, svb, gvb, nbb, Fb, hA, hB, h3, h4, h5, h6⟩ := hSt
     have hi' : i < l.length := by omega
     have hLu := hL.ext h6
     obtain ⟨b1, o1, o, rfl, ho⟩ := rd_ops hLu.rd rfl hi'
     have hom := List.mem_of_getElem? ho
     have hg : Ext u1 u1.drew := Ext.drew0 u1
     have hza : sizeOk (Xa.T.size : Int) := by rw [hsa]; exact hz
     refine run_skip ?_; refine run_seq ?_; refine run_block ?_; refine run_seq ?_; refine run_draw (fun w' => Kp (fpS qa ma mva sva gva Fa) u1 w') (by kernel_rfl) rfl ?_
     have hLk : ∀ w', Kp (fpS qa ma mva sva gva Fa) u1 w' → Rd w' (.slice (some ⟨b1, o1, none⟩) l.length lc) 6 l.length (l.flatMap TOp.cs) := fun w' k => Rd.kpz hLu.rd k (fun h0 g hg e => by
      have := Rd.ltz hL.rd (by omega) h0 hg
      have := h3 g e
      omega)
     have hos' := hL.str o hom
     refine qT 0 rfl (fun _ hS => ymv rfl) (hg.kp) ?_; refine qT 1 rfl (fun _ hS => ymv rfl) (hg.kp) ?_; refine qT 2 rfl (fun _ hS => ymv rfl) (hg.kp) ?_; refine qT 3 rfl (fun _ hS => yis U22 ti39 rfl rfl (by omega)) (hg.kp) ?_; refine qT 4 rfl (fun _ hS => yfa fl39_1 rfl) (hg.kp) ?_; refine qT 6 rfl (fun _ hS => ymv rfl) (hg.kp) ?_; refine qT 7 rfl (fun _ hS => ymv rfl) (hg.kp) ?_; refine qT 8 rfl (fun _ hS => yis U22 ti39 rfl rfl (by omega)) (hg.kp) ?_; refine qT 9 rfl (fun _ hS => yfa fl39_2 rfl) (hg.kp) ?_
     refine qT 5 rfl (fun _ hS => yldc U9 rfl rfl (rd_op (hLk _ hS) hi' ho 1 (by omega))) (hg.kp) ?_; refine qT 10 rfl (fun _ hS => yldc U9 rfl rfl (rd_op (hLk _ hS) hi' ho 2 (by omega))) (hg.kp) ?_; refine qT 11 rfl (fun _ hS => ybd (parts := [(1, .tmp 62), (2, .tmp 67), (5, .const (Value.bool true))]) (cs := [_, _, _, _, _, _]) ti39 rfl sp39 rfl rfl) (hg.kp) ?_; refine qO 12 ?_; refine nCall (i := 12) rfl rfl rfl (yc (args := [.tmp 57, .tmp 68]) cf9 rfl) (putS_ret (hA.ext hg) hGa hza (by omega) 0 o.key o.val 0 (.slice none 0 0) true hos'.1 hos'.2.1) ?_
     rintro _ u2 ⟨rfl, Xa2, mva2, gva2, nba2, Fa2, hA2, hGa2, hsa2, hes2, hk2, hf2⟩
     refine ⟨hg.kp.trans hk2, ?_⟩
     have hz12 := hg.size
     have hk12 : Kp (fpS qa ma mva sva gva Fa) u1 u2 := hg.kp.trans hk2
     have hSt2 := St2.opA hA hB h3 h4 h5 h6 hA2 hk12 (fun k hk => (hf2 k hk).imp id (fun e => by omega))
     have hma2 : MayAll Xa2.es := by
      rcases hes2 with ⟨e1, e2⟩ | ⟨e1, -⟩
      ·rw [e2]
       intro x hx
       rcases (mem_ins (hGa.inv.rise hza)).1 hx with rfl | ⟨-, hx⟩
       ·rw [hsa] at e1; exact e1
       ·exact hma x hx
      ·rw [e1]; exact hma
     refine qT 13 rfl (fun _ hS => (by first | exact yntd rfl | exact ynt rfl)) (hg.kp.trans hk2) ?_; refine qE ?_; refine run_cond rfl (fun hq => ?_) (fun hq => ?_)
     ·exact absurd hq (by decide)
     ·skip
      refine run_skip ?_; refine run_inBlock ?_; refine run_reg rfl ?_; refine qV (ymv rfl) ?_; refine qV (yad rfl rfl (by omega)) ?_; refine qV (yas rfl) ?_; refine rEnd ?_
      exact (ih (i + 1) u2 ⟨by omega, Xa2, hSt2, hGa2, hsa2.trans hsa, hma2⟩ (by omega)).qb
    ·skip
     have hki : i ≤ 60 := by omega
     have hGa := hGa.mono hki
     have hSt1 := hSt
     clear hSt hlt hi hn ih hnl
     obtain ⟨ot, hot⟩ : ∃ ot, oth.take 60 = ot := ⟨_, rfl⟩
     have hza : sizeOk (Xa.T.size : Int) := by rw [hsa]; exact hz
     have hra := hGa.inv.rise hza
     have hela := hGa.el
     refine run_exit rfl ?_; refine run_seq ?_; refine qN rfl ?_; refine qV (yas rfl) ?_; refine rEnd ?_; refine run_block ?_; refine run_cut2 (fun e' w' => e' = [(1, .slice oa oth.length oc), (5, ptr pa 0), (7, ptr pb 0), (9, ptr qa 0), (10, ptr qb 0)] ∧ ∃ Xb, St2 w w' qa pa ma qb pb mb Xa Xb ∧ Gh Xb 60 ∧ Xb.T.size = 512 ∧ MayAll Xb.es ∧ ∀ x ∈ Xb.es, x.1 ∈ ot) ?hkc (fun hkc => ?hmainc)
     case hkc =>
      rintro e' u2 ⟨rfl, Xb, hSt2, hGb, hsb, hmb2, hob⟩
      obtain ⟨mva, sva, gva, nba, Fa, mvb, svb, gvb, nbb, Fb, hA, hB, h3, h4, h5, h6⟩ := id hSt2
      obtain ⟨aa, ac, rfl⟩ := some_ofE hA.map.sl
      have hBa := hA.blk
      have hBma := hA.map.blk
      clear hA hB h3 h4 h5 h6
      refine run_seq ?_; refine qN rfl ?_; refine qV (ymv rfl) ?_; refine qV ((by first | exact ync rfl | exact yncf rfl)) ?_; refine qV (yfa fl36_2 rfl) ?_; refine qV ((by first | exact yld U29 rfl rfl hBa rfl | exact yld U29 rfl rfl hBma rfl)) ?_; refine qV ((by first | exact ync rfl | exact yncf rfl)) ?_; refine qV (yfa fl32_0 rfl) ?_; refine qV ((by first | exact yld U30 rfl rfl hBa rfl | exact yld U30 rfl rfl hBma rfl)) ?_; refine qV (yln U30 rfl) ?_; refine qV (ysb rfl rfl (by omega)) ?_; refine qV (yas rfl) ?_; refine rEnd ?_; refine run_block ?_
      refine run_loop (α := Nat) (Xa.es.length) (fun j => [(1, .slice oa oth.length oc), (5, ptr pa 0), (7, ptr pb 0), (9, ptr qa 0), (10, ptr qb 0), (14, I ((j : Int) - 1))]) (fun j w' => j ≤ Xa.es.length ∧ ∃ Xb, St2 w w' qa pa ma qb pb mb Xa Xb ∧ Gh Xb (120 - j) ∧ Xb.T.size = 512 ∧ MayAll Xb.es ∧ AlikeA ot Xa.es j Xb.es) (fun j => j) (by repeat (first | exact Sub.nil | refine Sub.cons rfl ?_)) ?hI ?hround
      case hI => exact ⟨Nat.le_refl _, Xb, hSt2, hGb.mono (by omega), hsb, hmb2, by rw [AlikeA, List.drop_length]; exact ⟨fun x hx => (by cases hx), fun x hx => .inr ⟨hob x hx, by simp⟩⟩⟩
      case hround =>
       clear hGb hsb hmb2 hob hSt2 hBa hBma
       rintro j u3 ⟨hj, Xb, hSt2, hGb, hsb, hmb2, hal⟩ ih
       try dsimp only
       refine run_seq ?_; refine qN rfl ?_; refine qV (ymv rfl) ?_; refine qV (yge rfl rfl) ?_; refine rEnd ?_; refine run_if rfl (fun g1 => ?_) (fun g1 => ?_)
       ·skip
        obtain ⟨j, rfl⟩ : ∃ j', j = j' + 1 := ⟨j - 1, by omega⟩
        rw [show (((j + 1 : Nat) : Int) - 1) = ((j : Nat) : Int) by omega]
        obtain ⟨mva, sva, gva, nba, Fa, mvb, svb, gvb, nbb, Fb, hA, hB, h3, h4, h5, h6⟩ := hSt2
        obtain ⟨aa, ac, rfl⟩ := some_ofE hA.map.sl
        have hBa := hA.blk
        have hBma := hA.map.blk
        have hE := hA.map.sl
        obtain ⟨y, hy⟩ : ∃ y, Xa.es[j]? = some y := ⟨_, List.getElem?_eq_getElem (by omega)⟩
        obtain ⟨b1, o1, y', rfl, -⟩ := rd_ens hE.rd rfl (show j < Xa.es.length by omega)
        have hmy := hma y (List.mem_of_getElem? hy)
        have hmo : mostE 512 ≤ 1100 := by unfold mostE; omega
        have hy1 : y.1.length ≤ 140737488355328 := by have := hmy.1.2; omega
        have hy2 : y.2.length ≤ 140737488355328 := by have := hmy.2; omega
        have hg : Ext u3 u3.drew := Ext.drew0 u3
        have hzb : sizeOk (Xb.T.size : Int) := by rw [hsb]; exact hz
        have hqan : ¬ fpS qb mb mvb svb gvb Fb qa := h5 qa (.inl rfl)
        have hman : ¬ fpS qb mb mvb svb gvb Fb ma := h5 ma (.inr (.inl rfl))
        have hEk : ∀ w', Kp (fpS qb mb mvb svb gvb Fb) u3 w' → Rd w' (.slice (some ⟨b1, o1, none⟩) Xa.es.length ac) 2 Xa.es.length (esC Xa.es) := fun w' k => (hE.kp k (fun g hg => h5 g (.inr (.inr (.inl hg))))).rd
        refine run_skip ?_; refine run_seq ?_; refine run_block ?_; refine run_seq ?_; refine run_draw (fun w' => Kp (fpS qb mb mvb svb gvb Fb) u3 w') (by kernel_rfl) rfl ?_; refine qT 0 rfl (fun _ hS => ymv rfl) (hg.kp) ?_; refine qT 1 rfl (fun _ hS => ymv rfl) (hg.kp) ?_; refine qT 2 rfl (fun _ hS => (by first | exact ync rfl | exact yncf rfl)) (hg.kp) ?_; refine qT 3 rfl (fun _ hS => yfa fl36_2 rfl) (hg.kp) ?_; refine qT 4 rfl (fun _ hS => (by first | exact yld U29 rfl rfl (hS.blk hBa hqan) rfl | exact yld U29 rfl rfl (hS.blk hBma hman) rfl)) (hg.kp) ?_
        refine qT 5 rfl (fun _ hS => (by first | exact ync rfl | exact yncf rfl)) (hg.kp) ?_; refine qT 6 rfl (fun _ hS => yfa fl32_0 rfl) (hg.kp) ?_; refine qT 7 rfl (fun _ hS => (by first | exact yld U30 rfl rfl (hS.blk hBa hqan) rfl | exact yld U30 rfl rfl (hS.blk hBma hman) rfl)) (hg.kp) ?_; refine qT 8 rfl (fun _ hS => ymv rfl) (hg.kp) ?_; refine qT 9 rfl (fun _ hS => yis U30 ti41 rfl rfl (by omega)) (hg.kp) ?_; refine qT 10 rfl (fun _ hS => yfa fl41_0 rfl) (hg.kp) ?_; refine qT 12 rfl (fun _ hS => ymv rfl) (hg.kp) ?_
        refine qT 13 rfl (fun _ hS => (by first | exact ync rfl | exact yncf rfl)) (hg.kp) ?_; refine qT 14 rfl (fun _ hS => yfa fl36_2 rfl) (hg.kp) ?_; refine qT 15 rfl (fun _ hS => (by first | exact yld U29 rfl rfl (hS.blk hBa hqan) rfl | exact yld U29 rfl rfl (hS.blk hBma hman) rfl)) (hg.kp) ?_; refine qT 16 rfl (fun _ hS => (by first | exact ync rfl | exact yncf rfl)) (hg.kp) ?_; refine qT 17 rfl (fun _ hS => yfa fl32_0 rfl) (hg.kp) ?_; refine qT 18 rfl (fun _ hS => (by first | exact yld U30 rfl rfl (hS.blk hBa hqan) rfl | exact yld U30 rfl rfl (hS.blk hBma hman) rfl)) (hg.kp) ?_
        refine qT 19 rfl (fun _ hS => ymv rfl) (hg.kp) ?_; refine qT 20 rfl (fun _ hS => yis U30 ti41 rfl rfl (by omega)) (hg.kp) ?_; refine qT 21 rfl (fun _ hS => yfa fl41_1 rfl) (hg.kp) ?_; refine qT 11 rfl (fun _ hS => yldc U9 rfl rfl (rd_en0 (hEk _ hS) (by omega) hy)) (hg.kp) ?_; refine qT 22 rfl (fun _ hS => yldc U9 rfl rfl (rd_en1 (hEk _ hS) (by omega) hy)) (hg.kp) ?_; refine qT 23 rfl (fun _ hS => ybd (parts := [(1, .tmp 117), (2, .tmp 128), (5, .const (Value.bool true))]) (cs := [_, _, _, _, _, _]) ti39 rfl sp39 rfl rfl) (hg.kp) ?_; refine qO 24 ?_
        refine nCall (i := 24) rfl rfl rfl (yc (args := [.tmp 106, .tmp 129]) cf9 rfl) (putS_ret (hB.ext hg) hGb hzb (by omega) 0 y.1 y.2 0 (.slice none 0 0) true hy1 hy2) ?_
        rintro _ u4 ⟨rfl, Xb2, mvb2, gvb2, nbb2, Fb2, hB2, hGb2, hsb2, hes2, hk2, hf2⟩
        refine ⟨hg.kp.trans hk2, ?_⟩
        have hz12 := hg.size
        have hk12 : Kp (fpS qb mb mvb svb gvb Fb) u3 u4 := hg.kp.trans hk2
        have hSt3 := (St2.opA hB hA h4 h3 (fun k hk hk' => h5 k hk' hk) h6 hB2 hk12 (fun k hk => (hf2 k hk).imp id (fun e => by omega))).symm
        have he2 : Xb2.es = insE Xb.es y.1 y.2 := by
         rcases hes2 with ⟨-, e⟩ | ⟨-, e⟩
         ·exact e
         ·exact absurd ⟨by rw [hsb]; exact hmy, rfl⟩ e
        have hrb := hGb.inv.rise hzb
        have hma2 : MayAll Xb2.es := by
         rw [he2]
         intro x hx
         rcases (mem_ins hrb).1 hx with rfl | ⟨-, hx⟩
         ·exact hmy
         ·exact hmb2 x hx
        have hal2 : AlikeA ot Xa.es j Xb2.es := by rw [he2]; exact hal.step hra hrb hy
        have hk120 : 120 - (j + 1) + 1 = 120 - j := by omega
        rw [hk120] at hGb2
        refine qT 25 rfl (fun _ hS => (by first | exact yntd rfl | exact ynt rfl)) (hg.kp.trans hk2) ?_; refine qE ?_; refine run_cond rfl (fun hq => ?_) (fun hq => ?_)
        ·exact absurd hq (by decide)
        ·skip
         refine run_skip ?_; refine run_inBlock ?_; refine run_reg rfl ?_; refine qV (ymv rfl) ?_; refine qV (ysb rfl rfl (by omega)) ?_; refine qV (yas rfl) ?_; refine rEnd ?_
         exact (ih j u4 ⟨by omega, Xb2, hSt3, hGb2, hsb2.trans hsb, hma2, hal2⟩ (by omega)).qb
       ·skip
        obtain rfl : j = 0 := by omega
        have hal0 := AlikeA.fin hal
        clear hal ih g1
        have hotl : ot.length = min 60 oth.length := by rw [← hot, List.length_take]
        refine run_exit rfl ?_; refine run_seq ?_; refine qN rfl ?_; refine qV (yas rfl) ?_; refine rEnd ?_; refine run_block ?_; refine run_cut2 (fun e' w' => e' = [(5, ptr pa 0), (7, ptr pb 0), (10, ptr qb 0)] ∧ ∃ Xb, St2 w w' qa pa ma qb pb mb Xa Xb ∧ Gh Xb 120 ∧ Xb.T.size = 512 ∧ Xb.es = Xa.es) ?hke (fun hke => ?hmaine)
        case hke =>
         rintro e' u4 ⟨rfl, Xb, hSt3, hGb, hsb, heq⟩
         obtain ⟨mva, sva, gva, nba, Fa, mvb, svb, gvb, nbb, Fb, hA, hB, h3, h4, h5, h6⟩ := hSt3
         have hzb : sizeOk (Xb.T.size : Int) := by rw [hsb]; exact hz
         have helb : Xb.es.length ≤ 60 := by rw [heq]; exact hela
         have hcA : Xa.T.count = Xa.es.length := hGa.inv.cnt
         have hcB : Xb.T.count = Xa.es.length := by rw [hGb.inv.cnt, heq]
         refine qN rfl ?_; refine qV (ymv rfl) ?_; refine rCall rfl rfl (yc (args := [.tmp 194, .const (Value.string (⟨#[]⟩)), .const (Value.int .i64 1000)]) cf13 rfl) (range_ret hA.tree hGa.inv (by omega) _ 1000 (by decide)) ?_
         rintro v5 u5 ⟨hx5, hv5⟩
         obtain ⟨xv, rfl, hX⟩ : ∃ gv, v5 = .tuple #[gv, I 0] ∧ ESl u5 gv Xa.es := by
          rcases hv5 with ⟨h, -⟩ | ⟨-, gv, h1, h2, -⟩
          ·omega
          ·refine ⟨gv, h1, ?_⟩
           rw [rangeE_all (by have : (1000 : Int).toNat = 1000 := rfl; omega)] at h2
           exact h2
         have hB5 := hB.ext hx5
         refine qV (ymv rfl) ?_; refine qV (yex rfl rfl) ?_; refine qV (yex rfl rfl) ?_; refine qV (yas rfl) ?_; refine qV (yas rfl) ?_; refine qM rfl ?_; refine qV (ymv rfl) ?_; refine rCall rfl rfl (yc (args := [.tmp 199, .const (Value.string (⟨#[]⟩)), .const (Value.int .i64 1000)]) cf13 rfl) (range_ret hB5.tree hGb.inv (by omega) _ 1000 (by decide)) ?_
         rintro v6 u6 ⟨hx6, hv6⟩
         obtain ⟨yv, rfl, hY⟩ : ∃ gv, v6 = .tuple #[gv, I 0] ∧ ESl u6 gv Xa.es := by
          rcases hv6 with ⟨h, -⟩ | ⟨-, gv, h1, h2, -⟩
          ·omega
          ·refine ⟨gv, h1, ?_⟩
           rw [rangeE_all (by have : (1000 : Int).toNat = 1000 := rfl; omega), heq] at h2
           exact h2
         have hA6 := (hA.ext hx5).ext hx6
         have hB6 := hB5.ext hx6
         have hX6 := (Sl.rd hX).ext hx6
         have hY6 := Sl.rd hY
         obtain ⟨xa, xq2, rfl⟩ := some_ofE hX
         obtain ⟨ya, yq2, rfl⟩ := some_ofE hY
         refine qV (ymv rfl) ?_; refine qV (yex rfl rfl) ?_; refine qV (yex rfl rfl) ?_; refine qV (yas rfl) ?_; refine qV (yas rfl) ?_; refine rEnd ?_; refine run_seq ?_; refine qN rfl ?_; refine qV (ymv rfl) ?_; refine qV (yne rfl rfl) ?_; refine rFalse (by (first | exact fun h => h rfl | assumption | omega)) ?_; refine qV (ymv rfl) ?_; refine qV (ymv rfl) ?_; refine qV (yne rfl rfl) ?_; refine rFalse (by (first | exact fun h => h rfl | assumption | omega)) ?_; refine qV (ypF rfl rfl) ?_; refine qV (ymv rfl) ?_; refine qV (ymv rfl) ?_; refine qV (yln U45 rfl) ?_
         refine qV (ymv rfl) ?_; refine qV (yln U45 rfl) ?_; refine qV (yne rfl rfl) ?_; refine rFalse (by (first | exact fun h => h rfl | assumption | omega)) ?_; refine qV (ypF rfl rfl) ?_; refine qV (ymv rfl) ?_; refine qV (ymv rfl) ?_; refine rCall rfl rfl (yc (args := [.tmp 217]) cf14 rfl) (lenT_ret hA6.tree) ?_
         rintro _ u6 ⟨rfl, rfl⟩
         rw [hcA]
         refine qV (ymv rfl) ?_; refine rCall rfl rfl (yc (args := [.tmp 219]) cf14 rfl) (lenT_ret hB6.tree) ?_
         rintro _ u6 ⟨rfl, rfl⟩
         rw [hcB]
         refine qV (yne rfl rfl) ?_; refine rFalse (by (first | exact fun h => h rfl | assumption | omega)) ?_; refine qV (ypF rfl rfl) ?_; refine rEnd ?_; refine Run.qb (e := [(10, _), (20, _), (22, _), (222, _)]) ?_; refine run_false rfl ?_; refine run_skip ?_; refine run_seq ?_; refine qN rfl ?_; refine qV (yas rfl) ?_; refine rEnd ?_; refine run_block ?_
         refine run_loop (α := Nat) (0) (fun i => [(10, ptr qb 0), (20, .slice xa Xa.es.length xq2), (22, .slice ya Xa.es.length yq2), (24, I (i : Int))]) (fun i w' => i ≤ Xa.es.length ∧ Ext u6 w') (fun i => Xa.es.length - i) (by repeat (first | exact Sub.nil | refine Sub.cons rfl ?_)) ?hI ?hround
         case hI => exact ⟨Nat.zero_le _, Ext.refl _⟩
         case hround =>
          rintro i u7 ⟨hi, hx7⟩ ih
          have hX7 := hX6.ext hx7
          have hY7 := hY6.ext hx7
          try dsimp only
          refine run_seq ?_; refine qN rfl ?_; refine qV (ymv rfl) ?_; refine qV (ymv rfl) ?_; refine qV (yln U45 rfl) ?_; refine qV (ylt rfl rfl) ?_; refine rEnd ?_; refine run_if rfl (fun hlt => ?_) (fun hlt => ?_)
          ·skip
           have hi' : i < Xa.es.length := by omega
           obtain ⟨b1, o1, y, rfl, hy⟩ := rd_ens hX7 rfl hi'
           obtain ⟨b2, o2, y2, rfl, -⟩ := rd_ens hY7 rfl hi'
           have hg : Ext u7 u7.drew := Ext.drew0 u7
           refine run_skip ?_; refine run_seq ?_; refine run_block ?_; refine run_seq ?_; refine run_draw (fun w' => Ext u7 w') (by kernel_rfl) rfl ?_; refine qT 0 rfl (fun _ hS => ymv rfl) (hg) ?_; refine qT 1 rfl (fun _ hS => ymv rfl) (hg) ?_; refine qT 2 rfl (fun _ hS => yis U45 ti49 rfl rfl (by omega)) (hg) ?_; refine qT 4 rfl (fun _ hS => ymv rfl) (hg) ?_; refine qT 5 rfl (fun _ hS => ymv rfl) (hg) ?_; refine qT 6 rfl (fun _ hS => yis U45 ti49 rfl rfl (by omega)) (hg) ?_; refine qT 3 rfl (fun _ hS => yldA U49 rfl ti49 rfl (rd_en (hX7.ext hS) hi' hy) rfl) (hg) ?_
           refine qT 7 rfl (fun _ hS => yldA U49 rfl ti49 rfl (rd_en (hY7.ext hS) hi' hy) rfl) (hg) ?_; refine qT 8 rfl (fun _ hS => yneET rfl rfl) (hg) ?_; refine qE ?_; refine run_cond rfl (fun hq => ?_) (fun hq => ?_)
           ·simp at hq
           ·skip
            refine run_skip ?_; refine run_inBlock ?_; refine run_reg rfl ?_; refine qV (ymv rfl) ?_; refine qV (yad rfl rfl (by omega)) ?_; refine qV (yas rfl) ?_; refine rEnd ?_
            exact (ih (i + 1) _ ⟨by omega, hx7.trans hg⟩ (by omega)).qb
          ·skip
           refine run_exit rfl ?_; refine qN rfl ?_; refine qV (ymv rfl) ?_; refine rCall rfl rfl (yc (args := [.tmp 238]) cf15 rfl) (shapeS_ret (hB6.ext hx7) hGb hzb (by omega)) ?_
           rintro _ u8 ⟨rfl, hx8⟩
           refine qV (ymv rfl) ?_; refine rCall rfl rfl (yc (args := []) cf16 rfl) (awake_ret _) ?_
           rintro _ u9 ⟨rfl, hx9⟩
           refine qV (ypT rfl rfl) ?_; refine qV (yas rfl) ?_; refine rEnd ?_; refine run_ret Tryz.func3 rfl ?_
           exact ⟨_, rfl, rfl, ((((h6.trans hx5).trans hx6).trans hx7).trans hx8).trans hx9⟩
        case hmaine =>
         refine run_loop (α := Nat) (0) (fun i => [(1, .slice oa oth.length oc), (5, ptr pa 0), (7, ptr pb 0), (9, ptr qa 0), (10, ptr qb 0), (15, I (i : Int))]) (fun i w' => i ≤ 60 ∧ i ≤ oth.length ∧ ∃ Xb, St2 w w' qa pa ma qb pb mb Xa Xb ∧ Gh Xb 120 ∧ Xb.T.size = 512 ∧ MayAll Xb.es ∧ AlikeB ot Xa.es i Xb.es) (fun i => 60 - i) (by repeat (first | exact Sub.nil | refine Sub.cons rfl ?_)) ?hI ?hround
         case hI => exact ⟨Nat.zero_le _, Nat.zero_le _, Xb, hSt2, hGb, hsb, hmb2, hal0⟩
         case hround =>
          clear hal0 hmb2 hsb hGb hSt2
          rintro i u4 ⟨hi, hil, Xb, hSt2, hGb, hsb, hmb2, hal⟩ ih
          have hzb : sizeOk (Xb.T.size : Int) := by rw [hsb]; exact hz
          have hrb := hGb.inv.rise hzb
          have helb := hGb.el
          try dsimp only
          refine run_seq ?_; refine qN rfl ?_; refine qV (ymv rfl) ?_; refine qV (ymv rfl) ?_; refine qV (yln U23 rfl) ?_; refine qV (ylt rfl rfl) ?_; refine qV (ymv rfl) ?_; refine rVal_if (fun g1 => ?_) (fun g1 => ?_)
          ·skip
           refine qV (ymv rfl) ?_; refine qV (ylt rfl rfl) ?_; refine qV (ypT rfl rfl) ?_; refine rEnd ?_; refine run_if rfl (fun g2 => ?_) (fun g2 => ?_)
           ·skip
            obtain ⟨mva, sva, gva, nba, Fa, mvb, svb, gvb, nbb, Fb, hA, hB, h3, h4, h5, h6⟩ := id hSt2
            have hi' : i < oth.length := by omega
            obtain ⟨b1, o1, o, rfl, ho⟩ := rd_getsK hO rfl hi'
            have hoo : ot[i]? = some o := by rw [← hot, List.getElem?_take, if_pos (show i < 60 by omega)]; exact ho
            have hOu := hO.ext h6
            have hBa := hA.blk
            have hg : Ext u4 u4.drew := Ext.drew0 u4
            refine run_skip ?_; refine run_seq ?_; refine run_block ?_; refine run_seq ?_; refine run_draw (fun w' => Ext u4 w') (by kernel_rfl) rfl ?_; refine qT 0 rfl (fun _ hS => ymv rfl) (hg) ?_; refine qT 1 rfl (fun _ hS => (by first | exact ync rfl | exact yncf rfl)) (hg) ?_; refine qT 2 rfl (fun _ hS => yfa fl36_2 rfl) (hg) ?_; refine qT 3 rfl (fun _ hS => yld U29 rfl rfl (hS.blk hBa) rfl) (hg) ?_; refine qT 4 rfl (fun _ hS => ymv rfl) (hg) ?_; refine qT 5 rfl (fun _ hS => ymv rfl) (hg) ?_; refine qT 6 rfl (fun _ hS => yis U23 ti9 rfl rfl (by omega)) (hg) ?_
            refine qT 7 rfl (fun _ hS => yldc U9 rfl rfl (rd_str (hOu.ext hS) hi' ho)) (hg) ?_; refine qO 8 ?_; refine nCall (i := 8) rfl rfl rfl (yc (args := [.tmp 146, .tmp 150]) cf10 rfl) (getM_ret (hA.map.ext hg) o) ?_
            rintro _ u5 ⟨rfl, hu5⟩
            refine ⟨(by rw [hu5]; exact hg), ?_⟩
            have hx5 : Ext u4 u5 := by rw [hu5]; exact hg
            have hB5 := hB.ext hx5
            have hBb5 := hB5.blk
            have hg5 : Ext u5 u5.drew := Ext.drew0 u5
            refine qT 9 rfl (fun _ hS => ymv rfl) ((by rw [hu5]; exact hg)) ?_
            refine qT 10 rfl (fun _ hS => yex rfl rfl) ((by rw [hu5]; exact hg)) ?_
            refine qT 11 rfl (fun _ hS => yex rfl rfl) ((by rw [hu5]; exact hg)) ?_
            refine qT 12 rfl (fun _ hS => yas rfl) ((by rw [hu5]; exact hg)) ?_
            refine qT 13 rfl (fun _ hS => yas rfl) ((by rw [hu5]; exact hg)) ?_
            refine qE ?_; refine run_seq ?_; refine run_draw (fun w' => Ext u5 w') (by kernel_rfl) rfl ?_; refine qT 0 rfl (fun _ hS => ymv rfl) (hg5) ?_; refine qT 1 rfl (fun _ hS => (by first | exact ync rfl | exact yncf rfl)) (hg5) ?_; refine qT 2 rfl (fun _ hS => yfa fl36_2 rfl) (hg5) ?_; refine qT 3 rfl (fun _ hS => yld U29 rfl rfl (hS.blk hBb5) rfl) (hg5) ?_; refine qT 4 rfl (fun _ hS => ymv rfl) (hg5) ?_; refine qT 5 rfl (fun _ hS => ymv rfl) (hg5) ?_; refine qT 6 rfl (fun _ hS => yis U23 ti9 rfl rfl (by omega)) (hg5) ?_
            refine qT 7 rfl (fun _ hS => yldc U9 rfl rfl (rd_str ((hOu.ext hx5).ext hS) hi' ho)) (hg5) ?_; refine qO 8 ?_; refine nCall (i := 8) rfl rfl rfl (yc (args := [.tmp 158, .tmp 162]) cf10 rfl) (getM_ret (hB5.map.ext hg5) o) ?_
            rintro _ u6 ⟨rfl, hu6⟩
            refine ⟨(by rw [hu6]; exact hg5), ?_⟩
            have hx6 : Ext u5 u6 := by rw [hu6]; exact hg5
            have hx46 := hx5.trans hx6
            have hB6 := hB.ext hx46
            have hBb6 := hB6.blk
            have hO6 := hOu.ext hx46
            have hSt6 := hSt2.ext hx46
            have hg6 : Ext u6 u6.drew := Ext.drew0 u6
            have hqbn : ¬ (Fb qb ∨ qb = mb) := fun e => e.elim hB.fq hB.qm
            have hOk : ∀ w', Kp (fun k => Fb k ∨ k = mb) u6 w' → Rd w' (.slice (some ⟨b1, o1, none⟩) oth.length oc) 1 oth.length (oth.map S) := fun w' k => Rd.kpz hO6 k (fun h0 g hg e => by
             have h7 := Rd.ltz hO (by omega) h0 hg
             have h8 := h4 g (e.elim (fun e => .inr (.inr (.inr (.inr (.inr e))))) (fun e => .inr (.inl e)))
             omega)
            refine qT 9 rfl (fun _ hS => ymv rfl) ((by rw [hu6]; exact hg5)) ?_
            refine qT 10 rfl (fun _ hS => yex rfl rfl) ((by rw [hu6]; exact hg5)) ?_
            refine qT 11 rfl (fun _ hS => yex rfl rfl) ((by rw [hu6]; exact hg5)) ?_
            refine qT 12 rfl (fun _ hS => yas rfl) ((by rw [hu6]; exact hg5)) ?_
            refine qT 13 rfl (fun _ hS => yas rfl) ((by rw [hu6]; exact hg5)) ?_
            refine qE ?_; refine run_seq ?_; refine run_draw (fun w' => Kp (fun k => Fb k ∨ k = mb) u6 w') (by kernel_rfl) rfl ?_; refine qT 0 rfl (fun _ hS => ymv rfl) (hg6.kp) ?_; refine qT 1 rfl (fun _ hS => yne rfl rfl) (hg6.kp) ?_; refine qT 2 rfl (fun _ hS => ymv rfl) (hg6.kp) ?_; refine rh_if (fun c1 => ?_) (fun c1 => ?_)
            ·skip
             refine qT 3 rfl (fun _ hS => ymv rfl) (hg6.kp) ?_; refine qT 4 rfl (fun _ hS => yeq rfl rfl) (hg6.kp) ?_; refine qT 5 rfl (fun _ hS => ypT rfl rfl) (hg6.kp) ?_; refine qT 6 rfl (fun _ hS => ymv rfl) (hg6.kp) ?_; refine rh_if (fun c2 => ?_) (fun c2 => ?_)
             ·skip
              refine qT 7 rfl (fun _ hS => ymv rfl) (hg6.kp) ?_; refine qT 8 rfl (fun _ hS => ymv rfl) (hg6.kp) ?_; refine qT 9 rfl (fun _ hS => ymv rfl) (hg6.kp) ?_; refine qT 10 rfl (fun _ hS => yis U23 ti9 rfl rfl (by omega)) (hg6.kp) ?_; refine qT 11 rfl (fun _ hS => yldc U9 rfl rfl (rd_str (hOk _ hS) hi' ho)) (hg6.kp) ?_; refine qO 12 ?_; refine nCall (i := 12) rfl rfl rfl (yc (args := [.tmp 173, .tmp 177]) cf11 rfl) (deleteT_ret (hB6.tree.ext hg6) hGb.inv (by omega) o) ?_
              rintro v7 u7 hv7
              refine ⟨(by rcases hv7 with ⟨-, -, h⟩ | ⟨-, -, T', H', ns', ⟨nb', F', -, -, h, -⟩, -⟩; exact hg6.kp.trans h.kp; exact hg6.kp.trans (h.mono' (fun k e => .inl e))), ?_⟩
              obtain ⟨rfl, T', H', ns', nb', F', hT7, hI7, hk7, hF7, hev⟩ : v7 = I 0 ∧ ∃ T' H' ns' nb' F', TreeA u7 pb T' nb' F' ∧ Inv T' H' ns' (delE Xb.es o) ∧ Kp Fb u6.drew u7 ∧ (∀ k, F' k → Fb k ∨ u6.drew.heap.size ≤ k) ∧ EvoR Xb.T T' 0 := by
               rcases hv7 with ⟨-, h, -⟩ | ⟨h1, -, T', H', ns', ⟨nb', F', h2, h3, h4, h5⟩, h6⟩
               ·exact absurd c2 h
               ·exact ⟨h1, T', H', ns', nb', F', h2, h3, h4, h5, h6⟩
              have hS7 : Kp (fun k => Fb k ∨ k = mb) u6 u7 := hg6.kp.trans (hk7.mono' (fun k e => .inl e))
              have hmt := (hB6.ext hg6).treed hT7 (show T'.size = Xb.T.size from (show Evo _ _ _ from hev).size) hk7 hF7
              obtain ⟨hB7, hk7', hf7⟩ := hmt
              refine qT 13 rfl (fun _ hS => yne rfl rfl) hS7 ?_; refine qT 14 rfl (fun _ hS => ymv rfl) hS7 ?_; refine rh_if (fun c3 => ?_) (fun c3 => ?_)
              ·exact absurd rfl c3
              ·skip
               refine qT 15 rfl (fun _ hS => ymv rfl) hS7 ?_; refine qT 16 rfl (fun _ hS => (by first | exact ync rfl | exact yncf rfl)) hS7 ?_; refine qT 17 rfl (fun _ hS => yfa fl36_2 rfl) hS7 ?_; refine qT 18 rfl (fun _ hS => yld U29 rfl rfl (hS.blk hBb6 hqbn) rfl) hS7 ?_; refine qT 19 rfl (fun _ hS => ymv rfl) hS7 ?_; refine qT 20 rfl (fun _ hS => ymv rfl) hS7 ?_; refine qT 21 rfl (fun _ hS => yis U23 ti9 rfl rfl (by omega)) hS7 ?_; refine qT 22 rfl (fun _ hS => yldc U9 rfl rfl (rd_str (hOk _ hS) hi' ho)) hS7 ?_; refine qO 23 ?_
               refine nCall (i := 23) rfl rfl rfl (yc (args := [.tmp 184, .tmp 188]) cf12 rfl) (delM_ret hB7.map o) ?_
               rintro v8 u8 hv8
               refine ⟨(by obtain ⟨-, h⟩ := hv8; rw [if_pos c2] at h; obtain ⟨mv', -, h, -⟩ := h; exact hS7.trans (h.mono' (fun k e => .inr e))), ?_⟩
               obtain ⟨rfl, hm8⟩ := hv8
               rw [if_pos c2] at hm8
               have hS8 : Kp (fun k => Fb k ∨ k = mb) u6 u8 := by obtain ⟨mv', -, h, -⟩ := hm8; exact hS7.trans (h.mono' (fun k e => .inr e))
               have hmp := hB7.mapped hm8
               obtain ⟨mvb8, hB8, hk8, hf8⟩ := hmp
               have hz6 := hg6.size
               have hz7 := hk7'.size
               have hz46 := hx46.size
               have hk68 : Kp (fpS qb mb mvb svb gvb Fb) u6 u8 := (hg6.kp.trans hk7').trans_new hk8 (fun i hi => (hf7 i hi).elim .inr (fun e => .inl (by omega)))
               have hk48 : Kp (fpS qb mb mvb svb gvb Fb) u4 u8 := hx46.kp.trans hk68
               have hdl := delE_len ((hasE_iff hrb).2 ((getR_code hrb).1 c2).2)
               have hGb8 := hGb.evo hev hI7 (Nat.le_refl _) (by omega)
               have hSt8 := (St2.opA hB hA h4 h3 (fun k hk hk' => h5 k hk' hk) h6 (hB8.hn H' ns') hk48 (fun k hk => by
                rcases hf8 k hk with e | e
                ·rcases hf7 k e with e | e
                 ·exact .inl e
                 ·exact .inr (by omega)
                ·exact .inr (by omega))).symm
               have hmb8 : MayAll (delE Xb.es o) := fun x hx => hmb2 x ((mem_del hrb).1 hx).2
               have hsz8 : T'.size = 512 := (show T'.size = Xb.T.size from (show Evo _ _ _ from hev).size).trans hsb
               refine qT 24 rfl (fun _ hS => yne rfl rfl) hS8 ?_; refine qT 25 rfl (fun _ hS => ypF rfl rfl) hS8 ?_; refine qT 26 rfl (fun _ hS => ypT rfl rfl) hS8 ?_; refine qE ?_; refine run_if rfl (fun c4 => ?_) (fun c4 => ?_)
               ·exact absurd c2 c4
               ·skip
                refine run_skip ?_; refine run_inBlock ?_; refine run_reg rfl ?_; refine qV (ymv rfl) ?_; refine qV (yad rfl rfl (by omega)) ?_; refine qV (yas rfl) ?_; refine rEnd ?_
                exact (ih (i + 1) u8 ⟨by omega, by omega, _, hSt8, hGb8, hsz8, hmb8, hal.del hra hrb hoo c1 c2⟩ (by omega)).qb
             ·skip
              refine qJ 7 rfl (hg6.kp) ?_; refine qJ 8 rfl (hg6.kp) ?_; refine qJ 9 rfl (hg6.kp) ?_; refine qJ 10 rfl (hg6.kp) ?_; refine qJ 11 rfl (hg6.kp) ?_; refine qJ 12 rfl (hg6.kp) ?_; refine qJ 13 rfl (hg6.kp) ?_; refine qJ 14 rfl (hg6.kp) ?_; refine qJ 15 rfl (hg6.kp) ?_; refine qJ 16 rfl (hg6.kp) ?_; refine qJ 17 rfl (hg6.kp) ?_; refine qJ 18 rfl (hg6.kp) ?_; refine qJ 19 rfl (hg6.kp) ?_; refine qJ 20 rfl (hg6.kp) ?_; refine qJ 21 rfl (hg6.kp) ?_; refine qJ 22 rfl (hg6.kp) ?_; refine qJ 23 rfl (hg6.kp) ?_; refine qJ 24 rfl (hg6.kp) ?_; refine qJ 25 rfl (hg6.kp) ?_
              refine qT 26 rfl (fun _ hS => ypF rfl rfl) (hg6.kp) ?_; refine qE ?_; refine run_false rfl ?_; refine run_skip ?_; refine run_inBlock ?_; refine run_reg rfl ?_; refine qV (ymv rfl) ?_; refine qV (yad rfl rfl (by omega)) ?_; refine qV (yas rfl) ?_; refine rEnd ?_
              exact (ih (i + 1) _ ⟨by omega, by omega, Xb, hSt6.ext hg6, hGb, hsb, hmb2, hal.keep hra hrb (fun x hx => (hmb2 x hx).1) hoo (.inr c2)⟩ (by omega)).qb
            ·skip
             refine qJ 3 rfl (hg6.kp) ?_; refine qJ 4 rfl (hg6.kp) ?_; refine qT 5 rfl (fun _ hS => ypF rfl rfl) (hg6.kp) ?_; refine qT 6 rfl (fun _ hS => ymv rfl) (hg6.kp) ?_; refine qJ 7 rfl (hg6.kp) ?_; refine qJ 8 rfl (hg6.kp) ?_; refine qJ 9 rfl (hg6.kp) ?_; refine qJ 10 rfl (hg6.kp) ?_; refine qJ 11 rfl (hg6.kp) ?_; refine qJ 12 rfl (hg6.kp) ?_; refine qJ 13 rfl (hg6.kp) ?_; refine qJ 14 rfl (hg6.kp) ?_; refine qJ 15 rfl (hg6.kp) ?_; refine qJ 16 rfl (hg6.kp) ?_; refine qJ 17 rfl (hg6.kp) ?_; refine qJ 18 rfl (hg6.kp) ?_; refine qJ 19 rfl (hg6.kp) ?_
             refine qJ 20 rfl (hg6.kp) ?_; refine qJ 21 rfl (hg6.kp) ?_; refine qJ 22 rfl (hg6.kp) ?_; refine qJ 23 rfl (hg6.kp) ?_; refine qJ 24 rfl (hg6.kp) ?_; refine qJ 25 rfl (hg6.kp) ?_; refine qT 26 rfl (fun _ hS => ypF rfl rfl) (hg6.kp) ?_; refine qE ?_; refine run_false rfl ?_; refine run_skip ?_; refine run_inBlock ?_; refine run_reg rfl ?_; refine qV (ymv rfl) ?_; refine qV (yad rfl rfl (by omega)) ?_; refine qV (yas rfl) ?_; refine rEnd ?_
             exact (ih (i + 1) _ ⟨by omega, by omega, Xb, hSt6.ext hg6, hGb, hsb, hmb2, hal.keep hra hrb (fun x hx => (hmb2 x hx).1) hoo (.inl (Decidable.not_not.1 c1))⟩ (by omega)).qb
           ·skip
            refine run_exit rfl ?_
            exact (hke _ _ ⟨rfl, Xb, hSt2, hGb, hsb, (hal.fin (by omega) hra hrb).symm⟩).qb
          ·skip
           refine qS ?_; refine qS ?_; refine qV (ypF rfl rfl) ?_; refine rEnd ?_; refine run_false rfl ?_; refine run_exit rfl ?_
           exact (hke _ _ ⟨rfl, Xb, hSt2, hGb, hsb, (hal.fin (by omega) hra hrb).symm⟩).qb
     case hmainc =>
      refine run_loop (α := Nat) (0) (fun i => [(1, .slice oa oth.length oc), (5, ptr pa 0), (7, ptr pb 0), (9, ptr qa 0), (10, ptr qb 0), (13, I (i : Int))]) (fun i w' => i ≤ 60 ∧ i ≤ oth.length ∧ ∃ Xb, St2 w w' qa pa ma qb pb mb Xa Xb ∧ Gh Xb i ∧ Xb.T.size = 512 ∧ MayAll Xb.es ∧ ∀ x ∈ Xb.es, x.1 ∈ ot) (fun i => 60 - i) (by repeat (first | exact Sub.nil | refine Sub.cons rfl ?_)) ?hI ?hround
      case hI => exact ⟨Nat.zero_le _, Nat.zero_le _, X0, hSt1, gh0 512, rfl, fun x hx => (by cases hx), fun x hx => (by cases hx)⟩
      case hround =>
       rintro j u2 ⟨hj, hjl, Xb, hSt2, hGb, hsb, hmb2, hob⟩ ih
       try dsimp only
       refine run_seq ?_; refine qN rfl ?_; refine qV (ymv rfl) ?_; refine qV (ymv rfl) ?_; refine qV (yln U23 rfl) ?_; refine qV (ylt rfl rfl) ?_; refine qV (ymv rfl) ?_; refine rVal_if (fun g1 => ?_) (fun g1 => ?_)
       ·skip
        refine qV (ymv rfl) ?_; refine qV (ylt rfl rfl) ?_; refine qV (ypT rfl rfl) ?_; refine rEnd ?_; refine run_if rfl (fun g2 => ?_) (fun g2 => ?_)
        ·skip
         obtain ⟨mva, sva, gva, nba, Fa, mvb, svb, gvb, nbb, Fb, hA, hB, h3, h4, h5, h6⟩ := hSt2
         have hj' : j < oth.length := by omega
         obtain ⟨b1, o1, o, rfl, ho⟩ := rd_getsK hO rfl hj'
         have hom := List.mem_of_getElem? ho
         have hOu := hO.ext h6
         have hg : Ext u2 u2.drew := Ext.drew0 u2
         have hzb : sizeOk (Xb.T.size : Int) := by rw [hsb]; exact hz
         have hOk : ∀ w', Kp (fpS qb mb mvb svb gvb Fb) u2 w' → Rd w' (.slice (some ⟨b1, o1, none⟩) oth.length oc) 1 oth.length (oth.map S) := fun w' k => Rd.kpz hOu k (fun h0 g hg e => by
          have := Rd.ltz hO (by omega) h0 hg
          have := h4 g e
          omega)
         refine run_skip ?_; refine run_seq ?_; refine run_block ?_; refine run_seq ?_; refine run_draw (fun w' => Kp (fpS qb mb mvb svb gvb Fb) u2 w') (by kernel_rfl) rfl ?_; refine qT 0 rfl (fun _ hS => ymv rfl) (hg.kp) ?_; refine qT 1 rfl (fun _ hS => ymv rfl) (hg.kp) ?_; refine qT 2 rfl (fun _ hS => ymv rfl) (hg.kp) ?_; refine qT 3 rfl (fun _ hS => yis U23 ti9 rfl rfl (by omega)) (hg.kp) ?_; refine qT 5 rfl (fun _ hS => ymv rfl) (hg.kp) ?_; refine qT 6 rfl (fun _ hS => ymv rfl) (hg.kp) ?_; refine qT 7 rfl (fun _ hS => yis U23 ti9 rfl rfl (by omega)) (hg.kp) ?_
         refine qT 4 rfl (fun _ hS => yldc U9 rfl rfl (rd_str (hOk _ hS) hj' ho)) (hg.kp) ?_; refine qT 8 rfl (fun _ hS => yldc U9 rfl rfl (rd_str (hOk _ hS) hj' ho)) (hg.kp) ?_; refine qT 9 rfl (fun _ hS => ybd (parts := [(1, .tmp 85), (2, .tmp 89), (5, .const (Value.bool true))]) (cs := [_, _, _, _, _, _]) ti39 rfl sp39 rfl rfl) (hg.kp) ?_; refine qO 10 ?_; refine nCall (i := 10) rfl rfl rfl (yc (args := [.tmp 81, .tmp 90]) cf9 rfl) (putS_ret (hB.ext hg) hGb hzb (by omega) 0 o o 0 (.slice none 0 0) true (hos o hom) (hos o hom)) ?_
         rintro _ u3 ⟨rfl, Xb2, mvb2, gvb2, nbb2, Fb2, hB2, hGb2, hsb2, hes2, hk2, hf2⟩
         refine ⟨hg.kp.trans hk2, ?_⟩
         have hz12 := hg.size
         have hk12 : Kp (fpS qb mb mvb svb gvb Fb) u2 u3 := hg.kp.trans hk2
         have hSt3 := (St2.opA hB hA h4 h3 (fun k hk hk' => h5 k hk' hk) h6 hB2 hk12 (fun k hk => (hf2 k hk).imp id (fun e => by omega))).symm
         have hoo : o ∈ ot := by rw [← hot]; exact List.mem_of_getElem? (by rw [List.getElem?_take, if_pos (show j < 60 by omega)]; exact ho)
         have hma2 : MayAll Xb2.es ∧ ∀ x ∈ Xb2.es, x.1 ∈ ot := by
          rcases hes2 with ⟨e1, e2⟩ | ⟨e1, -⟩
          ·rw [e2]
           refine ⟨fun x hx => ?_, fun x hx => ?_⟩
           ·rcases (mem_ins (hGb.inv.rise hzb)).1 hx with rfl | ⟨-, hx⟩
            ·rw [hsb] at e1; exact e1
            ·exact hmb2 x hx
           ·rcases (mem_ins (hGb.inv.rise hzb)).1 hx with rfl | ⟨-, hx⟩
            ·exact hoo
            ·exact hob x hx
          ·rw [e1]; exact ⟨hmb2, hob⟩
         refine qT 11 rfl (fun _ hS => (by first | exact yntd rfl | exact ynt rfl)) (hg.kp.trans hk2) ?_; refine qE ?_; refine run_cond rfl (fun hq => ?_) (fun hq => ?_)
         ·exact absurd hq (by decide)
         ·skip
          refine run_skip ?_; refine run_inBlock ?_; refine run_reg rfl ?_; refine qV (ymv rfl) ?_; refine qV (yad rfl rfl (by omega)) ?_; refine qV (yas rfl) ?_; refine rEnd ?_
          exact (ih (j + 1) u3 ⟨by omega, by omega, Xb2, hSt3, hGb2, hsb2.trans hsb, hma2.1, hma2.2⟩ (by omega)).qb
        ·skip
         refine run_exit rfl ?_
         exact (hkc _ _ ⟨rfl, Xb, hSt2, hGb.mono hj, hsb, hmb2, hob⟩).qb
       ·skip
        refine qS ?_; refine qS ?_; refine qV (ypF rfl rfl) ?_; refine rEnd ?_; refine run_false rfl ?_; refine run_exit rfl ?_
        exact (hkc _ _ ⟨rfl, Xb, hSt2, hGb.mono hj, hsb, hmb2, hob⟩).qb
end
end Go.Proofs.YtocnhaoilnojmaaGreat
namespace Go.Proofs.YtocnhaoilnojmaaGreat
open Go Go.ChangeShapes Go.WideShapes Go.ChangeAt Go.RowKit
set_option linter.all false

def readables (P : Program) (ts : List TypeId) : Bool := ts.all fun t => P.readableRec t && decide (t < P.types.size)

theorem trodAll_below {H : Type} {enc : TypeId × Value → H} {P : Program} (hl : laidOutB P = true) {W W' : World} (hb : Below W.heap.size W W') :
    ∀ {ts : List TypeId} {vs : List Value} {ds : List (DataW H)} {ps : List MemPlace}, readables P ts = true → DataW.TrodAll enc P W 0 (fun _ => true) true ts vs ds ps →
      DataW.TrodAll enc P W' 0 (fun b => decide (b < W.heap.size)) true ts vs ds ps
  | [], [], [], _, _, h => h
  | t :: ts, v :: vs, d :: ds, _, hr, h => by
    obtain ⟨p, q, h1, h2, rfl⟩ := h
    simp only [readables, List.all_cons, Bool.and_eq_true, decide_eq_true_eq] at hr
    exact ⟨p, q, Below.trod hl hr.1.1 hr.1.2 h1 hb (by obtain ⟨m, hm⟩ := h1; exact DataW.trod_lt m _ _ _ hm), trodAll_below hl hb hr.2 h2, rfl⟩
  | [], [], _ :: _, _, _, h => h.elim
  | [], _ :: _, _, _, _, h => h.elim
  | _ :: _, [], _, _, _, h => h.elim
  | _ :: _, _ :: _, [], _, _, h => h.elim

theorem trodAll_len {H : Type} {enc : TypeId × Value → H} {P : Program} {W : World} {base : Nat} {spare : Nat → Bool} {held : Bool} :
    ∀ {ts : List TypeId} {vs : List Value} {ds : List (DataW H)} {ps : List MemPlace}, DataW.TrodAll enc P W base spare held ts vs ds ps → ds.length = ts.length
  | [], [], [], _, _ => rfl
  | t :: ts, v :: vs, d :: ds, _, h => by
    obtain ⟨p, q, h1, h2, rfl⟩ := h
    simpa using trodAll_len h2
  | [], [], _ :: _, _, h => h.elim
  | [], _ :: _, _, _, h => h.elim
  | _ :: _, [], _, _, h => h.elim
  | _ :: _, _ :: _, [], _, h => h.elim

/-- A function that returns true and keeps all that was there meets the contract of its row. -/
theorem law_lifted {H : Type} {enc : TypeId × Value → H} {C : Checked} {os : Os} {f : FuncId} {fn : Func} {s : ChangeSpec} {t : TypeId} {ts : List TypeId}
    (own : ownKnob C.prog.godebug = none) (started : os.Started) (hl : laidOutB C.prog = true) (noInit : C.prog.inits.idxOf? f = none) (hfn : C.prog.funcs[f]? = some fn)
    (hts : fn.params.toList = ts) (hrd : readables C.prog ts = true) (hrt : fn.resultTypes = #[t]) (hb : C.prog.underlying t = some .bool) (hsv : s.vars = [])
    (hspec : ∀ ds : List (DataW H), ds.length = ts.length → s.fn H ds = { results := [.lit (.bool true)], args := ds })
    (witness : ∃ (w : World) (tape : Tape) (i : Input), w.os = os ∧ (w.forCall tape i).Shaped C.prog ∧ i.vars = [] ∧ Input.okWide C.prog (w.forCall tape i) .any w.heap.size f i ∧
      s.pre6 enc C.prog fn [] false (w.forCall tape i).memory i.args ∧ ({} : Assume).holds C.prog (lone (Frame.enter C.prog f i.args .normal) [] (w.forCall tape i)))
    (hret : ∀ (W : World) (base : Nat) (args : List Value) (ds : List (DataW H)) (ps : List MemPlace),
      (∀ (j : Nat) t v, ts[j]? = some t → args[j]? = some v → Value.okWide C.prog W .any base t v) →
      DataW.TrodAll enc C.prog W 0 (fun _ => true) true ts args ds ps → W.noneFrozen ps →
      (DataW.weightsEach C.prog ts ds).all (· ≤ reachBytes) = true →
      Ret C.prog f args W fun v w' => v = .bool true ∧ Ext W w') :
    ReturnsInHanded {} C os f .any (s.pre6 enc C.prog fn [] false) (s.post enc C.prog fn false true false false) := by
  refine returnsInHanded_of_change_sized own started noInit hfn witness ?_
  intro W base args ds gs before hval0 hW _ hsz0 _
  have hW' := hW
  obtain ⟨p, q, hA, hV, rfl, hfz, _⟩ := hW
  rw [hsv] at hV
  obtain ⟨rfl, rfl⟩ := trodVars_none hV
  rw [hts] at hA
  have hlen := trodAll_len hA
  have hsz : (DataW.weightsEach C.prog ts ds).all (· ≤ reachBytes) = true := by
    have hv : s.plain.varTypes C.prog = [] := by simp [ChangeSpec.plain, DataSpec.varTypes, hsv]
    rw [hts, hv, List.append_nil, List.append_nil] at hsz0
    exact hsz0
  have hr := hret W base args.toList ds p (fun j t v h1 h2 => hval0 j t v (by rw [← hts] at h1; simpa using h1) (by simpa using h2)) hA (by rw [List.append_nil] at hfz; exact hfz) hsz
  unfold Ret at hr; rw [Array.toArray_toList] at hr
  refine Calls.mono hr fun x W' ⟨v, hx, hv, hext⟩ => ?_
  subst hx; subst hv
  have bel := hext.below
  refine ⟨_, rfl, ds, [], p ++ [], [], p, [], hW', ?_, ?_, ?_, bel.frame _, fun h => by cases h⟩
  · rw [List.append_nil, hspec ds hlen, hrt]
    exact trodAll_mk1 (shut_bool hb _)
  · rw [List.append_nil, hspec ds hlen, hts]
    exact trodAll_below hl bel hrd hA
  · rw [hsv, List.append_nil, hspec ds hlen]
    rfl
theorem own : ownKnob Tryz.prog.godebug = none := by kernel_rfl
theorem laidOut : laidOutB Tryz.prog = true := by kernel_rfl
theorem str_S (s : ByteArray) : Value.string s = S s.data.toList := by
  obtain ⟨⟨l⟩⟩ := s; rfl
end Go.Proofs.YtocnhaoilnojmaaGreat
namespace Go.Proofs.YtocnhaoilnojmaaGreat
open Go Go.ChangeShapes Go.WideShapes Go.ChangeAt Go.RowKit Go.Deep
set_option linter.all false
set_option maxRecDepth 100000

/-! ### Rows of equal length -/
theorem flat_get {C : Nat → List Value} {k : Nat} : ∀ {n : Nat}, (∀ i, i < n → (C i).length = k) → ∀ i r, i < n → r < k → ((List.range n).flatMap C)[i * k + r]? = (C i)[r]?
 | 0, _, i, r, hi, _ => absurd hi (Nat.not_lt_zero _)
 | n + 1, hl, i, r, hi, hr => by
   have hlen : ((List.range n).flatMap C).length = n * k := by
    have : ∀ m, m ≤ n → ((List.range m).flatMap C).length = m * k := fun m hm => by
     induction m with
     | zero => simp
     | succ m ih => rw [List.range_succ, List.flatMap_append, List.length_append, ih (by omega)]; simp [hl m (by omega)]; rw [Nat.succ_mul]
    exact this n (Nat.le_refl _)
   rw [List.range_succ, List.flatMap_append]
   rcases Nat.lt_or_ge i n with h | h
   ·have hlt : i * k + r < n * k := by
     have : (i + 1) * k ≤ n * k := Nat.mul_le_mul_right k h
     rw [Nat.succ_mul] at this; omega
    rw [List.getElem?_append_left (by rw [hlen]; exact hlt)]
    exact flat_get (fun j hj => hl j (by omega)) i r h hr
   ·have e : i = n := by omega
    subst e
    rw [List.getElem?_append_right (by rw [hlen]; omega), hlen, show i * k + r - i * k = r by omega]
    simp
theorem flat_length {C : Nat → List Value} {k n : Nat} (hl : ∀ i, i < n → (C i).length = k) : ((List.range n).flatMap C).length = n * k := by
 have : ∀ m, m ≤ n → ((List.range m).flatMap C).length = m * k := fun m hm => by
  induction m with
  | zero => simp
  | succ m ih => rw [List.range_succ, List.flatMap_append, List.length_append, ih (by omega)]; simp [hl m (by omega)]; rw [Nat.succ_mul]
 exact this n (Nat.le_refl _)
section
variable {H : Type} {enc : TypeId × Value → H} {P : Program} {W : World} {sp : Nat → Bool}

/-- Elements that lie in a row are read as a slice. -/
theorem rd_rows {a : Addr} {len cap size : Nat} {C : Nat → List Value} (hs : 0 < size) (hC : ∀ i, i < len → W.cells? 0 (a.add (i * size)) size = some (C i)) : Rd W (.slice (some a) len cap) size len ((List.range len).flatMap C) ∧ ∀ i, i < len → (C i).length = size := by
 have hl : ∀ i, i < len → (C i).length = size := fun i hi => (World.cells?_some (hC i hi)).2.1
 refine ⟨⟨flat_length hl, ?_⟩, hl⟩
 rcases Nat.eq_zero_or_pos len with h0 | h0
 ·subst h0
  exact .inl ⟨(some a, cap), rfl, rfl⟩
 ·obtain ⟨b, off, spot⟩ := a
  have hsp : spot = none := by
   obtain ⟨-, h1, h2⟩ := World.cells?_some (hC 0 h0)
   have h3 := h2 0 hs
   rw [Nat.zero_mul] at h3
   simp only [Addr.add, if_true] at h3
   rw [List.getElem?_eq_getElem (by omega)] at h3
   unfold World.cell? at h3
   split at h3
   ·cases spot with
    | none => rfl
    | some s => simp at h3
   ·cases h3
  subst hsp
  refine .inr ⟨b, off, cap, rfl, fun j u hj => ?_⟩
  have hjl : j < len * size := by
   rcases Nat.lt_or_ge j (len * size) with h | h
   ·exact h
   ·rw [List.getElem?_eq_none (by rw [flat_length hl]; exact h)] at hj; cases hj
  have hi : j / size < len := (Nat.div_lt_iff_lt_mul hs).2 hjl
  have hr : j % size < size := Nat.mod_lt _ hs
  have e : j = (j / size) * size + j % size := by have := Nat.div_add_mod j size; rw [Nat.mul_comm] at this; exact this.symm
  rw [e, flat_get hl _ _ hi hr] at hj
  obtain ⟨-, h1, h2⟩ := World.cells?_some (hC _ hi)
  have h3 := h2 _ hr
  rw [hj, add_off, add_off] at h3
  rw [e, ← Nat.add_assoc]; exact h3

/-- A slice of numbers. -/
theorem open_ints {t e : TypeId} {fuel : Nat} {v : Value} {x : DataW H × List MemPlace} (ht : P.underlying t = some (.slice e)) (he : P.underlying e = some (.int .i64)) (hc : P.cellsOf e = 1) (hb : P.bytesOf e = 8) (h : DataW.trod enc P W 0 sp true fuel t [v] = some x)
  (hw : ∀ n ∈ x.1.weights P t, n ≤ reachBytes) : ∃ l : List Int, Rd W v 1 l.length (l.map I) ∧ l.length ≤ 17592186044415 := by
 rcases open_slice ht h with ⟨hv, hx⟩ | ⟨a, len, cap, m, n, D, Pl, hv, -, hl, hm, hmm, hx, hel⟩
 ·cases hv
  exact ⟨[], ⟨rfl, .inl ⟨(none, 0), rfl, rfl⟩⟩, by simp⟩
 ·cases hv
  rw [hc] at hel
  have hlm : len ≤ m := by rw [hmm]; split <;> omega
  obtain ⟨Z, hZ⟩ := choose_lt (α := Int) (n := len) (p := fun i z => W.cells? 0 (a.add (i * 1)) 1 = some [I z]) (fun i hi => by
   obtain ⟨cs', h1, h2⟩ := hel i (by omega)
   obtain ⟨z, hz, -⟩ := DataW.trod_int he h2
   exact ⟨z, by rw [h1, hz]⟩)
  obtain ⟨h1, h2⟩ := rd_rows (size := 1) (cap := cap) (C := fun i => [I (Z i)]) (by omega) hZ
  have hf : (List.range len).flatMap (fun i => [I (Z i)]) = ((List.range len).map Z).map I := by
   rw [List.flatMap_def, List.map_map]
   induction (List.range len) with
   | nil => rfl
   | cons a r ih => simpa using ih
  rw [hf] at h1
  refine ⟨(List.range len).map Z, by simpa using h1, ?_⟩
  have hwt := hw ((len + (m - len)) * 8) (by rw [hx]; simp [DataW.weights, ht, hb])
  simp [reachBytes] at hwt
  simp; omega
end

/-! ### Calls -/
section
variable {H : Type} {enc : TypeId × Value → H} {W : World} {sp : Nat → Bool}
theorem i64_le (n : Int) (h : (Lit.int .i64 n).wf = true) : n ≤ 9223372036854775807 ∧ -9223372036854775808 ≤ n := by
 simp [Lit.wf, IntKind.min, IntKind.max, IntKind.signed, IntKind.bits] at h; omega

theorem weightsAll_mem {P : Program} {t : TypeId} {d : DataW H} {n : Nat} : ∀ {L : List (DataW H)}, d ∈ L → n ∈ DataW.weights P t d → n ∈ DataW.weightsAll P t L
 | [], hd, _ => by cases hd
 | x :: r, hd, hn => by
   simp only [DataW.weightsAll, List.mem_append]
   rcases List.mem_cons.1 hd with rfl | h
   ·exact .inl hn
   ·exact .inr (weightsAll_mem h hn)
end
end Go.Proofs.YtocnhaoilnojmaaGreat
namespace Go.Proofs.YtocnhaoilnojmaaGreat
open Go Go.ChangeShapes Go.WideShapes Go.ChangeAt Go.RowKit Go.Deep
set_option linter.all false
set_option maxRecDepth 100000
section
variable {H : Type} {enc : TypeId × Value → H} {W : World} {sp : Nat → Bool}
theorem open_op {fuel : Nat} {cs : List Value} {x : DataW H × List MemPlace} (h : DataW.trod enc Tryz.prog W 0 sp true fuel 39 cs = some x) (hw : ∀ n ∈ x.1.weights Tryz.prog 39, n ≤ reachBytes) :
  ∃ o : TOp, cs = o.cs ∧ (Rd W o.nv 1 o.nos.length (o.nos.map I) ∧ o.nos.length ≤ 17592186044415) ∧ o.key.length ≤ 140737488355328 ∧ o.val.length ≤ 140737488355328 ∧ o.n ≤ 9223372036854775807 := by
 obtain ⟨xs, n, -, hx, hl, hlen, hf⟩ := DataW.trod_struct U39 h
 rw [show Tryz.prog.cellsOf 39 = 6 by kernel_rfl] at hl
 match xs, hlen with
 | [y0, y1, y2, y3, y4, y5], _ =>
 match cs, hl with
 | [c0, c1, c2, c3, c4, c5], _ =>
   have t0 := hf 0 _ rfl
   have t1 := hf 1 _ rfl
   have t2 := hf 2 _ rfl
   have t3 := hf 3 _ rfl
   have t4 := hf 4 _ rfl
   have t5 := hf 5 _ rfl
   simp only [show Tryz.prog.cellsOf 9 = 1 by kernel_rfl, show Tryz.prog.cellsOf 3 = 1 by kernel_rfl, show Tryz.prog.cellsOf 34 = 1 by kernel_rfl, show Tryz.prog.cellsOf 4 = 1 by kernel_rfl, List.drop, List.take, List.getElem?_cons_zero, List.getElem?_cons_succ] at t0 t1 t2 t3 t4 t5
   have hmem : ∀ n, n ∈ DataW.weights Tryz.prog 9 y1.1 ∨ n ∈ DataW.weights Tryz.prog 9 y2.1 ∨ n ∈ DataW.weights Tryz.prog 34 y4.1 → n ≤ reachBytes := fun n hn => hw n (by
    rw [hx]
    simp only [DataW.weights, U39, DataW.weightsEach, List.map, List.mem_append]
    rcases hn with hn | hn | hn
    ·exact .inr (.inl hn)
    ·exact .inr (.inr (.inl hn))
    ·exact .inr (.inr (.inr (.inr (.inl hn)))))
   obtain ⟨n0, e0, -, -⟩ := DataW.trod_int U3 t0
   obtain ⟨s1, e1, hy1, -⟩ := DataW.trod_string U9 t1
   obtain ⟨s2, e2, hy2, -⟩ := DataW.trod_string U9 t2
   obtain ⟨n3, e3, -, w3⟩ := DataW.trod_int U3 t3
   obtain ⟨al, har, hal⟩ := open_ints U34 U3 (by kernel_rfl) (by kernel_rfl) t4 (fun n hn => hmem n (.inr (.inr hn)))
   obtain ⟨bb, e5, -⟩ := DataW.trod_bool U4 t5
   cases e0; cases e1; cases e2; cases e3; cases e5
   have h1 := hmem s1.data.toList.length (.inl (by rw [hy1]; simp [DataW.weights]))
   have h2 := hmem s2.data.toList.length (.inr (.inl (by rw [hy2]; simp [DataW.weights])))
   simp [reachBytes] at h1 h2
   refine ⟨⟨n0, s1.data.toList, s2.data.toList, n3, al, bb, c4⟩, ?_, ⟨har, hal⟩, by simp; omega, by simp; omega, (i64_le _ w3).1⟩
   show _ = [I n0, S s1.data.toList, S s2.data.toList, I n3, c4, .bool bb]
   rw [str_S, str_S]
theorem open_ops {fuel : Nat} {v : Value} {x : DataW H × List MemPlace} (h : DataW.trod enc Tryz.prog W 0 sp true fuel 22 [v] = some x) (hw : ∀ n ∈ x.1.weights Tryz.prog 22, n ≤ reachBytes) : ∃ l : List TOp, OpsT W v l := by
 rcases open_slice U22 h with ⟨hv, hx⟩ | ⟨a, len, cap, m, n, D, Pl, hv, -, hl, hm, hmm, hx, hel⟩
 ·cases hv
  exact ⟨[], ⟨⟨rfl, .inl ⟨(none, 0), rfl, rfl⟩⟩, by simp, by simp, by simp⟩⟩
 ·cases hv
  rw [show Tryz.prog.cellsOf 39 = 6 by kernel_rfl] at hel
  have hlm : len ≤ m := by rw [hmm]; split <;> omega
  obtain ⟨O, hO⟩ := @choose_lt TOp ⟨⟨0, [], [], 0, [], false, .nilFunc⟩⟩ len (fun i o => W.cells? 0 (a.add (i * 6)) 6 = some o.cs ∧ (Rd W o.nv 1 o.nos.length (o.nos.map I) ∧ o.nos.length ≤ 17592186044415) ∧ o.key.length ≤ 140737488355328 ∧ o.val.length ≤ 140737488355328 ∧ o.n ≤ 9223372036854775807) (fun i hi => by
   obtain ⟨cs', h1, h2⟩ := hel i (by omega)
   obtain ⟨o, hcs, hok⟩ := open_op h2 (fun n hn => hw n (by
    rw [hx]
    simp only [DataW.weights, U22, List.mem_cons, List.mem_append]
    exact .inr (.inl (weightsAll_mem (List.mem_map.2 ⟨i, by simpa using hi, rfl⟩) hn))))
   exact ⟨o, by rw [h1, hcs], hok⟩)
  obtain ⟨h1, h2⟩ := rd_rows (size := 6) (cap := cap) (C := fun i => (O i).cs) (by omega) (fun i hi => (hO i hi).1)
  have hf : (List.range len).flatMap (fun i => (O i).cs) = ((List.range len).map O).flatMap TOp.cs := by simp [List.flatMap_map]
  rw [hf] at h1
  refine ⟨(List.range len).map O, by simpa using h1, ?_, fun o ho => ?_, fun o ho => ?_⟩
  ·have hwt := hw ((len + (m - len)) * Tryz.prog.bytesOf 39) (by rw [hx]; simp [DataW.weights, U22])
   have hb : 1 ≤ Tryz.prog.bytesOf 39 := by decide +kernel
   have hmul := Nat.mul_le_mul_left (len + (m - len)) hb
   simp [reachBytes] at hwt hmul
   simp; omega
  ·obtain ⟨i, hi, rfl⟩ := List.mem_map.1 ho
   exact (hO i (by simpa using hi)).2.1
  ·obtain ⟨i, hi, rfl⟩ := List.mem_map.1 ho
   exact (hO i (by simpa using hi)).2.2
theorem open_strs {fuel : Nat} {v : Value} {x : DataW H × List MemPlace} (h : DataW.trod enc Tryz.prog W 0 sp true fuel 23 [v] = some x) (hw : ∀ n ∈ x.1.weights Tryz.prog 23, n ≤ reachBytes) : ∃ l : List Bytes, Rd W v 1 l.length (l.map S) ∧ l.length ≤ 140737488355328 ∧ ∀ s ∈ l, s.length ≤ 140737488355328 := by
 rcases open_slice U23 h with ⟨hv, hx⟩ | ⟨a, len, cap, m, n, D, Pl, hv, -, hl, hm, hmm, hx, hel⟩
 ·cases hv
  exact ⟨[], ⟨rfl, .inl ⟨(none, 0), rfl, rfl⟩⟩, by simp, by simp⟩
 ·cases hv
  rw [show Tryz.prog.cellsOf 9 = 1 by kernel_rfl] at hel
  have hlm : len ≤ m := by rw [hmm]; split <;> omega
  obtain ⟨O, hO⟩ := @choose_lt Bytes ⟨[]⟩ len (fun i s => W.cells? 0 (a.add (i * 1)) 1 = some [S s] ∧ s.length ≤ 140737488355328) (fun i hi => by
   obtain ⟨cs', h1, h2⟩ := hel i (by omega)
   obtain ⟨s1, e1, hy1, -⟩ := DataW.trod_string U9 h2
   refine ⟨s1.data.toList, by rw [h1, e1, str_S], ?_⟩
   have := hw s1.data.toList.length (by
    rw [hx]
    simp only [DataW.weights, U23, List.mem_cons, List.mem_append]
    exact .inr (.inl (weightsAll_mem (List.mem_map.2 ⟨i, by simpa using hi, rfl⟩) (by rw [show D i = _ from congrArg Prod.fst hy1]; simp [DataW.weights]))))
   simp [reachBytes] at this; simp; omega)
  obtain ⟨h1, h2⟩ := rd_rows (size := 1) (cap := cap) (C := fun i => [S (O i)]) (by omega) (fun i hi => (hO i hi).1)
  have hf : (List.range len).flatMap (fun i => [S (O i)]) = ((List.range len).map O).map S := by
   rw [List.flatMap_def, List.map_map]
   induction (List.range len) with
   | nil => rfl
   | cons a r ih => simpa using ih
  rw [hf] at h1
  refine ⟨(List.range len).map O, by simpa using h1, ?_, fun s hs => ?_⟩
  ·have hwt := hw ((len + (m - len)) * 16) (by rw [hx]; simp [DataW.weights, U23, show Tryz.prog.bytesOf 9 = 16 by kernel_rfl])
   simp [reachBytes] at hwt
   simp; omega
  ·obtain ⟨i, hi, rfl⟩ := List.mem_map.1 hs
   exact (hO i (by simpa using hi)).2
end
end Go.Proofs.YtocnhaoilnojmaaGreat
