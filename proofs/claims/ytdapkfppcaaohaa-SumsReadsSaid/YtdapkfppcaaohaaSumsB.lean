/- The walks of package sums: the tables by which checksums are joined. -/
import Derived.Test.YtdapkfppcaaohaaSumsA
namespace Go.Proofs.Ytdapkfppcaaohaa
open Go Go.RowKit
set_option linter.unusedVariables false

def tab (L : Nat → Nat) : List Value := (List.range 32).map fun i => U (L (2 ^ i))
/-- The table, its first k cells filled. -/
def tabTo (L : Nat → Nat) (k : Nat) : List Value := (List.range 32).map fun i => if i < k then U (L (2 ^ i)) else U 0
@[simp] theorem tab_length (L : Nat → Nat) : (tab L).length = 32 := by simp [tab]
@[simp] theorem tabTo_length (L : Nat → Nat) (k : Nat) : (tabTo L k).length = 32 := by simp [tabTo]
theorem tab_get (L : Nat → Nat) {i : Nat} (h : i < 32) : (tab L)[0 + i * 1]? = some (U (L (2 ^ i))) := by simp [tab, h]
theorem tabTo_all (L : Nat → Nat) : tabTo L 32 = tab L := by
  simp only [tabTo, tab]
  apply List.map_congr_left
  intro i hi
  rw [if_pos (by simpa using hi)]
theorem tabTo_set (L : Nat → Nat) (k : Nat) (h : k < 32) : (tabTo L k).set (0 + k * 1) (U (L (2 ^ k))) = tabTo L (k + 1) := by
  apply List.ext_getElem
  · simp
  · intro j h1 h2
    have hj : j < 32 := by simpa using h2
    simp only [tabTo, List.getElem_set, List.getElem_map, List.getElem_range]
    by_cases hjk : j = k
    · subst hjk; simp
    · rw [if_neg (by omega)]
      by_cases hlt : j < k
      · rw [if_pos hlt, if_pos (by omega)]
      · rw [if_neg hlt, if_neg (by omega)]
theorem tab_one (L : Nat → Nat) : (tab L).all oneV = true := by simp [tab, oneV]
theorem tab_whole (L : Nat → Nat) : ((tab L).drop 0).take 32 = tab L := by rw [List.drop_zero]; exact List.take_of_length_le (by simp)
theorem splice_all (cs news : List Value) (h : cs.length = news.length) : splice cs 0 news = news := by simp [splice, h]

theorem of_ret (L : Nat → Nat) (hL : Sums.Lin L) (n : Nat) (hn : n < 4294967296) (w : World) :
    Ret Try.prog 59 [.agg (tab L).toArray, U n] w fun v w' => v = U (L n) ∧ Ext w w' := by
  refine ret_of_run (e := [(0, _), (1, _)]) Try.func59 rfl Try.ntmps59 rfl rfl ?_
  refine run_seq ?_
  refine run_reg rfl ?_
  refine rValP rfl rfl (pbx rfl rfl) ?_
  rintro _ w1 ⟨b1, rfl, hb1, hx1, hB1⟩
  refine rVal rfl rfl (yas rfl) ?_
  refine rEnd ?_
  refine run_seq ?_
  refine run_reg rfl ?_
  refine rVal rfl rfl (yas rfl) ?_
  refine rEnd ?_
  refine run_seq ?_
  refine run_seq ?_
  refine run_reg rfl ?_
  refine rVal rfl rfl (yas rfl) ?_
  refine rEnd ?_
  refine run_block ?_
  refine run_loop (α := Nat × Nat × Nat) ((0, n, 0)) (fun x => [(2, ptr b1 0), (6, I (x.1 : Int)), (1, U x.2.1), (5, U x.2.2)]) (fun x w' => x.2.1 * 2 ^ x.1 < 4294967296 ∧ x.2.2 < 4294967296 ∧ x.2.2 ^^^ L (x.2.1 * 2 ^ x.1) = L n ∧ Blk w' b1 (tab L) 98 ∧ Ext w w') (fun x => x.2.1) (by repeat (first | exact Sub.nil | refine Sub.cons rfl ?_)) ?hI ?hround
  case hI => exact ⟨by simpa using hn, by simp, by simp, hB1, hx1⟩
  case hround =>
    rintro ⟨i, m, s⟩ w2 ⟨hm, hs, he, hB2, hx2⟩ ih
    dsimp only at hm hs he
    dsimp only
    refine run_seq ?_
    refine run_seq ?_
    refine run_reg rfl ?_
    refine rVal rfl rfl (ymv rfl) ?_
    refine rVal rfl rfl (ygt rfl rfl) ?_
    refine rEnd ?_
    refine run_if rfl (fun hlt => ?_) (fun hlt => ?_)
    · skip
      have hm0 : 0 < m := by omega
      have hi : i < 32 := by
        have h1 : 2 ^ i ≤ m * 2 ^ i := Nat.le_mul_of_pos_left _ hm0
        exact (Nat.pow_lt_pow_iff_right (by omega : 1 < 2)).1 (show 2 ^ i < 2 ^ 32 by omega)
      have hm32 : m < 4294967296 := Nat.lt_of_le_of_lt (Nat.le_mul_of_pos_right _ (Nat.two_pow_pos i)) hm
      have hl : L (2 ^ i) < 4294967296 := hL.lt _ (by have h1 : 2 ^ i ≤ m * 2 ^ i := Nat.le_mul_of_pos_left _ hm0; omega)
      have hand : m &&& 1 < 4294967296 := Nat.lt_of_le_of_lt Nat.and_le_right (by omega)
      have hneg : (4294967296 - (m &&& 1)) % 4294967296 < 4294967296 := Nat.mod_lt _ (by omega)
      have hmask := Sums.mask_walk m _ hl
      have hmlt : (if m % 2 = 1 then L (2 ^ i) else 0) < 4294967296 := by split <;> omega
      have hmlt' : L (2 ^ i) &&& ((4294967296 - (m &&& 1)) % 4294967296) < 4294967296 := by rw [hmask]; exact hmlt
      refine run_skip ?_
      refine run_seq ?_
      refine run_block ?_
      refine run_reg rfl ?_
      refine rVal rfl rfl (ymv rfl) ?_
      refine rVal rfl rfl (ymv rfl) ?_
      refine rVal rfl rfl (yia Try.underlying98 ti33 rfl rfl (by omega)) ?_
      refine rVal rfl rfl (yld Try.underlying33 rfl rfl hB2 (tab_get L hi)) ?_
      refine rVal rfl rfl (ymv rfl) ?_
      refine rVal rfl rfl (yan32 rfl rfl (by omega) (by omega)) ?_
      refine rVal rfl rfl (yng32 rfl (by omega)) ?_
      refine rVal rfl rfl (yan32 rfl rfl (by omega) (by omega)) ?_
      refine rVal rfl rfl (yxo32 rfl rfl (by omega) (by omega)) ?_
      refine rVal rfl rfl (yas rfl) ?_
      refine rEnd ?_
      refine run_inBlock ?_
      refine run_reg rfl ?_
      refine rVal rfl rfl (ymv rfl) ?_
      refine rVal rfl rfl (yad rfl rfl (by omega)) ?_
      refine rVal rfl rfl (ymv rfl) ?_
      refine rVal rfl rfl (ysrN 1 2 rfl rfl (by decide) rfl) ?_
      refine rVal rfl rfl (yas rfl) ?_
      refine rVal rfl rfl (yas rfl) ?_
      refine rEnd ?_
      refine (ih (i + 1, m / 2, s ^^^ (L (2 ^ i) &&& ((4294967296 - (m &&& 1)) % 4294967296))) w2 ⟨?_, Sums.xor_lt32 hs hmlt', ?_, hB2, hx2⟩ (by dsimp only; omega)).sub (by repeat (first | exact Sub.nil | refine Sub.cons rfl ?_))
      · have h2 : m / 2 * 2 ^ (i + 1) ≤ m * 2 ^ i := by
          rw [Nat.pow_succ, Nat.mul_comm (2 ^ i) 2, ← Nat.mul_assoc]
          exact Nat.mul_le_mul_right _ (by omega)
        dsimp only
        omega
      · dsimp only
        rw [hmask, ← he, Sums.lin_split hL m i, Nat.xor_assoc]
        congr 1
        rw [Nat.xor_comm]
    · skip
      refine run_exit rfl ?_
      refine run_seq ?_
      refine run_reg rfl ?_
      refine rVal rfl rfl (ymv rfl) ?_
      refine rVal rfl rfl (yas rfl) ?_
      refine rEnd ?_
      refine run_ret Try.func59 rfl ?_
      refine ⟨_, rfl, ?_, hx2⟩
      have h0 : m = 0 := by omega
      subst h0
      rw [Nat.zero_mul, hL.zero, Nat.xor_zero] at he
      show U s = _
      rw [he]

theorem zero_ret (w : World) : Ret Try.prog 58 [] w fun v w' => v = .agg (tab Sums.bits8).toArray ∧ Ext w w' := by
  refine ret_of_run (e := []) Try.func58 rfl Try.ntmps58 rfl rfl ?_
  refine run_seq ?_
  refine run_reg rfl ?_
  refine rValP rfl rfl (pal (cs := [_, _, _, _, _, _, _, _, _, _, _, _, _, _, _, _, _, _, _, _, _, _, _, _, _, _, _, _, _, _, _, _]) ti98 rfl) ?_
  rintro _ w1 ⟨b0, rfl, hb0, hx1, hB0⟩
  refine rEnd ?_
  refine run_seq ?_
  refine run_reg rfl ?_
  refine rValP rfl rfl (pal (cs := [_, _, _, _, _, _, _, _, _, _, _, _, _, _, _, _, _, _, _, _, _, _, _, _, _, _, _, _, _, _, _, _]) ti98 rfl) ?_
  rintro _ w2 ⟨b1, rfl, hb1, hx2, hB1⟩
  refine rEnd ?_
  refine run_seq ?_
  refine run_seq ?_
  refine run_reg rfl ?_
  refine rVal rfl rfl (ymv rfl) ?_
  refine rEnd ?_
  refine run_block ?_
  have hB1' : Blk w2 b1 (tabTo Sums.bits8 0) 98 := hB1
  have hne : b0 ≠ b1 := by have := hB0.lt; omega
  refine run_loop (α := Nat) (0) (fun x => [(0, ptr b0 0), (1, ptr b1 0), (4, I (x : Int))]) (fun x w' => x ≤ 32 ∧ Blk w' b1 (tabTo Sums.bits8 x) 98 ∧ Kp (fun k => k = b1) w2 w') (fun x => 32 - x) (by repeat (first | exact Sub.nil | refine Sub.cons rfl ?_)) ?hI ?hround
  case hI => exact ⟨by omega, hB1', Kp.refl _ _⟩
  case hround =>
    rintro k w3 ⟨hk, hB3, hk3⟩ ih
    dsimp only
    refine run_seq ?_
    refine run_reg rfl ?_
    refine rVal rfl rfl (ylt rfl rfl) ?_
    refine rEnd ?_
    refine run_seq ?_
    refine run_if rfl (fun hlt => ?_) (fun hlt => ?_)
    · skip
      have hk32 : k < 32 := by omega
      have hp : 2 ^ k < 4294967296 := Nat.pow_lt_pow_right (by omega) hk32
      refine run_skip ?_
      refine run_seq ?_
      refine run_block ?_
      refine run_seq ?_
      refine run_reg rfl ?_
      refine rVal rfl rfl (ymv rfl) ?_
      refine rVal rfl rfl (yas rfl) ?_
      refine rEnd ?_
      refine run_seq ?_
      refine run_reg rfl ?_
      refine rVal rfl rfl (ymv rfl) ?_
      refine rVal rfl rfl (ysl32 k (2 ^ k) rfl rfl (by omega) rfl) ?_
      rw [Nat.one_mul, Nat.mod_eq_of_lt hp]
      refine rVal rfl rfl (yas rfl) ?_
      refine rEnd ?_
      refine run_seq ?_
      refine run_seq ?_
      refine run_reg rfl ?_
      refine rVal rfl rfl (ymv rfl) ?_
      refine rEnd ?_
      refine run_block ?_
      refine run_cut2 (fun e' w' => e' = [(0, ptr b0 0), (1, ptr b1 0), (4, I (k : Int)), (2, I (k : Int)), (3, U (Sums.bits8 (2 ^ k)))] ∧ w' = w3) ?hk (fun hk => ?hmain)
      case hk =>
        rintro _ _ ⟨rfl, rfl⟩
        refine run_reg rfl ?_
        refine rVal rfl rfl (ymv rfl) ?_
        refine rVal rfl rfl (ymv rfl) ?_
        refine rVal rfl rfl (yia Try.underlying98 ti33 rfl rfl (by omega)) ?_
        refine rEffP rfl (zst ti33 rfl rfl rfl hB3 (by simp; omega)) ?_
        rintro w4 ⟨hB4, hk4⟩
        refine rEnd ?_
        refine run_inBlock ?_
        refine run_reg rfl ?_
        refine rVal rfl rfl (yad rfl rfl (by omega)) ?_
        refine rVal rfl rfl (ymv rfl) ?_
        refine rEnd ?_
        rw [tabTo_set _ _ hk32] at hB4
        exact (ih (k + 1) w4 ⟨hk32, hB4, hk3.trans hk4⟩ (by omega)).sub (by repeat (first | exact Sub.nil | refine Sub.cons rfl ?_))
      case hmain =>
        refine run_loop (α := Nat × Nat) ((0, 2 ^ k)) (fun x => [(0, ptr b0 0), (1, ptr b1 0), (4, I (k : Int)), (2, I (k : Int)), (9, I (x.1 : Int)), (3, U x.2)]) (fun x w' => x.1 ≤ 8 ∧ x.2 < 4294967296 ∧ Sums.iter Sums.bit (8 - x.1) x.2 = Sums.bits8 (2 ^ k) ∧ w' = w3) (fun x => 8 - x.1) (by repeat (first | exact Sub.nil | refine Sub.cons rfl ?_)) ?hI ?hround
        case hI => exact ⟨by omega, hp, rfl, rfl⟩
        case hround =>
          rintro ⟨j, d⟩ _ ⟨hj, hd, hs, rfl⟩ ih2
          dsimp only at hj hd hs
          dsimp only
          refine run_seq ?_
          refine run_reg rfl ?_
          refine rVal rfl rfl (ylt rfl rfl) ?_
          refine rEnd ?_
          refine run_seq ?_
          refine run_if rfl (fun hlt2 => ?_) (fun hlt2 => ?_)
          · skip
            have hand : d &&& 1 < 4294967296 := Nat.lt_of_le_of_lt Nat.and_le_right (by omega)
            have hneg : (4294967296 - (d &&& 1)) % 4294967296 < 4294967296 := Nat.mod_lt _ (by omega)
            have hand2 : 2197175160 &&& ((4294967296 - (d &&& 1)) % 4294967296) < 4294967296 := Nat.lt_of_le_of_lt Nat.and_le_left (by omega)
            refine run_skip ?_
            refine run_seq ?_
            refine run_block ?_
            refine run_reg rfl ?_
            refine rVal rfl rfl (ymv rfl) ?_
            refine rVal rfl rfl (ysrN 1 2 rfl rfl (by decide) rfl) ?_
            refine rVal rfl rfl (ymv rfl) ?_
            refine rVal rfl rfl (yan32 rfl rfl (by omega) (by omega)) ?_
            refine rVal rfl rfl (yng32 rfl (by omega)) ?_
            refine rVal rfl rfl (yan32 rfl rfl (by omega) (by omega)) ?_
            refine rVal rfl rfl (yxo32 rfl rfl (by omega) (by omega)) ?_
            refine rVal rfl rfl (yas rfl) ?_
            refine rEnd ?_
            refine run_inBlock ?_
            refine run_reg rfl ?_
            refine rVal rfl rfl (yad rfl rfl (by omega)) ?_
            refine rVal rfl rfl (ymv rfl) ?_
            refine rEnd ?_
            rw [Sums.bit_walk]
            refine (ih2 (j + 1, Sums.bit d) _ ⟨by dsimp only; omega, Sums.bit_lt hd, ?_, rfl⟩ (by dsimp only; omega)).sub (by repeat (first | exact Sub.nil | refine Sub.cons rfl ?_))
            have h8 : 8 - j = (8 - (j + 1)) + 1 := by omega
            dsimp only
            rw [h8] at hs
            exact hs
          · skip
            refine run_exit rfl ?_
            have hj8 : j = 8 := by omega
            subst hj8
            have : d = Sums.bits8 (2 ^ k) := hs
            subst this
            exact (hk _ _ ⟨rfl, rfl⟩).sub (by repeat (first | exact Sub.nil | refine Sub.cons rfl ?_))
    · skip
      have hk32 : k = 32 := by omega
      subst hk32
      rw [tabTo_all] at hB3
      refine run_exit rfl ?_
      refine run_seq ?_
      refine run_reg rfl ?_
      refine rVal rfl rfl (yldA Try.underlying98 rfl ti98 rfl (Blk.cells hB3 (news := tab Sums.bits8) (tab_whole _)) (by simp)) ?_
      refine rEffP rfl (zstA ti98 rfl rfl (tab_one _) (by simp) (hk3.blk (hx2.blk hB0) hne) (by simp)) ?_
      rintro w4 ⟨hB4, hk4⟩
      rw [splice_all _ _ (by simp)] at hB4
      refine rEnd ?_
      refine run_retR Try.func58 (.cell Try.underlying98 rfl ti98 rfl (Blk.cells hB4 (news := tab Sums.bits8) (tab_whole _)) (by simp) .nil) ?_
      exact ⟨_, rfl, rfl, ((hx1.trans hx2).trans_new hk3 (fun i hi => by have := hx1.size; omega)).trans_new hk4 (fun i hi => by omega)⟩

theorem square_ret (L : Nat → Nat) (hL : Sums.Lin L) (w : World) : Ret Try.prog 60 [.agg (tab L).toArray] w fun v w' => v = .agg (tab fun x => L (L x)).toArray ∧ Ext w w' := by
  refine ret_of_run (e := [(0, _)]) Try.func60 rfl Try.ntmps60 rfl rfl ?_
  refine run_seq ?_
  refine run_reg rfl ?_
  refine rValP rfl rfl (pbx (cs := tab L) rfl rfl) ?_
  rintro _ w1 ⟨b1, rfl, hb1, hx1, hB1⟩
  refine rValP rfl rfl (pal (cs := [_, _, _, _, _, _, _, _, _, _, _, _, _, _, _, _, _, _, _, _, _, _, _, _, _, _, _, _, _, _, _, _]) ti98 rfl) ?_
  rintro _ w2 ⟨b2, rfl, hb2, hx2, hB2⟩
  refine rEnd ?_
  refine run_seq ?_
  refine run_reg rfl ?_
  refine rValP rfl rfl (pal (cs := [_, _, _, _, _, _, _, _, _, _, _, _, _, _, _, _, _, _, _, _, _, _, _, _, _, _, _, _, _, _, _, _]) ti98 rfl) ?_
  rintro _ w3 ⟨b3, rfl, hb3, hx3, hB3⟩
  refine rEnd ?_
  refine run_seq ?_
  refine run_seq ?_
  refine run_reg rfl ?_
  refine rVal rfl rfl (ymv rfl) ?_
  refine rEnd ?_
  refine run_block ?_
  have hB3' : Blk w3 b3 (tabTo (fun x => L (L x)) 0) 98 := hB3
  have hne1 : ¬ b1 = b3 := by have := hB1.lt; have := hx2.size; omega
  have hne2 : ¬ b2 = b3 := by have := hB2.lt; omega
  refine run_loop (α := Nat) (0) (fun x => [(1, ptr b1 0), (2, ptr b2 0), (3, ptr b3 0), (5, I (x : Int))]) (fun x w' => x ≤ 32 ∧ Blk w' b3 (tabTo (fun x => L (L x)) x) 98 ∧ Kp (fun k => k = b3) w3 w') (fun x => 32 - x) (by repeat (first | exact Sub.nil | refine Sub.cons rfl ?_)) ?hI ?hround
  case hI => exact ⟨by omega, hB3', Kp.refl _ _⟩
  case hround =>
    rintro k w4 ⟨hk, hB4, hk4⟩ ih
    dsimp only
    refine run_seq ?_
    refine run_reg rfl ?_
    refine rVal rfl rfl (ylt rfl rfl) ?_
    refine rEnd ?_
    refine run_seq ?_
    refine run_if rfl (fun hlt => ?_) (fun hlt => ?_)
    · skip
      have hk32 : k < 32 := by omega
      have hp : 2 ^ k < 4294967296 := Nat.pow_lt_pow_right (by omega) hk32
      have hB1' := hx3.blk (hx2.blk hB1)
      refine run_skip ?_
      refine run_seq ?_
      refine run_block ?_
      refine run_seq ?_
      refine run_reg rfl ?_
      refine rVal rfl rfl (ymv rfl) ?_
      refine rVal rfl rfl (yas rfl) ?_
      refine rEnd ?_
      refine run_draw (fun w' => Kp (fun k => k = b3) w4 w') (by kernel_rfl) rfl ?_
      refine hTake (i := 1) rfl (by kernel_rfl) rfl rfl (fun _ hS => yldA Try.underlying98 rfl ti98 rfl (Blk.cells (hS.blk (hk4.blk hB1' hne1) hne1) (news := tab L) (tab_whole _)) (by simp)) ((Kp.refl _ w4).drew) ?_
      refine hTake (i := 0) rfl (by kernel_rfl) rfl rfl (fun _ hS => ymv rfl) ((Kp.refl _ w4).drew) ?_
      refine hTake (i := 2) rfl (by kernel_rfl) rfl rfl (fun _ hS => ymv rfl) ((Kp.refl _ w4).drew) ?_
      refine hTake (i := 3) rfl (by kernel_rfl) rfl rfl (fun _ hS => yia Try.underlying98 ti33 rfl rfl (by omega)) ((Kp.refl _ w4).drew) ?_
      refine hTake (i := 4) rfl (by kernel_rfl) rfl rfl (fun _ hS => yld Try.underlying33 rfl rfl (hS.blk (hk4.blk hB1' hne1) hne1) (tab_get L hk32)) ((Kp.refl _ w4).drew) ?_
      refine hOne (i := 5) (by kernel_rfl) ?_
      refine nCall (i := 5) rfl rfl rfl (yc (args := [.tmp 9, .tmp 12]) cf59 rfl) (of_ret L hL (L (2 ^ k)) (hL.lt _ hp) _) ?_
      rintro _ w5 ⟨rfl, hx5⟩
      refine ⟨(Kp.refl _ w4).drew.trans hx5.kp, ?_⟩
      refine hTake (i := 6) rfl (by kernel_rfl) rfl rfl (fun _ hS => yia Try.underlying98 ti33 rfl rfl (by omega)) ((Kp.refl _ w4).drew.trans hx5.kp) ?_
      refine hOne (i := 7) (by kernel_rfl) ?_
      refine nEffP (i := 7) rfl rfl (zst ti33 rfl rfl rfl (hx5.blk hB4) (by simp; omega)) ?_
      rintro w6 ⟨hB6, hk6⟩
      refine ⟨((Kp.refl _ w4).drew.trans hx5.kp).trans hk6, ?_⟩
      refine hEnd (by kernel_rfl) ?_
      refine run_inBlock ?_
      refine run_reg rfl ?_
      refine rVal rfl rfl (yad rfl rfl (by omega)) ?_
      refine rVal rfl rfl (ymv rfl) ?_
      refine rEnd ?_
      rw [tabTo_set _ _ hk32] at hB6
      exact (ih (k + 1) w6 ⟨hk32, hB6, hk4.trans (((Kp.refl _ w4).drew.trans hx5.kp).trans hk6)⟩ (by omega)).sub (by repeat (first | exact Sub.nil | refine Sub.cons rfl ?_))
    · skip
      have hk32 : k = 32 := by omega
      subst hk32
      rw [tabTo_all] at hB4
      refine run_exit rfl ?_
      refine run_seq ?_
      refine run_reg rfl ?_
      refine rVal rfl rfl (yldA Try.underlying98 rfl ti98 rfl (Blk.cells hB4 (news := tab fun x => L (L x)) (tab_whole _)) (by simp)) ?_
      refine rEffP rfl (zstA ti98 rfl rfl (tab_one _) (by simp) (hk4.blk (hx3.blk hB2) hne2) (by simp)) ?_
      rintro w5 ⟨hB5, hk5⟩
      rw [splice_all _ _ (by simp)] at hB5
      refine rEnd ?_
      refine run_retR Try.func60 (.cell Try.underlying98 rfl ti98 rfl (Blk.cells hB5 (news := tab fun x => L (L x)) (tab_whole _)) (by simp) .nil) ?_
      have h1 := hx1.size
      have h2 := hx2.size
      exact ⟨_, rfl, rfl, (((hx1.trans hx2).trans hx3).trans_new hk4 (fun i hi => by omega)).trans_new hk5 (fun i hi => by omega)⟩

theorem join_bad (a b : Nat) (n : Int) (hn : n < 0 ∨ 16777216 < n) (w : World) : Ret Try.prog 21 [U a, U b, I n] w fun v w' => v = .tuple #[U 0, I 1] ∧ Ext w w' := by
  refine ret_of_run (e := [(0, _), (1, _), (2, _)]) Try.func21 rfl Try.ntmps21 rfl rfl ?_
  refine run_seq ?_
  refine run_reg rfl ?_
  refine rVal rfl rfl (yas rfl) ?_
  refine rVal rfl rfl (yas rfl) ?_
  refine rEnd ?_
  refine run_seq ?_
  refine run_seq ?_
  refine run_reg rfl ?_
  refine rVal rfl rfl (ymv rfl) ?_
  refine rVal rfl rfl (ylt rfl rfl) ?_
  refine rVal_if (fun h0 => ?_) (fun h0 => ?_)
  · skip
    refine rVal rfl rfl (ymv rfl) ?_
    refine rSkip rfl rfl ?_
    refine rSkip rfl rfl ?_
    refine rVal rfl rfl (ypT rfl rfl) ?_
    refine rEnd ?_
    refine run_true rfl ?_
    refine run_seq ?_
    refine run_reg rfl ?_
    refine rVal rfl rfl (yas rfl) ?_
    refine rVal rfl rfl (yas rfl) ?_
    refine rEnd ?_
    refine run_ret Try.func21 rfl ?_
    exact ⟨_, rfl, rfl, Ext.refl w⟩
  · skip
    refine rVal rfl rfl (ymv rfl) ?_
    refine rVal rfl rfl (ymv rfl) ?_
    refine rVal rfl rfl (ygt rfl rfl) ?_
    refine rVal rfl rfl (ypF rfl rfl) ?_
    refine rEnd ?_
    refine run_if rfl (fun h1 => ?_) (fun h1 => ?_)
    · skip
      refine run_seq ?_
      refine run_reg rfl ?_
      refine rVal rfl rfl (yas rfl) ?_
      refine rVal rfl rfl (yas rfl) ?_
      refine rEnd ?_
      refine run_ret Try.func21 rfl ?_
      exact ⟨_, rfl, rfl, Ext.refl w⟩
    · skip
      exfalso; omega

theorem join_ret (a b n : Nat) (ha : a < 4294967296) (hb : b < 4294967296) (hn : n ≤ 16777216) (w : World) : Ret Try.prog 21 [U a, U b, I (n : Int)] w fun v w' => v = .tuple #[U (Sums.join a b n), I 0] ∧ Ext w w' := by
  refine ret_of_run (e := [(0, _), (1, _), (2, _)]) Try.func21 rfl Try.ntmps21 rfl rfl ?_
  refine run_seq ?_
  refine run_reg rfl ?_
  refine rVal rfl rfl (yas rfl) ?_
  refine rVal rfl rfl (yas rfl) ?_
  refine rEnd ?_
  refine run_seq ?_
  refine run_seq ?_
  refine run_reg rfl ?_
  refine rVal rfl rfl (ymv rfl) ?_
  refine rVal rfl rfl (ylt rfl rfl) ?_
  refine rVal_if (fun h0 => ?_) (fun h0 => ?_)
  · skip
    exfalso; omega
  · skip
    refine rVal rfl rfl (ymv rfl) ?_
    refine rVal rfl rfl (ymv rfl) ?_
    refine rVal rfl rfl (ygt rfl rfl) ?_
    refine rVal rfl rfl (ypF rfl rfl) ?_
    refine rEnd ?_
    refine run_if rfl (fun h1 => ?_) (fun h1 => ?_)
    · skip
      exfalso; omega
    · skip
      refine run_skip ?_
      refine run_seq ?_
      refine run_reg rfl ?_
      refine rCall rfl rfl (yc (args := []) cf58 rfl) (zero_ret _) ?_
      rintro _ w1 ⟨rfl, hx1⟩
      refine rValP rfl rfl (pal (cs := [_, _, _, _, _, _, _, _, _, _, _, _, _, _, _, _, _, _, _, _, _, _, _, _, _, _, _, _, _, _, _, _]) ti98 rfl) ?_
      rintro _ w2 ⟨b8, rfl, hb8, hx2, hB2⟩
      refine rEffP rfl (zstA ti98 rfl rfl (tab_one _) (by simp) hB2 (by simp)) ?_
      rintro w3 ⟨hB3, hk3⟩
      rw [splice_all _ _ (by simp)] at hB3
      refine rEnd ?_
      refine run_seq ?_
      refine run_block ?_
      have hx3 : Ext w w3 := (hx1.trans hx2).trans_new hk3 (fun i hi => by have := hx1.size; omega)
      refine run_loop (α := Nat × Nat × (Nat → Nat)) ((a, n, Sums.bits8)) (fun x => [(0, U x.1), (1, U b), (2, I (x.2.1 : Int)), (8, ptr b8 0)]) (fun x w' => x.1 < 4294967296 ∧ x.2.1 ≤ 16777216 ∧ Sums.Lin x.2.2 ∧ Sums.iter x.2.2 x.2.1 x.1 = Sums.iter Sums.bits8 n a ∧ Blk w' b8 (tab x.2.2) 98 ∧ Ext w w') (fun x => x.2.1) (by repeat (first | exact Sub.nil | refine Sub.cons rfl ?_)) ?hI ?hround
      case hI => exact ⟨ha, hn, Sums.lin_bits8, rfl, hB3, hx3⟩
      case hround =>
        rintro ⟨c, m, L⟩ w4 ⟨hc, hm, hL, he, hB4, hx4⟩ ih
        dsimp only at hc hm hL he hB4
        dsimp only
        refine run_seq ?_
        refine run_seq ?_
        refine run_reg rfl ?_
        refine rVal rfl rfl (ymv rfl) ?_
        refine rVal rfl rfl (ygt rfl rfl) ?_
        refine rEnd ?_
        refine run_if rfl (fun hlt => ?_) (fun hlt => ?_)
        · skip
          have hand : m &&& 1 = m % 2 := Nat.and_two_pow_sub_one_eq_mod m 1
          refine run_skip ?_
          refine run_seq ?_
          refine run_block ?_
          refine run_seq ?_
          refine run_seq ?_
          refine run_reg rfl ?_
          refine rVal rfl rfl (ymv rfl) ?_
          refine rVal rfl rfl (yan64 rfl rfl (by omega) (by omega)) ?_
          refine rVal rfl rfl (ygt rfl rfl) ?_
          refine rEnd ?_
          refine run_cut (fun e' w' => ∃ c', e' = [(0, U c'), (1, U b), (2, I (m : Int)), (8, ptr b8 0)] ∧ c' < 4294967296 ∧ Sums.iter L (2 * (m / 2)) c' = Sums.iter Sums.bits8 n a ∧ Blk w' b8 (tab L) 98 ∧ Ext w w') ?hk (fun hk => ?hmain)
          case hk =>
            rintro _ w5 ⟨c', rfl, hc', he', hB5, hx5⟩
            refine run_reg rfl ?_
            refine rVal rfl rfl (yldA Try.underlying98 rfl ti98 rfl (Blk.cells hB5 (news := tab L) (tab_whole _)) (by simp)) ?_
            refine rCall rfl rfl (yc (args := [.tmp 26]) cf60 rfl) (square_ret L hL _) ?_
            rintro _ w6 ⟨rfl, hx6⟩
            refine rEffP rfl (zstA ti98 rfl rfl (tab_one _) (by simp) (hx6.blk hB5) (by simp)) ?_
            rintro w7 ⟨hB7, hk7⟩
            rw [splice_all _ _ (by simp)] at hB7
            refine rEnd ?_
            refine run_inBlock ?_
            refine run_reg rfl ?_
            refine rVal rfl rfl (ymv rfl) ?_
            refine rVal rfl rfl (ysrN 1 2 rfl rfl (by decide) rfl) ?_
            refine rVal rfl rfl (yas rfl) ?_
            refine rEnd ?_
            refine (ih (c', m / 2, fun x => L (L x)) w7 ⟨hc', by dsimp only; omega, hL.comp hL, ?_, hB7, (hx5.trans hx6).trans_new hk7 (fun i hi => by have := hx1.size; omega)⟩ (by dsimp only; omega)).sub (by repeat (first | exact Sub.nil | refine Sub.cons rfl ?_))
            dsimp only
            rw [Sums.iter_two]
            exact he'
          case hmain =>
            refine run_if rfl (fun hodd => ?_) (fun hodd => ?_)
            · skip
              refine run_reg rfl ?_
              refine rVal rfl rfl (yldA Try.underlying98 rfl ti98 rfl (Blk.cells hB4 (news := tab L) (tab_whole _)) (by simp)) ?_
              refine rVal rfl rfl (ymv rfl) ?_
              refine rCall rfl rfl (yc (args := [.tmp 23, .tmp 24]) cf59 rfl) (of_ret L hL c hc _) ?_
              rintro _ w5 ⟨rfl, hx5⟩
              refine rVal rfl rfl (yas rfl) ?_
              refine rEnd ?_
              refine (hk _ _ ⟨L c, rfl, hL.lt _ hc, ?_, hx5.blk hB4, hx4.trans hx5⟩).sub (by repeat (first | exact Sub.nil | refine Sub.cons rfl ?_))
              rw [← he]
              have : m = 2 * (m / 2) + 1 := by omega
              conv => rhs; rw [this]
              rfl
            · skip
              refine run_skip ?_
              refine (hk _ _ ⟨c, rfl, hc, ?_, hB4, hx4⟩).sub (by repeat (first | exact Sub.nil | refine Sub.cons rfl ?_))
              rw [← he]
              congr 1
              omega
        · skip
          have hm0 : m = 0 := by omega
          subst hm0
          have hec : c = Sums.iter Sums.bits8 n a := he
          subst hec
          refine run_exit rfl ?_
          refine run_seq ?_
          refine run_reg rfl ?_
          refine rVal rfl rfl (ymv rfl) ?_
          refine rVal rfl rfl (ymv rfl) ?_
          refine rVal rfl rfl (yxo32 rfl rfl (by omega) (by omega)) ?_
          refine rVal rfl rfl (yas rfl) ?_
          refine rVal rfl rfl (yas rfl) ?_
          refine rEnd ?_
          refine run_ret Try.func21 rfl ?_
          exact ⟨_, rfl, rfl, hx4⟩
end Go.Proofs.Ytdapkfppcaaohaa
