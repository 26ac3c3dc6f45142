/- The walks of the document's answer for layer 3. -/
import Derived.Test.YtdapkfppcaaohaaSumsB
namespace Go.Proofs.Ytdapkfppcaaohaa
open Go Go.RowKit
set_option linter.unusedVariables false

theorem rstep_ret (c : Nat) (b : UInt8) (w : World) (hc : c < 4294967296) :
    Ret Try.prog 57 [U c, u8v b] w fun v w' => v = U (Sums.byte c b) ∧ Ext w w' := by
  have hb := b.toNat_lt
  have hx := Sums.xor_lt32 hc (show b.toNat < 4294967296 by omega)
  refine ret_of_run (e := [(0, _), (1, _)]) Try.func57 rfl Try.ntmps57 rfl rfl ?_
  refine run_seq ?_
  refine run_reg rfl ?_
  refine rVal rfl rfl (yas rfl) ?_
  refine rEnd ?_
  refine run_seq ?_
  refine run_reg rfl ?_
  refine rVal rfl rfl (ymv rfl) ?_
  refine rVal rfl rfl (ymv rfl) ?_
  refine rVal rfl rfl ((by first | exact ycvB rfl Try.underlying5 Try.underlying33 (by decide) | exact ycvSu32 rfl Try.underlying5 Try.underlying33 (by omega))) ?_
  refine rVal rfl rfl (yxo32 rfl rfl (by omega) (by omega)) ?_
  refine rVal rfl rfl (yas rfl) ?_
  refine rEnd ?_
  refine run_seq ?_
  refine run_seq ?_
  refine run_reg rfl ?_
  refine rVal rfl rfl (yas rfl) ?_
  refine rEnd ?_
  refine run_block ?_
  refine run_loop (α := Nat × Nat) ((0, c ^^^ b.toNat)) (fun x => [(0, U x.2), (5, I (x.1 : Int))]) (fun x w' => x.1 ≤ 8 ∧ x.2 < 4294967296 ∧ Sums.iter Sums.bit (8 - x.1) x.2 = Sums.byte c b ∧ Ext w w') (fun x => 8 - x.1) (by repeat (first | exact Sub.nil | refine Sub.cons rfl ?_)) ?hI ?hround
  case hI => exact ⟨by omega, hx, rfl, Ext.refl w⟩
  case hround =>
    rintro ⟨k, d⟩ w2 ⟨hk8, hd, hs, hx2⟩ ih
    dsimp only at hk8 hd hs
    dsimp only
    refine run_seq ?_
    refine run_seq ?_
    refine run_reg rfl ?_
    refine rVal rfl rfl (ymv rfl) ?_
    refine rVal rfl rfl (ylt rfl rfl) ?_
    refine rEnd ?_
    refine run_if rfl (fun hlt => ?_) (fun hlt => ?_)
    · skip
      refine run_skip ?_
      refine run_seq ?_
      refine run_block ?_
      refine run_seq ?_
      refine run_reg rfl ?_
      refine rVal rfl rfl (ymv rfl) ?_
      refine rVal rfl rfl (yreU rfl rfl (by omega)) ?_
      refine rVal rfl rfl (yeq rfl rfl) ?_
      refine rVal rfl rfl (yas rfl) ?_
      refine rEnd ?_
      refine run_seq ?_
      refine run_reg rfl ?_
      refine rVal rfl rfl (ymv rfl) ?_
      refine rVal rfl rfl (yquU rfl rfl rfl (by simp only [IntKind.bits]; omega) (by omega)) ?_
      refine rVal rfl rfl (yas rfl) ?_
      refine rEnd ?_
      refine run_seq ?_
      refine run_reg rfl ?_
      refine rVal rfl rfl (ymv rfl) ?_
      refine rEnd ?_
      refine run_cut (fun e' w' => e' = [(0, U (Sums.bit d)), (5, I (k : Int))] ∧ w' = w2) ?hk (fun hk => ?hmain)
      case hk =>
        rintro _ _ ⟨rfl, rfl⟩
        refine run_inBlock ?_
        refine run_reg rfl ?_
        refine rVal rfl rfl (ymv rfl) ?_
        refine rVal rfl rfl (yad rfl rfl (by omega)) ?_
        refine rVal rfl rfl (yas rfl) ?_
        refine rEnd ?_
        refine (ih (k + 1, Sums.bit d) _ ⟨by dsimp only; omega, Sums.bit_lt hd, ?_, hx2⟩ (by dsimp only; omega)).sub (by repeat (first | exact Sub.nil | refine Sub.cons rfl ?_))
        have h8 : 8 - k = (8 - (k + 1)) + 1 := by omega
        dsimp only
        rw [h8] at hs
        exact hs
      case hmain =>
        refine run_if rfl (fun hodd => ?_) (fun hodd => ?_)
        · skip
          refine run_reg rfl ?_
          refine rVal rfl rfl (ymv rfl) ?_
          refine rVal rfl rfl (yxo32 rfl rfl (by omega) (by omega)) ?_
          refine rVal rfl rfl (yas rfl) ?_
          refine rEnd ?_
          have : Sums.bit d = d / 2 ^^^ 2197175160 := by unfold Sums.bit; rw [if_pos (by omega)]
          rw [this] at hk
          exact (hk _ _ ⟨rfl, rfl⟩).sub (by repeat (first | exact Sub.nil | refine Sub.cons rfl ?_))
        · skip
          refine run_skip ?_
          have : Sums.bit d = d / 2 := by unfold Sums.bit; rw [if_neg (by omega)]
          rw [this] at hk
          exact (hk _ _ ⟨rfl, rfl⟩).sub (by repeat (first | exact Sub.nil | refine Sub.cons rfl ?_))
    · skip
      have hk : k = 8 := by omega
      subst hk
      have hd8 : d = Sums.byte c b := hs
      subst hd8
      refine run_exit rfl ?_
      refine run_seq ?_
      refine run_reg rfl ?_
      refine rVal rfl rfl (ymv rfl) ?_
      refine rVal rfl rfl (yas rfl) ?_
      refine rEnd ?_
      refine run_ret Try.func57 rfl ?_
      exact ⟨_, rfl, rfl, hx2⟩

theorem ron_ret (c : Nat) (l : List UInt8) (w : World) (hc : c < 4294967296) (hl : l.length ≤ 9223372036854775807) :
    Ret Try.prog 20 [U c, S l] w fun v w' => v = U (Sums.on c l) ∧ Ext w w' := by
  refine ret_of_run (e := [(0, _), (1, _)]) Try.func20 rfl Try.ntmps20 rfl rfl ?_
  refine run_seq ?_
  refine run_reg rfl ?_
  refine rVal rfl rfl (yas rfl) ?_
  refine rEnd ?_
  refine run_seq ?_
  refine run_reg rfl ?_
  refine rVal rfl rfl (ymv rfl) ?_
  refine rVal rfl rfl (yco32 rfl (by omega)) ?_
  refine rVal rfl rfl (yas rfl) ?_
  refine rEnd ?_
  refine run_seq ?_
  refine run_seq ?_
  refine run_reg rfl ?_
  refine rVal rfl rfl (yas rfl) ?_
  refine rEnd ?_
  refine run_block ?_
  refine run_loop (α := Nat × Nat) ((0, Sums.neg c)) (fun x => [(1, S l), (5, U x.2), (6, I (x.1 : Int))]) (fun x w' => x.1 ≤ l.length ∧ x.2 < 4294967296 ∧ x.2 = Sums.raw (Sums.neg c) (l.take x.1) ∧ Ext w w') (fun x => l.length - x.1) (by repeat (first | exact Sub.nil | refine Sub.cons rfl ?_)) ?hI ?hround
  case hI => exact ⟨by simp, Sums.neg_lt hc, rfl, Ext.refl w⟩
  case hround =>
    rintro ⟨k, d⟩ w4 ⟨hk, hd, hs, hx4⟩ ih
    dsimp only at hk hd hs
    dsimp only
    refine run_seq ?_
    refine run_seq ?_
    refine run_reg rfl ?_
    refine rVal rfl rfl (ymv rfl) ?_
    refine rVal rfl rfl (ymv rfl) ?_
    refine rVal rfl rfl (ylnS Try.underlying9 rfl) ?_
    refine rVal rfl rfl (ylt rfl rfl) ?_
    refine rEnd ?_
    refine run_if rfl (fun hlt => ?_) (fun hlt => ?_)
    · skip
      have hkl : k < l.length := by omega
      refine run_skip ?_
      refine run_seq ?_
      refine run_block ?_
      refine run_reg rfl ?_
      refine rVal rfl rfl (ymv rfl) ?_
      refine rVal rfl rfl (ymv rfl) ?_
      refine rVal rfl rfl (ymv rfl) ?_
      refine rVal rfl rfl (yixS Try.underlying9 rfl rfl (by omega)) ?_
      refine rCall rfl rfl (yc (args := [.tmp 15, .tmp 18]) cf57 rfl) (rstep_ret d (l.getD k 0) _ hd) ?_
      rintro _ w5 ⟨rfl, hx5⟩
      refine rVal rfl rfl (yas rfl) ?_
      refine rEnd ?_
      refine run_inBlock ?_
      refine run_reg rfl ?_
      refine rVal rfl rfl (ymv rfl) ?_
      refine rVal rfl rfl (yad rfl rfl (by omega)) ?_
      refine rVal rfl rfl (yas rfl) ?_
      refine rEnd ?_
      refine (ih (k + 1, Sums.byte d (l.getD k 0)) w5 ⟨hkl, Sums.byte_lt hd _, ?_, hx4.trans hx5⟩ (by dsimp only; omega)).sub (by repeat (first | exact Sub.nil | refine Sub.cons rfl ?_))
      rw [raw_take_succ _ _ _ hkl, ← hs]
    · skip
      refine run_exit rfl ?_
      refine run_seq ?_
      refine run_reg rfl ?_
      refine rVal rfl rfl (ymv rfl) ?_
      refine rVal rfl rfl (yco32 rfl (by omega)) ?_
      refine rVal rfl rfl (yas rfl) ?_
      refine rEnd ?_
      refine run_ret Try.func20 rfl ?_
      refine ⟨_, rfl, ?_, hx4⟩
      have hkk : k = l.length := by omega
      subst hkk
      rw [List.take_length] at hs
      show U (Sums.neg d) = _
      rw [hs]
      rfl

theorem rcrc_ret (l : List UInt8) (w : World) (hl : l.length ≤ 9223372036854775807) :
    Ret Try.prog 18 [S l] w fun v w' => v = U (Sums.crc l) ∧ Ext w w' := by
  refine ret_of_run (e := [(0, _)]) Try.func18 rfl Try.ntmps18 rfl rfl ?_
  refine run_seq ?_
  refine run_reg rfl ?_
  refine rVal rfl rfl (yas rfl) ?_
  refine rEnd ?_
  refine run_seq ?_
  refine run_reg rfl ?_
  refine rVal rfl rfl (ymv rfl) ?_
  refine rCall rfl rfl (yc (args := [.const (Value.int .u32 0), .tmp 3]) cf20 rfl) (ron_ret 0 l _ (by omega) hl) ?_
  rintro _ w1 ⟨rfl, hx1⟩
  refine rVal rfl rfl (yas rfl) ?_
  refine rEnd ?_
  refine run_ret Try.func18 rfl ?_
  exact ⟨_, rfl, rfl, hx1⟩

theorem rjoin_bad (a b : Nat) (n : Int) (hn : n < 0 ∨ 16777216 < n) (w : World) : Ret Try.prog 22 [U a, U b, I n] w fun v w' => v = .tuple #[U 0, I 1] ∧ Ext w w' := by
  refine ret_of_run (e := [(0, _), (1, _), (2, _)]) Try.func22 rfl Try.ntmps22 rfl rfl ?_
  refine run_seq ?_
  refine run_reg rfl ?_
  refine rVal rfl rfl (yas rfl) ?_
  refine rVal rfl rfl (yas rfl) ?_
  refine rEnd ?_
  refine run_seq ?_
  refine run_seq ?_
  refine run_reg rfl ?_
  refine rVal rfl rfl (ymv rfl) ?_
  refine rVal rfl rfl (ylt rfl rfl) ?_
  refine rVal_if (fun h0 => ?_) (fun h0 => ?_)
  · skip
    refine rVal rfl rfl (ymv rfl) ?_
    refine rSkip rfl rfl ?_
    refine rSkip rfl rfl ?_
    refine rVal rfl rfl (ypT rfl rfl) ?_
    refine rEnd ?_
    refine run_true rfl ?_
    refine run_seq ?_
    refine run_reg rfl ?_
    refine rVal rfl rfl (yas rfl) ?_
    refine rVal rfl rfl (yas rfl) ?_
    refine rEnd ?_
    refine run_ret Try.func22 rfl ?_
    exact ⟨_, rfl, rfl, Ext.refl w⟩
  · skip
    refine rVal rfl rfl (ymv rfl) ?_
    refine rVal rfl rfl (ymv rfl) ?_
    refine rVal rfl rfl (ygt rfl rfl) ?_
    refine rVal rfl rfl (ypF rfl rfl) ?_
    refine rEnd ?_
    refine run_if rfl (fun h1 => ?_) (fun h1 => ?_)
    · skip
      refine run_seq ?_
      refine run_reg rfl ?_
      refine rVal rfl rfl (yas rfl) ?_
      refine rVal rfl rfl (yas rfl) ?_
      refine rEnd ?_
      refine run_ret Try.func22 rfl ?_
      exact ⟨_, rfl, rfl, Ext.refl w⟩
    · skip
      exfalso; omega

theorem rjoin_ret (a b n : Nat) (ha : a < 4294967296) (hb : b < 4294967296) (hn : n ≤ 16777216) (w : World) : Ret Try.prog 22 [U a, U b, I (n : Int)] w fun v w' => v = .tuple #[U (Sums.join a b n), I 0] ∧ Ext w w' := by
  refine ret_of_run (e := [(0, _), (1, _), (2, _)]) Try.func22 rfl Try.ntmps22 rfl rfl ?_
  refine run_seq ?_
  refine run_reg rfl ?_
  refine rVal rfl rfl (yas rfl) ?_
  refine rVal rfl rfl (yas rfl) ?_
  refine rEnd ?_
  refine run_seq ?_
  refine run_seq ?_
  refine run_reg rfl ?_
  refine rVal rfl rfl (ymv rfl) ?_
  refine rVal rfl rfl (ylt rfl rfl) ?_
  refine rVal_if (fun h0 => ?_) (fun h0 => ?_)
  · skip
    exfalso; omega
  · skip
    refine rVal rfl rfl (ymv rfl) ?_
    refine rVal rfl rfl (ymv rfl) ?_
    refine rVal rfl rfl (ygt rfl rfl) ?_
    refine rVal rfl rfl (ypF rfl rfl) ?_
    refine rEnd ?_
    refine run_if rfl (fun h1 => ?_) (fun h1 => ?_)
    · skip
      exfalso; omega
    · skip
      refine run_skip ?_
      refine run_seq ?_
      refine run_seq ?_
      refine run_reg rfl ?_
      refine rVal rfl rfl (yas rfl) ?_
      refine rEnd ?_
      refine run_block ?_
      refine run_loop (α := Nat × Nat) ((0, a)) (fun x => [(0, U x.2), (1, U b), (2, I (n : Int)), (8, I (x.1 : Int))]) (fun x w' => x.1 ≤ n ∧ x.2 < 4294967296 ∧ Sums.iter Sums.bits8 (n - x.1) x.2 = Sums.iter Sums.bits8 n a ∧ Ext w w') (fun x => n - x.1) (by repeat (first | exact Sub.nil | refine Sub.cons rfl ?_)) ?hI ?hround
      case hI => exact ⟨by simp, ha, rfl, Ext.refl w⟩
      case hround =>
        rintro ⟨k, d⟩ w4 ⟨hk, hd, hs, hx4⟩ ih
        dsimp only at hk hd hs
        dsimp only
        refine run_seq ?_
        refine run_seq ?_
        refine run_reg rfl ?_
        refine rVal rfl rfl (ymv rfl) ?_
        refine rVal rfl rfl (ymv rfl) ?_
        refine rVal rfl rfl (ylt rfl rfl) ?_
        refine rEnd ?_
        refine run_if rfl (fun hlt => ?_) (fun hlt => ?_)
        · skip
          refine run_skip ?_
          refine run_seq ?_
          refine run_block ?_
          refine run_reg rfl ?_
          refine rVal rfl rfl (ymv rfl) ?_
          refine rCall rfl rfl (yc (args := [.tmp 20, .const (Value.int .u8 0)]) cf57 rfl) (rstep_ret d 0 _ hd) ?_
          rintro _ w5 ⟨rfl, hx5⟩
          refine rVal rfl rfl (yas rfl) ?_
          refine rEnd ?_
          refine run_inBlock ?_
          refine run_reg rfl ?_
          refine rVal rfl rfl (ymv rfl) ?_
          refine rVal rfl rfl (yad rfl rfl (by omega)) ?_
          refine rVal rfl rfl (yas rfl) ?_
          refine rEnd ?_
          refine (ih (k + 1, Sums.byte d 0) w5 ⟨by dsimp only; omega, Sums.byte_lt hd _, ?_, hx4.trans hx5⟩ (by dsimp only; omega)).sub (by repeat (first | exact Sub.nil | refine Sub.cons rfl ?_))
          have h8 : n - k = (n - (k + 1)) + 1 := by omega
          dsimp only
          rw [h8] at hs
          have h0 : Sums.byte d 0 = Sums.bits8 d := by simp [Sums.byte]
          rw [h0]
          exact hs
        · skip
          have hk : k = n := by omega
          subst hk
          rw [Nat.sub_self] at hs
          have hd8 : d = Sums.iter Sums.bits8 k a := hs
          subst hd8
          have hj := Sums.xor_lt32 hd hb
          refine run_exit rfl ?_
          refine run_seq ?_
          refine run_reg rfl ?_
          refine rVal rfl rfl (ymv rfl) ?_
          refine rVal rfl rfl (ymv rfl) ?_
          refine rVal rfl rfl (yxo32 rfl rfl (by omega) (by omega)) ?_
          refine rVal rfl rfl (yas rfl) ?_
          refine rVal rfl rfl (yas rfl) ?_
          refine rEnd ?_
          refine run_ret Try.func22 rfl ?_
          exact ⟨_, rfl, rfl, hx4⟩

theorem rnumber_ret (l : List UInt8) (w : World) (h : 4 ≤ l.length) :
    Ret Try.prog 55 [S l] w fun v w' => v = U (Sums.num l) ∧ Ext w w' := by
  have h0 := (l.getD 0 0).toNat_lt
  have h1 := (l.getD 1 0).toNat_lt
  have h2 := (l.getD 2 0).toNat_lt
  have h3 := (l.getD 3 0).toNat_lt
  obtain ⟨e1, e2, e3⟩ := or3 _ _ _ _ h0 h1 h2 h3
  have m1 : (l.getD 0 0).toNat * 16777216 % 4294967296 = (l.getD 0 0).toNat * 16777216 := Nat.mod_eq_of_lt (by omega)
  have m2 : (l.getD 1 0).toNat * 65536 % 4294967296 = (l.getD 1 0).toNat * 65536 := Nat.mod_eq_of_lt (by omega)
  have m3 : (l.getD 2 0).toNat * 256 % 4294967296 = (l.getD 2 0).toNat * 256 := Nat.mod_eq_of_lt (by omega)
  refine ret_of_run (e := [(0, _)]) Try.func55 rfl Try.ntmps55 rfl rfl ?_
  refine run_seq ?_
  refine run_reg rfl ?_
  refine rVal rfl rfl (yas rfl) ?_
  refine rEnd ?_
  refine run_seq ?_
  refine run_draw (fun _ => True) (by kernel_rfl) rfl ?_
  refine hTake (i := 0) rfl (by kernel_rfl) rfl rfl (fun _ hS => ymv rfl) (trivial) ?_
  refine hTake (i := 1) rfl (by kernel_rfl) rfl rfl (fun _ hS => yixS Try.underlying9 rfl rfl (by omega)) (trivial) ?_
  refine hTake (i := 2) rfl (by kernel_rfl) rfl rfl (fun _ hS => (by first | exact ycvB rfl Try.underlying5 Try.underlying33 (by decide) | exact ycvSu32 rfl Try.underlying5 Try.underlying33 (by omega))) (trivial) ?_
  refine hTake (i := 3) rfl (by kernel_rfl) rfl rfl (fun _ hS => ysl32 24 16777216 rfl rfl (by decide) rfl) (trivial) ?_
  refine hTake (i := 4) rfl (by kernel_rfl) rfl rfl (fun _ hS => ymv rfl) (trivial) ?_
  refine hTake (i := 5) rfl (by kernel_rfl) rfl rfl (fun _ hS => yixS Try.underlying9 rfl rfl (by omega)) (trivial) ?_
  refine hTake (i := 6) rfl (by kernel_rfl) rfl rfl (fun _ hS => (by first | exact ycvB rfl Try.underlying5 Try.underlying33 (by decide) | exact ycvSu32 rfl Try.underlying5 Try.underlying33 (by omega))) (trivial) ?_
  refine hTake (i := 7) rfl (by kernel_rfl) rfl rfl (fun _ hS => ysl32 16 65536 rfl rfl (by decide) rfl) (trivial) ?_
  refine hTake (i := 9) rfl (by kernel_rfl) rfl rfl (fun _ hS => ymv rfl) (trivial) ?_
  refine hTake (i := 10) rfl (by kernel_rfl) rfl rfl (fun _ hS => yixS Try.underlying9 rfl rfl (by omega)) (trivial) ?_
  refine hTake (i := 11) rfl (by kernel_rfl) rfl rfl (fun _ hS => (by first | exact ycvB rfl Try.underlying5 Try.underlying33 (by decide) | exact ycvSu32 rfl Try.underlying5 Try.underlying33 (by omega))) (trivial) ?_
  refine hTake (i := 12) rfl (by kernel_rfl) rfl rfl (fun _ hS => ysl32 8 256 rfl rfl (by decide) rfl) (trivial) ?_
  refine hTake (i := 14) rfl (by kernel_rfl) rfl rfl (fun _ hS => ymv rfl) (trivial) ?_
  refine hTake (i := 15) rfl (by kernel_rfl) rfl rfl (fun _ hS => yixS Try.underlying9 rfl rfl (by omega)) (trivial) ?_
  refine hTake (i := 16) rfl (by kernel_rfl) rfl rfl (fun _ hS => (by first | exact ycvB rfl Try.underlying5 Try.underlying33 (by decide) | exact ycvSu32 rfl Try.underlying5 Try.underlying33 (by omega))) (trivial) ?_
  rw [m1, m2, m3]
  refine hTake (i := 8) rfl (by kernel_rfl) rfl rfl (fun _ hS => yor32 rfl rfl (by omega) (by omega)) (trivial) ?_
  refine hTake (i := 13) rfl (by kernel_rfl) rfl rfl (fun _ hS => yor32 rfl rfl (by omega) (by omega)) (trivial) ?_
  refine hTake (i := 17) rfl (by kernel_rfl) rfl rfl (fun _ hS => yor32 rfl rfl (by omega) (by omega)) (trivial) ?_
  refine hTake (i := 18) rfl (by kernel_rfl) rfl rfl (fun _ hS => yas rfl) (trivial) ?_
  refine hEnd (by kernel_rfl) ?_
  refine run_ret Try.func55 rfl ?_
  refine ⟨_, rfl, ?_, Ext.drew0 w⟩
  show U _ = U _
  rw [e3]
  rfl

theorem rfour_ret (n : Nat) (w : World) (h : n < 4294967296) :
    Ret Try.prog 80 [U n] w fun v w' => v = S (Sums.be4 n) ∧ Ext w w' := by
  refine ret_of_run (e := [(0, _)]) Try.func80 rfl Try.ntmps80 rfl rfl ?_
  refine run_seq ?_
  refine run_reg rfl ?_
  refine rVal rfl rfl (yas rfl) ?_
  refine rEnd ?_
  refine run_seq ?_
  refine run_reg rfl ?_
  refine rVal rfl rfl (ymv rfl) ?_
  refine rVal rfl rfl (ysrN 24 16777216 rfl rfl (by decide) rfl) ?_
  refine rVal rfl rfl (ycv8 rfl Try.underlying33 Try.underlying5) ?_
  refine rVal rfl rfl (ymv rfl) ?_
  refine rVal rfl rfl (ysrN 16 65536 rfl rfl (by decide) rfl) ?_
  refine rVal rfl rfl (ycv8 rfl Try.underlying33 Try.underlying5) ?_
  refine rVal rfl rfl (ymv rfl) ?_
  refine rVal rfl rfl (ysrN 8 256 rfl rfl (by decide) rfl) ?_
  refine rVal rfl rfl (ycv8 rfl Try.underlying33 Try.underlying5) ?_
  refine rVal rfl rfl (ymv rfl) ?_
  refine rVal rfl rfl (ycv8 rfl Try.underlying33 Try.underlying5) ?_
  refine rValP rfl rfl (pbs (parts := [(0, .tmp 5), (1, .tmp 8), (2, .tmp 11), (3, .tmp 13)]) (cs := [_, _, _, _]) (zs := [Value.int .u8 0, Value.int .u8 0, Value.int .u8 0, Value.int .u8 0]) Try.underlying30 ti5 rfl (by kernel_rfl) rfl rfl rfl (by decide)) ?_
  rintro _ w1 ⟨b1, rfl, ⟨hb1, hx1, hB1⟩, _⟩
  refine rVal rfl rfl (yB2S (l := Sums.be4 n) Try.underlying30 Try.underlying5 Try.underlying9 rfl hB1 (by simp [u8v, Sums.be4]) rfl) ?_
  refine rVal rfl rfl (yas rfl) ?_
  refine rEnd ?_
  refine run_ret Try.func80 rfl ?_
  exact ⟨_, rfl, rfl, hx1⟩

theorem laid_ret (k : UInt8) (p : List UInt8) (w : World) (hl : p.length ≤ 16777216) :
    Ret Try.prog 54 [u8v k, S p] w fun v w' => v = S (Sums.frame k p) ∧ Ext w w' := by
  refine ret_of_run (e := [(0, _), (1, _)]) Try.func54 rfl Try.ntmps54 rfl rfl ?_
  refine run_seq ?_
  refine run_reg rfl ?_
  refine rVal rfl rfl (yas rfl) ?_
  refine rEnd ?_
  refine run_seq ?_
  refine run_cut (fun e' w' => e' = [(1, S p), (5, S (Sums.head k p))] ∧ Ext w w') ?hk (fun hk => ?hmain)
  case hk =>
    rintro _ w5 ⟨rfl, hx5⟩
    refine run_seq ?_
    refine run_reg rfl ?_
    refine rVal rfl rfl (ymv rfl) ?_
    refine rVal rfl rfl (ymv rfl) ?_
    refine rVal rfl rfl (ymv rfl) ?_
    refine rVal rfl rfl (ycatS rfl rfl (by first | omega | (simp; done) | (simp; omega))) ?_
    refine rCall rfl rfl (yc (args := [.tmp 17]) cf18 rfl) (rcrc_ret (Sums.head k p ++ p) _ (by simp; omega)) ?_
    rintro _ w6 ⟨rfl, hx6⟩
    refine rCall rfl rfl (yc (args := [.tmp 18]) cf80 rfl) (rfour_ret (Sums.crc (Sums.head k p ++ p)) _ (Sums.crc_lt _)) ?_
    rintro _ w8 ⟨rfl, hx8⟩
    refine rVal rfl rfl (ycatS rfl rfl (by first | omega | (simp; done) | (simp; omega))) ?_
    refine rVal rfl rfl (ymv rfl) ?_
    refine rVal rfl rfl (ycatS rfl rfl (by first | omega | (simp; done) | (simp; omega))) ?_
    refine rVal rfl rfl (yas rfl) ?_
    refine rEnd ?_
    refine run_ret Try.func54 rfl ?_
    exact ⟨_, rfl, rfl, (hx5.trans hx6).trans hx8⟩
  case hmain =>
    have hp : p.length % 4294967296 = p.length := Nat.mod_eq_of_lt (by omega)
    refine run_draw (fun w' => Ext w w') (by kernel_rfl) rfl ?_
    refine hTake (i := 0) rfl (by kernel_rfl) rfl rfl (fun _ hS => ymv rfl) (Ext.drew0 w) ?_
    refine hTake (i := 3) rfl (by kernel_rfl) rfl rfl (fun _ hS => ymv rfl) (Ext.drew0 w) ?_
    refine hTake (i := 4) rfl (by kernel_rfl) rfl rfl (fun _ hS => ylnS Try.underlying9 rfl) (Ext.drew0 w) ?_
    refine hTake (i := 5) rfl (by kernel_rfl) rfl rfl (fun _ hS => ycv32 rfl Try.underlying3 Try.underlying33) (Ext.drew0 w) ?_
    rw [hp]
    refine hTwo (i := 1) (j := 6) (by kernel_rfl) ?_ ?_
    · skip
      refine nValP (i := 1) rfl rfl rfl (pbs (parts := [(0, .tmp 6)]) (cs := [_]) (zs := [Value.int .u8 0]) Try.underlying30 ti5 rfl (by kernel_rfl) rfl rfl rfl (by decide)) ?_
      rintro _ w1 ⟨b1, rfl, ⟨hb1, hx1, hB1⟩, _⟩
      refine ⟨(Ext.drew0 w).trans hx1, ?_⟩
      refine hTwo (i := 2) (j := 6) (by kernel_rfl) ?_ ?_
      · skip
        refine nVal (i := 2) rfl rfl rfl (yB2S (l := [k]) Try.underlying30 Try.underlying5 Try.underlying9 rfl hB1 rfl rfl) ((Ext.drew0 w).trans hx1) ?_
        refine hOne (i := 6) (by kernel_rfl) ?_
        refine nCall (i := 6) rfl rfl rfl (yc (args := [.tmp 11]) cf80 rfl) (rfour_ret p.length _ (by omega)) ?_
        rintro _ w2 ⟨rfl, hx2⟩
        refine ⟨((Ext.drew0 w).trans hx1).trans hx2, ?_⟩
        refine hTake (i := 7) rfl (by kernel_rfl) rfl rfl (fun _ hS => ycatS rfl rfl (by first | omega | (simp; done) | (simp; omega))) (((Ext.drew0 w).trans hx1).trans hx2) ?_
        refine hTake (i := 8) rfl (by kernel_rfl) rfl rfl (fun _ hS => yas rfl) (((Ext.drew0 w).trans hx1).trans hx2) ?_
        refine hEnd (by kernel_rfl) ?_
        exact (hk _ _ ⟨rfl, ((Ext.drew0 w).trans hx1).trans hx2⟩).sub (by repeat (first | exact Sub.nil | refine Sub.cons rfl ?_))
      · skip
        refine nCall (i := 6) rfl rfl rfl (yc (args := [.tmp 11]) cf80 rfl) (rfour_ret p.length _ (by omega)) ?_
        rintro _ w2 ⟨rfl, hx2⟩
        refine ⟨((Ext.drew0 w).trans hx1).trans hx2, ?_⟩
        refine hOne (i := 2) (by kernel_rfl) ?_
        refine nVal (i := 2) rfl rfl rfl (yB2S (l := [k]) Try.underlying30 Try.underlying5 Try.underlying9 rfl (hx2.blk hB1) rfl rfl) (((Ext.drew0 w).trans hx1).trans hx2) ?_
        refine hTake (i := 7) rfl (by kernel_rfl) rfl rfl (fun _ hS => ycatS rfl rfl (by first | omega | (simp; done) | (simp; omega))) (((Ext.drew0 w).trans hx1).trans hx2) ?_
        refine hTake (i := 8) rfl (by kernel_rfl) rfl rfl (fun _ hS => yas rfl) (((Ext.drew0 w).trans hx1).trans hx2) ?_
        refine hEnd (by kernel_rfl) ?_
        exact (hk _ _ ⟨rfl, ((Ext.drew0 w).trans hx1).trans hx2⟩).sub (by repeat (first | exact Sub.nil | refine Sub.cons rfl ?_))
    · skip
      refine nCall (i := 6) rfl rfl rfl (yc (args := [.tmp 11]) cf80 rfl) (rfour_ret p.length _ (by omega)) ?_
      rintro _ w2 ⟨rfl, hx2⟩
      refine ⟨(Ext.drew0 w).trans hx2, ?_⟩
      refine hOne (i := 1) (by kernel_rfl) ?_
      refine nValP (i := 1) rfl rfl rfl (pbs (parts := [(0, .tmp 6)]) (cs := [_]) (zs := [Value.int .u8 0]) Try.underlying30 ti5 rfl (by kernel_rfl) rfl rfl rfl (by decide)) ?_
      rintro _ w1 ⟨b1, rfl, ⟨hb1, hx1, hB1⟩, _⟩
      refine ⟨((Ext.drew0 w).trans hx2).trans hx1, ?_⟩
      refine hOne (i := 2) (by kernel_rfl) ?_
      refine nVal (i := 2) rfl rfl rfl (yB2S (l := [k]) Try.underlying30 Try.underlying5 Try.underlying9 rfl hB1 rfl rfl) (((Ext.drew0 w).trans hx2).trans hx1) ?_
      refine hTake (i := 7) rfl (by kernel_rfl) rfl rfl (fun _ hS => ycatS rfl rfl (by first | omega | (simp; done) | (simp; omega))) (((Ext.drew0 w).trans hx2).trans hx1) ?_
      refine hTake (i := 8) rfl (by kernel_rfl) rfl rfl (fun _ hS => yas rfl) (((Ext.drew0 w).trans hx2).trans hx1) ?_
      refine hEnd (by kernel_rfl) ?_
      exact (hk _ _ ⟨rfl, ((Ext.drew0 w).trans hx2).trans hx1⟩).sub (by repeat (first | exact Sub.nil | refine Sub.cons rfl ?_))

theorem rframe_ret (k : UInt8) (p : List UInt8) (w : World) (hl : p.length ≤ 16777216) :
    Ret Try.prog 15 [u8v k, S p] w fun v w' => v = .tuple #[S (Sums.frame k p), I 0] ∧ Ext w w' := by
  refine ret_of_run (e := [(0, _), (1, _)]) Try.func15 rfl Try.ntmps15 rfl rfl ?_
  refine run_seq ?_
  refine run_reg rfl ?_
  refine rVal rfl rfl (yas rfl) ?_
  refine rVal rfl rfl (yas rfl) ?_
  refine rEnd ?_
  refine run_seq ?_
  refine run_seq ?_
  refine run_reg rfl ?_
  refine rVal rfl rfl (ymv rfl) ?_
  refine rVal rfl rfl (ylnS Try.underlying9 rfl) ?_
  refine rVal rfl rfl (ygt rfl rfl) ?_
  refine rEnd ?_
  refine run_if rfl (fun hlt => ?_) (fun hlt => ?_)
  · skip
    exfalso; omega
  · skip
    refine run_skip ?_
    refine run_seq ?_
    refine run_reg rfl ?_
    refine rVal rfl rfl (ymv rfl) ?_
    refine rVal rfl rfl (ymv rfl) ?_
    refine rCall rfl rfl (yc (args := [.tmp 9, .tmp 10]) cf54 rfl) (laid_ret k p _ hl) ?_
    rintro _ w1 ⟨rfl, hx1⟩
    refine rVal rfl rfl (yas rfl) ?_
    refine rVal rfl rfl (yas rfl) ?_
    refine rEnd ?_
    refine run_ret Try.func15 rfl ?_
    exact ⟨_, rfl, rfl, hx1⟩
theorem rframe_bad (k : UInt8) (p : List UInt8) (w : World) (hl : 16777216 < p.length) :
    Ret Try.prog 15 [u8v k, S p] w fun v w' => v = .tuple #[S [], I 1] ∧ Ext w w' := by
  refine ret_of_run (e := [(0, _), (1, _)]) Try.func15 rfl Try.ntmps15 rfl rfl ?_
  refine run_seq ?_
  refine run_reg rfl ?_
  refine rVal rfl rfl (yas rfl) ?_
  refine rVal rfl rfl (yas rfl) ?_
  refine rEnd ?_
  refine run_seq ?_
  refine run_seq ?_
  refine run_reg rfl ?_
  refine rVal rfl rfl (ymv rfl) ?_
  refine rVal rfl rfl (ylnS Try.underlying9 rfl) ?_
  refine rVal rfl rfl (ygt rfl rfl) ?_
  refine rEnd ?_
  refine run_if rfl (fun hlt => ?_) (fun hlt => ?_)
  · skip
    refine run_seq ?_
    refine run_reg rfl ?_
    refine rVal rfl rfl (yas rfl) ?_
    refine rVal rfl rfl (yas rfl) ?_
    refine rEnd ?_
    refine run_ret Try.func15 rfl ?_
    exact ⟨_, rfl, rfl, Ext.refl w⟩
  · skip
    exfalso; omega
theorem frame_bad (k : UInt8) (p : List UInt8) (w : World) (hl : 16777216 < p.length) :
    Ret Try.prog 12 [u8v k, S p] w fun v w' => v = .tuple #[S [], I 1] ∧ Ext w w' := by
  refine ret_of_run (e := [(0, _), (1, _)]) Try.func12 rfl Try.ntmps12 rfl rfl ?_
  refine run_seq ?_
  refine run_reg rfl ?_
  refine rVal rfl rfl (yas rfl) ?_
  refine rVal rfl rfl (yas rfl) ?_
  refine rEnd ?_
  refine run_seq ?_
  refine run_seq ?_
  refine run_reg rfl ?_
  refine rVal rfl rfl (ymv rfl) ?_
  refine rVal rfl rfl (ylnS Try.underlying9 rfl) ?_
  refine rVal rfl rfl (ygt rfl rfl) ?_
  refine rEnd ?_
  refine run_if rfl (fun hlt => ?_) (fun hlt => ?_)
  · skip
    refine run_seq ?_
    refine run_reg rfl ?_
    refine rVal rfl rfl (yas rfl) ?_
    refine rVal rfl rfl (yas rfl) ?_
    refine rEnd ?_
    refine run_ret Try.func12 rfl ?_
    exact ⟨_, rfl, rfl, Ext.refl w⟩
  · skip
    exfalso; omega

theorem runframe_ret (l : List UInt8) (w : World) (hl : l.length ≤ 9223372036854775807) :
    Ret Try.prog 16 [S l] w fun v w' => v = unfV (Sums.unframe l) ∧ Ext w w' := by
  refine ret_of_run (e := [(0, _)]) Try.func16 rfl Try.ntmps16 rfl rfl ?_
  refine run_seq ?_
  refine run_reg rfl ?_
  refine rVal rfl rfl (yas rfl) ?_
  refine rVal rfl rfl (yas rfl) ?_
  refine rVal rfl rfl (yas rfl) ?_
  refine rVal rfl rfl (yas rfl) ?_
  refine rEnd ?_
  refine run_seq ?_
  refine run_seq ?_
  refine run_reg rfl ?_
  refine rVal rfl rfl (ymv rfl) ?_
  refine rVal rfl rfl (ylnS Try.underlying9 rfl) ?_
  refine rVal rfl rfl (ylt rfl rfl) ?_
  refine rEnd ?_
  refine run_if rfl (fun h9 => ?_) (fun h9 => ?_)
  · skip
    refine run_seq ?_
    refine run_reg rfl ?_
    refine rVal rfl rfl (yas rfl) ?_
    refine rVal rfl rfl (yas rfl) ?_
    refine rVal rfl rfl (yas rfl) ?_
    refine rVal rfl rfl (yas rfl) ?_
    refine rEnd ?_
    refine run_ret Try.func16 rfl ?_
    refine ⟨_, rfl, ?_, Ext.refl w⟩
    have : Sums.unframe l = none := by unfold Sums.unframe; rw [if_pos (by omega)]
    rw [this]
    rfl
  · skip
    refine run_skip ?_
    refine run_seq ?_
    refine run_reg rfl ?_
    refine rVal rfl rfl (ymv rfl) ?_
    refine rVal rfl rfl (yslSf Try.underlying9 rfl rfl (by omega)) ?_
    refine rCall rfl rfl (yc (args := [.tmp 12]) cf55 rfl) (rnumber_ret (l.drop 1) _ (by simp; omega)) ?_
    rintro _ w1 ⟨rfl, hx1⟩
    have hnum : Sums.num (l.drop 1) < 4294967296 := Sums.num_lt _
    have hnum5 : Sums.num (l.drop 5) < 4294967296 := Sums.num_lt _
    refine rVal rfl rfl (yas rfl) ?_
    refine rEnd ?_
    refine run_seq ?_
    refine run_seq ?_
    refine run_reg rfl ?_
    refine rVal rfl rfl (ymv rfl) ?_
    refine rVal rfl rfl (ygt rfl rfl) ?_
    refine rVal_if (fun hmax => ?_) (fun hmax => ?_)
    · skip
      refine rVal rfl rfl (ymv rfl) ?_
      refine rSkip rfl rfl ?_
      refine rSkip rfl rfl ?_
      refine rSkip rfl rfl ?_
      refine rSkip rfl rfl ?_
      refine rSkip rfl rfl ?_
      refine rSkip rfl rfl ?_
      refine rVal rfl rfl (ypT rfl rfl) ?_
      refine rEnd ?_
      refine run_true rfl ?_
      refine run_seq ?_
      refine run_reg rfl ?_
      refine rVal rfl rfl (yas rfl) ?_
      refine rVal rfl rfl (yas rfl) ?_
      refine rVal rfl rfl (yas rfl) ?_
      refine rVal rfl rfl (yas rfl) ?_
      refine rEnd ?_
      refine run_ret Try.func16 rfl ?_
      refine ⟨_, rfl, ?_, hx1⟩
      have : Sums.unframe l = none := by unfold Sums.unframe; rw [if_neg (by omega), if_pos (by omega)]
      rw [this]
      rfl
    · skip
      refine rVal rfl rfl (ymv rfl) ?_
      refine rVal rfl rfl (ymv rfl) ?_
      refine rVal rfl rfl (ycvSi64 rfl Try.underlying33 Try.underlying3 (by omega)) ?_
      refine rVal rfl rfl (ymv rfl) ?_
      refine rVal rfl rfl (ylnS Try.underlying9 rfl) ?_
      refine rVal rfl rfl (ysb rfl rfl (by omega)) ?_
      refine rVal rfl rfl (ygt rfl rfl) ?_
      refine rVal rfl rfl (ypF rfl rfl) ?_
      refine rEnd ?_
      refine run_if rfl (fun hn => ?_) (fun hn => ?_)
      · skip
        refine run_seq ?_
        refine run_reg rfl ?_
        refine rVal rfl rfl (yas rfl) ?_
        refine rVal rfl rfl (yas rfl) ?_
        refine rVal rfl rfl (yas rfl) ?_
        refine rVal rfl rfl (yas rfl) ?_
        refine rEnd ?_
        refine run_ret Try.func16 rfl ?_
        refine ⟨_, rfl, ?_, hx1⟩
        have : Sums.unframe l = none := by unfold Sums.unframe; rw [if_neg (by omega), if_pos (by omega)]
        rw [this]
        rfl
      · skip
        have hn9 : 9 + Sums.num (l.drop 1) ≤ l.length := by omega
        have hsub : 9 + Sums.num (l.drop 1) - 9 = Sums.num (l.drop 1) := by omega
        refine run_skip ?_
        refine run_seq ?_
        refine run_reg rfl ?_
        refine rVal rfl rfl (ymv rfl) ?_
        refine rVal rfl rfl (ymv rfl) ?_
        refine rVal rfl rfl (ycvSi64 rfl Try.underlying33 Try.underlying3 (by omega)) ?_
        refine rVal rfl rfl (yad rfl rfl (by omega)) ?_
        refine rVal rfl rfl (yslS Try.underlying9 rfl rfl rfl (by omega)) ?_
        refine rVal rfl rfl (yas rfl) ?_
        refine rEnd ?_
        refine Run.sub (e := [(0, _), (2, _), (3, _), (4, _), (5, _), (6, _), (7, _)]) ?_ (by repeat (first | exact Sub.nil | refine Sub.cons rfl ?_))
        refine run_seq ?_
        refine run_seq ?_
        rw [hsub]
        refine run_draw (fun w' => Ext w w') (by kernel_rfl) rfl ?_
        refine hTake (i := 0) rfl (by kernel_rfl) rfl rfl (fun _ hS => ymv rfl) (hx1.drew) ?_
        refine hTake (i := 1) rfl (by kernel_rfl) rfl rfl (fun _ hS => yslSt Try.underlying9 rfl rfl (by omega)) (hx1.drew) ?_
        refine hTake (i := 2) rfl (by kernel_rfl) rfl rfl (fun _ hS => ymv rfl) (hx1.drew) ?_
        refine hTake (i := 3) rfl (by kernel_rfl) rfl rfl (fun _ hS => ycatS rfl rfl (by first | omega | (simp; done) | (simp; omega))) (hx1.drew) ?_
        refine hTake (i := 5) rfl (by kernel_rfl) rfl rfl (fun _ hS => ymv rfl) (hx1.drew) ?_
        refine hTake (i := 6) rfl (by kernel_rfl) rfl rfl (fun _ hS => yslSf Try.underlying9 rfl rfl (by omega)) (hx1.drew) ?_
        refine hOne (i := 4) (by kernel_rfl) ?_
        refine nCall (i := 4) rfl rfl rfl (yc (args := [.tmp 32]) cf18 rfl) (rcrc_ret (l.take 5 ++ (l.drop 9).take (Sums.num (l.drop 1))) _ (by simp; omega)) ?_
        rintro _ w3 ⟨rfl, hx3⟩
        refine ⟨hx1.drew.trans hx3, ?_⟩
        refine hOne (i := 7) (by kernel_rfl) ?_
        refine nCall (i := 7) rfl rfl rfl (yc (args := [.tmp 35]) cf55 rfl) (rnumber_ret (l.drop 5) _ (by simp; omega)) ?_
        rintro _ w5 ⟨rfl, hx5⟩
        refine ⟨(hx1.drew.trans hx3).trans hx5, ?_⟩
        refine hTake (i := 8) rfl (by kernel_rfl) rfl rfl (fun _ hS => yne rfl rfl) ((hx1.drew.trans hx3).trans hx5) ?_
        refine hEnd (by kernel_rfl) ?_
        have hx := (hx1.drew.trans hx3).trans hx5
        refine run_if rfl (fun hne => ?_) (fun hne => ?_)
        · skip
          refine run_seq ?_
          refine run_reg rfl ?_
          refine rVal rfl rfl (yas rfl) ?_
          refine rVal rfl rfl (yas rfl) ?_
          refine rVal rfl rfl (yas rfl) ?_
          refine rVal rfl rfl (yas rfl) ?_
          refine rEnd ?_
          refine run_ret Try.func16 rfl ?_
          refine ⟨_, rfl, ?_, hx⟩
          have : Sums.unframe l = none := by unfold Sums.unframe; rw [if_neg (by omega), if_neg (by omega), if_pos (by rw [Sums.on_crc]; omega)]
          rw [this]
          rfl
        · skip
          refine run_skip ?_
          refine run_seq ?_
          refine run_draw (fun _ => True) (by kernel_rfl) rfl ?_
          refine hTake (i := 0) rfl (by kernel_rfl) rfl rfl (fun _ hS => ymv rfl) (trivial) ?_
          refine hTake (i := 1) rfl (by kernel_rfl) rfl rfl (fun _ hS => yixS Try.underlying9 rfl rfl (by omega)) (trivial) ?_
          refine hTake (i := 2) rfl (by kernel_rfl) rfl rfl (fun _ hS => ymv rfl) (trivial) ?_
          refine hTake (i := 3) rfl (by kernel_rfl) rfl rfl (fun _ hS => ymv rfl) (trivial) ?_
          refine hTake (i := 4) rfl (by kernel_rfl) rfl rfl (fun _ hS => ymv rfl) (trivial) ?_
          refine hTake (i := 5) rfl (by kernel_rfl) rfl rfl (fun _ hS => ycvSi64 rfl Try.underlying33 Try.underlying3 (by omega)) (trivial) ?_
          refine hTake (i := 6) rfl (by kernel_rfl) rfl rfl (fun _ hS => yad rfl rfl (by omega)) (trivial) ?_
          refine hTake (i := 7) rfl (by kernel_rfl) rfl rfl (fun _ hS => yslSf Try.underlying9 rfl rfl (by omega)) (trivial) ?_
          refine hTake (i := 8) rfl (by kernel_rfl) rfl rfl (fun _ hS => yas rfl) (trivial) ?_
          refine hTake (i := 9) rfl (by kernel_rfl) rfl rfl (fun _ hS => yas rfl) (trivial) ?_
          refine hTake (i := 10) rfl (by kernel_rfl) rfl rfl (fun _ hS => yas rfl) (trivial) ?_
          refine hTake (i := 11) rfl (by kernel_rfl) rfl rfl (fun _ hS => yas rfl) (trivial) ?_
          refine hEnd (by kernel_rfl) ?_
          refine run_ret Try.func16 rfl ?_
          refine ⟨_, rfl, ?_, hx.drew⟩
          have : Sums.unframe l = some (l.getD 0 0, (l.drop 9).take (Sums.num (l.drop 1)), l.drop (9 + Sums.num (l.drop 1))) := by unfold Sums.unframe; rw [if_neg (by omega), if_neg (by omega), if_neg (by rw [Sums.on_crc]; omega)]
          rw [this]
          rfl
end Go.Proofs.Ytdapkfppcaaohaa
