/- The walks of package sums: numbers in bytes, checksums. -/
import Derived.Test.YtdapkfppcaaohaaTypes
import Derived.Test.YtdapkfppcaaohaaSumsP
namespace Go.Proofs.Ytdapkfppcaaohaa
open Go Go.RowKit
set_option linter.unusedVariables false

abbrev U (n : Nat) : Value := .int .u32 (n : Int)

theorem or3 (a b c d : Nat) (ha : a < 256) (hb : b < 256) (hc : c < 256) (hd : d < 256) :
    a * 16777216 ||| b * 65536 = a * 16777216 + b * 65536 ∧ a * 16777216 ||| b * 65536 ||| c * 256 = a * 16777216 + b * 65536 + c * 256 ∧ a * 16777216 ||| b * 65536 ||| c * 256 ||| d = a * 16777216 + b * 65536 + c * 256 + d := by
  have h1 : a * 16777216 ||| b * 65536 = a * 16777216 + b * 65536 := nat_join 24 _ _ (by omega) (by omega)
  have h2 : a * 16777216 ||| b * 65536 ||| c * 256 = a * 16777216 + b * 65536 + c * 256 := by rw [h1]; exact nat_join 16 _ _ (by omega) (by omega)
  refine ⟨h1, h2, ?_⟩
  rw [h2]
  exact nat_join 8 _ _ (by omega) (by omega)

theorem number_ret (l : List UInt8) (w : World) (h : 4 ≤ l.length) :
    Ret Try.prog 53 [S l] w fun v w' => v = I (Sums.num l : Int) ∧ Ext w w' := by
  have h0 := (l.getD 0 0).toNat_lt
  have h1 := (l.getD 1 0).toNat_lt
  have h2 := (l.getD 2 0).toNat_lt
  have h3 := (l.getD 3 0).toNat_lt
  obtain ⟨e1, e2, e3⟩ := or3 _ _ _ _ h0 h1 h2 h3
  refine ret_of_run (e := [(0, _)]) Try.func53 rfl Try.ntmps53 rfl rfl ?_
  refine run_seq ?_
  refine run_reg rfl ?_
  refine rVal rfl rfl (yas rfl) ?_
  refine rEnd ?_
  refine run_seq ?_
  refine run_draw (fun _ => True) (by kernel_rfl) rfl ?_
  refine hTake (i := 0) rfl (by kernel_rfl) rfl rfl (fun _ hS => ymv rfl) (trivial) ?_
  refine hTake (i := 1) rfl (by kernel_rfl) rfl rfl (fun _ hS => yixS Try.underlying9 rfl rfl (by omega)) (trivial) ?_
  refine hTake (i := 2) rfl (by kernel_rfl) rfl rfl (fun _ hS => (by first | exact ycvB rfl Try.underlying5 Try.underlying3 (by decide) | exact ycvSi64 rfl Try.underlying5 Try.underlying3 (by omega))) (trivial) ?_
  refine hTake (i := 3) rfl (by kernel_rfl) rfl rfl (fun _ hS => ysl 24 16777216 rfl rfl (by decide) rfl (by omega)) (trivial) ?_
  refine hTake (i := 4) rfl (by kernel_rfl) rfl rfl (fun _ hS => ymv rfl) (trivial) ?_
  refine hTake (i := 5) rfl (by kernel_rfl) rfl rfl (fun _ hS => yixS Try.underlying9 rfl rfl (by omega)) (trivial) ?_
  refine hTake (i := 6) rfl (by kernel_rfl) rfl rfl (fun _ hS => (by first | exact ycvB rfl Try.underlying5 Try.underlying3 (by decide) | exact ycvSi64 rfl Try.underlying5 Try.underlying3 (by omega))) (trivial) ?_
  refine hTake (i := 7) rfl (by kernel_rfl) rfl rfl (fun _ hS => ysl 16 65536 rfl rfl (by decide) rfl (by omega)) (trivial) ?_
  refine hTake (i := 8) rfl (by kernel_rfl) rfl rfl (fun _ hS => yor64 rfl rfl (by omega) (by omega)) (trivial) ?_
  refine hTake (i := 9) rfl (by kernel_rfl) rfl rfl (fun _ hS => ymv rfl) (trivial) ?_
  refine hTake (i := 10) rfl (by kernel_rfl) rfl rfl (fun _ hS => yixS Try.underlying9 rfl rfl (by omega)) (trivial) ?_
  refine hTake (i := 11) rfl (by kernel_rfl) rfl rfl (fun _ hS => (by first | exact ycvB rfl Try.underlying5 Try.underlying3 (by decide) | exact ycvSi64 rfl Try.underlying5 Try.underlying3 (by omega))) (trivial) ?_
  refine hTake (i := 12) rfl (by kernel_rfl) rfl rfl (fun _ hS => ysl 8 256 rfl rfl (by decide) rfl (by omega)) (trivial) ?_
  refine hTake (i := 13) rfl (by kernel_rfl) rfl rfl (fun _ hS => yor64 rfl rfl (by omega) (by omega)) (trivial) ?_
  refine hTake (i := 14) rfl (by kernel_rfl) rfl rfl (fun _ hS => ymv rfl) (trivial) ?_
  refine hTake (i := 15) rfl (by kernel_rfl) rfl rfl (fun _ hS => yixS Try.underlying9 rfl rfl (by omega)) (trivial) ?_
  refine hTake (i := 16) rfl (by kernel_rfl) rfl rfl (fun _ hS => (by first | exact ycvB rfl Try.underlying5 Try.underlying3 (by decide) | exact ycvSi64 rfl Try.underlying5 Try.underlying3 (by omega))) (trivial) ?_
  refine hTake (i := 17) rfl (by kernel_rfl) rfl rfl (fun _ hS => yor64 rfl rfl (by omega) (by omega)) (trivial) ?_
  refine hTake (i := 18) rfl (by kernel_rfl) rfl rfl (fun _ hS => yas rfl) (trivial) ?_
  refine hEnd (by kernel_rfl) ?_
  refine run_ret Try.func53 rfl ?_
  refine ⟨_, rfl, ?_, Ext.drew0 w⟩
  show I _ = I _
  rw [e3]
  rfl

theorem four_ret (n : Nat) (w : World) (h : n < 4294967296) :
    Ret Try.prog 52 [U n] w fun v w' => v = S (Sums.be4 n) ∧ Ext w w' := by
  refine ret_of_run (e := [(0, _)]) Try.func52 rfl Try.ntmps52 rfl rfl ?_
  refine run_seq ?_
  refine run_reg rfl ?_
  refine rVal rfl rfl (yas rfl) ?_
  refine rEnd ?_
  refine run_seq ?_
  refine run_reg rfl ?_
  refine rVal rfl rfl (ymv rfl) ?_
  refine rVal rfl rfl (ysrN 24 16777216 rfl rfl (by decide) rfl) ?_
  refine rVal rfl rfl (ycv8 rfl Try.underlying33 Try.underlying5) ?_
  refine rVal rfl rfl (ymv rfl) ?_
  refine rVal rfl rfl (ysrN 16 65536 rfl rfl (by decide) rfl) ?_
  refine rVal rfl rfl (ycv8 rfl Try.underlying33 Try.underlying5) ?_
  refine rVal rfl rfl (ymv rfl) ?_
  refine rVal rfl rfl (ysrN 8 256 rfl rfl (by decide) rfl) ?_
  refine rVal rfl rfl (ycv8 rfl Try.underlying33 Try.underlying5) ?_
  refine rVal rfl rfl (ymv rfl) ?_
  refine rVal rfl rfl (ycv8 rfl Try.underlying33 Try.underlying5) ?_
  refine rVal rfl rfl (ybdA (parts := [(0, .tmp 6), (1, .tmp 9), (2, .tmp 12), (3, .tmp 14)]) (cs := [_, _, _, _]) ti120 rfl Try.underlying120 ti5 rfl rfl) ?_
  refine rValP rfl rfl (pal (cs := [_, _, _, _]) ti120 rfl) ?_
  rintro _ w1 ⟨b1, rfl, hn1⟩
  refine rEffP rfl (zstA ti120 rfl rfl rfl rfl hn1.2.2 (by simp)) ?_
  rintro w2 ⟨hB2, hk2⟩
  refine rEnd ?_
  refine run_seq ?_
  refine run_reg rfl ?_
  refine rVal rfl rfl (yslArr Try.underlying120 ti5 rfl) ?_
  refine rVal rfl rfl (yB2S (l := Sums.be4 n) Try.underlying30 Try.underlying5 Try.underlying9 rfl hB2 (by simp [u8v, Sums.be4, splice]) rfl) ?_
  refine rVal rfl rfl (yas rfl) ?_
  refine rEnd ?_
  refine run_ret Try.func52 rfl ?_
  exact ⟨_, rfl, rfl, hn1.2.1.trans_new hk2 (fun _ hi => by rw [hi, hn1.1]; exact Nat.le_refl _)⟩

/-- What a byte makes of the checksum that the closure holds. -/
theorem take_ret (c : Nat) (b : UInt8) (p : Nat) (T : TypeId) (w : World) (hB : Blk w p [U c] T) (hc : c < 4294967296) :
    Ret Try.prog 56 [u8v b, ptr p 0] w fun v w' => v = .tuple #[] ∧ Blk w' p [U (Sums.byte c b)] T ∧ Kp (fun k => k = p) w w' := by
  have hb := b.toNat_lt
  have hx := Sums.xor_lt32 hc (show b.toNat < 4294967296 by omega)
  refine ret_of_run (e := [(0, _), (1, _)]) Try.func56 rfl Try.ntmps56 rfl rfl ?_
  refine run_seq ?_
  refine run_reg rfl ?_
  refine rVal rfl rfl (yld Try.underlying33 rfl rfl hB rfl) ?_
  refine rVal rfl rfl (ymv rfl) ?_
  refine rVal rfl rfl ((by first | exact ycvB rfl Try.underlying5 Try.underlying33 (by decide) | exact ycvSu32 rfl Try.underlying5 Try.underlying33 (by omega))) ?_
  refine rVal rfl rfl (yxo32 rfl rfl (by omega) (by omega)) ?_
  refine rEffP rfl (zst ti33 rfl rfl rfl hB (by simp)) ?_
  rintro w1 ⟨hB1, hk1⟩
  refine rEnd ?_
  refine run_seq ?_
  refine run_reg rfl ?_
  refine rVal rfl rfl (ymv rfl) ?_
  refine rEnd ?_
  refine run_block ?_
  refine run_loop (α := Nat × Nat) ((0, c ^^^ b.toNat)) (fun x => [(0, u8v b), (1, ptr p 0), (7, I (x.1 : Int))]) (fun x w' => x.1 ≤ 8 ∧ x.2 < 4294967296 ∧ Sums.iter Sums.bit (8 - x.1) x.2 = Sums.byte c b ∧ Blk w' p [U x.2] T ∧ Kp (fun k => k = p) w w') (fun x => 8 - x.1) (by repeat (first | exact Sub.nil | refine Sub.cons rfl ?_)) ?hI ?hround
  case hI => exact ⟨by omega, hx, rfl, hB1, hk1⟩
  case hround =>
    rintro ⟨k, d⟩ w2 ⟨hk8, hd, hs, hB2, hk2⟩ ih
    dsimp only
    refine run_seq ?_
    refine run_reg rfl ?_
    refine rVal rfl rfl (ylt rfl rfl) ?_
    refine rEnd ?_
    refine run_seq ?_
    refine run_if rfl (fun hlt => ?_) (fun hlt => ?_)
    · skip
      have hand : d &&& 1 < 4294967296 := Nat.lt_of_le_of_lt Nat.and_le_right (by omega)
      have hneg : (4294967296 - (d &&& 1)) % 4294967296 < 4294967296 := Nat.mod_lt _ (by omega)
      have hand2 : 2197175160 &&& ((4294967296 - (d &&& 1)) % 4294967296) < 4294967296 := Nat.lt_of_le_of_lt Nat.and_le_left (by omega)
      refine run_skip ?_
      refine run_seq ?_
      refine run_block ?_
      refine run_reg rfl ?_
      refine rVal rfl rfl (yld Try.underlying33 rfl rfl hB2 rfl) ?_
      refine rVal rfl rfl (ysrN 1 2 rfl rfl (by decide) rfl) ?_
      refine rVal rfl rfl (yld Try.underlying33 rfl rfl hB2 rfl) ?_
      refine rVal rfl rfl (yan32 rfl rfl (by omega) (by omega)) ?_
      refine rVal rfl rfl (yng32 rfl (by omega)) ?_
      refine rVal rfl rfl (yan32 rfl rfl (by omega) (by omega)) ?_
      refine rVal rfl rfl (yxo32 rfl rfl (by omega) (by omega)) ?_
      refine rEffP rfl (zst ti33 rfl rfl rfl hB2 (by simp)) ?_
      rintro w3 ⟨hB3, hk3⟩
      refine rEnd ?_
      refine run_inBlock ?_
      refine run_reg rfl ?_
      refine rVal rfl rfl (yad rfl rfl (by omega)) ?_
      refine rVal rfl rfl (ymv rfl) ?_
      refine rEnd ?_
      simp only [List.set_cons_zero] at hB3
      rw [Sums.bit_walk] at hB3
      refine (ih (k + 1, Sums.bit d) w3 ⟨by dsimp only at *; omega, Sums.bit_lt hd, ?_, hB3, hk2.trans hk3⟩ (by dsimp only at *; omega)).sub (by repeat (first | exact Sub.nil | refine Sub.cons rfl ?_))
      have h8 : 8 - k = (8 - (k + 1)) + 1 := by dsimp only at *; omega
      dsimp only at hs ⊢
      rw [h8] at hs
      exact hs
    · skip
      refine run_exit rfl ?_
      refine run_end Try.func56 rfl ?_
      have hk : k = 8 := by dsimp only at *; omega
      subst hk
      refine ⟨_, rfl, rfl, ?_, hk2⟩
      have : d = Sums.byte c b := hs
      rw [← this]
      exact hB2

theorem get_u8 {l : List UInt8} {rest : List Value} {k : Nat} (h : k < l.length) : (l.map u8v ++ rest)[0 + k * 1]? = some (u8v (l.getD k 0)) := by
  rw [Nat.zero_add, Nat.mul_one, List.getElem?_append_left (by simpa using h)]
  simp [h, List.getD]

theorem raw_take_succ (c : Nat) (l : List UInt8) (k : Nat) (h : k < l.length) : Sums.raw c (l.take (k + 1)) = Sums.byte (Sums.raw c (l.take k)) (l.getD k 0) := by
  rw [List.take_succ_eq_append_getElem h, Sums.raw_append]
  simp [Sums.raw, List.getD, h]

theorem on_ret (c : Nat) (l : List UInt8) (w : World) (hc : c < 4294967296) (hl : l.length ≤ 9223372036854775807) :
    Ret Try.prog 19 [U c, S l] w fun v w' => v = U (Sums.on c l) ∧ Ext w w' := by
  refine ret_of_run (e := [(0, _), (1, _)]) Try.func19 rfl Try.ntmps19 rfl rfl ?_
  refine run_seq ?_
  refine run_reg rfl ?_
  refine rValP rfl rfl (pbx rfl rfl) ?_
  rintro _ w1 ⟨b1, rfl, hb1, hx1, hB1⟩
  refine rVal rfl rfl (yas rfl) ?_
  refine rEnd ?_
  refine run_seq ?_
  refine run_reg rfl ?_
  refine rVal rfl rfl (yld Try.underlying33 rfl rfl hB1 rfl) ?_
  refine rVal rfl rfl (yco32 rfl (by omega)) ?_
  refine rEffP rfl (zst ti33 rfl rfl rfl hB1 (by simp)) ?_
  rintro w2 ⟨hB2, hk2⟩
  simp only [List.set_cons_zero] at hB2
  have hx2 : Ext w w2 := hx1.trans_new hk2 (fun i hi => by rw [hi, hb1]; exact Nat.le_refl _)
  refine rEnd ?_
  refine run_seq ?_
  refine run_reg rfl ?_
  refine rVal rfl rfl (ymf (first := []) (caps := [.tmp 2]) rfl rfl) ?_
  refine rVal rfl rfl (yas rfl) ?_
  refine rEnd ?_
  refine run_seq ?_
  refine run_seq ?_
  refine run_reg rfl ?_
  refine rVal rfl rfl (ymv rfl) ?_
  refine rValP rfl rfl (pS2B Try.underlying9 Try.underlying30 Try.underlying5 rfl) ?_
  rintro _ w3 ⟨b3, cap, rest, rfl, ⟨hb3, hx3, hB3⟩, hcap⟩
  refine rVal rfl rfl (yln Try.underlying30 rfl) ?_
  refine rVal rfl rfl (ymv rfl) ?_
  refine rEnd ?_
  refine run_block ?_
  have hne : b3 ≠ b1 := by have := hB2.lt; omega
  refine run_loop (α := Nat × Nat) ((0, Sums.neg c)) (fun x => [(2, ptr b1 0), (5, .func (.func 56) #[] #[ptr b1 0]), (12, .slice (some ⟨b3, 0, none⟩) l.length cap), (13, I (l.length : Int)), (14, I (x.1 : Int))]) (fun x w' => x.1 ≤ l.length ∧ x.2 < 4294967296 ∧ x.2 = Sums.raw (Sums.neg c) (l.take x.1) ∧ Blk w' b1 [U x.2] 33 ∧ Blk w' b3 (l.map u8v ++ rest) 5 ∧ Ext w w') (fun x => l.length - x.1) (by repeat (first | exact Sub.nil | refine Sub.cons rfl ?_)) ?hI ?hround
  case hI => exact ⟨by simp, Sums.neg_lt hc, rfl, hx3.blk hB2, hB3, hx2.trans hx3⟩
  case hround =>
    rintro ⟨k, d⟩ w4 ⟨hk, hd, hs, hB4, hB5, hx4⟩ ih
    dsimp only at hk hd hs hB4
    dsimp only
    refine run_seq ?_
    refine run_reg rfl ?_
    refine rVal rfl rfl (ylt rfl rfl) ?_
    refine rEnd ?_
    refine run_seq ?_
    refine run_if rfl (fun hlt => ?_) (fun hlt => ?_)
    · skip
      have hkl : k < l.length := by omega
      refine run_skip ?_
      refine run_seq ?_
      refine run_block ?_
      refine run_seq ?_
      refine run_reg rfl ?_
      refine rVal rfl rfl (yis Try.underlying30 ti5 rfl rfl (by omega)) ?_
      refine rVal rfl rfl (yld Try.underlying5 rfl rfl hB5 (get_u8 hkl)) ?_
      refine rVal rfl rfl (yas rfl) ?_
      refine rEnd ?_
      refine run_reg rfl ?_
      refine rVal rfl rfl (ymv rfl) ?_
      refine rVal rfl rfl (ymv rfl) ?_
      refine rCall rfl rfl (ycv' (args := [.tmp 19]) cf56 rfl rfl) (take_ret d (l.getD k 0) b1 _ w4 hB4 hd) ?_
      rintro _ w5 ⟨rfl, hB6, hk6⟩
      refine rEnd ?_
      refine run_inBlock ?_
      refine run_reg rfl ?_
      refine rVal rfl rfl (yad rfl rfl (by omega)) ?_
      refine rVal rfl rfl (ymv rfl) ?_
      refine rEnd ?_
      refine (ih (k + 1, Sums.byte d (l.getD k 0)) w5 ⟨hkl, Sums.byte_lt hd _, ?_, hB6, hk6.blk hB5 hne, hx4.trans_new hk6 (fun i hi => by rw [hi, hb1]; exact Nat.le_refl _)⟩ (by dsimp only; omega)).sub (by repeat (first | exact Sub.nil | refine Sub.cons rfl ?_))
      rw [raw_take_succ _ _ _ hkl, ← hs]
    · skip
      refine run_exit rfl ?_
      refine run_seq ?_
      refine run_reg rfl ?_
      refine rVal rfl rfl (yld Try.underlying33 rfl rfl hB4 rfl) ?_
      refine rVal rfl rfl (yco32 rfl (by omega)) ?_
      refine rVal rfl rfl (yas rfl) ?_
      refine rEnd ?_
      refine run_ret Try.func19 rfl ?_
      refine ⟨_, rfl, ?_, hx4⟩
      have hkk : k = l.length := by omega
      subst hkk
      rw [List.take_length] at hs
      show U (Sums.neg d) = _
      rw [hs]
      rfl

theorem crc_ret (l : List UInt8) (w : World) (hl : l.length ≤ 9223372036854775807) :
    Ret Try.prog 17 [S l] w fun v w' => v = U (Sums.crc l) ∧ Ext w w' := by
  refine ret_of_run (e := [(0, _)]) Try.func17 rfl Try.ntmps17 rfl rfl ?_
  refine run_seq ?_
  refine run_reg rfl ?_
  refine rVal rfl rfl (yas rfl) ?_
  refine rEnd ?_
  refine run_seq ?_
  refine run_reg rfl ?_
  refine rVal rfl rfl (ymv rfl) ?_
  refine rCall rfl rfl (yc (args := [.const (Value.int .u32 0), .tmp 3]) cf19 rfl) (on_ret 0 l _ (by omega) hl) ?_
  rintro _ w1 ⟨rfl, hx1⟩
  refine rVal rfl rfl (yas rfl) ?_
  refine rEnd ?_
  refine run_ret Try.func17 rfl ?_
  exact ⟨_, rfl, rfl, hx1⟩

theorem frame_ret (k : UInt8) (p : List UInt8) (w : World) (hl : p.length ≤ 16777216) :
    Ret Try.prog 12 [u8v k, S p] w fun v w' => v = .tuple #[S (Sums.frame k p), I 0] ∧ Ext w w' := by
  have hk := k.toNat_lt
  refine ret_of_run (e := [(0, _), (1, _)]) Try.func12 rfl Try.ntmps12 rfl rfl ?_
  refine run_seq ?_
  refine run_reg rfl ?_
  refine rVal rfl rfl (yas rfl) ?_
  refine rVal rfl rfl (yas rfl) ?_
  refine rEnd ?_
  refine run_seq ?_
  refine run_seq ?_
  refine run_reg rfl ?_
  refine rVal rfl rfl (ymv rfl) ?_
  refine rVal rfl rfl (ylnS Try.underlying9 rfl) ?_
  refine rVal rfl rfl (ygt rfl rfl) ?_
  refine rEnd ?_
  refine run_if rfl (fun hlt => ?_) (fun hlt => ?_)
  · skip
    exfalso; omega
  · skip
    refine run_skip ?_
    refine run_seq ?_
    refine run_cut (fun e' w' => e' = [(1, S p), (6, S (Sums.head k p))] ∧ Ext w w') ?hk (fun hk => ?hmain)
    case hk =>
      rintro _ w5 ⟨rfl, hx5⟩
      refine run_seq ?_
      refine run_reg rfl ?_
      refine rVal rfl rfl (ymv rfl) ?_
      refine rVal rfl rfl (ymv rfl) ?_
      refine rCall rfl rfl (yc (args := [.tmp 19]) cf17 rfl) (crc_ret (Sums.head k p) _ (by simp [Sums.head, Sums.be4])) ?_
      rintro _ w6 ⟨rfl, hx6⟩
      refine rVal rfl rfl (ymv rfl) ?_
      refine rCall rfl rfl (yc (args := [.tmp 20, .tmp 21]) cf19 rfl) (on_ret (Sums.crc (Sums.head k p)) p _ (Sums.crc_lt _) (by omega)) ?_
      rintro _ w7 ⟨rfl, hx7⟩
      refine rCall rfl rfl (yc (args := [.tmp 22]) cf52 rfl) (four_ret (Sums.on (Sums.crc (Sums.head k p)) p) _ (Sums.on_lt _ (Sums.crc_lt _))) ?_
      rintro _ w8 ⟨rfl, hx8⟩
      refine rVal rfl rfl (ycatS rfl rfl (by first | omega | (simp; done) | (simp; omega))) ?_
      refine rVal rfl rfl (ymv rfl) ?_
      refine rVal rfl rfl (ycatS rfl rfl (by first | omega | (simp; done) | (simp; omega))) ?_
      refine rVal rfl rfl (yas rfl) ?_
      refine rVal rfl rfl (yas rfl) ?_
      refine rEnd ?_
      refine run_ret Try.func12 rfl ?_
      refine ⟨_, rfl, ?_, ((hx5.trans hx6).trans hx7).trans hx8⟩
      rw [Sums.on_crc]
      rfl
    case hmain =>
      have hp : p.length % 4294967296 = p.length := Nat.mod_eq_of_lt (by omega)
      refine run_draw (fun w' => Ext w w') (by kernel_rfl) rfl ?_
      refine hTake (i := 0) rfl (by kernel_rfl) rfl rfl (fun _ hS => ymv rfl) (Ext.drew0 w) ?_
      refine hTake (i := 3) rfl (by kernel_rfl) rfl rfl (fun _ hS => ymv rfl) (Ext.drew0 w) ?_
      refine hTake (i := 4) rfl (by kernel_rfl) rfl rfl (fun _ hS => ylnS Try.underlying9 rfl) (Ext.drew0 w) ?_
      refine hTake (i := 5) rfl (by kernel_rfl) rfl rfl (fun _ hS => ycv32 rfl Try.underlying3 Try.underlying33) (Ext.drew0 w) ?_
      rw [hp]
      refine hTwo (i := 1) (j := 6) (by kernel_rfl) ?_ ?_
      · skip
        refine nValP (i := 1) rfl rfl rfl (pbs (parts := [(0, .tmp 10)]) (cs := [_]) (zs := [Value.int .u8 0]) Try.underlying30 ti5 rfl (by kernel_rfl) rfl rfl rfl (by decide)) ?_
        rintro _ w1 ⟨b1, rfl, ⟨hb1, hx1, hB1⟩, _⟩
        refine ⟨(Ext.drew0 w).trans hx1, ?_⟩
        refine hTwo (i := 2) (j := 6) (by kernel_rfl) ?_ ?_
        · skip
          refine nVal (i := 2) rfl rfl rfl (yB2S (l := [k]) Try.underlying30 Try.underlying5 Try.underlying9 rfl hB1 rfl rfl) ((Ext.drew0 w).trans hx1) ?_
          refine hOne (i := 6) (by kernel_rfl) ?_
          refine nCall (i := 6) rfl rfl rfl (yc (args := [.tmp 15]) cf52 rfl) (four_ret p.length _ (by omega)) ?_
          rintro _ w2 ⟨rfl, hx2⟩
          refine ⟨((Ext.drew0 w).trans hx1).trans hx2, ?_⟩
          refine hTake (i := 7) rfl (by kernel_rfl) rfl rfl (fun _ hS => ycatS rfl rfl (by first | omega | (simp; done) | (simp; omega))) (((Ext.drew0 w).trans hx1).trans hx2) ?_
          refine hTake (i := 8) rfl (by kernel_rfl) rfl rfl (fun _ hS => yas rfl) (((Ext.drew0 w).trans hx1).trans hx2) ?_
          refine hEnd (by kernel_rfl) ?_
          exact (hk _ _ ⟨rfl, ((Ext.drew0 w).trans hx1).trans hx2⟩).sub (by repeat (first | exact Sub.nil | refine Sub.cons rfl ?_))
        · skip
          refine nCall (i := 6) rfl rfl rfl (yc (args := [.tmp 15]) cf52 rfl) (four_ret p.length _ (by omega)) ?_
          rintro _ w2 ⟨rfl, hx2⟩
          refine ⟨((Ext.drew0 w).trans hx1).trans hx2, ?_⟩
          refine hOne (i := 2) (by kernel_rfl) ?_
          refine nVal (i := 2) rfl rfl rfl (yB2S (l := [k]) Try.underlying30 Try.underlying5 Try.underlying9 rfl (hx2.blk hB1) rfl rfl) (((Ext.drew0 w).trans hx1).trans hx2) ?_
          refine hTake (i := 7) rfl (by kernel_rfl) rfl rfl (fun _ hS => ycatS rfl rfl (by first | omega | (simp; done) | (simp; omega))) (((Ext.drew0 w).trans hx1).trans hx2) ?_
          refine hTake (i := 8) rfl (by kernel_rfl) rfl rfl (fun _ hS => yas rfl) (((Ext.drew0 w).trans hx1).trans hx2) ?_
          refine hEnd (by kernel_rfl) ?_
          exact (hk _ _ ⟨rfl, ((Ext.drew0 w).trans hx1).trans hx2⟩).sub (by repeat (first | exact Sub.nil | refine Sub.cons rfl ?_))
      · skip
        refine nCall (i := 6) rfl rfl rfl (yc (args := [.tmp 15]) cf52 rfl) (four_ret p.length _ (by omega)) ?_
        rintro _ w2 ⟨rfl, hx2⟩
        refine ⟨(Ext.drew0 w).trans hx2, ?_⟩
        refine hOne (i := 1) (by kernel_rfl) ?_
        refine nValP (i := 1) rfl rfl rfl (pbs (parts := [(0, .tmp 10)]) (cs := [_]) (zs := [Value.int .u8 0]) Try.underlying30 ti5 rfl (by kernel_rfl) rfl rfl rfl (by decide)) ?_
        rintro _ w1 ⟨b1, rfl, ⟨hb1, hx1, hB1⟩, _⟩
        refine ⟨((Ext.drew0 w).trans hx2).trans hx1, ?_⟩
        refine hOne (i := 2) (by kernel_rfl) ?_
        refine nVal (i := 2) rfl rfl rfl (yB2S (l := [k]) Try.underlying30 Try.underlying5 Try.underlying9 rfl hB1 rfl rfl) (((Ext.drew0 w).trans hx2).trans hx1) ?_
        refine hTake (i := 7) rfl (by kernel_rfl) rfl rfl (fun _ hS => ycatS rfl rfl (by first | omega | (simp; done) | (simp; omega))) (((Ext.drew0 w).trans hx2).trans hx1) ?_
        refine hTake (i := 8) rfl (by kernel_rfl) rfl rfl (fun _ hS => yas rfl) (((Ext.drew0 w).trans hx2).trans hx1) ?_
        refine hEnd (by kernel_rfl) ?_
        exact (hk _ _ ⟨rfl, ((Ext.drew0 w).trans hx2).trans hx1⟩).sub (by repeat (first | exact Sub.nil | refine Sub.cons rfl ?_))

def unfV : Option (UInt8 × List UInt8 × List UInt8) → Value
  | none => .tuple #[.int .u8 0, S [], S [], I 4]
  | some (k, p, r) => .tuple #[u8v k, S p, S r, I 0]

theorem unframe_ret (l : List UInt8) (w : World) (hl : l.length ≤ 9223372036854775807) :
    Ret Try.prog 13 [S l] w fun v w' => v = unfV (Sums.unframe l) ∧ Ext w w' := by
  refine ret_of_run (e := [(0, _)]) Try.func13 rfl Try.ntmps13 rfl rfl ?_
  refine run_seq ?_
  refine run_reg rfl ?_
  refine rVal rfl rfl (yas rfl) ?_
  refine rVal rfl rfl (yas rfl) ?_
  refine rVal rfl rfl (yas rfl) ?_
  refine rVal rfl rfl (yas rfl) ?_
  refine rEnd ?_
  refine run_seq ?_
  refine run_seq ?_
  refine run_reg rfl ?_
  refine rVal rfl rfl (ymv rfl) ?_
  refine rVal rfl rfl (ylnS Try.underlying9 rfl) ?_
  refine rVal rfl rfl (ylt rfl rfl) ?_
  refine rVal_if (fun h9 => ?_) (fun h9 => ?_)
  · skip
    refine rVal rfl rfl (ymv rfl) ?_
    refine rSkip rfl rfl ?_
    refine rSkip rfl rfl ?_
    refine rSkip rfl rfl ?_
    refine rSkip rfl rfl ?_
    refine rSkip rfl rfl ?_
    refine rSkip rfl rfl ?_
    refine rSkip rfl rfl ?_
    refine rSkip rfl rfl ?_
    refine rVal rfl rfl (ypT rfl rfl) ?_
    refine rEnd ?_
    refine run_true rfl ?_
    refine run_seq ?_
    refine run_reg rfl ?_
    refine rVal rfl rfl (yas rfl) ?_
    refine rVal rfl rfl (yas rfl) ?_
    refine rVal rfl rfl (yas rfl) ?_
    refine rVal rfl rfl (yas rfl) ?_
    refine rEnd ?_
    refine run_ret Try.func13 rfl ?_
    refine ⟨_, rfl, ?_, Ext.refl w⟩
    have : Sums.unframe l = none := by unfold Sums.unframe; rw [if_pos (by omega)]
    rw [this]
    rfl
  · skip
    refine rVal rfl rfl (ymv rfl) ?_
    refine rVal rfl rfl (ymv rfl) ?_
    refine rVal rfl rfl (yslSf Try.underlying9 rfl rfl (by omega)) ?_
    refine rCall rfl rfl (yc (args := [.tmp 12]) cf53 rfl) (number_ret (l.drop 1) _ (by simp; omega)) ?_
    rintro _ w1 ⟨rfl, hx1⟩
    refine rVal rfl rfl (ymv rfl) ?_
    refine rVal rfl rfl (ylnS Try.underlying9 rfl) ?_
    refine rVal rfl rfl (ysb rfl rfl (by omega)) ?_
    refine rVal rfl rfl (ymi rfl rfl) ?_
    refine rVal rfl rfl (ygt rfl rfl) ?_
    refine rVal rfl rfl (ypF rfl rfl) ?_
    refine rEnd ?_
    refine run_if rfl (fun hn => ?_) (fun hn => ?_)
    · skip
      refine run_seq ?_
      refine run_reg rfl ?_
      refine rVal rfl rfl (yas rfl) ?_
      refine rVal rfl rfl (yas rfl) ?_
      refine rVal rfl rfl (yas rfl) ?_
      refine rVal rfl rfl (yas rfl) ?_
      refine rEnd ?_
      refine run_ret Try.func13 rfl ?_
      refine ⟨_, rfl, ?_, hx1⟩
      have : Sums.unframe l = none := by unfold Sums.unframe; rw [if_neg (by omega), if_pos (by omega)]
      rw [this]
      rfl
    · skip
      refine run_skip ?_
      refine run_seq ?_
      refine run_reg rfl ?_
      refine rVal rfl rfl (ymv rfl) ?_
      refine rVal rfl rfl (yslSf Try.underlying9 rfl rfl (by omega)) ?_
      refine rCall rfl rfl (yc (args := [.tmp 21]) cf53 rfl) (number_ret (l.drop 1) _ (by simp; omega)) ?_
      rintro _ w2 ⟨rfl, hx2⟩
      refine rVal rfl rfl (yad rfl rfl (by omega)) ?_
      refine rVal rfl rfl (yas rfl) ?_
      refine rEnd ?_
      refine run_seq ?_
      refine run_reg rfl ?_
      refine rVal rfl rfl (ymv rfl) ?_
      refine rVal rfl rfl (ymv rfl) ?_
      refine rVal rfl rfl (yslS Try.underlying9 rfl rfl rfl (by omega)) ?_
      refine rVal rfl rfl (yas rfl) ?_
      refine rEnd ?_
      refine Run.sub (e := [(0, _), (2, _), (3, _), (4, _), (5, _), (6, _)]) ?_ (by repeat (first | exact Sub.nil | refine Sub.cons rfl ?_))
      refine run_seq ?_
      refine run_seq ?_
      have hn9 : 9 + Sums.num (l.drop 1) ≤ l.length := by omega
      have hsub : 9 + Sums.num (l.drop 1) - 9 = Sums.num (l.drop 1) := by omega
      refine run_draw (fun w' => Ext w w') (by kernel_rfl) rfl ?_
      refine hTake (i := 0) rfl (by kernel_rfl) rfl rfl (fun _ hS => ymv rfl) (((hx1.trans hx2).drew)) ?_
      refine hTake (i := 1) rfl (by kernel_rfl) rfl rfl (fun _ hS => yslSt Try.underlying9 rfl rfl (by omega)) (((hx1.trans hx2).drew)) ?_
      refine hTake (i := 3) rfl (by kernel_rfl) rfl rfl (fun _ hS => ymv rfl) (((hx1.trans hx2).drew)) ?_
      refine hTake (i := 6) rfl (by kernel_rfl) rfl rfl (fun _ hS => ymv rfl) (((hx1.trans hx2).drew)) ?_
      refine hTake (i := 7) rfl (by kernel_rfl) rfl rfl (fun _ hS => yslSf Try.underlying9 rfl rfl (by omega)) (((hx1.trans hx2).drew)) ?_
      rw [hsub]
      refine hOne (i := 2) (by kernel_rfl) ?_
      refine nCall (i := 2) rfl rfl rfl (yc (args := [.tmp 28]) cf17 rfl) (crc_ret (l.take 5) _ (by simp; omega)) ?_
      rintro _ w3 ⟨rfl, hx3⟩
      refine ⟨((hx1.trans hx2).drew).trans hx3, ?_⟩
      refine hOne (i := 4) (by kernel_rfl) ?_
      refine nCall (i := 4) rfl rfl rfl (yc (args := [.tmp 29, .tmp 30]) cf19 rfl) (on_ret (Sums.crc (l.take 5)) ((l.drop 9).take (Sums.num (l.drop 1))) _ (Sums.crc_lt _) (by simp; omega)) ?_
      rintro _ w4 ⟨rfl, hx4⟩
      refine ⟨(((hx1.trans hx2).drew).trans hx3).trans hx4, ?_⟩
      have hlt := Sums.on_lt ((l.drop 9).take (Sums.num (l.drop 1))) (Sums.crc_lt (l.take 5))
      refine hTake (i := 5) rfl (by kernel_rfl) rfl rfl (fun _ hS => ycvSi64 rfl Try.underlying33 Try.underlying3 (by omega)) ((((hx1.trans hx2).drew).trans hx3).trans hx4) ?_
      refine hOne (i := 8) (by kernel_rfl) ?_
      refine nCall (i := 8) rfl rfl rfl (yc (args := [.tmp 34]) cf53 rfl) (number_ret (l.drop 5) _ (by simp; omega)) ?_
      rintro _ w5 ⟨rfl, hx5⟩
      refine ⟨((((hx1.trans hx2).drew).trans hx3).trans hx4).trans hx5, ?_⟩
      refine hTake (i := 9) rfl (by kernel_rfl) rfl rfl (fun _ hS => yne rfl rfl) (((((hx1.trans hx2).drew).trans hx3).trans hx4).trans hx5) ?_
      refine hEnd (by kernel_rfl) ?_
      have hx := ((((hx1.trans hx2).drew).trans hx3).trans hx4).trans hx5
      refine run_if rfl (fun hne => ?_) (fun hne => ?_)
      · skip
        refine run_seq ?_
        refine run_reg rfl ?_
        refine rVal rfl rfl (yas rfl) ?_
        refine rVal rfl rfl (yas rfl) ?_
        refine rVal rfl rfl (yas rfl) ?_
        refine rVal rfl rfl (yas rfl) ?_
        refine rEnd ?_
        refine run_ret Try.func13 rfl ?_
        refine ⟨_, rfl, ?_, hx⟩
        have : Sums.unframe l = none := by unfold Sums.unframe; rw [if_neg (by omega), if_neg (by omega), if_pos (by omega)]
        rw [this]
        rfl
      · skip
        refine run_skip ?_
        refine run_seq ?_
        refine run_draw (fun _ => True) (by kernel_rfl) rfl ?_
        refine hTake (i := 0) rfl (by kernel_rfl) rfl rfl (fun _ hS => ymv rfl) (trivial) ?_
        refine hTake (i := 1) rfl (by kernel_rfl) rfl rfl (fun _ hS => yixS Try.underlying9 rfl rfl (by omega)) (trivial) ?_
        refine hTake (i := 2) rfl (by kernel_rfl) rfl rfl (fun _ hS => ymv rfl) (trivial) ?_
        refine hTake (i := 3) rfl (by kernel_rfl) rfl rfl (fun _ hS => ymv rfl) (trivial) ?_
        refine hTake (i := 4) rfl (by kernel_rfl) rfl rfl (fun _ hS => ymv rfl) (trivial) ?_
        refine hTake (i := 5) rfl (by kernel_rfl) rfl rfl (fun _ hS => yslSf Try.underlying9 rfl rfl (by omega)) (trivial) ?_
        refine hTake (i := 6) rfl (by kernel_rfl) rfl rfl (fun _ hS => yas rfl) (trivial) ?_
        refine hTake (i := 7) rfl (by kernel_rfl) rfl rfl (fun _ hS => yas rfl) (trivial) ?_
        refine hTake (i := 8) rfl (by kernel_rfl) rfl rfl (fun _ hS => yas rfl) (trivial) ?_
        refine hTake (i := 9) rfl (by kernel_rfl) rfl rfl (fun _ hS => yas rfl) (trivial) ?_
        refine hEnd (by kernel_rfl) ?_
        refine run_ret Try.func13 rfl ?_
        refine ⟨_, rfl, ?_, hx.drew⟩
        have : Sums.unframe l = some (l.getD 0 0, (l.drop 9).take (Sums.num (l.drop 1)), l.drop (9 + Sums.num (l.drop 1))) := by unfold Sums.unframe; rw [if_neg (by omega), if_neg (by omega), if_neg (by omega)]
        rw [this]
        rfl
end Go.Proofs.Ytdapkfppcaaohaa
