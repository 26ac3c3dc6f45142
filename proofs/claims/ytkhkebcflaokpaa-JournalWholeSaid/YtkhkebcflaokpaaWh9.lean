/- Texts JnA, JnB, JnC, JnE, JnF, one behind the other (what the statement JournalWhole does not use is left out). -/
import Derived.Test.YtkhkebcflaokpaaWh8
import Derived.Test.YtkhkebcflaokpaaWh2
namespace Go.Proofs.Ytkhkebcflaokpaa
open Go Go.RowKit
set_option linter.all false
set_option maxRecDepth 100000

abbrev UL (n : Nat) : Value := .int .u64 (n : Int)

theorem filled_ret (s : Bytes) (n : Nat) (w : World) (hs : s.length ≤ n) (hn : n ≤ 100000) : Ret Try.prog 29 [S s, I (n : Int)] w fun v w' => v = S (filB s n) ∧ Ext w w' := by
  have hml : maxLen = 9223372036854775807 := rfl
  obtain ⟨m, hm⟩ : ∃ m, n = s.length + m := ⟨n - s.length, by omega⟩
  have hz : (zeros m).length = m := by simp [zeros]
  refine ret_of_run (e := [(0, _), (1, _)]) Try.func29 rfl Try.ntmps29 rfl rfl ?_; refine run_seq ?_; refine run_reg rfl ?_; refine rVal rfl rfl (yas rfl) ?_; refine rEnd ?_; refine run_seq ?_; refine run_reg rfl ?_; refine rVal rfl rfl (ymv rfl) ?_; refine rVal rfl rfl (ymv rfl) ?_; refine rVal rfl rfl (ymv rfl) ?_; refine rVal rfl rfl (ylnS Try.underlying9 rfl) ?_; refine rVal rfl rfl (ysb rfl rfl (by omega)) ?_
  rw [show ((n : Int) - (List.length s : Int)) = (m : Int) from by omega]
  refine rValP rfl rfl (pmk (c := m) (n := m) Try.underlying103 ti5 rfl rfl rfl (by omega) (by omega) (by omega)) ?_
  rintro _ w1 ⟨b1, rfl, ⟨hb1, hx1, hB1⟩, -⟩
  refine rVal rfl rfl (yB2S (l := zeros m) Try.underlying103 Try.underlying5 Try.underlying9 rfl hB1 (zeros_whole m) (by simp [zeros])) ?_; refine rVal rfl rfl (ycatS rfl rfl (by first | omega | (simp; done) | (simp; omega))) ?_
  refine rVal rfl rfl (yas rfl) ?_; refine rEnd ?_; refine run_ret Try.func29 rfl ?_
  exact ⟨_, rfl, by simp [filB, hm, resVal], hx1⟩

/-- The bytes of a number, the first k filled in. -/
def fixTo (n wd k : Nat) : List Value := (List.range wd).map fun i => if i < k then u8v (UInt8.ofNat (n / 256 ^ (wd - 1 - i))) else .int .u8 0
@[simp] theorem fixTo_length (n wd k : Nat) : (fixTo n wd k).length = wd := by simp [fixTo]
theorem fixTo_zero (n wd : Nat) : fixTo n wd 0 = List.replicate wd (.int .u8 0) := by
  apply List.ext_getElem <;> simp [fixTo]
theorem fixTo_all (n wd : Nat) : fixTo n wd wd = (fixB n wd).map u8v := by
  simp only [fixTo, fixB, List.map_map]
  apply List.map_congr_left
  intro i hi
  rw [if_pos (by simpa using hi)]; rfl
theorem fixTo_set (n wd k : Nat) (h : k < wd) : (fixTo n wd k).set (0 + k * 1) (.int .u8 ((n / 256 ^ (wd - 1 - k) % 256 : Nat) : Int)) = fixTo n wd (k + 1) := by
  apply List.ext_getElem
  · simp
  · intro j h1 h2
    have hj : j < wd := by simpa using h2
    simp only [fixTo, List.getElem_set, List.getElem_map, List.getElem_range]
    by_cases hjk : j = k
    · subst hjk; simp [u8v]
    · rw [if_neg (by omega)]
      by_cases hlt : j < k
      · rw [if_pos hlt, if_pos (by omega)]
      · rw [if_neg hlt, if_neg (by omega)]

theorem fixed_ret (n wd : Nat) (w : World) (hn : n < 18446744073709551616) (hwd : wd ≤ 8) : Ret Try.prog 58 [UL n, I (wd : Int)] w fun v w' => v = S (fixB n wd) ∧ Ext w w' := by
  have hml : maxLen = 9223372036854775807 := rfl
  refine ret_of_run (e := [(0, _), (1, _)]) Try.func58 rfl Try.ntmps58 rfl rfl ?_; refine run_seq ?_; refine run_reg rfl ?_; refine rVal rfl rfl (yas rfl) ?_; refine rEnd ?_; refine run_seq ?_; refine run_reg rfl ?_; refine rVal rfl rfl (ymv rfl) ?_; refine rValP rfl rfl (pmk (c := wd) (n := wd) Try.underlying103 ti5 rfl rfl rfl (by omega) (by omega) (by omega)) ?_
  rintro _ w1 ⟨b1, rfl, ⟨hb1, hx1, hB1⟩, -⟩
  refine rVal rfl rfl (yas rfl) ?_; refine rEnd ?_; refine run_seq ?_; refine run_seq ?_; refine run_reg rfl ?_; refine rVal rfl rfl (ymv rfl) ?_; refine rVal rfl rfl (yln Try.underlying103 rfl) ?_; refine rVal rfl rfl (ymv rfl) ?_; refine rEnd ?_; refine run_block ?_
  rw [← fixTo_zero n wd] at hB1
  refine run_loop (α := Nat) (0) (fun k => [(0, UL n), (1, I (wd : Int)), (5, .slice (some ⟨b1, 0, none⟩) wd wd), (10, I (wd : Int)), (11, I (k : Int))]) (fun k w' => k ≤ wd ∧ Blk w' b1 (fixTo n wd k) 5 ∧ Ext w w') (fun k => wd - k) (by repeat (first | exact Sub.nil | refine Sub.cons rfl ?_)) ?hI ?hround
  case hI => exact ⟨by omega, hB1, hx1⟩
  case hround =>
    rintro k w2 ⟨hk, hB2, hx2⟩ ih
    try dsimp only
    refine run_seq ?_; refine run_reg rfl ?_; refine rVal rfl rfl (ylt rfl rfl) ?_; refine rEnd ?_; refine run_seq ?_; refine run_if rfl (fun hlt => ?_) (fun hlt => ?_)
    · skip
      have hkw : k < wd := by omega
      refine run_skip ?_; refine run_seq ?_; refine run_block ?_; refine run_seq ?_; refine run_reg rfl ?_; refine rVal rfl rfl (ymv rfl) ?_; refine rVal rfl rfl (yas rfl) ?_; refine rEnd ?_; refine run_reg rfl ?_; refine rVal rfl rfl (ymv rfl) ?_; refine rVal rfl rfl (ymv rfl) ?_; refine rVal rfl rfl (ymv rfl) ?_; refine rVal rfl rfl (ymv rfl) ?_; refine rVal rfl rfl (ysb rfl rfl (by omega)) ?_; refine rVal rfl rfl (ymv rfl) ?_; refine rVal rfl rfl (ysb rfl rfl (by omega)) ?_; refine rVal rfl rfl (yml rfl rfl (by omega)) ?_
      rw [show (8 : Int) * (((wd : Int) - 1) - (k : Int)) = ((8 * (wd - 1 - k) : Nat) : Int) from by omega]
      have hp : 2 ^ (8 * (wd - 1 - k)) = 256 ^ (wd - 1 - k) := by rw [Nat.pow_mul]
      refine rVal rfl rfl (ysrN (8 * (wd - 1 - k)) (256 ^ (wd - 1 - k)) rfl rfl (by simp only [IntKind.bits]; omega) hp) ?_
      refine rVal rfl rfl (ycv8 rfl Try.underlying58 Try.underlying5) ?_; refine rVal rfl rfl (yis Try.underlying103 ti5 rfl rfl (by omega)) ?_; refine rEffP rfl (zst ti5 rfl rfl rfl hB2 (by simp; omega)) ?_
      rintro w3 ⟨hB3, hk3⟩
      rw [fixTo_set n wd k hkw] at hB3
      refine rEnd ?_; refine run_inBlock ?_; refine run_reg rfl ?_; refine rVal rfl rfl (yad rfl rfl (by omega)) ?_; refine rVal rfl rfl (ymv rfl) ?_; refine rEnd ?_
      exact (ih (k + 1) w3 ⟨by omega, hB3, hx2.trans_new hk3 (fun i hi => by rw [hi, hb1]; exact Nat.le_refl _)⟩ (by omega)).sub (by repeat (first | exact Sub.nil | refine Sub.cons rfl ?_))
    · skip
      have : k = wd := by omega
      subst this
      rw [fixTo_all] at hB2
      refine run_exit rfl ?_; refine run_seq ?_; refine run_reg rfl ?_; refine rVal rfl rfl (ymv rfl) ?_; refine rVal rfl rfl (yB2S (l := fixB n k) Try.underlying103 Try.underlying5 Try.underlying9 rfl hB2 (by rw [List.drop_zero]; exact List.take_of_length_le (by simp)) (by simp)) ?_
      refine rVal rfl rfl (yas rfl) ?_; refine rEnd ?_; refine run_ret Try.func58 rfl ?_
      exact ⟨_, rfl, rfl, hx2⟩

theorem summed_ret (s : Bytes) (w : World) (hs : s.length ≤ 100000) : Ret Try.prog 57 [S s] w fun v w' => v = S (sumB s) ∧ Ext w w' := by
  have hml : maxLen = 9223372036854775807 := rfl
  have hc := Sums.crc_lt s
  refine ret_of_run (e := [(0, _)]) Try.func57 rfl Try.ntmps57 rfl rfl ?_; refine run_seq ?_; refine run_reg rfl ?_; refine rVal rfl rfl (yas rfl) ?_; refine rEnd ?_; refine run_seq ?_; refine run_reg rfl ?_; refine rVal rfl rfl (ymv rfl) ?_; refine rVal rfl rfl (ymv rfl) ?_; refine rCall rfl rfl (yc (args := [.tmp 4]) cf67 rfl) (crc_ret s _ (by omega)) ?_
  rintro _ w1 ⟨rfl, hx1⟩
  refine rVal rfl rfl (ycvSu64 rfl Try.underlying108 Try.underlying58 (by omega)) ?_; refine rCall rfl rfl (yc (args := [.tmp 6, .const (Value.int .i64 4)]) cf58 rfl) (fixed_ret (Sums.crc s) 4 _ (by omega) (by omega)) ?_
  rintro _ w2 ⟨rfl, hx2⟩
  refine rVal rfl rfl (ycatS rfl rfl (by first | omega | (simp; done) | (simp; omega))) ?_
  refine rVal rfl rfl (yas rfl) ?_; refine rEnd ?_; refine run_ret Try.func57 rfl ?_
  exact ⟨_, rfl, rfl, hx1.trans hx2⟩

def hdCs (h : Hd) : List Value := [UL h.own, I (h.tail : Int), UL h.number]
theorem hdblock_ret (h : Hd) (hh : h.Ok) (n : Nat) (w : World) (h1 : 28 ≤ n) (h2 : n ≤ 100000) : Ret Try.prog 31 [.agg #[UL h.own, I (h.tail : Int), UL h.number], I (n : Int)] w fun v w' => v = S (h.block n) ∧ Ext w w' := by
  have hml : maxLen = 9223372036854775807 := rfl
  have hh1 := hh.own
  have hh2 := hh.tail
  have hh3 := hh.number
  refine ret_of_run (e := [(0, _), (1, _)]) Try.func31 rfl Try.ntmps31 rfl rfl ?_; refine run_seq ?_; refine run_reg rfl ?_; refine rValP rfl rfl (pbx rfl (cs := hdCs h) rfl) ?_
  rintro _ w1 ⟨b1, rfl, hb1, hx1, hB1⟩
  refine rVal rfl rfl (yas rfl) ?_; refine rEnd ?_; refine run_seq ?_; refine run_draw (fun w' => Ext w1 w') (by kernel_rfl) rfl ?_; refine hTake (i := 0) rfl (by kernel_rfl) rfl rfl (fun _ hS => yfa fl76_0 rfl) (Ext.drew0 w1) ?_; refine hTake (i := 1) rfl (by kernel_rfl) rfl rfl (fun _ hS => yld Try.underlying58 rfl rfl (hS.blk hB1) rfl) (Ext.drew0 w1) ?_; refine hTake (i := 4) rfl (by kernel_rfl) rfl rfl (fun _ hS => yfa fl76_1 rfl) (Ext.drew0 w1) ?_; refine hTake (i := 5) rfl (by kernel_rfl) rfl rfl (fun _ hS => yld Try.underlying3 rfl rfl (hS.blk hB1) rfl) (Ext.drew0 w1) ?_
  refine hTake (i := 6) rfl (by kernel_rfl) rfl rfl (fun _ hS => (by first | exact ycvSu64 rfl Try.underlying3 Try.underlying58 (by omega) | exact ycv64 rfl Try.underlying3 Try.underlying58)) (Ext.drew0 w1) ?_; refine hTake (i := 9) rfl (by kernel_rfl) rfl rfl (fun _ hS => yfa fl76_2 rfl) (Ext.drew0 w1) ?_; refine hTake (i := 10) rfl (by kernel_rfl) rfl rfl (fun _ hS => yld Try.underlying58 rfl rfl (hS.blk hB1) rfl) (Ext.drew0 w1) ?_; refine hTake (i := 14) rfl (by kernel_rfl) rfl rfl (fun _ hS => ymv rfl) (Ext.drew0 w1) ?_; refine hOne (i := 2) (by kernel_rfl) ?_
  refine nCall (i := 2) rfl rfl rfl (yc (args := [.tmp 6, .const (Value.int .i64 8)]) cf58 rfl) (fixed_ret h.own 8 _ (by omega) (by omega)) ?_
  rintro _ w2 ⟨rfl, hx2⟩
  refine ⟨(Ext.drew0 w1).trans hx2, ?_⟩
  refine hTake (i := 3) rfl (by kernel_rfl) rfl rfl (fun _ hS => ycatS rfl rfl (by first | omega | (simp; done) | (simp; omega))) ((Ext.drew0 w1).trans hx2) ?_
  refine hOne (i := 7) (by kernel_rfl) ?_; refine nCall (i := 7) rfl rfl rfl (yc (args := [.tmp 11, .const (Value.int .i64 4)]) cf58 rfl) (fixed_ret h.tail 4 _ (by omega) (by omega)) ?_
  rintro _ w3 ⟨rfl, hx3⟩
  refine ⟨((Ext.drew0 w1).trans hx2).trans hx3, ?_⟩
  refine hTake (i := 8) rfl (by kernel_rfl) rfl rfl (fun _ hS => ycatS rfl rfl (by first | omega | (simp; done) | (simp; omega))) (((Ext.drew0 w1).trans hx2).trans hx3) ?_
  refine hOne (i := 11) (by kernel_rfl) ?_; refine nCall (i := 11) rfl rfl rfl (yc (args := [.tmp 15, .const (Value.int .i64 8)]) cf58 rfl) (fixed_ret h.number 8 _ (by omega) (by omega)) ?_
  rintro _ w4 ⟨rfl, hx4⟩
  refine ⟨(((Ext.drew0 w1).trans hx2).trans hx3).trans hx4, ?_⟩
  refine hTake (i := 12) rfl (by kernel_rfl) rfl rfl (fun _ hS => ycatS rfl rfl (by first | omega | (simp; done) | (simp; omega))) ((((Ext.drew0 w1).trans hx2).trans hx3).trans hx4) ?_
  refine hOne (i := 13) (by kernel_rfl) ?_; refine nCall (i := 13) rfl rfl rfl (yc (args := [.tmp 17]) cf57 rfl) (summed_ret h.body _ (by simp)) ?_
  rintro _ w5 ⟨rfl, hx5⟩
  refine ⟨((((Ext.drew0 w1).trans hx2).trans hx3).trans hx4).trans hx5, ?_⟩
  refine hOne (i := 15) (by kernel_rfl) ?_; refine nCall (i := 15) rfl rfl rfl (yc (args := [.tmp 18, .tmp 19]) cf29 rfl) (filled_ret (sumB h.body) n _ (by simp; omega) h2) ?_
  rintro _ w6 ⟨rfl, hx6⟩
  refine ⟨(((((Ext.drew0 w1).trans hx2).trans hx3).trans hx4).trans hx5).trans hx6, ?_⟩
  refine hTake (i := 16) rfl (by kernel_rfl) rfl rfl (fun _ hS => yas rfl) ((((((Ext.drew0 w1).trans hx2).trans hx3).trans hx4).trans hx5).trans hx6) ?_; refine hEnd (by kernel_rfl) ?_; refine run_ret Try.func31 rfl ?_
  exact ⟨_, rfl, rfl, hx1.trans ((((((Ext.drew0 w1).trans hx2).trans hx3).trans hx4).trans hx5).trans hx6)⟩

/-- The number of the first bytes. -/
theorem number8_ret (s : Bytes) (w : World) (hs : s.length ≤ 8) : Ret Try.prog 76 [S s] w fun v w' => v = UL (numB s) ∧ Ext w w' := by
  have hml : maxLen = 9223372036854775807 := rfl
  refine ret_of_run (e := [(0, _)]) Try.func76 rfl Try.ntmps76 rfl rfl ?_; refine run_seq ?_; refine run_reg rfl ?_; refine rVal rfl rfl (yas rfl) ?_; refine rEnd ?_; refine run_seq ?_; refine run_seq ?_; refine run_reg rfl ?_; refine rVal rfl rfl (ymv rfl) ?_; refine rValP rfl rfl (pS2B Try.underlying9 Try.underlying103 Try.underlying5 rfl) ?_
  rintro _ w1 ⟨b1, cap, rest, rfl, ⟨hb1, hx1, hB1⟩, hcap⟩
  refine rVal rfl rfl (yln Try.underlying103 rfl) ?_; refine rVal rfl rfl (ymv rfl) ?_; refine rEnd ?_; refine run_block ?_; refine run_loop (α := Nat) (0) (fun k => [(6, .slice (some ⟨b1, 0, none⟩) s.length cap), (7, I (s.length : Int)), (8, I (k : Int)), (2, UL (numB (s.take k)))]) (fun k w' => k ≤ s.length ∧ w' = w1) (fun k => s.length - k) (by repeat (first | exact Sub.nil | refine Sub.cons rfl ?_)) ?hI ?hround
  case hI => exact ⟨by omega, rfl⟩
  case hround =>
    rintro k _ ⟨hk, rfl⟩ ih
    try dsimp only
    refine run_seq ?_; refine run_reg rfl ?_; refine rVal rfl rfl (ylt rfl rfl) ?_; refine rEnd ?_; refine run_seq ?_; refine run_if rfl (fun hlt => ?_) (fun hlt => ?_)
    · skip
      have hkl : k < s.length := by omega
      have hlt8 := numB_lt (s.take k)
      have hln : (s.take k).length = k := by simp; omega
      rw [hln] at hlt8
      have hp : 256 ^ k * 256 ≤ 18446744073709551616 := by
        rw [← Nat.pow_succ]
        exact Nat.le_trans (Nat.pow_le_pow_right (by omega) (show k + 1 ≤ 8 by omega)) (by decide)
      have hc := (s.getD k 0).toNat_lt
      refine run_skip ?_; refine run_seq ?_; refine run_block ?_; refine run_seq ?_; refine run_reg rfl ?_; refine rVal rfl rfl (yis Try.underlying103 ti5 rfl rfl (by omega)) ?_; refine rVal rfl rfl (yld Try.underlying5 rfl rfl hB1 (get_u8 hkl)) ?_; refine rVal rfl rfl (yas rfl) ?_; refine rEnd ?_; refine run_reg rfl ?_; refine rVal rfl rfl (ymv rfl) ?_; refine rVal rfl rfl (ysl64u 8 256 rfl rfl (by decide) rfl) ?_; refine rVal rfl rfl (ymv rfl) ?_
      refine rVal rfl rfl ((by first | exact ycvB rfl Try.underlying5 Try.underlying58 (by decide) | exact ycvSu64 rfl Try.underlying5 Try.underlying58 (by omega))) ?_; refine rVal rfl rfl (yor64u rfl rfl (by omega) (by omega)) ?_; refine rVal rfl rfl (yas rfl) ?_; refine rEnd ?_; refine run_inBlock ?_; refine run_reg rfl ?_; refine rVal rfl rfl (yad rfl rfl (by omega)) ?_; refine rVal rfl rfl (ymv rfl) ?_; refine rEnd ?_
      rw [Nat.mod_eq_of_lt (show numB (s.take k) * 256 < 18446744073709551616 by omega)]
      have hor : numB (s.take k) * 256 ||| (s.getD k 0).toNat = numB (s.take (k + 1)) := by
        rw [List.take_succ_eq_append_getElem hkl, numB_snoc]
        have e : s.getD k 0 = s[k] := by simp [List.getD, hkl]
        rw [e, show numB (s.take k) * 256 = 2 ^ 8 * numB (s.take k) by omega, Nat.two_pow_add_eq_or_of_lt (by rw [← e]; exact hc)]
      rw [hor]
      exact (ih (k + 1) _ ⟨by omega, rfl⟩ (by omega)).sub (by repeat (first | exact Sub.nil | refine Sub.cons rfl ?_))
    · skip
      have : k = s.length := by omega
      subst this
      rw [List.take_length]
      refine run_exit rfl ?_; refine run_seq ?_; refine run_reg rfl ?_; refine rVal rfl rfl (ymv rfl) ?_; refine rVal rfl rfl (yas rfl) ?_; refine rEnd ?_; refine run_ret Try.func76 rfl ?_
      exact ⟨_, rfl, rfl, hx1⟩
theorem u64_ret (s : Bytes) (w : World) (hs : 8 ≤ s.length) : Ret Try.prog 63 [S s] w fun v w' => v = UL (numB (s.take 8)) ∧ Ext w w' := by
  have hml : maxLen = 9223372036854775807 := rfl
  refine ret_of_run (e := [(0, _)]) Try.func63 rfl Try.ntmps63 rfl rfl ?_; refine run_seq ?_; refine run_reg rfl ?_; refine rVal rfl rfl (yas rfl) ?_; refine rEnd ?_; refine run_seq ?_; refine run_reg rfl ?_; refine rVal rfl rfl (ymv rfl) ?_; refine rVal rfl rfl (yslSt Try.underlying9 rfl rfl (by omega)) ?_; refine rCall rfl rfl (yc (args := [.tmp 4]) cf76 rfl) (number8_ret (s.take 8) _ (by simp; omega)) ?_
  rintro _ w1 ⟨rfl, hx1⟩
  refine rVal rfl rfl (yas rfl) ?_; refine rEnd ?_; refine run_ret Try.func63 rfl ?_
  exact ⟨_, rfl, rfl, hx1⟩
theorem u32_ret (s : Bytes) (w : World) (hs : 4 ≤ s.length) : Ret Try.prog 62 [S s] w fun v w' => v = U (numB (s.take 4)) ∧ Ext w w' := by
  have hml : maxLen = 9223372036854775807 := rfl
  have hlt := numB_lt (s.take 4)
  have hl : (s.take 4).length = 4 := by simp; omega
  rw [hl] at hlt
  refine ret_of_run (e := [(0, _)]) Try.func62 rfl Try.ntmps62 rfl rfl ?_; refine run_seq ?_; refine run_reg rfl ?_; refine rVal rfl rfl (yas rfl) ?_; refine rEnd ?_; refine run_seq ?_; refine run_reg rfl ?_; refine rVal rfl rfl (ymv rfl) ?_; refine rVal rfl rfl (yslSt Try.underlying9 rfl rfl (by omega)) ?_; refine rCall rfl rfl (yc (args := [.tmp 4]) cf76 rfl) (number8_ret (s.take 4) _ (by omega)) ?_
  rintro _ w1 ⟨rfl, hx1⟩
  refine rVal rfl rfl (ycv32 rfl Try.underlying58 Try.underlying108) ?_; refine rVal rfl rfl (yas rfl) ?_; refine rEnd ?_
  rw [Nat.mod_eq_of_lt (show numB (s.take 4) < 4294967296 from hlt)]
  refine run_ret Try.func62 rfl ?_
  exact ⟨_, rfl, rfl, hx1⟩
theorem most_ret (ring size : Nat) (w : World) (h1 : 2 ≤ ring) (h2 : 20 ≤ size) (h3 : ring ≤ 100000) (h4 : size ≤ 100000) : Ret Try.prog 53 [I (ring : Int), I (size : Int)] w fun v w' => v = I (mostN ring size : Int) ∧ w' = w := by
  refine ret_of_run (e := [(0, _), (1, _)]) Try.func53 rfl Try.ntmps53 rfl rfl ?_; refine run_seq ?_; refine run_reg rfl ?_; refine rVal rfl rfl (yas rfl) ?_; refine rEnd ?_; refine run_seq ?_; refine run_reg rfl ?_; refine rVal rfl rfl (ymv rfl) ?_; refine rVal rfl rfl (ysb rfl rfl (by omega)) ?_; refine rVal rfl rfl (ymv rfl) ?_; refine rVal rfl rfl (ysb rfl rfl (by omega)) ?_; refine rVal rfl rfl (ysb rfl rfl (by omega)) ?_; refine rVal rfl rfl (yqu rfl rfl (by omega)) ?_; refine rVal rfl rfl (ymi rfl rfl) ?_; refine rVal rfl rfl (yas rfl) ?_; refine rEnd ?_; refine run_ret Try.func53 rfl ?_
  refine ⟨_, rfl, ?_, rfl⟩
  show I _ = I _
  congr 1
  unfold mostN
  omega
/-- Does a text begin so? -/
theorem hasPrefix_ret (s t : Bytes) (w : World) (hs : s.length ≤ 140737488355328) (ht : t.length ≤ 140737488355328) : Ret Try.prog 66 [S s, S t] w fun v w' => v = .bool (t.isPrefixOf s) ∧ w' = w := by
  have h0 : Ret Try.prog 77 [S s, S t] w fun v w' => v = .bool (t.isPrefixOf s) ∧ w' = w := by
    refine ret_of_run (e := [(0, _), (1, _)]) Try.func77 rfl Try.ntmps77 rfl rfl ?_; refine run_seq ?_; refine run_reg rfl ?_; refine rVal rfl rfl (yas rfl) ?_; refine rEnd ?_; refine run_seq ?_; refine run_reg rfl ?_; refine rVal rfl rfl (ymv rfl) ?_; refine rVal rfl rfl (ylnS Try.underlying9 rfl) ?_; refine rVal rfl rfl (ymv rfl) ?_; refine rVal rfl rfl (ylnS Try.underlying9 rfl) ?_; refine rVal rfl rfl (yge rfl rfl) ?_; refine rVal_if (fun h1 => ?_) (fun h1 => ?_)
    · skip
      refine rVal rfl rfl (ymv rfl) ?_; refine rVal rfl rfl (ymv rfl) ?_; refine rVal rfl rfl (ymv rfl) ?_; refine rVal rfl rfl (ylnS Try.underlying9 rfl) ?_; refine rVal rfl rfl (yslSt Try.underlying9 rfl rfl (by omega)) ?_; refine rVal rfl rfl (ymv rfl) ?_; refine rVal rfl rfl (yeqS rfl rfl) ?_; refine rVal rfl rfl (ypT rfl rfl) ?_; refine rVal rfl rfl (yas rfl) ?_; refine rEnd ?_; refine run_ret Try.func77 rfl ?_
      have e : t.isPrefixOf s = decide (s.take t.length = t) := by
        rw [Bool.eq_iff_iff, List.isPrefixOf_iff_prefix]
        simp only [decide_eq_true_eq]
        constructor
        · rintro ⟨r, rfl⟩; simp
        · intro h; rw [← h]; exact List.take_prefix _ _
      rw [e]
      exact ⟨_, rfl, rfl, rfl⟩
    · skip
      refine rVal rfl rfl (ymv rfl) ?_; refine rSkip rfl rfl ?_; refine rSkip rfl rfl ?_; refine rSkip rfl rfl ?_; refine rSkip rfl rfl ?_; refine rSkip rfl rfl ?_; refine rSkip rfl rfl ?_; refine rVal rfl rfl (ypF rfl rfl) ?_; refine rVal rfl rfl (yas rfl) ?_; refine rEnd ?_; refine run_ret Try.func77 rfl ?_; refine ⟨_, rfl, ?_, rfl⟩
      show Value.bool false = Value.bool _
      congr 1
      symm
      rw [Bool.eq_false_iff]
      intro h
      have := (List.isPrefixOf_iff_prefix.1 h).length_le
      omega
  refine ret_of_run (e := [(0, _), (1, _)]) Try.func66 rfl Try.ntmps66 rfl rfl ?_; refine run_seq ?_; refine run_reg rfl ?_; refine rVal rfl rfl (yas rfl) ?_; refine rEnd ?_; refine run_seq ?_; refine run_reg rfl ?_; refine rVal rfl rfl (ymv rfl) ?_; refine rVal rfl rfl (ymv rfl) ?_; refine rCall rfl rfl (yc (args := [.tmp 5, .tmp 6]) cf77 rfl) (h0) ?_
  rintro _ w1 ⟨rfl, rfl⟩
  refine rVal rfl rfl (yas rfl) ?_; refine rEnd ?_; refine run_ret Try.func66 rfl ?_
  exact ⟨_, rfl, rfl, rfl⟩
theorem laidJ_ret (s : Bytes) (w : World) (hs : s.length ≤ 140737488355328) : Ret Try.prog 45 [S s] w fun v w' => v = S (laidB s) ∧ w' = w := by
  have hml : maxLen = 9223372036854775807 := rfl
  refine ret_of_run (e := [(0, _)]) Try.func45 rfl Try.ntmps45 rfl rfl ?_; refine run_seq ?_; refine run_reg rfl ?_; refine rVal rfl rfl (yas rfl) ?_; refine rEnd ?_; refine run_seq ?_; refine run_seq ?_; refine run_reg rfl ?_; refine rVal rfl rfl (ymv rfl) ?_; refine rCall rfl rfl (yc (args := [.tmp 3, .const (Value.string (⟨#[87, 74]⟩))]) cf66 rfl) (hasPrefix_ret s mkB _ hs (by simp [mkB])) ?_
  rintro _ w1 ⟨rfl, rfl⟩
  cases hp : mkB.isPrefixOf s with
  | true =>
    have h2 := isPre_length hp
    refine rEnd ?_; refine run_true rfl ?_; refine run_seq ?_; refine run_reg rfl ?_; refine rVal rfl rfl (ymv rfl) ?_; refine rVal rfl rfl (yslSf Try.underlying9 rfl rfl (by omega)) ?_; refine rVal rfl rfl (ycatS rfl rfl (by first | omega | (simp; done) | (simp; omega))) ?_
    refine rVal rfl rfl (yas rfl) ?_; refine rEnd ?_; refine run_ret Try.func45 rfl ?_
    exact ⟨_, rfl, by simp [laidB, hp, resVal], rfl⟩
  | false =>
    refine rEnd ?_; refine run_false rfl ?_; refine run_skip ?_; refine run_seq ?_; refine run_reg rfl ?_; refine rVal rfl rfl (ymv rfl) ?_; refine rVal rfl rfl (yas rfl) ?_; refine rEnd ?_; refine run_ret Try.func45 rfl ?_
    exact ⟨_, rfl, by simp [laidB, hp, resVal], rfl⟩
theorem record_ret (num : Nat) (s : Bytes) (n : Nat) (w : World) (hnum : num < 18446744073709551616) (hs : s.length ≤ 10000000) (h1 : 16 ≤ n) (h2 : n ≤ 100000) : Ret Try.prog 46 [UL num, S s, I (n : Int)] w fun v w' => v = S (recB num s n) ∧ Ext w w' := by
  have hml : maxLen = 9223372036854775807 := rfl
  have hc := Sums.crc_lt s
  refine ret_of_run (e := [(0, _), (1, _), (2, _)]) Try.func46 rfl Try.ntmps46 rfl rfl ?_; refine run_seq ?_; refine run_reg rfl ?_; refine rVal rfl rfl (yas rfl) ?_; refine rEnd ?_; refine run_seq ?_; refine run_reg rfl ?_; refine rVal rfl rfl (ymv rfl) ?_; refine rCall rfl rfl (yc (args := [.tmp 7, .const (Value.int .i64 8)]) cf58 rfl) (fixed_ret num 8 _ hnum (by omega)) ?_
  rintro _ w1 ⟨rfl, hx1⟩
  refine rVal rfl rfl (ycatS rfl rfl (by first | omega | (simp; done) | (simp; omega))) ?_
  refine rVal rfl rfl (ymv rfl) ?_; refine rCall rfl rfl (yc (args := [.tmp 10]) cf67 rfl) (crc_ret s _ (by omega)) ?_
  rintro _ w2 ⟨rfl, hx2⟩
  refine rVal rfl rfl (ycvSu64 rfl Try.underlying108 Try.underlying58 (by omega)) ?_; refine rCall rfl rfl (yc (args := [.tmp 12, .const (Value.int .i64 4)]) cf58 rfl) (fixed_ret (Sums.crc s) 4 _ (by omega) (by omega)) ?_
  rintro _ w3 ⟨rfl, hx3⟩
  refine rVal rfl rfl (ycatS rfl rfl (by first | omega | (simp; done) | (simp; omega))) ?_
  refine rVal rfl rfl (ymv rfl) ?_; refine rCall rfl rfl (yc (args := [.tmp 14, .tmp 15]) cf29 rfl) (filled_ret (rcB ++ fixB num 8 ++ fixB (Sums.crc s) 4) n _ (by simp [rcB]; omega) h2) ?_
  rintro _ w4 ⟨rfl, hx4⟩
  refine rVal rfl rfl (yas rfl) ?_; refine rEnd ?_; refine run_ret Try.func46 rfl ?_
  exact ⟨_, rfl, rfl, ((hx1.trans hx2).trans hx3).trans hx4⟩
theorem readHead_ret (s : Bytes) (ring : Nat) (w : World) (hs : 28 ≤ s.length) (hs2 : s.length ≤ 100000) (hr : ring ≤ 100000) :
    Ret Try.prog 61 [S s, I (ring : Int)] w fun v w' => v = .tuple #[.agg #[UL (rdHead s).own, I ((rdHead s).tail : Int), UL (rdHead s).number], .bool (decide ((rdHead s).tail < ring ∧ (rdHead s).block s.length = s))] ∧ (rdHead s).Ok ∧ Ext w w' := by
  have hml : maxLen = 9223372036854775807 := rfl
  have hlow : ∀ (b : Nat) (w1 w2 : World), b = w2.heap.size → Ext w1 w2 → w1.heap.size ≤ b := fun b w1 w2 h1 h2 => by have := h2.size; omega
  have hq1 : numB ((s.drop 4).take 8) < 18446744073709551616 := by have := numB_lt ((s.drop 4).take 8); rw [show ((s.drop 4).take 8).length = 8 by simp; omega] at this; exact this
  have hq2 : numB ((s.drop 12).take 4) < 4294967296 := by have := numB_lt ((s.drop 12).take 4); rw [show ((s.drop 12).take 4).length = 4 by simp; omega] at this; exact this
  have hq3 : numB ((s.drop 16).take 8) < 18446744073709551616 := by have := numB_lt ((s.drop 16).take 8); rw [show ((s.drop 16).take 8).length = 8 by simp; omega] at this; exact this
  have hok : (rdHead s).Ok := ⟨hq1, hq2, hq3⟩
  refine ret_of_run (e := [(0, _), (1, _)]) Try.func61 rfl Try.ntmps61 rfl rfl ?_; refine run_seq ?_; refine run_reg rfl ?_; refine rValP rfl rfl (pal (cs := [_, _, _]) ti76 rfl) ?_
  rintro _ w1 ⟨b1, rfl, hb1, hx1, hB1⟩
  refine rVal rfl rfl (yas rfl) ?_; refine rEnd ?_; refine run_seq ?_; refine run_cut (fun e' w' => ∃ b6, e' = [(0, S s), (1, I (ring : Int)), (4, ptr b1 0), (5, .bool false), (6, ptr b6 0)] ∧ Blk w' b6 (hdCs (rdHead s)) 76 ∧ Blk w' b1 [UL 0, I 0, UL 0] 76 ∧ b6 ≠ b1 ∧ Ext w w') ?hk (fun hk => ?hmain)
  case hk =>
    rintro _ w8 ⟨b6, rfl, hB6, hB1', hne, hx8⟩
    refine run_seq ?_; refine run_draw (fun w' => Kp (fun k => k = b1) w8 w') (by kernel_rfl) rfl ?_; refine hTake (i := 0) rfl (by kernel_rfl) rfl rfl (fun _ hS => yldA Try.underlying76 rfl ti76 rfl (Blk.cells (n := 3) (hS.blk hB6 hne) (news := [_, _, _]) rfl) rfl) ((Ext.drew0 w8).kp) ?_; refine hTake (i := 1) rfl (by kernel_rfl) rfl rfl (fun _ hS => yfa fl76_1 rfl) ((Ext.drew0 w8).kp) ?_; refine hTake (i := 2) rfl (by kernel_rfl) rfl rfl (fun _ hS => yld Try.underlying3 rfl rfl (hS.blk hB6 hne) rfl) ((Ext.drew0 w8).kp) ?_
    refine hTake (i := 3) rfl (by kernel_rfl) rfl rfl (fun _ hS => ymv rfl) ((Ext.drew0 w8).kp) ?_; refine hTake (i := 4) rfl (by kernel_rfl) rfl rfl (fun _ hS => ylt rfl rfl) ((Ext.drew0 w8).kp) ?_; refine rh_if (fun h1 => ?_) (fun h1 => ?_)
    · skip
      have hd28 := hdblock_ret (rdHead s) hok s.length
      refine hTake (i := 5) rfl (by kernel_rfl) rfl rfl (fun _ hS => ymv rfl) ((Ext.drew0 w8).kp) ?_; refine hTake (i := 6) rfl (by kernel_rfl) rfl rfl (fun _ hS => yldA Try.underlying76 rfl ti76 rfl (Blk.cells (n := 3) (hS.blk hB6 hne) (news := [_, _, _]) rfl) rfl) ((Ext.drew0 w8).kp) ?_; refine hTake (i := 7) rfl (by kernel_rfl) rfl rfl (fun _ hS => ymv rfl) ((Ext.drew0 w8).kp) ?_; refine hTake (i := 8) rfl (by kernel_rfl) rfl rfl (fun _ hS => ylnS Try.underlying9 rfl) ((Ext.drew0 w8).kp) ?_; refine hTake (i := 10) rfl (by kernel_rfl) rfl rfl (fun _ hS => ymv rfl) ((Ext.drew0 w8).kp) ?_
      refine hOne (i := 9) (by kernel_rfl) ?_; refine nCall (i := 9) rfl rfl rfl (yc (args := [.tmp 24, .tmp 26]) cf31 rfl) (hdblock_ret (rdHead s) hok s.length _ hs hs2) ?_
      rintro _ w9 ⟨rfl, hx9⟩
      refine ⟨((Ext.drew0 w8).trans hx9).kp, ?_⟩
      refine hTake (i := 11) rfl (by kernel_rfl) rfl rfl (fun _ hS => yeqS rfl rfl) (((Ext.drew0 w8).trans hx9).kp) ?_; refine hTake (i := 12) rfl (by kernel_rfl) rfl rfl (fun _ hS => ypT rfl rfl) (((Ext.drew0 w8).trans hx9).kp) ?_
      have h9 := (Ext.drew0 w8).trans hx9
      refine hOne (i := 13) (by kernel_rfl) ?_; refine nEffP (i := 13) rfl rfl (zstA (news := hdCs (rdHead s)) ti76 rfl rfl rfl rfl (h9.blk hB1') (by simp)) ?_
      rintro w10 ⟨hB10, hk10⟩
      refine ⟨h9.kp.trans hk10, ?_⟩
      refine hTake (i := 14) rfl (by kernel_rfl) rfl rfl (fun _ hS => yas rfl) (h9.kp.trans hk10) ?_; refine hEnd (by kernel_rfl) ?_; refine run_retR Try.func61 (.cell Try.underlying76 rfl ti76 rfl (Blk.cells (n := 3) hB10 (news := [_, _, _]) rfl) rfl (.tmp rfl .nil)) ?_; refine ⟨_, rfl, ?_, hok, (hx8.trans h9).trans_new hk10 (fun i hi => by rw [hi, hb1]; exact Nat.le_refl _)⟩
      have e : ((rdHead s).tail < ring ∧ (rdHead s).block s.length = s) ↔ (rdHead s).block s.length = s := ⟨fun h => h.2, fun h => ⟨by omega, h⟩⟩
      simp only [decide_eq_decide.2 e]
      rfl
    · skip
      refine hTake (i := 5) rfl (by kernel_rfl) rfl rfl (fun _ hS => ymv rfl) ((Ext.drew0 w8).kp) ?_; refine hSkip (i := 6) rfl (by kernel_rfl) rfl rfl ((Ext.drew0 w8).kp) ?_; refine hSkip (i := 7) rfl (by kernel_rfl) rfl rfl ((Ext.drew0 w8).kp) ?_; refine hSkip (i := 8) rfl (by kernel_rfl) rfl rfl ((Ext.drew0 w8).kp) ?_; refine hSkip (i := 9) rfl (by kernel_rfl) rfl rfl ((Ext.drew0 w8).kp) ?_; refine hSkip (i := 10) rfl (by kernel_rfl) rfl rfl ((Ext.drew0 w8).kp) ?_; refine hSkip (i := 11) rfl (by kernel_rfl) rfl rfl ((Ext.drew0 w8).kp) ?_
      refine hTake (i := 12) rfl (by kernel_rfl) rfl rfl (fun _ hS => ypF rfl rfl) ((Ext.drew0 w8).kp) ?_; refine hOne (i := 13) (by kernel_rfl) ?_; refine nEffP (i := 13) rfl rfl (zstA (news := hdCs (rdHead s)) ti76 rfl rfl rfl rfl ((Ext.drew0 w8).blk hB1') (by simp)) ?_
      rintro w10 ⟨hB10, hk10⟩
      refine ⟨(Ext.drew0 w8).kp.trans hk10, ?_⟩
      refine hTake (i := 14) rfl (by kernel_rfl) rfl rfl (fun _ hS => yas rfl) ((Ext.drew0 w8).kp.trans hk10) ?_; refine hEnd (by kernel_rfl) ?_; refine run_retR Try.func61 (.cell Try.underlying76 rfl ti76 rfl (Blk.cells (n := 3) hB10 (news := [_, _, _]) rfl) rfl (.tmp rfl .nil)) ?_; refine ⟨_, rfl, ?_, hok, (hx8.trans (Ext.drew0 w8)).trans_new hk10 (fun i hi => by rw [hi, hb1]; exact Nat.le_refl _)⟩
      have e : ((rdHead s).tail < ring ∧ (rdHead s).block s.length = s) ↔ False := ⟨fun h => absurd h.1 (by omega), False.elim⟩
      simp only [decide_eq_decide.2 e]
      rfl
  case hmain =>
    refine run_draw (fun w' => Ext w1 w') (by kernel_rfl) rfl ?_; refine hTake (i := 0) rfl (by kernel_rfl) rfl rfl (fun _ hS => ymv rfl) (Ext.drew0 w1) ?_; refine hTake (i := 1) rfl (by kernel_rfl) rfl rfl (fun _ hS => yslSf Try.underlying9 rfl rfl (by omega)) (Ext.drew0 w1) ?_; refine hTake (i := 3) rfl (by kernel_rfl) rfl rfl (fun _ hS => ymv rfl) (Ext.drew0 w1) ?_; refine hTake (i := 4) rfl (by kernel_rfl) rfl rfl (fun _ hS => yslSf Try.underlying9 rfl rfl (by omega)) (Ext.drew0 w1) ?_; refine hTake (i := 7) rfl (by kernel_rfl) rfl rfl (fun _ hS => ymv rfl) (Ext.drew0 w1) ?_
    refine hTake (i := 8) rfl (by kernel_rfl) rfl rfl (fun _ hS => yslSf Try.underlying9 rfl rfl (by omega)) (Ext.drew0 w1) ?_; refine hTwo (i := 2) (j := 11) (by kernel_rfl) ?_ ?_
    · skip
      refine nCall (i := 2) rfl rfl rfl (yc (args := [.tmp 8]) cf63 rfl) (u64_ret (s.drop 4) _ (by simp; omega)) ?_
      rintro _ w3 ⟨rfl, hx3⟩
      refine ⟨(Ext.drew0 w1).trans hx3, ?_⟩
      refine hTwo (i := 5) (j := 11) (by kernel_rfl) ?_ ?_
      · skip
        refine nCall (i := 5) rfl rfl rfl (yc (args := [.tmp 11]) cf62 rfl) (u32_ret (s.drop 12) _ (by simp; omega)) ?_
        rintro _ w4 ⟨rfl, hx4⟩
        refine ⟨((Ext.drew0 w1).trans hx3).trans hx4, ?_⟩
        refine hTake (i := 6) rfl (by kernel_rfl) rfl rfl (fun _ hS => ycvSi64 rfl Try.underlying108 Try.underlying3 (by omega)) (((Ext.drew0 w1).trans hx3).trans hx4) ?_; refine hTwo (i := 9) (j := 11) (by kernel_rfl) ?_ ?_
        · skip
          refine nCall (i := 9) rfl rfl rfl (yc (args := [.tmp 15]) cf63 rfl) (u64_ret (s.drop 16) _ (by simp; omega)) ?_
          rintro _ w5 ⟨rfl, hx5⟩
          refine ⟨(((Ext.drew0 w1).trans hx3).trans hx4).trans hx5, ?_⟩
          refine hTake (i := 10) rfl (by kernel_rfl) rfl rfl (fun _ hS => ybd (parts := [(0, .tmp 9), (1, .tmp 13), (2, .tmp 16)]) (cs := [_, _, _]) ti76 rfl sp76 rfl rfl) ((((Ext.drew0 w1).trans hx3).trans hx4).trans hx5) ?_; refine hOne (i := 11) (by kernel_rfl) ?_; refine nValP (i := 11) rfl rfl rfl (pal (cs := [_, _, _]) ti76 rfl) ?_
          rintro _ w6 ⟨b6, rfl, hb6, hx6, hB6⟩
          refine ⟨((((Ext.drew0 w1).trans hx3).trans hx4).trans hx5).trans hx6, ?_⟩
          have hxx : Ext w1 _ := ((((Ext.drew0 w1).trans hx3).trans hx4).trans hx5).trans hx6
          have hl6 : w1.heap.size ≤ b6 := hlow _ _ _ hb6 (by first | exact Ext.drew0 w1 | exact (Ext.drew0 w1).trans hx3 | exact ((Ext.drew0 w1).trans hx3).trans hx4 | exact (((Ext.drew0 w1).trans hx3).trans hx4).trans hx5)
          refine hOne (i := 12) (by kernel_rfl) ?_; refine nEffP (i := 12) rfl rfl (zstA (news := hdCs (rdHead s)) ti76 rfl rfl rfl rfl hB6 (by simp)) ?_
          rintro w7 ⟨hB7, hk7⟩
          refine ⟨hxx.trans_new hk7 (fun i hi => by rw [hi]; exact hl6), ?_⟩
          refine hEnd (by kernel_rfl) ?_
          have hx7 := hxx.trans_new hk7 (fun i hi => by rw [hi]; exact hl6)
          exact (hk _ _ ⟨b6, rfl, hB7, hx7.blk hB1, by have := hB1.lt; omega, hx1.trans hx7⟩).sub (by repeat (first | exact Sub.nil | refine Sub.cons rfl ?_))
        · skip
          refine nValP (i := 11) rfl rfl rfl (pal (cs := [_, _, _]) ti76 rfl) ?_
          rintro _ w6 ⟨b6, rfl, hb6, hx6, hB6⟩
          refine ⟨(((Ext.drew0 w1).trans hx3).trans hx4).trans hx6, ?_⟩
          refine hOne (i := 9) (by kernel_rfl) ?_; refine nCall (i := 9) rfl rfl rfl (yc (args := [.tmp 15]) cf63 rfl) (u64_ret (s.drop 16) _ (by simp; omega)) ?_
          rintro _ w5 ⟨rfl, hx5⟩
          refine ⟨((((Ext.drew0 w1).trans hx3).trans hx4).trans hx6).trans hx5, ?_⟩
          refine hTake (i := 10) rfl (by kernel_rfl) rfl rfl (fun _ hS => ybd (parts := [(0, .tmp 9), (1, .tmp 13), (2, .tmp 16)]) (cs := [_, _, _]) ti76 rfl sp76 rfl rfl) (((((Ext.drew0 w1).trans hx3).trans hx4).trans hx6).trans hx5) ?_
          have hxx : Ext w1 _ := ((((Ext.drew0 w1).trans hx3).trans hx4).trans hx6).trans hx5
          have hl6 : w1.heap.size ≤ b6 := hlow _ _ _ hb6 (by first | exact Ext.drew0 w1 | exact (Ext.drew0 w1).trans hx3 | exact ((Ext.drew0 w1).trans hx3).trans hx4 | exact (((Ext.drew0 w1).trans hx3).trans hx4).trans hx5)
          refine hOne (i := 12) (by kernel_rfl) ?_; refine nEffP (i := 12) rfl rfl (zstA (news := hdCs (rdHead s)) ti76 rfl rfl rfl rfl (hx5.blk hB6) (by simp)) ?_
          rintro w7 ⟨hB7, hk7⟩
          refine ⟨hxx.trans_new hk7 (fun i hi => by rw [hi]; exact hl6), ?_⟩
          refine hEnd (by kernel_rfl) ?_
          have hx7 := hxx.trans_new hk7 (fun i hi => by rw [hi]; exact hl6)
          exact (hk _ _ ⟨b6, rfl, hB7, hx7.blk hB1, by have := hB1.lt; omega, hx1.trans hx7⟩).sub (by repeat (first | exact Sub.nil | refine Sub.cons rfl ?_))
      · skip
        refine nValP (i := 11) rfl rfl rfl (pal (cs := [_, _, _]) ti76 rfl) ?_
        rintro _ w6 ⟨b6, rfl, hb6, hx6, hB6⟩
        refine ⟨((Ext.drew0 w1).trans hx3).trans hx6, ?_⟩
        refine hOne (i := 5) (by kernel_rfl) ?_; refine nCall (i := 5) rfl rfl rfl (yc (args := [.tmp 11]) cf62 rfl) (u32_ret (s.drop 12) _ (by simp; omega)) ?_
        rintro _ w4 ⟨rfl, hx4⟩
        refine ⟨(((Ext.drew0 w1).trans hx3).trans hx6).trans hx4, ?_⟩
        refine hTake (i := 6) rfl (by kernel_rfl) rfl rfl (fun _ hS => ycvSi64 rfl Try.underlying108 Try.underlying3 (by omega)) ((((Ext.drew0 w1).trans hx3).trans hx6).trans hx4) ?_; refine hOne (i := 9) (by kernel_rfl) ?_; refine nCall (i := 9) rfl rfl rfl (yc (args := [.tmp 15]) cf63 rfl) (u64_ret (s.drop 16) _ (by simp; omega)) ?_
        rintro _ w5 ⟨rfl, hx5⟩
        refine ⟨((((Ext.drew0 w1).trans hx3).trans hx6).trans hx4).trans hx5, ?_⟩
        refine hTake (i := 10) rfl (by kernel_rfl) rfl rfl (fun _ hS => ybd (parts := [(0, .tmp 9), (1, .tmp 13), (2, .tmp 16)]) (cs := [_, _, _]) ti76 rfl sp76 rfl rfl) (((((Ext.drew0 w1).trans hx3).trans hx6).trans hx4).trans hx5) ?_
        have hxx : Ext w1 _ := ((((Ext.drew0 w1).trans hx3).trans hx6).trans hx4).trans hx5
        have hl6 : w1.heap.size ≤ b6 := hlow _ _ _ hb6 (by first | exact Ext.drew0 w1 | exact (Ext.drew0 w1).trans hx3 | exact ((Ext.drew0 w1).trans hx3).trans hx4 | exact (((Ext.drew0 w1).trans hx3).trans hx4).trans hx5)
        refine hOne (i := 12) (by kernel_rfl) ?_; refine nEffP (i := 12) rfl rfl (zstA (news := hdCs (rdHead s)) ti76 rfl rfl rfl rfl (hx5.blk (hx4.blk hB6)) (by simp)) ?_
        rintro w7 ⟨hB7, hk7⟩
        refine ⟨hxx.trans_new hk7 (fun i hi => by rw [hi]; exact hl6), ?_⟩
        refine hEnd (by kernel_rfl) ?_
        have hx7 := hxx.trans_new hk7 (fun i hi => by rw [hi]; exact hl6)
        exact (hk _ _ ⟨b6, rfl, hB7, hx7.blk hB1, by have := hB1.lt; omega, hx1.trans hx7⟩).sub (by repeat (first | exact Sub.nil | refine Sub.cons rfl ?_))
    · skip
      refine nValP (i := 11) rfl rfl rfl (pal (cs := [_, _, _]) ti76 rfl) ?_
      rintro _ w6 ⟨b6, rfl, hb6, hx6, hB6⟩
      refine ⟨(Ext.drew0 w1).trans hx6, ?_⟩
      refine hOne (i := 2) (by kernel_rfl) ?_; refine nCall (i := 2) rfl rfl rfl (yc (args := [.tmp 8]) cf63 rfl) (u64_ret (s.drop 4) _ (by simp; omega)) ?_
      rintro _ w3 ⟨rfl, hx3⟩
      refine ⟨((Ext.drew0 w1).trans hx6).trans hx3, ?_⟩
      refine hOne (i := 5) (by kernel_rfl) ?_; refine nCall (i := 5) rfl rfl rfl (yc (args := [.tmp 11]) cf62 rfl) (u32_ret (s.drop 12) _ (by simp; omega)) ?_
      rintro _ w4 ⟨rfl, hx4⟩
      refine ⟨(((Ext.drew0 w1).trans hx6).trans hx3).trans hx4, ?_⟩
      refine hTake (i := 6) rfl (by kernel_rfl) rfl rfl (fun _ hS => ycvSi64 rfl Try.underlying108 Try.underlying3 (by omega)) ((((Ext.drew0 w1).trans hx6).trans hx3).trans hx4) ?_; refine hOne (i := 9) (by kernel_rfl) ?_; refine nCall (i := 9) rfl rfl rfl (yc (args := [.tmp 15]) cf63 rfl) (u64_ret (s.drop 16) _ (by simp; omega)) ?_
      rintro _ w5 ⟨rfl, hx5⟩
      refine ⟨((((Ext.drew0 w1).trans hx6).trans hx3).trans hx4).trans hx5, ?_⟩
      refine hTake (i := 10) rfl (by kernel_rfl) rfl rfl (fun _ hS => ybd (parts := [(0, .tmp 9), (1, .tmp 13), (2, .tmp 16)]) (cs := [_, _, _]) ti76 rfl sp76 rfl rfl) (((((Ext.drew0 w1).trans hx6).trans hx3).trans hx4).trans hx5) ?_
      have hxx : Ext w1 _ := ((((Ext.drew0 w1).trans hx6).trans hx3).trans hx4).trans hx5
      have hl6 : w1.heap.size ≤ b6 := hlow _ _ _ hb6 (by first | exact Ext.drew0 w1 | exact (Ext.drew0 w1).trans hx3 | exact ((Ext.drew0 w1).trans hx3).trans hx4 | exact (((Ext.drew0 w1).trans hx3).trans hx4).trans hx5)
      refine hOne (i := 12) (by kernel_rfl) ?_; refine nEffP (i := 12) rfl rfl (zstA (news := hdCs (rdHead s)) ti76 rfl rfl rfl rfl (hx5.blk (hx4.blk (hx3.blk hB6))) (by simp)) ?_
      rintro w7 ⟨hB7, hk7⟩
      refine ⟨hxx.trans_new hk7 (fun i hi => by rw [hi]; exact hl6), ?_⟩
      refine hEnd (by kernel_rfl) ?_
      have hx7 := hxx.trans_new hk7 (fun i hi => by rw [hi]; exact hl6)
      exact (hk _ _ ⟨b6, rfl, hB7, hx7.blk hB1, by have := hB1.lt; omega, hx1.trans hx7⟩).sub (by repeat (first | exact Sub.nil | refine Sub.cons rfl ?_))
end Go.Proofs.Ytkhkebcflaokpaa
namespace Go.Proofs.Ytkhkebcflaokpaa
open Go Go.RowKit
set_option linter.all false
set_option maxRecDepth 100000

theorem rd_el {w : World} {b off n cap : Nat} {l : List (Int × Bytes)} {i : Nat} {x : Int × Bytes} (h : Rd w (.slice (some ⟨b, off, none⟩) n cap) 2 n (wrs l)) (hi : i < n) (hx : l[i]? = some x) : ∀ j u, ([I x.1, S x.2] : List Value)[j]? = some u → w.cell? ⟨b, off + i * 2 + j, none⟩ = some u := by
  obtain ⟨h1, h2⟩ := rd_at h hi hx
  intro j u hj
  match j, hj with
  | 0, hj => simp at hj; subst hj; exact h1
  | 1, hj => simp at hj; subst hj; exact h2
  | j + 2, hj => simp at hj
theorem or_flag (m : Nat) (h : m < 2147483648) : m ||| 2147483648 = m + 2147483648 := by
  have := Nat.two_pow_add_eq_or_of_lt (i := 31) (b := m) (by omega) 1
  rw [Nat.or_comm, show (2147483648 : Nat) = 2 ^ 31 * 1 from rfl, ← this]
  omega

theorem descriptor_ret (num : Nat) (t : Tx) (n : Nat) (wv : Value) (w : World) (hr : Rd w wv 2 t.length (wrs t)) (hd : ∀ x ∈ t, 0 ≤ x.1 ∧ x.1 < 2147483648 ∧ x.2.length ≤ 100000) (hl : 20 + 4 * t.length ≤ n) (hn : n ≤ 100000) (hnum : num < 18446744073709551616) :
    Ret Try.prog 44 [UL num, wv, I (n : Int)] w fun v w' => v = S (descB num t n) ∧ Ext w w' := by
  have hml : maxLen = 9223372036854775807 := rfl
  obtain ⟨aw, cw, rfl, -⟩ := hr.shape
  refine ret_of_run (e := [(0, _), (1, _), (2, _)]) Try.func44 rfl Try.ntmps44 rfl rfl ?_; refine run_seq ?_; refine run_reg rfl ?_; refine rVal rfl rfl (yas rfl) ?_; refine rEnd ?_; refine run_seq ?_; refine run_reg rfl ?_; refine rVal rfl rfl (ymv rfl) ?_; refine rCall rfl rfl (yc (args := [.tmp 11, .const (Value.int .i64 8)]) cf58 rfl) (fixed_ret num 8 _ hnum (by omega)) ?_
  rintro _ w1 ⟨rfl, hx1⟩
  refine rVal rfl rfl (ycatS rfl rfl (by first | omega | (simp; done) | (simp; omega))) ?_
  refine rVal rfl rfl (ymv rfl) ?_; refine rVal rfl rfl (yln Try.underlying38 rfl) ?_; refine rVal rfl rfl ((by first | exact ycvSu64 rfl Try.underlying3 Try.underlying58 (by omega) | exact ycv64 rfl Try.underlying3 Try.underlying58)) ?_; refine rCall rfl rfl (yc (args := [.tmp 16, .const (Value.int .i64 4)]) cf58 rfl) (fixed_ret t.length 4 _ (by omega) (by omega)) ?_
  rintro _ w2 ⟨rfl, hx2⟩
  refine rVal rfl rfl (ycatS rfl rfl (by first | omega | (simp; done) | (simp; omega))) ?_
  refine rVal rfl rfl (yas rfl) ?_; refine rEnd ?_; refine run_seq ?_; refine run_seq ?_; refine run_reg rfl ?_; refine rVal rfl rfl (ymv rfl) ?_; refine rVal rfl rfl (yln Try.underlying38 rfl) ?_; refine rVal rfl rfl (ymv rfl) ?_; refine rEnd ?_; refine run_block ?_
  have hr2 := hr.ext (hx1.trans hx2)
  have hx02 := hx1.trans hx2
  refine run_loop (α := Nat × Bytes) ((0, dsB ++ fixB num 8 ++ fixB t.length 4)) (fun x => [(2, I (n : Int)), (19, .slice aw t.length cw), (20, I (t.length : Int)), (21, I (x.1 : Int)), (7, S x.2)]) (fun x w' => x.1 ≤ t.length ∧ x.2 = dsB ++ fixB num 8 ++ fixB t.length 4 ++ (t.take x.1).flatMap (fun x => fixB (flgN x) 4) ∧ Ext w w') (fun x => t.length - x.1) (by repeat (first | exact Sub.nil | refine Sub.cons rfl ?_)) ?hI ?hround
  case hI => exact ⟨by dsimp only; omega, by simp, hx02⟩
  case hround =>
    rintro ⟨k, s⟩ wi ⟨hk, hs, hxi⟩ ih
    dsimp only at hk hs
    have hsl : s.length = 16 + 4 * k := by
      rw [hs]; simp only [List.length_append, flat4, fixB_length, List.length_take]; simp [dsB]; omega
    have hri := hr.ext hxi
    try dsimp only
    refine run_seq ?_; refine run_reg rfl ?_; refine rVal rfl rfl (ylt rfl rfl) ?_; refine rEnd ?_; refine run_seq ?_; refine run_if rfl (fun hlt => ?_) (fun hlt => ?_)
    · skip
      have hkl : k < t.length := by omega
      obtain ⟨b, off, cap, x, hva, hxg⟩ := rd_get hri hkl
      cases hva
      have hel := rd_el hri hkl hxg
      obtain ⟨hd1, hd2, hd3⟩ := hd x (List.mem_of_getElem? hxg)
      have hnext : (t.take (k + 1)).flatMap (fun x => fixB (flgN x) 4) = (t.take k).flatMap (fun x => fixB (flgN x) 4) ++ fixB (flgN x) 4 := by
        have e : t[k] = x := by rw [List.getElem?_eq_getElem hkl] at hxg; exact Option.some.inj hxg
        rw [List.take_succ_eq_append_getElem hkl, e]; simp
      obtain ⟨x1, x2⟩ := x
      simp only at hd1 hd2 hd3 hel
      obtain ⟨m, rfl⟩ : ∃ m : Nat, x1 = (m : Int) := ⟨x1.toNat, by omega⟩
      refine run_skip ?_; refine run_seq ?_; refine run_block ?_; refine run_seq ?_; refine run_reg rfl ?_; refine rVal rfl rfl (yis Try.underlying38 ti54 rfl rfl (by omega)) ?_; refine rVal rfl rfl (yldA Try.underlying54 rfl ti54 rfl hel rfl) ?_; refine rValP rfl rfl (pal (cs := [_, _]) ti54 rfl) ?_
      rintro _ w3 ⟨b9, rfl, hb9, hx3, hB9⟩
      refine rEffP rfl (zstA ti54 rfl rfl rfl rfl hB9 (by simp)) ?_
      rintro w4 ⟨hB4, hk4⟩
      replace hB4 : Blk w4 b9 [I (m : Int), S x2] 54 := hB4
      have hx4 : Ext w w4 := (hxi.trans hx3).trans_new hk4 (fun i hi => by have := hxi.size; omega)
      refine rEnd ?_; refine run_seq ?_; refine run_reg rfl ?_; refine rVal rfl rfl (yfa fl54_0 rfl) ?_; refine rVal rfl rfl (yld Try.underlying3 rfl rfl hB4 rfl) ?_; refine rVal rfl rfl (ycv32 rfl Try.underlying3 Try.underlying108) ?_; refine rVal rfl rfl (yas rfl) ?_; refine rEnd ?_; refine run_seq ?_; refine run_seq ?_; refine run_reg rfl ?_; refine rVal rfl rfl (yfa fl54_1 rfl) ?_; refine rVal rfl rfl (yld Try.underlying9 rfl rfl hB4 rfl) ?_
      rw [Nat.mod_eq_of_lt (show m < 4294967296 by omega)]
      refine rCall rfl rfl (yc (args := [.tmp 29, .const (Value.string (⟨#[87, 74]⟩))]) cf66 rfl) (hasPrefix_ret x2 mkB _ (by omega) (by simp [mkB])) ?_
      rintro _ w5 ⟨rfl, rfl⟩
      cases hp : mkB.isPrefixOf x2 with
      | true =>
        have hf : flgN ((m : Int), x2) = m + 2147483648 := by simp [flgN, hp]
        rw [hf] at hnext
        refine rEnd ?_; refine run_true rfl ?_; refine run_reg rfl ?_; refine rVal rfl rfl (ymv rfl) ?_; refine rVal rfl rfl (yor32 rfl rfl (by omega) (by omega)) ?_; refine rVal rfl rfl (yas rfl) ?_; refine rEnd ?_; refine run_reg rfl ?_; refine rVal rfl rfl (ymv rfl) ?_; refine rVal rfl rfl (ymv rfl) ?_
        rw [or_flag m (by omega)]
        refine rVal rfl rfl (ycvSu64 rfl Try.underlying108 Try.underlying58 (by omega)) ?_; refine rCall rfl rfl (yc (args := [.tmp 35, .const (Value.int .i64 4)]) cf58 rfl) (fixed_ret (m + 2147483648) 4 _ (by omega) (by omega)) ?_
        rintro _ w6 ⟨rfl, hx6⟩
        refine rVal rfl rfl (ycatS rfl rfl (by first | omega | (simp; done) | (simp; omega))) ?_
        refine rVal rfl rfl (yas rfl) ?_; refine rEnd ?_; refine run_inBlock ?_; refine run_reg rfl ?_; refine rVal rfl rfl (yad rfl rfl (by omega)) ?_; refine rVal rfl rfl (ymv rfl) ?_; refine rEnd ?_
        exact (ih (k + 1, s ++ fixB (m + 2147483648) 4) w6 ⟨hkl, by simp only [hs, hnext, List.append_assoc], hx4.trans hx6⟩ (by dsimp only; omega)).sub (by repeat (first | exact Sub.nil | refine Sub.cons rfl ?_))
      | false =>
        have hf : flgN ((m : Int), x2) = m := by simp [flgN, hp]
        rw [hf] at hnext
        refine rEnd ?_; refine run_false rfl ?_; refine run_skip ?_; refine run_reg rfl ?_; refine rVal rfl rfl (ymv rfl) ?_; refine rVal rfl rfl (ymv rfl) ?_; refine rVal rfl rfl (ycvSu64 rfl Try.underlying108 Try.underlying58 (by omega)) ?_; refine rCall rfl rfl (yc (args := [.tmp 35, .const (Value.int .i64 4)]) cf58 rfl) (fixed_ret m 4 _ (by omega) (by omega)) ?_
        rintro _ w6 ⟨rfl, hx6⟩
        refine rVal rfl rfl (ycatS rfl rfl (by first | omega | (simp; done) | (simp; omega))) ?_
        refine rVal rfl rfl (yas rfl) ?_; refine rEnd ?_; refine run_inBlock ?_; refine run_reg rfl ?_; refine rVal rfl rfl (yad rfl rfl (by omega)) ?_; refine rVal rfl rfl (ymv rfl) ?_; refine rEnd ?_
        exact (ih (k + 1, s ++ fixB m 4) w6 ⟨hkl, by simp only [hs, hnext, List.append_assoc], hx4.trans hx6⟩ (by dsimp only; omega)).sub (by repeat (first | exact Sub.nil | refine Sub.cons rfl ?_))
    · skip
      have hkk : k = t.length := by omega
      subst hkk
      rw [List.take_length] at hs
      have hs' : s = descBody num t := hs
      subst hs'
      refine run_exit rfl ?_; refine run_seq ?_; refine run_reg rfl ?_; refine rVal rfl rfl (ymv rfl) ?_; refine rCall rfl rfl (yc (args := [.tmp 39]) cf57 rfl) (summed_ret (descBody num t) _ (by simp; omega)) ?_
      rintro _ w3 ⟨rfl, hx3⟩
      refine rVal rfl rfl (ymv rfl) ?_; refine rCall rfl rfl (yc (args := [.tmp 40, .tmp 41]) cf29 rfl) (filled_ret (sumB (descBody num t)) n _ (by simp; omega) hn) ?_
      rintro _ w4 ⟨rfl, hx4⟩
      refine rVal rfl rfl (yas rfl) ?_; refine rEnd ?_; refine run_ret Try.func44 rfl ?_
      exact ⟨_, rfl, rfl, (hxi.trans hx3).trans hx4⟩

/-! ### Regions -/
abbrev regV (p : Nat) (g : Geo) : Value := .agg #[ptr p 0, I (g.s : Int), I ((g.L + 2 : Nat) : Int)]
def regCs (p : Nat) (g : Geo) : List Value := [ptr p 0, I (g.s : Int), I ((g.L + 2 : Nat) : Int)]
section
variable {w : World} {p : Nat} {D : Dev} {F : Nat → Prop} {g : Geo}
theorem ring_ret (p : Nat) (g : Geo) (hg : g.Ok) (w : World) : Ret Try.prog 36 [regV p g] w fun v w' => v = I (g.L : Int) ∧ Ext w w' := by
  have h1 := hg.hB
  refine ret_of_run (e := [(0, _)]) Try.func36 rfl Try.ntmps36 rfl rfl ?_; refine run_seq ?_; refine run_reg rfl ?_; refine rValP rfl rfl (pbx rfl (cs := regCs p g) rfl) ?_
  rintro _ w1 ⟨b1, rfl, hb1, hx1, hB1⟩
  refine rVal rfl rfl (yas rfl) ?_; refine rEnd ?_; refine run_seq ?_; refine run_reg rfl ?_; refine rVal rfl rfl (yfa fl68_2 rfl) ?_; refine rVal rfl rfl (yld Try.underlying3 rfl rfl hB1 rfl) ?_; refine rVal rfl rfl (ysb rfl rfl (by omega)) ?_; refine rVal rfl rfl (yas rfl) ?_; refine rEnd ?_; refine run_ret Try.func36 rfl ?_; refine ⟨_, rfl, ?_, hx1⟩
  show I _ = I _
  congr 1; omega
theorem outside_ret (h : DevA w p D F) (hB : D.B = g.B) (hg : g.Ok) (n : Int) : Ret Try.prog 64 [regV p g, I n] w fun v w' => v = .bool (decide (g.out n)) ∧ Ext w w' := by
  have hgB := hg.hB
  refine ret_of_run (e := [(0, _), (1, _)]) Try.func64 rfl Try.ntmps64 rfl rfl ?_; refine run_seq ?_; refine run_reg rfl ?_; refine rValP rfl rfl (pbx rfl (cs := regCs p g) rfl) ?_
  rintro _ w1 ⟨b1, rfl, hb1, hx1, hB1⟩
  have h1 := h.ext hx1
  refine rVal rfl rfl (yas rfl) ?_; refine rEnd ?_; refine run_seq ?_; refine run_reg rfl ?_; refine rVal rfl rfl (ymv rfl) ?_; refine rVal rfl rfl (yge rfl rfl) ?_; refine rVal_if (fun c1 => ?_) (fun c1 => ?_)
  · skip
    refine rVal rfl rfl (ymv rfl) ?_; refine rVal rfl rfl (ymv rfl) ?_; refine rVal rfl rfl (yfa fl68_0 rfl) ?_; refine rVal rfl rfl (yld Try.underlying26 rfl rfl hB1 rfl) ?_; refine rCall rfl rfl (yc (args := [.tmp 10]) cf74 rfl) (blocksA_ret h1) ?_
    rintro _ w2 ⟨rfl, rfl⟩
    rw [hB]
    refine rVal rfl rfl (ylt rfl rfl) ?_; refine rVal_if (fun c2 => ?_) (fun c2 => ?_)
    · skip
      refine rVal rfl rfl (ypT rfl rfl) ?_; refine rVal rfl rfl (ymv rfl) ?_; refine rVal rfl rfl (ymv rfl) ?_; refine rVal rfl rfl (yfa fl68_1 rfl) ?_; refine rVal rfl rfl (yld Try.underlying3 rfl rfl hB1 rfl) ?_; refine rVal rfl rfl (ylt rfl rfl) ?_; refine rVal_if (fun c3 => ?_) (fun c3 => ?_)
      · skip
        refine rVal rfl rfl (ymv rfl) ?_; refine rSkip rfl rfl ?_; refine rSkip rfl rfl ?_; refine rSkip rfl rfl ?_; refine rSkip rfl rfl ?_; refine rSkip rfl rfl ?_; refine rSkip rfl rfl ?_; refine rSkip rfl rfl ?_; refine rVal rfl rfl (ypT rfl rfl) ?_; refine rVal rfl rfl (ypT rfl rfl) ?_; refine rVal rfl rfl (yas rfl) ?_; refine rEnd ?_; refine Run.sub (e := [(4, _)]) ?_ (by repeat (first | exact Sub.nil | refine Sub.cons rfl ?_))
        refine run_ret Try.func64 rfl ?_
        have e : g.out n := ⟨by omega, by omega, .inl (by omega)⟩
        exact ⟨_, rfl, by simp [e, resVal], hx1⟩
      · skip
        refine rVal rfl rfl (ymv rfl) ?_; refine rVal rfl rfl (ymv rfl) ?_; refine rVal rfl rfl (yfa fl68_1 rfl) ?_; refine rVal rfl rfl (yld Try.underlying3 rfl rfl hB1 rfl) ?_; refine rVal rfl rfl (yfa fl68_2 rfl) ?_; refine rVal rfl rfl (yld Try.underlying3 rfl rfl hB1 rfl) ?_; refine rVal rfl rfl (yad rfl rfl (by omega)) ?_; refine rVal rfl rfl (yge rfl rfl) ?_; refine rVal rfl rfl (ypF rfl rfl) ?_; refine rVal rfl rfl (ypT rfl rfl) ?_; refine rVal rfl rfl (yas rfl) ?_; refine rEnd ?_; refine Run.sub (e := [(4, _)]) ?_ (by repeat (first | exact Sub.nil | refine Sub.cons rfl ?_))
        refine run_ret Try.func64 rfl ?_; refine ⟨_, rfl, ?_, hx1⟩
        show Value.bool _ = Value.bool _
        congr 1
        apply decide_eq_decide.2
        unfold Geo.out
        constructor
        · intro h; exact ⟨by omega, by omega, .inr (by omega)⟩
        · rintro ⟨-, -, h | h⟩
          · omega
          · omega
    · skip
      refine rVal rfl rfl (ypT rfl rfl) ?_; refine rVal rfl rfl (ymv rfl) ?_; refine rSkip rfl rfl ?_; refine rSkip rfl rfl ?_; refine rSkip rfl rfl ?_; refine rSkip rfl rfl ?_; refine rSkip rfl rfl ?_; refine rSkip rfl rfl ?_; refine rSkip rfl rfl ?_; refine rSkip rfl rfl ?_; refine rSkip rfl rfl ?_; refine rSkip rfl rfl ?_; refine rSkip rfl rfl ?_; refine rSkip rfl rfl ?_; refine rSkip rfl rfl ?_; refine rVal rfl rfl (ypF rfl rfl) ?_; refine rVal rfl rfl (yas rfl) ?_; refine rEnd ?_; refine Run.sub (e := [(4, _)]) ?_ (by repeat (first | exact Sub.nil | refine Sub.cons rfl ?_))
      refine run_ret Try.func64 rfl ?_
      have e : ¬ g.out n := fun h => by have := h.2.1; omega
      exact ⟨_, rfl, by simp [e, resVal], hx1⟩
  · skip
    refine rVal rfl rfl (ymv rfl) ?_; refine rSkip rfl rfl ?_; refine rSkip rfl rfl ?_; refine rSkip rfl rfl ?_; refine rSkip rfl rfl ?_; refine rSkip rfl rfl ?_; refine rVal rfl rfl (ypF rfl rfl) ?_; refine rVal rfl rfl (ymv rfl) ?_; refine rSkip rfl rfl ?_; refine rSkip rfl rfl ?_; refine rSkip rfl rfl ?_; refine rSkip rfl rfl ?_; refine rSkip rfl rfl ?_; refine rSkip rfl rfl ?_; refine rSkip rfl rfl ?_; refine rSkip rfl rfl ?_; refine rSkip rfl rfl ?_; refine rSkip rfl rfl ?_; refine rSkip rfl rfl ?_; refine rSkip rfl rfl ?_; refine rSkip rfl rfl ?_; refine rVal rfl rfl (ypF rfl rfl) ?_
    refine rVal rfl rfl (yas rfl) ?_; refine rEnd ?_; refine Run.sub (e := [(4, _)]) ?_ (by repeat (first | exact Sub.nil | refine Sub.cons rfl ?_))
    refine run_ret Try.func64 rfl ?_
    have e : ¬ g.out n := fun h => by have := h.1; omega
    exact ⟨_, rfl, by simp [e, resVal], hx1⟩
theorem may_ret (h : DevA w p D F) (hB : D.B = g.B) (hg : g.Ok) : Ret Try.prog 54 [regV p g] w fun v w' => v = .bool true ∧ Ext w w' := by
  have hgB := hg.hB
  have hgL := hg.hL
  refine ret_of_run (e := [(0, _)]) Try.func54 rfl Try.ntmps54 rfl rfl ?_; refine run_seq ?_; refine run_reg rfl ?_; refine rValP rfl rfl (pbx rfl (cs := regCs p g) rfl) ?_
  rintro _ w1 ⟨b1, rfl, hb1, hx1, hB1⟩
  have h1 := h.ext hx1
  refine rVal rfl rfl (yas rfl) ?_; refine rEnd ?_; refine run_seq ?_; refine run_reg rfl ?_; refine rVal rfl rfl (yfa fl68_0 rfl) ?_; refine rVal rfl rfl (yld Try.underlying26 rfl rfl hB1 rfl) ?_; refine rCall rfl rfl (yc (args := [.tmp 5]) cf74 rfl) (blocksA_ret h1) ?_
  rintro _ w2 ⟨rfl, rfl⟩
  rw [hB]
  refine rVal rfl rfl (yas rfl) ?_; refine rEnd ?_; refine run_seq ?_; refine run_reg rfl ?_; refine rVal rfl rfl (yfa fl68_1 rfl) ?_; refine rVal rfl rfl (yld Try.underlying3 rfl rfl hB1 rfl) ?_; refine rVal rfl rfl (yge rfl rfl) ?_; refine rTrue (by (first | rfl | assumption | omega | decide)) ?_; refine rVal rfl rfl (ymv rfl) ?_; refine rVal rfl rfl (yfa fl68_2 rfl) ?_; refine rVal rfl rfl (yld Try.underlying3 rfl rfl hB1 rfl) ?_; refine rVal rfl rfl (yge rfl rfl) ?_; refine rTrue (by (first | rfl | assumption | omega | decide)) ?_; refine rVal rfl rfl (ypT rfl rfl) ?_
  refine rVal rfl rfl (ymv rfl) ?_; refine rVal rfl rfl (yfa fl68_2 rfl) ?_; refine rVal rfl rfl (yld Try.underlying3 rfl rfl hB1 rfl) ?_; refine rVal rfl rfl (ymv rfl) ?_; refine rVal rfl rfl (yle rfl rfl) ?_; refine rTrue (by (first | rfl | assumption | omega | decide)) ?_; refine rVal rfl rfl (ypT rfl rfl) ?_; refine rVal rfl rfl (ymv rfl) ?_; refine rVal rfl rfl (yfa fl68_1 rfl) ?_; refine rVal rfl rfl (yld Try.underlying3 rfl rfl hB1 rfl) ?_; refine rVal rfl rfl (ymv rfl) ?_; refine rVal rfl rfl (yfa fl68_2 rfl) ?_; refine rVal rfl rfl (yld Try.underlying3 rfl rfl hB1 rfl) ?_
  refine rVal rfl rfl (ysb rfl rfl (by omega)) ?_; refine rVal rfl rfl (yle rfl rfl) ?_; refine rTrue (by (first | rfl | assumption | omega | decide)) ?_; refine rVal rfl rfl (ypT rfl rfl) ?_; refine rVal rfl rfl (yas rfl) ?_; refine rEnd ?_; refine Run.sub (e := [(2, _)]) ?_ (by repeat (first | exact Sub.nil | refine Sub.cons rfl ?_))
  refine run_ret Try.func54 rfl ?_
  exact ⟨_, rfl, rfl, hx1⟩
theorem readyJ_ret (h : DevA w p D F) (hB : D.B = g.B) (hg : g.Ok) : Ret Try.prog 27 [regV p g] w fun v w' => v = I (if D.down then 8 else 0) ∧ Ext w w' := by
  refine ret_of_run (e := [(0, _)]) Try.func27 rfl Try.ntmps27 rfl rfl ?_; refine run_seq ?_; refine run_reg rfl ?_; refine rValP rfl rfl (pbx rfl (cs := regCs p g) rfl) ?_
  rintro _ w1 ⟨b1, rfl, hb1, hx1, hB1⟩
  have h1 := h.ext hx1
  refine rVal rfl rfl (yas rfl) ?_; refine rEnd ?_; refine run_seq ?_; refine run_block ?_; refine run_seq ?_; refine run_reg rfl ?_; refine rVal rfl rfl (yfa fl68_0 rfl) ?_; refine rVal rfl rfl (yld Try.underlying26 rfl rfl hB1 rfl) ?_; refine rVal rfl rfl (yeqpN Try.underlying26 rfl rfl) ?_; refine rVal rfl rfl (yas rfl) ?_; refine rEnd ?_; refine run_false rfl ?_; refine run_seq ?_; refine run_reg rfl ?_; refine rVal rfl rfl (yfa fl68_0 rfl) ?_; refine rVal rfl rfl (yld Try.underlying26 rfl rfl hB1 rfl) ?_; refine rCall rfl rfl (yc (args := [.tmp 9]) cf16 rfl) (downA_ret h1) ?_
  rintro _ w2 ⟨rfl, rfl⟩
  refine rVal rfl rfl (yas rfl) ?_; refine rEnd ?_
  cases hd : D.down with
  | true =>
    refine run_true rfl ?_; refine run_seq ?_; refine run_reg rfl ?_; refine rVal rfl rfl (yas rfl) ?_; refine rEnd ?_; refine run_ret Try.func27 rfl ?_
    exact ⟨_, rfl, by simp [resVal], hx1⟩
  | false =>
    refine run_false rfl ?_; refine run_seq ?_; refine run_reg rfl ?_; refine rVal rfl rfl (yldA Try.underlying68 rfl ti68 rfl (Blk.cells (n := 3) hB1 (news := [_, _, _]) rfl) rfl) ?_; refine rCall rfl rfl (yc (args := [.tmp 12]) cf54 rfl) (may_ret h1 hB hg) ?_
    rintro _ w3 ⟨rfl, hx3⟩
    refine rVal rfl rfl ((by first | exact yntd rfl | exact ynt rfl)) ?_; refine rVal rfl rfl (yas rfl) ?_; refine rEnd ?_; refine run_false rfl ?_; refine run_skip ?_; refine run_inBlock ?_; refine run_seq ?_; refine run_reg rfl ?_; refine rVal rfl rfl (yas rfl) ?_; refine rEnd ?_; refine run_ret Try.func27 rfl ?_
    exact ⟨_, rfl, by simp [resVal], hx1.trans hx3⟩
end
end Go.Proofs.Ytkhkebcflaokpaa
namespace Go.Proofs.Ytkhkebcflaokpaa
open Go Go.RowKit
set_option linter.all false
set_option maxRecDepth 100000

/-- What one step makes of a device, and answers. -/
def stepD (D : Dev) : Stp → Dev × Int
  | .put n s => D.write n s
  | .flush => D.flush
theorem runS_cons (D : Dev) (s : Stp) (r : List Stp) : runS D (s :: r) = if (stepD D s).2 = 0 then runS (stepD D s).1 r else stepD D s := by
  cases s <;> rfl
theorem small_step {D : Dev} {k : Nat} (h : D.Small k) (s : Stp) : (stepD D s).1.Small (k + 1) := by
  cases s with
  | put n s => exact small_write h n s
  | flush => exact small_flush h
theorem small_runS : ∀ (ss : List Stp) {k : Nat} {D : Dev}, D.Small k → (runS D ss).1.Small (k + ss.length)
  | [], k, D, h => h
  | s :: r, k, D, h => by
    rw [runS_cons]
    split
    · have := small_runS r (small_step h s)
      rw [List.length_cons, show k + (r.length + 1) = k + 1 + r.length by omega]; exact this
    · rw [List.length_cons]; exact (small_step h s).mono (by omega)

/-- A function value that does a step, as long as the blocks of G stay. -/
def StpC (w : World) (p : Nat) (G : Nat → Prop) (v : Value) (st : Stp) : Prop := ∃ f pp qq, v = .func (.func f) (List.toArray pp) (List.toArray qq) ∧ CF Try.prog f ∧
  ∀ w', Kp (fun i => ¬ G i) w w' → ∀ D F k, DevA w' p D F → D.Small k → k ≤ 1000000 → Ret Try.prog f (pp ++ [] ++ qq) w' fun v w'' => v = I (stepD D st).2 ∧ DevT w' p F (stepD D st).1 w''
theorem StpC.kp {S G : Nat → Prop} {w w' : World} {p : Nat} {v : Value} {st : Stp} (h : StpC w p G v st) (k : Kp S w w') (hn : ∀ i, S i → ¬ G i) : StpC w' p G v st := by
  obtain ⟨f, pp, qq, e, hf, hr⟩ := h
  exact ⟨f, pp, qq, e, hf, fun w2 k2 => hr w2 ((k.mono' hn).trans k2)⟩
theorem StpC.mono {G G' : Nat → Prop} {w : World} {p : Nat} {v : Value} {st : Stp} (h : StpC w p G v st) (hs : ∀ i, i < w.heap.size → G i → G' i) : StpC w p G' v st := by
  obtain ⟨f, pp, qq, e, hf, hr⟩ := h
  exact ⟨f, pp, qq, e, hf, fun w2 k2 => hr w2 (k2.mono fun i hi hn hg => hn (hs i hi hg))⟩
theorem StpC.one {G : Nat → Prop} {w : World} {p : Nat} {v : Value} {st : Stp} (h : StpC w p G v st) : oneV v = true := by
  obtain ⟨f, pp, qq, rfl, -⟩ := h; rfl
/-- Values that do the steps of a list. -/
def StpsM (w : World) (p : Nat) (G : Nat → Prop) : List Value → List Stp → Prop
  | [], [] => True
  | v :: vs, s :: ss => StpC w p G v s ∧ StpsM w p G vs ss
  | _, _ => False
theorem StpsM.len {w : World} {p : Nat} {G : Nat → Prop} : ∀ {vs : List Value} {ss : List Stp}, StpsM w p G vs ss → vs.length = ss.length
  | [], [], _ => rfl
  | _ :: vs, _ :: ss, h => by simp [StpsM.len h.2]
  | [], _ :: _, h => h.elim
  | _ :: _, [], h => h.elim
theorem StpsM.kp {S G : Nat → Prop} {w w' : World} {p : Nat} (k : Kp S w w') (hn : ∀ i, S i → ¬ G i) : ∀ {vs : List Value} {ss : List Stp}, StpsM w p G vs ss → StpsM w' p G vs ss
  | [], [], _ => trivial
  | _ :: vs, _ :: ss, h => ⟨h.1.kp k hn, StpsM.kp k hn h.2⟩
  | [], _ :: _, h => h.elim
  | _ :: _, [], h => h.elim
theorem StpsM.mono {G G' : Nat → Prop} {w : World} {p : Nat} (hs : ∀ i, i < w.heap.size → G i → G' i) : ∀ {vs : List Value} {ss : List Stp}, StpsM w p G vs ss → StpsM w p G' vs ss
  | [], [], _ => trivial
  | _ :: vs, _ :: ss, h => ⟨h.1.mono hs, StpsM.mono hs h.2⟩
  | [], _ :: _, h => h.elim
  | _ :: _, [], h => h.elim
theorem StpsM.app {G : Nat → Prop} {w : World} {p : Nat} : ∀ {vs : List Value} {ss : List Stp} {us : List Value} {ts : List Stp}, StpsM w p G vs ss → StpsM w p G us ts → StpsM w p G (vs ++ us) (ss ++ ts)
  | [], [], _, _, _, h => h
  | _ :: vs, _ :: ss, _, _, h, h' => ⟨h.1, StpsM.app h.2 h'⟩
  | [], _ :: _, _, _, h, _ => h.elim
  | _ :: _, [], _, _, h, _ => h.elim
theorem StpsM.get {G : Nat → Prop} {w : World} {p : Nat} : ∀ {vs : List Value} {ss : List Stp}, StpsM w p G vs ss → ∀ {i : Nat}, i < vs.length → ∃ v s, vs[i]? = some v ∧ ss[i]? = some s ∧ StpC w p G v s
  | [], [], _, i, hi => by simp at hi
  | v :: vs, s :: ss, h, 0, _ => ⟨v, s, rfl, rfl, h.1⟩
  | v :: vs, s :: ss, h, i + 1, hi => by
    obtain ⟨v', s', h1, h2, h3⟩ := StpsM.get h.2 (i := i) (by simpa using hi)
    exact ⟨v', s', by simpa using h1, by simpa using h2, h3⟩
  | [], _ :: _, h, _, _ => h.elim
  | _ :: _, [], h, _, _ => h.elim
theorem StpsM.ext {G : Nat → Prop} {w w' : World} {p : Nat} {vs : List Value} {ss : List Stp} (h : StpsM w p G vs ss) (k : Ext w w') : StpsM w' p G vs ss := StpsM.kp k (fun _ h => h.elim) h
theorem StpsM.one {G : Nat → Prop} {w : World} {p : Nat} : ∀ {vs : List Value} {ss : List Stp}, StpsM w p G vs ss → ∀ c ∈ vs, c.oneCell' = true
  | [], [], _ => fun c hc => by simp at hc
  | v :: vs, s :: ss, h => fun c hc => by
    rcases List.mem_cons.1 hc with rfl | hc
    · exact oneV_one h.1.one
    · exact StpsM.one h.2 c hc
  | [], _ :: _, h => h.elim
  | _ :: _, [], h => h.elim

section
variable {w : World} {p : Nat} {D : Dev} {F : Nat → Prop} {g : Geo}
theorem putS_ret (n : Int) (s : Bytes) {b3 b4 b5 : Nat} {T3 T4 T5 : TypeId} (h3 : Blk w b3 (regCs p g) T3) (h4 : Blk w b4 [I n] T4) (h5 : Blk w b5 [S s] T5) (h : DevA w p D F) {k : Nat} (hs : D.Small k) (hk : k ≤ 1000000) :
    Ret Try.prog 55 [ptr b3 0, ptr b4 0, ptr b5 0] w fun v w' => v = I (D.write n s).2 ∧ DevT w p F (D.write n s).1 w' := by
  refine ret_of_run (e := [(0, _), (1, _), (2, _)]) Try.func55 rfl Try.ntmps55 rfl rfl ?_; refine run_seq ?_; refine run_reg rfl ?_; refine rVal rfl rfl (yas rfl) ?_; refine rEnd ?_; refine run_seq ?_; refine run_reg rfl ?_; refine rVal rfl rfl (yfa fl68_0 rfl) ?_; refine rVal rfl rfl ((by first | exact yld Try.underlying26 rfl rfl h3 rfl | exact yld Try.underlying26 rfl rfl h4 rfl | exact yld Try.underlying26 rfl rfl h5 rfl)) ?_; refine rVal rfl rfl ((by first | exact yld Try.underlying3 rfl rfl h3 rfl | exact yld Try.underlying3 rfl rfl h4 rfl | exact yld Try.underlying3 rfl rfl h5 rfl)) ?_
  refine rVal rfl rfl ((by first | exact yld Try.underlying9 rfl rfl h3 rfl | exact yld Try.underlying9 rfl rfl h4 rfl | exact yld Try.underlying9 rfl rfl h5 rfl)) ?_; refine rCall rfl rfl (yc (args := [.tmp 5, .tmp 6, .tmp 7]) cf56 rfl) (writeA_ret n s h hs hk) ?_
  rintro _ w1 ⟨rfl, h1⟩
  refine rVal rfl rfl (yas rfl) ?_; refine rEnd ?_; refine run_ret Try.func55 rfl ?_
  exact ⟨_, rfl, rfl, h1⟩
theorem put_ret (p : Nat) (g : Geo) (n : Int) (s : Bytes) (w : World) : Ret Try.prog 28 [regV p g, I n, S s] w fun v w' => ∃ x, v = .agg #[x] ∧ StpC w' p (fun i => w.heap.size ≤ i) x (.put n s) ∧ Ext w w' := by
  refine ret_of_run (e := [(0, _), (1, _), (2, _)]) Try.func28 rfl Try.ntmps28 rfl rfl ?_; refine run_seq ?_; refine run_reg rfl ?_; refine rValP rfl rfl (pbx rfl (cs := regCs p g) rfl) ?_
  rintro _ w1 ⟨b3, rfl, hb3, hx1, hB3⟩
  refine rValP rfl rfl (pbx rfl rfl) ?_
  rintro _ w2 ⟨b4, rfl, hb4, hx2, hB4⟩
  refine rValP rfl rfl (pbx rfl rfl) ?_
  rintro _ w3 ⟨b5, rfl, hb5, hx3, hB5⟩
  refine rValP rfl rfl (pal (cs := [_]) ti71 rfl) ?_
  rintro _ w4 ⟨b6, rfl, hb6, hx4, hB6⟩
  refine rEnd ?_; refine run_seq ?_; refine run_reg rfl ?_; refine rVal rfl rfl (ymf (first := []) (caps := [.tmp 3, .tmp 4, .tmp 5]) rfl rfl) ?_; refine rVal rfl rfl (ybd (parts := [(0, .tmp 7)]) (cs := [_]) ti71 rfl sp71 rfl rfl) ?_; refine rEffP rfl (zstA ti71 rfl rfl rfl rfl hB6 (by simp)) ?_
  rintro w5 ⟨hB6', hk5⟩
  have hs1 := hx1.size
  have hs2 := hx2.size
  have hs3 := hx3.size
  have hx5 : Ext w3 w5 := hx4.trans_new hk5 (fun i hi => by omega)
  refine rEnd ?_; refine run_retR Try.func28 (.cell Try.underlying71 rfl ti71 rfl (Blk.cells (n := 1) hB6' (news := [_]) rfl) rfl .nil) ?_; refine ⟨_, rfl, _, rfl, ⟨_, [], [ptr b3 0, ptr b4 0, ptr b5 0], rfl, cf55, fun w' k D F c hD hS hc => ?_⟩, ((hx1.trans hx2).trans hx3).trans hx5⟩
  have h3 : Blk w' b3 (regCs p g) _ := k.blk (hx5.blk (hx3.blk (hx2.blk hB3))) (fun hn => hn (by omega))
  have h4 : Blk w' b4 [I n] _ := k.blk (hx5.blk (hx3.blk hB4)) (fun hn => hn (by omega))
  have h5 : Blk w' b5 [S s] _ := k.blk (hx5.blk hB5) (fun hn => hn (by omega))
  exact putS_ret n s h3 h4 h5 hD hS hc
theorem flushJ_ret (p : Nat) (g : Geo) (w : World) : Ret Try.prog 30 [regV p g] w fun v w' => ∃ x, v = .agg #[x] ∧ StpC w' p (fun i => w.heap.size ≤ i) x .flush ∧ Ext w w' := by
  refine ret_of_run (e := [(0, _)]) Try.func30 rfl Try.ntmps30 rfl rfl ?_; refine run_seq ?_; refine run_reg rfl ?_; refine rValP rfl rfl (pbx rfl (cs := regCs p g) rfl) ?_
  rintro _ w1 ⟨b1, rfl, hb1, hx1, hB1⟩
  refine rValP rfl rfl (pal (cs := [_]) ti71 rfl) ?_
  rintro _ w2 ⟨b2, rfl, hb2, hx2, hB2⟩
  refine rEnd ?_; refine run_seq ?_; refine run_reg rfl ?_; refine rVal rfl rfl (yfa fl68_0 rfl) ?_; refine rVal rfl rfl (yld Try.underlying26 rfl rfl (hx2.blk hB1) rfl) ?_; refine rVal rfl rfl (ymf (first := [.tmp 4]) (caps := []) rfl rfl) ?_; refine rVal rfl rfl (ybd (parts := [(0, .tmp 5)]) (cs := [_]) ti71 rfl sp71 rfl rfl) ?_; refine rEffP rfl (zstA ti71 rfl rfl rfl rfl hB2 (by simp)) ?_
  rintro w3 ⟨hB3, hk3⟩
  have hs1 := hx1.size
  refine rEnd ?_; refine run_retR Try.func30 (.cell Try.underlying71 rfl ti71 rfl (Blk.cells (n := 1) hB3 (news := [_]) rfl) rfl .nil) ?_
  exact ⟨_, rfl, _, rfl, ⟨_, [ptr p 0], [], rfl, cf12, fun w' k D F c hD hS hc => flushA_ret hD hS hc⟩, hx1.trans (hx2.trans_new hk3 (fun i hi => by omega))⟩

theorem runJ_ret (lv : Value) (vs : List Value) (ss : List Stp) (G : Nat → Prop) (hr : Rd w lv 1 vs.length vs) (hs : StpsM w p G vs ss) (hlv : ∀ b, lv.ownBlock = some b → G b) (h : DevA w p D F) (hd : ∀ i, F i → ¬ G i) (hG : ∀ i, G i → i < w.heap.size) {c : Nat} (hsm : D.Small c) (hc : c + ss.length ≤ 1000000) :
    Ret Try.prog 32 [lv] w fun v w' => v = I (runS D ss).2 ∧ DevT w p F (runS D ss).1 w' := by
  have hml : maxLen = 9223372036854775807 := rfl
  have hlen := hs.len
  obtain ⟨al, cl, rfl, -⟩ := hr.shape
  refine ret_of_run (e := [(0, _)]) Try.func32 rfl Try.ntmps32 rfl rfl ?_; refine run_seq ?_; refine run_reg rfl ?_; refine rVal rfl rfl (yas rfl) ?_; refine rEnd ?_; refine run_seq ?_; refine run_seq ?_; refine run_reg rfl ?_; refine rVal rfl rfl (ymv rfl) ?_; refine rVal rfl rfl (yln Try.underlying69 rfl) ?_; refine rVal rfl rfl (ymv rfl) ?_; refine rEnd ?_; refine run_block ?_
  refine run_loop (α := Nat × Dev) ((0, D)) (fun x => [(6, .slice al vs.length cl), (7, I (vs.length : Int)), (8, I (x.1 : Int))]) (fun x w' => x.1 ≤ ss.length ∧ runS D ss = runS x.2 (ss.drop x.1) ∧ x.2.Small (c + x.1) ∧ DevT w p F x.2 w') (fun x => ss.length - x.1) (by repeat (first | exact Sub.nil | refine Sub.cons rfl ?_)) ?hI ?hround
  case hI => exact ⟨by dsimp only; omega, rfl, hsm, F, h, Upd.refl F w⟩
  case hround =>
    rintro ⟨k, Dk⟩ wi ⟨hk, hrun, hsk, Fk, hAk, huk⟩ ih
    dsimp only at hk hrun hsk hAk
    try dsimp only
    refine run_seq ?_; refine run_reg rfl ?_; refine rVal rfl rfl (ylt rfl rfl) ?_; refine rEnd ?_; refine run_seq ?_; refine run_if rfl (fun hlt => ?_) (fun hlt => ?_)
    · skip
      have hkl : k < vs.length := by omega
      have hdk := huk.dis hG hd
      have hri := hr.kp huk.1 (fun b hb hf => hd b hf (hlv b hb))
      obtain ⟨x, st, hx, hst, hC⟩ := (StpsM.kp huk.1 hd hs).get hkl
      rcases hri.2 with ⟨cc, -, hz⟩ | ⟨b, off, cap, hv, hcell⟩
      · omega
      cases hv
      have hcx := hcell k x hx
      have hone := hC.one
      obtain ⟨f, pp, qq, rfl, hcf, hcall⟩ := hC
      refine run_skip ?_; refine run_seq ?_; refine run_block ?_; refine run_seq ?_; refine run_reg rfl ?_; refine rVal rfl rfl (yis Try.underlying69 ti71 rfl rfl (by omega)) ?_; refine rVal rfl rfl (yldA (news := [.func (.func f) pp.toArray qq.toArray]) Try.underlying71 rfl ti71 rfl (fun j u hj => by match j, hj with | 0, hj => simp at hj; subst hj; simpa using hcx | j + 1, hj => simp at hj) rfl) ?_
      refine rValP rfl rfl (pal (cs := [_]) ti71 rfl) ?_
      rintro _ w3 ⟨b4, rfl, hb4, hx3, hB4⟩
      refine rEffP rfl (zstA (news := [.func (.func f) pp.toArray qq.toArray]) ti71 rfl rfl rfl rfl hB4 (by simp)) ?_
      rintro w4 ⟨hB4', hk4⟩
      have hx4 : Ext wi w4 := hx3.trans_new hk4 (fun i hi => by omega)
      replace hB4' : Blk w4 b4 [.func (.func f) pp.toArray qq.toArray] 71 := hB4'
      refine rEnd ?_; refine run_seq ?_; refine run_reg rfl ?_; refine rVal rfl rfl (yfa fl71_0 rfl) ?_; refine rVal rfl rfl (yld Try.underlying41 rfl rfl hB4' rfl) ?_; refine rCall rfl rfl (ycv' (args := []) hcf rfl rfl) (hcall w4 (hx4.kp) Dk Fk (c + k) (hAk.ext hx4) hsk (by omega)) ?_
      rintro _ w5 ⟨rfl, F5, hA5, hu5⟩
      have hu : Upd F F5 w w5 := huk.trans ((hx4.upd (F := Fk)).trans hu5)
      have hcons : ss.drop k = st :: ss.drop (k + 1) := by
        have hkl' : k < ss.length := by omega
        rw [List.drop_eq_getElem_cons hkl']
        rw [List.getElem?_eq_getElem hkl'] at hst
        rw [Option.some.inj hst]
      rw [hcons, runS_cons] at hrun
      refine rVal rfl rfl (yas rfl) ?_; refine rEnd ?_; refine run_seq ?_; refine run_reg rfl ?_; refine rVal rfl rfl (ymv rfl) ?_; refine rVal rfl rfl (yne rfl rfl) ?_; refine rEnd ?_; refine run_if rfl (fun hne => ?_) (fun hne => ?_)
      · skip
        refine run_seq ?_; refine run_reg rfl ?_; refine rVal rfl rfl (ymv rfl) ?_; refine rVal rfl rfl (yas rfl) ?_; refine rEnd ?_; refine run_ret Try.func32 rfl ?_
        rw [if_neg hne] at hrun
        rw [hrun]
        exact ⟨_, rfl, rfl, F5, hA5, hu⟩
      · skip
        have h0 : (stepD Dk st).2 = 0 := by omega
        rw [if_pos h0] at hrun
        refine run_skip ?_; refine run_inBlock ?_; refine run_reg rfl ?_; refine rVal rfl rfl (yad rfl rfl (by omega)) ?_; refine rVal rfl rfl (ymv rfl) ?_; refine rEnd ?_
        exact (ih (k + 1, (stepD Dk st).1) w5 ⟨by dsimp only; omega, hrun, by have := small_step hsk st; exact this.mono (by dsimp only; omega), F5, hA5, hu⟩ (by dsimp only; omega)).sub (by repeat (first | exact Sub.nil | refine Sub.cons rfl ?_))
    · skip
      have hkk : k = ss.length := by omega
      subst hkk
      rw [List.drop_length] at hrun
      refine run_exit rfl ?_; refine run_seq ?_; refine run_reg rfl ?_; refine rVal rfl rfl (yas rfl) ?_; refine rEnd ?_; refine run_ret Try.func32 rfl ?_
      rw [hrun]
      exact ⟨_, rfl, rfl, Fk, hAk, huk⟩
end
end Go.Proofs.Ytkhkebcflaokpaa
namespace Go.Proofs.Ytkhkebcflaokpaa
open Go Go.RowKit
set_option linter.all false
set_option maxRecDepth 100000

/-- A list of steps that a call has built since w0. -/
def StL (w0 w : World) (p : Nat) (sv : Value) (ss : List Stp) : Prop := ∃ (vs : List Value) (G : Nat → Prop), Sl w sv 71 1 vs.length vs ∧ StpsM w p G vs ss ∧ (∀ i, G i → w0.heap.size ≤ i ∧ i < w.heap.size) ∧ (∀ i, sv.ownBlock = some i → w0.heap.size ≤ i ∧ ¬ G i)
theorem stl_nil (w0 w : World) (p : Nat) : StL w0 w p (.slice none 0 0) [] := ⟨[], fun _ => False, ⟨rfl, .inl ⟨rfl, rfl⟩⟩, trivial, fun _ h => h.elim, fun _ h => by cases h⟩
theorem StL.ext {w0 w w' : World} {p : Nat} {sv : Value} {ss : List Stp} (h : StL w0 w p sv ss) (k : Ext w w') : StL w0 w' p sv ss := by
  obtain ⟨vs, G, h1, h2, h3, h4⟩ := h
  exact ⟨vs, G, h1.ext k, h2.ext k, fun i hi => ⟨(h3 i hi).1, Nat.lt_of_lt_of_le (h3 i hi).2 k.size⟩, h4⟩
theorem stl_app {w0 w1 w2 w3 w4 : World} {p : Nat} {sv v' : Value} {ss ts : List Stp} {vs us : List Value} {G : Nat → Prop} (hM : StpsM w1 p G vs ss) (hG : ∀ i, G i → w0.heap.size ≤ i ∧ i < w1.heap.size) (ho : ∀ i, sv.ownBlock = some i → w0.heap.size ≤ i ∧ ¬ G i) (hsv : ∀ i, sv.ownBlock = some i → i < w1.heap.size)
    (h01 : w0.heap.size ≤ w1.heap.size) (hx : Ext w1 w2) (hN : StpsM w2 p (fun i => w1.heap.size ≤ i) us ts) (hx3 : Ext w2 w3) {n : Nat} (hS : Sl w4 v' 71 1 n (vs ++ us)) (hn : n = vs.length + us.length) (hk : Kp (fun k => sv.ownBlock = some k) w3 w4) (hown : ∀ g, v'.ownBlock = some g → sv.ownBlock = some g ∨ w3.heap.size ≤ g) : StL w0 w4 p v' (ss ++ ts) := by
  have hs2 := hx.size
  have hs3 := hx3.size
  have hs4 := hk.size
  refine ⟨vs ++ us, fun i => G i ∨ (w1.heap.size ≤ i ∧ i < w2.heap.size), by rw [List.length_append, ← hn]; exact hS, ?_, fun i hi => ?_, fun i hi => ?_⟩
  · have hd : ∀ i, sv.ownBlock = some i → ¬ (G i ∨ (w1.heap.size ≤ i ∧ i < w2.heap.size)) := fun i hi h => by
      rcases h with h | h
      · exact (ho i hi).2 h
      · have := hsv i hi; omega
    refine StpsM.app ?_ ?_
    · exact StpsM.kp hk hd (((StpsM.mono (fun i _ h => .inl h) hM).ext hx).ext hx3)
    · exact StpsM.kp hk hd ((StpsM.mono (fun i hi h => .inr ⟨h, hi⟩) hN).ext hx3)
  · rcases hi with hi | hi
    · have := hG i hi; omega
    · omega
  · rcases hown i hi with h | h
    · refine ⟨(ho i h).1, fun h' => ?_⟩
      rcases h' with h' | h'
      · exact (ho i h).2 h'
      · have := hsv i h; omega
    · refine ⟨by omega, fun h' => ?_⟩
      rcases h' with h' | h'
      · have := (hG i h').2; omega
      · omega
theorem blankW_length (g : Geo) : ∀ n, (blankW g n).length = n
  | 0 => rfl
  | n + 1 => by simp [blankW, blankW_length g n]
section
variable {w0 w : World} {p : Nat} {D : Dev} {F : Nat → Prop} {g : Geo}
theorem runL_ret {sv : Value} {ss : List Stp} (hl : StL w0 w p sv ss) (h : DevA w p D F) (hF : ∀ i, F i → i < w0.heap.size) {c : Nat} (hsm : D.Small c) (hc : c + ss.length ≤ 1000000) :
    Ret Try.prog 32 [sv] w fun v w' => v = I (runS D ss).2 ∧ DevT w p F (runS D ss).1 w' := by
  obtain ⟨vs, G, h1, h2, h3, h4⟩ := hl
  refine runJ_ret sv vs ss (fun i => G i ∨ sv.ownBlock = some i) h1.rd (StpsM.mono (fun i _ h => .inl h) h2) (fun b hb => .inr hb) h (fun i hi h' => ?_) (fun i hi => ?_) hsm hc
  · have := hF i hi
    rcases h' with h' | h'
    · have := (h3 i h').1; omega
    · have := (h4 i h').1; omega
  · rcases hi with hi | hi
    · exact (h3 i hi).2
    · exact h1.lt hi

set_option maxHeartbeats 1000000 in
theorem format_ret (h : DevA w p D F) (hB : D.B = g.B) (hN : D.N = g.N) (hd : D.down = false) (hg : g.Ok) (hs : g.s ≤ 1000) {c : Nat} (hsm : D.Small c) (hc : c ≤ 900000) :
    Ret Try.prog 7 [ptr p 0, I (g.s : Int), I ((g.L + 2 : Nat) : Int)] w fun v w' => v = I (runS D (formatS g)).2 ∧ DevT w p F (runS D (formatS g)).1 w' := by
  have hml : maxLen = 9223372036854775807 := rfl
  have hgB := hg.hB
  have hgN := hg.hN
  have hFl := h.lt
  refine ret_of_run (e := [(0, _), (1, _), (2, _)]) Try.func7 rfl Try.ntmps7 rfl rfl ?_; refine run_seq ?_; refine run_reg rfl ?_; refine rVal rfl rfl (yas rfl) ?_; refine rEnd ?_; refine run_seq ?_; refine run_reg rfl ?_; refine rVal rfl rfl (ymv rfl) ?_; refine rVal rfl rfl (ymv rfl) ?_; refine rVal rfl rfl (ymv rfl) ?_; refine rVal rfl rfl (ybd (parts := [(0, .tmp 11), (1, .tmp 12), (2, .tmp 13)]) (cs := [_, _, _]) ti68 rfl sp68 rfl rfl) ?_; refine rValP rfl rfl (pal (cs := [_, _, _]) ti68 rfl) ?_
  rintro _ w1 ⟨b7, rfl, hb7, hx1, hB7⟩
  refine rEffP rfl (zstA ti68 rfl rfl rfl rfl hB7 (by simp)) ?_
  rintro w2 ⟨hB2, hk2⟩
  replace hB2 : Blk w2 b7 (regCs p g) 68 := hB2
  have hx2 : Ext w w2 := hx1.trans_new hk2 (fun i hi => by omega)
  refine rEnd ?_; refine run_seq ?_; refine run_seq ?_; refine run_reg rfl ?_; refine rVal rfl rfl (yldA Try.underlying68 rfl ti68 rfl (Blk.cells (n := 3) hB2 (news := [_, _, _]) rfl) rfl) ?_; refine rCall rfl rfl (yc (args := [.tmp 15]) cf27 rfl) (readyJ_ret (h.ext hx2) hB hg) ?_
  rintro _ w3 ⟨rfl, hx3⟩
  rw [hd]
  refine rVal rfl rfl (yas rfl) ?_; refine rEnd ?_; refine run_seq ?_; refine run_reg rfl ?_; refine rVal rfl rfl (ymv rfl) ?_; refine rVal rfl rfl (yne rfl rfl) ?_; refine rEnd ?_; refine run_false rfl ?_
  have hx03 := hx2.trans hx3
  refine run_skip ?_; refine run_seq ?_; refine run_reg rfl ?_; refine rVal rfl rfl (yas rfl) ?_; refine rEnd ?_; refine run_seq ?_; refine run_seq ?_; refine run_reg rfl ?_; refine rVal rfl rfl (ymv rfl) ?_; refine rVal rfl rfl (ymv rfl) ?_; refine rEnd ?_; refine run_block ?_
  refine run_loop (α := Nat × Value) ((0, .slice none 0 0)) (fun x => [(0, ptr p 0), (1, I (g.s : Int)), (2, I ((g.L + 2 : Nat) : Int)), (7, ptr b7 0), (9, x.2), (20, I ((g.L + 2 : Nat) : Int)), (21, I (x.1 : Int))]) (fun x w' => x.1 ≤ g.L + 2 ∧ Ext w2 w' ∧ StL w2 w' p x.2 (puts (blankW g x.1))) (fun x => g.L + 2 - x.1) (by repeat (first | exact Sub.nil | refine Sub.cons rfl ?_)) ?hI ?hround
  case hI => exact ⟨Nat.zero_le _, hx3, stl_nil _ _ _⟩
  case hround =>
    rintro ⟨k, sv⟩ wi ⟨hk, hxi, hL⟩ ih
    dsimp only at hk hL
    have hx0i := hx2.trans hxi
    have hDi := h.ext hx0i
    have hB7i := hxi.blk hB2
    obtain ⟨vs, G, hS, hM, hG, ho⟩ := hL
    have hlen := hM.len
    rw [puts_length, blankW_length] at hlen
    have hsl := fun i hi => hS.lt (g := i) hi
    have hs2i := hxi.size
    have hb7l := hB2.lt
    obtain ⟨sa, sc, rfl, -⟩ := hS.rd.shape
    try dsimp only
    refine run_seq ?_; refine run_reg rfl ?_; refine rVal rfl rfl (ylt rfl rfl) ?_; refine rEnd ?_; refine run_seq ?_; refine run_if rfl (fun hlt => ?_) (fun hlt => ?_)
    · skip
      have hkl : k < g.L + 2 := by omega
      have hz : (zeros g.size).length = g.size := zeros_length _
      refine run_skip ?_; refine run_seq ?_; refine run_block ?_; refine run_seq ?_; refine run_reg rfl ?_; refine rVal rfl rfl (ymv rfl) ?_; refine rVal rfl rfl (yas rfl) ?_; refine rEnd ?_; refine run_draw (fun w' => Kp (fun k => (Value.slice sa vs.length sc).ownBlock = some k) wi w') (by kernel_rfl) rfl ?_; refine hTake (i := 0) rfl (by kernel_rfl) rfl rfl (fun _ hS => ymv rfl) ((Ext.drew0 wi).kp) ?_
      refine hTake (i := 1) rfl (by kernel_rfl) rfl rfl (fun _ hS => yldA Try.underlying68 rfl ti68 rfl (Blk.cells (n := 3) (hS.blk hB7i (fun hi => by have := (ho _ hi).1; omega)) (news := [_, _, _]) rfl) rfl) ((Ext.drew0 wi).kp) ?_
      refine hTake (i := 2) rfl (by kernel_rfl) rfl rfl (fun _ hS => ymv rfl) ((Ext.drew0 wi).kp) ?_; refine hTake (i := 3) rfl (by kernel_rfl) rfl rfl (fun _ hS => ymv rfl) ((Ext.drew0 wi).kp) ?_; refine hTake (i := 4) rfl (by kernel_rfl) rfl rfl (fun _ hS => yad rfl rfl (by omega)) ((Ext.drew0 wi).kp) ?_; refine hTake (i := 5) rfl (by kernel_rfl) rfl rfl (fun _ hS => ymv rfl) ((Ext.drew0 wi).kp) ?_; refine hOne (i := 6) (by kernel_rfl) ?_; refine nCall (i := 6) rfl rfl rfl (yc (args := [.tmp 29]) cf20 rfl) (sizeA_ret (hDi.ext (Ext.drew0 wi))) ?_
      rintro _ w4 ⟨rfl, rfl⟩
      refine ⟨(Ext.drew0 wi).kp, ?_⟩
      rw [hN]
      refine hOne (i := 7) (by kernel_rfl) ?_; refine nCall (i := 7) rfl rfl rfl (yc (args := [.const (Value.string (⟨#[]⟩)), .tmp 30]) cf29 rfl) (filled_ret [] g.size _ (by simp) (by unfold Geo.size; omega)) ?_
      rintro _ w5 ⟨rfl, hx5⟩
      refine ⟨((Ext.drew0 wi).trans hx5).kp, ?_⟩
      rw [show filB [] g.size = zeros g.size from by simp [filB]]
      rw [show ((g.s : Int) + (k : Int)) = ((g.s + k : Nat) : Int) from by omega]
      refine hOne (i := 8) (by kernel_rfl) ?_; refine nCall (i := 8) rfl rfl rfl (yc (args := [.tmp 25, .tmp 28, .tmp 31]) cf28 rfl) (put_ret p g ((g.s + k : Nat) : Int) (zeros g.size) _) ?_
      rintro _ w6 ⟨x, rfl, hC6, hx6⟩
      refine ⟨(((Ext.drew0 wi).trans hx5).trans hx6).kp, ?_⟩
      have hx56 := ((Ext.drew0 wi).trans hx5).trans hx6
      have hs5 := ((Ext.drew0 wi).trans hx5).size
      refine hOne (i := 9) (by kernel_rfl) ?_; refine nValP (i := 9) rfl rfl rfl (pbs (parts := [(0, .tmp 32)]) (cs := [_]) (zs := [Value.nilFunc]) Try.underlying69 ti71 rfl (by kernel_rfl) rfl rfl rfl (by decide)) ?_
      rintro _ w7 ⟨b33, rfl, ⟨hb33, hx7, hB33⟩, hS33⟩
      refine ⟨(hx56.trans hx7).kp, ?_⟩
      refine hOne (i := 10) (by kernel_rfl) ?_; refine nValP (i := 10) rfl rfl rfl (pap Try.underlying69 ti71 rfl (by decide) rfl rfl (hS.ext (hx56.trans hx7)) hS33.rd (by intro c hc; simp at hc; subst hc; exact oneV_one hC6.one) (by omega) (by omega)) ?_
      rintro v' w8 ⟨hS8, hk8, hown8, -⟩
      refine ⟨(hx56.trans hx7).kp.trans hk8, ?_⟩
      refine hTake (i := 11) rfl (by kernel_rfl) rfl rfl (fun _ hS => yas rfl) ((hx56.trans hx7).kp.trans hk8) ?_; refine hEnd (by kernel_rfl) ?_; refine run_inBlock ?_; refine run_reg rfl ?_; refine rVal rfl rfl (yad rfl rfl (by omega)) ?_; refine rVal rfl rfl (ymv rfl) ?_; refine rEnd ?_
      have hs56 := hx56.size
      have hx2i := (hxi.trans (hx56.trans hx7))
      have hx8 : Ext w2 w8 := hx2i.trans_new hk8 (fun i hi => (ho i hi).1)
      refine (ih (k + 1, v') w8 ⟨hkl, hx8, ?_⟩ (by dsimp only; omega)).sub (by repeat (first | exact Sub.nil | refine Sub.cons rfl ?_))
      have hbl : puts (blankW g (k + 1)) = puts (blankW g k) ++ [.put ((g.s + k : Nat) : Int) (zeros g.size)] := by simp [blankW]
      rw [hbl]
      exact stl_app (w1 := wi) (w2 := w6) (w3 := w7) (us := [x]) hM hG ho hsl hs2i hx56 ⟨hC6.mono (fun i _ hi => Nat.le_trans hs5 hi), trivial⟩ hx7 hS8 rfl hk8 hown8
    · skip
      have hkk : k = g.L + 2 := by omega
      subst hkk
      have hcap : (Value.slice sa vs.length sc).ownBlock ≠ some b7 := fun hi => by have := (ho _ hi).1; omega
      have hz : (zeros g.size).length = g.size := zeros_length _
      refine run_exit rfl ?_; refine run_seq ?_; refine run_draw (fun w' => Kp (fun k => (Value.slice sa vs.length sc).ownBlock = some k) wi w') (by kernel_rfl) rfl ?_; refine hTake (i := 0) rfl (by kernel_rfl) rfl rfl (fun _ hS => ymv rfl) ((Ext.drew0 wi).kp) ?_; refine hTake (i := 1) rfl (by kernel_rfl) rfl rfl (fun _ hS => yldA Try.underlying68 rfl ti68 rfl (Blk.cells (n := 3) (hS.blk hB7i (fun hi => by have := (ho _ hi).1; omega)) (news := [_, _, _]) rfl) rfl) ((Ext.drew0 wi).kp) ?_
      refine hTake (i := 3) rfl (by kernel_rfl) rfl rfl (fun _ hS => yldA Try.underlying68 rfl ti68 rfl (Blk.cells (n := 3) (hS.blk hB7i (fun hi => by have := (ho _ hi).1; omega)) (news := [_, _, _]) rfl) rfl) ((Ext.drew0 wi).kp) ?_
      refine hTake (i := 4) rfl (by kernel_rfl) rfl rfl (fun _ hS => ymv rfl) ((Ext.drew0 wi).kp) ?_; refine hTake (i := 5) rfl (by kernel_rfl) rfl rfl (fun _ hS => ybd (parts := [(0, .const (Value.int .u64 1)), (2, .const (Value.int .u64 1))]) (cs := [_, _, _]) ti76 rfl sp76 rfl rfl) ((Ext.drew0 wi).kp) ?_; refine hTake (i := 6) rfl (by kernel_rfl) rfl rfl (fun _ hS => ymv rfl) ((Ext.drew0 wi).kp) ?_
      refine hTake (i := 10) rfl (by kernel_rfl) rfl rfl (fun _ hS => yldA Try.underlying68 rfl ti68 rfl (Blk.cells (n := 3) (hS.blk hB7i (fun hi => by have := (ho _ hi).1; omega)) (news := [_, _, _]) rfl) rfl) ((Ext.drew0 wi).kp) ?_
      have h0 := (Ext.drew0 wi)
      refine hOne (i := 2) (by kernel_rfl) ?_; refine nCall (i := 2) rfl rfl rfl (yc (args := [.tmp 37]) cf30 rfl) (flushJ_ret p g _) ?_
      rintro _ w4 ⟨x1, rfl, hC4, hx4⟩
      refine ⟨(h0.trans hx4).kp, ?_⟩
      refine hOne (i := 7) (by kernel_rfl) ?_; refine nCall (i := 7) rfl rfl rfl (yc (args := [.tmp 42]) cf20 rfl) (sizeA_ret (hDi.ext (h0.trans hx4))) ?_
      rintro _ w5 ⟨rfl, rfl⟩
      refine ⟨(h0.trans hx4).kp, ?_⟩
      rw [hN]
      refine hOne (i := 8) (by kernel_rfl) ?_; refine nCall (i := 8) rfl rfl rfl (yc (args := [.tmp 41, .tmp 43]) cf31 rfl) (hdblock_ret hd0 ⟨by decide, by decide, by decide⟩ g.size _ (by unfold Geo.size; omega) (by unfold Geo.size; omega)) ?_
      rintro _ w6 ⟨rfl, hx6⟩
      refine ⟨((h0.trans hx4).trans hx6).kp, ?_⟩
      refine hOne (i := 9) (by kernel_rfl) ?_; refine nCall (i := 9) rfl rfl rfl (yc (args := [.tmp 39, .tmp 40, .tmp 44]) cf28 rfl) (put_ret p g (g.hd 0) (hd0.block g.size) _) ?_
      rintro _ w7 ⟨x2, rfl, hC7, hx7⟩
      refine ⟨(((h0.trans hx4).trans hx6).trans hx7).kp, ?_⟩
      refine hOne (i := 11) (by kernel_rfl) ?_; refine nCall (i := 11) rfl rfl rfl (yc (args := [.tmp 46]) cf30 rfl) (flushJ_ret p g _) ?_
      rintro _ w8 ⟨x3, rfl, hC8, hx8⟩
      refine ⟨((((h0.trans hx4).trans hx6).trans hx7).trans hx8).kp, ?_⟩
      have hx48 := (((h0.trans hx4).trans hx6).trans hx7).trans hx8
      have z4 := (h0.trans hx4).size
      have z0 := h0.size
      have z6 := hx6.size
      have z7 := hx7.size
      have hN3 : StpsM w8 p (fun i => wi.heap.size ≤ i) [x1, x2, x3] [.flush, .put (g.hd 0) (hd0.block g.size), .flush] := by
        refine ⟨?_, ?_, ?_, trivial⟩
        · exact ((hC4.mono (G' := fun i => wi.heap.size ≤ i) (fun i _ hi => Nat.le_trans z0 hi)).kp ((hx6.trans hx7).trans hx8) (fun _ h => h.elim))
        · exact ((hC7.mono (G' := fun i => wi.heap.size ≤ i) (fun i _ hi => by omega)).kp hx8 (fun _ h => h.elim))
        · exact hC8.mono (fun i _ hi => by omega)
      refine hOne (i := 12) (by kernel_rfl) ?_; refine nValP (i := 12) rfl rfl rfl (pbs (parts := [(0, .tmp 38), (1, .tmp 45), (2, .tmp 47)]) (cs := [_, _, _]) (zs := [Value.nilFunc, Value.nilFunc, Value.nilFunc]) Try.underlying69 ti71 rfl (by kernel_rfl) rfl rfl rfl (by decide)) ?_
      rintro _ w9 ⟨b48, rfl, ⟨hb48, hx9, hB48⟩, hS48⟩
      refine ⟨(hx48.trans hx9).kp, ?_⟩
      refine hOne (i := 13) (by kernel_rfl) ?_; refine nValP (i := 13) rfl rfl rfl (pap Try.underlying69 ti71 rfl (by decide) rfl rfl (hS.ext (hx48.trans hx9)) hS48.rd (by intro c hc; simp at hc; rcases hc with rfl | rfl | rfl; exact oneV_one hC4.one; exact oneV_one hC7.one; exact oneV_one hC8.one) (by omega) (by omega)) ?_
      rintro v' w10 ⟨hS10, hk10, hown10, -⟩
      refine ⟨(hx48.trans hx9).kp.trans hk10, ?_⟩
      have hL := stl_app (w0 := w2) (w1 := wi) (w2 := w8) (w3 := w9) (us := [x1, x2, x3]) hM hG ho hsl hs2i hx48 hN3 hx9 hS10 rfl hk10 hown10
      have hx10 : Ext w2 w10 := ((hxi.trans (hx48.trans hx9))).trans_new hk10 (fun i hi => (ho i hi).1)
      have hD10 := h.ext (hx2.trans hx10)
      have hz2 := hx2.size
      refine hTake (i := 14) rfl (by kernel_rfl) rfl rfl (fun _ hS => yas rfl) ((hx48.trans hx9).kp.trans hk10) ?_; refine hEnd (by kernel_rfl) ?_; refine run_seq ?_; refine run_reg rfl ?_; refine rVal rfl rfl (ymv rfl) ?_; refine rCall rfl rfl (yc (args := [.tmp 50]) cf32 rfl) (runL_ret hL hD10 (fun i hi => Nat.lt_of_lt_of_le (hFl i hi) hz2) hsm (by simp [blankW_length]; omega)) ?_
      rintro _ w11 ⟨rfl, h11⟩
      refine rVal rfl rfl (yas rfl) ?_; refine rEnd ?_; refine Run.sub (e := [(6, _)]) ?_ (by repeat (first | exact Sub.nil | refine Sub.cons rfl ?_))
      refine run_ret Try.func7 rfl ?_
      obtain ⟨F', hA', hu'⟩ := h11
      have e : puts (blankW g (g.L + 2)) ++ [.flush, .put (g.hd 0) (hd0.block g.size), .flush] = formatS g := rfl
      rw [e] at hA' ⊢
      exact ⟨_, rfl, rfl, F', hA', ((hx2.trans hx10).upd (F := F)).trans hu'⟩
end
end Go.Proofs.Ytkhkebcflaokpaa
namespace Go.Proofs.Ytkhkebcflaokpaa
open Go Go.RowKit
set_option linter.all false
set_option maxRecDepth 100000

/-- A journal, as plain data. -/
structure Jn where
  own : Nat
  tail : Nat
  number : Nat
  a : Nat
  used : Nat
  dead : Bool
def jl (p : Nat) (g : Geo) (o t n a u : Nat) (d : Bool) : List Value := [ptr p 0, I (g.s : Int), I ((g.L + 2 : Nat) : Int), UL o, I (t : Int), UL n, I (a : Int), I (u : Int), .bool d]
@[simp] theorem jl_length (p : Nat) (g : Geo) (o t n a u : Nat) (d : Bool) : (jl p g o t n a u d).length = 9 := rfl
def jnCs (p : Nat) (g : Geo) (J : Jn) : List Value := [ptr p 0, I (g.s : Int), I ((g.L + 2 : Nat) : Int), UL J.own, I (J.tail : Int), UL J.number, I (J.a : Int), I (J.used : Int), .bool J.dead]
@[simp] theorem jnCs_length (p : Nat) (g : Geo) (J : Jn) : (jnCs p g J).length = 9 := rfl
def JnM (w : World) (q p : Nat) (g : Geo) (J : Jn) : Prop := Blk w q (jnCs p g J) 82
structure Jn.Ok (J : Jn) : Prop where
  own : J.own < 1000000000
  tail : J.tail < 1000000
  number : J.number < 1000000000
  a : J.a ≤ 1
  used : J.used < 1000000
theorem JnM.ext {w w' : World} {q p : Nat} {g : Geo} {J : Jn} (h : JnM w q p g J) (k : Ext w w') : JnM w' q p g J := k.blk h
theorem JnM.kp {S : Nat → Prop} {w w' : World} {q p : Nat} {g : Geo} {J : Jn} (h : JnM w q p g J) (k : Kp S w w') (hn : ¬ S q) : JnM w' q p g J := k.blk h hn

/-- A device behind some reads. -/
def Dev.rds (D : Dev) (n : Nat) : Dev := { D with reads := D.reads + n }
theorem rds_zero (D : Dev) : D.rds 0 = D := by simp [Dev.rds]
theorem rds_rds (D : Dev) (m n : Nat) : (D.rds m).rds n = D.rds (m + n) := by simp [Dev.rds, Int.add_assoc]
theorem Up.rds {D : Dev} {g : Geo} {base : Cont} {C : List (Int × Bytes)} (h : Up D g base C) (n : Nat) : Up (D.rds n) g base C :=
  ⟨⟨h.ok.hB, h.ok.hN, h.ok.due, h.ok.sf, h.ok.cache, h.ok.len, by have := h.ok.reads; show 0 ≤ D.reads + n; omega⟩, h.down, h.kept, h.cache, h.hB, h.hN⟩
theorem Dev.Small.rds {D : Dev} {k : Nat} (h : D.Small k) (n : Nat) : (D.rds n).Small (k + n) := ⟨by have := h.1; show D.calls ≤ _; omega, by have := h.2.1; show D.cache.length ≤ _; omega, by have := h.2.2.1; show D.reads + n ≤ _; omega, h.2.2.2⟩
theorem Up.read {D : Dev} {g : Geo} {base : Cont} {C : List (Int × Bytes)} (h : Up D g base C) {n : Int} (hn : 0 ≤ n ∧ n < (g.B : Int)) : D.read n = (D.rds 1, nowOf base C n, 0) := by
  have hh : D.has n = true := by simp [Dev.has, h.hB]; omega
  unfold Dev.read
  rw [if_neg (by simp [h.down]), if_neg (by simp [hh]), h.now n]
  rfl

section
variable {w : World} {p q : Nat} {D : Dev} {F : Nat → Prop} {g : Geo} {J : Jn}
theorem mostJ_ret (hJ : JnM w q p g J) (h : DevA w p D F) (hN : D.N = g.N) (hg : g.Ok) : Ret Try.prog 23 [ptr q 0] w fun v w' => v = I (g.most : Int) ∧ Ext w w' := by
  unfold JnM at hJ
  have hgN := hg.hN
  have hgB := hg.hB
  have hgL := hg.hL
  refine ret_of_run (e := [(0, _)]) Try.func23 rfl Try.ntmps23 rfl rfl ?_; refine run_seq ?_; refine run_reg rfl ?_; refine rVal rfl rfl (yas rfl) ?_; refine rEnd ?_; refine run_seq ?_; refine run_seq ?_; refine run_reg rfl ?_; refine rVal rfl rfl (ymv rfl) ?_; refine rVal rfl rfl (yeqpN Try.underlying34 rfl rfl) ?_; refine rEnd ?_; refine run_false rfl ?_; refine run_skip ?_; refine run_seq ?_; refine run_draw (fun w' => Ext w w') (by kernel_rfl) rfl ?_; refine hTake (i := 0) rfl (by kernel_rfl) rfl rfl (fun _ hS => ymv rfl) (Ext.drew0 w) ?_
  refine hTake (i := 1) rfl (by kernel_rfl) rfl rfl (fun _ hS => (by first | exact ync rfl | exact yncf rfl)) (Ext.drew0 w) ?_; refine hTake (i := 2) rfl (by kernel_rfl) rfl rfl (fun _ hS => yfa fl82_0 rfl) (Ext.drew0 w) ?_; refine hTake (i := 3) rfl (by kernel_rfl) rfl rfl (fun _ hS => yldA Try.underlying68 rfl ti68 rfl (Blk.cells (n := 3) (hS.blk hJ) (news := [_, _, _]) rfl) rfl) (Ext.drew0 w) ?_; refine hTake (i := 5) rfl (by kernel_rfl) rfl rfl (fun _ hS => ymv rfl) (Ext.drew0 w) ?_
  refine hTake (i := 6) rfl (by kernel_rfl) rfl rfl (fun _ hS => (by first | exact ync rfl | exact yncf rfl)) (Ext.drew0 w) ?_; refine hTake (i := 7) rfl (by kernel_rfl) rfl rfl (fun _ hS => yfa fl82_0 rfl) (Ext.drew0 w) ?_; refine hTake (i := 8) rfl (by kernel_rfl) rfl rfl (fun _ hS => yfa fl68_0 rfl) (Ext.drew0 w) ?_; refine hTake (i := 9) rfl (by kernel_rfl) rfl rfl (fun _ hS => yld Try.underlying26 rfl rfl (hS.blk hJ) rfl) (Ext.drew0 w) ?_; refine hOne (i := 4) (by kernel_rfl) ?_; refine nCall (i := 4) rfl rfl rfl (yc (args := [.tmp 8]) cf36 rfl) (ring_ret p g hg _) ?_
  rintro _ w1 ⟨rfl, hx1⟩
  refine ⟨(Ext.drew0 w).trans hx1, ?_⟩
  refine hOne (i := 10) (by kernel_rfl) ?_; refine nCall (i := 10) rfl rfl rfl (yc (args := [.tmp 14]) cf20 rfl) (sizeA_ret (h.ext ((Ext.drew0 w).trans hx1))) ?_
  rintro _ w2 ⟨rfl, rfl⟩
  refine ⟨(Ext.drew0 w).trans hx1, ?_⟩
  rw [hN]
  refine hOne (i := 11) (by kernel_rfl) ?_; refine nCall (i := 11) rfl rfl rfl (yc (args := [.tmp 9, .tmp 15]) cf53 rfl) (most_ret g.L g.size _ (by omega) (by unfold Geo.size; omega) (by omega) (by unfold Geo.size; omega)) ?_
  rintro _ w2 ⟨rfl, rfl⟩
  refine ⟨(Ext.drew0 w).trans hx1, ?_⟩
  refine hTake (i := 12) rfl (by kernel_rfl) rfl rfl (fun _ hS => yas rfl) ((Ext.drew0 w).trans hx1) ?_; refine hEnd (by kernel_rfl) ?_; refine run_ret Try.func23 rfl ?_
  exact ⟨_, rfl, rfl, (Ext.drew0 w).trans hx1⟩
theorem downJ_ret (e : Int) (hJ : JnM w q p g J) : Ret Try.prog 41 [ptr q 0, I e] w fun v w' => v = I e ∧ JnM w' q p g { J with dead := J.dead || decide (e = 8) } ∧ Kp (fun k => k = q) w w' := by
  unfold JnM at hJ ⊢
  refine ret_of_run (e := [(0, _), (1, _)]) Try.func41 rfl Try.ntmps41 rfl rfl ?_; refine run_seq ?_; refine run_reg rfl ?_; refine rVal rfl rfl (yas rfl) ?_; refine rEnd ?_; refine run_seq ?_; refine run_reg rfl ?_; refine rVal rfl rfl (ymv rfl) ?_; refine rVal rfl rfl (ymv rfl) ?_; refine rVal rfl rfl ((by first | exact ync rfl | exact yncf rfl)) ?_; refine rVal rfl rfl (yfa fl82_4 rfl) ?_; refine rVal rfl rfl (yld Try.underlying4 rfl rfl hJ rfl) ?_
  cases hd : J.dead with
  | true =>
    refine rVal rfl rfl (ymv rfl) ?_; refine rSkip rfl rfl ?_; refine rSkip rfl rfl ?_; refine rVal rfl rfl (ypT rfl rfl) ?_; refine rVal rfl rfl ((by first | exact ync rfl | exact yncf rfl)) ?_; refine rVal rfl rfl (yfa fl82_4 rfl) ?_; refine rEffP rfl (zst ti4 rfl rfl rfl hJ (by simp)) ?_
    rintro w1 ⟨hJ1, hk1⟩
    refine rEnd ?_; refine run_seq ?_; refine run_reg rfl ?_; refine rVal rfl rfl (ymv rfl) ?_; refine rVal rfl rfl (yas rfl) ?_; refine rEnd ?_; refine run_ret Try.func41 rfl ?_; refine ⟨_, rfl, rfl, ?_, hk1⟩
    simpa [jnCs, hd] using hJ1
  | false =>
    refine rVal rfl rfl (ymv rfl) ?_; refine rVal rfl rfl (ymv rfl) ?_; refine rVal rfl rfl (yeq rfl rfl) ?_; refine rVal rfl rfl (ypF rfl rfl) ?_; refine rVal rfl rfl ((by first | exact ync rfl | exact yncf rfl)) ?_; refine rVal rfl rfl (yfa fl82_4 rfl) ?_; refine rEffP rfl (zst ti4 rfl rfl rfl hJ (by simp)) ?_
    rintro w1 ⟨hJ1, hk1⟩
    refine rEnd ?_; refine run_seq ?_; refine run_reg rfl ?_; refine rVal rfl rfl (ymv rfl) ?_; refine rVal rfl rfl (yas rfl) ?_; refine rEnd ?_; refine run_ret Try.func41 rfl ?_; refine ⟨_, rfl, rfl, ?_, hk1⟩
    simpa [jnCs, hd] using hJ1

/-- One head block is looked at. -/
def fnew : Option (Hd × Nat) → Hd → Bool
  | none, _ => true
  | some x, h => decide (x.1.own < h.own)
def fstep (L : Nat) (st : Option (Hd × Nat)) (k : Nat) (s : Bytes) : Option (Hd × Nat) :=
  if (rdHead s).tail < L ∧ (rdHead s).block s.length = s ∧ fnew st (rdHead s) = true then some (rdHead s, k) else st
theorem fstep_good {f : Cont} {h : Hd} {a : Nat} {T : List Tx} (hg : g.Ok) (G : Good g f h a T) : fstep g.L (fstep g.L none 0 (f (g.hd 0))) 1 (f (g.hd 1)) = some (h, a) := by
  have hsz : 28 ≤ g.size := by have := hg.hN; unfold Geo.size; omega
  have hb := G.head
  have ho := G.other
  have hrd := rdHead_block h G.hok g.size
  have hbl := h.block_length hsz
  have hz : ∀ st k, fstep g.L st k (zeros g.size) = st := fun st k => by
    unfold fstep
    rw [if_neg]
    rintro ⟨-, h2, -⟩
    rw [zeros_length] at h2
    exact zeros_ne_block _ _ h2.symm
  have ha := G.ha
  rcases Nat.eq_zero_or_pos a with h0 | h0
  · subst h0
    have e1 : fstep g.L none 0 (f (g.hd 0)) = some (h, 0) := by
      rw [hb]; unfold fstep
      rw [hrd, hbl, if_pos ⟨G.tail, rfl, rfl⟩]
    rw [e1]
    rcases ho with ho | ⟨h', hok', hlt, ho⟩
    · rw [show 1 - 0 = 1 from rfl] at ho
      rw [ho, hz]
    · rw [show 1 - 0 = 1 from rfl] at ho
      rw [ho]; unfold fstep
      rw [rdHead_block h' hok', if_neg]
      rintro ⟨-, -, h3⟩
      have := of_decide_eq_true h3
      simp only at this
      omega
  · have h1 : a = 1 := by omega
    subst h1
    rcases ho with ho | ⟨h', hok', hlt, ho⟩
    · rw [show 1 - 1 = 0 from rfl] at ho
      rw [ho, hz, hb]
      unfold fstep
      rw [hrd, hbl, if_pos ⟨G.tail, rfl, rfl⟩]
    · rw [show 1 - 1 = 0 from rfl] at ho
      rw [ho, hb]
      have e2 : fstep g.L none 0 (h'.block g.size) = none ∨ fstep g.L none 0 (h'.block g.size) = some (h', 0) := by
        unfold fstep
        rw [rdHead_block h' hok']
        split
        · exact .inr rfl
        · exact .inl rfl
      rcases e2 with e2 | e2
      · rw [e2]; unfold fstep
        rw [hrd, hbl, if_pos ⟨G.tail, rfl, rfl⟩]
      · rw [e2]; unfold fstep
        rw [hrd, hbl, if_pos ⟨G.tail, rfl, decide_eq_true hlt⟩]
/-- The journal when so much was found. -/
def Jn.fnd (J : Jn) : Option (Hd × Nat) → Jn
  | none => J
  | some x => { J with own := x.1.own, tail := x.1.tail, number := x.1.number, a := x.2 }
theorem head_len {f : Cont} {h : Hd} {a : Nat} {T : List Tx} (G : Good g f h a T) (k : Nat) : (f (g.hd k)).length = g.size := G.len _

set_option maxHeartbeats 1000000 in
theorem find_ret {f : Cont} {h : Hd} {a : Nat} {T : List Tx} {C : List (Int × Bytes)} (hg : g.Ok) (hgs : g.s ≤ 1000) (hJ : JnM w q p g J) (hA : DevA w p D F) (hU : Up D g f []) (G : Good g f h a T) (hq : ¬ F q) {c : Nat} (hsm : D.Small c) (hc : c ≤ 900000) :
    Ret Try.prog 35 [ptr q 0] w fun v w' => v = .bool true ∧ JnM w' q p g { J with own := h.own, tail := h.tail, number := h.number, a := a } ∧ ∃ F', DevA w' p (D.rds 2) F' ∧ Kp (fun k => F k ∨ k = q) w w' ∧ ∀ i, F' i → F i ∨ w.heap.size ≤ i := by
  have hml : maxLen = 9223372036854775807 := rfl
  have hgN := hg.hN
  have hgB := hg.hB
  have hgL := hg.hL
  have hfg := fstep_good hg G
  have hqlt := hJ.lt
  obtain ⟨st, hst⟩ : ∃ st : Nat → Option (Hd × Nat), st 0 = none ∧ (∀ k, k < 2 → st (k + 1) = fstep g.L (st k) k (f (g.hd k))) ∧ st 2 = some (h, a) :=
    ⟨fun k => match k with | 0 => none | 1 => fstep g.L none 0 (f (g.hd 0)) | _ => some (h, a), rfl, fun k hk => by
      match k, hk with
      | 0, _ => rfl
      | 1, _ => exact hfg.symm, rfl⟩
  obtain ⟨hst0, hst1, hst2⟩ := hst
  refine ret_of_run (e := [(0, _)]) Try.func35 rfl Try.ntmps35 rfl rfl ?_; refine run_seq ?_; refine run_reg rfl ?_; refine rVal rfl rfl (yas rfl) ?_; refine rEnd ?_; refine run_seq ?_; refine run_reg rfl ?_; refine rVal rfl rfl (yas rfl) ?_; refine rEnd ?_; refine run_seq ?_; refine run_seq ?_; refine run_reg rfl ?_; refine rVal rfl rfl (ymv rfl) ?_; refine rEnd ?_; refine run_block ?_
  refine run_loop (α := Nat × Option (Hd × Nat)) ((0, none)) (fun x => [(0, ptr q 0), (3, .bool x.2.isSome), (9, I (x.1 : Int))]) (fun x w' => x.1 ≤ 2 ∧ x.2 = st x.1 ∧ JnM w' q p g (J.fnd x.2) ∧ ∃ F', DevA w' p (D.rds x.1) F' ∧ Kp (fun k => F k ∨ k = q) w w' ∧ ∀ i, F' i → F i ∨ w.heap.size ≤ i) (fun x => 2 - x.1) (by repeat (first | exact Sub.nil | refine Sub.cons rfl ?_)) ?hI ?hround
  case hI => 
    exact ⟨by dsimp only; omega, hst0.symm, hJ, F, by rw [rds_zero]; exact hA, Kp.refl _ _, fun i hi => .inl hi⟩
  case hround =>
    rintro ⟨k, sk⟩ wi ⟨hk, hsk, hJi, Fi, hAi, hki, hFi⟩ ih
    dsimp only at hk hsk hJi hAi
    subst hsk
    have hqi : ¬ Fi q := fun hf => (hFi q hf).elim hq (fun h => by omega)
    have hUi := hU.rds k
    try dsimp only
    refine run_seq ?_; refine run_reg rfl ?_; refine rVal rfl rfl (ylt rfl rfl) ?_; refine rEnd ?_; refine run_seq ?_; refine run_if rfl (fun hlt => ?_) (fun hlt => ?_)
    · skip
      have hk2 : k < 2 := by omega
      have hhd := hd_on hg k (by omega)
      have hlen := head_len G k
      unfold JnM at hJi
      refine run_skip ?_; refine run_seq ?_; refine run_block ?_; refine run_seq ?_; refine run_reg rfl ?_; refine rVal rfl rfl (ymv rfl) ?_; refine rVal rfl rfl (yas rfl) ?_; refine rEnd ?_; refine run_seq ?_; refine run_draw (fun w' => Kp Fi wi w') (by kernel_rfl) rfl ?_; refine hTake (i := 0) rfl (by kernel_rfl) rfl rfl (fun _ hS => ymv rfl) ((Ext.drew0 wi).kp) ?_; refine hTake (i := 1) rfl (by kernel_rfl) rfl rfl (fun _ hS => (by first | exact ync rfl | exact yncf rfl)) ((Ext.drew0 wi).kp) ?_
      refine hTake (i := 2) rfl (by kernel_rfl) rfl rfl (fun _ hS => yfa fl82_0 rfl) ((Ext.drew0 wi).kp) ?_; refine hTake (i := 3) rfl (by kernel_rfl) rfl rfl (fun _ hS => yfa fl68_0 rfl) ((Ext.drew0 wi).kp) ?_; refine hTake (i := 4) rfl (by kernel_rfl) rfl rfl (fun _ hS => yld Try.underlying26 rfl rfl (hS.blk hJi hqi) rfl) ((Ext.drew0 wi).kp) ?_; refine hTake (i := 5) rfl (by kernel_rfl) rfl rfl (fun _ hS => ymv rfl) ((Ext.drew0 wi).kp) ?_; refine hTake (i := 6) rfl (by kernel_rfl) rfl rfl (fun _ hS => (by first | exact ync rfl | exact yncf rfl)) ((Ext.drew0 wi).kp) ?_
      refine hTake (i := 7) rfl (by kernel_rfl) rfl rfl (fun _ hS => yfa fl82_0 rfl) ((Ext.drew0 wi).kp) ?_; refine hTake (i := 8) rfl (by kernel_rfl) rfl rfl (fun _ hS => yfa fl68_1 rfl) ((Ext.drew0 wi).kp) ?_; refine hTake (i := 9) rfl (by kernel_rfl) rfl rfl (fun _ hS => yld Try.underlying3 rfl rfl (hS.blk hJi hqi) rfl) ((Ext.drew0 wi).kp) ?_; refine hTake (i := 10) rfl (by kernel_rfl) rfl rfl (fun _ hS => ymv rfl) ((Ext.drew0 wi).kp) ?_; refine hTake (i := 11) rfl (by kernel_rfl) rfl rfl (fun _ hS => yad rfl rfl (by omega)) ((Ext.drew0 wi).kp) ?_
      rw [show ((g.s : Int) + (k : Int)) = g.hd k from by unfold Geo.hd; omega]
      refine hOne (i := 12) (by kernel_rfl) ?_; refine nCall (i := 12) rfl rfl rfl (yc (args := [.tmp 17, .tmp 24]) cf34 rfl) (readA_ret (g.hd k) (hAi.ext (Ext.drew0 wi)) (hsm.rds k) (by omega)) ?_
      rintro _ w3 ⟨rfl, F3, hA3, hu3⟩
      refine ⟨(Ext.drew0 wi).kp.trans hu3.1, ?_⟩
      rw [hUi.read hhd] at hA3 ⊢
      rw [nowOf_nil, rds_rds] at hA3 ⊢
      dsimp only at hA3 ⊢
      have hJ3 : Blk w3 q (jnCs p g (J.fnd (st k))) 82 := ((Ext.drew0 wi).kp.trans hu3.1).blk hJi hqi
      have hq3 : ¬ F3 q := fun hf => (hu3.2 q hf).elim hqi (fun h => by have := hJi.lt; have := (Ext.drew0 wi).size; omega)
      refine hTake (i := 13) rfl (by kernel_rfl) rfl rfl (fun _ hS => ymv rfl) ((Ext.drew0 wi).kp.trans hu3.1) ?_; refine hTake (i := 14) rfl (by kernel_rfl) rfl rfl (fun _ hS => yex rfl rfl) ((Ext.drew0 wi).kp.trans hu3.1) ?_; refine hTake (i := 15) rfl (by kernel_rfl) rfl rfl (fun _ hS => yex rfl rfl) ((Ext.drew0 wi).kp.trans hu3.1) ?_; refine hTake (i := 16) rfl (by kernel_rfl) rfl rfl (fun _ hS => yas rfl) ((Ext.drew0 wi).kp.trans hu3.1) ?_; refine hTake (i := 17) rfl (by kernel_rfl) rfl rfl (fun _ hS => yas rfl) ((Ext.drew0 wi).kp.trans hu3.1) ?_; refine hEnd (by kernel_rfl) ?_
      refine run_seq ?_; refine run_reg rfl ?_; refine rVal rfl rfl (ymv rfl) ?_; refine rVal rfl rfl (ymv rfl) ?_; refine rVal rfl rfl ((by first | exact ync rfl | exact yncf rfl)) ?_; refine rVal rfl rfl (yfa fl82_0 rfl) ?_; refine rVal rfl rfl (yldA Try.underlying68 rfl ti68 rfl (Blk.cells (n := 3) hJ3 (news := [_, _, _]) rfl) rfl) ?_; refine rCall rfl rfl (yc (args := [.tmp 33]) cf36 rfl) (ring_ret p g hg _) ?_
      rintro _ w4 ⟨rfl, hx4⟩
      refine rCall rfl rfl (yc (args := [.tmp 29, .tmp 34]) cf61 rfl) (readHead_ret (f (g.hd k)) g.L _ (by rw [hlen]; unfold Geo.size; omega) (by rw [hlen]; unfold Geo.size; omega) (by omega)) ?_
      rintro _ w5 ⟨rfl, hok5, hx5⟩
      refine rVal rfl rfl (ymv rfl) ?_; refine rVal rfl rfl (yex rfl rfl) ?_; refine rVal rfl rfl (yex rfl rfl) ?_; refine rValP rfl rfl (pal (cs := [_, _, _]) ti76 rfl) ?_
      rintro _ w6 ⟨b7, rfl, hb7, hx6, hB6⟩
      refine rEffP rfl (zstA ti76 rfl rfl rfl rfl hB6 (by simp)) ?_
      rintro w7 ⟨hB7, hk7⟩
      replace hB7 : Blk w7 b7 (hdCs (rdHead (f (g.hd k)))) 76 := hB7
      have hx47 : Ext w3 w7 := ((hx4.trans hx5).trans hx6).trans_new hk7 (fun i hi => by have := (hx4.trans hx5).size; omega)
      have hJ7 := hx47.blk hJ3
      have hA7 := hA3.ext hx47
      refine rVal rfl rfl (yas rfl) ?_; refine rEnd ?_; refine run_seq ?_
      obtain ⟨hd, hhdr⟩ : ∃ hd, rdHead (f (g.hd k)) = hd := ⟨_, rfl⟩
      have hnext := hst1 k hk2
      unfold fstep at hnext
      rw [hhdr] at hok5 hB7 hnext ⊢
      have hdx : Ext w7 w7.drew := Ext.drew0 w7
      have hk3 : Kp (fun k => F k ∨ k = q) w w3 := hki.trans_new ((Ext.drew0 wi).kp.trans hu3.1) (fun i hi => (hFi i hi).elim (fun h => .inr (.inl h)) .inl)
      have hFN : ∀ i, F3 i → F i ∨ w.heap.size ≤ i := fun i hi => (hu3.2 i hi).elim (hFi i) (fun h => .inr (Nat.le_trans hki.size (Nat.le_trans (Ext.drew0 wi).size h)))
      refine run_cut (fun e' w' => ∃ b : Bool, e' = [(0, ptr q 0), (3, .bool (st k).isSome), (4, I (k : Int)), (7, ptr b7 0), (9, I (k : Int)), (52, .bool b)] ∧ (b = true ↔ hd.tail < g.L ∧ hd.block (f (g.hd k)).length = f (g.hd k) ∧ fnew (st k) hd = true) ∧ w' = w7.drew) ?hk (fun hk => ?hmain)
      case hk =>
        rintro _ _ ⟨b, rfl, hbq, rfl⟩
        refine run_cond rfl (fun hcc => ?_) (fun hcc => ?_)
        · skip
          rw [if_pos (hbq.1 hcc)] at hnext
          refine run_seq ?_; refine run_reg rfl ?_; refine rVal rfl rfl (yas rfl) ?_; refine rEnd ?_; refine run_reg rfl ?_; refine rVal rfl rfl (ymv rfl) ?_; refine rVal rfl rfl (ymv rfl) ?_; refine rVal rfl rfl (yldA Try.underlying76 rfl ti76 rfl (Blk.cells (n := 3) (hdx.blk hB7) (news := [_, _, _]) rfl) rfl) ?_; refine rVal rfl rfl (ymv rfl) ?_; refine rVal rfl rfl ((by first | exact ync rfl | exact yncf rfl)) ?_; refine rVal rfl rfl (yfa fl82_1 rfl) ?_; refine rEffP rfl (zstA (news := hdCs hd) ti76 rfl rfl rfl rfl (hdx.blk hJ7) (by simp)) ?_
          rintro w8 ⟨hJ8, hk8⟩
          replace hJ8 : Blk w8 q (jnCs p g { J.fnd (st k) with own := hd.own, tail := hd.tail, number := hd.number }) 82 := hJ8
          refine rVal rfl rfl ((by first | exact ync rfl | exact yncf rfl)) ?_; refine rVal rfl rfl (yfa fl82_2 rfl) ?_; refine rEffP rfl (zst ti3 rfl rfl rfl hJ8 (by simp)) ?_
          rintro w9 ⟨hJ9, hk9⟩
          refine rEnd ?_; refine run_inBlock ?_; refine run_reg rfl ?_; refine rVal rfl rfl (yad rfl rfl (by omega)) ?_; refine rVal rfl rfl (ymv rfl) ?_; refine rEnd ?_
          have hJn : JnM w9 q p g (J.fnd (some (hd, k))) := by
            unfold JnM
            cases hsk : st k with
            | none => rw [hsk] at hJ9; exact hJ9
            | some x => rw [hsk] at hJ9; exact hJ9
          have hkq : Kp (fun i => i = q) w7 w9 := (hdx.kp.trans hk8).trans hk9
          exact (ih (k + 1, some (hd, k)) w9 ⟨by dsimp only; omega, hnext.symm, hJn, F3, DevA.kp hA7 hkq (fun i hi he => hq3 (he ▸ hi)), hk3.trans (hx47.kp.trans (hkq.mono' fun i hi => .inr hi)), hFN⟩ (by dsimp only; omega)).sub (by repeat (first | exact Sub.nil | refine Sub.cons rfl ?_))
        · skip
          rw [if_neg (fun h => by rw [hbq.2 h] at hcc; cases hcc)] at hnext
          refine run_skip ?_; refine run_inBlock ?_; refine run_reg rfl ?_; refine rVal rfl rfl (yad rfl rfl (by omega)) ?_; refine rVal rfl rfl (ymv rfl) ?_; refine rEnd ?_
          exact (ih (k + 1, st k) _ ⟨by dsimp only; omega, hnext.symm, hdx.blk hJ7, F3, hA7.ext hdx, hk3.trans (hx47.trans hdx).kp, hFN⟩ (by dsimp only; omega)).sub (by repeat (first | exact Sub.nil | refine Sub.cons rfl ?_))
      case hmain =>
        by_cases c1 : hd.tail < g.L ∧ hd.block (f (g.hd k)).length = f (g.hd k)
        · rw [decide_eq_true c1]
          refine run_draw (fun w' => Ext w7 w') (by kernel_rfl) rfl ?_; refine hTake (i := 0) rfl (by kernel_rfl) rfl rfl (fun _ hS => ymv rfl) (hdx) ?_; refine hTake (i := 1) rfl (by kernel_rfl) rfl rfl (fun _ hS => ymv rfl) (hdx) ?_
          cases hs : st k with
          | none =>
            rw [hs] at hk
            refine hTake (i := 2) rfl (by kernel_rfl) rfl rfl (fun _ hS => ymv rfl) (hdx) ?_; refine hTake (i := 3) rfl (by kernel_rfl) rfl rfl (fun _ hS => (by first | exact yntd rfl | exact ynt rfl)) (hdx) ?_; refine hTake (i := 4) rfl (by kernel_rfl) rfl rfl (fun _ hS => ymv rfl) (hdx) ?_; refine hSkip (i := 5) rfl (by kernel_rfl) rfl rfl (hdx) ?_; refine hSkip (i := 6) rfl (by kernel_rfl) rfl rfl (hdx) ?_; refine hSkip (i := 7) rfl (by kernel_rfl) rfl rfl (hdx) ?_; refine hSkip (i := 8) rfl (by kernel_rfl) rfl rfl (hdx) ?_; refine hSkip (i := 9) rfl (by kernel_rfl) rfl rfl (hdx) ?_
            refine hSkip (i := 10) rfl (by kernel_rfl) rfl rfl (hdx) ?_; refine hSkip (i := 11) rfl (by kernel_rfl) rfl rfl (hdx) ?_; refine hSkip (i := 12) rfl (by kernel_rfl) rfl rfl (hdx) ?_; refine hTake (i := 13) rfl (by kernel_rfl) rfl rfl (fun _ hS => ypT rfl rfl) (hdx) ?_; refine hTake (i := 14) rfl (by kernel_rfl) rfl rfl (fun _ hS => ypT rfl rfl) (hdx) ?_; refine hEnd (by kernel_rfl) ?_
            exact (hk _ _ ⟨true, rfl, ⟨fun _ => ⟨c1.1, c1.2, rfl⟩, fun _ => rfl⟩, rfl⟩).sub (by repeat (first | exact Sub.nil | refine Sub.cons rfl ?_))
          | some x =>
            rw [hs] at hk hJ7
            refine hTake (i := 2) rfl (by kernel_rfl) rfl rfl (fun _ hS => ymv rfl) (hdx) ?_; refine hTake (i := 3) rfl (by kernel_rfl) rfl rfl (fun _ hS => (by first | exact yntd rfl | exact ynt rfl)) (hdx) ?_; refine hTake (i := 4) rfl (by kernel_rfl) rfl rfl (fun _ hS => ymv rfl) (hdx) ?_; refine hTake (i := 5) rfl (by kernel_rfl) rfl rfl (fun _ hS => yfa fl76_0 rfl) (hdx) ?_; refine hTake (i := 6) rfl (by kernel_rfl) rfl rfl (fun _ hS => (by first | exact yld Try.underlying58 rfl rfl (hS.blk hB7) rfl | exact yld Try.underlying58 rfl rfl (hS.blk hJ7) rfl)) (hdx) ?_
            refine hTake (i := 7) rfl (by kernel_rfl) rfl rfl (fun _ hS => ymv rfl) (hdx) ?_; refine hTake (i := 8) rfl (by kernel_rfl) rfl rfl (fun _ hS => (by first | exact ync rfl | exact yncf rfl)) (hdx) ?_; refine hTake (i := 9) rfl (by kernel_rfl) rfl rfl (fun _ hS => yfa fl82_1 rfl) (hdx) ?_; refine hTake (i := 10) rfl (by kernel_rfl) rfl rfl (fun _ hS => yfa fl76_0 rfl) (hdx) ?_; refine hTake (i := 11) rfl (by kernel_rfl) rfl rfl (fun _ hS => (by first | exact yld Try.underlying58 rfl rfl (hS.blk hB7) rfl | exact yld Try.underlying58 rfl rfl (hS.blk hJ7) rfl)) (hdx) ?_
            refine hTake (i := 12) rfl (by kernel_rfl) rfl rfl (fun _ hS => ygt rfl rfl) (hdx) ?_; refine hTake (i := 13) rfl (by kernel_rfl) rfl rfl (fun _ hS => ypF rfl rfl) (hdx) ?_; refine hTake (i := 14) rfl (by kernel_rfl) rfl rfl (fun _ hS => ypT rfl rfl) (hdx) ?_; refine hEnd (by kernel_rfl) ?_
            exact (hk _ _ ⟨decide ((x.1.own : Int) < (hd.own : Int)), rfl, ⟨fun h => ⟨c1.1, c1.2, decide_eq_true (by have := of_decide_eq_true h; omega)⟩, fun h => decide_eq_true (by have := of_decide_eq_true h.2.2; omega)⟩, rfl⟩).sub (by repeat (first | exact Sub.nil | refine Sub.cons rfl ?_))
        · skip
          rw [decide_eq_false c1]
          refine run_draw (fun w' => Ext w7 w') (by kernel_rfl) rfl ?_; refine hTake (i := 0) rfl (by kernel_rfl) rfl rfl (fun _ hS => ymv rfl) (hdx) ?_; refine hTake (i := 1) rfl (by kernel_rfl) rfl rfl (fun _ hS => ymv rfl) (hdx) ?_; refine hSkip (i := 2) rfl (by kernel_rfl) rfl rfl (hdx) ?_; refine hSkip (i := 3) rfl (by kernel_rfl) rfl rfl (hdx) ?_; refine hSkip (i := 4) rfl (by kernel_rfl) rfl rfl (hdx) ?_; refine hSkip (i := 5) rfl (by kernel_rfl) rfl rfl (hdx) ?_; refine hSkip (i := 6) rfl (by kernel_rfl) rfl rfl (hdx) ?_; refine hSkip (i := 7) rfl (by kernel_rfl) rfl rfl (hdx) ?_
          refine hSkip (i := 8) rfl (by kernel_rfl) rfl rfl (hdx) ?_; refine hSkip (i := 9) rfl (by kernel_rfl) rfl rfl (hdx) ?_; refine hSkip (i := 10) rfl (by kernel_rfl) rfl rfl (hdx) ?_; refine hSkip (i := 11) rfl (by kernel_rfl) rfl rfl (hdx) ?_; refine hSkip (i := 12) rfl (by kernel_rfl) rfl rfl (hdx) ?_; refine hSkip (i := 13) rfl (by kernel_rfl) rfl rfl (hdx) ?_; refine hTake (i := 14) rfl (by kernel_rfl) rfl rfl (fun _ hS => ypF rfl rfl) (hdx) ?_; refine hEnd (by kernel_rfl) ?_
          exact (hk _ _ ⟨false, rfl, ⟨fun h => (by cases h), fun h => absurd ⟨h.1, h.2.1⟩ c1⟩, rfl⟩).sub (by repeat (first | exact Sub.nil | refine Sub.cons rfl ?_))
    · skip
      have : k = 2 := by omega
      subst this
      rw [hst2] at hJi ⊢
      refine run_exit rfl ?_; refine run_seq ?_; refine run_reg rfl ?_; refine rVal rfl rfl (ymv rfl) ?_; refine rVal rfl rfl (yas rfl) ?_; refine rEnd ?_; refine run_ret Try.func35 rfl ?_
      exact ⟨_, rfl, rfl, hJi, Fi, hAi, hki, hFi⟩
end
end Go.Proofs.Ytkhkebcflaokpaa
