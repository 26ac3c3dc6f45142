/- The walks of the statements of layer 3. -/
import Derived.Test.YtdapkfppcaaohaaSumsR
namespace Go.Proofs.Ytdapkfppcaaohaa
open Go Go.RowKit
set_option linter.unusedVariables false

theorem u8_of (n : Nat) : Value.int .u8 ((n % 256 : Nat) : Int) = u8v (UInt8.ofNat n) := by simp [u8v]

def unK : Option (UInt8 × List UInt8 × List UInt8) → UInt8 | none => 0 | some x => x.1
def unP : Option (UInt8 × List UInt8 × List UInt8) → List UInt8 | none => [] | some x => x.2.1
def unR : Option (UInt8 × List UInt8 × List UInt8) → List UInt8 | none => [] | some x => x.2.2
def unE : Option (UInt8 × List UInt8 × List UInt8) → Int | none => 4 | some _ => 0
theorem unfV_eq (o : Option (UInt8 × List UInt8 × List UInt8)) : unfV o = .tuple #[u8v (unK o), S (unP o), S (unR o), I (unE o)] := by cases o <;> rfl
theorem unframe_all (l : List UInt8) (w : World) (hl : l.length ≤ 9223372036854775807) :
    Ret Try.prog 13 [S l] w fun v w' => v = .tuple #[u8v (unK (Sums.unframe l)), S (unP (Sums.unframe l)), S (unR (Sums.unframe l)), I (unE (Sums.unframe l))] ∧ Ext w w' := by
  rw [← unfV_eq]; exact unframe_ret l w hl
theorem runframe_all (l : List UInt8) (w : World) (hl : l.length ≤ 9223372036854775807) :
    Ret Try.prog 16 [S l] w fun v w' => v = .tuple #[u8v (unK (Sums.unframe l)), S (unP (Sums.unframe l)), S (unR (Sums.unframe l)), I (unE (Sums.unframe l))] ∧ Ext w w' := by
  rw [← unfV_eq]; exact runframe_ret l w hl
def frS (k : UInt8) (p : List UInt8) : List UInt8 := if p.length ≤ 16777216 then Sums.frame k p else []
def frE (p : List UInt8) : Int := if p.length ≤ 16777216 then 0 else 1
theorem frame_all (k : UInt8) (p : List UInt8) (w : World) : Ret Try.prog 12 [u8v k, S p] w fun v w' => v = .tuple #[S (frS k p), I (frE p)] ∧ Ext w w' := by
  by_cases h : p.length ≤ 16777216
  · have := frame_ret k p w h
    simp only [frS, frE, if_pos h]; exact this
  · have := frame_bad k p w (by omega)
    simp only [frS, frE, if_neg h]; exact this
theorem rframe_all (k : UInt8) (p : List UInt8) (w : World) : Ret Try.prog 15 [u8v k, S p] w fun v w' => v = .tuple #[S (frS k p), I (frE p)] ∧ Ext w w' := by
  by_cases h : p.length ≤ 16777216
  · have := rframe_ret k p w h
    simp only [frS, frE, if_pos h]; exact this
  · have := rframe_bad k p w (by omega)
    simp only [frS, frE, if_neg h]; exact this
def joS (a b : Nat) (n : Int) : Nat := if 0 ≤ n ∧ n ≤ 16777216 then Sums.join a b n.toNat else 0
def joE (n : Int) : Int := if 0 ≤ n ∧ n ≤ 16777216 then 0 else 1
theorem join_all (a b : Nat) (n : Int) (ha : a < 4294967296) (hb : b < 4294967296) (w : World) : Ret Try.prog 21 [U a, U b, I n] w fun v w' => v = .tuple #[U (joS a b n), I (joE n)] ∧ Ext w w' := by
  by_cases h : 0 ≤ n ∧ n ≤ 16777216
  · have := join_ret a b n.toNat ha hb (by omega) w
    rw [Int.toNat_of_nonneg h.1] at this
    simp only [joS, joE, if_pos h]; exact this
  · have := join_bad a b n (by omega) w
    simp only [joS, joE, if_neg h]; exact this
theorem rjoin_all (a b : Nat) (n : Int) (ha : a < 4294967296) (hb : b < 4294967296) (w : World) : Ret Try.prog 22 [U a, U b, I n] w fun v w' => v = .tuple #[U (joS a b n), I (joE n)] ∧ Ext w w' := by
  by_cases h : 0 ≤ n ∧ n ≤ 16777216
  · have := rjoin_ret a b n.toNat ha hb (by omega) w
    rw [Int.toNat_of_nonneg h.1] at this
    simp only [joS, joE, if_pos h]; exact this
  · have := rjoin_bad a b n (by omega) w
    simp only [joS, joE, if_neg h]; exact this

theorem unframe_frame (k : UInt8) (p t : List UInt8) (h : p.length ≤ 16777216) : Sums.unframe (Sums.frame k p ++ t) = some (k, p, t) := Sums.unframe_frame k p t h

theorem awake3_ret (w : World) : Ret Try.prog 14 [] w fun v w' => v = .bool true ∧ Ext w w' := by
  have hu := Sums.unframe_frame 7 [97, 98] [120] (by simp)
  have hc : Sums.crc [49, 50, 51, 52, 53, 54, 55, 56, 57] = 3808858755 := by decide +kernel
  refine ret_of_run (e := []) Try.func14 rfl Try.ntmps14 rfl rfl ?_
  refine run_seq ?_
  refine run_reg rfl ?_
  refine rVal rfl rfl (yas rfl) ?_
  refine rEnd ?_
  refine run_seq ?_
  refine run_reg rfl ?_
  refine rCall rfl rfl (yc (args := [.const (Value.int .u8 7), .const (Value.string (⟨#[97, 98]⟩))]) cf12 rfl) (frame_ret 7 [97, 98] _ (by simp)) ?_
  rintro _ w1 ⟨rfl, hx1⟩
  refine rVal rfl rfl (ymv rfl) ?_
  refine rVal rfl rfl (yex rfl rfl) ?_
  refine rVal rfl rfl (yex rfl rfl) ?_
  refine rVal rfl rfl (yas rfl) ?_
  refine rVal rfl rfl (yas rfl) ?_
  refine rEnd ?_
  refine run_seq ?_
  refine run_reg rfl ?_
  refine rVal rfl rfl (ymv rfl) ?_
  refine rVal rfl rfl (ycatS rfl rfl (by first | omega | (simp; done) | (simp; omega))) ?_
  refine rCall rfl rfl (yc (args := [.tmp 13]) cf13 rfl) (unframe_all (Sums.frame 7 [97, 98] ++ [120]) _ (by simp)) ?_
  rintro _ w2 ⟨rfl, hx2⟩
  rw [hu]
  refine rVal rfl rfl (ymv rfl) ?_
  refine rVal rfl rfl (yex rfl rfl) ?_
  refine rVal rfl rfl (yex rfl rfl) ?_
  refine rVal rfl rfl (yex rfl rfl) ?_
  refine rVal rfl rfl (yex rfl rfl) ?_
  refine rVal rfl rfl (yas rfl) ?_
  refine rVal rfl rfl (yas rfl) ?_
  refine rVal rfl rfl (yas rfl) ?_
  refine rVal rfl rfl (yas rfl) ?_
  refine rEnd ?_
  refine run_seq ?_
  refine run_reg rfl ?_
  refine rCall rfl rfl (yc (args := [.const (Value.string (⟨#[49, 50, 51, 52, 53, 54, 55, 56, 57]⟩))]) cf17 rfl) (crc_ret [49, 50, 51, 52, 53, 54, 55, 56, 57] _ (by simp)) ?_
  rintro _ w3 ⟨rfl, hx3⟩
  rw [hc]
  refine rVal rfl rfl (yeq rfl rfl) ?_
  refine rTrue (by (first | rfl | assumption | omega | decide)) ?_
  refine rVal rfl rfl (ymv rfl) ?_
  refine rVal rfl rfl (ymv rfl) ?_
  refine rVal rfl rfl (yeq rfl rfl) ?_
  refine rTrue (by (first | rfl | assumption | omega | decide)) ?_
  refine rVal rfl rfl (ypT rfl rfl) ?_
  refine rVal rfl rfl (ymv rfl) ?_
  refine rVal rfl rfl (ymv rfl) ?_
  refine rVal rfl rfl (yeq rfl rfl) ?_
  refine rTrue (by (first | rfl | assumption | omega | decide)) ?_
  refine rVal rfl rfl (ypT rfl rfl) ?_
  refine rVal rfl rfl (ymv rfl) ?_
  refine rVal rfl rfl (ymv rfl) ?_
  refine rVal rfl rfl (yeq rfl rfl) ?_
  refine rTrue (by (first | rfl | assumption | omega | decide)) ?_
  refine rVal rfl rfl (ypT rfl rfl) ?_
  refine rVal rfl rfl (ymv rfl) ?_
  refine rVal rfl rfl (ymv rfl) ?_
  refine rVal rfl rfl (yeqS rfl rfl) ?_
  refine rTrue (by (first | rfl | assumption | omega | decide)) ?_
  refine rVal rfl rfl (ypT rfl rfl) ?_
  refine rVal rfl rfl (ymv rfl) ?_
  refine rVal rfl rfl (ymv rfl) ?_
  refine rVal rfl rfl (yeqS rfl rfl) ?_
  refine rTrue (by (first | rfl | assumption | omega | decide)) ?_
  refine rVal rfl rfl (ypT rfl rfl) ?_
  refine rVal rfl rfl (yas rfl) ?_
  refine rEnd ?_
  refine Run.sub (e := [(0, _)]) ?_ (by repeat (first | exact Sub.nil | refine Sub.cons rfl ?_))
  refine run_ret Try.func14 rfl ?_
  exact ⟨_, rfl, rfl, (hx1.trans hx2).trans hx3⟩

set_option maxHeartbeats 1000000 in
theorem sumsNone_ret (w : World) : Ret Try.prog 6 [] w fun v w' => v = .bool true ∧ Ext w w' := by
  have hu0 : Sums.unframe [] = none := by decide +kernel
  have hf : frS 7 [] = [7, 0, 0, 0, 0, 237, 4, 120, 113] := by decide +kernel
  have hfe : frE [] = 0 := by decide +kernel
  have hu1 : Sums.unframe [7, 0, 0, 0, 0, 237, 4, 120, 113] = some (7, [], []) := by decide +kernel
  have hu2 : Sums.unframe [0, 255, 255, 255, 255, 0, 0, 0, 0] = none := by decide +kernel
  have hc0 : Sums.crc [] = 0 := by decide +kernel
  have ho9 : Sums.on 9 [] = 9 := by decide +kernel
  have hj : joS 5 3 0 = 6 := by decide +kernel
  have hje : joE 0 = 0 := by decide +kernel
  refine ret_of_run (e := []) Try.func6 rfl Try.ntmps6 rfl rfl ?_
  refine run_seq ?_
  refine run_reg rfl ?_
  refine rVal rfl rfl (yas rfl) ?_
  refine rEnd ?_
  refine run_seq ?_
  refine run_reg rfl ?_
  refine rCall rfl rfl (yc (args := [.const (Value.string (⟨#[]⟩))]) cf13 rfl) (unframe_all [] _ (by simp)) ?_
  rintro _ w1 ⟨rfl, hx1⟩
  rw [hu0]
  refine rVal rfl rfl (ymv rfl) ?_
  refine rVal rfl rfl (yex rfl rfl) ?_
  refine rVal rfl rfl (yex rfl rfl) ?_
  refine rVal rfl rfl (yex rfl rfl) ?_
  refine rVal rfl rfl (yex rfl rfl) ?_
  refine rVal rfl rfl (yas rfl) ?_
  refine rVal rfl rfl (yas rfl) ?_
  refine rVal rfl rfl (yas rfl) ?_
  refine rVal rfl rfl (yas rfl) ?_
  refine rEnd ?_
  refine run_seq ?_
  refine run_reg rfl ?_
  refine rCall rfl rfl (yc (args := [.const (Value.int .u8 7), .const (Value.string (⟨#[]⟩))]) cf12 rfl) (frame_all 7 [] _) ?_
  rintro _ w2 ⟨rfl, hx2⟩
  rw [hf, hfe]
  refine rVal rfl rfl (ymv rfl) ?_
  refine rVal rfl rfl (yex rfl rfl) ?_
  refine rVal rfl rfl (yex rfl rfl) ?_
  refine rVal rfl rfl (yas rfl) ?_
  refine rVal rfl rfl (yas rfl) ?_
  refine rEnd ?_
  refine run_seq ?_
  refine run_reg rfl ?_
  refine rVal rfl rfl (ymv rfl) ?_
  refine rCall rfl rfl (yc (args := [.tmp 32]) cf13 rfl) (unframe_all [7, 0, 0, 0, 0, 237, 4, 120, 113] _ (by simp)) ?_
  rintro _ w3 ⟨rfl, hx3⟩
  rw [hu1]
  refine rVal rfl rfl (ymv rfl) ?_
  refine rVal rfl rfl (yex rfl rfl) ?_
  refine rVal rfl rfl (yex rfl rfl) ?_
  refine rVal rfl rfl (yex rfl rfl) ?_
  refine rVal rfl rfl (yex rfl rfl) ?_
  refine rVal rfl rfl (yas rfl) ?_
  refine rVal rfl rfl (yas rfl) ?_
  refine rVal rfl rfl (yas rfl) ?_
  refine rVal rfl rfl (yas rfl) ?_
  refine rEnd ?_
  refine Run.sub (e := [(0, _), (4, _), (5, _), (6, _), (7, _), (8, _), (9, _), (10, _)]) ?_ (by repeat (first | exact Sub.nil | refine Sub.cons rfl ?_))
  refine run_seq ?_
  refine run_reg rfl ?_
  refine rCall rfl rfl (yc (args := [.const (Value.string (⟨#[0, 255, 255, 255, 255, 0, 0, 0, 0]⟩))]) cf13 rfl) (unframe_all [0, 255, 255, 255, 255, 0, 0, 0, 0] _ (by simp)) ?_
  rintro _ w4 ⟨rfl, hx4⟩
  rw [hu2]
  refine rVal rfl rfl (ymv rfl) ?_
  refine rVal rfl rfl (yex rfl rfl) ?_
  refine rVal rfl rfl (yex rfl rfl) ?_
  refine rVal rfl rfl (yex rfl rfl) ?_
  refine rVal rfl rfl (yex rfl rfl) ?_
  refine rVal rfl rfl (yas rfl) ?_
  refine rVal rfl rfl (yas rfl) ?_
  refine rVal rfl rfl (yas rfl) ?_
  refine rVal rfl rfl (yas rfl) ?_
  refine rEnd ?_
  refine run_seq ?_
  refine run_reg rfl ?_
  refine rCall rfl rfl (yc (args := [.const (Value.int .u32 0), .const (Value.int .u32 0), .const (Value.int .i64 (-1))]) cf21 rfl) (join_all 0 0 (-1) (by omega) (by omega) _) ?_
  rintro _ w5 ⟨rfl, hx5⟩
  refine rVal rfl rfl (ymv rfl) ?_
  refine rVal rfl rfl (yex rfl rfl) ?_
  refine rVal rfl rfl (yex rfl rfl) ?_
  refine rVal rfl rfl (yas rfl) ?_
  refine rVal rfl rfl (yas rfl) ?_
  refine rEnd ?_
  refine run_seq ?_
  refine run_reg rfl ?_
  refine rCall rfl rfl (yc (args := [.const (Value.int .u32 0), .const (Value.int .u32 0), .const (Value.int .i64 16777217)]) cf21 rfl) (join_all 0 0 16777217 (by omega) (by omega) _) ?_
  rintro _ w6 ⟨rfl, hx6⟩
  refine rVal rfl rfl (ymv rfl) ?_
  refine rVal rfl rfl (yex rfl rfl) ?_
  refine rVal rfl rfl (yex rfl rfl) ?_
  refine rVal rfl rfl (yas rfl) ?_
  refine rVal rfl rfl (yas rfl) ?_
  refine rEnd ?_
  refine Run.sub (e := [(0, _), (4, _), (5, _), (6, _), (7, _), (8, _), (9, _), (10, _), (14, _), (16, _), (18, _)]) ?_ (by repeat (first | exact Sub.nil | refine Sub.cons rfl ?_))
  refine run_seq ?_
  refine run_reg rfl ?_
  refine rCall rfl rfl (yc (args := [.const (Value.int .u32 5), .const (Value.int .u32 3), .const (Value.int .i64 0)]) cf21 rfl) (join_all 5 3 0 (by omega) (by omega) _) ?_
  rintro _ w7 ⟨rfl, hx7⟩
  rw [hj, hje]
  refine rVal rfl rfl (ymv rfl) ?_
  refine rVal rfl rfl (yex rfl rfl) ?_
  refine rVal rfl rfl (yex rfl rfl) ?_
  refine rVal rfl rfl (yas rfl) ?_
  refine rVal rfl rfl (yas rfl) ?_
  refine rEnd ?_
  refine run_seq ?_
  refine run_reg rfl ?_
  refine rVal rfl rfl (ymv rfl) ?_
  refine rVal rfl rfl (yeq rfl rfl) ?_
  refine rTrue (by (first | rfl | assumption | omega | decide)) ?_
  refine rVal rfl rfl (ymv rfl) ?_
  refine rVal rfl rfl (ymv rfl) ?_
  refine rVal rfl rfl (yeqS rfl rfl) ?_
  refine rTrue (by (first | rfl | assumption | omega | decide)) ?_
  refine rVal rfl rfl (ypT rfl rfl) ?_
  refine rVal rfl rfl (ymv rfl) ?_
  refine rVal rfl rfl (ymv rfl) ?_
  refine rVal rfl rfl (yeq rfl rfl) ?_
  refine rTrue (by (first | rfl | assumption | omega | decide)) ?_
  refine rVal rfl rfl (ypT rfl rfl) ?_
  refine rVal rfl rfl (ymv rfl) ?_
  refine rVal rfl rfl (ymv rfl) ?_
  refine rVal rfl rfl (yeq rfl rfl) ?_
  refine rTrue (by (first | rfl | assumption | omega | decide)) ?_
  refine rVal rfl rfl (ypT rfl rfl) ?_
  refine rVal rfl rfl (ymv rfl) ?_
  refine rVal rfl rfl (ymv rfl) ?_
  refine rVal rfl rfl (yeqS rfl rfl) ?_
  refine rTrue (by (first | rfl | assumption | omega | decide)) ?_
  refine rVal rfl rfl (ypT rfl rfl) ?_
  refine rVal rfl rfl (ymv rfl) ?_
  refine rVal rfl rfl (ymv rfl) ?_
  refine rVal rfl rfl (yeqS rfl rfl) ?_
  refine rTrue (by (first | rfl | assumption | omega | decide)) ?_
  refine rVal rfl rfl (ypT rfl rfl) ?_
  refine rVal rfl rfl (ymv rfl) ?_
  refine rVal rfl rfl (ymv rfl) ?_
  refine rVal rfl rfl (yeq rfl rfl) ?_
  refine rTrue (by (first | rfl | assumption | omega | decide)) ?_
  refine rVal rfl rfl (ypT rfl rfl) ?_
  refine rVal rfl rfl (ymv rfl) ?_
  refine rVal rfl rfl (ymv rfl) ?_
  refine rVal rfl rfl (yeq rfl rfl) ?_
  refine rTrue (by (first | rfl | assumption | omega | decide)) ?_
  refine rVal rfl rfl (ypT rfl rfl) ?_
  refine rVal rfl rfl (ymv rfl) ?_
  refine rVal rfl rfl (ymv rfl) ?_
  refine rVal rfl rfl (yeq rfl rfl) ?_
  refine rTrue (by (first | rfl | assumption | omega | decide)) ?_
  refine rVal rfl rfl (ypT rfl rfl) ?_
  refine rVal rfl rfl (ymv rfl) ?_
  refine rVal rfl rfl (ymv rfl) ?_
  refine rVal rfl rfl (yeq rfl rfl) ?_
  refine rTrue (by (first | rfl | assumption | omega | decide)) ?_
  refine rVal rfl rfl (ypT rfl rfl) ?_
  refine rVal rfl rfl (ymv rfl) ?_
  refine rVal rfl rfl (ymv rfl) ?_
  refine rVal rfl rfl (yeq rfl rfl) ?_
  refine rTrue (by (first | rfl | assumption | omega | decide)) ?_
  refine rVal rfl rfl (ypT rfl rfl) ?_
  refine rVal rfl rfl (ymv rfl) ?_
  refine rVal rfl rfl (ymv rfl) ?_
  refine rVal rfl rfl (yeq rfl rfl) ?_
  refine rTrue (by (first | rfl | assumption | omega | decide)) ?_
  refine rVal rfl rfl (ypT rfl rfl) ?_
  refine rVal rfl rfl (ymv rfl) ?_
  refine rCall rfl rfl (yc (args := [.const (Value.string (⟨#[]⟩))]) cf17 rfl) (crc_ret [] _ (by simp)) ?_
  rintro _ w8 ⟨rfl, hx8⟩
  rw [hc0]
  refine rVal rfl rfl (yeq rfl rfl) ?_
  refine rTrue (by (first | rfl | assumption | omega | decide)) ?_
  refine rVal rfl rfl (ypT rfl rfl) ?_
  refine rVal rfl rfl (ymv rfl) ?_
  refine rCall rfl rfl (yc (args := [.const (Value.int .u32 9), .const (Value.string (⟨#[]⟩))]) cf19 rfl) (on_ret 9 [] _ (by omega) (by simp)) ?_
  rintro _ w9 ⟨rfl, hx9⟩
  rw [ho9]
  refine rVal rfl rfl (yeq rfl rfl) ?_
  refine rTrue (by (first | rfl | assumption | omega | decide)) ?_
  refine rVal rfl rfl (ypT rfl rfl) ?_
  refine rVal rfl rfl (ymv rfl) ?_
  refine rVal rfl rfl (ypT rfl rfl) ?_
  refine rVal rfl rfl (ymv rfl) ?_
  refine rVal rfl rfl (ypT rfl rfl) ?_
  refine rVal rfl rfl (ymv rfl) ?_
  refine rCall rfl rfl (yc (args := []) cf14 rfl) (awake3_ret _) ?_
  rintro _ w10 ⟨rfl, hx10⟩
  refine rVal rfl rfl (ypT rfl rfl) ?_
  refine rVal rfl rfl (yas rfl) ?_
  refine rEnd ?_
  refine Run.sub (e := [(0, _)]) ?_ (by repeat (first | exact Sub.nil | refine Sub.cons rfl ?_))
  refine run_ret Try.func6 rfl ?_
  exact ⟨_, rfl, rfl, ((((((((hx1.trans hx2).trans hx3).trans hx4).trans hx5).trans hx6).trans hx7).trans hx8).trans hx9).trans hx10⟩

theorem sumsGoes_ret (a b : List UInt8) (w : World) (ha : a.length ≤ 140737488351232) (hb : b.length ≤ 140737488351232) :
    Ret Try.prog 5 [S a, S b] w fun v w' => v = .bool true ∧ Ext w w' := by
  refine ret_of_run (e := [(0, _), (1, _)]) Try.func5 rfl Try.ntmps5 rfl rfl ?_
  refine run_seq ?_
  refine run_reg rfl ?_
  refine rVal rfl rfl (yas rfl) ?_
  refine rEnd ?_
  refine run_seq ?_
  refine run_reg rfl ?_
  refine rVal rfl rfl (ymv rfl) ?_
  refine rVal rfl rfl (ymv rfl) ?_
  refine rVal rfl rfl (ycatS rfl rfl (by first | omega | (simp; done) | (simp; omega))) ?_
  refine rCall rfl rfl (yc (args := [.tmp 10]) cf17 rfl) (crc_ret (a ++ b) _ (by simp; omega)) ?_
  rintro _ w1 ⟨rfl, hx1⟩
  refine rVal rfl rfl (yas rfl) ?_
  refine rEnd ?_
  refine run_seq ?_
  refine run_reg rfl ?_
  refine rVal rfl rfl (ymv rfl) ?_
  refine rCall rfl rfl (yc (args := [.tmp 13]) cf17 rfl) (crc_ret a _ (by omega)) ?_
  rintro _ w2 ⟨rfl, hx2⟩
  refine rVal rfl rfl (ymv rfl) ?_
  refine rCall rfl rfl (yc (args := [.tmp 15]) cf17 rfl) (crc_ret b _ (by omega)) ?_
  rintro _ w3 ⟨rfl, hx3⟩
  refine rVal rfl rfl (ymv rfl) ?_
  refine rVal rfl rfl (ylnS Try.underlying9 rfl) ?_
  refine rCall rfl rfl (yc (args := [.tmp 14, .tmp 16, .tmp 18]) cf21 rfl) (join_all (Sums.crc a) (Sums.crc b) b.length (Sums.crc_lt _) (Sums.crc_lt _) _) ?_
  rintro _ w4 ⟨rfl, hx4⟩
  refine rVal rfl rfl (ymv rfl) ?_
  refine rVal rfl rfl (yex rfl rfl) ?_
  refine rVal rfl rfl (yex rfl rfl) ?_
  refine rVal rfl rfl (yas rfl) ?_
  refine rVal rfl rfl (yas rfl) ?_
  refine rEnd ?_
  refine run_seq ?_
  refine run_seq ?_
  refine run_reg rfl ?_
  refine rVal rfl rfl (ymv rfl) ?_
  refine rVal rfl rfl (ylnS Try.underlying9 rfl) ?_
  refine rVal rfl rfl (ygt rfl rfl) ?_
  refine rEnd ?_
  have hx := ((hx1.trans hx2).trans hx3).trans hx4
  refine run_if rfl (fun hlt => ?_) (fun hlt => ?_)
  · skip
    have hS : joS (Sums.crc a) (Sums.crc b) b.length = 0 := by unfold joS; rw [if_neg (by omega)]
    have hE : joE b.length = 1 := by unfold joE; rw [if_neg (by omega)]
    rw [hS, hE]
    refine run_seq ?_
    refine run_reg rfl ?_
    refine rVal rfl rfl (ymv rfl) ?_
    refine rVal rfl rfl (yeq rfl rfl) ?_
    refine rTrue (by (first | rfl | assumption | omega | decide)) ?_
    refine rVal rfl rfl (ymv rfl) ?_
    refine rVal rfl rfl (ymv rfl) ?_
    refine rVal rfl rfl (yeq rfl rfl) ?_
    refine rTrue (by (first | rfl | assumption | omega | decide)) ?_
    refine rVal rfl rfl (ypT rfl rfl) ?_
    refine rVal rfl rfl (ymv rfl) ?_
    refine rVal rfl rfl (ymv rfl) ?_
    refine rCall rfl rfl (yc (args := [.tmp 32]) cf17 rfl) (crc_ret a _ (by omega)) ?_
    rintro _ w5 ⟨rfl, hx5⟩
    refine rVal rfl rfl (ymv rfl) ?_
    refine rCall rfl rfl (yc (args := [.tmp 33, .tmp 34]) cf19 rfl) (on_ret (Sums.crc a) b _ (Sums.crc_lt _) (by omega)) ?_
    rintro _ w6 ⟨rfl, hx6⟩
    rw [Sums.on_crc]
    refine rVal rfl rfl (ymv rfl) ?_
    refine rVal rfl rfl (yeq rfl rfl) ?_
    refine rTrue (by (first | rfl | assumption | omega | decide)) ?_
    refine rVal rfl rfl (ypT rfl rfl) ?_
    refine rVal rfl rfl (ymv rfl) ?_
    refine rCall rfl rfl (yc (args := []) cf14 rfl) (awake3_ret _) ?_
    rintro _ w7 ⟨rfl, hx7⟩
    refine rVal rfl rfl (ypT rfl rfl) ?_
    refine rVal rfl rfl (yas rfl) ?_
    refine rEnd ?_
    refine Run.sub (e := [(0, _), (1, _), (4, _), (5, _), (6, _), (7, _)]) ?_ (by repeat (first | exact Sub.nil | refine Sub.cons rfl ?_))
    refine run_ret Try.func5 rfl ?_
    exact ⟨_, rfl, rfl, ((hx.trans hx5).trans hx6).trans hx7⟩
  · skip
    have hS : joS (Sums.crc a) (Sums.crc b) b.length = Sums.crc (a ++ b) := by unfold joS; rw [if_pos (by omega)]; simp [Sums.join_crc]
    have hE : joE b.length = 0 := by unfold joE; rw [if_pos (by omega)]
    rw [hS, hE]
    refine run_skip ?_
    refine run_seq ?_
    refine run_reg rfl ?_
    refine rVal rfl rfl (ymv rfl) ?_
    refine rCall rfl rfl (yc (args := [.tmp 42]) cf17 rfl) (crc_ret a _ (by omega)) ?_
    rintro _ w5 ⟨rfl, hx5⟩
    refine rVal rfl rfl (ymv rfl) ?_
    refine rCall rfl rfl (yc (args := [.tmp 43, .tmp 44]) cf19 rfl) (on_ret (Sums.crc a) b _ (Sums.crc_lt _) (by omega)) ?_
    rintro _ w6 ⟨rfl, hx6⟩
    rw [Sums.on_crc]
    refine rVal rfl rfl (ymv rfl) ?_
    refine rVal rfl rfl (yeq rfl rfl) ?_
    refine rTrue (by (first | rfl | assumption | omega | decide)) ?_
    refine rVal rfl rfl (ymv rfl) ?_
    refine rVal rfl rfl (ymv rfl) ?_
    refine rVal rfl rfl (ymv rfl) ?_
    refine rVal rfl rfl (yeq rfl rfl) ?_
    refine rTrue (by (first | rfl | assumption | omega | decide)) ?_
    refine rVal rfl rfl (ypT rfl rfl) ?_
    refine rVal rfl rfl (ymv rfl) ?_
    refine rVal rfl rfl (ymv rfl) ?_
    refine rVal rfl rfl (yeq rfl rfl) ?_
    refine rTrue (by (first | rfl | assumption | omega | decide)) ?_
    refine rVal rfl rfl (ypT rfl rfl) ?_
    refine rVal rfl rfl (ymv rfl) ?_
    refine rCall rfl rfl (yc (args := []) cf14 rfl) (awake3_ret _) ?_
    rintro _ w7 ⟨rfl, hx7⟩
    refine rVal rfl rfl (ypT rfl rfl) ?_
    refine rVal rfl rfl (yas rfl) ?_
    refine rEnd ?_
    refine Run.sub (e := [(4, _)]) ?_ (by repeat (first | exact Sub.nil | refine Sub.cons rfl ?_))
    refine run_ret Try.func5 rfl ?_
    exact ⟨_, rfl, rfl, ((hx.trans hx5).trans hx6).trans hx7⟩

theorem joS_lt (a b : Nat) (n : Int) (ha : a < 4294967296) (hb : b < 4294967296) : joS a b n < 4294967296 := by
  unfold joS Sums.join
  split
  · exact Sums.xor_lt32 (Sums.iter_lt Sums.lin_bits8 _ ha) hb
  · omega
theorem joS_split (a b : Nat) (n : Int) (h0 : 0 ≤ n) (h1 : n ≤ 16777216) : joS a b n = joS (joS a 0 (n / 2)) b (n - n / 2) := by
  have e1 : joS a 0 (n / 2) = Sums.iter Sums.bits8 (n / 2).toNat a := by unfold joS Sums.join; rw [if_pos (by omega), Nat.xor_zero]
  rw [e1]
  unfold joS Sums.join
  rw [if_pos ⟨h0, h1⟩, if_pos (by omega), ← Sums.iter_add]
  congr 2
  omega

set_option maxHeartbeats 1000000 in
theorem sumsReads_ret (s t : List UInt8) (A B : Nat) (N : Int) (w : World) (hs : s.length ≤ 140737488351232) (ht : t.length ≤ 140737488351232) (hA : A < 4294967296) (hB : B < 4294967296) (hN : -9223372036854775808 ≤ N ∧ N ≤ 9223372036854775807) :
    Ret Try.prog 4 [S s, S t, .agg #[U A, U B, I N]] w fun v w' => v = .bool true ∧ Ext w w' := by
  refine ret_of_run (e := [(0, _), (1, _), (2, _)]) Try.func4 rfl Try.ntmps4 rfl rfl ?_
  refine run_seq ?_
  refine run_reg rfl ?_
  refine rValP rfl rfl (pbx rfl rfl) ?_
  rintro _ w1 ⟨b5, rfl, hb5, hx1, hM⟩
  refine rVal rfl rfl (yas rfl) ?_
  refine rEnd ?_
  refine run_seq ?_
  refine run_reg rfl ?_
  refine rVal rfl rfl (yfa fl35_0 rfl) ?_
  refine rVal rfl rfl (yld Try.underlying33 rfl rfl hM rfl) ?_
  refine rVal rfl rfl (ycv8 rfl Try.underlying33 Try.underlying5) ?_
  refine rVal rfl rfl (ymv rfl) ?_
  rw [u8_of]
  refine rCall rfl rfl (yc (args := [.tmp 30, .tmp 31]) cf12 rfl) (frame_all (UInt8.ofNat A) s _) ?_
  rintro _ w2 ⟨rfl, hx2⟩
  replace hM := hx2.blk hM
  refine rVal rfl rfl (ymv rfl) ?_
  refine rVal rfl rfl (yex rfl rfl) ?_
  refine rVal rfl rfl (yex rfl rfl) ?_
  refine rVal rfl rfl (yas rfl) ?_
  refine rVal rfl rfl (yas rfl) ?_
  refine rEnd ?_
  refine run_seq ?_
  refine run_reg rfl ?_
  refine rVal rfl rfl (yfa fl35_0 rfl) ?_
  refine rVal rfl rfl (yld Try.underlying33 rfl rfl hM rfl) ?_
  refine rVal rfl rfl (ycv8 rfl Try.underlying33 Try.underlying5) ?_
  refine rVal rfl rfl (ymv rfl) ?_
  rw [u8_of]
  refine rCall rfl rfl (yc (args := [.tmp 38, .tmp 39]) cf15 rfl) (rframe_all (UInt8.ofNat A) s _) ?_
  rintro _ w3 ⟨rfl, hx3⟩
  refine rVal rfl rfl (ymv rfl) ?_
  refine rVal rfl rfl (yex rfl rfl) ?_
  refine rVal rfl rfl (yex rfl rfl) ?_
  refine rVal rfl rfl (yas rfl) ?_
  refine rVal rfl rfl (yas rfl) ?_
  refine rEnd ?_
  refine Run.sub (e := [(0, _), (1, _), (5, _), (6, _), (7, _), (8, _), (9, _), (10, _)]) ?_ (by repeat (first | exact Sub.nil | refine Sub.cons rfl ?_))
  refine run_seq ?_
  refine run_reg rfl ?_
  refine rVal rfl rfl (ymv rfl) ?_
  refine rCall rfl rfl (yc (args := [.tmp 44]) cf13 rfl) (unframe_all t _ (by omega)) ?_
  rintro _ w4 ⟨rfl, hx4⟩
  refine rVal rfl rfl (ymv rfl) ?_
  refine rVal rfl rfl (yex rfl rfl) ?_
  refine rVal rfl rfl (yex rfl rfl) ?_
  refine rVal rfl rfl (yex rfl rfl) ?_
  refine rVal rfl rfl (yex rfl rfl) ?_
  refine rVal rfl rfl (yas rfl) ?_
  refine rVal rfl rfl (yas rfl) ?_
  refine rVal rfl rfl (yas rfl) ?_
  refine rVal rfl rfl (yas rfl) ?_
  refine rEnd ?_
  refine run_seq ?_
  refine run_reg rfl ?_
  refine rVal rfl rfl (ymv rfl) ?_
  refine rCall rfl rfl (yc (args := [.tmp 51]) cf16 rfl) (runframe_all t _ (by omega)) ?_
  rintro _ w5 ⟨rfl, hx5⟩
  replace hM := hx5.blk (hx4.blk (hx3.blk hM))
  have hx := (((hx1.trans hx2).trans hx3).trans hx4).trans hx5
  refine rVal rfl rfl (ymv rfl) ?_
  refine rVal rfl rfl (yex rfl rfl) ?_
  refine rVal rfl rfl (yex rfl rfl) ?_
  refine rVal rfl rfl (yex rfl rfl) ?_
  refine rVal rfl rfl (yex rfl rfl) ?_
  refine rVal rfl rfl (yas rfl) ?_
  refine rVal rfl rfl (yas rfl) ?_
  refine rVal rfl rfl (yas rfl) ?_
  refine rVal rfl rfl (yas rfl) ?_
  refine rEnd ?_
  refine Run.sub (e := [(0, _), (5, _), (6, _), (7, _), (8, _), (9, _), (10, _), (11, _), (12, _), (13, _), (14, _), (15, _), (16, _), (17, _), (18, _)]) ?_ (by repeat (first | exact Sub.nil | refine Sub.cons rfl ?_))
  refine run_seq ?_
  refine run_seq ?_
  refine run_draw (fun w' => Ext w5 w') (by kernel_rfl) rfl ?_
  refine hTake (i := 0) rfl (by kernel_rfl) rfl rfl (fun _ hS => ymv rfl) (Ext.drew0 w5) ?_
  refine hTake (i := 1) rfl (by kernel_rfl) rfl rfl (fun _ hS => ymv rfl) (Ext.drew0 w5) ?_
  refine hTake (i := 2) rfl (by kernel_rfl) rfl rfl (fun _ hS => yneS rfl rfl) (Ext.drew0 w5) ?_
  refine hFalse (by (first | exact fun h => h rfl | assumption | omega)) ?_
  refine hTake (i := 3) rfl (by kernel_rfl) rfl rfl (fun _ hS => ymv rfl) (Ext.drew0 w5) ?_
  refine hTake (i := 4) rfl (by kernel_rfl) rfl rfl (fun _ hS => ymv rfl) (Ext.drew0 w5) ?_
  refine hTake (i := 5) rfl (by kernel_rfl) rfl rfl (fun _ hS => ymv rfl) (Ext.drew0 w5) ?_
  refine hTake (i := 6) rfl (by kernel_rfl) rfl rfl (fun _ hS => yne rfl rfl) (Ext.drew0 w5) ?_
  refine hFalse (by (first | exact fun h => h rfl | assumption | omega)) ?_
  refine hTake (i := 7) rfl (by kernel_rfl) rfl rfl (fun _ hS => ypF rfl rfl) (Ext.drew0 w5) ?_
  refine hTake (i := 8) rfl (by kernel_rfl) rfl rfl (fun _ hS => ymv rfl) (Ext.drew0 w5) ?_
  refine hTake (i := 9) rfl (by kernel_rfl) rfl rfl (fun _ hS => ymv rfl) (Ext.drew0 w5) ?_
  refine hTake (i := 10) rfl (by kernel_rfl) rfl rfl (fun _ hS => ymv rfl) (Ext.drew0 w5) ?_
  refine hTake (i := 11) rfl (by kernel_rfl) rfl rfl (fun _ hS => yne rfl rfl) (Ext.drew0 w5) ?_
  refine hFalse (by (first | exact fun h => h rfl | assumption | omega)) ?_
  refine hTake (i := 12) rfl (by kernel_rfl) rfl rfl (fun _ hS => ypF rfl rfl) (Ext.drew0 w5) ?_
  refine hTake (i := 13) rfl (by kernel_rfl) rfl rfl (fun _ hS => ymv rfl) (Ext.drew0 w5) ?_
  refine hTake (i := 14) rfl (by kernel_rfl) rfl rfl (fun _ hS => ymv rfl) (Ext.drew0 w5) ?_
  refine hTake (i := 15) rfl (by kernel_rfl) rfl rfl (fun _ hS => ymv rfl) (Ext.drew0 w5) ?_
  refine hTake (i := 16) rfl (by kernel_rfl) rfl rfl (fun _ hS => yneS rfl rfl) (Ext.drew0 w5) ?_
  refine hFalse (by (first | exact fun h => h rfl | assumption | omega)) ?_
  refine hTake (i := 17) rfl (by kernel_rfl) rfl rfl (fun _ hS => ypF rfl rfl) (Ext.drew0 w5) ?_
  refine hTake (i := 18) rfl (by kernel_rfl) rfl rfl (fun _ hS => ymv rfl) (Ext.drew0 w5) ?_
  refine hTake (i := 19) rfl (by kernel_rfl) rfl rfl (fun _ hS => ymv rfl) (Ext.drew0 w5) ?_
  refine hTake (i := 20) rfl (by kernel_rfl) rfl rfl (fun _ hS => ymv rfl) (Ext.drew0 w5) ?_
  refine hTake (i := 21) rfl (by kernel_rfl) rfl rfl (fun _ hS => yneS rfl rfl) (Ext.drew0 w5) ?_
  refine hFalse (by (first | exact fun h => h rfl | assumption | omega)) ?_
  refine hTake (i := 22) rfl (by kernel_rfl) rfl rfl (fun _ hS => ypF rfl rfl) (Ext.drew0 w5) ?_
  refine hTake (i := 23) rfl (by kernel_rfl) rfl rfl (fun _ hS => ymv rfl) (Ext.drew0 w5) ?_
  refine hTake (i := 24) rfl (by kernel_rfl) rfl rfl (fun _ hS => ymv rfl) (Ext.drew0 w5) ?_
  refine hTake (i := 25) rfl (by kernel_rfl) rfl rfl (fun _ hS => ymv rfl) (Ext.drew0 w5) ?_
  refine hTake (i := 26) rfl (by kernel_rfl) rfl rfl (fun _ hS => yne rfl rfl) (Ext.drew0 w5) ?_
  refine hFalse (by (first | exact fun h => h rfl | assumption | omega)) ?_
  refine hTake (i := 27) rfl (by kernel_rfl) rfl rfl (fun _ hS => ypF rfl rfl) (Ext.drew0 w5) ?_
  refine hTake (i := 28) rfl (by kernel_rfl) rfl rfl (fun _ hS => ymv rfl) (Ext.drew0 w5) ?_
  refine hTake (i := 29) rfl (by kernel_rfl) rfl rfl (fun _ hS => ymv rfl) (Ext.drew0 w5) ?_
  refine hTake (i := 31) rfl (by kernel_rfl) rfl rfl (fun _ hS => ymv rfl) (Ext.drew0 w5) ?_
  refine hOne (i := 30) (by kernel_rfl) ?_
  refine nCall (i := 30) rfl rfl rfl (yc (args := [.tmp 86]) cf17 rfl) (crc_ret s _ (by omega)) ?_
  rintro _ w6 ⟨rfl, hx6⟩
  refine ⟨(Ext.drew0 w5).trans hx6, ?_⟩
  refine hOne (i := 32) (by kernel_rfl) ?_
  refine nCall (i := 32) rfl rfl rfl (yc (args := [.tmp 88]) cf18 rfl) (rcrc_ret s _ (by omega)) ?_
  rintro _ w7 ⟨rfl, hx7⟩
  refine ⟨((Ext.drew0 w5).trans hx6).trans hx7, ?_⟩
  refine hTake (i := 33) rfl (by kernel_rfl) rfl rfl (fun _ hS => yne rfl rfl) (((Ext.drew0 w5).trans hx6).trans hx7) ?_
  refine hFalse (by (first | exact fun h => h rfl | assumption | omega)) ?_
  refine hTake (i := 34) rfl (by kernel_rfl) rfl rfl (fun _ hS => ypF rfl rfl) (((Ext.drew0 w5).trans hx6).trans hx7) ?_
  refine hTake (i := 35) rfl (by kernel_rfl) rfl rfl (fun _ hS => ymv rfl) (((Ext.drew0 w5).trans hx6).trans hx7) ?_
  refine hTake (i := 36) rfl (by kernel_rfl) rfl rfl (fun _ hS => yfa fl35_0 rfl) (((Ext.drew0 w5).trans hx6).trans hx7) ?_
  refine hTake (i := 37) rfl (by kernel_rfl) rfl rfl (fun _ hS => yld Try.underlying33 rfl rfl (hS.blk hM) rfl) (((Ext.drew0 w5).trans hx6).trans hx7) ?_
  refine hTake (i := 38) rfl (by kernel_rfl) rfl rfl (fun _ hS => ymv rfl) (((Ext.drew0 w5).trans hx6).trans hx7) ?_
  refine hTake (i := 40) rfl (by kernel_rfl) rfl rfl (fun _ hS => yfa fl35_0 rfl) (((Ext.drew0 w5).trans hx6).trans hx7) ?_
  refine hTake (i := 41) rfl (by kernel_rfl) rfl rfl (fun _ hS => yld Try.underlying33 rfl rfl (hS.blk hM) rfl) (((Ext.drew0 w5).trans hx6).trans hx7) ?_
  refine hTake (i := 42) rfl (by kernel_rfl) rfl rfl (fun _ hS => ymv rfl) (((Ext.drew0 w5).trans hx6).trans hx7) ?_
  refine hOne (i := 39) (by kernel_rfl) ?_
  refine nCall (i := 39) rfl rfl rfl (yc (args := [.tmp 94, .tmp 95]) cf19 rfl) (on_ret A s _ hA (by omega)) ?_
  rintro _ w8 ⟨rfl, hx8⟩
  refine ⟨(((Ext.drew0 w5).trans hx6).trans hx7).trans hx8, ?_⟩
  refine hOne (i := 43) (by kernel_rfl) ?_
  refine nCall (i := 43) rfl rfl rfl (yc (args := [.tmp 98, .tmp 99]) cf20 rfl) (ron_ret A s _ hA (by omega)) ?_
  rintro _ w9 ⟨rfl, hx9⟩
  refine ⟨((((Ext.drew0 w5).trans hx6).trans hx7).trans hx8).trans hx9, ?_⟩
  have hy := (((((Ext.drew0 w5).trans hx6).trans hx7).trans hx8).trans hx9)
  have hM9 := hy.blk hM
  refine hTake (i := 44) rfl (by kernel_rfl) rfl rfl (fun _ hS => yne rfl rfl) (((((Ext.drew0 w5).trans hx6).trans hx7).trans hx8).trans hx9) ?_
  refine hFalse (by (first | exact fun h => h rfl | assumption | omega)) ?_
  refine hTake (i := 45) rfl (by kernel_rfl) rfl rfl (fun _ hS => ypF rfl rfl) (((((Ext.drew0 w5).trans hx6).trans hx7).trans hx8).trans hx9) ?_
  refine hEnd (by kernel_rfl) ?_
  refine Run.sub (e := [(5, _), (6, _), (102, _)]) ?_ (by repeat (first | exact Sub.nil | refine Sub.cons rfl ?_))
  refine run_false rfl ?_
  refine run_skip ?_
  refine run_seq ?_
  refine run_reg rfl ?_
  refine rVal rfl rfl (yfa fl35_0 rfl) ?_
  refine rVal rfl rfl (yld Try.underlying33 rfl rfl hM9 rfl) ?_
  refine rVal rfl rfl (yfa fl35_1 rfl) ?_
  refine rVal rfl rfl (yld Try.underlying33 rfl rfl hM9 rfl) ?_
  refine rVal rfl rfl (yfa fl35_2 rfl) ?_
  refine rVal rfl rfl (yld Try.underlying3 rfl rfl hM9 rfl) ?_
  refine rCall rfl rfl (yc (args := [.tmp 105, .tmp 107, .tmp 109]) cf21 rfl) (join_all A B N hA hB _) ?_
  rintro _ w10 ⟨rfl, hx10⟩
  replace hx := (hx.trans hy).trans hx10
  replace hM := hx10.blk hM9
  refine rVal rfl rfl (ymv rfl) ?_
  refine rVal rfl rfl (yex rfl rfl) ?_
  refine rVal rfl rfl (yex rfl rfl) ?_
  refine rVal rfl rfl (yas rfl) ?_
  refine rVal rfl rfl (yas rfl) ?_
  refine rEnd ?_
  refine run_seq ?_
  refine run_seq ?_
  refine run_reg rfl ?_
  refine rVal rfl rfl (yfa fl35_2 rfl) ?_
  refine rVal rfl rfl (yld Try.underlying3 rfl rfl hM rfl) ?_
  refine rVal rfl rfl (ygt rfl rfl) ?_
  refine rVal_if (fun h7 => ?_) (fun h7 => ?_)
  · skip
    refine rVal rfl rfl (ymv rfl) ?_
    refine rVal rfl rfl (yfa fl35_2 rfl) ?_
    refine rVal rfl rfl (yld Try.underlying3 rfl rfl hM rfl) ?_
    refine rVal rfl rfl (yle rfl rfl) ?_
    refine rVal rfl rfl (ypT rfl rfl) ?_
    refine rEnd ?_
    refine run_if rfl (fun h8 => ?_) (fun h8 => ?_)
    · skip
      refine run_seq ?_
      refine run_reg rfl ?_
      refine rVal rfl rfl (yfa fl35_0 rfl) ?_
      refine rVal rfl rfl (yld Try.underlying33 rfl rfl hM rfl) ?_
      refine rVal rfl rfl (yfa fl35_2 rfl) ?_
      refine rVal rfl rfl (yld Try.underlying3 rfl rfl hM rfl) ?_
      refine rVal rfl rfl (yqu rfl rfl (by omega)) ?_
      refine rCall rfl rfl (yc (args := [.tmp 123, .const (Value.int .u32 0), .tmp 126]) cf21 rfl) (join_all A 0 (N / 2) hA (by omega) _) ?_
      rintro _ w11 ⟨rfl, hx11⟩
      replace hM := hx11.blk hM
      refine rVal rfl rfl (ymv rfl) ?_
      refine rVal rfl rfl (yex rfl rfl) ?_
      refine rVal rfl rfl (yex rfl rfl) ?_
      refine rVal rfl rfl (yas rfl) ?_
      refine rVal rfl rfl (yas rfl) ?_
      refine rEnd ?_
      refine Run.sub (e := [(5, _), (6, _), (19, _), (20, _), (21, _), (22, _)]) ?_ (by repeat (first | exact Sub.nil | refine Sub.cons rfl ?_))
      refine run_seq ?_
      refine run_reg rfl ?_
      refine rVal rfl rfl (ymv rfl) ?_
      refine rVal rfl rfl (yfa fl35_1 rfl) ?_
      refine rVal rfl rfl (yld Try.underlying33 rfl rfl hM rfl) ?_
      refine rVal rfl rfl (yfa fl35_2 rfl) ?_
      refine rVal rfl rfl (yld Try.underlying3 rfl rfl hM rfl) ?_
      refine rVal rfl rfl (yfa fl35_2 rfl) ?_
      refine rVal rfl rfl (yld Try.underlying3 rfl rfl hM rfl) ?_
      refine rVal rfl rfl (yqu rfl rfl (by omega)) ?_
      refine rVal rfl rfl (ysb rfl rfl (by omega)) ?_
      refine rCall rfl rfl (yc (args := [.tmp 131, .tmp 133, .tmp 139]) cf21 rfl) (join_all (joS A 0 (N / 2)) B (N - N / 2) (joS_lt _ _ _ hA (by omega)) hB _) ?_
      rintro _ w12 ⟨rfl, hx12⟩
      have e0 : joE N = 0 := by unfold joE; rw [if_pos (by omega)]
      have e1 : joE (N / 2) = 0 := by unfold joE; rw [if_pos (by omega)]
      have e2 : joE (N - N / 2) = 0 := by unfold joE; rw [if_pos (by omega)]
      rw [e0, e1, e2, joS_split A B N (by omega) (by omega)]
      refine rVal rfl rfl (ymv rfl) ?_
      refine rVal rfl rfl (yex rfl rfl) ?_
      refine rVal rfl rfl (yex rfl rfl) ?_
      refine rVal rfl rfl (yas rfl) ?_
      refine rVal rfl rfl (yas rfl) ?_
      refine rEnd ?_
      refine run_seq ?_
      refine run_reg rfl ?_
      refine rVal rfl rfl (ymv rfl) ?_
      refine rVal rfl rfl (yeq rfl rfl) ?_
      refine rTrue (by (first | rfl | assumption | omega | decide)) ?_
      refine rVal rfl rfl (ymv rfl) ?_
      refine rVal rfl rfl (ymv rfl) ?_
      refine rVal rfl rfl (yeq rfl rfl) ?_
      refine rTrue (by (first | rfl | assumption | omega | decide)) ?_
      refine rVal rfl rfl (ypT rfl rfl) ?_
      refine rVal rfl rfl (ymv rfl) ?_
      refine rVal rfl rfl (ymv rfl) ?_
      refine rVal rfl rfl (yeq rfl rfl) ?_
      refine rTrue (by (first | rfl | assumption | omega | decide)) ?_
      refine rVal rfl rfl (ypT rfl rfl) ?_
      refine rVal rfl rfl (ymv rfl) ?_
      refine rVal rfl rfl (ymv rfl) ?_
      refine rVal rfl rfl (ymv rfl) ?_
      refine rVal rfl rfl (yeq rfl rfl) ?_
      refine rTrue (by (first | rfl | assumption | omega | decide)) ?_
      refine rVal rfl rfl (ypT rfl rfl) ?_
      refine rVal rfl rfl (ymv rfl) ?_
      refine rCall rfl rfl (yc (args := []) cf14 rfl) (awake3_ret _) ?_
      rintro _ w13 ⟨rfl, hx13⟩
      refine rVal rfl rfl (ypT rfl rfl) ?_
      refine rVal rfl rfl (yas rfl) ?_
      refine rEnd ?_
      refine Run.sub (e := [(5, _), (6, _), (19, _), (20, _)]) ?_ (by repeat (first | exact Sub.nil | refine Sub.cons rfl ?_))
      refine run_ret Try.func4 rfl ?_
      exact ⟨_, rfl, rfl, ((hx.trans hx11).trans hx12).trans hx13⟩
    · skip
      refine run_skip ?_
      refine run_seq ?_
      refine run_reg rfl ?_
      refine rVal rfl rfl (yfa fl35_0 rfl) ?_
      refine rVal rfl rfl (yld Try.underlying33 rfl rfl hM rfl) ?_
      refine rVal rfl rfl (yfa fl35_1 rfl) ?_
      refine rVal rfl rfl (yld Try.underlying33 rfl rfl hM rfl) ?_
      refine rVal rfl rfl (yfa fl35_2 rfl) ?_
      refine rVal rfl rfl (yld Try.underlying3 rfl rfl hM rfl) ?_
      refine rCall rfl rfl (yc (args := [.tmp 163, .tmp 165, .tmp 167]) cf22 rfl) (rjoin_all A B N hA hB _) ?_
      rintro _ w11 ⟨rfl, hx11⟩
      refine rVal rfl rfl (ymv rfl) ?_
      refine rVal rfl rfl (yex rfl rfl) ?_
      refine rVal rfl rfl (yex rfl rfl) ?_
      refine rVal rfl rfl (yas rfl) ?_
      refine rVal rfl rfl (yas rfl) ?_
      refine rEnd ?_
      refine Run.sub (e := [(6, _), (19, _), (20, _), (25, _), (26, _)]) ?_ (by repeat (first | exact Sub.nil | refine Sub.cons rfl ?_))
      refine run_seq ?_
      refine run_reg rfl ?_
      refine rVal rfl rfl (ymv rfl) ?_
      refine rVal rfl rfl (ymv rfl) ?_
      refine rVal rfl rfl (yeq rfl rfl) ?_
      refine rTrue (by (first | rfl | assumption | omega | decide)) ?_
      refine rVal rfl rfl (ymv rfl) ?_
      refine rVal rfl rfl (ymv rfl) ?_
      refine rVal rfl rfl (ymv rfl) ?_
      refine rVal rfl rfl (yeq rfl rfl) ?_
      refine rTrue (by (first | rfl | assumption | omega | decide)) ?_
      refine rVal rfl rfl (ypT rfl rfl) ?_
      refine rVal rfl rfl (ymv rfl) ?_
      refine rCall rfl rfl (yc (args := []) cf14 rfl) (awake3_ret _) ?_
      rintro _ w13 ⟨rfl, hx13⟩
      refine rVal rfl rfl (ypT rfl rfl) ?_
      refine rVal rfl rfl (yas rfl) ?_
      refine rEnd ?_
      refine run_ret Try.func4 rfl ?_
      exact ⟨_, rfl, rfl, (hx.trans hx11).trans hx13⟩
  · skip
    refine rVal rfl rfl (ymv rfl) ?_
    refine rSkip rfl rfl ?_
    refine rSkip rfl rfl ?_
    refine rSkip rfl rfl ?_
    refine rVal rfl rfl (ypF rfl rfl) ?_
    refine rEnd ?_
    refine run_false rfl ?_
    refine run_skip ?_
    refine run_seq ?_
    refine run_reg rfl ?_
    refine rVal rfl rfl (yfa fl35_0 rfl) ?_
    refine rVal rfl rfl (yld Try.underlying33 rfl rfl hM rfl) ?_
    refine rVal rfl rfl (yfa fl35_1 rfl) ?_
    refine rVal rfl rfl (yld Try.underlying33 rfl rfl hM rfl) ?_
    refine rVal rfl rfl (yfa fl35_2 rfl) ?_
    refine rVal rfl rfl (yld Try.underlying3 rfl rfl hM rfl) ?_
    refine rCall rfl rfl (yc (args := [.tmp 163, .tmp 165, .tmp 167]) cf22 rfl) (rjoin_all A B N hA hB _) ?_
    rintro _ w11 ⟨rfl, hx11⟩
    refine rVal rfl rfl (ymv rfl) ?_
    refine rVal rfl rfl (yex rfl rfl) ?_
    refine rVal rfl rfl (yex rfl rfl) ?_
    refine rVal rfl rfl (yas rfl) ?_
    refine rVal rfl rfl (yas rfl) ?_
    refine rEnd ?_
    refine Run.sub (e := [(6, _), (19, _), (20, _), (25, _), (26, _)]) ?_ (by repeat (first | exact Sub.nil | refine Sub.cons rfl ?_))
    refine run_seq ?_
    refine run_reg rfl ?_
    refine rVal rfl rfl (ymv rfl) ?_
    refine rVal rfl rfl (ymv rfl) ?_
    refine rVal rfl rfl (yeq rfl rfl) ?_
    refine rTrue (by (first | rfl | assumption | omega | decide)) ?_
    refine rVal rfl rfl (ymv rfl) ?_
    refine rVal rfl rfl (ymv rfl) ?_
    refine rVal rfl rfl (ymv rfl) ?_
    refine rVal rfl rfl (yeq rfl rfl) ?_
    refine rTrue (by (first | rfl | assumption | omega | decide)) ?_
    refine rVal rfl rfl (ypT rfl rfl) ?_
    refine rVal rfl rfl (ymv rfl) ?_
    refine rCall rfl rfl (yc (args := []) cf14 rfl) (awake3_ret _) ?_
    rintro _ w13 ⟨rfl, hx13⟩
    refine rVal rfl rfl (ypT rfl rfl) ?_
    refine rVal rfl rfl (yas rfl) ?_
    refine rEnd ?_
    refine run_ret Try.func4 rfl ?_
    exact ⟨_, rfl, rfl, (hx.trans hx11).trans hx13⟩
end Go.Proofs.Ytdapkfppcaaohaa
