/- The statement's function DeviceNothingElse walked: it answers true on every argument. -/
import Derived.Test.YtdapkfppcaaohaaDvSf
namespace Go.Proofs.Ytdapkfppcaaohaa
open Go Go.RowKit
set_option linter.all false
set_option maxRecDepth 100000

section
open Classical in
/-- How many of the first blocks are torn. -/
noncomputable def tornTo (D : Dev) (l : List Int) (tn : Int) (mk : UInt8) : Nat → Nat
  | 0 => 0
  | n + 1 => tornTo D l tn mk n + (if D.whole ((D.fall l tn mk).kept (n : Int)) (n : Int) then 0 else 1)
end
theorem torn_yes {D : Dev} {l : List Int} {tn : Int} {mk : UInt8} {n : Nat} {g : Bytes} (hg : (D.fall l tn mk).kept (n : Int) = g) (h : D.whole g (n : Int)) : tornTo D l tn mk (n + 1) = tornTo D l tn mk n := by
  subst hg
  simp only [tornTo, if_pos h, Nat.add_zero]
theorem torn_no {D : Dev} {l : List Int} {tn : Int} {mk : UInt8} {n : Nat} {g : Bytes} (hg : (D.fall l tn mk).kept (n : Int) = g) (h : ¬ D.whole g (n : Int)) : tornTo D l tn mk (n + 1) = tornTo D l tn mk n + 1 := by
  subst hg
  simp only [tornTo, if_neg h]
theorem torn_pos (D : Dev) (l : List Int) (tn : Int) (mk : UInt8) : ∀ n, 0 < tornTo D l tn mk n → ∃ m : Nat, m < n ∧ ¬ D.whole ((D.fall l tn mk).kept (m : Int)) (m : Int)
  | 0, h => by simp [tornTo] at h
  | n + 1, h => by
    by_cases hw : D.whole ((D.fall l tn mk).kept (n : Int)) (n : Int)
    · simp only [tornTo, if_pos hw] at h
      obtain ⟨m, h1, h2⟩ := torn_pos D l tn mk n h
      exact ⟨m, by omega, h2⟩
    · exact ⟨n, by omega, hw⟩
theorem torn_le (D : Dev) (l : List Int) (tn : Int) (mk : UInt8) : ∀ n, tornTo D l tn mk n ≤ 1
  | 0 => by simp [tornTo]
  | n + 1 => by
    have ih := torn_le D l tn mk n
    by_cases hw : D.whole ((D.fall l tn mk).kept (n : Int)) (n : Int)
    · simp only [tornTo, if_pos hw]; exact ih
    · simp only [tornTo, if_neg hw]
      rcases Nat.eq_zero_or_pos (tornTo D l tn mk n) with h | h
      · omega
      · obtain ⟨m, h1, h2⟩ := torn_pos D l tn mk n h
        have := one_torn D l tn mk n m hw h2
        omega
def cut5 (t : Bytes) (k : Nat) : Bytes := (t.drop (512 * k)).take (512 * k + 512 - 512 * k)
theorem cut5_sec (t : Bytes) (k : Nat) : cut5 t k = sec t k := by unfold cut5 sec; rw [show 512 * k + 512 - 512 * k = 512 by omega]
theorem devA_ok {w : World} {p : Nat} {D : Dev} {F : Nat → Prop} (h : DevA w p D F) : D.Ok := by
  obtain ⟨_, _, _, h, -⟩ := h
  exact h.ok

set_option maxHeartbeats 4000000 in
theorem deviceNothingElse_ret (blocks sectors : Int) (v2 v3 kv : Value) (safe more : List (Int × Bytes)) (l : List Int) (tn : Int) (mk : UInt8) (w : World) (hbl : -9223372036854775808 ≤ blocks ∧ blocks ≤ 9223372036854775807) (hse : -9223372036854775808 ≤ sectors ∧ sectors ≤ 9223372036854775807) (h2 : PutsM w v2 safe) (h3 : PutsM w v3 more)
    (hl : l.length ≤ 17592186044415) (hr : Rd w kv 1 l.length (l.map I)) :
    Ret Try.prog 7 [I blocks, I sectors, v2, v3, .agg #[kv, I tn, u8v mk]] w fun v w' => v = .bool true ∧ Ext w w' := by
  have hml : maxLen = 9223372036854775807 := rfl
  obtain ⟨ak, ck, rfl, hak⟩ := hr.shape
  obtain ⟨a2, c2, rfl, -⟩ := h2.rd.shape
  obtain ⟨a3, c3, rfl, -⟩ := h3.rd.shape
  refine ret_of_run (e := [(0, _), (1, _), (2, _), (3, _), (4, _)]) Try.func7 rfl Try.ntmps7 rfl rfl ?_
  refine run_seq ?_
  refine run_reg rfl ?_
  refine rValP rfl rfl (pbx rfl rfl) ?_
  rintro _ w1 ⟨b9, rfl, hb9, hx1, hB9⟩
  refine rVal rfl rfl (yas rfl) ?_
  refine rEnd ?_
  refine run_seq ?_
  refine run_reg rfl ?_
  refine rVal rfl rfl (ymv rfl) ?_
  refine rVal rfl rfl (ymv rfl) ?_
  refine rVal rfl rfl (ymv rfl) ?_
  refine rVal rfl rfl (ymv rfl) ?_
  refine rCall rfl rfl (yc (args := [.tmp 23, .tmp 24, .tmp 25, .tmp 26]) cf23 rfl) (written_ret blocks sectors _ _ safe more w1 hbl hse (h2.ext hx1) (h3.ext hx1)) ?_
  rintro _ w2 ⟨B, N, ⟨⟨p, D, F, u, x, rfl, hA2, hC, hS, hU2, hL2, hl60, hd1, hd2, hd3⟩, hx2, hBr, hNr⟩⟩
  obtain ⟨ua, uc, rfl, -⟩ := hU2.rd.shape
  obtain ⟨xa, xc, rfl, -⟩ := hL2.rd.shape
  refine rVal rfl rfl (ymv rfl) ?_
  refine rVal rfl rfl (yex rfl rfl) ?_
  refine rVal rfl rfl (yex rfl rfl) ?_
  refine rVal rfl rfl (yex rfl rfl) ?_
  refine rVal rfl rfl (yas rfl) ?_
  refine rVal rfl rfl (yas rfl) ?_
  refine rVal rfl rfl (yas rfl) ?_
  refine rEnd ?_
  refine run_seq ?_
  refine run_seq ?_
  refine run_reg rfl ?_
  refine rVal rfl rfl (ymv rfl) ?_
  refine rVal rfl rfl (yeqpN Try.underlying46 rfl rfl) ?_
  refine rVal rfl rfl (ymv rfl) ?_
  refine rCall rfl rfl (yc (args := []) cf24 rfl) (awake_ret w2) ?_
  rintro _ w3 ⟨rfl, hx3⟩
  refine rVal rfl rfl ((by first | exact yntd rfl | exact ynt rfl)) ?_
  refine rVal rfl rfl (ypF rfl rfl) ?_
  refine rEnd ?_
  refine Run.sub (e := [(9, _), (10, _), (11, _), (12, _), (13, _), (36, _)]) ?_ (by repeat (first | exact Sub.nil | refine Sub.cons rfl ?_))
  refine run_false rfl ?_
  have hA3 := hA2.ext hx3
  have hU3 := hU2.ext hx3
  have hL3 := hL2.ext hx3
  have hx13 := hx2.trans hx3
  have hB93 := hx13.blk hB9
  refine run_skip ?_
  refine run_seq ?_
  refine run_seq ?_
  refine run_reg rfl ?_
  refine rVal rfl rfl (ymv rfl) ?_
  refine rVal rfl rfl (yldA Try.underlying45 rfl ti45 rfl (Blk.cells (n := 3) hB93 (news := [_, _, _]) rfl) rfl) ?_
  refine rCall rfl rfl (yc (args := [.tmp 38]) cf26 rfl) (in_ret (.slice ak l.length ck) l tn mk hl (hr.ext (hx1.trans hx13))) ?_
  rintro _ w7 ⟨g, cap, rfl, hI7, hx7, hg7⟩
  have hA7 := hA3.ext hx7
  have hU7 := hU3.ext hx7
  have hL7 := hL3.ext hx7
  have hx17 := hx13.trans hx7
  refine rCall rfl rfl (yc (args := [.tmp 37, .tmp 39]) cf25 rfl) (pullA_ret (.slice (some ⟨g, 0, none⟩) l.length cap) l tn mk hA7 hS (by omega) (by omega) hI7.rd) ?_
  rintro _ w8 ⟨rfl, h8⟩
  rw [if_neg (by simp [hC.1])] at h8 ⊢
  obtain ⟨F8, hA8, hu8⟩ := h8
  refine rVal rfl rfl (yne rfl rfl) ?_
  refine rFalse (by (first | exact fun h => h rfl | assumption | omega)) ?_
  refine rVal rfl rfl (ymv rfl) ?_
  refine rVal rfl rfl (ymv rfl) ?_
  refine rCall rfl rfl (yc (args := [.tmp 43]) cf27 rfl) (restartA_ret hA8) ?_
  rintro _ w9 ⟨rfl, h9⟩
  obtain ⟨F9, hA9, hu9⟩ := h9
  replace hA9 : DevA w9 p (D.fell l tn mk) F9 := hA9
  have hS9 := small_fell hS l tn mk
  have hF8U := hu8.dis (G := fun i => (Value.slice ua B uc).ownBlock = some i) (fun i hi => hU7.lt hi) (fun i hi => (hd1 i hi).2.1)
  have hF8L := hu8.dis (G := fun i => (Value.slice xa D.cache.length xc).ownBlock = some i) (fun i hi => hL7.lt hi) (fun i hi => (hd1 i hi).2.2)
  have hU9 := (hU7.kp hu8.1 (fun i hi hf => (hd1 i hf).2.1 hi)).kp hu9.1 (fun i hi hf => hF8U i hf hi)
  have hL9 := (hL7.kp hu8.1 (fun i hi hf => (hd1 i hf).2.2 hi)).kp hu9.1 (fun i hi hf => hF8L i hf hi)
  have hF1 : ∀ i, F i → w1.heap.size ≤ i := fun i hi => (hd1 i hi).1
  have hx18 := hu8.ext hx17 hF1
  have hx19 := hu9.ext hx18 (hu8.low hx17.size hF1)
  refine rVal rfl rfl (yne rfl rfl) ?_
  refine rFalse (by (first | exact fun h => h rfl | assumption | omega)) ?_
  refine rVal rfl rfl (ypF rfl rfl) ?_
  refine rEnd ?_
  refine run_false rfl ?_
  refine run_skip ?_
  refine run_seq ?_
  refine run_reg rfl ?_
  refine rVal rfl rfl (ymv rfl) ?_
  refine rCall rfl rfl (yc (args := [.tmp 47]) cf28 rfl) (imageA_ret hA9 hS9 (by omega)) ?_
  rintro gv w10 ⟨hGt, hx10, hg10⟩
  have hBB := hC.2.2.1
  have hNN := hC.2.2.2
  have hDB : (D.fell l tn mk).B = B := hBB
  have hok := devA_ok hA2
  rw [hDB] at hGt
  obtain ⟨ga, gc, rfl, -⟩ := hGt.rd.shape
  have hU10 := hU9.ext hx10
  have hL10 := hL9.ext hx10
  refine rVal rfl rfl (yas rfl) ?_
  refine rEnd ?_
  refine run_seq ?_
  refine run_reg rfl ?_
  refine rVal rfl rfl (yas rfl) ?_
  refine rEnd ?_
  refine run_seq ?_
  refine run_seq ?_
  refine run_reg rfl ?_
  refine rVal rfl rfl (yas rfl) ?_
  refine rEnd ?_
  refine run_block ?_
  refine run_loop (α := Nat) (0) (fun n => [(12, .slice ua B uc), (13, .slice xa D.cache.length xc), (14, .slice ga B gc), (15, I (tornTo D l tn mk n : Int)), (16, I (n : Int))]) (fun n wi => n ≤ B ∧ Ext w10 wi) (fun n => B - n) (by repeat (first | exact Sub.nil | refine Sub.cons rfl ?_)) ?hI ?hround
  case hI => exact ⟨by omega, Ext.refl _⟩
  case hround =>
    rintro n wi ⟨hn, hxi⟩ ih
    have htn := torn_le D l tn mk n
    dsimp only
    refine run_seq ?_
    refine run_seq ?_
    refine run_reg rfl ?_
    refine rVal rfl rfl (ymv rfl) ?_
    refine rVal rfl rfl (ymv rfl) ?_
    refine rVal rfl rfl (yln Try.underlying47 rfl) ?_
    refine rVal rfl rfl (ylt rfl rfl) ?_
    refine rVal_if (fun hlt => ?_) (fun hlt => ?_)
    · skip
      have hnB : n < B := by omega
      have hnD : n < D.B := by omega
      refine rVal rfl rfl (ymv rfl) ?_
      refine rVal rfl rfl (ymv rfl) ?_
      refine rVal rfl rfl (yln Try.underlying47 rfl) ?_
      refine rVal rfl rfl (ymv rfl) ?_
      refine rVal rfl rfl (yln Try.underlying47 rfl) ?_
      refine rVal rfl rfl (yeq rfl rfl) ?_
      refine rTrue (by (first | rfl | assumption | omega | decide)) ?_
      refine rVal rfl rfl (ypT rfl rfl) ?_
      refine rEnd ?_
      refine run_true rfl ?_
      refine run_skip ?_
      refine run_seq ?_
      refine run_block ?_
      refine run_seq ?_
      obtain ⟨gB, hgB⟩ : ∃ gB, (D.fall l tn mk).kept (n : Int) = gB := ⟨_, rfl⟩
      obtain ⟨wB, hwB⟩ : ∃ wB, D.kept (n : Int) = wB := ⟨_, rfl⟩
      have hgBl : gB.length = 512 * N := by rw [← hgB, ← hNN]; exact keptTo_length hok l tn mk n _ (Nat.le_refl _)
      have hwBl : wB.length = 512 * N := by rw [← hwB, ← hNN]; exact hok.kept n
      have hUi := hU10.ext hxi
      have hGi := hGt.ext hxi
      have hLi := hL10.ext hxi
      rcases hUi.shape with ⟨-, h⟩ | ⟨ub, uc', hva, -⟩
      · omega
      cases hva
      rcases hGi.shape with ⟨-, h⟩ | ⟨gb, gc', hva, -⟩
      · omega
      cases hva
      have c1 : wi.cell? ⟨gb, 0 + n * 1, none⟩ = some (S gB) := by
        refine sl_cell1 hGi ?_
        rw [fell_image, List.map_map, List.getElem?_map, List.getElem?_range (by omega)]
        simp only [Option.map_some, Function.comp, hgB]
      have c2 : wi.cell? ⟨ub, 0 + n * 1, none⟩ = some (S wB) := sl_cell1 hUi (by rw [List.getElem?_map, safes_get D n hnD, hwB]; rfl)
      refine run_draw (fun w' => w' = wi.drew) (by kernel_rfl) rfl ?_
      refine hTake (i := 0) rfl (by kernel_rfl) rfl rfl (fun _ hS => ymv rfl) (rfl) ?_
      refine hTake (i := 1) rfl (by kernel_rfl) rfl rfl (fun _ hS => ymv rfl) (rfl) ?_
      refine hTake (i := 2) rfl (by kernel_rfl) rfl rfl (fun _ hS => yis Try.underlying47 ti9 rfl rfl (by omega)) (rfl) ?_
      refine hTake (i := 4) rfl (by kernel_rfl) rfl rfl (fun _ hS => ymv rfl) (rfl) ?_
      refine hTake (i := 5) rfl (by kernel_rfl) rfl rfl (fun _ hS => ymv rfl) (rfl) ?_
      refine hTake (i := 6) rfl (by kernel_rfl) rfl rfl (fun _ hS => yis Try.underlying47 ti9 rfl rfl (by omega)) (rfl) ?_
      refine hTake (i := 3) rfl (by kernel_rfl) rfl rfl (fun _ hS => yldc Try.underlying9 rfl rfl (by rw [hS]; exact c1)) (rfl) ?_
      refine hTake (i := 7) rfl (by kernel_rfl) rfl rfl (fun _ hS => yldc Try.underlying9 rfl rfl (by rw [hS]; exact c2)) (rfl) ?_
      refine hTake (i := 8) rfl (by kernel_rfl) rfl rfl (fun _ hS => yeqS rfl rfl) (rfl) ?_
      refine hTake (i := 9) rfl (by kernel_rfl) rfl rfl (fun _ hS => yas rfl) (rfl) ?_
      refine hEnd (by kernel_rfl) ?_
      refine run_seq ?_
      refine run_seq ?_
      refine run_reg rfl ?_
      refine rVal rfl rfl (yas rfl) ?_
      refine rEnd ?_
      refine run_block ?_
      -- is it whole?
      refine run_cut2 (fun e' w' => ∃ b : Bool, e' = [(12, .slice (some ⟨ub, 0, none⟩) B uc), (13, .slice xa D.cache.length xc), (14, .slice (some ⟨gb, 0, none⟩) B gc), (15, I (tornTo D l tn mk n : Int)), (16, I (n : Int)), (17, .bool b)] ∧ Ext wi w' ∧ (b = true ↔ D.whole gB (n : Int))) ?hkb (fun hkb => ?hmainb)
      case hkb =>
        rintro _ w11 ⟨b, rfl, hx11, hb⟩
        refine run_seq ?_
        refine run_seq ?_
        refine run_reg rfl ?_
        refine rVal rfl rfl (ymv rfl) ?_
        refine rVal rfl rfl ((by first | exact yntd rfl | exact ynt rfl)) ?_
        refine rEnd ?_
        refine run_cut (fun e' w' => e' = [(12, .slice (some ⟨ub, 0, none⟩) B uc), (13, .slice xa D.cache.length xc), (14, .slice (some ⟨gb, 0, none⟩) B gc), (15, I (tornTo D l tn mk (n + 1) : Int)), (16, I (n : Int))] ∧ w' = w11) ?hkc (fun hkc => ?hmainc)
        case hkc =>
          rintro _ w12 ⟨rfl, rfl⟩
          refine run_seq ?_
          refine run_reg rfl ?_
          refine rVal rfl rfl (yas rfl) ?_
          refine rEnd ?_
          refine run_block ?_
          refine run_loop (α := Nat) (0) (fun k => [(12, .slice (some ⟨ub, 0, none⟩) B uc), (13, .slice xa D.cache.length xc), (14, .slice (some ⟨gb, 0, none⟩) B gc), (15, I (tornTo D l tn mk (n + 1) : Int)), (16, I (n : Int)), (19, I ((512 * k : Nat) : Int))]) (fun k wk => k ≤ N ∧ Ext wi wk) (fun k => N - k) (by repeat (first | exact Sub.nil | refine Sub.cons rfl ?_)) ?hI ?hround
          case hI => exact ⟨by omega, hx11⟩
          case hround =>
            rintro k wk ⟨hk, hxk⟩ ihk
            have k1 : wk.cell? ⟨gb, 0 + n * 1, none⟩ = some (S gB) := by
              refine sl_cell1 (hGi.ext hxk) ?_
              rw [fell_image, List.map_map, List.getElem?_map, List.getElem?_range (by omega)]
              simp only [Option.map_some, Function.comp, hgB]
            have k2 : wk.cell? ⟨ub, 0 + n * 1, none⟩ = some (S wB) := sl_cell1 (hUi.ext hxk) (by rw [List.getElem?_map, safes_get D n hnD, hwB]; rfl)
            dsimp only
            refine run_seq ?_
            refine run_seq ?_
            refine run_draw (fun w' => w' = wk.drew) (by kernel_rfl) rfl ?_
            refine hTake (i := 0) rfl (by kernel_rfl) rfl rfl (fun _ hS => ymv rfl) (rfl) ?_
            refine hTake (i := 1) rfl (by kernel_rfl) rfl rfl (fun _ hS => yad rfl rfl (by omega)) (rfl) ?_
            refine hTake (i := 2) rfl (by kernel_rfl) rfl rfl (fun _ hS => ymv rfl) (rfl) ?_
            refine hTake (i := 3) rfl (by kernel_rfl) rfl rfl (fun _ hS => ymv rfl) (rfl) ?_
            refine hTake (i := 4) rfl (by kernel_rfl) rfl rfl (fun _ hS => yis Try.underlying47 ti9 rfl rfl (by omega)) (rfl) ?_
            refine hTake (i := 5) rfl (by kernel_rfl) rfl rfl (fun _ hS => yldc Try.underlying9 rfl rfl (by rw [hS]; exact k2)) (rfl) ?_
            refine hTake (i := 6) rfl (by kernel_rfl) rfl rfl (fun _ hS => ylnS Try.underlying9 rfl) (rfl) ?_
            refine hTake (i := 7) rfl (by kernel_rfl) rfl rfl (fun _ hS => yle rfl rfl) (rfl) ?_
            refine rh_if (fun hsk => ?_) (fun hsk => ?_)
            · skip
              have hkN : k < N := by omega
              refine hTake (i := 8) rfl (by kernel_rfl) rfl rfl (fun _ hS => ymv rfl) (rfl) ?_
              refine hTake (i := 9) rfl (by kernel_rfl) rfl rfl (fun _ hS => ymv rfl) (rfl) ?_
              refine hTake (i := 10) rfl (by kernel_rfl) rfl rfl (fun _ hS => ymv rfl) (rfl) ?_
              refine hTake (i := 11) rfl (by kernel_rfl) rfl rfl (fun _ hS => yis Try.underlying47 ti9 rfl rfl (by omega)) (rfl) ?_
              refine hTake (i := 14) rfl (by kernel_rfl) rfl rfl (fun _ hS => ymv rfl) (rfl) ?_
              refine hTake (i := 15) rfl (by kernel_rfl) rfl rfl (fun _ hS => ymv rfl) (rfl) ?_
              refine hTake (i := 16) rfl (by kernel_rfl) rfl rfl (fun _ hS => yis Try.underlying47 ti9 rfl rfl (by omega)) (rfl) ?_
              refine hTake (i := 12) rfl (by kernel_rfl) rfl rfl (fun _ hS => yldc Try.underlying9 rfl rfl (by rw [hS]; exact k1)) (rfl) ?_
              refine hTake (i := 13) rfl (by kernel_rfl) rfl rfl (fun _ hS => ylnS Try.underlying9 rfl) (rfl) ?_
              refine hTake (i := 17) rfl (by kernel_rfl) rfl rfl (fun _ hS => yldc Try.underlying9 rfl rfl (by rw [hS]; exact k2)) (rfl) ?_
              rw [hgBl, hwBl]
              refine hTake (i := 18) rfl (by kernel_rfl) rfl rfl (fun _ hS => ylnS Try.underlying9 rfl) (rfl) ?_
              refine hTake (i := 19) rfl (by kernel_rfl) rfl rfl (fun _ hS => yeq rfl rfl) (rfl) ?_
              refine hTrue (by (first | rfl | assumption | omega | decide)) ?_
              refine hTake (i := 20) rfl (by kernel_rfl) rfl rfl (fun _ hS => ypT rfl rfl) (rfl) ?_
              refine hEnd (by kernel_rfl) ?_
              refine run_true rfl ?_
              refine run_skip ?_
              refine run_seq ?_
              refine run_block ?_
              refine run_seq ?_
              refine run_draw (fun w' => w' = wk.drew.drew) (by kernel_rfl) rfl ?_
              refine hTake (i := 0) rfl (by kernel_rfl) rfl rfl (fun _ hS => ymv rfl) (rfl) ?_
              refine hTake (i := 1) rfl (by kernel_rfl) rfl rfl (fun _ hS => ymv rfl) (rfl) ?_
              refine hTake (i := 2) rfl (by kernel_rfl) rfl rfl (fun _ hS => yis Try.underlying47 ti9 rfl rfl (by omega)) (rfl) ?_
              refine hTake (i := 4) rfl (by kernel_rfl) rfl rfl (fun _ hS => ymv rfl) (rfl) ?_
              refine hTake (i := 5) rfl (by kernel_rfl) rfl rfl (fun _ hS => ymv rfl) (rfl) ?_
              refine hTake (i := 6) rfl (by kernel_rfl) rfl rfl (fun _ hS => yad rfl rfl (by omega)) (rfl) ?_
              refine hTake (i := 8) rfl (by kernel_rfl) rfl rfl (fun _ hS => ymv rfl) (rfl) ?_
              refine hTake (i := 9) rfl (by kernel_rfl) rfl rfl (fun _ hS => ymv rfl) (rfl) ?_
              refine hTake (i := 10) rfl (by kernel_rfl) rfl rfl (fun _ hS => yis Try.underlying47 ti9 rfl rfl (by omega)) (rfl) ?_
              refine hTake (i := 12) rfl (by kernel_rfl) rfl rfl (fun _ hS => ymv rfl) (rfl) ?_
              refine hTake (i := 13) rfl (by kernel_rfl) rfl rfl (fun _ hS => ymv rfl) (rfl) ?_
              refine hTake (i := 14) rfl (by kernel_rfl) rfl rfl (fun _ hS => yad rfl rfl (by omega)) (rfl) ?_
              refine hTake (i := 3) rfl (by kernel_rfl) rfl rfl (fun _ hS => yldc Try.underlying9 rfl rfl (by rw [hS]; exact k1)) (rfl) ?_
              refine hTake (i := 7) rfl (by kernel_rfl) rfl rfl (fun _ hS => yslS Try.underlying9 rfl rfl rfl (by omega)) (rfl) ?_
              refine hTake (i := 11) rfl (by kernel_rfl) rfl rfl (fun _ hS => yldc Try.underlying9 rfl rfl (by rw [hS]; exact k2)) (rfl) ?_
              refine hTake (i := 15) rfl (by kernel_rfl) rfl rfl (fun _ hS => yslS Try.underlying9 rfl rfl rfl (by omega)) (rfl) ?_
              refine hTake (i := 16) rfl (by kernel_rfl) rfl rfl (fun _ hS => yeqS rfl rfl) (rfl) ?_
              refine hTake (i := 17) rfl (by kernel_rfl) rfl rfl (fun _ hS => yas rfl) (rfl) ?_
              refine hEnd (by kernel_rfl) ?_
              refine run_seq ?_
              refine run_seq ?_
              refine run_reg rfl ?_
              refine rVal rfl rfl (yas rfl) ?_
              refine rEnd ?_
              refine run_block ?_
              rw [show ((gB.drop (512 * k)).take (512 * k + 512 - 512 * k)) = cut5 gB k from rfl, show ((wB.drop (512 * k)).take (512 * k + 512 - 512 * k)) = cut5 wB k from rfl]
              refine run_cut2 (fun e' w' => ∃ b : Bool, e' = [(12, .slice (some ⟨ub, 0, none⟩) B uc), (13, .slice xa D.cache.length xc), (14, .slice (some ⟨gb, 0, none⟩) B gc), (15, I (tornTo D l tn mk (n + 1) : Int)), (16, I (n : Int)), (19, I ((512 * k : Nat) : Int)), (20, .bool b)] ∧ Ext wk w' ∧ (b = true ↔ (cut5 gB k = cut5 wB k ∨ ∃ y ∈ D.cache, y.1 = (n : Int) ∧ cut5 gB k = cut5 y.2 k))) ?hkd (fun hkd => ?hmaind)
              case hkd =>
                rintro _ w13 ⟨b, rfl, hx13', hb⟩
                have hbt : b = true := by
                  rw [hb]
                  simp only [cut5_sec]
                  rw [← hgB, ← hwB, keptTo_fall]
                  exact sec_fall hok l tn mk n k (by omega) _ (Nat.le_refl _)
                subst hbt
                refine run_seq ?_
                refine run_reg rfl ?_
                refine rVal rfl rfl (ymv rfl) ?_
                refine rVal rfl rfl ((by first | exact yntd rfl | exact ynt rfl)) ?_
                refine rEnd ?_
                refine run_false rfl ?_
                refine run_skip ?_
                refine run_inBlock ?_
                refine run_reg rfl ?_
                refine rVal rfl rfl (ymv rfl) ?_
                refine rVal rfl rfl (yad rfl rfl (by omega)) ?_
                refine rVal rfl rfl (yas rfl) ?_
                refine rEnd ?_
                have e5 : ((512 * k : Nat) : Int) + 512 = ((512 * (k + 1) : Nat) : Int) := by omega
                rw [e5]
                exact (ihk (k + 1) _ ⟨by omega, hxk.trans hx13'⟩ (by omega)).sub (by repeat (first | exact Sub.nil | refine Sub.cons rfl ?_))
              case hmaind =>
                refine run_loop (α := Nat × Bool) ((0, decide (cut5 gB k = cut5 wB k))) (fun i => [(12, .slice (some ⟨ub, 0, none⟩) B uc), (13, .slice xa D.cache.length xc), (14, .slice (some ⟨gb, 0, none⟩) B gc), (15, I (tornTo D l tn mk (n + 1) : Int)), (16, I (n : Int)), (19, I ((512 * k : Nat) : Int)), (20, .bool i.2), (21, I (i.1 : Int))]) (fun i wj => i.1 ≤ D.cache.length ∧ Ext wk wj ∧ (i.2 = true ↔ (cut5 gB k = cut5 wB k ∨ ∃ y ∈ D.cache.take i.1, y.1 = (n : Int) ∧ cut5 gB k = cut5 y.2 k))) (fun i => D.cache.length - i.1) (by repeat (first | exact Sub.nil | refine Sub.cons rfl ?_)) ?hI ?hround
                case hI => exact ⟨by simp, (Ext.drew0 wk).drew, by simp⟩
                case hround =>
                  rintro ⟨i, b⟩ wj ⟨hi, hxj, hb⟩ ihj
                  simp only at hi hb
                  dsimp only
                  refine run_seq ?_
                  refine run_seq ?_
                  refine run_reg rfl ?_
                  refine rVal rfl rfl (ymv rfl) ?_
                  refine rVal rfl rfl (ymv rfl) ?_
                  refine rVal rfl rfl (yln Try.underlying42 rfl) ?_
                  refine rVal rfl rfl (ylt rfl rfl) ?_
                  refine rEnd ?_
                  refine run_if rfl (fun hlt2 => ?_) (fun hlt2 => ?_)
                  · skip
                    have hlt' : i < D.cache.length := by omega
                    obtain ⟨xb, xoff, xcap, y, hva, hyg⟩ := rd_get ((hLi.ext hxk).ext hxj).rd hlt'
                    cases hva
                    obtain ⟨d1, d2⟩ := rd_at ((hLi.ext hxk).ext hxj).rd hlt' hyg
                    have hyl : y.2.length = 512 * N := by rw [← hNN]; exact (hok.cache y (List.mem_of_getElem? hyg)).2.2
                    have hy : D.cache[i] = y := by rw [List.getElem?_eq_getElem hlt'] at hyg; exact Option.some.inj hyg
                    have htk : D.cache.take (i + 1) = D.cache.take i ++ [y] := by rw [List.take_succ_eq_append_getElem hlt', hy]
                    have j1 : wj.cell? ⟨gb, 0 + n * 1, none⟩ = some (S gB) := by
                      refine sl_cell1 ((hGi.ext hxk).ext hxj) ?_
                      rw [fell_image, List.map_map, List.getElem?_map, List.getElem?_range (by omega)]
                      simp only [Option.map_some, Function.comp, hgB]
                    refine run_skip ?_
                    refine run_seq ?_
                    refine run_block ?_
                    refine run_draw (fun w' => w' = wj.drew) (by kernel_rfl) rfl ?_
                    refine hTake (i := 0) rfl (by kernel_rfl) rfl rfl (fun _ hS => ymv rfl) (rfl) ?_
                    refine hTake (i := 1) rfl (by kernel_rfl) rfl rfl (fun _ hS => ymv rfl) (rfl) ?_
                    cases b with
                    | true =>
                      refine hSkip (i := 2) rfl (by kernel_rfl) rfl rfl (rfl) ?_
                      refine hSkip (i := 3) rfl (by kernel_rfl) rfl rfl (rfl) ?_
                      refine hSkip (i := 4) rfl (by kernel_rfl) rfl rfl (rfl) ?_
                      refine hSkip (i := 5) rfl (by kernel_rfl) rfl rfl (rfl) ?_
                      refine hSkip (i := 6) rfl (by kernel_rfl) rfl rfl (rfl) ?_
                      refine hSkip (i := 7) rfl (by kernel_rfl) rfl rfl (rfl) ?_
                      refine hSkip (i := 8) rfl (by kernel_rfl) rfl rfl (rfl) ?_
                      refine hSkip (i := 9) rfl (by kernel_rfl) rfl rfl (rfl) ?_
                      refine hSkip (i := 10) rfl (by kernel_rfl) rfl rfl (rfl) ?_
                      refine hSkip (i := 11) rfl (by kernel_rfl) rfl rfl (rfl) ?_
                      refine hSkip (i := 12) rfl (by kernel_rfl) rfl rfl (rfl) ?_
                      refine hSkip (i := 13) rfl (by kernel_rfl) rfl rfl (rfl) ?_
                      refine hSkip (i := 14) rfl (by kernel_rfl) rfl rfl (rfl) ?_
                      refine hSkip (i := 15) rfl (by kernel_rfl) rfl rfl (rfl) ?_
                      refine hSkip (i := 16) rfl (by kernel_rfl) rfl rfl (rfl) ?_
                      refine hSkip (i := 17) rfl (by kernel_rfl) rfl rfl (rfl) ?_
                      refine hSkip (i := 18) rfl (by kernel_rfl) rfl rfl (rfl) ?_
                      refine hSkip (i := 19) rfl (by kernel_rfl) rfl rfl (rfl) ?_
                      refine hSkip (i := 20) rfl (by kernel_rfl) rfl rfl (rfl) ?_
                      refine hSkip (i := 21) rfl (by kernel_rfl) rfl rfl (rfl) ?_
                      refine hSkip (i := 22) rfl (by kernel_rfl) rfl rfl (rfl) ?_
                      refine hSkip (i := 23) rfl (by kernel_rfl) rfl rfl (rfl) ?_
                      refine hSkip (i := 24) rfl (by kernel_rfl) rfl rfl (rfl) ?_
                      refine hSkip (i := 25) rfl (by kernel_rfl) rfl rfl (rfl) ?_
                      refine hSkip (i := 26) rfl (by kernel_rfl) rfl rfl (rfl) ?_
                      refine hSkip (i := 27) rfl (by kernel_rfl) rfl rfl (rfl) ?_
                      refine hSkip (i := 28) rfl (by kernel_rfl) rfl rfl (rfl) ?_
                      refine hTake (i := 29) rfl (by kernel_rfl) rfl rfl (fun _ hS => ypT rfl rfl) (rfl) ?_
                      refine hTake (i := 30) rfl (by kernel_rfl) rfl rfl (fun _ hS => yas rfl) (rfl) ?_
                      refine hEnd (by kernel_rfl) ?_
                      refine run_inBlock ?_
                      refine run_reg rfl ?_
                      refine rVal rfl rfl (ymv rfl) ?_
                      refine rVal rfl rfl (yad rfl rfl (by omega)) ?_
                      refine rVal rfl rfl (yas rfl) ?_
                      refine rEnd ?_
                      refine (ihj (i + 1, true) _ ⟨by show i + 1 ≤ _; omega, hxj.trans (Ext.drew0 wj), ⟨fun _ => ?_, fun _ => rfl⟩⟩ (by show D.cache.length - (i + 1) < D.cache.length - i; omega)).sub (by repeat (first | exact Sub.nil | refine Sub.cons rfl ?_))
                      rcases hb.1 rfl with h | ⟨z, hz, h1, h2⟩
                      · exact .inl h
                      · exact .inr ⟨z, by rw [htk]; simp [hz], h1, h2⟩
                    | false =>
                      refine hTake (i := 2) rfl (by kernel_rfl) rfl rfl (fun _ hS => ymv rfl) (rfl) ?_
                      refine hTake (i := 3) rfl (by kernel_rfl) rfl rfl (fun _ hS => ymv rfl) (rfl) ?_
                      refine hTake (i := 4) rfl (by kernel_rfl) rfl rfl (fun _ hS => yis Try.underlying42 ti56 rfl rfl (by omega)) (rfl) ?_
                      refine hTake (i := 5) rfl (by kernel_rfl) rfl rfl (fun _ hS => yfa fl56_0 rfl) (rfl) ?_
                      refine hTake (i := 7) rfl (by kernel_rfl) rfl rfl (fun _ hS => ymv rfl) (rfl) ?_
                      refine hTake (i := 6) rfl (by kernel_rfl) rfl rfl (fun _ hS => yldc Try.underlying3 rfl rfl (by rw [hS]; exact d1)) (rfl) ?_
                      refine hTake (i := 8) rfl (by kernel_rfl) rfl rfl (fun _ hS => yeq rfl rfl) (rfl) ?_
                      have hno : ¬ (cut5 gB k = cut5 wB k ∨ ∃ y ∈ D.cache.take i, y.1 = (n : Int) ∧ cut5 gB k = cut5 y.2 k) := fun h => by have := hb.2 h; cases this
                      refine rh_if (fun heq => ?_) (fun heq => ?_)
                      · skip
                        refine hTake (i := 9) rfl (by kernel_rfl) rfl rfl (fun _ hS => ymv rfl) (rfl) ?_
                        refine hTake (i := 10) rfl (by kernel_rfl) rfl rfl (fun _ hS => ymv rfl) (rfl) ?_
                        refine hTake (i := 11) rfl (by kernel_rfl) rfl rfl (fun _ hS => ymv rfl) (rfl) ?_
                        refine hTake (i := 12) rfl (by kernel_rfl) rfl rfl (fun _ hS => yis Try.underlying47 ti9 rfl rfl (by omega)) (rfl) ?_
                        refine hTake (i := 14) rfl (by kernel_rfl) rfl rfl (fun _ hS => ymv rfl) (rfl) ?_
                        refine hTake (i := 15) rfl (by kernel_rfl) rfl rfl (fun _ hS => ymv rfl) (rfl) ?_
                        refine hTake (i := 16) rfl (by kernel_rfl) rfl rfl (fun _ hS => yad rfl rfl (by omega)) (rfl) ?_
                        refine hTake (i := 18) rfl (by kernel_rfl) rfl rfl (fun _ hS => ymv rfl) (rfl) ?_
                        refine hTake (i := 19) rfl (by kernel_rfl) rfl rfl (fun _ hS => ymv rfl) (rfl) ?_
                        refine hTake (i := 20) rfl (by kernel_rfl) rfl rfl (fun _ hS => yis Try.underlying42 ti56 rfl rfl (by omega)) (rfl) ?_
                        refine hTake (i := 21) rfl (by kernel_rfl) rfl rfl (fun _ hS => yfa fl56_1 rfl) (rfl) ?_
                        refine hTake (i := 23) rfl (by kernel_rfl) rfl rfl (fun _ hS => ymv rfl) (rfl) ?_
                        refine hTake (i := 24) rfl (by kernel_rfl) rfl rfl (fun _ hS => ymv rfl) (rfl) ?_
                        refine hTake (i := 25) rfl (by kernel_rfl) rfl rfl (fun _ hS => yad rfl rfl (by omega)) (rfl) ?_
                        refine hTake (i := 13) rfl (by kernel_rfl) rfl rfl (fun _ hS => yldc Try.underlying9 rfl rfl (by rw [hS]; exact j1)) (rfl) ?_
                        refine hTake (i := 17) rfl (by kernel_rfl) rfl rfl (fun _ hS => yslS Try.underlying9 rfl rfl rfl (by omega)) (rfl) ?_
                        refine hTake (i := 22) rfl (by kernel_rfl) rfl rfl (fun _ hS => yldc Try.underlying9 rfl rfl (by rw [hS]; exact d2)) (rfl) ?_
                        refine hTake (i := 26) rfl (by kernel_rfl) rfl rfl (fun _ hS => yslS Try.underlying9 rfl rfl rfl (by omega)) (rfl) ?_
                        refine hTake (i := 27) rfl (by kernel_rfl) rfl rfl (fun _ hS => yeqS rfl rfl) (rfl) ?_
                        refine hTake (i := 28) rfl (by kernel_rfl) rfl rfl (fun _ hS => ypT rfl rfl) (rfl) ?_
                        refine hTake (i := 29) rfl (by kernel_rfl) rfl rfl (fun _ hS => ypF rfl rfl) (rfl) ?_
                        refine hTake (i := 30) rfl (by kernel_rfl) rfl rfl (fun _ hS => yas rfl) (rfl) ?_
                        refine hEnd (by kernel_rfl) ?_
                        refine run_inBlock ?_
                        refine run_reg rfl ?_
                        refine rVal rfl rfl (ymv rfl) ?_
                        refine rVal rfl rfl (yad rfl rfl (by omega)) ?_
                        refine rVal rfl rfl (yas rfl) ?_
                        refine rEnd ?_
                        rw [show ((gB.drop (512 * k)).take (512 * k + 512 - 512 * k)) = cut5 gB k from rfl, show ((y.2.drop (512 * k)).take (512 * k + 512 - 512 * k)) = cut5 y.2 k from rfl]
                        refine (ihj (i + 1, decide (cut5 gB k = cut5 y.2 k)) _ ⟨by show i + 1 ≤ _; omega, hxj.trans (Ext.drew0 wj), ?_⟩ (by show D.cache.length - (i + 1) < D.cache.length - i; omega)).sub (by repeat (first | exact Sub.nil | refine Sub.cons rfl ?_))
                        show decide (cut5 gB k = cut5 y.2 k) = true ↔ _
                        rw [decide_eq_true_iff, htk]
                        constructor
                        · intro h; exact .inr ⟨y, by simp, heq, h⟩
                        · rintro (h | ⟨z, hz, h1, h2⟩)
                          · exact absurd (.inl h) hno
                          · rcases List.mem_append.1 hz with hz | hz
                            · exact absurd (.inr ⟨z, hz, h1, h2⟩) hno
                            · simp at hz; subst hz; exact h2
                      · skip
                        refine hTake (i := 9) rfl (by kernel_rfl) rfl rfl (fun _ hS => ymv rfl) (rfl) ?_
                        refine hSkip (i := 10) rfl (by kernel_rfl) rfl rfl (rfl) ?_
                        refine hSkip (i := 11) rfl (by kernel_rfl) rfl rfl (rfl) ?_
                        refine hSkip (i := 12) rfl (by kernel_rfl) rfl rfl (rfl) ?_
                        refine hSkip (i := 13) rfl (by kernel_rfl) rfl rfl (rfl) ?_
                        refine hSkip (i := 14) rfl (by kernel_rfl) rfl rfl (rfl) ?_
                        refine hSkip (i := 15) rfl (by kernel_rfl) rfl rfl (rfl) ?_
                        refine hSkip (i := 16) rfl (by kernel_rfl) rfl rfl (rfl) ?_
                        refine hSkip (i := 17) rfl (by kernel_rfl) rfl rfl (rfl) ?_
                        refine hSkip (i := 18) rfl (by kernel_rfl) rfl rfl (rfl) ?_
                        refine hSkip (i := 19) rfl (by kernel_rfl) rfl rfl (rfl) ?_
                        refine hSkip (i := 20) rfl (by kernel_rfl) rfl rfl (rfl) ?_
                        refine hSkip (i := 21) rfl (by kernel_rfl) rfl rfl (rfl) ?_
                        refine hSkip (i := 22) rfl (by kernel_rfl) rfl rfl (rfl) ?_
                        refine hSkip (i := 23) rfl (by kernel_rfl) rfl rfl (rfl) ?_
                        refine hSkip (i := 24) rfl (by kernel_rfl) rfl rfl (rfl) ?_
                        refine hSkip (i := 25) rfl (by kernel_rfl) rfl rfl (rfl) ?_
                        refine hSkip (i := 26) rfl (by kernel_rfl) rfl rfl (rfl) ?_
                        refine hSkip (i := 27) rfl (by kernel_rfl) rfl rfl (rfl) ?_
                        refine hTake (i := 28) rfl (by kernel_rfl) rfl rfl (fun _ hS => ypF rfl rfl) (rfl) ?_
                        refine hTake (i := 29) rfl (by kernel_rfl) rfl rfl (fun _ hS => ypF rfl rfl) (rfl) ?_
                        refine hTake (i := 30) rfl (by kernel_rfl) rfl rfl (fun _ hS => yas rfl) (rfl) ?_
                        refine hEnd (by kernel_rfl) ?_
                        refine run_inBlock ?_
                        refine run_reg rfl ?_
                        refine rVal rfl rfl (ymv rfl) ?_
                        refine rVal rfl rfl (yad rfl rfl (by omega)) ?_
                        refine rVal rfl rfl (yas rfl) ?_
                        refine rEnd ?_
                        refine (ihj (i + 1, false) _ ⟨by show i + 1 ≤ _; omega, hxj.trans (Ext.drew0 wj), ?_⟩ (by show D.cache.length - (i + 1) < D.cache.length - i; omega)).sub (by repeat (first | exact Sub.nil | refine Sub.cons rfl ?_))
                        show false = true ↔ _
                        rw [htk]
                        constructor
                        · intro h; cases h
                        · rintro (h | ⟨z, hz, h1, h2⟩)
                          · exact absurd (.inl h) hno
                          · rcases List.mem_append.1 hz with hz | hz
                            · exact absurd (.inr ⟨z, hz, h1, h2⟩) hno
                            · simp at hz; subst hz; exact absurd h1 heq
                  · skip
                    have hil : i = D.cache.length := by omega
                    subst hil
                    rw [List.take_length] at hb
                    refine run_exit rfl ?_
                    exact (hkd _ _ ⟨b, rfl, hxj, hb⟩).sub (by repeat (first | exact Sub.nil | refine Sub.cons rfl ?_))
            · skip
              refine hTake (i := 8) rfl (by kernel_rfl) rfl rfl (fun _ hS => ymv rfl) (rfl) ?_
              refine hSkip (i := 9) rfl (by kernel_rfl) rfl rfl (rfl) ?_
              refine hSkip (i := 10) rfl (by kernel_rfl) rfl rfl (rfl) ?_
              refine hSkip (i := 11) rfl (by kernel_rfl) rfl rfl (rfl) ?_
              refine hSkip (i := 12) rfl (by kernel_rfl) rfl rfl (rfl) ?_
              refine hSkip (i := 13) rfl (by kernel_rfl) rfl rfl (rfl) ?_
              refine hSkip (i := 14) rfl (by kernel_rfl) rfl rfl (rfl) ?_
              refine hSkip (i := 15) rfl (by kernel_rfl) rfl rfl (rfl) ?_
              refine hSkip (i := 16) rfl (by kernel_rfl) rfl rfl (rfl) ?_
              refine hSkip (i := 17) rfl (by kernel_rfl) rfl rfl (rfl) ?_
              refine hSkip (i := 18) rfl (by kernel_rfl) rfl rfl (rfl) ?_
              refine hSkip (i := 19) rfl (by kernel_rfl) rfl rfl (rfl) ?_
              refine hTake (i := 20) rfl (by kernel_rfl) rfl rfl (fun _ hS => ypF rfl rfl) (rfl) ?_
              refine hEnd (by kernel_rfl) ?_
              refine run_false rfl ?_
              refine run_exit rfl ?_
              refine run_inBlock ?_
              refine run_reg rfl ?_
              refine rVal rfl rfl (ymv rfl) ?_
              refine rVal rfl rfl (yad rfl rfl (by omega)) ?_
              refine rVal rfl rfl (yas rfl) ?_
              refine rEnd ?_
              exact (ih (n + 1) _ ⟨by omega, hxi.trans (hxk.trans (Ext.drew0 wk))⟩ (by omega)).sub (by repeat (first | exact Sub.nil | refine Sub.cons rfl ?_))
        case hmainc =>
          cases b with
          | true =>
            refine run_false rfl ?_
            refine run_skip ?_
            have e : tornTo D l tn mk (n + 1) = tornTo D l tn mk n := torn_yes hgB (hb.1 rfl)
            rw [e] at hkc
            exact (hkc _ _ ⟨rfl, rfl⟩).sub (by repeat (first | exact Sub.nil | refine Sub.cons rfl ?_))
          | false =>
            refine run_true rfl ?_
            refine run_reg rfl ?_
            refine rVal rfl rfl (ymv rfl) ?_
            refine rVal rfl rfl (yad rfl rfl (by omega)) ?_
            refine rVal rfl rfl (yas rfl) ?_
            refine rEnd ?_
            have hnw : ¬ D.whole gB (n : Int) := fun h => by have := hb.2 h; cases this
            have e : (tornTo D l tn mk n : Int) + 1 = (tornTo D l tn mk (n + 1) : Int) := by rw [torn_no hgB hnw]; omega
            rw [e]
            exact (hkc _ _ ⟨rfl, rfl⟩).sub (by repeat (first | exact Sub.nil | refine Sub.cons rfl ?_))
      case hmainb =>
        refine run_loop (α := Nat × Bool) ((0, decide (gB = wB))) (fun i => [(12, .slice (some ⟨ub, 0, none⟩) B uc), (13, .slice xa D.cache.length xc), (14, .slice (some ⟨gb, 0, none⟩) B gc), (15, I (tornTo D l tn mk n : Int)), (16, I (n : Int)), (17, .bool i.2), (18, I (i.1 : Int))]) (fun i wj => i.1 ≤ D.cache.length ∧ Ext wi wj ∧ (i.2 = true ↔ (gB = wB ∨ ∃ y ∈ D.cache.take i.1, y.1 = (n : Int) ∧ gB = y.2))) (fun i => D.cache.length - i.1) (by repeat (first | exact Sub.nil | refine Sub.cons rfl ?_)) ?hI ?hround
        case hI => exact ⟨by simp, Ext.drew0 wi, by simp⟩
        case hround =>
          rintro ⟨i, b⟩ wj ⟨hi, hxj, hb⟩ ihj
          simp only at hi hb
          dsimp only
          refine run_seq ?_
          refine run_seq ?_
          refine run_reg rfl ?_
          refine rVal rfl rfl (ymv rfl) ?_
          refine rVal rfl rfl (ymv rfl) ?_
          refine rVal rfl rfl (yln Try.underlying42 rfl) ?_
          refine rVal rfl rfl (ylt rfl rfl) ?_
          refine rEnd ?_
          refine run_if rfl (fun hlt2 => ?_) (fun hlt2 => ?_)
          · skip
            have hlt' : i < D.cache.length := by omega
            obtain ⟨xb, xoff, xcap, y, hva, hyg⟩ := rd_get (hLi.ext hxj).rd hlt'
            cases hva
            obtain ⟨d1, d2⟩ := rd_at (hLi.ext hxj).rd hlt' hyg
            have hy : D.cache[i] = y := by rw [List.getElem?_eq_getElem hlt'] at hyg; exact Option.some.inj hyg
            have htk : D.cache.take (i + 1) = D.cache.take i ++ [y] := by rw [List.take_succ_eq_append_getElem hlt', hy]
            have j1 : wj.cell? ⟨gb, 0 + n * 1, none⟩ = some (S gB) := by
              refine sl_cell1 (hGi.ext hxj) ?_
              rw [fell_image, List.map_map, List.getElem?_map, List.getElem?_range (by omega)]
              simp only [Option.map_some, Function.comp, hgB]
            refine run_skip ?_
            refine run_seq ?_
            refine run_block ?_
            refine run_draw (fun w' => w' = wj.drew) (by kernel_rfl) rfl ?_
            refine hTake (i := 0) rfl (by kernel_rfl) rfl rfl (fun _ hS => ymv rfl) (rfl) ?_
            refine hTake (i := 1) rfl (by kernel_rfl) rfl rfl (fun _ hS => ymv rfl) (rfl) ?_
            cases b with
            | true =>
              refine hSkip (i := 2) rfl (by kernel_rfl) rfl rfl (rfl) ?_
              refine hSkip (i := 3) rfl (by kernel_rfl) rfl rfl (rfl) ?_
              refine hSkip (i := 4) rfl (by kernel_rfl) rfl rfl (rfl) ?_
              refine hSkip (i := 5) rfl (by kernel_rfl) rfl rfl (rfl) ?_
              refine hSkip (i := 6) rfl (by kernel_rfl) rfl rfl (rfl) ?_
              refine hSkip (i := 7) rfl (by kernel_rfl) rfl rfl (rfl) ?_
              refine hSkip (i := 8) rfl (by kernel_rfl) rfl rfl (rfl) ?_
              refine hSkip (i := 9) rfl (by kernel_rfl) rfl rfl (rfl) ?_
              refine hSkip (i := 10) rfl (by kernel_rfl) rfl rfl (rfl) ?_
              refine hSkip (i := 11) rfl (by kernel_rfl) rfl rfl (rfl) ?_
              refine hSkip (i := 12) rfl (by kernel_rfl) rfl rfl (rfl) ?_
              refine hSkip (i := 13) rfl (by kernel_rfl) rfl rfl (rfl) ?_
              refine hSkip (i := 14) rfl (by kernel_rfl) rfl rfl (rfl) ?_
              refine hSkip (i := 15) rfl (by kernel_rfl) rfl rfl (rfl) ?_
              refine hSkip (i := 16) rfl (by kernel_rfl) rfl rfl (rfl) ?_
              refine hSkip (i := 17) rfl (by kernel_rfl) rfl rfl (rfl) ?_
              refine hSkip (i := 18) rfl (by kernel_rfl) rfl rfl (rfl) ?_
              refine hSkip (i := 19) rfl (by kernel_rfl) rfl rfl (rfl) ?_
              refine hSkip (i := 20) rfl (by kernel_rfl) rfl rfl (rfl) ?_
              refine hTake (i := 21) rfl (by kernel_rfl) rfl rfl (fun _ hS => ypT rfl rfl) (rfl) ?_
              refine hTake (i := 22) rfl (by kernel_rfl) rfl rfl (fun _ hS => yas rfl) (rfl) ?_
              refine hEnd (by kernel_rfl) ?_
              refine run_inBlock ?_
              refine run_reg rfl ?_
              refine rVal rfl rfl (ymv rfl) ?_
              refine rVal rfl rfl (yad rfl rfl (by omega)) ?_
              refine rVal rfl rfl (yas rfl) ?_
              refine rEnd ?_
              refine (ihj (i + 1, true) _ ⟨by show i + 1 ≤ _; omega, hxj.trans (Ext.drew0 wj), ⟨fun _ => ?_, fun _ => rfl⟩⟩ (by show D.cache.length - (i + 1) < D.cache.length - i; omega)).sub (by repeat (first | exact Sub.nil | refine Sub.cons rfl ?_))
              rcases hb.1 rfl with h | ⟨z, hz, h1, h2⟩
              · exact .inl h
              · exact .inr ⟨z, by rw [htk]; simp [hz], h1, h2⟩
            | false =>
              refine hTake (i := 2) rfl (by kernel_rfl) rfl rfl (fun _ hS => ymv rfl) (rfl) ?_
              refine hTake (i := 3) rfl (by kernel_rfl) rfl rfl (fun _ hS => ymv rfl) (rfl) ?_
              refine hTake (i := 4) rfl (by kernel_rfl) rfl rfl (fun _ hS => yis Try.underlying42 ti56 rfl rfl (by omega)) (rfl) ?_
              refine hTake (i := 5) rfl (by kernel_rfl) rfl rfl (fun _ hS => yfa fl56_0 rfl) (rfl) ?_
              refine hTake (i := 7) rfl (by kernel_rfl) rfl rfl (fun _ hS => ymv rfl) (rfl) ?_
              refine hTake (i := 6) rfl (by kernel_rfl) rfl rfl (fun _ hS => yldc Try.underlying3 rfl rfl (by rw [hS]; exact d1)) (rfl) ?_
              refine hTake (i := 8) rfl (by kernel_rfl) rfl rfl (fun _ hS => yeq rfl rfl) (rfl) ?_
              have hno : ¬ (gB = wB ∨ ∃ y ∈ D.cache.take i, y.1 = (n : Int) ∧ gB = y.2) := fun h => by have := hb.2 h; cases this
              refine rh_if (fun heq => ?_) (fun heq => ?_)
              · skip
                refine hTake (i := 9) rfl (by kernel_rfl) rfl rfl (fun _ hS => ymv rfl) (rfl) ?_
                refine hTake (i := 10) rfl (by kernel_rfl) rfl rfl (fun _ hS => ymv rfl) (rfl) ?_
                refine hTake (i := 11) rfl (by kernel_rfl) rfl rfl (fun _ hS => ymv rfl) (rfl) ?_
                refine hTake (i := 12) rfl (by kernel_rfl) rfl rfl (fun _ hS => yis Try.underlying47 ti9 rfl rfl (by omega)) (rfl) ?_
                refine hTake (i := 14) rfl (by kernel_rfl) rfl rfl (fun _ hS => ymv rfl) (rfl) ?_
                refine hTake (i := 15) rfl (by kernel_rfl) rfl rfl (fun _ hS => ymv rfl) (rfl) ?_
                refine hTake (i := 16) rfl (by kernel_rfl) rfl rfl (fun _ hS => yis Try.underlying42 ti56 rfl rfl (by omega)) (rfl) ?_
                refine hTake (i := 17) rfl (by kernel_rfl) rfl rfl (fun _ hS => yfa fl56_1 rfl) (rfl) ?_
                refine hTake (i := 13) rfl (by kernel_rfl) rfl rfl (fun _ hS => yldc Try.underlying9 rfl rfl (by rw [hS]; exact j1)) (rfl) ?_
                refine hTake (i := 18) rfl (by kernel_rfl) rfl rfl (fun _ hS => yldc Try.underlying9 rfl rfl (by rw [hS]; exact d2)) (rfl) ?_
                refine hTake (i := 19) rfl (by kernel_rfl) rfl rfl (fun _ hS => yeqS rfl rfl) (rfl) ?_
                refine hTake (i := 20) rfl (by kernel_rfl) rfl rfl (fun _ hS => ypT rfl rfl) (rfl) ?_
                refine hTake (i := 21) rfl (by kernel_rfl) rfl rfl (fun _ hS => ypF rfl rfl) (rfl) ?_
                refine hTake (i := 22) rfl (by kernel_rfl) rfl rfl (fun _ hS => yas rfl) (rfl) ?_
                refine hEnd (by kernel_rfl) ?_
                refine run_inBlock ?_
                refine run_reg rfl ?_
                refine rVal rfl rfl (ymv rfl) ?_
                refine rVal rfl rfl (yad rfl rfl (by omega)) ?_
                refine rVal rfl rfl (yas rfl) ?_
                refine rEnd ?_
                refine (ihj (i + 1, decide (gB = y.2)) _ ⟨by show i + 1 ≤ _; omega, hxj.trans (Ext.drew0 wj), ?_⟩ (by show D.cache.length - (i + 1) < D.cache.length - i; omega)).sub (by repeat (first | exact Sub.nil | refine Sub.cons rfl ?_))
                show decide (gB = y.2) = true ↔ _
                rw [decide_eq_true_iff, htk]
                constructor
                · intro h; exact .inr ⟨y, by simp, heq, h⟩
                · rintro (h | ⟨z, hz, h1, h2⟩)
                  · exact absurd (.inl h) hno
                  · rcases List.mem_append.1 hz with hz | hz
                    · exact absurd (.inr ⟨z, hz, h1, h2⟩) hno
                    · simp at hz; subst hz; exact h2
              · skip
                refine hTake (i := 9) rfl (by kernel_rfl) rfl rfl (fun _ hS => ymv rfl) (rfl) ?_
                refine hSkip (i := 10) rfl (by kernel_rfl) rfl rfl (rfl) ?_
                refine hSkip (i := 11) rfl (by kernel_rfl) rfl rfl (rfl) ?_
                refine hSkip (i := 12) rfl (by kernel_rfl) rfl rfl (rfl) ?_
                refine hSkip (i := 13) rfl (by kernel_rfl) rfl rfl (rfl) ?_
                refine hSkip (i := 14) rfl (by kernel_rfl) rfl rfl (rfl) ?_
                refine hSkip (i := 15) rfl (by kernel_rfl) rfl rfl (rfl) ?_
                refine hSkip (i := 16) rfl (by kernel_rfl) rfl rfl (rfl) ?_
                refine hSkip (i := 17) rfl (by kernel_rfl) rfl rfl (rfl) ?_
                refine hSkip (i := 18) rfl (by kernel_rfl) rfl rfl (rfl) ?_
                refine hSkip (i := 19) rfl (by kernel_rfl) rfl rfl (rfl) ?_
                refine hTake (i := 20) rfl (by kernel_rfl) rfl rfl (fun _ hS => ypF rfl rfl) (rfl) ?_
                refine hTake (i := 21) rfl (by kernel_rfl) rfl rfl (fun _ hS => ypF rfl rfl) (rfl) ?_
                refine hTake (i := 22) rfl (by kernel_rfl) rfl rfl (fun _ hS => yas rfl) (rfl) ?_
                refine hEnd (by kernel_rfl) ?_
                refine run_inBlock ?_
                refine run_reg rfl ?_
                refine rVal rfl rfl (ymv rfl) ?_
                refine rVal rfl rfl (yad rfl rfl (by omega)) ?_
                refine rVal rfl rfl (yas rfl) ?_
                refine rEnd ?_
                refine (ihj (i + 1, false) _ ⟨by show i + 1 ≤ _; omega, hxj.trans (Ext.drew0 wj), ?_⟩ (by show D.cache.length - (i + 1) < D.cache.length - i; omega)).sub (by repeat (first | exact Sub.nil | refine Sub.cons rfl ?_))
                show false = true ↔ _
                rw [htk]
                constructor
                · intro h; cases h
                · rintro (h | ⟨z, hz, h1, h2⟩)
                  · exact absurd (.inl h) hno
                  · rcases List.mem_append.1 hz with hz | hz
                    · exact absurd (.inr ⟨z, hz, h1, h2⟩) hno
                    · simp at hz; subst hz; exact absurd h1 heq
          · skip
            have hil : i = D.cache.length := by omega
            subst hil
            rw [List.take_length, ← hwB] at hb
            refine run_exit rfl ?_
            exact (hkb _ _ ⟨b, rfl, hxj, hb⟩).sub (by repeat (first | exact Sub.nil | refine Sub.cons rfl ?_))
    · skip
      have hnB : n = B := by omega
      subst hnB
      refine rVal rfl rfl (ymv rfl) ?_
      refine rSkip rfl rfl ?_
      refine rSkip rfl rfl ?_
      refine rSkip rfl rfl ?_
      refine rSkip rfl rfl ?_
      refine rSkip rfl rfl ?_
      refine rVal rfl rfl (ypF rfl rfl) ?_
      refine rEnd ?_
      refine run_false rfl ?_
      refine run_exit rfl ?_
      refine run_seq ?_
      refine run_reg rfl ?_
      refine rVal rfl rfl (ymv rfl) ?_
      refine rVal rfl rfl (yle rfl rfl) ?_
      refine rTrue (by (first | rfl | assumption | omega | decide)) ?_
      refine rVal rfl rfl (ymv rfl) ?_
      refine rVal rfl rfl (ymv rfl) ?_
      refine rVal rfl rfl (yln Try.underlying47 rfl) ?_
      refine rVal rfl rfl (ymv rfl) ?_
      refine rVal rfl rfl (yln Try.underlying47 rfl) ?_
      refine rVal rfl rfl (yeq rfl rfl) ?_
      refine rTrue (by (first | rfl | assumption | omega | decide)) ?_
      refine rVal rfl rfl (ypT rfl rfl) ?_
      refine rVal rfl rfl (yas rfl) ?_
      refine rEnd ?_
      refine Run.sub (e := [(10, _)]) ?_ (by repeat (first | exact Sub.nil | refine Sub.cons rfl ?_))
      refine run_ret Try.func7 rfl ?_
      exact ⟨_, rfl, rfl, (hx1.trans hx19).trans (hx10.trans hxi)⟩
end Go.Proofs.Ytdapkfppcaaohaa
