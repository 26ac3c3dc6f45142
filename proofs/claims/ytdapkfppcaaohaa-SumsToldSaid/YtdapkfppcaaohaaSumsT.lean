/- The statement's function SumsTold walked: it answers true on every argument. -/
import Derived.Test.YtdapkfppcaaohaaSumsL
namespace Go.Proofs.Ytdapkfppcaaohaa
open Go Go.RowKit
set_option maxRecDepth 100000
set_option linter.all false

theorem turned_cells (l : List UInt8) (rest : List Value) (A n : Nat) (hA : A < l.length) (hn : n < 256) :
    (l.map u8v ++ rest).set (0 + A * 1) (.int .u8 (((l.getD A 0).toNat ^^^ n : Nat) : Int)) = (Sums.turned l A (UInt8.ofNat n)).map u8v ++ rest := by
  have e : 0 + A * 1 = A := by omega
  have h1 : (Value.int .u8 (((l.getD A 0).toNat ^^^ n : Nat) : Int)) = u8v (l.getD A 0 ^^^ UInt8.ofNat n) := by
    unfold u8v
    rw [UInt8.toNat_xor, UInt8.toNat_ofNat_of_lt' (by show n < 256; omega)]
  rw [e, h1, List.set_append_left _ _ (by simpa using hA)]
  unfold Sums.turned
  rw [List.map_set]
theorem cell_get (l : List UInt8) (rest : List Value) (A : Nat) (hA : A < l.length) : (l.map u8v ++ rest)[0 + A * 1]? = some (.int .u8 ((l.getD A 0).toNat : Int)) := by
  have e : 0 + A * 1 = A := by omega
  rw [e, List.getElem?_append_left (by simpa using hA), List.getElem?_map, List.getD, List.getElem?_eq_getElem hA]
  rfl
theorem turned_whole (l : List UInt8) (rest : List Value) (n : Nat) (hn : n = l.length) : ((l.map u8v ++ rest).drop 0).take n = l.map u8v := by
  subst hn; simp

set_option maxHeartbeats 2000000 in
theorem sumsTold_ret (s t : List UInt8) (At : Nat) (By Kd : UInt8) (w : World) (hs : s.length ≤ 140737488351232) (ht : t.length ≤ 140737488351232) (hAt : At < 65536) :
    Ret Try.prog 3 [S s, S t, .agg #[.int .u16 (At : Int), u8v By, u8v Kd]] w fun v w' => v = .bool true ∧ Ext w w' := by
  have hBy := By.toNat_lt
  refine ret_of_run (e := [(0, _), (1, _), (2, _)]) Try.func3 rfl Try.ntmps3 rfl rfl ?_
  refine run_seq ?_
  refine run_reg rfl ?_
  refine rValP rfl rfl (pbx rfl rfl) ?_
  rintro _ w1 ⟨b5, rfl, hb5, hx1, hM⟩
  refine rVal rfl rfl (yas rfl) ?_
  refine rEnd ?_
  refine run_seq ?_
  refine run_reg rfl ?_
  refine rVal rfl rfl (ymv rfl) ?_
  refine rVal rfl rfl (ymv rfl) ?_
  refine rVal rfl rfl (ylnS Try.underlying9 rfl) ?_
  refine rVal rfl rfl (ymi rfl rfl) ?_
  refine rVal rfl rfl (yslSt Try.underlying9 rfl rfl (by omega)) ?_
  refine rVal rfl rfl (yas rfl) ?_
  refine rEnd ?_
  refine run_seq ?_
  refine run_reg rfl ?_
  refine rVal rfl rfl (yfa fl24_2 rfl) ?_
  refine rVal rfl rfl (yld Try.underlying5 rfl rfl hM rfl) ?_
  refine rVal rfl rfl (ymv rfl) ?_
  obtain ⟨p, hp, hpl⟩ : ∃ p, s.take (min s.length 2000) = p ∧ p.length ≤ 2000 := ⟨_, rfl, by simp; omega⟩
  rw [hp]
  refine rCall rfl rfl (yc (args := [.tmp 30, .tmp 31]) cf12 rfl) (frame_ret Kd p _ (by omega)) ?_
  rintro _ w2 ⟨rfl, hx2⟩
  replace hM := hx2.blk hM
  have hfl := Sums.frame_length Kd p
  have hFl : (Sums.frame Kd p ++ t).length = 9 + p.length + t.length := by rw [List.length_append, hfl]
  obtain ⟨fr, hfr⟩ : ∃ fr, Sums.frame Kd p = fr := ⟨_, rfl⟩
  rw [hfr] at hfl hFl ⊢
  refine rVal rfl rfl (ymv rfl) ?_
  refine rVal rfl rfl (yex rfl rfl) ?_
  refine rVal rfl rfl (yex rfl rfl) ?_
  refine rVal rfl rfl (yas rfl) ?_
  refine rVal rfl rfl (yas rfl) ?_
  refine rEnd ?_
  refine run_seq ?_
  refine run_reg rfl ?_
  refine rVal rfl rfl (ymv rfl) ?_
  refine rVal rfl rfl (ymv rfl) ?_
  refine rVal rfl rfl (ycatS rfl rfl (by first | omega | (simp; done) | (simp; omega))) ?_
  refine rCall rfl rfl (yc (args := [.tmp 38]) cf13 rfl) (unframe_all (fr ++ t) _ (by omega)) ?_
  rintro _ w3 ⟨rfl, hx3⟩
  have hU : Sums.unframe (fr ++ t) = some (Kd, p, t) := by rw [← hfr]; exact Sums.unframe_frame Kd p t (by omega)
  rw [hU]
  replace hM := hx3.blk hM
  refine rVal rfl rfl (ymv rfl) ?_
  refine rVal rfl rfl (yex rfl rfl) ?_
  refine rVal rfl rfl (yex rfl rfl) ?_
  refine rVal rfl rfl (yex rfl rfl) ?_
  refine rVal rfl rfl (yex rfl rfl) ?_
  refine rVal rfl rfl (yas rfl) ?_
  refine rVal rfl rfl (yas rfl) ?_
  refine rVal rfl rfl (yas rfl) ?_
  refine rVal rfl rfl (yas rfl) ?_
  refine rEnd ?_
  refine Run.sub (e := [(0, _), (1, _), (5, _), (6, _), (7, _), (8, _), (9, _), (10, _), (11, _), (12, _)]) ?_ (by repeat (first | exact Sub.nil | refine Sub.cons rfl ?_))
  refine run_seq ?_
  refine run_seq ?_
  refine run_reg rfl ?_
  refine rVal rfl rfl (ymv rfl) ?_
  refine rVal rfl rfl (yne rfl rfl) ?_
  refine rFalse (by (first | exact fun h => h rfl | assumption | omega)) ?_
  refine rVal rfl rfl (ymv rfl) ?_
  refine rVal rfl rfl (ymv rfl) ?_
  refine rVal rfl rfl (yne rfl rfl) ?_
  refine rFalse (by (first | exact fun h => h rfl | assumption | omega)) ?_
  refine rVal rfl rfl (ypF rfl rfl) ?_
  refine rVal rfl rfl (ymv rfl) ?_
  refine rVal rfl rfl (ymv rfl) ?_
  refine rVal rfl rfl (yfa fl24_2 rfl) ?_
  refine rVal rfl rfl (yld Try.underlying5 rfl rfl hM rfl) ?_
  refine rVal rfl rfl (yne rfl rfl) ?_
  refine rFalse (by (first | exact fun h => h rfl | assumption | omega)) ?_
  refine rVal rfl rfl (ypF rfl rfl) ?_
  refine rVal rfl rfl (ymv rfl) ?_
  refine rVal rfl rfl (ymv rfl) ?_
  refine rVal rfl rfl (ymv rfl) ?_
  refine rVal rfl rfl (yneS rfl rfl) ?_
  refine rFalse (by (first | exact fun h => h rfl | assumption | omega)) ?_
  refine rVal rfl rfl (ypF rfl rfl) ?_
  refine rVal rfl rfl (ymv rfl) ?_
  refine rVal rfl rfl (ymv rfl) ?_
  refine rVal rfl rfl (ymv rfl) ?_
  refine rVal rfl rfl (yneS rfl rfl) ?_
  refine rFalse (by (first | exact fun h => h rfl | assumption | omega)) ?_
  refine rVal rfl rfl (ypF rfl rfl) ?_
  refine rVal rfl rfl (ymv rfl) ?_
  refine rVal rfl rfl (ymv rfl) ?_
  refine rVal rfl rfl (ylnS Try.underlying9 rfl) ?_
  refine rVal rfl rfl (ymv rfl) ?_
  refine rVal rfl rfl (ylnS Try.underlying9 rfl) ?_
  refine rVal rfl rfl (yad rfl rfl (by omega)) ?_
  refine rVal rfl rfl (yne rfl rfl) ?_
  refine rFalse (by (first | exact fun h => h rfl | assumption | omega)) ?_
  refine rVal rfl rfl (ypF rfl rfl) ?_
  refine rEnd ?_
  refine Run.sub (e := [(1, _), (5, _), (6, _), (7, _), (73, _)]) ?_ (by repeat (first | exact Sub.nil | refine Sub.cons rfl ?_))
  refine run_false rfl ?_
  refine run_skip ?_
  refine run_seq ?_
  refine run_reg rfl ?_
  refine rVal rfl rfl (yfa fl24_0 rfl) ?_
  refine rVal rfl rfl (yld Try.underlying22 rfl rfl hM rfl) ?_
  refine rVal rfl rfl (ycvSi64 rfl Try.underlying22 Try.underlying3 (by omega)) ?_
  refine rVal rfl rfl (ymv rfl) ?_
  refine rVal rfl rfl (ylnS Try.underlying9 rfl) ?_
  refine rVal rfl rfl (ysb rfl rfl (by omega)) ?_
  refine rVal rfl rfl (yre rfl rfl (by omega)) ?_
  refine rVal rfl rfl (yas rfl) ?_
  refine rEnd ?_
  refine run_seq ?_
  refine run_seq ?_
  refine run_reg rfl ?_
  refine rVal rfl rfl (ymv rfl) ?_
  refine rVal rfl rfl (ygt rfl rfl) ?_
  refine rEnd ?_
  refine run_cut (fun e' w' => ∃ (A : Nat) (z : Int), (A = 0 ∨ (5 ≤ A ∧ A < 9 + p.length)) ∧ z = (A : Int) ∧ e' = [(1, S t), (5, ptr b5 0), (7, S fr), (13, I z)] ∧ w' = w3) ?hk (fun hk => ?hmain)
  case hk =>
    rintro _ w3 ⟨A, _, hA, rfl, rfl, rfl⟩
    have hgd := ((fr ++ t).getD A 0).toNat_lt
    have hml2 := Nat.mod_lt At (show 0 < fr.length by omega)
    have hAl : A < (fr ++ t).length := by omega
    have hb5 := hM.lt
    refine run_seq ?_
    refine run_reg rfl ?_
    refine rVal rfl rfl (ymv rfl) ?_
    refine rVal rfl rfl (ymv rfl) ?_
    refine rVal rfl rfl (ycatS rfl rfl (by first | omega | (simp; done) | (simp; omega))) ?_
    refine rValP rfl rfl (pS2B Try.underlying9 Try.underlying30 Try.underlying5 rfl) ?_
    rintro _ w4 ⟨bb, cap, rest, rfl, ⟨hbb, hx4, hB⟩, hcap⟩
    replace hM := hx4.blk hM
    have hne : ¬ b5 = bb := by omega
    refine rVal rfl rfl (yas rfl) ?_
    refine rEnd ?_
    refine run_seq ?_
    refine run_draw (fun w' => Kp (fun k => k = bb) w4 w') (by kernel_rfl) rfl ?_
    refine hTake (i := 0) rfl (by kernel_rfl) rfl rfl (fun _ hS => ymv rfl) ((Kp.refl _ w4).drew) ?_
    refine hTake (i := 1) rfl (by kernel_rfl) rfl rfl (fun _ hS => ymv rfl) ((Kp.refl _ w4).drew) ?_
    refine hTake (i := 2) rfl (by kernel_rfl) rfl rfl (fun _ hS => ymv rfl) ((Kp.refl _ w4).drew) ?_
    refine hTake (i := 3) rfl (by kernel_rfl) rfl rfl (fun _ hS => ymv rfl) ((Kp.refl _ w4).drew) ?_
    refine hTake (i := 4) rfl (by kernel_rfl) rfl rfl (fun _ hS => yis Try.underlying30 ti5 rfl rfl (by omega)) ((Kp.refl _ w4).drew) ?_
    refine hTake (i := 6) rfl (by kernel_rfl) rfl rfl (fun _ hS => yfa fl24_1 rfl) ((Kp.refl _ w4).drew) ?_
    refine hTake (i := 7) rfl (by kernel_rfl) rfl rfl (fun _ hS => yld Try.underlying5 rfl rfl (hS.blk hM hne) rfl) ((Kp.refl _ w4).drew) ?_
    refine hTake (i := 8) rfl (by kernel_rfl) rfl rfl (fun _ hS => yreU rfl rfl (by omega)) ((Kp.refl _ w4).drew) ?_
    refine hTake (i := 9) rfl (by kernel_rfl) rfl rfl (fun _ hS => yad8 rfl rfl) ((Kp.refl _ w4).drew) ?_
    refine hOne (i := 5) (by kernel_rfl) ?_
    refine nVal (i := 5) rfl rfl rfl (yld Try.underlying5 rfl rfl ((Ext.drew0 w4).blk hB) (cell_get (fr ++ t) rest A hAl)) ((Kp.refl _ w4).drew) ?_
    refine hTake (i := 10) rfl (by kernel_rfl) rfl rfl (fun _ hS => yxo8 rfl rfl (by omega) (by omega)) ((Kp.refl _ w4).drew) ?_
    refine hTake (i := 11) rfl (by kernel_rfl) rfl rfl (fun _ hS => yis Try.underlying30 ti5 rfl rfl (by omega)) ((Kp.refl _ w4).drew) ?_
    refine hOne (i := 12) (by kernel_rfl) ?_
    refine nEffP (i := 12) rfl rfl (zst ti5 rfl rfl rfl ((Ext.drew0 w4).blk hB) (by simp; omega)) ?_
    rintro w5 ⟨hB5, hk5⟩
    refine ⟨(Kp.refl _ w4).drew.trans hk5, ?_⟩
    rw [turned_cells _ _ _ _ hAl (by omega)] at hB5
    have hk45 := (Kp.refl _ w4).drew.trans hk5
    replace hM := hk45.blk hM hne
    have hx5 := (((hx1.trans hx2).trans hx3).trans hx4).trans_new hk45 (fun i hi => by have := (((hx1.trans hx2).trans hx3)).size; omega)
    obtain ⟨d, hd⟩ : ∃ d, UInt8.ofNat ((By.toNat % 255 + 1) % 256) = d := ⟨_, rfl⟩
    have hd0 : d ≠ 0 := fun e => by
      have h0 : (UInt8.ofNat ((By.toNat % 255 + 1) % 256)).toNat = 0 := by rw [hd, e]; rfl
      rw [UInt8.toNat_ofNat_of_lt' (by show (By.toNat % 255 + 1) % 256 < 256; omega)] at h0
      omega
    rw [hd] at hB5
    have hT : Sums.unframe (Sums.turned (fr ++ t) A d) = none := by rw [← hfr]; exact Sums.unframe_turned Kd p t A d (by omega) hA hd0
    have hC : Sums.unframe (fr.take (At % fr.length)) = none := by rw [← hfr]; exact Sums.unframe_cut Kd p _ (by omega) (by rw [hfr]; exact Nat.mod_lt _ (by omega))
    refine hEnd (by kernel_rfl) ?_
    refine run_seq ?_
    refine run_reg rfl ?_
    refine rVal rfl rfl (ymv rfl) ?_
    refine rVal rfl rfl (yB2S (l := Sums.turned (fr ++ t) A d) Try.underlying30 Try.underlying5 Try.underlying9 rfl hB5 (turned_whole _ _ _ (by simp)) (by simp)) ?_
    refine rCall rfl rfl (yc (args := [.tmp 103]) cf13 rfl) (unframe_all (Sums.turned (fr ++ t) A d) _ (by simp; omega)) ?_
    rintro _ w6 ⟨rfl, hx6⟩
    rw [hT]
    replace hM := hx6.blk hM
    refine rVal rfl rfl (ymv rfl) ?_
    refine rVal rfl rfl (yex rfl rfl) ?_
    refine rVal rfl rfl (yex rfl rfl) ?_
    refine rVal rfl rfl (yex rfl rfl) ?_
    refine rVal rfl rfl (yex rfl rfl) ?_
    refine rVal rfl rfl (yas rfl) ?_
    refine rVal rfl rfl (yas rfl) ?_
    refine rVal rfl rfl (yas rfl) ?_
    refine rVal rfl rfl (yas rfl) ?_
    refine rEnd ?_
    refine Run.sub (e := [(5, _), (7, _), (18, _)]) ?_ (by repeat (first | exact Sub.nil | refine Sub.cons rfl ?_))
    refine run_seq ?_
    refine run_reg rfl ?_
    refine rVal rfl rfl (ymv rfl) ?_
    refine rVal rfl rfl (yfa fl24_0 rfl) ?_
    refine rVal rfl rfl (yld Try.underlying22 rfl rfl hM rfl) ?_
    refine rVal rfl rfl (ycvSi64 rfl Try.underlying22 Try.underlying3 (by omega)) ?_
    refine rVal rfl rfl (ymv rfl) ?_
    refine rVal rfl rfl (ylnS Try.underlying9 rfl) ?_
    refine rVal rfl rfl (yre rfl rfl (by omega)) ?_
    refine rVal rfl rfl (yslSt Try.underlying9 rfl rfl (by omega)) ?_
    refine rCall rfl rfl (yc (args := [.tmp 117]) cf13 rfl) (unframe_all (fr.take (At % fr.length)) _ (by simp; omega)) ?_
    rintro _ w7 ⟨rfl, hx7⟩
    rw [hC]
    refine rVal rfl rfl (ymv rfl) ?_
    refine rVal rfl rfl (yex rfl rfl) ?_
    refine rVal rfl rfl (yex rfl rfl) ?_
    refine rVal rfl rfl (yex rfl rfl) ?_
    refine rVal rfl rfl (yex rfl rfl) ?_
    refine rVal rfl rfl (yas rfl) ?_
    refine rVal rfl rfl (yas rfl) ?_
    refine rVal rfl rfl (yas rfl) ?_
    refine rVal rfl rfl (yas rfl) ?_
    refine rEnd ?_
    refine run_seq ?_
    refine run_reg rfl ?_
    refine rVal rfl rfl (ymv rfl) ?_
    refine rVal rfl rfl (yeq rfl rfl) ?_
    refine rTrue (by (first | rfl | assumption | omega | decide)) ?_
    refine rVal rfl rfl (ymv rfl) ?_
    refine rVal rfl rfl (ymv rfl) ?_
    refine rVal rfl rfl (yeq rfl rfl) ?_
    refine rTrue (by (first | rfl | assumption | omega | decide)) ?_
    refine rVal rfl rfl (ypT rfl rfl) ?_
    refine rVal rfl rfl (ymv rfl) ?_
    refine rCall rfl rfl (yc (args := []) cf14 rfl) (awake3_ret _) ?_
    rintro _ w8 ⟨rfl, hx8⟩
    refine rVal rfl rfl (ypT rfl rfl) ?_
    refine rVal rfl rfl (yas rfl) ?_
    refine rEnd ?_
    refine Run.sub (e := [(6, _)]) ?_ (by repeat (first | exact Sub.nil | refine Sub.cons rfl ?_))
    refine run_ret Try.func3 rfl ?_
    exact ⟨_, rfl, rfl, ((hx5.trans hx6).trans hx7).trans hx8⟩
  case hmain =>
    have hmod : ((At % (fr.length - 4) : Nat) : Int) = (At : Int) % ((fr.length : Int) - 4) := by rw [show (fr.length : Int) - 4 = ((fr.length - 4 : Nat) : Int) by omega]; simp
    have hml := Nat.mod_lt At (show 0 < fr.length - 4 by omega)
    rw [← hmod]
    refine run_if rfl (fun h1 => ?_) (fun h1 => ?_)
    · skip
      refine run_reg rfl ?_
      refine rVal rfl rfl (ymv rfl) ?_
      refine rVal rfl rfl (yad rfl rfl (by omega)) ?_
      refine rVal rfl rfl (yas rfl) ?_
      refine rEnd ?_
      exact (hk _ _ ⟨At % (fr.length - 4) + 4, ((At % (fr.length - 4) : Nat) : Int) + 4, by omega, by omega, rfl, rfl⟩).sub (by repeat (first | exact Sub.nil | refine Sub.cons rfl ?_))
    · skip
      refine run_skip ?_
      exact (hk _ _ ⟨0, ((At % (fr.length - 4) : Nat) : Int), by omega, by omega, rfl, rfl⟩).sub (by repeat (first | exact Sub.nil | refine Sub.cons rfl ?_))
end Go.Proofs.Ytdapkfppcaaohaa
