/- The helpers of the statements on devices walked: image. -/
import Derived.Test.YtdapkfppcaaohaaDvF
namespace Go.Proofs.Ytdapkfppcaaohaa
open Go Go.RowKit
set_option linter.all false
set_option maxRecDepth 100000

set_option maxHeartbeats 1000000 in
theorem imageL_ret {w : World} {p q : Nat} {D : Dev} {F G : Nat → Prop} (hP : PairS w p q D D F G) {k : Nat} (hs : D.Small k) (hk6 : k ≤ 100000) :
    Ret Try.prog 48 [ptr p 0, ptr q 0] w fun v w' => v = .bool true ∧ Ext w w' := by
  have hml : maxLen = 9223372036854775807 := rfl
  have hok : D.Ok := by obtain ⟨_, _, _, h, -⟩ := hP.d; exact h.ok
  have hB := hok.hB
  have him : D.image.length = D.B := by simp [Dev.image]
  refine ret_of_run (e := [(0, _), (1, _)]) Try.func48 rfl Try.ntmps48 rfl rfl ?_
  refine run_seq ?_
  refine run_reg rfl ?_
  refine rVal rfl rfl (yas rfl) ?_
  refine rEnd ?_
  refine run_seq ?_
  refine run_reg rfl ?_
  refine rVal rfl rfl (ymv rfl) ?_
  refine rCall rfl rfl (yc (args := [.tmp 10]) cf79 rfl) (rimageA_ret hP.r hs (by omega)) ?_
  rintro v1 w1 ⟨hI1, hx1, hg1⟩
  obtain ⟨wa, wc, rfl, -⟩ := hI1.rd.shape
  refine rVal rfl rfl (yas rfl) ?_
  refine rEnd ?_
  refine run_seq ?_
  refine run_reg rfl ?_
  refine rVal rfl rfl (ymv rfl) ?_
  refine rCall rfl rfl (yc (args := [.tmp 12]) cf28 rfl) (imageA_ret (hP.d.ext hx1) hs (by omega)) ?_
  rintro v2 w2 ⟨hI2, hx2, hg2⟩
  rcases hI2.shape with ⟨-, h⟩ | ⟨ga, ca, rfl, hca⟩
  · omega
  refine rVal rfl rfl (yas rfl) ?_
  refine rEnd ?_
  refine run_seq ?_
  refine run_reg rfl ?_
  refine rVal rfl rfl (ymv rfl) ?_
  refine rCall rfl rfl (yc (args := [.tmp 14]) cf28 rfl) (imageA_ret ((hP.d.ext hx1).ext hx2) hs (by omega)) ?_
  rintro v3 w3 ⟨hI3, hx3, hg3⟩
  obtain ⟨ba, bc, rfl, -⟩ := hI3.rd.shape
  have r1 : ∀ {w'}, Ext w1 w' → Rd w' (.slice wa D.B wc) 1 D.image.length (D.image.map S) := fun h => by rw [him]; exact hI1.rd.ext h
  have r2 : Rd w3 (.slice (some ⟨ga, 0, none⟩) D.B ca) 1 D.image.length (D.image.map S) := by rw [him]; exact hI2.rd.ext hx3
  refine rVal rfl rfl (yas rfl) ?_
  refine rEnd ?_
  refine run_seq ?_
  refine run_seq ?_
  refine run_reg rfl ?_
  refine rVal rfl rfl (ymv rfl) ?_
  refine rVal rfl rfl (ymv rfl) ?_
  refine rCall rfl rfl (yc (args := [.tmp 16, .tmp 17]) cf31 rfl) (same_ret (.slice (some ⟨ga, 0, none⟩) D.B ca) (.slice wa D.B wc) D.image D.image w3 r2 (r1 (hx2.trans hx3)) (by omega) (by omega)) ?_
  rintro _ w4 ⟨rfl, hx4⟩
  rw [show decide (D.image = D.image) = true from decide_eq_true rfl]
  refine rVal rfl rfl ((by first | exact yntd rfl | exact ynt rfl)) ?_
  refine rEnd ?_
  refine run_false rfl ?_
  have hx14 := (hx2.trans hx3).trans hx4
  have hlg2 : w1.heap.size ≤ ga := hg2 ga rfl
  have hga2 : ga < w2.heap.size := hI2.lt rfl
  have hS4 := (hI2.ext hx3).ext hx4
  have hs1 := hx1.size
  have hs2 := hx2.size
  have hs3 := hx3.size
  have hs4 := hx4.size
  refine run_skip ?_
  refine run_seq ?_
  refine run_seq ?_
  refine run_reg rfl ?_
  refine rVal rfl rfl (yas rfl) ?_
  refine rEnd ?_
  refine run_block ?_
  -- spoilt
  refine run_loop (α := Nat × List Value) ((0, D.image.map S)) (fun i => [(5, .slice wa D.B wc), (6, .slice (some ⟨ga, 0, none⟩) D.B ca), (7, .slice ba D.B bc), (8, I (i.1 : Int))]) (fun i wi => i.1 ≤ D.B ∧ Kp (fun k => k = ga) w4 wi ∧ Sl wi (.slice (some ⟨ga, 0, none⟩) D.B ca) 9 1 D.B i.2) (fun i => D.B - i.1) (by repeat (first | exact Sub.nil | refine Sub.cons rfl ?_)) ?hI ?hround
  case hI => exact ⟨by simp, Kp.refl _ _, hS4⟩
  case hround =>
    rintro ⟨i, cs⟩ wi ⟨hi, hki, hSi⟩ ih
    simp only at hi hSi
    have hcl := hSi.len
    dsimp only
    refine run_seq ?_
    refine run_seq ?_
    refine run_reg rfl ?_
    refine rVal rfl rfl (ymv rfl) ?_
    refine rVal rfl rfl (ymv rfl) ?_
    refine rVal rfl rfl (yln Try.underlying47 rfl) ?_
    refine rVal rfl rfl (ylt rfl rfl) ?_
    refine rEnd ?_
    refine run_if rfl (fun hlt => ?_) (fun hlt => ?_)
    · skip
      refine run_skip ?_
      refine run_seq ?_
      refine run_block ?_
      refine run_reg rfl ?_
      refine rVal rfl rfl (ymv rfl) ?_
      refine rVal rfl rfl (ymv rfl) ?_
      refine rVal rfl rfl (yis Try.underlying47 ti9 rfl rfl (by omega)) ?_
      refine rEffP rfl (zstSl ti9 rfl rfl rfl hSi (by omega)) ?_
      rintro w9 ⟨hS9, hk9⟩
      refine rEnd ?_
      refine run_inBlock ?_
      refine run_reg rfl ?_
      refine rVal rfl rfl (ymv rfl) ?_
      refine rVal rfl rfl (yad rfl rfl (by omega)) ?_
      refine rVal rfl rfl (yas rfl) ?_
      refine rEnd ?_
      exact (ih (i + 1, _) w9 ⟨by show i + 1 ≤ D.B; omega, hki.trans hk9, hS9⟩ (by show D.B - (i + 1) < D.B - i; omega)).sub (by repeat (first | exact Sub.nil | refine Sub.cons rfl ?_))
    · skip
      have hszi := hki.size
      have hnot : ∀ j, (Value.slice wa D.B wc).ownBlock = some j → ¬ j = ga := fun j hj e => by have := hI1.lt hj; omega
      have hnot3 : ∀ j, (Value.slice ba D.B bc).ownBlock = some j → ¬ j = ga := fun j hj e => by have := hg3 j hj; omega
      have hI1i := (hI1.ext hx14).kp hki hnot
      have hI3i := (hI3.ext hx4).kp hki hnot3
      have hx1i : Ext w wi := (hx1.trans hx14).trans_new hki (fun j hj => by omega)
      refine run_exit rfl ?_
      refine run_seq ?_
      refine run_seq ?_
      refine run_reg rfl ?_
      refine rVal rfl rfl (yas rfl) ?_
      refine rEnd ?_
      refine run_block ?_
      refine run_loop (α := Nat × Value × List Value) ((0, .slice (some ⟨ga, 0, none⟩) D.B ca, cs)) (fun i => [(5, .slice wa D.B wc), (6, i.2.1), (7, .slice ba D.B bc), (9, I (i.1 : Int))]) (fun i wj => i.1 ≤ 20 ∧ Ext w wj ∧ Sl wj i.2.1 9 1 (D.B + i.1) i.2.2 ∧ Sl wj (.slice wa D.B wc) 9 1 D.B (D.image.map S) ∧ Sl wj (.slice ba D.B bc) 9 1 D.B (D.image.map S) ∧ ∀ g, i.2.1.ownBlock = some g → w.heap.size ≤ g ∧ (Value.slice wa D.B wc).ownBlock ≠ some g ∧ (Value.slice ba D.B bc).ownBlock ≠ some g) (fun i => 20 - i.1) (by repeat (first | exact Sub.nil | refine Sub.cons rfl ?_)) ?hI ?hround
      case hI => exact ⟨by simp, hx1i, hSi, hI1i, hI3i, fun g hg => by
        have e : ga = g := Option.some.inj hg
        subst e
        exact ⟨by omega, fun h => hnot ga h rfl, fun h => hnot3 ga h rfl⟩⟩
      case hround =>
        rintro ⟨j, u, cu⟩ wj ⟨hj, hxj, hSj, h1j, h3j, hgj⟩ ihj
        simp only at hj hSj hgj
        obtain ⟨uaa, ucap, rfl, -⟩ := hSj.rd.shape
        dsimp only
        refine run_seq ?_
        refine run_seq ?_
        refine run_reg rfl ?_
        refine rVal rfl rfl (ymv rfl) ?_
        refine rVal rfl rfl (ylt rfl rfl) ?_
        refine rEnd ?_
        refine run_if rfl (fun hlt2 => ?_) (fun hlt2 => ?_)
        · skip
          refine run_skip ?_
          refine run_seq ?_
          refine run_block ?_
          refine run_reg rfl ?_
          refine rVal rfl rfl (ymv rfl) ?_
          refine rValP rfl rfl (pbs (parts := [(0, .const (Value.string (⟨#[98, 101, 104, 105, 110, 100]⟩)))]) (cs := [_]) (zs := [Value.string ⟨#[]⟩]) Try.underlying47 ti9 rfl (by kernel_rfl) rfl rfl rfl (by decide)) ?_
          rintro _ wa1 ⟨bn, rfl, ⟨hbn, hxa, hBa⟩, hSa⟩
          refine rValP rfl rfl (pap Try.underlying47 ti9 rfl (by decide) rfl rfl (hSj.ext hxa) hSa.rd (by intro c hc; simp at hc; subst hc; rfl) (by omega) (by omega)) ?_
          rintro v' wb ⟨hSb, hkb, hownb, -⟩
          refine rVal rfl rfl (yas rfl) ?_
          refine rEnd ?_
          refine run_inBlock ?_
          refine run_reg rfl ?_
          refine rVal rfl rfl (ymv rfl) ?_
          refine rVal rfl rfl (yad rfl rfl (by omega)) ?_
          refine rVal rfl rfl (yas rfl) ?_
          refine rEnd ?_
          refine (ihj (j + 1, v', _) wb ⟨by show j + 1 ≤ 20; omega, (hxj.trans hxa).trans_new hkb (fun g hg => (hgj g hg).1), hSb, (h1j.ext hxa).kp hkb (fun g hg h => (hgj g h).2.1 hg), (h3j.ext hxa).kp hkb (fun g hg h => (hgj g h).2.2 hg), fun g hg => ?_⟩ (by show 20 - (j + 1) < 20 - j; omega)).sub (by repeat (first | exact Sub.nil | refine Sub.cons rfl ?_))
          rcases hownb g hg with h' | h'
          · exact hgj g h'
          · have ha := hxa.size
            refine ⟨by have := hxj.size; omega, fun h => ?_, fun h => ?_⟩
            · have := h1j.lt h; omega
            · have := h3j.lt h; omega
        · skip
          have hj20 : j = 20 := by omega
          subst hj20
          have rb : Rd wj (.slice ba D.B bc) 1 D.image.length (D.image.map S) := by rw [him]; exact h3j.rd
          have rw' : Rd wj (.slice wa D.B wc) 1 D.image.length (D.image.map S) := by rw [him]; exact h1j.rd
          refine run_exit rfl ?_
          refine run_seq ?_
          refine run_reg rfl ?_
          refine rVal rfl rfl (ymv rfl) ?_
          refine rVal rfl rfl (ymv rfl) ?_
          refine rCall rfl rfl (yc (args := [.tmp 36, .tmp 37]) cf31 rfl) (same_ret (.slice ba D.B bc) (.slice wa D.B wc) D.image D.image wj rb rw' (by omega) (by omega)) ?_
          rintro _ w11 ⟨rfl, hx11⟩
          rw [show decide (D.image = D.image) = true from decide_eq_true rfl]
          refine rVal rfl rfl (ymv rfl) ?_
          refine rVal rfl rfl (ymv rfl) ?_
          refine rVal rfl rfl (yln Try.underlying47 rfl) ?_
          refine rVal rfl rfl (ymv rfl) ?_
          refine rVal rfl rfl (yln Try.underlying47 rfl) ?_
          refine rVal rfl rfl (yad rfl rfl (by omega)) ?_
          refine rVal rfl rfl (yeq rfl rfl) ?_
          refine rTrue (by (first | rfl | assumption | omega | decide)) ?_
          refine rVal rfl rfl (ypT rfl rfl) ?_
          refine rVal rfl rfl (yas rfl) ?_
          refine rEnd ?_
          refine run_ret Try.func48 rfl ?_
          exact ⟨_, rfl, rfl, hxj.trans hx11⟩
end Go.Proofs.Ytdapkfppcaaohaa
