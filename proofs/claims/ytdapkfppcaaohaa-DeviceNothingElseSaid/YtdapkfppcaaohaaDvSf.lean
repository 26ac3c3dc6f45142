/- The statement's function DeviceSafe walked: it answers true on every argument. -/
import Derived.Test.YtdapkfppcaaohaaDvP
namespace Go.Proofs.Ytdapkfppcaaohaa
open Go Go.RowKit
set_option linter.all false
set_option maxRecDepth 100000

/-- A device that has fallen and come up again. -/
def Dev.fell (D : Dev) (l : List Int) (tn : Int) (mk : UInt8) : Dev := { D.fall l tn mk with down := false }
theorem fell_image (D : Dev) (l : List Int) (tn : Int) (mk : UInt8) : (D.fell l tn mk).image = (List.range D.B).map fun j : Nat => (D.fall l tn mk).kept (j : Int) := by
  simp only [Dev.image, Dev.imageTo]
  apply List.map_congr_left
  intro j _
  simp [Dev.now, Dev.fell, Dev.fall, lastW, Dev.kept]
theorem fell_all (D : Dev) (l : List Int) (tn : Int) (mk : UInt8) (hl : ∀ i, i < D.cache.length → (i : Int) ∈ l) (ht : tn < 0) : (D.fell l tn mk).image = D.image := by
  rw [fell_image]
  simp only [Dev.image, Dev.imageTo]
  apply List.map_congr_left
  intro j _
  exact kept_all D l tn mk j hl ht
theorem small_fell {D : Dev} {k : Nat} (h : D.Small k) (l : List Int) (tn : Int) (mk : UInt8) : (D.fell l tn mk).Small k := small_fall h l tn mk

set_option maxHeartbeats 4000000 in
theorem deviceSafe_ret (blocks sectors : Int) (v2 v3 kv : Value) (safe more : List (Int × Bytes)) (l : List Int) (tn : Int) (mk : UInt8) (w : World) (hbl : -9223372036854775808 ≤ blocks ∧ blocks ≤ 9223372036854775807) (hse : -9223372036854775808 ≤ sectors ∧ sectors ≤ 9223372036854775807) (h2 : PutsM w v2 safe) (h3 : PutsM w v3 more)
    (hl : l.length ≤ 17592186044415) (hr : Rd w kv 1 l.length (l.map I)) :
    Ret Try.prog 8 [I blocks, I sectors, v2, v3, .agg #[kv, I tn, u8v mk]] w fun v w' => v = .bool true ∧ Ext w w' := by
  have hml : maxLen = 9223372036854775807 := rfl
  obtain ⟨ak, ck, rfl, hak⟩ := hr.shape
  obtain ⟨a2, c2, rfl, -⟩ := h2.rd.shape
  obtain ⟨a3, c3, rfl, -⟩ := h3.rd.shape
  refine ret_of_run (e := [(0, _), (1, _), (2, _), (3, _), (4, _)]) Try.func8 rfl Try.ntmps8 rfl rfl ?_
  refine run_seq ?_
  refine run_reg rfl ?_
  refine rValP rfl rfl (pbx rfl rfl) ?_
  rintro _ w1 ⟨b9, rfl, hb9, hx1, hB9⟩
  refine rVal rfl rfl (yas rfl) ?_
  refine rEnd ?_
  refine run_seq ?_
  refine run_reg rfl ?_
  refine rVal rfl rfl (ymv rfl) ?_
  refine rVal rfl rfl (ymv rfl) ?_
  refine rVal rfl rfl (ymv rfl) ?_
  refine rVal rfl rfl (ymv rfl) ?_
  refine rCall rfl rfl (yc (args := [.tmp 23, .tmp 24, .tmp 25, .tmp 26]) cf23 rfl) (written_ret blocks sectors _ _ safe more w1 hbl hse (h2.ext hx1) (h3.ext hx1)) ?_
  rintro _ w2 ⟨B, N, ⟨⟨p, D, F, u, x, rfl, hA2, hC, hS, hU2, hL2, hl60, hd1, hd2, hd3⟩, hx2, hBr, hNr⟩⟩
  obtain ⟨ua, uc, rfl, -⟩ := hU2.rd.shape
  obtain ⟨xa, xc, rfl, -⟩ := hL2.rd.shape
  refine rVal rfl rfl (ymv rfl) ?_
  refine rVal rfl rfl (yex rfl rfl) ?_
  refine rVal rfl rfl (yex rfl rfl) ?_
  refine rVal rfl rfl (yex rfl rfl) ?_
  refine rVal rfl rfl (yas rfl) ?_
  refine rVal rfl rfl (yas rfl) ?_
  refine rVal rfl rfl (yas rfl) ?_
  refine rEnd ?_
  refine run_seq ?_
  refine run_seq ?_
  refine run_reg rfl ?_
  refine rVal rfl rfl (ymv rfl) ?_
  refine rVal rfl rfl (yeqpN Try.underlying46 rfl rfl) ?_
  refine rVal rfl rfl (ymv rfl) ?_
  refine rCall rfl rfl (yc (args := []) cf24 rfl) (awake_ret w2) ?_
  rintro _ w3 ⟨rfl, hx3⟩
  refine rVal rfl rfl ((by first | exact yntd rfl | exact ynt rfl)) ?_
  refine rVal rfl rfl (ypF rfl rfl) ?_
  refine rEnd ?_
  refine Run.sub (e := [(9, _), (10, _), (11, _), (12, _), (13, _), (36, _)]) ?_ (by repeat (first | exact Sub.nil | refine Sub.cons rfl ?_))
  refine run_false rfl ?_
  have hA3 := hA2.ext hx3
  have hU3 := hU2.ext hx3
  have hL3 := hL2.ext hx3
  have hx13 := hx2.trans hx3
  refine run_skip ?_
  refine run_seq ?_
  refine run_reg rfl ?_
  refine rVal rfl rfl (ymv rfl) ?_
  refine rCall rfl rfl (yc (args := [.tmp 37]) cf29 rfl) (twinA_ret hA3 hS (by omega)) ?_
  rintro _ w4 ⟨q, G, rfl, hG4, hx4, hlG⟩
  have hA4 := hA3.ext hx4
  refine rVal rfl rfl (yas rfl) ?_
  refine rEnd ?_
  refine run_seq ?_
  refine run_reg rfl ?_
  refine rVal rfl rfl (ymv rfl) ?_
  refine rCall rfl rfl (yc (args := [.tmp 39]) cf28 rfl) (imageA_ret hA4 hS (by omega)) ?_
  rintro nv w5 ⟨hN5, hx5, hgN⟩
  obtain ⟨na, nc, rfl, -⟩ := hN5.rd.shape
  have hA5 := hA4.ext hx5
  have hG5 := hG4.ext hx5
  have hx35 := hx4.trans hx5
  have hU5 := hU3.ext hx35
  have hL5 := hL3.ext hx35
  have hx15 := hx13.trans hx35
  have hs34 := hx4.size
  have hs45 := hx5.size
  refine rVal rfl rfl (yas rfl) ?_
  refine rEnd ?_
  refine run_seq ?_
  refine run_reg rfl ?_
  refine rVal rfl rfl (yas rfl) ?_
  refine rEnd ?_
  refine run_seq ?_
  refine run_seq ?_
  refine run_reg rfl ?_
  refine rVal rfl rfl (ymv rfl) ?_
  refine rVal rfl rfl (yln Try.underlying42 rfl) ?_
  refine rVal rfl rfl (ysb rfl rfl (by omega)) ?_
  refine rVal rfl rfl (yas rfl) ?_
  refine rEnd ?_
  refine run_block ?_
  rw [show (D.cache.length : Int) - 1 = (D.cache.length : Int) - 1 - ((0 : Nat) : Int) by omega]
  -- the list of all writes
  refine run_loop (α := Nat × Value) ((0, .slice none 0 0)) (fun j => [(9, ptr b9 0), (11, ptr p 0), (12, .slice ua B uc), (13, .slice xa D.cache.length xc), (14, ptr q 0), (15, .slice na D.B nc), (16, j.2), (17, I ((D.cache.length : Int) - 1 - (j.1 : Int)))]) (fun j wi => j.1 ≤ D.cache.length ∧ Sl wi j.2 3 1 (j.1 * 2) ((evs D.cache.length j.1).map I) ∧ Ext w5 wi ∧ ∀ g, j.2.ownBlock = some g → w5.heap.size ≤ g) (fun j => D.cache.length - j.1) (by repeat (first | exact Sub.nil | refine Sub.cons rfl ?_)) ?hI ?hround
  case hI => exact ⟨by simp, Sl.nil _ _ _, Ext.refl _, by simp [Value.ownBlock]⟩
  case hround =>
    rintro ⟨j, ev⟩ wi ⟨hj, hE, hxi, hgE⟩ ih
    simp only at hj hE hgE
    obtain ⟨ea, ec, rfl, -⟩ := hE.rd.shape
    dsimp only
    refine run_seq ?_
    refine run_seq ?_
    refine run_reg rfl ?_
    refine rVal rfl rfl (ymv rfl) ?_
    refine rVal rfl rfl (yge rfl rfl) ?_
    refine rEnd ?_
    refine run_if rfl (fun hge => ?_) (fun hge => ?_)
    · skip
      refine run_skip ?_
      refine run_seq ?_
      refine run_block ?_
      refine run_reg rfl ?_
      refine rVal rfl rfl (ymv rfl) ?_
      refine rVal rfl rfl (ymv rfl) ?_
      refine rVal rfl rfl (ymv rfl) ?_
      refine rValP rfl rfl (pbs (parts := [(0, .tmp 49), (1, .tmp 50)]) (cs := [_, _]) (zs := [Value.int .i64 0, Value.int .i64 0]) Try.underlying43 ti3 rfl (by kernel_rfl) rfl rfl rfl (by decide)) ?_
      rintro _ wa ⟨ba, rfl, ⟨hba, hxa, hBa⟩, hSa⟩
      refine rValP rfl rfl (pap Try.underlying43 ti3 rfl (by decide) rfl rfl (hE.ext hxa) hSa.rd (by intro c hc; simp at hc; rcases hc with rfl | rfl <;> rfl) (by omega) (by omega)) ?_
      rintro v' wb ⟨hSb, hkb, hownb, -⟩
      refine rVal rfl rfl (yas rfl) ?_
      refine rEnd ?_
      refine run_inBlock ?_
      refine run_reg rfl ?_
      refine rVal rfl rfl (ymv rfl) ?_
      refine rVal rfl rfl (ysb rfl rfl (by omega)) ?_
      refine rVal rfl rfl (yas rfl) ?_
      refine rEnd ?_
      have ez : (D.cache.length : Int) - 1 - (j : Int) - 1 = (D.cache.length : Int) - 1 - ((j + 1 : Nat) : Int) := by omega
      rw [ez]
      refine (ih (j + 1, v') wb ⟨by show j + 1 ≤ _; omega, ?_, (hxi.trans hxa).trans_new hkb hgE, fun g hg => ?_⟩ (by show D.cache.length - (j + 1) < D.cache.length - j; omega)).sub (by repeat (first | exact Sub.nil | refine Sub.cons rfl ?_))
      · show Sl wb v' _ 1 ((j + 1) * 2) ((evs D.cache.length j ++ [(D.cache.length : Int) - 1 - j, (D.cache.length : Int) - 1 - j]).map I)
        rw [show (j + 1) * 2 = j * 2 + 2 by omega, List.map_append]
        exact hSb
      · rcases hownb g hg with h' | h'
        · exact hgE g h'
        · have := hxi.size; have := hxa.size; omega
    · skip
      have hjl : j = D.cache.length := by omega
      subst hjl
      have hA6 := hA5.ext hxi
      have hG6 := hG5.ext hxi
      have hU6 := hU5.ext hxi
      have hL6 := hL5.ext hxi
      have hN6 := hN5.ext hxi
      have hx16 := hx15.trans hxi
      have hs6 := hxi.size
      have hB96 := (hx16).blk hB9
      have hr6 := hr.ext (hx1.trans hx16)
      have hsF := hA6.lt
      refine run_exit rfl ?_
      refine run_seq ?_
      refine run_seq ?_
      refine run_reg rfl ?_
      refine rVal rfl rfl (ymv rfl) ?_
      refine rCall rfl rfl (yc (args := [.tmp 53]) cf30 rfl) (unflushedA_ret hA6) ?_
      rintro _ w7 ⟨rfl, rfl⟩
      refine rVal rfl rfl (ymv rfl) ?_
      refine rVal rfl rfl (yln Try.underlying42 rfl) ?_
      refine rVal rfl rfl (yne rfl rfl) ?_
      refine rFalse (by (first | exact fun h => h rfl | assumption | omega)) ?_
      refine rVal rfl rfl (ymv rfl) ?_
      refine rVal rfl rfl (ymv rfl) ?_
      refine rVal rfl rfl (yldA Try.underlying45 rfl ti45 rfl (Blk.cells (n := 3) hB96 (news := [_, _, _]) rfl) rfl) ?_
      refine rCall rfl rfl (yc (args := [.tmp 60]) cf26 rfl) (in_ret (.slice ak l.length ck) l tn mk hl hr6) ?_
      rintro _ w7 ⟨g, cap, rfl, hI7, hx7, hg7⟩
      have hA7 := hA6.ext hx7
      refine rCall rfl rfl (yc (args := [.tmp 59, .tmp 61]) cf25 rfl) (pullA_ret (.slice (some ⟨g, 0, none⟩) l.length cap) l tn mk hA7 hS (by omega) (by omega) hI7.rd) ?_
      rintro _ w8 ⟨rfl, h8⟩
      rw [if_neg (by simp [hC.1])] at h8 ⊢
      obtain ⟨F8, hA8, hu8⟩ := h8
      refine rVal rfl rfl (yne rfl rfl) ?_
      refine rFalse (by (first | exact fun h => h rfl | assumption | omega)) ?_
      refine rVal rfl rfl (ypF rfl rfl) ?_
      refine rVal rfl rfl (ymv rfl) ?_
      refine rVal rfl rfl (ymv rfl) ?_
      refine rCall rfl rfl (yc (args := [.tmp 66]) cf27 rfl) (restartA_ret hA8) ?_
      rintro _ w9 ⟨rfl, h9⟩
      obtain ⟨F9, hA9, hu9⟩ := h9
      replace hA9 : DevA w9 p (D.fell l tn mk) F9 := hA9
      refine rVal rfl rfl (yne rfl rfl) ?_
      refine rFalse (by (first | exact fun h => h rfl | assumption | omega)) ?_
      refine rVal rfl rfl (ypF rfl rfl) ?_
      refine rVal rfl rfl (ymv rfl) ?_
      refine rVal rfl rfl (ymv rfl) ?_
      refine rVal rfl rfl (ymv rfl) ?_
      refine rVal rfl rfl (ybd (parts := [(0, .tmp 72), (1, .const (Value.int .i64 (-1)))]) (cs := [_, _, _]) ti51 rfl sp51 rfl rfl) ?_
      have hS8 := small_fall hS l tn mk
      have hS9 := small_fell hS l tn mk
      have hG7 := hG6.ext hx7
      have hFG : ∀ i, F i → ¬ G i := fun i hi hg => by have := hA3.lt i hi; have := hlG i hg; omega
      have hF8G := hu8.dis hG7.lt hFG
      have hG8 := hG7.kp hu8.1 (fun i hg hf => hFG i hf hg)
      have hF9G := hu9.dis hG8.lt hF8G
      have hG9 := hG8.kp hu9.1 (fun i hg hf => hF8G i hf hg)
      -- what is kept: the lists and texts
      obtain ⟨O, hO⟩ : ∃ O : Nat → Prop, O = fun i => (Value.slice ua B uc).ownBlock = some i ∨ (Value.slice xa D.cache.length xc).ownBlock = some i ∨ (Value.slice na D.B nc).ownBlock = some i ∨ (Value.slice ea (D.cache.length * 2) ec).ownBlock = some i := ⟨_, rfl⟩
      have hOl : ∀ i, O i → i < w7.heap.size := by
        intro i hi
        rw [hO] at hi
        have := hx7.size
        rcases hi with h | h | h | h
        · have := hU6.lt h; omega
        · have := hL6.lt h; omega
        · have := hN6.lt h; have := hs6; have := hN5.lt h; omega
        · have := hE.lt h; omega
      have hFO : ∀ i, F i → ¬ O i := by
        intro i hi ho
        rw [hO] at ho
        have hi3 := hA3.lt i hi
        rcases ho with h | h | h | h
        · exact (hd1 i hi).2.1 h
        · exact (hd1 i hi).2.2 h
        · have := hgN i h; omega
        · have := hgE i h; omega
      have hF8O := hu8.dis hOl hFO
      have hOl8 : ∀ i, O i → i < w8.heap.size := fun i hi => Nat.lt_of_lt_of_le (hOl i hi) hu8.1.size
      have hF9O := hu9.dis hOl8 hF8O
      have hOl9 : ∀ i, O i → i < w9.heap.size := fun i hi => Nat.lt_of_lt_of_le (hOl8 i hi) hu9.1.size
      have hGO : ∀ i, G i → ¬ O i := by
        intro i hi ho
        rw [hO] at ho
        have hi4 := hG4.lt i hi
        have hi3 := hlG i hi
        have := hx3.size
        rcases ho with h | h | h | h
        · have := hU3.lt h; omega
        · have := hL3.lt h; omega
        · have := hgN i h; omega
        · have := hgE i h; omega
      have hx17 := hx16.trans hx7
      have hF1 : ∀ i, F i → w1.heap.size ≤ i := fun i hi => (hd1 i hi).1
      have hF81 := hu8.low hx17.size hF1
      have hx18 := hu8.ext hx17 hF1
      have hx19 := hu9.ext hx18 hF81
      have hG1 : ∀ i, G i → w1.heap.size ≤ i := fun i hi => by have := hlG i hi; have := hx13.size; omega
      have hK79 : Kp (fun i => ¬ O i) w7 w9 := (hu8.1.mono' fun i hi => hFO i hi).trans (hu9.1.mono' fun i hi => hF8O i hi)
      have hE9 := (hE.ext hx7).kp hK79 (fun i hi h => h (by rw [hO]; exact .inr (.inr (.inr hi))))
      refine rCall rfl rfl (yc (args := [.tmp 71, .tmp 73]) cf25 rfl) (pullA_ret (.slice ea (D.cache.length * 2) ec) (evs D.cache.length D.cache.length) (-1) 0 hG9 hS (by omega) (by simp; omega) (by rw [evs_length]; exact hE9.rd)) ?_
      rintro _ w10 ⟨rfl, h10⟩
      rw [if_neg (by simp [hC.1])] at h10 ⊢
      obtain ⟨G10, hG10, hu10⟩ := h10
      refine rVal rfl rfl (yne rfl rfl) ?_
      refine rFalse (by (first | exact fun h => h rfl | assumption | omega)) ?_
      refine rVal rfl rfl (ypF rfl rfl) ?_
      refine rVal rfl rfl (ymv rfl) ?_
      refine rVal rfl rfl (ymv rfl) ?_
      refine rCall rfl rfl (yc (args := [.tmp 78]) cf27 rfl) (restartA_ret hG10) ?_
      rintro _ w11 ⟨rfl, h11⟩
      obtain ⟨G11, hG11, hu11⟩ := h11
      replace hG11 : DevA w11 q (D.fell (evs D.cache.length D.cache.length) (-1) 0) G11 := hG11
      refine rVal rfl rfl (yne rfl rfl) ?_
      refine rFalse (by (first | exact fun h => h rfl | assumption | omega)) ?_
      refine rVal rfl rfl (ypF rfl rfl) ?_
      refine rEnd ?_
      refine Run.sub (e := [(11, _), (12, _), (13, _), (14, _), (15, _), (81, _)]) ?_ (by repeat (first | exact Sub.nil | refine Sub.cons rfl ?_))
      refine run_false rfl ?_
      refine run_skip ?_
      refine run_seq ?_
      refine run_reg rfl ?_
      have hG10O := hu10.dis hOl9 hGO
      have hOl10 : ∀ i, O i → i < w10.heap.size := fun i hi => Nat.lt_of_lt_of_le (hOl9 i hi) hu10.1.size
      have hK911 : Kp (fun i => ¬ O i) w9 w11 := (hu10.1.mono' fun i hi => hGO i hi).trans (hu11.1.mono' fun i hi => hG10O i hi)
      have hGF : ∀ i, G i → ¬ F9 i := fun i hg hf => hF9G i hf hg
      have hG10F := hu10.dis hA9.lt hGF
      have hA11 := (hA9.kp hu10.1 (fun i hf hg => hGF i hg hf)).kp hu11.1 (fun i hf hg => hG10F i hg hf)
      have hK := hK79.trans hK911
      have hU11 := (hU6.ext hx7).kp hK (fun i hi h => h (by rw [hO]; exact .inl hi))
      have hL11 := (hL6.ext hx7).kp hK (fun i hi h => h (by rw [hO]; exact .inr (.inl hi)))
      have hN11 := (hN6.ext hx7).kp hK (fun i hi h => h (by rw [hO]; exact .inr (.inr (.inl hi))))
      have hG101 := hu10.low hx19.size hG1
      have hx110 := hu10.ext hx19 hG1
      have hx111 := hu11.ext hx110 hG101
      refine rValP rfl rfl (pmm) ?_
      rintro _ w12 ⟨mm, rfl, hmm, hx12, hMm⟩
      have hM12 : MapL KI w12 mm [] := ⟨⟨#[], 0, hMm, rfl⟩, by simp⟩
      have hBB := hC.2.2.1
      have hNN := hC.2.2.2
      have hmlt := hM12.lt
      refine rVal rfl rfl (yas rfl) ?_
      refine rEnd ?_
      refine run_seq ?_
      refine run_seq ?_
      refine run_reg rfl ?_
      refine rVal rfl rfl (yas rfl) ?_
      refine rEnd ?_
      refine run_block ?_
      -- what was touched
      refine run_cut2 (fun e' w' => e' = [(11, ptr p 0), (12, .slice ua B uc), (14, ptr q 0), (15, .slice na D.B nc), (18, .map (some mm))] ∧ Kp (fun k => k = mm) w12 w' ∧ ∃ kv, MapL KI w' mm kv ∧ ∀ n, ((∃ y ∈ D.cache, y.1 = n) → getL kv n = some (I 1)) ∧ ((¬ ∃ y ∈ D.cache, y.1 = n) → getL kv n = none)) ?hkb (fun hkb => ?hmainb)
      case hkb =>
        rintro _ w13 ⟨rfl, hk13, kv, hM13, hkv⟩
        have hne : ∀ {i}, i < w11.heap.size → ¬ i = mm := fun h e => by omega
        have hA13 := (hA11.ext hx12).kp hk13 (fun i hi => hne (hA11.lt i hi))
        have hG13 := (hG11.ext hx12).kp hk13 (fun i hi => hne (hG11.lt i hi))
        have hU13 := (hU11.ext hx12).kp hk13 (fun i hi => hne (hU11.lt hi))
        have hN13 := (hN11.ext hx12).kp hk13 (fun i hi => hne (hN11.lt hi))
        have hx113 : Ext w1 w13 := (hx111.trans hx12).trans_new hk13 (fun i hi => by have := hx111.size; omega)
        refine run_seq ?_
        refine run_reg rfl ?_
        refine rVal rfl rfl (ymv rfl) ?_
        refine rCall rfl rfl (yc (args := [.tmp 95]) cf28 rfl) (imageA_ret hA13 hS9 (by omega)) ?_
        rintro gv w14 ⟨hGt14, hx14, hg14⟩
        obtain ⟨ga, gc, rfl, -⟩ := hGt14.rd.shape
        have hDB : (D.fell l tn mk).B = B := hBB
        rw [hDB] at hGt14 ⊢
        have hA14 := hA13.ext hx14
        have hG14 := hG13.ext hx14
        have hU14 := hU13.ext hx14
        have hN14 := hN13.ext hx14
        have hM14 := hx14.map hM13
        have him9 : (D.fell l tn mk).image.length = B := by rw [fell_image]; simp [hBB]
        have hsl : D.safes.length = B := by simp [hBB]
        refine rVal rfl rfl (yas rfl) ?_
        refine rEnd ?_
        refine run_seq ?_
        refine run_seq ?_
        refine run_reg rfl ?_
        refine rVal rfl rfl (yas rfl) ?_
        refine rEnd ?_
        refine run_block ?_
        refine run_loop (α := Nat) (0) (fun n => [(11, ptr p 0), (12, .slice ua B uc), (14, ptr q 0), (15, .slice na D.B nc), (18, .map (some mm)), (20, .slice ga B gc), (21, I (n : Int))]) (fun n wi => n ≤ B ∧ Ext w14 wi) (fun n => B - n) (by repeat (first | exact Sub.nil | refine Sub.cons rfl ?_)) ?hI ?hround
        case hI => exact ⟨by omega, Ext.refl _⟩
        case hround =>
          rintro n wi ⟨hn, hxi2⟩ ih2
          have hUi := hU14.ext hxi2
          have hGi := hGt14.ext hxi2
          have hMi := hxi2.map hM14
          dsimp only
          refine run_seq ?_
          refine run_seq ?_
          refine run_reg rfl ?_
          refine rVal rfl rfl (ymv rfl) ?_
          refine rVal rfl rfl (ymv rfl) ?_
          refine rVal rfl rfl (yln Try.underlying47 rfl) ?_
          refine rVal rfl rfl (ylt rfl rfl) ?_
          refine rEnd ?_
          refine run_if rfl (fun hlt => ?_) (fun hlt => ?_)
          · skip
            have hnB : n < B := by omega
            have hnD : n < D.B := by omega
            refine run_skip ?_
            refine run_seq ?_
            refine run_block ?_
            refine run_seq ?_
            refine run_draw (fun w' => w' = wi.drew) (by kernel_rfl) rfl ?_
            refine hTake (i := 0) rfl (by kernel_rfl) rfl rfl (fun _ hS => ymv rfl) (rfl) ?_
            refine hTake (i := 1) rfl (by kernel_rfl) rfl rfl (fun _ hS => yln Try.underlying47 rfl) (rfl) ?_
            refine hTake (i := 2) rfl (by kernel_rfl) rfl rfl (fun _ hS => ymv rfl) (rfl) ?_
            refine hTake (i := 3) rfl (by kernel_rfl) rfl rfl (fun _ hS => yln Try.underlying47 rfl) (rfl) ?_
            refine hTake (i := 4) rfl (by kernel_rfl) rfl rfl (fun _ hS => yne rfl rfl) (rfl) ?_
            refine hFalse (by (first | exact fun h => h rfl | assumption | omega)) ?_
            refine hTake (i := 5) rfl (by kernel_rfl) rfl rfl (fun _ hS => ymv rfl) (rfl) ?_
            refine hTake (i := 7) rfl (by kernel_rfl) rfl rfl (fun _ hS => ymv rfl) (rfl) ?_
            refine hTake (i := 6) rfl (by kernel_rfl) rfl rfl (fun _ hS => ymv rfl) (rfl) ?_
            have hMd : MapL KI wi.drew mm kv := (Ext.drew0 wi).map hMi
            refine hTake (i := 8) rfl (by kernel_rfl) rfl rfl (fun _ hS => ylk (k := (n : Int)) (K := KI) Try.underlying60 (ky_int Try.underlying3) ti3 rfl rfl (by rw [hS]; exact hMd)) (rfl) ?_
            by_cases ht : ∃ y ∈ D.cache, y.1 = (n : Int)
            · rw [(hkv n).1 ht]
              refine hTake (i := 9) rfl (by kernel_rfl) rfl rfl (fun _ hS => yeq rfl rfl) (rfl) ?_
              refine hFalse (by (first | exact fun h => h rfl | assumption | omega)) ?_
              refine hTake (i := 10) rfl (by kernel_rfl) rfl rfl (fun _ hS => ymv rfl) (rfl) ?_
              refine hSkip (i := 11) rfl (by kernel_rfl) rfl rfl (rfl) ?_
              refine hSkip (i := 12) rfl (by kernel_rfl) rfl rfl (rfl) ?_
              refine hSkip (i := 13) rfl (by kernel_rfl) rfl rfl (rfl) ?_
              refine hSkip (i := 14) rfl (by kernel_rfl) rfl rfl (rfl) ?_
              refine hSkip (i := 15) rfl (by kernel_rfl) rfl rfl (rfl) ?_
              refine hSkip (i := 16) rfl (by kernel_rfl) rfl rfl (rfl) ?_
              refine hSkip (i := 17) rfl (by kernel_rfl) rfl rfl (rfl) ?_
              refine hSkip (i := 18) rfl (by kernel_rfl) rfl rfl (rfl) ?_
              refine hSkip (i := 19) rfl (by kernel_rfl) rfl rfl (rfl) ?_
              refine hTake (i := 20) rfl (by kernel_rfl) rfl rfl (fun _ hS => ypF rfl rfl) (rfl) ?_
              refine hTake (i := 21) rfl (by kernel_rfl) rfl rfl (fun _ hS => ypF rfl rfl) (rfl) ?_
              refine hEnd (by kernel_rfl) ?_
              refine run_false rfl ?_
              refine run_skip ?_
              refine run_inBlock ?_
              refine run_reg rfl ?_
              refine rVal rfl rfl (ymv rfl) ?_
              refine rVal rfl rfl (yad rfl rfl (by omega)) ?_
              refine rVal rfl rfl (yas rfl) ?_
              refine rEnd ?_
              exact (ih2 (n + 1) _ ⟨by omega, hxi2.trans (Ext.drew0 wi)⟩ (by omega)).sub (by repeat (first | exact Sub.nil | refine Sub.cons rfl ?_))
            · rw [(hkv n).2 ht]
              have hks := kept_same D l tn mk n (fun y hy e => ht ⟨y, hy, e⟩)
              rcases hUi.shape with ⟨-, h⟩ | ⟨ub, uc', hva, -⟩
              · omega
              cases hva
              rcases hGi.shape with ⟨-, h⟩ | ⟨gb, gc', hva, -⟩
              · omega
              cases hva
              have c1 : wi.cell? ⟨gb, 0 + n * 1, none⟩ = some (S (D.kept n)) := by
                refine sl_cell1 hGi ?_
                rw [fell_image, List.map_map, List.getElem?_map, List.getElem?_range (by omega)]
                simp only [Option.map_some, Function.comp, hks]
              have c2 : wi.cell? ⟨ub, 0 + n * 1, none⟩ = some (S (D.kept n)) := sl_cell1 hUi (by rw [List.getElem?_map, safes_get D n hnD]; rfl)
              refine hTake (i := 9) rfl (by kernel_rfl) rfl rfl (fun _ hS => yeq rfl rfl) (rfl) ?_
              refine hTrue (by (first | rfl | assumption | omega | decide)) ?_
              refine hTake (i := 10) rfl (by kernel_rfl) rfl rfl (fun _ hS => ymv rfl) (rfl) ?_
              refine hTake (i := 11) rfl (by kernel_rfl) rfl rfl (fun _ hS => ymv rfl) (rfl) ?_
              refine hTake (i := 12) rfl (by kernel_rfl) rfl rfl (fun _ hS => ymv rfl) (rfl) ?_
              refine hTake (i := 13) rfl (by kernel_rfl) rfl rfl (fun _ hS => yis Try.underlying47 ti9 rfl rfl (by omega)) (rfl) ?_
              refine hTake (i := 15) rfl (by kernel_rfl) rfl rfl (fun _ hS => ymv rfl) (rfl) ?_
              refine hTake (i := 16) rfl (by kernel_rfl) rfl rfl (fun _ hS => ymv rfl) (rfl) ?_
              refine hTake (i := 17) rfl (by kernel_rfl) rfl rfl (fun _ hS => yis Try.underlying47 ti9 rfl rfl (by omega)) (rfl) ?_
              refine hTake (i := 14) rfl (by kernel_rfl) rfl rfl (fun _ hS => yldc Try.underlying9 rfl rfl (by rw [hS]; exact c1)) (rfl) ?_
              refine hTake (i := 18) rfl (by kernel_rfl) rfl rfl (fun _ hS => yldc Try.underlying9 rfl rfl (by rw [hS]; exact c2)) (rfl) ?_
              refine hTake (i := 19) rfl (by kernel_rfl) rfl rfl (fun _ hS => yneS rfl rfl) (rfl) ?_
              refine hFalse (by (first | exact fun h => h rfl | assumption | omega)) ?_
              refine hTake (i := 20) rfl (by kernel_rfl) rfl rfl (fun _ hS => ypT rfl rfl) (rfl) ?_
              refine hTake (i := 21) rfl (by kernel_rfl) rfl rfl (fun _ hS => ypF rfl rfl) (rfl) ?_
              refine hEnd (by kernel_rfl) ?_
              refine run_false rfl ?_
              refine run_skip ?_
              refine run_inBlock ?_
              refine run_reg rfl ?_
              refine rVal rfl rfl (ymv rfl) ?_
              refine rVal rfl rfl (yad rfl rfl (by omega)) ?_
              refine rVal rfl rfl (yas rfl) ?_
              refine rEnd ?_
              exact (ih2 (n + 1) _ ⟨by omega, hxi2.trans (Ext.drew0 wi)⟩ (by omega)).sub (by repeat (first | exact Sub.nil | refine Sub.cons rfl ?_))
          · skip
            have hA15 := hA14.ext hxi2
            have hG15 := hG14.ext hxi2
            have hN15 := hN14.ext hxi2
            have hSq := small_fell hS (evs D.cache.length D.cache.length) (-1) 0
            refine run_exit rfl ?_
            refine run_seq ?_
            refine run_reg rfl ?_
            refine rVal rfl rfl (ymv rfl) ?_
            refine rCall rfl rfl (yc (args := [.tmp 125]) cf28 rfl) (imageA_ret hG15 hSq (by omega)) ?_
            rintro iv w15 ⟨hI15, hx15', hg15⟩
            rw [fell_all D _ (-1) 0 (fun i hi => evs_mem _ _ (Nat.le_refl _) i (by omega) hi) (by omega)] at hI15
            have him : D.image.length = D.B := by simp [Dev.image]
            have hI15' : Rd w15 iv 1 D.image.length (D.image.map S) := by rw [him]; exact hI15.rd
            have hN15' : Rd w15 (.slice na D.B nc) 1 D.image.length (D.image.map S) := by rw [him]; exact (hN15.ext hx15').rd
            refine rVal rfl rfl (ymv rfl) ?_
            refine rCall rfl rfl (yc (args := [.tmp 126, .tmp 127]) cf31 rfl) (same_ret iv (.slice na D.B nc) D.image D.image w15 hI15' hN15' (by omega) (by omega)) ?_
            rintro _ w16 ⟨rfl, hx16'⟩
            rw [show decide (D.image = D.image) = true from decide_eq_true rfl]
            refine rVal rfl rfl (ymv rfl) ?_
            refine rVal rfl rfl (ymv rfl) ?_
            refine rCall rfl rfl (yc (args := [.tmp 130]) cf30 rfl) (unflushedA_ret ((hA15.ext hx15').ext hx16')) ?_
            rintro _ w17 ⟨rfl, rfl⟩
            refine rVal rfl rfl (yeq rfl rfl) ?_
            refine rVal rfl rfl (ypT rfl rfl) ?_
            refine rVal rfl rfl (yas rfl) ?_
            refine rEnd ?_
            refine run_ret Try.func8 rfl ?_
            exact ⟨_, rfl, rfl, (hx1.trans hx113).trans (hx14.trans (hxi2.trans (hx15'.trans hx16')))⟩
      case hmainb =>
        have hL12 := hL11.ext hx12
        refine run_loop (α := Nat × List (Int × Value)) ((0, [])) (fun i => [(11, ptr p 0), (12, .slice ua B uc), (13, .slice xa D.cache.length xc), (14, ptr q 0), (15, .slice na D.B nc), (18, .map (some mm)), (19, I (i.1 : Int))]) (fun i wi => i.1 ≤ D.cache.length ∧ Kp (fun k => k = mm) w12 wi ∧ MapL KI wi mm i.2 ∧ ∀ n, ((∃ y ∈ D.cache.take i.1, y.1 = n) → getL i.2 n = some (I 1)) ∧ ((¬ ∃ y ∈ D.cache.take i.1, y.1 = n) → getL i.2 n = none)) (fun i => D.cache.length - i.1) (by repeat (first | exact Sub.nil | refine Sub.cons rfl ?_)) ?hI ?hround
        case hI => exact ⟨by simp, Kp.refl _ _, hM12, fun n => ⟨fun h => by simp at h, fun _ => rfl⟩⟩
        case hround =>
          rintro ⟨i, kv⟩ wi ⟨hi, hki, hMi, hkv⟩ ih2
          simp only at hi hMi hkv
          dsimp only
          refine run_seq ?_
          refine run_seq ?_
          refine run_reg rfl ?_
          refine rVal rfl rfl (ymv rfl) ?_
          refine rVal rfl rfl (ymv rfl) ?_
          refine rVal rfl rfl (yln Try.underlying42 rfl) ?_
          refine rVal rfl rfl (ylt rfl rfl) ?_
          refine rEnd ?_
          refine run_if rfl (fun hlt => ?_) (fun hlt => ?_)
          · skip
            have hlt' : i < D.cache.length := by omega
            have hLi := hL12.kp hki (fun j hj e => by have := hL11.lt hj; omega)
            obtain ⟨b, off, cap', y, hva, hyg⟩ := rd_get hLi.rd hlt'
            cases hva
            obtain ⟨c1, c2⟩ := rd_at hLi.rd hlt' hyg
            refine run_skip ?_
            refine run_seq ?_
            refine run_block ?_
            refine run_reg rfl ?_
            refine rVal rfl rfl (ymv rfl) ?_
            refine rVal rfl rfl (ymv rfl) ?_
            refine rVal rfl rfl (ymv rfl) ?_
            refine rVal rfl rfl (yis Try.underlying42 ti56 rfl rfl (by omega)) ?_
            refine rVal rfl rfl (yfa fl56_0 rfl) ?_
            refine rVal rfl rfl (yldc Try.underlying3 rfl rfl c1) ?_
            refine rEffP rfl (zmu (k := y.1) (K := KI) Try.underlying60 (ky_int Try.underlying3) rfl rfl rfl hMi) ?_
            rintro w' ⟨hm', hk'⟩
            refine rEnd ?_
            refine run_inBlock ?_
            refine run_reg rfl ?_
            refine rVal rfl rfl (ymv rfl) ?_
            refine rVal rfl rfl (yad rfl rfl (by omega)) ?_
            refine rVal rfl rfl (yas rfl) ?_
            refine rEnd ?_
            refine (ih2 (i + 1, putL kv y.1 (I 1)) w' ⟨by show i + 1 ≤ _; omega, hki.trans hk', hm', fun n => ?_⟩ (by show D.cache.length - (i + 1) < D.cache.length - i; omega)).sub (by repeat (first | exact Sub.nil | refine Sub.cons rfl ?_))
            have hy : D.cache[i] = y := by rw [List.getElem?_eq_getElem hlt'] at hyg; exact Option.some.inj hyg
            have ht : D.cache.take (i + 1) = D.cache.take i ++ [y] := by rw [List.take_succ_eq_append_getElem hlt', hy]
            show ((∃ z ∈ D.cache.take (i + 1), z.1 = n) → getL (putL kv y.1 (I 1)) n = some (I 1)) ∧ ((¬ ∃ z ∈ D.cache.take (i + 1), z.1 = n) → getL (putL kv y.1 (I 1)) n = none)
            rw [ht, getL_put]
            by_cases e : n = y.1
            · rw [if_pos e]
              exact ⟨fun _ => rfl, fun h => absurd ⟨y, by simp, e.symm⟩ h⟩
            · rw [if_neg e]
              refine ⟨fun ⟨z, hz, ez⟩ => (hkv n).1 ?_, fun h => (hkv n).2 fun ⟨z, hz, ez⟩ => h ⟨z, by simp [hz], ez⟩⟩
              rcases List.mem_append.1 hz with hz | hz
              · exact ⟨z, hz, ez⟩
              · simp at hz; subst hz; exact absurd ez.symm e
          · skip
            have hil : i = D.cache.length := by omega
            subst hil
            rw [List.take_length] at hkv
            refine run_exit rfl ?_
            exact (hkb _ _ ⟨rfl, hki, kv, hMi, hkv⟩).sub (by repeat (first | exact Sub.nil | refine Sub.cons rfl ?_))
end Go.Proofs.Ytdapkfppcaaohaa
