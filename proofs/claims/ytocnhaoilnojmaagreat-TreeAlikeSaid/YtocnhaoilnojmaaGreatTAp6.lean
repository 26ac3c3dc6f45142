/- Texts R7D, TrRg, TrDt, TrPg, ShF, TrTs, TrJ, TrK, one behind the other (what the statement TreeAlike does not use is left out). -/
import Derived.Test.YtocnhaoilnojmaaGreatTAp1
import Derived.Test.YtocnhaoilnojmaaGreatTAp5
import Derived.Test.YtocnhaoilnojmaaGreatTAp4
import Derived.Shelf.SlSortCmp.WholeK
import Derived.Test.YtocnhaoilnojmaaGreatProg
import Derived.Sort.OwnSorted
namespace Go.Proofs.YtocnhaoilnojmaaGreat
open Go Go.RowKit
set_option linter.all false
set_option maxRecDepth 100000
section
variable {w : World}
set_option maxHeartbeats 8000000 in
theorem rdecode_ret (s : Bytes) (hsl : s.length ≤ 140737488355328) (w : World) : Ret Tryz.prog 86 [S s] w fun v w' => Ext w w' ∧ ((∃ n kv vv cv, dec s = some n ∧ v = .tuple #[ndv n kv vv cv, I 0] ∧ NdP w' n kv vv cv ∧ ∀ g, kv.ownBlock = some g ∨ vv.ownBlock = some g ∨ cv.ownBlock = some g → w.heap.size ≤ g) ∨ (dec s = none ∧ v = .tuple #[.agg #[.bool false, .slice none 0 0, .slice none 0 0, .slice none 0 0], I 4])) := by
 have hml : maxLen = 9223372036854775807 := rfl
 refine ret_of_run (e := [(0, _)]) Tryz.func86 rfl Tryz.ntmps86 rfl rfl ?_; refine qN rfl ?_; refine rValP rfl rfl (pal (cs := [_, _, _, _]) ti130 rfl) ?_
 rintro _ w1 ⟨b2, rfl, hb2, hx1, hB2⟩
 have hz1 := hx1.size
 have hl2 := hB2.lt
 have hfail : ∀ {w' w'' : World} {cs : List Value}, Ext w1 w' → Kp (fun i => i = b2) w' w'' → Ext w w'' := fun h k => (hx1.trans h).trans_new k (fun i hi => by omega)
 refine qV (yas rfl) ?_; refine rEnd ?_; refine run_seq ?_; refine run_seq ?_; refine run_cut (fun e' w' => ∃ q : Bool, e' = [(0, S s), (2, ptr b2 0), (29, .bool q)] ∧ w' = w1 ∧ (q = true → dec s = none) ∧ (q = false → sizeOk (s.length : Int))) ?hkq (fun hkq => ?hmainq)
 case hkq =>
  rintro e' w1 ⟨q, rfl, rfl, hq1, hq2⟩
  refine run_cond rfl (fun hq => ?_) (fun hq => ?_)
  ·skip
   refine qN rfl ?_; refine qV (ybd (parts := []) (cs := [_, _, _, _]) ti130 rfl sp130 rfl rfl) ?_; refine rEffP rfl (zstA ti130 rfl rfl rfl rfl hB2 (by simp)) ?_
   rintro w2 ⟨hB3, hk3⟩
   refine qV (yas rfl) ?_; refine rEnd ?_; refine run_retR Tryz.func86 (.cell U130 rfl ti130 rfl (Blk.cells (n := 4) hB3 (news := [_, _, _, _]) rfl) rfl (.tmp rfl .nil)) ?_
   exact ⟨_, rfl, hx1.trans_new hk3 (fun i hi => by omega), .inr ⟨hq1 hq, rfl⟩⟩
  ·skip
   have hz := hq2 hq
   obtain ⟨z1, z2, -⟩ := id hz
   obtain ⟨s1, hs1⟩ : ∃ s1, s.drop 1 = s1 := ⟨_, rfl⟩
   have hs1l : s1.length + 1 = s.length := by rw [← hs1, List.length_drop]; omega
   have hl0 : 511 ≤ s1.length ∧ s1.length ≤ 4095 := by omega
   have e1 : tx 1 s false = (s.take 1, s1, false) := by rw [tx_ok (by omega), hs1]
   have e2 : tx 2 s1 false = (s1.take 2, s1.drop 2, false) := tx_ok (by omega)
   have e3 : tx 4 (s1.drop 2) false = ((s1.drop 2).take 4, (s1.drop 2).drop 4, false) := tx_ok (by rw [List.length_drop]; omega)
   obtain ⟨hLt, hLf⟩ := lg_init hz e1 e2 e3
   have hvx : valB (s.take 1) = (s.getD 0 0).toNat := by
    cases s with
    | nil => simp at hs1l
    | cons a r => simp [valB]
   rw [hvx] at hLt hLf
   have hl2t := tx_le e2
   have hl3t := tx_le e3
   obtain ⟨N, hN⟩ : ∃ N, valB (s1.take 2) = N := ⟨_, rfl⟩
   have hNl : N < 65536 := by
    have := valB_lt (s1.take 2)
    have h2 : 256 ^ (s1.take 2).length ≤ 256 ^ 2 := Nat.pow_le_pow_right (by omega) hl2t.1
    omega
   refine run_skip ?_; refine qN rfl ?_; refine qV (ymv rfl) ?_; refine qV (yixS U9 rfl rfl (by omega)) ?_; refine qV (yeq rfl rfl) ?_
   obtain ⟨lf, hlf⟩ : ∃ lf, decide ((((s.getD 0 0).toNat : Nat) : Int) = 1) = lf := ⟨_, rfl⟩
   rw [hlf]
   refine qV (ybd (parts := [(0, .tmp 33)]) (cs := [_, _, _, _]) ti130 rfl sp130 rfl rfl) ?_; refine rValP rfl rfl (pal (cs := [_, _, _, _]) ti130 rfl) ?_
   rintro _ w3 ⟨b9, rfl, hb9, hx3, hB3⟩
   refine rEffP rfl (zstA ti130 rfl rfl rfl rfl hB3 (by simp)) ?_
   rintro w4 ⟨hB4, hk4⟩
   replace hB4 : Blk w4 b9 [.bool lf, .slice none 0 0, .slice none 0 0, .slice none 0 0] 130 := hB4
   have hx4 : Ext w1 w4 := hx3.trans_new hk4 (fun i hi => by omega)
   have hz4 := hx4.size
   have hN4 : DdN w1 w4 b2 b2 b2 b9 lf [] [] [] (.slice none 0 0) (.slice none 0 0) (.slice none 0 0) := ⟨hB4, Sl.nil _ _ _, Sl.nil _ _ _, Sl.nil _ _ _, fun g hg => by simp [Value.ownBlock] at hg, fun g hg => by simp [Value.ownBlock] at hg, fun g hg => by simp [Value.ownBlock] at hg, ⟨by omega, by omega, by omega, by omega⟩, by omega⟩
   refine qM rfl ?_; refine qV (ymv rfl) ?_; refine qV (yslS U9 rfl rfl rfl (by omega)) ?_
   rw [hs1]
   refine rCall rfl rfl (yc (args := [.tmp 36]) cf114 rfl) (value_ret (s1.take 2) (by omega) w4) ?_
   rintro _ w4 ⟨rfl, rfl⟩
   rw [hN]
   refine qV (yas rfl) ?_; refine qM rfl ?_; refine qV (ymv rfl) ?_; refine qV (yslSf U9 rfl rfl (by omega)) ?_; refine qV (yas rfl) ?_; refine rEnd ?_; refine run_seq ?_; refine qN rfl ?_; refine qV (yfa fl130_0 rfl) ?_; refine qV (yld U4 rfl rfl hB4 rfl) ?_; refine qV ((by first | exact yntd rfl | exact ynt rfl)) ?_; refine rEnd ?_
   rw [show s.drop 3 = s1.drop 2 by rw [← hs1, List.drop_drop]]
   refine run_cut (fun e' w' => ∃ cs cv r, e' = [(0, S s), (2, ptr b2 0), (4, ptr b9 0), (5, I (N : Int)), (6, S r)] ∧ DdN w1 w' b2 b2 b2 b9 lf [] [] cs (.slice none 0 0) (.slice none 0 0) cv ∧ Lg s.length s lf [] [] cs N r false ∧ Ext w1 w' ∧ (∀ c ∈ cs, c < 4294967296) ∧ cs.length ≤ 1 ∧ r.length ≤ s.length) ?hkm (fun hkm => ?hmainm)
   case hkm =>
    rintro e' w5 ⟨cs0, cv0, r0, rfl, hN0, hL0, hx0, hcb0, hcl0, hrl0⟩
    refine run_seq ?_; refine qN rfl ?_; refine qV (yas rfl) ?_; refine rEnd ?_; refine run_block ?_; refine run_cut2 (fun e' w' => ∃ ks vs cs kv vv cv r, e' = [(0, S s), (2, ptr b2 0), (4, ptr b9 0)] ∧ DdN w1 w' b2 b2 b2 b9 lf ks vs cs kv vv cv ∧ Lg s.length s lf ks vs cs 0 r false ∧ Ext w1 w' ∧ Nd.Bd ⟨lf, ks, vs, cs⟩) ?hkx (fun hkx => ?hmainx)
    case hkx =>
     rintro e' w13 ⟨ks, vs, cs, kv, vv, cv, r, rfl, hNn, hL, hx13, hbd⟩
     obtain ⟨ka, kac, hkq, -⟩ := hNn.k.rd.shape
     obtain ⟨va, vac, hvq, -⟩ := hNn.v.rd.shape
     obtain ⟨ca, cac, hcq, -⟩ := hNn.c.rd.shape
     subst hkq
     subst hvq
     subst hcq
     have hBn := hNn.blk
     have hR : NdR w13 ⟨lf, ks, vs, cs⟩ (.slice ka ks.length kac) (.slice va vs.length vac) (.slice ca cs.length cac) := ⟨hNn.k.rd, hNn.v.rd, hNn.c.rd⟩
     refine qN rfl ?_; refine qV (yldA U130 rfl ti130 rfl (Blk.cells (n := 4) hBn (news := [_, _, _, _]) rfl) rfl) ?_; refine qV (ymv rfl) ?_; refine qV (ylnS U9 rfl) ?_; refine rCall rfl rfl (yc (args := [.tmp 137, .tmp 139]) cf116 rfl) (rencode_ret (n := ⟨lf, ks, vs, cs⟩) hR hbd hz) ?_
     rintro vE w14 ⟨hx14, hres⟩
     have hx014 := hx13.trans hx14
     have hBn14 := hx14.blk hBn
     have hN14 := hNn.ext hx14
     obtain ⟨tE, eE, rfl, hEo⟩ : ∃ tE eE, vE = .tuple #[S tE, I eE] ∧ ((NdOk s.length ⟨lf, ks, vs, cs⟩ ∧ tE = enc s.length ⟨lf, ks, vs, cs⟩ ∧ eE = 0) ∨ (¬ NdOk s.length ⟨lf, ks, vs, cs⟩ ∧ eE = 1)) := by
      rcases hres with ⟨h, rfl⟩ | ⟨h, rfl⟩
      ·exact ⟨_, _, rfl, .inl ⟨h, rfl, rfl⟩⟩
      ·exact ⟨_, _, rfl, .inr ⟨h, rfl⟩⟩
     have hno : (eE ≠ 0 ∨ tE ≠ s) → dec s = none := fun h => by
      cases e : dec s with
      | none => rfl
      | some n =>
        obtain ⟨g1, g2⟩ := lg_end rfl hL (.inl rfl) e
        obtain ⟨-, g3, g4⟩ := dec_some.1 e
        subst g2
        rcases hEo with ⟨h1, h2, h3⟩ | ⟨h1, -⟩
        ·rcases h with h | h
         ·exact absurd h3 h
         ·rw [h2] at h; exact absurd g4 h
        ·exact absurd g3.ok h1
     refine qV (ymv rfl) ?_; refine qV (yex rfl rfl) ?_; refine qV (yex rfl rfl) ?_; refine qV (yas rfl) ?_; refine qV (yas rfl) ?_; refine rEnd ?_; refine run_seq ?_; refine run_seq ?_; refine run_cut (fun e' w' => ∃ q : Bool, e' = [(2, ptr b2 0), (4, ptr b9 0), (149, .bool q)] ∧ w' = w14 ∧ (q = true → dec s = none) ∧ (q = false → eE = 0 ∧ tE = s)) ?hky (fun hky => ?hmainy)
     case hky =>
      rintro e' w15 ⟨q, rfl, rfl, hq1, hq2⟩
      have hB2x := hx014.blk hB2
      refine run_cond rfl (fun hq => ?_) (fun hq => ?_)
      ·skip
       refine qN rfl ?_; refine qV (ybd (parts := []) (cs := [_, _, _, _]) ti130 rfl sp130 rfl rfl) ?_; refine rEffP rfl (zstA ti130 rfl rfl rfl rfl hB2x (by simp)) ?_
       rintro w16 ⟨hB16, hk16⟩
       refine qV (yas rfl) ?_; refine rEnd ?_; refine run_retR Tryz.func86 (.cell U130 rfl ti130 rfl (Blk.cells (n := 4) hB16 (news := [_, _, _, _]) rfl) rfl (.tmp rfl .nil)) ?_
       exact ⟨_, rfl, (hx1.trans hx014).trans_new hk16 (fun i hi => by omega), .inr ⟨hq1 hq, rfl⟩⟩
      ·skip
       obtain ⟨g2, g3⟩ := hq2 hq
       refine run_skip ?_; refine qN rfl ?_; refine qV (yldA U130 rfl ti130 rfl (Blk.cells (n := 4) hBn14 (news := [_, _, _, _]) rfl) rfl) ?_; refine rEffP rfl (zstA ti130 rfl rfl rfl rfl hB2x (by simp)) ?_
       rintro w16 ⟨hB16, hk16⟩
       refine qV (yas rfl) ?_; refine rEnd ?_; refine run_retR Tryz.func86 (.cell U130 rfl ti130 rfl (Blk.cells (n := 4) hB16 (news := [_, _, _, _]) rfl) rfl (.tmp rfl .nil)) ?_
       have hdec : dec s = some ⟨lf, ks, vs, cs⟩ := by
        rcases hEo with ⟨h1, h2, h3⟩ | ⟨h1, h3⟩
        ·exact dec_some.2 ⟨hz, ⟨h1, hbd.cs⟩, by rw [← h2]; exact g3⟩
        ·omega
       have hlo : ∀ g, (Value.slice ka ks.length kac).ownBlock = some g ∨ (Value.slice va vs.length vac).ownBlock = some g ∨ (Value.slice ca cs.length cac).ownBlock = some g → w.heap.size ≤ g ∧ g ≠ b2 := fun g hg => by
        have := hNn.low g hg
        omega
       refine ⟨_, rfl, (hx1.trans hx014).trans_new hk16 (fun i hi => by omega), .inl ⟨_, _, _, _, hdec, rfl, ⟨hN14.k.kp hk16 (fun g hg => (hlo g (.inl hg)).2), hN14.v.kp hk16 (fun g hg => (hlo g (.inr (.inl hg))).2), hN14.c.kp hk16 (fun g hg => (hlo g (.inr (.inr hg))).2), hbd, hNn.d2, hNn.d3⟩, fun g hg => (hlo g hg).1⟩⟩
     case hmainy =>
      refine run_reg rfl ?_; refine qV (ymv rfl) ?_; refine qV (yne rfl rfl) ?_; refine rVal_if (fun hb2' => ?_) (fun hb2' => ?_)
      ·skip
       refine qV (ymv rfl) ?_; refine qS ?_; refine qS ?_; refine qS ?_; refine qV (ypT rfl rfl) ?_; refine rEnd ?_
       exact (hky _ _ ⟨true, rfl, rfl, fun _ => hno (.inl hb2'), fun h => Bool.noConfusion h⟩).qb
      ·skip
       refine qV (ymv rfl) ?_; refine qV (ymv rfl) ?_; refine qV (ymv rfl) ?_; refine qV (yneS rfl rfl) ?_; refine qV (ypF rfl rfl) ?_; refine rEnd ?_; refine (hky _ _ ⟨_, rfl, rfl, ?_, ?_⟩).qb
       ·intro h; exact hno (.inr (by simpa using h))
       ·intro h; exact ⟨by omega, by simpa using h⟩
    case hmainx =>
     refine run_loop (α := Nat × Bytes) ((0, r0)) (fun x => [(0, S s), (2, ptr b2 0), (4, ptr b9 0), (5, I (N : Int)), (6, S x.2), (7, I (x.1 : Int))]) (fun x w' => x.1 ≤ N ∧ ∃ ks vs cs kv vv cv, DdN w1 w' b2 b2 b2 b9 lf ks vs cs kv vv cv ∧ Lg s.length s lf ks vs cs (N - x.1) x.2 false ∧ Ext w1 w' ∧ (∀ c ∈ cs, c < 4294967296) ∧ (∀ k ∈ ks, k.length ≤ 4096) ∧ (∀ k ∈ vs, k.length ≤ 4096) ∧ ks.length + (N - x.1) < 65536 ∧ vs.length ≤ ks.length ∧ cs.length ≤ ks.length + 1 ∧ x.2.length ≤ s.length) (fun x => N - x.1) (by repeat (first | exact Sub.nil | refine Sub.cons rfl ?_)) ?hI ?hround
     case hI => exact ⟨Nat.zero_le _, [], [], cs0, _, _, cv0, hN0, hL0, hx0, hcb0, by simp, by simp, by simpa using hNl, by simp, by simpa using hcl0, hrl0⟩
     case hround =>
      rintro ⟨i, r⟩ wi ⟨hi, ks, vs, cs, kv, vv, cv, hNn, hL, hxi, hcb, hkb, hvb, hkl, hvl, hcl, hrl⟩ ih
      dsimp only at hi hL hkl hrl
      have hbdd : Nd.Bd ⟨lf, ks, vs, cs⟩ := ⟨by dsimp only; omega, by dsimp only; omega, by dsimp only; omega, fun k hk => by have := hkb k hk; omega, fun k hk => by have := hvb k hk; omega, hcb⟩
      have hzi := hxi.size
      try dsimp only
      refine run_seq ?_; refine qN rfl ?_; refine qV (ymv rfl) ?_; refine qV (ymv rfl) ?_; refine qV (ylt rfl rfl) ?_; refine rEnd ?_; refine run_if rfl (fun hlt => ?_) (fun hlt => ?_)
      ·skip
       have hi' : i < N := by omega
       obtain ⟨c, hc⟩ : ∃ c, N - i = c + 1 := ⟨N - i - 1, by omega⟩
       have hc2 : N - (i + 1) = c := by omega
       rw [hc] at hL hkl
       refine run_skip ?_; refine run_seq ?_; refine run_block ?_; refine qN rfl ?_; refine qV (ymv rfl) ?_; refine rCall rfl rfl (yc (args := [.tmp 60, .const (Value.int .i64 1)]) cf115 rfl) (take07_ret r 1 wi) ?_
       rintro va wa ⟨hxa, hva⟩
       have hx1a := hxi.trans hxa
       have hNa := hNn.ext hxa
       cases lf with
       | true =>
         rcases take_tx hva with ⟨rfl, ea⟩ | ⟨ta, ra, rfl, ea⟩
         ·skip
          refine qV (ymv rfl) ?_; refine qV (yex rfl rfl) ?_; refine qV (yex rfl rfl) ?_; refine qV (yex rfl rfl) ?_; refine qV (yas rfl) ?_; refine qV (yas rfl) ?_; refine qV (yas rfl) ?_; refine qM rfl ?_; refine qV (yas rfl) ?_; refine rEnd ?_; refine run_seq ?_; refine qN rfl ?_; refine qV (ymv rfl) ?_; refine qV (ymv rfl) ?_; refine qS ?_; refine qS ?_; refine qV (ypF rfl rfl) ?_; refine rEnd ?_; refine run_false rfl ?_; refine run_skip ?_; refine qN rfl ?_; refine qV (yas rfl) ?_; refine rEnd ?_; refine run_seq ?_; refine qN rfl ?_; refine qV (ymv rfl) ?_; refine rEnd ?_
          refine run_false rfl ?_; refine run_skip ?_; refine qN rfl ?_; refine qV (yas rfl) ?_; refine rEnd ?_; refine run_seq ?_; refine qN rfl ?_; refine qV (ymv rfl) ?_; refine qV (ymv rfl) ?_; refine qS ?_; refine qS ?_; refine qV (ypF rfl rfl) ?_; refine rEnd ?_; refine run_false rfl ?_; refine run_skip ?_; refine run_seq ?_; refine qN rfl ?_; refine qV (ymv rfl) ?_; refine qV (ymv rfl) ?_; refine qS ?_; refine qS ?_; refine qS ?_; refine qV (ypF rfl rfl) ?_; refine rEnd ?_; refine run_false rfl ?_; refine run_skip ?_; refine run_seq ?_; refine qN rfl ?_; refine qV (ymv rfl) ?_
          refine qV ((by first | exact yntd rfl | exact ynt rfl)) ?_; refine rEnd ?_; refine run_true rfl ?_; refine qN rfl ?_; refine qV (ybd (parts := []) (cs := [_, _, _, _]) ti130 rfl sp130 rfl rfl) ?_; refine rEffP rfl (zstA ti130 rfl rfl rfl rfl (hx1a.blk hB2) (by simp)) ?_
          rintro wf4 ⟨hBf4, hkf4⟩
          refine qV (yas rfl) ?_; refine rEnd ?_; refine run_retR Tryz.func86 (.cell U130 rfl ti130 rfl (Blk.cells (n := 4) hBf4 (news := [_, _, _, _]) rfl) rfl (.tmp rfl .nil)) ?_
          exact ⟨_, rfl, (hx1.trans hx1a).trans_new hkf4 (fun i hi => by omega), .inr ⟨lg_none_leaf hz rfl hL ea (tx_bad (.inl rfl)) (tx_bad (.inl rfl)) (tx_bad (.inl rfl)), rfl⟩⟩
         ·skip
          have hta := tx_le ea
          have hBa := hNa.blk
          refine qV (ymv rfl) ?_; refine qV (yex (v := S ta) rfl rfl) ?_; refine qV (yex (v := S ra) rfl rfl) ?_; refine qV (yex (v := .bool true) rfl rfl) ?_; refine qV (yas rfl) ?_; refine qV (yas rfl) ?_; refine qV (yas rfl) ?_; refine qM rfl ?_; refine qV (yas rfl) ?_; refine rEnd ?_; refine run_seq ?_; refine qN rfl ?_; refine qV (ymv rfl) ?_; refine qV (ymv rfl) ?_; refine qV (yfa fl130_0 rfl) ?_; refine qV (yld U4 rfl rfl hBa rfl) ?_; refine qV (ypT rfl rfl) ?_; refine rEnd ?_; refine run_true rfl ?_; refine run_reg rfl ?_; refine qV (ymv rfl) ?_
          refine rCall rfl rfl (yc (args := [.tmp 71, .const (Value.int .i64 2)]) cf115 rfl) (take07_ret ra 2 wa) ?_
          rintro vb wb ⟨hxb, hvb'⟩
          rcases take_tx hvb' with ⟨rfl, eb⟩ | ⟨tb, rb, rfl, eb⟩
          ·skip
           refine qV (ymv rfl) ?_; refine qV (yex rfl rfl) ?_; refine qV (yex rfl rfl) ?_; refine qV (yex rfl rfl) ?_; refine qV (yas rfl) ?_; refine qV (yas rfl) ?_; refine qV (yas rfl) ?_; refine qM rfl ?_; refine qV (yas rfl) ?_; refine rEnd ?_; refine run_seq ?_; refine qN rfl ?_; refine qV (ymv rfl) ?_; refine rEnd ?_; refine run_false rfl ?_; refine run_skip ?_; refine qN rfl ?_; refine qV (yas rfl) ?_; refine rEnd ?_; refine run_seq ?_; refine qN rfl ?_; refine qV (ymv rfl) ?_; refine qV (ymv rfl) ?_; refine qS ?_; refine qS ?_; refine qV (ypF rfl rfl) ?_; refine rEnd ?_
           refine run_false rfl ?_; refine run_skip ?_; refine run_seq ?_; refine qN rfl ?_; refine qV (ymv rfl) ?_; refine qV (ymv rfl) ?_; refine qS ?_; refine qS ?_; refine qS ?_; refine qV (ypF rfl rfl) ?_; refine rEnd ?_; refine run_false rfl ?_; refine run_skip ?_; refine run_seq ?_; refine qN rfl ?_; refine qV (ymv rfl) ?_; refine qV ((by first | exact yntd rfl | exact ynt rfl)) ?_; refine rEnd ?_; refine run_true rfl ?_; refine qN rfl ?_; refine qV (ybd (parts := []) (cs := [_, _, _, _]) ti130 rfl sp130 rfl rfl) ?_
           refine rEffP rfl (zstA ti130 rfl rfl rfl rfl ((hx1a.trans hxb).blk hB2) (by simp)) ?_
           rintro wf3 ⟨hBf3, hkf3⟩
           refine qV (yas rfl) ?_; refine rEnd ?_; refine run_retR Tryz.func86 (.cell U130 rfl ti130 rfl (Blk.cells (n := 4) hBf3 (news := [_, _, _, _]) rfl) rfl (.tmp rfl .nil)) ?_
           exact ⟨_, rfl, (hx1.trans (hx1a.trans hxb)).trans_new hkf3 (fun i hi => by omega), .inr ⟨lg_none_leaf hz rfl hL ea eb (tx_bad (.inl rfl)) (tx_bad (.inl rfl)), rfl⟩⟩
          ·skip
           have htb := tx_le eb
           have hx1b := hx1a.trans hxb
           have hNb := hNa.ext hxb
           refine qV (ymv rfl) ?_; refine qV (yex (v := S tb) rfl rfl) ?_; refine qV (yex (v := S rb) rfl rfl) ?_; refine qV (yex (v := .bool true) rfl rfl) ?_; refine qV (yas rfl) ?_; refine qV (yas rfl) ?_; refine qV (yas rfl) ?_; refine qM rfl ?_; refine qV (yas rfl) ?_; refine rEnd ?_; refine run_seq ?_; refine qN rfl ?_; refine qV (ymv rfl) ?_; refine rEnd ?_; refine run_true rfl ?_; refine run_reg rfl ?_; refine qV (ymv rfl) ?_; refine qV (ymv rfl) ?_; refine rCall rfl rfl (yc (args := [.tmp 79]) cf114 rfl) (value_ret ta (by omega) _) ?_
           rintro _ wb ⟨rfl, rfl⟩
           refine rCall rfl rfl (yc (args := [.tmp 78, .tmp 80]) cf115 rfl) (take07_ret rb (valB ta) wb) ?_
           rintro vc wc ⟨hxc, hvc⟩
           rcases take_tx hvc with ⟨rfl, ec⟩ | ⟨tc, rc, rfl, ec⟩
           ·skip
            refine qV (ymv rfl) ?_; refine qV (yex rfl rfl) ?_; refine qV (yex rfl rfl) ?_; refine qV (yex rfl rfl) ?_; refine qV (yas rfl) ?_; refine qV (yas rfl) ?_; refine qV (yas rfl) ?_; refine qM rfl ?_; refine qV (yas rfl) ?_; refine rEnd ?_; refine run_seq ?_; refine qN rfl ?_; refine qV (ymv rfl) ?_; refine qV (ymv rfl) ?_; refine qS ?_; refine qS ?_; refine qV (ypF rfl rfl) ?_; refine rEnd ?_; refine run_false rfl ?_; refine run_skip ?_; refine run_seq ?_; refine qN rfl ?_; refine qV (ymv rfl) ?_; refine qV (ymv rfl) ?_; refine qS ?_; refine qS ?_; refine qS ?_
            refine qV (ypF rfl rfl) ?_; refine rEnd ?_; refine run_false rfl ?_; refine run_skip ?_; refine run_seq ?_; refine qN rfl ?_; refine qV (ymv rfl) ?_; refine qV ((by first | exact yntd rfl | exact ynt rfl)) ?_; refine rEnd ?_; refine run_true rfl ?_; refine qN rfl ?_; refine qV (ybd (parts := []) (cs := [_, _, _, _]) ti130 rfl sp130 rfl rfl) ?_; refine rEffP rfl (zstA ti130 rfl rfl rfl rfl ((hx1b.trans hxc).blk hB2) (by simp)) ?_
            rintro wf2 ⟨hBf2, hkf2⟩
            refine qV (yas rfl) ?_; refine rEnd ?_; refine run_retR Tryz.func86 (.cell U130 rfl ti130 rfl (Blk.cells (n := 4) hBf2 (news := [_, _, _, _]) rfl) rfl (.tmp rfl .nil)) ?_
            exact ⟨_, rfl, (hx1.trans (hx1b.trans hxc)).trans_new hkf2 (fun i hi => by omega), .inr ⟨lg_none_leaf hz rfl hL ea eb ec (tx_bad (.inl rfl)), rfl⟩⟩
           ·skip
            have htc := tx_le ec
            have hx1c := hx1b.trans hxc
            have hNc := hNb.ext hxc
            have hBc := hNc.blk
            refine qV (ymv rfl) ?_; refine qV (yex (v := S tc) rfl rfl) ?_; refine qV (yex (v := S rc) rfl rfl) ?_; refine qV (yex (v := .bool true) rfl rfl) ?_; refine qV (yas rfl) ?_; refine qV (yas rfl) ?_; refine qV (yas rfl) ?_; refine qM rfl ?_; refine qV (yas rfl) ?_; refine rEnd ?_; refine run_seq ?_; refine qN rfl ?_; refine qV (ymv rfl) ?_; refine qV (ymv rfl) ?_; refine qV (yfa fl130_0 rfl) ?_; refine qV (yld U4 rfl rfl hBc rfl) ?_; refine qV (ypT rfl rfl) ?_; refine rEnd ?_; refine run_true rfl ?_; refine run_reg rfl ?_; refine qV (ymv rfl) ?_; refine qV (ymv rfl) ?_
            refine rCall rfl rfl (yc (args := [.tmp 92]) cf114 rfl) (value_ret tb (by omega) _) ?_
            rintro _ wc ⟨rfl, rfl⟩
            refine rCall rfl rfl (yc (args := [.tmp 91, .tmp 93]) cf115 rfl) (take07_ret rc (valB tb) wc) ?_
            rintro vd wd ⟨hxd, hvd⟩
            rcases take_tx hvd with ⟨rfl, ed⟩ | ⟨td, rd, rfl, ed⟩
            ·skip
             refine qV (ymv rfl) ?_; refine qV (yex rfl rfl) ?_; refine qV (yex rfl rfl) ?_; refine qV (yex rfl rfl) ?_; refine qV (yas rfl) ?_; refine qV (yas rfl) ?_; refine qV (yas rfl) ?_; refine rEnd ?_; refine run_seq ?_; refine qN rfl ?_; refine qV (ymv rfl) ?_; refine qV (ymv rfl) ?_; refine qS ?_; refine qS ?_; refine qS ?_; refine qV (ypF rfl rfl) ?_; refine rEnd ?_; refine run_false rfl ?_; refine run_skip ?_; refine run_seq ?_; refine qN rfl ?_; refine qV (ymv rfl) ?_; refine qV ((by first | exact yntd rfl | exact ynt rfl)) ?_; refine rEnd ?_; refine run_true rfl ?_
             refine qN rfl ?_; refine qV (ybd (parts := []) (cs := [_, _, _, _]) ti130 rfl sp130 rfl rfl) ?_; refine rEffP rfl (zstA ti130 rfl rfl rfl rfl ((hx1c.trans hxd).blk hB2) (by simp)) ?_
             rintro wf1 ⟨hBf1, hkf1⟩
             refine qV (yas rfl) ?_; refine rEnd ?_; refine run_retR Tryz.func86 (.cell U130 rfl ti130 rfl (Blk.cells (n := 4) hBf1 (news := [_, _, _, _]) rfl) rfl (.tmp rfl .nil)) ?_
             exact ⟨_, rfl, (hx1.trans (hx1c.trans hxd)).trans_new hkf1 (fun i hi => by omega), .inr ⟨lg_none_leaf hz rfl hL ea eb ec ed, rfl⟩⟩
            ·skip
             have htd := tx_le ed
             have hx1d := hx1c.trans hxd
             have hNd := hNc.ext hxd
             have hBd := hNd.blk
             have hzd := hx1d.size
             refine qV (ymv rfl) ?_; refine qV (yex (v := S td) rfl rfl) ?_; refine qV (yex (v := S rd) rfl rfl) ?_; refine qV (yex (v := .bool true) rfl rfl) ?_; refine qV (yas rfl) ?_; refine qV (yas rfl) ?_; refine qV (yas rfl) ?_; refine rEnd ?_; refine run_seq ?_; refine qN rfl ?_; refine qV (ymv rfl) ?_; refine qV (ymv rfl) ?_; refine qV (yfa fl130_0 rfl) ?_; refine qV (yld U4 rfl rfl hBd rfl) ?_; refine qV ((by first | exact yntd rfl | exact ynt rfl)) ?_; refine qV (ypT rfl rfl) ?_; refine rEnd ?_; refine run_false rfl ?_; refine run_skip ?_; refine run_seq ?_
             refine qN rfl ?_; refine qV (ymv rfl) ?_; refine qV ((by first | exact yntd rfl | exact ynt rfl)) ?_; refine rEnd ?_; refine run_false rfl ?_; refine run_skip ?_; refine qN rfl ?_; refine qV (ymv rfl) ?_; refine qV (yas rfl) ?_; refine qM rfl ?_; refine qV (yfa fl130_1 rfl) ?_; refine qV (yld U23 rfl rfl hBd rfl) ?_; refine qV (ymv rfl) ?_; refine rValP rfl rfl (pbs (parts := [(0, .tmp 116)]) (cs := [_]) (zs := [Value.string ⟨#[]⟩]) U23 ti9 rfl (by kernel_rfl) rfl rfl rfl (by decide)) ?_
             rintro _ w30 ⟨bq30, rfl, ⟨hbq30, hxq30, hBq30⟩, hSq30⟩
             refine rValP rfl rfl (pap U23 ti9 rfl (by decide) rfl rfl (hNd.k.ext hxq30) hSq30.rd (by intro c hc; simp at hc; subst hc; rfl) (by omega) (by omega)) ?_
             rintro u30 w31 ⟨hSu30, hku30, hou30, -⟩
             have hBu30 := hku30.blk (hxq30.blk hNd.blk) (fun e => (hNd.low _ (.inl e)).2.2.2.2 rfl)
             refine qV (yfa fl130_1 rfl) ?_; refine rEffP rfl (zst ti23 rfl rfl (oneV_sl hSu30) hBu30 (by simp)) ?_
             rintro w32 ⟨hBz30, hkz30⟩
             have hzq30 := hx1d.size
             have hA30 : Sl w31 u30 9 1 (ks ++ [tc]).length ((ks ++ [tc]).map S) := by rw [List.length_append, List.map_append]; exact hSu30
             have hB30 := DdN.pushK (w4 := w32) (x := tc) hzq30 hNd hxq30 hA30 hku30 hou30
             have hC30 := hB30 hBz30 hkz30
             obtain ⟨hNz30, hkk30⟩ := hC30
             have hxz30 : Ext w1 w32 := hx1d.trans_new hkk30 (fun i hi => hi.elim (fun e => by have := hNd.n9.1; omega) (fun e => (hNd.low i (.inl e)).1))
             have hzz30 := hxz30.size
             have hBz' := hNz30.blk
             refine qM rfl ?_; refine qV (yfa fl130_0 rfl) ?_; refine qV (yld U4 rfl rfl hBz' rfl) ?_; refine rEnd ?_; refine run_true rfl ?_; refine run_reg rfl ?_; refine qV (yfa fl130_2 rfl) ?_; refine qV (yld U23 rfl rfl hBz' rfl) ?_; refine qV (ymv rfl) ?_; refine rValP rfl rfl (pbs (parts := [(0, .tmp 124)]) (cs := [_]) (zs := [Value.string ⟨#[]⟩]) U23 ti9 rfl (by kernel_rfl) rfl rfl rfl (by decide)) ?_
             rintro _ w40 ⟨bq40, rfl, ⟨hbq40, hxq40, hBq40⟩, hSq40⟩
             refine rValP rfl rfl (pap U23 ti9 rfl (by decide) rfl rfl (hNz30.v.ext hxq40) hSq40.rd (by intro c hc; simp at hc; subst hc; rfl) (by omega) (by omega)) ?_
             rintro u40 w41 ⟨hSu40, hku40, hou40, -⟩
             have hBu40 := hku40.blk (hxq40.blk hNz30.blk) (fun e => (hNz30.low _ (.inr (.inl e))).2.2.2.2 rfl)
             refine qV (yfa fl130_2 rfl) ?_; refine rEffP rfl (zst ti23 rfl rfl (oneV_sl hSu40) hBu40 (by simp)) ?_
             rintro w42 ⟨hBz40, hkz40⟩
             have hzq40 := hxz30.size
             have hA40 : Sl w41 u40 9 1 (vs ++ [td]).length ((vs ++ [td]).map S) := by rw [List.length_append, List.map_append]; exact hSu40
             have hB40 := DdN.pushV (w4 := w42) (x := td) hzq40 hNz30 hxq40 hA40 hku40 hou40
             have hC40 := hB40 hBz40 hkz40
             obtain ⟨hNz40, hkk40⟩ := hC40
             have hxz40 : Ext w1 w42 := hxz30.trans_new hkk40 (fun i hi => hi.elim (fun e => by have := hNz30.n9.1; omega) (fun e => (hNz30.low i (.inr (.inl e))).1))
             have hzz40 := hxz40.size
             refine rEnd ?_; refine run_inBlock ?_; refine run_reg rfl ?_; refine qV (ymv rfl) ?_; refine qV (yad rfl rfl (by omega)) ?_; refine qV (yas rfl) ?_; refine rEnd ?_; refine (ih (i + 1, rd) w42 ⟨by dsimp only; omega, _, _, _, _, _, _, hNz40, by dsimp only; rw [hc2]; exact lg_leaf hz hL ea eb ec ed, hxz40, hcb, fun k hk => ?_, fun k hk => ?_, ?_, ?_, ?_, by dsimp only; omega⟩ (by dsimp only; omega)).qb
             ·rcases List.mem_append.1 hk with hk | hk
              ·exact hkb k hk
              ·simp at hk; subst hk; omega
             ·rcases List.mem_append.1 hk with hk | hk
              ·exact hvb k hk
              ·simp at hk; subst hk; omega
             ·simp; omega
             ·simp; omega
             ·simp; omega
       | false =>
         rcases take_tx hva with ⟨rfl, ea⟩ | ⟨ta, ra, rfl, ea⟩
         ·skip
          refine qV (ymv rfl) ?_; refine qV (yex rfl rfl) ?_; refine qV (yex rfl rfl) ?_; refine qV (yex rfl rfl) ?_; refine qV (yas rfl) ?_; refine qV (yas rfl) ?_; refine qV (yas rfl) ?_; refine qM rfl ?_; refine qV (yas rfl) ?_; refine rEnd ?_; refine run_seq ?_; refine qN rfl ?_; refine qV (ymv rfl) ?_; refine qV (ymv rfl) ?_; refine qS ?_; refine qS ?_; refine qV (ypF rfl rfl) ?_; refine rEnd ?_; refine run_false rfl ?_; refine run_skip ?_; refine qN rfl ?_; refine qV (yas rfl) ?_; refine rEnd ?_; refine run_seq ?_; refine qN rfl ?_; refine qV (ymv rfl) ?_; refine rEnd ?_
          refine run_false rfl ?_; refine run_skip ?_; refine qN rfl ?_; refine qV (yas rfl) ?_; refine rEnd ?_; refine run_seq ?_; refine qN rfl ?_; refine qV (ymv rfl) ?_; refine qV (ymv rfl) ?_; refine qS ?_; refine qS ?_; refine qV (ypF rfl rfl) ?_; refine rEnd ?_; refine run_false rfl ?_; refine run_skip ?_; refine run_seq ?_; refine qN rfl ?_; refine qV (ymv rfl) ?_; refine qV (ymv rfl) ?_; refine qS ?_; refine qS ?_; refine qS ?_; refine qV (ypF rfl rfl) ?_; refine rEnd ?_; refine run_false rfl ?_; refine run_skip ?_; refine run_seq ?_; refine qN rfl ?_; refine qV (ymv rfl) ?_
          refine qV ((by first | exact yntd rfl | exact ynt rfl)) ?_; refine rEnd ?_; refine run_true rfl ?_; refine qN rfl ?_; refine qV (ybd (parts := []) (cs := [_, _, _, _]) ti130 rfl sp130 rfl rfl) ?_; refine rEffP rfl (zstA ti130 rfl rfl rfl rfl (hx1a.blk hB2) (by simp)) ?_
          rintro wf7 ⟨hBf7, hkf7⟩
          refine qV (yas rfl) ?_; refine rEnd ?_; refine run_retR Tryz.func86 (.cell U130 rfl ti130 rfl (Blk.cells (n := 4) hBf7 (news := [_, _, _, _]) rfl) rfl (.tmp rfl .nil)) ?_
          exact ⟨_, rfl, (hx1.trans hx1a).trans_new hkf7 (fun i hi => by omega), .inr ⟨lg_none_inn hz rfl hL ea (tx_bad (.inl rfl)) (tx_bad (.inl rfl)), rfl⟩⟩
         ·skip
          have hta := tx_le ea
          have hBa := hNa.blk
          refine qV (ymv rfl) ?_; refine qV (yex (v := S ta) rfl rfl) ?_; refine qV (yex (v := S ra) rfl rfl) ?_; refine qV (yex (v := .bool true) rfl rfl) ?_; refine qV (yas rfl) ?_; refine qV (yas rfl) ?_; refine qV (yas rfl) ?_; refine qM rfl ?_; refine qV (yas rfl) ?_; refine rEnd ?_; refine run_seq ?_; refine qN rfl ?_; refine qV (ymv rfl) ?_; refine qV (ymv rfl) ?_; refine qV (yfa fl130_0 rfl) ?_; refine qV (yld U4 rfl rfl hBa rfl) ?_; refine qV (ypT rfl rfl) ?_; refine rEnd ?_; refine run_false rfl ?_; refine run_skip ?_; refine qN rfl ?_; refine qV (yas rfl) ?_; refine rEnd ?_
          refine run_seq ?_; refine qN rfl ?_; refine qV (ymv rfl) ?_; refine rEnd ?_; refine run_true rfl ?_; refine run_reg rfl ?_; refine qV (ymv rfl) ?_; refine qV (ymv rfl) ?_; refine rCall rfl rfl (yc (args := [.tmp 79]) cf114 rfl) (value_ret ta (by omega) _) ?_
          rintro _ wa ⟨rfl, rfl⟩
          refine rCall rfl rfl (yc (args := [.tmp 78, .tmp 80]) cf115 rfl) (take07_ret ra (valB ta) wa) ?_
          rintro vb wb ⟨hxb, hvb'⟩
          rcases take_tx hvb' with ⟨rfl, eb⟩ | ⟨tb, rb, rfl, eb⟩
          ·skip
           refine qV (ymv rfl) ?_; refine qV (yex rfl rfl) ?_; refine qV (yex rfl rfl) ?_; refine qV (yex rfl rfl) ?_; refine qV (yas rfl) ?_; refine qV (yas rfl) ?_; refine qV (yas rfl) ?_; refine qM rfl ?_; refine qV (yas rfl) ?_; refine rEnd ?_; refine run_seq ?_; refine qN rfl ?_; refine qV (ymv rfl) ?_; refine qV (ymv rfl) ?_; refine qS ?_; refine qS ?_; refine qV (ypF rfl rfl) ?_; refine rEnd ?_; refine run_false rfl ?_; refine run_skip ?_; refine run_seq ?_; refine qN rfl ?_; refine qV (ymv rfl) ?_; refine qV (ymv rfl) ?_; refine qS ?_; refine qS ?_; refine qS ?_
           refine qV (ypF rfl rfl) ?_; refine rEnd ?_; refine run_false rfl ?_; refine run_skip ?_; refine run_seq ?_; refine qN rfl ?_; refine qV (ymv rfl) ?_; refine qV ((by first | exact yntd rfl | exact ynt rfl)) ?_; refine rEnd ?_; refine run_true rfl ?_; refine qN rfl ?_; refine qV (ybd (parts := []) (cs := [_, _, _, _]) ti130 rfl sp130 rfl rfl) ?_; refine rEffP rfl (zstA ti130 rfl rfl rfl rfl ((hx1a.trans hxb).blk hB2) (by simp)) ?_
           rintro wf6 ⟨hBf6, hkf6⟩
           refine qV (yas rfl) ?_; refine rEnd ?_; refine run_retR Tryz.func86 (.cell U130 rfl ti130 rfl (Blk.cells (n := 4) hBf6 (news := [_, _, _, _]) rfl) rfl (.tmp rfl .nil)) ?_
           exact ⟨_, rfl, (hx1.trans (hx1a.trans hxb)).trans_new hkf6 (fun i hi => by omega), .inr ⟨lg_none_inn hz rfl hL ea eb (tx_bad (.inl rfl)), rfl⟩⟩
          ·skip
           have htb := tx_le eb
           have hx1b := hx1a.trans hxb
           have hNb := hNa.ext hxb
           have hBb := hNb.blk
           refine qV (ymv rfl) ?_; refine qV (yex (v := S tb) rfl rfl) ?_; refine qV (yex (v := S rb) rfl rfl) ?_; refine qV (yex (v := .bool true) rfl rfl) ?_; refine qV (yas rfl) ?_; refine qV (yas rfl) ?_; refine qV (yas rfl) ?_; refine qM rfl ?_; refine qV (yas rfl) ?_; refine rEnd ?_; refine run_seq ?_; refine qN rfl ?_; refine qV (ymv rfl) ?_; refine qV (ymv rfl) ?_; refine qV (yfa fl130_0 rfl) ?_; refine qV (yld U4 rfl rfl hBb rfl) ?_; refine qV (ypT rfl rfl) ?_; refine rEnd ?_; refine run_false rfl ?_; refine run_skip ?_; refine run_seq ?_; refine qN rfl ?_
           refine qV (ymv rfl) ?_; refine qV (ymv rfl) ?_; refine qV (yfa fl130_0 rfl) ?_; refine qV (yld U4 rfl rfl hBb rfl) ?_; refine qV ((by first | exact yntd rfl | exact ynt rfl)) ?_; refine qV (ypT rfl rfl) ?_; refine rEnd ?_; refine run_true rfl ?_; refine run_reg rfl ?_; refine qV (ymv rfl) ?_; refine rCall rfl rfl (yc (args := [.tmp 105, .const (Value.int .i64 4)]) cf115 rfl) (take07_ret rb 4 wb) ?_
           rintro vc wc ⟨hxc, hvc⟩
           rcases take_tx hvc with ⟨rfl, ec⟩ | ⟨tc, rc, rfl, ec⟩
           ·skip
            refine qV (ymv rfl) ?_; refine qV (yex rfl rfl) ?_; refine qV (yex rfl rfl) ?_; refine qV (yex rfl rfl) ?_; refine qV (yas rfl) ?_; refine qV (yas rfl) ?_; refine qV (yas rfl) ?_; refine rEnd ?_; refine run_seq ?_; refine qN rfl ?_; refine qV (ymv rfl) ?_; refine qV ((by first | exact yntd rfl | exact ynt rfl)) ?_; refine rEnd ?_; refine run_true rfl ?_; refine qN rfl ?_; refine qV (ybd (parts := []) (cs := [_, _, _, _]) ti130 rfl sp130 rfl rfl) ?_; refine rEffP rfl (zstA ti130 rfl rfl rfl rfl ((hx1b.trans hxc).blk hB2) (by simp)) ?_
            rintro wf5 ⟨hBf5, hkf5⟩
            refine qV (yas rfl) ?_; refine rEnd ?_; refine run_retR Tryz.func86 (.cell U130 rfl ti130 rfl (Blk.cells (n := 4) hBf5 (news := [_, _, _, _]) rfl) rfl (.tmp rfl .nil)) ?_
            exact ⟨_, rfl, (hx1.trans (hx1b.trans hxc)).trans_new hkf5 (fun i hi => by omega), .inr ⟨lg_none_inn hz rfl hL ea eb ec, rfl⟩⟩
           ·skip
            have htc := tx_le ec
            have hx1c := hx1b.trans hxc
            have hNc := hNb.ext hxc
            have hBc := hNc.blk
            have hzc := hx1c.size
            have hvcc : valB tc < 4294967296 := Nat.lt_of_lt_of_le (valB_lt tc) (by
             have : 256 ^ tc.length ≤ 256 ^ 4 := Nat.pow_le_pow_right (by omega) htc.1
             omega)
            refine qV (ymv rfl) ?_; refine qV (yex (v := S tc) rfl rfl) ?_; refine qV (yex (v := S rc) rfl rfl) ?_; refine qV (yex (v := .bool true) rfl rfl) ?_; refine qV (yas rfl) ?_; refine qV (yas rfl) ?_; refine qV (yas rfl) ?_; refine rEnd ?_; refine run_seq ?_; refine qN rfl ?_; refine qV (ymv rfl) ?_; refine qV ((by first | exact yntd rfl | exact ynt rfl)) ?_; refine rEnd ?_; refine run_false rfl ?_; refine run_skip ?_; refine qN rfl ?_; refine qV (ymv rfl) ?_; refine qV (yas rfl) ?_; refine qM rfl ?_; refine qV (yfa fl130_1 rfl) ?_; refine qV (yld U23 rfl rfl hBc rfl) ?_
            refine qV (ymv rfl) ?_; refine rValP rfl rfl (pbs (parts := [(0, .tmp 116)]) (cs := [_]) (zs := [Value.string ⟨#[]⟩]) U23 ti9 rfl (by kernel_rfl) rfl rfl rfl (by decide)) ?_
            rintro _ w30 ⟨bq30, rfl, ⟨hbq30, hxq30, hBq30⟩, hSq30⟩
            refine rValP rfl rfl (pap U23 ti9 rfl (by decide) rfl rfl (hNc.k.ext hxq30) hSq30.rd (by intro c hc; simp at hc; subst hc; rfl) (by omega) (by omega)) ?_
            rintro u30 w31 ⟨hSu30, hku30, hou30, -⟩
            have hBu30 := hku30.blk (hxq30.blk hNc.blk) (fun e => (hNc.low _ (.inl e)).2.2.2.2 rfl)
            refine qV (yfa fl130_1 rfl) ?_; refine rEffP rfl (zst ti23 rfl rfl (oneV_sl hSu30) hBu30 (by simp)) ?_
            rintro w32 ⟨hBz30, hkz30⟩
            have hzq30 := hx1c.size
            have hA30 : Sl w31 u30 9 1 (ks ++ [tb]).length ((ks ++ [tb]).map S) := by rw [List.length_append, List.map_append]; exact hSu30
            have hB30 := DdN.pushK (w4 := w32) (x := tb) hzq30 hNc hxq30 hA30 hku30 hou30
            have hC30 := hB30 hBz30 hkz30
            obtain ⟨hNz30, hkk30⟩ := hC30
            have hxz30 : Ext w1 w32 := hx1c.trans_new hkk30 (fun i hi => hi.elim (fun e => by have := hNc.n9.1; omega) (fun e => (hNc.low i (.inl e)).1))
            have hzz30 := hxz30.size
            have hBz' := hNz30.blk
            refine qM rfl ?_; refine qV (yfa fl130_0 rfl) ?_; refine qV (yld U4 rfl rfl hBz' rfl) ?_; refine rEnd ?_; refine run_false rfl ?_
            have hg : Ext w32 w32.drew := Ext.drew0 w32
            refine run_drawL [6,8] (fun w' => Ext w32 w') (by kernel_rfl) rfl ?_; refine qL [1, 6, 7, 8] 0 rfl (fun _ hS => yfa fl130_3 rfl) (hg) ?_; refine qL [6, 7, 8] 1 rfl (fun _ hS => yld U82 rfl rfl (hS.blk hBz') rfl) (hg) ?_; refine qL [3, 4, 5, 6, 7, 8] 2 rfl (fun _ hS => ymv rfl) (hg) ?_; refine hOneL (i := 3) (by kernel_rfl) ?_; refine nCallL (i := 3) rfl rfl rfl (yc (args := [.tmp 130]) cf114 rfl) (value_ret tc htc.1 _) ?_
            rintro _ w35 ⟨rfl, hw35⟩
            refine ⟨(by rw [hw35]; exact hg), ?_⟩
            have hg35 : Ext w32 w35 := by rw [hw35]; exact hg
            have hN35 := hNz30.ext hg35
            refine qL [5, 6, 7, 8] 4 rfl (fun _ hS => ycv32 rfl U3 U89) ((by rw [hw35]; exact hg)) ?_
            have hmd : valB tc % 4294967296 = valB tc := Nat.mod_eq_of_lt hvcc
            simp only [hmd]
            refine hOneL (i := 5) (by kernel_rfl) ?_; refine nValPL (i := 5) rfl rfl rfl (pbs (parts := [(0, .tmp 132)]) (cs := [_]) (zs := [Value.int .u32 0]) U82 ti89 rfl (by kernel_rfl) rfl rfl rfl (by decide)) ?_
            rintro _ w36 ⟨b36, rfl, ⟨hb36, hx36, hB36⟩, hS36⟩
            refine ⟨hg35.trans hx36, ?_⟩
            refine hLate [6] (by kernel_rfl) (by kernel_rfl) ?_; refine qO 6 ?_; refine nValP (i := 6) rfl rfl rfl (pap U82 ti89 rfl (by decide) rfl rfl (hN35.c.ext hx36) hS36.rd (by intro c hc; simp at hc; subst hc; rfl) (by omega) (by omega)) ?_
            rintro u37 w37 ⟨hS37, hk37, ho37, -⟩
            refine ⟨trivial, ?_⟩
            have hBu37 := hk37.blk (hx36.blk hN35.blk) (fun e => (hN35.low _ (.inr (.inr e))).2.2.2.2 rfl)
            refine qT 7 rfl (fun _ hS => yfa fl130_3 rfl) (trivial) ?_; refine qO 8 ?_; refine nEffP (i := 8) rfl rfl (zst ti82 rfl rfl (oneV_sl hS37) hBu37 (by simp)) ?_
            rintro w38 ⟨hB38, hk38⟩
            refine ⟨trivial, ?_⟩
            have hz35 := hg35.size
            have hA40 : Sl w37 u37 89 1 (cs ++ [valB tc]).length ((cs ++ [valB tc]).map u32v) := by rw [List.length_append, List.map_append]; exact hS37
            have hz135 : w1.heap.size ≤ w35.heap.size := by omega
            have hB40 := DdN.pushC (w4 := w38) (x := valB tc) hz135 hN35 hx36 hA40 hk37 ho37
            have hC40 := hB40 hB38 hk38
            obtain ⟨hNz40, hkk40⟩ := hC40
            have hxz40 : Ext w1 w38 := (hxz30.trans hg35).trans_new hkk40 (fun i hi => hi.elim (fun e => by have := hN35.n9.1; omega) (fun e => (hN35.low i (.inr (.inr e))).1))
            refine qE ?_; refine run_inBlock ?_; refine run_reg rfl ?_; refine qV (ymv rfl) ?_; refine qV (yad rfl rfl (by omega)) ?_; refine qV (yas rfl) ?_; refine rEnd ?_; refine (ih (i + 1, rc) w38 ⟨by dsimp only; omega, _, _, _, _, _, _, hNz40, by dsimp only; rw [hc2]; exact lg_inn hz hL ea eb ec, hxz40, fun k hk => ?_, fun k hk => ?_, hvb, ?_, ?_, ?_, by dsimp only; omega⟩ (by dsimp only; omega)).qb
            ·rcases List.mem_append.1 hk with hk | hk
             ·exact hcb k hk
             ·simp at hk; subst hk; omega
            ·rcases List.mem_append.1 hk with hk | hk
             ·exact hkb k hk
             ·simp at hk; subst hk; omega
            ·simp; omega
            ·simp; omega
            ·simp; omega
      ·skip
       have : i = N := by omega
       subst this
       rw [Nat.sub_self] at hL
       refine run_exit rfl ?_
       exact (hkx _ _ ⟨_, _, _, _, _, _, _, rfl, hNn, hL, hxi, hbdd⟩).qb
   case hmainm =>
    cases lf with
    | true =>
      have hv1 : (s.getD 0 0).toNat = 1 := by have := of_decide_eq_true hlf; omega
      refine run_false rfl ?_; refine run_skip ?_
      exact (hkm _ _ ⟨[], _, s1.drop 2, rfl, hN4, by rw [← hN]; exact hLt hv1, hx4, by simp, by simp, by omega⟩).qb
    | false =>
      have hv1 : (s.getD 0 0).toNat ≠ 1 := fun e => of_decide_eq_false hlf (by omega)
      have hd2 : (s1.drop 2).length + 2 = s1.length := by rw [List.length_drop]; omega
      have hvc : valB ((s1.drop 2).take 4) < 4294967296 := Nat.lt_of_lt_of_le (valB_lt _) (by
       have : 256 ^ ((s1.drop 2).take 4).length ≤ 256 ^ 4 := Nat.pow_le_pow_right (by omega) hl3t.1
       omega)
      have hnil : ([] : List Nat).length = 0 := rfl
      have hg : Ext w4 w4.drew := Ext.drew0 w4
      refine run_true rfl ?_; refine run_seq ?_; refine run_drawL [7,9] (fun w' => Ext w4 w') (by kernel_rfl) rfl ?_; refine qL [1, 7, 8, 9] 0 rfl (fun _ hS => yfa fl130_3 rfl) (hg) ?_; refine qL [7, 8, 9] 1 rfl (fun _ hS => yld U82 rfl rfl (hS.blk hB4) rfl) (hg) ?_; refine qL [3, 4, 5, 6, 7, 8, 9] 2 rfl (fun _ hS => ymv rfl) (hg) ?_; refine qL [4, 5, 6, 7, 8, 9] 3 rfl (fun _ hS => yslSt U9 rfl rfl (by omega)) (hg) ?_; refine hOneL (i := 4) (by kernel_rfl) ?_; refine nCallL (i := 4) rfl rfl rfl (yc (args := [.tmp 46]) cf114 rfl) (value_ret ((s1.drop 2).take 4) hl3t.1 _) ?_
      rintro _ w5 ⟨rfl, hw5⟩
      refine ⟨(by rw [hw5]; exact hg), ?_⟩
      have hg5 : Ext w4 w5 := by rw [hw5]; exact hg
      have hN5 := hN4.ext hg5
      refine qL [6, 7, 8, 9] 5 rfl (fun _ hS => ycv32 rfl U3 U89) ((by rw [hw5]; exact hg)) ?_
      rw [Nat.mod_eq_of_lt hvc]
      refine hOneL (i := 6) (by kernel_rfl) ?_; refine nValPL (i := 6) rfl rfl rfl (pbs (parts := [(0, .tmp 48)]) (cs := [_]) (zs := [Value.int .u32 0]) U82 ti89 rfl (by kernel_rfl) rfl rfl rfl (by decide)) ?_
      rintro _ w6 ⟨b6, rfl, ⟨hb6, hx6, hB6⟩, hS6⟩
      refine ⟨hg5.trans hx6, ?_⟩
      refine hLate [7] (by kernel_rfl) (by kernel_rfl) ?_; refine qO 7 ?_; refine nValP (i := 7) rfl rfl rfl (pap U82 ti89 rfl (by decide) rfl rfl (hN5.c.ext hx6) hS6.rd (by intro c hc; simp at hc; subst hc; rfl) (by omega) (by omega)) ?_
      rintro u7 w7 ⟨hS7, hk7, ho7, -⟩
      refine ⟨trivial, ?_⟩
      have hBu := hk7.blk (hx6.blk hN5.blk) (fun e => (hN5.low _ (.inr (.inr e))).2.2.2.2 rfl)
      refine qT 8 rfl (fun _ hS => yfa fl130_3 rfl) (trivial) ?_; refine qO 9 ?_; refine nEffP (i := 9) rfl rfl (zst ti82 rfl rfl (oneV_sl hS7) hBu (by simp)) ?_
      rintro w8 ⟨hB8, hk8⟩
      refine ⟨trivial, ?_⟩
      have hz5 := hg5.size
      obtain ⟨hN8, hkk⟩ := DdN.pushC (by omega) hN5 hx6 (by rw [List.length_append, List.map_append]; exact hS7) hk7 ho7 hB8 hk8
      have hx8 : Ext w1 w8 := (hx4.trans hg5).trans_new hkk (fun i hi => hi.elim (fun e => by have := hN5.n9.1; omega) (fun e => (hN5.low i (.inr (.inr e))).1))
      refine qE ?_; refine Run.qb (e := [(0, _), (2, _), (4, _), (5, _), (6, _)]) ?_; refine run_reg rfl ?_; refine qV (ymv rfl) ?_; refine qV (yslSf U9 rfl rfl (by omega)) ?_; refine qV (yas rfl) ?_; refine rEnd ?_
      exact (hkm _ _ ⟨_, _, (s1.drop 2).drop 4, rfl, hN8, by rw [← hN]; exact hLf hv1, hx8, by simpa using hvc, by simp, by omega⟩).qb
 case hmainq =>
  refine run_reg rfl ?_; refine qV (ymv rfl) ?_; refine qV (ylnS U9 rfl) ?_; refine rCall rfl rfl (yc (args := [.tmp 17]) cf23 rfl) (rsize_ret _ w1) ?_
  rintro _ w1 ⟨rfl, rfl⟩
  by_cases hz : sizeOk (s.length : Int)
  ·rw [if_pos hz]
   have hlp : 0 < s.length := by have := hz.1; omega
   have hkind : ((s.getD 0 0).toNat ≠ 1 ∧ (s.getD 0 0).toNat ≠ 2) → dec s = none := fun h => by
    cases e : dec s with
    | none => rfl
    | some n =>
      obtain ⟨-, g2, g3⟩ := dec_some.1 e
      rcases nd_cases g2.ok with ⟨es, rfl⟩ | ⟨c, ps, rfl⟩
      ·rw [enc_leaf] at g3
       rw [← g3] at h; exact absurd rfl h.1
      ·rw [enc_inn g2.ok] at g3
       rw [← g3] at h; exact absurd rfl h.2
   refine qV (yne rfl rfl) ?_; refine rVal_if (fun h0 => ?_) (fun h0 => ?_)
   ·exact absurd rfl h0
   ·skip
    refine qV (ymv rfl) ?_; refine qV (ymv rfl) ?_; refine qV (yixS U9 rfl rfl (by omega)) ?_; refine qV (yne rfl rfl) ?_; refine rVal_if (fun hk1 => ?_) (fun hk1 => ?_)
    ·skip
     refine qV (ymv rfl) ?_; refine qV (ymv rfl) ?_; refine qV (yixS U9 rfl rfl (by omega)) ?_; refine qV (yne rfl rfl) ?_; refine rVal_if (fun hk2 => ?_) (fun hk2 => ?_)
     ·skip
      refine qV (ypT rfl rfl) ?_; refine qV (ypF rfl rfl) ?_; refine rEnd ?_
      exact (hkq _ _ ⟨true, rfl, rfl, fun _ => hkind ⟨by omega, by omega⟩, fun h => Bool.noConfusion h⟩).qb
     ·skip
      refine qV (ypT rfl rfl) ?_; refine qV (ypF rfl rfl) ?_; refine rEnd ?_
      exact (hkq _ _ ⟨false, rfl, rfl, fun h => Bool.noConfusion h, fun _ => hz⟩).qb
    ·skip
     refine qV (ymv rfl) ?_; refine qS ?_; refine qS ?_; refine qS ?_; refine qV (ypF rfl rfl) ?_; refine qV (ypF rfl rfl) ?_; refine rEnd ?_
     exact (hkq _ _ ⟨false, rfl, rfl, fun h => Bool.noConfusion h, fun _ => hz⟩).qb
  ·skip
   rw [if_neg hz]
   refine qV (yne rfl rfl) ?_; refine rVal_if (fun h0 => ?_) (fun h0 => ?_)
   ·skip
    refine qV (ymv rfl) ?_; refine qS ?_; refine qS ?_; refine qS ?_; refine qS ?_; refine qS ?_; refine qS ?_; refine qS ?_; refine qS ?_; refine qV (ypT rfl rfl) ?_; refine rEnd ?_
    exact (hkq _ _ ⟨true, rfl, rfl, fun _ => dec_none.2 (fun n h1 _ _ => hz h1), fun h => Bool.noConfusion h⟩).qb
   ·exact absurd (by decide) h0
end
end Go.Proofs.YtocnhaoilnojmaaGreat
namespace Go.Proofs.YtocnhaoilnojmaaGreat
open Go Go.RowKit
set_option linter.all false
set_option maxRecDepth 100000
/-- Entries in memory. -/
def esC (es : Es) : List Value := es.flatMap fun x => [S x.1, S x.2]
theorem esC_app (a b : Es) : esC (a ++ b) = esC a ++ esC b := by simp [esC]
theorem esC_one (x : Bytes × Bytes) : esC [x] = [S x.1, S x.2] := rfl
def ESl (w : World) (v : Value) (es : Es) : Prop := Sl w v 49 2 es.length (esC es)
/-- The variables that Range's way sees: the tree, the list, how many, from where, itself. -/
structure RgC (w : World) (p : Nat) (m : Nat) (f : Bytes) (bt bl bm bf bp : Nat) (v : Value) (out : Es) : Prop where
 t : Blk w bt [ptr p 0] 24
 l : Blk w bl [v] 45
 m : Blk w bm [I (m : Int)] 3
 f : Blk w bf [S f] 9
 g : Blk w bp [.func (.func 49) #[] #[ptr bt 0, ptr bl 0, ptr bm 0, ptr bf 0, ptr bp 0]] 80
 s : ESl w v out
 n1 : bl ≠ bt ∧ bl ≠ bm ∧ bl ≠ bf ∧ bl ≠ bp
 n2 : ∀ g, v.ownBlock = some g → g ≠ bt ∧ g ≠ bl ∧ g ≠ bm ∧ g ≠ bf ∧ g ≠ bp
theorem RgC.ext {w w' : World} {p m : Nat} {f : Bytes} {bt bl bm bf bp : Nat} {v : Value} {out : Es} (h : RgC w p m f bt bl bm bf bp v out) (k : Ext w w') : RgC w' p m f bt bl bm bf bp v out :=
 ⟨k.blk h.t, k.blk h.l, k.blk h.m, k.blk h.f, k.blk h.g, h.s.ext k, h.n1, h.n2⟩
/-- What Range's way changes. -/
structure RgQ (w w' : World) (bl : Nat) (v v' : Value) : Prop where
 kp : Kp (fun k => k = bl ∨ v.ownBlock = some k) w w'
 own : ∀ g, v'.ownBlock = some g → v.ownBlock = some g ∨ w.heap.size ≤ g
theorem RgQ.refl (w : World) (bl : Nat) (v : Value) : RgQ w w bl v v := ⟨Kp.refl _ _, fun g hg => .inl hg⟩
theorem RgQ.ext {w w1 w2 : World} {bl : Nat} {v v1 : Value} (h : RgQ w w1 bl v v1) (k : Ext w1 w2) : RgQ w w2 bl v v1 := ⟨h.kp.trans k.kp, h.own⟩
theorem RgQ.trans {w w1 w2 : World} {bl : Nat} {v v1 v2 : Value} (h : RgQ w w1 bl v v1) (k : RgQ w1 w2 bl v1 v2) : RgQ w w2 bl v v2 :=
 ⟨h.kp.trans_new k.kp (fun i hi => by
  rcases hi with e | e
  ·exact .inr (.inl e)
  ·exact (h.own i e).elim (fun e => .inr (.inr e)) .inl), fun g hg => by
  rcases k.own g hg with e | e
  ·exact h.own g e
  ·have := h.kp.size; exact .inr (by omega)⟩
theorem RgC.push {w1 w2 w3 w4 : World} {p m : Nat} {f : Bytes} {bt bl bm bf bp : Nat} {v v2 : Value} {out : Es} {x : Bytes × Bytes} (h : RgC w1 p m f bt bl bm bf bp v out) (hx : Ext w1 w2) (hs : ESl w3 v2 (out ++ [x])) (hk : Kp (fun k => v.ownBlock = some k) w2 w3) (ho : ∀ g, v2.ownBlock = some g → v.ownBlock = some g ∨ w2.heap.size ≤ g) (hl : Blk w4 bl [v2] 45) (hk4 : Kp (fun k => k = bl) w3 w4) : RgC w4 p m f bt bl bm bf bp v2 (out ++ [x]) ∧ RgQ w1 w4 bl v v2 := by
 have hk14 : Kp (fun k => k = bl ∨ v.ownBlock = some k) w1 w4 := (hx.kp.trans (hk.mono' (fun k h => .inr h))).trans (hk4.mono' (fun k h => .inl h))
 have hz := hx.size
 have l1 := h.t.lt
 have l2 := h.l.lt
 have l3 := h.m.lt
 have l4 := h.f.lt
 have l5 := h.g.lt
 have hne : ∀ b, b ≠ bl → (∀ g, v.ownBlock = some g → g ≠ b) → ¬ (b = bl ∨ v.ownBlock = some b) := fun b h1 h2 h => h.elim h1 (fun e => h2 b e rfl)
 refine ⟨⟨hk14.blk h.t (hne _ h.n1.1.symm (fun g hg => (h.n2 g hg).1)), hl, hk14.blk h.m (hne _ h.n1.2.1.symm (fun g hg => (h.n2 g hg).2.2.1)), hk14.blk h.f (hne _ h.n1.2.2.1.symm (fun g hg => (h.n2 g hg).2.2.2.1)), hk14.blk h.g (hne _ h.n1.2.2.2.symm (fun g hg => (h.n2 g hg).2.2.2.2)), ?_, h.n1, fun g hg => ?_⟩, hk14, fun g hg => (ho g hg).imp id (fun e => by omega)⟩
 ·refine Sl.kp hs hk4 (fun g hg e => ?_)
  rcases ho g hg with e' | e'
  ·exact (h.n2 g e').2.1 e
  ·omega
 ·rcases ho g hg with e' | e'
  ·exact h.n2 g e'
  ·exact ⟨by omega, by omega, by omega, by omega, by omega⟩
theorem rd_getsN {w : World} {a : Option Addr} {cap n : Nat} {l : List Bytes} {i : Nat} (h : Rd w (.slice a n cap) 1 n (l.map S)) (hn : n = l.length) (hi : i < n) : ∃ b off s, a = some ⟨b, off, none⟩ ∧ l[i]? = some s := by
 subst hn; exact rd_gets h hi
/-- Range's way does what it should at a page so high. -/
def RgAt (p : Nat) (m : Nat) (f : Bytes) (bt bl bm bf bp : Nat) (H : Nat) : Prop := ∀ (w : World) (T : Tr) (nb : Int → Nat) (F : Nat → Prop) (no : Int) (lo : Bytes) (hi : Option Bytes) (ns : List Int) (es out : Es) (v : Value),
 TreeA w p T nb F → RgC w p m f bt bl bm bf bp v out → ¬ F bl → (∀ g, v.ownBlock = some g → ¬ F g) → Bn T.size T.nodes H no lo hi ns es → out.length + es.length ≤ 1000000 →
 Ret Tryz.prog 49 [I no, ptr bt 0, ptr bl 0, ptr bm 0, ptr bf 0, ptr bp 0] w fun val w' => val = .tuple #[] ∧ ∃ v', RgC w' p m f bt bl bm bf bp v' (takeR m f out es) ∧ RgQ w w' bl v v'
section
variable {w : World}
set_option maxHeartbeats 4000000 in
theorem rgAt_leaf {p m : Nat} {f : Bytes} {bt bl bm bf bp : Nat} (hm : m ≤ 9223372036854775807) : RgAt p m f bt bl bm bf bp 1 := by
 intro w T nb F no lo hi ns E out v h hc hFl hFv hB hlen
 have hz : sizeOk (T.size : Int) := size_ok h
 obtain ⟨z1, z2, -⟩ := id hz
 obtain ⟨hn, hns, hok, hbE, hinE⟩ := hB.leaf (by omega)
 obtain ⟨mN, mC, mO, gv, kn, kc, ko, O⟩ := h.opn
 obtain ⟨q, hq, hM, hqF, -⟩ := h.nodeF hn
 obtain ⟨qb, qk, qv, qc⟩ := q
 dsimp only at hq
 subst hq
 have hBn := hM.blk
 have hK := hM.keys
 have hV := hM.vals
 dsimp only at hBn hK hV
 have hvl : (leafNd E).vals.length = E.length := by simp [leafNd]
 have hkl : (leafNd E).keys.length = E.length := by simp [leafNd]
 rw [hvl] at hV
 rw [hkl] at hK
 have hle : E.length ≤ 100000 := by have := hM.bd.kl; omega
 have hBt := hc.t
 obtain ⟨ka, kcp, hqk, -⟩ := hK.rd.shape
 obtain ⟨va, vcp, hqv, -⟩ := hV.rd.shape
 subst hqk
 subst hqv
 have hFg : ∀ g, Pl.fp ⟨nb no, .slice ka E.length kcp, .slice va E.length vcp, qc⟩ g → F g := fun g hg => (hqF g hg).1
 refine ret_of_run (e := [(0, _), (1, _), (2, _), (3, _), (4, _), (5, _)]) Tryz.func49 rfl Tryz.ntmps49 rfl rfl ?_; refine qN rfl ?_; refine qV ((by first | exact yld U24 rfl rfl hBt rfl | exact yld U24 rfl rfl O.blk rfl | exact yld U24 rfl rfl hBn rfl)) ?_; refine qV ((by first | exact ync rfl | exact yncf rfl)) ?_; refine qV (yfa fl74_5 rfl) ?_; refine qV ((by first | exact yld U71 rfl rfl hBt rfl | exact yld U71 rfl rfl O.blk rfl | exact yld U71 rfl rfl hBn rfl)) ?_; refine qV (ymv rfl) ?_; refine qV (ylk (k := no) (K := KZ) U71 (ky_int U3) ti81 rfl rfl O.nm.l) ?_
 rw [show (getL kn no).getD (.pointer none) = ptr (nb no) 0 by rw [O.ng no, hn]; rfl]
 refine qV (yas rfl) ?_; refine rEnd ?_; refine run_seq ?_; refine qN rfl ?_; refine qV (ymv rfl) ?_; refine qV ((by first | exact ync rfl | exact yncf rfl)) ?_; refine qV (yfa fl84_0 rfl) ?_; refine qV ((by first | exact yld U4 rfl rfl hBt rfl | exact yld U4 rfl rfl O.blk rfl | exact yld U4 rfl rfl hBn rfl)) ?_; refine rEnd ?_; refine run_true rfl ?_; refine run_seq ?_; refine qN rfl ?_; refine qV (ymv rfl) ?_; refine qV ((by first | exact ync rfl | exact yncf rfl)) ?_; refine qV (yfa fl84_1 rfl) ?_
 refine qV ((by first | exact yld U23 rfl rfl hBt rfl | exact yld U23 rfl rfl O.blk rfl | exact yld U23 rfl rfl hBn rfl)) ?_; refine qV (yln U23 rfl) ?_; refine qV (ymv rfl) ?_; refine rEnd ?_; refine run_block ?_
 refine run_loop (α := Nat) (0) (fun i => [(1, ptr bt 0), (2, ptr bl 0), (3, ptr bm 0), (4, ptr bf 0), (5, ptr bp 0), (7, ptr (nb no) 0), (24, .slice ka E.length kcp), (25, I (E.length : Int)), (26, I (i : Int))]) (fun i w' => i ≤ E.length ∧ ∃ v', RgC w' p m f bt bl bm bf bp v' (takeR m f out (E.take i)) ∧ RgQ w w' bl v v') (fun i => E.length - i) (by repeat (first | exact Sub.nil | refine Sub.cons rfl ?_)) ?hI ?hround
 case hI => exact ⟨Nat.zero_le _, v, by rw [List.take_zero, takeR_nil]; exact hc, RgQ.refl _ _ _⟩
 case hround =>
  rintro i w1 ⟨hi0, v1, hc1, hq1⟩ ih
  obtain ⟨va1, vc1, hv1, -⟩ := Sl.rd hc1.s |>.shape
  subst hv1
  have hFS : ∀ g, F g → ¬ (g = bl ∨ v.ownBlock = some g) := fun g hg e => e.elim (fun e => hFl (e ▸ hg)) (fun e => hFv g e hg)
  have hK1 := hK.kp hq1.kp (fun g hg => hFS g (hFg g (.inr (.inl hg))))
  have hV1 := hV.kp hq1.kp (fun g hg => hFS g (hFg g (.inr (.inr (.inl hg)))))
  have hBn1 := hq1.kp.blk hBn (hFS _ (hFg _ (.inl rfl)))
  have hBl1 := hc1.l
  have hBm1 := hc1.m
  have hBf1 := hc1.f
  have htl := takeR_len m f out (E.take i)
  have htl2 : (E.take i).length ≤ E.length := by rw [List.length_take]; omega
  try dsimp only
  refine qN rfl ?_; refine qV (ylt rfl rfl) ?_; refine rEnd ?_; refine run_seq ?_; refine run_if rfl (fun hlt => ?_) (fun hlt => ?_)
  ·skip
   have hi' : i < E.length := by omega
   obtain ⟨x, hx⟩ : ∃ x, E[i]? = some x := ⟨_, List.getElem?_eq_getElem hi'⟩
   obtain ⟨lb, lo', s, rfl, hs'⟩ := rd_getsN hK1.rd (by simp [leafNd]) hi'
   obtain ⟨lb2, lo2, s2, rfl, hs2⟩ := rd_getsN hV1.rd (by simp [leafNd]) hi'
   have es : s = x.1 := by simp [leafNd, hx] at hs'; exact hs'.symm
   have es2 : s2 = x.2 := by simp [leafNd, hx] at hs2; exact hs2.symm
   have hstep : takeR m f out (E.take (i + 1)) = takeR m f (takeR m f out (E.take i)) [x] := by
    obtain ⟨h1, h2⟩ := List.getElem?_eq_some_iff.1 hx
    rw [takeR_app, List.take_succ_eq_append_getElem h1, h2]
   refine run_skip ?_; refine run_seq ?_; refine run_block ?_; refine qN rfl ?_; refine qV (ymv rfl) ?_; refine qV (yis U23 ti9 rfl rfl (by omega)) ?_; refine qV (yldc U9 rfl rfl (rd_str hK1.rd hi' hs')) ?_
   rw [es]
   refine qV (yas rfl) ?_; refine qV (yas rfl) ?_; refine qM rfl ?_; refine qV ((by first | exact yld U45 rfl rfl hBl1 rfl | exact yld U45 rfl rfl hBm1 rfl | exact yld U45 rfl rfl hBf1 rfl)) ?_; refine qV (yln U45 rfl) ?_; refine qV ((by first | exact yld U3 rfl rfl hBl1 rfl | exact yld U3 rfl rfl hBm1 rfl | exact yld U3 rfl rfl hBf1 rfl)) ?_; refine qV (ylt rfl rfl) ?_; refine rVal_if (fun h1 => ?_) (fun h1 => ?_)
   ·skip
    refine qV (ymv rfl) ?_; refine qV (ymv rfl) ?_; refine qV ((by first | exact yld U9 rfl rfl hBl1 rfl | exact yld U9 rfl rfl hBm1 rfl | exact yld U9 rfl rfl hBf1 rfl)) ?_; refine qV (ygeS rfl rfl) ?_; refine qV (ypT rfl rfl) ?_; refine rEnd ?_; refine run_cond rfl (fun h2 => ?_) (fun h2 => ?_)
    ·skip
     have h2' : lt x.1 f = false := by simpa using h2
     have hgg : Ext w1 w1.drew := Ext.drew0 w1
     refine run_drawL [11,12] (fun w' => Ext w1 w') (by kernel_rfl) rfl ?_; refine qL [11, 12] 0 rfl (fun _ hS => (by first | exact yld U45 rfl rfl (hS.blk hBl1) rfl | exact yld U45 rfl rfl (hS.blk hBn1) rfl)) (hgg) ?_; refine qL [9, 10, 11, 12] 1 rfl (fun _ hS => ymv rfl) (hgg) ?_; refine qL [3, 4, 5, 7, 8, 9, 10, 11, 12] 2 rfl (fun _ hS => ymv rfl) (hgg) ?_; refine qL [4, 5, 7, 8, 9, 10, 11, 12] 3 rfl (fun _ hS => (by first | exact ync rfl | exact yncf rfl)) (hgg) ?_; refine qL [5, 7, 8, 9, 10, 11, 12] 4 rfl (fun _ hS => yfa fl84_2 rfl) (hgg) ?_
     refine qL [7, 8, 9, 10, 11, 12] 5 rfl (fun _ hS => (by first | exact yld U23 rfl rfl (hS.blk hBl1) rfl | exact yld U23 rfl rfl (hS.blk hBn1) rfl)) (hgg) ?_; refine qL [7, 8, 9, 10, 11, 12] 6 rfl (fun _ hS => ymv rfl) (hgg) ?_; refine qL [8, 9, 10, 11, 12] 7 rfl (fun _ hS => yis U23 ti9 rfl rfl (by omega)) (hgg) ?_; refine qL [9, 10, 11, 12] 8 rfl (fun _ hS => yldc U9 rfl rfl (rd_str (hV1.ext hS).rd hi' hs2)) (hgg) ?_
     rw [es2]
     refine qL [10, 11, 12] 9 rfl (fun _ hS => ybd (parts := [(0, .tmp 41), (1, .tmp 48)]) (cs := [_, _]) ti49 rfl sp49 rfl rfl) (hgg) ?_; refine hOneL (i := 10) (by kernel_rfl) ?_; refine nValPL (i := 10) rfl rfl rfl (pbs (parts := [(0, .tmp 49)]) (cs := [_, _]) (zs := [Value.string ⟨#[]⟩, Value.string ⟨#[]⟩]) U45 ti49 rfl (by kernel_rfl) rfl rfl rfl (by decide)) ?_
     rintro _ w2 ⟨b2, rfl, ⟨hb2, hx2, hB2⟩, hS2⟩
     refine ⟨hgg.trans hx2, ?_⟩
     have hgx := hgg.trans hx2
     have hml : maxLen = 9223372036854775807 := rfl
     refine hLate [11] (by kernel_rfl) (by kernel_rfl) ?_; refine qO 11 ?_; refine nValP (i := 11) rfl rfl rfl (pap U45 ti49 rfl (by decide) rfl rfl (Sl.ext hc1.s hgx) hS2.rd (by intro c hc; simp at hc; rcases hc with rfl | rfl <;> rfl) (by omega) (by omega)) ?_
     rintro v2 w3 ⟨hS3, hk3, ho3, -⟩
     refine ⟨trivial, ?_⟩
     have hB3 := hk3.blk (hgx.blk hBl1) (fun e => (hc1.n2 _ e).2.1 rfl)
     refine qO 12 ?_; refine nEffP (i := 12) rfl rfl (zst ti45 rfl rfl (oneV_sl hS3) hB3 (by simp)) ?_
     rintro w4 ⟨hB4, hk4⟩
     refine ⟨trivial, ?_⟩
     refine qE ?_; refine run_inBlock ?_; refine run_reg rfl ?_; refine qV (yad rfl rfl (by omega)) ?_; refine qV (ymv rfl) ?_; refine rEnd ?_
     have hp := hc1.push hgx (v2 := v2) (x := x) (by
      unfold ESl
      rw [esC_app, esC_one, List.length_append]
      exact hS3) hk3 ho3 hB4 hk4
     exact (ih (i + 1) w4 ⟨by omega, v2, by rw [hstep, takeR_one (by omega) h2']; exact hp.1, hq1.trans hp.2⟩ (by omega)).qb
    ·skip
     have h2' : lt x.1 f = true := by simpa using h2
     refine run_skip ?_; refine run_inBlock ?_; refine run_reg rfl ?_; refine qV (yad rfl rfl (by omega)) ?_; refine qV (ymv rfl) ?_; refine rEnd ?_
     exact (ih (i + 1) w1 ⟨by omega, _, by rw [hstep, takeR_not (out := takeR m f out (E.take i)) (es := [x]) (by intro y hy; simp at hy; subst hy; exact h2')]; exact hc1, hq1⟩ (by omega)).qb
   ·skip
    refine qV (ymv rfl) ?_; refine qS ?_; refine qS ?_; refine qS ?_; refine qV (ypF rfl rfl) ?_; refine rEnd ?_; refine run_false rfl ?_; refine run_skip ?_; refine run_inBlock ?_; refine run_reg rfl ?_; refine qV (yad rfl rfl (by omega)) ?_; refine qV (ymv rfl) ?_; refine rEnd ?_
    exact (ih (i + 1) w1 ⟨by omega, _, by rw [hstep, takeR_full (out := takeR m f out (E.take i)) (es := [x]) (by omega)]; exact hc1, hq1⟩ (by omega)).qb
  ·skip
   have e : i = E.length := by omega
   subst e
   rw [List.take_length] at hc1 hq1
   refine run_exit rfl ?_; refine run_ret Tryz.func49 rfl ?_
   exact ⟨_, rfl, rfl, _, hc1, hq1⟩
theorem flatMap_take_len {α β : Type} (L : List α) (f : α → List β) (i : Nat) : ((L.take i).flatMap f).length ≤ (L.flatMap f).length := by
 conv => rhs; rw [← List.take_append_drop i L, List.flatMap_append, List.length_append]
 omega
set_option maxHeartbeats 4000000 in
theorem rgAt_inner {p m : Nat} {f : Bytes} {bt bl bm bf bp H : Nat} (hm : m ≤ 9223372036854775807) (ih : RgAt p m f bt bl bm bf bp (H + 1)) : RgAt p m f bt bl bm bf bp (H + 2) := by
 intro w T nb F no lo hi ns es out v h hc hFl hFv hB hlen
 have hz : sizeOk (T.size : Int) := size_ok h
 obtain ⟨z1, z2, -⟩ := id hz
 obtain ⟨c, ps, ns1, hn, rfl, hko, hord, hcz, hin, hfull, hCh⟩ := hB.inner (by omega)
 obtain ⟨L, hL, hSb, rfl, rfl⟩ := (ch_iff hi).1 hCh
 obtain ⟨mN, mC, mO, gv, kn, kc, ko, O⟩ := h.opn
 obtain ⟨q, hq, hM, hqF, -⟩ := h.nodeF hn
 obtain ⟨qb, qk, qv, qc⟩ := q
 dsimp only at hq
 subst hq
 have hBn := hM.blk
 have hC := hM.kids
 dsimp only at hBn hC
 have kcl : (innNd c ps).kids.length = ps.length + 1 := by simp [innNd]
 rw [kcl] at hC
 obtain ⟨gc, cc, rfl⟩ := some_of hC (by omega)
 have hpl : ps.length ≤ 100000 := by have := hM.bd.cl; omega
 have hwl := wayI_le (ps.map (·.1)) f
 rw [List.length_map] at hwl
 have hBt := hc.t
 have hBf := hc.f
 have hwb := way_before (k := f) hL hSb (fun x l u n e s => (Bn.keys s).1)
 have hFg : ∀ g, Pl.fp ⟨nb no, qk, qv, .slice (some ⟨gc, 0, none⟩) (ps.length + 1) cc⟩ g → F g := fun g hg => (hqF g hg).1
 have hFlt := h.lt
 refine ret_of_run (e := [(0, _), (1, _), (2, _), (3, _), (4, _), (5, _)]) Tryz.func49 rfl Tryz.ntmps49 rfl rfl ?_; refine qN rfl ?_; refine qV ((by first | exact yld U24 rfl rfl hBt rfl | exact yld U24 rfl rfl O.blk rfl | exact yld U24 rfl rfl hBn rfl | exact yld U24 rfl rfl hBf rfl)) ?_; refine qV ((by first | exact ync rfl | exact yncf rfl)) ?_; refine qV (yfa fl74_5 rfl) ?_; refine qV ((by first | exact yld U71 rfl rfl hBt rfl | exact yld U71 rfl rfl O.blk rfl | exact yld U71 rfl rfl hBn rfl | exact yld U71 rfl rfl hBf rfl)) ?_; refine qV (ymv rfl) ?_
 refine qV (ylk (k := no) (K := KZ) U71 (ky_int U3) ti81 rfl rfl O.nm.l) ?_
 rw [show (getL kn no).getD (.pointer none) = ptr (nb no) 0 by rw [O.ng no, hn]; rfl]
 refine qV (yas rfl) ?_; refine rEnd ?_; refine run_seq ?_; refine qN rfl ?_; refine qV (ymv rfl) ?_; refine qV ((by first | exact ync rfl | exact yncf rfl)) ?_; refine qV (yfa fl84_0 rfl) ?_; refine qV ((by first | exact yld U4 rfl rfl hBt rfl | exact yld U4 rfl rfl O.blk rfl | exact yld U4 rfl rfl hBn rfl | exact yld U4 rfl rfl hBf rfl)) ?_; refine rEnd ?_; refine run_false rfl ?_; refine run_skip ?_; refine qN rfl ?_; refine qV (ymv rfl) ?_; refine qV ((by first | exact yld U9 rfl rfl hBt rfl | exact yld U9 rfl rfl O.blk rfl | exact yld U9 rfl rfl hBn rfl | exact yld U9 rfl rfl hBf rfl)) ?_
 refine rCall rfl rfl (yc (args := [.tmp 53, .tmp 54]) cf46 rfl) (way_ret f hBn hM.r hM.bd hko.2) ?_
 rintro _ w ⟨rfl, rfl⟩
 rw [show wayI (innNd c ps).keys f = wayI (ps.map (·.1)) f from rfl]
 refine qV (yas rfl) ?_; refine rEnd ?_; refine run_block ?_; refine run_loop (α := Nat) (wayI (ps.map (·.1)) f) (fun i => [(1, ptr bt 0), (2, ptr bl 0), (3, ptr bm 0), (4, ptr bf 0), (5, ptr bp 0), (7, ptr (nb no) 0), (10, I (i : Int))]) (fun i w' => i ≤ ps.length + 1 ∧ ∃ v', RgC w' p m f bt bl bm bf bp v' (takeR m f out ((L.take i).flatMap (·.2))) ∧ RgQ w w' bl v v') (fun i => ps.length + 1 - i) (by repeat (first | exact Sub.nil | refine Sub.cons rfl ?_)) ?hI ?hround
 case hI => exact ⟨by omega, v, by rw [takeR_not hwb]; exact hc, RgQ.refl _ _ _⟩
 case hround =>
  rintro i w1 ⟨hi0, v1, hc1, hq1⟩ ihl
  obtain ⟨va1, vc1, hv1, -⟩ := Sl.rd hc1.s |>.shape
  subst hv1
  have hFS : ∀ g, F g → ¬ (g = bl ∨ v.ownBlock = some g) := fun g hg e => e.elim (fun e => hFl (e ▸ hg)) (fun e => hFv g e hg)
  have hC1 := hC.kp hq1.kp (fun g hg => hFS g (hFg g (.inr (.inr (.inr hg)))))
  have hBn1 := hq1.kp.blk hBn (hFS _ (hFg _ (.inl rfl)))
  have h1 := h.kp hq1.kp hFS
  have hBl1 := hc1.l
  have hBm1 := hc1.m
  have hBp1 := hc1.g
  have htl := takeR_len m f out ((L.take i).flatMap (·.2))
  have htl2 := flatMap_take_len L (fun l : List Int × Es => l.2) i
  have hdone : (m ≤ (takeR m f out ((L.take i).flatMap (·.2))).length ∨ i = ps.length + 1) → takeR m f out (L.flatMap (·.2)) = takeR m f out ((L.take i).flatMap (·.2)) := fun hd => by
   rcases hd with hd | rfl
   ·conv => lhs; rw [← List.take_append_drop i L, List.flatMap_append, ← takeR_app]
    rw [takeR_full hd]
   ·rw [List.take_of_length_le (by omega)]
  try dsimp only
  refine run_seq ?_; refine qN rfl ?_; refine qV (ymv rfl) ?_; refine qV (ymv rfl) ?_; refine qV ((by first | exact ync rfl | exact yncf rfl)) ?_; refine qV (yfa fl84_3 rfl) ?_; refine qV ((by first | exact yld U82 rfl rfl hBn1 rfl | exact yld U82 rfl rfl hBl1 rfl | exact yld U82 rfl rfl hBm1 rfl)) ?_; refine qV (yln U82 rfl) ?_; refine qV (ylt rfl rfl) ?_; refine rVal_if (fun h1c => ?_) (fun h1c => ?_)
  ·skip
   have hi1 : i < ps.length + 1 := by omega
   refine qV (ymv rfl) ?_; refine qV ((by first | exact yld U45 rfl rfl hBn1 rfl | exact yld U45 rfl rfl hBl1 rfl | exact yld U45 rfl rfl hBm1 rfl)) ?_; refine qV (yln U45 rfl) ?_; refine qV ((by first | exact yld U3 rfl rfl hBn1 rfl | exact yld U3 rfl rfl hBl1 rfl | exact yld U3 rfl rfl hBm1 rfl)) ?_; refine qV (ylt rfl rfl) ?_; refine rVal_if (fun h2c => ?_) (fun h2c => ?_)
   ·skip
    refine qV (ypT rfl rfl) ?_; refine rEnd ?_; refine run_true rfl ?_; refine run_skip ?_; refine run_seq ?_; refine run_block ?_
    obtain ⟨a, l, u, hb, ha, -, -⟩ := bnds_get hi ps lo c i (by omega)
    obtain ⟨q1, hq1'⟩ : ∃ q, L[i]? = some q := ⟨_, List.getElem?_eq_getElem (by omega)⟩
    have hBa := hSb i _ _ hb hq1'
    have hal := hM.bd.cs a (List.mem_of_getElem? (show (innNd c ps).kids[_]? = some a from ha))
    have hstep := flatMap_take_succ (f := fun l : List Int × Es => l.2) hq1'
    have hlen2 := flatMap_take_len L (fun l : List Int × Es => l.2) (i + 1)
    rw [hstep, List.length_append] at hlen2
    have hg1 : Ext w1 w1.drew := Ext.drew0 w1
    have hz1 := hq1.kp.size
    have hFv1 : ∀ g, (Value.slice va1 (takeR m f out ((L.take i).flatMap (·.2))).length vc1).ownBlock = some g → ¬ F g := fun g hg hF => (hq1.own g hg).elim (fun e => hFv g e hF) (fun e => by have := hFlt g hF; omega)
    refine run_drawL [9] (fun w' => Ext w1 w') (by kernel_rfl) rfl ?_; refine qL [9] 0 rfl (fun _ hS => (by first | exact yld U80 rfl rfl (hS.blk hBn1) rfl | exact yld U80 rfl rfl (hS.blk hBp1) rfl)) (hg1) ?_; refine qL [2, 3, 4, 6, 7, 8, 9] 1 rfl (fun _ hS => ymv rfl) (hg1) ?_; refine qL [3, 4, 6, 7, 8, 9] 2 rfl (fun _ hS => (by first | exact ync rfl | exact yncf rfl)) (hg1) ?_; refine qL [4, 6, 7, 8, 9] 3 rfl (fun _ hS => yfa fl84_3 rfl) (hg1) ?_
    refine qL [6, 7, 8, 9] 4 rfl (fun _ hS => (by first | exact yld U82 rfl rfl (hS.blk hBn1) rfl | exact yld U82 rfl rfl (hS.blk hBp1) rfl)) (hg1) ?_; refine qL [6, 7, 8, 9] 5 rfl (fun _ hS => ymv rfl) (hg1) ?_; refine qL [7, 8, 9] 6 rfl (fun _ hS => yis U82 ti89 rfl rfl (by omega)) (hg1) ?_; refine qL [8, 9] 7 rfl (fun _ hS => yldc U89 rfl rfl (rd_u32 ((hC1.ext hS).rd) (by omega) ha)) (hg1) ?_; refine qL [9] 8 rfl (fun _ hS => ycvSi64 rfl U89 U3 (by omega)) (hg1) ?_; refine hLate [9] (by kernel_rfl) (by kernel_rfl) ?_; refine qO 9 ?_
    refine nCall (i := 9) rfl rfl rfl (ycv' (args := [.tmp 79]) cf49 rfl rfl) (ih _ T nb F (a : Int) l u _ _ _ _ (h1.ext hg1) (hc1.ext hg1) hFl hFv1 hBa (by omega)) ?_
    rintro _ w2 ⟨rfl, v2, hc2, hq2⟩
    refine ⟨trivial, ?_⟩
    refine qE ?_; refine run_inBlock ?_; refine run_reg rfl ?_; refine qV (ymv rfl) ?_; refine qV (yad rfl rfl (by omega)) ?_; refine qV (yas rfl) ?_; refine rEnd ?_; refine (ihl (i + 1) w2 ⟨by omega, v2, ?_, (hq1.ext hg1).trans hq2⟩ (by omega)).qb
    rw [hstep, ← takeR_app]
    exact hc2
   ·skip
    refine qV (ypT rfl rfl) ?_; refine rEnd ?_; refine run_false rfl ?_; refine run_exit rfl ?_; refine run_end Tryz.func49 rfl ?_
    exact ⟨_, rfl, rfl, _, by rw [hdone (.inl (by omega))]; exact hc1, hq1⟩
  ·skip
   refine qV (ymv rfl) ?_; refine qS ?_; refine qS ?_; refine qS ?_; refine qS ?_; refine qV (ypF rfl rfl) ?_; refine rEnd ?_; refine run_false rfl ?_; refine run_exit rfl ?_; refine run_end Tryz.func49 rfl ?_
   exact ⟨_, rfl, rfl, _, by rw [hdone (.inr (by omega))]; exact hc1, hq1⟩
theorem rgAt_all {p m : Nat} {f : Bytes} {bt bl bm bf bp : Nat} (hm : m ≤ 9223372036854775807) : ∀ H, RgAt p m f bt bl bm bf bp (H + 1)
 | 0 => rgAt_leaf hm
 | H + 1 => rgAt_inner hm (rgAt_all hm H)
end
/-- What Range lists. -/
def rangeE (es : Es) (f : Bytes) (m : Nat) : Es := (es.filter fun x => !lt x.1 f).take m
theorem takeR_range (m : Nat) (f : Bytes) (es : Es) : takeR m f [] es = rangeE es f m := by simp [takeR, rangeE]
section
variable {w : World} {p : Nat} {T : Tr} {nb : Int → Nat} {F : Nat → Prop}
set_option maxHeartbeats 2000000 in
theorem range_ret (h : TreeA w p T nb F) {H : Nat} {ns : List Int} {es : Es} (hI : Inv T H ns es) (hes : es.length ≤ 900000) (f : Bytes) (m : Int) (hm : m ≤ 9223372036854775807) :
  Ret Tryz.prog 13 [ptr p 0, S f, I m] w fun v w' => Ext w w' ∧ ((m < 0 ∧ v = .tuple #[.slice none 0 0, I 1]) ∨ (0 ≤ m ∧ ∃ lv, v = .tuple #[lv, I 0] ∧ ESl w' lv (rangeE es f m.toNat) ∧ ∀ g, lv.ownBlock = some g → w.heap.size ≤ g)) := by
 have hlt := h.lt
 refine ret_of_run (e := [(0, _), (1, _), (2, _)]) Tryz.func13 rfl Tryz.ntmps13 rfl rfl ?_; refine qN rfl ?_; refine rValP rfl rfl (pbx rfl rfl) ?_
 rintro _ w1 ⟨bt, rfl, hbt, hx1, hB1⟩
 refine rValP rfl rfl (pbx rfl rfl) ?_
 rintro _ w2 ⟨bf, rfl, hbf, hx2, hB2⟩
 refine rValP rfl rfl (pbx rfl rfl) ?_
 rintro _ w3 ⟨bm, rfl, hbm, hx3, hB3⟩
 have hz1 := hx1.size
 have hz2 := hx2.size
 have hz3 := hx3.size
 have hBt := (hx2.trans hx3).blk hB1
 have hBf := hx3.blk hB2
 have hx03 := (hx1.trans hx2).trans hx3
 have l1 := hB1.lt
 have l2 := hB2.lt
 have l3 := hB3.lt
 refine qV (yas rfl) ?_; refine qV (yas rfl) ?_; refine rEnd ?_; refine run_seq ?_; refine run_block ?_; refine qN rfl ?_; refine qV ((by first | exact yld U24 rfl rfl hBt rfl | exact yld U24 rfl rfl hB3 rfl)) ?_; refine qV (yeqpN U24 rfl rfl) ?_; refine qV (yas rfl) ?_; refine rEnd ?_; refine run_false rfl ?_; refine qN rfl ?_; refine qV ((by first | exact yld U3 rfl rfl hBt rfl | exact yld U3 rfl rfl hB3 rfl)) ?_; refine qV (ylt rfl rfl) ?_; refine qV (yas rfl) ?_; refine rEnd ?_; refine run_if rfl (fun h0 => ?_) (fun h0 => ?_)
 ·skip
  refine qN rfl ?_; refine qV (yas rfl) ?_; refine qV (yas rfl) ?_; refine rEnd ?_; refine run_ret Tryz.func13 rfl ?_
  exact ⟨_, rfl, hx03, .inl ⟨h0, rfl⟩⟩
 ·skip
  obtain ⟨k, rfl⟩ : ∃ k : Nat, m = (k : Int) := ⟨m.toNat, by omega⟩
  refine run_skip ?_; refine run_inBlock ?_; refine qN rfl ?_; refine rValP rfl rfl (pal (cs := [_]) ti45 rfl) ?_
  rintro _ w4 ⟨bl, rfl, hbl, hx4, hB4⟩
  refine qM rfl ?_; refine rValP rfl rfl (pal (cs := [_]) ti80 rfl) ?_
  rintro _ w5 ⟨bp, rfl, hbp, hx5, hB5⟩
  refine qM rfl ?_; refine qV (ymf (first := []) (caps := [.tmp 3, .tmp 8, .tmp 5, .tmp 4, .tmp 9]) rfl rfl) ?_; refine rEffP rfl (zst ti80 rfl rfl rfl hB5 (by simp)) ?_
  rintro w6 ⟨hB6, hk6⟩
  have hz4 := hx4.size
  have hz5 := hx5.size
  have l4 := hB4.lt
  have l5 := hB5.lt
  have hx36 : Ext w3 w6 := (hx4.trans hx5).trans_new hk6 (fun i hi => by omega)
  have hx06 := hx03.trans hx36
  have h6 := h.ext hx06
  obtain ⟨mN, mC, mO, gv, kn, kc, ko, O⟩ := h6.opn
  have hBO := O.blk
  have hBt6 := hx36.blk hBt
  have hc6 : RgC w6 p k f bt bl bm bf bp (.slice none 0 0) [] := ⟨hBt6, hk6.blk (hx5.blk hB4) (by omega), hx36.blk hB3, hx36.blk hBf, hB6, Sl.nil _ _ _, ⟨by omega, by omega, by omega, by omega⟩, fun g hg => by simp [Value.ownBlock] at hg⟩
  have hBl6 := hc6.l
  have hFl : ¬ F bl := fun e => by have := hlt _ e; omega
  have hz6 := hx06.size
  refine rEnd ?_; refine run_seq ?_; refine qN rfl ?_; refine qV ((by first | exact yld U24 rfl rfl hBt6 rfl | exact yld U24 rfl rfl hBO rfl)) ?_; refine qV ((by first | exact ync rfl | exact yncf rfl)) ?_; refine qV (yfa fl74_1 rfl) ?_; refine qV ((by first | exact yld U3 rfl rfl hBt6 rfl | exact yld U3 rfl rfl hBO rfl)) ?_; refine qV (yne rfl rfl) ?_; refine rEnd ?_; refine run_cut (fun e' w' => ∃ v', e' = [(8, ptr bl 0)] ∧ RgC w' p k f bt bl bm bf bp v' (rangeE es f k) ∧ RgQ w6 w' bl (.slice none 0 0) v') ?hk (fun hk => ?hmain)
  case hk =>
   rintro e' w7 ⟨v', rfl, hc7, hq7⟩
   have hBl7 := hc7.l
   obtain ⟨va7, vc7, hv7, -⟩ := Sl.rd hc7.s |>.shape
   subst hv7
   refine qN rfl ?_; refine qV (yld U45 rfl rfl hBl7 rfl) ?_; refine qV (yas rfl) ?_; refine qV (yas rfl) ?_; refine rEnd ?_; refine run_ret Tryz.func13 rfl ?_
   exact ⟨_, rfl, hx06.trans_new hq7.kp (fun i hi => hi.elim (fun e => by omega) (fun e => by simp [Value.ownBlock] at e)), .inr ⟨by omega, _, rfl, hc7.s, fun g hg => (hq7.own g hg).elim (fun e => by simp [Value.ownBlock] at e) (fun e => by omega)⟩⟩
  case hmain =>
   refine run_if rfl (fun hr => ?_) (fun hr => ?_)
   ·skip
    rcases hI.std with ⟨e, -⟩ | ⟨-, hH, hB, -⟩
    ·exact absurd e hr
    ·obtain ⟨H', rfl⟩ : ∃ H', H = H' + 1 := ⟨H - 1, by omega⟩
     have hg6 : Ext w6 w6.drew := Ext.drew0 w6
     have hBp6 := hc6.g
     refine run_drawL [5] (fun w' => Ext w6 w') (by kernel_rfl) rfl ?_; refine qL [5] 0 rfl (fun _ hS => (by first | exact yld U80 rfl rfl (hS.blk hBt6) rfl | exact yld U80 rfl rfl (hS.blk hBp6) rfl | exact yld U80 rfl rfl (hS.blk hBO) rfl)) (hg6) ?_; refine qL [2, 3, 4, 5] 1 rfl (fun _ hS => (by first | exact yld U24 rfl rfl (hS.blk hBt6) rfl | exact yld U24 rfl rfl (hS.blk hBp6) rfl | exact yld U24 rfl rfl (hS.blk hBO) rfl)) (hg6) ?_; refine qL [3, 4, 5] 2 rfl (fun _ hS => (by first | exact ync rfl | exact yncf rfl)) (hg6) ?_; refine qL [4, 5] 3 rfl (fun _ hS => yfa fl74_1 rfl) (hg6) ?_
     refine qL [5] 4 rfl (fun _ hS => (by first | exact yld U3 rfl rfl (hS.blk hBt6) rfl | exact yld U3 rfl rfl (hS.blk hBp6) rfl | exact yld U3 rfl rfl (hS.blk hBO) rfl)) (hg6) ?_; refine hLate [5] (by kernel_rfl) (by kernel_rfl) ?_; refine qO 5 ?_; refine nCall (i := 5) rfl rfl rfl (ycv' (args := [.tmp 26]) cf49 rfl rfl) (rgAt_all (by omega) H' _ T nb F T.root [] none ns es [] _ (h6.ext hg6) (hc6.ext hg6) hFl (fun g hg => by simp [Value.ownBlock] at hg) hB (by simp; omega)) ?_
     rintro _ w8 ⟨rfl, v8, hc8, hq8⟩
     refine ⟨trivial, ?_⟩
     rw [takeR_range] at hc8
     refine qE ?_; refine Run.qb (e := [(6, _), (7, _), (8, _)]) ?_
     exact (hk _ _ ⟨v8, rfl, hc8, ((RgQ.refl w6 bl _).ext hg6).trans hq8⟩).qb
   ·skip
    refine run_skip ?_
    rcases hI.std with ⟨-, -, -, rfl⟩ | ⟨e, -⟩
    ·exact (hk _ _ ⟨_, rfl, by simpa [rangeE] using hc6, RgQ.refl _ _ _⟩).qb
    ·exact absurd e hr
end
end Go.Proofs.YtocnhaoilnojmaaGreat
namespace Go.Proofs.YtocnhaoilnojmaaGreat
open Go Go.RowKit
set_option linter.all false
theorem Ch.det {S S' : Int → Bytes → Option Bytes → List Int → Es → Prop} (hS : ∀ x l u n e l' u' n' e', S x l u n e → S' x l' u' n' e' → n = n' ∧ e = e') : ∀ {ps : List (Bytes × Nat)} {lo lo' : Bytes} {hi hi' : Option Bytes} {c : Nat} {ns ns' : List Int} {es es' : Es}, Ch S lo hi c ps ns es → Ch S' lo' hi' c ps ns' es' → ns = ns' ∧ es = es'
 | [], _, _, _, _, _, _, _, _, _, h, h' => hS _ _ _ _ _ _ _ _ _ h h'
 | (k, d) :: r, _, _, _, _, _, _, _, _, _, h, h' => by
   obtain ⟨n1, n2, e1, e2, rfl, rfl, h1, h2⟩ := h
   obtain ⟨n3, n4, e3, e4, rfl, rfl, h3, h4⟩ := h'
   obtain ⟨rfl, rfl⟩ := hS _ _ _ _ _ _ _ _ _ h1 h3
   obtain ⟨rfl, rfl⟩ := Ch.det hS h2 h4
   exact ⟨rfl, rfl⟩
theorem bn_det {z : Nat} {N : Nodes} (hz : sizeOk (z : Int)) : ∀ {h h' : Nat} {no : Int} {lo lo' : Bytes} {hi hi' : Option Bytes} {ns ns' : List Int} {es es' : Es}, Bn z N h no lo hi ns es → Bn z N h' no lo' hi' ns' es' → h = h' ∧ ns = ns' ∧ es = es'
 | 0, _, _, _, _, _, _, _, _, _, _, s, _ => s.elim
 | _, 0, _, _, _, _, _, _, _, _, _, _, s => s.elim
 | 1, 1, no, _, _, _, _, _, _, _, _, s, s' => by
   obtain ⟨h1, rfl, -⟩ := s.leaf (by have := hz.2.1; omega)
   obtain ⟨h2, rfl, -⟩ := s'.leaf (by have := hz.2.1; omega)
   rw [h1] at h2
   have e := congrArg (fun n => n.keys.zip n.vals) (Option.some.inj h2)
   simp only [leafNd, zip_es] at e
   exact ⟨rfl, rfl, e⟩
 | 1, h' + 2, no, _, _, _, _, _, _, _, _, s, s' => by
   obtain ⟨h1, -⟩ := s.leaf (by have := hz.2.1; omega)
   obtain ⟨c, ps, _, h2, -⟩ := s'.inner (by have := hz.1; omega)
   rw [h1] at h2
   have e := congrArg Nd.leaf (Option.some.inj h2)
   simp [leafNd, innNd] at e
 | h + 2, 1, no, _, _, _, _, _, _, _, _, s, s' => by
   obtain ⟨h1, -⟩ := s'.leaf (by have := hz.2.1; omega)
   obtain ⟨c, ps, _, h2, -⟩ := s.inner (by have := hz.1; omega)
   rw [h1] at h2
   have e := congrArg Nd.leaf (Option.some.inj h2)
   simp [leafNd, innNd] at e
 | h + 2, h' + 2, no, _, _, _, _, _, _, _, _, s, s' => by
   obtain ⟨c, ps, n1, h1, rfl, -, -, -, -, -, c1⟩ := s.inner (by have := hz.1; omega)
   obtain ⟨c', ps', n2, h2, rfl, -, -, -, -, -, c2⟩ := s'.inner (by have := hz.1; omega)
   rw [h1] at h2
   have e := Option.some.inj h2
   have ek : ps.map (·.1) = ps'.map (·.1) := congrArg Nd.keys e
   have ec : c :: ps.map (·.2) = c' :: ps'.map (·.2) := congrArg Nd.kids e
   obtain ⟨rfl, ec2⟩ := List.cons.inj ec
   have ep : ps = ps' := by
    have a := zip_ps ps
    rw [ek, ec2, zip_ps ps'] at a
    exact a.symm
   subst ep
   obtain ⟨u1, m1, f1, g1⟩ := c1.first
   obtain ⟨u2, m2, f2, g2⟩ := c2.first
   obtain ⟨e1, -, -⟩ := bn_det hz g1 g2
   have e1' : h = h' := by omega
   subst e1'
   obtain ⟨rfl, rfl⟩ := Ch.det (S := Bn z N (h + 1)) (S' := Bn z N (h + 1)) (fun x l u n e l' u' n' e' a b => (bn_det hz a b).2) c1 c2
   exact ⟨rfl, rfl, rfl⟩
end Go.Proofs.YtocnhaoilnojmaaGreat
namespace Go.Proofs.YtocnhaoilnojmaaGreat
open Go Go.RowKit
set_option linter.all false
abbrev Pgs := List (Int × Bytes)
/-- Numbers strictly rising. -/
def RiseP (l : Pgs) : Prop := l.Pairwise fun a b => a.1 < b.1
theorem RiseP.nodup {l : Pgs} (h : RiseP l) : l.Nodup := h.imp fun h e => by subst e; omega
theorem RiseP.nodup1 {l : Pgs} (h : RiseP l) : (l.map (·.1)).Nodup := List.pairwise_map.2 (h.imp fun h => by omega)
theorem RiseP.uniq {l : Pgs} (h : RiseP l) {a b : Int × Bytes} (ha : a ∈ l) (hb : b ∈ l) (e : a.1 = b.1) : a = b := by
 induction l with
 | nil => cases ha
 | cons x r ih =>
   obtain ⟨h1, h2⟩ := List.pairwise_cons.1 h
   rcases List.mem_cons.1 ha with rfl | ha' <;> rcases List.mem_cons.1 hb with rfl | hb'
   ·rfl
   ·have := h1 b hb'; omega
   ·have := h1 a ha'; omega
   ·exact ih h2 ha' hb'
/-- Two of them with the same members are one. -/
theorem RiseP.ext {l m : Pgs} (hl : RiseP l) (hm : RiseP m) (h : ∀ x, x ∈ l ↔ x ∈ m) : l = m := by
 have hp : l.Perm m := (List.perm_ext_iff_of_nodup hl.nodup hm.nodup).2 h
 exact List.Perm.eq_of_pairwise (le := fun a b : Int × Bytes => a.1 < b.1) (fun a b _ _ h1 h2 => by omega) hl hm hp
theorem RiseP.of_le {l : Pgs} (h : l.Pairwise fun a b => a.1 ≤ b.1) (hn : (l.map (·.1)).Nodup) : RiseP l := by
 have h2 := List.pairwise_map.1 hn
 exact (h.and h2).imp fun ⟨a, b⟩ => by omega
/-- A page's block. -/
def encAt (z : Nat) (N : Nodes) (x : Int) : Bytes := match N x with
 | some n => enc z n
 | none => []
/-- The pages of these numbers. -/
def pgs (z : Nat) (N : Nodes) (ns : List Int) (p : Int → Bool) : Pgs := ((sortZ ns).filter p).map fun x => (x, encAt z N x)
theorem pgs_mem {z : Nat} {N : Nodes} {ns : List Int} {p : Int → Bool} {x : Int × Bytes} : x ∈ pgs z N ns p ↔ x.1 ∈ ns ∧ p x.1 = true ∧ x.2 = encAt z N x.1 := by
 unfold pgs
 rw [List.mem_map]
 constructor
 ·rintro ⟨y, hy, rfl⟩
  rw [List.mem_filter, sortZ_mem] at hy
  exact ⟨hy.1, hy.2, rfl⟩
 ·rintro ⟨h1, h2, h3⟩
  exact ⟨x.1, by rw [List.mem_filter, sortZ_mem]; exact ⟨h1, h2⟩, by rw [← h3]⟩
theorem pgs_rise {z : Nat} {N : Nodes} {ns : List Int} {p : Int → Bool} (h : ns.Nodup) : RiseP (pgs z N ns p) := by
 unfold pgs
 exact List.pairwise_map.2 ((sortZ_lt h).filter p)
theorem pgs_fst {z : Nat} {N : Nodes} {ns : List Int} {p : Int → Bool} : (pgs z N ns p).map (·.1) = (sortZ ns).filter p := by
 unfold pgs; rw [List.map_map]; simp [Function.comp_def]
theorem pgs_all_len {z : Nat} {N : Nodes} {ns : List Int} : (pgs z N ns fun _ => true).length = ns.length := by
 unfold pgs
 rw [List.length_map, List.filter_eq_self.2 (fun _ _ => rfl), sortZ_len]
/-- What stands in a list of pages, sorted, is the pages. -/
theorem pgs_of {z : Nat} {N : Nodes} {ns : List Int} {p : Int → Bool} {l : Pgs} (hn : ns.Nodup) (hl : l.Pairwise fun a b => a.1 ≤ b.1) (hnd : (l.map (·.1)).Nodup) (hm : ∀ x, x ∈ l.map (·.1) ↔ x ∈ ns ∧ p x = true) (ht : ∀ x ∈ l, x.2 = encAt z N x.1) : l = pgs z N ns p := by
 refine (RiseP.of_le hl hnd).ext (pgs_rise hn) fun x => ?_
 rw [pgs_mem]
 constructor
 ·intro hx
  have := (hm x.1).1 (List.mem_map.2 ⟨x, hx, rfl⟩)
  exact ⟨this.1, this.2, ht x hx⟩
 ·rintro ⟨h1, h2, h3⟩
  obtain ⟨y, hy, e⟩ := List.mem_map.1 ((hm x.1).2 ⟨h1, h2⟩)
  have : y = x := Prod.ext e (by rw [ht y hy, h3, e])
  rw [← this]; exact hy

/-! ### Written over one another -/
def writ (fr : List Int) : Pgs → Pgs → Pgs
 | [], c => c
 | s, [] => s.filter fun x => decide (x.1 ∉ fr)
 | a :: s, c :: cs => if c.1 < a.1 then c :: writ fr (a :: s) cs else if c.1 = a.1 then c :: writ fr s cs else if a.1 ∈ fr then writ fr s (c :: cs) else a :: writ fr s (c :: cs)
termination_by s c => s.length + c.length
end Go.Proofs.YtocnhaoilnojmaaGreat
namespace Go.Proofs.YtocnhaoilnojmaaGreat
open Go Go.Proofs Go.Shelf
set_option linter.all false
def sortFA_ren : Go.Shelf.Ren := ⟨fun | 6 => 90 | 15 => 93 | 14 => 117 | 28 => 127 | 29 => 128 | 20 => 141 | 21 => 142 | 22 => 143 | 23 => 144 | 24 => 145 | 25 => 146 | 26 => 147 | 27 => 148 | 46 => 164 | 47 => 150 | 48 => 151 | 49 => 165 | 50 => 166 | 57 => 169 | n => n, fun | 22 => 52 | 24 => 55 | 25 => 135 | 3 => 3 | 39 => 118 | 0 => 0 | 53 => 89 | 55 => 175 | 4 => 4 | 46 => 167 | 45 => 166 | 50 => 85 | 5 => 5 | 9 => 9 | 66 => 188 | 70 => 192 | 76 => 205 | 77 => 206 | n => n, fun | n => n⟩
theorem sortFA : Go.Proofs.SlLaysF0.n6 Tryz.prog sortFA_ren := {
  mixed := by kernel_rfl
  f6 := ⟨Tryz.f90.name, by decide, Tryz.func90.trans (congrArg some (by kernel_rfl))⟩
  f14 := ⟨Tryz.f117.name, by decide, Tryz.func117.trans (congrArg some (by kernel_rfl))⟩
  f15 := Tryz.func93.trans (congrArg some (by kernel_rfl))
  f20 := ⟨Tryz.f141.name, by decide, Tryz.func141.trans (congrArg some (by kernel_rfl))⟩
  f21 := ⟨Tryz.f142.name, by decide, Tryz.func142.trans (congrArg some (by kernel_rfl))⟩
  f22 := ⟨Tryz.f143.name, by decide, Tryz.func143.trans (congrArg some (by kernel_rfl))⟩
  f23 := ⟨Tryz.f144.name, by decide, Tryz.func144.trans (congrArg some (by kernel_rfl))⟩
  f24 := ⟨Tryz.f145.name, by decide, Tryz.func145.trans (congrArg some (by kernel_rfl))⟩
  f25 := ⟨Tryz.f146.name, by decide, Tryz.func146.trans (congrArg some (by kernel_rfl))⟩
  f26 := ⟨Tryz.f147.name, by decide, Tryz.func147.trans (congrArg some (by kernel_rfl))⟩
  f27 := ⟨Tryz.f148.name, by decide, Tryz.func148.trans (congrArg some (by kernel_rfl))⟩
  f28 := Tryz.func127.trans (congrArg some (by kernel_rfl))
  f29 := Tryz.func128.trans (congrArg some (by kernel_rfl))
  f46 := ⟨Tryz.f164.name, by decide, Tryz.func164.trans (congrArg some (by kernel_rfl))⟩
  f47 := Tryz.func150.trans (congrArg some (by kernel_rfl))
  f48 := Tryz.func151.trans (congrArg some (by kernel_rfl))
  f49 := ⟨Tryz.f165.name, by decide, Tryz.func165.trans (congrArg some (by kernel_rfl))⟩
  f50 := ⟨Tryz.f166.name, by decide, Tryz.func166.trans (congrArg some (by kernel_rfl))⟩
  f57 := ⟨Tryz.f169.name, by decide, Tryz.func169.trans (congrArg some (by kernel_rfl))⟩
  t0 := Tryz.underlying0
  a0 := Tryz.isAgg0
  z0 := Tryz.sizeOf0
  v0 := Tryz.zeroValue0
  t3 := Tryz.underlying3
  a3 := Tryz.isAgg3
  z3 := Tryz.sizeOf3
  v3 := Tryz.zeroValue3
  t4 := Tryz.underlying4
  a4 := Tryz.isAgg4
  z4 := Tryz.sizeOf4
  v4 := Tryz.zeroValue4
  t5 := Tryz.underlying5
  a5 := Tryz.isAgg5
  z5 := Tryz.sizeOf5
  v5 := Tryz.zeroValue5
  t9 := Tryz.underlying9
  a9 := Tryz.isAgg9
  z9 := Tryz.sizeOf9
  v9 := Tryz.zeroValue9
  t22 := Tryz.underlying52
  a22 := Tryz.isAgg52
  z22 := Tryz.sizeOf52
  v22 := Tryz.zeroValue52
  t25 := Tryz.underlying135
  a25 := Tryz.isAgg135
  z25 := Tryz.sizeOf135
  v25 := Tryz.zeroValue135
  t39 := Tryz.underlying118
  a39 := Tryz.isAgg118
  z39 := Tryz.sizeOf118
  v39 := Tryz.zeroValue118
  t45 := Tryz.underlying166
  a45 := Tryz.isAgg166
  z45 := Tryz.sizeOf166
  v45 := Tryz.zeroValue166
  t46 := Tryz.underlying167
  a46 := Tryz.isAgg167
  z46 := Tryz.sizeOf167
  v46 := Tryz.zeroValue167
  t50 := Tryz.underlying85
  a50 := Tryz.isAgg85
  z50 := Tryz.sizeOf85
  v50 := Tryz.zeroValue85
  t53 := Tryz.underlying89
  a53 := Tryz.isAgg89
  z53 := Tryz.sizeOf89
  v53 := Tryz.zeroValue89
  t55 := Tryz.underlying175
  a55 := Tryz.isAgg175
  z55 := Tryz.sizeOf175
  v55 := Tryz.zeroValue175
  t66 := Tryz.underlying188
  a66 := Tryz.isAgg188
  z66 := Tryz.sizeOf188
  v66 := Tryz.zeroValue188
  t70 := Tryz.underlying192
  a70 := Tryz.isAgg192
  z70 := Tryz.sizeOf192
  v70 := Tryz.zeroValue192
  t76 := Tryz.underlying205
  a76 := Tryz.isAgg205
  z76 := Tryz.sizeOf205
  v76 := Tryz.zeroValue205
  t77 := Tryz.underlying206
  a77 := Tryz.isAgg206
  z77 := Tryz.sizeOf206
  v77 := Tryz.zeroValue206 }
end Go.Proofs.YtocnhaoilnojmaaGreat
namespace Go.Proofs.YtocnhaoilnojmaaGreat
open Go Go.RowKit Go.Shelf Go.Lib Go.Sort
set_option linter.all false
set_option maxRecDepth 100000
/-- A page with a number that may be. -/
abbrev PgN := {x : Int × Bytes // 0 ≤ x.1 ∧ x.1 ≤ 2147483647}
instance : Inhabited PgN := ⟨⟨(0, []), by decide⟩⟩
def encP (x : PgN) : List Value := [I x.1.1, S x.1.2]
def cmpP (x y : PgN) : Int := x.1.1 - y.1.1
theorem ltP (x y : PgN) : ltOf cmpP x y = decide (x.1.1 < y.1.1) := by
 unfold ltOf cmpP
 by_cases h : x.1.1 < y.1.1
 ·rw [decide_eq_true h]; simp; omega
 ·rw [decide_eq_false h]; simp; omega
theorem swoP : SWO (ltOf cmpP) where
 irrefl x := by rw [ltP]; simp
 trans x y z h1 h2 := by rw [ltP] at *; simp at *; omega
 ntrans x y z h1 h2 := by rw [ltP] at *; simp at *; omega
theorem pbxE {P : Program} {e : Env} {d : Option Nat} {ty t : TypeId} {pos : String} {aft : Array Edge} {g : Option (Nat × Bool)} {x : Operand} {w : World} {v : Value} {cs : List Value} (hx : look e x = some v) (hv : v.cells = cs.toArray) : Yp P e ⟨d, .box t x, ty, pos, aft, g⟩ w fun v' w' => v' = ptr w.heap.size 0 ∧ w' = w.alloc (.cells cs.toArray t) := by
 refine ⟨_, _, fun ρ hρ => ?_, rfl, rfl⟩
 simp [execOp, hρ _ _ hx, Instr.box, newVar, newRow, newObj, Sem.run, hv]
theorem cmpP_ret (x y : PgN) (w : World) : Ret Tryz.prog 91 [.agg #[I x.1.1, S x.1.2], .agg #[I y.1.1, S y.1.2]] w fun v w' => v = I (cmpP x y) ∧ w' = (w.alloc (.cells #[I x.1.1, S x.1.2] 55)).alloc (.cells #[I y.1.1, S y.1.2] 55) := by
 obtain ⟨hx0, hx1⟩ := x.2
 obtain ⟨hy0, hy1⟩ := y.2
 refine ret_of_run (e := [(0, _), (1, _)]) Tryz.func91 rfl Tryz.ntmps91 rfl rfl ?_; refine qN rfl ?_; refine rValP rfl rfl (pbxE (cs := [I x.1.1, S x.1.2]) rfl rfl) ?_
 rintro _ w1 ⟨rfl, hw1⟩
 refine rValP rfl rfl (pbxE (cs := [I y.1.1, S y.1.2]) rfl rfl) ?_
 rintro _ w2 ⟨rfl, hw2⟩
 have hB1 : Blk w1 w.heap.size [I x.1.1, S x.1.2] 55 := by rw [hw1]; exact blk_new w _ _
 have hB2 : Blk w2 w1.heap.size [I y.1.1, S y.1.2] 55 := by rw [hw2]; exact blk_new w1 _ _
 have hB1' : Blk w2 w.heap.size [I x.1.1, S x.1.2] 55 := by rw [hw2]; exact (ext_alloc w1 _).blk hB1
 refine qV (yas rfl) ?_; refine qM rfl ?_; refine qV (yfa fl55_0 rfl) ?_; refine qV ((by first | exact yld U3 rfl rfl hB1' rfl | exact yld U3 rfl rfl hB2 rfl)) ?_; refine qV (yfa fl55_0 rfl) ?_; refine qV ((by first | exact yld U3 rfl rfl hB1' rfl | exact yld U3 rfl rfl hB2 rfl)) ?_; refine qV (ysb rfl rfl (by omega)) ?_; refine qV (yas rfl) ?_; refine rEnd ?_; refine run_ret Tryz.func91 rfl ?_
 exact ⟨_, rfl, rfl, by rw [hw2, hw1]⟩
theorem cmpLaysP (blk off size : Nat) (w : World) : CmpLays Tryz.prog 91 #[] encP 2 cmpP blk off size w := fun m os dk hs x y =>
 Calls.mono (cmpP_ret x y _) fun _ _ ⟨v, he, hv, hw⟩ => ⟨by rw [he, hv], 0, #[.cells #[I x.1.1, S x.1.2] 55] ++ #[.cells #[I y.1.1, S y.1.2] 55], by rw [hw, alloc_eq_grow, alloc_eq_grow, grow_grow]; rfl⟩
/-- Pages in memory. -/
def pgC (l : Pgs) : List Value := l.flatMap fun x => [I x.1, S x.2]
theorem pgC_len (l : Pgs) : (pgC l).length = l.length * 2 := by
 induction l with
 | nil => rfl
 | cons x r ih => simp only [pgC, List.flatMap_cons, List.length_append, List.length_cons, List.length_nil] at ih ⊢; rw [ih]; omega
theorem pgC_app (a b : Pgs) : pgC (a ++ b) = pgC a ++ pgC b := by simp [pgC]
theorem flat2 {α : Type} (f g : α → Value) : ∀ (l : List α) (i : Nat), (l.flatMap fun x => [f x, g x])[2 * i]? = (l[i]?).map f ∧ (l.flatMap fun x => [f x, g x])[2 * i + 1]? = (l[i]?).map g
 | [], i => by simp
 | x :: r, 0 => by simp
 | x :: r, i + 1 => by
   have := flat2 f g r i
   simp only [List.flatMap_cons, List.getElem?_cons_succ]
   rw [show 2 * (i + 1) = 2 * i + 2 by omega, show 2 * i + 2 + 1 = 2 * i + 1 + 2 by omega]
   exact this
theorem flatK_list (d : Array PgN) : (flatK encP 2 d).toList = d.toList.flatMap encP := by
 apply List.ext_getElem?
 intro j
 by_cases hj : j < d.size * 2
 ·have h1 : (flatK encP 2 d).toList[j]? = some (encP d[j / 2]!)[j % 2]! := by
   have := get_flatK encP 2 d j hj
   rw [Array.getElem?_toList, Array.getElem?_eq_getElem (by simpa using hj)]
   rw [← this, getElem!_pos (flatK encP 2 d) j (by simpa using hj)]
  have hd : j / 2 < d.size := by omega
  have hg : d.toList[j / 2]? = some d[j / 2]! := by rw [Array.getElem?_toList, Array.getElem?_eq_getElem hd, getElem!_pos d (j / 2) hd]
  obtain ⟨f1, f2⟩ := flat2 (fun x : PgN => I x.1.1) (fun x : PgN => S x.1.2) d.toList (j / 2)
  rw [h1]
  rcases Nat.mod_two_eq_zero_or_one j with h0 | h0
  ·have e : j = 2 * (j / 2) := by omega
   rw [h0]
   conv => rhs; rw [e]
   show _ = (d.toList.flatMap fun x : PgN => [I x.1.1, S x.1.2])[2 * (j / 2)]?
   rw [f1, hg]; rfl
  ·have e : j = 2 * (j / 2) + 1 := by omega
   rw [h0]
   conv => rhs; rw [e]
   show _ = (d.toList.flatMap fun x : PgN => [I x.1.1, S x.1.2])[2 * (j / 2) + 1]?
   rw [f2, hg]; rfl
 ·rw [List.getElem?_eq_none (by simp; omega), List.getElem?_eq_none]
  have : (d.toList.flatMap encP).length = d.size * 2 := by
   have h : ∀ l : List PgN, (l.flatMap encP).length = l.length * 2 := fun l => by
    induction l with
    | nil => rfl
    | cons x r ih => simp only [List.flatMap_cons, List.length_append, ih, List.length_cons, encP, List.length_nil]; omega
   rw [h]; simp
  omega
theorem holds_of_blockV {w : World} {g : Nat} {cur : Array Value} {e : TypeId} {ss : List Value} (hb : w.heap[g]? = some (.cells cur e (0, 0))) (ht : cur.toList.take ss.length = ss) : Holds id w g 0 ss.toArray := by
 intro j hj
 have hj' : j < ss.length := by simpa using hj
 refine ⟨?_, by simp [World.frozen?, hb]⟩
 have h1 : (cur.toList.take ss.length)[j]? = ss[j]? := by rw [ht]
 rw [List.getElem?_take_of_lt hj'] at h1
 simp only [World.cell?, hb, Nat.zero_add]
 simp only [Option.isSome_none, Bool.false_eq_true, if_false]
 rw [← Array.getElem?_toList, h1]
 simp [hj']
theorem heap_sortedV {w : World} {g n : Nat} {os : Array Obj} {cur : Array Value} {e : TypeId} {fr : Nat × Nat} (d : Array Value) (hb : w.heap[g]? = some (.cells cur e fr)) :
  (grow (putRow id (Go.Sort.ahead w n) g 0 d) os).heap[g]? = some (.cells (putCells id 0 d cur) e fr) := by
 have hg : g < w.heap.size := (Array.getElem?_eq_some_iff.1 hb).1
 rw [heap_grow_old _ _ (by simpa using hg)]
 simp [putRow, mapBlock, Go.Sort.ahead, Array.getElem?_modify, hb, onCells]
theorem kp_sortedV {w : World} {g n : Nat} {os : Array Obj} (d : Array Value) : Kp (fun k => k = g) w (grow (putRow id (Go.Sort.ahead w n) g 0 d) os) := by
 refine ⟨rfl, rfl, rfl, by simp, fun k hk hne => ?_⟩
 rw [heap_grow_old _ _ (by simpa using hk)]
 have : g ≠ k := fun e => hne e.symm
 simp [putRow, mapBlock, Go.Sort.ahead, Array.getElem?_modify, this]
theorem take_putCellsV (cur : Array Value) (ts : List Value) (h : ts.length ≤ cur.size) : (putCells id 0 ts.toArray cur).toList.take ts.length = ts := by
 apply List.ext_getElem?
 intro j
 by_cases hj : j < ts.length
 ·rw [List.getElem?_take_of_lt hj, Array.getElem?_toList]
  simp [putCells, hj, show j < cur.size by omega]
 ·rw [List.getElem?_take_eq_none (by omega), List.getElem?_eq_none (by omega)]
section
variable {w : World}
theorem sortP_none {a : Option Addr} {cap : Nat} {fv : Value} : Ret Tryz.prog 90 [.slice a 0 cap, fv] w fun v w' => v = .tuple #[] ∧ w' = w := by
 have hins : Ret Tryz.prog 141 [.slice a 0 cap, I 0, I 0, fv] w fun v w' => v = .tuple #[] ∧ w' = w := by
  refine ret_of_run (e := [(0, _), (1, _), (2, _), (3, _)]) Tryz.func141 rfl Tryz.ntmps141 rfl rfl ?_; refine qN rfl ?_; refine qV (ymv rfl) ?_; refine qV (yad rfl rfl (by omega)) ?_; refine qV (yas rfl) ?_; refine rEnd ?_; refine run_block ?_; refine run_loop (α := Unit) (()) (fun _ => [(2, I 0), (8, I 1)]) (fun _ w' => w' = w) (fun _ => 0) (by repeat (first | exact Sub.nil | refine Sub.cons rfl ?_)) ?hI ?hround
  case hI => rfl
  case hround =>
   rintro _ w1 rfl ih
   try dsimp only
   refine run_seq ?_; refine qN rfl ?_; refine qV (ymv rfl) ?_; refine qV (ymv rfl) ?_; refine qV (ylt rfl rfl) ?_; refine rEnd ?_; refine run_if rfl (fun h => ?_) (fun h => ?_)
   ·exact absurd h (by decide)
   ·skip
    refine run_exit rfl ?_; refine run_end Tryz.func141 rfl ?_
    exact ⟨_, rfl, rfl, rfl⟩
 have hpdq : ∀ z : Int, Ret Tryz.prog 117 [.slice a 0 cap, I 0, I 0, I z, fv] w fun v w' => v = .tuple #[] ∧ w' = w := fun z => by
  refine ret_of_run (e := [(0, _), (1, _), (2, _), (3, _), (4, _)]) Tryz.func117 rfl Tryz.ntmps117 rfl rfl ?_; refine qN rfl ?_; refine qV (yas rfl) ?_; refine qM rfl ?_; refine qV (yas rfl) ?_; refine rEnd ?_; refine run_block ?_; refine run_loop (α := Unit) (()) (fun _ => [(0, .slice a 0 cap), (1, I 0), (2, I 0), (4, fv)]) (fun _ w' => w' = w) (fun _ => 0) (by repeat (first | exact Sub.nil | refine Sub.cons rfl ?_)) ?hI ?hround
  case hI => rfl
  case hround =>
   rintro _ w1 rfl ih
   try dsimp only
   refine run_block ?_; refine qN rfl ?_; refine qV (ymv rfl) ?_; refine qV (ymv rfl) ?_; refine qV (ysb rfl rfl (by omega)) ?_; refine qV (yas rfl) ?_; refine rEnd ?_; refine run_seq ?_; refine qN rfl ?_; refine qV (ymv rfl) ?_; refine qV (yle rfl rfl) ?_; refine rEnd ?_; refine run_if rfl (fun h => ?_) (fun h => ?_)
   ·skip
    refine qN rfl ?_; refine qV (ymv rfl) ?_; refine qV (ymv rfl) ?_; refine qV (ymv rfl) ?_; refine qV (ymv rfl) ?_; refine rCall rfl rfl (yc (args := [.tmp 26, .tmp 27, .tmp 28, .tmp 29]) cf141 rfl) (hins) ?_
    rintro _ w1 ⟨rfl, rfl⟩
    refine rEnd ?_; refine run_ret Tryz.func117 rfl ?_
    exact ⟨_, rfl, rfl, rfl⟩
   ·exact absurd (by decide) h
 have hlen : Ret Tryz.prog 93 [.int .u64 0] w fun v w' => (∃ z : Int, v = I z) ∧ w' = w :=
  Calls.mono (Any.bits_Len (SlLaysF0.n15.bits (P := Tryz.prog) { sortFA with }) 0 w (by omega) (by omega)) fun _ _ ⟨he, hw⟩ => ⟨_, he, ⟨_, rfl⟩, hw⟩
 refine ret_of_run (e := [(0, _), (1, _)]) Tryz.func90 rfl Tryz.ntmps90 rfl rfl ?_; refine qN rfl ?_; refine qV (ymv rfl) ?_; refine qV (yln U52 rfl) ?_; refine qV (yas rfl) ?_; refine rEnd ?_; refine run_reg rfl ?_; refine qV (ymv rfl) ?_; refine qV (ymv rfl) ?_; refine qV (ymv rfl) ?_; refine qV ((by first | exact ycvSu64 rfl U3 U118 (by omega) | exact ycv64 rfl U3 U118)) ?_; refine rCall rfl rfl (yc (args := [.tmp 10]) cf93 rfl) (hlen) ?_
 rintro _ w1 ⟨⟨z, rfl⟩, rfl⟩
 refine qV (ymv rfl) ?_; refine rCall rfl rfl (yc (args := [.tmp 7, .const (Value.int .i64 0), .tmp 8, .tmp 11, .tmp 12]) cf117 rfl) (hpdq z) ?_
 rintro _ w1 ⟨rfl, rfl⟩
 refine rEnd ?_; refine run_end Tryz.func90 rfl ?_
 exact ⟨_, rfl, rfl, rfl⟩
theorem sortP_ret {sv : Value} {l : Pgs} (hS : Sl w sv 55 2 l.length (pgC l)) (hl : l.length ≤ 1000000000) (hb : ∀ x ∈ l, 0 ≤ x.1 ∧ x.1 ≤ 2147483647) :
  Ret Tryz.prog 90 [sv, .func (.func 91) #[] #[]] w fun v w' => v = .tuple #[] ∧ Kp (fun k => sv.ownBlock = some k) w w' ∧ ∃ l', l'.Perm l ∧ (l'.Pairwise fun a b => a.1 ≤ b.1) ∧ Sl w' sv 55 2 l'.length (pgC l') := by
 rcases hS.2 with ⟨rfl, h1⟩ | ⟨g, cap, cur, rfl, hg, hh, hn, hc, hz, ht⟩
 ·refine (sortP_none (w := w) (a := none) (cap := 0)).mono fun v w' ⟨h, hw⟩ => ?_
  have : l = [] := List.eq_nil_of_length_eq_zero h1
  subst this
  exact ⟨h, by rw [hw]; exact Kp.refl _ _, [], List.Perm.refl _, List.Pairwise.nil, by rw [hw]; exact Sl.nil _ _ _⟩
 ·let d : List PgN := l.pmap (fun x h => ⟨x, h⟩) hb
  have hdl : d.length = l.length := List.length_pmap
  have hdm : d.map (·.1) = l := by
   show (l.pmap (fun x h => (⟨x, h⟩ : PgN)) hb).map (·.1) = l
   rw [List.map_pmap]
   simp
  have henc : ∀ d : List PgN, d.flatMap encP = pgC (d.map (·.1)) := fun d => by
   unfold pgC encP
   rw [List.flatMap_map]
  have hH : HoldsK encP 2 w g 0 d.toArray := by
   have e : flatK encP 2 d.toArray = (pgC l).toArray := by
    apply Array.toList_inj.1
    rw [flatK_list]
    show d.flatMap encP = pgC l
    rw [henc, hdm]
   unfold HoldsK
   rw [e]
   exact holds_of_blockV hh (by rw [pgC_len]; exact ht)
  have hlt : g < w.heap.size := hS.lt (g := g) rfl
  have h := AnyQ.slices_SortFunc sortFA 2 Tryz.isAgg55 Tryz.sizeOf55 encP (fun _ => rfl) (fun x v hv => by simp [encP] at hv; rcases hv with rfl | rfl <;> rfl) cmpP swoP 91 #[] g 0 cap d.toArray w (enters_of Tryz.func91 (by kernel_rfl) rfl) (cmpLaysP g 0 _ w) hH hlt (by simp [hdl]; omega)
  have hds : d.toArray.size = l.length := by simpa using hdl
  rw [hds] at h
  refine Calls.mono h fun _ _ ⟨he, d', n, os, hp, hs, hw⟩ => ⟨_, he, rfl, ?_, d'.toList.map (·.1), ?_, ?_, ?_⟩
  ·rw [hw]
   exact (show Kp (fun k => k = g) w _ from kp_sortedV _).mono' (fun k e => by subst e; rfl)
  ·obtain ⟨p1, -, p3⟩ := hp
   have e1 : (d'.extract 0 l.length).toList = d'.toList := by
    have : d'.size = l.length := by rw [p1, hds]
    rw [← this]; simp
   have e2 : (d.toArray.extract 0 l.length).toList = d := by
    rw [← hdl]; simp
   rw [e1, e2] at p3
   have := p3.map (fun x : PgN => x.1)
   rw [hdm] at this
   exact this
  ·refine List.pairwise_map.2 ?_
   rw [List.pairwise_iff_getElem]
   intro i j hi hj hij
   have hsz : d'.size = l.length := by rw [hp.1, hds]
   have hj' : j < d'.size := by simpa using hj
   have := hs i j (Nat.zero_le _) hij (by omega)
   rw [ltP] at this
   rw [getElem!_pos d' i (by omega), getElem!_pos d' j hj'] at this
   have := of_decide_eq_false this
   simp only [Array.getElem_toList]
   omega
  ·have hsz : d'.size = l.length := by rw [hp.1, hds]
   have hfl : (flatK encP 2 d').toList = pgC (d'.toList.map (·.1)) := by rw [flatK_list, henc]
   have hfa : flatK encP 2 d' = (pgC (d'.toList.map (·.1))).toArray := Array.toList_inj.1 hfl
   have hll : (d'.toList.map (fun x : PgN => x.1)).length = l.length := by simp [hsz]
   rw [hw]
   refine ⟨by rw [pgC_len, hll], .inr ⟨g, cap, putCells id 0 (flatK encP 2 d') cur, by rw [hll], hg, heap_sortedV _ hh, by omega, hc, by simp [putCells, hz], ?_⟩⟩
   rw [hfa, hll, ← hll, ← pgC_len]
   exact take_putCellsV cur _ (by rw [pgC_len, hll, hz]; exact Nat.mul_le_mul_right _ hn)
end
end Go.Proofs.YtocnhaoilnojmaaGreat
namespace Go.Proofs.YtocnhaoilnojmaaGreat
open Go Go.RowKit
set_option linter.all false
set_option maxRecDepth 100000
section
variable {w w' : World}
/-- A node whose slices were changed, each in its own memory or in new memory. -/
theorem NdM.re {n n' : Nd} {q : Pl} {kv' vv' cv' : Value} (hM : NdM w n q) (hB : Blk w' q.b [.bool n'.leaf, kv', vv', cv'] 84) (hK : Sl w' kv' 9 1 n'.keys.length (n'.keys.map S)) (hV : Sl w' vv' 9 1 n'.vals.length (n'.vals.map S)) (hC : Sl w' cv' 89 1 n'.kids.length (n'.kids.map u32v)) (hbd : n'.Bd)
  (ok : ∀ g, kv'.ownBlock = some g → q.kv.ownBlock = some g ∨ w.heap.size ≤ g) (ov : ∀ g, vv'.ownBlock = some g → q.vv.ownBlock = some g ∨ w.heap.size ≤ g) (oc : ∀ g, cv'.ownBlock = some g → q.cv.ownBlock = some g ∨ w.heap.size ≤ g)
  (dd : ∀ g, w.heap.size ≤ g → (kv'.ownBlock = some g → vv'.ownBlock ≠ some g ∧ cv'.ownBlock ≠ some g) ∧ (vv'.ownBlock = some g → cv'.ownBlock ≠ some g)) :
  NdM w' n' ⟨q.b, kv', vv', cv'⟩ ∧ ∀ k, Pl.fp ⟨q.b, kv', vv', cv'⟩ k → q.fp k ∨ w.heap.size ≤ k := by
 have hb := hM.blk.lt
 have hlt := hM.lt
 refine ⟨⟨hB, hK, hV, hC, hbd, ⟨fun e => ?_, fun e => ?_, fun e => ?_⟩, fun g hg => ⟨fun e => ?_, fun e => ?_⟩, fun g hg e => ?_⟩, fun g hg => ?_⟩
 ·rcases ok _ e with h | h
  ·exact hM.d1.1 h
  ·exact absurd hb (Nat.not_lt.2 h)
 ·rcases ov _ e with h | h
  ·exact hM.d1.2.1 h
  ·exact absurd hb (Nat.not_lt.2 h)
 ·rcases oc _ e with h | h
  ·exact hM.d1.2.2 h
  ·exact absurd hb (Nat.not_lt.2 h)
 ·rcases ok g hg with h | h
  ·rcases ov g e with h' | h'
   ·exact (hM.d2 g h).1 h'
   ·have := hlt g (.inr (.inl h)); omega
  ·exact ((dd g h).1 hg).1 e
 ·rcases ok g hg with h | h
  ·rcases oc g e with h' | h'
   ·exact (hM.d2 g h).2 h'
   ·have := hlt g (.inr (.inl h)); omega
  ·exact ((dd g h).1 hg).2 e
 ·rcases ov g hg with h | h
  ·rcases oc g e with h' | h'
   ·exact hM.d3 g h h'
   ·have := hlt g (.inr (.inr (.inl h))); omega
  ·exact (dd g h).2 hg e
 ·rcases hg with h | h | h | h
  ·exact .inl (.inl h)
  ·exact (ok g h).imp (fun e => .inr (.inl e)) id
  ·exact (ov g h).imp (fun e => .inr (.inr (.inl e))) id
  ·exact (oc g h).imp (fun e => .inr (.inr (.inr e))) id
theorem leaf_bd {z : Nat} {E : Es} (hz : sizeOk (z : Int)) (h : EsOk z E) (hb : entB E ≤ 100000) : (leafNd E).Bd := by
 have hl := entB_len h
 have hm : mostE z ≤ 5000 := by have := hz.2.1; unfold mostE; omega
 refine ⟨by simp [leafNd]; omega, by simp [leafNd]; omega, by simp [leafNd], fun k hk => ?_, fun v hv => ?_, by simp [leafNd]⟩
 ·obtain ⟨x, hx, rfl⟩ := List.mem_map.1 hk
  have := h.one x hx; omega
 ·obtain ⟨x, hx, rfl⟩ := List.mem_map.1 hv
  have := h.one x hx; omega
theorem insE_set {E : Es} {k v : Bytes} (h : hasE E k) : insE E k v = E.set (posE E k) (k, v) := by
 unfold insE
 rw [if_pos h, List.set_eq_take_append_cons_drop, if_pos (hasE_lt h)]
theorem insE_keys {E : Es} {k v : Bytes} (h : hasE E k) : (insE E k v).map (·.1) = E.map (·.1) := by
 rw [insE_set h, List.map_set]
 apply List.ext_getElem?
 intro i
 rw [List.getElem?_set]
 split
 ·rename_i e
  subst e
  split
  ·exact h.symm
  ·rename_i h2
   rw [List.getElem?_eq_none (by omega)]
 ·rfl
theorem insE_vals {E : Es} {k v : Bytes} (h : hasE E k) : (insE E k v).map (·.2) = (E.map (·.2)).set (posE E k) v := by rw [insE_set h, List.map_set]
theorem insE_new {E : Es} {k v : Bytes} (h : ¬ hasE E k) : insE E k v = E.take (posE E k) ++ (k, v) :: E.drop (posE E k) := by unfold insE; rw [if_neg h]
theorem insE_ne (E : Es) (k v : Bytes) : insE E k v ≠ [] := by unfold insE; simp
/-- The variables that Put's way down sees: the tree, key, value, itself. -/
structure PutC (w : World) (F : Nat → Prop) (p : Nat) (k v : Bytes) (bt bk bv bp : Nat) : Prop where
 t : Blk w bt [ptr p 0] 24
 k : Blk w bk [S k] 9
 v : Blk w bv [S v] 9
 f : Blk w bp [.func (.func 68) #[] #[ptr bt 0, ptr bk 0, ptr bv 0, ptr bp 0]] 110
 n : ¬ F bt ∧ ¬ F bk ∧ ¬ F bv ∧ ¬ F bp
theorem PutC.kp {F F' : Nat → Prop} {p : Nat} {k v : Bytes} {bt bk bv bp : Nat} (h : PutC w F p k v bt bk bv bp) (hk : Kp F w w') (hF : ∀ i, F' i → F i ∨ w.heap.size ≤ i) : PutC w' F' p k v bt bk bv bp := by
 obtain ⟨n1, n2, n3, n4⟩ := h.n
 have h1 := h.t.lt
 have h2 := h.k.lt
 have h3 := h.v.lt
 have h4 := h.f.lt
 exact ⟨hk.blk h.t n1, hk.blk h.k n2, hk.blk h.v n3, hk.blk h.f n4, fun e => (hF _ e).elim n1 (by omega), fun e => (hF _ e).elim n2 (by omega), fun e => (hF _ e).elim n3 (by omega), fun e => (hF _ e).elim n4 (by omega)⟩
/-- What Put's way down leaves. -/
structure PutPost (T : Tr) (h : Nat) (no : Int) (lo : Bytes) (hi : Option Bytes) (ns : List Int) (es : Es) (k v : Bytes) (val : Value) (T' : Tr) : Prop where
 cnt : T'.count = T.count + if hasE es k then 0 else 1
 evo : Evo T T' h
 out : (val = .tuple #[S [], I 0] ∧ One T.size h T.nodes T'.nodes no lo hi ns (insE es k v) ∧ ((∀ m, T.nodes no = some m → ¬ m.low T.size) → ∀ m, T'.nodes no = some m → m.keys ≠ [])) ∨ ∃ up more, val = .tuple #[S up, I ((more : Nat) : Int)] ∧ Two T.size h T.nodes T'.nodes no lo hi ns (insE es k v) up more
theorem Evo.cnt {T T' : Tr} {g c : Nat} (h : Evo T T' g) : Evo T { T' with count := c } g := ⟨h.size, h.old, h.root, h.len, h.giv, h.nod, ⟨h.srt.rise, h.srt.free⟩, h.chg⟩
end
end Go.Proofs.YtocnhaoilnojmaaGreat
namespace Go.Proofs.YtocnhaoilnojmaaGreat
open Go Go.RowKit
set_option linter.all false
set_option maxRecDepth 100000
section
variable {w : World}
set_option maxHeartbeats 4000000 in
theorem put_leaf_ret {p : Nat} {T : Tr} {nb : Int → Nat} {F : Nat → Prop} (h : TreeA w p T nb F) {k v : Bytes} {bt bk bv bp : Nat} (hc : PutC w F p k v bt bk bv bp) {no : Int} {lo : Bytes} {hi : Option Bytes} {ns : List Int} {E : Es} (hB : Bn T.size T.nodes 1 no lo hi ns E) (hin : inB lo hi k) (hk : keyOk k) (hkv : 3 + k.length + v.length ≤ mostE T.size) (hg : GivS T) (hgr : ∀ x ∈ T.given, 1 ≤ x ∧ x ≤ 2147483647) (hgl : T.given.length ≤ 4294967296) (h1g : E = [] ∨ 1 ≤ T.given.length) (hcnt : T.count ≤ 1000000000) :
  Ret Tryz.prog 68 [I no, ptr bt 0, ptr bk 0, ptr bv 0, ptr bp 0] w fun val w' => ∃ T' nb' F', TreeA w' p T' nb' F' ∧ PutPost T 1 no lo hi ns E k v val T' ∧ Kp F w w' ∧ (∀ k, F' k → F k ∨ w.heap.size ≤ k) ∧ ∀ x, T.nodes x ≠ none → x ∉ ns → nb' x = nb x := by
 have hz : sizeOk (T.size : Int) := size_ok h
 obtain ⟨z1, z2, -⟩ := id hz
 obtain ⟨hn, hns, hok, hbE, hinE⟩ := hB.leaf (by omega)
 have hEok := insE_ok (v := v) hok hk hkv
 have hEb := insE_entB (es := E) (k := k) (v := v)
 have hmz : mostE T.size ≤ 1100 := by unfold mostE; omega
 have hbd' := leaf_bd hz hEok (by omega)
 have hlE := entB_len hok
 have hlE' := entB_len hEok
 obtain ⟨mN, mC, mO, gv, kn, kc, ko, O⟩ := h.opn
 obtain ⟨q, hq, hM, hqF, hcl⟩ := h.nodeF hn
 obtain ⟨qb, qk, qv, qc⟩ := q
 dsimp only at hq
 subst hq
 have hBn := hM.blk
 have hK := hM.keys
 have hV := hM.vals
 have hC := hM.kids
 have hd1 := hM.d1
 have hd2 := hM.d2
 have hd3 := hM.d3
 dsimp only at hBn hK hV hC hd1 hd2 hd3
 have hvl : (leafNd E).vals.length = E.length := by simp [leafNd]
 have hkl : (leafNd E).keys.length = E.length := by simp [leafNd]
 rw [hvl] at hV
 rw [hkl] at hK
 have hBt := hc.t
 have hBk := hc.k
 have hBv := hc.v
 obtain ⟨nt, nk, nv, np⟩ := hc.n
 have hnbF : F (nb no) := (hqF _ (.inl rfl)).1
 have hp : pos (leafNd E).keys k = posE E k := rfl
 have hple := posE_le E k
 have hFl := h.lt
 refine ret_of_run (e := [(0, _), (1, _), (2, _), (3, _), (4, _)]) Tryz.func68 rfl Tryz.ntmps68 rfl rfl ?_; refine qN rfl ?_; refine qV (yas rfl) ?_; refine qV (yas rfl) ?_; refine qM rfl ?_; refine qV ((by first | exact yld U24 rfl rfl hBt rfl | exact yld U24 rfl rfl O.blk rfl | exact yld U24 rfl rfl hBn rfl)) ?_; refine qV ((by first | exact ync rfl | exact yncf rfl)) ?_; refine qV (yfa fl74_5 rfl) ?_; refine qV ((by first | exact yld U71 rfl rfl hBt rfl | exact yld U71 rfl rfl O.blk rfl | exact yld U71 rfl rfl hBn rfl)) ?_; refine qV (ymv rfl) ?_
 refine qV (ylk (k := no) (K := KZ) U71 (ky_int U3) ti81 rfl rfl O.nm.l) ?_
 rw [show (getL kn no).getD (.pointer none) = ptr (nb no) 0 by rw [O.ng no, hn]; rfl]
 refine qV (yas rfl) ?_; refine rEnd ?_; refine run_seq ?_; refine qN rfl ?_; refine qV (ymv rfl) ?_; refine qV ((by first | exact ync rfl | exact yncf rfl)) ?_; refine qV (yfa fl84_0 rfl) ?_; refine qV ((by first | exact yld U4 rfl rfl hBt rfl | exact yld U4 rfl rfl O.blk rfl | exact yld U4 rfl rfl hBn rfl)) ?_; refine rEnd ?_; refine run_true rfl ?_; refine run_seq ?_
 have hg0 : Ext w w.drew := Ext.drew0 w
 refine run_draw (fun w' => Ext w w') (by kernel_rfl) rfl ?_; refine qT 0 rfl (fun _ hS => ymv rfl) (hg0) ?_; refine qT 1 rfl (fun _ hS => (by first | exact ync rfl | exact yncf rfl)) (hg0) ?_; refine qT 2 rfl (fun _ hS => yfa fl84_1 rfl) (hg0) ?_; refine qT 3 rfl (fun _ hS => (by first | exact yld U23 rfl rfl (hS.blk hBn) rfl | exact yld U23 rfl rfl (hS.blk hBk) rfl)) (hg0) ?_; refine qT 4 rfl (fun _ hS => (by first | exact yld U9 rfl rfl (hS.blk hBn) rfl | exact yld U9 rfl rfl (hS.blk hBk) rfl)) (hg0) ?_; refine qO 5 ?_
 refine nCall (i := 5) rfl rfl rfl (yc (args := [.tmp 30, .tmp 31]) cf44 rfl) (bsearch_ret (leafNd E).keys k qk _ ((hM.keys.ext hg0).rd) (by rw [hkl]; omega) hok.rise) ?_
 rintro _ w1 ⟨rfl, rfl⟩
 refine ⟨hg0, ?_⟩
 rw [hp]
 refine qT 6 rfl (fun _ hS => ymv rfl) (hg0) ?_; refine qT 7 rfl (fun _ hS => yex rfl rfl) (hg0) ?_; refine qT 8 rfl (fun _ hS => yex rfl rfl) (hg0) ?_; refine qT 9 rfl (fun _ hS => yas rfl) (hg0) ?_; refine qT 10 rfl (fun _ hS => yas rfl) (hg0) ?_; refine qE ?_; refine Run.qb (e := [(0, _), (1, _), (2, _), (3, _), (4, _), (6, _), (7, _), (8, _), (9, _), (10, _)]) ?_; refine run_seq ?_; refine qN rfl ?_; refine qV (ymv rfl) ?_; refine rEnd ?_
 refine run_cut (fun e' w2 => ∃ F2 T2, e' = [(0, I no), (1, ptr bt 0), (2, ptr bk 0), (4, ptr bp 0), (6, S []), (7, I 0), (8, ptr (nb no) 0)] ∧ T2 = ({ T.setN no (leafNd (insE E k v)) with count := T.count + if hasE E k then 0 else 1 } : Tr) ∧ TreeA w2 p T2 nb F2 ∧ Kp F w w2 ∧ ∀ k, F2 k → F k ∨ w.heap.size ≤ k) ?hk (fun hk => ?hmain)
 case hk =>
  rintro e' w2 ⟨F2, T2, rfl, hT2, h2, hk2, hF2⟩
  have hc2 := hc.kp hk2 hF2
  have hBt2 := hc2.t
  obtain ⟨mN2, mC2, mO2, gv2, kn2, kc2, ko2, O2⟩ := h2.opn
  refine qN rfl ?_; refine qV ((by first | exact yld U24 rfl rfl hBt2 rfl | exact yld U24 rfl rfl O2.blk rfl)) ?_; refine qV ((by first | exact ync rfl | exact yncf rfl)) ?_; refine qV (yfa fl74_7 rfl) ?_; refine qV ((by first | exact yld U72 rfl rfl hBt2 rfl | exact yld U72 rfl rfl O2.blk rfl)) ?_; refine qV (ymv rfl) ?_; refine rEffP rfl (zmuB (k := no) (K := KZ) U72 (ky_int U3) rfl rfl rfl O2.cm) ?_
  rintro w3 ⟨hM3, hk3⟩
  have h3 := O2.setC w3 _ (updI T2.changed no true) hM3 hk3 (fun x => by
   rw [getL_put]
   by_cases e : x = no
   ·subst e; simp [flag, updI]
   ·rw [if_neg e, O2.cg]; simp [updI, e])
  obtain ⟨T3, hT3⟩ : ∃ X, X = ({ T2 with changed := updI T2.changed no true } : Tr) := ⟨_, rfl⟩
  rw [← hT3] at h3
  have hs3 : T3.size = T.size := by rw [hT3, hT2]; rfl
  have hk23 : Kp F2 w2 w3 := hk3.mono' (fun k hk => by rw [hk]; exact O2.fp.2.2.1)
  have hk03 : Kp F w w3 := hk2.trans_new hk23 (fun i hi => (hF2 i hi).symm)
  have hn3 : T3.nodes no = some (leafNd (insE E k v)) := by rw [hT3, hT2]; exact updI_same _ _ _
  obtain ⟨mN3, mC3, mO3, gv3, kn3, kc3, ko3, O3⟩ := h3.opn
  obtain ⟨q3, hq3, hM3', hq3F, hcl3⟩ := h3.nodeF hn3
  obtain ⟨q3b, q3k, q3v, q3c⟩ := q3
  dsimp only at hq3
  subst hq3
  have hBn3 := hM3'.blk
  dsimp only at hBn3
  have hc3 : PutC w3 F2 p k v bt bk bv bp := hc2.kp hk23 (fun i hi => .inl hi)
  have hBt3 := hc3.t
  refine rEnd ?_; refine run_seq ?_; refine run_seq ?_
  have hg3 : Ext w3 w3.drew := Ext.drew0 w3
  refine run_draw (fun w' => Ext w3 w') (by kernel_rfl) rfl ?_; refine qT 0 rfl (fun _ hS => ymv rfl) (hg3) ?_; refine qT 1 rfl (fun _ hS => (by first | exact ync rfl | exact yncf rfl)) (hg3) ?_; refine qT 2 rfl (fun _ hS => (by first | exact yldA U84 rfl ti84 rfl (Blk.cells (n := 4) (hS.blk hBn3) (news := [_, _, _, _]) rfl) rfl | exact yldA U84 rfl ti84 rfl (Blk.cells (n := 4) (hS.blk hBt3) (news := [_, _, _, _]) rfl) rfl | exact yldA U84 rfl ti84 rfl (Blk.cells (n := 4) (hS.blk O3.blk) (news := [_, _, _, _]) rfl) rfl)) (hg3) ?_
  refine qT 4 rfl (fun _ hS => (by first | exact yld U24 rfl rfl (hS.blk hBn3) rfl | exact yld U24 rfl rfl (hS.blk hBt3) rfl | exact yld U24 rfl rfl (hS.blk O3.blk) rfl)) (hg3) ?_; refine qT 5 rfl (fun _ hS => (by first | exact ync rfl | exact yncf rfl)) (hg3) ?_; refine qT 6 rfl (fun _ hS => yfa fl74_0 rfl) (hg3) ?_; refine qT 7 rfl (fun _ hS => (by first | exact yld U3 rfl rfl (hS.blk hBn3) rfl | exact yld U3 rfl rfl (hS.blk hBt3) rfl | exact yld U3 rfl rfl (hS.blk O3.blk) rfl)) (hg3) ?_; refine qO 3 ?_
  refine nCall (i := 3) rfl rfl rfl (yc (args := [.tmp 79]) cf70 rfl) (bytes_ret (leafNd (insE E k v)) q3k q3v q3c _ (hM3'.r.ext hg3) hM3'.bd) ?_
  rintro _ w4 ⟨rfl, hx4⟩
  refine ⟨hg3.trans hx4, ?_⟩
  refine qT 8 rfl (fun _ hS => yle rfl rfl) (hg3.trans hx4) ?_; refine qE ?_
  have hx34 := hg3.trans hx4
  have hz1 := hk2.size
  have hz3 := hk23.size
  have hz4 := hx34.size
  have hevo : Evo T { (T.setN no (leafNd (insE E k v))).mark no with count := T.count + if hasE E k then 0 else 1 } 0 := (Evo.set hg hn).cnt
  have hT3' : T3 = { (T.setN no (leafNd (insE E k v))).mark no with count := T.count + if hasE E k then 0 else 1 } := by rw [hT3, hT2]; rfl
  rw [leafNd_bytes, hs3]
  refine run_if rfl (fun hb => ?_) (fun hb => ?_)
  ·skip
   refine qN rfl ?_; refine qV (yas rfl) ?_; refine qV (yas rfl) ?_; refine rEnd ?_; refine run_ret Tryz.func68 rfl ?_; refine ⟨_, rfl, T3, nb, F2, h3.ext hx34, ⟨by rw [hT3'], by rw [hT3']; exact hevo.mono (by omega), .inl ⟨rfl, ?_, fun _ m hm => ?_⟩⟩, hk03.trans (hx34.kp), hF2, fun _ _ _ => rfl⟩
   ·rw [hT3']; exact put_leaf1 hz hB hin hk hkv (by omega)
   ·rw [hn3] at hm
    cases hm
    intro e
    exact insE_ne E k v (by simpa [leafNd] using e)
  ·skip
   have hb' : T.size < 3 + entB (insE E k v) := by omega
   obtain ⟨c1, c2, -⟩ := cut_ok hz hEok hb' (by omega)
   obtain ⟨no', gs, hgs⟩ : ∃ a l, T.given = a :: l := by
    cases e : T.given with
    | nil =>
      rcases h1g with h0 | h1
      ·subst h0
       have e1 : insE [] k v = [(k, v)] := by unfold insE; simp
       rw [e1] at hb'
       simp [entB] at hb'
       unfold mostE at hkv
       omega
      ·rw [e] at h1; simp at h1
    | cons a l => exact ⟨a, l, rfl⟩
   have hno' := hgr no' (by rw [hgs]; simp)
   have hfree := hg.free no' (by rw [hgs]; simp)
   obtain ⟨f, hf⟩ : ∃ f : Nat, no' = (f : Int) := ⟨no'.toNat, by omega⟩
   subst hf
   have hnof : no ≠ (f : Int) := fun e => by rw [← e, hn] at hfree; cases hfree.1
   obtain ⟨up, hup, htwo⟩ := put_leaf2 (v := v) hz hB hin hk hkv hb' hfree.1 (by omega)
   have hM4 : NdM w4 (leafNd (insE E k v)) ⟨nb no, q3k, q3v, q3c⟩ := hM3'.kp hx34 (fun _ _ => id)
   have hcut := cut_ret hM4 c1 c2
   dsimp only at hcut
   refine run_skip ?_; refine qN rfl ?_; refine qV (ymv rfl) ?_; refine rCall rfl rfl (yc (args := [.tmp 86]) cf71 rfl) (hcut) ?_
   rintro _ w5 ⟨kv2, vv2, q5, rfl, hq5b, hq5c, hM5, hK5, hV5, hk45, ok5, ov5, okk5, ovv5⟩
   have hlt4 : ∀ i, F2 i → i < w4.heap.size := (h3.ext hx34).lt
   obtain ⟨F5, h5, hF5⟩ := hcl3 w5 _ q5 hq5b hM5 ((hx34.kp).trans (hk45.mono' (fun i hi => .inl hi))) (fun i hi => by
    rcases hi with e | e | e | e
    ·exact .inl (.inl (by rw [e, hq5b]))
    ·exact .inr (fun hh => by have := ok5 i e; have := hlt4 i hh; omega)
    ·exact .inr (fun hh => by have := ov5 i e; have := hlt4 i hh; omega)
    ·exact .inl (.inr (.inr (.inr (by rw [hq5c] at e; exact e)))))
   obtain ⟨T5, hT5⟩ : ∃ X, X = T3.setN no (leafNd ((insE E k v).take (halfOf (sizes (insE E k v))))) := ⟨_, rfl⟩
   rw [← hT5] at h5
   have hz5 := hk45.size
   have hlt5 := h5.lt
   refine rValP rfl rfl (pal (cs := [_, _, _, _]) ti84 rfl) ?_
   rintro _ w6 ⟨b6, rfl, hb6, hx6, hB6⟩
   have hz6 := hx6.size
   refine rEffP rfl (zstA (news := [.bool true, kv2, vv2, .slice none 0 0]) ti84 rfl rfl (by simp only [List.all_cons, List.all_nil, oneV_sl hK5, oneV_sl hV5, Bool.and_true]; rfl) rfl hB6 (by simp)) ?_
   rintro w7 ⟨hB7, hk67⟩
   have hz7 := hk67.size
   have hx57 : Ext w5 w7 := hx6.trans_new hk67 (fun i hi => by omega)
   have hBr : Blk w7 b6 [.bool true, kv2, vv2, .slice none 0 0] 84 := hB7
   have h7 := h5.ext hx57
   have hk35 : Kp F2 w3 w5 := (hx34.kp).trans (hk45.mono' (fun i hi => by rw [hi]; exact (hq3F _ (.inl rfl)).1))
   have hk05 : Kp F w w5 := hk03.trans_new hk35 (fun i hi => (hF2 i hi).symm)
   have hk07 : Kp F w w7 := hk05.trans hx57.kp
   have hF5' : ∀ i, F5 i → F i ∨ w.heap.size ≤ i := fun i hi => by
    rcases hF5 i hi with e | e
    ·exact hF2 i e
    ·rcases e with e | e | e | e
     ·exact hF2 i (by rw [e, hq5b]; exact (hq3F _ (.inl rfl)).1)
     ·exact .inr (by have := ok5 i e; omega)
     ·exact .inr (by have := ov5 i e; omega)
     ·exact hF2 i (hq3F i (.inr (.inr (.inr (by rw [hq5c] at e; exact e))))).1
   have hnotK : ∀ i, kv2.ownBlock = some i → ¬ F5 i := fun i hi hh => by
    obtain ⟨a1, a2, -⟩ := okk5 i hi
    rcases hF5 i hh with e | e
    ·have := hlt4 i e; omega
    ·exact a2 e
   have hnotV : ∀ i, vv2.ownBlock = some i → ¬ F5 i := fun i hi hh => by
    obtain ⟨a1, a2⟩ := ovv5 i hi
    rcases hF5 i hh with e | e
    ·have := hlt4 i e; omega
    ·exact a2 e
   have hc7 := hc.kp hk07 hF5'
   have hBt7 := hc7.t
   have hb6F : ¬ F5 b6 := fun hh => by have := hlt5 b6 hh; omega
   have hdl : 1 ≤ ((insE E k v).drop (halfOf (sizes (insE E k v)))).length := by rw [List.length_drop]; omega
   obtain ⟨gk5, ck5, rfl⟩ := some_of hK5 (by omega)
   have hup0 : (((insE E k v).drop (halfOf (sizes (insE E k v)))).map (·.1))[0]? = some up := by
    rw [List.getElem?_map, List.getElem?_drop, Nat.add_zero]; exact hup
   have hdok : EsOk T.size ((insE E k v).drop (halfOf (sizes (insE E k v)))) := hEok.sub (List.drop_sublist _ _)
   have hdb := entB_take_drop (insE E k v) (halfOf (sizes (insE E k v)))
   have hP : NdP w7 (leafNd ((insE E k v).drop (halfOf (sizes (insE E k v))))) (.slice (some ⟨gk5, 0, none⟩) ((insE E k v).drop (halfOf (sizes (insE E k v)))).length ck5) vv2 (.slice none 0 0) := by
    refine ⟨?_, ?_, ?_, leaf_bd hz hdok (by omega), fun g hg => ⟨?_, by simp [Value.ownBlock]⟩, fun g hg => by simp [Value.ownBlock]⟩
    ·have e : (leafNd ((insE E k v).drop (halfOf (sizes (insE E k v))))).keys.length = ((insE E k v).drop (halfOf (sizes (insE E k v)))).length := by simp [leafNd]
     rw [e]; exact hK5.ext hx57
    ·have e : (leafNd ((insE E k v).drop (halfOf (sizes (insE E k v))))).vals.length = ((insE E k v).drop (halfOf (sizes (insE E k v)))).length := by simp [leafNd]
     rw [e]; exact hV5.ext hx57
    ·exact Sl.nil _ _ _
    ·exact (okk5 g hg).2.2
   refine rEnd ?_; refine run_seq ?_
   have hg7 : Ext w7 w7.drew := Ext.drew0 w7
   have hgv5 : T5.given = (f : Int) :: gs := by rw [hT5, hT3, hT2]; exact hgs
   have hnv5 : T5.nodes (f : Int) = none := by rw [hT5, hT3, hT2]; show updI (updI T.nodes no _) no _ (f : Int) = none; rw [updI_ne (Ne.symm hnof), updI_ne (Ne.symm hnof)]; exact hfree.1
   have hRk := (hK5.ext hx57).rd
   have hgk5 : ¬ F5 gk5 := hnotK gk5 rfl
   have hPF : ∀ i, ownP (.slice (some ⟨gk5, 0, none⟩) ((insE E k v).drop (halfOf (sizes (insE E k v)))).length ck5) vv2 (.slice none 0 0) i → ¬ F5 i := fun i hi => by
    rcases hi with e | e | e
    ·exact hnotK i e
    ·exact hnotV i e
    ·simp [Value.ownBlock] at e
   have hfr := fresh_ret (h7.ext hg7) hgv5 (by rw [hgs] at hgl; simp at hgl; omega) (hP.kp hg7.kp (fun _ _ => id)) hPF hnv5
   rw [show (leafNd ((insE E k v).drop (halfOf (sizes (insE E k v))))).leaf = true from rfl] at hfr
   refine run_draw (fun w' => Kp F5 w7 w') (by kernel_rfl) rfl ?_; refine qT 0 rfl (fun _ hS => yfa fl84_1 rfl) (hg7.kp) ?_; refine qT 1 rfl (fun _ hS => (by first | exact yld U23 rfl rfl (hS.blk hBr hb6F) rfl | exact yld U23 rfl rfl (hS.blk hBt7 hc7.n.1) rfl)) (hg7.kp) ?_; refine qT 2 rfl (fun _ hS => yis U23 ti9 rfl rfl (by omega)) (hg7.kp) ?_; refine qT 4 rfl (fun _ hS => (by first | exact yld U24 rfl rfl (hS.blk hBr hb6F) rfl | exact yld U24 rfl rfl (hS.blk hBt7 hc7.n.1) rfl)) (hg7.kp) ?_
   refine qT 5 rfl (fun _ hS => (by first | exact yldA U84 rfl ti84 rfl (Blk.cells (n := 4) (hS.blk hBr hb6F) (news := [_, _, _, _]) rfl) rfl | exact yldA U84 rfl ti84 rfl (Blk.cells (n := 4) (hS.blk hBt7 hc7.n.1) (news := [_, _, _, _]) rfl) rfl)) (hg7.kp) ?_; refine qT 3 rfl (fun _ hS => yldc U9 rfl rfl (rd_str ((hK5.ext hx57).kp hS (fun g hg => by cases hg; exact hgk5)).rd (by omega) hup0)) (hg7.kp) ?_
   refine qO 6 ?_; refine nCall (i := 6) rfl rfl rfl (yc (args := [.tmp 92, .tmp 93]) cf67 rfl) (hfr) ?_
   rintro _ w8 ⟨rfl, b8, F8, h8, hk78, hF8⟩
   refine ⟨hg7.kp.trans hk78, ?_⟩
   refine qT 7 rfl (fun _ hS => yas rfl) (hg7.kp.trans hk78) ?_; refine qT 8 rfl (fun _ hS => yas rfl) (hg7.kp.trans hk78) ?_; refine qE ?_; refine Run.qb (e := [(0, _), (1, _), (2, _), (4, _), (6, _), (7, _), (8, _)]) ?_; refine run_ret Tryz.func68 rfl ?_
   have hz7' := hg7.size
   have hT8 : (({ T5 with given := gs } : Tr).setN (f : Int) (leafNd ((insE E k v).drop (halfOf (sizes (insE E k v)))))).mark (f : Int) = { (((({ (T.setN no (leafNd ((insE E k v).take (halfOf (sizes (insE E k v)))))).mark no with given := gs } : Tr).setN (f : Int) (leafNd ((insE E k v).drop (halfOf (sizes (insE E k v)))))).mark (f : Int))) with count := T.count + if hasE E k then 0 else 1 } := by
    rw [hT5, hT3']
    have e5 : ∀ (a b : Nd), updI (updI T.nodes no (some b)) no (some a) = updI T.nodes no (some a) := fun a b => by
     funext x; unfold updI; split <;> rfl
    show ({ T with count := _, nodes := updI (updI (updI T.nodes no _) no _) _ _, given := gs, changed := _ } : Tr) = { T with count := _, nodes := updI (updI T.nodes no _) _ _, given := gs, changed := _ }
    rw [e5]
    rfl
   rw [hT8] at h8
   refine ⟨_, rfl, _, _, F8, h8, ⟨rfl, ?_, .inr ⟨up, f, rfl, htwo⟩⟩, ?_, fun i hi => ?_, fun x hx _ => updI_ne (fun e => hx (by rw [e]; exact hfree.1))⟩
   ·have e1 : Evo T ((T.setN no (leafNd ((insE E k v).take (halfOf (sizes (insE E k v)))))).mark no) 0 := Evo.set hg hn
    have e2 := Evo.fresh (n := leafNd ((insE E k v).drop (halfOf (sizes (insE E k v))))) e1.srt (show _ = (f : Int) :: gs from hgs)
    exact (e1.trans e2).cnt (c := T.count + if hasE E k then 0 else 1)
   ·exact (hk07.trans hg7.kp).trans_new hk78 (fun i hi => (hF5' i hi).symm)
   ·rcases hF8 i hi with e | e | e
    ·exact hF5' i e
    ·exact .inr (by omega)
    ·rcases e with e | e | e
     ·exact .inr (by have := (okk5 i e).1; omega)
     ·exact .inr (by have := (ovv5 i e).1; omega)
     ·simp [Value.ownBlock] at e
 case hmain =>
  refine run_cond rfl (fun hf => ?_) (fun hf => ?_)
  ·skip
   have hhas : hasE E k := of_decide_eq_true hf
   have hlt := hasE_lt hhas
   obtain ⟨gv0, cv0, rfl⟩ := some_of hV (by omega)
   have hgn : nb no ≠ gv0 := fun e => hd1.2.1 (by rw [e]; rfl)
   have hgF : F gv0 := (hqF _ (.inr (.inr (.inl rfl)))).1
   have hgv1 : bv ≠ gv0 := fun e => nv (by rw [e]; exact hgF)
   refine run_draw (fun w' => Kp (fun g => g = gv0) w w') (by kernel_rfl) rfl ?_; refine qT 0 rfl (fun _ hS => ymv rfl) (hg0.kp.trans ((Ext.drew0 _).kp)) ?_; refine qT 1 rfl (fun _ hS => (by first | exact ync rfl | exact yncf rfl)) (hg0.kp.trans ((Ext.drew0 _).kp)) ?_; refine qT 2 rfl (fun _ hS => yfa fl84_2 rfl) (hg0.kp.trans ((Ext.drew0 _).kp)) ?_; refine qT 3 rfl (fun _ hS => (by first | exact yld U23 rfl rfl (hS.blk hBn hgn) rfl | exact yld U23 rfl rfl (hS.blk hBv hgv1) rfl)) (hg0.kp.trans ((Ext.drew0 _).kp)) ?_; refine qT 4 rfl (fun _ hS => ymv rfl) (hg0.kp.trans ((Ext.drew0 _).kp)) ?_
   refine qT 5 rfl (fun _ hS => (by first | exact yld U9 rfl rfl (hS.blk hBn hgn) rfl | exact yld U9 rfl rfl (hS.blk hBv hgv1) rfl)) (hg0.kp.trans ((Ext.drew0 _).kp)) ?_; refine qT 6 rfl (fun _ hS => yis U23 ti9 rfl rfl (by omega)) (hg0.kp.trans ((Ext.drew0 _).kp)) ?_; refine qO 7 ?_; refine nEffP (i := 7) rfl rfl (zstSl ti9 rfl rfl rfl (hV.ext (hg0.trans (Ext.drew0 _))) (by simpa [leafNd] using hlt)) ?_
   rintro w3 ⟨hS3, hk3⟩
   refine ⟨((hg0.trans (Ext.drew0 _)).kp).trans hk3, ?_⟩
   refine qE ?_
   have hk03 : Kp (fun g => g = gv0) w w3 := ((hg0.trans (Ext.drew0 _)).kp).trans hk3
   have hkeys := insE_keys (v := v) hhas
   have hvals := insE_vals (v := v) hhas
   obtain ⟨hM', hfp⟩ := hM.re (w' := w3) (n' := leafNd (insE E k v)) (kv' := qk) (vv' := .slice (some ⟨gv0, 0, none⟩) E.length cv0) (cv' := qc) (hk03.blk hBn hgn) (by
     have e : (leafNd (insE E k v)).keys = (leafNd E).keys := hkeys
     rw [e]
     exact hM.keys.kp hk03 (fun g hg e => (hd2 g hg).1 (by rw [e]; rfl))) (by
     have e : (leafNd (insE E k v)).vals = (leafNd E).vals.set (posE E k) v := hvals
     rw [e, List.length_set, hvl, List.map_set]
     rw [Nat.zero_add, Nat.mul_one] at hS3
     exact hS3) (hC.kp hk03 (fun g hg e => hd3 gv0 rfl (by rw [← e]; exact hg))) hbd' (fun g hg => .inl hg) (fun g hg => .inl hg) (fun g hg => .inl hg) (fun g hg => ⟨fun e => absurd (hM.lt g (.inr (.inl e))) (by omega), fun e => absurd (hM.lt g (.inr (.inr (.inl e)))) (by omega)⟩)
   obtain ⟨F', h', hF'⟩ := hcl w3 _ _ rfl hM' (hk03.mono' (fun g hg => .inr (.inr (.inl (by rw [hg]; rfl))))) (fun g hg => (hfp g hg).imp id (fun e hh => by have := hFl g hh; omega))
   have hcnt' : (T.count + if hasE E k then 0 else 1) = T.count := by rw [if_pos hhas]; omega
   refine (hk _ _ ⟨F', _, rfl, rfl, ?_, hk03.mono' (fun g hg => by rw [hg]; exact hgF), fun g hg => ?_⟩).qb
   ·rw [hcnt']; exact h'
   ·rcases hF' g hg with e | e
    ·exact .inl e
    ·rcases hfp g e with e | e
     ·exact .inl (hqF g e).1
     ·exact .inr e
  ·skip
   have hhas : ¬ hasE E k := of_decide_eq_false hf
   have hnew := insE_new (v := v) hhas
   refine run_seq ?_
   obtain ⟨Q, hQ⟩ : ∃ Q : Nat → Prop, Q = fun g => qk.ownBlock = some g ∨ qv.ownBlock = some g := ⟨_, rfl⟩
   have hQF : ∀ g, Q g → F g := fun g hg => by
    rw [hQ] at hg
    exact (hqF g (hg.elim (fun e => .inr (.inl e)) (fun e => .inr (.inr (.inl e))))).1
   have hQn : ¬ Q (nb no) := fun e => by
    rw [hQ] at e
    exact e.elim hd1.1 hd1.2.1
   have hQk : ∀ g, qk.ownBlock = some g → Q g := fun g hg => by rw [hQ]; exact .inl hg
   have hQv : ∀ g, qv.ownBlock = some g → Q g := fun g hg => by rw [hQ]; exact .inr hg
   have hQl : ∀ g, Q g → g < w.heap.size := fun g hg => hFl g (hQF g hg)
   refine run_cut (fun e' w2 => ∃ kv' vv', e' = [(0, I no), (1, ptr bt 0), (2, ptr bk 0), (4, ptr bp 0), (6, S []), (7, I 0), (8, ptr (nb no) 0)] ∧ NdM w2 (leafNd (insE E k v)) ⟨nb no, kv', vv', qc⟩ ∧ (∀ g, Pl.fp ⟨nb no, kv', vv', qc⟩ g → Pl.fp ⟨nb no, qk, qv, qc⟩ g ∨ w.heap.size ≤ g) ∧ Kp (Pl.fp ⟨nb no, qk, qv, qc⟩) w w2) ?hkn (fun hkn => ?hmainn)
   case hkn =>
    rintro e' w2 ⟨kv', vv', rfl, hM2, hfp, hk2⟩
    obtain ⟨F', h', hF'⟩ := hcl w2 _ ⟨nb no, kv', vv', qc⟩ rfl hM2 hk2 (fun g hg => (hfp g hg).imp id (fun e hh => by have := hFl g hh; omega))
    have hF2 : ∀ g, F' g → F g ∨ w.heap.size ≤ g := fun g hg => by
     rcases hF' g hg with e | e
     ·exact .inl e
     ·exact (hfp g e).imp (fun e => (hqF g e).1) id
    have hk2F : Kp F w w2 := hk2.mono' (fun g hg => (hqF g hg).1)
    have hc2 := hc.kp hk2F hF2
    have hBt2 := hc2.t
    obtain ⟨mN2, mC2, mO2, gv2, kn2, kc2, ko2, O2⟩ := h'.opn
    have hB2 := O2.blk
    have hcn : (T.setN no (leafNd (insE E k v))).count = T.count := rfl
    refine run_reg rfl ?_; refine qV ((by first | exact yld U24 rfl rfl hBt2 rfl | exact yld U24 rfl rfl hB2 rfl)) ?_; refine qV ((by first | exact ync rfl | exact yncf rfl)) ?_; refine qV (yfa fl74_4 rfl) ?_; refine qV ((by first | exact yld U3 rfl rfl hBt2 rfl | exact yld U3 rfl rfl hB2 rfl)) ?_; refine qV (yad rfl rfl (by omega)) ?_; refine qV ((by first | exact ync rfl | exact yncf rfl)) ?_; refine qV (yfa fl74_4 rfl) ?_; refine rEffP rfl (zst ti3 rfl rfl rfl hB2 (by simp [trCs])) ?_
    rintro w3 ⟨hB3, hk3⟩
    refine rEnd ?_
    have h3 := O2.setB w3 T.root (T.count + 1) (by simpa [trCs, Tr.setN] using hB3) hk3
    have hcnt' : (T.count + if hasE E k then 0 else 1) = T.count + 1 := by rw [if_neg hhas]
    refine (hk _ _ ⟨F', _, rfl, rfl, ?_, hk2F.trans_new hk3 (fun i hi => by rw [hi]; exact (hF2 _ O2.fp.1).symm), hF2⟩).qb
    rw [hcnt']
    exact h3
   case hmainn =>
    have hone : ∀ {l : List Bytes}, ∀ c' ∈ l.map S, c'.oneCell' = true := fun c' hc => by obtain ⟨z, -, rfl⟩ := List.mem_map.1 hc; rfl
    have hgg := hg0.trans (Ext.drew0 w.drew)
    have hkc : Kp Q w w.drew.drew := hgg.kp
    have hK0 := hK.ext hgg
    have hV0 := hV.ext hgg
    have hzc := hgg.size
    refine run_drawL [20,23] (fun w' => Kp Q w w') (by kernel_rfl) rfl ?_; refine qL [18, 19, 20, 21, 22, 23] 0 rfl (fun _ hS => ymv rfl) (hkc) ?_; refine hTakeU (i := 1) rfl (by kernel_rfl) rfl rfl (fun _ => ymv rfl) (hkc) ?_; refine qL [3, 4, 5, 9, 17, 18, 19, 20, 21, 22, 23] 2 rfl (fun _ hS => ymv rfl) (hkc) ?_; refine qL [4, 5, 9, 17, 18, 19, 20, 21, 22, 23] 3 rfl (fun _ hS => (by first | exact ync rfl | exact yncf rfl)) (hkc) ?_; refine qL [5, 9, 17, 18, 19, 20, 21, 22, 23] 4 rfl (fun _ hS => yfa fl84_1 rfl) (hkc) ?_
    refine qL [9, 17, 18, 19, 20, 21, 22, 23] 5 rfl (fun _ hS => (by first | exact yld U23 rfl rfl (hS.blk hBn hQn) rfl | exact yld U23 rfl rfl (hS.blk hBk (fun e => nk (hQF _ e))) rfl | exact yld U23 rfl rfl (hS.blk hBv (fun e => nv (hQF _ e))) rfl)) (hkc) ?_; refine qL [9, 17, 18, 19, 20, 21, 22, 23] 6 rfl (fun _ hS => ymv rfl) (hkc) ?_
    refine qL [8, 9, 17, 18, 19, 20, 21, 22, 23] 7 rfl (fun _ hS => (by first | exact yld U9 rfl rfl (hS.blk hBn hQn) rfl | exact yld U9 rfl rfl (hS.blk hBk (fun e => nk (hQF _ e))) rfl | exact yld U9 rfl rfl (hS.blk hBv (fun e => nv (hQF _ e))) rfl)) (hkc) ?_; refine qL [11, 12, 13, 17, 18, 19, 20, 21, 22, 23] 10 rfl (fun _ hS => ymv rfl) (hkc) ?_; refine qL [12, 13, 17, 18, 19, 20, 21, 22, 23] 11 rfl (fun _ hS => (by first | exact ync rfl | exact yncf rfl)) (hkc) ?_; refine qL [13, 17, 18, 19, 20, 21, 22, 23] 12 rfl (fun _ hS => yfa fl84_2 rfl) (hkc) ?_
    refine qL [17, 18, 19, 20, 21, 22, 23] 13 rfl (fun _ hS => (by first | exact yld U23 rfl rfl (hS.blk hBn hQn) rfl | exact yld U23 rfl rfl (hS.blk hBk (fun e => nk (hQF _ e))) rfl | exact yld U23 rfl rfl (hS.blk hBv (fun e => nv (hQF _ e))) rfl)) (hkc) ?_; refine qL [17, 18, 19, 20, 21, 22, 23] 14 rfl (fun _ hS => ymv rfl) (hkc) ?_; refine qL [16, 17, 18, 19, 20, 21, 22, 23] 15 rfl (fun _ hS => (by first | exact yld U9 rfl rfl (hS.blk hBn hQn) rfl | exact yld U9 rfl rfl (hS.blk hBk (fun e => nk (hQF _ e))) rfl | exact yld U9 rfl rfl (hS.blk hBv (fun e => nv (hQF _ e))) rfl)) (hkc) ?_
    refine hTwoL (i := 8) (j := 16) (by kernel_rfl) ?_ ?_
    ·skip
     refine nValPL (i := 8) rfl rfl rfl (pbs (parts := [(0, .tmp 50)]) (cs := [_]) (zs := [Value.string ⟨#[]⟩]) U23 ti9 rfl (by kernel_rfl) rfl rfl rfl (by decide)) ?_
     rintro _ w8 ⟨b8, rfl, ⟨hb8, hx8, hB8⟩, hS8⟩
     refine ⟨hkc.trans hx8.kp, ?_⟩
     have hkc := hkc.trans (hx8.kp (S := Q))
     have hK0 := hK0.ext hx8
     have hV0 := hV0.ext hx8
     try have hS16 := hS16.ext hx8
     have hl8 : w.heap.size ≤ b8 := by omega
     have hzc := Nat.le_trans hzc hx8.size
     refine hTwoL (i := 9) (j := 16) (by kernel_rfl) ?_ ?_
     ·skip
      refine nCallL (i := 9) rfl rfl rfl (yc (args := [.tmp 48, .tmp 49, .tmp 51]) cf69 rfl) (insS_ret (i := posE E k) hK0 hS8 rfl hone hple (by omega) (fun b hb e => by have e : b8 = b := Option.some.inj e; have := hQl _ (hQk _ hb); omega)) ?_
      rintro kv9 w9 ⟨hS9, hk9, ho9⟩
      refine ⟨hkc.trans (hk9.mono' hQk), ?_⟩
      have hkc := hkc.trans (hk9.mono' hQk)
      have hV0 := hV0.kp hk9 (fun g hg e => (hd2 g e).1 hg)
      try have hS16 := hS16.kp hk9 (fun g hg e => by have e' : b16 = g := Option.some.inj hg; have := hQl _ (hQk _ e); omega)
      have ho9 : ∀ g, kv9.ownBlock = some g → qk.ownBlock = some g ∨ w.heap.size ≤ g := fun g hg => (ho9 g hg).imp id (fun e => Nat.le_trans hzc e)
      have hzc := Nat.le_trans hzc hk9.size
      refine hOneL (i := 16) (by kernel_rfl) ?_; refine nValPL (i := 16) rfl rfl rfl (pbs (parts := [(0, .tmp 58)]) (cs := [_]) (zs := [Value.string ⟨#[]⟩]) U23 ti9 rfl (by kernel_rfl) rfl rfl rfl (by decide)) ?_
      rintro _ w16 ⟨b16, rfl, ⟨hb16, hx16, hB16⟩, hS16⟩
      refine ⟨hkc.trans hx16.kp, ?_⟩
      have hkc := hkc.trans (hx16.kp (S := Q))
      try have hK0 := hK0.ext hx16
      have hV0 := hV0.ext hx16
      try have hS8 := hS8.ext hx16
      try have hS9 := hS9.ext hx16
      have hl16 : w.heap.size ≤ b16 := by omega
      have hzc := Nat.le_trans hzc hx16.size
      have hz17 := fun (g : Nat) (hg : kv9.ownBlock = some g) => hS9.lt hg
      refine hOneL (i := 17) (by kernel_rfl) ?_; refine nCallL (i := 17) rfl rfl rfl (yc (args := [.tmp 56, .tmp 57, .tmp 59]) cf69 rfl) (insS_ret (i := posE E k) hV0 hS16 rfl hone hple (by omega) (fun b hb e => by have e : b16 = b := Option.some.inj e; have := hQl _ (hQv _ hb); omega)) ?_
      rintro vv17 w17 ⟨hS17, hk17, ho17⟩
      refine ⟨hkc.trans (hk17.mono' hQv), ?_⟩
      have hkc := hkc.trans (hk17.mono' hQv)
      have hS9 := hS9.kp hk17 (fun g hg e => (ho9 g hg).elim (fun e' => (hd2 g e').1 e) (fun e' => by have := hQl _ (hQv _ e); omega))
      have hdis : ∀ g, w.heap.size ≤ g → kv9.ownBlock = some g → vv17.ownBlock ≠ some g := fun g hg h1 h2 => by
       rcases ho17 g h2 with e | e
       ·have := hQl _ (hQv _ e); omega
       ·have := hz17 g h1; omega
      have ho17 : ∀ g, vv17.ownBlock = some g → qv.ownBlock = some g ∨ w.heap.size ≤ g := fun g hg => (ho17 g hg).imp id (fun e => Nat.le_trans hzc e)
      refine qL [19, 20, 21, 22, 23] 18 rfl (fun _ hS => (by first | exact ync rfl | exact yncf rfl)) hkc ?_; refine qL [20, 21, 22, 23] 19 rfl (fun _ hS => yfa fl84_1 rfl) hkc ?_; refine hLate [20] (by kernel_rfl) (by kernel_rfl) ?_; refine qO 20 ?_; refine nEffP (i := 20) rfl rfl (zst ti23 rfl rfl (oneV_sl hS9) (hkc.blk hBn hQn) (by simp)) ?_
      rintro w20 ⟨hB20, hk20⟩
      refine ⟨trivial, ?_⟩
      refine qT 21 rfl (fun _ hS => (by first | exact ync rfl | exact yncf rfl)) (trivial) ?_; refine qT 22 rfl (fun _ hS => yfa fl84_2 rfl) (trivial) ?_; refine qO 23 ?_; refine nEffP (i := 23) rfl rfl (zst ti23 rfl rfl (oneV_sl hS17) hB20 (by simp)) ?_
      rintro w23 ⟨hB23, hk23⟩
      refine ⟨trivial, ?_⟩
      refine qE ?_; refine Run.qb (e := [(0, _), (1, _), (2, _), (4, _), (6, _), (7, _), (8, _)]) ?_
      have hk1723 := hk20.trans hk23
      have hnk : ∀ g, kv9.ownBlock = some g → g ≠ nb no := fun g hg e => by
       rcases ho9 g hg with h | h
       ·rw [e] at h; exact hd1.1 h
       ·have := hBn.lt; omega
      have hnv : ∀ g, vv17.ownBlock = some g → g ≠ nb no := fun g hg e => by
       rcases ho17 g hg with h | h
       ·rw [e] at h; exact hd1.2.1 h
       ·have := hBn.lt; omega
      obtain ⟨hM', hfp⟩ := hM.re (w' := w23) (n' := leafNd (insE E k v)) (kv' := kv9) (vv' := vv17) (cv' := qc) hB23 (by
        have e : (leafNd (insE E k v)).keys = (leafNd E).keys.take (posE E k) ++ k :: (leafNd E).keys.drop (posE E k) := by rw [hnew]; simp [leafNd]
        rw [e]
        have := hS9.kp hk1723 hnk
        simp only [List.map_append, List.map_cons, List.map_take, List.map_drop, List.length_append, List.length_cons, List.length_take, List.length_drop, hkl]
        rw [show min (posE E k) E.length + (E.length - posE E k + 1) = E.length + 1 by omega]
        exact this) (by
        have e : (leafNd (insE E k v)).vals = (leafNd E).vals.take (posE E k) ++ v :: (leafNd E).vals.drop (posE E k) := by rw [hnew]; simp [leafNd]
        rw [e]
        have := hS17.kp hk1723 hnv
        simp only [List.map_append, List.map_cons, List.map_take, List.map_drop, List.length_append, List.length_cons, List.length_take, List.length_drop, hvl]
        rw [show min (posE E k) E.length + (E.length - posE E k + 1) = E.length + 1 by omega]
        exact this) (by
        have e : (leafNd (insE E k v)).kids = (leafNd E).kids := rfl
        rw [e]
        exact (hC.kp hkc (fun g hg e => by
         rw [hQ] at e
         rcases e with e | e
         ·exact (hd2 g e).2 hg
         ·exact hd3 g e hg)).kp hk1723 (fun g hg e => hd1.2.2 (by rw [← e]; exact hg))) hbd' ho9 ho17 (fun g hg => .inl hg) (fun g hg => ⟨fun e => ⟨hdis g hg e, fun e' => by have := hC.lt e'; omega⟩, fun e e' => by have := hC.lt e'; omega⟩)
      refine (hkn _ _ ⟨kv9, vv17, rfl, hM', hfp, (hkc.mono' (fun g hg => ?_)).trans (hk1723.mono' (fun g hg => .inl hg))⟩).qb
      rw [hQ] at hg
      exact hg.elim (fun e => .inr (.inl e)) (fun e => .inr (.inr (.inl e)))
     ·skip
      refine nValPL (i := 16) rfl rfl rfl (pbs (parts := [(0, .tmp 58)]) (cs := [_]) (zs := [Value.string ⟨#[]⟩]) U23 ti9 rfl (by kernel_rfl) rfl rfl rfl (by decide)) ?_
      rintro _ w16 ⟨b16, rfl, ⟨hb16, hx16, hB16⟩, hS16⟩
      refine ⟨hkc.trans hx16.kp, ?_⟩
      have hkc := hkc.trans (hx16.kp (S := Q))
      try have hK0 := hK0.ext hx16
      have hV0 := hV0.ext hx16
      try have hS8 := hS8.ext hx16
      try have hS9 := hS9.ext hx16
      have hl16 : w.heap.size ≤ b16 := by omega
      have hzc := Nat.le_trans hzc hx16.size
      refine hOneL (i := 9) (by kernel_rfl) ?_; refine nCallL (i := 9) rfl rfl rfl (yc (args := [.tmp 48, .tmp 49, .tmp 51]) cf69 rfl) (insS_ret (i := posE E k) hK0 hS8 rfl hone hple (by omega) (fun b hb e => by have e : b8 = b := Option.some.inj e; have := hQl _ (hQk _ hb); omega)) ?_
      rintro kv9 w9 ⟨hS9, hk9, ho9⟩
      refine ⟨hkc.trans (hk9.mono' hQk), ?_⟩
      have hkc := hkc.trans (hk9.mono' hQk)
      have hV0 := hV0.kp hk9 (fun g hg e => (hd2 g e).1 hg)
      try have hS16 := hS16.kp hk9 (fun g hg e => by have e' : b16 = g := Option.some.inj hg; have := hQl _ (hQk _ e); omega)
      have ho9 : ∀ g, kv9.ownBlock = some g → qk.ownBlock = some g ∨ w.heap.size ≤ g := fun g hg => (ho9 g hg).imp id (fun e => Nat.le_trans hzc e)
      have hzc := Nat.le_trans hzc hk9.size
      have hz17 := fun (g : Nat) (hg : kv9.ownBlock = some g) => hS9.lt hg
      refine hOneL (i := 17) (by kernel_rfl) ?_; refine nCallL (i := 17) rfl rfl rfl (yc (args := [.tmp 56, .tmp 57, .tmp 59]) cf69 rfl) (insS_ret (i := posE E k) hV0 hS16 rfl hone hple (by omega) (fun b hb e => by have e : b16 = b := Option.some.inj e; have := hQl _ (hQv _ hb); omega)) ?_
      rintro vv17 w17 ⟨hS17, hk17, ho17⟩
      refine ⟨hkc.trans (hk17.mono' hQv), ?_⟩
      have hkc := hkc.trans (hk17.mono' hQv)
      have hS9 := hS9.kp hk17 (fun g hg e => (ho9 g hg).elim (fun e' => (hd2 g e').1 e) (fun e' => by have := hQl _ (hQv _ e); omega))
      have hdis : ∀ g, w.heap.size ≤ g → kv9.ownBlock = some g → vv17.ownBlock ≠ some g := fun g hg h1 h2 => by
       rcases ho17 g h2 with e | e
       ·have := hQl _ (hQv _ e); omega
       ·have := hz17 g h1; omega
      have ho17 : ∀ g, vv17.ownBlock = some g → qv.ownBlock = some g ∨ w.heap.size ≤ g := fun g hg => (ho17 g hg).imp id (fun e => Nat.le_trans hzc e)
      refine qL [19, 20, 21, 22, 23] 18 rfl (fun _ hS => (by first | exact ync rfl | exact yncf rfl)) hkc ?_; refine qL [20, 21, 22, 23] 19 rfl (fun _ hS => yfa fl84_1 rfl) hkc ?_; refine hLate [20] (by kernel_rfl) (by kernel_rfl) ?_; refine qO 20 ?_; refine nEffP (i := 20) rfl rfl (zst ti23 rfl rfl (oneV_sl hS9) (hkc.blk hBn hQn) (by simp)) ?_
      rintro w20 ⟨hB20, hk20⟩
      refine ⟨trivial, ?_⟩
      refine qT 21 rfl (fun _ hS => (by first | exact ync rfl | exact yncf rfl)) (trivial) ?_; refine qT 22 rfl (fun _ hS => yfa fl84_2 rfl) (trivial) ?_; refine qO 23 ?_; refine nEffP (i := 23) rfl rfl (zst ti23 rfl rfl (oneV_sl hS17) hB20 (by simp)) ?_
      rintro w23 ⟨hB23, hk23⟩
      refine ⟨trivial, ?_⟩
      refine qE ?_; refine Run.qb (e := [(0, _), (1, _), (2, _), (4, _), (6, _), (7, _), (8, _)]) ?_
      have hk1723 := hk20.trans hk23
      have hnk : ∀ g, kv9.ownBlock = some g → g ≠ nb no := fun g hg e => by
       rcases ho9 g hg with h | h
       ·rw [e] at h; exact hd1.1 h
       ·have := hBn.lt; omega
      have hnv : ∀ g, vv17.ownBlock = some g → g ≠ nb no := fun g hg e => by
       rcases ho17 g hg with h | h
       ·rw [e] at h; exact hd1.2.1 h
       ·have := hBn.lt; omega
      obtain ⟨hM', hfp⟩ := hM.re (w' := w23) (n' := leafNd (insE E k v)) (kv' := kv9) (vv' := vv17) (cv' := qc) hB23 (by
        have e : (leafNd (insE E k v)).keys = (leafNd E).keys.take (posE E k) ++ k :: (leafNd E).keys.drop (posE E k) := by rw [hnew]; simp [leafNd]
        rw [e]
        have := hS9.kp hk1723 hnk
        simp only [List.map_append, List.map_cons, List.map_take, List.map_drop, List.length_append, List.length_cons, List.length_take, List.length_drop, hkl]
        rw [show min (posE E k) E.length + (E.length - posE E k + 1) = E.length + 1 by omega]
        exact this) (by
        have e : (leafNd (insE E k v)).vals = (leafNd E).vals.take (posE E k) ++ v :: (leafNd E).vals.drop (posE E k) := by rw [hnew]; simp [leafNd]
        rw [e]
        have := hS17.kp hk1723 hnv
        simp only [List.map_append, List.map_cons, List.map_take, List.map_drop, List.length_append, List.length_cons, List.length_take, List.length_drop, hvl]
        rw [show min (posE E k) E.length + (E.length - posE E k + 1) = E.length + 1 by omega]
        exact this) (by
        have e : (leafNd (insE E k v)).kids = (leafNd E).kids := rfl
        rw [e]
        exact (hC.kp hkc (fun g hg e => by
         rw [hQ] at e
         rcases e with e | e
         ·exact (hd2 g e).2 hg
         ·exact hd3 g e hg)).kp hk1723 (fun g hg e => hd1.2.2 (by rw [← e]; exact hg))) hbd' ho9 ho17 (fun g hg => .inl hg) (fun g hg => ⟨fun e => ⟨hdis g hg e, fun e' => by have := hC.lt e'; omega⟩, fun e e' => by have := hC.lt e'; omega⟩)
      refine (hkn _ _ ⟨kv9, vv17, rfl, hM', hfp, (hkc.mono' (fun g hg => ?_)).trans (hk1723.mono' (fun g hg => .inl hg))⟩).qb
      rw [hQ] at hg
      exact hg.elim (fun e => .inr (.inl e)) (fun e => .inr (.inr (.inl e)))
    ·skip
     refine nValPL (i := 16) rfl rfl rfl (pbs (parts := [(0, .tmp 58)]) (cs := [_]) (zs := [Value.string ⟨#[]⟩]) U23 ti9 rfl (by kernel_rfl) rfl rfl rfl (by decide)) ?_
     rintro _ w16 ⟨b16, rfl, ⟨hb16, hx16, hB16⟩, hS16⟩
     refine ⟨hkc.trans hx16.kp, ?_⟩
     have hkc := hkc.trans (hx16.kp (S := Q))
     try have hK0 := hK0.ext hx16
     have hV0 := hV0.ext hx16
     try have hS8 := hS8.ext hx16
     try have hS9 := hS9.ext hx16
     have hl16 : w.heap.size ≤ b16 := by omega
     have hzc := Nat.le_trans hzc hx16.size
     refine hOneL (i := 8) (by kernel_rfl) ?_; refine nValPL (i := 8) rfl rfl rfl (pbs (parts := [(0, .tmp 50)]) (cs := [_]) (zs := [Value.string ⟨#[]⟩]) U23 ti9 rfl (by kernel_rfl) rfl rfl rfl (by decide)) ?_
     rintro _ w8 ⟨b8, rfl, ⟨hb8, hx8, hB8⟩, hS8⟩
     refine ⟨hkc.trans hx8.kp, ?_⟩
     have hkc := hkc.trans (hx8.kp (S := Q))
     have hK0 := hK0.ext hx8
     have hV0 := hV0.ext hx8
     try have hS16 := hS16.ext hx8
     have hl8 : w.heap.size ≤ b8 := by omega
     have hzc := Nat.le_trans hzc hx8.size
     refine hOneL (i := 9) (by kernel_rfl) ?_; refine nCallL (i := 9) rfl rfl rfl (yc (args := [.tmp 48, .tmp 49, .tmp 51]) cf69 rfl) (insS_ret (i := posE E k) hK0 hS8 rfl hone hple (by omega) (fun b hb e => by have e : b8 = b := Option.some.inj e; have := hQl _ (hQk _ hb); omega)) ?_
     rintro kv9 w9 ⟨hS9, hk9, ho9⟩
     refine ⟨hkc.trans (hk9.mono' hQk), ?_⟩
     have hkc := hkc.trans (hk9.mono' hQk)
     have hV0 := hV0.kp hk9 (fun g hg e => (hd2 g e).1 hg)
     try have hS16 := hS16.kp hk9 (fun g hg e => by have e' : b16 = g := Option.some.inj hg; have := hQl _ (hQk _ e); omega)
     have ho9 : ∀ g, kv9.ownBlock = some g → qk.ownBlock = some g ∨ w.heap.size ≤ g := fun g hg => (ho9 g hg).imp id (fun e => Nat.le_trans hzc e)
     have hzc := Nat.le_trans hzc hk9.size
     have hz17 := fun (g : Nat) (hg : kv9.ownBlock = some g) => hS9.lt hg
     refine hOneL (i := 17) (by kernel_rfl) ?_; refine nCallL (i := 17) rfl rfl rfl (yc (args := [.tmp 56, .tmp 57, .tmp 59]) cf69 rfl) (insS_ret (i := posE E k) hV0 hS16 rfl hone hple (by omega) (fun b hb e => by have e : b16 = b := Option.some.inj e; have := hQl _ (hQv _ hb); omega)) ?_
     rintro vv17 w17 ⟨hS17, hk17, ho17⟩
     refine ⟨hkc.trans (hk17.mono' hQv), ?_⟩
     have hkc := hkc.trans (hk17.mono' hQv)
     have hS9 := hS9.kp hk17 (fun g hg e => (ho9 g hg).elim (fun e' => (hd2 g e').1 e) (fun e' => by have := hQl _ (hQv _ e); omega))
     have hdis : ∀ g, w.heap.size ≤ g → kv9.ownBlock = some g → vv17.ownBlock ≠ some g := fun g hg h1 h2 => by
      rcases ho17 g h2 with e | e
      ·have := hQl _ (hQv _ e); omega
      ·have := hz17 g h1; omega
     have ho17 : ∀ g, vv17.ownBlock = some g → qv.ownBlock = some g ∨ w.heap.size ≤ g := fun g hg => (ho17 g hg).imp id (fun e => Nat.le_trans hzc e)
     refine qL [19, 20, 21, 22, 23] 18 rfl (fun _ hS => (by first | exact ync rfl | exact yncf rfl)) hkc ?_; refine qL [20, 21, 22, 23] 19 rfl (fun _ hS => yfa fl84_1 rfl) hkc ?_; refine hLate [20] (by kernel_rfl) (by kernel_rfl) ?_; refine qO 20 ?_; refine nEffP (i := 20) rfl rfl (zst ti23 rfl rfl (oneV_sl hS9) (hkc.blk hBn hQn) (by simp)) ?_
     rintro w20 ⟨hB20, hk20⟩
     refine ⟨trivial, ?_⟩
     refine qT 21 rfl (fun _ hS => (by first | exact ync rfl | exact yncf rfl)) (trivial) ?_; refine qT 22 rfl (fun _ hS => yfa fl84_2 rfl) (trivial) ?_; refine qO 23 ?_; refine nEffP (i := 23) rfl rfl (zst ti23 rfl rfl (oneV_sl hS17) hB20 (by simp)) ?_
     rintro w23 ⟨hB23, hk23⟩
     refine ⟨trivial, ?_⟩
     refine qE ?_; refine Run.qb (e := [(0, _), (1, _), (2, _), (4, _), (6, _), (7, _), (8, _)]) ?_
     have hk1723 := hk20.trans hk23
     have hnk : ∀ g, kv9.ownBlock = some g → g ≠ nb no := fun g hg e => by
      rcases ho9 g hg with h | h
      ·rw [e] at h; exact hd1.1 h
      ·have := hBn.lt; omega
     have hnv : ∀ g, vv17.ownBlock = some g → g ≠ nb no := fun g hg e => by
      rcases ho17 g hg with h | h
      ·rw [e] at h; exact hd1.2.1 h
      ·have := hBn.lt; omega
     obtain ⟨hM', hfp⟩ := hM.re (w' := w23) (n' := leafNd (insE E k v)) (kv' := kv9) (vv' := vv17) (cv' := qc) hB23 (by
       have e : (leafNd (insE E k v)).keys = (leafNd E).keys.take (posE E k) ++ k :: (leafNd E).keys.drop (posE E k) := by rw [hnew]; simp [leafNd]
       rw [e]
       have := hS9.kp hk1723 hnk
       simp only [List.map_append, List.map_cons, List.map_take, List.map_drop, List.length_append, List.length_cons, List.length_take, List.length_drop, hkl]
       rw [show min (posE E k) E.length + (E.length - posE E k + 1) = E.length + 1 by omega]
       exact this) (by
       have e : (leafNd (insE E k v)).vals = (leafNd E).vals.take (posE E k) ++ v :: (leafNd E).vals.drop (posE E k) := by rw [hnew]; simp [leafNd]
       rw [e]
       have := hS17.kp hk1723 hnv
       simp only [List.map_append, List.map_cons, List.map_take, List.map_drop, List.length_append, List.length_cons, List.length_take, List.length_drop, hvl]
       rw [show min (posE E k) E.length + (E.length - posE E k + 1) = E.length + 1 by omega]
       exact this) (by
       have e : (leafNd (insE E k v)).kids = (leafNd E).kids := rfl
       rw [e]
       exact (hC.kp hkc (fun g hg e => by
        rw [hQ] at e
        rcases e with e | e
        ·exact (hd2 g e).2 hg
        ·exact hd3 g e hg)).kp hk1723 (fun g hg e => hd1.2.2 (by rw [← e]; exact hg))) hbd' ho9 ho17 (fun g hg => .inl hg) (fun g hg => ⟨fun e => ⟨hdis g hg e, fun e' => by have := hC.lt e'; omega⟩, fun e e' => by have := hC.lt e'; omega⟩)
     refine (hkn _ _ ⟨kv9, vv17, rfl, hM', hfp, (hkc.mono' (fun g hg => ?_)).trans (hk1723.mono' (fun g hg => .inl hg))⟩).qb
     rw [hQ] at hg
     exact hg.elim (fun e => .inr (.inl e)) (fun e => .inr (.inr (.inl e)))
end
end Go.Proofs.YtocnhaoilnojmaaGreat
