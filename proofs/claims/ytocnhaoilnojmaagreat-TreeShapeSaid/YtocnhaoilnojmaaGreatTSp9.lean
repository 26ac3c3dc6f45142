/- Texts LwR, LwK, LwX, LwU, LwZ, LwY, LwG, LwC, LwD, LwF, LwM, Row, LwO, LwW, one behind the other (what the statement TreeShape does not use is left out). -/
import Derived.Test.YtocnhaoilnojmaaGreatTSp1
import Derived.Test.YtocnhaoilnojmaaGreatTSp8
import Derived.Test.YtocnhaoilnojmaaGreatTSp7
import Derived.Test.YtocnhaoilnojmaaGreatRows
import Derived.SizedLaws
import Derived.Carry
import Derived.WalkKit
import Derived.ProofKit
import Derived.OpenShut
import Derived.ShutString
import Derived.ChangeOld
import Derived.Below
import Derived.Lib.SmallJoins
import Derived.Deep.Slices
import Derived.Deep.Strs
namespace Go.Proofs.YtocnhaoilnojmaaGreat
open Go Go.RowKit
set_option linter.all false
set_option maxRecDepth 100000
theorem some_ofE {w : World} {v : Value} {T s n : Nat} {us : List Value} (h : Sl w v T s n us) : ∃ a c, v = .slice a n c := by
 obtain ⟨a, c, e, -⟩ := h.rd.shape
 exact ⟨a, c, e⟩
theorem rd_en {w : World} {b off n cap : Nat} {l : Es} {i : Nat} {y : Bytes × Bytes} (h : Rd w (.slice (some ⟨b, off, none⟩) n cap) 2 n (esC l)) (hi : i < n) (hy : l[i]? = some y) : ∀ (j : Nat) u, [S y.1, S y.2][j]? = some u → w.cell? ⟨b, off + i * 2 + j, none⟩ = some u := fun j u hj => by
 match j, hj with
 | 0, hj => cases hj; exact rd_en0 h hi hy
 | 1, hj => cases hj; exact rd_en1 h hi hy
section
variable {w : World} {q : Nat} {X : Sx} {p m : Nat} {mv sv gv : Value} {nb : Int → Nat} {F : Nat → Prop} {k : Nat}
set_option maxHeartbeats 8000000 in
theorem shapeS_ret (hM : StM w q X p m mv sv gv nb F) (hG : Gh X k) (hz : sizeOk (X.T.size : Int)) (hk : k ≤ 1000) :
  Ret Tryz.prog 15 [ptr q 0] w fun v w' => v = .bool true ∧ Ext w w' := by
 have hI := hG.inv
 have xo := Inv.cnts hz hI
 have fJ := hG.el
 have Gv := hG.ol
 have de := hG.gl
 have dL : maxLen = 9223372036854775807 := rfl
 have bz := hI.nodup
 have hO := ownP_pgs (T := X.T) bz
 have AO := hM.tree.kids32
 obtain ⟨l, hl⟩ : ∃ l, (pgs X.T.size X.T.nodes X.ns fun _ => true) = l := ⟨_, rfl⟩
 rw [hl] at hO
 have l0 : l.length = X.ns.length := hO.len
 obtain ⟨st, qu⟩ : ∃ st, (pgs X.T.size X.O X.os fun _ => true) = st := ⟨_, rfl⟩
 have JW : st.length = X.os.length := by rw [← qu, pgs_all_len]
 have AP : ∀ x, x ∈ st.map (·.1) ↔ x ∈ X.os := fun x => by rw [← qu, pgs_fst, List.mem_filter, sortZ_mem]; simp
 obtain ⟨ma, mc, rfl⟩ := some_ofE hM.map.sl
 have hB := hM.blk
 have AQ : RiseP l := by rw [← hl]; exact pgs_rise bz
 refine ret_of_run (e := [(0, _)]) Tryz.func15 rfl Tryz.ntmps15 rfl rfl (qN rfl (zqa rfl (qM rfl (zqm rfl (qV (ynk rfl) (qV (yfa fl36_1 rfl) (qV (yld U24 rfl rfl hB rfl) (zqc [.tmp 12] cf22 rfl (pages_ret hM.tree hI (by omega)) ?_))))))))
 rintro v1 w1 ⟨aa, dC, -⟩
 rw [hl] at dC
 refine zqc [.tmp 13] cf29 rfl (pagesL_ret (Sl.rd dC) (by omega)) ?_
 rintro v2 w2 ⟨ae, bB, -⟩
 obtain ⟨pa, pc, rfl⟩ := some_ofE bB
 have ay := aa.trans ae
 have cu := hM.ext ay
 have ak := cu.blk
 have hg := Ext.drew0 w2
 have gP := hO.nums hI hz
 have s7 := hO.ok hI hz AO
 refine zqa rfl (rEnd (run_seq (run_draw (fun w' => Ext w2 w') (by kernel_rfl) rfl (zqt 0 rfl (ymv rfl) hg (zqt 1 rfl (ynk rfl) hg (zqt 2 rfl (yfa fl36_0 rfl) hg (qT 3 rfl (fun _ h=>yld U3 rfl rfl (h.blk ak) rfl) hg (zqt 4 rfl (ymv rfl) hg (zqt 5 rfl (ynk rfl) hg (zqt 6 rfl (yfa fl36_1 rfl) hg (qT 7 rfl (fun _ h=>yld U24 rfl rfl (h.blk ak) rfl) hg (zqt 9 rfl (ymv rfl) hg (zqo 8 [.tmp 23] rfl cf21 rfl (rootT_ret (cu.tree.ext hg)) ?_)))))))))))))
 rintro _ w3 ⟨rfl, bu⟩
 refine ⟨(by rw [bu]; exact hg), ?_⟩
 have ah : Ext w2 w3 := by rw [bu]; exact hg
 refine zqo 10 [.tmp 19, .tmp 24, .tmp 25] rfl cf19 rfl (shape_ret gP (bB.rd.ext ah) (by omega) (hO.short hI hz)) ?_
 rintro v4 w4 ⟨aC, AH⟩
 refine ⟨ah.trans aC, ?_⟩
 obtain ⟨ev, rfl, hE⟩ : ∃ ev, v4 = .tuple #[ev, I ((X.H : Nat) : Int), .bool true] ∧ Sl w4 ev 41 2 X.es.length (esC X.es) := by
  rcases AH with ⟨H', ns', es', ov', h1, h2, h3, -⟩ | ⟨h, -⟩
  ·obtain ⟨rfl, rfl, rfl⟩ := s7.det hz h1; exact ⟨ov', h2, h3⟩
  ·exact absurd s7 (h X.H X.ns X.es)
 obtain ⟨ea, ec, rfl⟩ := some_ofE hE
 have gn := ah.trans aC
 have eM := cu.ext gn
 have aW := eM.blk
 have JX := eM.map
 have gq := bB.ext gn
 refine zqt 11 rfl (ymv rfl) (ah.trans aC) (zqt 12 rfl (yex rfl rfl) (ah.trans aC) (zqt 13 rfl (yex rfl rfl) (ah.trans aC) (zqt 14 rfl (yex rfl rfl) (ah.trans aC) (zqt 15 rfl (yas rfl) (ah.trans aC) (zqt 16 rfl (yas rfl) (ah.trans aC) (zqt 17 rfl (yas rfl) (ah.trans aC) (qE (Run.qb (e := [(0, _), (2, _), (3, _), (4, _), (5, _), (6, _)]) ?_))))))))
 refine run_seq (qN rfl (zqm rfl (qV ((by first | exact yntd rfl | exact ynt rfl)) ?_)))
 refine zqm rfl ?_
 have wS := JX.blk
 refine zqm rfl (zqm rfl (qV (ynk rfl) (qV (yfa fl36_1 rfl) (qV ((by first | exact yld U24 rfl rfl aW rfl | exact yld U24 rfl rfl wS rfl)) ?_))))
 refine zqc [.tmp 37] cf20 rfl (depth_ret eM.tree hI (by omega)) ?_
 rintro _ w4 ⟨rfl, rfl⟩
 refine qV (yne rfl rfl) (qV (ypF rfl rfl) (zqm rfl (rVal_if (fun h1 => ?_) (fun h1 => ?_))))
 ·exact absurd rfl h1
 ·refine zqm rfl (qV (yln U30 rfl) (zqm rfl (qV (ynk rfl) (qV (yfa fl36_2 rfl) (qV ((by first | exact yld U29 rfl rfl aW rfl | exact yld U29 rfl rfl wS rfl)) ?_))))); refine qV (ynk rfl) (qV (yfa fl32_0 rfl) (qV ((by first | exact yld U30 rfl rfl aW rfl | exact yld U30 rfl rfl wS rfl)) ?_)); refine qV (yln U30 rfl) (qV (yne rfl rfl) (qV (ypF rfl rfl) (rEnd (Run.qb (e := [(0, _), (2, _), (3, _), (4, _), (53, _)]) ?_)))); refine run_if rfl (fun h2 => ?_) (fun h2 => ?_)
  ·exact absurd rfl h2
  ·refine run_skip (run_seq (qN rfl (zqa rfl (rEnd (run_block (zqu (α := Nat) (0) (fun i => [(0, ptr q 0), (3, .slice pa l.length pc), (4, .slice ea X.es.length ec), (7, I (i : Int))]) (fun i w' => i ≤ X.es.length ∧ Ext w4 w') (fun i => X.es.length - i) ?hI ?hround))))))
   case hI => exact ⟨Nat.zero_le _, Ext.refl _⟩
   case hround =>
    rintro i w5 ⟨hi, aJ⟩ ih; have dS := eM.ext aJ; have bx := dS.blk; have AR := dS.map.blk; have BC := hE.rd.ext aJ; have qt := dS.map.sl.rd
    try dsimp only
    refine run_seq (qN rfl (zqm rfl (zqm rfl (qV (yln U30 rfl) (qV (ylt rfl rfl) (rEnd (run_if rfl (fun af => ?_) (fun af => ?_))))))))
    ·have ab : i < X.es.length := by omega
     obtain ⟨b1, o1, y, rfl, hy⟩ := rd_ens BC rfl ab; obtain ⟨b2, o2, y2, rfl, GU⟩ := rd_ens qt rfl ab; have a8 := Ext.drew0 w5; refine run_skip (run_seq (run_block (run_seq (run_draw (fun w' => Ext w5 w') (by kernel_rfl) rfl (zqt 0 rfl (ymv rfl) a8 (zqt 1 rfl (ymv rfl) a8 (zqt 2 rfl (yis U30 ti41 rfl rfl (by omega)) a8 (zqt 4 rfl (ymv rfl) a8 (zqt 5 rfl (ynk rfl) a8 (zqt 6 rfl (yfa fl36_2 rfl) a8 (qT 7 rfl (fun _ h=>(by first | exact yld U29 rfl rfl (h.blk bx) rfl | exact yld U29 rfl rfl (h.blk AR) rfl)) a8 ?_))))))))))); refine zqt 8 rfl (ynk rfl) a8 (zqt 9 rfl (yfa fl32_0 rfl) a8 (qT 10 rfl (fun _ h=>(by first | exact yld U30 rfl rfl (h.blk bx) rfl | exact yld U30 rfl rfl (h.blk AR) rfl)) a8 ?_)); refine zqt 11 rfl (ymv rfl) a8 (zqt 12 rfl (yis U30 ti41 rfl rfl (by omega)) a8 (qT 3 rfl (fun _ h=>yldA U41 rfl ti41 rfl (rd_en (BC.ext h) ab hy) rfl) a8 (qT 13 rfl (fun _ h=>yldA U41 rfl ti41 rfl (rd_en (qt.ext h) ab hy) rfl) a8 (zqt 14 rfl (yneE8 rfl rfl) a8 (qE (run_cond rfl (fun h5 => ?_) (fun h5 => ?_)))))))
     ·simp at h5
     ·refine run_skip (run_inBlock (run_reg rfl (zqm rfl (zqd rfl rfl (zqa rfl (rEnd ?_)))))); exact (ih (i + 1) _ ⟨by omega, aJ.trans a8⟩ (by omega)).qb
    ·refine run_exit rfl (run_seq (qN rfl (zqa rfl (rEnd (run_block (zqu (α := Nat) (0) (fun i => [(0, ptr q 0), (3, .slice pa l.length pc), (8, I (i : Int))]) (fun i w' => i ≤ l.length ∧ Ext w4 w') (fun i => l.length - i) ?hI ?hround))))))
     case hI => exact ⟨Nat.zero_le _, aJ⟩
     case hround =>
      clear ih af; rintro i w5 ⟨hi, aJ⟩ ih; have dS := eM.ext aJ; have bx := dS.blk; have hP := gq.rd.ext aJ
      try dsimp only
      refine run_seq (qN rfl (zqm rfl (zqm rfl (qV (yln U33 rfl) (qV (ylt rfl rfl) (rEnd (run_if rfl (fun af => ?_) (fun af => ?_))))))))
      ·have ab : i < l.length := by omega
       obtain ⟨b1, o1, y, rfl, hy⟩ := rd_pgs hP rfl ab; have a8 := Ext.drew0 w5; have eC := hG.src y.1 (.inl ((hI.mem y.1).2 ((hO.mem y.1).1 (List.mem_map.2 ⟨y, List.mem_of_getElem? hy, rfl⟩)))); have AS : ∀ w', Ext w5 w' → Rd w' sv 2 st.length (pgC st) := fun w' hx => by rw [← qu]; exact (dS.ext hx).sto.rd
       refine run_skip (run_seq (run_block (run_seq (run_draw (fun w' => Ext w5 w') (by kernel_rfl) rfl (zqt 0 rfl (ymv rfl) a8 (zqt 1 rfl (ygt rfl rfl) a8 (zqt 2 rfl (ymv rfl) a8 (rh_if (fun fV => ?_) (fun fV => ?_)))))))))
       ·obtain ⟨j, ej⟩ : ∃ j, i = j + 1 := ⟨i - 1, by omega⟩; obtain ⟨yp, GV⟩ : ∃ yp, l[j]? = some yp := ⟨_, List.getElem?_eq_getElem (by omega)⟩
        have o8 : yp.1 < y.1 := by
         obtain ⟨a1, a2⟩ := List.getElem?_eq_some_iff.1 GV; obtain ⟨c1, c2⟩ := List.getElem?_eq_some_iff.1 hy; have := List.pairwise_iff_getElem.1 AQ j i a1 c1 (by omega); rw [a2, c2] at this; exact this
        refine zqt 3 rfl (ymv rfl) a8 (zqt 4 rfl (ymv rfl) a8 (zqt 5 rfl (ysb rfl rfl (by omega)) a8 (zqt 9 rfl (ymv rfl) a8 (zqt 10 rfl (ymv rfl) a8 (zqt 11 rfl (yis U33 ti54 rfl rfl (by omega)) a8 (zqt 12 rfl (yfa fl54_0 rfl) a8 ?_)))))); rw [show ((i : Int) - 1) = ((j : Nat) : Int) by omega]; refine zqt 6 rfl (yis U33 ti54 rfl rfl (by omega)) a8 (zqt 7 rfl (yfa fl54_0 rfl) a8 (qT 8 rfl (fun _ h=>yldc U3 rfl rfl (rd_pg0 (hP.ext h) (by omega) GV)) a8 (qT 13 rfl (fun _ h=>yldc U3 rfl rfl (rd_pg0 (hP.ext h) ab hy)) a8 (zqt 14 rfl (yge rfl rfl) a8 (zqt 15 rfl (ypT rfl rfl) a8 (zqt 16 rfl (ymv rfl) a8 (rh_if (fun qQ => ?_) (fun qQ => ?_))))))))
        ·omega
        ·refine zqt 17 rfl (ymv rfl) a8 (zqt 18 rfl (ynk rfl) a8 (zqt 19 rfl (yfa fl36_3 rfl) a8 (qT 20 rfl (fun _ h=>yld U33 rfl rfl (h.blk bx) rfl) a8 (zqt 21 rfl (ymv rfl) a8 (zqt 22 rfl (ymv rfl) a8 (zqt 23 rfl (yis U33 ti54 rfl rfl (by omega)) a8 (zqt 24 rfl (yfa fl54_0 rfl) a8 (qT 25 rfl (fun _ h=>yldc U3 rfl rfl (rd_pg0 (hP.ext h) ab hy)) a8 (zqo 26 [.tmp 101, .tmp 106] rfl cf32 rfl (page_ret (l := st) (AS _ a8) (by omega) y.1) ?_))))))))); rintro _ w6 ⟨rfl, aY⟩; refine ⟨(by rw [aY]; exact a8), ?_⟩; have aV : Ext w5 w6 := by rw [aY]; exact a8
         refine zqt 27 rfl ((by first | exact yntd rfl | exact ynt rfl)) ((by rw [aY]; exact a8)) ?_; refine zqt 28 rfl (ymv rfl) ((by rw [aY]; exact a8)) ?_; refine rh_if (fun hp => ?_) (fun hp => ?_)
         ·refine zqt 29 rfl (ymv rfl) ((by rw [aY]; exact a8)) ?_; refine zqt 30 rfl (ynk rfl) ((by rw [aY]; exact a8)) ?_; refine zqt 31 rfl (yfa fl36_4 rfl) ((by rw [aY]; exact a8)) ?_; refine qT 32 rfl (fun _ h=>yld U34 rfl rfl (h.blk bx) rfl) ((by rw [aY]; exact a8)) ?_; refine zqt 33 rfl (ymv rfl) ((by rw [aY]; exact a8)) ?_; refine zqt 34 rfl (ymv rfl) ((by rw [aY]; exact a8)) ?_; refine zqt 35 rfl (yis U33 ti54 rfl rfl (by omega)) ((by rw [aY]; exact a8)) ?_; refine zqt 36 rfl (yfa fl54_0 rfl) ((by rw [aY]; exact a8)) ?_; refine qT 37 rfl (fun _ h=>yldc U3 rfl rfl (rd_pg0 (hP.ext h) ab hy)) ((by rw [aY]; exact a8)) ?_; refine zqo 38 [.tmp 113, .tmp 118] rfl cf33 rfl (has_ret (l := X.gs) (Sl.rd ((dS.ext aV).giv)) (by omega) y.1) ?_; rintro _ w7 ⟨rfl, dm⟩; refine ⟨(by rw [dm]; exact aV), ?_⟩; have aU : Ext w5 w7 := by rw [dm]; exact aV
          refine zqt 39 rfl ((by first | exact yntd rfl | exact ynt rfl)) ((by rw [dm]; exact aV)) ?_; refine zqt 40 rfl (ypT rfl rfl) ((by rw [dm]; exact aV)) ?_; refine zqt 41 rfl (ypF rfl rfl) ((by rw [dm]; exact aV)) ?_; refine qE (run_if rfl (fun hq => ?_) (fun hq => ?_))
          ·exfalso; rcases eC with e | e
           ·exact hp ((AP _).2 e)
           ·exact hq e
          ·refine run_skip (run_inBlock (run_reg rfl (zqm rfl (zqd rfl rfl (zqa rfl (rEnd ?_)))))); exact (ih (i + 1) w7 ⟨by omega, aJ.trans aU⟩ (by omega)).qb
         ·refine qJ 29 rfl ((by rw [aY]; exact a8)) ?_; refine qJ 30 rfl ((by rw [aY]; exact a8)) ?_; refine qJ 31 rfl ((by rw [aY]; exact a8)) ?_; refine qJ 32 rfl ((by rw [aY]; exact a8)) ?_; refine qJ 33 rfl ((by rw [aY]; exact a8)) ?_; refine qJ 34 rfl ((by rw [aY]; exact a8)) ?_; refine qJ 35 rfl ((by rw [aY]; exact a8)) ?_; refine qJ 36 rfl ((by rw [aY]; exact a8)) ?_; refine qJ 37 rfl ((by rw [aY]; exact a8)) ?_; refine qJ 38 rfl ((by rw [aY]; exact a8)) ?_; refine qJ 39 rfl ((by rw [aY]; exact a8)) ?_; refine zqt 40 rfl (ypF rfl rfl) ((by rw [aY]; exact a8)) ?_; refine zqt 41 rfl (ypF rfl rfl) ((by rw [aY]; exact a8)) ?_; refine qE (run_false rfl (run_skip (run_inBlock (run_reg rfl (zqm rfl (zqd rfl rfl (zqa rfl (rEnd ?_)))))))); exact (ih (i + 1) w6 ⟨by omega, aJ.trans aV⟩ (by omega)).qb
       ·refine qJ 3 rfl (a8) (qJ 4 rfl (a8) (qJ 5 rfl (a8) (qJ 6 rfl (a8) (qJ 7 rfl (a8) (qJ 8 rfl (a8) (qJ 9 rfl (a8) (qJ 10 rfl (a8) (qJ 11 rfl (a8) (qJ 12 rfl (a8) (qJ 13 rfl (a8) (qJ 14 rfl (a8) (zqt 15 rfl (ypF rfl rfl) a8 (zqt 16 rfl (ymv rfl) a8 ?_))))))))))))); refine zqt 17 rfl (ymv rfl) a8 (zqt 18 rfl (ynk rfl) a8 (zqt 19 rfl (yfa fl36_3 rfl) a8 (qT 20 rfl (fun _ h=>yld U33 rfl rfl (h.blk bx) rfl) a8 (zqt 21 rfl (ymv rfl) a8 (zqt 22 rfl (ymv rfl) a8 (zqt 23 rfl (yis U33 ti54 rfl rfl (by omega)) a8 (zqt 24 rfl (yfa fl54_0 rfl) a8 (qT 25 rfl (fun _ h=>yldc U3 rfl rfl (rd_pg0 (hP.ext h) ab hy)) a8 (zqo 26 [.tmp 101, .tmp 106] rfl cf32 rfl (page_ret (l := st) (AS _ a8) (by omega) y.1) ?_))))))))); rintro _ w6 ⟨rfl, aY⟩; refine ⟨(by rw [aY]; exact a8), ?_⟩; have aV : Ext w5 w6 := by rw [aY]; exact a8
        refine zqt 27 rfl ((by first | exact yntd rfl | exact ynt rfl)) ((by rw [aY]; exact a8)) ?_; refine zqt 28 rfl (ymv rfl) ((by rw [aY]; exact a8)) ?_; refine rh_if (fun hp => ?_) (fun hp => ?_)
        ·refine zqt 29 rfl (ymv rfl) ((by rw [aY]; exact a8)) ?_; refine zqt 30 rfl (ynk rfl) ((by rw [aY]; exact a8)) ?_; refine zqt 31 rfl (yfa fl36_4 rfl) ((by rw [aY]; exact a8)) ?_; refine qT 32 rfl (fun _ h=>yld U34 rfl rfl (h.blk bx) rfl) ((by rw [aY]; exact a8)) ?_; refine zqt 33 rfl (ymv rfl) ((by rw [aY]; exact a8)) ?_; refine zqt 34 rfl (ymv rfl) ((by rw [aY]; exact a8)) ?_; refine zqt 35 rfl (yis U33 ti54 rfl rfl (by omega)) ((by rw [aY]; exact a8)) ?_; refine zqt 36 rfl (yfa fl54_0 rfl) ((by rw [aY]; exact a8)) ?_; refine qT 37 rfl (fun _ h=>yldc U3 rfl rfl (rd_pg0 (hP.ext h) ab hy)) ((by rw [aY]; exact a8)) ?_; refine zqo 38 [.tmp 113, .tmp 118] rfl cf33 rfl (has_ret (l := X.gs) (Sl.rd ((dS.ext aV).giv)) (by omega) y.1) ?_; rintro _ w7 ⟨rfl, dm⟩; refine ⟨(by rw [dm]; exact aV), ?_⟩; have aU : Ext w5 w7 := by rw [dm]; exact aV
         refine zqt 39 rfl ((by first | exact yntd rfl | exact ynt rfl)) ((by rw [dm]; exact aV)) ?_; refine zqt 40 rfl (ypT rfl rfl) ((by rw [dm]; exact aV)) ?_; refine zqt 41 rfl (ypF rfl rfl) ((by rw [dm]; exact aV)) ?_; refine qE (run_if rfl (fun hq => ?_) (fun hq => ?_))
         ·exfalso; rcases eC with e | e
          ·exact hp ((AP _).2 e)
          ·exact hq e
         ·refine run_skip (run_inBlock (run_reg rfl (zqm rfl (zqd rfl rfl (zqa rfl (rEnd ?_)))))); exact (ih (i + 1) w7 ⟨by omega, aJ.trans aU⟩ (by omega)).qb
        ·refine qJ 29 rfl ((by rw [aY]; exact a8)) ?_; refine qJ 30 rfl ((by rw [aY]; exact a8)) ?_; refine qJ 31 rfl ((by rw [aY]; exact a8)) ?_; refine qJ 32 rfl ((by rw [aY]; exact a8)) ?_; refine qJ 33 rfl ((by rw [aY]; exact a8)) ?_; refine qJ 34 rfl ((by rw [aY]; exact a8)) ?_; refine qJ 35 rfl ((by rw [aY]; exact a8)) ?_; refine qJ 36 rfl ((by rw [aY]; exact a8)) ?_; refine qJ 37 rfl ((by rw [aY]; exact a8)) ?_; refine qJ 38 rfl ((by rw [aY]; exact a8)) ?_; refine qJ 39 rfl ((by rw [aY]; exact a8)) ?_; refine zqt 40 rfl (ypF rfl rfl) ((by rw [aY]; exact a8)) ?_; refine zqt 41 rfl (ypF rfl rfl) ((by rw [aY]; exact a8)) ?_; refine qE (run_false rfl (run_skip (run_inBlock (run_reg rfl (zqm rfl (zqd rfl rfl (zqa rfl (rEnd ?_)))))))); exact (ih (i + 1) w6 ⟨by omega, aJ.trans aV⟩ (by omega)).qb
      ·refine run_exit rfl (qN rfl (zqa rfl (rEnd (run_ret Tryz.func15 rfl ?_)))); exact ⟨_, rfl, rfl, (ay.trans gn).trans aJ⟩
end
section
variable {es : Es} {k v : Bytes} {x : Bytes × Bytes}
theorem rise_ne (h : Rise (es.map (·.1))) : (es.map (·.1)).Nodup := h.imp fun {a b} h e => by subst e; rw [lt_irrefl] at h; cases h
theorem hasE_iff (h : Rise (es.map (·.1))) : hasE es k ↔ k ∈ es.map (·.1) := by
 constructor
 ·intro hh; exact List.mem_of_getElem? hh
 ·intro hk; obtain ⟨i, hi, e⟩ := List.getElem_of_mem hk
  have qQ : ¬ i < posE es k := fun af => by
   have := pos_lt (l := es.map (·.1)) (t := k) k (by
    have : ((es.map (·.1)).take (pos (es.map (·.1)) k))[i]? = some k := by rw [List.getElem?_take, if_pos (show i < pos (es.map (·.1)) k from af), List.getElem?_eq_getElem hi, e]
    exact List.mem_of_getElem? this)
   rw [lt_irrefl] at this; cases this
  rcases Nat.lt_or_eq_of_le (Nat.le_of_not_lt qQ) with af | wq
  ·have h1 := List.pairwise_iff_getElem.1 h (posE es k) i (by omega) hi af; rw [e] at h1; have h2 := pos_at (l := es.map (·.1)) (t := k) (List.getElem?_eq_getElem (show posE es k < (es.map (·.1)).length by omega)); rw [h2] at h1; cases h1
  ·unfold hasE; rw [wq, List.getElem?_eq_getElem hi, e]
theorem getR_code (h : Rise (es.map (·.1))) : (getR es k).2 = 0 ↔ keyOk k ∧ k ∈ es.map (·.1) := by
 unfold getR
 by_cases hk : keyOk k
 ·rw [if_pos hk]; by_cases hh : hasE es k
  ·have af := hasE_lt hh; have hm : (es.map (·.2))[posE es k]? = some ((es[posE es k]).2) := by rw [List.getElem?_map, List.getElem?_eq_getElem af]; rfl
   rw [getE_some hh hm]; exact ⟨fun _ => ⟨hk, (hasE_iff h).1 hh⟩, fun _ => rfl⟩
  ·rw [getE_none hh]; exact ⟨fun e => (by cases e), fun e => absurd ((hasE_iff h).2 e.2) hh⟩
 ·rw [if_neg hk]; exact ⟨fun e => (by cases e), fun e => absurd e.1 hk⟩
theorem split_rise (h : Rise (es.map (·.1))) {i : Nat} (hi : i < es.length) (x : Bytes × Bytes) : (x ∈ es ∧ x.1 ≠ es[i].1) ↔ x ∈ es.take i ++ es.drop (i + 1) := by
 have bz := rise_ne h
 have he : es = es.take i ++ es[i] :: es.drop (i + 1) := by rw [← List.drop_eq_getElem_cons hi, List.take_append_drop]
 have eP : ((es.take i ++ es[i] :: es.drop (i + 1)).map (·.1)).Nodup := by rw [← he]; exact bz
 rw [List.map_append, List.map_cons] at eP
 obtain ⟨-, n2, n3⟩ := List.nodup_append.1 eP
 have n4 := List.nodup_cons.1 n2
 constructor
 ·rintro ⟨hx, aZ⟩; rw [he] at hx; rcases List.mem_append.1 hx with hx | hx
  ·exact List.mem_append_left _ hx
  ·rcases List.mem_cons.1 hx with e | hx
   ·exact absurd (by rw [e]) aZ
   ·exact List.mem_append_right _ hx
 ·intro hx; rcases List.mem_append.1 hx with hx | hx
  ·exact ⟨List.mem_of_mem_take hx, fun e => n3 _ (List.mem_map.2 ⟨x, hx, rfl⟩) _ (List.mem_cons_self ..) e⟩
  ·exact ⟨List.mem_of_mem_drop hx, fun e => n4.1 (by rw [← e]; exact List.mem_map.2 ⟨x, hx, rfl⟩)⟩
theorem has_at (h : hasE es k) : es[posE es k]'(hasE_lt h) = (k, (es[posE es k]'(hasE_lt h)).2) := by
 have af := hasE_lt h
 have := (hasE_at (es := es) (k := k) (List.getElem?_eq_getElem af)).1 h
 exact Prod.ext this rfl
theorem mem_ins (h : Rise (es.map (·.1))) : x ∈ insE es k v ↔ x = (k, v) ∨ (x.1 ≠ k ∧ x ∈ es) := by
 by_cases hh : hasE es k
 ·have af := hasE_lt hh; have hs := split_rise h af x; have hk : es[posE es k].1 = k := congrArg Prod.fst (has_at hh); rw [hk] at hs; have e : insE es k v = es.take (posE es k) ++ (k, v) :: es.drop (posE es k + 1) := by unfold insE; rw [if_pos hh]
  rw [e]; simp only [List.mem_append, List.mem_cons] at hs ⊢; constructor
  ·rintro (h1 | h1 | h1)
   ·exact .inr (hs.2 (.inl h1)).symm
   ·exact .inl h1
   ·exact .inr (hs.2 (.inr h1)).symm
  ·rintro (h1 | ⟨h1, h2⟩)
   ·exact .inr (.inl h1)
   ·exact (hs.1 ⟨h2, h1⟩).imp id .inr
 ·have aZ : ∀ y ∈ es, y.1 ≠ k := fun y hy e => hh ((hasE_iff h).2 (List.mem_map.2 ⟨y, hy, e⟩)); rw [insE_new hh]; have he : x ∈ es ↔ x ∈ es.take (posE es k) ∨ x ∈ es.drop (posE es k) := by rw [← List.mem_append, List.take_append_drop]
  simp only [List.mem_append, List.mem_cons]; constructor
  ·rintro (h1 | h1 | h1)
   ·exact .inr ⟨aZ _ (he.2 (.inl h1)), he.2 (.inl h1)⟩
   ·exact .inl h1
   ·exact .inr ⟨aZ _ (he.2 (.inr h1)), he.2 (.inr h1)⟩
  ·rintro (h1 | ⟨-, h2⟩)
   ·exact .inr (.inl h1)
   ·exact (he.1 h2).imp id .inr
theorem mem_del (h : Rise (es.map (·.1))) : x ∈ delE es k ↔ x.1 ≠ k ∧ x ∈ es := by
 unfold delE
 by_cases hh : hasE es k
 ·rw [if_pos hh]; have hs := split_rise h (hasE_lt hh) x; have hk : (es[posE es k]'(hasE_lt hh)).1 = k := congrArg Prod.fst (has_at hh); rw [hk] at hs; rw [← hs]; exact And.comm
 ·rw [if_neg hh]; exact ⟨fun hx => ⟨fun e => hh ((hasE_iff h).2 (List.mem_map.2 ⟨x, hx, e⟩)), hx⟩, fun hx => hx.2⟩
end
theorem es_ext {a b : Es} (ha : Rise (a.map (·.1))) (hb : Rise (b.map (·.1))) (h : ∀ x, x ∈ a ↔ x ∈ b) : a = b := by
 have na : a.Nodup := List.Pairwise.imp (fun {x y} h e => by subst e; rw [lt_irrefl] at h; cases h) (List.pairwise_map.1 ha)
 have nb : b.Nodup := List.Pairwise.imp (fun {x y} h e => by subst e; rw [lt_irrefl] at h; cases h) (List.pairwise_map.1 hb)
 have hp : a.Perm b := (List.perm_ext_iff_of_nodup na nb).2 h
 exact hp.eq_of_pairwise (le := fun x y => lt x.1 y.1 = true) (fun x y _ _ h1 h2 => by rw [lt_asymm h1] at h2; cases h2) (List.pairwise_map.1 ha) (List.pairwise_map.1 hb)
/-! ### What TreeAlike keeps of the second tree -/
def AlikeA (oth : List Bytes) (S : Es) (j : Nat) (Q : Es) : Prop := (∀ x ∈ S.drop j, x ∈ Q) ∧ ∀ x ∈ Q, x ∈ S.drop j ∨ (x.1 ∈ oth ∧ x.1 ∉ (S.drop j).map (·.1))
theorem AlikeA.step {oth : List Bytes} {S Q : Es} {j : Nat} (h : AlikeA oth S (j + 1) Q) (hS : Rise (S.map (·.1))) (hQ : Rise (Q.map (·.1))) {x : Bytes × Bytes} (hx : S[j]? = some x) : AlikeA oth S j (insE Q x.1 x.2) := by
 obtain ⟨hj, e⟩ := List.getElem?_eq_some_iff.1 hx
 have hd : S.drop j = x :: S.drop (j + 1) := by rw [List.drop_eq_getElem_cons hj, e]
 have aZ : ∀ y ∈ S.drop (j + 1), y.1 ≠ x.1 := fun y hy => by
  have := (split_rise hS hj y).2 (List.mem_append_right _ hy); rw [e] at this; exact this.2
 constructor
 ·intro y hy; rw [hd] at hy; rw [mem_ins hQ]; rcases List.mem_cons.1 hy with rfl | hy
  ·exact .inl rfl
  ·exact .inr ⟨aZ y hy, h.1 y hy⟩
 ·intro y hy; rw [mem_ins hQ] at hy; rw [hd]; rcases hy with rfl | ⟨h1, h2⟩
  ·exact .inl (List.mem_cons_self ..)
  ·rcases h.2 y h2 with h3 | ⟨h3, h4⟩
   ·exact .inl (List.mem_cons_of_mem _ h3)
   ·refine .inr ⟨h3, fun hm => ?_⟩; rw [List.map_cons] at hm; rcases List.mem_cons.1 hm with hm | hm
    ·exact h1 hm
    ·exact h4 hm
def AlikeB (oth : List Bytes) (S : Es) (i : Nat) (Q : Es) : Prop := (∀ x ∈ S, x ∈ Q) ∧ ∀ x ∈ Q, x ∈ S ∨ (x.1 ∈ oth.drop i ∧ x.1 ∉ S.map (·.1))
theorem AlikeA.fin {oth : List Bytes} {S Q : Es} (h : AlikeA oth S 0 Q) : AlikeB oth S 0 Q := h
theorem AlikeB.del {oth : List Bytes} {S Q : Es} {i : Nat} (h : AlikeB oth S i Q) (hS : Rise (S.map (·.1))) (hQ : Rise (Q.map (·.1))) {o : Bytes} (ho : oth[i]? = some o) (h1 : (getR S o).2 ≠ 0) (h2 : (getR Q o).2 = 0) : AlikeB oth S (i + 1) (delE Q o) := by
 obtain ⟨hi, e⟩ := List.getElem?_eq_some_iff.1 ho
 have hd : oth.drop i = o :: oth.drop (i + 1) := by rw [List.drop_eq_getElem_cons hi, e]
 have bK : o ∉ S.map (·.1) := fun hm => h1 ((getR_code hS).2 ⟨((getR_code hQ).1 h2).1, hm⟩)
 constructor
 ·intro x hx; rw [mem_del hQ]; exact ⟨fun e => bK (by rw [← e]; exact List.mem_map.2 ⟨x, hx, rfl⟩), h.1 x hx⟩
 ·intro x hx; obtain ⟨h3, h4⟩ := (mem_del hQ).1 hx; rcases h.2 x h4 with h5 | ⟨h5, h6⟩
  ·exact .inl h5
  ·rw [hd] at h5; rcases List.mem_cons.1 h5 with e | h5
   ·exact absurd e h3
   ·exact .inr ⟨h5, h6⟩
theorem AlikeB.keep {oth : List Bytes} {S Q : Es} {i : Nat} (h : AlikeB oth S i Q) (hS : Rise (S.map (·.1))) (hQ : Rise (Q.map (·.1))) (hk : ∀ x ∈ Q, keyOk x.1) {o : Bytes} (ho : oth[i]? = some o) (h1 : (getR S o).2 = 0 ∨ (getR Q o).2 ≠ 0) : AlikeB oth S (i + 1) Q := by
 obtain ⟨hi, e⟩ := List.getElem?_eq_some_iff.1 ho
 have hd : oth.drop i = o :: oth.drop (i + 1) := by rw [List.drop_eq_getElem_cons hi, e]
 refine ⟨h.1, fun x hx => ?_⟩
 rcases h.2 x hx with h5 | ⟨h5, h6⟩
 ·exact .inl h5
 ·rw [hd] at h5; rcases List.mem_cons.1 h5 with e | h5
  ·exfalso; rcases h1 with h1 | h1
   ·exact h6 (by rw [e]; exact ((getR_code hS).1 h1).2)
   ·exact h1 ((getR_code hQ).2 ⟨by rw [← e]; exact hk x hx, by rw [← e]; exact List.mem_map.2 ⟨x, hx, rfl⟩⟩)
  ·exact .inr ⟨h5, h6⟩
theorem AlikeB.fin {oth : List Bytes} {S Q : Es} {i : Nat} (h : AlikeB oth S i Q) (hi : oth.length ≤ i) (hS : Rise (S.map (·.1))) (hQ : Rise (Q.map (·.1))) : S = Q := by
 refine es_ext hS hQ fun x => ⟨h.1 x, fun hx => ?_⟩
 rcases h.2 x hx with h1 | ⟨h1, -⟩
 ·exact h1
 ·rw [List.drop_eq_nil_of_le hi] at h1; cases h1
theorem range_drop {es : Es} {f : Bytes} (h : Rise (es.map (·.1))) : es.filter (fun x => !lt x.1 f) = es.drop (posE es f) := by
 conv => lhs; rw [← List.take_append_drop (posE es f) es, List.filter_append]
 have h1 : (es.take (posE es f)).filter (fun x => !lt x.1 f) = [] := List.filter_eq_nil_iff.2 fun x hx => by
  have := pos_lt (l := es.map (·.1)) (t := f) x.1 (by rw [← List.map_take]; exact List.mem_map.2 ⟨x, hx, rfl⟩); simp [this]
 have h2 : (es.drop (posE es f)).filter (fun x => !lt x.1 f) = es.drop (posE es f) := List.filter_eq_self.2 fun x hx => by
  have := pos_ge (t := f) h x.1 (by rw [← List.map_drop]; exact List.mem_map.2 ⟨x, hx, rfl⟩); simp [this]
 rw [h1, h2, List.nil_append]
theorem rangeE_drop {es : Es} {f : Bytes} {n : Nat} (h : Rise (es.map (·.1))) : rangeE es f n = (es.drop (posE es f)).take n := by
 unfold rangeE; rw [range_drop h]
section
variable {w : World} {q : Nat} {X : Sx} {p m : Nat} {mv sv gv : Value} {nb : Int → Nat} {F : Nat → Prop} {k : Nat}
set_option maxHeartbeats 8000000 in
theorem rangedS_ret (hM : StM w q X p m mv sv gv nb F) (hG : Gh X k) (hz : sizeOk (X.T.size : Int)) (hk : k ≤ 1000) (kd : Int) (key val : Bytes) (n : Int) (nv : Value) (auto : Bool) (hn : n ≤ 9223372036854775807) :
  Ret Tryz.prog 26 [ptr q 0, .agg (opC kd key val n nv auto).toArray] w fun v w' => v = .bool true ∧ Ext w w' := by
 have hI := hG.inv
 have fJ := hG.el
 have JY := hI.rise hz
 refine ret_of_run (e := [(0, _), (1, _)]) Tryz.func26 rfl Tryz.ntmps26 rfl rfl (qN rfl (rValP rfl rfl (pbx rfl (cs := opC kd key val n nv auto) rfl) ?_))
 rintro _ w1 ⟨b3, rfl, Bi, aa, aG⟩
 replace aG : Blk w1 b3 [I kd, S key, S val, I n, nv, .bool auto] 39 := aG
 have bL := hM.ext aa
 have ai := bL.blk
 have hg := Ext.drew0 w1
 refine zqa rfl (rEnd (run_seq (run_draw (fun w' => Ext w1 w') (by kernel_rfl) rfl (zqt 0 rfl (ymv rfl) hg (zqt 1 rfl (ynk rfl) hg (zqt 2 rfl (yfa fl36_1 rfl) hg (qT 3 rfl (fun _ h=>(by first | exact yld U24 rfl rfl (h.blk ai) rfl | exact yld U24 rfl rfl (h.blk aG) rfl)) hg ?_)))))))
 refine zqt 4 rfl (yfa fl39_1 rfl) hg (qT 5 rfl (fun _ h=>(by first | exact yld U9 rfl rfl (h.blk ai) rfl | exact yld U9 rfl rfl (h.blk aG) rfl)) hg ?_)
 refine zqt 6 rfl (yfa fl39_3 rfl) hg (qT 7 rfl (fun _ h=>(by first | exact yld U3 rfl rfl (h.blk ai) rfl | exact yld U3 rfl rfl (h.blk aG) rfl)) hg ?_)
 refine zqo 8 [.tmp 14, .tmp 16, .tmp 18] rfl cf13 rfl (range_ret (bL.tree.ext hg) hI (by omega) key n hn) ?_
 rintro v2 w2 ⟨ae, xh⟩
 refine ⟨hg.trans ae, ?_⟩
 have aI := hg.trans ae
 have cu := bL.ext aI
 have ak := cu.blk
 have eg := aI.blk aG
 have ag := Ext.drew0 w2
 rcases xh with ⟨JZ, rfl⟩ | ⟨iR, lv, rfl, hL, ce⟩
 ·refine zqt 9 rfl (ymv rfl) (hg.trans ae) (zqt 10 rfl (yex rfl rfl) (hg.trans ae) (zqt 11 rfl (yex rfl rfl) (hg.trans ae) (zqt 12 rfl (yas rfl) (hg.trans ae) (zqt 13 rfl (yas rfl) (hg.trans ae) (qE (run_seq (run_draw (fun w' => Ext w2 w') (by kernel_rfl) rfl (zqt 0 rfl (ymv rfl) ag (zqt 1 rfl (ynk rfl) ag (zqt 2 rfl (yfa fl36_2 rfl) ag (qT 3 rfl (fun _ h=>(by first | exact yld U29 rfl rfl (h.blk ak) rfl | exact yld U29 rfl rfl (h.blk eg) rfl)) ag ?_))))))))))); refine zqt 4 rfl (yfa fl39_1 rfl) ag (qT 5 rfl (fun _ h=>(by first | exact yld U9 rfl rfl (h.blk ak) rfl | exact yld U9 rfl rfl (h.blk eg) rfl)) ag ?_); refine zqt 6 rfl (yfa fl39_3 rfl) ag (qT 7 rfl (fun _ h=>(by first | exact yld U3 rfl rfl (h.blk ak) rfl | exact yld U3 rfl rfl (h.blk eg) rfl)) ag ?_); refine zqo 8 [.tmp 26, .tmp 28, .tmp 30] rfl cf60 rfl (rangeM_ret (cu.map.ext ag) key n) ?_; rintro v3 w3 ⟨ah, gV⟩; refine ⟨ag.trans ah, ?_⟩
  obtain rfl : v3 = .tuple #[.slice none 0 0, I 1] := by
   rcases gV with ⟨-, h⟩ | ⟨h, -⟩
   ·exact h
   ·omega
  refine zqt 9 rfl (ymv rfl) (ag.trans ah) (zqt 10 rfl (yex rfl rfl) (ag.trans ah) (zqt 11 rfl (yex rfl rfl) (ag.trans ah) (zqt 12 rfl (yas rfl) (ag.trans ah) (zqt 13 rfl (yas rfl) (ag.trans ah) (qE (Run.qb (e := [(4, _), (5, _), (6, _), (7, _), (8, _)]) ?_)))))); refine run_seq (qN rfl (zqm rfl (zqm rfl (qV (yne rfl rfl) (rFalse (by (first | exact fun h => h rfl | assumption | omega)) ?_))))); refine zqm rfl (zqm rfl (qV (yln U45 rfl) (zqm rfl (qV (yln U30 rfl) (qV (yne rfl rfl) (rFalse (by (first | exact fun h => h rfl | assumption | omega)) ?_)))))); refine qV (ypF rfl rfl) (rEnd (run_false rfl (run_skip (run_seq (qN rfl (zqa rfl (rEnd (run_block (zqu (α := Unit) (()) (fun _ => [(5, .slice none 0 0), (7, .slice none 0 0), (9, I 0)]) (fun _ w' => w' = w3) (fun _ => 0) ?hI ?hround)))))))))
  case hI => rfl
  case hround =>
   rintro ⟨⟩ w4 rfl ih
   try dsimp only
   refine run_seq (qN rfl (zqm rfl (zqm rfl (qV (yln U30 rfl) (qV (ylt rfl rfl) (rEnd (run_if rfl (fun af => ?_) (fun af => ?_))))))))
   ·exact absurd af (by decide)
   ·refine run_exit rfl (qN rfl (zqa rfl (rEnd (run_ret Tryz.func26 rfl ?_)))); exact ⟨_, rfl, rfl, ((aa.trans aI).trans (ag.trans ah))⟩
 ·obtain ⟨R, hR⟩ : ∃ R, rangeE X.es key n.toNat = R := ⟨_, rfl⟩; have GW : (X.es.drop (posE X.es key)).take n.toNat = R := by rw [← rangeE_drop JY]; exact hR
  rw [hR] at hL
  have nJ : R.length ≤ 1000000 := by
   have : R.length ≤ X.es.length := by rw [← GW, List.length_take, List.length_drop]; omega
   omega
  obtain ⟨xa, xq2, rfl⟩ := some_ofE hL; refine zqt 9 rfl (ymv rfl) (hg.trans ae) (zqt 10 rfl (yex rfl rfl) (hg.trans ae) (zqt 11 rfl (yex rfl rfl) (hg.trans ae) (zqt 12 rfl (yas rfl) (hg.trans ae) (zqt 13 rfl (yas rfl) (hg.trans ae) (qE (run_seq (run_draw (fun w' => Ext w2 w') (by kernel_rfl) rfl (zqt 0 rfl (ymv rfl) ag (zqt 1 rfl (ynk rfl) ag (zqt 2 rfl (yfa fl36_2 rfl) ag (qT 3 rfl (fun _ h=>(by first | exact yld U29 rfl rfl (h.blk ak) rfl | exact yld U29 rfl rfl (h.blk eg) rfl)) ag ?_))))))))))); refine zqt 4 rfl (yfa fl39_1 rfl) ag (qT 5 rfl (fun _ h=>(by first | exact yld U9 rfl rfl (h.blk ak) rfl | exact yld U9 rfl rfl (h.blk eg) rfl)) ag ?_); refine zqt 6 rfl (yfa fl39_3 rfl) ag (qT 7 rfl (fun _ h=>(by first | exact yld U3 rfl rfl (h.blk ak) rfl | exact yld U3 rfl rfl (h.blk eg) rfl)) ag ?_); refine zqo 8 [.tmp 26, .tmp 28, .tmp 30] rfl cf60 rfl (rangeM_ret (cu.map.ext ag) key n) ?_; rintro v3 w3 ⟨ah, gV⟩; refine ⟨ag.trans ah, ?_⟩
  obtain ⟨rv, rfl, GX, K0⟩ : ∃ rv, v3 = .tuple #[rv, I 0] ∧ Rd w3 rv 2 R.length (esC R) ∧ ∀ g, rv.ownBlock = some g → mv.ownBlock = some g := by
   rcases gV with ⟨h, -⟩ | ⟨-, rv, h1, h2, h3⟩
   ·omega
   ·rw [GW] at h2; exact ⟨rv, h1, h2, h3⟩
  obtain ⟨ra, rc2, rfl, -⟩ := GX.shape; have jj := ag.trans ah; have GY := hL.ext jj; have eI := aa.size; have eQ := aI.size; have jK := jj.size; refine zqt 9 rfl (ymv rfl) (ag.trans ah) (zqt 10 rfl (yex rfl rfl) (ag.trans ah) (zqt 11 rfl (yex rfl rfl) (ag.trans ah) (zqt 12 rfl (yas rfl) (ag.trans ah) (zqt 13 rfl (yas rfl) (ag.trans ah) (qE (Run.qb (e := [(4, _), (5, _), (6, _), (7, _), (8, _)]) ?_)))))); refine run_seq (qN rfl (zqm rfl (zqm rfl (qV (yne rfl rfl) (rFalse (by (first | exact fun h => h rfl | assumption | omega)) ?_))))); refine zqm rfl (zqm rfl (qV (yln U45 rfl) (zqm rfl (qV (yln U30 rfl) (qV (yne rfl rfl) (rFalse (by (first | exact fun h => h rfl | assumption | omega)) ?_)))))); refine qV (ypF rfl rfl) (rEnd (run_false rfl (run_skip (run_seq (qN rfl (zqa rfl (rEnd (run_block ?_)))))))); rcases GY.shape with ⟨e, e0⟩ | ⟨gl, cap, e, jx⟩
  ·refine zqu (α := Unit) (()) (fun _ => [(5, .slice xa R.length xq2), (7, .slice ra R.length rc2), (9, I 0)]) (fun _ w' => w' = w3) (fun _ => 0) ?hI ?hround
   case hI => rfl
   case hround =>
    rintro ⟨⟩ w4 rfl ih
    try dsimp only
    refine run_seq (qN rfl (zqm rfl (zqm rfl (qV (yln U30 rfl) (qV (ylt rfl rfl) (rEnd (run_if rfl (fun af => ?_) (fun af => ?_))))))))
    ·omega
    ·refine run_exit rfl (qN rfl (zqa rfl (rEnd (run_ret Tryz.func26 rfl ?_)))); exact ⟨_, rfl, rfl, (aa.trans aI).trans jj⟩
  ·cases e; obtain ⟨cur, bS, -, -, cM, dq⟩ := GY.row; have GZ := bS.blk; have mJ : w1.drew.heap.size ≤ gl := ce gl rfl; have DP := GZ.lt; have KR := hg.size
   have Fs : ∀ (j : Nat) (y : Bytes × Bytes), R[j]? = some y → cur[2 * j]? = some (S y.1) ∧ cur[2 * j + 1]? = some (S y.2) := fun j y hy => by
    obtain ⟨f1, f2⟩ := flat2 (fun x : Bytes × Bytes => S x.1) (fun x : Bytes × Bytes => S x.2) R j; rw [hy] at f1 f2; have hj := (List.getElem?_eq_some_iff.1 hy).1; have g1 : (esC R)[2 * j]? = some (S y.1) := f1; have g2 : (esC R)[2 * j + 1]? = some (S y.2) := f2; rw [← dq, List.getElem?_take] at g1 g2; rw [if_pos (by omega)] at g1 g2; exact ⟨g1, g2⟩
   have Ft : Ext w w3 := (aa.trans aI).trans jj; refine zqu (α := Nat) (0) (fun i => [(5, .slice (some ⟨gl, 0, none⟩) R.length xq2), (7, .slice ra R.length rc2), (9, I (i : Int))]) (fun i w' => i ≤ R.length ∧ Kp (fun k => k = gl) w3 w' ∧ ∃ cur', Blk w' gl cur' 49 ∧ cur'.length = cur.length ∧ ∀ (j : Nat) (y : Bytes × Bytes), i ≤ j → R[j]? = some y → cur'[2 * j]? = some (S y.1) ∧ cur'[2 * j + 1]? = some (S y.2)) (fun i => R.length - i) ?hI ?hround
   case hI => exact ⟨Nat.zero_le _, Kp.refl _ _, cur, GZ, rfl, fun j y _ hy => Fs j y hy⟩
   case hround =>
    rintro i w4 ⟨hi, az, cur4, aW, uN, sn⟩ ih
    try dsimp only
    refine run_seq (qN rfl (zqm rfl (zqm rfl (qV (yln U30 rfl) (qV (ylt rfl rfl) (rEnd (run_if rfl (fun af => ?_) (fun af => ?_))))))))
    ·have ab : i < R.length := by omega
     obtain ⟨y, hy⟩ : ∃ y, R[i]? = some y := ⟨_, List.getElem?_eq_getElem ab⟩; obtain ⟨y1, y2⟩ := sn i y (Nat.le_refl _) hy
     have Fu : Rd w4 (.slice ra R.length rc2) 2 R.length (esC R) := Rd.kpz GX az (fun h0 g hg e => by
      have h7 := hM.lt (k := g) (.inr (.inr (.inl (K0 g hg))))
      omega)
     obtain ⟨b1, o1, y', rfl, -⟩ := rd_ens Fu rfl ab; have aM := Ext.drew0 w4; refine run_skip (run_seq (run_block (run_seq (run_seq (run_draw (fun w' => Ext w4 w') (by kernel_rfl) rfl ?_))))); have gw : ∀ w', Ext w4 w' → w'.cell? ⟨gl, 0 + i * 2, none⟩ = some (S y.1) := fun w' hx => by rw [(hx.blk aW).cell, Nat.zero_add, Nat.mul_comm]; exact y1
     have cD : ∀ w', Ext w4 w' → w'.cell? ⟨gl, 0 + i * 2 + 1, none⟩ = some (S y.2) := fun w' hx => by rw [(hx.blk aW).cell, Nat.zero_add, Nat.mul_comm]; exact y2
     refine zqt 0 rfl (ymv rfl) aM (zqt 1 rfl (ymv rfl) aM (zqt 2 rfl (yis U45 ti49 rfl rfl (by omega)) aM (zqt 3 rfl (yfa fl49_0 rfl) aM (zqt 5 rfl (ymv rfl) aM (zqt 6 rfl (ymv rfl) aM (zqt 7 rfl (yis U30 ti41 rfl rfl (by omega)) aM (zqt 8 rfl (yfa fl41_0 rfl) aM (qT 4 rfl (fun _ h=>yldc U9 rfl rfl (gw _ h)) aM (qT 9 rfl (fun _ h=>yldc U9 rfl rfl (rd_en0 (Fu.ext h) ab hy)) aM (zqt 10 rfl (yneS rfl rfl) aM (zqt 11 rfl (ymv rfl) aM (rh_bool (fun h5 => ?_) (fun h5 => ?_)))))))))))))
     ·simp at h5
     ·refine zqt 12 rfl (ymv rfl) aM (zqt 13 rfl (ymv rfl) aM (zqt 14 rfl (yis U45 ti49 rfl rfl (by omega)) aM (zqt 15 rfl (yfa fl49_1 rfl) aM (zqt 17 rfl (ymv rfl) aM (zqt 18 rfl (ymv rfl) aM (zqt 19 rfl (yis U30 ti41 rfl rfl (by omega)) aM (zqt 20 rfl (yfa fl41_1 rfl) aM (qT 16 rfl (fun _ h=>yldc U9 rfl rfl (cD _ h)) aM (qT 21 rfl (fun _ h=>yldc U9 rfl rfl (rd_en1 (Fu.ext h) ab hy)) aM (zqt 22 rfl (yneS rfl rfl) aM (zqt 23 rfl (ypF rfl rfl) aM (qE (run_cond rfl (fun h6 => ?_) (fun h6 => ?_))))))))))))))
      ·simp at h6
      ·refine run_skip (run_reg rfl (zqm rfl (zqm rfl (qV (yis U45 ti49 rfl rfl (by omega)) (qV (yfa fl49_0 rfl) (rEffP rfl (zst ti9 rfl rfl rfl (aM.blk aW) (by omega)) ?_)))))); rintro w5 ⟨bx, bh⟩; refine rEnd (run_inBlock (run_reg rfl (zqm rfl (zqd rfl rfl (zqa rfl (rEnd ((ih (i + 1) w5 ⟨by omega, az.trans (aM.kp.trans bh), _, bx, by rw [List.length_set]; exact uN, fun j y' hj mB => ?_⟩ (by omega)).qb))))))); have := sn j y' (by omega) mB; rw [List.getElem?_set_ne (by omega), List.getElem?_set_ne (by omega)]; exact this
    ·refine run_exit rfl (qN rfl (zqa rfl (rEnd (run_ret Tryz.func26 rfl ?_)))); exact ⟨_, rfl, rfl, Ft.trans_new az (fun i hi => by omega)⟩
end
theorem flat_nth {α : Type} {f : α → List Value} {k : Nat} (hf : ∀ a, (f a).length = k) : ∀ (l : List α) (i r : Nat), r < k → (l.flatMap f)[i * k + r]? = (l[i]?).bind fun a => (f a)[r]?
 | [], i, r, hr => by simp
 | a :: l, 0, r, hr => by
   rw [List.flatMap_cons, Nat.zero_mul, Nat.zero_add, List.getElem?_append_left (by rw [hf]; exact hr)]
   rfl
 | a :: l, i + 1, r, hr => by
   rw [List.flatMap_cons, List.getElem?_append_right (by rw [hf, Nat.succ_mul]; omega), hf, show (i + 1) * k + r - k = i * k + r by rw [Nat.succ_mul]; omega, flat_nth hf l i r hr]
   rfl
structure TOp where
 kd : Int
 key : Bytes
 val : Bytes
 n : Int
 nos : List Int
 auto : Bool
 nv : Value
def TOp.cs (o : TOp) : List Value := opC o.kd o.key o.val o.n o.nv o.auto
structure OpsT (w : World) (v : Value) (l : List TOp) : Prop where
 rd : Rd w v 6 l.length (l.flatMap TOp.cs)
 le : l.length ≤ 140737488355328
 nos : ∀ o ∈ l, Rd w o.nv 1 o.nos.length (o.nos.map I) ∧ o.nos.length ≤ 17592186044415 ∧ ∃ a c, o.nv = .slice a o.nos.length c ∧ o.nos.length ≤ c
 str : ∀ o ∈ l, o.key.length ≤ 140737488355328 ∧ o.val.length ≤ 140737488355328 ∧ o.n ≤ 9223372036854775807
theorem OpsT.ext {w w' : World} {v : Value} {l : List TOp} (h : OpsT w v l) (k : Ext w w') : OpsT w' v l := ⟨h.rd.ext k, h.le, fun o ho => ⟨(h.nos o ho).1.ext k, (h.nos o ho).2⟩, h.str⟩
theorem rd_op {w : World} {b off n cap : Nat} {l : List TOp} {i : Nat} {o : TOp} (h : Rd w (.slice (some ⟨b, off, none⟩) n cap) 6 n (l.flatMap TOp.cs)) (hi : i < n) (hy : l[i]? = some o) (r : Nat) (hr : r < 6) : w.cell? ⟨b, off + i * 6 + r, none⟩ = o.cs[r]? := by
 rcases h.2 with ⟨c, -, h0⟩ | ⟨b', off', cap', hv, hc⟩
 ·omega
 ·cases hv; have e := flat_nth (f := TOp.cs) (k := 6) (fun a => rfl) l i r hr; rw [hy] at e; have e' : (l.flatMap TOp.cs)[i * 6 + r]? = o.cs[r]? := e; have af : r < o.cs.length := hr; rw [List.getElem?_eq_getElem af] at e' ⊢; have := hc _ _ e'; rw [Nat.add_assoc]; exact this
theorem rd_ops {w : World} {a : Option Addr} {cap n : Nat} {l : List TOp} {i : Nat} (h : Rd w (.slice a n cap) 6 n (l.flatMap TOp.cs)) (hn : n = l.length) (hi : i < n) : ∃ b off o, a = some ⟨b, off, none⟩ ∧ l[i]? = some o := by
 rcases h.2 with ⟨c, -, h0⟩ | ⟨b', off', cap', hv, hc⟩
 ·omega
 ·cases hv; exact ⟨b', off', _, rfl, List.getElem?_eq_getElem (by omega)⟩
section
variable {w w' w0 : World} {q : Nat} {X : Sx} {p m : Nat} {mv sv gv : Value} {nb : Int → Nat} {F : Nat → Prop} {S : Nat → Prop}
theorem StM.kp (h : StM w q X p m mv sv gv nb F) (k : Kp S w w') (hn : ∀ k, fpS q m mv sv gv F k → ¬ S k) : StM w' q X p m mv sv gv nb F :=
 ⟨k.blk h.blk (hn _ (.inl rfl)), h.tree.kp k (fun g hg => hn g (.inr (.inr (.inr (.inr (.inr hg)))))), h.map.kp k (hn _ (.inr (.inl rfl))) (fun g hg => hn g (.inr (.inr (.inl hg)))), h.sto.kp k (fun g hg => hn g (.inr (.inr (.inr (.inl hg))))), h.giv.kp k (fun g hg => hn g (.inr (.inr (.inr (.inr (.inl hg)))))), h.qm, h.fq, h.fm, h.ov, h.og⟩
theorem StM.init {z : Nat} (hT : TreeA w p (Tr0 z) nb F) (hm : Blk w m [.slice none 0 0] 32) (hB : Blk w q [I (z : Int), ptr p 0, ptr m 0, .slice none 0 0, .slice none 0 0, I 0] 36) (Bl : q ≠ m) (hq : ¬ F q) (Fv : ¬ F m) :
  StM w q ⟨Tr0 z, 0, [], [], fun _ => none, [], [], 0⟩ p m (.slice none 0 0) (.slice none 0 0) (.slice none 0 0) nb F :=
 ⟨hB, hT, ⟨hm, Sl.nil _ _ _, by simp [Value.ownBlock], by simp⟩, by
  have e : pgs z (fun _ => none) [] (fun _ => true) = [] := List.eq_nil_of_length_eq_zero (by rw [pgs_all_len]; rfl); show Sl w _ _ 2 (pgs z (fun _ => none) [] (fun _ => true)).length (pgC (pgs z (fun _ => none) [] (fun _ => true))); rw [e]
  exact Sl.nil _ _ _, Sl.nil _ _ _, Bl, hq, Fv, fun g hg => by simp [Value.ownBlock] at hg, fun g hg => by simp [Value.ownBlock] at hg⟩
end
def St2 (w0 w : World) (qa pa ma qb pb mb : Nat) (Xa Xb : Sx) : Prop := ∃ mva sva gva nba Fa mvb svb gvb nbb Fb, StM w qa Xa pa ma mva sva gva nba Fa ∧ StM w qb Xb pb mb mvb svb gvb nbb Fb ∧ (∀ k, fpS qa ma mva sva gva Fa k → w0.heap.size ≤ k) ∧ (∀ k, fpS qb mb mvb svb gvb Fb k → w0.heap.size ≤ k) ∧ (∀ k, fpS qa ma mva sva gva Fa k → ¬ fpS qb mb mvb svb gvb Fb k) ∧ Ext w0 w
section
variable {w0 w w' : World} {qa pa ma qb pb mb : Nat} {Xa Xb Xa' : Sx}
theorem St2.symm (h : St2 w0 w qa pa ma qb pb mb Xa Xb) : St2 w0 w qb pb mb qa pa ma Xb Xa := by
 obtain ⟨mva, sva, gva, nba, Fa, mvb, svb, gvb, nbb, Fb, h1, h2, h3, h4, h5, h6⟩ := h
 exact ⟨mvb, svb, gvb, nbb, Fb, mva, sva, gva, nba, Fa, h2, h1, h4, h3, fun k hk br => h5 k br hk, h6⟩
theorem St2.ext (h : St2 w0 w qa pa ma qb pb mb Xa Xb) (k : Ext w w') : St2 w0 w' qa pa ma qb pb mb Xa Xb := by
 obtain ⟨mva, sva, gva, nba, Fa, mvb, svb, gvb, nbb, Fb, h1, h2, h3, h4, h5, h6⟩ := h
 exact ⟨mva, sva, gva, nba, Fa, mvb, svb, gvb, nbb, Fb, h1.ext k, h2.ext k, h3, h4, h5, h6.trans k⟩
end
theorem giveOk_nil (T : Tr) : giveOk T [] := ⟨List.nodup_nil, by simp⟩
theorem giveOk_snoc {T : Tr} {l : List Int} {x : Int} : giveOk T (l ++ [x]) ↔ giveOk T l ∧ x ∉ l ∧ (1 ≤ x ∧ x ≤ 2147483647) ∧ T.nodes x = none ∧ T.old x = false ∧ x ∉ T.given := by
 unfold giveOk
 constructor
 ·rintro ⟨h1, h2⟩; obtain ⟨n1, -, n3⟩ := List.nodup_append.1 h1; exact ⟨⟨n1, fun y hy => h2 y (List.mem_append_left _ hy)⟩, fun e => n3 x e x (List.mem_singleton.2 rfl) rfl, h2 x (List.mem_append_right _ (List.mem_singleton.2 rfl))⟩
 ·rintro ⟨⟨h1, h2⟩, h3, h4⟩; refine ⟨List.nodup_append.2 ⟨h1, List.nodup_cons.2 ⟨List.not_mem_nil, List.nodup_nil⟩, fun a ha b hb e => ?_⟩, fun y hy => ?_⟩
  ·rw [List.mem_singleton.1 hb] at e; exact h3 (e ▸ ha)
  ·rcases List.mem_append.1 hy with hy | hy
   ·exact h2 y hy
   ·rw [List.mem_singleton.1 hy]; exact h4
section
variable {w w' : World} {q : Nat} {X : Sx} {p m : Nat} {mv sv gv : Value} {nb : Int → Nat} {F : Nat → Prop}
theorem StM.reset (h : StM w q X p m mv sv gv nb F) {T' : Tr} {p' : Nat} {nb' : Int → Nat} {F' : Nat → Prop} {O' : Nodes} {os' gs' : List Int} {sv' gv' : Value} (cR : Kp (fun k => F k ∨ k = q) w w')
  (hB : Blk w' q [I (X.T.size : Int), ptr p' 0, ptr m 0, sv', gv', I (X.nx : Int)] 36) (hT : TreeA w' p' T' nb' F') (hs : T'.size = X.T.size) (hF : ∀ k, F' k → F k ∨ w.heap.size ≤ k)
  (hS : Sl w' sv' 54 2 (pgs X.T.size O' os' fun _ => true).length (pgC (pgs X.T.size O' os' fun _ => true))) (hG : Sl w' gv' 3 1 gs'.length (gs'.map I))
  (hn : ∀ g, sv'.ownBlock = some g ∨ gv'.ownBlock = some g → w.heap.size ≤ g ∧ ¬ F' g) (aZ : ∀ g, gv'.ownBlock = some g → sv'.ownBlock ≠ some g) :
  StM w' q { X with T := T', O := O', os := os', gs := gs' } p' m mv sv' gv' nb' F' ∧ Kp (fpS q m mv sv gv F) w w' ∧ ∀ k, fpS q m mv sv' gv' F' k → fpS q m mv sv gv F k ∨ w.heap.size ≤ k := by
 have hq := h.blk.lt
 have hm := h.map.blk.lt
 have K1 : ¬ F' q := fun e => (hF q e).elim h.fq (fun e => by omega)
 have rm : ¬ F' m := fun e => (hF m e).elim h.fm (fun e => by omega)
 have K2 : ∀ g, mv.ownBlock = some g → ¬ F' g := fun g hg e => (hF g e).elim (h.ov g (.inl hg)).2.2 (fun e => by have := h.map.sl.lt hg; omega)
 refine ⟨⟨?_, hT, h.map.kp cR (fun e => e.elim h.fm (fun e => h.qm e.symm)) (fun g hg e => e.elim (h.ov g (.inl hg)).2.2 (h.ov g (.inl hg)).1), ?_, hG, h.qm, K1, rm, fun g hg => ?_, fun g hg => ⟨fun e => ?_, aZ g hg⟩⟩, cR.mono' (fun k e => e.elim (fun e => .inr (.inr (.inr (.inr (.inr e))))) .inl), fun k hk => ?_⟩
 ·dsimp only; rw [hs]; exact hB
 ·dsimp only; rw [hs]; exact hS
 ·rcases hg with hg | hg
  ·exact ⟨(h.ov g (.inl hg)).1, (h.ov g (.inl hg)).2.1, K2 g hg⟩
  ·have := hn g hg; exact ⟨by omega, by omega, this.2⟩
 ·have := h.map.sl.lt e; have := (hn g (.inr hg)).1; omega
 ·rcases hk with hk | hk | hk | hk | hk | hk
  ·exact .inl (.inl hk)
  ·exact .inl (.inr (.inl hk))
  ·exact .inl (.inr (.inr (.inl hk)))
  ·exact .inr (hn k (.inl hk)).1
  ·exact .inr (hn k (.inr hk)).1
  ·exact (hF k hk).imp (fun e => .inr (.inr (.inr (.inr (.inr e))))) id
end
/-! ### Pages turned round in place -/
def PgB (cur : List Value) (l : Pgs) : Prop := 2 * l.length ≤ cur.length ∧ ∀ (j : Nat) (y : Int × Bytes), l[j]? = some y → cur[2 * j]? = some (I y.1) ∧ cur[2 * j + 1]? = some (S y.2)
theorem PgB.set {cur : List Value} {l : Pgs} (h : PgB cur l) {i : Nat} (y : Int × Bytes) (hi : i < l.length) : PgB (splice cur (2 * i) [I y.1, S y.2]) (l.set i y) := by
 obtain ⟨h1, h2⟩ := h
 have dt : 2 * i + [I y.1, S y.2].length ≤ cur.length := by simp; omega
 refine ⟨by rw [splice_length _ _ _ dt, List.length_set]; exact h1, fun j z hz => ?_⟩
 rw [splice_get _ _ _ _ dt, splice_get _ _ _ _ dt]
 simp only [List.length_cons, List.length_nil]
 by_cases e : j = i
 ·subst e; rw [List.getElem?_set_self hi] at hz; cases hz; rw [if_pos (by omega), if_pos (by omega), Nat.sub_self, show 2 * j + 1 - 2 * j = 1 by omega]; exact ⟨rfl, rfl⟩
 ·rw [List.getElem?_set_ne (fun e' => e e'.symm)] at hz; rw [if_neg (by omega), if_neg (by omega)]; exact h2 j z hz
theorem pgC_get {l : Pgs} {j : Nat} {y : Int × Bytes} (h : l[j]? = some y) : (pgC l)[2 * j]? = some (I y.1) ∧ (pgC l)[2 * j + 1]? = some (S y.2) := by
 have f1 := flat_nth (f := fun x : Int × Bytes => [I x.1, S x.2]) (k := 2) (fun _ => rfl) l j 0 (by omega)
 have f2 := flat_nth (f := fun x : Int × Bytes => [I x.1, S x.2]) (k := 2) (fun _ => rfl) l j 1 (by omega)
 rw [h] at f1 f2
 rw [Nat.mul_comm 2 j]
 exact ⟨f1, f2⟩
theorem PgB.mk' {cur : List Value} {l : Pgs} {n : Nat} (h : cur.take n = pgC l) (hn : n = l.length * 2) (hl : n ≤ cur.length) : PgB cur l := by
 refine ⟨by omega, fun j y hy => ?_⟩
 have hj := (List.getElem?_eq_some_iff.1 hy).1
 obtain ⟨g1, g2⟩ := pgC_get hy
 rw [← h, List.getElem?_take, if_pos (by omega)] at g1 g2
 exact ⟨g1, g2⟩
theorem PgB.rd {cur : List Value} {l : Pgs} (h : PgB cur l) {w : World} {b cap : Nat} {T : TypeId} (hB : Blk w b cur T) : Rd w (.slice (some ⟨b, 0, none⟩) l.length cap) 2 l.length (pgC l) := by
 refine ⟨by rw [pgC_len], .inr ⟨b, 0, cap, rfl, fun j u hj => ?_⟩⟩
 rw [hB.cell, Nat.zero_add]
 have xI : j < (pgC l).length := (List.getElem?_eq_some_iff.1 hj).1
 rw [pgC_len] at xI
 obtain ⟨y, hy⟩ : ∃ y, l[j / 2]? = some y := ⟨_, List.getElem?_eq_getElem (by omega)⟩
 obtain ⟨g1, g2⟩ := pgC_get hy
 obtain ⟨c1, c2⟩ := h.2 _ _ hy
 rcases Nat.mod_two_eq_zero_or_one j with e | e
 ·rw [show 2 * (j / 2) = j by omega] at g1 c1; rw [c1, ← hj, g1]
 ·rw [show 2 * (j / 2) + 1 = j by omega] at g2 c2; rw [c2, ← hj, g2]
def RvI (l c : Pgs) (i : Nat) : Prop := c.length = l.length ∧ ∀ j, j < l.length → c[j]? = if j < i ∨ l.length - i ≤ j then l[l.length - 1 - j]? else l[j]?
theorem RvI.zero (l : Pgs) : RvI l l 0 := ⟨rfl, fun j hj => by rw [if_neg (by omega)]⟩
theorem RvI.step {l c : Pgs} {i : Nat} (h : RvI l c i) (hi : 2 * i + 1 < l.length) {a b : Int × Bytes} (ha : c[i]? = some a) (hb : c[l.length - 1 - i]? = some b) : RvI l ((c.set i b).set (l.length - 1 - i) a) (i + 1) := by
 obtain ⟨h1, h2⟩ := h
 refine ⟨by rw [List.length_set, List.length_set, h1], fun j hj => ?_⟩
 rw [h2 i (by omega), if_neg (by omega)] at ha
 rw [h2 (l.length - 1 - i) (by omega), if_neg (by omega)] at hb
 by_cases e1 : j = l.length - 1 - i
 ·subst e1; rw [List.getElem?_set_self (by rw [List.length_set, h1]; omega), if_pos (by omega), show l.length - 1 - (l.length - 1 - i) = i by omega, ha]
 ·rw [List.getElem?_set_ne (fun e => e1 e.symm)]; by_cases e2 : j = i
  ·subst e2; rw [List.getElem?_set_self (by rw [h1]; omega), if_pos (by omega), hb]
  ·rw [List.getElem?_set_ne (fun e => e2 e.symm), h2 j hj]; by_cases e3 : j < i ∨ l.length - i ≤ j
   ·rw [if_pos e3, if_pos (by omega)]
   ·rw [if_neg e3, if_neg (by omega)]
theorem RvI.fin {l c : Pgs} {i : Nat} (h : RvI l c i) (hi : l.length ≤ 2 * i + 1) : c = l.reverse := by
 obtain ⟨h1, h2⟩ := h
 apply List.ext_getElem?
 intro j
 by_cases hj : j < l.length
 ·rw [h2 j hj, List.getElem?_reverse hj]; by_cases e3 : j < i ∨ l.length - i ≤ j
  ·rw [if_pos e3]
  ·rw [if_neg e3, show l.length - 1 - j = j by omega]
 ·rw [List.getElem?_eq_none (by omega), List.getElem?_eq_none (by rw [List.length_reverse]; omega)]
theorem rd_takeI {w : World} {b off n cap i : Nat} {l : List Int} (h : Rd w (.slice (some ⟨b, off, none⟩) n cap) 1 n (l.map I)) (hi : i ≤ l.length) (hn : n = l.length) (c : Nat) : Rd w (.slice (some ⟨b, off, none⟩) i c) 1 (l.take i).length ((l.take i).map I) := by
 rw [List.length_take, Nat.min_eq_left hi]
 refine ⟨by rw [List.length_map, List.length_take]; omega, .inr ⟨b, off, c, rfl, fun j u hj => ?_⟩⟩
 rcases h.2 with ⟨c', -, h0⟩ | ⟨b', off', cap', hv, hc⟩
 ·rw [hn] at h0; have : j < ((l.take i).map I).length := (List.getElem?_eq_some_iff.1 hj).1; rw [List.length_map, List.length_take] at this; omega
 ·cases hv; refine hc j u ?_; rw [List.map_take, List.getElem?_take] at hj; split at hj
  ·exact hj
  ·cases hj
section
variable {w : World} {q : Nat} {X : Sx} {p m : Nat} {mv sv gv : Value} {nb : Int → Nat} {F : Nat → Prop} {k : Nat}
set_option maxHeartbeats 8000000 in
theorem giveS_ret (hM : StM w q X p m mv sv gv nb F) (hG : Gh X k) (hz : sizeOk (X.T.size : Int)) (hk : k ≤ 340) {la : Option Addr} {lc : Nat} {l : List Int} (hR : Rd w (.slice la l.length lc) 1 l.length (l.map I)) (hl : l.length ≤ 17592186044415) (hc : l.length ≤ lc) (hd : 0 < l.length → ∀ g, (Value.slice la l.length lc).ownBlock = some g → ¬ fpS q m mv sv gv F g) :
  Ret Tryz.prog 57 [ptr q 0, .slice la l.length lc] w fun v w' => v = .bool true ∧ ∃ X' gv' F', StM w' q X' p m mv sv gv' nb F' ∧ Gh X' (k + 1) ∧ X'.T.size = X.T.size ∧ X'.es = X.es ∧ Kp (fpS q m mv sv gv F) w w' ∧ ∀ k, fpS q m mv sv gv' F' k → fpS q m mv sv gv F k ∨ w.heap.size ≤ k := by
 have hI := hG.inv
 have xo := Inv.cnts hz hI
 have fJ := hG.el
 have Gv := hG.ol
 have Fk := hG.gl
 have de := hI.gl
 have dL : maxLen = 9223372036854775807 := rfl
 have bz := hI.nodup
 obtain ⟨P, hP⟩ : ∃ P, (pgs X.T.size X.T.nodes X.ns fun _ => true) = P := ⟨_, rfl⟩
 have Bm : P.length = X.ns.length := by rw [← hP, pgs_all_len]
 have H0 : ∀ x, x ∈ P.map (·.1) ↔ X.T.nodes x ≠ none := fun x => by
  rw [← hP, pgs_fst, List.mem_filter, sortZ_mem, hI.mem x]; simp
 have hB := hM.blk
 refine ret_of_run (e := [(0, _), (1, _)]) Tryz.func57 rfl Tryz.ntmps57 rfl rfl (qN rfl (zqa rfl (qM rfl (zqm rfl (qV (ynk rfl) (qV (yfa fl36_1 rfl) (qV (yld U24 rfl rfl hB rfl) (zqc [.tmp 17] cf22 rfl (pages_ret hM.tree hI (by omega)) ?_))))))))
 rintro v1 w1 ⟨aa, dC, -⟩
 rw [hP] at dC
 refine zqc [.tmp 18] cf29 rfl (pagesL_ret (Sl.rd dC) (by omega)) ?_
 rintro v2 w2 ⟨ae, bB, -⟩
 obtain ⟨pa, pc, rfl⟩ := some_ofE bB
 have ay := aa.trans ae
 have cu := hM.ext ay
 have ak := cu.blk
 refine zqa rfl (qM rfl (zqm rfl (qV (ynk rfl) (qV (yfa fl36_1 rfl) (qV (yld U24 rfl rfl ak rfl) (zqc [.tmp 23] cf27 rfl (given_ret cu.tree (by omega)) ?_))))))
 rintro v3 w3 ⟨bs, ah, -⟩
 obtain ⟨fa, fc, rfl⟩ := some_ofE bs
 have fd := cu.ext ah
 have aG := fd.blk
 refine zqa rfl (qM rfl (zqm rfl (qV (ynk rfl) (qV (yfa fl36_1 rfl) (qV (yld U24 rfl rfl aG rfl) (zqc [.tmp 28] cf28 rfl (freed_ret fd.tree (os := X.os) (fun x hx => (hG.om x).1 ((hG.old x).1 hx)) (by omega)) ?_))))))
 rintro v4 w4 ⟨aC, fl, -, rm, Gl, gq, -⟩
 obtain ⟨ra, rc, rfl⟩ := some_ofE gq
 have gn := ah.trans aC
 have e7 := ay.trans gn
 have eM := fd.ext aC
 have H2 := (Sl.rd bB).ext gn
 have H5 := (Sl.rd bs).ext aC
 have H6 := Sl.rd gq
 have H7 := hR.ext e7
 refine zqa rfl (qM rfl (zqa rfl (rEnd (run_seq (qN rfl (zqa rfl (rEnd (run_block (zqu (α := Nat × Int) ((0, 0)) (fun x => [(0, ptr q 0), (1, .slice la l.length lc), (5, .slice pa P.length pc), (6, .slice fa X.T.given.length fc), (7, .slice ra fl.length rc), (8, I x.2), (9, I (x.1 : Int))]) (fun x w' => x.1 ≤ l.length ∧ Ext w4 w' ∧ ((x.2 = 0 ∧ giveOk X.T (l.take x.1)) ∨ (x.2 = 1 ∧ ¬ giveOk X.T (l.take x.1)))) (fun x => l.length - x.1) ?hI ?hround)))))))))
 case hI => exact ⟨Nat.zero_le _, Ext.refl _, .inl ⟨rfl, giveOk_nil _⟩⟩
 case hround =>
  rintro ⟨i, wt⟩ w5 ⟨hi, aJ, sM⟩ ih; dsimp only at hi sM
  try dsimp only
  refine run_seq (qN rfl (zqm rfl (zqm rfl (qV (yln U34 rfl) (qV (ylt rfl rfl) (rEnd (run_if rfl (fun af => ?_) (fun af => ?_))))))))
  ·have ab : i < l.length := by omega
   obtain ⟨lb, lo, x, rfl, hx⟩ := rd_getI hR ab; have a8 := Ext.drew0 w5; have cx := aJ.trans a8
   have ua : giveOk X.T (l.take (i + 1)) ↔ giveOk X.T (l.take i) ∧ x ∉ l.take i ∧ (1 ≤ x ∧ x ≤ 2147483647) ∧ X.T.nodes x = none ∧ X.T.old x = false ∧ x ∉ X.T.given := by
    obtain ⟨_, e⟩ := List.getElem?_eq_some_iff.1 hx; rw [List.take_succ_eq_append_getElem ab, e]; exact giveOk_snoc
   have bP : ∀ {Q : Prop}, (giveOk X.T (l.take (i + 1)) → Q) → ¬ Q → ¬ giveOk X.T (l.take (i + 1)) := fun a b c => b (a c); have nJ : ∀ w', Ext w5 w' → Rd w' (.slice (some ⟨lb, lo, none⟩) l.length lc) 1 l.length (l.map I) := fun w' k => (H7.ext aJ).ext k; refine run_skip (run_seq (run_block (run_seq (run_draw (fun w' => Ext w5 w') (by kernel_rfl) rfl (zqt 0 rfl (ymv rfl) a8 (zqt 1 rfl (ymv rfl) a8 (zqt 2 rfl (yis U34 ti3 rfl rfl (by omega)) a8 (qT 3 rfl (fun _ h=>yldc U3 rfl rfl (rd_intT (nJ _ h) ab hx)) a8 (zqt 4 rfl (ylt rfl rfl) a8 (zqt 5 rfl (ymv rfl) a8 (rh_if (fun c1 => ?_) (fun c1 => ?_))))))))))))
   ·refine qJ 6 rfl (a8) (qJ 7 rfl (a8) (qJ 8 rfl (a8) (qJ 9 rfl (a8) (qJ 10 rfl (a8) (zqt 11 rfl (ypT rfl rfl) a8 (zqt 12 rfl (ymv rfl) a8 (qJ 13 rfl (a8) (qJ 14 rfl (a8) (qJ 15 rfl (a8) (qJ 16 rfl (a8) (qJ 17 rfl (a8) (qJ 18 rfl (a8) (qJ 19 rfl (a8) ?_))))))))))))); refine qJ 20 rfl (a8) (zqt 21 rfl (ypT rfl rfl) a8 (zqt 22 rfl (ymv rfl) a8 (qJ 23 rfl (a8) (qJ 24 rfl (a8) (qJ 25 rfl (a8) (qJ 26 rfl (a8) (qJ 27 rfl (a8) (qJ 28 rfl (a8) (zqt 29 rfl (ypT rfl rfl) a8 (zqt 30 rfl (ymv rfl) a8 (qJ 31 rfl (a8) (qJ 32 rfl (a8) (qJ 33 rfl (a8) ?_))))))))))))); refine qJ 34 rfl (a8) (qJ 35 rfl (a8) (qJ 36 rfl (a8) (zqt 37 rfl (ypT rfl rfl) a8 (zqt 38 rfl (ymv rfl) a8 (qJ 39 rfl (a8) (qJ 40 rfl (a8) (qJ 41 rfl (a8) (qJ 42 rfl (a8) (qJ 43 rfl (a8) (qJ 44 rfl (a8) (zqt 45 rfl (ypT rfl rfl) a8 (qE (run_true rfl ?_))))))))))))); refine run_reg rfl (zqa rfl (rEnd (run_inBlock (run_reg rfl (zqm rfl (zqd rfl rfl (zqa rfl (rEnd ?_)))))))); exact (ih (i + 1, 1) _ ⟨by dsimp only; omega, cx, .inr ⟨rfl, fun e => by have := (ua.1 e).2.2.1; omega⟩⟩ (by dsimp only; omega)).qb
   ·refine zqt 6 rfl (ymv rfl) a8 (zqt 7 rfl (ymv rfl) a8 (zqt 8 rfl (yis U34 ti3 rfl rfl (by omega)) a8 (qT 9 rfl (fun _ h=>yldc U3 rfl rfl (rd_intT (nJ _ h) ab hx)) a8 (zqt 10 rfl (ygt rfl rfl) a8 (zqt 11 rfl (ypF rfl rfl) a8 (zqt 12 rfl (ymv rfl) a8 (rh_if (fun c2 => ?_) (fun c2 => ?_))))))))
    ·refine qJ 13 rfl (a8) (qJ 14 rfl (a8) (qJ 15 rfl (a8) (qJ 16 rfl (a8) (qJ 17 rfl (a8) (qJ 18 rfl (a8) (qJ 19 rfl (a8) (qJ 20 rfl (a8) (zqt 21 rfl (ypT rfl rfl) a8 (zqt 22 rfl (ymv rfl) a8 (qJ 23 rfl (a8) (qJ 24 rfl (a8) (qJ 25 rfl (a8) (qJ 26 rfl (a8) ?_))))))))))))); refine qJ 27 rfl (a8) (qJ 28 rfl (a8) (zqt 29 rfl (ypT rfl rfl) a8 (zqt 30 rfl (ymv rfl) a8 (qJ 31 rfl (a8) (qJ 32 rfl (a8) (qJ 33 rfl (a8) (qJ 34 rfl (a8) (qJ 35 rfl (a8) (qJ 36 rfl (a8) (zqt 37 rfl (ypT rfl rfl) a8 (zqt 38 rfl (ymv rfl) a8 (qJ 39 rfl (a8) (qJ 40 rfl (a8) ?_))))))))))))); refine qJ 41 rfl (a8) (qJ 42 rfl (a8) (qJ 43 rfl (a8) (qJ 44 rfl (a8) (zqt 45 rfl (ypT rfl rfl) a8 (qE (run_true rfl (run_reg rfl (zqa rfl (rEnd (run_inBlock (run_reg rfl (zqm rfl (zqd rfl rfl ?_))))))))))))); refine zqa rfl (rEnd ?_); exact (ih (i + 1, 1) _ ⟨by dsimp only; omega, cx, .inr ⟨rfl, fun e => by have := (ua.1 e).2.2.1; omega⟩⟩ (by dsimp only; omega)).qb
    ·refine zqt 13 rfl (ymv rfl) a8 (zqt 14 rfl (ymv rfl) a8 (zqt 16 rfl (ymv rfl) a8 (zqt 17 rfl (ymv rfl) a8 (zqt 18 rfl (yis U34 ti3 rfl rfl (by omega)) a8 (zqt 15 rfl (yslVt U34 ti3 rfl rfl (by omega)) a8 (qT 19 rfl (fun _ h=>yldc U3 rfl rfl (rd_intT (nJ _ h) ab hx)) a8 (zqo 20 [.tmp 51, .tmp 55] rfl cf33 rfl (has_ret (l := l.take i) (rd_takeI (nJ _ a8) hi rfl lc) (by rw [List.length_take]; omega) x) ?_))))))); rintro _ w6 ⟨rfl, aY⟩; refine ⟨(by rw [aY]; exact a8), ?_⟩; have aV : Ext w5 w6 := by rw [aY]; exact a8
     refine zqt 21 rfl (ypF rfl rfl) ((by rw [aY]; exact a8)) ?_; refine zqt 22 rfl (ymv rfl) ((by rw [aY]; exact a8)) ?_; refine rh_if (fun c3 => ?_) (fun c3 => ?_)
     ·refine qJ 23 rfl ((by rw [aY]; exact a8)) ?_; refine qJ 24 rfl ((by rw [aY]; exact a8)) ?_; refine qJ 25 rfl ((by rw [aY]; exact a8)) ?_; refine qJ 26 rfl ((by rw [aY]; exact a8)) ?_; refine qJ 27 rfl ((by rw [aY]; exact a8)) ?_; refine qJ 28 rfl ((by rw [aY]; exact a8)) ?_; refine zqt 29 rfl (ypT rfl rfl) ((by rw [aY]; exact a8)) ?_; refine zqt 30 rfl (ymv rfl) ((by rw [aY]; exact a8)) ?_; refine qJ 31 rfl ((by rw [aY]; exact a8)) ?_; refine qJ 32 rfl ((by rw [aY]; exact a8)) ?_; refine qJ 33 rfl ((by rw [aY]; exact a8)) ?_; refine qJ 34 rfl ((by rw [aY]; exact a8)) ?_; refine qJ 35 rfl ((by rw [aY]; exact a8)) ?_; refine qJ 36 rfl ((by rw [aY]; exact a8)) ?_; refine zqt 37 rfl (ypT rfl rfl) ((by rw [aY]; exact a8)) ?_; refine zqt 38 rfl (ymv rfl) ((by rw [aY]; exact a8)) ?_; refine qJ 39 rfl ((by rw [aY]; exact a8)) ?_; refine qJ 40 rfl ((by rw [aY]; exact a8)) ?_; refine qJ 41 rfl ((by rw [aY]; exact a8)) ?_; refine qJ 42 rfl ((by rw [aY]; exact a8)) ?_; refine qJ 43 rfl ((by rw [aY]; exact a8)) ?_; refine qJ 44 rfl ((by rw [aY]; exact a8)) ?_; refine zqt 45 rfl (ypT rfl rfl) ((by rw [aY]; exact a8)) ?_; refine qE (run_true rfl (run_reg rfl (zqa rfl (rEnd (run_inBlock (run_reg rfl (zqm rfl (zqd rfl rfl (zqa rfl (rEnd ?_)))))))))); exact (ih (i + 1, 1) _ ⟨by dsimp only; omega, aJ.trans aV, .inr ⟨rfl, fun e => (ua.1 e).2.1 c3⟩⟩ (by dsimp only; omega)).qb
     ·refine zqt 23 rfl (ymv rfl) ((by rw [aY]; exact a8)) ?_; refine zqt 24 rfl (ymv rfl) ((by rw [aY]; exact a8)) ?_; refine zqt 25 rfl (ymv rfl) ((by rw [aY]; exact a8)) ?_; refine zqt 26 rfl (yis U34 ti3 rfl rfl (by omega)) ((by rw [aY]; exact a8)) ?_; refine qT 27 rfl (fun _ h=>yldc U3 rfl rfl (rd_intT (nJ _ h) ab hx)) ((by rw [aY]; exact a8)) ?_; refine zqo 28 [.tmp 59, .tmp 63] rfl cf32 rfl (page_ret (l := P) ((H2.ext aJ).ext aV) (by omega) x) ?_; rintro _ w7 ⟨rfl, dm⟩; refine ⟨(by rw [dm]; exact aV), ?_⟩; have aU : Ext w5 w7 := by rw [dm]; exact aV
      refine zqt 29 rfl (ypF rfl rfl) ((by rw [dm]; exact aV)) ?_; refine zqt 30 rfl (ymv rfl) ((by rw [dm]; exact aV)) ?_; refine rh_if (fun c4 => ?_) (fun c4 => ?_)
      ·refine qJ 31 rfl ((by rw [dm]; exact aV)) ?_; refine qJ 32 rfl ((by rw [dm]; exact aV)) ?_; refine qJ 33 rfl ((by rw [dm]; exact aV)) ?_; refine qJ 34 rfl ((by rw [dm]; exact aV)) ?_; refine qJ 35 rfl ((by rw [dm]; exact aV)) ?_; refine qJ 36 rfl ((by rw [dm]; exact aV)) ?_; refine zqt 37 rfl (ypT rfl rfl) ((by rw [dm]; exact aV)) ?_; refine zqt 38 rfl (ymv rfl) ((by rw [dm]; exact aV)) ?_; refine qJ 39 rfl ((by rw [dm]; exact aV)) ?_; refine qJ 40 rfl ((by rw [dm]; exact aV)) ?_; refine qJ 41 rfl ((by rw [dm]; exact aV)) ?_; refine qJ 42 rfl ((by rw [dm]; exact aV)) ?_; refine qJ 43 rfl ((by rw [dm]; exact aV)) ?_; refine qJ 44 rfl ((by rw [dm]; exact aV)) ?_; refine zqt 45 rfl (ypT rfl rfl) ((by rw [dm]; exact aV)) ?_; refine qE (run_true rfl (run_reg rfl (zqa rfl (rEnd (run_inBlock (run_reg rfl (zqm rfl (zqd rfl rfl (zqa rfl (rEnd ?_)))))))))); exact (ih (i + 1, 1) _ ⟨by dsimp only; omega, aJ.trans aU, .inr ⟨rfl, fun e => (H0 x).1 c4 (ua.1 e).2.2.2.1⟩⟩ (by dsimp only; omega)).qb
      ·refine zqt 31 rfl (ymv rfl) ((by rw [dm]; exact aV)) ?_; refine zqt 32 rfl (ymv rfl) ((by rw [dm]; exact aV)) ?_; refine zqt 33 rfl (ymv rfl) ((by rw [dm]; exact aV)) ?_; refine zqt 34 rfl (yis U34 ti3 rfl rfl (by omega)) ((by rw [dm]; exact aV)) ?_; refine qT 35 rfl (fun _ h=>yldc U3 rfl rfl (rd_intT (nJ _ h) ab hx)) ((by rw [dm]; exact aV)) ?_; refine zqo 36 [.tmp 67, .tmp 71] rfl cf33 rfl (has_ret (l := X.T.given) ((H5.ext aJ).ext aU) (by omega) x) ?_; rintro _ w8 ⟨rfl, ld⟩; refine ⟨(by rw [ld]; exact aU), ?_⟩; have lZ : Ext w5 w8 := by rw [ld]; exact aU
       refine zqt 37 rfl (ypF rfl rfl) ((by rw [ld]; exact aU)) ?_; refine zqt 38 rfl (ymv rfl) ((by rw [ld]; exact aU)) ?_; refine rh_if (fun c5 => ?_) (fun c5 => ?_)
       ·refine qJ 39 rfl ((by rw [ld]; exact aU)) ?_; refine qJ 40 rfl ((by rw [ld]; exact aU)) ?_; refine qJ 41 rfl ((by rw [ld]; exact aU)) ?_; refine qJ 42 rfl ((by rw [ld]; exact aU)) ?_; refine qJ 43 rfl ((by rw [ld]; exact aU)) ?_; refine qJ 44 rfl ((by rw [ld]; exact aU)) ?_; refine zqt 45 rfl (ypT rfl rfl) ((by rw [ld]; exact aU)) ?_; refine qE (run_true rfl (run_reg rfl (zqa rfl (rEnd (run_inBlock (run_reg rfl (zqm rfl (zqd rfl rfl (zqa rfl (rEnd ?_)))))))))); exact (ih (i + 1, 1) _ ⟨by dsimp only; omega, aJ.trans lZ, .inr ⟨rfl, fun e => (ua.1 e).2.2.2.2.2 c5⟩⟩ (by dsimp only; omega)).qb
       ·refine zqt 39 rfl (ymv rfl) ((by rw [ld]; exact aU)) ?_; refine zqt 40 rfl (ymv rfl) ((by rw [ld]; exact aU)) ?_; refine zqt 41 rfl (ymv rfl) ((by rw [ld]; exact aU)) ?_; refine zqt 42 rfl (yis U34 ti3 rfl rfl (by omega)) ((by rw [ld]; exact aU)) ?_; refine qT 43 rfl (fun _ h=>yldc U3 rfl rfl (rd_intT (nJ _ h) ab hx)) ((by rw [ld]; exact aU)) ?_; refine zqo 44 [.tmp 75, .tmp 79] rfl cf33 rfl (has_ret (l := fl) ((H6.ext aJ).ext lZ) (by omega) x) ?_; rintro _ w9 ⟨rfl, Fw⟩; refine ⟨(by rw [Fw]; exact lZ), ?_⟩; have m0 : Ext w5 w9 := by rw [Fw]; exact lZ
        refine zqt 45 rfl (ypF rfl rfl) ((by rw [Fw]; exact lZ)) ?_; refine qE (run_if rfl (fun c6 => ?_) (fun c6 => ?_))
        ·refine run_reg rfl (zqa rfl (rEnd (run_inBlock (run_reg rfl (zqm rfl (zqd rfl rfl (zqa rfl (rEnd ?_)))))))); exact (ih (i + 1, 1) _ ⟨by dsimp only; omega, aJ.trans m0, .inr ⟨rfl, fun e => by have h1 := (ua.1 e).2.2.2.2.1; rw [((rm x).1 c6).1] at h1; cases h1⟩⟩ (by dsimp only; omega)).qb
        ·have iV : X.T.nodes x = none := Decidable.byContradiction fun e => c4 ((H0 x).2 e)
         have K3 : X.T.old x = false := by
          cases e : X.T.old x with
          | false => rfl
          | true => exact absurd ((rm x).2 ⟨e, iV⟩) c6
         refine run_skip (run_inBlock (run_reg rfl (zqm rfl (zqd rfl rfl (zqa rfl (rEnd ((ih (i + 1, wt) _ ⟨by dsimp only; omega, aJ.trans m0, ?_⟩ (by dsimp only; omega)).qb))))))); rcases sM with ⟨rfl, h1⟩ | ⟨rfl, h1⟩
         ·exact .inl ⟨rfl, ua.2 ⟨h1, c3, by omega, iV, K3, c5⟩⟩
         ·exact .inr ⟨rfl, fun e => h1 (ua.1 e).1⟩
  ·obtain rfl : i = l.length := by omega
   rw [List.take_length] at sM; have ir := e7.trans aJ; have H8 := hR.ext ir; have dS := eM.ext aJ; have Ff := ir.size; have pI : ∀ g, F g → g < w.heap.size := fun g hg => hM.lt (.inr (.inr (.inr (.inr (.inr hg))))); clear ih af H7 H2 H6 dC bB bs gq cu fd ak aG eM H5; refine run_exit rfl (qN rfl (rValP rfl rfl (pbs (parts := []) (cs := []) (zs := []) U34 ti3 rfl (by kernel_rfl) rfl rfl rfl (by decide)) ?_)); rintro _ w6 ⟨b6, rfl, ⟨rI, aO, bD⟩, fW⟩; refine zqm rfl (rValP rfl rfl (pap U34 ti3 rfl (by decide) rfl rfl fW (H8.ext aO) (by intro c hc; obtain ⟨z, -, rfl⟩ := List.mem_map.1 hc; rfl) (by omega) (by omega)) ?_); rintro v7 w7 ⟨cX, bg, km, -⟩
   have aU : Ext w5 w7 := aO.trans_new bg (fun i hi => by
    have : b6 = i := by simpa [Value.ownBlock] using hi
    omega)
   refine rValP rfl rfl (pbs (parts := [(0, .const (Value.int .i64 77))]) (cs := [_]) (zs := [Value.int .i64 0]) U34 ti3 rfl (by kernel_rfl) rfl rfl rfl (by decide)) ?_; rintro _ w8 ⟨b8, rfl, ⟨BT, au, d8⟩, dO⟩; have lZ := aU.trans au; refine rValP rfl rfl (pap U34 ti3 rfl (by decide) rfl rfl (cX.ext au) dO.rd (by intro c hc; simp at hc; subst hc; rfl) (by omega) (by omega)) ?_; rintro v9 w9 ⟨bJ, aB, cj, -⟩; have nS := aO.size; have kV := aU.size; have mI := au.size
   have ub : ∀ g, v7.ownBlock = some g → w5.heap.size ≤ g := fun g hg => by
    rcases km g hg with e | e
    ·have : b6 = g := by simpa [Value.ownBlock] using e
     omega
    ·omega
   have m0 : Ext w5 w9 := lZ.trans_new aB (fun i hi => ub i hi)
   have qK : Sl w9 v9 3 1 (l.length + 1) ((l ++ [77]).map I) := by
    have e : 0 + l.length + 1 = l.length + 1 := by omega
    rw [e] at bJ; rw [List.map_append]; exact bJ
   clear fW cX dO bJ
   obtain ⟨g9, c9, rfl, GM⟩ : ∃ g c, v9 = .slice (some ⟨g, 0, none⟩) (l.length + 1) c ∧ l.length + 1 ≤ c := by
    rcases qK.shape with ⟨-, e⟩ | h
    ·omega
    ·exact h
   have K4 : w5.heap.size ≤ g9 := by
    rcases cj g9 rfl with e | e
    ·exact ub g9 e
    ·omega
   refine zqa rfl (rEnd (run_seq ?_)); have sZ := dS.ext m0; have cZ := sZ.blk; have AU := ir.trans m0; have K5 := H8.ext m0; have jm := Ext.drew0 w9; have AV : (l ++ [77]).length = l.length + 1 := by simp
   have K6 : Rd w9.drew (.slice (some ⟨g9, 0, none⟩) l.length c9) 1 l.length (l.map I) := by
    have h := rd_takeI (i := l.length) (l := l ++ [77]) (qK.rd.ext jm) (by omega) AV.symm c9; rw [List.take_left' rfl] at h; exact h
   refine run_draw (fun w' => Kp F w9 w') (by kernel_rfl) rfl (zqt 0 rfl (ymv rfl) (jm.kp) (zqt 1 rfl (ynk rfl) (jm.kp) (zqt 2 rfl (yfa fl36_1 rfl) (jm.kp) (qT 3 rfl (fun _ h=>yld U24 rfl rfl (h.blk cZ sZ.fq) rfl) (jm.kp) (zqt 4 rfl (ymv rfl) (jm.kp) (zqt 5 rfl (ymv rfl) (jm.kp) (zqt 6 rfl (yln U34 rfl) (jm.kp) (zqt 7 rfl (yslVt U34 ti3 rfl rfl (by omega)) (jm.kp) (zqo 8 [.tmp 90, .tmp 94] rfl cf50 rfl (give_ret (sZ.ext jm).tree hI K6 hl) ?_))))))))); rintro v10 w10 wT; refine ⟨(by rcases wT with ⟨-, -, h, -⟩ | ⟨-, -, h⟩; exact jm.kp.trans h; exact jm.kp.trans h.kp), ?_⟩; have kP : Kp F w9 w10 := by rcases wT with ⟨-, -, h, -⟩ | ⟨-, -, h⟩; exact jm.kp.trans h; exact jm.kp.trans h.kp
   have ox := m0.size; have i5 := kP.size
   have iv := qK.kp kP (fun g hg e => by
    have e1 : g9 = g := by simpa [Value.ownBlock] using hg
    have := pI g e
    omega)
   have AW : Rd w10 (.slice la l.length lc) 1 l.length (l.map I) := Rd.kpz K5 kP (fun h0 g hg e => hd h0 g hg (.inr (.inr (.inr (.inr (.inr e)))))); rcases wT with ⟨rfl, aQ, aK, F10, Fx, Fy⟩ | ⟨rfl, bK, ef⟩
   ·obtain rfl : wt = 0 := by
     rcases sM with ⟨h, -⟩ | ⟨-, h⟩
     ·exact h
     ·exact absurd aQ h
    have tZ := (sZ.ext jm).treed Fx rfl aK Fy; obtain ⟨iu, qR, AX⟩ := tZ; have bN := iu.blk; have AY : Kp (fpS q m mv sv gv F) w w10 := AU.kp.trans (jm.kp.trans qR); have ru := nodup_le aQ.1 (fun x hx => (aQ.2 x hx).1); have K7 := jm.size; refine zqt 9 rfl (yas rfl) kP (qE (Run.qb (e := [(0, _), (1, _), (6, _), (8, _), (10, _), (11, _)]) ?_)); refine run_seq (qN rfl (zqm rfl (qV (yeq rfl rfl) (rEnd (run_if rfl (fun gw => ?_) (fun gw => ?_))))))
    ·refine run_reg rfl (zqm rfl (zqm rfl (qV (ynk rfl) (qV (yfa fl36_4 rfl) (qV (yld U34 rfl rfl bN rfl) (zqm rfl (rValP rfl rfl (pap U34 ti3 rfl (by decide) rfl rfl iu.giv AW (by intro c hc; obtain ⟨z, -, rfl⟩ := List.mem_map.1 hc; rfl) (by dsimp only; omega) (by dsimp only; omega)) ?_))))))); rintro gv11 w11 ⟨kM, dA, qA, -⟩; have lU := dA.blk bN (fun e => (iu.ov q (.inr (.inr e))).1 rfl); refine qV (ynk rfl) (qV (yfa fl36_4 rfl) (rEffP rfl (zst ti34 rfl rfl (oneV_sl kM) lU (by simp)) ?_)); rintro w12 ⟨fG, dT⟩; replace fG : Blk w12 q [I (X.T.size : Int), ptr p 0, ptr m 0, sv, gv11, I (X.nx : Int)] 36 := fG; have Fl := iu.gave (gs' := X.gs ++ l) (gv' := gv11) (by rw [List.length_append, List.map_append]; exact kM) dA qA fG dT; obtain ⟨sI, gQ, Fz⟩ := Fl; have AZ := hG.give aQ; have uc : Kp (fpS q m mv sv gv F) w w12 := AY.trans_new gQ (fun i hi => (AX i hi).elim .inr (fun e => .inl (by omega))); obtain ⟨A, hA⟩ : ∃ A, sortZ (X.T.given ++ l) = A := ⟨_, rfl⟩; have KS : A.length = X.T.given.length + l.length := by rw [← hA, sortZ_len, List.length_append]
     have K8 : ∀ x ∈ l, x ∈ A := fun x hx => by rw [← hA, sortZ_mem]; exact List.mem_append_right _ hx
     have B0 : A.length ≤ 2147483647 := by rw [← hA]; exact AZ.inv.gl
     have H9 := fG
     have B1 : Sl w12 (.slice (some ⟨g9, 0, none⟩) (l.length + 1) c9) 3 1 (l.length + 1) ((l ++ [77]).map I) := (iv.kp dA (fun g hg e => by
      have e1 : g9 = g := by simpa [Value.ownBlock] using hg
      have := hM.lt (.inr (.inr (.inr (.inr (.inl e)))))
      omega)).kp dT (fun g hg e => by
      have e1 : g9 = g := by simpa [Value.ownBlock] using hg
      have := hM.blk.lt
      omega)
     have FA : Rd w12 (.slice la l.length lc) 1 l.length (l.map I) := Rd.kpz hR uc hd; refine qM rfl (zqm rfl (qV (ynk rfl) (qV (yfa fl36_1 rfl) (qV (yld U24 rfl rfl fG rfl) (zqc [.tmp 110] cf27 rfl (given_ret sI.tree (by rw [← hA] at B0; exact Nat.le_trans B0 (by decide))) ?_))))); rintro v13 w13 ⟨kQ, aq, -⟩; replace kQ : Sl w13 v13 3 1 A.length (A.map I) := by rw [← hA]; exact kQ
     obtain ⟨ga, gc, rfl⟩ := some_ofE kQ; have bY := B1.rd.ext aq; have wU := FA.ext aq; have lp := Sl.rd kQ; have qP := sI.ext aq; clear qK iv kM B1 kQ; refine zqa rfl (rEnd (run_seq (qN rfl (zqm rfl (qV (yeq rfl rfl) (rTrue (by (first | rfl | assumption | omega | decide)) ?_)))))); refine zqm rfl (zqm rfl (qV (yln U34 rfl) (zqm rfl (qV (yln U34 rfl) (zqm rfl (qV (yln U34 rfl) (zqd rfl rfl (qV (yne rfl rfl) (rFalse (by (first | exact fun h => h rfl | assumption | omega)) ?_))))))))); refine qV (ypT rfl rfl) (zqm rfl (zqm rfl (qV (yne rfl rfl) (rFalse (by (first | exact fun h => h rfl | assumption | omega)) ?_)))); refine zqm rfl (qS (qS (qS (qS (qS (qV (ypF rfl rfl) (qV (ypF rfl rfl) (zqm rfl (zqm rfl (zqm rfl (qV (yln U34 rfl) (qV (yis U34 ti3 rfl rfl (by omega)) (qV (yldc U3 rfl rfl (rd_intT bY (by omega) (show (l ++ [77])[l.length]? = some 77 by simp))) ?_))))))))))))); refine qV (yne rfl rfl) (rFalse (by (first | exact fun h => h rfl | assumption | omega)) ?_); refine qV (ypF rfl rfl) (rEnd (Run.qb (e := [(1, _), (8, _), (10, _), (11, _), (12, _), (142, _)]) ?_)); refine run_false rfl (run_skip (run_seq (qN rfl (zqa rfl (rEnd (run_block (zqu (α := Nat) (0) (fun i => [(1, .slice la l.length lc), (8, I 0), (10, .slice (some ⟨g9, 0, none⟩) (l.length + 1) c9), (11, I 0), (12, .slice ga A.length gc), (13, I (i : Int))]) (fun i w' => i ≤ l.length ∧ Ext w13 w') (fun i => l.length - i) ?hI ?hround)))))))
     case hI => exact ⟨Nat.zero_le _, Ext.refl _⟩
     case hround =>
      rintro i w14 ⟨hi, av⟩ ih
      try dsimp only
      refine run_seq (qN rfl (zqm rfl (zqm rfl (qV (yln U34 rfl) (qV (ylt rfl rfl) (rEnd (run_if rfl (fun af => ?_) (fun af => ?_))))))))
      ·have ab : i < l.length := by omega
       obtain ⟨lb, lo, x, rfl, hx⟩ := rd_getI hR ab; have aN := Ext.drew0 w14; have nJ : ∀ w', Ext w14 w' → Rd w' (.slice (some ⟨lb, lo, none⟩) l.length lc) 1 l.length (l.map I) := fun w' k => (wU.ext av).ext k; have tv : ∀ w', Ext w14 w' → Rd w' (.slice (some ⟨g9, 0, none⟩) (l.length + 1) c9) 1 (l.length + 1) ((l ++ [77]).map I) := fun w' k => (bY.ext av).ext k; have wV : (l ++ [77])[i]? = some x := by rw [List.getElem?_append_left ab]; exact hx
       refine run_skip (run_seq (run_block (run_seq (run_draw (fun w' => Ext w14 w') (by kernel_rfl) rfl (zqt 0 rfl (ymv rfl) aN (zqt 1 rfl (yeq rfl rfl) aN (hTrue (by (first | rfl | assumption | omega | decide)) ?_))))))); refine zqt 2 rfl (ymv rfl) aN (zqt 4 rfl (ymv rfl) aN (zqt 5 rfl (ymv rfl) aN (zqt 6 rfl (yis U34 ti3 rfl rfl (by omega)) aN (zqt 3 rfl (ymv rfl) aN (qT 7 rfl (fun _ h=>yldc U3 rfl rfl (rd_intT (nJ _ h) ab hx)) aN (zqo 8 [.tmp 152, .tmp 156] rfl cf33 rfl (has_ret (l := A) (lp.ext (av.trans aN)) (by omega) x) ?_)))))); rintro _ w15 ⟨rfl, eh⟩; refine ⟨(by rw [eh]; exact aN), ?_⟩; have cr : Ext w14 w15 := by rw [eh]; exact aN
       refine zqt 9 rfl ((by first | exact yntd rfl | exact ynt rfl)) ((by rw [eh]; exact aN)) ?_; refine zqt 10 rfl (ypT rfl rfl) ((by rw [eh]; exact aN)) ?_; refine zqt 11 rfl (ymv rfl) ((by rw [eh]; exact aN)) ?_; refine rh_if (fun c7 => ?_) (fun c7 => ?_)
       ·exact absurd (K8 x (List.mem_of_getElem? hx)) c7
       ·refine zqt 12 rfl (ymv rfl) ((by rw [eh]; exact aN)) ?_; refine zqt 13 rfl (ymv rfl) ((by rw [eh]; exact aN)) ?_; refine zqt 14 rfl (yis U34 ti3 rfl rfl (by omega)) ((by rw [eh]; exact aN)) ?_; refine zqt 16 rfl (ymv rfl) ((by rw [eh]; exact aN)) ?_; refine zqt 17 rfl (ymv rfl) ((by rw [eh]; exact aN)) ?_; refine zqt 18 rfl (yis U34 ti3 rfl rfl (by omega)) ((by rw [eh]; exact aN)) ?_; refine qT 15 rfl (fun _ h=>yldc U3 rfl rfl (rd_intT (tv _ h) (by omega) wV)) ((by rw [eh]; exact aN)) ?_; refine qT 19 rfl (fun _ h=>yldc U3 rfl rfl (rd_intT (nJ _ h) ab hx)) ((by rw [eh]; exact aN)) ?_; refine zqt 20 rfl (yne rfl rfl) ((by rw [eh]; exact aN)) ?_; refine hFalse (by (first | exact fun h => h rfl | assumption | omega)) ?_; refine zqt 21 rfl (ypF rfl rfl) ((by rw [eh]; exact aN)) ?_; refine qE (run_false rfl (run_skip (run_inBlock (run_reg rfl (zqm rfl (zqd rfl rfl (zqa rfl (rEnd ?_)))))))); exact (ih (i + 1) _ ⟨by omega, av.trans cr⟩ (by omega)).qb
      ·refine run_exit rfl (qN rfl (zqm rfl (zqm rfl (qV (yeq rfl rfl) (zqa rfl (rEnd (run_ret Tryz.func57 rfl (⟨_, rfl, by simp [resVal], _, gv11, F10, qP.ext av, AZ, rfl, rfl, ?_, ?_⟩))))))))
       ·exact uc.trans (aq.trans av).kp
       ·intro k hk; rcases Fz k hk with e | e
        ·exact (AX k e).imp id (fun e => by omega)
        ·exact .inr (by omega)
    ·exact absurd rfl gw
   ·obtain rfl : wt = 1 := by
     rcases sM with ⟨-, h⟩ | ⟨h, -⟩
     ·exact absurd h bK
     ·exact h
    have iu := (sZ.ext jm).ext ef; have bN := iu.blk; have qf : Ext w w10 := AU.trans (jm.trans ef); refine zqt 9 rfl (yas rfl) kP (qE (Run.qb (e := [(0, _), (1, _), (6, _), (8, _), (10, _), (11, _)]) ?_)); refine run_seq (qN rfl (zqm rfl (qV (yeq rfl rfl) (rEnd (run_if rfl (fun gw => ?_) (fun gw => ?_))))))
    ·exact absurd gw (by decide)
    ·refine run_skip (qN rfl (zqm rfl (qV (ynk rfl) (qV (yfa fl36_1 rfl) (qV (yld U24 rfl rfl bN rfl) (zqc [.tmp 110] cf27 rfl (given_ret iu.tree (by omega)) ?_)))))); rintro v13 w13 ⟨kQ, aq, -⟩; obtain ⟨ga, gc, rfl⟩ := some_ofE kQ; obtain ⟨A, hA⟩ : ∃ A, X.T.given = A := ⟨_, rfl⟩; rw [hA] at *; have bY := iv.rd.ext aq; have wU := AW.ext aq; have qP := iu.ext aq; clear qK iv kQ; refine zqa rfl (rEnd (run_seq (qN rfl (zqm rfl (qV (yeq rfl rfl) (rFalse (by (first | exact fun h => h rfl | assumption | omega)) ?_)))))); refine zqm rfl (qS (qS (qS (qS (qS (qS (qS (qS (qV (ypF rfl rfl) (zqm rfl (zqm rfl (qV (yne rfl rfl) (rTrue (by (first | rfl | assumption | omega | decide)) ?_))))))))))))); refine zqm rfl (zqm rfl (qV (yln U34 rfl) (zqm rfl (qV (yln U34 rfl) (qV (yne rfl rfl) (rFalse (by (first | exact fun h => h rfl | assumption | omega)) ?_)))))); refine qV (ypT rfl rfl) (qV (ypF rfl rfl) (zqm rfl (zqm rfl (zqm rfl (qV (yln U34 rfl) (qV (yis U34 ti3 rfl rfl (by omega)) (qV (yldc U3 rfl rfl (rd_intT bY (by omega) (show (l ++ [77])[l.length]? = some 77 by simp))) ?_))))))); refine qV (yne rfl rfl) (rFalse (by (first | exact fun h => h rfl | assumption | omega)) ?_); refine qV (ypF rfl rfl) (rEnd (Run.qb (e := [(1, _), (8, _), (10, _), (11, _), (12, _), (142, _)]) ?_)); refine run_false rfl (run_skip (run_seq (qN rfl (zqa rfl (rEnd (run_block (zqu (α := Nat) (0) (fun i => [(1, .slice la l.length lc), (8, I 1), (10, .slice (some ⟨g9, 0, none⟩) (l.length + 1) c9), (11, I 1), (12, .slice ga A.length gc), (13, I (i : Int))]) (fun i w' => i ≤ l.length ∧ Ext w13 w') (fun i => l.length - i) ?hI ?hround)))))))
     case hI => exact ⟨Nat.zero_le _, Ext.refl _⟩
     case hround =>
      rintro i w14 ⟨hi, av⟩ ih
      try dsimp only
      refine run_seq (qN rfl (zqm rfl (zqm rfl (qV (yln U34 rfl) (qV (ylt rfl rfl) (rEnd (run_if rfl (fun af => ?_) (fun af => ?_))))))))
      ·have ab : i < l.length := by omega
       obtain ⟨lb, lo, x, rfl, hx⟩ := rd_getI hR ab; have aN := Ext.drew0 w14; have nJ : ∀ w', Ext w14 w' → Rd w' (.slice (some ⟨lb, lo, none⟩) l.length lc) 1 l.length (l.map I) := fun w' k => (wU.ext av).ext k; have tv : ∀ w', Ext w14 w' → Rd w' (.slice (some ⟨g9, 0, none⟩) (l.length + 1) c9) 1 (l.length + 1) ((l ++ [77]).map I) := fun w' k => (bY.ext av).ext k; have wV : (l ++ [77])[i]? = some x := by rw [List.getElem?_append_left ab]; exact hx
       refine run_skip (run_seq (run_block (run_seq (run_draw (fun w' => Ext w14 w') (by kernel_rfl) rfl (zqt 0 rfl (ymv rfl) aN (zqt 1 rfl (yeq rfl rfl) aN (hFalse (by (first | exact fun h => h rfl | assumption | omega)) ?_))))))); refine zqt 2 rfl (ymv rfl) aN (qJ 4 rfl (aN) (qJ 5 rfl (aN) (qJ 6 rfl (aN) (qJ 7 rfl (aN) (qJ 3 rfl (aN) (qJ 8 rfl (aN) (qJ 9 rfl (aN) (zqt 10 rfl (ypF rfl rfl) aN (zqt 11 rfl (ymv rfl) aN (zqt 12 rfl (ymv rfl) aN (zqt 13 rfl (ymv rfl) aN (zqt 14 rfl (yis U34 ti3 rfl rfl (by omega)) aN (zqt 16 rfl (ymv rfl) aN ?_))))))))))))); refine zqt 17 rfl (ymv rfl) aN (zqt 18 rfl (yis U34 ti3 rfl rfl (by omega)) aN (qT 15 rfl (fun _ h=>yldc U3 rfl rfl (rd_intT (tv _ h) (by omega) wV)) aN (qT 19 rfl (fun _ h=>yldc U3 rfl rfl (rd_intT (nJ _ h) ab hx)) aN (zqt 20 rfl (yne rfl rfl) aN (hFalse (by (first | exact fun h => h rfl | assumption | omega)) ?_))))); refine zqt 21 rfl (ypF rfl rfl) aN (qE (run_false rfl (run_skip (run_inBlock (run_reg rfl (zqm rfl (zqd rfl rfl (zqa rfl (rEnd ?_))))))))); exact (ih (i + 1) _ ⟨by omega, av.trans aN⟩ (by omega)).qb
      ·refine run_exit rfl (qN rfl (zqm rfl (zqm rfl (qV (yeq rfl rfl) (zqa rfl (rEnd (run_ret Tryz.func57 rfl (⟨_, rfl, by simp [resVal], X, gv, F, qP.ext av, hG.mono (Nat.le_succ k), rfl, rfl, (qf.trans (aq.trans av)).kp, fun k hk => .inl hk⟩))))))))
end
theorem pgs_no {z : Nat} {N : Nodes} {ns : List Int} : (pgs z N ns fun _ => false) = [] := by simp [pgs]
theorem PgSl.no {w : World} {v : Value} {z : Nat} {N : Nodes} {ns : List Int} (h : PgSl w v (pgs z N ns fun _ => false)) : ∃ a c, v = .slice a 0 c := by
 rw [pgs_no] at h; exact some_ofE h
section
variable {w : World} {q : Nat} {X : Sx} {p m : Nat} {mv sv gv : Value} {nb : Int → Nat} {F : Nat → Prop} {k : Nat}
set_option maxHeartbeats 8000000 in
theorem loadS_ret (hM : StM w q X p m mv sv gv nb F) (hG : Gh X k) (hz : sizeOk (X.T.size : Int)) (hk : k ≤ 1000) :
  Ret Tryz.prog 59 [ptr q 0] w fun v w' => v = .bool true ∧ ∃ X' p' sv' nb' F', StM w' q X' p' m mv sv' (.slice none 0 0) nb' F' ∧ Gh X' k ∧ X'.T.size = X.T.size ∧ X'.es = X.es ∧ Kp (fpS q m mv sv gv F) w w' ∧ ∀ k, fpS q m mv sv' (.slice none 0 0) F' k → fpS q m mv sv gv F k ∨ w.heap.size ≤ k := by
 have hI := hG.inv
 have xo := Inv.cnts hz hI
 have fJ := hG.el
 have dL : maxLen = 9223372036854775807 := rfl
 have bz := hI.nodup
 have AO := hM.tree.kids32
 have hO := ownP_pgs (T := X.T) bz
 obtain ⟨l, hl⟩ : ∃ l, (pgs X.T.size X.T.nodes X.ns fun _ => true) = l := ⟨_, rfl⟩
 rw [hl] at hO
 have l0 : l.length = X.ns.length := hO.len
 have hB := hM.blk
 refine ret_of_run (e := [(0, _)]) Tryz.func59 rfl Tryz.ntmps59 rfl rfl (qN rfl (zqa rfl (qM rfl (zqm rfl (qV (ynk rfl) (qV (yfa fl36_1 rfl) (qV (yld U24 rfl rfl hB rfl) (zqc [.tmp 12] cf22 rfl (pages_ret hM.tree hI (by omega)) ?_))))))))
 rintro v1 w1 ⟨aa, dC, dQ⟩
 rw [hl] at dC
 obtain ⟨va, vc, rfl⟩ := some_ofE dC
 refine zqa rfl (rEnd (run_seq (qN rfl (zqm rfl (qV (yln U52 rfl) (qV (ysb rfl rfl (by omega)) (zqa rfl (zqa rfl (rEnd (run_block (run_cut2 (fun e' w' => e' = [(0, ptr q 0), (3, .slice va l.length vc)] ∧ Ext w w' ∧ Rd w' (.slice va l.length vc) 2 l.reverse.length (pgC l.reverse)) ?B2 (fun B2 => ?FE))))))))))))
 case B2 =>
  rintro e' w2 ⟨rfl, ae, kY⟩; have cu := hM.ext ae; have ak := cu.blk; have ag := Ext.drew0 w2; have wW := hO.rev; have ic : l.reverse.length = l.length := List.length_reverse; have B3 := wW.ok hI hz AO; have sH := wW.nums hI hz; have hN := wW.nodes hI hz AO; have Ha := hG.load hz wW AO; have FB := Ha.inv; refine run_seq (run_draw (fun w' => Ext w2 w') (by kernel_rfl) rfl (zqt 0 rfl (ymv rfl) ag (zqt 1 rfl (ynk rfl) ag (zqt 2 rfl (yfa fl36_0 rfl) ag (qT 3 rfl (fun _ h=>yld U3 rfl rfl (h.blk ak) rfl) ag (zqt 4 rfl (ymv rfl) ag (zqt 5 rfl (ynk rfl) ag (zqt 6 rfl (yfa fl36_1 rfl) ag (qT 7 rfl (fun _ h=>yld U24 rfl rfl (h.blk ak) rfl) ag (zqt 9 rfl (ymv rfl) ag (zqo 8 [.tmp 47] rfl cf21 rfl (rootT_ret (cu.tree.ext ag)) ?_))))))))))); rintro _ w3 ⟨rfl, bu⟩; refine ⟨(by rw [bu]; exact ag), ?_⟩; have ah : Ext w2 w3 := by rw [bu]; exact ag
  refine zqo 10 [.tmp 43, .tmp 48, .tmp 49] rfl cf17 rfl (load_ret (X.T.size : Int) X.T.root (l := l.reverse) (kY.ext ah) (by omega) (wW.short hI hz)) ?_; rintro v4 w4 ⟨aC, AH⟩; refine ⟨ah.trans aC, ?_⟩; have eQ := ae.size; have jK := ah.size
  obtain ⟨pn, nbn, Fn, rfl, xz, tY⟩ : ∃ p nb F, v4 = .tuple #[ptr p 0, I 0] ∧ TreeA w4 p (TrL X.T.size X.T.root l.reverse X.es.length) nb F ∧ ∀ k, F k → w.heap.size ≤ k := by
   rcases AH with ⟨h, -⟩ | ⟨-, h, -⟩ | ⟨-, H', ns', es', p', nb', F', h1, h2, h3, h4⟩
   ·exact absurd sH h
   ·exact absurd B3 (h X.H X.ns X.es)
   ·obtain ⟨rfl, rfl, rfl⟩ := B3.det hz h1; exact ⟨p', nb', F', h2, h3, fun k hk => by have := h4 k hk; omega⟩
  have gn := ah.trans aC; have e7 := ae.trans gn; have eM := hM.ext e7; have aW := eM.blk; have aM := Ext.drew0 w4; refine zqt 11 rfl (ymv rfl) (ah.trans aC) (zqt 12 rfl (yex rfl rfl) (ah.trans aC) (zqt 13 rfl (yex rfl rfl) (ah.trans aC) (zqt 14 rfl (yas rfl) (ah.trans aC) (zqt 15 rfl (yas rfl) (ah.trans aC) (qE (run_seq (run_seq (run_draw (fun w' => Ext w4 w') (by kernel_rfl) rfl (zqt 0 rfl (ymv rfl) aM (zqt 1 rfl (yne rfl rfl) aM (hFalse (by (first | exact fun h => h rfl | assumption | omega)) ?_))))))))))); refine zqt 2 rfl (ymv rfl) aM (zqt 3 rfl (ymv rfl) aM (zqo 4 [.tmp 56] rfl cf31 rfl (changed_ret (xz.ext aM) FB (by have : (X.load l.reverse).ns = X.ns := rfl; rw [this]; omega)) ?_)); rintro v5 w5 ⟨aJ, cf, -⟩; refine ⟨aM.trans aJ, ?_⟩; have cx := aM.trans aJ; obtain ⟨ca, cc, rfl⟩ := PgSl.no cf; refine zqt 5 rfl (yln U52 rfl) (aM.trans aJ) (zqt 6 rfl (yne rfl rfl) (aM.trans aJ) (hFalse (by (first | exact fun h => h rfl | assumption | omega)) ?_)); refine zqt 7 rfl (ypF rfl rfl) (aM.trans aJ) (zqt 8 rfl (ymv rfl) (aM.trans aJ) (zqt 9 rfl (ymv rfl) (aM.trans aJ) (zqo 10 [.tmp 62] rfl cf28 rfl (freed_ret (xz.ext cx) (os := X.ns) (fun x hx => (wW.mem x).1 (of_decide_eq_true hx)) (by omega)) ?_))); rintro v6 w6 ⟨aO, fl, -, rm, -, fW, -⟩; refine ⟨cx.trans aO, ?_⟩; have go := cx.trans aO
  obtain rfl : fl = [] := List.eq_nil_iff_forall_not_mem.2 fun x hx => by
   obtain ⟨h1, h2⟩ := (rm x).1 hx; exact (hI.mem x).2 ((wW.mem x).1 (of_decide_eq_true h1)) ((congrFun hN x).symm.trans h2)
  obtain ⟨fa, fc, rfl⟩ := some_ofE fW; refine zqt 11 rfl (yln U34 rfl) (cx.trans aO) (zqt 12 rfl (yne rfl rfl) (cx.trans aO) (hFalse (by (first | exact fun h => h rfl | assumption | omega)) ?_)); refine zqt 13 rfl (ypF rfl rfl) (cx.trans aO) (zqt 14 rfl (ymv rfl) (cx.trans aO) (zqt 15 rfl (ymv rfl) (cx.trans aO) (zqo 16 [.tmp 68] rfl cf27 rfl (given_ret (xz.ext go) (by show (0 : Nat) ≤ _; omega)) ?_))); rintro v7 w7 ⟨cX, aF, -⟩; refine ⟨go.trans aF, ?_⟩; have cY := go.trans aF; obtain ⟨ga, gc, rfl⟩ := some_ofE cX; have vU : (TrL X.T.size X.T.root l.reverse X.es.length).given.length = 0 := rfl; rw [vU]; refine zqt 17 rfl (yln U34 rfl) (go.trans aF) (zqt 18 rfl (yne rfl rfl) (go.trans aF) (hFalse (by (first | exact fun h => h rfl | assumption | omega)) ?_)); refine zqt 19 rfl (ypF rfl rfl) (go.trans aF) (zqt 20 rfl (ymv rfl) (go.trans aF) (zqt 21 rfl (ymv rfl) (go.trans aF) (zqt 23 rfl (ymv rfl) (go.trans aF) (zqt 24 rfl (ynk rfl) (go.trans aF) (zqt 25 rfl (yfa fl36_1 rfl) (go.trans aF) (qT 26 rfl (fun _ h=>yld U24 rfl rfl (h.blk aW) rfl) (go.trans aF) (zqo 22 [.tmp 74] rfl cf20 rfl (depth_ret (xz.ext cY) FB (by have : (X.load l.reverse).H = X.H := rfl; rw [this]; omega)) ?_))))))); rintro _ w7 ⟨rfl, rfl⟩; refine ⟨cY, ?_⟩; refine zqo 27 [.tmp 79] rfl cf20 rfl (depth_ret (eM.ext cY).tree hI (by omega)) ?_; rintro _ w7 ⟨rfl, rfl⟩; refine ⟨cY, ?_⟩; rw [show (X.load l.reverse).H = X.H from rfl]; refine zqt 28 rfl (yne rfl rfl) cY (hFalse (by (first | exact fun h => h rfl | assumption | omega)) ?_); refine zqt 29 rfl (ypF rfl rfl) cY (zqt 30 rfl (ymv rfl) cY (zqt 31 rfl (ymv rfl) cY (zqt 33 rfl (ymv rfl) cY (zqt 34 rfl (ynk rfl) cY (zqt 35 rfl (yfa fl36_1 rfl) cY (qT 36 rfl (fun _ h=>yld U24 rfl rfl (h.blk aW) rfl) cY (zqo 32 [.tmp 84] rfl cf21 rfl (rootT_ret (xz.ext cY)) ?_))))))); rintro _ w7 ⟨rfl, rfl⟩; refine ⟨cY, ?_⟩; refine zqo 37 [.tmp 89] rfl cf21 rfl (rootT_ret (eM.ext cY).tree) ?_; rintro _ w7 ⟨rfl, rfl⟩; refine ⟨cY, ?_⟩; rw [show (TrL X.T.size X.T.root l.reverse X.es.length).root = X.T.root from rfl]; refine zqt 38 rfl (yne rfl rfl) cY (hFalse (by (first | exact fun h => h rfl | assumption | omega)) ?_); refine zqt 39 rfl (ypF rfl rfl) cY (qE (Run.qb (e := [(0, _), (7, _), (92, _)]) ?_)); refine run_false rfl (run_skip (qN rfl (zqm rfl (zqm rfl (qV (ynk rfl) (qV (yfa fl36_1 rfl) ?_)))))); have qe := e7.trans cY; have f4 := hM.ext qe; have dH := f4.blk; have B4 := xz.ext cY; have K9 := hM.blk.lt; have Ka := qe.size; refine rEffP rfl (zst ti24 rfl rfl rfl dH (by simp)) ?_; rintro w9 ⟨cZ, aB⟩; replace cZ : Blk w9 q [I (X.T.size : Int), ptr pn 0, ptr m 0, sv, gv, I (X.nx : Int)] 36 := cZ; have B5 := B4.kp aB (fun g hg e => by have := tY g hg; omega); refine qM rfl (zqm rfl (zqm rfl (zqc [.tmp 98] cf22 rfl (pages_ret B5 FB (by have : (X.load l.reverse).ns = X.ns := rfl; rw [this]; omega)) ?_))); rintro v10 w10 ⟨ef, iv, -⟩
  have dv : pgs (TrL X.T.size X.T.root l.reverse X.es.length).size (TrL X.T.size X.T.root l.reverse X.es.length).nodes (X.load l.reverse).ns (fun _ => true) = l := by
   show pgs X.T.size (nodesOf X.T.size l.reverse) X.ns _ = l; rw [hN, hl]
  replace iv : PgSl w10 v10 l := by rw [← dv]; exact iv
  refine zqc [.tmp 99] cf29 rfl (pagesL_ret (Sl.rd iv) (by omega)) ?_; rintro v11 w11 ⟨FC, kM, qA⟩; have eY := ef.trans FC; have lU := eY.blk cZ; have ox := aB.size; have i5 := ef.size
  have B6 : ∀ g, v11.ownBlock = some g → w.heap.size ≤ g ∧ ¬ Fn g := fun g hg => by
   have h1 := qA g hg; refine ⟨by omega, fun e => ?_⟩; have h2 := B4.lt g e; omega
  refine qV (ynk rfl) (qV (yfa fl36_3 rfl) (rEffP rfl (zst ti33 rfl rfl (oneV_sl kM) lU (by simp)) ?_)); rintro w12 ⟨fG, dT⟩; replace fG : Blk w12 q [I (X.T.size : Int), ptr pn 0, ptr m 0, v11, gv, I (X.nx : Int)] 36 := fG; refine qM rfl (zqm rfl (qV (ynk rfl) (qV (yfa fl36_4 rfl) (rEffP rfl (zst ti34 rfl rfl rfl fG (by simp)) ?_)))); rintro w13 ⟨wX, iY⟩; replace wX : Blk w13 q [I (X.T.size : Int), ptr pn 0, ptr m 0, v11, .slice none 0 0, I (X.nx : Int)] 36 := wX; have m4 := dT.trans iY; have B7 := (aB.trans eY.kp).trans m4
  have B8 := hM.reset (T' := TrL X.T.size X.T.root l.reverse X.es.length) (p' := pn) (nb' := nbn) (F' := Fn) (O' := X.T.nodes) (os' := X.ns) (gs' := []) (sv' := v11) (gv' := .slice none 0 0) ((qe.kp.trans B7).mono' (fun k e => .inr e)) wX ((B5.ext eY).kp m4 (fun g hg e => by have := tY g hg; omega)) rfl (fun k hk => .inr (tY k hk))
   (by rw [hl]; exact kM.kp m4 (fun g hg e => by have := (B6 g hg).1; omega)) (Sl.nil _ _ _) (fun g hg => hg.elim (B6 g) (fun e => by simp [Value.ownBlock] at e)) (fun g hg => by simp [Value.ownBlock] at hg)
  obtain ⟨qP, B9, FD⟩ := B8; refine qM rfl (zqa rfl (rEnd (run_ret Tryz.func59 rfl ?_))); exact ⟨_, rfl, rfl, X.load l.reverse, pn, v11, nbn, Fn, qP, Ha, rfl, rfl, B9, FD⟩
 case FE =>
  have Kb := aa.size; rcases dC.shape with ⟨e, e0⟩ | ⟨g, cap, e, jx⟩
  ·refine zqu (α := Unit) (()) (fun _ => [(0, ptr q 0), (3, .slice va l.length vc), (4, I 0), (5, I ((l.length : Int) - 1))]) (fun _ w' => w' = w1) (fun _ => 0) ?hI ?hround
   case hI => rfl
   case hround =>
    rintro ⟨⟩ w2 rfl ih
    try dsimp only
    refine run_seq (qN rfl (zqm rfl (zqm rfl (qV (ylt rfl rfl) (rEnd (run_if rfl (fun af => ?_) (fun af => ?_)))))))
    ·omega
    ·refine run_exit rfl ((B2 _ _ ⟨rfl, aa, ?_⟩).qb); have e : l.reverse = l := by rw [List.eq_nil_of_length_eq_zero e0]; rfl
     rw [e]; exact Sl.rd dC
  ·cases e; obtain ⟨cur0, bS, -, -, cM, dq⟩ := dC.row; have Kc : PgB cur0 l := PgB.mk' dq rfl (by omega); have D9 : w.heap.size ≤ g := dQ g rfl; refine zqu (α := Nat × Int × Pgs × List Value) ((0, (l.length : Int) - 1, l, cur0)) (fun x => [(0, ptr q 0), (3, .slice (some ⟨g, 0, none⟩) l.length vc), (4, I (x.1 : Int)), (5, I x.2.1)]) (fun x w' => 2 * x.1 ≤ l.length + 1 ∧ x.2.1 = (l.length : Int) - 1 - (x.1 : Int) ∧ Ext w w' ∧ Blk w' g x.2.2.2 55 ∧ PgB x.2.2.2 x.2.2.1 ∧ RvI l x.2.2.1 x.1) (fun x => l.length - x.1) ?hI ?hround
   case hI => exact ⟨Nat.zero_le _, by dsimp only; omega, aa, bS.blk, Kc, RvI.zero l⟩
   case hround =>
    rintro ⟨i, kk, c, cur⟩ w2 ⟨hi, cR, ae, ak, Ba, kY⟩ ih; dsimp only at hi cR ak Ba kY; have fF := ak.lt; have Kd := kY.1
    try dsimp only
    refine run_seq (qN rfl (zqm rfl (zqm rfl (qV (ylt rfl rfl) (rEnd (run_if rfl (fun af => ?_) (fun af => ?_)))))))
    ·have Ke : 2 * i + 1 < l.length := by omega
     obtain ⟨j, rfl, hj⟩ : ∃ j : Nat, kk = (j : Int) ∧ j = l.length - 1 - i := ⟨l.length - 1 - i, by omega, rfl⟩; obtain ⟨a, ha⟩ : ∃ a, c[i]? = some a := ⟨_, List.getElem?_eq_getElem (by omega)⟩; obtain ⟨b, hb⟩ : ∃ b, c[j]? = some b := ⟨_, List.getElem?_eq_getElem (by omega)⟩; have BJ : ∀ w', Blk w' g cur 55 → Rd w' (.slice (some ⟨g, 0, none⟩) c.length vc) 2 c.length (pgC c) := fun w' h => Ba.rd h; refine run_skip (run_seq (run_block (qN rfl (zqm rfl (zqm rfl (qV (yis U52 ti55 rfl rfl (by omega)) (qV (yldA U55 rfl ti55 rfl (rd_pg (BJ _ ak) (by omega) ha) rfl) (rValP rfl rfl (pal (cs := [_, _]) ti55 rfl) ?_)))))))); rintro _ w3 ⟨b6, rfl, rI, ah, aG⟩; refine rEffP rfl (zstA ti55 rfl rfl rfl rfl aG (by simp)) ?_; rintro w4 ⟨aW, az⟩; replace aW : Blk w4 b6 [I a.1, S a.2] 55 := aW; have jV := az.blk (ah.blk ak) (by omega); refine qM rfl (zqm rfl (zqm rfl (zqm rfl (zqm rfl (qV (yis U52 ti55 rfl rfl (by omega)) (qV (yldA U55 rfl ti55 rfl (rd_pg (BJ _ jV) (by omega) hb) rfl) (qV (yis U52 ti55 rfl rfl (by omega)) (rEffP rfl (zstA (news := [I b.1, S b.2]) ti55 rfl rfl rfl rfl jV (by have := Ba.1; simp; omega)) ?_)))))))); rintro w5 ⟨bx, bh⟩; rw [Nat.zero_add, Nat.mul_comm i 2] at bx; have Ay := Ba.set b (i := i) (by omega); have sD := bh.blk aW (by omega); refine rEnd (run_reg rfl (zqm rfl (zqm rfl (qV (yldA (news := [I a.1, S a.2]) U55 rfl ti55 rfl (sD.cells (n := 2) rfl) rfl) (qV (yis U52 ti55 rfl rfl (by omega)) (rEffP rfl (zstA (news := [I a.1, S a.2]) ti55 rfl rfl rfl rfl bx (by have := Ay.1; rw [List.length_set] at this; simp; omega)) ?_)))))); rintro w6 ⟨bD, bX⟩; rw [Nat.zero_add, Nat.mul_comm j 2] at bD; have xx := Ay.set a (i := j) (by rw [List.length_set]; omega); have C5 := kY.step Ke ha (by rw [← hj]; exact hb); rw [← hj] at C5; have eQ := ae.size; have mX : Ext w w6 := (((ae.trans ah).trans_new az (fun k hk => by omega)).trans_new bh (fun k hk => by omega)).trans_new bX (fun k hk => by omega); refine rEnd (run_inBlock (run_reg rfl (zqm rfl (zqd rfl rfl (zqm rfl (qV (ysb rfl rfl (by omega)) (zqa rfl (zqa rfl (rEnd ?_))))))))); exact (ih (i + 1, (j : Int) - 1, _, _) w6 ⟨by dsimp only; omega, by dsimp only; omega, mX, bD, xx, C5⟩ (by dsimp only; omega)).qb
    ·have e := kY.fin (by omega); subst e; refine run_exit rfl ((B2 _ _ ⟨rfl, ae, ?_⟩).qb); have := Ba.rd (cap := vc) ak; rw [List.length_reverse] at this ⊢; exact this
end
section
variable {fr : List Int} {s cs : Pgs} {a c1 : Int × Bytes}
end
section
variable {w : World}
end
theorem StR.of {w w' : World} {q m : Nat} {X' : Sx} {p' : Nat} {mv sv gv mv' sv' gv' : Value} {nb' : Int → Nat} {F F' fp : Nat → Prop} (hM : StM w' q X' p' m mv' sv' gv' nb' F') (hk : Kp (fpS q m mv sv gv F) w w') (hf : ∀ k, fpS q m mv' sv' gv' F' k → fpS q m mv sv gv F k ∨ w.heap.size ≤ k) (h : ∀ k, fp k ↔ fpS q m mv sv gv F k) : StR q m fp w w' X' :=
 ⟨fpS q m mv' sv' gv' F', ⟨p', mv', sv', gv', nb', F', hM, fun _ => Iff.rfl⟩, hk.mono' (fun k e => (h k).2 e), fun k hk => (hf k hk).imp (h k).2 id⟩
section
variable {w : World} {q m : Nat} {X : Sx} {fp : Nat → Prop} {k : Nat}
set_option maxHeartbeats 8000000 in
theorem stepS_ret (Ep : StF w q m X fp) (hG : Gh X k) (hz : sizeOk (X.T.size : Int)) (hk : k ≤ 330) (o : TOp) (rk : Rd w o.nv 1 o.nos.length (o.nos.map I) ∧ o.nos.length ≤ 17592186044415 ∧ ∃ a c, o.nv = .slice a o.nos.length c ∧ o.nos.length ≤ c) (Bb : o.key.length ≤ 140737488355328 ∧ o.val.length ≤ 140737488355328 ∧ o.n ≤ 9223372036854775807) (hd : 0 < o.nos.length → ∀ g, o.nv.ownBlock = some g → ¬ fp g) :
  Ret Tryz.prog 24 [ptr q 0, .agg o.cs.toArray] w fun v w' => v = .bool true ∧ ∃ X', StR q m fp w w' X' ∧ Gh X' (k + 1) ∧ X'.T.size = X.T.size ∧ (o.kd = 1 → X.T.given.length ≤ X'.T.given.length) := by
 obtain ⟨p, mv, sv, gv, nb, F, hM, dM⟩ := Ep
 obtain ⟨kd, key, val, n, nos, auto, nv⟩ := o
 dsimp only at rk Bb hd ⊢
 obtain ⟨aD, am, aw⟩ := Bb
 obtain ⟨rl, ru, na, nc, rfl, dl⟩ := rk
 have hI := hG.inv
 have xo := Inv.cnts hz hI
 have fJ := hG.el
 have dL : maxLen = 9223372036854775807 := rfl
 refine ret_of_run (e := [(0, _), (1, _)]) Tryz.func24 rfl Tryz.ntmps24 rfl rfl (qN rfl (rValP rfl rfl (pbx rfl (cs := opC kd key val n (.slice na nos.length nc) auto) rfl) ?_))
 rintro _ w1 ⟨b3, rfl, Bi, aa, aG⟩
 replace aG : Blk w1 b3 [I kd, S key, S val, I n, .slice na nos.length nc, .bool auto] 39 := aG
 have bL := hM.ext aa
 have ai := bL.blk
 have eI := aa.size
 have e8 := aG.lt
 have gR : ¬ fpS q m mv sv gv F b3 := fun e => by have := hM.lt e; omega
 have ao : ∀ {X' : Sx} {w' : World} {p' : Nat} {mv' sv' gv' : Value} {nb' : Int → Nat} {F' : Nat → Prop}, StM w' q X' p' m mv' sv' gv' nb' F' → Kp (fpS q m mv sv gv F) w1 w' → (∀ k, fpS q m mv' sv' gv' F' k → fpS q m mv sv gv F k ∨ w1.heap.size ≤ k) → StR q m fp w w' X' := fun a b c => StR.of a (aa.kp.trans b) (fun k hk => (c k hk).imp id (fun e => by omega)) dM
 refine zqa rfl (rEnd (run_seq (qN rfl (qV (yfa fl39_0 rfl) (qV ((by first | exact yld U3 rfl rfl ai rfl | exact yld U3 rfl rfl aG rfl)) ?_)))))
 refine rEnd (run_block (qN rfl (qV (yeq rfl rfl) (zqa rfl (rEnd (run_if rfl (fun c0 => ?_) (fun c0 => ?_)))))))
 ·refine qN rfl (zqm rfl (qV (yldA (news := opC kd key val n (.slice na nos.length nc) auto) U39 rfl ti39 rfl (aG.cells (n := 6) rfl) rfl) (zqc [.tmp 14, .tmp 15] cf9 rfl (putS_ret bL hG hz (by omega) kd key val n (.slice na nos.length nc) auto aD am) ?_))); rintro _ w2 ⟨rfl, X', mv', gv', nb', F', cu, sU, cB, -, cR, ju⟩; refine zqa rfl (rEnd (run_ret Tryz.func24 rfl ?_)); exact ⟨_, rfl, rfl, X', ao cu cR ju, sU, cB, fun e => by omega⟩
 ·refine qN rfl (qV (yeq rfl rfl) (zqa rfl (rEnd (run_if rfl (fun c1 => ?_) (fun c1 => ?_)))))
  ·have hg := Ext.drew0 w1; refine run_seq (run_draw (fun w' => Kp (fun k => F k ∨ k = m) w1 w') (by kernel_rfl) rfl ?_); have jS : ¬ (F q ∨ q = m) := fun e => e.elim bL.fq bL.qm; have nQ : ¬ (F b3 ∨ b3 = m) := fun e => e.elim (fun e => gR (.inr (.inr (.inr (.inr (.inr e)))))) (fun e => gR (.inr (.inl e))); refine zqt 0 rfl (ymv rfl) (hg.kp) (zqt 1 rfl (ynk rfl) (hg.kp) (zqt 2 rfl (yfa fl36_1 rfl) (hg.kp) (qT 3 rfl (fun _ h=>(by first | exact yld U24 rfl rfl (h.blk ai jS) rfl | exact yld U24 rfl rfl (h.blk aG nQ) rfl)) (hg.kp) ?_))); refine zqt 4 rfl (yfa fl39_1 rfl) (hg.kp) (qT 5 rfl (fun _ h=>(by first | exact yld U9 rfl rfl (h.blk ai jS) rfl | exact yld U9 rfl rfl (h.blk aG nQ) rfl)) (hg.kp) ?_); refine zqt 7 rfl (ymv rfl) (hg.kp) (zqt 8 rfl (ynk rfl) (hg.kp) (zqt 9 rfl (yfa fl36_2 rfl) (hg.kp) (qT 10 rfl (fun _ h=>(by first | exact yld U29 rfl rfl (h.blk ai jS) rfl | exact yld U29 rfl rfl (h.blk aG nQ) rfl)) (hg.kp) ?_))); refine zqt 11 rfl (yfa fl39_1 rfl) (hg.kp) (qT 12 rfl (fun _ h=>(by first | exact yld U9 rfl rfl (h.blk ai jS) rfl | exact yld U9 rfl rfl (h.blk aG nQ) rfl)) (hg.kp) ?_); refine zqo 6 [.tmp 22, .tmp 24] rfl cf11 rfl (deleteT_ret (bL.tree.ext hg) hI (by omega) key) ?_; rintro v2 w2 xh; refine ⟨(by rcases xh with ⟨-, -, h⟩ | ⟨-, -, T', H', ns', ⟨nb', F', -, -, h, -⟩, -⟩; exact hg.kp.trans h.kp; exact hg.kp.trans (h.mono' (fun k e => .inl e))), ?_⟩; have dT : Kp F w1 w2 := by rcases xh with ⟨-, -, h⟩ | ⟨-, -, T', H', ns', ⟨nb', F', -, -, h, -⟩, -⟩; exact hg.kp.trans h.kp; exact hg.kp.trans h
   have bB : Kp (fun k => F k ∨ k = m) w1 w2 := dT.mono' (fun k e => .inl e); rcases xh with ⟨rfl, aZ, ae⟩ | ⟨rfl, xp, T', H', ns', ⟨nb', F', gr, zD, am, ct⟩, gU⟩
   ·have cu := (bL.ext hg).ext ae; refine zqo 13 [.tmp 29, .tmp 31] rfl cf12 rfl (delM_ret cu.map key) ?_; rintro v3 w3 ⟨rfl, gV⟩; refine ⟨(by rw [if_neg aZ] at gV; rw [gV]; exact bB), ?_⟩; rw [if_neg aZ] at gV; obtain rfl := gV; refine zqt 14 rfl (yeq rfl rfl) bB (zqt 15 rfl (yas rfl) bB (qE (Run.qb (e := [(4, _)]) ?_))); refine run_ret Tryz.func24 rfl ?_; exact ⟨_, rfl, by simp [resVal], X, ao cu (hg.trans ae).kp (fun k h => .inl h), hG.mono (Nat.le_succ k), rfl, fun _ => Nat.le_refl _⟩
   ·have tZ := (bL.ext hg).treed gr (show T'.size = X.T.size from (show Evo _ _ _ from gU).size) am ct; obtain ⟨cu, Bc, qY⟩ := tZ; refine zqo 13 [.tmp 29, .tmp 31] rfl cf12 rfl (delM_ret cu.map key) ?_; rintro v3 w3 ⟨rfl, gV⟩; refine ⟨(by rw [if_pos xp] at gV; obtain ⟨mv', -, h, -⟩ := gV; exact bB.trans (h.mono' (fun k e => .inr e))), ?_⟩; rw [if_pos xp] at gV; have bs : Kp (fun k => F k ∨ k = m) w1 w3 := by obtain ⟨mv', -, h, -⟩ := gV; exact bB.trans (h.mono' (fun k e => .inr e))
    have Fr := cu.mapped gV; obtain ⟨mv3, fd, FF, nN⟩ := Fr; have GL := hg.size; have eQ := Bc.size; have iY : Kp (fpS q m mv sv gv F) w1 w3 := (hg.kp.trans Bc).trans_new FF (fun i hi => (qY i hi).elim .inr (fun e => .inl (by omega))); have m6 := delE_len ((hasE_iff (hI.rise hz)).2 ((getR_code (hI.rise hz)).1 xp).2); rw [xp]; refine zqt 14 rfl (yeq rfl rfl) bs (zqt 15 rfl (yas rfl) bs (qE (Run.qb (e := [(4, _)]) ?_))); refine run_ret Tryz.func24 rfl ?_
    exact ⟨_, rfl, by simp [resVal], _, ao (fd.hn H' ns') iY (fun k hk => by
     rcases nN k hk with e | e
     ·rcases qY k e with e | e
      ·exact .inl e
      ·exact .inr (by omega)
     ·exact .inr (by omega)), hG.evo gU zD (Nat.le_succ k) (by omega), (show Evo _ _ _ from gU).size, fun _ => (show Evo _ _ _ from gU).len⟩
  ·refine qN rfl (qV (yeq rfl rfl) (zqa rfl (rEnd (run_if rfl (fun c2 => ?_) (fun c2 => ?_)))))
   ·have hg := Ext.drew0 w1; refine run_seq (run_draw (fun w' => Ext w1 w') (by kernel_rfl) rfl (zqt 0 rfl (ymv rfl) hg (zqt 1 rfl (ynk rfl) hg (zqt 2 rfl (yfa fl36_1 rfl) hg (qT 3 rfl (fun _ h=>(by first | exact yld U24 rfl rfl (h.blk ai) rfl | exact yld U24 rfl rfl (h.blk aG) rfl)) hg ?_))))); refine zqt 4 rfl (yfa fl39_1 rfl) hg (qT 5 rfl (fun _ h=>(by first | exact yld U9 rfl rfl (h.blk ai) rfl | exact yld U9 rfl rfl (h.blk aG) rfl)) hg ?_); refine zqo 6 [.tmp 40, .tmp 42] rfl cf42 rfl (get_ret (bL.tree.ext hg) hI key) ?_; rintro v2 w2 ⟨rfl, ae⟩; refine ⟨hg.trans ae, ?_⟩; have aI := hg.trans ae; have cu := bL.ext aI; have ak := cu.blk; have eg := aI.blk aG; have ag := Ext.drew0 w2; refine zqt 7 rfl (ymv rfl) (hg.trans ae) (zqt 8 rfl (yex rfl rfl) (hg.trans ae) (zqt 9 rfl (yex rfl rfl) (hg.trans ae) (zqt 10 rfl (yas rfl) (hg.trans ae) (zqt 11 rfl (yas rfl) (hg.trans ae) (qE (run_seq (run_draw (fun w' => Ext w2 w') (by kernel_rfl) rfl (zqt 0 rfl (ymv rfl) ag (zqt 1 rfl (ynk rfl) ag (zqt 2 rfl (yfa fl36_2 rfl) ag (qT 3 rfl (fun _ h=>(by first | exact yld U29 rfl rfl (h.blk ak) rfl | exact yld U29 rfl rfl (h.blk eg) rfl)) ag ?_))))))))))); refine zqt 4 rfl (yfa fl39_1 rfl) ag (qT 5 rfl (fun _ h=>(by first | exact yld U9 rfl rfl (h.blk ak) rfl | exact yld U9 rfl rfl (h.blk eg) rfl)) ag ?_); refine zqo 6 [.tmp 50, .tmp 52] rfl cf10 rfl (getM_ret (cu.ext ag).map key) ?_; rintro _ w3 ⟨rfl, bu⟩; refine ⟨(by rw [bu]; exact ag), ?_⟩; have ah : Ext w1 w3 := by rw [bu]; exact aI.trans ag
    refine zqt 7 rfl (ymv rfl) ((by rw [bu]; exact ag)) ?_; refine zqt 8 rfl (yex rfl rfl) ((by rw [bu]; exact ag)) ?_; refine zqt 9 rfl (yex rfl rfl) ((by rw [bu]; exact ag)) ?_; refine zqt 10 rfl (yas rfl) ((by rw [bu]; exact ag)) ?_; refine zqt 11 rfl (yas rfl) ((by rw [bu]; exact ag)) ?_; refine qE (Run.qb (e := [(4, _), (5, _), (6, _), (7, _), (8, _)]) ?_); refine qN rfl (zqm rfl (zqm rfl (qV (yeqS rfl rfl) (rTrue (by (first | rfl | assumption | omega | decide)) ?_)))); refine zqm rfl (zqm rfl (zqm rfl (qV (yeq rfl rfl) (rTrue (by (first | rfl | assumption | omega | decide)) ?_)))); refine qV (ypT rfl rfl) (zqa rfl (rEnd (run_ret Tryz.func24 rfl ?_))); exact ⟨_, rfl, by simp [resVal], X, ao (bL.ext ah) ah.kp (fun k h => .inl h), hG.mono (Nat.le_succ k), rfl, fun e => by omega⟩
   ·refine qN rfl (qV (yeq rfl rfl) (zqa rfl (rEnd (run_if rfl (fun c3 => ?_) (fun c3 => ?_)))))
    ·refine qN rfl (zqm rfl (qV (yldA (news := opC kd key val n (.slice na nos.length nc) auto) U39 rfl ti39 rfl (aG.cells (n := 6) rfl) rfl) (zqc [.tmp 66, .tmp 67] cf26 rfl (rangedS_ret bL hG hz (by omega) kd key val n (.slice na nos.length nc) auto aw) ?_))); rintro _ w2 ⟨rfl, ae⟩; refine zqa rfl (rEnd (run_ret Tryz.func24 rfl ?_)); exact ⟨_, rfl, rfl, X, ao (bL.ext ae) ae.kp (fun k h => .inl h), hG.mono (Nat.le_succ k), rfl, fun e => by omega⟩
    ·refine qN rfl (qV (yeq rfl rfl) (zqa rfl (rEnd (run_if rfl (fun c4 => ?_) (fun c4 => ?_)))))
     ·refine qN rfl (zqm rfl (qV (yfa fl39_4 rfl) (qV ((by first | exact yld U34 rfl rfl ai rfl | exact yld U34 rfl rfl aG rfl)) ?_))); refine zqc [.tmp 71, .tmp 73] cf57 rfl (giveS_ret bL hG hz (by omega) (rl.ext aa) ru dl (fun h g hg e => hd h g hg ((dM g).2 e))) ?_; rintro _ w2 ⟨rfl, X', gv', F', cu, sU, cB, -, cR, ju⟩; refine zqa rfl (rEnd (run_ret Tryz.func24 rfl ?_)); exact ⟨_, rfl, rfl, X', ao cu cR ju, sU, cB, fun e => by omega⟩
     ·refine qN rfl (qV (yeq rfl rfl) (zqa rfl (rEnd (run_if rfl (fun c5 => ?_) (fun c5 => ?_)))))
      ·refine qN rfl (zqm rfl (qV (ynk rfl) (qV (yfa fl36_1 rfl) (qV ((by first | exact yld U24 rfl rfl ai rfl | exact yld U24 rfl rfl aG rfl)) ?_)))); refine zqc [.tmp 80] cf58 rfl (clean_ret bL.tree) ?_; rintro _ w2 ⟨rfl, gr, am⟩; have pI : ∀ g, F g → g < w1.heap.size := fun g hg => bL.lt (.inr (.inr (.inr (.inr (.inr hg))))); have Hb := (hG.mono (Nat.le_succ k)).clean hz (by omega); have Hc := Hb.inv; have ak := am.blk ai bL.fq; have K9 := ai.lt; have eQ := am.size; obtain ⟨P, hP⟩ : ∃ P, (pgs X.T.size X.T.nodes X.ns fun _ => true) = P := ⟨_, rfl⟩; have Bm : P.length = X.ns.length := by rw [← hP, pgs_all_len]
       refine zqa rfl (qM rfl (zqm rfl (zqm rfl (qV (ynk rfl) (qV (yfa fl36_1 rfl) (qV (yld U24 rfl rfl ak rfl) (zqc [.tmp 86] cf22 rfl (pages_ret gr Hc (by have : X.clean.ns = X.ns := rfl; rw [this]; omega)) ?_))))))); rintro v3 w3 ⟨ah, bs, -⟩; replace bs : PgSl w3 v3 P := by rw [← hP]; exact bs
       refine zqc [.tmp 87] cf29 rfl (pagesL_ret (Sl.rd bs) (by omega)) ?_; rintro v4 w4 ⟨aC, gq, CO⟩; have gn := ah.trans aC; have aW := gn.blk ak; have Kf := gr.ext gn; have jK := ah.size; have jq := aC.size; have nU : ∀ g, v4.ownBlock = some g → w1.heap.size ≤ g ∧ g < w4.heap.size := fun g hg => ⟨by have := CO g hg; omega, gq.lt hg⟩; refine qV (ynk rfl) (qV (yfa fl36_3 rfl) (rEffP rfl (zst ti33 rfl rfl (oneV_sl gq) aW (by simp)) ?_)); rintro w5 ⟨bx, bh⟩; replace bx : Blk w5 q [I (X.T.size : Int), ptr p 0, ptr m 0, v4, gv, I (X.nx : Int)] 36 := bx; have me := Kf.kp bh (fun g hg e => bL.fq (e ▸ hg)); have cf := gq.kp bh (fun g hg e => by have := (nU g hg).1; omega); have kW := bh.size; have de : X.T.given.length ≤ 2147483647 := hI.gl; refine rEnd (Run.qb (e := [(0, _), (4, _), (9, _)]) ?_); refine qN rfl (zqm rfl (zqm rfl (qV (ynk rfl) (qV (yfa fl36_1 rfl) (qV (yld U24 rfl rfl bx rfl) (zqc [.tmp 95] cf27 rfl (given_ret me (Nat.le_trans de (by decide))) ?_)))))); rintro v6 w6 ⟨fW, aO, nG⟩; replace fW : Sl w6 v6 3 1 X.T.given.length (X.T.given.map I) := fW; have bD := aO.blk bx; have sY : ∀ g, v6.ownBlock = some g → w5.heap.size ≤ g := nG; refine qV (ynk rfl) (qV (yfa fl36_4 rfl) (rEffP rfl (zst ti34 rfl rfl (oneV_sl fW) bD (by simp)) ?_)); rintro w7 ⟨dH, bg⟩; replace dH : Blk w7 q [I (X.T.size : Int), ptr p 0, ptr m 0, v4, v6, I (X.nx : Int)] 36 := dH; have ys := (me.ext aO).kp bg (fun g hg e => bL.fq (e ▸ hg)); have cX := (cf.ext aO).kp bg (fun g hg e => by have := (nU g hg).1; omega); have Kg := fW.kp bg (fun g hg e => by have := sY g hg; omega); have cR : Kp (fun k => F k ∨ k = q) w1 w7 := ((am.mono' (fun k e => .inl e)).trans (gn.kp.trans (bh.mono' (fun k e => .inr e)))).trans (aO.kp.trans (bg.mono' (fun k e => .inr e)))
       have Kh := bL.reset (T' := X.clean.T) (p' := p) (nb' := nb) (F' := F) (O' := X.T.nodes) (os' := X.ns) (gs' := X.T.given) (sv' := v4) (gv' := v6) cR dH ys rfl (fun k hk => .inl hk) (by rw [hP]; exact cX) Kg
        (fun g hg => by
         have h1 : w1.heap.size ≤ g := hg.elim (fun e => (nU g e).1) (fun e => by have := sY g e; omega)
         exact ⟨h1, fun e => by have := pI g e; omega⟩) (fun g hg e => by have := sY g hg; have := (nU g e).2; omega)
       obtain ⟨f4, B2, jg⟩ := Kh; refine qM rfl (zqm rfl (qV (yeq rfl rfl) (rTrue (by (first | rfl | assumption | omega | decide)) ?_))); refine zqm rfl (zqm rfl (qV (ynk rfl) (qV (yfa fl36_1 rfl) (qV (yld U24 rfl rfl dH rfl) (zqc [.tmp 105] cf31 rfl (changed_ret ys Hc (by have : X.clean.ns = X.ns := rfl; rw [this]; omega)) ?_))))); rintro v8 w8 ⟨au, dO, -⟩; obtain ⟨ca, cc, rfl⟩ := PgSl.no dO; have d8 := au.blk dH; refine qV (yln U52 rfl) (qV (yeq rfl rfl) (rTrue (by (first | rfl | assumption | omega | decide)) ?_)); refine qV (ypT rfl rfl) (zqm rfl (zqm rfl (qV (ynk rfl) (qV (yfa fl36_1 rfl) (qV (yld U24 rfl rfl d8 rfl) (zqc [.tmp 114] cf28 rfl (freed_ret (ys.ext au) (os := X.ns) (fun x hx => (hI.mem x).1 (Option.isSome_iff_ne_none.1 hx)) (by omega)) ?_)))))); rintro v9 w9 ⟨fM, fl, -, rm, -, bJ, -⟩
       obtain rfl : fl = [] := List.eq_nil_iff_forall_not_mem.2 fun x hx => by
        obtain ⟨h1, h2⟩ := (rm x).1 hx; exact (Option.isSome_iff_ne_none.1 h1) h2
       obtain ⟨fa, fc, rfl⟩ := some_ofE bJ; refine qV (yln U34 rfl) (qV (yeq rfl rfl) (rTrue (by (first | rfl | assumption | omega | decide)) ?_)); refine qV (ypT rfl rfl) (zqa rfl (rEnd (Run.qb (e := [(4, _)]) ?_))); refine run_ret Tryz.func24 rfl ?_; have Be := au.trans fM; exact ⟨_, rfl, rfl, X.clean, ao (f4.ext Be) (B2.trans Be.kp) jg, Hb, rfl, fun e => by omega⟩
      ·refine qN rfl (qV (yeq rfl rfl) (zqa rfl (rEnd (run_if rfl (fun c6 => ?_) (fun c6 => ?_)))))
       ·refine qN rfl (zqm rfl (zqc [.tmp 121] cf59 rfl (loadS_ret bL hG hz (by omega)) ?_)); rintro _ w2 ⟨rfl, X', p', sv', nb', F', cu, sU, cB, -, cR, ju⟩; refine zqa rfl (rEnd (run_ret Tryz.func24 rfl ?_)); exact ⟨_, rfl, rfl, X', ao cu cR ju, sU.mono (Nat.le_succ k), cB, fun e => by omega⟩
       ·refine run_skip (run_inBlock (qN rfl (zqa rfl (rEnd (run_ret Tryz.func24 rfl ?_))))); exact ⟨_, rfl, rfl, X, ao bL (Ext.refl _).kp (fun k h => .inl h), hG.mono (Nat.le_succ k), rfl, fun e => by omega⟩
end
theorem rd_opA {w : World} {b off n cap : Nat} {l : List TOp} {i : Nat} {o : TOp} (h : Rd w (.slice (some ⟨b, off, none⟩) n cap) 6 n (l.flatMap TOp.cs)) (hi : i < n) (hy : l[i]? = some o) : ∀ (j : Nat) u, o.cs[j]? = some u → w.cell? ⟨b, off + i * 6 + j, none⟩ = some u := fun j u hj => by
 have hl : j < o.cs.length := (List.getElem?_eq_some_iff.1 hj).1
 rw [rd_op h hi hy j hl]; exact hj
def St1 (w0 w : World) (q m : Nat) (X : Sx) : Prop := ∃ fp, StF w q m X fp ∧ (∀ k, fp k → w0.heap.size ≤ k) ∧ Ext w0 w
theorem St1.ext {w0 w w' : World} {q m : Nat} {X : Sx} (h : St1 w0 w q m X) (k : Ext w w') : St1 w0 w' q m X := by
 obtain ⟨fp, h1, h2, h3⟩ := h
 exact ⟨fp, h1.ext k, h2, h3.trans k⟩
theorem St1.step {w0 w w' : World} {q m : Nat} {X' : Sx} {fp : Nat → Prop} (h2 : ∀ k, fp k → w0.heap.size ≤ k) (h3 : Ext w0 w) (h : StR q m fp w w' X') : St1 w0 w' q m X' := by
 obtain ⟨fp', h4, h5, h6⟩ := h
 refine ⟨fp', h4, fun k hk => ?_, h3.trans_new h5 (fun i hi => h2 i hi)⟩
 rcases h6 k hk with e | e
 ·exact h2 k e
 ·have := h3.size; omega
section
variable {w0 w : World} {q p m : Nat} {z : Nat} {nb : Int → Nat} {F : Nat → Prop}
theorem St1.init (hx : Ext w0 w) (hT : TreeA w p (Tr0 z) nb F) (hF : ∀ k, F k → w0.heap.size ≤ k) (hm : Blk w m [.slice none 0 0] 32) (hB : Blk w q [I (z : Int), ptr p 0, ptr m 0, .slice none 0 0, .slice none 0 0, I 0] 36) (Bl : q ≠ m) (hq : ¬ F q) (Fv : ¬ F m) (CD : w0.heap.size ≤ q) (ut : w0.heap.size ≤ m) : St1 w0 w q m ⟨Tr0 z, 0, [], [], fun _ => none, [], [], 0⟩ := by
 refine ⟨_, ⟨p, _, _, _, nb, F, StM.init hT hm hB Bl hq Fv, fun _ => Iff.rfl⟩, fun k hk => ?_, hx⟩
 rcases hk with e | e | e | e | e | e
 ·omega
 ·omega
 ·simp [Value.ownBlock] at e
 ·simp [Value.ownBlock] at e
 ·simp [Value.ownBlock] at e
 ·exact hF k e
end
theorem OpsT.kp {w0 w w' : World} {v : Value} {l : List TOp} {fp : Nat → Prop} (h : OpsT w0 v l) (h2 : ∀ k, fp k → w0.heap.size ≤ k) (h3 : Ext w0 w) (k : Kp fp w w') : Rd w' v 6 l.length (l.flatMap TOp.cs) :=
 (h.ext (h3.trans_new k (fun i hi => h2 i hi))).rd
theorem OpsT.apart {w0 : World} {v : Value} {l : List TOp} {fp : Nat → Prop} (h : OpsT w0 v l) (h2 : ∀ k, fp k → w0.heap.size ≤ k) {o : TOp} (ho : o ∈ l) : 0 < o.nos.length → ∀ g, o.nv.ownBlock = some g → ¬ fp g := fun h0 g hg e => by
 have := Rd.ltz (h.nos o ho).1 (by omega) h0 hg
 have := h2 g e
 omega
section
variable {w : World}
set_option maxHeartbeats 8000000 in
theorem treeShape_ret (z : Int) {lv : Value} {l : List TOp} (hL : OpsT w lv l) :
  Ret Tryz.prog 6 [I z, lv] w fun v w' => v = .bool true ∧ Ext w w' := by
 have l0 := hL.le
 obtain ⟨la, lc, rfl, -⟩ := hL.rd.shape
 obtain ⟨r, hr, uh, qW⟩ : ∃ r, z.tmod 8 = r ∧ -8 < r ∧ r < 8 := ⟨_, rfl, by have := Int.lt_tmod_of_pos z (b := 8) (by decide); omega, by exact Int.tmod_lt_of_pos z (by decide)⟩
 refine ret_of_run (e := [(0, _), (1, _)]) Tryz.func6 rfl Tryz.ntmps6 rfl rfl (qN rfl (zqa rfl (qM rfl (zqm rfl (qV (yrt rfl rfl (by decide)) ?_)))))
 rw [hr]
 refine zqd rfl rfl (qV (yre rfl rfl (by omega)) (zqd rfl rfl (qV (yml rfl rfl (by omega)) ?_)))
 obtain ⟨s, hs, gY⟩ : ∃ s : Nat, (512 * (1 + (r + 8) % 8) : Int) = (s : Int) ∧ sizeOk (s : Int) := ⟨(512 * (1 + (r + 8) % 8)).toNat, by omega, by unfold sizeOk; omega⟩
 rw [hs]
 refine zqa rfl (qM rfl (zqm rfl (zqc [.tmp 17] cf8 rfl (newT_ret (s : Int)) ?_)))
 rintro v1 w1 ⟨aa, fZ⟩
 obtain ⟨p, F, rfl, hT, hF⟩ : ∃ p F, v1 = .tuple #[ptr p 0, I 0] ∧ TreeA w1 p (Tr0 s) (fun _ => 0) F ∧ ∀ k, F k → w.heap.size ≤ k := by
  rcases fZ with ⟨-, h⟩ | ⟨h, -⟩
  ·exact h
  ·exact absurd gY h
 refine zqm rfl (qV (yex rfl rfl) (qV (yex rfl rfl) (zqa rfl (zqa rfl (rEnd (run_seq (qN rfl (zqm rfl (qV (yne rfl rfl) (rEnd (run_if rfl (fun h1 => ?_) (fun h1 => ?_))))))))))))
 ·exact absurd rfl h1
 ·refine run_skip (qN rfl (zqm rfl (zqm rfl (qV (ybd (parts := []) (cs := [_]) ti32 rfl sp32 rfl rfl) (rValP rfl rfl (pbx rfl rfl) ?_))))); rintro _ w2 ⟨m, rfl, hm, ae, zI⟩; refine qV (ybd (parts := [(0, .tmp 23), (1, .tmp 24), (2, .tmp 26)]) (cs := [_, _, _, _, _, _]) ti36 rfl sp36 rfl rfl) (rValP rfl rfl (pbx rfl rfl) ?_); rintro _ w3 ⟨q, rfl, hq, ah, Hd⟩; have eI := aa.size; have eQ := ae.size; have jX := zI.lt; have He := hT.lt; have qh : St1 w w3 q m ⟨Tr0 s, 0, [], [], fun _ => none, [], [], 0⟩ := St1.init ((aa.trans ae).trans ah) ((hT.ext ae).ext ah) hF (ah.blk zI) Hd (by omega) (fun e => by have := He _ e; omega) (fun e => by have := He _ e; omega) (by omega) (by omega); refine zqa rfl (rEnd (Run.qb (e := [(1, _), (4, _), (7, _)]) ?_)); refine run_seq (qN rfl (zqa rfl (rEnd (run_block (zqu (α := Nat) (0) (fun i => [(1, .slice la l.length lc), (7, ptr q 0), (8, I (i : Int))]) (fun i w' => i ≤ 200 ∧ i ≤ l.length ∧ ∃ X, St1 w w' q m X ∧ Gh X i ∧ X.T.size = s) (fun i => 200 - i) ?hI ?hround)))))
  case hI => exact ⟨Nat.zero_le _, Nat.zero_le _, _, qh, gh0 s, rfl⟩
  case hround =>
   clear qh zI Hd hT; rintro i u1 ⟨hi, cE, X, qh, hG, cB⟩ ih; obtain ⟨fp, Hf, h2, h3⟩ := id qh
   try dsimp only
   refine run_seq (qN rfl (zqm rfl (zqm rfl (qV (yln U22 rfl) (qV (ylt rfl rfl) (zqm rfl (rVal_if (fun g1 => ?_) (fun g1 => ?_))))))))
   ·refine zqm rfl (qV (ylt rfl rfl) (qV (ypT rfl rfl) (rEnd (run_if rfl (fun g2 => ?_) (fun g2 => ?_)))))
    ·have ab : i < l.length := by omega
     obtain ⟨b1, o1, o, rfl, ho⟩ := rd_ops hL.rd rfl ab; have FG := List.mem_of_getElem? ho; have KT := hL.ext h3; have hX : sizeOk (X.T.size : Int) := by rw [cB]; exact gY
     have hI := hG.inv; have de := hI.gl; obtain ⟨p1, mv1, sv1, gv1, nb1, F1, bL, Ki⟩ := id Hf; have ai := bL.blk; refine run_skip (run_seq (run_block (qN rfl (zqm rfl (qV (ynk rfl) (qV (yfa fl36_1 rfl) (qV (yld U24 rfl rfl ai rfl) (zqc [.tmp 42] cf27 rfl (given_ret bL.tree (by omega)) ?_)))))))); rintro v2 u2 ⟨bB, ae, -⟩; obtain ⟨ga, gc, rfl⟩ := some_ofE bB; have FH := Hf.ext ae; have Hg := h3.trans ae; have FI := hL.ext Hg; refine qV (yln U34 rfl) (zqa rfl (qM rfl (zqm rfl (zqm rfl (zqm rfl (qV (yis U22 ti39 rfl rfl (by omega)) (qV (yldA U39 rfl ti39 rfl (rd_opA FI.rd ab ho) rfl) (zqc [.tmp 45, .tmp 49] cf24 rfl (stepS_ret FH hG hX (by omega) o (FI.nos o FG) (FI.str o FG) (hL.apart h2 FG)) ?_)))))))); rintro _ u3 ⟨rfl, X3, xC, rp, rE, ax⟩; have Bf := St1.step h2 Hg xC; obtain ⟨fp3, FJ, KU, Kj⟩ := id Bf; obtain ⟨p3, mv3, sv3, gv3, nb3, F3, fd, uK⟩ := id FJ; have Kk : sizeOk (X3.T.size : Int) := by rw [rE]; exact hX
     refine qV ((by first | exact yntd rfl | exact ynt rfl)) ?_; refine zqm rfl (zqm rfl (zqc [.tmp 53] cf15 rfl (shapeS_ret fd rp Kk (by omega)) ?_)); rintro _ u4 ⟨rfl, aC⟩; have Bg := Bf.ext aC; have eM := fd.ext aC; have aW := eM.blk; have Kl := hL.ext (Kj.trans aC); have Km := rp.inv.gl; refine qV ((by first | exact yntd rfl | exact ynt rfl)) ?_; refine qV (ypF rfl rfl) (zqm rfl (zqm rfl (zqm rfl (qV (yis U22 ti39 rfl rfl (by omega)) (qV (yfa fl39_0 rfl) (qV (yldc U3 rfl rfl (rd_op Kl.rd ab ho 0 (by omega))) (qV (yeq rfl rfl) (zqm rfl (rVal_if (fun g3 => ?_) (fun g3 => ?_))))))))))
     ·refine zqm rfl (qV (ynk rfl) (qV (yfa fl36_1 rfl) (qV (yld U24 rfl rfl aW rfl) (zqc [.tmp 68] cf27 rfl (given_ret eM.tree (by omega)) ?_)))); rintro v5 u5 ⟨cf, aJ, -⟩; obtain ⟨ha, hc, rfl⟩ := some_ofE cf; have := ax g3; refine qV (yln U34 rfl) (zqm rfl (qV (ylt rfl rfl) (qV (ypT rfl rfl) (qV (ypF rfl rfl) (rEnd (run_if rfl (fun g4 => ?_) (fun g4 => ?_)))))))
      ·omega
      ·refine run_skip (run_inBlock (run_reg rfl (zqm rfl (zqd rfl rfl (zqa rfl (rEnd ?_)))))); exact (ih (i + 1) u5 ⟨by omega, by omega, X3, Bg.ext aJ, rp, rE.trans cB⟩ (by omega)).qb
     ·refine qS (qS (qS (qS (qS (qS (qS (qS (qV (ypF rfl rfl) (qV (ypF rfl rfl) (rEnd (run_false rfl (run_skip (run_inBlock ?_))))))))))))); refine run_reg rfl (zqm rfl (zqd rfl rfl (zqa rfl (rEnd ?_)))); exact (ih (i + 1) u4 ⟨by omega, by omega, X3, Bg, rp, rE.trans cB⟩ (by omega)).qb
    ·refine run_exit rfl (qN rfl (zqc [] cf16 rfl (awake_ret u1) ?_)); rintro _ u2 ⟨rfl, ae⟩; refine zqa rfl (rEnd (run_ret Tryz.func6 rfl ?_)); exact ⟨_, rfl, rfl, h3.trans ae⟩
   ·refine qS (qS (qV (ypF rfl rfl) (rEnd (run_false rfl (run_exit rfl (qN rfl (zqc [] cf16 rfl (awake_ret u1) ?_))))))); rintro _ u2 ⟨rfl, ae⟩; refine zqa rfl (rEnd (run_ret Tryz.func6 rfl ?_)); exact ⟨_, rfl, rfl, h3.trans ae⟩
end
end Go.Proofs.YtocnhaoilnojmaaGreat
namespace Go.Proofs.YtocnhaoilnojmaaGreat
open Go Go.ChangeShapes Go.WideShapes Go.ChangeAt Go.RowKit
set_option linter.all false

def readables (P : Program) (ts : List TypeId) : Bool := ts.all fun t => P.readableRec t && decide (t < P.types.size)

theorem trodAll_below {H : Type} {enc : TypeId × Value → H} {P : Program} (hl : laidOutB P = true) {W W' : World} (hb : Below W.heap.size W W') :
    ∀ {ts : List TypeId} {vs : List Value} {ds : List (DataW H)} {ps : List MemPlace}, readables P ts = true → DataW.TrodAll enc P W 0 (fun _ => true) true ts vs ds ps →
      DataW.TrodAll enc P W' 0 (fun b => decide (b < W.heap.size)) true ts vs ds ps
  | [], [], [], _, _, h => h
  | t :: ts, v :: vs, d :: ds, _, hr, h => by
    obtain ⟨p, q, h1, h2, rfl⟩ := h
    simp only [readables, List.all_cons, Bool.and_eq_true, decide_eq_true_eq] at hr
    exact ⟨p, q, Below.trod hl hr.1.1 hr.1.2 h1 hb (by obtain ⟨m, hm⟩ := h1; exact DataW.trod_lt m _ _ _ hm), trodAll_below hl hb hr.2 h2, rfl⟩
  | [], [], _ :: _, _, _, h => h.elim
  | [], _ :: _, _, _, _, h => h.elim
  | _ :: _, [], _, _, _, h => h.elim
  | _ :: _, _ :: _, [], _, _, h => h.elim

theorem trodAll_len {H : Type} {enc : TypeId × Value → H} {P : Program} {W : World} {base : Nat} {spare : Nat → Bool} {held : Bool} :
    ∀ {ts : List TypeId} {vs : List Value} {ds : List (DataW H)} {ps : List MemPlace}, DataW.TrodAll enc P W base spare held ts vs ds ps → ds.length = ts.length
  | [], [], [], _, _ => rfl
  | t :: ts, v :: vs, d :: ds, _, h => by
    obtain ⟨p, q, h1, h2, rfl⟩ := h
    simpa using trodAll_len h2
  | [], [], _ :: _, _, h => h.elim
  | [], _ :: _, _, _, h => h.elim
  | _ :: _, [], _, _, h => h.elim
  | _ :: _, _ :: _, [], _, h => h.elim

theorem law_lifted {H : Type} {enc : TypeId × Value → H} {C : Checked} {os : Os} {f : FuncId} {fn : Func} {s : ChangeSpec} {t : TypeId} {ts : List TypeId}
    (own : ownKnob C.prog.godebug = none) (started : os.Started) (hl : laidOutB C.prog = true) (noInit : C.prog.inits.idxOf? f = none) (hfn : C.prog.funcs[f]? = some fn)
    (hts : fn.params.toList = ts) (hrd : readables C.prog ts = true) (hrt : fn.resultTypes = #[t]) (hb : C.prog.underlying t = some .bool) (hsv : s.vars = [])
    (hspec : ∀ ds : List (DataW H), ds.length = ts.length → s.fn H ds = { results := [.lit (.bool true)], args := ds })
    (witness : ∃ (w : World) (tape : Tape) (i : Input), w.os = os ∧ (w.forCall tape i).Shaped C.prog ∧ i.vars = [] ∧ Input.okWide C.prog (w.forCall tape i) .any w.heap.size f i ∧
      s.pre6 enc C.prog fn [] false (w.forCall tape i).memory i.args ∧ ({} : Assume).holds C.prog (lone (Frame.enter C.prog f i.args .normal) [] (w.forCall tape i)))
    (hret : ∀ (W : World) (base : Nat) (args : List Value) (ds : List (DataW H)) (ps : List MemPlace),
      (∀ (j : Nat) t v, ts[j]? = some t → args[j]? = some v → Value.okWide C.prog W .any base t v) →
      DataW.TrodAll enc C.prog W 0 (fun _ => true) true ts args ds ps → W.noneFrozen ps →
      (DataW.weightsEach C.prog ts ds).all (· ≤ reachBytes) = true →
      Ret C.prog f args W fun v w' => v = .bool true ∧ Ext W w') :
    ReturnsInHanded {} C os f .any (s.pre6 enc C.prog fn [] false) (s.post enc C.prog fn false true false false) := by
  refine returnsInHanded_of_change_sized own started noInit hfn witness ?_
  intro W base args ds gs before hval0 hW _ hsz0 _
  have hW' := hW
  obtain ⟨p, q, hA, hV, rfl, hfz, _⟩ := hW
  rw [hsv] at hV
  obtain ⟨rfl, rfl⟩ := trodVars_none hV
  rw [hts] at hA
  have hlen := trodAll_len hA
  have hsz : (DataW.weightsEach C.prog ts ds).all (· ≤ reachBytes) = true := by
    have hv : s.plain.varTypes C.prog = [] := by simp [ChangeSpec.plain, DataSpec.varTypes, hsv]
    rw [hts, hv, List.append_nil, List.append_nil] at hsz0
    exact hsz0
  have hr := hret W base args.toList ds p (fun j t v h1 h2 => hval0 j t v (by rw [← hts] at h1; simpa using h1) (by simpa using h2)) hA (by rw [List.append_nil] at hfz; exact hfz) hsz
  unfold Ret at hr; rw [Array.toArray_toList] at hr
  refine Calls.mono hr fun x W' ⟨v, hx, hv, hext⟩ => ?_
  subst hx; subst hv
  have bel := hext.below
  refine ⟨_, rfl, ds, [], p ++ [], [], p, [], hW', ?_, ?_, ?_, bel.frame _, fun h => by cases h⟩
  · rw [List.append_nil, hspec ds hlen, hrt]
    exact trodAll_mk1 (shut_bool hb _)
  · rw [List.append_nil, hspec ds hlen, hts]
    exact trodAll_below hl bel hrd hA
  · rw [hsv, List.append_nil, hspec ds hlen]
    rfl
theorem own : ownKnob Tryz.prog.godebug = none := by kernel_rfl
theorem laidOut : laidOutB Tryz.prog = true := by kernel_rfl
theorem str_S (s : ByteArray) : Value.string s = S s.data.toList := by
  obtain ⟨⟨l⟩⟩ := s; rfl
end Go.Proofs.YtocnhaoilnojmaaGreat
namespace Go.Proofs.YtocnhaoilnojmaaGreat
open Go Go.ChangeShapes Go.WideShapes Go.ChangeAt Go.RowKit Go.Deep
set_option linter.all false
set_option maxRecDepth 100000

/-! ### Rows of equal length -/
theorem flat_get {C : Nat → List Value} {k : Nat} : ∀ {n : Nat}, (∀ i, i < n → (C i).length = k) → ∀ i r, i < n → r < k → ((List.range n).flatMap C)[i * k + r]? = (C i)[r]?
 | 0, _, i, r, hi, _ => absurd hi (Nat.not_lt_zero _)
 | n + 1, hl, i, r, hi, hr => by
   have aP : ((List.range n).flatMap C).length = n * k := by
    have : ∀ m, m ≤ n → ((List.range m).flatMap C).length = m * k := fun m hm => by
     induction m with
     | zero => simp
     | succ m ih => rw [List.range_succ, List.flatMap_append, List.length_append, ih (by omega)]; simp [hl m (by omega)]; rw [Nat.succ_mul]
    exact this n (Nat.le_refl _)
   rw [List.range_succ, List.flatMap_append]; rcases Nat.lt_or_ge i n with h | h
   ·have af : i * k + r < n * k := by
     have : (i + 1) * k ≤ n * k := Nat.mul_le_mul_right k h; rw [Nat.succ_mul] at this; omega
    rw [List.getElem?_append_left (by rw [aP]; exact af)]; exact flat_get (fun j hj => hl j (by omega)) i r h hr
   ·have e : i = n := by omega
    subst e; rw [List.getElem?_append_right (by rw [aP]; omega), aP, show i * k + r - i * k = r by omega]; simp
theorem flat_length {C : Nat → List Value} {k n : Nat} (hl : ∀ i, i < n → (C i).length = k) : ((List.range n).flatMap C).length = n * k := by
 have : ∀ m, m ≤ n → ((List.range m).flatMap C).length = m * k := fun m hm => by
  induction m with
  | zero => simp
  | succ m ih => rw [List.range_succ, List.flatMap_append, List.length_append, ih (by omega)]; simp [hl m (by omega)]; rw [Nat.succ_mul]
 exact this n (Nat.le_refl _)
section
variable {H : Type} {enc : TypeId × Value → H} {P : Program} {W : World} {sp : Nat → Bool}

theorem rd_rows {a : Addr} {len cap size : Nat} {C : Nat → List Value} (hs : 0 < size) (hC : ∀ i, i < len → W.cells? 0 (a.add (i * size)) size = some (C i)) : Rd W (.slice (some a) len cap) size len ((List.range len).flatMap C) ∧ ∀ i, i < len → (C i).length = size := by
 have hl : ∀ i, i < len → (C i).length = size := fun i hi => (World.cells?_some (hC i hi)).2.1
 refine ⟨⟨flat_length hl, ?_⟩, hl⟩
 rcases Nat.eq_zero_or_pos len with h0 | h0
 ·subst h0; exact .inl ⟨(some a, cap), rfl, rfl⟩
 ·obtain ⟨b, off, spot⟩ := a
  have ry : spot = none := by
   obtain ⟨-, h1, h2⟩ := World.cells?_some (hC 0 h0); have h3 := h2 0 hs; rw [Nat.zero_mul] at h3; simp only [Addr.add, if_true] at h3; rw [List.getElem?_eq_getElem (by omega)] at h3; unfold World.cell? at h3; split at h3
   ·cases spot with
    | none => rfl
    | some s => simp at h3
   ·cases h3
  subst ry; refine .inr ⟨b, off, cap, rfl, fun j u hj => ?_⟩
  have xI : j < len * size := by
   rcases Nat.lt_or_ge j (len * size) with h | h
   ·exact h
   ·rw [List.getElem?_eq_none (by rw [flat_length hl]; exact h)] at hj; cases hj
  have hi : j / size < len := (Nat.div_lt_iff_lt_mul hs).2 xI; have hr : j % size < size := Nat.mod_lt _ hs; have e : j = (j / size) * size + j % size := by have := Nat.div_add_mod j size; rw [Nat.mul_comm] at this; exact this.symm
  rw [e, flat_get hl _ _ hi hr] at hj; obtain ⟨-, h1, h2⟩ := World.cells?_some (hC _ hi); have h3 := h2 _ hr; rw [hj, add_off, add_off] at h3; rw [e, ← Nat.add_assoc]; exact h3

theorem open_ints {t e : TypeId} {fuel : Nat} {v : Value} {x : DataW H × List MemPlace} (ht : P.underlying t = some (.slice e)) (he : P.underlying e = some (.int .i64)) (hc : P.cellsOf e = 1) (hb : P.bytesOf e = 8) (h : DataW.trod enc P W 0 sp true fuel t [v] = some x)
  (hw : ∀ n ∈ x.1.weights P t, n ≤ reachBytes) : ∃ l : List Int, Rd W v 1 l.length (l.map I) ∧ l.length ≤ 17592186044415 ∧ ∃ a c, v = .slice a l.length c ∧ l.length ≤ c := by
 rcases open_slice ht h with ⟨hv, hx⟩ | ⟨a, len, cap, m, n, D, Pl, hv, -, hl, hm, lq, hx, fJ⟩
 ·cases hv; exact ⟨[], ⟨rfl, .inl ⟨(none, 0), rfl, rfl⟩⟩, by simp, none, 0, rfl, Nat.le_refl _⟩
 ·cases hv; rw [hc] at fJ; have EO : len ≤ m := by rw [lq]; split <;> omega
  obtain ⟨Z, hZ⟩ := choose_lt (α := Int) (n := len) (p := fun i z => W.cells? 0 (a.add (i * 1)) 1 = some [I z]) (fun i hi => by
   obtain ⟨cs', h1, h2⟩ := fJ i (by omega); obtain ⟨z, hz, -⟩ := DataW.trod_int he h2
   exact ⟨z, by rw [h1, hz]⟩)
  obtain ⟨h1, h2⟩ := rd_rows (size := 1) (cap := cap) (C := fun i => [I (Z i)]) (by omega) hZ
  have hf : (List.range len).flatMap (fun i => [I (Z i)]) = ((List.range len).map Z).map I := by
   rw [List.flatMap_def, List.map_map]
   induction (List.range len) with
   | nil => rfl
   | cons a r ih => simpa using ih
  rw [hf] at h1; refine ⟨(List.range len).map Z, by simpa using h1, ?_, some a, cap, by simp, by simpa using hl⟩; have sM := hw ((len + (m - len)) * 8) (by rw [hx]; simp [DataW.weights, ht, hb]); simp [reachBytes] at sM; simp; omega
end

/-! ### Calls -/
section
variable {H : Type} {enc : TypeId × Value → H} {W : World} {sp : Nat → Bool}
theorem i64_le (n : Int) (h : (Lit.int .i64 n).wf = true) : n ≤ 9223372036854775807 ∧ -9223372036854775808 ≤ n := by
 simp [Lit.wf, IntKind.min, IntKind.max, IntKind.signed, IntKind.bits] at h; omega

theorem weightsAll_mem {P : Program} {t : TypeId} {d : DataW H} {n : Nat} : ∀ {L : List (DataW H)}, d ∈ L → n ∈ DataW.weights P t d → n ∈ DataW.weightsAll P t L
 | [], hd, _ => by cases hd
 | x :: r, hd, hn => by
   simp only [DataW.weightsAll, List.mem_append]; rcases List.mem_cons.1 hd with rfl | h
   ·exact .inl hn
   ·exact .inr (weightsAll_mem h hn)
end
section
variable {H : Type} {enc : TypeId × Value → H} {W : World} {sp : Nat → Bool}
theorem open_op {fuel : Nat} {cs : List Value} {x : DataW H × List MemPlace} (h : DataW.trod enc Tryz.prog W 0 sp true fuel 39 cs = some x) (hw : ∀ n ∈ x.1.weights Tryz.prog 39, n ≤ reachBytes) :
  ∃ o : TOp, cs = o.cs ∧ (Rd W o.nv 1 o.nos.length (o.nos.map I) ∧ o.nos.length ≤ 17592186044415 ∧ ∃ a c, o.nv = .slice a o.nos.length c ∧ o.nos.length ≤ c) ∧ o.key.length ≤ 140737488355328 ∧ o.val.length ≤ 140737488355328 ∧ o.n ≤ 9223372036854775807 := by
 obtain ⟨xs, n, -, hx, hl, aP, hf⟩ := DataW.trod_struct U39 h
 rw [show Tryz.prog.cellsOf 39 = 6 by kernel_rfl] at hl
 match xs, aP with
 | [y0, y1, y2, y3, y4, y5], _ =>
 match cs, hl with
 | [c0, c1, c2, c3, c4, c5], _ =>
   have t0 := hf 0 _ rfl; have t1 := hf 1 _ rfl; have t2 := hf 2 _ rfl; have t3 := hf 3 _ rfl; have t4 := hf 4 _ rfl; have t5 := hf 5 _ rfl; simp only [show Tryz.prog.cellsOf 9 = 1 by kernel_rfl, show Tryz.prog.cellsOf 3 = 1 by kernel_rfl, show Tryz.prog.cellsOf 34 = 1 by kernel_rfl, show Tryz.prog.cellsOf 4 = 1 by kernel_rfl, List.drop, List.take, List.getElem?_cons_zero, List.getElem?_cons_succ] at t0 t1 t2 t3 t4 t5
   have bE : ∀ n, n ∈ DataW.weights Tryz.prog 9 y1.1 ∨ n ∈ DataW.weights Tryz.prog 9 y2.1 ∨ n ∈ DataW.weights Tryz.prog 34 y4.1 → n ≤ reachBytes := fun n hn => hw n (by
    rw [hx]; simp only [DataW.weights, U39, DataW.weightsEach, List.map, List.mem_append]; rcases hn with hn | hn | hn
    ·exact .inr (.inl hn)
    ·exact .inr (.inr (.inl hn))
    ·exact .inr (.inr (.inr (.inr (.inl hn)))))
   obtain ⟨n0, e0, -, -⟩ := DataW.trod_int U3 t0; obtain ⟨s1, e1, Gk, -⟩ := DataW.trod_string U9 t1; obtain ⟨s2, e2, GU, -⟩ := DataW.trod_string U9 t2; obtain ⟨n3, e3, -, w3⟩ := DataW.trod_int U3 t3; obtain ⟨al, Kn, vh⟩ := open_ints U34 U3 (by kernel_rfl) (by kernel_rfl) t4 (fun n hn => bE n (.inr (.inr hn))); obtain ⟨bb, e5, -⟩ := DataW.trod_bool U4 t5; cases e0; cases e1; cases e2; cases e3; cases e5; have h1 := bE s1.data.toList.length (.inl (by rw [Gk]; simp [DataW.weights])); have h2 := bE s2.data.toList.length (.inr (.inl (by rw [GU]; simp [DataW.weights]))); simp [reachBytes] at h1 h2; refine ⟨⟨n0, s1.data.toList, s2.data.toList, n3, al, bb, c4⟩, ?_, ⟨Kn, vh⟩, by simp; omega, by simp; omega, (i64_le _ w3).1⟩; show _ = [I n0, S s1.data.toList, S s2.data.toList, I n3, c4, .bool bb]; rw [str_S, str_S]
theorem open_ops {fuel : Nat} {v : Value} {x : DataW H × List MemPlace} (h : DataW.trod enc Tryz.prog W 0 sp true fuel 22 [v] = some x) (hw : ∀ n ∈ x.1.weights Tryz.prog 22, n ≤ reachBytes) : ∃ l : List TOp, OpsT W v l := by
 rcases open_slice U22 h with ⟨hv, hx⟩ | ⟨a, len, cap, m, n, D, Pl, hv, -, hl, hm, lq, hx, fJ⟩
 ·cases hv; exact ⟨[], ⟨⟨rfl, .inl ⟨(none, 0), rfl, rfl⟩⟩, by simp, by simp, by simp⟩⟩
 ·cases hv; rw [show Tryz.prog.cellsOf 39 = 6 by kernel_rfl] at fJ; have EO : len ≤ m := by rw [lq]; split <;> omega
  obtain ⟨O, hO⟩ := @choose_lt TOp ⟨⟨0, [], [], 0, [], false, .nilFunc⟩⟩ len (fun i o => W.cells? 0 (a.add (i * 6)) 6 = some o.cs ∧ (Rd W o.nv 1 o.nos.length (o.nos.map I) ∧ o.nos.length ≤ 17592186044415 ∧ ∃ a c, o.nv = .slice a o.nos.length c ∧ o.nos.length ≤ c) ∧ o.key.length ≤ 140737488355328 ∧ o.val.length ≤ 140737488355328 ∧ o.n ≤ 9223372036854775807) (fun i hi => by
   obtain ⟨cs', h1, h2⟩ := fJ i (by omega)
   obtain ⟨o, gW, aQ⟩ := open_op h2 (fun n hn => hw n (by
    rw [hx]; simp only [DataW.weights, U22, List.mem_cons, List.mem_append]
    exact .inr (.inl (weightsAll_mem (List.mem_map.2 ⟨i, by simpa using hi, rfl⟩) hn))))
   exact ⟨o, by rw [h1, gW], aQ⟩)
  obtain ⟨h1, h2⟩ := rd_rows (size := 6) (cap := cap) (C := fun i => (O i).cs) (by omega) (fun i hi => (hO i hi).1); have hf : (List.range len).flatMap (fun i => (O i).cs) = ((List.range len).map O).flatMap TOp.cs := by simp [List.flatMap_map]
  rw [hf] at h1; refine ⟨(List.range len).map O, by simpa using h1, ?_, fun o ho => ?_, fun o ho => ?_⟩
  ·have sM := hw ((len + (m - len)) * Tryz.prog.bytesOf 39) (by rw [hx]; simp [DataW.weights, U22]); have hb : 1 ≤ Tryz.prog.bytesOf 39 := by decide +kernel
   have FK := Nat.mul_le_mul_left (len + (m - len)) hb; simp [reachBytes] at sM FK; simp; omega
  ·obtain ⟨i, hi, rfl⟩ := List.mem_map.1 ho; exact (hO i (by simpa using hi)).2.1
  ·obtain ⟨i, hi, rfl⟩ := List.mem_map.1 ho; exact (hO i (by simpa using hi)).2.2
end
end Go.Proofs.YtocnhaoilnojmaaGreat
