/- Texts LwA, LwB, LwP, LwS, LwT, LwN, LwQ, LwE, LwR, LwK, LwX, LwU, LwZ, LwY, LwG, LwC, LwD, LwF, LwI, one behind the other (what the statement TreePlays does not use is left out). -/
import Derived.Test.YtocnhaoilnojmaaGreatTPp1
import Derived.Test.YtocnhaoilnojmaaGreatTPp7
import Derived.Test.YtocnhaoilnojmaaGreatTPp6
import Derived.Test.YtocnhaoilnojmaaGreatTPp4
import Derived.Laws.StructEq
import Derived.ChangeKeysEq
namespace Go.Proofs.YtocnhaoilnojmaaGreat
open Go Go.RowKit
set_option linter.all false
set_option maxRecDepth 100000
theorem Inv.pos {T : Tr} {H : Nat} {ns : List Int} {es : Es} (h : Inv T H ns es) (hz : sizeOk (T.size : Int)) : (T.root = 0 ↔ es = []) ∧ (es ≠ [] → 1 ≤ H) := by
 rcases h.std with ⟨h0, -, -, rfl⟩ | ⟨h0, h1, h2, -, h3⟩
 ·exact ⟨⟨fun _ => rfl, fun _ => h0⟩, fun e => absurd rfl e⟩
 ·refine ⟨⟨fun e => absurd e h0, fun e => ?_⟩, fun _ => h1⟩
  have := (bn_cnts hz h2 h3).1
  rw [e] at this
  simp at this
section
variable {w : World}
set_option maxHeartbeats 1000000 in
theorem awake_ret (w : World) : Ret Tryz.prog 16 [] w fun v w' => v = .bool true ∧ Ext w w' := by
 have hz : sizeOk ((512 : Nat) : Int) := by unfold sizeOk; decide
 refine ret_of_run (e := []) Tryz.func16 rfl Tryz.ntmps16 rfl rfl (qN rfl (qa rfl (qM rfl (rCall rfl rfl (yc (args := [.const (Value.int .i64 512)]) cf8 rfl) (newT_ret 512) ?_))))
 rintro v1 w1 ⟨hx1, hv1⟩
 obtain ⟨p, F, rfl, h1, hF⟩ : ∃ p F, v1 = .tuple #[ptr p 0, I 0] ∧ TreeA w1 p (Tr0 512) (fun _ => 0) F ∧ ∀ k, F k → w.heap.size ≤ k := by
  rcases hv1 with ⟨-, h⟩ | ⟨h, -⟩
  ·exact h
  ·exact absurd hz h
 refine qm rfl (qV (yex rfl rfl) (qV (yex rfl rfl) (qa rfl (qa rfl (qM rfl (qm rfl (rValP rfl rfl (pbs (parts := [(0, .const (Value.int .i64 9)), (1, .const (Value.int .i64 7))]) (cs := [_, _]) (zs := [Value.int .i64 0, Value.int .i64 0]) U34 ti3 rfl (by kernel_rfl) rfl rfl rfl (by decide)) ?_)))))))
 rintro _ w2 ⟨b2, rfl, ⟨hb2, hx2, hB2⟩, hS2⟩
 have hok : giveOk (Tr0 512) [9, 7] := ⟨by decide, fun x hx => ⟨by simp at hx; omega, rfl, rfl, List.not_mem_nil⟩⟩
 have hz1 := hx1.size
 have hz2 := hx2.size
 refine rCall rfl rfl (yc (args := [.tmp 11, .tmp 12]) cf50 rfl) (give_ret (h1.ext hx2) (inv0 512) (l := [9, 7]) hS2.rd (by decide)) ?_
 rintro v3 w3 hv3
 obtain ⟨rfl, hk3, F3, h3, hF3⟩ : v3 = I 0 ∧ Kp F w2 w3 ∧ ∃ F', TreeA w3 p { Tr0 512 with given := sortZ ((Tr0 512).given ++ [9, 7]) } (fun _ => 0) F' ∧ ∀ k, F' k → F k ∨ w2.heap.size ≤ k := by
  rcases hv3 with ⟨h, -, h', h''⟩ | ⟨-, h, -⟩
  ·exact ⟨h, h', h''⟩
  ·exact absurd hok h
 have hI3 := (inv0 512).give hok
 refine qa rfl (qM rfl (qm rfl (rCall rfl rfl (yc (args := [.tmp 14, .const (Value.string (⟨#[97]⟩)), .const (Value.string (⟨#[120]⟩))]) cf38 rfl) (putT_ret h3 hI3 (by simp) _ _ (by decide) (by decide)) ?_)))
 rintro v4 w4 hv4
 obtain ⟨rfl, T4, H4, ns4, nb4, F4, h4, hI4, hk4, hF4, hev⟩ : v4 = I 0 ∧ ∃ T4 H4 ns4 nb4 F4, TreeA w4 p T4 nb4 F4 ∧ Inv T4 H4 ns4 [([97], [120])] ∧ Kp F3 w3 w4 ∧ (∀ k, F4 k → F3 k ∨ w3.heap.size ≤ k) ∧ EvoR _ T4 (0 + 3) := by
  rcases hv4 with ⟨-, h, -⟩ | ⟨-, -, h, -⟩ | ⟨h, -, -, T4, H4, ns4, ⟨nb4, F4, h1, h2, h3, h4⟩, h5⟩
  ·exact absurd (by unfold may keyOk mostE Tr0; decide) h
  ·rw [show (sortZ ((Tr0 512).given ++ [9, 7])).length = 2 by rw [sortZ_len]; rfl] at h; omega
  ·exact ⟨h, T4, H4, ns4, nb4, F4, h1, h2, h3, h4, h5⟩
 refine qa rfl (qM rfl (qm rfl (rCall rfl rfl (yc (args := [.tmp 17, .const (Value.string (⟨#[97]⟩))]) cf42 rfl) (get_ret h4 hI4 _) ?_)))
 rintro _ w5 ⟨rfl, hx5⟩
 have hz4 : sizeOk (T4.size : Int) := by rw [(show Evo _ _ _ from hev).size]; exact hz
 have hH1 := (Inv.cnts hz4 hI4).2
 have hH2 := (hI4.pos hz4).2 (by simp)
 have hH : H4 = 1 := by simp at hH1; omega
 have hc4 : T4.count = 1 := by rw [hI4.cnt]; rfl
 have h5 := h4.ext hx5
 rw [show getR [([97], [120])] [97] = ([120], 0) by rfl]
 refine qm rfl (qV (yex rfl rfl) (qV (yex rfl rfl) (qa rfl (qa rfl (qM rfl (qm rfl (qV (yeq rfl rfl) (rTrue (by (first | rfl | assumption | omega | decide)) ?_))))))))
 refine qm rfl (qm rfl (qV (yeq rfl rfl) (rTrue (by (first | rfl | assumption | omega | decide)) ?_)))
 refine qV (ypT rfl rfl) (qm rfl (qm rfl (qV (yeq rfl rfl) (rTrue (by (first | rfl | assumption | omega | decide)) ?_))))
 refine qV (ypT rfl rfl) (qm rfl (qm rfl (qV (yeq rfl rfl) (rTrue (by (first | rfl | assumption | omega | decide)) ?_))))
 refine qV (ypT rfl rfl) (qm rfl (qm rfl (qV (yeqS rfl rfl) (rTrue (by (first | rfl | assumption | omega | decide)) ?_))))
 refine qV (ypT rfl rfl) (qm rfl (qm rfl (rCall rfl rfl (yc (args := [.tmp 40]) cf14 rfl) (lenT_ret h5) ?_)))
 rintro _ w6 ⟨rfl, rfl⟩
 rw [hc4]
 refine qV (yeq rfl rfl) (rTrue (by (first | rfl | assumption | omega | decide)) ?_)
 refine qV (ypT rfl rfl) (qm rfl (qm rfl (rCall rfl rfl (yc (args := [.tmp 45]) cf20 rfl) (depth_ret h5 hI4 (by omega)) ?_)))
 rintro _ w6 ⟨rfl, rfl⟩
 rw [hH]
 refine qV (yeq rfl rfl) (rTrue (by (first | rfl | assumption | omega | decide)) ?_)
 refine qV (ypT rfl rfl) (qa rfl (rEnd (Run.qb (e := [(0, _)]) ?_)))
 refine run_ret Tryz.func16 rfl (⟨_, rfl, rfl, ?_⟩)
 have hF3' : ∀ k, F3 k → w.heap.size ≤ k := fun k hk => (hF3 k hk).elim (hF k) (fun e => by omega)
 exact (((hx1.trans hx2).trans_new hk3 (fun i hi => hF i hi)).trans_new hk4 (fun i hi => hF3' i hi)).trans hx5
theorem has_ret {lv : Value} {l : List Int} (hR : Rd w lv 1 l.length (l.map I)) (hl : l.length ≤ 17592186044416) (no : Int) : Ret Tryz.prog 33 [lv, I no] w fun v w' => v = .bool (decide (no ∈ l)) ∧ w' = w := by
 obtain ⟨a, c, rfl, -⟩ := hR.shape
 refine ret_of_run (e := [(0, _), (1, _)]) Tryz.func33 rfl Tryz.ntmps33 rfl rfl (qN rfl (qa rfl (rEnd (run_seq (qN rfl (qa rfl (rEnd (run_block (run_loop (α := Nat) (0) (fun i => [(0, .slice a l.length c), (1, I no), (5, I (i : Int))]) (fun i w' => w' = w ∧ i ≤ l.length ∧ no ∉ l.take i) (fun i => l.length - i) (by repeat (first | exact Sub.nil | refine Sub.cons rfl ?_)) ?hI ?hround)))))))))
 case hI => exact ⟨rfl, Nat.zero_le _, by simp⟩
 case hround =>
  rintro i w1 ⟨rfl, hi, hall⟩ ih
  try dsimp only
  refine run_seq (qN rfl (qm rfl (qm rfl (qV (yln U34 rfl) (qV (ylt rfl rfl) (rEnd (run_if rfl (fun hlt => ?_) (fun hlt => ?_))))))))
  ·have hi' : i < l.length := by omega
   obtain ⟨lb, lo, y, rfl, hy⟩ := rd_getI hR hi'
   refine run_skip (run_seq (run_block (qN rfl (qm rfl (qm rfl (qV (yis U34 ti3 rfl rfl (by omega)) (qV (yldc U3 rfl rfl (rd_intT hR hi' hy)) (qm rfl (qV (yeq rfl rfl) (rEnd (run_if rfl (fun he => ?_) (fun he => ?_))))))))))))
   ·refine qN rfl (qa rfl (rEnd (run_ret Tryz.func33 rfl ?_)))
    exact ⟨_, rfl, by rw [decide_eq_true (by rw [← he]; exact List.mem_of_getElem? hy)]; rfl, rfl⟩
   ·refine run_skip (run_inBlock (run_reg rfl (qm rfl (qV (yad rfl rfl (by omega)) (qa rfl (rEnd ((ih (i + 1) _ ⟨rfl, by omega, fun hh => ?_⟩ (by omega)).qb)))))))
    rcases (mem_take_succ hy).1 hh with hx | hx
    ·exact hall hx
    ·exact he hx.symm
  ·rw [List.take_of_length_le (by omega)] at hall
   refine run_exit rfl (qN rfl (qa rfl (rEnd (run_ret Tryz.func33 rfl ?_))))
   exact ⟨_, rfl, by rw [decide_eq_false hall]; rfl, rfl⟩
theorem page_ret {lv : Value} {l : Pgs} (hR : Rd w lv 2 l.length (pgC l)) (hl : l.length ≤ 17592186044416) (no : Int) : Ret Tryz.prog 32 [lv, I no] w fun v w' => v = .bool (decide (no ∈ l.map (·.1))) ∧ w' = w := by
 obtain ⟨a, c, rfl, -⟩ := hR.shape
 refine ret_of_run (e := [(0, _), (1, _)]) Tryz.func32 rfl Tryz.ntmps32 rfl rfl (qN rfl (qa rfl (rEnd (run_seq (qN rfl (qa rfl (rEnd (run_block (run_loop (α := Nat) (0) (fun i => [(0, .slice a l.length c), (1, I no), (5, I (i : Int))]) (fun i w' => w' = w ∧ i ≤ l.length ∧ no ∉ (l.take i).map (·.1)) (fun i => l.length - i) (by repeat (first | exact Sub.nil | refine Sub.cons rfl ?_)) ?hI ?hround)))))))))
 case hI => exact ⟨rfl, Nat.zero_le _, by simp⟩
 case hround =>
  rintro i w1 ⟨rfl, hi, hall⟩ ih
  try dsimp only
  refine run_seq (qN rfl (qm rfl (qm rfl (qV (yln U33 rfl) (qV (ylt rfl rfl) (rEnd (run_if rfl (fun hlt => ?_) (fun hlt => ?_))))))))
  ·have hi' : i < l.length := by omega
   obtain ⟨lb, lo, y, rfl, hy⟩ := rd_pgs hR rfl hi'
   refine run_skip (run_seq (run_block (qN rfl (qm rfl (qm rfl (qV (yis U33 ti54 rfl rfl (by omega)) (qV (yfa fl54_0 rfl) (qV (yldc U3 rfl rfl (rd_pg0 hR hi' hy)) (qm rfl (qV (yeq rfl rfl) (rEnd (run_if rfl (fun he => ?_) (fun he => ?_)))))))))))))
   ·refine qN rfl (qa rfl (rEnd (run_ret Tryz.func32 rfl ?_)))
    exact ⟨_, rfl, by rw [decide_eq_true (List.mem_map.2 ⟨y, List.mem_of_getElem? hy, he⟩)]; rfl, rfl⟩
   ·refine run_skip (run_inBlock (run_reg rfl (qm rfl (qV (yad rfl rfl (by omega)) (qa rfl (rEnd ((ih (i + 1) _ ⟨rfl, by omega, fun hh => ?_⟩ (by omega)).qb)))))))
    obtain ⟨x, hx, e⟩ := List.mem_map.1 hh
    rcases (mem_take_succ hy).1 hx with hx | rfl
    ·exact hall (List.mem_map.2 ⟨x, hx, e⟩)
    ·exact he e
  ·rw [List.take_of_length_le (by omega)] at hall
   refine run_exit rfl (qN rfl (qa rfl (rEnd (run_ret Tryz.func32 rfl ?_))))
   exact ⟨_, rfl, by rw [decide_eq_false hall]; rfl, rfl⟩
theorem pagesL_ret {lv : Value} {l : Pgs} (hR : Rd w lv 2 l.length (pgC l)) (hl : l.length ≤ 1000000) : Ret Tryz.prog 29 [lv] w fun v w' => Ext w w' ∧ Sl w' v 54 2 l.length (pgC l) ∧ ∀ g, v.ownBlock = some g → w.heap.size ≤ g := by
 obtain ⟨a, c, rfl, -⟩ := hR.shape
 have hml : maxLen = 9223372036854775807 := rfl
 refine ret_of_run (e := [(0, _)]) Tryz.func29 rfl Tryz.ntmps29 rfl rfl (qN rfl (qa rfl (qM rfl (qa rfl (rEnd (run_seq (qN rfl (qa rfl (rEnd (run_block (run_loop (α := Nat × Value) ((0, .slice none 0 0)) (fun x => [(0, .slice a l.length c), (3, x.2), (4, I (x.1 : Int))]) (fun x w' => x.1 ≤ l.length ∧ Ext w w' ∧ Sl w' x.2 54 2 (l.take x.1).length (pgC (l.take x.1)) ∧ ∀ g, x.2.ownBlock = some g → w.heap.size ≤ g) (fun x => l.length - x.1) (by repeat (first | exact Sub.nil | refine Sub.cons rfl ?_)) ?hI ?hround)))))))))))
 case hI => exact ⟨Nat.zero_le _, Ext.refl _, Sl.nil _ _ _, fun g hg => by simp [Value.ownBlock] at hg⟩
 case hround =>
  rintro ⟨j, ov⟩ w1 ⟨hj, hx1, hS1, ho1⟩ ih
  dsimp only at hj hS1 ho1
  have htl : (l.take j).length = j := by rw [List.length_take]; omega
  try dsimp only
  refine run_seq (qN rfl (qm rfl (qm rfl (qV (yln U52 rfl) (qV (ylt rfl rfl) (rEnd (run_if rfl (fun hlt => ?_) (fun hlt => ?_))))))))
  ·have hj' : j < l.length := by omega
   obtain ⟨lb, lo, y, rfl, hy⟩ := rd_pgs hR rfl hj'
   have hg : Ext w w1.drew := hx1.trans (Ext.drew0 w1)
   have hz1 := hx1.size
   refine run_skip (run_seq (run_block (run_draw (fun w' => Ext w w') (by kernel_rfl) rfl (qt 0 rfl (ymv rfl) hg (qt 1 rfl (ymv rfl) hg (qt 2 rfl (ymv rfl) hg (qt 3 rfl (yis U52 ti55 rfl rfl (by omega)) hg (qt 4 rfl (yfa fl55_0 rfl) hg (qt 6 rfl (ymv rfl) hg (qt 7 rfl (ymv rfl) hg (qt 8 rfl (yis U52 ti55 rfl rfl (by omega)) hg (qt 9 rfl (yfa fl55_1 rfl) hg (qT 5 rfl (fun _ hS => yldc U3 rfl rfl (rd_pg0 (hR.ext hS) hj' hy)) hg ?_)))))))))))))
   refine qT 10 rfl (fun _ hS => yldc U9 rfl rfl (rd_pg1 (hR.ext hS) hj' hy)) hg (qt 11 rfl (ybd (parts := [(0, .tmp 16), (1, .tmp 21)]) (cs := [_, _]) ti54 rfl sp54 rfl rfl) hg (qO 12 (nValP (i := 12) rfl rfl rfl (pbs (parts := [(0, .tmp 22)]) (cs := [_, _]) (zs := [Value.int .i64 0, Value.string ⟨#[]⟩]) U33 ti54 rfl (by kernel_rfl) rfl rfl rfl (by decide)) ?_)))
   rintro _ w2 ⟨b2, rfl, ⟨hb2, hx2, hB2⟩, hS2⟩
   refine ⟨hg.trans hx2, ?_⟩
   have hgz := (hg.trans hx2).size
   refine qO 13 (nValP (i := 13) rfl rfl rfl (pap U33 ti54 rfl (by decide) rfl rfl (hS1.ext ((Ext.drew0 w1).trans hx2)) hS2.rd (by intro c hc; simp at hc; rcases hc with rfl | rfl <;> rfl) (by omega) (by omega)) ?_)
   rintro ov2 w3 ⟨hS3, hk3, ho3, -⟩
   refine ⟨(hg.trans hx2).trans_new hk3 (fun i hi => ho1 i hi), ?_⟩
   refine qt 14 rfl (yas rfl) ((hg.trans hx2).trans_new hk3 (fun i hi => ho1 i hi)) (qE (run_inBlock (run_reg rfl (qm rfl (qV (yad rfl rfl (by omega)) (qa rfl (rEnd ((ih (j + 1, ov2) w3 ⟨by dsimp only; omega, (hg.trans hx2).trans_new hk3 (fun i hi => ho1 i hi), ?_, fun g hg' => ?_⟩ (by dsimp only; omega)).qb))))))))
   ·obtain ⟨h1, h2⟩ := List.getElem?_eq_some_iff.1 hy
    dsimp only
    rw [List.take_succ_eq_append_getElem h1, h2, pgC_app, List.length_append]
    exact hS3
   ·rcases ho3 g hg' with e | e
    ·exact ho1 g e
    ·omega
  ·have hjE : j = l.length := by omega
   subst hjE
   rw [List.take_length] at hS1
   refine run_exit rfl (qN rfl (qm rfl (qa rfl (rEnd (run_ret Tryz.func29 rfl ?_)))))
   exact ⟨_, rfl, hx1, hS1, ho1⟩
end
theorem LoadOk.det {z : Nat} {root : Int} {l : Pgs} {H H' : Nat} {ns ns' : List Int} {es es' : Es} (hz : sizeOk (z : Int)) (h : LoadOk z root l H ns es) (h' : LoadOk z root l H' ns' es') : H = H' ∧ ns = ns' ∧ es = es' := by
 rcases h with ⟨h1, rfl, rfl, rfl, rfl⟩ | ⟨h0, s, hl⟩
 ·rcases h' with ⟨-, -, rfl, rfl, rfl⟩ | ⟨h0, -⟩
  ·exact ⟨rfl, rfl, rfl⟩
  ·exact absurd h1 h0
 ·rcases h' with ⟨h1, -⟩ | ⟨-, s', -⟩
  ·exact absurd h1 h0
  ·exact bn_det hz s.bn s'.bn
section
variable {w : World}
end
def Kids32 (N : Nodes) : Prop := ∀ x n, N x = some n → ∀ c ∈ n.kids, c < 4294967296
theorem TreeA.kids32 {w : World} {p : Nat} {T : Tr} {nb : Int → Nat} {F : Nat → Prop} (h : TreeA w p T nb F) : Kids32 T.nodes := fun x n hn => by
 obtain ⟨q, -, hM, -⟩ := h.node hn
 exact hM.bd.cs
theorem nodup_rev {α : Type} {l : List α} (h : l.Nodup) : l.reverse.Nodup := by
 unfold List.Nodup at h ⊢
 rw [List.pairwise_reverse]
 exact h.imp fun h => h.symm
structure OwnP (T : Tr) (ns : List Int) (l : Pgs) : Prop where
 nd : (l.map (·.1)).Nodup
 mem : ∀ x, x ∈ l.map (·.1) ↔ x ∈ ns
 txt : ∀ y ∈ l, y.2 = encAt T.size T.nodes y.1
 len : l.length = ns.length
theorem ownP_pgs {T : Tr} {ns : List Int} (hn : ns.Nodup) : OwnP T ns (pgs T.size T.nodes ns fun _ => true) :=
 ⟨(pgs_rise hn).nodup1, fun x => by rw [pgs_fst, List.mem_filter, sortZ_mem]; simp, fun y hy => (pgs_mem.1 hy).2.2, pgs_all_len⟩
theorem OwnP.rev {T : Tr} {ns : List Int} {l : Pgs} (h : OwnP T ns l) : OwnP T ns l.reverse :=
 ⟨by rw [List.map_reverse]; exact nodup_rev h.nd, fun x => by rw [List.map_reverse, List.mem_reverse]; exact h.mem x, fun y hy => h.txt y (List.mem_reverse.1 hy), by rw [List.length_reverse]; exact h.len⟩
section
variable {T : Tr} {H : Nat} {ns : List Int} {es : Es} {l : Pgs}
theorem OwnP.nodes (h : OwnP T ns l) (hI : Inv T H ns es) (hz : sizeOk (T.size : Int)) (hk : Kids32 T.nodes) : nodesOf T.size l = T.nodes := by
 funext x
 by_cases hx : x ∈ l.map (·.1)
 ·obtain ⟨y, hy, rfl⟩ := List.mem_map.1 hx
  rw [nodesOf_mem h.nd hy]
  obtain ⟨n, hn⟩ := Option.ne_none_iff_exists'.1 ((hI.mem y.1).2 ((h.mem y.1).1 hx))
  have hok := hI.ok hz hn
  rw [hn]
  unfold ndOf
  rw [h.txt y hy]
  unfold encAt
  rw [hn]
  dsimp only
  rw [if_pos (enc_length hok)]
  exact dec_enc hz ⟨hok, hk _ n hn⟩
 ·rw [nodesOf_none hx]
  cases e : T.nodes x with
  | none => rfl
  | some n => exact absurd ((h.mem x).2 ((hI.mem x).1 (by rw [e]; simp))) hx
theorem OwnP.ok (h : OwnP T ns l) (hI : Inv T H ns es) (hz : sizeOk (T.size : Int)) (hk : Kids32 T.nodes) : LoadOk T.size T.root l H ns es := by
 have hN := h.nodes hI hz hk
 rcases hI.std with ⟨h0, h1, h2, h3⟩ | ⟨h0, h1, hB, hnd, hr⟩
 ·refine .inl ⟨h0, ?_, h1, h2, h3⟩
  exact List.eq_nil_of_length_eq_zero (by rw [h.len, h2]; rfl)
 ·refine .inr ⟨h0, ⟨by rw [hN]; exact hB, hnd, by simp, fun n hn => ?_⟩, h.len.symm⟩
  rw [hN] at hn
  simpa using hr n hn
theorem OwnP.nums (h : OwnP T ns l) (hI : Inv T H ns es) (hz : sizeOk (T.size : Int)) : numsOk (T.size : Int) T.root l := by
 refine ⟨hz, ?_, h.nd, fun x hx => hI.num x.1 ((hI.mem x.1).2 ((h.mem x.1).1 (List.mem_map.2 ⟨x, hx, rfl⟩)))⟩
 rcases hI.std with ⟨h0, -⟩ | ⟨h0, -, hB, -, -⟩
 ·omega
 ·have := hI.num T.root ((hI.mem T.root).2 hB.mem)
  omega
theorem OwnP.short (h : OwnP T ns l) (hI : Inv T H ns es) (hz : sizeOk (T.size : Int)) : ∀ y ∈ l, y.2.length ≤ 140737488355328 := fun y hy => by
 rw [h.txt y hy]
 unfold encAt
 cases e : T.nodes y.1 with
 | none => simp
 | some n =>
   dsimp only
   rw [enc_length (hI.ok hz e)]
   have := hz.2.1
   omega
theorem Inv.rise (hI : Inv T H ns es) (hz : sizeOk (T.size : Int)) : Rise (es.map (·.1)) := by
 rcases hI.std with ⟨-, -, -, rfl⟩ | ⟨h0, h1, hB, hnd, hr⟩
 ·exact List.Pairwise.nil
 ·exact hB.keys.2
end
structure Sx where
 T : Tr
 H : Nat
 ns : List Int
 es : Es
 O : Nodes
 os : List Int
 gs : List Int
 nx : Nat
structure Gh (X : Sx) (k : Nat) : Prop where
 inv : Inv X.T X.H X.ns X.es
 ond : X.os.Nodup
 om : ∀ x, X.O x ≠ none ↔ x ∈ X.os
 old : ∀ x, X.T.old x = true ↔ X.O x ≠ none
 same : ∀ x, X.T.changed x = false → X.T.nodes x ≠ none → X.T.nodes x = X.O x
 src : ∀ x, (X.T.nodes x ≠ none ∨ x ∈ X.T.given) → x ∈ X.os ∨ x ∈ X.gs
 el : X.es.length ≤ k
 ol : X.os.length ≤ 2 * k
 nl : X.nx ≤ 2000 * k
 gl : X.gs.length ≤ 4294967296 * k
theorem Gh.mono {X : Sx} {k k' : Nat} (h : Gh X k) (hk : k ≤ k') : Gh X k' :=
 ⟨h.inv, h.ond, h.om, h.old, h.same, h.src, Nat.le_trans h.el hk, Nat.le_trans h.ol (Nat.mul_le_mul_left _ hk), Nat.le_trans h.nl (Nat.mul_le_mul_left _ hk), Nat.le_trans h.gl (Nat.mul_le_mul_left _ hk)⟩
theorem gh0 (z : Nat) : Gh ⟨Tr0 z, 0, [], [], fun _ => none, [], [], 0⟩ 0 :=
 ⟨inv0 z, List.nodup_nil, fun x => by simp, fun x => by simp [Tr0], fun x _ h => absurd rfl h, fun x h => by simp [Tr0] at h, Nat.le_refl _, Nat.le_refl _, Nat.le_refl _, Nat.le_refl _⟩
theorem Gh.evo {X : Sx} {k g : Nat} (h : Gh X k) {T' : Tr} {H' : Nat} {ns' : List Int} {es' : Es} (e : EvoR X.T T' g) (hI : Inv T' H' ns' es') {k' : Nat} (hk : k ≤ k') (hl : es'.length ≤ k') : Gh { X with T := T', H := H', ns := ns', es := es' } k' := by
 have e' : Evo _ _ _ := e
 have hm := h.mono hk
 refine ⟨hI, h.ond, h.om, fun x => by rw [show T'.old = X.T.old from e'.old]; exact h.old x, fun x hc hn => ?_, fun x hx => ?_, hl, hm.ol, hm.nl, hm.gl⟩
 ·rcases e'.chg x hc with h1 | ⟨h1, h2⟩
  ·exact absurd h1 hn
  ·have h1' : T'.nodes x = X.T.nodes x := h1
   dsimp only at hn ⊢
   rw [h1'] at hn ⊢
   exact h.same x h2 hn
 ·rcases hx with hx | hx
  ·exact h.src x (e'.nod x hx)
  ·rcases e'.giv x hx with h1 | h1
   ·exact h.src x (.inr h1)
   ·exact h.src x (.inl h1.1)
theorem Gh.give {X : Sx} {k : Nat} (h : Gh X k) {l : List Int} (hl : giveOk X.T l) : Gh { X with T := { X.T with given := sortZ (X.T.given ++ l) }, gs := X.gs ++ l } (k + 1) := by
 have hm := h.mono (Nat.le_succ k)
 refine ⟨h.inv.give hl, h.ond, h.om, h.old, h.same, fun x hx => ?_, hm.el, hm.ol, hm.nl, ?_⟩
 ·rcases hx with hx | hx
  ·rcases h.src x (.inl hx) with h1 | h1
   ·exact .inl h1
   ·exact .inr (List.mem_append_left _ h1)
  ·rcases List.mem_append.1 (sortZ_mem.1 hx) with hx | hx
   ·rcases h.src x (.inr hx) with h1 | h1
    ·exact .inl h1
    ·exact .inr (List.mem_append_left _ h1)
   ·exact .inr (List.mem_append_right _ hx)
 ·have h1 := nodup_le hl.1 (fun x hx => (hl.2 x hx).1)
  have h2 := h.gl
  dsimp only
  rw [List.length_append, Nat.mul_succ]
  omega
def Sx.clean (X : Sx) : Sx := { X with T := { X.T with changed := fun _ => false, old := fun x => (X.T.nodes x).isSome }, O := X.T.nodes, os := X.ns, gs := X.T.given }
theorem Gh.clean {X : Sx} {k : Nat} (h : Gh X k) (hz : sizeOk (X.T.size : Int)) (h0 : 1 ≤ k) : Gh X.clean k := by
 have hI := h.inv
 have hc := Inv.cnts hz hI
 have hel := h.el
 refine ⟨⟨hI.std, hI.all, hI.cnt, hI.num, hI.gnum, ⟨hI.giv.rise, fun x hx => ⟨(hI.giv.free x hx).1, ?_⟩⟩, fun x hx _ => ?_⟩, hI.nodup, hI.mem, fun x => ?_, fun x _ _ => rfl, fun x hx => ?_, h.el, ?_, h.nl, ?_⟩
 ·show (X.T.nodes x).isSome = false
  rw [(hI.giv.free x hx).1]; rfl
 ·show (X.T.nodes x).isSome = true
  exact Option.isSome_iff_ne_none.2 hx
 ·show (X.T.nodes x).isSome = true ↔ _
  exact Option.isSome_iff_ne_none
 ·rcases hx with hx | hx
  ·exact .inl ((hI.mem x).1 hx)
  ·exact .inr hx
 ·show X.ns.length ≤ _
  omega
 ·show X.T.given.length ≤ _
  have := hI.gl
  have : 4294967296 * 1 ≤ 4294967296 * k := Nat.mul_le_mul_left _ h0
  omega
noncomputable def Sx.load (X : Sx) (l : Pgs) : Sx := { X with T := TrL X.T.size X.T.root l X.es.length, O := X.T.nodes, os := X.ns, gs := [] }
theorem Gh.load {X : Sx} {k : Nat} (h : Gh X k) (hz : sizeOk (X.T.size : Int)) {l : Pgs} (hl : OwnP X.T X.ns l) (hk : Kids32 X.T.nodes) : Gh (X.load l) k := by
 have hI := h.inv
 have hc := Inv.cnts hz hI
 have hel := h.el
 have hN := hl.nodes hI hz hk
 have hN' : ∀ x, (TrL X.T.size X.T.root l X.es.length).nodes x = X.T.nodes x := fun x => congrFun hN x
 refine ⟨(hl.ok hI hz hk).inv (hl.nums hI hz), hI.nodup, hI.mem, fun x => ?_, fun x _ _ => hN' x, fun x hx => ?_, h.el, ?_, h.nl, Nat.zero_le _⟩
 ·show decide (x ∈ l.map (·.1)) = true ↔ X.T.nodes x ≠ none
  rw [decide_eq_true_iff, hl.mem x, hI.mem x]
 ·rcases hx with hx | hx
  ·refine .inl ((hI.mem x).1 ?_)
   rw [← hN' x]; exact hx
  ·cases hx
 ·show X.ns.length ≤ _
  omega
structure StM (w : World) (q : Nat) (X : Sx) (p m : Nat) (mv sv gv : Value) (nb : Int → Nat) (F : Nat → Prop) : Prop where
 blk : Blk w q [I (X.T.size : Int), ptr p 0, ptr m 0, sv, gv, I (X.nx : Int)] 36
 tree : TreeA w p X.T nb F
 map : MpM w m mv X.es
 sto : Sl w sv 54 2 (pgs X.T.size X.O X.os fun _ => true).length (pgC (pgs X.T.size X.O X.os fun _ => true))
 giv : Sl w gv 3 1 X.gs.length (X.gs.map I)
 qm : q ≠ m
 fq : ¬ F q
 fm : ¬ F m
 ov : ∀ g, mv.ownBlock = some g ∨ sv.ownBlock = some g ∨ gv.ownBlock = some g → g ≠ q ∧ g ≠ m ∧ ¬ F g
 og : ∀ g, gv.ownBlock = some g → mv.ownBlock ≠ some g ∧ sv.ownBlock ≠ some g
def fpS (q m : Nat) (mv sv gv : Value) (F : Nat → Prop) (k : Nat) : Prop := k = q ∨ k = m ∨ mv.ownBlock = some k ∨ sv.ownBlock = some k ∨ gv.ownBlock = some k ∨ F k
section
variable {w w' : World} {q : Nat} {X : Sx} {p m : Nat} {mv sv gv : Value} {nb : Int → Nat} {F : Nat → Prop}
theorem StM.ext (h : StM w q X p m mv sv gv nb F) (k : Ext w w') : StM w' q X p m mv sv gv nb F :=
 ⟨k.blk h.blk, h.tree.ext k, h.map.ext k, h.sto.ext k, h.giv.ext k, h.qm, h.fq, h.fm, h.ov, h.og⟩
theorem StM.lt (h : StM w q X p m mv sv gv nb F) {k : Nat} (hk : fpS q m mv sv gv F k) : k < w.heap.size := by
 rcases hk with rfl | rfl | hk | hk | hk | hk
 ·exact h.blk.lt
 ·exact h.map.blk.lt
 ·exact h.map.sl.lt hk
 ·exact h.sto.lt hk
 ·exact h.giv.lt hk
 ·exact h.tree.lt k hk
end
section
variable {w w' w1 w2 : World} {q : Nat} {X : Sx} {p m : Nat} {mv sv gv : Value} {nb : Int → Nat} {F : Nat → Prop}
theorem StM.treed (h : StM w q X p m mv sv gv nb F) {T' : Tr} {nb' : Int → Nat} {F' : Nat → Prop} (hT : TreeA w' p T' nb' F') (hs : T'.size = X.T.size) (hk : Kp F w w') (hF : ∀ k, F' k → F k ∨ w.heap.size ≤ k) :
  StM w' q { X with T := T' } p m mv sv gv nb' F' ∧ Kp (fpS q m mv sv gv F) w w' ∧ ∀ k, fpS q m mv sv gv F' k → fpS q m mv sv gv F k ∨ w.heap.size ≤ k := by
 have hq := h.blk.lt
 have hm := h.map.blk.lt
 refine ⟨⟨?_, hT, h.map.kp hk h.fm (fun g hg => (h.ov g (.inl hg)).2.2), ?_, h.giv.kp hk (fun g hg => (h.ov g (.inr (.inr hg))).2.2), h.qm, fun e => (hF q e).elim h.fq (fun e => by omega), fun e => (hF m e).elim h.fm (fun e => by omega), fun g hg => ⟨(h.ov g hg).1, (h.ov g hg).2.1, fun e => (hF g e).elim (h.ov g hg).2.2 (fun e => ?_)⟩, h.og⟩, hk.mono' (fun k hk => .inr (.inr (.inr (.inr (.inr hk))))), fun k hk => ?_⟩
 ·have := hk.blk h.blk h.fq
  rw [← hs] at this
  exact this
 ·dsimp only
  rw [hs]
  exact h.sto.kp hk (fun g hg => (h.ov g (.inr (.inl hg))).2.2)
 ·have := h.lt (k := g) (by rcases hg with hg | hg | hg; exact .inr (.inr (.inl hg)); exact .inr (.inr (.inr (.inl hg))); exact .inr (.inr (.inr (.inr (.inl hg)))))
  omega
 ·rcases hk with hk | hk | hk | hk | hk | hk
  ·exact .inl (.inl hk)
  ·exact .inl (.inr (.inl hk))
  ·exact .inl (.inr (.inr (.inl hk)))
  ·exact .inl (.inr (.inr (.inr (.inl hk))))
  ·exact .inl (.inr (.inr (.inr (.inr (.inl hk)))))
  ·exact (hF k hk).imp (fun e => .inr (.inr (.inr (.inr (.inr e))))) id
theorem StM.next (h : StM w q X p m mv sv gv nb F) {n : Nat} (hB : Blk w' q [I (X.T.size : Int), ptr p 0, ptr m 0, sv, gv, I (n : Int)] 36) (hk : Kp (fun k => k = q) w w') : StM w' q { X with nx := n } p m mv sv gv nb F :=
 ⟨hB, h.tree.kp hk (fun g hg e => h.fq (e ▸ hg)), h.map.kp hk (fun e => h.qm e.symm) (fun g hg e => (h.ov g (.inl hg)).1 e), h.sto.kp hk (fun g hg e => (h.ov g (.inr (.inl hg))).1 e), h.giv.kp hk (fun g hg e => (h.ov g (.inr (.inr hg))).1 e), h.qm, h.fq, h.fm, h.ov, h.og⟩
theorem StM.gave (h : StM w q X p m mv sv gv nb F) {gs' : List Int} {gv' : Value} (hS : Sl w1 gv' 3 1 gs'.length (gs'.map I)) (hk1 : Kp (fun k => gv.ownBlock = some k) w w1) (ho : ∀ g, gv'.ownBlock = some g → gv.ownBlock = some g ∨ w.heap.size ≤ g)
  (hB : Blk w2 q [I (X.T.size : Int), ptr p 0, ptr m 0, sv, gv', I (X.nx : Int)] 36) (hk2 : Kp (fun k => k = q) w1 w2) :
  StM w2 q { X with gs := gs' } p m mv sv gv' nb F ∧ Kp (fpS q m mv sv gv F) w w2 ∧ ∀ k, fpS q m mv sv gv' F k → fpS q m mv sv gv F k ∨ w.heap.size ≤ k := by
 have hkk : Kp (fun k => k = q ∨ gv.ownBlock = some k) w w2 := (hk1.mono' (fun k e => .inr e)).trans (hk2.mono' (fun k e => .inl e))
 have hov' : ∀ g, gv'.ownBlock = some g → g ≠ q ∧ g ≠ m ∧ ¬ F g ∧ mv.ownBlock ≠ some g ∧ sv.ownBlock ≠ some g := fun g hg => by
  rcases ho g hg with e | e
  ·have h1 := h.ov g (.inr (.inr e))
   have h2 := h.og g e
   exact ⟨h1.1, h1.2.1, h1.2.2, h2.1, h2.2⟩
  ·have h1 := h.blk.lt
   have h2 := h.map.blk.lt
   exact ⟨by omega, by omega, fun e' => by have := h.tree.lt g e'; omega, fun e' => by have := h.map.sl.lt e'; omega, fun e' => by have := h.sto.lt e'; omega⟩
 refine ⟨⟨hB, h.tree.kp hkk (fun g hg e => e.elim (fun e => h.fq (e ▸ hg)) (fun e => (h.ov g (.inr (.inr e))).2.2 hg)), h.map.kp hkk (fun e => e.elim (fun e => h.qm e.symm) (fun e => (h.ov m (.inr (.inr e))).2.1 rfl)) (fun g hg e => e.elim (fun e => (h.ov g (.inl hg)).1 e) (fun e => (h.og g e).1 hg)), h.sto.kp hkk (fun g hg e => e.elim (fun e => (h.ov g (.inr (.inl hg))).1 e) (fun e => (h.og g e).2 hg)), hS.kp hk2 (fun g hg e => (hov' g hg).1 e), h.qm, h.fq, h.fm, fun g hg => ?_, fun g hg => (hov' g hg).2.2.2⟩, hkk.mono' (fun k e => e.elim .inl (fun e => .inr (.inr (.inr (.inr (.inl e)))))), fun k hk => ?_⟩
 ·rcases hg with hg | hg | hg
  ·exact h.ov g (.inl hg)
  ·exact h.ov g (.inr (.inl hg))
  ·have := hov' g hg; exact ⟨this.1, this.2.1, this.2.2.1⟩
 ·rcases hk with hk | hk | hk | hk | hk | hk
  ·exact .inl (.inl hk)
  ·exact .inl (.inr (.inl hk))
  ·exact .inl (.inr (.inr (.inl hk)))
  ·exact .inl (.inr (.inr (.inr (.inl hk))))
  ·exact (ho k hk).imp (fun e => .inr (.inr (.inr (.inr (.inl e))))) id
  ·exact .inl (.inr (.inr (.inr (.inr (.inr hk)))))
theorem StM.mapped (h : StM w q X p m mv sv gv nb F) {es' : Es} (hM : MpS m w w' es') :
  ∃ mv', StM w' q { X with es := es' } p m mv' sv gv nb F ∧ Kp (fpS q m mv sv gv F) w w' ∧ ∀ k, fpS q m mv' sv gv F k → fpS q m mv sv gv F k ∨ w.heap.size ≤ k := by
 obtain ⟨mv', hM, hk, ho⟩ := hM
 have hq := h.blk.lt
 have hm := h.map.blk.lt
 refine ⟨mv', ⟨hk.blk h.blk h.qm, h.tree.kp hk (fun g hg e => h.fm (e ▸ hg)), hM, h.sto.kp hk (fun g hg e => (h.ov g (.inr (.inl hg))).2.1 e), h.giv.kp hk (fun g hg e => (h.ov g (.inr (.inr hg))).2.1 e), h.qm, h.fq, h.fm, fun g hg => ?_, fun g hg => ⟨fun e => ?_, (h.og g hg).2⟩⟩, hk.mono' (fun k e => .inr (.inl e)), fun k hk' => ?_⟩
 ·rcases hg with hg | hg | hg
  ·have := ho g hg
   exact ⟨by omega, by omega, fun e => by have := h.tree.lt g e; omega⟩
  ·exact h.ov g (.inr (.inl hg))
  ·exact h.ov g (.inr (.inr hg))
 ·have := ho g e
  have := h.giv.lt hg
  omega
 ·rcases hk' with hk' | hk' | hk' | hk' | hk' | hk'
  ·exact .inl (.inl hk')
  ·exact .inl (.inr (.inl hk'))
  ·exact .inr (ho k hk')
  ·exact .inl (.inr (.inr (.inr (.inl hk'))))
  ·exact .inl (.inr (.inr (.inr (.inr (.inl hk')))))
  ·exact .inl (.inr (.inr (.inr (.inr (.inr hk')))))
end
theorem StM.hn {w : World} {q : Nat} {X : Sx} {p m : Nat} {mv sv gv : Value} {nb : Int → Nat} {F : Nat → Prop} (h : StM w q X p m mv sv gv nb F) (a : Nat) (b : List Int) : StM w q { X with H := a, ns := b } p m mv sv gv nb F :=
 ⟨h.blk, h.tree, h.map, h.sto, h.giv, h.qm, h.fq, h.fm, h.ov, h.og⟩
def StF (w : World) (q m : Nat) (X : Sx) (fp : Nat → Prop) : Prop := ∃ p mv sv gv nb F, StM w q X p m mv sv gv nb F ∧ ∀ k, fp k ↔ fpS q m mv sv gv F k
def StR (q m : Nat) (fp : Nat → Prop) (w w' : World) (X' : Sx) : Prop := ∃ fp', StF w' q m X' fp' ∧ Kp fp w w' ∧ ∀ k, fp' k → fp k ∨ w.heap.size ≤ k
section
variable {w w' w1 w2 : World} {q m : Nat} {X X1 X2 : Sx} {fp : Nat → Prop}
theorem StF.lt (h : StF w q m X fp) {k : Nat} (hk : fp k) : k < w.heap.size := by
 obtain ⟨p, mv, sv, gv, nb, F, hM, hf⟩ := h
 exact hM.lt ((hf k).1 hk)
theorem StF.ext (h : StF w q m X fp) (k : Ext w w') : StF w' q m X fp := by
 obtain ⟨p, mv, sv, gv, nb, F, hM, hf⟩ := h
 exact ⟨p, mv, sv, gv, nb, F, hM.ext k, hf⟩
theorem StR.refl (h : StF w q m X fp) (k : Ext w w') : StR q m fp w w' X := ⟨fp, h.ext k, k.kp, fun _ h => .inl h⟩
theorem StR.trans (h1 : StR q m fp w w1 X1) (h2 : ∀ fp', StF w1 q m X1 fp' → StR q m fp' w1 w2 X2) : StR q m fp w w2 X2 := by
 obtain ⟨f1, s1, k1, n1⟩ := h1
 obtain ⟨f2, s2, k2, n2⟩ := h2 f1 s1
 refine ⟨f2, s2, k1.trans_new k2 (fun i hi => (n1 i hi).symm), fun k hk => ?_⟩
 rcases n2 k hk with h | h
 ·exact n1 k h
 ·have := k1.size; exact .inr (by omega)
end
structure NeedI (X X' : Sx) (i : Nat) : Prop where
 eH : X'.H = X.H
 en : X'.ns = X.ns
 ee : X'.es = X.es
 eO : X'.O = X.O
 eo : X'.os = X.os
 ex : X'.nx = X.nx + i
 eT : X'.T = { X.T with given := X'.T.given }
 inv : Inv X'.T X.H X.ns X.es
 src : ∀ x ∈ X'.T.given, x ∈ X.os ∨ x ∈ X'.gs
 gsub : ∀ x ∈ X.gs, x ∈ X'.gs
 gl : X'.gs.length ≤ X.gs.length + i
 tried : ∃ D : List Int, D.Nodup ∧ (∀ x ∈ D, x ∈ X.ns ∨ x ∈ X.os ∨ x ∈ X.T.given) ∧ (∀ x ∈ D, x ≤ (X.nx : Int) + i) ∧ X'.T.given.length + D.length = X.T.given.length + i
 new : ∀ x ∈ X'.T.given, x ∈ X.T.given ∨ x ≤ (X.nx : Int) + i
section
variable {X X' : Sx} {k i : Nat}
theorem NeedI.zero (hG : Gh X k) : NeedI X X 0 :=
 ⟨rfl, rfl, rfl, rfl, rfl, rfl, rfl, hG.inv, fun x hx => hG.src x (.inr hx), fun x hx => hx, Nat.le_refl _, ⟨[], List.nodup_nil, by simp, by simp, rfl⟩, fun x hx => .inl hx⟩
theorem NeedI.yes (h : NeedI X X' i) (hok : giveOk X'.T [((X'.nx + 1 : Nat) : Int)]) : NeedI X { X' with T := { X'.T with given := sortZ (X'.T.given ++ [((X'.nx + 1 : Nat) : Int)]) }, gs := X'.gs ++ [((X'.nx + 1 : Nat) : Int)], nx := X'.nx + 1 } (i + 1) := by
 obtain ⟨D, d1, d2, d3, d4⟩ := h.tried
 have hx := h.ex
 refine ⟨h.eH, h.en, h.ee, h.eO, h.eo, by dsimp only; omega, by rw [h.eT], h.inv.give hok, fun x hx' => ?_, fun x hx' => List.mem_append_left _ (h.gsub x hx'), by dsimp only; rw [List.length_append]; have := h.gl; simp; omega, ⟨D, d1, d2, fun x hx' => by have := d3 x hx'; omega, by dsimp only; rw [sortZ_len, List.length_append]; simp; omega⟩, fun x hx' => ?_⟩
 ·rcases List.mem_append.1 (sortZ_mem.1 hx') with h1 | h1
  ·exact (h.src x h1).imp id (fun e => List.mem_append_left _ e)
  ·exact .inr (List.mem_append_right _ h1)
 ·rcases List.mem_append.1 (sortZ_mem.1 hx') with h1 | h1
  ·exact (h.new x h1).imp id (fun e => by omega)
  ·simp at h1
   exact .inr (by omega)
theorem NeedI.no (h : NeedI X X' i) (hG : Gh X k) (hk : k ≤ 1000) (hi : i ≤ 2000) (hno : ¬ giveOk X'.T [((X'.nx + 1 : Nat) : Int)]) : NeedI X { X' with nx := X'.nx + 1 } (i + 1) := by
 obtain ⟨D, d1, d2, d3, d4⟩ := h.tried
 have hx := h.ex
 have hnl := hG.nl
 refine ⟨h.eH, h.en, h.ee, h.eO, h.eo, by dsimp only; omega, h.eT, h.inv, h.src, h.gsub, by dsimp only; have := h.gl; omega, ⟨((X'.nx + 1 : Nat) : Int) :: D, List.nodup_cons.2 ⟨fun e => by have := d3 _ e; omega, d1⟩, fun x hx' => ?_, fun x hx' => ?_, by simp; omega⟩, fun x hx' => (h.new x hx').imp id (fun e => by omega)⟩
 ·rcases List.mem_cons.1 hx' with rfl | hx'
  ·by_cases hn : X.T.nodes ((X'.nx + 1 : Nat) : Int) = none
   ·by_cases ho : X.T.old ((X'.nx + 1 : Nat) : Int) = true
    ·exact .inr (.inl ((hG.om _).1 ((hG.old _).1 ho)))
    ·by_cases hg : ((X'.nx + 1 : Nat) : Int) ∈ X'.T.given
     ·rcases h.new _ hg with e | e
      ·exact .inr (.inr e)
      ·omega
     ·exfalso
      refine hno ⟨by simp, fun x hx => ?_⟩
      simp only [List.mem_singleton] at hx
      subst hx
      refine ⟨by omega, by rw [h.eT]; exact hn, by rw [h.eT]; simpa using ho, hg⟩
   ·exact .inl ((hG.inv.mem _).1 hn)
  ·exact d2 x hx'
 ·rcases List.mem_cons.1 hx' with rfl | hx'
  ·omega
  ·have := d3 x hx'; omega
theorem NeedI.fin (h : NeedI X X' 2000) (hG : Gh X k) (hz : sizeOk (X.T.size : Int)) (hk : k ≤ 350) : X.H + 1 ≤ X'.T.given.length := by
 obtain ⟨D, d1, d2, d3, d4⟩ := h.tried
 have hc := Inv.cnts hz hG.inv
 have h1 := List.Nodup.length_le_of_subset d1 (l₂ := X.ns ++ (X.os ++ X.T.given)) (fun x hx => by
  rcases d2 x hx with e | e | e
  ·exact List.mem_append_left _ e
  ·exact List.mem_append_right _ (List.mem_append_left _ e)
  ·exact List.mem_append_right _ (List.mem_append_right _ e))
 simp only [List.length_append] at h1
 have := hG.el
 have := hG.ol
 omega
theorem NeedI.gh (h : NeedI X X' i) (hG : Gh X k) (hi : i ≤ 2000) : Gh X' (k + 1) := by
 have hm := hG.mono (Nat.le_succ k)
 have hT := h.eT
 have e1 : X'.T.nodes = X.T.nodes := by rw [hT]
 have e2 : X'.T.old = X.T.old := by rw [hT]
 have e3 : X'.T.changed = X.T.changed := by rw [hT]
 refine ⟨by rw [h.eH, h.en, h.ee]; exact h.inv, by rw [h.eo]; exact hG.ond, by rw [h.eO, h.eo]; exact hG.om, by rw [h.eO, e2]; exact hG.old, by rw [h.eO, e1, e3]; exact hG.same, fun x hx => ?_, by rw [h.ee]; exact hm.el, by rw [h.eo]; exact hm.ol, ?_, ?_⟩
 ·rw [h.eo]
  rw [e1] at hx
  rcases hx with hx | hx
  ·exact (hG.src x (.inl hx)).imp id (h.gsub x)
  ·exact h.src x hx
 ·have := h.ex
  have := hG.nl
  rw [Nat.mul_succ]; omega
 ·have := h.gl
  have := hG.gl
  rw [Nat.mul_succ]; omega
end
section
variable {w : World} {q : Nat} {X : Sx} {p m : Nat} {mv sv gv : Value} {nb : Int → Nat} {F : Nat → Prop} {k : Nat}
set_option maxHeartbeats 4000000 in
theorem needS_ret (hM : StM w q X p m mv sv gv nb F) (hG : Gh X k) (hz : sizeOk (X.T.size : Int)) (hk : k ≤ 350) :
  Ret Tryz.prog 37 [ptr q 0] w fun v w' => v = .bool true ∧ ∃ X' gv' F' i, StM w' q X' p m mv sv gv' nb F' ∧ NeedI X X' i ∧ i ≤ 2000 ∧ X.H + 1 ≤ X'.T.given.length ∧ Kp (fpS q m mv sv gv F) w w' ∧ ∀ k, fpS q m mv sv gv' F' k → fpS q m mv sv gv F k ∨ w.heap.size ≤ k := by
 have hcn := Inv.cnts hz hG.inv
 have hel := hG.el
 have hml : maxLen = 9223372036854775807 := rfl
 refine ret_of_run (e := [(0, _)]) Tryz.func37 rfl Tryz.ntmps37 rfl rfl (qN rfl (qa rfl (rEnd (run_seq (qN rfl (qa rfl (rEnd (run_block (run_cut2 (fun e' w' => e' = [(0, ptr q 0)] ∧ ∃ X' gv' F' i, StM w' q X' p m mv sv gv' nb F' ∧ NeedI X X' i ∧ i ≤ 2000 ∧ X.H + 1 ≤ X'.T.given.length ∧ Kp (fpS q m mv sv gv F) w w' ∧ ∀ k, fpS q m mv sv gv' F' k → fpS q m mv sv gv F k ∨ w.heap.size ≤ k) ?hkz (fun hkz => ?hmainz))))))))))
 case hkz =>
  rintro e' w1 ⟨rfl, X', gv', F', i, hM1, hN, hi, hge, hk1, hf1⟩
  have hB1 := hM1.blk
  have hg : Ext w1 w1.drew := Ext.drew0 w1
  have hI1 := hN.inv
  have hgl := hI1.gl
  refine run_seq (run_draw (fun w' => Ext w1 w') (by kernel_rfl) rfl (qt 0 rfl (ymv rfl) hg (qt 1 rfl (ynk rfl) hg (qt 2 rfl (yfa fl36_1 rfl) hg (qT 3 rfl (fun _ hS => yld U24 rfl rfl (hS.blk hB1) rfl) hg (qt 6 rfl (ymv rfl) hg (qt 7 rfl (ynk rfl) hg (qt 8 rfl (yfa fl36_1 rfl) hg (qT 9 rfl (fun _ hS => yld U24 rfl rfl (hS.blk hB1) rfl) hg (qO 4 (nCall (i := 4) rfl rfl rfl (yc (args := [.tmp 56]) cf27 rfl) (given_ret (hM1.tree.ext hg) (by omega)) ?_)))))))))))
  rintro v2 w2 ⟨hS2, hx2, -⟩
  refine ⟨hg.trans hx2, ?_⟩
  obtain ⟨ga, gc, rfl, -⟩ := hS2.rd.shape
  refine qt 5 rfl (yln U34 rfl) (hg.trans hx2) (qO 10 (nCall (i := 10) rfl rfl rfl (yc (args := [.tmp 62]) cf25 rfl) (need_ret ((hM1.tree.ext hg).ext hx2) hI1 (by omega)) ?_))
  rintro _ w3 ⟨rfl, hw3⟩
  refine ⟨(by rw [hw3]; exact hg.trans hx2), ?_⟩
  have hx3 : Ext w1 w3 := by rw [hw3]; exact hg.trans hx2
  refine qt 11 rfl (yge rfl rfl) ((by rw [hw3]; exact hg.trans hx2)) ?_
  refine qt 12 rfl (yas rfl) ((by rw [hw3]; exact hg.trans hx2)) ?_
  refine qE (run_ret Tryz.func37 rfl (⟨_, rfl, ?_, X', gv', F', i, hM1.ext hx3, hN, hi, hge, hk1.trans hx3.kp, hf1⟩))
  rw [decide_eq_true (by omega)]; rfl
 case hmainz =>
  refine run_loop (α := Nat × Sx × Value × (Nat → Prop)) ((0, X, gv, F)) (fun x => [(0, ptr q 0), (3, I (x.1 : Int))]) (fun x w' => x.1 ≤ 2000 ∧ StM w' q x.2.1 p m mv sv x.2.2.1 nb x.2.2.2 ∧ NeedI X x.2.1 x.1 ∧ Kp (fpS q m mv sv gv F) w w' ∧ ∀ k, fpS q m mv sv x.2.2.1 x.2.2.2 k → fpS q m mv sv gv F k ∨ w.heap.size ≤ k) (fun x => 2000 - x.1) (by repeat (first | exact Sub.nil | refine Sub.cons rfl ?_)) ?hI ?hround
  case hI => exact ⟨Nat.zero_le _, hM, NeedI.zero hG, Kp.refl _ _, fun _ h => .inl h⟩
  case hround =>
   rintro ⟨i, X1, gv1, F1⟩ w1 ⟨hi, hM1, hN, hk1, hf1⟩ ih
   dsimp only at hi hM1 hN hf1
   have hB1 := hM1.blk
   have hg : Ext w1 w1.drew := Ext.drew0 w1
   have hI1 := hN.inv
   have hgl := hI1.gl
   have hT1 : X1.T.size = X.T.size := by rw [hN.eT]
   have hz1 : sizeOk (X1.T.size : Int) := by rw [hT1]; exact hz
   have hex := hN.ex
   have hnl := hG.nl
   have hszk := hk1.size
   try dsimp only
   refine run_seq (run_seq (run_draw (fun w' => Ext w1 w') (by kernel_rfl) rfl (qt 0 rfl (ymv rfl) hg (qt 1 rfl (ylt rfl rfl) hg (qt 2 rfl (ymv rfl) hg (rh_if (fun h2000 => ?_) (fun h2000 => ?_)))))))
   ·refine qt 3 rfl (ymv rfl) hg (qt 4 rfl (ynk rfl) hg (qt 5 rfl (yfa fl36_1 rfl) hg (qT 6 rfl (fun _ hS => yld U24 rfl rfl (hS.blk hB1) rfl) hg (qt 9 rfl (ymv rfl) hg (qt 10 rfl (ynk rfl) hg (qt 11 rfl (yfa fl36_1 rfl) hg (qT 12 rfl (fun _ hS => yld U24 rfl rfl (hS.blk hB1) rfl) hg (qO 7 (nCall (i := 7) rfl rfl rfl (yc (args := [.tmp 10]) cf27 rfl) (given_ret (hM1.tree.ext hg) (by omega)) ?_)))))))))
    rintro v2 w2 ⟨hS2, hx2, -⟩
    refine ⟨hg.trans hx2, ?_⟩
    obtain ⟨ga, gc, rfl, -⟩ := hS2.rd.shape
    refine qt 8 rfl (yln U34 rfl) (hg.trans hx2) (qO 13 (nCall (i := 13) rfl rfl rfl (yc (args := [.tmp 16]) cf25 rfl) (need_ret ((hM1.tree.ext hg).ext hx2) hI1 (by omega)) ?_))
    rintro _ w3 ⟨rfl, hw3⟩
    refine ⟨(by rw [hw3]; exact hg.trans hx2), ?_⟩
    have hx3 : Ext w1 w3 := by rw [hw3]; exact hg.trans hx2
    have hM3 := hM1.ext hx3
    have hB3 := hM3.blk
    refine qt 14 rfl (ylt rfl rfl) ((by rw [hw3]; exact hg.trans hx2)) ?_
    refine qt 15 rfl (ypT rfl rfl) ((by rw [hw3]; exact hg.trans hx2)) ?_
    refine qE (run_if rfl (fun hlt => ?_) (fun hlt => ?_))
    ·have hi2 : i < 2000 := by omega
     refine run_skip (run_seq (run_block (qN rfl (qm rfl (qV (ynk rfl) (qV (yfa fl36_5 rfl) (qV (yld U3 rfl rfl hB3 rfl) (qV (yad rfl rfl (by omega)) (qV (ynk rfl) (qV (yfa fl36_5 rfl) ?_))))))))))
     rw [show ((X1.nx : Int) + 1) = ((X1.nx + 1 : Nat) : Int) by omega]
     refine rEffP rfl (zst ti3 rfl rfl rfl hB3 (by simp)) ?_
     rintro w4 ⟨hB4, hk4⟩
     replace hB4 : Blk w4 q [I (X1.T.size : Int), ptr p 0, ptr m 0, sv, gv1, I ((X1.nx + 1 : Nat) : Int)] 36 := hB4
     have hM4 := hM3.next hB4 hk4
     have hk14 : Kp (fpS q m mv sv gv1 F1) w1 w4 := hx3.kp.trans (hk4.mono' (fun k e => .inl e))
     have hk04 : Kp (fpS q m mv sv gv F) w w4 := hk1.trans_new hk14 (fun i hi => (hf1 i hi).symm)
     have hz4 := hk14.size
     have hg4 : Ext w4 w4.drew := Ext.drew0 w4
     refine rEnd (run_seq (run_draw (fun w' => Kp F1 w4 w') (by kernel_rfl) rfl (qt 0 rfl (ymv rfl) (hg4.kp) (qt 1 rfl (ynk rfl) (hg4.kp) (qt 2 rfl (yfa fl36_1 rfl) (hg4.kp) (qT 3 rfl (fun _ hS => yld U24 rfl rfl (hS.blk hB4 hM1.fq) rfl) (hg4.kp) (qt 4 rfl (ymv rfl) (hg4.kp) (qt 5 rfl (ynk rfl) (hg4.kp) (qt 6 rfl (yfa fl36_5 rfl) (hg4.kp) (qT 7 rfl (fun _ hS => yld U3 rfl rfl (hS.blk hB4 hM1.fq) rfl) (hg4.kp) (qO 8 (nValP (i := 8) rfl rfl rfl (pbs (parts := [(0, .tmp 36)]) (cs := [_]) (zs := [Value.int .i64 0]) U34 ti3 rfl (by kernel_rfl) rfl rfl rfl (by decide)) ?_))))))))))))
     rintro _ w5 ⟨b5, rfl, ⟨hb5, hx5, hB5⟩, hS5⟩
     refine ⟨hg4.kp.trans hx5.kp, ?_⟩
     have hx45 := hg4.trans hx5
     have hM5 := hM4.ext hx45
     refine qO 9 (nCall (i := 9) rfl rfl rfl (yc (args := [.tmp 32, .tmp 37]) cf50 rfl) (give_ret hM5.tree hI1 (l := [((X1.nx + 1 : Nat) : Int)]) hS5.rd (by simp)) ?_)
     rintro v6 w6 hv6
     refine ⟨(by rcases hv6 with ⟨-, -, h, -⟩ | ⟨-, -, h⟩; exact hx45.kp.trans h; exact hx45.kp.trans h.kp), ?_⟩
     have hz5 := hx45.size
     have hk46 : Kp F1 w4 w6 := by rcases hv6 with ⟨-, -, h, -⟩ | ⟨-, -, h⟩; exact hx45.kp.trans h; exact hx45.kp.trans h.kp
     rcases hv6 with ⟨rfl, hok, hk6, F6, hT6, hF6⟩ | ⟨rfl, hno, hx6⟩
     ·have hMt := hM5.treed hT6 rfl hk6 hF6
      obtain ⟨hM6, hk56, hf6⟩ := hMt
      have hB6 := hM6.blk
      have hg6 : Ext w6 w6.drew := Ext.drew0 w6
      have hz6 := hk56.size
      have hgl6 := hN.gl
      have hggl := hG.gl
      refine qt 10 rfl (yeq rfl rfl) hk46 (qE (run_if rfl (fun hc0 => ?_) (fun hc0 => ?_)))
      ·refine run_drawL [13] (fun w' => Kp (fun k => gv1.ownBlock = some k) w6 w') (by kernel_rfl) rfl (qL [11, 12, 13] 0 rfl (fun _ hS => ymv rfl) (hg6.kp) (qL [2, 3, 4, 10, 11, 12, 13] 1 rfl (fun _ hS => ymv rfl) (hg6.kp) (qL [3, 4, 10, 11, 12, 13] 2 rfl (fun _ hS => ynk rfl) (hg6.kp) (qL [4, 10, 11, 12, 13] 3 rfl (fun _ hS => yfa fl36_4 rfl) (hg6.kp) (qL [10, 11, 12, 13] 4 rfl (fun _ hS => yld U34 rfl rfl (hS.blk hB6 (fun e => (hM6.ov q (.inr (.inr e))).1 rfl)) rfl) (hg6.kp) (qL [6, 7, 8, 9, 10, 11, 12, 13] 5 rfl (fun _ hS => ymv rfl) (hg6.kp) (qL [7, 8, 9, 10, 11, 12, 13] 6 rfl (fun _ hS => ynk rfl) (hg6.kp) (qL [8, 9, 10, 11, 12, 13] 7 rfl (fun _ hS => yfa fl36_5 rfl) (hg6.kp) (qL [9, 10, 11, 12, 13] 8 rfl (fun _ hS => yld U3 rfl rfl (hS.blk hB6 (fun e => (hM6.ov q (.inr (.inr e))).1 rfl)) rfl) (hg6.kp) (hOneL (i := 9) (by kernel_rfl) (nValPL (i := 9) rfl rfl rfl (pbs (parts := [(0, .tmp 48)]) (cs := [_]) (zs := [Value.int .i64 0]) U34 ti3 rfl (by kernel_rfl) rfl rfl rfl (by decide)) ?_)))))))))))
       rintro _ w7 ⟨b7, rfl, ⟨hb7, hx7, hB7⟩, hS7⟩
       refine ⟨hg6.kp.trans hx7.kp, ?_⟩
       have hx67 := hg6.trans hx7
       refine hOneL (i := 10) (by kernel_rfl) (nValPL (i := 10) rfl rfl rfl (pap U34 ti3 rfl (by decide) rfl rfl (hM6.giv.ext hx67) hS7.rd (by intro c hc; simp at hc; subst hc; rfl) (by dsimp only; omega) (by dsimp only; omega)) ?_)
       rintro gv8 w8 ⟨hS8, hk8, ho8, -⟩
       refine ⟨hx67.kp.trans hk8, ?_⟩
       have hB8 := hk8.blk (hx67.blk hB6) (fun e => (hM6.ov q (.inr (.inr e))).1 rfl)
       refine qL [12, 13] 11 rfl (fun _ hS => ynk rfl) (hx67.kp.trans hk8) (qL [13] 12 rfl (fun _ hS => yfa fl36_4 rfl) (hx67.kp.trans hk8) (hLate [13] (by kernel_rfl) (by kernel_rfl) (qO 13 (nEffP (i := 13) rfl rfl (zst ti34 rfl rfl (oneV_sl hS8) hB8 (by simp)) ?_))))
       rintro w9 ⟨hB9, hk9⟩
       refine ⟨trivial, ?_⟩
       replace hB9 : Blk w9 q [I (X1.T.size : Int), ptr p 0, ptr m 0, sv, gv8, I ((X1.nx + 1 : Nat) : Int)] 36 := hB9
       have hMg := (hM6.ext hx67).gave (gs' := X1.gs ++ [((X1.nx + 1 : Nat) : Int)]) (gv' := gv8) (by rw [List.length_append, List.map_append]; exact hS8) hk8 ho8 hB9 hk9
       obtain ⟨hM9, hk79, hf9⟩ := hMg
       have hz7 := hx67.size
       have hk69 : Kp (fpS q m mv sv gv1 F6) w6 w9 := hx67.kp.trans hk79
       have hk59 : Kp (fpS q m mv sv gv1 F1) w5 w9 := hk56.trans_new hk69 (fun i hi => (hf6 i hi).symm)
       have hk19 : Kp (fpS q m mv sv gv1 F1) w1 w9 := (hk14.trans hx45.kp).trans hk59
       refine qE (run_inBlock (run_reg rfl (qm rfl (qV (yad rfl rfl (by omega)) (qa rfl (rEnd ((ih (i + 1, _, gv8, F6) w9 ⟨by dsimp only; omega, hM9, hN.yes hok, hk1.trans_new hk19 (fun i hi => (hf1 i hi).symm), fun k hk => ?_⟩ (by dsimp only; omega)).qb)))))))
       rcases hf9 k hk with e | e
       ·rcases hf6 k e with e | e
        ·exact hf1 k e
        ·exact .inr (by omega)
       ·exact .inr (by omega)
      ·exact absurd rfl hc0
     ·have hM6 := hM5.ext hx6
      refine qt 10 rfl (yeq rfl rfl) hk46 (qE (run_if rfl (fun hc0 => ?_) (fun hc0 => ?_)))
      ·exact absurd hc0 (by decide)
      ·refine run_skip (run_inBlock (run_reg rfl (qm rfl (qV (yad rfl rfl (by omega)) (qa rfl (rEnd ((ih (i + 1, _, gv1, F1) w6 ⟨by dsimp only; omega, hM6, hN.no hG (by omega) (by omega) hno, (hk04.trans hx45.kp).trans hx6.kp, hf1⟩ (by dsimp only; omega)).qb)))))))
    ·refine run_exit rfl ?_
     exact (hkz _ _ ⟨rfl, X1, gv1, F1, i, hM3, hN, hi, by omega, hk1.trans hx3.kp, hf1⟩).qb
   ·have : i = 2000 := by omega
    subst this
    refine qJ 3 rfl (hg) (qJ 4 rfl (hg) (qJ 5 rfl (hg) (qJ 6 rfl (hg) (qJ 7 rfl (hg) (qJ 8 rfl (hg) (qJ 9 rfl (hg) (qJ 10 rfl (hg) (qJ 11 rfl (hg) (qJ 12 rfl (hg) (qJ 13 rfl (hg) (qJ 14 rfl (hg) (qt 15 rfl (ypF rfl rfl) hg (qE ?_)))))))))))))
    refine run_false rfl (run_exit rfl ?_)
    exact (hkz _ _ ⟨rfl, X1, gv1, F1, 2000, hM1.ext hg, hN, hi, hN.fin hG hz hk, hk1.trans hg.kp, hf1⟩).qb
def opC (kd : Int) (key val : Bytes) (n : Int) (nv : Value) (auto : Bool) : List Value := [I kd, S key, S val, I n, nv, .bool auto]
set_option maxHeartbeats 8000000 in
theorem putS_ret (hM : StM w q X p m mv sv gv nb F) (hG : Gh X k) (hz : sizeOk (X.T.size : Int)) (hk : k ≤ 340) (kd : Int) (key val : Bytes) (n : Int) (nv : Value) (auto : Bool) (hkl : key.length ≤ 140737488355328) (hvl : val.length ≤ 140737488355328) :
  Ret Tryz.prog 9 [ptr q 0, .agg (opC kd key val n nv auto).toArray] w fun v w' => v = .bool true ∧ ∃ X' mv' gv' nb' F', StM w' q X' p m mv' sv gv' nb' F' ∧ Gh X' (k + 1) ∧ X'.T.size = X.T.size ∧ ((may X.T.size key val ∧ X'.es = insE X.es key val) ∨ (X'.es = X.es ∧ ¬ (may X.T.size key val ∧ auto = true))) ∧ Kp (fpS q m mv sv gv F) w w' ∧ ∀ k, fpS q m mv' sv gv' F' k → fpS q m mv sv gv F k ∨ w.heap.size ≤ k := by
 have hel := hG.el
 have hml : maxLen = 9223372036854775807 := rfl
 refine ret_of_run (e := [(0, _), (1, _)]) Tryz.func9 rfl Tryz.ntmps9 rfl rfl (qN rfl (rValP rfl rfl (pbx rfl (cs := opC kd key val n nv auto) rfl) ?_))
 rintro _ w1 ⟨b3, rfl, hb3, hx1, hB3⟩
 replace hB3 : Blk w1 b3 [I kd, S key, S val, I n, nv, .bool auto] 39 := hB3
 have hM1 := hM.ext hx1
 have hB1 := hM1.blk
 have hz1 := hx1.size
 have hl3 := hB3.lt
 have hg : Ext w1 w1.drew := Ext.drew0 w1
 refine qa rfl (rEnd (run_seq (run_draw (fun w' => Ext w1 w') (by kernel_rfl) rfl (qt 0 rfl (ymv rfl) hg (qt 1 rfl (ynk rfl) hg (qt 2 rfl (yfa fl36_0 rfl) hg (qT 3 rfl (fun _ hS => (by first | exact yld U3 rfl rfl (hS.blk hB1) rfl | exact yld U3 rfl rfl (hS.blk hB3) rfl)) hg ?_)))))))
 refine qt 4 rfl (yfa fl39_1 rfl) hg (qT 5 rfl (fun _ hS => (by first | exact yld U9 rfl rfl (hS.blk hB1) rfl | exact yld U9 rfl rfl (hS.blk hB3) rfl)) hg ?_)
 refine qt 6 rfl (yfa fl39_2 rfl) hg (qT 7 rfl (fun _ hS => (by first | exact yld U9 rfl rfl (hS.blk hB1) rfl | exact yld U9 rfl rfl (hS.blk hB3) rfl)) hg ?_)
 refine qO 8 (nCall (i := 8) rfl rfl rfl (yc (args := [.tmp 11, .tmp 13, .tmp 15]) cf36 rfl) (may8_ret X.T.size hz key val hkl hvl _) ?_)
 rintro _ w2 ⟨rfl, hw2⟩
 refine ⟨(by rw [hw2]; exact hg), ?_⟩
 have hx2 : Ext w1 w2 := by rw [hw2]; exact hg
 obtain ⟨mb, hmb, hmy⟩ : ∃ mb : Bool, decide (may X.T.size key val) = mb ∧ (mb = true ↔ may X.T.size key val) := ⟨_, rfl, decide_eq_true_iff⟩
 rw [hmb]
 have hM2 := hM1.ext hx2
 have hB32 := hx2.blk hB3
 have hB2 := hM2.blk
 refine qt 9 rfl (yas rfl) ((by rw [hw2]; exact hg)) ?_
 refine qE (run_seq (run_seq (run_cut (fun e' w' => e' = [(0, ptr q 0), (3, ptr b3 0), (5, .bool mb), (26, .bool false)] ∧ ∃ X1 gv1 F1, StM w' q X1 p m mv sv gv1 nb F1 ∧ Gh X1 (k + 1) ∧ X1.es = X.es ∧ X1.T.size = X.T.size ∧ (auto = true → mb = true → X1.H + 1 ≤ X1.T.given.length) ∧ Kp (fpS q m mv sv gv F) w w' ∧ (∀ k, fpS q m mv sv gv1 F1 k → fpS q m mv sv gv F k ∨ w.heap.size ≤ k) ∧ Blk w' b3 [I kd, S key, S val, I n, nv, .bool auto] 39 ∧ ¬ fpS q m mv sv gv1 F1 b3) ?hka (fun hka => ?hmaina))))
 case hka =>
  rintro e' w3 ⟨rfl, X1, gv1, F1, hM3, hG3, hes, hsz, hauto, hk3, hf3, hB33, hb3n⟩
  have hz3 : sizeOk (X1.T.size : Int) := by rw [hsz]; exact hz
  have hI3 := hG3.inv
  have hcn := Inv.cnts hz3 hI3
  have hel3 := hG3.el
  have hgl3 := hI3.gl
  have hB3q := hM3.blk
  have hg : Ext w3 w3.drew := Ext.drew0 w3
  have hsz3 := hk3.size
  refine run_false rfl (run_skip (run_seq (run_draw (fun w' => Ext w3 w') (by kernel_rfl) rfl (qt 0 rfl (ymv rfl) hg (qt 1 rfl (ynk rfl) hg (qt 2 rfl (yfa fl36_1 rfl) hg (qT 3 rfl (fun _ hS => yld U24 rfl rfl (hS.blk hB3q) rfl) hg (qt 6 rfl (ymv rfl) hg (qt 7 rfl (ynk rfl) hg (qt 8 rfl (yfa fl36_1 rfl) hg (qT 9 rfl (fun _ hS => yld U24 rfl rfl (hS.blk hB3q) rfl) hg (qO 4 (nCall (i := 4) rfl rfl rfl (yc (args := [.tmp 30]) cf27 rfl) (given_ret (hM3.tree.ext hg) (by omega)) ?_)))))))))))))
  rintro v4 w4 ⟨hS4, hx4, -⟩
  refine ⟨hg.trans hx4, ?_⟩
  obtain ⟨ga, gc, rfl, -⟩ := hS4.rd.shape
  refine qt 5 rfl (yln U34 rfl) (hg.trans hx4) (qO 10 (nCall (i := 10) rfl rfl rfl (yc (args := [.tmp 36]) cf25 rfl) (need_ret ((hM3.tree.ext hg).ext hx4) hI3 (by omega)) ?_))
  rintro _ w5 ⟨rfl, hw5⟩
  refine ⟨(by rw [hw5]; exact hg.trans hx4), ?_⟩
  have hx5 : Ext w3 w5 := by rw [hw5]; exact hg.trans hx4
  have hM5 := hM3.ext hx5
  have hB5q := hM5.blk
  have hB35 := hx5.blk hB33
  have hg5 : Ext w5 w5.drew := Ext.drew0 w5
  have hb3F : ¬ F1 b3 := fun e => hb3n (.inr (.inr (.inr (.inr (.inr e)))))
  have hz5 := hx5.size
  refine qt 11 rfl (ylt rfl rfl) ((by rw [hw5]; exact hg.trans hx4)) ?_
  refine qt 12 rfl (yas rfl) ((by rw [hw5]; exact hg.trans hx4)) ?_
  refine qE (run_seq (run_draw (fun w' => Kp F1 w5 w') (by kernel_rfl) rfl (qt 0 rfl (ymv rfl) (hg5.kp) (qt 1 rfl (ynk rfl) (hg5.kp) (qt 2 rfl (yfa fl36_1 rfl) (hg5.kp) (qT 3 rfl (fun _ hS => (by first | exact yld U24 rfl rfl (hS.blk hB5q hM5.fq) rfl | exact yld U24 rfl rfl (hS.blk hB35 hb3F) rfl)) (hg5.kp) ?_))))))
  refine qt 4 rfl (yfa fl39_1 rfl) (hg5.kp) (qT 5 rfl (fun _ hS => (by first | exact yld U9 rfl rfl (hS.blk hB5q hM5.fq) rfl | exact yld U9 rfl rfl (hS.blk hB35 hb3F) rfl)) (hg5.kp) ?_)
  refine qt 6 rfl (yfa fl39_2 rfl) (hg5.kp) (qT 7 rfl (fun _ hS => (by first | exact yld U9 rfl rfl (hS.blk hB5q hM5.fq) rfl | exact yld U9 rfl rfl (hS.blk hB35 hb3F) rfl)) (hg5.kp) ?_)
  refine qO 8 (nCall (i := 8) rfl rfl rfl (yc (args := [.tmp 42, .tmp 44, .tmp 46]) cf38 rfl) (putT_ret (hM5.tree.ext hg5) hI3 (by omega) key val hkl hvl) ?_)
  rintro v6 w6 hv6
  refine ⟨(by rcases hv6 with ⟨-, -, h⟩ | ⟨-, -, -, h⟩ | ⟨-, -, -, T', H', ns', ⟨nb', F', -, -, h, -⟩, -⟩; exact hg5.kp.trans h.kp; exact hg5.kp.trans h.kp; exact hg5.kp.trans h), ?_⟩
  have hk56 : Kp F1 w5 w6 := by rcases hv6 with ⟨-, -, h⟩ | ⟨-, -, -, h⟩ | ⟨-, -, -, T', H', ns', ⟨nb', F', -, -, h, -⟩, -⟩; exact hg5.kp.trans h.kp; exact hg5.kp.trans h.kp; exact hg5.kp.trans h
  rw [hsz] at hv6
  rcases hv6 with ⟨rfl, hnm, hx6⟩ | ⟨rfl, hm, hfew, hx6⟩ | ⟨rfl, hm, henough, T', H', ns', ⟨nb', F', hT6, hI6, hk6, hF6⟩, hev⟩
  ·obtain rfl : mb = false := by
    cases mb with
    | false => rfl
    | true => exact absurd (hmy.1 rfl) hnm
   refine qt 9 rfl (yas rfl) hk56 (qE (Run.qb (e := [(0, _), (3, _), (5, _), (6, _), (7, _)]) ?_))
   refine run_seq (qN rfl (qm rfl (qV ((by first | exact yntd rfl | exact ynt rfl)) ?_)))
   refine rEnd (run_cond rfl (fun h1 => ?_) (fun h1 => ?_))
   ·refine qN rfl (qm rfl (qV (yeq rfl rfl) (qa rfl (rEnd (run_ret Tryz.func9 rfl ?_)))))
    exact ⟨_, rfl, rfl, X1, mv, gv1, nb, F1, (hM5.ext hg5).ext hx6, hG3, hsz, .inr ⟨hes, fun h => hnm h.1⟩, (hk3.trans hx5.kp).trans (hg5.trans hx6).kp, hf3⟩
   ·exact absurd h1 (by decide)
  ·obtain rfl : mb = true := hmy.2 hm
   refine qt 9 rfl (yas rfl) hk56 (qE (Run.qb (e := [(0, _), (3, _), (5, _), (6, _), (7, _)]) ?_))
   refine run_seq (qN rfl (qm rfl (qV ((by first | exact yntd rfl | exact ynt rfl)) ?_)))
   refine rEnd (run_cond rfl (fun h1 => ?_) (fun h1 => ?_))
   ·exact absurd h1 (by decide)
   ·refine run_skip (run_seq (qN rfl (qm rfl (rEnd (run_if rfl (fun h2 => ?_) (fun h2 => ?_))))))
    ·refine qN rfl (qm rfl (qV (yeq rfl rfl) (qa rfl (rEnd (run_ret Tryz.func9 rfl ?_)))))
     exact ⟨_, rfl, rfl, X1, mv, gv1, nb, F1, (hM5.ext hg5).ext hx6, hG3, hsz, .inr ⟨hes, fun h => by have := hauto h.2 rfl; omega⟩, (hk3.trans hx5.kp).trans (hg5.trans hx6).kp, hf3⟩
    ·omega
  ·obtain rfl : mb = true := hmy.2 hm
   have hmt := (hM5.ext hg5).treed hT6 (show T'.size = X1.T.size from (show Evo _ _ _ from hev).size) hk6 hF6
   obtain ⟨hM6, hk6', hf6⟩ := hmt
   have hB6q := hM6.blk
   have hB36 := hk56.blk hB35 hb3F
   have hb3m : b3 ≠ m := fun e => hb3n (.inr (.inl e))
   have hb3q : b3 ≠ q := fun e => hb3n (.inl e)
   have hg6 : Ext w6 w6.drew := Ext.drew0 w6
   have hz6 := hk6'.size
   have hz55 := hg5.size
   refine qt 9 rfl (yas rfl) hk56 (qE (Run.qb (e := [(0, _), (3, _), (5, _), (6, _), (7, _)]) ?_))
   refine run_seq (qN rfl (qm rfl (qV ((by first | exact yntd rfl | exact ynt rfl)) ?_)))
   refine rEnd (run_cond rfl (fun h1 => ?_) (fun h1 => ?_))
   ·exact absurd h1 (by decide)
   ·refine run_skip (run_seq (qN rfl (qm rfl (rEnd (run_if rfl (fun h2 => ?_) (fun h2 => ?_))))))
    ·omega
    ·have hel1 : X1.es.length ≤ k := by rw [hes]; exact hel
     refine run_skip (run_seq (run_draw (fun w' => Kp (fun k => k = m) w6 w') (by kernel_rfl) rfl (qt 0 rfl (ymv rfl) (hg6.kp) (qt 1 rfl (ynk rfl) (hg6.kp) (qt 2 rfl (yfa fl36_2 rfl) (hg6.kp) (qT 3 rfl (fun _ hS => (by first | exact yld U29 rfl rfl (hS.blk hB6q hM6.qm) rfl | exact yld U29 rfl rfl (hS.blk hB36 hb3m) rfl)) (hg6.kp) ?_))))))
     refine qt 4 rfl (yfa fl39_1 rfl) (hg6.kp) (qT 5 rfl (fun _ hS => (by first | exact yld U9 rfl rfl (hS.blk hB6q hM6.qm) rfl | exact yld U9 rfl rfl (hS.blk hB36 hb3m) rfl)) (hg6.kp) ?_)
     refine qt 6 rfl (yfa fl39_2 rfl) (hg6.kp) (qT 7 rfl (fun _ hS => (by first | exact yld U9 rfl rfl (hS.blk hB6q hM6.qm) rfl | exact yld U9 rfl rfl (hS.blk hB36 hb3m) rfl)) (hg6.kp) ?_)
     refine qO 8 (nCall (i := 8) rfl rfl rfl (yc (args := [.tmp 58, .tmp 60, .tmp 62]) cf39 rfl) (putM_ret (hM6.map.ext hg6) (by dsimp only; omega) key val) ?_)
     rintro _ w7 ⟨rfl, hS7⟩
     refine ⟨(by obtain ⟨mv', -, h, -⟩ := hS7; exact hg6.kp.trans h), ?_⟩
     have hk67 : Kp (fun k => k = m) w6 w7 := by obtain ⟨mv', -, h, -⟩ := hS7; exact hg6.kp.trans h
     have hmp := (hM6.ext hg6).mapped hS7
     obtain ⟨mv7, hM7, hk7, hf7⟩ := hmp
     have hz66 := hg6.size
     refine qE (qN rfl (qm rfl (qV (yeq rfl rfl) (qa rfl (rEnd (run_ret Tryz.func9 rfl (⟨_, rfl, rfl, { X1 with T := T', H := H', ns := ns', es := insE X1.es key val }, mv7, gv1, nb', F', hM7.hn H' ns', hG3.evo hev hI6 (Nat.le_refl _) ?_, (show Evo _ _ _ from hev).size.trans hsz, .inl ⟨hm, by dsimp only; rw [hes]⟩, ?_, fun k hk => ?_⟩)))))))
     ·rw [insE_len]; split <;> omega
     ·have hk35 : Kp (fpS q m mv sv gv1 F1) w3 w6 := hx5.kp.trans (hg5.kp.trans hk6')
      have hk37 : Kp (fpS q m mv sv gv1 F1) w3 w7 := hk35.trans_new (hg6.kp.trans hk7) (fun i hi => (hf6 i hi).elim .inr (fun e => .inl (by omega)))
      exact hk3.trans_new hk37 (fun i hi => (hf3 i hi).symm)
     ·rcases hf7 k hk with e | e
      ·rcases hf6 k e with e | e
       ·exact hf3 k e
       ·exact .inr (by omega)
      ·exact .inr (by omega)
 case hmaina =>
  have hb3n : ¬ fpS q m mv sv gv F b3 := fun e => by have := hM.lt e; omega
  have hk02 : Kp (fpS q m mv sv gv F) w w2 := (hx1.trans hx2).kp
  cases auto with
  | false =>
    refine run_reg rfl (qV (yfa fl39_5 rfl) (qV (yld U4 rfl rfl hB32 rfl) (qm rfl (qS (qV (ypF rfl rfl) (qm rfl (qS (qS (qS (qV (ypF rfl rfl) (rEnd ?_)))))))))))
    exact (hka _ _ ⟨rfl, X, gv, F, hM2, hG.mono (Nat.le_succ k), rfl, rfl, fun h => Bool.noConfusion h, hk02, fun _ h => .inl h, hB32, hb3n⟩).qb
  | true =>
    refine run_reg rfl (qV (yfa fl39_5 rfl) (qV (yld U4 rfl rfl hB32 rfl) (qm rfl (qm rfl (qV (ypT rfl rfl) (qm rfl (rVal_bool (fun h1 => ?_) (fun h1 => ?_))))))))
    ·refine qm rfl (rCall rfl rfl (yc (args := [.tmp 23]) cf37 rfl) (needS_ret hM2 hG hz (by omega)) ?_)
     rintro v3 w3 ⟨rfl, X1, gv1, F1, i, hM3, hN, hi, hge, hk3, hf3⟩
     have hz2 := hx2.size
     have hb3n' : ¬ fpS q m mv sv gv1 F1 b3 := fun e => (hf3 b3 e).elim hb3n (fun e => by omega)
     have hT3 : X1.T.size = X.T.size := by rw [hN.eT]
     refine qV ((by first | exact yntd rfl | exact ynt rfl)) ?_
     refine qV (ypT rfl rfl) (rEnd ?_)
     exact (hka _ _ ⟨rfl, X1, gv1, F1, hM3, hN.gh hG hi, hN.ee, hT3, fun _ _ => by rw [hN.eH]; exact hge, hk02.trans hk3, fun k hk => (hf3 k hk).imp id (fun e => by omega), hk3.blk hB32 hb3n, hb3n'⟩).qb
    ·refine qS (qS (qS (qV (ypF rfl rfl) (rEnd ?_))))
     exact (hka _ _ ⟨rfl, X, gv, F, hM2, hG.mono (Nat.le_succ k), rfl, rfl, fun _ h => (by rw [h1] at h; cases h), hk02, fun _ h => .inl h, hB32, hb3n⟩).qb
end
section
variable {P : Program} {e : Env} {d : Option Nat} {ty t t' : TypeId} {pos : String} {aft : Array Edge} {g : Option (Nat × Bool)} {x y : Operand} {w : World} {n : Nat}
end
section
variable {e : Env} {d : Option Nat} {ty t' : TypeId} {pos : String} {aft : Array Edge} {g : Option (Nat × Bool)} {x y : Operand} {w : World}
end
theorem some_ofE {w : World} {v : Value} {T s n : Nat} {us : List Value} (h : Sl w v T s n us) : ∃ a c, v = .slice a n c := by
 obtain ⟨a, c, e, -⟩ := h.rd.shape
 exact ⟨a, c, e⟩
section
variable {w : World} {q : Nat} {X : Sx} {p m : Nat} {mv sv gv : Value} {nb : Int → Nat} {F : Nat → Prop} {k : Nat}
end
section
variable {es : Es} {k v : Bytes} {x : Bytes × Bytes}
theorem rise_ne (h : Rise (es.map (·.1))) : (es.map (·.1)).Nodup := h.imp fun {a b} h e => by subst e; rw [lt_irrefl] at h; cases h
theorem hasE_iff (h : Rise (es.map (·.1))) : hasE es k ↔ k ∈ es.map (·.1) := by
 constructor
 ·intro hh; exact List.mem_of_getElem? hh
 ·intro hk
  obtain ⟨i, hi, e⟩ := List.getElem_of_mem hk
  have hge : ¬ i < posE es k := fun hlt => by
   have := pos_lt (l := es.map (·.1)) (t := k) k (by
    have : ((es.map (·.1)).take (pos (es.map (·.1)) k))[i]? = some k := by rw [List.getElem?_take, if_pos (show i < pos (es.map (·.1)) k from hlt), List.getElem?_eq_getElem hi, e]
    exact List.mem_of_getElem? this)
   rw [lt_irrefl] at this; cases this
  rcases Nat.lt_or_eq_of_le (Nat.le_of_not_lt hge) with hlt | heq
  ·have h1 := List.pairwise_iff_getElem.1 h (posE es k) i (by omega) hi hlt
   rw [e] at h1
   have h2 := pos_at (l := es.map (·.1)) (t := k) (List.getElem?_eq_getElem (show posE es k < (es.map (·.1)).length by omega))
   rw [h2] at h1; cases h1
  ·unfold hasE
   rw [heq, List.getElem?_eq_getElem hi, e]
theorem getR_code (h : Rise (es.map (·.1))) : (getR es k).2 = 0 ↔ keyOk k ∧ k ∈ es.map (·.1) := by
 unfold getR
 by_cases hk : keyOk k
 ·rw [if_pos hk]
  by_cases hh : hasE es k
  ·have hlt := hasE_lt hh
   have hm : (es.map (·.2))[posE es k]? = some ((es[posE es k]).2) := by rw [List.getElem?_map, List.getElem?_eq_getElem hlt]; rfl
   rw [getE_some hh hm]
   exact ⟨fun _ => ⟨hk, (hasE_iff h).1 hh⟩, fun _ => rfl⟩
  ·rw [getE_none hh]
   exact ⟨fun e => (by cases e), fun e => absurd ((hasE_iff h).2 e.2) hh⟩
 ·rw [if_neg hk]
  exact ⟨fun e => (by cases e), fun e => absurd e.1 hk⟩
theorem split_rise (h : Rise (es.map (·.1))) {i : Nat} (hi : i < es.length) (x : Bytes × Bytes) : (x ∈ es ∧ x.1 ≠ es[i].1) ↔ x ∈ es.take i ++ es.drop (i + 1) := by
 have hnd := rise_ne h
 have he : es = es.take i ++ es[i] :: es.drop (i + 1) := by rw [← List.drop_eq_getElem_cons hi, List.take_append_drop]
 have hnd2 : ((es.take i ++ es[i] :: es.drop (i + 1)).map (·.1)).Nodup := by rw [← he]; exact hnd
 rw [List.map_append, List.map_cons] at hnd2
 obtain ⟨-, n2, n3⟩ := List.nodup_append.1 hnd2
 have n4 := List.nodup_cons.1 n2
 constructor
 ·rintro ⟨hx, hne⟩
  rw [he] at hx
  rcases List.mem_append.1 hx with hx | hx
  ·exact List.mem_append_left _ hx
  ·rcases List.mem_cons.1 hx with e | hx
   ·exact absurd (by rw [e]) hne
   ·exact List.mem_append_right _ hx
 ·intro hx
  rcases List.mem_append.1 hx with hx | hx
  ·exact ⟨List.mem_of_mem_take hx, fun e => n3 _ (List.mem_map.2 ⟨x, hx, rfl⟩) _ (List.mem_cons_self ..) e⟩
  ·exact ⟨List.mem_of_mem_drop hx, fun e => n4.1 (by rw [← e]; exact List.mem_map.2 ⟨x, hx, rfl⟩)⟩
theorem has_at (h : hasE es k) : es[posE es k]'(hasE_lt h) = (k, (es[posE es k]'(hasE_lt h)).2) := by
 have hlt := hasE_lt h
 have := (hasE_at (es := es) (k := k) (List.getElem?_eq_getElem hlt)).1 h
 exact Prod.ext this rfl
theorem mem_ins (h : Rise (es.map (·.1))) : x ∈ insE es k v ↔ x = (k, v) ∨ (x.1 ≠ k ∧ x ∈ es) := by
 by_cases hh : hasE es k
 ·have hlt := hasE_lt hh
  have hs := split_rise h hlt x
  have hk : es[posE es k].1 = k := congrArg Prod.fst (has_at hh)
  rw [hk] at hs
  have e : insE es k v = es.take (posE es k) ++ (k, v) :: es.drop (posE es k + 1) := by unfold insE; rw [if_pos hh]
  rw [e]
  simp only [List.mem_append, List.mem_cons] at hs ⊢
  constructor
  ·rintro (h1 | h1 | h1)
   ·exact .inr (hs.2 (.inl h1)).symm
   ·exact .inl h1
   ·exact .inr (hs.2 (.inr h1)).symm
  ·rintro (h1 | ⟨h1, h2⟩)
   ·exact .inr (.inl h1)
   ·exact (hs.1 ⟨h2, h1⟩).imp id .inr
 ·have hne : ∀ y ∈ es, y.1 ≠ k := fun y hy e => hh ((hasE_iff h).2 (List.mem_map.2 ⟨y, hy, e⟩))
  rw [insE_new hh]
  have he : x ∈ es ↔ x ∈ es.take (posE es k) ∨ x ∈ es.drop (posE es k) := by rw [← List.mem_append, List.take_append_drop]
  simp only [List.mem_append, List.mem_cons]
  constructor
  ·rintro (h1 | h1 | h1)
   ·exact .inr ⟨hne _ (he.2 (.inl h1)), he.2 (.inl h1)⟩
   ·exact .inl h1
   ·exact .inr ⟨hne _ (he.2 (.inr h1)), he.2 (.inr h1)⟩
  ·rintro (h1 | ⟨-, h2⟩)
   ·exact .inr (.inl h1)
   ·exact (he.1 h2).imp id .inr
theorem mem_del (h : Rise (es.map (·.1))) : x ∈ delE es k ↔ x.1 ≠ k ∧ x ∈ es := by
 unfold delE
 by_cases hh : hasE es k
 ·rw [if_pos hh]
  have hs := split_rise h (hasE_lt hh) x
  have hk : (es[posE es k]'(hasE_lt hh)).1 = k := congrArg Prod.fst (has_at hh)
  rw [hk] at hs
  rw [← hs]
  exact And.comm
 ·rw [if_neg hh]
  exact ⟨fun hx => ⟨fun e => hh ((hasE_iff h).2 (List.mem_map.2 ⟨x, hx, e⟩)), hx⟩, fun hx => hx.2⟩
end
theorem es_ext {a b : Es} (ha : Rise (a.map (·.1))) (hb : Rise (b.map (·.1))) (h : ∀ x, x ∈ a ↔ x ∈ b) : a = b := by
 have na : a.Nodup := List.Pairwise.imp (fun {x y} h e => by subst e; rw [lt_irrefl] at h; cases h) (List.pairwise_map.1 ha)
 have nb : b.Nodup := List.Pairwise.imp (fun {x y} h e => by subst e; rw [lt_irrefl] at h; cases h) (List.pairwise_map.1 hb)
 have hp : a.Perm b := (List.perm_ext_iff_of_nodup na nb).2 h
 exact hp.eq_of_pairwise (le := fun x y => lt x.1 y.1 = true) (fun x y _ _ h1 h2 => by rw [lt_asymm h1] at h2; cases h2) (List.pairwise_map.1 ha) (List.pairwise_map.1 hb)
/-! ### What TreeAlike keeps of the second tree -/
def AlikeA (oth : List Bytes) (S : Es) (j : Nat) (Q : Es) : Prop := (∀ x ∈ S.drop j, x ∈ Q) ∧ ∀ x ∈ Q, x ∈ S.drop j ∨ (x.1 ∈ oth ∧ x.1 ∉ (S.drop j).map (·.1))
theorem AlikeA.step {oth : List Bytes} {S Q : Es} {j : Nat} (h : AlikeA oth S (j + 1) Q) (hS : Rise (S.map (·.1))) (hQ : Rise (Q.map (·.1))) {x : Bytes × Bytes} (hx : S[j]? = some x) : AlikeA oth S j (insE Q x.1 x.2) := by
 obtain ⟨hj, e⟩ := List.getElem?_eq_some_iff.1 hx
 have hd : S.drop j = x :: S.drop (j + 1) := by rw [List.drop_eq_getElem_cons hj, e]
 have hne : ∀ y ∈ S.drop (j + 1), y.1 ≠ x.1 := fun y hy => by
  have := (split_rise hS hj y).2 (List.mem_append_right _ hy)
  rw [e] at this; exact this.2
 constructor
 ·intro y hy
  rw [hd] at hy
  rw [mem_ins hQ]
  rcases List.mem_cons.1 hy with rfl | hy
  ·exact .inl rfl
  ·exact .inr ⟨hne y hy, h.1 y hy⟩
 ·intro y hy
  rw [mem_ins hQ] at hy
  rw [hd]
  rcases hy with rfl | ⟨h1, h2⟩
  ·exact .inl (List.mem_cons_self ..)
  ·rcases h.2 y h2 with h3 | ⟨h3, h4⟩
   ·exact .inl (List.mem_cons_of_mem _ h3)
   ·refine .inr ⟨h3, fun hm => ?_⟩
    rw [List.map_cons] at hm
    rcases List.mem_cons.1 hm with hm | hm
    ·exact h1 hm
    ·exact h4 hm
def AlikeB (oth : List Bytes) (S : Es) (i : Nat) (Q : Es) : Prop := (∀ x ∈ S, x ∈ Q) ∧ ∀ x ∈ Q, x ∈ S ∨ (x.1 ∈ oth.drop i ∧ x.1 ∉ S.map (·.1))
theorem AlikeA.fin {oth : List Bytes} {S Q : Es} (h : AlikeA oth S 0 Q) : AlikeB oth S 0 Q := h
theorem AlikeB.del {oth : List Bytes} {S Q : Es} {i : Nat} (h : AlikeB oth S i Q) (hS : Rise (S.map (·.1))) (hQ : Rise (Q.map (·.1))) {o : Bytes} (ho : oth[i]? = some o) (h1 : (getR S o).2 ≠ 0) (h2 : (getR Q o).2 = 0) : AlikeB oth S (i + 1) (delE Q o) := by
 obtain ⟨hi, e⟩ := List.getElem?_eq_some_iff.1 ho
 have hd : oth.drop i = o :: oth.drop (i + 1) := by rw [List.drop_eq_getElem_cons hi, e]
 have hno : o ∉ S.map (·.1) := fun hm => h1 ((getR_code hS).2 ⟨((getR_code hQ).1 h2).1, hm⟩)
 constructor
 ·intro x hx
  rw [mem_del hQ]
  exact ⟨fun e => hno (by rw [← e]; exact List.mem_map.2 ⟨x, hx, rfl⟩), h.1 x hx⟩
 ·intro x hx
  obtain ⟨h3, h4⟩ := (mem_del hQ).1 hx
  rcases h.2 x h4 with h5 | ⟨h5, h6⟩
  ·exact .inl h5
  ·rw [hd] at h5
   rcases List.mem_cons.1 h5 with e | h5
   ·exact absurd e h3
   ·exact .inr ⟨h5, h6⟩
theorem AlikeB.keep {oth : List Bytes} {S Q : Es} {i : Nat} (h : AlikeB oth S i Q) (hS : Rise (S.map (·.1))) (hQ : Rise (Q.map (·.1))) (hk : ∀ x ∈ Q, keyOk x.1) {o : Bytes} (ho : oth[i]? = some o) (h1 : (getR S o).2 = 0 ∨ (getR Q o).2 ≠ 0) : AlikeB oth S (i + 1) Q := by
 obtain ⟨hi, e⟩ := List.getElem?_eq_some_iff.1 ho
 have hd : oth.drop i = o :: oth.drop (i + 1) := by rw [List.drop_eq_getElem_cons hi, e]
 refine ⟨h.1, fun x hx => ?_⟩
 rcases h.2 x hx with h5 | ⟨h5, h6⟩
 ·exact .inl h5
 ·rw [hd] at h5
  rcases List.mem_cons.1 h5 with e | h5
  ·exfalso
   rcases h1 with h1 | h1
   ·exact h6 (by rw [e]; exact ((getR_code hS).1 h1).2)
   ·exact h1 ((getR_code hQ).2 ⟨by rw [← e]; exact hk x hx, by rw [← e]; exact List.mem_map.2 ⟨x, hx, rfl⟩⟩)
  ·exact .inr ⟨h5, h6⟩
theorem AlikeB.fin {oth : List Bytes} {S Q : Es} {i : Nat} (h : AlikeB oth S i Q) (hi : oth.length ≤ i) (hS : Rise (S.map (·.1))) (hQ : Rise (Q.map (·.1))) : S = Q := by
 refine es_ext hS hQ fun x => ⟨h.1 x, fun hx => ?_⟩
 rcases h.2 x hx with h1 | ⟨h1, -⟩
 ·exact h1
 ·rw [List.drop_eq_nil_of_le hi] at h1; cases h1
theorem range_drop {es : Es} {f : Bytes} (h : Rise (es.map (·.1))) : es.filter (fun x => !lt x.1 f) = es.drop (posE es f) := by
 conv => lhs; rw [← List.take_append_drop (posE es f) es, List.filter_append]
 have h1 : (es.take (posE es f)).filter (fun x => !lt x.1 f) = [] := List.filter_eq_nil_iff.2 fun x hx => by
  have := pos_lt (l := es.map (·.1)) (t := f) x.1 (by rw [← List.map_take]; exact List.mem_map.2 ⟨x, hx, rfl⟩)
  simp [this]
 have h2 : (es.drop (posE es f)).filter (fun x => !lt x.1 f) = es.drop (posE es f) := List.filter_eq_self.2 fun x hx => by
  have := pos_ge (t := f) h x.1 (by rw [← List.map_drop]; exact List.mem_map.2 ⟨x, hx, rfl⟩)
  simp [this]
 rw [h1, h2, List.nil_append]
theorem rangeE_drop {es : Es} {f : Bytes} {n : Nat} (h : Rise (es.map (·.1))) : rangeE es f n = (es.drop (posE es f)).take n := by
 unfold rangeE; rw [range_drop h]
section
variable {w : World} {q : Nat} {X : Sx} {p m : Nat} {mv sv gv : Value} {nb : Int → Nat} {F : Nat → Prop} {k : Nat}
set_option maxHeartbeats 8000000 in
theorem rangedS_ret (hM : StM w q X p m mv sv gv nb F) (hG : Gh X k) (hz : sizeOk (X.T.size : Int)) (hk : k ≤ 1000) (kd : Int) (key val : Bytes) (n : Int) (nv : Value) (auto : Bool) (hn : n ≤ 9223372036854775807) :
  Ret Tryz.prog 26 [ptr q 0, .agg (opC kd key val n nv auto).toArray] w fun v w' => v = .bool true ∧ Ext w w' := by
 have hI := hG.inv
 have hel := hG.el
 have hri := hI.rise hz
 refine ret_of_run (e := [(0, _), (1, _)]) Tryz.func26 rfl Tryz.ntmps26 rfl rfl (qN rfl (rValP rfl rfl (pbx rfl (cs := opC kd key val n nv auto) rfl) ?_))
 rintro _ w1 ⟨b3, rfl, hb3, hx1, hB3⟩
 replace hB3 : Blk w1 b3 [I kd, S key, S val, I n, nv, .bool auto] 39 := hB3
 have hM1 := hM.ext hx1
 have hB1 := hM1.blk
 have hg : Ext w1 w1.drew := Ext.drew0 w1
 refine qa rfl (rEnd (run_seq (run_draw (fun w' => Ext w1 w') (by kernel_rfl) rfl (qt 0 rfl (ymv rfl) hg (qt 1 rfl (ynk rfl) hg (qt 2 rfl (yfa fl36_1 rfl) hg (qT 3 rfl (fun _ hS => (by first | exact yld U24 rfl rfl (hS.blk hB1) rfl | exact yld U24 rfl rfl (hS.blk hB3) rfl)) hg ?_)))))))
 refine qt 4 rfl (yfa fl39_1 rfl) hg (qT 5 rfl (fun _ hS => (by first | exact yld U9 rfl rfl (hS.blk hB1) rfl | exact yld U9 rfl rfl (hS.blk hB3) rfl)) hg ?_)
 refine qt 6 rfl (yfa fl39_3 rfl) hg (qT 7 rfl (fun _ hS => (by first | exact yld U3 rfl rfl (hS.blk hB1) rfl | exact yld U3 rfl rfl (hS.blk hB3) rfl)) hg ?_)
 refine qO 8 (nCall (i := 8) rfl rfl rfl (yc (args := [.tmp 14, .tmp 16, .tmp 18]) cf13 rfl) (range_ret (hM1.tree.ext hg) hI (by omega) key n hn) ?_)
 rintro v2 w2 ⟨hx2, hv2⟩
 refine ⟨hg.trans hx2, ?_⟩
 have hx12 := hg.trans hx2
 have hM2 := hM1.ext hx12
 have hB2 := hM2.blk
 have hB32 := hx12.blk hB3
 have hg2 : Ext w2 w2.drew := Ext.drew0 w2
 rcases hv2 with ⟨hneg, rfl⟩ | ⟨hpos, lv, rfl, hL, hlo⟩
 ·refine qt 9 rfl (ymv rfl) (hg.trans hx2) (qt 10 rfl (yex rfl rfl) (hg.trans hx2) (qt 11 rfl (yex rfl rfl) (hg.trans hx2) (qt 12 rfl (yas rfl) (hg.trans hx2) (qt 13 rfl (yas rfl) (hg.trans hx2) (qE (run_seq (run_draw (fun w' => Ext w2 w') (by kernel_rfl) rfl (qt 0 rfl (ymv rfl) hg2 (qt 1 rfl (ynk rfl) hg2 (qt 2 rfl (yfa fl36_2 rfl) hg2 (qT 3 rfl (fun _ hS => (by first | exact yld U29 rfl rfl (hS.blk hB2) rfl | exact yld U29 rfl rfl (hS.blk hB32) rfl)) hg2 ?_)))))))))))
  refine qt 4 rfl (yfa fl39_1 rfl) hg2 (qT 5 rfl (fun _ hS => (by first | exact yld U9 rfl rfl (hS.blk hB2) rfl | exact yld U9 rfl rfl (hS.blk hB32) rfl)) hg2 ?_)
  refine qt 6 rfl (yfa fl39_3 rfl) hg2 (qT 7 rfl (fun _ hS => (by first | exact yld U3 rfl rfl (hS.blk hB2) rfl | exact yld U3 rfl rfl (hS.blk hB32) rfl)) hg2 ?_)
  refine qO 8 (nCall (i := 8) rfl rfl rfl (yc (args := [.tmp 26, .tmp 28, .tmp 30]) cf60 rfl) (rangeM_ret (hM2.map.ext hg2) key n) ?_)
  rintro v3 w3 ⟨hx3, hv3⟩
  refine ⟨hg2.trans hx3, ?_⟩
  obtain rfl : v3 = .tuple #[.slice none 0 0, I 1] := by
   rcases hv3 with ⟨-, h⟩ | ⟨h, -⟩
   ·exact h
   ·omega
  refine qt 9 rfl (ymv rfl) (hg2.trans hx3) (qt 10 rfl (yex rfl rfl) (hg2.trans hx3) (qt 11 rfl (yex rfl rfl) (hg2.trans hx3) (qt 12 rfl (yas rfl) (hg2.trans hx3) (qt 13 rfl (yas rfl) (hg2.trans hx3) (qE (Run.qb (e := [(4, _), (5, _), (6, _), (7, _), (8, _)]) ?_))))))
  refine run_seq (qN rfl (qm rfl (qm rfl (qV (yne rfl rfl) (rFalse (by (first | exact fun h => h rfl | assumption | omega)) ?_)))))
  refine qm rfl (qm rfl (qV (yln U45 rfl) (qm rfl (qV (yln U30 rfl) (qV (yne rfl rfl) (rFalse (by (first | exact fun h => h rfl | assumption | omega)) ?_))))))
  refine qV (ypF rfl rfl) (rEnd (run_false rfl (run_skip (run_seq (qN rfl (qa rfl (rEnd (run_block (run_loop (α := Unit) (()) (fun _ => [(5, .slice none 0 0), (7, .slice none 0 0), (9, I 0)]) (fun _ w' => w' = w3) (fun _ => 0) (by repeat (first | exact Sub.nil | refine Sub.cons rfl ?_)) ?hI ?hround)))))))))
  case hI => rfl
  case hround =>
   rintro ⟨⟩ w4 rfl ih
   try dsimp only
   refine run_seq (qN rfl (qm rfl (qm rfl (qV (yln U30 rfl) (qV (ylt rfl rfl) (rEnd (run_if rfl (fun hlt => ?_) (fun hlt => ?_))))))))
   ·exact absurd hlt (by decide)
   ·refine run_exit rfl (qN rfl (qa rfl (rEnd (run_ret Tryz.func26 rfl ?_))))
    exact ⟨_, rfl, rfl, ((hx1.trans hx12).trans (hg2.trans hx3))⟩
 ·obtain ⟨R, hR⟩ : ∃ R, rangeE X.es key n.toNat = R := ⟨_, rfl⟩
  have hRd : (X.es.drop (posE X.es key)).take n.toNat = R := by rw [← rangeE_drop hri]; exact hR
  rw [hR] at hL
  have hRl : R.length ≤ 1000000 := by
   have : R.length ≤ X.es.length := by rw [← hRd, List.length_take, List.length_drop]; omega
   omega
  obtain ⟨xa, xq2, rfl⟩ := some_ofE hL
  refine qt 9 rfl (ymv rfl) (hg.trans hx2) (qt 10 rfl (yex rfl rfl) (hg.trans hx2) (qt 11 rfl (yex rfl rfl) (hg.trans hx2) (qt 12 rfl (yas rfl) (hg.trans hx2) (qt 13 rfl (yas rfl) (hg.trans hx2) (qE (run_seq (run_draw (fun w' => Ext w2 w') (by kernel_rfl) rfl (qt 0 rfl (ymv rfl) hg2 (qt 1 rfl (ynk rfl) hg2 (qt 2 rfl (yfa fl36_2 rfl) hg2 (qT 3 rfl (fun _ hS => (by first | exact yld U29 rfl rfl (hS.blk hB2) rfl | exact yld U29 rfl rfl (hS.blk hB32) rfl)) hg2 ?_)))))))))))
  refine qt 4 rfl (yfa fl39_1 rfl) hg2 (qT 5 rfl (fun _ hS => (by first | exact yld U9 rfl rfl (hS.blk hB2) rfl | exact yld U9 rfl rfl (hS.blk hB32) rfl)) hg2 ?_)
  refine qt 6 rfl (yfa fl39_3 rfl) hg2 (qT 7 rfl (fun _ hS => (by first | exact yld U3 rfl rfl (hS.blk hB2) rfl | exact yld U3 rfl rfl (hS.blk hB32) rfl)) hg2 ?_)
  refine qO 8 (nCall (i := 8) rfl rfl rfl (yc (args := [.tmp 26, .tmp 28, .tmp 30]) cf60 rfl) (rangeM_ret (hM2.map.ext hg2) key n) ?_)
  rintro v3 w3 ⟨hx3, hv3⟩
  refine ⟨hg2.trans hx3, ?_⟩
  obtain ⟨rv, rfl, hRv, hro⟩ : ∃ rv, v3 = .tuple #[rv, I 0] ∧ Rd w3 rv 2 R.length (esC R) ∧ ∀ g, rv.ownBlock = some g → mv.ownBlock = some g := by
   rcases hv3 with ⟨h, -⟩ | ⟨-, rv, h1, h2, h3⟩
   ·omega
   ·rw [hRd] at h2
    exact ⟨rv, h1, h2, h3⟩
  obtain ⟨ra, rc2, rfl, -⟩ := hRv.shape
  have hx23 := hg2.trans hx3
  have hL3 := hL.ext hx23
  have hz1 := hx1.size
  have hz2 := hx12.size
  have hz3 := hx23.size
  refine qt 9 rfl (ymv rfl) (hg2.trans hx3) (qt 10 rfl (yex rfl rfl) (hg2.trans hx3) (qt 11 rfl (yex rfl rfl) (hg2.trans hx3) (qt 12 rfl (yas rfl) (hg2.trans hx3) (qt 13 rfl (yas rfl) (hg2.trans hx3) (qE (Run.qb (e := [(4, _), (5, _), (6, _), (7, _), (8, _)]) ?_))))))
  refine run_seq (qN rfl (qm rfl (qm rfl (qV (yne rfl rfl) (rFalse (by (first | exact fun h => h rfl | assumption | omega)) ?_)))))
  refine qm rfl (qm rfl (qV (yln U45 rfl) (qm rfl (qV (yln U30 rfl) (qV (yne rfl rfl) (rFalse (by (first | exact fun h => h rfl | assumption | omega)) ?_))))))
  refine qV (ypF rfl rfl) (rEnd (run_false rfl (run_skip (run_seq (qN rfl (qa rfl (rEnd (run_block ?_))))))))
  rcases hL3.shape with ⟨e, e0⟩ | ⟨gl, cap, e, hcap⟩
  ·refine run_loop (α := Unit) (()) (fun _ => [(5, .slice xa R.length xq2), (7, .slice ra R.length rc2), (9, I 0)]) (fun _ w' => w' = w3) (fun _ => 0) (by repeat (first | exact Sub.nil | refine Sub.cons rfl ?_)) ?hI ?hround
   case hI => rfl
   case hround =>
    rintro ⟨⟩ w4 rfl ih
    try dsimp only
    refine run_seq (qN rfl (qm rfl (qm rfl (qV (yln U30 rfl) (qV (ylt rfl rfl) (rEnd (run_if rfl (fun hlt => ?_) (fun hlt => ?_))))))))
    ·omega
    ·refine run_exit rfl (qN rfl (qa rfl (rEnd (run_ret Tryz.func26 rfl ?_))))
     exact ⟨_, rfl, rfl, (hx1.trans hx12).trans hx23⟩
  ·cases e
   obtain ⟨cur, hrow, -, -, hcl, hct⟩ := hL3.row
   have hBl := hrow.blk
   have hgl1 : w1.drew.heap.size ≤ gl := hlo gl rfl
   have hlg := hBl.lt
   have hdz := hg.size
   have hcur : ∀ (j : Nat) (y : Bytes × Bytes), R[j]? = some y → cur[2 * j]? = some (S y.1) ∧ cur[2 * j + 1]? = some (S y.2) := fun j y hy => by
    obtain ⟨f1, f2⟩ := flat2 (fun x : Bytes × Bytes => S x.1) (fun x : Bytes × Bytes => S x.2) R j
    rw [hy] at f1 f2
    have hj := (List.getElem?_eq_some_iff.1 hy).1
    have g1 : (esC R)[2 * j]? = some (S y.1) := f1
    have g2 : (esC R)[2 * j + 1]? = some (S y.2) := f2
    rw [← hct, List.getElem?_take] at g1 g2
    rw [if_pos (by omega)] at g1 g2
    exact ⟨g1, g2⟩
   have hxw3 : Ext w w3 := (hx1.trans hx12).trans hx23
   refine run_loop (α := Nat) (0) (fun i => [(5, .slice (some ⟨gl, 0, none⟩) R.length xq2), (7, .slice ra R.length rc2), (9, I (i : Int))]) (fun i w' => i ≤ R.length ∧ Kp (fun k => k = gl) w3 w' ∧ ∃ cur', Blk w' gl cur' 49 ∧ cur'.length = cur.length ∧ ∀ (j : Nat) (y : Bytes × Bytes), i ≤ j → R[j]? = some y → cur'[2 * j]? = some (S y.1) ∧ cur'[2 * j + 1]? = some (S y.2)) (fun i => R.length - i) (by repeat (first | exact Sub.nil | refine Sub.cons rfl ?_)) ?hI ?hround
   case hI => exact ⟨Nat.zero_le _, Kp.refl _ _, cur, hBl, rfl, fun j y _ hy => hcur j y hy⟩
   case hround =>
    rintro i w4 ⟨hi, hk4, cur4, hB4, hcl4, hc4⟩ ih
    try dsimp only
    refine run_seq (qN rfl (qm rfl (qm rfl (qV (yln U30 rfl) (qV (ylt rfl rfl) (rEnd (run_if rfl (fun hlt => ?_) (fun hlt => ?_))))))))
    ·have hi' : i < R.length := by omega
     obtain ⟨y, hy⟩ : ∃ y, R[i]? = some y := ⟨_, List.getElem?_eq_getElem hi'⟩
     obtain ⟨y1, y2⟩ := hc4 i y (Nat.le_refl _) hy
     have hR4 : Rd w4 (.slice ra R.length rc2) 2 R.length (esC R) := Rd.kpz hRv hk4 (fun h0 g hg e => by
      have h7 := hM.lt (k := g) (.inr (.inr (.inl (hro g hg))))
      omega)
     obtain ⟨b1, o1, y', rfl, -⟩ := rd_ens hR4 rfl hi'
     have hg4 : Ext w4 w4.drew := Ext.drew0 w4
     refine run_skip (run_seq (run_block (run_seq (run_seq (run_draw (fun w' => Ext w4 w') (by kernel_rfl) rfl ?_)))))
     have hc0 : ∀ w', Ext w4 w' → w'.cell? ⟨gl, 0 + i * 2, none⟩ = some (S y.1) := fun w' hx => by rw [(hx.blk hB4).cell, Nat.zero_add, Nat.mul_comm]; exact y1
     have hc1 : ∀ w', Ext w4 w' → w'.cell? ⟨gl, 0 + i * 2 + 1, none⟩ = some (S y.2) := fun w' hx => by rw [(hx.blk hB4).cell, Nat.zero_add, Nat.mul_comm]; exact y2
     refine qt 0 rfl (ymv rfl) hg4 (qt 1 rfl (ymv rfl) hg4 (qt 2 rfl (yis U45 ti49 rfl rfl (by omega)) hg4 (qt 3 rfl (yfa fl49_0 rfl) hg4 (qt 5 rfl (ymv rfl) hg4 (qt 6 rfl (ymv rfl) hg4 (qt 7 rfl (yis U30 ti41 rfl rfl (by omega)) hg4 (qt 8 rfl (yfa fl41_0 rfl) hg4 (qT 4 rfl (fun _ hS => yldc U9 rfl rfl (hc0 _ hS)) hg4 (qT 9 rfl (fun _ hS => yldc U9 rfl rfl (rd_en0 (hR4.ext hS) hi' hy)) hg4 (qt 10 rfl (yneS rfl rfl) hg4 (qt 11 rfl (ymv rfl) hg4 (rh_bool (fun h5 => ?_) (fun h5 => ?_)))))))))))))
     ·simp at h5
     ·refine qt 12 rfl (ymv rfl) hg4 (qt 13 rfl (ymv rfl) hg4 (qt 14 rfl (yis U45 ti49 rfl rfl (by omega)) hg4 (qt 15 rfl (yfa fl49_1 rfl) hg4 (qt 17 rfl (ymv rfl) hg4 (qt 18 rfl (ymv rfl) hg4 (qt 19 rfl (yis U30 ti41 rfl rfl (by omega)) hg4 (qt 20 rfl (yfa fl41_1 rfl) hg4 (qT 16 rfl (fun _ hS => yldc U9 rfl rfl (hc1 _ hS)) hg4 (qT 21 rfl (fun _ hS => yldc U9 rfl rfl (rd_en1 (hR4.ext hS) hi' hy)) hg4 (qt 22 rfl (yneS rfl rfl) hg4 (qt 23 rfl (ypF rfl rfl) hg4 (qE (run_cond rfl (fun h6 => ?_) (fun h6 => ?_))))))))))))))
      ·simp at h6
      ·refine run_skip (run_reg rfl (qm rfl (qm rfl (qV (yis U45 ti49 rfl rfl (by omega)) (qV (yfa fl49_0 rfl) (rEffP rfl (zst ti9 rfl rfl rfl (hg4.blk hB4) (by omega)) ?_))))))
       rintro w5 ⟨hB5, hk5⟩
       refine rEnd (run_inBlock (run_reg rfl (qm rfl (qV (yad rfl rfl (by omega)) (qa rfl (rEnd ((ih (i + 1) w5 ⟨by omega, hk4.trans (hg4.kp.trans hk5), _, hB5, by rw [List.length_set]; exact hcl4, fun j y' hj hy' => ?_⟩ (by omega)).qb)))))))
       have := hc4 j y' (by omega) hy'
       rw [List.getElem?_set_ne (by omega), List.getElem?_set_ne (by omega)]
       exact this
    ·refine run_exit rfl (qN rfl (qa rfl (rEnd (run_ret Tryz.func26 rfl ?_))))
     exact ⟨_, rfl, rfl, hxw3.trans_new hk4 (fun i hi => by omega)⟩
end
theorem flat_nth {α : Type} {f : α → List Value} {k : Nat} (hf : ∀ a, (f a).length = k) : ∀ (l : List α) (i r : Nat), r < k → (l.flatMap f)[i * k + r]? = (l[i]?).bind fun a => (f a)[r]?
 | [], i, r, hr => by simp
 | a :: l, 0, r, hr => by
   rw [List.flatMap_cons, Nat.zero_mul, Nat.zero_add, List.getElem?_append_left (by rw [hf]; exact hr)]
   rfl
 | a :: l, i + 1, r, hr => by
   rw [List.flatMap_cons, List.getElem?_append_right (by rw [hf, Nat.succ_mul]; omega), hf, show (i + 1) * k + r - k = i * k + r by rw [Nat.succ_mul]; omega, flat_nth hf l i r hr]
   rfl
structure TOp where
 kd : Int
 key : Bytes
 val : Bytes
 n : Int
 nos : List Int
 auto : Bool
 nv : Value
def TOp.cs (o : TOp) : List Value := opC o.kd o.key o.val o.n o.nv o.auto
structure OpsT (w : World) (v : Value) (l : List TOp) : Prop where
 rd : Rd w v 6 l.length (l.flatMap TOp.cs)
 le : l.length ≤ 140737488355328
 nos : ∀ o ∈ l, Rd w o.nv 1 o.nos.length (o.nos.map I) ∧ o.nos.length ≤ 17592186044415 ∧ ∃ a c, o.nv = .slice a o.nos.length c ∧ o.nos.length ≤ c
 str : ∀ o ∈ l, o.key.length ≤ 140737488355328 ∧ o.val.length ≤ 140737488355328 ∧ o.n ≤ 9223372036854775807
theorem OpsT.ext {w w' : World} {v : Value} {l : List TOp} (h : OpsT w v l) (k : Ext w w') : OpsT w' v l := ⟨h.rd.ext k, h.le, fun o ho => ⟨(h.nos o ho).1.ext k, (h.nos o ho).2⟩, h.str⟩
theorem rd_op {w : World} {b off n cap : Nat} {l : List TOp} {i : Nat} {o : TOp} (h : Rd w (.slice (some ⟨b, off, none⟩) n cap) 6 n (l.flatMap TOp.cs)) (hi : i < n) (hy : l[i]? = some o) (r : Nat) (hr : r < 6) : w.cell? ⟨b, off + i * 6 + r, none⟩ = o.cs[r]? := by
 rcases h.2 with ⟨c, -, h0⟩ | ⟨b', off', cap', hv, hc⟩
 ·omega
 ·cases hv
  have e := flat_nth (f := TOp.cs) (k := 6) (fun a => rfl) l i r hr
  rw [hy] at e
  have e' : (l.flatMap TOp.cs)[i * 6 + r]? = o.cs[r]? := e
  have hlt : r < o.cs.length := hr
  rw [List.getElem?_eq_getElem hlt] at e' ⊢
  have := hc _ _ e'
  rw [Nat.add_assoc]; exact this
theorem rd_ops {w : World} {a : Option Addr} {cap n : Nat} {l : List TOp} {i : Nat} (h : Rd w (.slice a n cap) 6 n (l.flatMap TOp.cs)) (hn : n = l.length) (hi : i < n) : ∃ b off o, a = some ⟨b, off, none⟩ ∧ l[i]? = some o := by
 rcases h.2 with ⟨c, -, h0⟩ | ⟨b', off', cap', hv, hc⟩
 ·omega
 ·cases hv
  exact ⟨b', off', _, rfl, List.getElem?_eq_getElem (by omega)⟩
section
variable {w w' w0 : World} {q : Nat} {X : Sx} {p m : Nat} {mv sv gv : Value} {nb : Int → Nat} {F : Nat → Prop} {S : Nat → Prop}
theorem StM.kp (h : StM w q X p m mv sv gv nb F) (k : Kp S w w') (hn : ∀ k, fpS q m mv sv gv F k → ¬ S k) : StM w' q X p m mv sv gv nb F :=
 ⟨k.blk h.blk (hn _ (.inl rfl)), h.tree.kp k (fun g hg => hn g (.inr (.inr (.inr (.inr (.inr hg)))))), h.map.kp k (hn _ (.inr (.inl rfl))) (fun g hg => hn g (.inr (.inr (.inl hg)))), h.sto.kp k (fun g hg => hn g (.inr (.inr (.inr (.inl hg))))), h.giv.kp k (fun g hg => hn g (.inr (.inr (.inr (.inr (.inl hg)))))), h.qm, h.fq, h.fm, h.ov, h.og⟩
theorem StM.init {z : Nat} (hT : TreeA w p (Tr0 z) nb F) (hm : Blk w m [.slice none 0 0] 32) (hB : Blk w q [I (z : Int), ptr p 0, ptr m 0, .slice none 0 0, .slice none 0 0, I 0] 36) (hqm : q ≠ m) (hq : ¬ F q) (hmF : ¬ F m) :
  StM w q ⟨Tr0 z, 0, [], [], fun _ => none, [], [], 0⟩ p m (.slice none 0 0) (.slice none 0 0) (.slice none 0 0) nb F :=
 ⟨hB, hT, ⟨hm, Sl.nil _ _ _, by simp [Value.ownBlock], by simp⟩, by
  have e : pgs z (fun _ => none) [] (fun _ => true) = [] := List.eq_nil_of_length_eq_zero (by rw [pgs_all_len]; rfl)
  show Sl w _ _ 2 (pgs z (fun _ => none) [] (fun _ => true)).length (pgC (pgs z (fun _ => none) [] (fun _ => true)))
  rw [e]
  exact Sl.nil _ _ _, Sl.nil _ _ _, hqm, hq, hmF, fun g hg => by simp [Value.ownBlock] at hg, fun g hg => by simp [Value.ownBlock] at hg⟩
end
def St2 (w0 w : World) (qa pa ma qb pb mb : Nat) (Xa Xb : Sx) : Prop := ∃ mva sva gva nba Fa mvb svb gvb nbb Fb, StM w qa Xa pa ma mva sva gva nba Fa ∧ StM w qb Xb pb mb mvb svb gvb nbb Fb ∧ (∀ k, fpS qa ma mva sva gva Fa k → w0.heap.size ≤ k) ∧ (∀ k, fpS qb mb mvb svb gvb Fb k → w0.heap.size ≤ k) ∧ (∀ k, fpS qa ma mva sva gva Fa k → ¬ fpS qb mb mvb svb gvb Fb k) ∧ Ext w0 w
section
variable {w0 w w' : World} {qa pa ma qb pb mb : Nat} {Xa Xb Xa' : Sx}
theorem St2.symm (h : St2 w0 w qa pa ma qb pb mb Xa Xb) : St2 w0 w qb pb mb qa pa ma Xb Xa := by
 obtain ⟨mva, sva, gva, nba, Fa, mvb, svb, gvb, nbb, Fb, h1, h2, h3, h4, h5, h6⟩ := h
 exact ⟨mvb, svb, gvb, nbb, Fb, mva, sva, gva, nba, Fa, h2, h1, h4, h3, fun k hk hk' => h5 k hk' hk, h6⟩
theorem St2.ext (h : St2 w0 w qa pa ma qb pb mb Xa Xb) (k : Ext w w') : St2 w0 w' qa pa ma qb pb mb Xa Xb := by
 obtain ⟨mva, sva, gva, nba, Fa, mvb, svb, gvb, nbb, Fb, h1, h2, h3, h4, h5, h6⟩ := h
 exact ⟨mva, sva, gva, nba, Fa, mvb, svb, gvb, nbb, Fb, h1.ext k, h2.ext k, h3, h4, h5, h6.trans k⟩
end
theorem giveOk_nil (T : Tr) : giveOk T [] := ⟨List.nodup_nil, by simp⟩
theorem giveOk_snoc {T : Tr} {l : List Int} {x : Int} : giveOk T (l ++ [x]) ↔ giveOk T l ∧ x ∉ l ∧ (1 ≤ x ∧ x ≤ 2147483647) ∧ T.nodes x = none ∧ T.old x = false ∧ x ∉ T.given := by
 unfold giveOk
 constructor
 ·rintro ⟨h1, h2⟩
  obtain ⟨n1, -, n3⟩ := List.nodup_append.1 h1
  exact ⟨⟨n1, fun y hy => h2 y (List.mem_append_left _ hy)⟩, fun e => n3 x e x (List.mem_singleton.2 rfl) rfl, h2 x (List.mem_append_right _ (List.mem_singleton.2 rfl))⟩
 ·rintro ⟨⟨h1, h2⟩, h3, h4⟩
  refine ⟨List.nodup_append.2 ⟨h1, List.nodup_cons.2 ⟨List.not_mem_nil, List.nodup_nil⟩, fun a ha b hb e => ?_⟩, fun y hy => ?_⟩
  ·rw [List.mem_singleton.1 hb] at e; exact h3 (e ▸ ha)
  ·rcases List.mem_append.1 hy with hy | hy
   ·exact h2 y hy
   ·rw [List.mem_singleton.1 hy]; exact h4
section
variable {w w' : World} {q : Nat} {X : Sx} {p m : Nat} {mv sv gv : Value} {nb : Int → Nat} {F : Nat → Prop}
theorem StM.reset (h : StM w q X p m mv sv gv nb F) {T' : Tr} {p' : Nat} {nb' : Int → Nat} {F' : Nat → Prop} {O' : Nodes} {os' gs' : List Int} {sv' gv' : Value} (hkk : Kp (fun k => F k ∨ k = q) w w')
  (hB : Blk w' q [I (X.T.size : Int), ptr p' 0, ptr m 0, sv', gv', I (X.nx : Int)] 36) (hT : TreeA w' p' T' nb' F') (hs : T'.size = X.T.size) (hF : ∀ k, F' k → F k ∨ w.heap.size ≤ k)
  (hS : Sl w' sv' 54 2 (pgs X.T.size O' os' fun _ => true).length (pgC (pgs X.T.size O' os' fun _ => true))) (hG : Sl w' gv' 3 1 gs'.length (gs'.map I))
  (hn : ∀ g, sv'.ownBlock = some g ∨ gv'.ownBlock = some g → w.heap.size ≤ g ∧ ¬ F' g) (hne : ∀ g, gv'.ownBlock = some g → sv'.ownBlock ≠ some g) :
  StM w' q { X with T := T', O := O', os := os', gs := gs' } p' m mv sv' gv' nb' F' ∧ Kp (fpS q m mv sv gv F) w w' ∧ ∀ k, fpS q m mv sv' gv' F' k → fpS q m mv sv gv F k ∨ w.heap.size ≤ k := by
 have hq := h.blk.lt
 have hm := h.map.blk.lt
 have hfq : ¬ F' q := fun e => (hF q e).elim h.fq (fun e => by omega)
 have hfm : ¬ F' m := fun e => (hF m e).elim h.fm (fun e => by omega)
 have hmv : ∀ g, mv.ownBlock = some g → ¬ F' g := fun g hg e => (hF g e).elim (h.ov g (.inl hg)).2.2 (fun e => by have := h.map.sl.lt hg; omega)
 refine ⟨⟨?_, hT, h.map.kp hkk (fun e => e.elim h.fm (fun e => h.qm e.symm)) (fun g hg e => e.elim (h.ov g (.inl hg)).2.2 (h.ov g (.inl hg)).1), ?_, hG, h.qm, hfq, hfm, fun g hg => ?_, fun g hg => ⟨fun e => ?_, hne g hg⟩⟩, hkk.mono' (fun k e => e.elim (fun e => .inr (.inr (.inr (.inr (.inr e))))) .inl), fun k hk => ?_⟩
 ·dsimp only; rw [hs]; exact hB
 ·dsimp only; rw [hs]; exact hS
 ·rcases hg with hg | hg
  ·exact ⟨(h.ov g (.inl hg)).1, (h.ov g (.inl hg)).2.1, hmv g hg⟩
  ·have := hn g hg
   exact ⟨by omega, by omega, this.2⟩
 ·have := h.map.sl.lt e
  have := (hn g (.inr hg)).1
  omega
 ·rcases hk with hk | hk | hk | hk | hk | hk
  ·exact .inl (.inl hk)
  ·exact .inl (.inr (.inl hk))
  ·exact .inl (.inr (.inr (.inl hk)))
  ·exact .inr (hn k (.inl hk)).1
  ·exact .inr (hn k (.inr hk)).1
  ·exact (hF k hk).imp (fun e => .inr (.inr (.inr (.inr (.inr e))))) id
end
/-! ### Pages turned round in place -/
def PgB (cur : List Value) (l : Pgs) : Prop := 2 * l.length ≤ cur.length ∧ ∀ (j : Nat) (y : Int × Bytes), l[j]? = some y → cur[2 * j]? = some (I y.1) ∧ cur[2 * j + 1]? = some (S y.2)
theorem PgB.set {cur : List Value} {l : Pgs} (h : PgB cur l) {i : Nat} (y : Int × Bytes) (hi : i < l.length) : PgB (splice cur (2 * i) [I y.1, S y.2]) (l.set i y) := by
 obtain ⟨h1, h2⟩ := h
 have hle : 2 * i + [I y.1, S y.2].length ≤ cur.length := by simp; omega
 refine ⟨by rw [splice_length _ _ _ hle, List.length_set]; exact h1, fun j z hz => ?_⟩
 rw [splice_get _ _ _ _ hle, splice_get _ _ _ _ hle]
 simp only [List.length_cons, List.length_nil]
 by_cases e : j = i
 ·subst e
  rw [List.getElem?_set_self hi] at hz
  cases hz
  rw [if_pos (by omega), if_pos (by omega), Nat.sub_self, show 2 * j + 1 - 2 * j = 1 by omega]
  exact ⟨rfl, rfl⟩
 ·rw [List.getElem?_set_ne (fun e' => e e'.symm)] at hz
  rw [if_neg (by omega), if_neg (by omega)]
  exact h2 j z hz
theorem pgC_get {l : Pgs} {j : Nat} {y : Int × Bytes} (h : l[j]? = some y) : (pgC l)[2 * j]? = some (I y.1) ∧ (pgC l)[2 * j + 1]? = some (S y.2) := by
 have f1 := flat_nth (f := fun x : Int × Bytes => [I x.1, S x.2]) (k := 2) (fun _ => rfl) l j 0 (by omega)
 have f2 := flat_nth (f := fun x : Int × Bytes => [I x.1, S x.2]) (k := 2) (fun _ => rfl) l j 1 (by omega)
 rw [h] at f1 f2
 rw [Nat.mul_comm 2 j]
 exact ⟨f1, f2⟩
theorem PgB.mk' {cur : List Value} {l : Pgs} {n : Nat} (h : cur.take n = pgC l) (hn : n = l.length * 2) (hl : n ≤ cur.length) : PgB cur l := by
 refine ⟨by omega, fun j y hy => ?_⟩
 have hj := (List.getElem?_eq_some_iff.1 hy).1
 obtain ⟨g1, g2⟩ := pgC_get hy
 rw [← h, List.getElem?_take, if_pos (by omega)] at g1 g2
 exact ⟨g1, g2⟩
theorem PgB.rd {cur : List Value} {l : Pgs} (h : PgB cur l) {w : World} {b cap : Nat} {T : TypeId} (hB : Blk w b cur T) : Rd w (.slice (some ⟨b, 0, none⟩) l.length cap) 2 l.length (pgC l) := by
 refine ⟨by rw [pgC_len], .inr ⟨b, 0, cap, rfl, fun j u hj => ?_⟩⟩
 rw [hB.cell, Nat.zero_add]
 have hjl : j < (pgC l).length := (List.getElem?_eq_some_iff.1 hj).1
 rw [pgC_len] at hjl
 obtain ⟨y, hy⟩ : ∃ y, l[j / 2]? = some y := ⟨_, List.getElem?_eq_getElem (by omega)⟩
 obtain ⟨g1, g2⟩ := pgC_get hy
 obtain ⟨c1, c2⟩ := h.2 _ _ hy
 rcases Nat.mod_two_eq_zero_or_one j with e | e
 ·rw [show 2 * (j / 2) = j by omega] at g1 c1
  rw [c1, ← hj, g1]
 ·rw [show 2 * (j / 2) + 1 = j by omega] at g2 c2
  rw [c2, ← hj, g2]
def RvI (l c : Pgs) (i : Nat) : Prop := c.length = l.length ∧ ∀ j, j < l.length → c[j]? = if j < i ∨ l.length - i ≤ j then l[l.length - 1 - j]? else l[j]?
theorem RvI.zero (l : Pgs) : RvI l l 0 := ⟨rfl, fun j hj => by rw [if_neg (by omega)]⟩
theorem RvI.step {l c : Pgs} {i : Nat} (h : RvI l c i) (hi : 2 * i + 1 < l.length) {a b : Int × Bytes} (ha : c[i]? = some a) (hb : c[l.length - 1 - i]? = some b) : RvI l ((c.set i b).set (l.length - 1 - i) a) (i + 1) := by
 obtain ⟨h1, h2⟩ := h
 refine ⟨by rw [List.length_set, List.length_set, h1], fun j hj => ?_⟩
 rw [h2 i (by omega), if_neg (by omega)] at ha
 rw [h2 (l.length - 1 - i) (by omega), if_neg (by omega)] at hb
 by_cases e1 : j = l.length - 1 - i
 ·subst e1
  rw [List.getElem?_set_self (by rw [List.length_set, h1]; omega), if_pos (by omega), show l.length - 1 - (l.length - 1 - i) = i by omega, ha]
 ·rw [List.getElem?_set_ne (fun e => e1 e.symm)]
  by_cases e2 : j = i
  ·subst e2
   rw [List.getElem?_set_self (by rw [h1]; omega), if_pos (by omega), hb]
  ·rw [List.getElem?_set_ne (fun e => e2 e.symm), h2 j hj]
   by_cases e3 : j < i ∨ l.length - i ≤ j
   ·rw [if_pos e3, if_pos (by omega)]
   ·rw [if_neg e3, if_neg (by omega)]
theorem RvI.fin {l c : Pgs} {i : Nat} (h : RvI l c i) (hi : l.length ≤ 2 * i + 1) : c = l.reverse := by
 obtain ⟨h1, h2⟩ := h
 apply List.ext_getElem?
 intro j
 by_cases hj : j < l.length
 ·rw [h2 j hj, List.getElem?_reverse hj]
  by_cases e3 : j < i ∨ l.length - i ≤ j
  ·rw [if_pos e3]
  ·rw [if_neg e3, show l.length - 1 - j = j by omega]
 ·rw [List.getElem?_eq_none (by omega), List.getElem?_eq_none (by rw [List.length_reverse]; omega)]
theorem rd_takeI {w : World} {b off n cap i : Nat} {l : List Int} (h : Rd w (.slice (some ⟨b, off, none⟩) n cap) 1 n (l.map I)) (hi : i ≤ l.length) (hn : n = l.length) (c : Nat) : Rd w (.slice (some ⟨b, off, none⟩) i c) 1 (l.take i).length ((l.take i).map I) := by
 rw [List.length_take, Nat.min_eq_left hi]
 refine ⟨by rw [List.length_map, List.length_take]; omega, .inr ⟨b, off, c, rfl, fun j u hj => ?_⟩⟩
 rcases h.2 with ⟨c', -, h0⟩ | ⟨b', off', cap', hv, hc⟩
 ·rw [hn] at h0
  have : j < ((l.take i).map I).length := (List.getElem?_eq_some_iff.1 hj).1
  rw [List.length_map, List.length_take] at this
  omega
 ·cases hv
  refine hc j u ?_
  rw [List.map_take, List.getElem?_take] at hj
  split at hj
  ·exact hj
  ·cases hj
section
variable {w : World} {q : Nat} {X : Sx} {p m : Nat} {mv sv gv : Value} {nb : Int → Nat} {F : Nat → Prop} {k : Nat}
set_option maxHeartbeats 8000000 in
theorem giveS_ret (hM : StM w q X p m mv sv gv nb F) (hG : Gh X k) (hz : sizeOk (X.T.size : Int)) (hk : k ≤ 340) {la : Option Addr} {lc : Nat} {l : List Int} (hR : Rd w (.slice la l.length lc) 1 l.length (l.map I)) (hl : l.length ≤ 17592186044415) (hc : l.length ≤ lc) (hd : 0 < l.length → ∀ g, (Value.slice la l.length lc).ownBlock = some g → ¬ fpS q m mv sv gv F g) :
  Ret Tryz.prog 57 [ptr q 0, .slice la l.length lc] w fun v w' => v = .bool true ∧ ∃ X' gv' F', StM w' q X' p m mv sv gv' nb F' ∧ Gh X' (k + 1) ∧ X'.T.size = X.T.size ∧ X'.es = X.es ∧ Kp (fpS q m mv sv gv F) w w' ∧ ∀ k, fpS q m mv sv gv' F' k → fpS q m mv sv gv F k ∨ w.heap.size ≤ k := by
 have hI := hG.inv
 have hcn := Inv.cnts hz hI
 have hel := hG.el
 have hol := hG.ol
 have hggl := hG.gl
 have hgl := hI.gl
 have hml : maxLen = 9223372036854775807 := rfl
 have hnd := hI.nodup
 obtain ⟨P, hP⟩ : ∃ P, (pgs X.T.size X.T.nodes X.ns fun _ => true) = P := ⟨_, rfl⟩
 have hPl : P.length = X.ns.length := by rw [← hP, pgs_all_len]
 have hPm : ∀ x, x ∈ P.map (·.1) ↔ X.T.nodes x ≠ none := fun x => by
  rw [← hP, pgs_fst, List.mem_filter, sortZ_mem, hI.mem x]; simp
 have hB := hM.blk
 refine ret_of_run (e := [(0, _), (1, _)]) Tryz.func57 rfl Tryz.ntmps57 rfl rfl (qN rfl (qa rfl (qM rfl (qm rfl (qV (ynk rfl) (qV (yfa fl36_1 rfl) (qV (yld U24 rfl rfl hB rfl) (rCall rfl rfl (yc (args := [.tmp 17]) cf22 rfl) (pages_ret hM.tree hI (by omega)) ?_))))))))
 rintro v1 w1 ⟨hx1, hS1, -⟩
 rw [hP] at hS1
 refine rCall rfl rfl (yc (args := [.tmp 18]) cf29 rfl) (pagesL_ret (Sl.rd hS1) (by omega)) ?_
 rintro v2 w2 ⟨hx2, hS2, -⟩
 obtain ⟨pa, pc, rfl⟩ := some_ofE hS2
 have hx02 := hx1.trans hx2
 have hM2 := hM.ext hx02
 have hB2 := hM2.blk
 refine qa rfl (qM rfl (qm rfl (qV (ynk rfl) (qV (yfa fl36_1 rfl) (qV (yld U24 rfl rfl hB2 rfl) (rCall rfl rfl (yc (args := [.tmp 23]) cf27 rfl) (given_ret hM2.tree (by omega)) ?_))))))
 rintro v3 w3 ⟨hS3, hx3, -⟩
 obtain ⟨fa, fc, rfl⟩ := some_ofE hS3
 have hM3 := hM2.ext hx3
 have hB3 := hM3.blk
 refine qa rfl (qM rfl (qm rfl (qV (ynk rfl) (qV (yfa fl36_1 rfl) (qV (yld U24 rfl rfl hB3 rfl) (rCall rfl rfl (yc (args := [.tmp 28]) cf28 rfl) (freed_ret hM3.tree (os := X.os) (fun x hx => (hG.om x).1 ((hG.old x).1 hx)) (by omega)) ?_))))))
 rintro v4 w4 ⟨hx4, fl, -, hfm, hfl, hS4, -⟩
 obtain ⟨ra, rc, rfl⟩ := some_ofE hS4
 have hx24 := hx3.trans hx4
 have hx04 := hx02.trans hx24
 have hM4 := hM3.ext hx4
 have hPr := (Sl.rd hS2).ext hx24
 have hFr := (Sl.rd hS3).ext hx4
 have hLr := Sl.rd hS4
 have hRw := hR.ext hx04
 refine qa rfl (qM rfl (qa rfl (rEnd (run_seq (qN rfl (qa rfl (rEnd (run_block (run_loop (α := Nat × Int) ((0, 0)) (fun x => [(0, ptr q 0), (1, .slice la l.length lc), (5, .slice pa P.length pc), (6, .slice fa X.T.given.length fc), (7, .slice ra fl.length rc), (8, I x.2), (9, I (x.1 : Int))]) (fun x w' => x.1 ≤ l.length ∧ Ext w4 w' ∧ ((x.2 = 0 ∧ giveOk X.T (l.take x.1)) ∨ (x.2 = 1 ∧ ¬ giveOk X.T (l.take x.1)))) (fun x => l.length - x.1) (by repeat (first | exact Sub.nil | refine Sub.cons rfl ?_)) ?hI ?hround)))))))))
 case hI => exact ⟨Nat.zero_le _, Ext.refl _, .inl ⟨rfl, giveOk_nil _⟩⟩
 case hround =>
  rintro ⟨i, wt⟩ w5 ⟨hi, hx5, hwt⟩ ih
  dsimp only at hi hwt
  try dsimp only
  refine run_seq (qN rfl (qm rfl (qm rfl (qV (yln U34 rfl) (qV (ylt rfl rfl) (rEnd (run_if rfl (fun hlt => ?_) (fun hlt => ?_))))))))
  ·have hi' : i < l.length := by omega
   obtain ⟨lb, lo, x, rfl, hx⟩ := rd_getI hR hi'
   have hg5 : Ext w5 w5.drew := Ext.drew0 w5
   have hx45 := hx5.trans hg5
   have hsn : giveOk X.T (l.take (i + 1)) ↔ giveOk X.T (l.take i) ∧ x ∉ l.take i ∧ (1 ≤ x ∧ x ≤ 2147483647) ∧ X.T.nodes x = none ∧ X.T.old x = false ∧ x ∉ X.T.given := by
    obtain ⟨_, e⟩ := List.getElem?_eq_some_iff.1 hx
    rw [List.take_succ_eq_append_getElem hi', e]; exact giveOk_snoc
   have hbad : ∀ {Q : Prop}, (giveOk X.T (l.take (i + 1)) → Q) → ¬ Q → ¬ giveOk X.T (l.take (i + 1)) := fun a b c => b (a c)
   have hRl : ∀ w', Ext w5 w' → Rd w' (.slice (some ⟨lb, lo, none⟩) l.length lc) 1 l.length (l.map I) := fun w' k => (hRw.ext hx5).ext k
   refine run_skip (run_seq (run_block (run_seq (run_draw (fun w' => Ext w5 w') (by kernel_rfl) rfl (qt 0 rfl (ymv rfl) hg5 (qt 1 rfl (ymv rfl) hg5 (qt 2 rfl (yis U34 ti3 rfl rfl (by omega)) hg5 (qT 3 rfl (fun _ hS => yldc U3 rfl rfl (rd_intT (hRl _ hS) hi' hx)) hg5 (qt 4 rfl (ylt rfl rfl) hg5 (qt 5 rfl (ymv rfl) hg5 (rh_if (fun c1 => ?_) (fun c1 => ?_))))))))))))
   ·refine qJ 6 rfl (hg5) (qJ 7 rfl (hg5) (qJ 8 rfl (hg5) (qJ 9 rfl (hg5) (qJ 10 rfl (hg5) (qt 11 rfl (ypT rfl rfl) hg5 (qt 12 rfl (ymv rfl) hg5 (qJ 13 rfl (hg5) (qJ 14 rfl (hg5) (qJ 15 rfl (hg5) (qJ 16 rfl (hg5) (qJ 17 rfl (hg5) (qJ 18 rfl (hg5) (qJ 19 rfl (hg5) ?_)))))))))))))
    refine qJ 20 rfl (hg5) (qt 21 rfl (ypT rfl rfl) hg5 (qt 22 rfl (ymv rfl) hg5 (qJ 23 rfl (hg5) (qJ 24 rfl (hg5) (qJ 25 rfl (hg5) (qJ 26 rfl (hg5) (qJ 27 rfl (hg5) (qJ 28 rfl (hg5) (qt 29 rfl (ypT rfl rfl) hg5 (qt 30 rfl (ymv rfl) hg5 (qJ 31 rfl (hg5) (qJ 32 rfl (hg5) (qJ 33 rfl (hg5) ?_)))))))))))))
    refine qJ 34 rfl (hg5) (qJ 35 rfl (hg5) (qJ 36 rfl (hg5) (qt 37 rfl (ypT rfl rfl) hg5 (qt 38 rfl (ymv rfl) hg5 (qJ 39 rfl (hg5) (qJ 40 rfl (hg5) (qJ 41 rfl (hg5) (qJ 42 rfl (hg5) (qJ 43 rfl (hg5) (qJ 44 rfl (hg5) (qt 45 rfl (ypT rfl rfl) hg5 (qE (run_true rfl ?_)))))))))))))
    refine run_reg rfl (qa rfl (rEnd (run_inBlock (run_reg rfl (qm rfl (qV (yad rfl rfl (by omega)) (qa rfl (rEnd ?_))))))))
    exact (ih (i + 1, 1) _ ⟨by dsimp only; omega, hx45, .inr ⟨rfl, fun e => by have := (hsn.1 e).2.2.1; omega⟩⟩ (by dsimp only; omega)).qb
   ·refine qt 6 rfl (ymv rfl) hg5 (qt 7 rfl (ymv rfl) hg5 (qt 8 rfl (yis U34 ti3 rfl rfl (by omega)) hg5 (qT 9 rfl (fun _ hS => yldc U3 rfl rfl (rd_intT (hRl _ hS) hi' hx)) hg5 (qt 10 rfl (ygt rfl rfl) hg5 (qt 11 rfl (ypF rfl rfl) hg5 (qt 12 rfl (ymv rfl) hg5 (rh_if (fun c2 => ?_) (fun c2 => ?_))))))))
    ·refine qJ 13 rfl (hg5) (qJ 14 rfl (hg5) (qJ 15 rfl (hg5) (qJ 16 rfl (hg5) (qJ 17 rfl (hg5) (qJ 18 rfl (hg5) (qJ 19 rfl (hg5) (qJ 20 rfl (hg5) (qt 21 rfl (ypT rfl rfl) hg5 (qt 22 rfl (ymv rfl) hg5 (qJ 23 rfl (hg5) (qJ 24 rfl (hg5) (qJ 25 rfl (hg5) (qJ 26 rfl (hg5) ?_)))))))))))))
     refine qJ 27 rfl (hg5) (qJ 28 rfl (hg5) (qt 29 rfl (ypT rfl rfl) hg5 (qt 30 rfl (ymv rfl) hg5 (qJ 31 rfl (hg5) (qJ 32 rfl (hg5) (qJ 33 rfl (hg5) (qJ 34 rfl (hg5) (qJ 35 rfl (hg5) (qJ 36 rfl (hg5) (qt 37 rfl (ypT rfl rfl) hg5 (qt 38 rfl (ymv rfl) hg5 (qJ 39 rfl (hg5) (qJ 40 rfl (hg5) ?_)))))))))))))
     refine qJ 41 rfl (hg5) (qJ 42 rfl (hg5) (qJ 43 rfl (hg5) (qJ 44 rfl (hg5) (qt 45 rfl (ypT rfl rfl) hg5 (qE (run_true rfl (run_reg rfl (qa rfl (rEnd (run_inBlock (run_reg rfl (qm rfl (qV (yad rfl rfl (by omega)) ?_)))))))))))))
     refine qa rfl (rEnd ?_)
     exact (ih (i + 1, 1) _ ⟨by dsimp only; omega, hx45, .inr ⟨rfl, fun e => by have := (hsn.1 e).2.2.1; omega⟩⟩ (by dsimp only; omega)).qb
    ·refine qt 13 rfl (ymv rfl) hg5 (qt 14 rfl (ymv rfl) hg5 (qt 16 rfl (ymv rfl) hg5 (qt 17 rfl (ymv rfl) hg5 (qt 18 rfl (yis U34 ti3 rfl rfl (by omega)) hg5 (qt 15 rfl (yslVt U34 ti3 rfl rfl (by omega)) hg5 (qT 19 rfl (fun _ hS => yldc U3 rfl rfl (rd_intT (hRl _ hS) hi' hx)) hg5 (qO 20 (nCall (i := 20) rfl rfl rfl (yc (args := [.tmp 51, .tmp 55]) cf33 rfl) (has_ret (l := l.take i) (rd_takeI (hRl _ hg5) hi rfl lc) (by rw [List.length_take]; omega) x) ?_))))))))
     rintro _ w6 ⟨rfl, hw6⟩
     refine ⟨(by rw [hw6]; exact hg5), ?_⟩
     have hx56 : Ext w5 w6 := by rw [hw6]; exact hg5
     refine qt 21 rfl (ypF rfl rfl) ((by rw [hw6]; exact hg5)) ?_
     refine qt 22 rfl (ymv rfl) ((by rw [hw6]; exact hg5)) ?_
     refine rh_if (fun c3 => ?_) (fun c3 => ?_)
     ·refine qJ 23 rfl ((by rw [hw6]; exact hg5)) ?_
      refine qJ 24 rfl ((by rw [hw6]; exact hg5)) ?_
      refine qJ 25 rfl ((by rw [hw6]; exact hg5)) ?_
      refine qJ 26 rfl ((by rw [hw6]; exact hg5)) ?_
      refine qJ 27 rfl ((by rw [hw6]; exact hg5)) ?_
      refine qJ 28 rfl ((by rw [hw6]; exact hg5)) ?_
      refine qt 29 rfl (ypT rfl rfl) ((by rw [hw6]; exact hg5)) ?_
      refine qt 30 rfl (ymv rfl) ((by rw [hw6]; exact hg5)) ?_
      refine qJ 31 rfl ((by rw [hw6]; exact hg5)) ?_
      refine qJ 32 rfl ((by rw [hw6]; exact hg5)) ?_
      refine qJ 33 rfl ((by rw [hw6]; exact hg5)) ?_
      refine qJ 34 rfl ((by rw [hw6]; exact hg5)) ?_
      refine qJ 35 rfl ((by rw [hw6]; exact hg5)) ?_
      refine qJ 36 rfl ((by rw [hw6]; exact hg5)) ?_
      refine qt 37 rfl (ypT rfl rfl) ((by rw [hw6]; exact hg5)) ?_
      refine qt 38 rfl (ymv rfl) ((by rw [hw6]; exact hg5)) ?_
      refine qJ 39 rfl ((by rw [hw6]; exact hg5)) ?_
      refine qJ 40 rfl ((by rw [hw6]; exact hg5)) ?_
      refine qJ 41 rfl ((by rw [hw6]; exact hg5)) ?_
      refine qJ 42 rfl ((by rw [hw6]; exact hg5)) ?_
      refine qJ 43 rfl ((by rw [hw6]; exact hg5)) ?_
      refine qJ 44 rfl ((by rw [hw6]; exact hg5)) ?_
      refine qt 45 rfl (ypT rfl rfl) ((by rw [hw6]; exact hg5)) ?_
      refine qE (run_true rfl (run_reg rfl (qa rfl (rEnd (run_inBlock (run_reg rfl (qm rfl (qV (yad rfl rfl (by omega)) (qa rfl (rEnd ?_))))))))))
      exact (ih (i + 1, 1) _ ⟨by dsimp only; omega, hx5.trans hx56, .inr ⟨rfl, fun e => (hsn.1 e).2.1 c3⟩⟩ (by dsimp only; omega)).qb
     ·refine qt 23 rfl (ymv rfl) ((by rw [hw6]; exact hg5)) ?_
      refine qt 24 rfl (ymv rfl) ((by rw [hw6]; exact hg5)) ?_
      refine qt 25 rfl (ymv rfl) ((by rw [hw6]; exact hg5)) ?_
      refine qt 26 rfl (yis U34 ti3 rfl rfl (by omega)) ((by rw [hw6]; exact hg5)) ?_
      refine qT 27 rfl (fun _ hS => yldc U3 rfl rfl (rd_intT (hRl _ hS) hi' hx)) ((by rw [hw6]; exact hg5)) ?_
      refine qO 28 (nCall (i := 28) rfl rfl rfl (yc (args := [.tmp 59, .tmp 63]) cf32 rfl) (page_ret (l := P) ((hPr.ext hx5).ext hx56) (by omega) x) ?_)
      rintro _ w7 ⟨rfl, hw7⟩
      refine ⟨(by rw [hw7]; exact hx56), ?_⟩
      have hx57 : Ext w5 w7 := by rw [hw7]; exact hx56
      refine qt 29 rfl (ypF rfl rfl) ((by rw [hw7]; exact hx56)) ?_
      refine qt 30 rfl (ymv rfl) ((by rw [hw7]; exact hx56)) ?_
      refine rh_if (fun c4 => ?_) (fun c4 => ?_)
      ·refine qJ 31 rfl ((by rw [hw7]; exact hx56)) ?_
       refine qJ 32 rfl ((by rw [hw7]; exact hx56)) ?_
       refine qJ 33 rfl ((by rw [hw7]; exact hx56)) ?_
       refine qJ 34 rfl ((by rw [hw7]; exact hx56)) ?_
       refine qJ 35 rfl ((by rw [hw7]; exact hx56)) ?_
       refine qJ 36 rfl ((by rw [hw7]; exact hx56)) ?_
       refine qt 37 rfl (ypT rfl rfl) ((by rw [hw7]; exact hx56)) ?_
       refine qt 38 rfl (ymv rfl) ((by rw [hw7]; exact hx56)) ?_
       refine qJ 39 rfl ((by rw [hw7]; exact hx56)) ?_
       refine qJ 40 rfl ((by rw [hw7]; exact hx56)) ?_
       refine qJ 41 rfl ((by rw [hw7]; exact hx56)) ?_
       refine qJ 42 rfl ((by rw [hw7]; exact hx56)) ?_
       refine qJ 43 rfl ((by rw [hw7]; exact hx56)) ?_
       refine qJ 44 rfl ((by rw [hw7]; exact hx56)) ?_
       refine qt 45 rfl (ypT rfl rfl) ((by rw [hw7]; exact hx56)) ?_
       refine qE (run_true rfl (run_reg rfl (qa rfl (rEnd (run_inBlock (run_reg rfl (qm rfl (qV (yad rfl rfl (by omega)) (qa rfl (rEnd ?_))))))))))
       exact (ih (i + 1, 1) _ ⟨by dsimp only; omega, hx5.trans hx57, .inr ⟨rfl, fun e => (hPm x).1 c4 (hsn.1 e).2.2.2.1⟩⟩ (by dsimp only; omega)).qb
      ·refine qt 31 rfl (ymv rfl) ((by rw [hw7]; exact hx56)) ?_
       refine qt 32 rfl (ymv rfl) ((by rw [hw7]; exact hx56)) ?_
       refine qt 33 rfl (ymv rfl) ((by rw [hw7]; exact hx56)) ?_
       refine qt 34 rfl (yis U34 ti3 rfl rfl (by omega)) ((by rw [hw7]; exact hx56)) ?_
       refine qT 35 rfl (fun _ hS => yldc U3 rfl rfl (rd_intT (hRl _ hS) hi' hx)) ((by rw [hw7]; exact hx56)) ?_
       refine qO 36 (nCall (i := 36) rfl rfl rfl (yc (args := [.tmp 67, .tmp 71]) cf33 rfl) (has_ret (l := X.T.given) ((hFr.ext hx5).ext hx57) (by omega) x) ?_)
       rintro _ w8 ⟨rfl, hw8⟩
       refine ⟨(by rw [hw8]; exact hx57), ?_⟩
       have hx58 : Ext w5 w8 := by rw [hw8]; exact hx57
       refine qt 37 rfl (ypF rfl rfl) ((by rw [hw8]; exact hx57)) ?_
       refine qt 38 rfl (ymv rfl) ((by rw [hw8]; exact hx57)) ?_
       refine rh_if (fun c5 => ?_) (fun c5 => ?_)
       ·refine qJ 39 rfl ((by rw [hw8]; exact hx57)) ?_
        refine qJ 40 rfl ((by rw [hw8]; exact hx57)) ?_
        refine qJ 41 rfl ((by rw [hw8]; exact hx57)) ?_
        refine qJ 42 rfl ((by rw [hw8]; exact hx57)) ?_
        refine qJ 43 rfl ((by rw [hw8]; exact hx57)) ?_
        refine qJ 44 rfl ((by rw [hw8]; exact hx57)) ?_
        refine qt 45 rfl (ypT rfl rfl) ((by rw [hw8]; exact hx57)) ?_
        refine qE (run_true rfl (run_reg rfl (qa rfl (rEnd (run_inBlock (run_reg rfl (qm rfl (qV (yad rfl rfl (by omega)) (qa rfl (rEnd ?_))))))))))
        exact (ih (i + 1, 1) _ ⟨by dsimp only; omega, hx5.trans hx58, .inr ⟨rfl, fun e => (hsn.1 e).2.2.2.2.2 c5⟩⟩ (by dsimp only; omega)).qb
       ·refine qt 39 rfl (ymv rfl) ((by rw [hw8]; exact hx57)) ?_
        refine qt 40 rfl (ymv rfl) ((by rw [hw8]; exact hx57)) ?_
        refine qt 41 rfl (ymv rfl) ((by rw [hw8]; exact hx57)) ?_
        refine qt 42 rfl (yis U34 ti3 rfl rfl (by omega)) ((by rw [hw8]; exact hx57)) ?_
        refine qT 43 rfl (fun _ hS => yldc U3 rfl rfl (rd_intT (hRl _ hS) hi' hx)) ((by rw [hw8]; exact hx57)) ?_
        refine qO 44 (nCall (i := 44) rfl rfl rfl (yc (args := [.tmp 75, .tmp 79]) cf33 rfl) (has_ret (l := fl) ((hLr.ext hx5).ext hx58) (by omega) x) ?_)
        rintro _ w9 ⟨rfl, hw9⟩
        refine ⟨(by rw [hw9]; exact hx58), ?_⟩
        have hx59 : Ext w5 w9 := by rw [hw9]; exact hx58
        refine qt 45 rfl (ypF rfl rfl) ((by rw [hw9]; exact hx58)) ?_
        refine qE (run_if rfl (fun c6 => ?_) (fun c6 => ?_))
        ·refine run_reg rfl (qa rfl (rEnd (run_inBlock (run_reg rfl (qm rfl (qV (yad rfl rfl (by omega)) (qa rfl (rEnd ?_))))))))
         exact (ih (i + 1, 1) _ ⟨by dsimp only; omega, hx5.trans hx59, .inr ⟨rfl, fun e => by have h1 := (hsn.1 e).2.2.2.2.1; rw [((hfm x).1 c6).1] at h1; cases h1⟩⟩ (by dsimp only; omega)).qb
        ·have hNn : X.T.nodes x = none := Decidable.byContradiction fun e => c4 ((hPm x).2 e)
         have hOo : X.T.old x = false := by
          cases e : X.T.old x with
          | false => rfl
          | true => exact absurd ((hfm x).2 ⟨e, hNn⟩) c6
         refine run_skip (run_inBlock (run_reg rfl (qm rfl (qV (yad rfl rfl (by omega)) (qa rfl (rEnd ((ih (i + 1, wt) _ ⟨by dsimp only; omega, hx5.trans hx59, ?_⟩ (by dsimp only; omega)).qb)))))))
         rcases hwt with ⟨rfl, h1⟩ | ⟨rfl, h1⟩
         ·exact .inl ⟨rfl, hsn.2 ⟨h1, c3, by omega, hNn, hOo, c5⟩⟩
         ·exact .inr ⟨rfl, fun e => h1 (hsn.1 e).1⟩
  ·obtain rfl : i = l.length := by omega
   rw [List.take_length] at hwt
   have hx05 := hx04.trans hx5
   have hR5 := hR.ext hx05
   have hM5 := hM4.ext hx5
   have hz05 := hx05.size
   have hFlt : ∀ g, F g → g < w.heap.size := fun g hg => hM.lt (.inr (.inr (.inr (.inr (.inr hg)))))
   clear ih hlt hRw hPr hLr hS1 hS2 hS3 hS4 hM2 hM3 hB2 hB3 hM4 hFr
   refine run_exit rfl (qN rfl (rValP rfl rfl (pbs (parts := []) (cs := []) (zs := []) U34 ti3 rfl (by kernel_rfl) rfl rfl rfl (by decide)) ?_))
   rintro _ w6 ⟨b6, rfl, ⟨hb6, hx6, hB6⟩, hS6⟩
   refine qm rfl (rValP rfl rfl (pap U34 ti3 rfl (by decide) rfl rfl hS6 (hR5.ext hx6) (by intro c hc; obtain ⟨z, -, rfl⟩ := List.mem_map.1 hc; rfl) (by omega) (by omega)) ?_)
   rintro v7 w7 ⟨hS7, hk7, ho7, -⟩
   have hx57 : Ext w5 w7 := hx6.trans_new hk7 (fun i hi => by have : b6 = i := by simpa [Value.ownBlock] using hi
                                                              omega)
   refine rValP rfl rfl (pbs (parts := [(0, .const (Value.int .i64 77))]) (cs := [_]) (zs := [Value.int .i64 0]) U34 ti3 rfl (by kernel_rfl) rfl rfl rfl (by decide)) ?_
   rintro _ w8 ⟨b8, rfl, ⟨hb8, hx8, hB8⟩, hS8⟩
   have hx58 := hx57.trans hx8
   refine rValP rfl rfl (pap U34 ti3 rfl (by decide) rfl rfl (hS7.ext hx8) hS8.rd (by intro c hc; simp at hc; subst hc; rfl) (by omega) (by omega)) ?_
   rintro v9 w9 ⟨hS9, hk9, ho9, -⟩
   have hz6 := hx6.size
   have hz7 := hx57.size
   have hz8 := hx8.size
   have hnew7 : ∀ g, v7.ownBlock = some g → w5.heap.size ≤ g := fun g hg => by
    rcases ho7 g hg with e | e
    ·have : b6 = g := by simpa [Value.ownBlock] using e
     omega
    ·omega
   have hx59 : Ext w5 w9 := hx58.trans_new hk9 (fun i hi => hnew7 i hi)
   have hS9' : Sl w9 v9 3 1 (l.length + 1) ((l ++ [77]).map I) := by
    have e : 0 + l.length + 1 = l.length + 1 := by omega
    rw [e] at hS9
    rw [List.map_append]; exact hS9
   clear hS6 hS7 hS8 hS9
   obtain ⟨g9, c9, rfl, hc9⟩ : ∃ g c, v9 = .slice (some ⟨g, 0, none⟩) (l.length + 1) c ∧ l.length + 1 ≤ c := by
    rcases hS9'.shape with ⟨-, e⟩ | h
    ·omega
    ·exact h
   have hg9n : w5.heap.size ≤ g9 := by
    rcases ho9 g9 rfl with e | e
    ·exact hnew7 g9 e
    ·omega
   refine qa rfl (rEnd (run_seq ?_))
   have hM9 := hM5.ext hx59
   have hB9 := hM9.blk
   have hx09 := hx05.trans hx59
   have hR9 := hR5.ext hx59
   have hg9 : Ext w9 w9.drew := Ext.drew0 w9
   have hlen1 : (l ++ [77]).length = l.length + 1 := by simp
   have hLp : Rd w9.drew (.slice (some ⟨g9, 0, none⟩) l.length c9) 1 l.length (l.map I) := by
    have h := rd_takeI (i := l.length) (l := l ++ [77]) (hS9'.rd.ext hg9) (by omega) hlen1.symm c9
    rw [List.take_left' rfl] at h
    exact h
   refine run_draw (fun w' => Kp F w9 w') (by kernel_rfl) rfl (qt 0 rfl (ymv rfl) (hg9.kp) (qt 1 rfl (ynk rfl) (hg9.kp) (qt 2 rfl (yfa fl36_1 rfl) (hg9.kp) (qT 3 rfl (fun _ hS => yld U24 rfl rfl (hS.blk hB9 hM9.fq) rfl) (hg9.kp) (qt 4 rfl (ymv rfl) (hg9.kp) (qt 5 rfl (ymv rfl) (hg9.kp) (qt 6 rfl (yln U34 rfl) (hg9.kp) (qt 7 rfl (yslVt U34 ti3 rfl rfl (by omega)) (hg9.kp) (qO 8 (nCall (i := 8) rfl rfl rfl (yc (args := [.tmp 90, .tmp 94]) cf50 rfl) (give_ret (hM9.ext hg9).tree hI hLp hl) ?_))))))))))
   rintro v10 w10 hv10
   refine ⟨(by rcases hv10 with ⟨-, -, h, -⟩ | ⟨-, -, h⟩; exact hg9.kp.trans h; exact hg9.kp.trans h.kp), ?_⟩
   have hk910 : Kp F w9 w10 := by rcases hv10 with ⟨-, -, h, -⟩ | ⟨-, -, h⟩; exact hg9.kp.trans h; exact hg9.kp.trans h.kp
   have hz9 := hx59.size
   have hz10 := hk910.size
   have hS10 := hS9'.kp hk910 (fun g hg e => by
    have e1 : g9 = g := by simpa [Value.ownBlock] using hg
    have := hFlt g e
    omega)
   have hR10 : Rd w10 (.slice la l.length lc) 1 l.length (l.map I) := Rd.kpz hR9 hk910 (fun h0 g hg e => hd h0 g hg (.inr (.inr (.inr (.inr (.inr e))))))
   rcases hv10 with ⟨rfl, hok, hk10, F10, hT10, hF10⟩ | ⟨rfl, hno, hx10⟩
   ·obtain rfl : wt = 0 := by
     rcases hwt with ⟨h, -⟩ | ⟨-, h⟩
     ·exact h
     ·exact absurd hok h
    have hmt := (hM9.ext hg9).treed hT10 rfl hk10 hF10
    obtain ⟨hM10, hkt, hf10⟩ := hmt
    have hB10 := hM10.blk
    have hk010 : Kp (fpS q m mv sv gv F) w w10 := hx09.kp.trans (hg9.kp.trans hkt)
    have hnl := nodup_le hok.1 (fun x hx => (hok.2 x hx).1)
    have hg9z := hg9.size
    refine qt 9 rfl (yas rfl) hk910 (qE (Run.qb (e := [(0, _), (1, _), (6, _), (8, _), (10, _), (11, _)]) ?_))
    refine run_seq (qN rfl (qm rfl (qV (yeq rfl rfl) (rEnd (run_if rfl (fun hc0 => ?_) (fun hc0 => ?_))))))
    ·refine run_reg rfl (qm rfl (qm rfl (qV (ynk rfl) (qV (yfa fl36_4 rfl) (qV (yld U34 rfl rfl hB10 rfl) (qm rfl (rValP rfl rfl (pap U34 ti3 rfl (by decide) rfl rfl hM10.giv hR10 (by intro c hc; obtain ⟨z, -, rfl⟩ := List.mem_map.1 hc; rfl) (by dsimp only; omega) (by dsimp only; omega)) ?_)))))))
     rintro gv11 w11 ⟨hS11, hk11, ho11, -⟩
     have hB11 := hk11.blk hB10 (fun e => (hM10.ov q (.inr (.inr e))).1 rfl)
     refine qV (ynk rfl) (qV (yfa fl36_4 rfl) (rEffP rfl (zst ti34 rfl rfl (oneV_sl hS11) hB11 (by simp)) ?_))
     rintro w12 ⟨hB12, hk12⟩
     replace hB12 : Blk w12 q [I (X.T.size : Int), ptr p 0, ptr m 0, sv, gv11, I (X.nx : Int)] 36 := hB12
     have hMg := hM10.gave (gs' := X.gs ++ l) (gv' := gv11) (by rw [List.length_append, List.map_append]; exact hS11) hk11 ho11 hB12 hk12
     obtain ⟨hM12, hk1012, hf12⟩ := hMg
     have hG12 := hG.give hok
     have hk012 : Kp (fpS q m mv sv gv F) w w12 := hk010.trans_new hk1012 (fun i hi => (hf10 i hi).elim .inr (fun e => .inl (by omega)))
     obtain ⟨A, hA⟩ : ∃ A, sortZ (X.T.given ++ l) = A := ⟨_, rfl⟩
     have hAl : A.length = X.T.given.length + l.length := by rw [← hA, sortZ_len, List.length_append]
     have hAm : ∀ x ∈ l, x ∈ A := fun x hx => by rw [← hA, sortZ_mem]; exact List.mem_append_right _ hx
     have hAgl : A.length ≤ 2147483647 := by rw [← hA]; exact hG12.inv.gl
     have hB12' := hB12
     have hS12 : Sl w12 (.slice (some ⟨g9, 0, none⟩) (l.length + 1) c9) 3 1 (l.length + 1) ((l ++ [77]).map I) := (hS10.kp hk11 (fun g hg e => by
      have e1 : g9 = g := by simpa [Value.ownBlock] using hg
      have := hM.lt (.inr (.inr (.inr (.inr (.inl e)))))
      omega)).kp hk12 (fun g hg e => by
      have e1 : g9 = g := by simpa [Value.ownBlock] using hg
      have := hM.blk.lt
      omega)
     have hR12 : Rd w12 (.slice la l.length lc) 1 l.length (l.map I) := Rd.kpz hR hk012 hd
     refine qM rfl (qm rfl (qV (ynk rfl) (qV (yfa fl36_1 rfl) (qV (yld U24 rfl rfl hB12 rfl) (rCall rfl rfl (yc (args := [.tmp 110]) cf27 rfl) (given_ret hM12.tree (by rw [← hA] at hAgl; exact Nat.le_trans hAgl (by decide))) ?_)))))
     rintro v13 w13 ⟨hS13, hx13, -⟩
     replace hS13 : Sl w13 v13 3 1 A.length (A.map I) := by rw [← hA]; exact hS13
     obtain ⟨ga, gc, rfl⟩ := some_ofE hS13
     have hL13 := hS12.rd.ext hx13
     have hR13 := hR12.ext hx13
     have hA13 := Sl.rd hS13
     have hM13 := hM12.ext hx13
     clear hS9' hS10 hS11 hS12 hS13
     refine qa rfl (rEnd (run_seq (qN rfl (qm rfl (qV (yeq rfl rfl) (rTrue (by (first | rfl | assumption | omega | decide)) ?_))))))
     refine qm rfl (qm rfl (qV (yln U34 rfl) (qm rfl (qV (yln U34 rfl) (qm rfl (qV (yln U34 rfl) (qV (yad rfl rfl (by omega)) (qV (yne rfl rfl) (rFalse (by (first | exact fun h => h rfl | assumption | omega)) ?_)))))))))
     refine qV (ypT rfl rfl) (qm rfl (qm rfl (qV (yne rfl rfl) (rFalse (by (first | exact fun h => h rfl | assumption | omega)) ?_))))
     refine qm rfl (qS (qS (qS (qS (qS (qV (ypF rfl rfl) (qV (ypF rfl rfl) (qm rfl (qm rfl (qm rfl (qV (yln U34 rfl) (qV (yis U34 ti3 rfl rfl (by omega)) (qV (yldc U3 rfl rfl (rd_intT hL13 (by omega) (show (l ++ [77])[l.length]? = some 77 by simp))) ?_)))))))))))))
     refine qV (yne rfl rfl) (rFalse (by (first | exact fun h => h rfl | assumption | omega)) ?_)
     refine qV (ypF rfl rfl) (rEnd (Run.qb (e := [(1, _), (8, _), (10, _), (11, _), (12, _), (142, _)]) ?_))
     refine run_false rfl (run_skip (run_seq (qN rfl (qa rfl (rEnd (run_block (run_loop (α := Nat) (0) (fun i => [(1, .slice la l.length lc), (8, I 0), (10, .slice (some ⟨g9, 0, none⟩) (l.length + 1) c9), (11, I 0), (12, .slice ga A.length gc), (13, I (i : Int))]) (fun i w' => i ≤ l.length ∧ Ext w13 w') (fun i => l.length - i) (by repeat (first | exact Sub.nil | refine Sub.cons rfl ?_)) ?hI ?hround)))))))
     case hI => exact ⟨Nat.zero_le _, Ext.refl _⟩
     case hround =>
      rintro i w14 ⟨hi, hx14⟩ ih
      try dsimp only
      refine run_seq (qN rfl (qm rfl (qm rfl (qV (yln U34 rfl) (qV (ylt rfl rfl) (rEnd (run_if rfl (fun hlt => ?_) (fun hlt => ?_))))))))
      ·have hi' : i < l.length := by omega
       obtain ⟨lb, lo, x, rfl, hx⟩ := rd_getI hR hi'
       have hg14 : Ext w14 w14.drew := Ext.drew0 w14
       have hRl : ∀ w', Ext w14 w' → Rd w' (.slice (some ⟨lb, lo, none⟩) l.length lc) 1 l.length (l.map I) := fun w' k => (hR13.ext hx14).ext k
       have hLl : ∀ w', Ext w14 w' → Rd w' (.slice (some ⟨g9, 0, none⟩) (l.length + 1) c9) 1 (l.length + 1) ((l ++ [77]).map I) := fun w' k => (hL13.ext hx14).ext k
       have hx77 : (l ++ [77])[i]? = some x := by rw [List.getElem?_append_left hi']; exact hx
       refine run_skip (run_seq (run_block (run_seq (run_draw (fun w' => Ext w14 w') (by kernel_rfl) rfl (qt 0 rfl (ymv rfl) hg14 (qt 1 rfl (yeq rfl rfl) hg14 (hTrue (by (first | rfl | assumption | omega | decide)) ?_)))))))
       refine qt 2 rfl (ymv rfl) hg14 (qt 4 rfl (ymv rfl) hg14 (qt 5 rfl (ymv rfl) hg14 (qt 6 rfl (yis U34 ti3 rfl rfl (by omega)) hg14 (qt 3 rfl (ymv rfl) hg14 (qT 7 rfl (fun _ hS => yldc U3 rfl rfl (rd_intT (hRl _ hS) hi' hx)) hg14 (qO 8 (nCall (i := 8) rfl rfl rfl (yc (args := [.tmp 152, .tmp 156]) cf33 rfl) (has_ret (l := A) (hA13.ext (hx14.trans hg14)) (by omega) x) ?_)))))))
       rintro _ w15 ⟨rfl, hw15⟩
       refine ⟨(by rw [hw15]; exact hg14), ?_⟩
       have hx15 : Ext w14 w15 := by rw [hw15]; exact hg14
       refine qt 9 rfl ((by first | exact yntd rfl | exact ynt rfl)) ((by rw [hw15]; exact hg14)) ?_
       refine qt 10 rfl (ypT rfl rfl) ((by rw [hw15]; exact hg14)) ?_
       refine qt 11 rfl (ymv rfl) ((by rw [hw15]; exact hg14)) ?_
       refine rh_if (fun c7 => ?_) (fun c7 => ?_)
       ·exact absurd (hAm x (List.mem_of_getElem? hx)) c7
       ·refine qt 12 rfl (ymv rfl) ((by rw [hw15]; exact hg14)) ?_
        refine qt 13 rfl (ymv rfl) ((by rw [hw15]; exact hg14)) ?_
        refine qt 14 rfl (yis U34 ti3 rfl rfl (by omega)) ((by rw [hw15]; exact hg14)) ?_
        refine qt 16 rfl (ymv rfl) ((by rw [hw15]; exact hg14)) ?_
        refine qt 17 rfl (ymv rfl) ((by rw [hw15]; exact hg14)) ?_
        refine qt 18 rfl (yis U34 ti3 rfl rfl (by omega)) ((by rw [hw15]; exact hg14)) ?_
        refine qT 15 rfl (fun _ hS => yldc U3 rfl rfl (rd_intT (hLl _ hS) (by omega) hx77)) ((by rw [hw15]; exact hg14)) ?_
        refine qT 19 rfl (fun _ hS => yldc U3 rfl rfl (rd_intT (hRl _ hS) hi' hx)) ((by rw [hw15]; exact hg14)) ?_
        refine qt 20 rfl (yne rfl rfl) ((by rw [hw15]; exact hg14)) ?_
        refine hFalse (by (first | exact fun h => h rfl | assumption | omega)) ?_
        refine qt 21 rfl (ypF rfl rfl) ((by rw [hw15]; exact hg14)) ?_
        refine qE (run_false rfl (run_skip (run_inBlock (run_reg rfl (qm rfl (qV (yad rfl rfl (by omega)) (qa rfl (rEnd ?_))))))))
        exact (ih (i + 1) _ ⟨by omega, hx14.trans hx15⟩ (by omega)).qb
      ·refine run_exit rfl (qN rfl (qm rfl (qm rfl (qV (yeq rfl rfl) (qa rfl (rEnd (run_ret Tryz.func57 rfl (⟨_, rfl, by simp [resVal], _, gv11, F10, hM13.ext hx14, hG12, rfl, rfl, ?_, ?_⟩))))))))
       ·exact hk012.trans (hx13.trans hx14).kp
       ·intro k hk
        rcases hf12 k hk with e | e
        ·exact (hf10 k e).imp id (fun e => by omega)
        ·exact .inr (by omega)
    ·exact absurd rfl hc0
   ·obtain rfl : wt = 1 := by
     rcases hwt with ⟨-, h⟩ | ⟨h, -⟩
     ·exact absurd h hno
     ·exact h
    have hM10 := (hM9.ext hg9).ext hx10
    have hB10 := hM10.blk
    have hx010 : Ext w w10 := hx09.trans (hg9.trans hx10)
    refine qt 9 rfl (yas rfl) hk910 (qE (Run.qb (e := [(0, _), (1, _), (6, _), (8, _), (10, _), (11, _)]) ?_))
    refine run_seq (qN rfl (qm rfl (qV (yeq rfl rfl) (rEnd (run_if rfl (fun hc0 => ?_) (fun hc0 => ?_))))))
    ·exact absurd hc0 (by decide)
    ·refine run_skip (qN rfl (qm rfl (qV (ynk rfl) (qV (yfa fl36_1 rfl) (qV (yld U24 rfl rfl hB10 rfl) (rCall rfl rfl (yc (args := [.tmp 110]) cf27 rfl) (given_ret hM10.tree (by omega)) ?_))))))
     rintro v13 w13 ⟨hS13, hx13, -⟩
     obtain ⟨ga, gc, rfl⟩ := some_ofE hS13
     obtain ⟨A, hA⟩ : ∃ A, X.T.given = A := ⟨_, rfl⟩
     rw [hA] at *
     have hL13 := hS10.rd.ext hx13
     have hR13 := hR10.ext hx13
     have hM13 := hM10.ext hx13
     clear hS9' hS10 hS13
     refine qa rfl (rEnd (run_seq (qN rfl (qm rfl (qV (yeq rfl rfl) (rFalse (by (first | exact fun h => h rfl | assumption | omega)) ?_))))))
     refine qm rfl (qS (qS (qS (qS (qS (qS (qS (qS (qV (ypF rfl rfl) (qm rfl (qm rfl (qV (yne rfl rfl) (rTrue (by (first | rfl | assumption | omega | decide)) ?_)))))))))))))
     refine qm rfl (qm rfl (qV (yln U34 rfl) (qm rfl (qV (yln U34 rfl) (qV (yne rfl rfl) (rFalse (by (first | exact fun h => h rfl | assumption | omega)) ?_))))))
     refine qV (ypT rfl rfl) (qV (ypF rfl rfl) (qm rfl (qm rfl (qm rfl (qV (yln U34 rfl) (qV (yis U34 ti3 rfl rfl (by omega)) (qV (yldc U3 rfl rfl (rd_intT hL13 (by omega) (show (l ++ [77])[l.length]? = some 77 by simp))) ?_)))))))
     refine qV (yne rfl rfl) (rFalse (by (first | exact fun h => h rfl | assumption | omega)) ?_)
     refine qV (ypF rfl rfl) (rEnd (Run.qb (e := [(1, _), (8, _), (10, _), (11, _), (12, _), (142, _)]) ?_))
     refine run_false rfl (run_skip (run_seq (qN rfl (qa rfl (rEnd (run_block (run_loop (α := Nat) (0) (fun i => [(1, .slice la l.length lc), (8, I 1), (10, .slice (some ⟨g9, 0, none⟩) (l.length + 1) c9), (11, I 1), (12, .slice ga A.length gc), (13, I (i : Int))]) (fun i w' => i ≤ l.length ∧ Ext w13 w') (fun i => l.length - i) (by repeat (first | exact Sub.nil | refine Sub.cons rfl ?_)) ?hI ?hround)))))))
     case hI => exact ⟨Nat.zero_le _, Ext.refl _⟩
     case hround =>
      rintro i w14 ⟨hi, hx14⟩ ih
      try dsimp only
      refine run_seq (qN rfl (qm rfl (qm rfl (qV (yln U34 rfl) (qV (ylt rfl rfl) (rEnd (run_if rfl (fun hlt => ?_) (fun hlt => ?_))))))))
      ·have hi' : i < l.length := by omega
       obtain ⟨lb, lo, x, rfl, hx⟩ := rd_getI hR hi'
       have hg14 : Ext w14 w14.drew := Ext.drew0 w14
       have hRl : ∀ w', Ext w14 w' → Rd w' (.slice (some ⟨lb, lo, none⟩) l.length lc) 1 l.length (l.map I) := fun w' k => (hR13.ext hx14).ext k
       have hLl : ∀ w', Ext w14 w' → Rd w' (.slice (some ⟨g9, 0, none⟩) (l.length + 1) c9) 1 (l.length + 1) ((l ++ [77]).map I) := fun w' k => (hL13.ext hx14).ext k
       have hx77 : (l ++ [77])[i]? = some x := by rw [List.getElem?_append_left hi']; exact hx
       refine run_skip (run_seq (run_block (run_seq (run_draw (fun w' => Ext w14 w') (by kernel_rfl) rfl (qt 0 rfl (ymv rfl) hg14 (qt 1 rfl (yeq rfl rfl) hg14 (hFalse (by (first | exact fun h => h rfl | assumption | omega)) ?_)))))))
       refine qt 2 rfl (ymv rfl) hg14 (qJ 4 rfl (hg14) (qJ 5 rfl (hg14) (qJ 6 rfl (hg14) (qJ 7 rfl (hg14) (qJ 3 rfl (hg14) (qJ 8 rfl (hg14) (qJ 9 rfl (hg14) (qt 10 rfl (ypF rfl rfl) hg14 (qt 11 rfl (ymv rfl) hg14 (qt 12 rfl (ymv rfl) hg14 (qt 13 rfl (ymv rfl) hg14 (qt 14 rfl (yis U34 ti3 rfl rfl (by omega)) hg14 (qt 16 rfl (ymv rfl) hg14 ?_)))))))))))))
       refine qt 17 rfl (ymv rfl) hg14 (qt 18 rfl (yis U34 ti3 rfl rfl (by omega)) hg14 (qT 15 rfl (fun _ hS => yldc U3 rfl rfl (rd_intT (hLl _ hS) (by omega) hx77)) hg14 (qT 19 rfl (fun _ hS => yldc U3 rfl rfl (rd_intT (hRl _ hS) hi' hx)) hg14 (qt 20 rfl (yne rfl rfl) hg14 (hFalse (by (first | exact fun h => h rfl | assumption | omega)) ?_)))))
       refine qt 21 rfl (ypF rfl rfl) hg14 (qE (run_false rfl (run_skip (run_inBlock (run_reg rfl (qm rfl (qV (yad rfl rfl (by omega)) (qa rfl (rEnd ?_)))))))))
       exact (ih (i + 1) _ ⟨by omega, hx14.trans hg14⟩ (by omega)).qb
      ·refine run_exit rfl (qN rfl (qm rfl (qm rfl (qV (yeq rfl rfl) (qa rfl (rEnd (run_ret Tryz.func57 rfl (⟨_, rfl, by simp [resVal], X, gv, F, hM13.ext hx14, hG.mono (Nat.le_succ k), rfl, rfl, (hx010.trans (hx13.trans hx14)).kp, fun k hk => .inl hk⟩))))))))
end
theorem pgs_no {z : Nat} {N : Nodes} {ns : List Int} : (pgs z N ns fun _ => false) = [] := by simp [pgs]
theorem PgSl.no {w : World} {v : Value} {z : Nat} {N : Nodes} {ns : List Int} (h : PgSl w v (pgs z N ns fun _ => false)) : ∃ a c, v = .slice a 0 c := by
 rw [pgs_no] at h; exact some_ofE h
section
variable {w : World} {q : Nat} {X : Sx} {p m : Nat} {mv sv gv : Value} {nb : Int → Nat} {F : Nat → Prop} {k : Nat}
set_option maxHeartbeats 8000000 in
theorem loadS_ret (hM : StM w q X p m mv sv gv nb F) (hG : Gh X k) (hz : sizeOk (X.T.size : Int)) (hk : k ≤ 1000) :
  Ret Tryz.prog 59 [ptr q 0] w fun v w' => v = .bool true ∧ ∃ X' p' sv' nb' F', StM w' q X' p' m mv sv' (.slice none 0 0) nb' F' ∧ Gh X' k ∧ X'.T.size = X.T.size ∧ X'.es = X.es ∧ Kp (fpS q m mv sv gv F) w w' ∧ ∀ k, fpS q m mv sv' (.slice none 0 0) F' k → fpS q m mv sv gv F k ∨ w.heap.size ≤ k := by
 have hI := hG.inv
 have hcn := Inv.cnts hz hI
 have hel := hG.el
 have hml : maxLen = 9223372036854775807 := rfl
 have hnd := hI.nodup
 have hKd := hM.tree.kids32
 have hO := ownP_pgs (T := X.T) hnd
 obtain ⟨l, hl⟩ : ∃ l, (pgs X.T.size X.T.nodes X.ns fun _ => true) = l := ⟨_, rfl⟩
 rw [hl] at hO
 have hll : l.length = X.ns.length := hO.len
 have hB := hM.blk
 refine ret_of_run (e := [(0, _)]) Tryz.func59 rfl Tryz.ntmps59 rfl rfl (qN rfl (qa rfl (qM rfl (qm rfl (qV (ynk rfl) (qV (yfa fl36_1 rfl) (qV (yld U24 rfl rfl hB rfl) (rCall rfl rfl (yc (args := [.tmp 12]) cf22 rfl) (pages_ret hM.tree hI (by omega)) ?_))))))))
 rintro v1 w1 ⟨hx1, hS1, ho1⟩
 rw [hl] at hS1
 obtain ⟨va, vc, rfl⟩ := some_ofE hS1
 refine qa rfl (rEnd (run_seq (qN rfl (qm rfl (qV (yln U52 rfl) (qV (ysb rfl rfl (by omega)) (qa rfl (qa rfl (rEnd (run_block (run_cut2 (fun e' w' => e' = [(0, ptr q 0), (3, .slice va l.length vc)] ∧ Ext w w' ∧ Rd w' (.slice va l.length vc) 2 l.reverse.length (pgC l.reverse)) ?hkr (fun hkr => ?hmainr))))))))))))
 case hkr =>
  rintro e' w2 ⟨rfl, hx2, hR2⟩
  have hM2 := hM.ext hx2
  have hB2 := hM2.blk
  have hg2 : Ext w2 w2.drew := Ext.drew0 w2
  have hOr := hO.rev
  have hrl : l.reverse.length = l.length := List.length_reverse
  have hokr := hOr.ok hI hz hKd
  have hnum := hOr.nums hI hz
  have hN := hOr.nodes hI hz hKd
  have hGL := hG.load hz hOr hKd
  have hIL := hGL.inv
  refine run_seq (run_draw (fun w' => Ext w2 w') (by kernel_rfl) rfl (qt 0 rfl (ymv rfl) hg2 (qt 1 rfl (ynk rfl) hg2 (qt 2 rfl (yfa fl36_0 rfl) hg2 (qT 3 rfl (fun _ hS => yld U3 rfl rfl (hS.blk hB2) rfl) hg2 (qt 4 rfl (ymv rfl) hg2 (qt 5 rfl (ynk rfl) hg2 (qt 6 rfl (yfa fl36_1 rfl) hg2 (qT 7 rfl (fun _ hS => yld U24 rfl rfl (hS.blk hB2) rfl) hg2 (qt 9 rfl (ymv rfl) hg2 (qO 8 (nCall (i := 8) rfl rfl rfl (yc (args := [.tmp 47]) cf21 rfl) (rootT_ret (hM2.tree.ext hg2)) ?_))))))))))))
  rintro _ w3 ⟨rfl, hw3⟩
  refine ⟨(by rw [hw3]; exact hg2), ?_⟩
  have hx3 : Ext w2 w3 := by rw [hw3]; exact hg2
  refine qO 10 (nCall (i := 10) rfl rfl rfl (yc (args := [.tmp 43, .tmp 48, .tmp 49]) cf17 rfl) (load_ret (X.T.size : Int) X.T.root (l := l.reverse) (hR2.ext hx3) (by omega) (hOr.short hI hz)) ?_)
  rintro v4 w4 ⟨hx4, hv4⟩
  refine ⟨hx3.trans hx4, ?_⟩
  have hz2 := hx2.size
  have hz3 := hx3.size
  obtain ⟨pn, nbn, Fn, rfl, hTn, hFn⟩ : ∃ p nb F, v4 = .tuple #[ptr p 0, I 0] ∧ TreeA w4 p (TrL X.T.size X.T.root l.reverse X.es.length) nb F ∧ ∀ k, F k → w.heap.size ≤ k := by
   rcases hv4 with ⟨h, -⟩ | ⟨-, h, -⟩ | ⟨-, H', ns', es', p', nb', F', h1, h2, h3, h4⟩
   ·exact absurd hnum h
   ·exact absurd hokr (h X.H X.ns X.es)
   ·obtain ⟨rfl, rfl, rfl⟩ := hokr.det hz h1
    exact ⟨p', nb', F', h2, h3, fun k hk => by have := h4 k hk; omega⟩
  have hx24 := hx3.trans hx4
  have hx04 := hx2.trans hx24
  have hM4 := hM.ext hx04
  have hB4 := hM4.blk
  have hg4 : Ext w4 w4.drew := Ext.drew0 w4
  refine qt 11 rfl (ymv rfl) (hx3.trans hx4) (qt 12 rfl (yex rfl rfl) (hx3.trans hx4) (qt 13 rfl (yex rfl rfl) (hx3.trans hx4) (qt 14 rfl (yas rfl) (hx3.trans hx4) (qt 15 rfl (yas rfl) (hx3.trans hx4) (qE (run_seq (run_seq (run_draw (fun w' => Ext w4 w') (by kernel_rfl) rfl (qt 0 rfl (ymv rfl) hg4 (qt 1 rfl (yne rfl rfl) hg4 (hFalse (by (first | exact fun h => h rfl | assumption | omega)) ?_)))))))))))
  refine qt 2 rfl (ymv rfl) hg4 (qt 3 rfl (ymv rfl) hg4 (qO 4 (nCall (i := 4) rfl rfl rfl (yc (args := [.tmp 56]) cf31 rfl) (changed_ret (hTn.ext hg4) hIL (by have : (X.load l.reverse).ns = X.ns := rfl; rw [this]; omega)) ?_)))
  rintro v5 w5 ⟨hx5, hS5, -⟩
  refine ⟨hg4.trans hx5, ?_⟩
  have hx45 := hg4.trans hx5
  obtain ⟨ca, cc, rfl⟩ := PgSl.no hS5
  refine qt 5 rfl (yln U52 rfl) (hg4.trans hx5) (qt 6 rfl (yne rfl rfl) (hg4.trans hx5) (hFalse (by (first | exact fun h => h rfl | assumption | omega)) ?_))
  refine qt 7 rfl (ypF rfl rfl) (hg4.trans hx5) (qt 8 rfl (ymv rfl) (hg4.trans hx5) (qt 9 rfl (ymv rfl) (hg4.trans hx5) (qO 10 (nCall (i := 10) rfl rfl rfl (yc (args := [.tmp 62]) cf28 rfl) (freed_ret (hTn.ext hx45) (os := X.ns) (fun x hx => (hOr.mem x).1 (of_decide_eq_true hx)) (by omega)) ?_))))
  rintro v6 w6 ⟨hx6, fl, -, hfm, -, hS6, -⟩
  refine ⟨hx45.trans hx6, ?_⟩
  have hx46 := hx45.trans hx6
  obtain rfl : fl = [] := List.eq_nil_iff_forall_not_mem.2 fun x hx => by
   obtain ⟨h1, h2⟩ := (hfm x).1 hx
   exact (hI.mem x).2 ((hOr.mem x).1 (of_decide_eq_true h1)) ((congrFun hN x).symm.trans h2)
  obtain ⟨fa, fc, rfl⟩ := some_ofE hS6
  refine qt 11 rfl (yln U34 rfl) (hx45.trans hx6) (qt 12 rfl (yne rfl rfl) (hx45.trans hx6) (hFalse (by (first | exact fun h => h rfl | assumption | omega)) ?_))
  refine qt 13 rfl (ypF rfl rfl) (hx45.trans hx6) (qt 14 rfl (ymv rfl) (hx45.trans hx6) (qt 15 rfl (ymv rfl) (hx45.trans hx6) (qO 16 (nCall (i := 16) rfl rfl rfl (yc (args := [.tmp 68]) cf27 rfl) (given_ret (hTn.ext hx46) (by show (0 : Nat) ≤ _; omega)) ?_))))
  rintro v7 w7 ⟨hS7, hx7, -⟩
  refine ⟨hx46.trans hx7, ?_⟩
  have hx47 := hx46.trans hx7
  obtain ⟨ga, gc, rfl⟩ := some_ofE hS7
  have hgn : (TrL X.T.size X.T.root l.reverse X.es.length).given.length = 0 := rfl
  rw [hgn]
  refine qt 17 rfl (yln U34 rfl) (hx46.trans hx7) (qt 18 rfl (yne rfl rfl) (hx46.trans hx7) (hFalse (by (first | exact fun h => h rfl | assumption | omega)) ?_))
  refine qt 19 rfl (ypF rfl rfl) (hx46.trans hx7) (qt 20 rfl (ymv rfl) (hx46.trans hx7) (qt 21 rfl (ymv rfl) (hx46.trans hx7) (qt 23 rfl (ymv rfl) (hx46.trans hx7) (qt 24 rfl (ynk rfl) (hx46.trans hx7) (qt 25 rfl (yfa fl36_1 rfl) (hx46.trans hx7) (qT 26 rfl (fun _ hS => yld U24 rfl rfl (hS.blk hB4) rfl) (hx46.trans hx7) (qO 22 (nCall (i := 22) rfl rfl rfl (yc (args := [.tmp 74]) cf20 rfl) (depth_ret (hTn.ext hx47) hIL (by have : (X.load l.reverse).H = X.H := rfl; rw [this]; omega)) ?_))))))))
  rintro _ w7 ⟨rfl, rfl⟩
  refine ⟨hx47, ?_⟩
  refine qO 27 (nCall (i := 27) rfl rfl rfl (yc (args := [.tmp 79]) cf20 rfl) (depth_ret (hM4.ext hx47).tree hI (by omega)) ?_)
  rintro _ w7 ⟨rfl, rfl⟩
  refine ⟨hx47, ?_⟩
  rw [show (X.load l.reverse).H = X.H from rfl]
  refine qt 28 rfl (yne rfl rfl) hx47 (hFalse (by (first | exact fun h => h rfl | assumption | omega)) ?_)
  refine qt 29 rfl (ypF rfl rfl) hx47 (qt 30 rfl (ymv rfl) hx47 (qt 31 rfl (ymv rfl) hx47 (qt 33 rfl (ymv rfl) hx47 (qt 34 rfl (ynk rfl) hx47 (qt 35 rfl (yfa fl36_1 rfl) hx47 (qT 36 rfl (fun _ hS => yld U24 rfl rfl (hS.blk hB4) rfl) hx47 (qO 32 (nCall (i := 32) rfl rfl rfl (yc (args := [.tmp 84]) cf21 rfl) (rootT_ret (hTn.ext hx47)) ?_))))))))
  rintro _ w7 ⟨rfl, rfl⟩
  refine ⟨hx47, ?_⟩
  refine qO 37 (nCall (i := 37) rfl rfl rfl (yc (args := [.tmp 89]) cf21 rfl) (rootT_ret (hM4.ext hx47).tree) ?_)
  rintro _ w7 ⟨rfl, rfl⟩
  refine ⟨hx47, ?_⟩
  rw [show (TrL X.T.size X.T.root l.reverse X.es.length).root = X.T.root from rfl]
  refine qt 38 rfl (yne rfl rfl) hx47 (hFalse (by (first | exact fun h => h rfl | assumption | omega)) ?_)
  refine qt 39 rfl (ypF rfl rfl) hx47 (qE (Run.qb (e := [(0, _), (7, _), (92, _)]) ?_))
  refine run_false rfl (run_skip (qN rfl (qm rfl (qm rfl (qV (ynk rfl) (qV (yfa fl36_1 rfl) ?_))))))
  have hx07 := hx04.trans hx47
  have hM7 := hM.ext hx07
  have hB7 := hM7.blk
  have hTn7 := hTn.ext hx47
  have hql := hM.blk.lt
  have hz07 := hx07.size
  refine rEffP rfl (zst ti24 rfl rfl rfl hB7 (by simp)) ?_
  rintro w9 ⟨hB9, hk9⟩
  replace hB9 : Blk w9 q [I (X.T.size : Int), ptr pn 0, ptr m 0, sv, gv, I (X.nx : Int)] 36 := hB9
  have hTn9 := hTn7.kp hk9 (fun g hg e => by have := hFn g hg; omega)
  refine qM rfl (qm rfl (qm rfl (rCall rfl rfl (yc (args := [.tmp 98]) cf22 rfl) (pages_ret hTn9 hIL (by have : (X.load l.reverse).ns = X.ns := rfl; rw [this]; omega)) ?_)))
  rintro v10 w10 ⟨hx10, hS10, -⟩
  have hpl : pgs (TrL X.T.size X.T.root l.reverse X.es.length).size (TrL X.T.size X.T.root l.reverse X.es.length).nodes (X.load l.reverse).ns (fun _ => true) = l := by
   show pgs X.T.size (nodesOf X.T.size l.reverse) X.ns _ = l
   rw [hN, hl]
  replace hS10 : PgSl w10 v10 l := by rw [← hpl]; exact hS10
  refine rCall rfl rfl (yc (args := [.tmp 99]) cf29 rfl) (pagesL_ret (Sl.rd hS10) (by omega)) ?_
  rintro v11 w11 ⟨hx11, hS11, ho11⟩
  have hx911 := hx10.trans hx11
  have hB11 := hx911.blk hB9
  have hz9 := hk9.size
  have hz10 := hx10.size
  have hv11 : ∀ g, v11.ownBlock = some g → w.heap.size ≤ g ∧ ¬ Fn g := fun g hg => by
   have h1 := ho11 g hg
   refine ⟨by omega, fun e => ?_⟩
   have h2 := hTn7.lt g e
   omega
  refine qV (ynk rfl) (qV (yfa fl36_3 rfl) (rEffP rfl (zst ti33 rfl rfl (oneV_sl hS11) hB11 (by simp)) ?_))
  rintro w12 ⟨hB12, hk12⟩
  replace hB12 : Blk w12 q [I (X.T.size : Int), ptr pn 0, ptr m 0, v11, gv, I (X.nx : Int)] 36 := hB12
  refine qM rfl (qm rfl (qV (ynk rfl) (qV (yfa fl36_4 rfl) (rEffP rfl (zst ti34 rfl rfl rfl hB12 (by simp)) ?_))))
  rintro w13 ⟨hB13, hk13⟩
  replace hB13 : Blk w13 q [I (X.T.size : Int), ptr pn 0, ptr m 0, v11, .slice none 0 0, I (X.nx : Int)] 36 := hB13
  have hk1213 := hk12.trans hk13
  have hk713 := (hk9.trans hx911.kp).trans hk1213
  have hSt13 := hM.reset (T' := TrL X.T.size X.T.root l.reverse X.es.length) (p' := pn) (nb' := nbn) (F' := Fn) (O' := X.T.nodes) (os' := X.ns) (gs' := []) (sv' := v11) (gv' := .slice none 0 0) ((hx07.kp.trans hk713).mono' (fun k e => .inr e)) hB13 ((hTn9.ext hx911).kp hk1213 (fun g hg e => by have := hFn g hg; omega)) rfl (fun k hk => .inr (hFn k hk))
   (by rw [hl]; exact hS11.kp hk1213 (fun g hg e => by have := (hv11 g hg).1; omega)) (Sl.nil _ _ _) (fun g hg => hg.elim (hv11 g) (fun e => by simp [Value.ownBlock] at e)) (fun g hg => by simp [Value.ownBlock] at hg)
  obtain ⟨hM13, hk013, hf13⟩ := hSt13
  refine qM rfl (qa rfl (rEnd (run_ret Tryz.func59 rfl ?_)))
  exact ⟨_, rfl, rfl, X.load l.reverse, pn, v11, nbn, Fn, hM13, hGL, rfl, rfl, hk013, hf13⟩
 case hmainr =>
  have hzw1 := hx1.size
  rcases hS1.shape with ⟨e, e0⟩ | ⟨g, cap, e, hcap⟩
  ·refine run_loop (α := Unit) (()) (fun _ => [(0, ptr q 0), (3, .slice va l.length vc), (4, I 0), (5, I ((l.length : Int) - 1))]) (fun _ w' => w' = w1) (fun _ => 0) (by repeat (first | exact Sub.nil | refine Sub.cons rfl ?_)) ?hI ?hround
   case hI => rfl
   case hround =>
    rintro ⟨⟩ w2 rfl ih
    try dsimp only
    refine run_seq (qN rfl (qm rfl (qm rfl (qV (ylt rfl rfl) (rEnd (run_if rfl (fun hlt => ?_) (fun hlt => ?_)))))))
    ·omega
    ·refine run_exit rfl ((hkr _ _ ⟨rfl, hx1, ?_⟩).qb)
     have e : l.reverse = l := by rw [List.eq_nil_of_length_eq_zero e0]; rfl
     rw [e]
     exact Sl.rd hS1
  ·cases e
   obtain ⟨cur0, hrow, -, -, hcl, hct⟩ := hS1.row
   have hP0 : PgB cur0 l := PgB.mk' hct rfl (by omega)
   have hog : w.heap.size ≤ g := ho1 g rfl
   refine run_loop (α := Nat × Int × Pgs × List Value) ((0, (l.length : Int) - 1, l, cur0)) (fun x => [(0, ptr q 0), (3, .slice (some ⟨g, 0, none⟩) l.length vc), (4, I (x.1 : Int)), (5, I x.2.1)]) (fun x w' => 2 * x.1 ≤ l.length + 1 ∧ x.2.1 = (l.length : Int) - 1 - (x.1 : Int) ∧ Ext w w' ∧ Blk w' g x.2.2.2 55 ∧ PgB x.2.2.2 x.2.2.1 ∧ RvI l x.2.2.1 x.1) (fun x => l.length - x.1) (by repeat (first | exact Sub.nil | refine Sub.cons rfl ?_)) ?hI ?hround
   case hI => exact ⟨Nat.zero_le _, by dsimp only; omega, hx1, hrow.blk, hP0, RvI.zero l⟩
   case hround =>
    rintro ⟨i, kk, c, cur⟩ w2 ⟨hi, hkk, hx2, hB2, hP2, hR2⟩ ih
    dsimp only at hi hkk hB2 hP2 hR2
    have hlt2 := hB2.lt
    have hcl2 := hR2.1
    try dsimp only
    refine run_seq (qN rfl (qm rfl (qm rfl (qV (ylt rfl rfl) (rEnd (run_if rfl (fun hlt => ?_) (fun hlt => ?_)))))))
    ·have h2i : 2 * i + 1 < l.length := by omega
     obtain ⟨j, rfl, hj⟩ : ∃ j : Nat, kk = (j : Int) ∧ j = l.length - 1 - i := ⟨l.length - 1 - i, by omega, rfl⟩
     obtain ⟨a, ha⟩ : ∃ a, c[i]? = some a := ⟨_, List.getElem?_eq_getElem (by omega)⟩
     obtain ⟨b, hb⟩ : ∃ b, c[j]? = some b := ⟨_, List.getElem?_eq_getElem (by omega)⟩
     have hrd : ∀ w', Blk w' g cur 55 → Rd w' (.slice (some ⟨g, 0, none⟩) c.length vc) 2 c.length (pgC c) := fun w' h => hP2.rd h
     refine run_skip (run_seq (run_block (qN rfl (qm rfl (qm rfl (qV (yis U52 ti55 rfl rfl (by omega)) (qV (yldA U55 rfl ti55 rfl (rd_pg (hrd _ hB2) (by omega) ha) rfl) (rValP rfl rfl (pal (cs := [_, _]) ti55 rfl) ?_))))))))
     rintro _ w3 ⟨b6, rfl, hb6, hx3, hB3⟩
     refine rEffP rfl (zstA ti55 rfl rfl rfl rfl hB3 (by simp)) ?_
     rintro w4 ⟨hB4, hk4⟩
     replace hB4 : Blk w4 b6 [I a.1, S a.2] 55 := hB4
     have hB24 := hk4.blk (hx3.blk hB2) (by omega)
     refine qM rfl (qm rfl (qm rfl (qm rfl (qm rfl (qV (yis U52 ti55 rfl rfl (by omega)) (qV (yldA U55 rfl ti55 rfl (rd_pg (hrd _ hB24) (by omega) hb) rfl) (qV (yis U52 ti55 rfl rfl (by omega)) (rEffP rfl (zstA (news := [I b.1, S b.2]) ti55 rfl rfl rfl rfl hB24 (by have := hP2.1; simp; omega)) ?_))))))))
     rintro w5 ⟨hB5, hk5⟩
     rw [Nat.zero_add, Nat.mul_comm i 2] at hB5
     have hP5 := hP2.set b (i := i) (by omega)
     have hB45 := hk5.blk hB4 (by omega)
     refine rEnd (run_reg rfl (qm rfl (qm rfl (qV (yldA (news := [I a.1, S a.2]) U55 rfl ti55 rfl (hB45.cells (n := 2) rfl) rfl) (qV (yis U52 ti55 rfl rfl (by omega)) (rEffP rfl (zstA (news := [I a.1, S a.2]) ti55 rfl rfl rfl rfl hB5 (by have := hP5.1; rw [List.length_set] at this; simp; omega)) ?_))))))
     rintro w6 ⟨hB6, hk6⟩
     rw [Nat.zero_add, Nat.mul_comm j 2] at hB6
     have hP6 := hP5.set a (i := j) (by rw [List.length_set]; omega)
     have hR6 := hR2.step h2i ha (by rw [← hj]; exact hb)
     rw [← hj] at hR6
     have hz2 := hx2.size
     have hx26 : Ext w w6 := (((hx2.trans hx3).trans_new hk4 (fun k hk => by omega)).trans_new hk5 (fun k hk => by omega)).trans_new hk6 (fun k hk => by omega)
     refine rEnd (run_inBlock (run_reg rfl (qm rfl (qV (yad rfl rfl (by omega)) (qm rfl (qV (ysb rfl rfl (by omega)) (qa rfl (qa rfl (rEnd ?_)))))))))
     exact (ih (i + 1, (j : Int) - 1, _, _) w6 ⟨by dsimp only; omega, by dsimp only; omega, hx26, hB6, hP6, hR6⟩ (by dsimp only; omega)).qb
    ·have e := hR2.fin (by omega)
     subst e
     refine run_exit rfl ((hkr _ _ ⟨rfl, hx2, ?_⟩).qb)
     have := hP2.rd (cap := vc) hB2
     rw [List.length_reverse] at this ⊢
     exact this
end
section
variable {fr : List Int} {s cs : Pgs} {a c1 : Int × Bytes}
end
section
variable {w : World}
end
theorem StR.of {w w' : World} {q m : Nat} {X' : Sx} {p' : Nat} {mv sv gv mv' sv' gv' : Value} {nb' : Int → Nat} {F F' fp : Nat → Prop} (hM : StM w' q X' p' m mv' sv' gv' nb' F') (hk : Kp (fpS q m mv sv gv F) w w') (hf : ∀ k, fpS q m mv' sv' gv' F' k → fpS q m mv sv gv F k ∨ w.heap.size ≤ k) (h : ∀ k, fp k ↔ fpS q m mv sv gv F k) : StR q m fp w w' X' :=
 ⟨fpS q m mv' sv' gv' F', ⟨p', mv', sv', gv', nb', F', hM, fun _ => Iff.rfl⟩, hk.mono' (fun k e => (h k).2 e), fun k hk => (hf k hk).imp (h k).2 id⟩
section
variable {w : World} {q m : Nat} {X : Sx} {fp : Nat → Prop} {k : Nat}
set_option maxHeartbeats 8000000 in
theorem stepS_ret (hS0 : StF w q m X fp) (hG : Gh X k) (hz : sizeOk (X.T.size : Int)) (hk : k ≤ 330) (o : TOp) (hnv : Rd w o.nv 1 o.nos.length (o.nos.map I) ∧ o.nos.length ≤ 17592186044415 ∧ ∃ a c, o.nv = .slice a o.nos.length c ∧ o.nos.length ≤ c) (hstr : o.key.length ≤ 140737488355328 ∧ o.val.length ≤ 140737488355328 ∧ o.n ≤ 9223372036854775807) (hd : 0 < o.nos.length → ∀ g, o.nv.ownBlock = some g → ¬ fp g) :
  Ret Tryz.prog 24 [ptr q 0, .agg o.cs.toArray] w fun v w' => v = .bool true ∧ ∃ X', StR q m fp w w' X' ∧ Gh X' (k + 1) ∧ X'.T.size = X.T.size ∧ (o.kd = 1 → X.T.given.length ≤ X'.T.given.length) := by
 obtain ⟨p, mv, sv, gv, nb, F, hM, hfp⟩ := hS0
 obtain ⟨kd, key, val, n, nos, auto, nv⟩ := o
 dsimp only at hnv hstr hd ⊢
 obtain ⟨hk1, hk2, hk3⟩ := hstr
 obtain ⟨hnr, hnl, na, nc, rfl, hnc⟩ := hnv
 have hI := hG.inv
 have hcn := Inv.cnts hz hI
 have hel := hG.el
 have hml : maxLen = 9223372036854775807 := rfl
 refine ret_of_run (e := [(0, _), (1, _)]) Tryz.func24 rfl Tryz.ntmps24 rfl rfl (qN rfl (rValP rfl rfl (pbx rfl (cs := opC kd key val n (.slice na nos.length nc) auto) rfl) ?_))
 rintro _ w1 ⟨b3, rfl, hb3, hx1, hB3⟩
 replace hB3 : Blk w1 b3 [I kd, S key, S val, I n, .slice na nos.length nc, .bool auto] 39 := hB3
 have hM1 := hM.ext hx1
 have hB1 := hM1.blk
 have hz1 := hx1.size
 have hl3 := hB3.lt
 have hb3n : ¬ fpS q m mv sv gv F b3 := fun e => by have := hM.lt e; omega
 have hfin : ∀ {X' : Sx} {w' : World} {p' : Nat} {mv' sv' gv' : Value} {nb' : Int → Nat} {F' : Nat → Prop}, StM w' q X' p' m mv' sv' gv' nb' F' → Kp (fpS q m mv sv gv F) w1 w' → (∀ k, fpS q m mv' sv' gv' F' k → fpS q m mv sv gv F k ∨ w1.heap.size ≤ k) → StR q m fp w w' X' := fun a b c => StR.of a (hx1.kp.trans b) (fun k hk => (c k hk).imp id (fun e => by omega)) hfp
 refine qa rfl (rEnd (run_seq (qN rfl (qV (yfa fl39_0 rfl) (qV ((by first | exact yld U3 rfl rfl hB1 rfl | exact yld U3 rfl rfl hB3 rfl)) ?_)))))
 refine rEnd (run_block (qN rfl (qV (yeq rfl rfl) (qa rfl (rEnd (run_if rfl (fun c0 => ?_) (fun c0 => ?_)))))))
 ·refine qN rfl (qm rfl (qV (yldA (news := opC kd key val n (.slice na nos.length nc) auto) U39 rfl ti39 rfl (hB3.cells (n := 6) rfl) rfl) (rCall rfl rfl (yc (args := [.tmp 14, .tmp 15]) cf9 rfl) (putS_ret hM1 hG hz (by omega) kd key val n (.slice na nos.length nc) auto hk1 hk2) ?_)))
  rintro _ w2 ⟨rfl, X', mv', gv', nb', F', hM2, hG2, hs2, -, hkk, hff⟩
  refine qa rfl (rEnd (run_ret Tryz.func24 rfl ?_))
  exact ⟨_, rfl, rfl, X', hfin hM2 hkk hff, hG2, hs2, fun e => by omega⟩
 ·refine qN rfl (qV (yeq rfl rfl) (qa rfl (rEnd (run_if rfl (fun c1 => ?_) (fun c1 => ?_)))))
  ·have hg : Ext w1 w1.drew := Ext.drew0 w1
   refine run_seq (run_draw (fun w' => Kp (fun k => F k ∨ k = m) w1 w') (by kernel_rfl) rfl ?_)
   have hqn : ¬ (F q ∨ q = m) := fun e => e.elim hM1.fq hM1.qm
   have hbn : ¬ (F b3 ∨ b3 = m) := fun e => e.elim (fun e => hb3n (.inr (.inr (.inr (.inr (.inr e)))))) (fun e => hb3n (.inr (.inl e)))
   refine qt 0 rfl (ymv rfl) (hg.kp) (qt 1 rfl (ynk rfl) (hg.kp) (qt 2 rfl (yfa fl36_1 rfl) (hg.kp) (qT 3 rfl (fun _ hS => (by first | exact yld U24 rfl rfl (hS.blk hB1 hqn) rfl | exact yld U24 rfl rfl (hS.blk hB3 hbn) rfl)) (hg.kp) ?_)))
   refine qt 4 rfl (yfa fl39_1 rfl) (hg.kp) (qT 5 rfl (fun _ hS => (by first | exact yld U9 rfl rfl (hS.blk hB1 hqn) rfl | exact yld U9 rfl rfl (hS.blk hB3 hbn) rfl)) (hg.kp) ?_)
   refine qt 7 rfl (ymv rfl) (hg.kp) (qt 8 rfl (ynk rfl) (hg.kp) (qt 9 rfl (yfa fl36_2 rfl) (hg.kp) (qT 10 rfl (fun _ hS => (by first | exact yld U29 rfl rfl (hS.blk hB1 hqn) rfl | exact yld U29 rfl rfl (hS.blk hB3 hbn) rfl)) (hg.kp) ?_)))
   refine qt 11 rfl (yfa fl39_1 rfl) (hg.kp) (qT 12 rfl (fun _ hS => (by first | exact yld U9 rfl rfl (hS.blk hB1 hqn) rfl | exact yld U9 rfl rfl (hS.blk hB3 hbn) rfl)) (hg.kp) ?_)
   refine qO 6 (nCall (i := 6) rfl rfl rfl (yc (args := [.tmp 22, .tmp 24]) cf11 rfl) (deleteT_ret (hM1.tree.ext hg) hI (by omega) key) ?_)
   rintro v2 w2 hv2
   refine ⟨(by rcases hv2 with ⟨-, -, h⟩ | ⟨-, -, T', H', ns', ⟨nb', F', -, -, h, -⟩, -⟩; exact hg.kp.trans h.kp; exact hg.kp.trans (h.mono' (fun k e => .inl e))), ?_⟩
   have hk12 : Kp F w1 w2 := by rcases hv2 with ⟨-, -, h⟩ | ⟨-, -, T', H', ns', ⟨nb', F', -, -, h, -⟩, -⟩; exact hg.kp.trans h.kp; exact hg.kp.trans h
   have hS2 : Kp (fun k => F k ∨ k = m) w1 w2 := hk12.mono' (fun k e => .inl e)
   rcases hv2 with ⟨rfl, hne, hx2⟩ | ⟨rfl, he0, T', H', ns', ⟨nb', F', hT2, hI2, hk2, hF2⟩, hev⟩
   ·have hM2 := (hM1.ext hg).ext hx2
    refine qO 13 (nCall (i := 13) rfl rfl rfl (yc (args := [.tmp 29, .tmp 31]) cf12 rfl) (delM_ret hM2.map key) ?_)
    rintro v3 w3 ⟨rfl, hv3⟩
    refine ⟨(by rw [if_neg hne] at hv3; rw [hv3]; exact hS2), ?_⟩
    rw [if_neg hne] at hv3
    obtain rfl := hv3
    refine qt 14 rfl (yeq rfl rfl) hS2 (qt 15 rfl (yas rfl) hS2 (qE (Run.qb (e := [(4, _)]) ?_)))
    refine run_ret Tryz.func24 rfl ?_
    exact ⟨_, rfl, by simp [resVal], X, hfin hM2 (hg.trans hx2).kp (fun k h => .inl h), hG.mono (Nat.le_succ k), rfl, fun _ => Nat.le_refl _⟩
   ·have hmt := (hM1.ext hg).treed hT2 (show T'.size = X.T.size from (show Evo _ _ _ from hev).size) hk2 hF2
    obtain ⟨hM2, hkm2, hf2⟩ := hmt
    refine qO 13 (nCall (i := 13) rfl rfl rfl (yc (args := [.tmp 29, .tmp 31]) cf12 rfl) (delM_ret hM2.map key) ?_)
    rintro v3 w3 ⟨rfl, hv3⟩
    refine ⟨(by rw [if_pos he0] at hv3; obtain ⟨mv', -, h, -⟩ := hv3; exact hS2.trans (h.mono' (fun k e => .inr e))), ?_⟩
    rw [if_pos he0] at hv3
    have hS3 : Kp (fun k => F k ∨ k = m) w1 w3 := by obtain ⟨mv', -, h, -⟩ := hv3; exact hS2.trans (h.mono' (fun k e => .inr e))
    have hmp := hM2.mapped hv3
    obtain ⟨mv3, hM3, hk3', hf3⟩ := hmp
    have hgz := hg.size
    have hz2 := hkm2.size
    have hk13 : Kp (fpS q m mv sv gv F) w1 w3 := (hg.kp.trans hkm2).trans_new hk3' (fun i hi => (hf2 i hi).elim .inr (fun e => .inl (by omega)))
    have hdl := delE_len ((hasE_iff (hI.rise hz)).2 ((getR_code (hI.rise hz)).1 he0).2)
    rw [he0]
    refine qt 14 rfl (yeq rfl rfl) hS3 (qt 15 rfl (yas rfl) hS3 (qE (Run.qb (e := [(4, _)]) ?_)))
    refine run_ret Tryz.func24 rfl ?_
    exact ⟨_, rfl, by simp [resVal], _, hfin (hM3.hn H' ns') hk13 (fun k hk => by
     rcases hf3 k hk with e | e
     ·rcases hf2 k e with e | e
      ·exact .inl e
      ·exact .inr (by omega)
     ·exact .inr (by omega)), hG.evo hev hI2 (Nat.le_succ k) (by omega), (show Evo _ _ _ from hev).size, fun _ => (show Evo _ _ _ from hev).len⟩
  ·refine qN rfl (qV (yeq rfl rfl) (qa rfl (rEnd (run_if rfl (fun c2 => ?_) (fun c2 => ?_)))))
   ·have hg : Ext w1 w1.drew := Ext.drew0 w1
    refine run_seq (run_draw (fun w' => Ext w1 w') (by kernel_rfl) rfl (qt 0 rfl (ymv rfl) hg (qt 1 rfl (ynk rfl) hg (qt 2 rfl (yfa fl36_1 rfl) hg (qT 3 rfl (fun _ hS => (by first | exact yld U24 rfl rfl (hS.blk hB1) rfl | exact yld U24 rfl rfl (hS.blk hB3) rfl)) hg ?_)))))
    refine qt 4 rfl (yfa fl39_1 rfl) hg (qT 5 rfl (fun _ hS => (by first | exact yld U9 rfl rfl (hS.blk hB1) rfl | exact yld U9 rfl rfl (hS.blk hB3) rfl)) hg ?_)
    refine qO 6 (nCall (i := 6) rfl rfl rfl (yc (args := [.tmp 40, .tmp 42]) cf42 rfl) (get_ret (hM1.tree.ext hg) hI key) ?_)
    rintro v2 w2 ⟨rfl, hx2⟩
    refine ⟨hg.trans hx2, ?_⟩
    have hx12 := hg.trans hx2
    have hM2 := hM1.ext hx12
    have hB2 := hM2.blk
    have hB32 := hx12.blk hB3
    have hg2 : Ext w2 w2.drew := Ext.drew0 w2
    refine qt 7 rfl (ymv rfl) (hg.trans hx2) (qt 8 rfl (yex rfl rfl) (hg.trans hx2) (qt 9 rfl (yex rfl rfl) (hg.trans hx2) (qt 10 rfl (yas rfl) (hg.trans hx2) (qt 11 rfl (yas rfl) (hg.trans hx2) (qE (run_seq (run_draw (fun w' => Ext w2 w') (by kernel_rfl) rfl (qt 0 rfl (ymv rfl) hg2 (qt 1 rfl (ynk rfl) hg2 (qt 2 rfl (yfa fl36_2 rfl) hg2 (qT 3 rfl (fun _ hS => (by first | exact yld U29 rfl rfl (hS.blk hB2) rfl | exact yld U29 rfl rfl (hS.blk hB32) rfl)) hg2 ?_)))))))))))
    refine qt 4 rfl (yfa fl39_1 rfl) hg2 (qT 5 rfl (fun _ hS => (by first | exact yld U9 rfl rfl (hS.blk hB2) rfl | exact yld U9 rfl rfl (hS.blk hB32) rfl)) hg2 ?_)
    refine qO 6 (nCall (i := 6) rfl rfl rfl (yc (args := [.tmp 50, .tmp 52]) cf10 rfl) (getM_ret (hM2.ext hg2).map key) ?_)
    rintro _ w3 ⟨rfl, hw3⟩
    refine ⟨(by rw [hw3]; exact hg2), ?_⟩
    have hx3 : Ext w1 w3 := by rw [hw3]; exact hx12.trans hg2
    refine qt 7 rfl (ymv rfl) ((by rw [hw3]; exact hg2)) ?_
    refine qt 8 rfl (yex rfl rfl) ((by rw [hw3]; exact hg2)) ?_
    refine qt 9 rfl (yex rfl rfl) ((by rw [hw3]; exact hg2)) ?_
    refine qt 10 rfl (yas rfl) ((by rw [hw3]; exact hg2)) ?_
    refine qt 11 rfl (yas rfl) ((by rw [hw3]; exact hg2)) ?_
    refine qE (Run.qb (e := [(4, _), (5, _), (6, _), (7, _), (8, _)]) ?_)
    refine qN rfl (qm rfl (qm rfl (qV (yeqS rfl rfl) (rTrue (by (first | rfl | assumption | omega | decide)) ?_))))
    refine qm rfl (qm rfl (qm rfl (qV (yeq rfl rfl) (rTrue (by (first | rfl | assumption | omega | decide)) ?_))))
    refine qV (ypT rfl rfl) (qa rfl (rEnd (run_ret Tryz.func24 rfl ?_)))
    exact ⟨_, rfl, by simp [resVal], X, hfin (hM1.ext hx3) hx3.kp (fun k h => .inl h), hG.mono (Nat.le_succ k), rfl, fun e => by omega⟩
   ·refine qN rfl (qV (yeq rfl rfl) (qa rfl (rEnd (run_if rfl (fun c3 => ?_) (fun c3 => ?_)))))
    ·refine qN rfl (qm rfl (qV (yldA (news := opC kd key val n (.slice na nos.length nc) auto) U39 rfl ti39 rfl (hB3.cells (n := 6) rfl) rfl) (rCall rfl rfl (yc (args := [.tmp 66, .tmp 67]) cf26 rfl) (rangedS_ret hM1 hG hz (by omega) kd key val n (.slice na nos.length nc) auto hk3) ?_)))
     rintro _ w2 ⟨rfl, hx2⟩
     refine qa rfl (rEnd (run_ret Tryz.func24 rfl ?_))
     exact ⟨_, rfl, rfl, X, hfin (hM1.ext hx2) hx2.kp (fun k h => .inl h), hG.mono (Nat.le_succ k), rfl, fun e => by omega⟩
    ·refine qN rfl (qV (yeq rfl rfl) (qa rfl (rEnd (run_if rfl (fun c4 => ?_) (fun c4 => ?_)))))
     ·refine qN rfl (qm rfl (qV (yfa fl39_4 rfl) (qV ((by first | exact yld U34 rfl rfl hB1 rfl | exact yld U34 rfl rfl hB3 rfl)) ?_)))
      refine rCall rfl rfl (yc (args := [.tmp 71, .tmp 73]) cf57 rfl) (giveS_ret hM1 hG hz (by omega) (hnr.ext hx1) hnl hnc (fun h g hg e => hd h g hg ((hfp g).2 e))) ?_
      rintro _ w2 ⟨rfl, X', gv', F', hM2, hG2, hs2, -, hkk, hff⟩
      refine qa rfl (rEnd (run_ret Tryz.func24 rfl ?_))
      exact ⟨_, rfl, rfl, X', hfin hM2 hkk hff, hG2, hs2, fun e => by omega⟩
     ·refine qN rfl (qV (yeq rfl rfl) (qa rfl (rEnd (run_if rfl (fun c5 => ?_) (fun c5 => ?_)))))
      ·refine qN rfl (qm rfl (qV (ynk rfl) (qV (yfa fl36_1 rfl) (qV ((by first | exact yld U24 rfl rfl hB1 rfl | exact yld U24 rfl rfl hB3 rfl)) ?_))))
       refine rCall rfl rfl (yc (args := [.tmp 80]) cf58 rfl) (clean_ret hM1.tree) ?_
       rintro _ w2 ⟨rfl, hT2, hk2⟩
       have hFlt : ∀ g, F g → g < w1.heap.size := fun g hg => hM1.lt (.inr (.inr (.inr (.inr (.inr hg)))))
       have hGc := (hG.mono (Nat.le_succ k)).clean hz (by omega)
       have hIc := hGc.inv
       have hB2 := hk2.blk hB1 hM1.fq
       have hql := hB1.lt
       have hz2 := hk2.size
       obtain ⟨P, hP⟩ : ∃ P, (pgs X.T.size X.T.nodes X.ns fun _ => true) = P := ⟨_, rfl⟩
       have hPl : P.length = X.ns.length := by rw [← hP, pgs_all_len]
       refine qa rfl (qM rfl (qm rfl (qm rfl (qV (ynk rfl) (qV (yfa fl36_1 rfl) (qV (yld U24 rfl rfl hB2 rfl) (rCall rfl rfl (yc (args := [.tmp 86]) cf22 rfl) (pages_ret hT2 hIc (by have : X.clean.ns = X.ns := rfl; rw [this]; omega)) ?_)))))))
       rintro v3 w3 ⟨hx3, hS3, -⟩
       replace hS3 : PgSl w3 v3 P := by rw [← hP]; exact hS3
       refine rCall rfl rfl (yc (args := [.tmp 87]) cf29 rfl) (pagesL_ret (Sl.rd hS3) (by omega)) ?_
       rintro v4 w4 ⟨hx4, hS4, ho4⟩
       have hx24 := hx3.trans hx4
       have hB4 := hx24.blk hB2
       have hT4 := hT2.ext hx24
       have hz3 := hx3.size
       have hz4 := hx4.size
       have hn4 : ∀ g, v4.ownBlock = some g → w1.heap.size ≤ g ∧ g < w4.heap.size := fun g hg => ⟨by have := ho4 g hg; omega, hS4.lt hg⟩
       refine qV (ynk rfl) (qV (yfa fl36_3 rfl) (rEffP rfl (zst ti33 rfl rfl (oneV_sl hS4) hB4 (by simp)) ?_))
       rintro w5 ⟨hB5, hk5⟩
       replace hB5 : Blk w5 q [I (X.T.size : Int), ptr p 0, ptr m 0, v4, gv, I (X.nx : Int)] 36 := hB5
       have hT5 := hT4.kp hk5 (fun g hg e => hM1.fq (e ▸ hg))
       have hS5 := hS4.kp hk5 (fun g hg e => by have := (hn4 g hg).1; omega)
       have hz5 := hk5.size
       have hgl : X.T.given.length ≤ 2147483647 := hI.gl
       refine rEnd (Run.qb (e := [(0, _), (4, _), (9, _)]) ?_)
       refine qN rfl (qm rfl (qm rfl (qV (ynk rfl) (qV (yfa fl36_1 rfl) (qV (yld U24 rfl rfl hB5 rfl) (rCall rfl rfl (yc (args := [.tmp 95]) cf27 rfl) (given_ret hT5 (Nat.le_trans hgl (by decide))) ?_))))))
       rintro v6 w6 ⟨hS6, hx6, ho6⟩
       replace hS6 : Sl w6 v6 3 1 X.T.given.length (X.T.given.map I) := hS6
       have hB6 := hx6.blk hB5
       have hn6 : ∀ g, v6.ownBlock = some g → w5.heap.size ≤ g := ho6
       refine qV (ynk rfl) (qV (yfa fl36_4 rfl) (rEffP rfl (zst ti34 rfl rfl (oneV_sl hS6) hB6 (by simp)) ?_))
       rintro w7 ⟨hB7, hk7⟩
       replace hB7 : Blk w7 q [I (X.T.size : Int), ptr p 0, ptr m 0, v4, v6, I (X.nx : Int)] 36 := hB7
       have hT7 := (hT5.ext hx6).kp hk7 (fun g hg e => hM1.fq (e ▸ hg))
       have hS7 := (hS5.ext hx6).kp hk7 (fun g hg e => by have := (hn4 g hg).1; omega)
       have hG7 := hS6.kp hk7 (fun g hg e => by have := hn6 g hg; omega)
       have hkk : Kp (fun k => F k ∨ k = q) w1 w7 := ((hk2.mono' (fun k e => .inl e)).trans (hx24.kp.trans (hk5.mono' (fun k e => .inr e)))).trans (hx6.kp.trans (hk7.mono' (fun k e => .inr e)))
       have hrs := hM1.reset (T' := X.clean.T) (p' := p) (nb' := nb) (F' := F) (O' := X.T.nodes) (os' := X.ns) (gs' := X.T.given) (sv' := v4) (gv' := v6) hkk hB7 hT7 rfl (fun k hk => .inl hk) (by rw [hP]; exact hS7) hG7
        (fun g hg => by
         have h1 : w1.heap.size ≤ g := hg.elim (fun e => (hn4 g e).1) (fun e => by have := hn6 g e; omega)
         exact ⟨h1, fun e => by have := hFlt g e; omega⟩) (fun g hg e => by have := hn6 g hg; have := (hn4 g e).2; omega)
       obtain ⟨hM7, hkr, hfr⟩ := hrs
       refine qM rfl (qm rfl (qV (yeq rfl rfl) (rTrue (by (first | rfl | assumption | omega | decide)) ?_)))
       refine qm rfl (qm rfl (qV (ynk rfl) (qV (yfa fl36_1 rfl) (qV (yld U24 rfl rfl hB7 rfl) (rCall rfl rfl (yc (args := [.tmp 105]) cf31 rfl) (changed_ret hT7 hIc (by have : X.clean.ns = X.ns := rfl; rw [this]; omega)) ?_)))))
       rintro v8 w8 ⟨hx8, hS8, -⟩
       obtain ⟨ca, cc, rfl⟩ := PgSl.no hS8
       have hB8 := hx8.blk hB7
       refine qV (yln U52 rfl) (qV (yeq rfl rfl) (rTrue (by (first | rfl | assumption | omega | decide)) ?_))
       refine qV (ypT rfl rfl) (qm rfl (qm rfl (qV (ynk rfl) (qV (yfa fl36_1 rfl) (qV (yld U24 rfl rfl hB8 rfl) (rCall rfl rfl (yc (args := [.tmp 114]) cf28 rfl) (freed_ret (hT7.ext hx8) (os := X.ns) (fun x hx => (hI.mem x).1 (Option.isSome_iff_ne_none.1 hx)) (by omega)) ?_))))))
       rintro v9 w9 ⟨hx9, fl, -, hfm, -, hS9, -⟩
       obtain rfl : fl = [] := List.eq_nil_iff_forall_not_mem.2 fun x hx => by
        obtain ⟨h1, h2⟩ := (hfm x).1 hx
        exact (Option.isSome_iff_ne_none.1 h1) h2
       obtain ⟨fa, fc, rfl⟩ := some_ofE hS9
       refine qV (yln U34 rfl) (qV (yeq rfl rfl) (rTrue (by (first | rfl | assumption | omega | decide)) ?_))
       refine qV (ypT rfl rfl) (qa rfl (rEnd (Run.qb (e := [(4, _)]) ?_)))
       refine run_ret Tryz.func24 rfl ?_
       have hx79 := hx8.trans hx9
       exact ⟨_, rfl, rfl, X.clean, hfin (hM7.ext hx79) (hkr.trans hx79.kp) hfr, hGc, rfl, fun e => by omega⟩
      ·refine qN rfl (qV (yeq rfl rfl) (qa rfl (rEnd (run_if rfl (fun c6 => ?_) (fun c6 => ?_)))))
       ·refine qN rfl (qm rfl (rCall rfl rfl (yc (args := [.tmp 121]) cf59 rfl) (loadS_ret hM1 hG hz (by omega)) ?_))
        rintro _ w2 ⟨rfl, X', p', sv', nb', F', hM2, hG2, hs2, -, hkk, hff⟩
        refine qa rfl (rEnd (run_ret Tryz.func24 rfl ?_))
        exact ⟨_, rfl, rfl, X', hfin hM2 hkk hff, hG2.mono (Nat.le_succ k), hs2, fun e => by omega⟩
       ·refine run_skip (run_inBlock (qN rfl (qa rfl (rEnd (run_ret Tryz.func24 rfl ?_)))))
        exact ⟨_, rfl, rfl, X, hfin hM1 (Ext.refl _).kp (fun k h => .inl h), hG.mono (Nat.le_succ k), rfl, fun e => by omega⟩
end
theorem ynebT {P : Program} {e : Env} {d : Option Nat} {ty t t' : TypeId} {pos : String} {aft : Array Edge} {g : Option (Nat × Bool)} {x y : Operand} {w : World} {p q : Bool} (hx : look e x = some (.bool p)) (hy : look e y = some (.bool q)) (ht : P.underlying t = some .bool) : Y P e ⟨d, .binOp .neq t x y t', ty, pos, aft, g⟩ (.bool (!(p == q))) w w := fun ρ hρ => by
 simp [execOp, hρ _ _ hx, hρ _ _ hy, eqGuard_at_bool, run_neq_bool w t p q ht]
theorem heldR_cls {P : Program} {ops : Array Oper} {Q : Exit → Act → World → Prop} {S S' : World → Prop} (h : ∀ w, S' w → S w) : ∀ (n : Nat) (listed : Array Bool) (a : Act) (w : World), HeldR P ops Q S' n listed a w → HeldR P ops Q S n listed a w
 | 0, _, _, _, hh => hh
 | n + 1, _, _, _, hh => ⟨hh.1, fun i hi => AtR.mono (fun a' w' h3 => ⟨h _ h3.1, heldR_cls h n _ _ _ h3.2⟩) (hh.2 i hi)⟩
theorem RH.cls {D : RC} {S S' : World → Prop} {fuel : Nat} {listed : Array Bool} {e : Env} {w : World} (h : ∀ w, S' w → S w) (hr : RH D S' fuel listed e w) : RH D S fuel listed e w := fun a ha => heldR_cls h _ _ _ _ (hr a ha)
theorem rd_opA {w : World} {b off n cap : Nat} {l : List TOp} {i : Nat} {o : TOp} (h : Rd w (.slice (some ⟨b, off, none⟩) n cap) 6 n (l.flatMap TOp.cs)) (hi : i < n) (hy : l[i]? = some o) : ∀ (j : Nat) u, o.cs[j]? = some u → w.cell? ⟨b, off + i * 6 + j, none⟩ = some u := fun j u hj => by
 have hl : j < o.cs.length := (List.getElem?_eq_some_iff.1 hj).1
 rw [rd_op h hi hy j hl]; exact hj
def St1 (w0 w : World) (q m : Nat) (X : Sx) : Prop := ∃ fp, StF w q m X fp ∧ (∀ k, fp k → w0.heap.size ≤ k) ∧ Ext w0 w
theorem St1.ext {w0 w w' : World} {q m : Nat} {X : Sx} (h : St1 w0 w q m X) (k : Ext w w') : St1 w0 w' q m X := by
 obtain ⟨fp, h1, h2, h3⟩ := h
 exact ⟨fp, h1.ext k, h2, h3.trans k⟩
theorem St1.step {w0 w w' : World} {q m : Nat} {X' : Sx} {fp : Nat → Prop} (h2 : ∀ k, fp k → w0.heap.size ≤ k) (h3 : Ext w0 w) (h : StR q m fp w w' X') : St1 w0 w' q m X' := by
 obtain ⟨fp', h4, h5, h6⟩ := h
 refine ⟨fp', h4, fun k hk => ?_, h3.trans_new h5 (fun i hi => h2 i hi)⟩
 rcases h6 k hk with e | e
 ·exact h2 k e
 ·have := h3.size; omega
section
variable {w0 w : World} {q p m : Nat} {z : Nat} {nb : Int → Nat} {F : Nat → Prop}
theorem St1.init (hx : Ext w0 w) (hT : TreeA w p (Tr0 z) nb F) (hF : ∀ k, F k → w0.heap.size ≤ k) (hm : Blk w m [.slice none 0 0] 32) (hB : Blk w q [I (z : Int), ptr p 0, ptr m 0, .slice none 0 0, .slice none 0 0, I 0] 36) (hqm : q ≠ m) (hq : ¬ F q) (hmF : ¬ F m) (hq0 : w0.heap.size ≤ q) (hm0 : w0.heap.size ≤ m) : St1 w0 w q m ⟨Tr0 z, 0, [], [], fun _ => none, [], [], 0⟩ := by
 refine ⟨_, ⟨p, _, _, _, nb, F, StM.init hT hm hB hqm hq hmF, fun _ => Iff.rfl⟩, fun k hk => ?_, hx⟩
 rcases hk with e | e | e | e | e | e
 ·omega
 ·omega
 ·simp [Value.ownBlock] at e
 ·simp [Value.ownBlock] at e
 ·simp [Value.ownBlock] at e
 ·exact hF k e
end
theorem OpsT.kp {w0 w w' : World} {v : Value} {l : List TOp} {fp : Nat → Prop} (h : OpsT w0 v l) (h2 : ∀ k, fp k → w0.heap.size ≤ k) (h3 : Ext w0 w) (k : Kp fp w w') : Rd w' v 6 l.length (l.flatMap TOp.cs) :=
 (h.ext (h3.trans_new k (fun i hi => h2 i hi))).rd
theorem OpsT.apart {w0 : World} {v : Value} {l : List TOp} {fp : Nat → Prop} (h : OpsT w0 v l) (h2 : ∀ k, fp k → w0.heap.size ≤ k) {o : TOp} (ho : o ∈ l) : 0 < o.nos.length → ∀ g, o.nv.ownBlock = some g → ¬ fp g := fun h0 g hg e => by
 have := Rd.ltz (h.nos o ho).1 (by omega) h0 hg
 have := h2 g e
 omega
section
variable {w : World}
set_option maxHeartbeats 8000000 in
theorem treePlays_ret (z : Int) {lv : Value} {l : List TOp} (hL : OpsT w lv l) :
  Ret Tryz.prog 5 [I z, lv] w fun v w' => v = .bool true ∧ Ext w w' := by
 have hll := hL.le
 obtain ⟨la, lc, rfl, -⟩ := hL.rd.shape
 refine ret_of_run (e := [(0, _), (1, _)]) Tryz.func5 rfl Tryz.ntmps5 rfl rfl (qN rfl (qa rfl (qM rfl (qm rfl (rCall rfl rfl (yc (args := [.tmp 10]) cf8 rfl) (newT_ret z) ?_)))))
 rintro v1 w1 ⟨hx1, hv1⟩
 rcases hv1 with ⟨hs1, p, F, rfl, hT, hF⟩ | ⟨hs1, rfl⟩
 ·obtain ⟨s, rfl⟩ : ∃ s : Nat, z = (s : Int) := ⟨z.toNat, by have := hs1.1; omega⟩
  rw [show ((s : Int)).toNat = s from rfl] at hT
  refine qm rfl (qV (yex rfl rfl) (qV (yex rfl rfl) (qa rfl (qa rfl (rEnd (run_seq (qN rfl (qm rfl (qV (yne rfl rfl) (qm rfl (rVal_if (fun h1 => ?_) (fun h1 => ?_))))))))))))
  ·exact absurd rfl h1
  ·refine qm rfl (rCall rfl rfl (yc (args := [.tmp 17]) cf23 rfl) (rsize_ret (s : Int) w1) ?_)
   rintro _ w1 ⟨rfl, rfl⟩
   rw [if_pos hs1]
   refine qV (yne rfl rfl) (qV (ypF rfl rfl) (rEnd (run_if rfl (fun h2 => ?_) (fun h2 => ?_))))
   ·exact absurd rfl h2
   ·refine run_skip (qN rfl (qm rfl (qm rfl (qV (ybd (parts := []) (cs := [_]) ti32 rfl sp32 rfl rfl) (rValP rfl rfl (pbx rfl rfl) ?_)))))
    rintro _ w2 ⟨m, rfl, hm, hx2, hBm⟩
    refine qV (ybd (parts := [(0, .tmp 35), (1, .tmp 36), (2, .tmp 38)]) (cs := [_, _, _, _, _, _]) ti36 rfl sp36 rfl rfl) (rValP rfl rfl (pbx rfl rfl) ?_)
    rintro _ w3 ⟨q, rfl, hq, hx3, hBq⟩
    have hz1 := hx1.size
    have hz2 := hx2.size
    have hl2 := hBm.lt
    have hlT := hT.lt
    have hSt : St1 w w3 q m ⟨Tr0 s, 0, [], [], fun _ => none, [], [], 0⟩ := St1.init ((hx1.trans hx2).trans hx3) ((hT.ext hx2).ext hx3) hF (hx3.blk hBm) hBq (by omega) (fun e => by have := hlT _ e; omega) (fun e => by have := hlT _ e; omega) (by omega) (by omega)
    refine qa rfl (rEnd (run_seq (qN rfl (qa rfl (rEnd (Run.qb (e := [(1, _), (4, _), (7, _), (8, _)]) ?_))))))
    refine run_block (run_cut2 (fun e' w' => e' = [(7, ptr q 0)] ∧ ∃ X, St1 w w' q m X ∧ Gh X 300 ∧ X.T.size = s) ?hke (fun hke => ?hmaine))
    case hke =>
     rintro e' u1 ⟨rfl, X, hSt1, hG, hs2⟩
     obtain ⟨fp, hSF, h2', h3⟩ := id hSt1
     obtain ⟨p1, mv1, sv1, gv1, nb1, F1, hM1, hfp1⟩ := id hSF
     have hX : sizeOk (X.T.size : Int) := by rw [hs2]; exact hs1
     refine qN rfl (qm rfl (qV (ybd (parts := [(3, .const (Value.int .i64 1000))]) (cs := [_, _, _, _, _, _]) ti39 rfl sp39 rfl rfl) (rCall rfl rfl (yc (args := [.tmp 106, .tmp 107]) cf26 rfl) (rangedS_ret hM1 hG hX (by omega) 0 [] [] 1000 (.slice none 0 0) false (by decide)) ?_)))
     rintro _ u2 ⟨rfl, hx2⟩
     refine qm rfl (rCall rfl rfl (yc (args := []) cf16 rfl) (awake_ret u2) ?_)
     rintro _ u3 ⟨rfl, hx3⟩
     refine qV (ypT rfl rfl) (qa rfl (rEnd (run_ret Tryz.func5 rfl ?_)))
     exact ⟨_, rfl, rfl, (h3.trans hx2).trans hx3⟩
    case hmaine =>
     refine run_loop (α := Nat) (0) (fun i => [(1, .slice la l.length lc), (7, ptr q 0), (8, I (i : Int))]) (fun i w' => i ≤ 300 ∧ i ≤ l.length ∧ ∃ X, St1 w w' q m X ∧ Gh X i ∧ X.T.size = s) (fun i => 300 - i) (by repeat (first | exact Sub.nil | refine Sub.cons rfl ?_)) ?hI ?hround
     case hI => exact ⟨Nat.zero_le _, Nat.zero_le _, _, hSt, gh0 s, rfl⟩
     case hround =>
      clear hSt hBm hBq hT
      rintro i u1 ⟨hi, hil, X0, hSt, hG0, hs2⟩ ih
      obtain ⟨fp, hSF, h2', h3⟩ := id hSt
      try dsimp only
      refine run_seq (qN rfl (qm rfl (qm rfl (qV (yln U22 rfl) (qV (ylt rfl rfl) (qm rfl (rVal_if (fun g1 => ?_) (fun g1 => ?_))))))))
      ·refine qm rfl (qV (ylt rfl rfl) (qV (ypT rfl rfl) (rEnd (run_if rfl (fun g2 => ?_) (fun g2 => ?_)))))
       ·have hi' : i < l.length := by omega
        obtain ⟨b1, o1, o, rfl, ho⟩ := rd_ops hL.rd rfl hi'
        have hom := List.mem_of_getElem? ho
        have hX0 : sizeOk (X0.T.size : Int) := by rw [hs2]; exact hs1
        have hg : Ext u1 u1.drew := Ext.drew0 u1
        have hL1 := hL.ext (h3.trans hg)
        refine run_skip (run_seq (run_block (run_seq (run_draw (fun w' => Kp fp u1 w') (by kernel_rfl) rfl (qt 0 rfl (ymv rfl) (hg.kp) (qt 1 rfl (ymv rfl) (hg.kp) (qt 2 rfl (ymv rfl) (hg.kp) (qt 3 rfl (yis U22 ti39 rfl rfl (by omega)) (hg.kp) (qT 4 rfl (fun _ hS => yldA U39 rfl ti39 rfl (rd_opA (hL.kp h2' h3 hS) hi' ho) rfl) (hg.kp) (qO 5 (nCall (i := 5) rfl rfl rfl (yc (args := [.tmp 51, .tmp 55]) cf24 rfl) (stepS_ret (hSF.ext hg) hG0 hX0 (by omega) o (hL1.nos o hom) (hL1.str o hom) (hL.apart h2' hom)) ?_)))))))))))
        rintro _ u2 ⟨rfl, X, hR2, hG, hs3, -⟩
        refine ⟨(by obtain ⟨_, -, h, -⟩ := hR2; exact hg.kp.trans h), ?_⟩
        have hk12 : Kp fp u1 u2 := by obtain ⟨_, -, h, -⟩ := hR2; exact hg.kp.trans h
        have hSt2 := St1.step h2' (h3.trans hg) hR2
        obtain ⟨fp2, hSF2, h22, h23⟩ := id hSt2
        obtain ⟨p2, mv2, sv2, gv2, nb2, F2, hM2, hfp2⟩ := id hSF2
        have hX : sizeOk (X.T.size : Int) := by rw [hs3]; exact hX0
        have hI := hG.inv
        have hcn := Inv.cnts hX hI
        have hel := hG.el
        have hcc := hI.cnt
        have hps := (hI.pos hX).1
        obtain ⟨ma, mc, rfl⟩ := some_ofE hM2.map.sl
        have hB2 := hM2.blk
        have hBm2 := hM2.map.blk
        refine RH.cls (S' := fun w' => w' = u2) (fun w' h => by rw [h]; exact hk12) ?_
        refine qt 6 rfl ((by first | exact yntd rfl | exact ynt rfl)) rfl ?_
        refine qt 7 rfl (ymv rfl) rfl (qt 8 rfl (ymv rfl) rfl (qt 9 rfl (ynk rfl) rfl (qt 10 rfl (yfa fl36_1 rfl) rfl (qT 11 rfl (fun _ hS => (by first | exact yld U24 rfl rfl (hS.symm ▸ hB2) rfl | exact yld U24 rfl rfl (hS.symm ▸ hBm2) rfl)) rfl ?_))))
        refine qt 13 rfl (ymv rfl) rfl (qt 14 rfl (ynk rfl) rfl (qt 15 rfl (yfa fl36_2 rfl) rfl (qT 16 rfl (fun _ hS => (by first | exact yld U29 rfl rfl (hS.symm ▸ hB2) rfl | exact yld U29 rfl rfl (hS.symm ▸ hBm2) rfl)) rfl ?_)))
        refine qt 17 rfl (ynk rfl) rfl (qt 18 rfl (yfa fl32_0 rfl) rfl (qT 19 rfl (fun _ hS => (by first | exact yld U30 rfl rfl (hS.symm ▸ hB2) rfl | exact yld U30 rfl rfl (hS.symm ▸ hBm2) rfl)) rfl ?_))
        refine qt 20 rfl (yln U30 rfl) rfl (qO 12 (nCall (i := 12) rfl rfl rfl (yc (args := [.tmp 62]) cf14 rfl) (lenT_ret hM2.tree) ?_))
        rintro _ u2 ⟨rfl, rfl⟩
        refine ⟨rfl, ?_⟩
        refine qt 21 rfl (yne rfl rfl) rfl (hFalse (by (first | exact fun h => h rfl | assumption | omega)) ?_)
        refine qt 22 rfl (ypF rfl rfl) rfl (qt 23 rfl (ymv rfl) rfl (qt 24 rfl (ymv rfl) rfl (qt 25 rfl (ynk rfl) rfl (qt 26 rfl (yfa fl36_1 rfl) rfl (qT 27 rfl (fun _ hS => (by first | exact yld U24 rfl rfl (hS.symm ▸ hB2) rfl | exact yld U24 rfl rfl (hS.symm ▸ hBm2) rfl)) rfl ?_)))))
        refine qt 29 rfl (ymv rfl) rfl (qt 30 rfl (ynk rfl) rfl (qt 31 rfl (yfa fl36_1 rfl) rfl (qT 32 rfl (fun _ hS => (by first | exact yld U24 rfl rfl (hS.symm ▸ hB2) rfl | exact yld U24 rfl rfl (hS.symm ▸ hBm2) rfl)) rfl ?_)))
        refine qO 28 (nCall (i := 28) rfl rfl rfl (yc (args := [.tmp 78]) cf25 rfl) (need_ret hM2.tree hI (by omega)) ?_)
        rintro _ u2 ⟨rfl, rfl⟩
        refine ⟨rfl, ?_⟩
        refine qO 33 (nCall (i := 33) rfl rfl rfl (yc (args := [.tmp 83]) cf20 rfl) (depth_ret hM2.tree hI (by omega)) ?_)
        rintro _ u2 ⟨rfl, rfl⟩
        refine ⟨rfl, ?_⟩
        refine qt 34 rfl (yad rfl rfl (by omega)) rfl (qt 35 rfl (yne rfl rfl) rfl (hFalse (by (first | exact fun h => h rfl | assumption | omega)) ?_))
        refine qt 36 rfl (ypF rfl rfl) rfl (qt 37 rfl (ymv rfl) rfl (qt 38 rfl (ymv rfl) rfl (qt 39 rfl (ynk rfl) rfl (qt 40 rfl (yfa fl36_1 rfl) rfl (qT 41 rfl (fun _ hS => (by first | exact yld U24 rfl rfl (hS.symm ▸ hB2) rfl | exact yld U24 rfl rfl (hS.symm ▸ hBm2) rfl)) rfl ?_)))))
        refine qt 44 rfl (ymv rfl) rfl (qt 45 rfl (ynk rfl) rfl (qt 46 rfl (yfa fl36_2 rfl) rfl (qT 47 rfl (fun _ hS => (by first | exact yld U29 rfl rfl (hS.symm ▸ hB2) rfl | exact yld U29 rfl rfl (hS.symm ▸ hBm2) rfl)) rfl ?_)))
        refine qt 48 rfl (ynk rfl) rfl (qt 49 rfl (yfa fl32_0 rfl) rfl (qT 50 rfl (fun _ hS => (by first | exact yld U30 rfl rfl (hS.symm ▸ hB2) rfl | exact yld U30 rfl rfl (hS.symm ▸ hBm2) rfl)) rfl ?_))
        refine qt 51 rfl (yln U30 rfl) rfl (qt 52 rfl (yeq rfl rfl) rfl (qO 42 (nCall (i := 42) rfl rfl rfl (yc (args := [.tmp 92]) cf21 rfl) (rootT_ret hM2.tree) ?_)))
        rintro _ u2 ⟨rfl, rfl⟩
        refine ⟨rfl, ?_⟩
        refine qt 43 rfl (yeq rfl rfl) rfl (qt 53 rfl (ynebT rfl rfl U4) rfl (qt 54 rfl (ypF rfl rfl) rfl (qE (run_cond rfl (fun g3 => ?_) (fun g3 => ?_)))))
        ·exfalso
         have e1 : (decide (X.T.root = 0)) = (decide ((X.es.length : Int) = 0)) := decide_eq_decide.2 (by rw [hps]; constructor; intro e; rw [e]; rfl; intro e; exact List.eq_nil_of_length_eq_zero (by omega))
         rw [e1] at g3
         simp at g3
        ·refine run_skip (run_inBlock (run_reg rfl (qm rfl (qV (yad rfl rfl (by omega)) (qa rfl (rEnd ?_))))))
         exact (ih (i + 1) u2 ⟨by omega, by omega, X, hSt2, hG, hs3.trans hs2⟩ (by omega)).qb
       ·refine run_exit rfl ?_
        exact (hke _ _ ⟨rfl, X0, hSt, hG0.mono hi, hs2⟩).qb
      ·refine qS (qS (qV (ypF rfl rfl) (rEnd (run_false rfl (run_exit rfl ?_)))))
       exact (hke _ _ ⟨rfl, X0, hSt, hG0.mono hi, hs2⟩).qb
 ·refine qm rfl (qV (yex rfl rfl) (qV (yex rfl rfl) (qa rfl (qa rfl (rEnd (run_seq (qN rfl (qm rfl (qV (yne rfl rfl) (qm rfl (rVal_if (fun h1 => ?_) (fun h1 => ?_))))))))))))
  ·refine qS (qS (qS (qV (ypT rfl rfl) (rEnd (run_true rfl (qN rfl (qm rfl (qV (yeqpN U24 rfl rfl) (qm rfl (qm rfl (qV (yeq rfl rfl) (rTrue (by (first | rfl | assumption | omega | decide)) ?_))))))))))))
   refine qV (ypT rfl rfl) (qm rfl (qm rfl (rCall rfl rfl (yc (args := [.tmp 28]) cf23 rfl) (rsize_ret z w1) ?_)))
   rintro _ w1 ⟨rfl, rfl⟩
   rw [if_neg hs1]
   refine qV (yeq rfl rfl) (rTrue (by (first | rfl | assumption | omega | decide)) ?_)
   refine qV (ypT rfl rfl) (qm rfl (rCall rfl rfl (yc (args := []) cf16 rfl) (awake_ret w1) ?_))
   rintro _ w2 ⟨rfl, hx2⟩
   refine qV (ypT rfl rfl) (qa rfl (rEnd (Run.qb (e := [(0, _), (1, _), (4, _), (5, _)]) ?_)))
   refine run_ret Tryz.func5 rfl ?_
   exact ⟨_, rfl, rfl, hx1.trans hx2⟩
  ·exact absurd (by decide) h1
end
end Go.Proofs.YtocnhaoilnojmaaGreat
