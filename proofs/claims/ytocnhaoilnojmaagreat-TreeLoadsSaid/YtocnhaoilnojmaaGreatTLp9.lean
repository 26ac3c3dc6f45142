/- Texts R8E, TrKe, TrDl, LwA, LwB, Row, LwO, one behind the other (what the statement TreeLoads does not use is left out). -/
import Derived.Test.YtocnhaoilnojmaaGreatTLp1
import Derived.Test.YtocnhaoilnojmaaGreatTLp8
import Derived.Test.YtocnhaoilnojmaaGreatTLp6
import Derived.Test.YtocnhaoilnojmaaGreatTLp5
import Derived.Test.YtocnhaoilnojmaaGreatTLp7
import Derived.Test.YtocnhaoilnojmaaGreatTLp4
import Derived.Test.YtocnhaoilnojmaaGreatRows
import Derived.SizedLaws
import Derived.Carry
import Derived.WalkKit
import Derived.ProofKit
import Derived.OpenShut
import Derived.ShutString
import Derived.ChangeOld
import Derived.Below
import Derived.Lib.SmallJoins
import Derived.Deep.Slices
import Derived.Deep.Strs
namespace Go.Proofs.YtocnhaoilnojmaaGreat
open Go Go.RowKit
set_option linter.all false
set_option maxRecDepth 100000
theorem metC_nil (l : Pgs) : metC l [] = List.replicate l.length (I 0) := by
 unfold metC
 induction l with
 | nil => rfl
 | cons a r ih => rw [List.map_cons, ih, List.length_cons, List.replicate_succ]; rfl
section
variable {w : World}
set_option maxHeartbeats 8000000 in
theorem shape_ret {z : Nat} {root : Int} {lv : Value} {l : Pgs} (hnum : numsOk (z : Int) root l) (hR : Rd w lv 2 l.length (pgC l)) (hl : l.length ≤ 1000000) (ht : ∀ y ∈ l, y.2.length ≤ 140737488355328) :
  Ret Tryz.prog 19 [I (z : Int), I root, lv] w fun v w' => Ext w w' ∧ ((∃ H ns es ov, LoadOk z root l H ns es ∧ v = .tuple #[ov, I ((H : Nat) : Int), .bool true] ∧ Sl w' ov 41 2 es.length (esC es) ∧ (∀ g, ov.ownBlock = some g → w.heap.size ≤ g) ∧ es.length ≤ l.length * 100000) ∨ ((∀ H ns es, ¬ LoadOk z root l H ns es) ∧ v = .tuple #[.slice none 0 0, I 0, .bool false])) := by
 obtain ⟨hz, hroot, hnn, hnb⟩ := id hnum
 obtain ⟨la, lc, rfl, -⟩ := id hR.shape
 have hml : maxLen = 9223372036854775807 := rfl
 refine ret_of_run (e := [(0, _), (1, _), (2, _)]) Tryz.func19 rfl Tryz.ntmps19 rfl rfl ?_; refine run_seq ?_; refine run_reg rfl ?_; refine qV (yas rfl) ?_; refine qV (yas rfl) ?_; refine qV (yas rfl) ?_; refine rEnd ?_; refine run_seq ?_; refine run_seq ?_; refine run_reg rfl ?_; refine qV (ymv rfl) ?_; refine qV (yeq rfl rfl) ?_; refine rEnd ?_; refine run_if rfl (fun hr0 => ?_) (fun hr0 => ?_)
 ·skip
  refine run_seq ?_; refine run_reg rfl ?_; refine qV (ymv rfl) ?_; refine qV (yln U33 rfl) ?_; refine qV (yeq rfl rfl) ?_; refine qV (yas rfl) ?_; refine qV (yas rfl) ?_; refine qV (yas rfl) ?_; refine rEnd ?_; refine run_ret Tryz.func19 rfl ?_
  by_cases hl0 : l = []
  ·refine ⟨_, rfl, Ext.refl _, .inl ⟨0, [], [], .slice none 0 0, .inl ⟨hr0, hl0, rfl, rfl, rfl⟩, ?_, Sl.nil _ _ _, fun g hg => by simp [Value.ownBlock] at hg, by simp⟩⟩
   rw [hl0]; rfl
  ·have : l.length ≠ 0 := fun e => hl0 (List.eq_nil_of_length_eq_zero e)
   refine ⟨_, rfl, Ext.refl _, .inr ⟨fun H ns es h => ?_, ?_⟩⟩
   ·rcases h with h | h
    ·exact hl0 h.2.1
    ·exact h.1 hr0
   ·rw [decide_eq_false (by omega)]; rfl
 ·skip
  refine run_skip ?_; refine run_seq ?_; refine run_reg rfl ?_; refine qV (ymv rfl) ?_; refine qV (ymv rfl) ?_; refine qV (ymv rfl) ?_; refine qV (yln U33 rfl) ?_; refine rValP rfl rfl (pmk U34 ti3 rfl rfl rfl (Nat.le_refl _) (by omega) (by omega)) ?_
  rintro _ w1 ⟨mb, rfl, ⟨hb1, hx1, hB1⟩, hS1⟩
  refine qV (ybd (parts := [(0, .tmp 19), (1, .tmp 20), (2, .tmp 23)]) (cs := [_, _, _]) ti97 rfl sp97 rfl rfl) ?_; refine rValP rfl rfl (pbx rfl rfl) ?_
  rintro _ w2 ⟨q, rfl, hq2, hx2, hB2⟩
  have hlm := hB1.lt
  have hz1 := hx1.size
  have hz2 := hx2.size
  have hlq := hB2.lt
  have hx02 := hx1.trans hx2
  have hc2 : WkC w2 q mb z (.slice la l.length lc) l := ⟨hB2, hR.ext hx02, by omega, fun h0 e => by have := Rd.ltz hR (by omega) h0 e; omega⟩
  have hm2 : Blk w2 mb (metC l []) 3 := by rw [metC_nil]; exact hx2.blk hB1
  refine qV (yas rfl) ?_; refine rEnd ?_; refine run_seq ?_; refine run_reg rfl ?_; refine qV (ymv rfl) ?_; refine qV (ymv rfl) ?_; refine qV (ybd (parts := []) (cs := [_, _, _]) ti100 rfl sp100 rfl rfl) ?_; refine rCall rfl rfl (yc (args := [.tmp 27, .tmp 28, .tmp 29, .const (Value.bool true)]) cf54 rfl) (wkAt_all hz hnn hl ht l.length w2 root [] none [] [] true hc2 hm2 List.nodup_nil (by simp) (by simp) (fun u hu => by cases hu)) ?_
  rintro v3 w3 ⟨hk3, hv3⟩
  have hx3 : Ext w w3 := hx02.trans_new hk3 (fun i hi => by omega)
  rcases hv3 with ⟨h, ns, es, ov, rfl, s, hSo, hoo, hm3, hcb⟩ | ⟨rfl, hno⟩
  ·have hc3 := hc2.kp hk3
   have hB3 := hc3.blk
   have hsub : ∀ x ∈ ns, x ∈ l.map (·.1) := fun x hx => by
    obtain ⟨m, hm⟩ := Option.ne_none_iff_exists'.1 (s.bn.some x hx)
    exact (nodesOf_ok hm).2
   have hll : (l.map (·.1)).length = l.length := by simp
   have hle := List.Nodup.length_le_of_subset s.nd hsub
   rw [List.append_nil] at hm3
   have hml3 : (metC l ns).length = l.length := by unfold metC; rw [List.length_map]
   refine qV (ymv rfl) ?_; refine qV (yex rfl rfl) ?_; refine qV (yex rfl rfl) ?_; refine qV (yex rfl rfl) ?_; refine qV (yas rfl) ?_; refine qV (yas rfl) ?_; refine qV (yas rfl) ?_; refine rEnd ?_; refine Run.qb (e := [(2, _), (6, _), (7, _), (8, _), (9, _), (10, _), (11, _), (12, _)]) ?_; refine run_seq ?_; refine run_seq ?_; refine run_reg rfl ?_; refine qV (yas rfl) ?_; refine rEnd ?_; refine run_block ?_
   refine run_loop (α := Nat × Bool) ((0, true)) (fun x => [(2, .slice la l.length lc), (9, ptr q 0), (10, ov), (11, I (h : Int)), (12, .bool x.2), (13, I (x.1 : Int))]) (fun x w' => w' = w3 ∧ x.1 ≤ l.length ∧ (x.2 = true ↔ ∀ y ∈ l.take x.1, y.1 ∈ ns)) (fun x => l.length - x.1) (by repeat (first | exact Sub.nil | refine Sub.cons rfl ?_)) ?hI ?hround
   case hI => exact ⟨rfl, Nat.zero_le _, by simp⟩
   case hround =>
    rintro ⟨i, ok⟩ w4 ⟨rfl, hi, hok⟩ ih
    dsimp only at hi hok
    try dsimp only
    refine run_seq ?_; refine run_seq ?_; refine run_reg rfl ?_; refine qV (ymv rfl) ?_; refine qV (ymv rfl) ?_; refine qV (yln U33 rfl) ?_; refine qV (ylt rfl rfl) ?_; refine rEnd ?_; refine run_if rfl (fun hlt => ?_) (fun hlt => ?_)
    ·skip
     have hi' : i < l.length := by omega
     obtain ⟨y, hy⟩ : ∃ y, l[i]? = some y := ⟨_, List.getElem?_eq_getElem hi'⟩
     refine run_skip ?_; refine run_seq ?_; refine run_block ?_; refine run_reg rfl ?_; refine qV (ymv rfl) ?_; refine qV (ymv rfl) ?_; refine rVal_bool (fun h1 => ?_) (fun h1 => ?_)
     ·skip
      refine qV (ymv rfl) ?_; refine qV ((by first | exact ync rfl | exact yncf rfl)) ?_; refine qV (yfa fl97_2 rfl) ?_; refine qV (yld U34 rfl rfl hB3 rfl) ?_; refine qV (ymv rfl) ?_; refine qV (yis U34 ti3 rfl rfl (by omega)) ?_; refine qV (yldc U3 rfl rfl (by rw [hm3.cell]; rw [Nat.zero_add, Nat.mul_one]; exact metC_get hy)) ?_
      refine qV (yeq rfl rfl) ?_; refine qV (ypT rfl rfl) ?_; refine qV (yas rfl) ?_; refine rEnd ?_; refine run_inBlock ?_; refine run_reg rfl ?_; refine qV (ymv rfl) ?_; refine qV (yad rfl rfl (by omega)) ?_; refine qV (yas rfl) ?_; refine rEnd ?_; refine (ih (i + 1, _) w4 ⟨rfl, by dsimp only; omega, ?_⟩ (by dsimp only; omega)).qb
      dsimp only
      constructor
      ·intro hh x hx
       rcases (mem_take_succ hy).1 hx with hx | rfl
       ·exact (hok.1 h1) x hx
       ·by_cases hm : x.1 ∈ ns
        ·exact hm
        ·rw [if_neg hm] at hh; cases hh
      ·intro hh
       rw [if_pos (hh y ((mem_take_succ hy).2 (.inr rfl)))]; rfl
     ·skip
      refine qS ?_; refine qS ?_; refine qS ?_; refine qS ?_; refine qS ?_; refine qS ?_; refine qS ?_; refine qS ?_; refine qV (ypF rfl rfl) ?_; refine qV (yas rfl) ?_; refine rEnd ?_; refine run_inBlock ?_; refine run_reg rfl ?_; refine qV (ymv rfl) ?_; refine qV (yad rfl rfl (by omega)) ?_; refine qV (yas rfl) ?_; refine rEnd ?_; refine (ih (i + 1, _) w4 ⟨rfl, by dsimp only; omega, ?_⟩ (by dsimp only; omega)).qb
      dsimp only
      constructor
      ·intro hh; cases hh
      ·intro hh
       have := hok.2 (fun x hx => hh x ((mem_take_succ hy).2 (.inl hx)))
       rw [h1] at this; cases this
    ·skip
     rw [List.take_of_length_le (by omega)] at hok
     refine run_exit rfl ?_; refine run_seq ?_; refine run_seq ?_; refine run_reg rfl ?_; refine qV (ymv rfl) ?_; refine qV ((by first | exact yntd rfl | exact ynt rfl)) ?_; refine rEnd ?_; refine run_cond rfl (fun h2 => ?_) (fun h2 => ?_)
     ·skip
      have h2' : ok = false := by simpa using h2
      refine run_seq ?_; refine run_reg rfl ?_; refine qV (yas rfl) ?_; refine qV (yas rfl) ?_; refine qV (yas rfl) ?_; refine rEnd ?_; refine run_ret Tryz.func19 rfl ?_; refine ⟨_, rfl, hx3, .inr ⟨fun H ns' es' hh => ?_, rfl⟩⟩
      rcases hh with hh | ⟨-, s', hl'⟩
      ·exact hr0 hh.1
      ·obtain ⟨-, rfl, -⟩ := bn_det hz s.bn s'.bn
       have := hok.2 (fun y hy => sub_of_len s.nd hsub (by rw [hll, hl']; exact Nat.le_refl _) _ (List.mem_map.2 ⟨y, hy, rfl⟩))
       rw [h2'] at this; cases this
     ·skip
      have h2' : ok = true := by simpa using h2
      have hall := hok.1 h2'
      refine run_skip ?_; refine run_seq ?_; refine run_reg rfl ?_; refine qV (ymv rfl) ?_; refine qV (ymv rfl) ?_; refine qV (yas rfl) ?_; refine qV (yas rfl) ?_; refine qV (yas rfl) ?_; refine rEnd ?_; refine run_ret Tryz.func19 rfl ?_; refine ⟨_, rfl, hx3, .inl ⟨h, ns, es, ov, .inr ⟨hr0, s, ?_⟩, rfl, hSo, fun g hg => by have := hoo g hg; omega, Nat.le_trans hcb (Nat.mul_le_mul_right _ (by omega))⟩⟩
      have := List.Nodup.length_le_of_subset hnn (l₂ := ns) (fun x hx => by
       obtain ⟨y, hy, rfl⟩ := List.mem_map.1 hx
       exact hall y hy)
      omega
  ·skip
   refine qV (ymv rfl) ?_; refine qV (yex rfl rfl) ?_; refine qV (yex rfl rfl) ?_; refine qV (yex rfl rfl) ?_; refine qV (yas rfl) ?_; refine qV (yas rfl) ?_; refine qV (yas rfl) ?_; refine rEnd ?_; refine Run.qb (e := [(2, _), (6, _), (7, _), (8, _), (9, _), (10, _), (11, _), (12, _)]) ?_; refine run_seq ?_; refine run_seq ?_; refine run_reg rfl ?_; refine qV (yas rfl) ?_; refine rEnd ?_; refine run_block ?_
   refine run_loop (α := Nat) (0) (fun i => [(2, .slice la l.length lc), (12, .bool false), (13, I (i : Int))]) (fun i w' => w' = w3 ∧ i ≤ l.length) (fun i => l.length - i) (by repeat (first | exact Sub.nil | refine Sub.cons rfl ?_)) ?hI ?hround
   case hI => exact ⟨rfl, Nat.zero_le _⟩
   case hround =>
    rintro i w4 ⟨rfl, hi⟩ ih
    try dsimp only
    refine run_seq ?_; refine run_seq ?_; refine run_reg rfl ?_; refine qV (ymv rfl) ?_; refine qV (ymv rfl) ?_; refine qV (yln U33 rfl) ?_; refine qV (ylt rfl rfl) ?_; refine rEnd ?_; refine run_if rfl (fun hlt => ?_) (fun hlt => ?_)
    ·skip
     refine run_skip ?_; refine run_seq ?_; refine run_block ?_; refine run_reg rfl ?_; refine qV (ymv rfl) ?_; refine qV (ymv rfl) ?_; refine qS ?_; refine qS ?_; refine qS ?_; refine qS ?_; refine qS ?_; refine qS ?_; refine qS ?_; refine qS ?_; refine qV (ypF rfl rfl) ?_; refine qV (yas rfl) ?_; refine rEnd ?_; refine run_inBlock ?_; refine run_reg rfl ?_; refine qV (ymv rfl) ?_; refine qV (yad rfl rfl (by omega)) ?_; refine qV (yas rfl) ?_; refine rEnd ?_
     exact (ih (i + 1) w4 ⟨rfl, by omega⟩ (by omega)).qb
    ·skip
     refine run_exit rfl ?_; refine run_seq ?_; refine run_seq ?_; refine run_reg rfl ?_; refine qV (ymv rfl) ?_; refine qV ((by first | exact yntd rfl | exact ynt rfl)) ?_; refine rEnd ?_; refine run_true rfl ?_; refine run_seq ?_; refine run_reg rfl ?_; refine qV (yas rfl) ?_; refine qV (yas rfl) ?_; refine qV (yas rfl) ?_; refine rEnd ?_; refine run_ret Tryz.func19 rfl ?_; refine ⟨_, rfl, hx3, .inr ⟨fun H ns' es' hh => ?_, rfl⟩⟩
     rcases hh with hh | ⟨-, s', hl'⟩
     ·exact hr0 hh.1
     ·exact hno _ _ _ s'
end
end Go.Proofs.YtocnhaoilnojmaaGreat
namespace Go.Proofs.YtocnhaoilnojmaaGreat
open Go Go.RowKit
set_option linter.all false
set_option maxRecDepth 100000
/-- The variables that Delete's way down sees: the tree, key, itself. -/
structure DelC (w : World) (F : Nat → Prop) (p : Nat) (k : Bytes) (bt bk bp : Nat) : Prop where
 t : Blk w bt [ptr p 0] 24
 k : Blk w bk [S k] 9
 f : Blk w bp [.func (.func 43) #[] #[ptr bt 0, ptr bk 0, ptr bp 0]] 80
 n : ¬ F bt ∧ ¬ F bk ∧ ¬ F bp
theorem DelC.kp {w w' : World} {F F' : Nat → Prop} {p : Nat} {k : Bytes} {bt bk bp : Nat} (h : DelC w F p k bt bk bp) (hk : Kp F w w') (hF : ∀ i, F' i → F i ∨ w.heap.size ≤ i) : DelC w' F' p k bt bk bp := by
 obtain ⟨n1, n2, n4⟩ := h.n
 have h1 := h.t.lt
 have h2 := h.k.lt
 have h4 := h.f.lt
 exact ⟨hk.blk h.t n1, hk.blk h.k n2, hk.blk h.f n4, fun e => (hF _ e).elim n1 (by omega), fun e => (hF _ e).elim n2 (by omega), fun e => (hF _ e).elim n4 (by omega)⟩
/-- What Delete's way down leaves. -/
structure DelPost (T : Tr) (h : Nat) (no : Int) (lo : Bytes) (hi : Option Bytes) (ns : List Int) (es : Es) (k : Bytes) (T' : Tr) : Prop where
 cnt : T'.count = T.count
 evo : Evo T T' 0
 one : One T.size h T.nodes T'.nodes no lo hi ns (delE es k)
 keys : (∀ m, T.nodes no = some m → ¬ m.low T.size) → ∀ m, T'.nodes no = some m → m.keys ≠ []
def DelAt (p : Nat) (k : Bytes) (bt bk bp : Nat) (H : Nat) : Prop := ∀ (w : World) (T : Tr) (nb : Int → Nat) (F : Nat → Prop) (no : Int) (lo : Bytes) (hi : Option Bytes) (ns : List Int) (es : Es),
 TreeA w p T nb F → DelC w F p k bt bk bp → Bn T.size T.nodes H no lo hi ns es → ns.Nodup → inB lo hi k → hasE es k → GivS T → (∀ x ∈ T.given, 1 ≤ x ∧ x ≤ 2147483647) → (∀ x, T.nodes x ≠ none → 1 ≤ x ∧ x ≤ 2147483647) → (∀ c ps, T.nodes no = some (innNd c ps) → ps ≠ []) →
 Ret Tryz.prog 43 [I no, ptr bt 0, ptr bk 0, ptr bp 0] w fun val w' => val = .tuple #[] ∧ ∃ T' F', TreeA w' p T' nb F' ∧ DelPost T H no lo hi ns es k T' ∧ Kp F w w' ∧ ∀ i, F' i → F i ∨ w.heap.size ≤ i
section
variable {w : World}
end
end Go.Proofs.YtocnhaoilnojmaaGreat
namespace Go.Proofs.YtocnhaoilnojmaaGreat
open Go Go.RowKit
set_option linter.all false
set_option maxRecDepth 100000
section
variable {w : World} {p : Nat} {T : Tr} {nb : Int → Nat} {F : Nat → Prop}
end
end Go.Proofs.YtocnhaoilnojmaaGreat
namespace Go.Proofs.YtocnhaoilnojmaaGreat
open Go Go.RowKit
set_option linter.all false
set_option maxRecDepth 100000
theorem Inv.pos {T : Tr} {H : Nat} {ns : List Int} {es : Es} (h : Inv T H ns es) (hz : sizeOk (T.size : Int)) : (T.root = 0 ↔ es = []) ∧ (es ≠ [] → 1 ≤ H) := by
 rcases h.std with ⟨h0, -, -, rfl⟩ | ⟨h0, h1, h2, -, h3⟩
 ·exact ⟨⟨fun _ => rfl, fun _ => h0⟩, fun e => absurd rfl e⟩
 ·refine ⟨⟨fun e => absurd e h0, fun e => ?_⟩, fun _ => h1⟩
  have := (bn_cnts hz h2 h3).1
  rw [e] at this
  simp at this
section
variable {w : World}
set_option maxHeartbeats 1000000 in
theorem awake_ret (w : World) : Ret Tryz.prog 16 [] w fun v w' => v = .bool true ∧ Ext w w' := by
 have hz : sizeOk ((512 : Nat) : Int) := by unfold sizeOk; decide
 refine ret_of_run (e := []) Tryz.func16 rfl Tryz.ntmps16 rfl rfl ?_; refine run_seq ?_; refine run_reg rfl ?_; refine qV (yas rfl) ?_; refine rEnd ?_; refine run_seq ?_; refine run_reg rfl ?_; refine rCall rfl rfl (yc (args := [.const (Value.int .i64 512)]) cf8 rfl) (newT_ret 512) ?_
 rintro v1 w1 ⟨hx1, hv1⟩
 obtain ⟨p, F, rfl, h1, hF⟩ : ∃ p F, v1 = .tuple #[ptr p 0, I 0] ∧ TreeA w1 p (Tr0 512) (fun _ => 0) F ∧ ∀ k, F k → w.heap.size ≤ k := by
  rcases hv1 with ⟨-, h⟩ | ⟨h, -⟩
  ·exact h
  ·exact absurd hz h
 refine qV (ymv rfl) ?_; refine qV (yex rfl rfl) ?_; refine qV (yex rfl rfl) ?_; refine qV (yas rfl) ?_; refine qV (yas rfl) ?_; refine rEnd ?_; refine run_seq ?_; refine run_reg rfl ?_; refine qV (ymv rfl) ?_; refine rValP rfl rfl (pbs (parts := [(0, .const (Value.int .i64 9)), (1, .const (Value.int .i64 7))]) (cs := [_, _]) (zs := [Value.int .i64 0, Value.int .i64 0]) U34 ti3 rfl (by kernel_rfl) rfl rfl rfl (by decide)) ?_
 rintro _ w2 ⟨b2, rfl, ⟨hb2, hx2, hB2⟩, hS2⟩
 have hok : giveOk (Tr0 512) [9, 7] := ⟨by decide, fun x hx => ⟨by simp at hx; omega, rfl, rfl, List.not_mem_nil⟩⟩
 have hz1 := hx1.size
 have hz2 := hx2.size
 refine rCall rfl rfl (yc (args := [.tmp 11, .tmp 12]) cf50 rfl) (give_ret (h1.ext hx2) (inv0 512) (l := [9, 7]) hS2.rd (by decide)) ?_
 rintro v3 w3 hv3
 obtain ⟨rfl, hk3, F3, h3, hF3⟩ : v3 = I 0 ∧ Kp F w2 w3 ∧ ∃ F', TreeA w3 p { Tr0 512 with given := sortZ ((Tr0 512).given ++ [9, 7]) } (fun _ => 0) F' ∧ ∀ k, F' k → F k ∨ w2.heap.size ≤ k := by
  rcases hv3 with ⟨h, -, h', h''⟩ | ⟨-, h, -⟩
  ·exact ⟨h, h', h''⟩
  ·exact absurd hok h
 have hI3 := (inv0 512).give hok
 refine qV (yas rfl) ?_; refine rEnd ?_; refine run_seq ?_; refine run_reg rfl ?_; refine qV (ymv rfl) ?_; refine rCall rfl rfl (yc (args := [.tmp 14, .const (Value.string (⟨#[97]⟩)), .const (Value.string (⟨#[120]⟩))]) cf38 rfl) (putT_ret h3 hI3 (by simp) _ _ (by decide) (by decide)) ?_
 rintro v4 w4 hv4
 obtain ⟨rfl, T4, H4, ns4, nb4, F4, h4, hI4, hk4, hF4, hev⟩ : v4 = I 0 ∧ ∃ T4 H4 ns4 nb4 F4, TreeA w4 p T4 nb4 F4 ∧ Inv T4 H4 ns4 [([97], [120])] ∧ Kp F3 w3 w4 ∧ (∀ k, F4 k → F3 k ∨ w3.heap.size ≤ k) ∧ EvoR _ T4 (0 + 3) := by
  rcases hv4 with ⟨-, h, -⟩ | ⟨-, -, h, -⟩ | ⟨h, -, -, T4, H4, ns4, ⟨nb4, F4, h1, h2, h3, h4⟩, h5⟩
  ·exact absurd (by unfold may keyOk mostE Tr0; decide) h
  ·rw [show (sortZ ((Tr0 512).given ++ [9, 7])).length = 2 by rw [sortZ_len]; rfl] at h; omega
  ·exact ⟨h, T4, H4, ns4, nb4, F4, h1, h2, h3, h4, h5⟩
 refine qV (yas rfl) ?_; refine rEnd ?_; refine run_seq ?_; refine run_reg rfl ?_; refine qV (ymv rfl) ?_; refine rCall rfl rfl (yc (args := [.tmp 17, .const (Value.string (⟨#[97]⟩))]) cf42 rfl) (get_ret h4 hI4 _) ?_
 rintro _ w5 ⟨rfl, hx5⟩
 have hz4 : sizeOk (T4.size : Int) := by rw [(show Evo _ _ _ from hev).size]; exact hz
 have hH1 := (Inv.cnts hz4 hI4).2
 have hH2 := (hI4.pos hz4).2 (by simp)
 have hH : H4 = 1 := by simp at hH1; omega
 have hc4 : T4.count = 1 := by rw [hI4.cnt]; rfl
 have h5 := h4.ext hx5
 rw [show getR [([97], [120])] [97] = ([120], 0) by rfl]
 refine qV (ymv rfl) ?_; refine qV (yex rfl rfl) ?_; refine qV (yex rfl rfl) ?_; refine qV (yas rfl) ?_; refine qV (yas rfl) ?_; refine rEnd ?_; refine run_seq ?_; refine run_reg rfl ?_; refine qV (ymv rfl) ?_; refine qV (yeq rfl rfl) ?_; refine rTrue (by (first | rfl | assumption | omega | decide)) ?_; refine qV (ymv rfl) ?_; refine qV (ymv rfl) ?_; refine qV (yeq rfl rfl) ?_; refine rTrue (by (first | rfl | assumption | omega | decide)) ?_; refine qV (ypT rfl rfl) ?_; refine qV (ymv rfl) ?_; refine qV (ymv rfl) ?_; refine qV (yeq rfl rfl) ?_
 refine rTrue (by (first | rfl | assumption | omega | decide)) ?_; refine qV (ypT rfl rfl) ?_; refine qV (ymv rfl) ?_; refine qV (ymv rfl) ?_; refine qV (yeq rfl rfl) ?_; refine rTrue (by (first | rfl | assumption | omega | decide)) ?_; refine qV (ypT rfl rfl) ?_; refine qV (ymv rfl) ?_; refine qV (ymv rfl) ?_; refine qV (yeqS rfl rfl) ?_; refine rTrue (by (first | rfl | assumption | omega | decide)) ?_; refine qV (ypT rfl rfl) ?_; refine qV (ymv rfl) ?_; refine qV (ymv rfl) ?_; refine rCall rfl rfl (yc (args := [.tmp 40]) cf14 rfl) (lenT_ret h5) ?_
 rintro _ w6 ⟨rfl, rfl⟩
 rw [hc4]
 refine qV (yeq rfl rfl) ?_; refine rTrue (by (first | rfl | assumption | omega | decide)) ?_; refine qV (ypT rfl rfl) ?_; refine qV (ymv rfl) ?_; refine qV (ymv rfl) ?_; refine rCall rfl rfl (yc (args := [.tmp 45]) cf20 rfl) (depth_ret h5 hI4 (by omega)) ?_
 rintro _ w6 ⟨rfl, rfl⟩
 rw [hH]
 refine qV (yeq rfl rfl) ?_; refine rTrue (by (first | rfl | assumption | omega | decide)) ?_; refine qV (ypT rfl rfl) ?_; refine qV (yas rfl) ?_; refine rEnd ?_; refine Run.qb (e := [(0, _)]) ?_; refine run_ret Tryz.func16 rfl ?_; refine ⟨_, rfl, rfl, ?_⟩
 have hF3' : ∀ k, F3 k → w.heap.size ≤ k := fun k hk => (hF3 k hk).elim (hF k) (fun e => by omega)
 exact (((hx1.trans hx2).trans_new hk3 (fun i hi => hF i hi)).trans_new hk4 (fun i hi => hF3' i hi)).trans hx5
end
end Go.Proofs.YtocnhaoilnojmaaGreat
namespace Go.Proofs.YtocnhaoilnojmaaGreat
open Go Go.RowKit
set_option linter.all false
set_option maxRecDepth 100000
theorem entB_len3 (es : Es) : 3 * es.length ≤ entB es := by
 induction es with
 | nil => simp
 | cons x r ih => rw [entB_cons, List.length_cons]; omega
theorem Ch.few {S : Int → Bytes → Option Bytes → List Int → Es → Prop} (hS : ∀ (x : Nat) l u n e, S (x : Int) l u n e → e.length ≤ n.length * 1400) : ∀ {ps : List (Bytes × Nat)} {lo : Bytes} {hi : Option Bytes} {c : Nat} {ns : List Int} {es : Es}, Ch S lo hi c ps ns es → es.length ≤ ns.length * 1400
 | [], _, _, c, ns, es, hc => hS c _ _ _ _ hc
 | (k, d) :: r, lo, hi, c, ns, es, hc => by
   obtain ⟨n1, n2, e1, e2, rfl, rfl, hs, hr⟩ := hc
   have h1 := hS c _ _ _ _ hs
   have h2 := Ch.few hS hr
   simp only [List.length_append]
   omega
theorem bn_few {z : Nat} {N : Nodes} (hz : sizeOk (z : Int)) : ∀ {h : Nat} {no : Int} {lo : Bytes} {hi : Option Bytes} {ns : List Int} {es : Es}, Bn z N h no lo hi ns es → es.length ≤ ns.length * 1400
 | 0, _, _, _, _, _, s => s.elim
 | 1, no, lo, hi, ns, es, s => by
   obtain ⟨hn, rfl, -, hb, -⟩ := s.leaf (by have := hz.2.1; omega)
   have := entB_len3 es
   have := hz.2.1
   simp
   omega
 | h + 2, no, lo, hi, ns, es, s => by
   obtain ⟨c, ps, ns', hn, rfl, -, -, -, -, hfull, hC⟩ := s.inner (by have := hz.1; omega)
   have := hC.few (fun x l u n e hb => bn_few hz hb)
   simp only [List.length_cons]
   omega
theorem LoadOk.few {z : Nat} {root : Int} {l : Pgs} {H : Nat} {ns : List Int} {es : Es} (hz : sizeOk (z : Int)) (h : LoadOk z root l H ns es) : es.length ≤ l.length * 1400 ∧ H ≤ l.length ∧ ns.length = l.length := by
 rcases h with ⟨-, rfl, rfl, rfl, rfl⟩ | ⟨-, s, hl⟩
 ·simp
 ·have h1 := bn_few hz s.bn
  have h2 := bn_height hz s.bn
  rw [hl] at h1 h2
  exact ⟨h1, h2, hl⟩
theorem LoadOk.det {z : Nat} {root : Int} {l : Pgs} {H H' : Nat} {ns ns' : List Int} {es es' : Es} (hz : sizeOk (z : Int)) (h : LoadOk z root l H ns es) (h' : LoadOk z root l H' ns' es') : H = H' ∧ ns = ns' ∧ es = es' := by
 rcases h with ⟨h1, rfl, rfl, rfl, rfl⟩ | ⟨h0, s, hl⟩
 ·rcases h' with ⟨-, -, rfl, rfl, rfl⟩ | ⟨h0, -⟩
  ·exact ⟨rfl, rfl, rfl⟩
  ·exact absurd h1 h0
 ·rcases h' with ⟨h1, -⟩ | ⟨-, s', -⟩
  ·exact absurd h1 h0
  ·exact bn_det hz s.bn s'.bn
theorem lt_nil (a : Bytes) : lt a [] = false := by cases a <;> rfl
theorem rangeE_all {es : Es} {n : Nat} (h : es.length ≤ n) : rangeE es [] n = es := by
 unfold rangeE
 rw [List.filter_eq_self.2 (fun x _ => by rw [lt_nil]; rfl), List.take_of_length_le h]
theorem pgC_take (es : Pgs) (i : Nat) : (pgC es).take (i * 2) = pgC (es.take i) := by
 rcases Nat.lt_or_ge es.length i with h | h
 ·rw [List.take_of_length_le (by rw [pgC_len]; omega), List.take_of_length_le (by omega)]
 ·have : (pgC (es.take i)).length = i * 2 := by rw [pgC_len, List.length_take, Nat.min_eq_left h]
  conv => lhs; rw [← List.take_append_drop i es, pgC_app, ← this, List.take_left']
section
variable {w : World}
set_option maxHeartbeats 8000000 in
theorem treeLoads_ret (z root : Int) {a : Option Addr} {c : Nat} {l0 : Pgs} (hR0 : Rd w (.slice a l0.length c) 2 l0.length (pgC l0)) (hc : l0.length ≤ c) (hl0 : l0.length ≤ 17592186044416) (ht0 : ∀ y ∈ l0, y.2.length ≤ 140737488355328) :
  Ret Tryz.prog 4 [I z, I root, .slice a l0.length c] w fun v w' => v = .bool true ∧ Ext w w' := by
 have hml : maxLen = 9223372036854775807 := rfl
 refine ret_of_run (e := [(0, _), (1, _), (2, _)]) Tryz.func4 rfl Tryz.ntmps4 rfl rfl ?_; refine run_seq ?_; refine run_reg rfl ?_; refine qV (yas rfl) ?_; refine rEnd ?_; refine run_seq ?_; refine run_reg rfl ?_; refine qV (ymv rfl) ?_; refine qV (ymv rfl) ?_; refine qV (yln U33 rfl) ?_; refine qV (ymi rfl rfl) ?_
 rw [show min ((l0.length : Nat) : Int) 60 = ((min l0.length 60 : Nat) : Int) by omega]
 obtain ⟨pv, hpv, hR⟩ := rd_pre hR0 (j := min l0.length 60) (by omega)
 refine qV (yslT U33 ti54 rfl rfl (by omega) hpv) ?_
 rw [pgC_take] at hR
 obtain ⟨l, hl⟩ : ∃ l, l0.take (min l0.length 60) = l := ⟨_, rfl⟩
 have hll : min l0.length 60 = l.length := by rw [← hl, List.length_take]; omega
 have hl60 : l.length ≤ 60 := by omega
 have ht : ∀ y ∈ l, y.2.length ≤ 140737488355328 := fun y hy => ht0 y (List.mem_of_mem_take (hl ▸ hy))
 rw [hl, hll] at hR
 obtain ⟨pa, pc, rfl, -⟩ := hR.shape
 clear hpv hl hll hR0 hc hl0 ht0
 refine qV (yas rfl) ?_; refine rEnd ?_; refine run_seq ?_; refine run_reg rfl ?_; refine qV (yas rfl) ?_; refine rEnd ?_; refine run_seq ?_; refine run_seq ?_; refine run_reg rfl ?_; refine qV (yas rfl) ?_; refine rEnd ?_; refine run_block ?_
 refine run_loop (α := Nat × Value) ((0, .slice none 0 0)) (fun x => [(0, I z), (1, I root), (2, .slice pa l.length pc), (7, x.2), (8, I (x.1 : Int))]) (fun x w' => x.1 ≤ l.length ∧ Ext w w' ∧ Sl w' x.2 55 2 (l.take x.1).length (pgC (l.take x.1)) ∧ ∀ g, x.2.ownBlock = some g → w.heap.size ≤ g) (fun x => l.length - x.1) (by repeat (first | exact Sub.nil | refine Sub.cons rfl ?_)) ?hI ?hround
 case hI => exact ⟨Nat.zero_le _, Ext.refl _, Sl.nil _ _ _, fun g hg => by simp [Value.ownBlock] at hg⟩
 case hround =>
  rintro ⟨j, ov⟩ w1 ⟨hj, hx1, hS1, ho1⟩ ih
  dsimp only at hj hS1 ho1
  have htl : (l.take j).length = j := by rw [List.length_take]; omega
  try dsimp only
  refine run_seq ?_; refine run_seq ?_; refine run_reg rfl ?_; refine qV (ymv rfl) ?_; refine qV (ymv rfl) ?_; refine qV (yln U33 rfl) ?_; refine qV (ylt rfl rfl) ?_; refine rEnd ?_; refine run_if rfl (fun hlt => ?_) (fun hlt => ?_)
  ·skip
   have hj' : j < l.length := by omega
   obtain ⟨lb, lo, y, rfl, hy⟩ := rd_pgs hR rfl hj'
   have hg : Ext w w1.drew := hx1.trans (Ext.drew0 w1)
   have hz1 := hx1.size
   refine run_skip ?_; refine run_seq ?_; refine run_block ?_; refine run_draw (fun w' => Ext w w') (by kernel_rfl) rfl ?_; refine qT 0 rfl (fun _ hS => ymv rfl) (hg) ?_; refine qT 1 rfl (fun _ hS => ymv rfl) (hg) ?_; refine qT 2 rfl (fun _ hS => ymv rfl) (hg) ?_; refine qT 3 rfl (fun _ hS => yis U33 ti54 rfl rfl (by omega)) (hg) ?_; refine qT 4 rfl (fun _ hS => yfa fl54_0 rfl) (hg) ?_; refine qT 6 rfl (fun _ hS => ymv rfl) (hg) ?_; refine qT 7 rfl (fun _ hS => ymv rfl) (hg) ?_; refine qT 8 rfl (fun _ hS => yis U33 ti54 rfl rfl (by omega)) (hg) ?_
   refine qT 9 rfl (fun _ hS => yfa fl54_1 rfl) (hg) ?_; refine qT 5 rfl (fun _ hS => yldc U3 rfl rfl (rd_pg0 (hR.ext hS) hj' hy)) (hg) ?_; refine qT 10 rfl (fun _ hS => yldc U9 rfl rfl (rd_pg1 (hR.ext hS) hj' hy)) (hg) ?_; refine qT 11 rfl (fun _ hS => ybd (parts := [(0, .tmp 33), (1, .tmp 38)]) (cs := [_, _]) ti55 rfl sp55 rfl rfl) (hg) ?_; refine qO 12 ?_; refine nValP (i := 12) rfl rfl rfl (pbs (parts := [(0, .tmp 39)]) (cs := [_, _]) (zs := [Value.int .i64 0, Value.string ⟨#[]⟩]) U52 ti55 rfl (by kernel_rfl) rfl rfl rfl (by decide)) ?_
   rintro _ w2 ⟨b2, rfl, ⟨hb2, hx2, hB2⟩, hS2⟩
   refine ⟨hg.trans hx2, ?_⟩
   have hgz := (hg.trans hx2).size
   refine qO 13 ?_; refine nValP (i := 13) rfl rfl rfl (pap U52 ti55 rfl (by decide) rfl rfl (hS1.ext ((Ext.drew0 w1).trans hx2)) hS2.rd (by intro c hc; simp at hc; rcases hc with rfl | rfl <;> rfl) (by omega) (by omega)) ?_
   rintro ov2 w3 ⟨hS3, hk3, ho3, -⟩
   refine ⟨(hg.trans hx2).trans_new hk3 (fun i hi => ho1 i hi), ?_⟩
   refine qT 14 rfl (fun _ hS => yas rfl) ((hg.trans hx2).trans_new hk3 (fun i hi => ho1 i hi)) ?_; refine qE ?_; refine run_inBlock ?_; refine run_reg rfl ?_; refine qV (ymv rfl) ?_; refine qV (yad rfl rfl (by omega)) ?_; refine qV (yas rfl) ?_; refine rEnd ?_; refine (ih (j + 1, ov2) w3 ⟨by dsimp only; omega, (hg.trans hx2).trans_new hk3 (fun i hi => ho1 i hi), ?_, fun g hg' => ?_⟩ (by dsimp only; omega)).qb
   ·obtain ⟨h1, h2⟩ := List.getElem?_eq_some_iff.1 hy
    dsimp only
    rw [List.take_succ_eq_append_getElem h1, h2, pgC_app, List.length_append]
    exact hS3
   ·rcases ho3 g hg' with e | e
    ·exact ho1 g e
    ·omega
  ·skip
   have hjE : j = l.length := by omega
   subst hjE
   rw [List.take_length] at hS1
   refine run_exit rfl ?_; refine run_seq ?_; refine run_reg rfl ?_; refine qV (ymv rfl) ?_; refine qV (ymv rfl) ?_; refine qV (ymv rfl) ?_; refine rCall rfl rfl (yc (args := [.tmp 43, .tmp 44, .tmp 45]) cf17 rfl) (load_ret z root hS1.rd (by omega) ht) ?_
   rintro v4 w4 ⟨hx4, hv4⟩
   have hx04 := hx1.trans hx4
   have hR4 := hR.ext hx04
   rcases hv4 with ⟨hnum, rfl⟩ | ⟨hnum, hno, rfl⟩ | ⟨hnum, H, ns, es, p, nb, F, hok, rfl, hT, hF⟩
   ·skip
    refine qV (ymv rfl) ?_; refine qV (yex rfl rfl) ?_; refine qV (yex rfl rfl) ?_; refine qV (yas rfl) ?_; refine qV (yas rfl) ?_; refine rEnd ?_; refine run_seq ?_; refine run_seq ?_; refine run_reg rfl ?_; refine qV (ymv rfl) ?_; refine qV (ymv rfl) ?_; refine qV (ymv rfl) ?_; refine rCall rfl rfl (yc (args := [.tmp 49, .tmp 50, .tmp 51]) cf18 rfl) (numbers_ret z root hR4 (by omega)) ?_
    rintro _ w4 ⟨rfl, qn, rfl, hqn⟩
    obtain rfl : qn = false := by
     cases qn with
     | false => rfl
     | true => exact absurd (hqn.1 rfl) hnum
    refine qV ((by first | exact yntd rfl | exact ynt rfl)) ?_; refine rEnd ?_; refine run_cond rfl (fun hq1 => ?_) (fun hq1 => ?_)
    ·skip
     refine run_seq ?_; refine run_reg rfl ?_; refine qV (ymv rfl) ?_; refine qV (yeqpN U24 rfl rfl) ?_; refine qV (ymv rfl) ?_; refine qV (ymv rfl) ?_; refine qV (yeq rfl rfl) ?_; refine qV (ypT rfl rfl) ?_; refine qV (ymv rfl) ?_; refine rCall rfl rfl (yc (args := []) cf16 rfl) (awake_ret _) ?_
     rintro _ w5 ⟨rfl, hx5⟩
     refine qV (ypT rfl rfl) ?_; refine qV (yas rfl) ?_; refine rEnd ?_; refine Run.qb (e := [(0, _), (1, _), (2, _), (6, _), (9, _), (10, _)]) ?_; refine run_ret Tryz.func4 rfl ?_
     exact ⟨_, rfl, rfl, hx04.trans hx5⟩
    ·exact absurd hq1 (by decide)
   ·skip
    refine qV (ymv rfl) ?_; refine qV (yex rfl rfl) ?_; refine qV (yex rfl rfl) ?_; refine qV (yas rfl) ?_; refine qV (yas rfl) ?_; refine rEnd ?_; refine run_seq ?_; refine run_seq ?_; refine run_reg rfl ?_; refine qV (ymv rfl) ?_; refine qV (ymv rfl) ?_; refine qV (ymv rfl) ?_; refine rCall rfl rfl (yc (args := [.tmp 49, .tmp 50, .tmp 51]) cf18 rfl) (numbers_ret z root hR4 (by omega)) ?_
    rintro _ w4 ⟨rfl, qn, rfl, hqn⟩
    obtain rfl : qn = true := hqn.2 hnum
    obtain ⟨zn, rfl⟩ : ∃ zn : Nat, z = (zn : Int) := ⟨z.toNat, by have := hnum.1.1; omega⟩
    rw [Int.toNat_natCast] at hno
    refine qV ((by first | exact yntd rfl | exact ynt rfl)) ?_; refine rEnd ?_; refine run_cond rfl (fun hq1 => ?_) (fun hq1 => ?_)
    ·exact absurd hq1 (by decide)
    ·skip
     refine run_skip ?_; refine run_seq ?_; refine run_reg rfl ?_; refine qV (ymv rfl) ?_; refine qV (ymv rfl) ?_; refine qV (ymv rfl) ?_; refine rCall rfl rfl (yc (args := [.tmp 64, .tmp 65, .tmp 66]) cf19 rfl) (shape_ret hnum hR4 (by omega) ht) ?_
     rintro v5 w5 ⟨hx5, hv5⟩
     obtain rfl : v5 = .tuple #[.slice none 0 0, I 0, .bool false] := by
      rcases hv5 with ⟨H, ns, es, ov, h, -⟩ | ⟨-, h⟩
      ·exact absurd h (hno H ns es)
      ·exact h
     refine qV (ymv rfl) ?_; refine qV (yex rfl rfl) ?_; refine qV (yex rfl rfl) ?_; refine qV (yex rfl rfl) ?_; refine qV (yas rfl) ?_; refine qV (yas rfl) ?_; refine qV (yas rfl) ?_; refine rEnd ?_; refine Run.qb (e := [(1, _), (2, _), (9, _), (10, _), (11, _), (12, _), (13, _)]) ?_; refine run_seq ?_; refine run_seq ?_; refine run_reg rfl ?_; refine qV (ymv rfl) ?_; refine qV ((by first | exact yntd rfl | exact ynt rfl)) ?_; refine rEnd ?_; refine run_cond rfl (fun hq2 => ?_) (fun hq2 => ?_)
     ·skip
      refine run_seq ?_; refine run_reg rfl ?_; refine qV (ymv rfl) ?_; refine qV (yeqpN U24 rfl rfl) ?_; refine qV (ymv rfl) ?_; refine qV (ymv rfl) ?_; refine qV (yeq rfl rfl) ?_; refine qV (ypT rfl rfl) ?_; refine qV (ymv rfl) ?_; refine rCall rfl rfl (yc (args := []) cf16 rfl) (awake_ret _) ?_
      rintro _ w6 ⟨rfl, hx6⟩
      refine qV (ypT rfl rfl) ?_; refine qV (yas rfl) ?_; refine rEnd ?_; refine run_ret Tryz.func4 rfl ?_
      exact ⟨_, rfl, rfl, (hx04.trans hx5).trans hx6⟩
     ·exact absurd hq2 (by decide)
   ·skip
    refine qV (ymv rfl) ?_; refine qV (yex rfl rfl) ?_; refine qV (yex rfl rfl) ?_; refine qV (yas rfl) ?_; refine qV (yas rfl) ?_; refine rEnd ?_; refine run_seq ?_; refine run_seq ?_; refine run_reg rfl ?_; refine qV (ymv rfl) ?_; refine qV (ymv rfl) ?_; refine qV (ymv rfl) ?_; refine rCall rfl rfl (yc (args := [.tmp 49, .tmp 50, .tmp 51]) cf18 rfl) (numbers_ret z root hR4 (by omega)) ?_
    rintro _ w4 ⟨rfl, qn, rfl, hqn⟩
    obtain rfl : qn = true := hqn.2 hnum
    obtain ⟨zn, rfl⟩ : ∃ zn : Nat, z = (zn : Int) := ⟨z.toNat, by have := hnum.1.1; omega⟩
    rw [Int.toNat_natCast] at hok hT
    have hz : sizeOk (zn : Int) := hnum.1
    refine qV ((by first | exact yntd rfl | exact ynt rfl)) ?_; refine rEnd ?_; refine run_cond rfl (fun hq1 => ?_) (fun hq1 => ?_)
    ·exact absurd hq1 (by decide)
    ·skip
     refine run_skip ?_; refine run_seq ?_; refine run_reg rfl ?_; refine qV (ymv rfl) ?_; refine qV (ymv rfl) ?_; refine qV (ymv rfl) ?_; refine rCall rfl rfl (yc (args := [.tmp 64, .tmp 65, .tmp 66]) cf19 rfl) (shape_ret hnum hR4 (by omega) ht) ?_
     rintro v5 w5 ⟨hx5, hv5⟩
     obtain ⟨ev, rfl, hE⟩ : ∃ ev, v5 = .tuple #[ev, I ((H : Nat) : Int), .bool true] ∧ Sl w5 ev 41 2 es.length (esC es) := by
      rcases hv5 with ⟨H', ns', es', ov', h1, h2, h3, -⟩ | ⟨h, -⟩
      ·obtain ⟨rfl, rfl, rfl⟩ := hok.det hz h1
       exact ⟨ov', h2, h3⟩
      ·exact absurd hok (h H ns es)
     have hfew := hok.few hz
     have hel : es.length ≤ 84000 := by omega
     have hI : Inv (TrL zn root l es.length) H ns es := hok.inv hnum
     have hT5 := hT.ext hx5
     refine qV (ymv rfl) ?_; refine qV (yex rfl rfl) ?_; refine qV (yex rfl rfl) ?_; refine qV (yex rfl rfl) ?_; refine qV (yas rfl) ?_; refine qV (yas rfl) ?_; refine qV (yas rfl) ?_; refine rEnd ?_; refine Run.qb (e := [(1, _), (2, _), (9, _), (10, _), (11, _), (12, _), (13, _)]) ?_; refine run_seq ?_; refine run_seq ?_; refine run_reg rfl ?_; refine qV (ymv rfl) ?_; refine qV ((by first | exact yntd rfl | exact ynt rfl)) ?_; refine rEnd ?_; refine run_cond rfl (fun hq2 => ?_) (fun hq2 => ?_)
     ·exact absurd hq2 (by decide)
     ·skip
      refine run_skip ?_; refine run_seq ?_; refine run_reg rfl ?_; refine qV (ymv rfl) ?_; refine rCall rfl rfl (yc (args := [.tmp 83, .const (Value.string (⟨#[]⟩)), .const (Value.int .i64 100000)]) cf13 rfl) (range_ret hT5 hI (by omega) _ 100000 (by decide)) ?_
      rintro v6 w6 ⟨hx6, hv6⟩
      obtain ⟨gv, rfl, hG⟩ : ∃ gv, v6 = .tuple #[gv, I 0] ∧ ESl w6 gv es := by
       rcases hv6 with ⟨h, -⟩ | ⟨-, gv, h1, h2, -⟩
       ·omega
       ·refine ⟨gv, h1, ?_⟩
        rw [rangeE_all (by have : (100000 : Int).toNat = 100000 := rfl; omega)] at h2
        exact h2
      have hT6 := hT5.ext hx6
      have hE6 := hE.ext hx6
      obtain ⟨ga, gc, rfl, -⟩ := (Sl.rd hG).shape
      obtain ⟨ea, ec, rfl, -⟩ := hE6.rd.shape
      have hlen : Ret Tryz.prog 14 [ptr p 0] w6 fun v w' => v = I (es.length : Int) ∧ w' = w6 := lenT_ret hT6
      have hrtr : Ret Tryz.prog 21 [ptr p 0] w6 fun v w' => v = I root ∧ w' = w6 := rootT_ret hT6
      refine qV (ymv rfl) ?_; refine qV (yex rfl rfl) ?_; refine qV (yex rfl rfl) ?_; refine qV (yas rfl) ?_; refine qV (yas rfl) ?_; refine rEnd ?_; refine run_seq ?_; refine run_seq ?_; refine run_reg rfl ?_; refine qV (ymv rfl) ?_; refine qV (yne rfl rfl) ?_; refine rFalse (by (first | exact fun h => h rfl | assumption | omega)) ?_; refine qV (ymv rfl) ?_; refine qV (ymv rfl) ?_; refine qV (yne rfl rfl) ?_; refine rFalse (by (first | exact fun h => h rfl | assumption | omega)) ?_; refine qV (ypF rfl rfl) ?_; refine qV (ymv rfl) ?_; refine qV (ymv rfl) ?_; refine qV (yln U45 rfl) ?_
      refine qV (ymv rfl) ?_; refine qV (yln U30 rfl) ?_; refine qV (yne rfl rfl) ?_; refine rFalse (by (first | exact fun h => h rfl | assumption | omega)) ?_; refine qV (ypF rfl rfl) ?_; refine qV (ymv rfl) ?_; refine qV (ymv rfl) ?_; refine rCall rfl rfl (yc (args := [.tmp 101]) cf14 rfl) (hlen) ?_
      rintro _ w6 ⟨rfl, rfl⟩
      refine qV (ymv rfl) ?_; refine qV (yln U30 rfl) ?_; refine qV (yne rfl rfl) ?_; refine rFalse (by (first | exact fun h => h rfl | assumption | omega)) ?_; refine qV (ypF rfl rfl) ?_; refine qV (ymv rfl) ?_; refine qV (ymv rfl) ?_; refine rCall rfl rfl (yc (args := [.tmp 108]) cf20 rfl) (depth_ret hT6 hI (by omega)) ?_
      rintro _ w6 ⟨rfl, rfl⟩
      refine qV (ymv rfl) ?_; refine qV (yne rfl rfl) ?_; refine rFalse (by (first | exact fun h => h rfl | assumption | omega)) ?_; refine qV (ypF rfl rfl) ?_; refine qV (ymv rfl) ?_; refine qV (ymv rfl) ?_; refine rCall rfl rfl (yc (args := [.tmp 114]) cf21 rfl) (hrtr) ?_
      rintro _ w6 ⟨rfl, rfl⟩
      refine qV (ymv rfl) ?_; refine qV (yne rfl rfl) ?_; refine rFalse (by (first | exact fun h => h rfl | assumption | omega)) ?_; refine qV (ypF rfl rfl) ?_; refine qV (ymv rfl) ?_; refine qV (ymv rfl) ?_; refine rCall rfl rfl (yc (args := [.tmp 120]) cf22 rfl) (pages_ret hT6 hI (by omega)) ?_
      rintro v8 w8 ⟨hx8, hPg, -⟩
      obtain ⟨qa, qc, hqv, -⟩ := (Sl.rd hPg).shape
      rw [pgs_all_len, hfew.2.2] at hqv
      subst hqv
      refine qV (yln U52 rfl) ?_; refine qV (ymv rfl) ?_; refine qV (yln U33 rfl) ?_; refine qV (yne rfl rfl) ?_; refine rFalse (by (first | exact fun h => h rfl | assumption | omega)) ?_; refine qV (ypF rfl rfl) ?_; refine rEnd ?_; refine Run.qb (e := [(11, _), (14, _), (126, _)]) ?_; refine run_false rfl ?_; refine run_skip ?_; refine run_seq ?_; refine run_seq ?_; refine run_reg rfl ?_; refine qV (yas rfl) ?_; refine rEnd ?_; refine run_block ?_
      refine run_loop (α := Nat) (0) (fun i => [(11, .slice ea es.length ec), (14, .slice ga es.length gc), (16, I (i : Int))]) (fun i w' => i ≤ es.length ∧ Ext w6 w') (fun i => es.length - i) (by repeat (first | exact Sub.nil | refine Sub.cons rfl ?_)) ?hI ?hround
      case hI => exact ⟨Nat.zero_le _, hx8⟩
      case hround =>
       rintro i w9 ⟨hi, hx9⟩ ih2
       have hG9 := (Sl.rd hG).ext hx9
       have hE9 := hE6.rd.ext hx9
       try dsimp only
       refine run_seq ?_; refine run_seq ?_; refine run_reg rfl ?_; refine qV (ymv rfl) ?_; refine qV (ymv rfl) ?_; refine qV (yln U30 rfl) ?_; refine qV (ylt rfl rfl) ?_; refine rEnd ?_; refine run_if rfl (fun hlt2 => ?_) (fun hlt2 => ?_)
       ·skip
        have hi' : i < es.length := by omega
        obtain ⟨b1, o1, y, rfl, hy⟩ := rd_ens hG9 rfl hi'
        obtain ⟨b2, o2, y2, rfl, hy2⟩ := rd_ens hE9 rfl hi'
        obtain rfl : y2 = y := by rw [hy] at hy2; cases hy2; rfl
        have hg : Ext w6 w9.drew := hx9.trans (Ext.drew0 w9)
        have hg9 : Ext w9 w9.drew := Ext.drew0 w9
        refine run_skip ?_; refine run_seq ?_; refine run_block ?_; refine run_seq ?_; refine run_draw (fun w' => Ext w9 w') (by kernel_rfl) rfl ?_; refine qT 0 rfl (fun _ hS => ymv rfl) (hg9) ?_; refine qT 1 rfl (fun _ hS => ymv rfl) (hg9) ?_; refine qT 2 rfl (fun _ hS => yis U45 ti49 rfl rfl (by omega)) (hg9) ?_; refine qT 3 rfl (fun _ hS => yfa fl49_0 rfl) (hg9) ?_; refine qT 5 rfl (fun _ hS => ymv rfl) (hg9) ?_; refine qT 6 rfl (fun _ hS => ymv rfl) (hg9) ?_; refine qT 7 rfl (fun _ hS => yis U30 ti41 rfl rfl (by omega)) (hg9) ?_; refine qT 8 rfl (fun _ hS => yfa fl41_0 rfl) (hg9) ?_
        refine qT 4 rfl (fun _ hS => yldc U9 rfl rfl (rd_en0 (hG9.ext hS) hi' hy)) (hg9) ?_; refine qT 9 rfl (fun _ hS => yldc U9 rfl rfl (rd_en0 (hE9.ext hS) hi' hy)) (hg9) ?_; refine qT 10 rfl (fun _ hS => yneS rfl rfl) (hg9) ?_; refine qT 11 rfl (fun _ hS => ymv rfl) (hg9) ?_; refine rh_bool (fun h5 => ?_) (fun h5 => ?_)
        ·simp at h5
        ·skip
         refine qT 12 rfl (fun _ hS => ymv rfl) (hg9) ?_; refine qT 13 rfl (fun _ hS => ymv rfl) (hg9) ?_; refine qT 14 rfl (fun _ hS => yis U45 ti49 rfl rfl (by omega)) (hg9) ?_; refine qT 15 rfl (fun _ hS => yfa fl49_1 rfl) (hg9) ?_; refine qT 17 rfl (fun _ hS => ymv rfl) (hg9) ?_; refine qT 18 rfl (fun _ hS => ymv rfl) (hg9) ?_; refine qT 19 rfl (fun _ hS => yis U30 ti41 rfl rfl (by omega)) (hg9) ?_; refine qT 20 rfl (fun _ hS => yfa fl41_1 rfl) (hg9) ?_; refine qT 16 rfl (fun _ hS => yldc U9 rfl rfl (rd_en1 (hG9.ext hS) hi' hy)) (hg9) ?_
         refine qT 21 rfl (fun _ hS => yldc U9 rfl rfl (rd_en1 (hE9.ext hS) hi' hy)) (hg9) ?_; refine qT 22 rfl (fun _ hS => yneS rfl rfl) (hg9) ?_; refine qT 23 rfl (fun _ hS => ypF rfl rfl) (hg9) ?_; refine qE ?_; refine run_cond rfl (fun h6 => ?_) (fun h6 => ?_)
         ·simp at h6
         ·skip
          refine run_skip ?_; refine run_inBlock ?_; refine run_reg rfl ?_; refine qV (ymv rfl) ?_; refine qV (yad rfl rfl (by omega)) ?_; refine qV (yas rfl) ?_; refine rEnd ?_
          exact (ih2 (i + 1) _ ⟨by omega, hg⟩ (by omega)).qb
       ·skip
        refine run_exit rfl ?_; refine run_seq ?_; refine run_reg rfl ?_; refine rCall rfl rfl (yc (args := []) cf16 rfl) (awake_ret _) ?_
        rintro _ w10 ⟨rfl, hx10⟩
        refine qV (yas rfl) ?_; refine rEnd ?_; refine run_ret Tryz.func4 rfl ?_
        exact ⟨_, rfl, rfl, (((hx04.trans hx5).trans hx6).trans hx9).trans hx10⟩
end
end Go.Proofs.YtocnhaoilnojmaaGreat
namespace Go.Proofs.YtocnhaoilnojmaaGreat
open Go Go.ChangeShapes Go.WideShapes Go.ChangeAt Go.RowKit
set_option linter.all false

def readables (P : Program) (ts : List TypeId) : Bool := ts.all fun t => P.readableRec t && decide (t < P.types.size)

theorem trodAll_below {H : Type} {enc : TypeId × Value → H} {P : Program} (hl : laidOutB P = true) {W W' : World} (hb : Below W.heap.size W W') :
    ∀ {ts : List TypeId} {vs : List Value} {ds : List (DataW H)} {ps : List MemPlace}, readables P ts = true → DataW.TrodAll enc P W 0 (fun _ => true) true ts vs ds ps →
      DataW.TrodAll enc P W' 0 (fun b => decide (b < W.heap.size)) true ts vs ds ps
  | [], [], [], _, _, h => h
  | t :: ts, v :: vs, d :: ds, _, hr, h => by
    obtain ⟨p, q, h1, h2, rfl⟩ := h
    simp only [readables, List.all_cons, Bool.and_eq_true, decide_eq_true_eq] at hr
    exact ⟨p, q, Below.trod hl hr.1.1 hr.1.2 h1 hb (by obtain ⟨m, hm⟩ := h1; exact DataW.trod_lt m _ _ _ hm), trodAll_below hl hb hr.2 h2, rfl⟩
  | [], [], _ :: _, _, _, h => h.elim
  | [], _ :: _, _, _, _, h => h.elim
  | _ :: _, [], _, _, _, h => h.elim
  | _ :: _, _ :: _, [], _, _, h => h.elim

theorem trodAll_len {H : Type} {enc : TypeId × Value → H} {P : Program} {W : World} {base : Nat} {spare : Nat → Bool} {held : Bool} :
    ∀ {ts : List TypeId} {vs : List Value} {ds : List (DataW H)} {ps : List MemPlace}, DataW.TrodAll enc P W base spare held ts vs ds ps → ds.length = ts.length
  | [], [], [], _, _ => rfl
  | t :: ts, v :: vs, d :: ds, _, h => by
    obtain ⟨p, q, h1, h2, rfl⟩ := h
    simpa using trodAll_len h2
  | [], [], _ :: _, _, h => h.elim
  | [], _ :: _, _, _, h => h.elim
  | _ :: _, [], _, _, h => h.elim
  | _ :: _, _ :: _, [], _, h => h.elim

/-- A function that returns true and keeps all that was there meets the contract of its row. -/
theorem law_lifted {H : Type} {enc : TypeId × Value → H} {C : Checked} {os : Os} {f : FuncId} {fn : Func} {s : ChangeSpec} {t : TypeId} {ts : List TypeId}
    (own : ownKnob C.prog.godebug = none) (started : os.Started) (hl : laidOutB C.prog = true) (noInit : C.prog.inits.idxOf? f = none) (hfn : C.prog.funcs[f]? = some fn)
    (hts : fn.params.toList = ts) (hrd : readables C.prog ts = true) (hrt : fn.resultTypes = #[t]) (hb : C.prog.underlying t = some .bool) (hsv : s.vars = [])
    (hspec : ∀ ds : List (DataW H), ds.length = ts.length → s.fn H ds = { results := [.lit (.bool true)], args := ds })
    (witness : ∃ (w : World) (tape : Tape) (i : Input), w.os = os ∧ (w.forCall tape i).Shaped C.prog ∧ i.vars = [] ∧ Input.okWide C.prog (w.forCall tape i) .any w.heap.size f i ∧
      s.pre6 enc C.prog fn [] false (w.forCall tape i).memory i.args ∧ ({} : Assume).holds C.prog (lone (Frame.enter C.prog f i.args .normal) [] (w.forCall tape i)))
    (hret : ∀ (W : World) (base : Nat) (args : List Value) (ds : List (DataW H)) (ps : List MemPlace),
      (∀ (j : Nat) t v, ts[j]? = some t → args[j]? = some v → Value.okWide C.prog W .any base t v) →
      DataW.TrodAll enc C.prog W 0 (fun _ => true) true ts args ds ps → W.noneFrozen ps →
      (DataW.weightsEach C.prog ts ds).all (· ≤ reachBytes) = true →
      Ret C.prog f args W fun v w' => v = .bool true ∧ Ext W w') :
    ReturnsInHanded {} C os f .any (s.pre6 enc C.prog fn [] false) (s.post enc C.prog fn false true false false) := by
  refine returnsInHanded_of_change_sized own started noInit hfn witness ?_
  intro W base args ds gs before hval0 hW _ hsz0 _
  have hW' := hW
  obtain ⟨p, q, hA, hV, rfl, hfz, _⟩ := hW
  rw [hsv] at hV
  obtain ⟨rfl, rfl⟩ := trodVars_none hV
  rw [hts] at hA
  have hlen := trodAll_len hA
  have hsz : (DataW.weightsEach C.prog ts ds).all (· ≤ reachBytes) = true := by
    have hv : s.plain.varTypes C.prog = [] := by simp [ChangeSpec.plain, DataSpec.varTypes, hsv]
    rw [hts, hv, List.append_nil, List.append_nil] at hsz0
    exact hsz0
  have hr := hret W base args.toList ds p (fun j t v h1 h2 => hval0 j t v (by rw [← hts] at h1; simpa using h1) (by simpa using h2)) hA (by rw [List.append_nil] at hfz; exact hfz) hsz
  unfold Ret at hr; rw [Array.toArray_toList] at hr
  refine Calls.mono hr fun x W' ⟨v, hx, hv, hext⟩ => ?_
  subst hx; subst hv
  have bel := hext.below
  refine ⟨_, rfl, ds, [], p ++ [], [], p, [], hW', ?_, ?_, ?_, bel.frame _, fun h => by cases h⟩
  · rw [List.append_nil, hspec ds hlen, hrt]
    exact trodAll_mk1 (shut_bool hb _)
  · rw [List.append_nil, hspec ds hlen, hts]
    exact trodAll_below hl bel hrd hA
  · rw [hsv, List.append_nil, hspec ds hlen]
    rfl
theorem own : ownKnob Tryz.prog.godebug = none := by kernel_rfl
theorem laidOut : laidOutB Tryz.prog = true := by kernel_rfl
theorem str_S (s : ByteArray) : Value.string s = S s.data.toList := by
  obtain ⟨⟨l⟩⟩ := s; rfl
end Go.Proofs.YtocnhaoilnojmaaGreat
namespace Go.Proofs.YtocnhaoilnojmaaGreat
open Go Go.ChangeShapes Go.WideShapes Go.ChangeAt Go.RowKit Go.Deep
set_option linter.all false
set_option maxRecDepth 100000

/-! ### Rows of equal length -/
theorem flat_get {C : Nat → List Value} {k : Nat} : ∀ {n : Nat}, (∀ i, i < n → (C i).length = k) → ∀ i r, i < n → r < k → ((List.range n).flatMap C)[i * k + r]? = (C i)[r]?
 | 0, _, i, r, hi, _ => absurd hi (Nat.not_lt_zero _)
 | n + 1, hl, i, r, hi, hr => by
   have hlen : ((List.range n).flatMap C).length = n * k := by
    have : ∀ m, m ≤ n → ((List.range m).flatMap C).length = m * k := fun m hm => by
     induction m with
     | zero => simp
     | succ m ih => rw [List.range_succ, List.flatMap_append, List.length_append, ih (by omega)]; simp [hl m (by omega)]; rw [Nat.succ_mul]
    exact this n (Nat.le_refl _)
   rw [List.range_succ, List.flatMap_append]
   rcases Nat.lt_or_ge i n with h | h
   ·have hlt : i * k + r < n * k := by
     have : (i + 1) * k ≤ n * k := Nat.mul_le_mul_right k h
     rw [Nat.succ_mul] at this; omega
    rw [List.getElem?_append_left (by rw [hlen]; exact hlt)]
    exact flat_get (fun j hj => hl j (by omega)) i r h hr
   ·have e : i = n := by omega
    subst e
    rw [List.getElem?_append_right (by rw [hlen]; omega), hlen, show i * k + r - i * k = r by omega]
    simp
theorem flat_length {C : Nat → List Value} {k n : Nat} (hl : ∀ i, i < n → (C i).length = k) : ((List.range n).flatMap C).length = n * k := by
 have : ∀ m, m ≤ n → ((List.range m).flatMap C).length = m * k := fun m hm => by
  induction m with
  | zero => simp
  | succ m ih => rw [List.range_succ, List.flatMap_append, List.length_append, ih (by omega)]; simp [hl m (by omega)]; rw [Nat.succ_mul]
 exact this n (Nat.le_refl _)
section
variable {H : Type} {enc : TypeId × Value → H} {P : Program} {W : World} {sp : Nat → Bool}

/-- Elements that lie in a row are read as a slice. -/
theorem rd_rows {a : Addr} {len cap size : Nat} {C : Nat → List Value} (hs : 0 < size) (hC : ∀ i, i < len → W.cells? 0 (a.add (i * size)) size = some (C i)) : Rd W (.slice (some a) len cap) size len ((List.range len).flatMap C) ∧ ∀ i, i < len → (C i).length = size := by
 have hl : ∀ i, i < len → (C i).length = size := fun i hi => (World.cells?_some (hC i hi)).2.1
 refine ⟨⟨flat_length hl, ?_⟩, hl⟩
 rcases Nat.eq_zero_or_pos len with h0 | h0
 ·subst h0
  exact .inl ⟨(some a, cap), rfl, rfl⟩
 ·obtain ⟨b, off, spot⟩ := a
  have hsp : spot = none := by
   obtain ⟨-, h1, h2⟩ := World.cells?_some (hC 0 h0)
   have h3 := h2 0 hs
   rw [Nat.zero_mul] at h3
   simp only [Addr.add, if_true] at h3
   rw [List.getElem?_eq_getElem (by omega)] at h3
   unfold World.cell? at h3
   split at h3
   ·cases spot with
    | none => rfl
    | some s => simp at h3
   ·cases h3
  subst hsp
  refine .inr ⟨b, off, cap, rfl, fun j u hj => ?_⟩
  have hjl : j < len * size := by
   rcases Nat.lt_or_ge j (len * size) with h | h
   ·exact h
   ·rw [List.getElem?_eq_none (by rw [flat_length hl]; exact h)] at hj; cases hj
  have hi : j / size < len := (Nat.div_lt_iff_lt_mul hs).2 hjl
  have hr : j % size < size := Nat.mod_lt _ hs
  have e : j = (j / size) * size + j % size := by have := Nat.div_add_mod j size; rw [Nat.mul_comm] at this; exact this.symm
  rw [e, flat_get hl _ _ hi hr] at hj
  obtain ⟨-, h1, h2⟩ := World.cells?_some (hC _ hi)
  have h3 := h2 _ hr
  rw [hj, add_off, add_off] at h3
  rw [e, ← Nat.add_assoc]; exact h3

end

/-! ### Calls -/
section
variable {H : Type} {enc : TypeId × Value → H} {W : World} {sp : Nat → Bool}
theorem weightsAll_mem {P : Program} {t : TypeId} {d : DataW H} {n : Nat} : ∀ {L : List (DataW H)}, d ∈ L → n ∈ DataW.weights P t d → n ∈ DataW.weightsAll P t L
 | [], hd, _ => by cases hd
 | x :: r, hd, hn => by
   simp only [DataW.weightsAll, List.mem_append]
   rcases List.mem_cons.1 hd with rfl | h
   ·exact .inl hn
   ·exact .inr (weightsAll_mem h hn)
theorem open_pg {fuel : Nat} {cs : List Value} {x : DataW H × List MemPlace} (h : DataW.trod enc Tryz.prog W 0 sp true fuel 54 cs = some x) (hw : ∀ n ∈ x.1.weights Tryz.prog 54, n ≤ reachBytes) :
  ∃ y : Int × Bytes, cs = [I y.1, S y.2] ∧ y.2.length ≤ 140737488355328 := by
 obtain ⟨xs, n, -, hx, hl, hlen, hf⟩ := DataW.trod_struct U54 h
 rw [show Tryz.prog.cellsOf 54 = 2 by kernel_rfl] at hl
 match xs, hlen with
 | [y0, y1], _ =>
 match cs, hl with
 | [c0, c1], _ =>
   have t0 := hf 0 _ rfl
   have t1 := hf 1 _ rfl
   simp only [show Tryz.prog.cellsOf 9 = 1 by kernel_rfl, show Tryz.prog.cellsOf 3 = 1 by kernel_rfl, List.drop, List.take, List.getElem?_cons_zero, List.getElem?_cons_succ] at t0 t1
   obtain ⟨n0, e0, -, -⟩ := DataW.trod_int U3 t0
   obtain ⟨s1, e1, hy1, -⟩ := DataW.trod_string U9 t1
   cases e0; cases e1
   refine ⟨(n0, s1.data.toList), by rw [str_S], ?_⟩
   have := hw s1.data.toList.length (by
    rw [hx]
    simp only [DataW.weights, U54, DataW.weightsEach, List.map, List.mem_append]
    exact .inr (.inl (by rw [hy1]; simp [DataW.weights])))
   simp [reachBytes] at this; show s1.data.toList.length ≤ _; simp; omega
theorem open_pgs {fuel : Nat} {v : Value} {x : DataW H × List MemPlace} (h : DataW.trod enc Tryz.prog W 0 sp true fuel 33 [v] = some x) (hw : ∀ n ∈ x.1.weights Tryz.prog 33, n ≤ reachBytes) :
  ∃ (l : Pgs) (a : Option Addr) (c : Nat), v = .slice a l.length c ∧ Rd W v 2 l.length (pgC l) ∧ l.length ≤ c ∧ l.length ≤ 17592186044416 ∧ ∀ y ∈ l, y.2.length ≤ 140737488355328 := by
 rcases open_slice U33 h with ⟨hv, hx⟩ | ⟨a, len, cap, m, n, D, Pl, hv, -, hl, hm, hmm, hx, hel⟩
 ·cases hv
  exact ⟨[], none, 0, rfl, ⟨rfl, .inl ⟨(none, 0), rfl, rfl⟩⟩, by simp, by simp, by simp⟩
 ·cases hv
  rw [show Tryz.prog.cellsOf 54 = 2 by kernel_rfl] at hel
  have hlm : len ≤ m := by rw [hmm]; split <;> omega
  obtain ⟨O, hO⟩ := @choose_lt (Int × Bytes) ⟨(0, [])⟩ len (fun i y => W.cells? 0 (a.add (i * 2)) 2 = some [I y.1, S y.2] ∧ y.2.length ≤ 140737488355328) (fun i hi => by
   obtain ⟨cs', h1, h2⟩ := hel i (by omega)
   obtain ⟨y, hcs, hok⟩ := open_pg h2 (fun n hn => hw n (by
    rw [hx]
    simp only [DataW.weights, U33, List.mem_cons, List.mem_append]
    exact .inr (.inl (weightsAll_mem (List.mem_map.2 ⟨i, by simpa using hi, rfl⟩) hn))))
   exact ⟨y, by rw [h1, hcs], hok⟩)
  obtain ⟨h1, h2⟩ := rd_rows (size := 2) (cap := cap) (C := fun i => [I (O i).1, S (O i).2]) (by omega) (fun i hi => (hO i hi).1)
  have hf : (List.range len).flatMap (fun i => [I (O i).1, S (O i).2]) = pgC ((List.range len).map O) := by simp [pgC, List.flatMap_map]
  rw [hf] at h1
  refine ⟨(List.range len).map O, some a, cap, by simp, by simpa using h1, by simp; omega, ?_, fun y hy => ?_⟩
  ·have hwt := hw ((len + (m - len)) * 24) (by rw [hx]; simp [DataW.weights, U33, show Tryz.prog.bytesOf 54 = 24 by kernel_rfl])
   simp [reachBytes] at hwt
   simp; omega
  ·obtain ⟨i, hi, rfl⟩ := List.mem_map.1 hy
   exact (hO i (by simpa using hi)).2
end
end Go.Proofs.YtocnhaoilnojmaaGreat
