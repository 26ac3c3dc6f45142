/- Texts TrTs, TrJ, TrK, TrKa, TrKf, TrKg, TrNw, TrOk, one behind the other (what the statement TreeShape does not use is left out). -/
import Derived.Test.YtocnhaoilnojmaaGreatTSp1
import Derived.Test.YtocnhaoilnojmaaGreatTSp5
import Derived.Sort.OwnSorted
import Derived.Test.YtocnhaoilnojmaaGreatTSp4
namespace Go.Proofs.YtocnhaoilnojmaaGreat
open Go Go.RowKit Go.Shelf Go.Lib Go.Sort
set_option linter.all false
set_option maxRecDepth 100000
abbrev PgN := {x : Int × Bytes // 0 ≤ x.1 ∧ x.1 ≤ 2147483647}
instance : Inhabited PgN := ⟨⟨(0, []), by decide⟩⟩
def encP (x : PgN) : List Value := [I x.1.1, S x.1.2]
def cmpP (x y : PgN) : Int := x.1.1 - y.1.1
theorem ltP (x y : PgN) : ltOf cmpP x y = decide (x.1.1 < y.1.1) := by
 unfold ltOf cmpP
 by_cases h : x.1.1 < y.1.1
 ·rw [decide_eq_true h]; simp; omega
 ·rw [decide_eq_false h]; simp; omega
theorem swoP : SWO (ltOf cmpP) where
 irrefl x := by rw [ltP]; simp
 trans x y z h1 h2 := by rw [ltP] at *; simp at *; omega
 ntrans x y z h1 h2 := by rw [ltP] at *; simp at *; omega
theorem pbxE {P : Program} {e : Env} {d : Option Nat} {ty t : TypeId} {pos : String} {aft : Array Edge} {g : Option (Nat × Bool)} {x : Operand} {w : World} {v : Value} {cs : List Value} (hx : look e x = some v) (hv : v.cells = cs.toArray) : Yp P e ⟨d, .box t x, ty, pos, aft, g⟩ w fun v' w' => v' = ptr w.heap.size 0 ∧ w' = w.alloc (.cells cs.toArray t) := by
 refine ⟨_, _, fun ρ hρ => ?_, rfl, rfl⟩
 simp [execOp, hρ _ _ hx, Instr.box, newVar, newRow, newObj, Sem.run, hv]
theorem cmpP_ret (x y : PgN) (w : World) : Ret Tryz.prog 91 [.agg #[I x.1.1, S x.1.2], .agg #[I y.1.1, S y.1.2]] w fun v w' => v = I (cmpP x y) ∧ w' = (w.alloc (.cells #[I x.1.1, S x.1.2] 55)).alloc (.cells #[I y.1.1, S y.1.2] 55) := by
 obtain ⟨BM, aa⟩ := x.2
 obtain ⟨Kx, Gk⟩ := y.2
 refine ret_of_run (e := [(0, _), (1, _)]) Tryz.func91 rfl Tryz.ntmps91 rfl rfl (qN rfl (rValP rfl rfl (pbxE (cs := [I x.1.1, S x.1.2]) rfl rfl) ?_))
 rintro _ w1 ⟨rfl, xG⟩
 refine rValP rfl rfl (pbxE (cs := [I y.1.1, S y.1.2]) rfl rfl) ?_
 rintro _ w2 ⟨rfl, lr⟩
 have ai : Blk w1 w.heap.size [I x.1.1, S x.1.2] 55 := by rw [xG]; exact blk_new w _ _
 have ak : Blk w2 w1.heap.size [I y.1.1, S y.1.2] 55 := by rw [lr]; exact blk_new w1 _ _
 have bU : Blk w2 w.heap.size [I x.1.1, S x.1.2] 55 := by rw [lr]; exact (ext_alloc w1 _).blk ai
 refine zqa rfl (qM rfl (qV (yfa fl55_0 rfl) (qV ((by first | exact yld U3 rfl rfl bU rfl | exact yld U3 rfl rfl ak rfl)) ?_)))
 refine qV (yfa fl55_0 rfl) (qV ((by first | exact yld U3 rfl rfl bU rfl | exact yld U3 rfl rfl ak rfl)) ?_)
 refine qV (ysb rfl rfl (by omega)) (zqa rfl (rEnd (run_ret Tryz.func91 rfl ?_)))
 exact ⟨_, rfl, rfl, by rw [lr, xG]⟩
theorem cmpLaysP (blk off size : Nat) (w : World) : CmpLays Tryz.prog 91 #[] encP 2 cmpP blk off size w := fun m os dk hs x y =>
 Calls.mono (cmpP_ret x y _) fun _ _ ⟨v, he, hv, hw⟩ => ⟨by rw [he, hv], 0, #[.cells #[I x.1.1, S x.1.2] 55] ++ #[.cells #[I y.1.1, S y.1.2] 55], by rw [hw, alloc_eq_grow, alloc_eq_grow, grow_grow]; rfl⟩
def pgC (l : Pgs) : List Value := l.flatMap fun x => [I x.1, S x.2]
theorem pgC_len (l : Pgs) : (pgC l).length = l.length * 2 := by
 induction l with
 | nil => rfl
 | cons x r ih => simp only [pgC, List.flatMap_cons, List.length_append, List.length_cons, List.length_nil] at ih ⊢; rw [ih]; omega
theorem pgC_app (a b : Pgs) : pgC (a ++ b) = pgC a ++ pgC b := by simp [pgC]
theorem flat2 {α : Type} (f g : α → Value) : ∀ (l : List α) (i : Nat), (l.flatMap fun x => [f x, g x])[2 * i]? = (l[i]?).map f ∧ (l.flatMap fun x => [f x, g x])[2 * i + 1]? = (l[i]?).map g
 | [], i => by simp
 | x :: r, 0 => by simp
 | x :: r, i + 1 => by
   have := flat2 f g r i; simp only [List.flatMap_cons, List.getElem?_cons_succ]; rw [show 2 * (i + 1) = 2 * i + 2 by omega, show 2 * i + 2 + 1 = 2 * i + 1 + 2 by omega]; exact this
theorem flatK_list (d : Array PgN) : (flatK encP 2 d).toList = d.toList.flatMap encP := by
 apply List.ext_getElem?
 intro j
 by_cases hj : j < d.size * 2
 ·have h1 : (flatK encP 2 d).toList[j]? = some (encP d[j / 2]!)[j % 2]! := by
   have := get_flatK encP 2 d j hj; rw [Array.getElem?_toList, Array.getElem?_eq_getElem (by simpa using hj)]; rw [← this, getElem!_pos (flatK encP 2 d) j (by simpa using hj)]
  have hd : j / 2 < d.size := by omega
  have hg : d.toList[j / 2]? = some d[j / 2]! := by rw [Array.getElem?_toList, Array.getElem?_eq_getElem hd, getElem!_pos d (j / 2) hd]
  obtain ⟨f1, f2⟩ := flat2 (fun x : PgN => I x.1.1) (fun x : PgN => S x.1.2) d.toList (j / 2); rw [h1]; rcases Nat.mod_two_eq_zero_or_one j with h0 | h0
  ·have e : j = 2 * (j / 2) := by omega
   rw [h0]
   conv => rhs; rw [e]
   show _ = (d.toList.flatMap fun x : PgN => [I x.1.1, S x.1.2])[2 * (j / 2)]?; rw [f1, hg]; rfl
  ·have e : j = 2 * (j / 2) + 1 := by omega
   rw [h0]
   conv => rhs; rw [e]
   show _ = (d.toList.flatMap fun x : PgN => [I x.1.1, S x.1.2])[2 * (j / 2) + 1]?; rw [f2, hg]; rfl
 ·rw [List.getElem?_eq_none (by simp; omega), List.getElem?_eq_none]
  have : (d.toList.flatMap encP).length = d.size * 2 := by
   have h : ∀ l : List PgN, (l.flatMap encP).length = l.length * 2 := fun l => by
    induction l with
    | nil => rfl
    | cons x r ih => simp only [List.flatMap_cons, List.length_append, ih, List.length_cons, encP, List.length_nil]; omega
   rw [h]; simp
  omega
theorem holds_of_blockV {w : World} {g : Nat} {cur : Array Value} {e : TypeId} {ss : List Value} (hb : w.heap[g]? = some (.cells cur e (0, 0))) (ht : cur.toList.take ss.length = ss) : Holds id w g 0 ss.toArray := by
 intro j hj
 have ix : j < ss.length := by simpa using hj
 refine ⟨?_, by simp [World.frozen?, hb]⟩
 have h1 : (cur.toList.take ss.length)[j]? = ss[j]? := by rw [ht]
 rw [List.getElem?_take_of_lt ix] at h1
 simp only [World.cell?, hb, Nat.zero_add]
 simp only [Option.isSome_none, Bool.false_eq_true, if_false]
 rw [← Array.getElem?_toList, h1]
 simp [ix]
theorem heap_sortedV {w : World} {g n : Nat} {os : Array Obj} {cur : Array Value} {e : TypeId} {fr : Nat × Nat} (d : Array Value) (hb : w.heap[g]? = some (.cells cur e fr)) :
  (grow (putRow id (Go.Sort.ahead w n) g 0 d) os).heap[g]? = some (.cells (putCells id 0 d cur) e fr) := by
 have hg : g < w.heap.size := (Array.getElem?_eq_some_iff.1 hb).1
 rw [heap_grow_old _ _ (by simpa using hg)]
 simp [putRow, mapBlock, Go.Sort.ahead, Array.getElem?_modify, hb, onCells]
theorem kp_sortedV {w : World} {g n : Nat} {os : Array Obj} (d : Array Value) : Kp (fun k => k = g) w (grow (putRow id (Go.Sort.ahead w n) g 0 d) os) := by
 refine ⟨rfl, rfl, rfl, by simp, fun k hk aZ => ?_⟩
 rw [heap_grow_old _ _ (by simpa using hk)]
 have : g ≠ k := fun e => aZ e.symm
 simp [putRow, mapBlock, Go.Sort.ahead, Array.getElem?_modify, this]
theorem take_putCellsV (cur : Array Value) (ts : List Value) (h : ts.length ≤ cur.size) : (putCells id 0 ts.toArray cur).toList.take ts.length = ts := by
 apply List.ext_getElem?
 intro j
 by_cases hj : j < ts.length
 ·rw [List.getElem?_take_of_lt hj, Array.getElem?_toList]; simp [putCells, hj, show j < cur.size by omega]
 ·rw [List.getElem?_take_eq_none (by omega), List.getElem?_eq_none (by omega)]
section
variable {w : World}
theorem sortP_none {a : Option Addr} {cap : Nat} {fv : Value} : Ret Tryz.prog 90 [.slice a 0 cap, fv] w fun v w' => v = .tuple #[] ∧ w' = w := by
 have p6 : Ret Tryz.prog 141 [.slice a 0 cap, I 0, I 0, fv] w fun v w' => v = .tuple #[] ∧ w' = w := by
  refine ret_of_run (e := [(0, _), (1, _), (2, _), (3, _)]) Tryz.func141 rfl Tryz.ntmps141 rfl rfl (qN rfl (zqm rfl (zqd rfl rfl (zqa rfl (rEnd (run_block (zqu (α := Unit) (()) (fun _ => [(2, I 0), (8, I 1)]) (fun _ w' => w' = w) (fun _ => 0) ?hI ?hround)))))))
  case hI => rfl
  case hround =>
   rintro _ w1 rfl ih
   try dsimp only
   refine run_seq (qN rfl (zqm rfl (zqm rfl (qV (ylt rfl rfl) (rEnd (run_if rfl (fun h => ?_) (fun h => ?_)))))))
   ·exact absurd h (by decide)
   ·refine run_exit rfl (run_end Tryz.func141 rfl ?_); exact ⟨_, rfl, rfl, rfl⟩
 have DH : ∀ z : Int, Ret Tryz.prog 117 [.slice a 0 cap, I 0, I 0, I z, fv] w fun v w' => v = .tuple #[] ∧ w' = w := fun z => by
  refine ret_of_run (e := [(0, _), (1, _), (2, _), (3, _), (4, _)]) Tryz.func117 rfl Tryz.ntmps117 rfl rfl (qN rfl (zqa rfl (qM rfl (zqa rfl (rEnd (run_block (zqu (α := Unit) (()) (fun _ => [(0, .slice a 0 cap), (1, I 0), (2, I 0), (4, fv)]) (fun _ w' => w' = w) (fun _ => 0) ?hI ?hround)))))))
  case hI => rfl
  case hround =>
   rintro _ w1 rfl ih
   try dsimp only
   refine run_block (qN rfl (zqm rfl (zqm rfl (qV (ysb rfl rfl (by omega)) (zqa rfl (rEnd (run_seq (qN rfl (zqm rfl (qV (yle rfl rfl) (rEnd (run_if rfl (fun h => ?_) (fun h => ?_)))))))))))))
   ·refine qN rfl (zqm rfl (zqm rfl (zqm rfl (zqm rfl (zqc [.tmp 26, .tmp 27, .tmp 28, .tmp 29] cf141 rfl (p6) ?_))))); rintro _ w1 ⟨rfl, rfl⟩; refine rEnd (run_ret Tryz.func117 rfl ?_); exact ⟨_, rfl, rfl, rfl⟩
   ·exact absurd (by decide) h
 have aP : Ret Tryz.prog 93 [.int .u64 0] w fun v w' => (∃ z : Int, v = I z) ∧ w' = w :=
  Calls.mono (Any.bits_Len (SlLaysF0.n15.bits (P := Tryz.prog) { sortFA with }) 0 w (by omega) (by omega)) fun _ _ ⟨he, hw⟩ => ⟨_, he, ⟨_, rfl⟩, hw⟩
 refine ret_of_run (e := [(0, _), (1, _)]) Tryz.func90 rfl Tryz.ntmps90 rfl rfl (qN rfl (zqm rfl (qV (yln U52 rfl) (zqa rfl (rEnd (run_reg rfl (zqm rfl (zqm rfl (zqm rfl (qV ((by first | exact ycvSu64 rfl U3 U118 (by omega) | exact ycv64 rfl U3 U118)) ?_))))))))))
 refine zqc [.tmp 10] cf93 rfl (aP) ?_
 rintro _ w1 ⟨⟨z, rfl⟩, rfl⟩
 refine zqm rfl (zqc [.tmp 7, .const (Value.int .i64 0), .tmp 8, .tmp 11, .tmp 12] cf117 rfl (DH z) ?_)
 rintro _ w1 ⟨rfl, rfl⟩
 refine rEnd (run_end Tryz.func90 rfl ?_)
 exact ⟨_, rfl, rfl, rfl⟩
theorem sortP_ret {sv : Value} {l : Pgs} (hS : Sl w sv 55 2 l.length (pgC l)) (hl : l.length ≤ 1000000000) (hb : ∀ x ∈ l, 0 ≤ x.1 ∧ x.1 ≤ 2147483647) :
  Ret Tryz.prog 90 [sv, .func (.func 91) #[] #[]] w fun v w' => v = .tuple #[] ∧ Kp (fun k => sv.ownBlock = some k) w w' ∧ ∃ l', l'.Perm l ∧ (l'.Pairwise fun a b => a.1 ≤ b.1) ∧ Sl w' sv 55 2 l'.length (pgC l') := by
 rcases hS.2 with ⟨rfl, h1⟩ | ⟨g, cap, cur, rfl, hg, hh, hn, hc, hz, ht⟩
 ·refine (sortP_none (w := w) (a := none) (cap := 0)).mono fun v w' ⟨h, hw⟩ => ?_; have : l = [] := List.eq_nil_of_length_eq_zero h1; subst this; exact ⟨h, by rw [hw]; exact Kp.refl _ _, [], List.Perm.refl _, List.Pairwise.nil, by rw [hw]; exact Sl.nil _ _ _⟩
 ·let d : List PgN := l.pmap (fun x h => ⟨x, h⟩) hb
  have m6 : d.length = l.length := List.length_pmap
  have x4 : d.map (·.1) = l := by
   show (l.pmap (fun x h => (⟨x, h⟩ : PgN)) hb).map (·.1) = l; rw [List.map_pmap]; simp
  have zh : ∀ d : List PgN, d.flatMap encP = pgC (d.map (·.1)) := fun d => by
   unfold pgC encP; rw [List.flatMap_map]
  have hH : HoldsK encP 2 w g 0 d.toArray := by
   have e : flatK encP 2 d.toArray = (pgC l).toArray := by
    apply Array.toList_inj.1; rw [flatK_list]; show d.flatMap encP = pgC l; rw [zh, x4]
   unfold HoldsK; rw [e]; exact holds_of_blockV hh (by rw [pgC_len]; exact ht)
  have af : g < w.heap.size := hS.lt (g := g) rfl; have h := AnyQ.slices_SortFunc sortFA 2 Tryz.isAgg55 Tryz.sizeOf55 encP (fun _ => rfl) (fun x v hv => by simp [encP] at hv; rcases hv with rfl | rfl <;> rfl) cmpP swoP 91 #[] g 0 cap d.toArray w (enters_of Tryz.func91 (by kernel_rfl) rfl) (cmpLaysP g 0 _ w) hH af (by simp [m6]; omega); have BS : d.toArray.size = l.length := by simpa using m6
  rw [BS] at h; refine Calls.mono h fun _ _ ⟨he, d', n, os, hp, hs, hw⟩ => ⟨_, he, rfl, ?_, d'.toList.map (·.1), ?_, ?_, ?_⟩
  ·rw [hw]; exact (show Kp (fun k => k = g) w _ from kp_sortedV _).mono' (fun k e => by subst e; rfl)
  ·obtain ⟨p1, -, p3⟩ := hp
   have e1 : (d'.extract 0 l.length).toList = d'.toList := by
    have : d'.size = l.length := by rw [p1, BS]
    rw [← this]; simp
   have e2 : (d.toArray.extract 0 l.length).toList = d := by
    rw [← m6]; simp
   rw [e1, e2] at p3; have := p3.map (fun x : PgN => x.1); rw [x4] at this; exact this
  ·refine List.pairwise_map.2 ?_; rw [List.pairwise_iff_getElem]; intro i j hi hj mt; have dP : d'.size = l.length := by rw [hp.1, BS]
   have ix : j < d'.size := by simpa using hj
   have := hs i j (Nat.zero_le _) mt (by omega); rw [ltP] at this; rw [getElem!_pos d' i (by omega), getElem!_pos d' j ix] at this; have := of_decide_eq_false this; simp only [Array.getElem_toList]; omega
  ·have dP : d'.size = l.length := by rw [hp.1, BS]
   have Gl : (flatK encP 2 d').toList = pgC (d'.toList.map (·.1)) := by rw [flatK_list, zh]
   have DI : flatK encP 2 d' = (pgC (d'.toList.map (·.1))).toArray := Array.toList_inj.1 Gl; have l0 : (d'.toList.map (fun x : PgN => x.1)).length = l.length := by simp [dP]
   rw [hw]; refine ⟨by rw [pgC_len, l0], .inr ⟨g, cap, putCells id 0 (flatK encP 2 d') cur, by rw [l0], hg, heap_sortedV _ hh, by omega, hc, by simp [putCells, hz], ?_⟩⟩; rw [DI, l0, ← l0, ← pgC_len]; exact take_putCellsV cur _ (by rw [pgC_len, l0, hz]; exact Nat.mul_le_mul_right _ hn)
end
end Go.Proofs.YtocnhaoilnojmaaGreat
namespace Go.Proofs.YtocnhaoilnojmaaGreat
open Go Go.RowKit
set_option linter.all false
set_option maxRecDepth 100000
section
variable {w w' : World}
theorem NdM.re {n n' : Nd} {q : Pl} {kv' vv' cv' : Value} (hM : NdM w n q) (hB : Blk w' q.b [.bool n'.leaf, kv', vv', cv'] 84) (hK : Sl w' kv' 9 1 n'.keys.length (n'.keys.map S)) (hV : Sl w' vv' 9 1 n'.vals.length (n'.vals.map S)) (hC : Sl w' cv' 89 1 n'.kids.length (n'.kids.map u32v)) (bj : n'.Bd)
  (ok : ∀ g, kv'.ownBlock = some g → q.kv.ownBlock = some g ∨ w.heap.size ≤ g) (ov : ∀ g, vv'.ownBlock = some g → q.vv.ownBlock = some g ∨ w.heap.size ≤ g) (oc : ∀ g, cv'.ownBlock = some g → q.cv.ownBlock = some g ∨ w.heap.size ≤ g)
  (dd : ∀ g, w.heap.size ≤ g → (kv'.ownBlock = some g → vv'.ownBlock ≠ some g ∧ cv'.ownBlock ≠ some g) ∧ (vv'.ownBlock = some g → cv'.ownBlock ≠ some g)) :
  NdM w' n' ⟨q.b, kv', vv', cv'⟩ ∧ ∀ k, Pl.fp ⟨q.b, kv', vv', cv'⟩ k → q.fp k ∨ w.heap.size ≤ k := by
 have hb := hM.blk.lt
 have af := hM.lt
 refine ⟨⟨hB, hK, hV, hC, bj, ⟨fun e => ?_, fun e => ?_, fun e => ?_⟩, fun g hg => ⟨fun e => ?_, fun e => ?_⟩, fun g hg e => ?_⟩, fun g hg => ?_⟩
 ·rcases ok _ e with h | h
  ·exact hM.d1.1 h
  ·exact absurd hb (Nat.not_lt.2 h)
 ·rcases ov _ e with h | h
  ·exact hM.d1.2.1 h
  ·exact absurd hb (Nat.not_lt.2 h)
 ·rcases oc _ e with h | h
  ·exact hM.d1.2.2 h
  ·exact absurd hb (Nat.not_lt.2 h)
 ·rcases ok g hg with h | h
  ·rcases ov g e with h' | h'
   ·exact (hM.d2 g h).1 h'
   ·have := af g (.inr (.inl h)); omega
  ·exact ((dd g h).1 hg).1 e
 ·rcases ok g hg with h | h
  ·rcases oc g e with h' | h'
   ·exact (hM.d2 g h).2 h'
   ·have := af g (.inr (.inl h)); omega
  ·exact ((dd g h).1 hg).2 e
 ·rcases ov g hg with h | h
  ·rcases oc g e with h' | h'
   ·exact hM.d3 g h h'
   ·have := af g (.inr (.inr (.inl h))); omega
  ·exact (dd g h).2 hg e
 ·rcases hg with h | h | h | h
  ·exact .inl (.inl h)
  ·exact (ok g h).imp (fun e => .inr (.inl e)) id
  ·exact (ov g h).imp (fun e => .inr (.inr (.inl e))) id
  ·exact (oc g h).imp (fun e => .inr (.inr (.inr e))) id
theorem leaf_bd {z : Nat} {E : Es} (hz : sizeOk (z : Int)) (h : EsOk z E) (hb : entB E ≤ 100000) : (leafNd E).Bd := by
 have hl := entB_len h
 have hm : mostE z ≤ 5000 := by have := hz.2.1; unfold mostE; omega
 refine ⟨by simp [leafNd]; omega, by simp [leafNd]; omega, by simp [leafNd], fun k hk => ?_, fun v hv => ?_, by simp [leafNd]⟩
 ·obtain ⟨x, hx, rfl⟩ := List.mem_map.1 hk; have := h.one x hx; omega
 ·obtain ⟨x, hx, rfl⟩ := List.mem_map.1 hv; have := h.one x hx; omega
theorem insE_set {E : Es} {k v : Bytes} (h : hasE E k) : insE E k v = E.set (posE E k) (k, v) := by
 unfold insE
 rw [if_pos h, List.set_eq_take_append_cons_drop, if_pos (hasE_lt h)]
theorem insE_keys {E : Es} {k v : Bytes} (h : hasE E k) : (insE E k v).map (·.1) = E.map (·.1) := by
 rw [insE_set h, List.map_set]
 apply List.ext_getElem?
 intro i
 rw [List.getElem?_set]
 split
 ·rename_i e
  subst e; split
  ·exact h.symm
  ·rename_i h2
   rw [List.getElem?_eq_none (by omega)]
 ·rfl
theorem insE_vals {E : Es} {k v : Bytes} (h : hasE E k) : (insE E k v).map (·.2) = (E.map (·.2)).set (posE E k) v := by rw [insE_set h, List.map_set]
theorem insE_new {E : Es} {k v : Bytes} (h : ¬ hasE E k) : insE E k v = E.take (posE E k) ++ (k, v) :: E.drop (posE E k) := by unfold insE; rw [if_neg h]
theorem insE_ne (E : Es) (k v : Bytes) : insE E k v ≠ [] := by unfold insE; simp
structure PutC (w : World) (F : Nat → Prop) (p : Nat) (k v : Bytes) (bt bk bv bp : Nat) : Prop where
 t : Blk w bt [ptr p 0] 24
 k : Blk w bk [S k] 9
 v : Blk w bv [S v] 9
 f : Blk w bp [.func (.func 68) #[] #[ptr bt 0, ptr bk 0, ptr bv 0, ptr bp 0]] 110
 n : ¬ F bt ∧ ¬ F bk ∧ ¬ F bv ∧ ¬ F bp
theorem PutC.kp {F F' : Nat → Prop} {p : Nat} {k v : Bytes} {bt bk bv bp : Nat} (h : PutC w F p k v bt bk bv bp) (hk : Kp F w w') (hF : ∀ i, F' i → F i ∨ w.heap.size ≤ i) : PutC w' F' p k v bt bk bv bp := by
 obtain ⟨n1, n2, n3, n4⟩ := h.n
 have h1 := h.t.lt
 have h2 := h.k.lt
 have h3 := h.v.lt
 have h4 := h.f.lt
 exact ⟨hk.blk h.t n1, hk.blk h.k n2, hk.blk h.v n3, hk.blk h.f n4, fun e => (hF _ e).elim n1 (by omega), fun e => (hF _ e).elim n2 (by omega), fun e => (hF _ e).elim n3 (by omega), fun e => (hF _ e).elim n4 (by omega)⟩
structure PutPost (T : Tr) (h : Nat) (no : Int) (lo : Bytes) (hi : Option Bytes) (ns : List Int) (es : Es) (k v : Bytes) (val : Value) (T' : Tr) : Prop where
 cnt : T'.count = T.count + if hasE es k then 0 else 1
 evo : Evo T T' h
 out : (val = .tuple #[S [], I 0] ∧ One T.size h T.nodes T'.nodes no lo hi ns (insE es k v) ∧ ((∀ m, T.nodes no = some m → ¬ m.low T.size) → ∀ m, T'.nodes no = some m → m.keys ≠ [])) ∨ ∃ up more, val = .tuple #[S up, I ((more : Nat) : Int)] ∧ Two T.size h T.nodes T'.nodes no lo hi ns (insE es k v) up more
theorem Evo.cnt {T T' : Tr} {g c : Nat} (h : Evo T T' g) : Evo T { T' with count := c } g := ⟨h.size, h.old, h.root, h.len, h.giv, h.nod, ⟨h.srt.rise, h.srt.free⟩, h.chg⟩
end
section
variable {w : World}
set_option maxHeartbeats 4000000 in
theorem put_leaf_ret {p : Nat} {T : Tr} {nb : Int → Nat} {F : Nat → Prop} (h : TreeA w p T nb F) {k v : Bytes} {bt bk bv bp : Nat} (hc : PutC w F p k v bt bk bv bp) {no : Int} {lo : Bytes} {hi : Option Bytes} {ns : List Int} {E : Es} (hB : Bn T.size T.nodes 1 no lo hi ns E) (cA : inB lo hi k) (hk : keyOk k) (f9 : 3 + k.length + v.length ≤ mostE T.size) (hg : GivS T) (nZ : ∀ x ∈ T.given, 1 ≤ x ∧ x ≤ 2147483647) (de : T.given.length ≤ 4294967296) (IC : E = [] ∨ 1 ≤ T.given.length) (fy : T.count ≤ 1000000000) :
  Ret Tryz.prog 68 [I no, ptr bt 0, ptr bk 0, ptr bv 0, ptr bp 0] w fun val w' => ∃ T' nb' F', TreeA w' p T' nb' F' ∧ PutPost T 1 no lo hi ns E k v val T' ∧ Kp F w w' ∧ (∀ k, F' k → F k ∨ w.heap.size ≤ k) ∧ ∀ x, T.nodes x ≠ none → x ∉ ns → nb' x = nb x := by
 have hz : sizeOk (T.size : Int) := size_ok h
 obtain ⟨z1, z2, -⟩ := id hz
 obtain ⟨hn, j9, aQ, D8, vi⟩ := hB.leaf (by omega)
 have sg := insE_ok (v := v) aQ hk f9
 have Kz := insE_entB (es := E) (k := k) (v := v)
 have xe : mostE T.size ≤ 1100 := by unfold mostE; omega
 have n8 := leaf_bd hz sg (by omega)
 have ID := entB_len aQ
 have IE := entB_len sg
 obtain ⟨mN, mC, mO, gv, kn, kc, ko, O⟩ := h.opn
 obtain ⟨q, hq, hM, fj, cM⟩ := h.nodeF hn
 obtain ⟨qb, qk, qv, qc⟩ := q
 dsimp only at hq
 subst hq
 have ar := hM.blk
 have hK := hM.keys
 have hV := hM.vals
 have hC := hM.kids
 have cU := hM.d1
 have di := hM.d2
 have nf := hM.d3
 dsimp only at ar hK hV hC cU di nf
 have ei : (leafNd E).vals.length = E.length := by simp [leafNd]
 have cn : (leafNd E).keys.length = E.length := by simp [leafNd]
 rw [ei] at hV
 rw [cn] at hK
 have bW := hc.t
 have fb := hc.k
 have lH := hc.v
 obtain ⟨nt, nk, nv, np⟩ := hc.n
 have IF : F (nb no) := (fj _ (.inl rfl)).1
 have hp : pos (leafNd E).keys k = posE E k := rfl
 have nh := posE_le E k
 have fi := h.lt
 refine ret_of_run (e := [(0, _), (1, _), (2, _), (3, _), (4, _)]) Tryz.func68 rfl Tryz.ntmps68 rfl rfl (qN rfl (zqa rfl (zqa rfl (qM rfl (qV ((by first | exact yld U24 rfl rfl bW rfl | exact yld U24 rfl rfl O.blk rfl | exact yld U24 rfl rfl ar rfl)) ?_)))))
 refine qV (ynk rfl) (qV (yfa fl74_5 rfl) (qV ((by first | exact yld U71 rfl rfl bW rfl | exact yld U71 rfl rfl O.blk rfl | exact yld U71 rfl rfl ar rfl)) ?_))
 refine zqm rfl (qV (ylk (k := no) (K := KZ) U71 (ky_int U3) ti81 rfl rfl O.nm.l) ?_)
 rw [show (getL kn no).getD (.pointer none) = ptr (nb no) 0 by rw [O.ng no, hn]; rfl]
 refine zqa rfl (rEnd (run_seq (qN rfl (zqm rfl (qV (ynk rfl) (qV (yfa fl84_0 rfl) (qV ((by first | exact yld U4 rfl rfl bW rfl | exact yld U4 rfl rfl O.blk rfl | exact yld U4 rfl rfl ar rfl)) ?_)))))))
 refine rEnd (run_true rfl (run_seq ?_))
 have a7 := Ext.drew0 w
 refine run_draw (fun w' => Ext w w') (by kernel_rfl) rfl (zqt 0 rfl (ymv rfl) a7 (zqt 1 rfl (ynk rfl) a7 (zqt 2 rfl (yfa fl84_1 rfl) a7 (qT 3 rfl (fun _ h=>(by first | exact yld U23 rfl rfl (h.blk ar) rfl | exact yld U23 rfl rfl (h.blk fb) rfl)) a7 ?_))))
 refine qT 4 rfl (fun _ h=>(by first | exact yld U9 rfl rfl (h.blk ar) rfl | exact yld U9 rfl rfl (h.blk fb) rfl)) a7 ?_
 refine zqo 5 [.tmp 30, .tmp 31] rfl cf44 rfl (bsearch_ret (leafNd E).keys k qk _ ((hM.keys.ext a7).rd) (by rw [cn]; omega) aQ.rise) ?_
 rintro _ w1 ⟨rfl, rfl⟩
 refine ⟨a7, ?_⟩
 rw [hp]
 refine zqt 6 rfl (ymv rfl) a7 (zqt 7 rfl (yex rfl rfl) a7 (zqt 8 rfl (yex rfl rfl) a7 (zqt 9 rfl (yas rfl) a7 (zqt 10 rfl (yas rfl) a7 (qE (Run.qb (e := [(0, _), (1, _), (2, _), (3, _), (4, _), (6, _), (7, _), (8, _), (9, _), (10, _)]) ?_))))))
 refine run_seq (qN rfl (zqm rfl (rEnd (run_cut (fun e' w2 => ∃ F2 T2, e' = [(0, I no), (1, ptr bt 0), (2, ptr bk 0), (4, ptr bp 0), (6, S []), (7, I 0), (8, ptr (nb no) 0)] ∧ T2 = ({ T.setN no (leafNd (insE E k v)) with count := T.count + if hasE E k then 0 else 1 } : Tr) ∧ TreeA w2 p T2 nb F2 ∧ Kp F w w2 ∧ ∀ k, F2 k → F k ∨ w.heap.size ≤ k) ?hk (fun hk => ?dN)))))
 case hk =>
  rintro e' w2 ⟨F2, T2, rfl, gr, h2, am, ct⟩; have cP := hc.kp am ct; have cK := cP.t; obtain ⟨mN2, mC2, mO2, gv2, kn2, kc2, ko2, O2⟩ := h2.opn; refine qN rfl (qV ((by first | exact yld U24 rfl rfl cK rfl | exact yld U24 rfl rfl O2.blk rfl)) ?_); refine qV (ynk rfl) (qV (yfa fl74_7 rfl) (qV ((by first | exact yld U72 rfl rfl cK rfl | exact yld U72 rfl rfl O2.blk rfl)) ?_)); refine zqm rfl (rEffP rfl (zmuB (k := no) (K := KZ) U72 (ky_int U3) rfl rfl rfl O2.cm) ?_); rintro w3 ⟨fd, aw⟩
  have h3 := O2.setC w3 _ (updI T2.changed no true) fd aw (fun x => by
   rw [getL_put]; by_cases e : x = no
   ·subst e; simp [flag, updI]
   ·rw [if_neg e, O2.cg]; simp [updI, e])
  obtain ⟨T3, lI⟩ : ∃ X, X = ({ T2 with changed := updI T2.changed no true } : Tr) := ⟨_, rfl⟩; rw [← lI] at h3; have rE : T3.size = T.size := by rw [lI, gr]; rfl
  have bQ : Kp F2 w2 w3 := aw.mono' (fun k hk => by rw [hk]; exact O2.fp.2.2.1); have db : Kp F w w3 := am.trans_new bQ (fun i hi => (ct i hi).symm); have ul : T3.nodes no = some (leafNd (insE E k v)) := by rw [lI, gr]; exact updI_same _ _ _
  obtain ⟨mN3, mC3, mO3, gv3, kn3, kc3, ko3, O3⟩ := h3.opn; obtain ⟨q3, xg, ku, lJ, dg⟩ := h3.nodeF ul; obtain ⟨q3b, q3k, q3v, q3c⟩ := q3; dsimp only at xg; subst xg; have cT := ku.blk; dsimp only at cT; have o3 : PutC w3 F2 p k v bt bk bv bp := cP.kp bQ (fun i hi => .inl hi); have dK := o3.t; refine rEnd (run_seq (run_seq ?_)); have ax := Ext.drew0 w3; refine run_draw (fun w' => Ext w3 w') (by kernel_rfl) rfl (zqt 0 rfl (ymv rfl) ax (zqt 1 rfl (ynk rfl) ax (qT 2 rfl (fun _ hS => (by first | exact yldA U84 rfl ti84 rfl (Blk.cells (n := 4) (hS.blk cT) (news := [_, _, _, _]) rfl) rfl | exact yldA U84 rfl ti84 rfl (Blk.cells (n := 4) (hS.blk dK) (news := [_, _, _, _]) rfl) rfl | exact yldA U84 rfl ti84 rfl (Blk.cells (n := 4) (hS.blk O3.blk) (news := [_, _, _, _]) rfl) rfl)) ax ?_))); refine qT 4 rfl (fun _ h=>(by first | exact yld U24 rfl rfl (h.blk cT) rfl | exact yld U24 rfl rfl (h.blk dK) rfl | exact yld U24 rfl rfl (h.blk O3.blk) rfl)) ax ?_; refine zqt 5 rfl (ynk rfl) ax (zqt 6 rfl (yfa fl74_0 rfl) ax (qT 7 rfl (fun _ h=>(by first | exact yld U3 rfl rfl (h.blk cT) rfl | exact yld U3 rfl rfl (h.blk dK) rfl | exact yld U3 rfl rfl (h.blk O3.blk) rfl)) ax ?_)); refine zqo 3 [.tmp 79] rfl cf70 rfl (bytes_ret (leafNd (insE E k v)) q3k q3v q3c _ (ku.r.ext ax) ku.bd) ?_; rintro _ w4 ⟨rfl, aC⟩; refine ⟨ax.trans aC, ?_⟩; refine zqt 8 rfl (yle rfl rfl) (ax.trans aC) (qE ?_); have eL := ax.trans aC; have eI := am.size; have jK := bQ.size; have jq := eL.size; have vQ : Evo T { (T.setN no (leafNd (insE E k v))).mark no with count := T.count + if hasE E k then 0 else 1 } 0 := (Evo.set hg hn).cnt; have ij : T3 = { (T.setN no (leafNd (insE E k v))).mark no with count := T.count + if hasE E k then 0 else 1 } := by rw [lI, gr]; rfl
  rw [leafNd_bytes, rE]; refine run_if rfl (fun hb => ?_) (fun hb => ?_)
  ·refine qN rfl (zqa rfl (zqa rfl (rEnd (run_ret Tryz.func68 rfl (⟨_, rfl, T3, nb, F2, h3.ext eL, ⟨by rw [ij], by rw [ij]; exact vQ.mono (by omega), .inl ⟨rfl, ?_, fun _ m hm => ?_⟩⟩, db.trans (eL.kp), ct, fun _ _ _ => rfl⟩)))))
   ·rw [ij]; exact put_leaf1 hz hB cA hk f9 (by omega)
   ·rw [ul] at hm; cases hm; intro e; exact insE_ne E k v (by simpa [leafNd] using e)
  ·have rA : T.size < 3 + entB (insE E k v) := by omega
   obtain ⟨c1, c2, -⟩ := cut_ok hz sg rA (by omega)
   obtain ⟨no', gs, fA⟩ : ∃ a l, T.given = a :: l := by
    cases e : T.given with
    | nil =>
      rcases IC with h0 | h1
      ·subst h0; have e1 : insE [] k v = [(k, v)] := by unfold insE; simp
       rw [e1] at rA; simp [entB] at rA; unfold mostE at f9; omega
      ·rw [e] at h1; simp at h1
    | cons a l => exact ⟨a, l, rfl⟩
   have DJ := nZ no' (by rw [fA]; simp); have dy := hg.free no' (by rw [fA]; simp); obtain ⟨f, hf⟩ : ∃ f : Nat, no' = (f : Int) := ⟨no'.toNat, by omega⟩; subst hf; have pJ : no ≠ (f : Int) := fun e => by rw [← e, hn] at dy; cases dy.1
   obtain ⟨up, eF, ik⟩ := put_leaf2 (v := v) hz hB cA hk f9 rA dy.1 (by omega); have eM : NdM w4 (leafNd (insE E k v)) ⟨nb no, q3k, q3v, q3c⟩ := ku.kp eL (fun _ _ => id); have rP := cut_ret eM c1 c2; dsimp only at rP; refine run_skip (qN rfl (zqm rfl (zqc [.tmp 86] cf71 rfl (rP) ?_))); rintro _ w5 ⟨kv2, vv2, q5, rfl, lK, zi, dS, tk, Gm, fB, ok5, ov5, okk5, ovv5⟩; have jf : ∀ i, F2 i → i < w4.heap.size := (h3.ext eL).lt
   obtain ⟨F5, h5, jr⟩ := dg w5 _ q5 lK dS ((eL.kp).trans (fB.mono' (fun i hi => .inl hi))) (fun i hi => by
    rcases hi with e | e | e | e
    ·exact .inl (.inl (by rw [e, lK]))
    ·exact .inr (fun hh => by have := ok5 i e; have := jf i hh; omega)
    ·exact .inr (fun hh => by have := ov5 i e; have := jf i hh; omega)
    ·exact .inl (.inr (.inr (.inr (by rw [zi] at e; exact e)))))
   obtain ⟨T5, me⟩ : ∃ X, X = T3.setN no (leafNd ((insE E k v).take (halfOf (sizes (insE E k v))))) := ⟨_, rfl⟩; rw [← me] at h5; have kW := fB.size; have kw := h5.lt; refine rValP rfl rfl (pal (cs := [_, _, _, _]) ti84 rfl) ?_; rintro _ w6 ⟨b6, rfl, rI, aO, bD⟩; have nS := aO.size; refine rEffP rfl (zstA (news := [.bool true, kv2, vv2, .slice none 0 0]) ti84 rfl rfl (by simp only [List.all_cons, List.all_nil, oneV_sl tk, oneV_sl Gm, Bool.and_true]; rfl) rfl bD (by simp)) ?_; rintro w7 ⟨dH, dW⟩; have kV := dW.size; have aU : Ext w5 w7 := aO.trans_new dW (fun i hi => by omega); have rj : Blk w7 b6 [.bool true, kv2, vv2, .slice none 0 0] 84 := dH; have h7 := h5.ext aU; have dI : Kp F2 w3 w5 := (eL.kp).trans (fB.mono' (fun i hi => by rw [hi]; exact (lJ _ (.inl rfl)).1)); have jT : Kp F w w5 := db.trans_new dI (fun i hi => (ct i hi).symm); have gd : Kp F w w7 := jT.trans aU.kp
   have dV : ∀ i, F5 i → F i ∨ w.heap.size ≤ i := fun i hi => by
    rcases jr i hi with e | e
    ·exact ct i e
    ·rcases e with e | e | e | e
     ·exact ct i (by rw [e, lK]; exact (lJ _ (.inl rfl)).1)
     ·exact .inr (by have := ok5 i e; omega)
     ·exact .inr (by have := ov5 i e; omega)
     ·exact ct i (lJ i (.inr (.inr (.inr (by rw [zi] at e; exact e))))).1
   have mg : ∀ i, kv2.ownBlock = some i → ¬ F5 i := fun i hi hh => by
    obtain ⟨a1, a2, -⟩ := okk5 i hi; rcases jr i hh with e | e
    ·have := jf i e; omega
    ·exact a2 e
   have zj : ∀ i, vv2.ownBlock = some i → ¬ F5 i := fun i hi hh => by
    obtain ⟨a1, a2⟩ := ovv5 i hi; rcases jr i hh with e | e
    ·have := jf i e; omega
    ·exact a2 e
   have jt := hc.kp gd dV; have eU := jt.t; have vR : ¬ F5 b6 := fun hh => by have := kw b6 hh; omega
   have m6 : 1 ≤ ((insE E k v).drop (halfOf (sizes (insE E k v)))).length := by rw [List.length_drop]; omega
   obtain ⟨gk5, ck5, rfl⟩ := some_of tk (by omega)
   have DK : (((insE E k v).drop (halfOf (sizes (insE E k v)))).map (·.1))[0]? = some up := by
    rw [List.getElem?_map, List.getElem?_drop, Nat.add_zero]; exact eF
   have DL : EsOk T.size ((insE E k v).drop (halfOf (sizes (insE E k v)))) := sg.sub (List.drop_sublist _ _); have FY := entB_take_drop (insE E k v) (halfOf (sizes (insE E k v)))
   have hP : NdP w7 (leafNd ((insE E k v).drop (halfOf (sizes (insE E k v))))) (.slice (some ⟨gk5, 0, none⟩) ((insE E k v).drop (halfOf (sizes (insE E k v)))).length ck5) vv2 (.slice none 0 0) := by
    refine ⟨?_, ?_, ?_, leaf_bd hz DL (by omega), fun g hg => ⟨?_, by simp [Value.ownBlock]⟩, fun g hg => by simp [Value.ownBlock]⟩
    ·have e : (leafNd ((insE E k v).drop (halfOf (sizes (insE E k v))))).keys.length = ((insE E k v).drop (halfOf (sizes (insE E k v)))).length := by simp [leafNd]
     rw [e]; exact tk.ext aU
    ·have e : (leafNd ((insE E k v).drop (halfOf (sizes (insE E k v))))).vals.length = ((insE E k v).drop (halfOf (sizes (insE E k v)))).length := by simp [leafNd]
     rw [e]; exact Gm.ext aU
    ·exact Sl.nil _ _ _
    ·exact (okk5 g hg).2.2
   refine rEnd (run_seq ?_); have gx := Ext.drew0 w7; have vS : T5.given = (f : Int) :: gs := by rw [me, lI, gr]; exact fA
   have vT : T5.nodes (f : Int) = none := by rw [me, lI, gr]; show updI (updI T.nodes no _) no _ (f : Int) = none; rw [updI_ne (Ne.symm pJ), updI_ne (Ne.symm pJ)]; exact dy.1
   have KA := (tk.ext aU).rd; have DM : ¬ F5 gk5 := mg gk5 rfl
   have DN : ∀ i, ownP (.slice (some ⟨gk5, 0, none⟩) ((insE E k v).drop (halfOf (sizes (insE E k v)))).length ck5) vv2 (.slice none 0 0) i → ¬ F5 i := fun i hi => by
    rcases hi with e | e | e
    ·exact mg i e
    ·exact zj i e
    ·simp [Value.ownBlock] at e
   have jg := fresh_ret (h7.ext gx) vS (by rw [fA] at de; simp at de; omega) (hP.kp gx.kp (fun _ _ => id)) DN vT; rw [show (leafNd ((insE E k v).drop (halfOf (sizes (insE E k v))))).leaf = true from rfl] at jg; refine run_draw (fun w' => Kp F5 w7 w') (by kernel_rfl) rfl (zqt 0 rfl (yfa fl84_1 rfl) (gx.kp) (qT 1 rfl (fun _ h=>(by first | exact yld U23 rfl rfl (h.blk rj vR) rfl | exact yld U23 rfl rfl (h.blk eU jt.n.1) rfl)) (gx.kp) ?_)); refine zqt 2 rfl (yis U23 ti9 rfl rfl (by omega)) (gx.kp) (qT 4 rfl (fun _ h=>(by first | exact yld U24 rfl rfl (h.blk rj vR) rfl | exact yld U24 rfl rfl (h.blk eU jt.n.1) rfl)) (gx.kp) ?_); refine qT 5 rfl (fun _ hS => (by first | exact yldA U84 rfl ti84 rfl (Blk.cells (n := 4) (hS.blk rj vR) (news := [_, _, _, _]) rfl) rfl | exact yldA U84 rfl ti84 rfl (Blk.cells (n := 4) (hS.blk eU jt.n.1) (news := [_, _, _, _]) rfl) rfl)) (gx.kp) ?_; refine qT 3 rfl (fun _ hS => yldc U9 rfl rfl (rd_str ((tk.ext aU).kp hS (fun g hg => by cases hg; exact DM)).rd (by omega) DK)) (gx.kp) ?_; refine zqo 6 [.tmp 92, .tmp 93] rfl cf67 rfl (jg) ?_; rintro _ w8 ⟨rfl, b8, F8, h8, ni, yF⟩; refine ⟨gx.kp.trans ni, ?_⟩; refine zqt 7 rfl (yas rfl) (gx.kp.trans ni) (zqt 8 rfl (yas rfl) (gx.kp.trans ni) (qE (Run.qb (e := [(0, _), (1, _), (2, _), (4, _), (6, _), (7, _), (8, _)]) ?_))); refine run_ret Tryz.func68 rfl ?_; have IG := gx.size
   have DO : (({ T5 with given := gs } : Tr).setN (f : Int) (leafNd ((insE E k v).drop (halfOf (sizes (insE E k v)))))).mark (f : Int) = { (((({ (T.setN no (leafNd ((insE E k v).take (halfOf (sizes (insE E k v)))))).mark no with given := gs } : Tr).setN (f : Int) (leafNd ((insE E k v).drop (halfOf (sizes (insE E k v)))))).mark (f : Int))) with count := T.count + if hasE E k then 0 else 1 } := by
    rw [me, ij]
    have e5 : ∀ (a b : Nd), updI (updI T.nodes no (some b)) no (some a) = updI T.nodes no (some a) := fun a b => by
     funext x; unfold updI; split <;> rfl
    show ({ T with count := _, nodes := updI (updI (updI T.nodes no _) no _) _ _, given := gs, changed := _ } : Tr) = { T with count := _, nodes := updI (updI T.nodes no _) _ _, given := gs, changed := _ }; rw [e5]
    rfl
   rw [DO] at h8; refine ⟨_, rfl, _, _, F8, h8, ⟨rfl, ?_, .inr ⟨up, f, rfl, ik⟩⟩, ?_, fun i hi => ?_, fun x hx _ => updI_ne (fun e => hx (by rw [e]; exact dy.1))⟩
   ·have e1 : Evo T ((T.setN no (leafNd ((insE E k v).take (halfOf (sizes (insE E k v)))))).mark no) 0 := Evo.set hg hn; have e2 := Evo.fresh (n := leafNd ((insE E k v).drop (halfOf (sizes (insE E k v))))) e1.srt (show _ = (f : Int) :: gs from fA); exact (e1.trans e2).cnt (c := T.count + if hasE E k then 0 else 1)
   ·exact (gd.trans gx.kp).trans_new ni (fun i hi => (dV i hi).symm)
   ·rcases yF i hi with e | e | e
    ·exact dV i e
    ·exact .inr (by omega)
    ·rcases e with e | e | e
     ·exact .inr (by have := (okk5 i e).1; omega)
     ·exact .inr (by have := (ovv5 i e).1; omega)
     ·simp [Value.ownBlock] at e
 case dN =>
  refine run_cond rfl (fun hf => ?_) (fun hf => ?_)
  ·have bo : hasE E k := of_decide_eq_true hf; have af := hasE_lt bo; obtain ⟨gv0, cv0, rfl⟩ := some_of hV (by omega); have vU : nb no ≠ gv0 := fun e => cU.2.1 (by rw [e]; rfl); have Gn : F gv0 := (fj _ (.inr (.inr (.inl rfl)))).1; have zl : bv ≠ gv0 := fun e => nv (by rw [e]; exact Gn); refine run_draw (fun w' => Kp (fun g => g = gv0) w w') (by kernel_rfl) rfl (zqt 0 rfl (ymv rfl) (a7.kp.trans ((Ext.drew0 _).kp)) (zqt 1 rfl (ynk rfl) (a7.kp.trans ((Ext.drew0 _).kp)) (zqt 2 rfl (yfa fl84_2 rfl) (a7.kp.trans ((Ext.drew0 _).kp)) (qT 3 rfl (fun _ h=>(by first | exact yld U23 rfl rfl (h.blk ar vU) rfl | exact yld U23 rfl rfl (h.blk lH zl) rfl)) (a7.kp.trans ((Ext.drew0 _).kp)) ?_)))); refine zqt 4 rfl (ymv rfl) (a7.kp.trans ((Ext.drew0 _).kp)) (qT 5 rfl (fun _ h=>(by first | exact yld U9 rfl rfl (h.blk ar vU) rfl | exact yld U9 rfl rfl (h.blk lH zl) rfl)) (a7.kp.trans ((Ext.drew0 _).kp)) ?_); refine zqt 6 rfl (yis U23 ti9 rfl rfl (by omega)) (a7.kp.trans ((Ext.drew0 _).kp)) (qO 7 (nEffP (i := 7) rfl rfl (zstSl ti9 rfl rfl rfl (hV.ext (a7.trans (Ext.drew0 _))) (by simpa [leafNd] using af)) ?_)); rintro w3 ⟨bs, aw⟩; refine ⟨((a7.trans (Ext.drew0 _)).kp).trans aw, ?_⟩; refine qE ?_; have db : Kp (fun g => g = gv0) w w3 := ((a7.trans (Ext.drew0 _)).kp).trans aw; have fQ := insE_keys (v := v) bo; have zm := insE_vals (v := v) bo
   obtain ⟨iS, dM⟩ := hM.re (w' := w3) (n' := leafNd (insE E k v)) (kv' := qk) (vv' := .slice (some ⟨gv0, 0, none⟩) E.length cv0) (cv' := qc) (db.blk ar vU) (by
     have e : (leafNd (insE E k v)).keys = (leafNd E).keys := fQ; rw [e]
     exact hM.keys.kp db (fun g hg e => (di g hg).1 (by rw [e]; rfl))) (by
     have e : (leafNd (insE E k v)).vals = (leafNd E).vals.set (posE E k) v := zm; rw [e, List.length_set, ei, List.map_set]; rw [Nat.zero_add, Nat.mul_one] at bs
     exact bs) (hC.kp db (fun g hg e => nf gv0 rfl (by rw [← e]; exact hg))) n8 (fun g hg => .inl hg) (fun g hg => .inl hg) (fun g hg => .inl hg) (fun g hg => ⟨fun e => absurd (hM.lt g (.inr (.inl e))) (by omega), fun e => absurd (hM.lt g (.inr (.inr (.inl e)))) (by omega)⟩)
   obtain ⟨F', h', iC⟩ := cM w3 _ _ rfl iS (db.mono' (fun g hg => .inr (.inr (.inl (by rw [hg]; rfl))))) (fun g hg => (dM g hg).imp id (fun e hh => by have := fi g hh; omega)); have pK : (T.count + if hasE E k then 0 else 1) = T.count := by rw [if_pos bo]; omega
   refine (hk _ _ ⟨F', _, rfl, rfl, ?_, db.mono' (fun g hg => by rw [hg]; exact Gn), fun g hg => ?_⟩).qb
   ·rw [pK]; exact h'
   ·rcases iC g hg with e | e
    ·exact .inl e
    ·rcases dM g e with e | e
     ·exact .inl (fj g e).1
     ·exact .inr e
  ·have bo : ¬ hasE E k := of_decide_eq_false hf; have k6 := insE_new (v := v) bo; refine run_seq ?_; obtain ⟨Q, hQ⟩ : ∃ Q : Nat → Prop, Q = fun g => qk.ownBlock = some g ∨ qv.ownBlock = some g := ⟨_, rfl⟩
   have dB : ∀ g, Q g → F g := fun g hg => by
    rw [hQ] at hg; exact (fj g (hg.elim (fun e => .inr (.inl e)) (fun e => .inr (.inr (.inl e))))).1
   have eu : ¬ Q (nb no) := fun e => by
    rw [hQ] at e; exact e.elim cU.1 cU.2.1
   have aX : ∀ g, qk.ownBlock = some g → Q g := fun g hg => by rw [hQ]; exact .inl hg
   have da : ∀ g, qv.ownBlock = some g → Q g := fun g hg => by rw [hQ]; exact .inr hg
   have dF : ∀ g, Q g → g < w.heap.size := fun g hg => fi g (dB g hg); refine run_cut (fun e' w2 => ∃ kv' vv', e' = [(0, I no), (1, ptr bt 0), (2, ptr bk 0), (4, ptr bp 0), (6, S []), (7, I 0), (8, ptr (nb no) 0)] ∧ NdM w2 (leafNd (insE E k v)) ⟨nb no, kv', vv', qc⟩ ∧ (∀ g, Pl.fp ⟨nb no, kv', vv', qc⟩ g → Pl.fp ⟨nb no, qk, qv, qc⟩ g ∨ w.heap.size ≤ g) ∧ Kp (Pl.fp ⟨nb no, qk, qv, qc⟩) w w2) ?fg (fun fg => ?jc)
   case fg =>
    rintro e' w2 ⟨kv', vv', rfl, cu, dM, am⟩; obtain ⟨F', h', iC⟩ := cM w2 _ ⟨nb no, kv', vv', qc⟩ rfl cu am (fun g hg => (dM g hg).imp id (fun e hh => by have := fi g hh; omega))
    have ct : ∀ g, F' g → F g ∨ w.heap.size ≤ g := fun g hg => by
     rcases iC g hg with e | e
     ·exact .inl e
     ·exact (dM g e).imp (fun e => (fj g e).1) id
    have pL : Kp F w w2 := am.mono' (fun g hg => (fj g hg).1); have cP := hc.kp pL ct; have cK := cP.t; obtain ⟨mN2, mC2, mO2, gv2, kn2, kc2, ko2, O2⟩ := h'.opn; have ak := O2.blk; have xo : (T.setN no (leafNd (insE E k v))).count = T.count := rfl; refine run_reg rfl (qV ((by first | exact yld U24 rfl rfl cK rfl | exact yld U24 rfl rfl ak rfl)) ?_); refine qV (ynk rfl) (qV (yfa fl74_4 rfl) (qV ((by first | exact yld U3 rfl rfl cK rfl | exact yld U3 rfl rfl ak rfl)) ?_)); refine zqd rfl rfl (qV (ynk rfl) (qV (yfa fl74_4 rfl) (rEffP rfl (zst ti3 rfl rfl rfl ak (by simp [trCs])) ?_))); rintro w3 ⟨aG, aw⟩; refine rEnd ?_; have h3 := O2.setB w3 T.root (T.count + 1) (by simpa [trCs, Tr.setN] using aG) aw; have pK : (T.count + if hasE E k then 0 else 1) = T.count + 1 := by rw [if_neg bo]
    refine (hk _ _ ⟨F', _, rfl, rfl, ?_, pL.trans_new aw (fun i hi => by rw [hi]; exact (ct _ O2.fp.1).symm), ct⟩).qb; rw [pK]; exact h3
   case jc =>
    have cy : ∀ {l : List Bytes}, ∀ c' ∈ l.map S, c'.oneCell' = true := fun c' hc => by obtain ⟨z, -, rfl⟩ := List.mem_map.1 hc; rfl
    have ew := a7.trans (Ext.drew0 w.drew); have ad : Kp Q w w.drew.drew := ew.kp; have eV := hK.ext ew; have gN := hV.ext ew; have bR := ew.size; refine run_drawL [20,23] (fun w' => Kp Q w w') (by kernel_rfl) rfl (qL [18, 19, 20, 21, 22, 23] 0 rfl (fun _ h=>ymv rfl) ad (hTakeU (i := 1) rfl (by kernel_rfl) rfl rfl (fun _ => ymv rfl) (ad) (qL [3, 4, 5, 9, 17, 18, 19, 20, 21, 22, 23] 2 rfl (fun _ h=>ymv rfl) ad (qL [4, 5, 9, 17, 18, 19, 20, 21, 22, 23] 3 rfl (fun _ h=>ynk rfl) ad (qL [5, 9, 17, 18, 19, 20, 21, 22, 23] 4 rfl (fun _ h=>yfa fl84_1 rfl) ad (qL [9, 17, 18, 19, 20, 21, 22, 23] 5 rfl (fun _ hS => (by first | exact yld U23 rfl rfl (hS.blk ar eu) rfl | exact yld U23 rfl rfl (hS.blk fb (fun e => nk (dB _ e))) rfl | exact yld U23 rfl rfl (hS.blk lH (fun e => nv (dB _ e))) rfl)) ad ?_)))))); refine qL [9, 17, 18, 19, 20, 21, 22, 23] 6 rfl (fun _ h=>ymv rfl) ad (qL [8, 9, 17, 18, 19, 20, 21, 22, 23] 7 rfl (fun _ hS => (by first | exact yld U9 rfl rfl (hS.blk ar eu) rfl | exact yld U9 rfl rfl (hS.blk fb (fun e => nk (dB _ e))) rfl | exact yld U9 rfl rfl (hS.blk lH (fun e => nv (dB _ e))) rfl)) ad ?_); refine qL [11, 12, 13, 17, 18, 19, 20, 21, 22, 23] 10 rfl (fun _ h=>ymv rfl) ad (qL [12, 13, 17, 18, 19, 20, 21, 22, 23] 11 rfl (fun _ h=>ynk rfl) ad (qL [13, 17, 18, 19, 20, 21, 22, 23] 12 rfl (fun _ h=>yfa fl84_2 rfl) ad (qL [17, 18, 19, 20, 21, 22, 23] 13 rfl (fun _ hS => (by first | exact yld U23 rfl rfl (hS.blk ar eu) rfl | exact yld U23 rfl rfl (hS.blk fb (fun e => nk (dB _ e))) rfl | exact yld U23 rfl rfl (hS.blk lH (fun e => nv (dB _ e))) rfl)) ad ?_))); refine qL [17, 18, 19, 20, 21, 22, 23] 14 rfl (fun _ h=>ymv rfl) ad (qL [16, 17, 18, 19, 20, 21, 22, 23] 15 rfl (fun _ hS => (by first | exact yld U9 rfl rfl (hS.blk ar eu) rfl | exact yld U9 rfl rfl (hS.blk fb (fun e => nk (dB _ e))) rfl | exact yld U9 rfl rfl (hS.blk lH (fun e => nv (dB _ e))) rfl)) ad ?_); refine hTwoL (i := 8) (j := 16) (by kernel_rfl) ?_ ?_
    ·refine nValPL (i := 8) rfl rfl rfl (pbs (parts := [(0, .tmp 50)]) (cs := [_]) (zs := [Value.string ⟨#[]⟩]) U23 ti9 rfl (by kernel_rfl) rfl rfl rfl (by decide)) ?_; rintro _ w8 ⟨b8, rfl, ⟨BT, au, d8⟩, dO⟩; refine ⟨ad.trans au.kp, ?_⟩; have ad := ad.trans (au.kp (S := Q)); have eV := eV.ext au; have gN := gN.ext au
     try have dc := dc.ext au
     have BU : w.heap.size ≤ b8 := by omega
     have bR := Nat.le_trans bR au.size; refine hTwoL (i := 9) (j := 16) (by kernel_rfl) ?_ ?_
     ·refine nCallL (i := 9) rfl rfl rfl (yc (args := [.tmp 48, .tmp 49, .tmp 51]) cf69 rfl) (insS_ret (i := posE E k) eV dO rfl cy nh (by omega) (fun b hb e => by have e : b8 = b := oinj e; have := dF _ (aX _ hb); omega)) ?_; rintro kv9 w9 ⟨bJ, aB, cj⟩; refine ⟨ad.trans (aB.mono' aX), ?_⟩; have ad := ad.trans (aB.mono' aX); have gN := gN.kp aB (fun g hg e => (di g e).1 hg)
      try have dc := dc.kp aB (fun g hg e => by have e' : b16 = g := oinj hg; have := dF _ (aX _ e); omega)
      have cj : ∀ g, kv9.ownBlock = some g → qk.ownBlock = some g ∨ w.heap.size ≤ g := fun g hg => (cj g hg).imp id (fun e => Nat.le_trans bR e); have bR := Nat.le_trans bR aB.size; refine hOneL (i := 16) (by kernel_rfl) (nValPL (i := 16) rfl rfl rfl (pbs (parts := [(0, .tmp 58)]) (cs := [_]) (zs := [Value.string ⟨#[]⟩]) U23 ti9 rfl (by kernel_rfl) rfl rfl rfl (by decide)) ?_); rintro _ w16 ⟨b16, rfl, ⟨lu, aj, cH⟩, dc⟩; refine ⟨ad.trans aj.kp, ?_⟩; have ad := ad.trans (aj.kp (S := Q))
      try have eV := eV.ext aj
      have gN := gN.ext aj
      try have dO := dO.ext aj
      try have bJ := bJ.ext aj
      have zn : w.heap.size ≤ b16 := by omega
      have bR := Nat.le_trans bR aj.size; have lz := fun (g : Nat) (hg : kv9.ownBlock = some g) => bJ.lt hg; refine hOneL (i := 17) (by kernel_rfl) (nCallL (i := 17) rfl rfl rfl (yc (args := [.tmp 56, .tmp 57, .tmp 59]) cf69 rfl) (insS_ret (i := posE E k) gN dc rfl cy nh (by omega) (fun b hb e => by have e : b16 = b := oinj e; have := dF _ (da _ hb); omega)) ?_); rintro vv17 w17 ⟨dX, aT, cz⟩; refine ⟨ad.trans (aT.mono' da), ?_⟩; have ad := ad.trans (aT.mono' da); have bJ := bJ.kp aT (fun g hg e => (cj g hg).elim (fun e' => (di g e').1 e) (fun e' => by have := dF _ (da _ e); omega))
      have fk : ∀ g, w.heap.size ≤ g → kv9.ownBlock = some g → vv17.ownBlock ≠ some g := fun g hg h1 h2 => by
       rcases cz g h2 with e | e
       ·have := dF _ (da _ e); omega
       ·have := lz g h1; omega
      have cz : ∀ g, vv17.ownBlock = some g → qv.ownBlock = some g ∨ w.heap.size ≤ g := fun g hg => (cz g hg).imp id (fun e => Nat.le_trans bR e); refine qL [19, 20, 21, 22, 23] 18 rfl (fun _ h=>ynk rfl) ad (qL [20, 21, 22, 23] 19 rfl (fun _ h=>yfa fl84_1 rfl) ad (hLate [20] (by kernel_rfl) (by kernel_rfl) (qO 20 (nEffP (i := 20) rfl rfl (zst ti23 rfl rfl (oneV_sl bJ) (ad.blk ar eu) (by simp)) ?_)))); rintro w20 ⟨lL, il⟩; refine ⟨trivial, ?_⟩; refine zqt 21 rfl (ynk rfl) trivial (zqt 22 rfl (yfa fl84_2 rfl) trivial (qO 23 (nEffP (i := 23) rfl rfl (zst ti23 rfl rfl (oneV_sl dX) lL (by simp)) ?_))); rintro w23 ⟨lM, bQ⟩; refine ⟨trivial, ?_⟩; refine qE (Run.qb (e := [(0, _), (1, _), (2, _), (4, _), (6, _), (7, _), (8, _)]) ?_); have bq := il.trans bQ
      have m7 : ∀ g, kv9.ownBlock = some g → g ≠ nb no := fun g hg e => by
       rcases cj g hg with h | h
       ·rw [e] at h; exact cU.1 h
       ·have := ar.lt; omega
      have rk : ∀ g, vv17.ownBlock = some g → g ≠ nb no := fun g hg e => by
       rcases cz g hg with h | h
       ·rw [e] at h; exact cU.2.1 h
       ·have := ar.lt; omega
      obtain ⟨iS, dM⟩ := hM.re (w' := w23) (n' := leafNd (insE E k v)) (kv' := kv9) (vv' := vv17) (cv' := qc) lM (by
        have e : (leafNd (insE E k v)).keys = (leafNd E).keys.take (posE E k) ++ k :: (leafNd E).keys.drop (posE E k) := by rw [k6]; simp [leafNd]
        rw [e]; have := bJ.kp bq m7; simp only [List.map_append, List.map_cons, List.map_take, List.map_drop, List.length_append, List.length_cons, List.length_take, List.length_drop, cn]; rw [show min (posE E k) E.length + (E.length - posE E k + 1) = E.length + 1 by omega]
        exact this) (by
        have e : (leafNd (insE E k v)).vals = (leafNd E).vals.take (posE E k) ++ v :: (leafNd E).vals.drop (posE E k) := by rw [k6]; simp [leafNd]
        rw [e]; have := dX.kp bq rk; simp only [List.map_append, List.map_cons, List.map_take, List.map_drop, List.length_append, List.length_cons, List.length_take, List.length_drop, ei]; rw [show min (posE E k) E.length + (E.length - posE E k + 1) = E.length + 1 by omega]
        exact this) (by
        have e : (leafNd (insE E k v)).kids = (leafNd E).kids := rfl; rw [e]
        exact (hC.kp ad (fun g hg e => by
         rw [hQ] at e; rcases e with e | e
         ·exact (di g e).2 hg
         ·exact nf g e hg)).kp bq (fun g hg e => cU.2.2 (by rw [← e]; exact hg))) n8 cj cz (fun g hg => .inl hg) (fun g hg => ⟨fun e => ⟨fk g hg e, fun e' => by have := hC.lt e'; omega⟩, fun e e' => by have := hC.lt e'; omega⟩)
      refine (fg _ _ ⟨kv9, vv17, rfl, iS, dM, (ad.mono' (fun g hg => ?_)).trans (bq.mono' (fun g hg => .inl hg))⟩).qb; rw [hQ] at hg; exact hg.elim (fun e => .inr (.inl e)) (fun e => .inr (.inr (.inl e)))
     ·refine nValPL (i := 16) rfl rfl rfl (pbs (parts := [(0, .tmp 58)]) (cs := [_]) (zs := [Value.string ⟨#[]⟩]) U23 ti9 rfl (by kernel_rfl) rfl rfl rfl (by decide)) ?_; rintro _ w16 ⟨b16, rfl, ⟨lu, aj, cH⟩, dc⟩; refine ⟨ad.trans aj.kp, ?_⟩; have ad := ad.trans (aj.kp (S := Q))
      try have eV := eV.ext aj
      have gN := gN.ext aj
      try have dO := dO.ext aj
      try have bJ := bJ.ext aj
      have zn : w.heap.size ≤ b16 := by omega
      have bR := Nat.le_trans bR aj.size; refine hOneL (i := 9) (by kernel_rfl) (nCallL (i := 9) rfl rfl rfl (yc (args := [.tmp 48, .tmp 49, .tmp 51]) cf69 rfl) (insS_ret (i := posE E k) eV dO rfl cy nh (by omega) (fun b hb e => by have e : b8 = b := oinj e; have := dF _ (aX _ hb); omega)) ?_); rintro kv9 w9 ⟨bJ, aB, cj⟩; refine ⟨ad.trans (aB.mono' aX), ?_⟩; have ad := ad.trans (aB.mono' aX); have gN := gN.kp aB (fun g hg e => (di g e).1 hg)
      try have dc := dc.kp aB (fun g hg e => by have e' : b16 = g := oinj hg; have := dF _ (aX _ e); omega)
      have cj : ∀ g, kv9.ownBlock = some g → qk.ownBlock = some g ∨ w.heap.size ≤ g := fun g hg => (cj g hg).imp id (fun e => Nat.le_trans bR e); have bR := Nat.le_trans bR aB.size; have lz := fun (g : Nat) (hg : kv9.ownBlock = some g) => bJ.lt hg; refine hOneL (i := 17) (by kernel_rfl) (nCallL (i := 17) rfl rfl rfl (yc (args := [.tmp 56, .tmp 57, .tmp 59]) cf69 rfl) (insS_ret (i := posE E k) gN dc rfl cy nh (by omega) (fun b hb e => by have e : b16 = b := oinj e; have := dF _ (da _ hb); omega)) ?_); rintro vv17 w17 ⟨dX, aT, cz⟩; refine ⟨ad.trans (aT.mono' da), ?_⟩; have ad := ad.trans (aT.mono' da); have bJ := bJ.kp aT (fun g hg e => (cj g hg).elim (fun e' => (di g e').1 e) (fun e' => by have := dF _ (da _ e); omega))
      have fk : ∀ g, w.heap.size ≤ g → kv9.ownBlock = some g → vv17.ownBlock ≠ some g := fun g hg h1 h2 => by
       rcases cz g h2 with e | e
       ·have := dF _ (da _ e); omega
       ·have := lz g h1; omega
      have cz : ∀ g, vv17.ownBlock = some g → qv.ownBlock = some g ∨ w.heap.size ≤ g := fun g hg => (cz g hg).imp id (fun e => Nat.le_trans bR e); refine qL [19, 20, 21, 22, 23] 18 rfl (fun _ h=>ynk rfl) ad (qL [20, 21, 22, 23] 19 rfl (fun _ h=>yfa fl84_1 rfl) ad (hLate [20] (by kernel_rfl) (by kernel_rfl) (qO 20 (nEffP (i := 20) rfl rfl (zst ti23 rfl rfl (oneV_sl bJ) (ad.blk ar eu) (by simp)) ?_)))); rintro w20 ⟨lL, il⟩; refine ⟨trivial, ?_⟩; refine zqt 21 rfl (ynk rfl) trivial (zqt 22 rfl (yfa fl84_2 rfl) trivial (qO 23 (nEffP (i := 23) rfl rfl (zst ti23 rfl rfl (oneV_sl dX) lL (by simp)) ?_))); rintro w23 ⟨lM, bQ⟩; refine ⟨trivial, ?_⟩; refine qE (Run.qb (e := [(0, _), (1, _), (2, _), (4, _), (6, _), (7, _), (8, _)]) ?_); have bq := il.trans bQ
      have m7 : ∀ g, kv9.ownBlock = some g → g ≠ nb no := fun g hg e => by
       rcases cj g hg with h | h
       ·rw [e] at h; exact cU.1 h
       ·have := ar.lt; omega
      have rk : ∀ g, vv17.ownBlock = some g → g ≠ nb no := fun g hg e => by
       rcases cz g hg with h | h
       ·rw [e] at h; exact cU.2.1 h
       ·have := ar.lt; omega
      obtain ⟨iS, dM⟩ := hM.re (w' := w23) (n' := leafNd (insE E k v)) (kv' := kv9) (vv' := vv17) (cv' := qc) lM (by
        have e : (leafNd (insE E k v)).keys = (leafNd E).keys.take (posE E k) ++ k :: (leafNd E).keys.drop (posE E k) := by rw [k6]; simp [leafNd]
        rw [e]; have := bJ.kp bq m7; simp only [List.map_append, List.map_cons, List.map_take, List.map_drop, List.length_append, List.length_cons, List.length_take, List.length_drop, cn]; rw [show min (posE E k) E.length + (E.length - posE E k + 1) = E.length + 1 by omega]
        exact this) (by
        have e : (leafNd (insE E k v)).vals = (leafNd E).vals.take (posE E k) ++ v :: (leafNd E).vals.drop (posE E k) := by rw [k6]; simp [leafNd]
        rw [e]; have := dX.kp bq rk; simp only [List.map_append, List.map_cons, List.map_take, List.map_drop, List.length_append, List.length_cons, List.length_take, List.length_drop, ei]; rw [show min (posE E k) E.length + (E.length - posE E k + 1) = E.length + 1 by omega]
        exact this) (by
        have e : (leafNd (insE E k v)).kids = (leafNd E).kids := rfl; rw [e]
        exact (hC.kp ad (fun g hg e => by
         rw [hQ] at e; rcases e with e | e
         ·exact (di g e).2 hg
         ·exact nf g e hg)).kp bq (fun g hg e => cU.2.2 (by rw [← e]; exact hg))) n8 cj cz (fun g hg => .inl hg) (fun g hg => ⟨fun e => ⟨fk g hg e, fun e' => by have := hC.lt e'; omega⟩, fun e e' => by have := hC.lt e'; omega⟩)
      refine (fg _ _ ⟨kv9, vv17, rfl, iS, dM, (ad.mono' (fun g hg => ?_)).trans (bq.mono' (fun g hg => .inl hg))⟩).qb; rw [hQ] at hg; exact hg.elim (fun e => .inr (.inl e)) (fun e => .inr (.inr (.inl e)))
    ·refine nValPL (i := 16) rfl rfl rfl (pbs (parts := [(0, .tmp 58)]) (cs := [_]) (zs := [Value.string ⟨#[]⟩]) U23 ti9 rfl (by kernel_rfl) rfl rfl rfl (by decide)) ?_; rintro _ w16 ⟨b16, rfl, ⟨lu, aj, cH⟩, dc⟩; refine ⟨ad.trans aj.kp, ?_⟩; have ad := ad.trans (aj.kp (S := Q))
     try have eV := eV.ext aj
     have gN := gN.ext aj
     try have dO := dO.ext aj
     try have bJ := bJ.ext aj
     have zn : w.heap.size ≤ b16 := by omega
     have bR := Nat.le_trans bR aj.size; refine hOneL (i := 8) (by kernel_rfl) (nValPL (i := 8) rfl rfl rfl (pbs (parts := [(0, .tmp 50)]) (cs := [_]) (zs := [Value.string ⟨#[]⟩]) U23 ti9 rfl (by kernel_rfl) rfl rfl rfl (by decide)) ?_); rintro _ w8 ⟨b8, rfl, ⟨BT, au, d8⟩, dO⟩; refine ⟨ad.trans au.kp, ?_⟩; have ad := ad.trans (au.kp (S := Q)); have eV := eV.ext au; have gN := gN.ext au
     try have dc := dc.ext au
     have BU : w.heap.size ≤ b8 := by omega
     have bR := Nat.le_trans bR au.size; refine hOneL (i := 9) (by kernel_rfl) (nCallL (i := 9) rfl rfl rfl (yc (args := [.tmp 48, .tmp 49, .tmp 51]) cf69 rfl) (insS_ret (i := posE E k) eV dO rfl cy nh (by omega) (fun b hb e => by have e : b8 = b := oinj e; have := dF _ (aX _ hb); omega)) ?_); rintro kv9 w9 ⟨bJ, aB, cj⟩; refine ⟨ad.trans (aB.mono' aX), ?_⟩; have ad := ad.trans (aB.mono' aX); have gN := gN.kp aB (fun g hg e => (di g e).1 hg)
     try have dc := dc.kp aB (fun g hg e => by have e' : b16 = g := oinj hg; have := dF _ (aX _ e); omega)
     have cj : ∀ g, kv9.ownBlock = some g → qk.ownBlock = some g ∨ w.heap.size ≤ g := fun g hg => (cj g hg).imp id (fun e => Nat.le_trans bR e); have bR := Nat.le_trans bR aB.size; have lz := fun (g : Nat) (hg : kv9.ownBlock = some g) => bJ.lt hg; refine hOneL (i := 17) (by kernel_rfl) (nCallL (i := 17) rfl rfl rfl (yc (args := [.tmp 56, .tmp 57, .tmp 59]) cf69 rfl) (insS_ret (i := posE E k) gN dc rfl cy nh (by omega) (fun b hb e => by have e : b16 = b := oinj e; have := dF _ (da _ hb); omega)) ?_); rintro vv17 w17 ⟨dX, aT, cz⟩; refine ⟨ad.trans (aT.mono' da), ?_⟩; have ad := ad.trans (aT.mono' da); have bJ := bJ.kp aT (fun g hg e => (cj g hg).elim (fun e' => (di g e').1 e) (fun e' => by have := dF _ (da _ e); omega))
     have fk : ∀ g, w.heap.size ≤ g → kv9.ownBlock = some g → vv17.ownBlock ≠ some g := fun g hg h1 h2 => by
      rcases cz g h2 with e | e
      ·have := dF _ (da _ e); omega
      ·have := lz g h1; omega
     have cz : ∀ g, vv17.ownBlock = some g → qv.ownBlock = some g ∨ w.heap.size ≤ g := fun g hg => (cz g hg).imp id (fun e => Nat.le_trans bR e); refine qL [19, 20, 21, 22, 23] 18 rfl (fun _ h=>ynk rfl) ad (qL [20, 21, 22, 23] 19 rfl (fun _ h=>yfa fl84_1 rfl) ad (hLate [20] (by kernel_rfl) (by kernel_rfl) (qO 20 (nEffP (i := 20) rfl rfl (zst ti23 rfl rfl (oneV_sl bJ) (ad.blk ar eu) (by simp)) ?_)))); rintro w20 ⟨lL, il⟩; refine ⟨trivial, ?_⟩; refine zqt 21 rfl (ynk rfl) trivial (zqt 22 rfl (yfa fl84_2 rfl) trivial (qO 23 (nEffP (i := 23) rfl rfl (zst ti23 rfl rfl (oneV_sl dX) lL (by simp)) ?_))); rintro w23 ⟨lM, bQ⟩; refine ⟨trivial, ?_⟩; refine qE (Run.qb (e := [(0, _), (1, _), (2, _), (4, _), (6, _), (7, _), (8, _)]) ?_); have bq := il.trans bQ
     have m7 : ∀ g, kv9.ownBlock = some g → g ≠ nb no := fun g hg e => by
      rcases cj g hg with h | h
      ·rw [e] at h; exact cU.1 h
      ·have := ar.lt; omega
     have rk : ∀ g, vv17.ownBlock = some g → g ≠ nb no := fun g hg e => by
      rcases cz g hg with h | h
      ·rw [e] at h; exact cU.2.1 h
      ·have := ar.lt; omega
     obtain ⟨iS, dM⟩ := hM.re (w' := w23) (n' := leafNd (insE E k v)) (kv' := kv9) (vv' := vv17) (cv' := qc) lM (by
       have e : (leafNd (insE E k v)).keys = (leafNd E).keys.take (posE E k) ++ k :: (leafNd E).keys.drop (posE E k) := by rw [k6]; simp [leafNd]
       rw [e]; have := bJ.kp bq m7; simp only [List.map_append, List.map_cons, List.map_take, List.map_drop, List.length_append, List.length_cons, List.length_take, List.length_drop, cn]; rw [show min (posE E k) E.length + (E.length - posE E k + 1) = E.length + 1 by omega]
       exact this) (by
       have e : (leafNd (insE E k v)).vals = (leafNd E).vals.take (posE E k) ++ v :: (leafNd E).vals.drop (posE E k) := by rw [k6]; simp [leafNd]
       rw [e]; have := dX.kp bq rk; simp only [List.map_append, List.map_cons, List.map_take, List.map_drop, List.length_append, List.length_cons, List.length_take, List.length_drop, ei]; rw [show min (posE E k) E.length + (E.length - posE E k + 1) = E.length + 1 by omega]
       exact this) (by
       have e : (leafNd (insE E k v)).kids = (leafNd E).kids := rfl; rw [e]
       exact (hC.kp ad (fun g hg e => by
        rw [hQ] at e; rcases e with e | e
        ·exact (di g e).2 hg
        ·exact nf g e hg)).kp bq (fun g hg e => cU.2.2 (by rw [← e]; exact hg))) n8 cj cz (fun g hg => .inl hg) (fun g hg => ⟨fun e => ⟨fk g hg e, fun e' => by have := hC.lt e'; omega⟩, fun e e' => by have := hC.lt e'; omega⟩)
     refine (fg _ _ ⟨kv9, vv17, rfl, iS, dM, (ad.mono' (fun g hg => ?_)).trans (bq.mono' (fun g hg => .inl hg))⟩).qb; rw [hQ] at hg; exact hg.elim (fun e => .inr (.inl e)) (fun e => .inr (.inr (.inl e)))
end
def PutAt (p : Nat) (k v : Bytes) (bt bk bv bp : Nat) (H : Nat) : Prop := ∀ (w : World) (T : Tr) (nb : Int → Nat) (F : Nat → Prop) (no : Int) (lo : Bytes) (hi : Option Bytes) (ns : List Int) (es : Es),
 TreeA w p T nb F → PutC w F p k v bt bk bv bp → Bn T.size T.nodes H no lo hi ns es → ns.Nodup → inB lo hi k → keyOk k → 3 + k.length + v.length ≤ mostE T.size → GivS T → (∀ x ∈ T.given, 1 ≤ x ∧ x ≤ 2147483647) → (∀ x, T.nodes x ≠ none → 1 ≤ x ∧ x ≤ 2147483647) → H ≤ T.given.length → T.count ≤ 1000000000 → (∀ c ps, T.nodes no = some (innNd c ps) → ps ≠ []) →
 Ret Tryz.prog 68 [I no, ptr bt 0, ptr bk 0, ptr bv 0, ptr bp 0] w fun val w' => ∃ T' nb' F', TreeA w' p T' nb' F' ∧ PutPost T H no lo hi ns es k v val T' ∧ Kp F w w' ∧ (∀ i, F' i → F i ∨ w.heap.size ≤ i) ∧ ∀ x, T.nodes x ≠ none → x ∉ ns → nb' x = nb x
theorem putAt_leaf {p : Nat} {k v : Bytes} {bt bk bv bp : Nat} : PutAt p k v bt bk bv bp 1 := by
 intro w T nb F no lo hi ns es h hc hB bz cA hk f9 hg nZ rl aP fy aZ
 have hl := rise_len hg.rise nZ
 exact put_leaf_ret h hc hB cA hk f9 hg nZ (by omega) (.inr aP) fy
section
variable {w : World}
set_option maxHeartbeats 4000000 in
theorem putAt_inner {p : Nat} {k v : Bytes} {bt bk bv bp h0 : Nat} (ih : PutAt p k v bt bk bv bp (h0 + 1)) : PutAt p k v bt bk bv bp (h0 + 2) := by
 intro w T nb F no lo hi ns es h hc hB bz cA hk f9 hg nZ rl aP fy aZ
 have hz : sizeOk (T.size : Int) := size_ok h
 obtain ⟨z1, z2, -⟩ := id hz
 have BG : orderE T.size ≤ 1000 ∧ 8 ≤ orderE T.size := by unfold orderE; omega
 obtain ⟨c, ps, ns', hn, j9, dR, ce, mT, aR, a, lo', ab, nm, em, e1, e2, ha, ja, p8, p9, tl, bH, ib, jC, gp, cy, ik⟩ := inner_step hz hB bz cA
 obtain ⟨i, fV⟩ : ∃ i, wayI (ps.map (·.1)) k = i := ⟨_, rfl⟩
 rw [fV] at ha ik
 have nj : i ≤ ps.length := by have := wayI_le (ps.map (·.1)) k; rw [fV, List.length_map] at this; exact this
 have bo : hasE es k ↔ hasE em k := by rw [ib]; exact hasE_mid jC gp
 have p6 : insE es k v = e1 ++ (insE em k v ++ e2) := by rw [ib]; exact insE_mid jC gp
 obtain ⟨mN, mC, mO, gv, kn, kc, ko, O⟩ := h.opn
 obtain ⟨q, hq, hM, fj, -⟩ := h.nodeF hn
 obtain ⟨qb, qk, qv, qc⟩ := q
 dsimp only at hq
 subst hq
 have ar := hM.blk
 have hC := hM.kids
 dsimp only at ar hC
 have kcl : (innNd c ps).kids.length = ps.length + 1 := by simp [innNd]
 rw [kcl] at hC
 obtain ⟨gc, cc, rfl⟩ := some_of hC (by omega)
 have vh := hM.bd.cs a (List.mem_of_getElem? (show (innNd c ps).kids[_]? = some a from ha))
 have kx : a ∈ c :: ps.map (·.2) := List.mem_of_getElem? ha
 have bW := hc.t
 have fb := hc.k
 have mP := hc.f
 have fi := h.lt
 have a7 := Ext.drew0 w
 refine ret_of_run (e := [(0, _), (1, _), (2, _), (3, _), (4, _)]) Tryz.func68 rfl Tryz.ntmps68 rfl rfl (qN rfl (zqa rfl (zqa rfl (qM rfl (qV ((by first | exact yld U24 rfl rfl bW rfl | exact yld U24 rfl rfl O.blk rfl | exact yld U24 rfl rfl ar rfl | exact yld U24 rfl rfl fb rfl)) ?_)))))
 refine qV (ynk rfl) (qV (yfa fl74_5 rfl) (qV ((by first | exact yld U71 rfl rfl bW rfl | exact yld U71 rfl rfl O.blk rfl | exact yld U71 rfl rfl ar rfl | exact yld U71 rfl rfl fb rfl)) ?_))
 refine zqm rfl (qV (ylk (k := no) (K := KZ) U71 (ky_int U3) ti81 rfl rfl O.nm.l) ?_)
 rw [show (getL kn no).getD (.pointer none) = ptr (nb no) 0 by rw [O.ng no, hn]; rfl]
 refine zqa rfl (rEnd (run_seq (qN rfl (zqm rfl (qV (ynk rfl) (qV (yfa fl84_0 rfl) (qV ((by first | exact yld U4 rfl rfl bW rfl | exact yld U4 rfl rfl O.blk rfl | exact yld U4 rfl rfl ar rfl | exact yld U4 rfl rfl fb rfl)) ?_)))))))
 refine rEnd (run_false rfl (run_skip (qN rfl (zqm rfl (qV ((by first | exact yld U9 rfl rfl bW rfl | exact yld U9 rfl rfl O.blk rfl | exact yld U9 rfl rfl ar rfl | exact yld U9 rfl rfl fb rfl)) ?_)))))
 refine zqc [.tmp 95, .tmp 96] cf46 rfl (way_ret k ar hM.r hM.bd dR.2) ?_
 rintro _ w ⟨rfl, rfl⟩
 rw [show wayI (innNd c ps).keys k = i from fV]
 refine zqa rfl (rEnd (run_seq (run_drawL [9] (fun w' => Ext w w') (by kernel_rfl) rfl (qL [9, 10, 11, 12, 13, 14] 0 rfl (fun _ h=>(by first | exact yld U110 rfl rfl (h.blk ar) rfl | exact yld U110 rfl rfl (h.blk mP) rfl)) a7 ?_))))
 refine qL [2, 3, 4, 6, 7, 8, 9, 10, 11, 12, 13, 14] 1 rfl (fun _ h=>ymv rfl) a7 (qL [3, 4, 6, 7, 8, 9, 10, 11, 12, 13, 14] 2 rfl (fun _ h=>ynk rfl) a7 (qL [4, 6, 7, 8, 9, 10, 11, 12, 13, 14] 3 rfl (fun _ h=>yfa fl84_3 rfl) a7 (qL [6, 7, 8, 9, 10, 11, 12, 13, 14] 4 rfl (fun _ h=>(by first | exact yld U82 rfl rfl (h.blk ar) rfl | exact yld U82 rfl rfl (h.blk mP) rfl)) a7 ?_)))
 refine qL [6, 7, 8, 9, 10, 11, 12, 13, 14] 5 rfl (fun _ h=>ymv rfl) a7 (qL [7, 8, 9, 10, 11, 12, 13, 14] 6 rfl (fun _ h=>yis U82 ti89 rfl rfl (by omega)) a7 (qL [8, 9, 10, 11, 12, 13, 14] 7 rfl (fun _ hS => yldc U89 rfl rfl (rd_u32 ((hC.ext hS).rd) (by omega) ha)) a7 (qL [9, 10, 11, 12, 13, 14] 8 rfl (fun _ h=>ycvSi64 rfl U89 U3 (by omega)) a7 (hLate [9] (by kernel_rfl) (by kernel_rfl) (qO 9 (nCall (i := 9) rfl rfl rfl (ycv' (args := [.tmp 107]) cf68 rfl rfl) (ih _ T nb F (a : Int) lo' ab nm em (h.ext a7) (hc.kp a7.kp (fun i hi => .inl hi)) ja p8 p9 hk f9 hg nZ rl (by omega) fy (fun c' ps' gB e => by have := full_inn (aR a kx) hz gB; rw [e] at this; simp at this)) ?_))))))
 rintro v1 w1 ⟨T1, nb1, F1, h1, ⟨lN, fe, iU⟩, aD, iB, zp⟩
 refine ⟨trivial, ?_⟩
 have dP : T1.size = T.size := fe.size
 have sh : ∀ x ∈ T1.given, 1 ≤ x ∧ x ≤ 2147483647 := fun x hx => (fe.giv x hx).elim (nZ x) (fun e => rl x e.1)
 have mJ : T1.given.length ≤ 2147483647 := by have := rise_len fe.srt.rise sh; omega
 have fC : Kp F w w1 := a7.kp.trans aD
 have oB := a7.size
 have fD : ∀ i, F1 i → F i ∨ w.heap.size ≤ i := fun i hi => (iB i hi).imp id (fun e => by omega)
 have cD : PutC w1 F1 p k v bt bk bv bp := hc.kp fC fD
 have ky := cD.t
 have zq : nb1 no = nb no := zp no (by rw [hn]; simp) tl
 have vV : ∀ x, T.nodes x ≠ none → x ∉ ns → nb1 x = nb x := fun x hx j9 => zp x hx (fun hm => j9 (bH x hm))
 have DP := fe.len
 rcases iU with ⟨rfl, ⟨nm', vW, pM⟩, fQ⟩ | ⟨up, more, rfl, ⟨n1', n2', f1, f2, ju, dr, cQ, pM, mD, kS, xQ, DI, rm, ut⟩⟩
 ·refine zqt 10 rfl (ymv rfl) trivial (zqt 11 rfl (yex rfl rfl) trivial (zqt 12 rfl (yex rfl rfl) trivial (zqt 13 rfl (yas rfl) trivial (zqt 14 rfl (yas rfl) trivial (qE (Run.qb (e := [(0, _), (1, _), (6, _), (7, _), (8, _), (12, _), (13, _), (14, _)]) ?_)))))); refine run_seq (qN rfl (zqm rfl (qV (yeq rfl rfl) (rEnd (run_true rfl (qN rfl (qV (yld U24 rfl rfl ky rfl) (zqm rfl (zqm rfl ?_))))))))); obtain ⟨ns1, M, lO⟩ := cy T1.nodes nm' _ vW pM; have M1 : Mid T1.size h0 T1.nodes no lo hi c ps ns1 (e1 ++ (insE em k v ++ e2)) a := by rw [dP]; exact M
  refine zqc [.tmp 113, .tmp 114, .tmp 115] cf47 rfl (even_all h1 M1 (aZ c ps hn) nj ha (fQ (aR a kx)) fe.srt (by omega)) ?_; rintro _ w2 ⟨rfl, T2, F2, ns2, h2, b1, b2, b3, b4, ⟨ps', et, vX⟩, am, ct⟩; rw [dP] at b1; refine qM rfl (zqa rfl (zqa rfl (rEnd (run_ret Tryz.func68 rfl (⟨_, rfl, T2, nb1, F2, h2, ⟨by rw [b4, lN]; simp only [bo], (fe.trans b3).mono (by omega), .inl ⟨rfl, ⟨ns2, by rw [p6]; exact b1, lO.trans b2⟩, fun bV m hm => ?_⟩⟩, fC.trans_new am (fun i hi => (fD i hi).symm), fun i hi => ?_, vV⟩)))))
  ·rw [et] at hm; cases hm; have := bV _ hn; rw [innNd_low] at this; intro e; have : ps' = [] := by simpa [innNd] using e
   subst this; simp at vX; omega
  ·have := fC.size; rcases ct i hi with e | e
   ·exact fD i e
   ·exact .inr (by omega)
 ·obtain ⟨rz, ns1, xn, si, vY, vZ, lP, pN⟩ := ik T1.nodes up more n1' n2' f1 f2 dr cQ pM mD kS xQ DI rm ut; obtain ⟨P, hP⟩ : ∃ P, P = ps.take i ++ (up, more) :: ps.drop i := ⟨_, rfl⟩; have Bm : P.length = ps.length + 1 := by rw [hP]; simp; omega
  have BV : (innNd c P).keys = ((innNd c ps).keys).take i ++ up :: ((innNd c ps).keys).drop i := by rw [hP]; simp [innNd]
  have zr : (innNd c P).kids = ((innNd c ps).kids).take (i + 1) ++ more :: ((innNd c ps).kids).drop (i + 1) := by rw [hP]; simp [innNd]
  rw [← hP] at xn si vY vZ lP; rw [← ju, ← p6] at xn; have du : T1.nodes no = some (innNd c ps) := by rw [rz]; exact hn
  have Gp : 1 ≤ (more : Int) ∧ (more : Int) ≤ 2147483647 := by
   rcases fe.nod (more : Int) (Bn.some cQ _ cQ.mem) with e | e
   ·exact rl _ e
   ·exact nZ _ e
  obtain ⟨q1, dw, bL, jW, iW⟩ := h1.nodeF du; obtain ⟨q1b, q1k, q1v, q1c⟩ := q1; dsimp only at dw; subst dw; have cS := bL.blk; have xm := bL.keys; have mZ := bL.vals; have zd := bL.kids; have cU := bL.d1; have di := bL.d2; have nf := bL.d3; dsimp only at cS xm mZ zd cU di nf; have cn : (innNd c ps).keys.length = ps.length := by simp [innNd]
  rw [kcl] at zd; rw [cn] at xm
  have sj : (innNd c P).Bd := by
   obtain ⟨d1, d2, d3, d4, d5, d6⟩ := bL.bd; refine ⟨by rw [BV]; simp at d1 ⊢; omega, by simp [innNd], by rw [zr]; simp; omega, fun x hx => ?_, by simp [innNd], fun x hx => ?_⟩
   ·have := si.1 x hx; omega
   ·rw [zr] at hx; rcases List.mem_append.1 hx with e | e
    ·exact d6 x (List.mem_of_mem_take e)
    ·rcases List.mem_cons.1 e with rfl | e
     ·omega
     ·exact d6 x (List.mem_of_mem_drop e)
  rw [← zq]; refine zqt 10 rfl (ymv rfl) trivial (zqt 11 rfl (yex rfl rfl) trivial (zqt 12 rfl (yex rfl rfl) trivial (zqt 13 rfl (yas rfl) trivial (zqt 14 rfl (yas rfl) trivial (qE (Run.qb (e := [(0, _), (1, _), (6, _), (7, _), (8, _), (12, _), (13, _), (14, _)]) ?_)))))); refine run_seq (qN rfl (zqm rfl (qV (yeq rfl rfl) (rEnd (run_if rfl (fun xe => ?_) (fun xe => ?_))))))
  ·exact absurd xe (by omega)
  ·have sk := h1.lt; obtain ⟨Q, hQ⟩ : ∃ Q : Nat → Prop, Q = fun g => q1k.ownBlock = some g ∨ q1c.ownBlock = some g := ⟨_, rfl⟩
   have dB : ∀ g, Q g → F1 g := fun g hg => by
    rw [hQ] at hg; exact (jW g (hg.elim (fun e => .inr (.inl e)) (fun e => .inr (.inr (.inr e))))).1
   have eu : ¬ Q (nb1 no) := fun e => by
    rw [hQ] at e; exact e.elim cU.1 cU.2.2
   have aX : ∀ g, q1k.ownBlock = some g → Q g := fun g hg => by rw [hQ]; exact .inl hg
   have eJ : ∀ g, q1c.ownBlock = some g → Q g := fun g hg => by rw [hQ]; exact .inr hg
   have dF : ∀ g, Q g → g < w1.heap.size := fun g hg => sk g (dB g hg); refine run_skip (run_seq ?_)
   -- AT: Code.region
   have tp : T1.count = T.count + if hasE es k then 0 else 1 := by rw [lN]; simp only [bo]
   refine run_cut (fun e' w2 => ∃ F2 T2, e' = [(0, I no), (1, ptr bt 0), (6, S []), (7, I 0), (8, ptr (nb1 no) 0)] ∧ T2 = T1.setN no (innNd c P) ∧ TreeA w2 p T2 nb1 F2 ∧ Kp F w w2 ∧ ∀ g, F2 g → F g ∨ w.heap.size ≤ g) ?fg (fun fg => ?jc)
   case fg =>
    rintro e' w2 ⟨F2, T2, rfl, gr, h2, am, ct⟩; have cP := hc.kp am ct; have cK := cP.t; obtain ⟨mN2, mC2, mO2, gv2, kn2, kc2, ko2, O2⟩ := h2.opn; refine qN rfl (qV ((by first | exact yld U24 rfl rfl cK rfl | exact yld U24 rfl rfl O2.blk rfl)) ?_); refine qV (ynk rfl) (qV (yfa fl74_7 rfl) (qV ((by first | exact yld U72 rfl rfl cK rfl | exact yld U72 rfl rfl O2.blk rfl)) ?_)); refine zqm rfl (rEffP rfl (zmuB (k := no) (K := KZ) U72 (ky_int U3) rfl rfl rfl O2.cm) ?_); rintro w3 ⟨fd, aw⟩
    have h3 := O2.setC w3 _ (updI T2.changed no true) fd aw (fun x => by
     rw [getL_put]; by_cases e : x = no
     ·subst e; simp [flag, updI]
     ·rw [if_neg e, O2.cg]; simp [updI, e])
    obtain ⟨T3, lI⟩ : ∃ X, X = ({ T2 with changed := updI T2.changed no true } : Tr) := ⟨_, rfl⟩; rw [← lI] at h3; have rE : T3.size = T.size := by rw [lI, gr]; exact dP
    have bQ : Kp F2 w2 w3 := aw.mono' (fun k hk => by rw [hk]; exact O2.fp.2.2.1); have db : Kp F w w3 := am.trans_new bQ (fun i hi => (ct i hi).symm); have ul : T3.nodes no = some (innNd c P) := by rw [lI, gr]; exact updI_same _ _ _
    obtain ⟨mN3, mC3, mO3, gv3, kn3, kc3, ko3, O3⟩ := h3.opn; obtain ⟨q3, xg, ku, lJ, dg⟩ := h3.nodeF ul; obtain ⟨q3b, q3k, q3v, q3c⟩ := q3; dsimp only at xg; subst xg; have cT := ku.blk; have rJ := ku.kids; dsimp only at cT rJ; have uU : (innNd c P).kids.length = P.length + 1 := by simp [innNd]
    rw [uU] at rJ; obtain ⟨gc3, cc3, rfl⟩ := some_of rJ (by omega); have o3 : PutC w3 F2 p k v bt bk bv bp := cP.kp bQ (fun i hi => .inl hi); have dK := o3.t; refine rEnd (run_seq (run_seq ?_)); have ax := Ext.drew0 w3; refine run_draw (fun w' => Ext w3 w') (by kernel_rfl) rfl (zqt 0 rfl (ymv rfl) ax (zqt 1 rfl (ynk rfl) ax (zqt 2 rfl (yfa fl84_3 rfl) ax (qT 3 rfl (fun _ h=>(by first | exact yld U82 rfl rfl (h.blk cT) rfl | exact yld U82 rfl rfl (h.blk dK) rfl | exact yld U82 rfl rfl (h.blk O3.blk) rfl)) ax ?_)))); refine zqt 4 rfl (yln U82 rfl) ax (qT 5 rfl (fun _ h=>(by first | exact yld U24 rfl rfl (h.blk cT) rfl | exact yld U24 rfl rfl (h.blk dK) rfl | exact yld U24 rfl rfl (h.blk O3.blk) rfl)) ax ?_); refine zqt 6 rfl (ynk rfl) ax (zqt 7 rfl (yfa fl74_3 rfl) ax (qT 8 rfl (fun _ h=>(by first | exact yld U3 rfl rfl (h.blk cT) rfl | exact yld U3 rfl rfl (h.blk dK) rfl | exact yld U3 rfl rfl (h.blk O3.blk) rfl)) ax ?_)); refine zqt 9 rfl (yle rfl rfl) ax (qE ?_); have eI := am.size; have jK := bQ.size; have jq := ax.size; have ij : T3 = (T1.setN no (innNd c P)).mark no := by rw [lI, gr]; rfl
    have DQ : T3.count = T1.count := by rw [ij]; rfl
    have vQ : Evo T1 T3 0 := by rw [ij]; exact Evo.set fe.srt du
    rw [rE]; refine run_if rfl (fun hb => ?_) (fun hb => ?_)
    ·refine qN rfl (zqa rfl (zqa rfl (rEnd (run_ret Tryz.func68 rfl ?_)))); obtain ⟨b1, b2⟩ := put_inn1 hz xn si (by omega) ⟨mT.1, vZ⟩ vY lP pN.nd; refine ⟨_, rfl, T3, nb1, F2, h3.ext ax, ⟨by rw [DQ]; exact tp, (fe.trans vQ).mono (by omega), .inl ⟨rfl, ⟨_, by rw [ij]; exact b1, pN.trans (by rw [ij]; exact b2)⟩, fun _ m hm => ?_⟩⟩, db.trans ax.kp, ct, vV⟩; rw [ul] at hm; cases hm; intro e; have : P.length = 0 := by have := congrArg List.length e; simpa [innNd] using this
     omega
    ·obtain ⟨no', gs, fA⟩ : ∃ a l, T1.given = a :: l := by
      cases e : T1.given with
      | nil => rw [e] at DP; simp at DP; omega
      | cons a l => exact ⟨a, l, rfl⟩
     have DJ := sh no' (by rw [fA]; simp); have dy := fe.srt.free no' (by rw [fA]; simp); obtain ⟨f, hf⟩ : ∃ f : Nat, no' = (f : Int) := ⟨no'.toNat, by omega⟩; subst hf; have pJ : no ≠ (f : Int) := fun e => by rw [← e, du] at dy; cases dy.1
     obtain ⟨up2, c2, jY, zt⟩ := put_inn2 hz xn si (by omega) (by omega) ⟨mT.1, vZ⟩ vY lP pN.nd (by rw [du]; simp) dy.1 (by omega); have eM : NdM w3.drew (innNd c P) ⟨nb1 no, q3k, q3v, .slice (some ⟨gc3, 0, none⟩) (P.length + 1) cc3⟩ := ku.kp ax.kp (fun _ _ => id); have pO := part_ret eM (by omega) rfl jY; have o5 : (P.length + 1) / 2 - 1 + 1 = (P.length + 1) / 2 := by omega
     rw [o5] at pO; dsimp only at pO; refine run_skip (qN rfl (zqm rfl (zqc [.tmp 157] cf73 rfl (pO) ?_))); rintro _ w5 ⟨kv2, cv2, q5, rfl, lK, zu, dS, tk, xd, fB, ok5, oc5, okk5, occ5⟩; have jf : ∀ i, F2 i → i < w3.drew.heap.size := (h3.ext ax).lt
     obtain ⟨F5, h5, jr⟩ := dg w5 _ q5 lK dS ((ax.kp).trans (fB.mono' (fun i hi => .inl hi))) (fun i hi => by
      rcases hi with e | e | e | e
      ·exact .inl (.inl (by rw [e, lK]))
      ·exact .inr (fun hh => by have := ok5 i e; have := jf i hh; omega)
      ·exact .inl (.inr (.inr (.inl (by rw [zu] at e; exact e))))
      ·exact .inr (fun hh => by have := oc5 i e; have := jf i hh; omega))
     obtain ⟨T5, me⟩ : ∃ X, X = T3.setN no (innNd c (P.take ((P.length + 1) / 2 - 1))) := ⟨_, rfl⟩; rw [← me] at h5; have kW := fB.size; have kw := h5.lt; refine zqm rfl (qV (yex rfl rfl) (qV (yex rfl rfl) (rValP rfl rfl (pal (cs := [_, _, _, _]) ti84 rfl) ?_))); rintro _ w6 ⟨b6, rfl, rI, aO, bD⟩; have nS := aO.size; refine zqa rfl (rEffP rfl (zstA (news := [.bool false, kv2, .slice none 0 0, cv2]) ti84 rfl rfl (by simp only [List.all_cons, List.all_nil, oneV_sl tk, oneV_sl xd, Bool.and_true]; rfl) rfl bD (by simp)) ?_); rintro w7 ⟨dH, dW⟩; have kV := dW.size; have aU : Ext w5 w7 := aO.trans_new dW (fun i hi => by omega); have rj : Blk w7 b6 [.bool false, kv2, .slice none 0 0, cv2] 84 := dH; have h7 := h5.ext aU; have dI : Kp F2 w3 w5 := (ax.kp).trans (fB.mono' (fun i hi => by rw [hi]; exact (lJ _ (.inl rfl)).1)); have jT : Kp F w w5 := db.trans_new dI (fun i hi => (ct i hi).symm); have gd : Kp F w w7 := jT.trans aU.kp
     have dV : ∀ i, F5 i → F i ∨ w.heap.size ≤ i := fun i hi => by
      rcases jr i hi with e | e
      ·exact ct i e
      ·rcases e with e | e | e | e
       ·exact ct i (by rw [e, lK]; exact (lJ _ (.inl rfl)).1)
       ·exact .inr (by have := ok5 i e; omega)
       ·exact ct i (lJ i (.inr (.inr (.inl (by rw [zu] at e; exact e))))).1
       ·exact .inr (by have := oc5 i e; omega)
     have mg : ∀ i, kv2.ownBlock = some i → ¬ F5 i := fun i hi hh => by
      obtain ⟨a1, a2, -⟩ := okk5 i hi; rcases jr i hh with e | e
      ·have := jf i e; omega
      ·exact a2 e
     have zw : ∀ i, cv2.ownBlock = some i → ¬ F5 i := fun i hi hh => by
      obtain ⟨a1, a2⟩ := occ5 i hi; rcases jr i hh with e | e
      ·have := jf i e; omega
      ·exact a2 e
     have jt := hc.kp gd dV; have eU := jt.t
     have BW : NdP w7 (innNd c2 (P.drop ((P.length + 1) / 2))) kv2 (.slice none 0 0) cv2 := by
      obtain ⟨d1, d2, d3, d4, d5, d6⟩ := sj; have hd : (P.drop ((P.length + 1) / 2)).length ≤ P.length := by rw [List.length_drop]; omega
      refine ⟨?_, Sl.nil _ _ _, ?_, ⟨by simp [innNd] at d1 ⊢; omega, by simp [innNd], by simp [innNd] at d3 ⊢; omega, fun x hx => ?_, by simp [innNd], fun x hx => ?_⟩, fun g hg => ⟨by simp [Value.ownBlock], (okk5 g hg).2.2⟩, fun g hg => by simp [Value.ownBlock] at hg⟩
      ·have e : (innNd c2 (P.drop ((P.length + 1) / 2))).keys.length = (P.drop ((P.length + 1) / 2)).length := by simp [innNd]
       rw [e]; exact tk.ext aU
      ·have e : (innNd c2 (P.drop ((P.length + 1) / 2))).kids.length = (P.drop ((P.length + 1) / 2)).length + 1 := by simp [innNd]
       rw [e]; exact xd.ext aU
      ·obtain ⟨y, hy, rfl⟩ := List.mem_map.1 (show x ∈ (P.drop ((P.length + 1) / 2)).map (·.1) from hx); exact d4 y.1 (List.mem_map.2 ⟨y, List.mem_of_mem_drop hy, rfl⟩)
      ·rcases List.mem_cons.1 (show x ∈ c2 :: (P.drop ((P.length + 1) / 2)).map (·.2) from hx) with rfl | hx
       ·exact d6 _ (List.mem_cons_of_mem _ (List.mem_map.2 ⟨_, List.mem_of_getElem? jY, rfl⟩))
       ·obtain ⟨y, hy, rfl⟩ := List.mem_map.1 hx; exact d6 y.2 (List.mem_cons_of_mem _ (List.mem_map.2 ⟨y, List.mem_of_mem_drop hy, rfl⟩))
     have vS : T5.given = (f : Int) :: gs := by rw [me, lI, gr]; exact fA
     have vT : T5.nodes (f : Int) = none := by rw [me, lI, gr]; show updI (updI T1.nodes no _) no _ (f : Int) = none; rw [updI_ne (Ne.symm pJ), updI_ne (Ne.symm pJ)]; exact dy.1
     have DN : ∀ i, ownP kv2 (.slice none 0 0) cv2 i → ¬ F5 i := fun i hi => by
      rcases hi with e | e | e
      ·exact mg i e
      ·simp [Value.ownBlock] at e
      ·exact zw i e
     have jg := fresh_ret h7 vS (by rw [fA] at mJ; simp at mJ; omega) BW DN vT; rw [show (innNd c2 (P.drop ((P.length + 1) / 2))).leaf = false from rfl] at jg; refine rEnd (Run.qb (e := [(1, _), (6, _), (7, _), (13, _), (15, _)]) ?_); refine qN rfl (zqm rfl (qV ((by first | exact yld U24 rfl rfl rj rfl | exact yld U24 rfl rfl eU rfl)) ?_)); refine qV ((by first | exact yldA U84 rfl ti84 rfl (Blk.cells (n := 4) rj (news := [_, _, _, _]) rfl) rfl | exact yldA U84 rfl ti84 rfl (Blk.cells (n := 4) eU (news := [_, _, _, _]) rfl) rfl)) ?_; refine zqc [.tmp 162, .tmp 163] cf67 rfl (jg) ?_; rintro _ w8 ⟨rfl, b8, F8, h8, ni, yF⟩; refine zqa rfl (zqa rfl (rEnd (run_ret Tryz.func68 rfl ?_)))
     have DO : (({ T5 with given := gs } : Tr).setN (f : Int) (innNd c2 (P.drop ((P.length + 1) / 2)))).mark (f : Int) = ((({ (T1.setN no (innNd c (P.take ((P.length + 1) / 2 - 1)))).mark no with given := gs } : Tr).setN (f : Int) (innNd c2 (P.drop ((P.length + 1) / 2))))).mark (f : Int) := by
      rw [me, ij]
      have e5 : ∀ (a b : Nd), updI (updI T1.nodes no (some b)) no (some a) = updI T1.nodes no (some a) := fun a b => by
       funext x; unfold updI; split <;> rfl
      show ({ T1 with nodes := updI (updI (updI T1.nodes no _) no _) _ _, given := gs, changed := _ } : Tr) = { T1 with nodes := updI (updI T1.nodes no _) _ _, given := gs, changed := _ }; rw [e5]
      rfl
     rw [DO] at h8; obtain ⟨m1, m2, g1, g2, q1', q2', q3', q4', q5', q6', q7', q8', q9'⟩ := zt; refine ⟨_, rfl, _, _, F8, h8, ⟨tp, ?_, .inr ⟨up2, f, rfl, m1, m2, g1, g2, q1', q2', q3', pN.trans q4', q5', q6', q7', q8', q9', by omega⟩⟩, gd.trans_new ni (fun i hi => (dV i hi).symm), fun i hi => ?_, fun x hx BX => ?_⟩
     ·have e1 : Evo T1 ((T1.setN no (innNd c (P.take ((P.length + 1) / 2 - 1)))).mark no) 0 := Evo.set fe.srt du; have e2 := Evo.fresh (n := innNd c2 (P.drop ((P.length + 1) / 2))) e1.srt (show _ = (f : Int) :: gs from fA); exact (fe.trans (e1.trans e2)).mono (by omega)
     ·rcases yF i hi with e | e | e
      ·exact dV i e
      ·exact .inr (by omega)
      ·rcases e with e | e | e
       ·exact .inr (by have := (okk5 i e).1; omega)
       ·simp [Value.ownBlock] at e
       ·exact .inr (by have := (occ5 i e).1; omega)
     ·have IH : x ≠ (f : Int) := fun e => by
       have := pN.d2 x hx BX; rw [e, dy.1, ← e] at this; exact hx this.symm
      rw [updI_ne IH]; exact vV x hx BX
   case jc =>
    have cy : ∀ {l : List Bytes}, ∀ c' ∈ l.map S, c'.oneCell' = true := fun c' hc => by obtain ⟨z, -, rfl⟩ := List.mem_map.1 hc; rfl
    have eK : ∀ {l : List Nat}, ∀ c' ∈ l.map u32v, c'.oneCell' = true := fun c' hc => by obtain ⟨z, -, rfl⟩ := List.mem_map.1 hc; rfl
    have ew := Ext.drew0 w1; have ad : Kp Q w1 w1.drew := ew.kp; have eV := xm.ext ew; have jh := zd.ext ew; have bR := ew.size; refine run_drawL [22,25] (fun w' => Kp Q w1 w') (by kernel_rfl) rfl (qL [20, 21, 22, 23, 24, 25] 0 rfl (fun _ h=>ymv rfl) ad (hTakeU (i := 1) rfl (by kernel_rfl) rfl rfl (fun _ => ymv rfl) (ad) (qL [3, 4, 5, 9, 19, 20, 21, 22, 23, 24, 25] 2 rfl (fun _ h=>ymv rfl) ad (qL [4, 5, 9, 19, 20, 21, 22, 23, 24, 25] 3 rfl (fun _ h=>ynk rfl) ad (qL [5, 9, 19, 20, 21, 22, 23, 24, 25] 4 rfl (fun _ h=>yfa fl84_1 rfl) ad (qL [9, 19, 20, 21, 22, 23, 24, 25] 5 rfl (fun _ h=>yld U23 rfl rfl (h.blk cS eu) rfl) ad (qL [9, 19, 20, 21, 22, 23, 24, 25] 6 rfl (fun _ h=>ymv rfl) ad (qL [8, 9, 19, 20, 21, 22, 23, 24, 25] 7 rfl (fun _ h=>ymv rfl) ad (qL [11, 12, 13, 19, 20, 21, 22, 23, 24, 25] 10 rfl (fun _ h=>ymv rfl) ad (qL [12, 13, 19, 20, 21, 22, 23, 24, 25] 11 rfl (fun _ h=>ynk rfl) ad (qL [13, 19, 20, 21, 22, 23, 24, 25] 12 rfl (fun _ h=>yfa fl84_3 rfl) ad (qL [19, 20, 21, 22, 23, 24, 25] 13 rfl (fun _ h=>yld U82 rfl rfl (h.blk cS eu) rfl) ad (qL [15, 19, 20, 21, 22, 23, 24, 25] 14 rfl (fun _ h=>ymv rfl) ad ?_))))))))))))); refine qL [19, 20, 21, 22, 23, 24, 25] 15 rfl (fun _ h=>yad rfl rfl (by omega)) ad (qL [17, 18, 19, 20, 21, 22, 23, 24, 25] 16 rfl (fun _ h=>ymv rfl) ad (qL [18, 19, 20, 21, 22, 23, 24, 25] 17 rfl (fun _ h=>ycv32 rfl U3 U89) ad (hTwoL (i := 8) (j := 18) (by kernel_rfl) ?_ ?_)))
    ·refine nValPL (i := 8) rfl rfl rfl (pbs (parts := [(0, .tmp 124)]) (cs := [_]) (zs := [Value.string ⟨#[]⟩]) U23 ti9 rfl (by kernel_rfl) rfl rfl rfl (by decide)) ?_; rintro _ w8 ⟨b8, rfl, ⟨BT, au, d8⟩, dO⟩; refine ⟨ad.trans au.kp, ?_⟩; have ad := ad.trans (au.kp (S := Q)); have eV := eV.ext au; have jh := jh.ext au
     try have dZ := dZ.ext au
     have BU : w1.heap.size ≤ b8 := by omega
     have bR := Nat.le_trans bR au.size; refine hTwoL (i := 9) (j := 18) (by kernel_rfl) ?_ ?_
     ·refine nCallL (i := 9) rfl rfl rfl (yc (args := [.tmp 122, .tmp 123, .tmp 125]) cf69 rfl) (insS_ret (i := i) eV dO rfl cy nj (by omega) (fun b hb e => by have e : b8 = b := oinj e; have := dF _ (aX _ hb); omega)) ?_; rintro kv9 w9 ⟨bJ, aB, cj⟩; refine ⟨ad.trans (aB.mono' aX), ?_⟩; have ad := ad.trans (aB.mono' aX); have jh := jh.kp aB (fun g hg e => (di g e).2 hg)
      try have dZ := dZ.kp aB (fun g hg e => by have e' : b18 = g := oinj hg; have := dF _ (aX _ e); omega)
      have cj : ∀ g, kv9.ownBlock = some g → q1k.ownBlock = some g ∨ w1.heap.size ≤ g := fun g hg => (cj g hg).imp id (fun e => Nat.le_trans bR e); have bR := Nat.le_trans bR aB.size; refine hOneL (i := 18) (by kernel_rfl) (nValPL (i := 18) rfl rfl rfl (pbs (parts := [(0, .tmp 134)]) (cs := [_]) (zs := [Value.int .u32 0]) U82 ti89 rfl (by kernel_rfl) rfl rfl rfl (by decide)) ?_); rintro _ w18 ⟨b18, rfl, ⟨zx, cL, zy⟩, dZ⟩; refine ⟨ad.trans cL.kp, ?_⟩; have ad := ad.trans (cL.kp (S := Q))
      try have eV := eV.ext cL
      have jh := jh.ext cL
      try have dO := dO.ext cL
      try have bJ := bJ.ext cL
      have zA : w1.heap.size ≤ b18 := by omega
      have bR := Nat.le_trans bR cL.size; have pP := fun (g : Nat) (hg : kv9.ownBlock = some g) => bJ.lt hg; refine hOneL (i := 19) (by kernel_rfl) (nCallL (i := 19) rfl rfl rfl (yc (args := [.tmp 130, .tmp 132, .tmp 135]) cf72 rfl) (insU_ret (i := i + 1) jh dZ rfl eK (by omega) (by omega) (fun b hb e => by have e : b18 = b := oinj e; have := dF _ (eJ _ hb); omega)) ?_); rintro cv19 w19 ⟨kA, fE, dz⟩; refine ⟨ad.trans (fE.mono' eJ), ?_⟩; have ad := ad.trans (fE.mono' eJ); have bJ := bJ.kp fE (fun g hg e => (cj g hg).elim (fun e' => (di g e').2 e) (fun e' => by have := dF _ (eJ _ e); omega))
      have fk : ∀ g, w1.heap.size ≤ g → kv9.ownBlock = some g → cv19.ownBlock ≠ some g := fun g hg h1 h2 => by
       rcases dz g h2 with e | e
       ·have := dF _ (eJ _ e); omega
       ·have := pP g h1; omega
      have dz : ∀ g, cv19.ownBlock = some g → q1c.ownBlock = some g ∨ w1.heap.size ≤ g := fun g hg => (dz g hg).imp id (fun e => Nat.le_trans bR e); refine qL [21, 22, 23, 24, 25] 20 rfl (fun _ h=>ynk rfl) ad (qL [22, 23, 24, 25] 21 rfl (fun _ h=>yfa fl84_1 rfl) ad (hLate [22] (by kernel_rfl) (by kernel_rfl) (qO 22 (nEffP (i := 22) rfl rfl (zst ti23 rfl rfl (oneV_sl bJ) (ad.blk cS eu) (by simp)) ?_)))); rintro w22 ⟨dG, pQ⟩; refine ⟨trivial, ?_⟩; refine zqt 23 rfl (ynk rfl) trivial (zqt 24 rfl (yfa fl84_3 rfl) trivial (qO 25 (nEffP (i := 25) rfl rfl (zst ti82 rfl rfl (oneV_sl kA) dG (by simp)) ?_))); rintro w25 ⟨pR, bT⟩; refine ⟨trivial, ?_⟩; refine qE (Run.qb (e := [(0, _), (1, _), (6, _), (7, _), (8, _), (13, _)]) ?_); have bF := pQ.trans bT
      have m7 : ∀ g, kv9.ownBlock = some g → g ≠ nb1 no := fun g hg e => by
       rcases cj g hg with h | h
       ·rw [e] at h; exact cU.1 h
       ·have := cS.lt; omega
      have dl : ∀ g, cv19.ownBlock = some g → g ≠ nb1 no := fun g hg e => by
       rcases dz g hg with h | h
       ·rw [e] at h; exact cU.2.2 h
       ·have := cS.lt; omega
      obtain ⟨iS, dM⟩ := bL.re (w' := w25) (n' := innNd c P) (kv' := kv9) (vv' := q1v) (cv' := cv19) pR (by
        rw [BV]; have := bJ.kp bF m7; simp only [List.map_append, List.map_cons, List.map_take, List.map_drop, List.length_append, List.length_cons, List.length_take, List.length_drop, cn]; rw [show min i ps.length + (ps.length - i + 1) = ps.length + 1 by omega]
        exact this) (by
        have e : (innNd c P).vals = (innNd c ps).vals := rfl; rw [e]
        exact (mZ.kp ad (fun g hg e => by
         rw [hQ] at e; rcases e with e | e
         ·exact (di g e).1 hg
         ·exact nf g hg e)).kp bF (fun g hg e => cU.2.1 (by rw [← e]; exact hg))) (by
        rw [zr]; have := kA.kp bF dl; rw [Nat.mod_eq_of_lt (show more < 4294967296 by omega)] at this; simp only [List.map_append, List.map_cons, List.map_take, List.map_drop, List.length_append, List.length_cons, List.length_take, List.length_drop, kcl]; rw [show min (i + 1) (ps.length + 1) + (ps.length + 1 - (i + 1) + 1) = ps.length + 1 + 1 by omega]
        exact this) sj cj (fun g hg => .inl hg) dz (fun g hg => ⟨fun e => ⟨fun e' => by have := mZ.lt e'; omega, fk g hg e⟩, fun e => by have := mZ.lt e; omega⟩)
      obtain ⟨F2, h2, ct⟩ := iW w25 _ ⟨nb1 no, kv9, q1v, cv19⟩ rfl iS ((ad.mono' (fun g hg => by
       rw [hQ] at hg
       exact hg.elim (fun e => .inr (.inl e)) (fun e => .inr (.inr (.inr e))))).trans (bF.mono' (fun g hg => .inl hg))) (fun g hg => (dM g hg).imp id (fun e hh => by have := sk g hh; omega))
      have pS : ∀ g, F2 g → F1 g ∨ w1.heap.size ≤ g := fun g hg => by
       rcases ct g hg with e | e
       ·exact .inl e
       ·exact (dM g e).imp (fun e => (jW g e).1) id
      have tq := fC.size; refine (fg _ _ ⟨F2, _, rfl, rfl, h2, fC.trans_new (S := F) (S' := F1) ((ad.mono' dB).trans (bF.mono' (fun g hg => by rw [hg]; exact (jW _ (.inl rfl)).1))) (fun i hi => (fD i hi).symm), fun g hg => ?_⟩).qb; rcases pS g hg with e | e
      ·exact fD g e
      ·exact .inr (by omega)
     ·refine nValPL (i := 18) rfl rfl rfl (pbs (parts := [(0, .tmp 134)]) (cs := [_]) (zs := [Value.int .u32 0]) U82 ti89 rfl (by kernel_rfl) rfl rfl rfl (by decide)) ?_; rintro _ w18 ⟨b18, rfl, ⟨zx, cL, zy⟩, dZ⟩; refine ⟨ad.trans cL.kp, ?_⟩; have ad := ad.trans (cL.kp (S := Q))
      try have eV := eV.ext cL
      have jh := jh.ext cL
      try have dO := dO.ext cL
      try have bJ := bJ.ext cL
      have zA : w1.heap.size ≤ b18 := by omega
      have bR := Nat.le_trans bR cL.size; refine hOneL (i := 9) (by kernel_rfl) (nCallL (i := 9) rfl rfl rfl (yc (args := [.tmp 122, .tmp 123, .tmp 125]) cf69 rfl) (insS_ret (i := i) eV dO rfl cy nj (by omega) (fun b hb e => by have e : b8 = b := oinj e; have := dF _ (aX _ hb); omega)) ?_); rintro kv9 w9 ⟨bJ, aB, cj⟩; refine ⟨ad.trans (aB.mono' aX), ?_⟩; have ad := ad.trans (aB.mono' aX); have jh := jh.kp aB (fun g hg e => (di g e).2 hg)
      try have dZ := dZ.kp aB (fun g hg e => by have e' : b18 = g := oinj hg; have := dF _ (aX _ e); omega)
      have cj : ∀ g, kv9.ownBlock = some g → q1k.ownBlock = some g ∨ w1.heap.size ≤ g := fun g hg => (cj g hg).imp id (fun e => Nat.le_trans bR e); have bR := Nat.le_trans bR aB.size; have pP := fun (g : Nat) (hg : kv9.ownBlock = some g) => bJ.lt hg; refine hOneL (i := 19) (by kernel_rfl) (nCallL (i := 19) rfl rfl rfl (yc (args := [.tmp 130, .tmp 132, .tmp 135]) cf72 rfl) (insU_ret (i := i + 1) jh dZ rfl eK (by omega) (by omega) (fun b hb e => by have e : b18 = b := oinj e; have := dF _ (eJ _ hb); omega)) ?_); rintro cv19 w19 ⟨kA, fE, dz⟩; refine ⟨ad.trans (fE.mono' eJ), ?_⟩; have ad := ad.trans (fE.mono' eJ); have bJ := bJ.kp fE (fun g hg e => (cj g hg).elim (fun e' => (di g e').2 e) (fun e' => by have := dF _ (eJ _ e); omega))
      have fk : ∀ g, w1.heap.size ≤ g → kv9.ownBlock = some g → cv19.ownBlock ≠ some g := fun g hg h1 h2 => by
       rcases dz g h2 with e | e
       ·have := dF _ (eJ _ e); omega
       ·have := pP g h1; omega
      have dz : ∀ g, cv19.ownBlock = some g → q1c.ownBlock = some g ∨ w1.heap.size ≤ g := fun g hg => (dz g hg).imp id (fun e => Nat.le_trans bR e); refine qL [21, 22, 23, 24, 25] 20 rfl (fun _ h=>ynk rfl) ad (qL [22, 23, 24, 25] 21 rfl (fun _ h=>yfa fl84_1 rfl) ad (hLate [22] (by kernel_rfl) (by kernel_rfl) (qO 22 (nEffP (i := 22) rfl rfl (zst ti23 rfl rfl (oneV_sl bJ) (ad.blk cS eu) (by simp)) ?_)))); rintro w22 ⟨dG, pQ⟩; refine ⟨trivial, ?_⟩; refine zqt 23 rfl (ynk rfl) trivial (zqt 24 rfl (yfa fl84_3 rfl) trivial (qO 25 (nEffP (i := 25) rfl rfl (zst ti82 rfl rfl (oneV_sl kA) dG (by simp)) ?_))); rintro w25 ⟨pR, bT⟩; refine ⟨trivial, ?_⟩; refine qE (Run.qb (e := [(0, _), (1, _), (6, _), (7, _), (8, _), (13, _)]) ?_); have bF := pQ.trans bT
      have m7 : ∀ g, kv9.ownBlock = some g → g ≠ nb1 no := fun g hg e => by
       rcases cj g hg with h | h
       ·rw [e] at h; exact cU.1 h
       ·have := cS.lt; omega
      have dl : ∀ g, cv19.ownBlock = some g → g ≠ nb1 no := fun g hg e => by
       rcases dz g hg with h | h
       ·rw [e] at h; exact cU.2.2 h
       ·have := cS.lt; omega
      obtain ⟨iS, dM⟩ := bL.re (w' := w25) (n' := innNd c P) (kv' := kv9) (vv' := q1v) (cv' := cv19) pR (by
        rw [BV]; have := bJ.kp bF m7; simp only [List.map_append, List.map_cons, List.map_take, List.map_drop, List.length_append, List.length_cons, List.length_take, List.length_drop, cn]; rw [show min i ps.length + (ps.length - i + 1) = ps.length + 1 by omega]
        exact this) (by
        have e : (innNd c P).vals = (innNd c ps).vals := rfl; rw [e]
        exact (mZ.kp ad (fun g hg e => by
         rw [hQ] at e; rcases e with e | e
         ·exact (di g e).1 hg
         ·exact nf g hg e)).kp bF (fun g hg e => cU.2.1 (by rw [← e]; exact hg))) (by
        rw [zr]; have := kA.kp bF dl; rw [Nat.mod_eq_of_lt (show more < 4294967296 by omega)] at this; simp only [List.map_append, List.map_cons, List.map_take, List.map_drop, List.length_append, List.length_cons, List.length_take, List.length_drop, kcl]; rw [show min (i + 1) (ps.length + 1) + (ps.length + 1 - (i + 1) + 1) = ps.length + 1 + 1 by omega]
        exact this) sj cj (fun g hg => .inl hg) dz (fun g hg => ⟨fun e => ⟨fun e' => by have := mZ.lt e'; omega, fk g hg e⟩, fun e => by have := mZ.lt e; omega⟩)
      obtain ⟨F2, h2, ct⟩ := iW w25 _ ⟨nb1 no, kv9, q1v, cv19⟩ rfl iS ((ad.mono' (fun g hg => by
       rw [hQ] at hg
       exact hg.elim (fun e => .inr (.inl e)) (fun e => .inr (.inr (.inr e))))).trans (bF.mono' (fun g hg => .inl hg))) (fun g hg => (dM g hg).imp id (fun e hh => by have := sk g hh; omega))
      have pS : ∀ g, F2 g → F1 g ∨ w1.heap.size ≤ g := fun g hg => by
       rcases ct g hg with e | e
       ·exact .inl e
       ·exact (dM g e).imp (fun e => (jW g e).1) id
      have tq := fC.size; refine (fg _ _ ⟨F2, _, rfl, rfl, h2, fC.trans_new (S := F) (S' := F1) ((ad.mono' dB).trans (bF.mono' (fun g hg => by rw [hg]; exact (jW _ (.inl rfl)).1))) (fun i hi => (fD i hi).symm), fun g hg => ?_⟩).qb; rcases pS g hg with e | e
      ·exact fD g e
      ·exact .inr (by omega)
    ·refine nValPL (i := 18) rfl rfl rfl (pbs (parts := [(0, .tmp 134)]) (cs := [_]) (zs := [Value.int .u32 0]) U82 ti89 rfl (by kernel_rfl) rfl rfl rfl (by decide)) ?_; rintro _ w18 ⟨b18, rfl, ⟨zx, cL, zy⟩, dZ⟩; refine ⟨ad.trans cL.kp, ?_⟩; have ad := ad.trans (cL.kp (S := Q))
     try have eV := eV.ext cL
     have jh := jh.ext cL
     try have dO := dO.ext cL
     try have bJ := bJ.ext cL
     have zA : w1.heap.size ≤ b18 := by omega
     have bR := Nat.le_trans bR cL.size; refine hOneL (i := 8) (by kernel_rfl) (nValPL (i := 8) rfl rfl rfl (pbs (parts := [(0, .tmp 124)]) (cs := [_]) (zs := [Value.string ⟨#[]⟩]) U23 ti9 rfl (by kernel_rfl) rfl rfl rfl (by decide)) ?_); rintro _ w8 ⟨b8, rfl, ⟨BT, au, d8⟩, dO⟩; refine ⟨ad.trans au.kp, ?_⟩; have ad := ad.trans (au.kp (S := Q)); have eV := eV.ext au; have jh := jh.ext au
     try have dZ := dZ.ext au
     have BU : w1.heap.size ≤ b8 := by omega
     have bR := Nat.le_trans bR au.size; refine hOneL (i := 9) (by kernel_rfl) (nCallL (i := 9) rfl rfl rfl (yc (args := [.tmp 122, .tmp 123, .tmp 125]) cf69 rfl) (insS_ret (i := i) eV dO rfl cy nj (by omega) (fun b hb e => by have e : b8 = b := oinj e; have := dF _ (aX _ hb); omega)) ?_); rintro kv9 w9 ⟨bJ, aB, cj⟩; refine ⟨ad.trans (aB.mono' aX), ?_⟩; have ad := ad.trans (aB.mono' aX); have jh := jh.kp aB (fun g hg e => (di g e).2 hg)
     try have dZ := dZ.kp aB (fun g hg e => by have e' : b18 = g := oinj hg; have := dF _ (aX _ e); omega)
     have cj : ∀ g, kv9.ownBlock = some g → q1k.ownBlock = some g ∨ w1.heap.size ≤ g := fun g hg => (cj g hg).imp id (fun e => Nat.le_trans bR e); have bR := Nat.le_trans bR aB.size; have pP := fun (g : Nat) (hg : kv9.ownBlock = some g) => bJ.lt hg; refine hOneL (i := 19) (by kernel_rfl) (nCallL (i := 19) rfl rfl rfl (yc (args := [.tmp 130, .tmp 132, .tmp 135]) cf72 rfl) (insU_ret (i := i + 1) jh dZ rfl eK (by omega) (by omega) (fun b hb e => by have e : b18 = b := oinj e; have := dF _ (eJ _ hb); omega)) ?_); rintro cv19 w19 ⟨kA, fE, dz⟩; refine ⟨ad.trans (fE.mono' eJ), ?_⟩; have ad := ad.trans (fE.mono' eJ); have bJ := bJ.kp fE (fun g hg e => (cj g hg).elim (fun e' => (di g e').2 e) (fun e' => by have := dF _ (eJ _ e); omega))
     have fk : ∀ g, w1.heap.size ≤ g → kv9.ownBlock = some g → cv19.ownBlock ≠ some g := fun g hg h1 h2 => by
      rcases dz g h2 with e | e
      ·have := dF _ (eJ _ e); omega
      ·have := pP g h1; omega
     have dz : ∀ g, cv19.ownBlock = some g → q1c.ownBlock = some g ∨ w1.heap.size ≤ g := fun g hg => (dz g hg).imp id (fun e => Nat.le_trans bR e); refine qL [21, 22, 23, 24, 25] 20 rfl (fun _ h=>ynk rfl) ad (qL [22, 23, 24, 25] 21 rfl (fun _ h=>yfa fl84_1 rfl) ad (hLate [22] (by kernel_rfl) (by kernel_rfl) (qO 22 (nEffP (i := 22) rfl rfl (zst ti23 rfl rfl (oneV_sl bJ) (ad.blk cS eu) (by simp)) ?_)))); rintro w22 ⟨dG, pQ⟩; refine ⟨trivial, ?_⟩; refine zqt 23 rfl (ynk rfl) trivial (zqt 24 rfl (yfa fl84_3 rfl) trivial (qO 25 (nEffP (i := 25) rfl rfl (zst ti82 rfl rfl (oneV_sl kA) dG (by simp)) ?_))); rintro w25 ⟨pR, bT⟩; refine ⟨trivial, ?_⟩; refine qE (Run.qb (e := [(0, _), (1, _), (6, _), (7, _), (8, _), (13, _)]) ?_); have bF := pQ.trans bT
     have m7 : ∀ g, kv9.ownBlock = some g → g ≠ nb1 no := fun g hg e => by
      rcases cj g hg with h | h
      ·rw [e] at h; exact cU.1 h
      ·have := cS.lt; omega
     have dl : ∀ g, cv19.ownBlock = some g → g ≠ nb1 no := fun g hg e => by
      rcases dz g hg with h | h
      ·rw [e] at h; exact cU.2.2 h
      ·have := cS.lt; omega
     obtain ⟨iS, dM⟩ := bL.re (w' := w25) (n' := innNd c P) (kv' := kv9) (vv' := q1v) (cv' := cv19) pR (by
       rw [BV]; have := bJ.kp bF m7; simp only [List.map_append, List.map_cons, List.map_take, List.map_drop, List.length_append, List.length_cons, List.length_take, List.length_drop, cn]; rw [show min i ps.length + (ps.length - i + 1) = ps.length + 1 by omega]
       exact this) (by
       have e : (innNd c P).vals = (innNd c ps).vals := rfl; rw [e]
       exact (mZ.kp ad (fun g hg e => by
        rw [hQ] at e; rcases e with e | e
        ·exact (di g e).1 hg
        ·exact nf g hg e)).kp bF (fun g hg e => cU.2.1 (by rw [← e]; exact hg))) (by
       rw [zr]; have := kA.kp bF dl; rw [Nat.mod_eq_of_lt (show more < 4294967296 by omega)] at this; simp only [List.map_append, List.map_cons, List.map_take, List.map_drop, List.length_append, List.length_cons, List.length_take, List.length_drop, kcl]; rw [show min (i + 1) (ps.length + 1) + (ps.length + 1 - (i + 1) + 1) = ps.length + 1 + 1 by omega]
       exact this) sj cj (fun g hg => .inl hg) dz (fun g hg => ⟨fun e => ⟨fun e' => by have := mZ.lt e'; omega, fk g hg e⟩, fun e => by have := mZ.lt e; omega⟩)
     obtain ⟨F2, h2, ct⟩ := iW w25 _ ⟨nb1 no, kv9, q1v, cv19⟩ rfl iS ((ad.mono' (fun g hg => by
      rw [hQ] at hg
      exact hg.elim (fun e => .inr (.inl e)) (fun e => .inr (.inr (.inr e))))).trans (bF.mono' (fun g hg => .inl hg))) (fun g hg => (dM g hg).imp id (fun e hh => by have := sk g hh; omega))
     have pS : ∀ g, F2 g → F1 g ∨ w1.heap.size ≤ g := fun g hg => by
      rcases ct g hg with e | e
      ·exact .inl e
      ·exact (dM g e).imp (fun e => (jW g e).1) id
     have tq := fC.size; refine (fg _ _ ⟨F2, _, rfl, rfl, h2, fC.trans_new (S := F) (S' := F1) ((ad.mono' dB).trans (bF.mono' (fun g hg => by rw [hg]; exact (jW _ (.inl rfl)).1))) (fun i hi => (fD i hi).symm), fun g hg => ?_⟩).qb; rcases pS g hg with e | e
     ·exact fD g e
     ·exact .inr (by omega)
theorem putAt_all {p : Nat} {k v : Bytes} {bt bk bv bp : Nat} : ∀ H, PutAt p k v bt bk bv bp (H + 1)
 | 0 => putAt_leaf
 | h + 1 => putAt_inner (putAt_all h)
end
theorem insE_len (es : Es) (k v : Bytes) : (insE es k v).length = es.length + if hasE es k then 0 else 1 := by
 by_cases h : hasE es k
 ·rw [insE_set h, if_pos h, List.length_set]; rfl
 ·have := posE_le es k; rw [insE_new h, if_neg h, List.length_append, List.length_cons, List.length_take, List.length_drop]; omega
theorem delE_len {es : Es} {k : Bytes} (h : hasE es k) : (delE es k).length + 1 = es.length := by
 have := hasE_lt h
 unfold delE
 rw [if_pos h, List.length_append, List.length_take, List.length_drop]
 omega
theorem InvP.stepR {T T' : Tr} {H H' g : Nat} {ns ns' : List Int} {es es' : Es} (h : InvP T H ns es) (e : EvoR T T' g) (b : Bn T.size T'.nodes H' T'.root [] none ns' es') (v : Ev T.nodes T'.nodes ns ns') (c : T'.count = es'.length) : InvP T' H' ns' es' := by
 have hn := e.num h.num h.gnum
 have hs : T'.size = T.size := (show Evo _ _ _ from e).size
 refine ⟨by rw [hs]; exact b, v.nd, fun x hx => ?_, c, hn.1, hn.2, e.giv, e.chgd h.chg⟩
 rcases v.d3 x hx with e | ⟨e1, e2⟩
 ·exact e
 ·exact absurd (h.all x e1) e2
theorem Inv.first {T : Tr} {H : Nat} {ns : List Int} {es : Es} (h : Inv T H ns es) (hz : sizeOk (T.size : Int)) (hr : T.root = 0) {f : Int} {gs : List Int} (hg : T.given = f :: gs) :
  es = [] ∧ H = 0 ∧ InvP { ((({ T with given := gs } : Tr).setN f (leafNd [])).mark f) with root := f } 1 [f] [] ∧ EvoR T { ((({ T with given := gs } : Tr).setN f (leafNd [])).mark f) with root := f } 1 := by
 rcases h.std with ⟨-, hH, j9, ib⟩ | ⟨e, -⟩
 ·have gU : EvoR T { ((({ T with given := gs } : Tr).setN f (leafNd [])).mark f) with root := f } 1 := (Evo.fresh h.giv hg).toR'; have hn := gU.num h.num h.gnum
  have bK : ∀ x, T.nodes x = none := fun x => by
   cases e : T.nodes x with
   | none => rfl
   | some n => have := h.all x (by rw [e]; simp); rw [j9] at this; cases this
  subst ib; refine ⟨rfl, hH, ⟨?_, by simp, fun x hx => ?_, h.cnt, hn.1, hn.2, gU.giv, gU.chgd h.chg⟩, gU⟩
  ·refine Bn.of_leaf (by have := hz.2.1; show T.size ≤ 4096; omega) (updI_same _ _ _) ⟨by simp, List.Pairwise.nil⟩ ?_ (by simp); have := hz.1; show 3 + entB [] ≤ T.size; simp [entB]; omega
  ·have bi : updI T.nodes f (some (leafNd [])) x ≠ none := hx; by_cases e : x = f
   ·simp [e]
   ·rw [updI_ne e, bK] at bi; exact absurd rfl bi
 ·exact absurd hr e
theorem InvP.two {T T2 : Tr} {H g : Nat} {ns : List Int} {es es' : Es} (h : InvP T H ns es) (hz : sizeOk (T.size : Int)) (e : Evo T T2 g) {up : Bytes} {more : Nat} (t : Two T.size H T.nodes T2.nodes T.root [] none ns es' up more) {f : Int} {gs : List Int} (nL : T2.given = f :: gs) {r : Nat} (hr : T.root = (r : Int)) (hc : T2.count = es'.length) :
  ∃ ns', InvP { ((({ T2 with given := gs } : Tr).setN f (innNd r [(up, more)])).mark f) with root := f } (H + 1) ns' es' ∧ EvoR T { ((({ T2 with given := gs } : Tr).setN f (innNd r [(up, more)])).mark f) with root := f } (g + 1) := by
 obtain ⟨n1, n2, e1, e2, rfl, b1, b2, gU, mD, kS, xQ, jy, jX, ut⟩ := t
 have DR : T2.nodes f = none := (e.srt.free f (by rw [nL]; simp)).1
 have ju := gU.nd
 have gY : ∀ y ∈ n1, y ≠ f := fun y hy e => b1.some y hy (by rw [e]; exact DR)
 have cB : ∀ y ∈ n2, y ≠ f := fun y hy e => b2.some y hy (by rw [e]; exact DR)
 have hE : EvoR T { ((({ T2 with given := gs } : Tr).setN f (innNd r [(up, more)])).mark f) with root := f } (g + 1) := (e.trans (Evo.fresh (n := innNd r [(up, more)]) e.srt nL)).toR'
 have mh : r ≠ 0 := by
  have := h.num T.root (h.bn.some _ h.bn.mem); omega
 have II : (r : Int) ≠ f := fun e' => gY _ b1.mem (by rw [hr]; exact e')
 have IJ : (more : Int) ≠ f := cB _ b2.mem
 have BG : 8 ≤ orderE T.size := by have := hz.1; unfold orderE; omega
 obtain ⟨h0, rfl⟩ : ∃ h0, H = h0 + 1 := ⟨H - 1, by have := h.bn.pos; omega⟩
 refine ⟨f :: (n1 ++ n2), h.stepR hE ?_ (gU.trans (Ev.new (List.nodup_cons.2 ⟨fun hf => ?_, ju⟩) DR (fun x hx => (List.mem_cons.1 hx).symm) (fun x hx => List.mem_cons_of_mem _ hx) (List.mem_cons_self ..))) hc, hE⟩
 ·refine Bn.of_inner (c := r) (ps := [(up, more)]) (by have := hz.1; omega) (updI_same _ _ _) ⟨by simpa using xQ, by simp [Rise]⟩ (by simp; omega) ⟨mh, by simpa using ut⟩ (by simpa using mD) (fun d hd m hm => ?_) ⟨n1, n2, e1, e2, rfl, rfl, ?_, ?_⟩
  ·have r5 : d = r ∨ d = more := by simpa using hd
   rcases r5 with rfl | rfl
   ·have o9 : updI T2.nodes f (some (innNd d [(up, more)])) (d : Int) = some m := hm; rw [updI_ne II] at o9; exact jy m (by rw [hr]; exact o9)
   ·have o9 : updI T2.nodes f (some (innNd r [(up, d)])) (d : Int) = some m := hm; rw [updI_ne IJ] at o9; exact jX m o9
  ·rw [← hr]; exact b1.away (fun y _ hy => updI_ne (gY y hy))
  ·exact b2.away (fun y _ hy => updI_ne (cB y hy))
 ·rcases List.mem_append.1 hf with hf | hf
  ·exact gY _ hf rfl
  ·exact cB _ hf rfl
theorem EvoR.mono {T T' : Tr} {a b : Nat} (h : EvoR T T' a) (er : a ≤ b) : EvoR T T' b := Evo.mono h er
theorem Two.two {z : Nat} {N N' : Nodes} {no : Int} {lo : Bytes} {hi : Option Bytes} {ns : List Int} {es : Es} {up : Bytes} {more : Nat} (hz : sizeOk (z : Int)) (t : Two z 1 N N' no lo hi ns es up more) : 2 ≤ es.length := by
 obtain ⟨n1, n2, e1, e2, rfl, b1, b2, -, -, -, -, jy, jX, -⟩ := t
 obtain ⟨z1, z2, -⟩ := id hz
 obtain ⟨h1, -⟩ := b1.leaf (by omega)
 obtain ⟨h2, -⟩ := b2.leaf (by omega)
 have a1 := jy _ h1
 have a2 := jX _ h2
 rw [leafNd_low] at a1 a2
 have e1n : e1 ≠ [] := fun e => a1 (by rw [e]; simp [entB]; omega)
 have e2n : e2 ≠ [] := fun e => a2 (by rw [e]; simp [entB]; omega)
 have := List.length_pos_iff.2 e1n
 have := List.length_pos_iff.2 e2n
 rw [List.length_append]
 omega
section
variable {w : World} {p : Nat} {T : Tr} {nb : Int → Nat} {F : Nat → Prop}
def TreeS (p : Nat) (F : Nat → Prop) (w w' : World) (T' : Tr) (H' : Nat) (ns' : List Int) (es' : Es) : Prop := ∃ nb' F', TreeA w' p T' nb' F' ∧ Inv T' H' ns' es' ∧ Kp F w w' ∧ ∀ k, F' k → F k ∨ w.heap.size ≤ k
def may (z : Nat) (k v : Bytes) : Prop := keyOk k ∧ 3 + k.length + v.length ≤ mostE z
instance (k : Bytes) : Decidable (keyOk k) := by unfold keyOk; infer_instance
instance (z : Nat) (k v : Bytes) : Decidable (may z k v) := by unfold may; infer_instance
set_option maxHeartbeats 4000000 in
theorem putT_ret (h : TreeA w p T nb F) {H : Nat} {ns : List Int} {es : Es} (hI : Inv T H ns es) (ib : es.length ≤ 900000) (k v : Bytes) (cn : k.length ≤ 140737488355328) (ei : v.length ≤ 140737488355328) :
  Ret Tryz.prog 38 [ptr p 0, S k, S v] w fun val w' => (val = I 1 ∧ ¬ may T.size k v ∧ Ext w w') ∨ (val = I 3 ∧ may T.size k v ∧ T.given.length < H + 1 ∧ Ext w w') ∨ (val = I 0 ∧ may T.size k v ∧ H + 1 ≤ T.given.length ∧ ∃ T' H' ns', TreeS p F w w' T' H' ns' (insE es k v) ∧ EvoR T T' (H + 3)) := by
 have hz : sizeOk (T.size : Int) := size_ok h
 obtain ⟨z1, z2, -⟩ := id hz
 have xe : mostE T.size ≤ 1100 := by unfold mostE; omega
 have de := hI.gl
 obtain ⟨mN, mC, mO, gv, kn, kc, ko, O⟩ := h.opn
 obtain ⟨ga, gcp, nL, -⟩ := O.gs.rd.shape
 subst nL
 have KB := (hI.cnts hz).2
 refine ret_of_run (e := [(0, _), (1, _), (2, _)]) Tryz.func38 rfl Tryz.ntmps38 rfl rfl (qN rfl (rValP rfl rfl (pbx rfl rfl) ?_))
 rintro _ w1 ⟨bt, rfl, BP, aa, ai⟩
 refine rValP rfl rfl (pbx rfl rfl) ?_
 rintro _ w2 ⟨bk, rfl, sP, ae, ak⟩
 refine rValP rfl rfl (pbx rfl rfl) ?_
 rintro _ w3 ⟨bv, rfl, FM, ah, aG⟩
 have eI := aa.size
 have eQ := ae.size
 have jK := ah.size
 have bW := (ae.trans ah).blk ai
 have fb := ah.blk ak
 have lH := aG
 have eR : Ext w w3 := (aa.trans ae).trans ah
 have ey := eR.blk O.blk
 have af := h.lt
 have pT : ¬ F bt := fun e => by have := af _ e; omega
 have rL : ¬ F bk := fun e => by have := af _ e; omega
 have vN : ¬ F bv := fun e => by have := af _ e; omega
 refine zqa rfl (rEnd (run_seq (run_block (qN rfl (qV (yld U24 rfl rfl bW rfl) (qV (yeqpN U24 rfl rfl) (zqa rfl (rEnd (run_false rfl (run_seq ?_))))))))))
 have ax := Ext.drew0 w3
 have gA : ∀ (b : Bool) (w0 : World), decide (keyOk k) = b → Ret Tryz.prog 66 [S k] w0 fun v' w' => v' = .bool b ∧ w' = w0 := fun b w0 hb => by
  have := key_ret k w0; rw [show decide (1 ≤ k.length ∧ k.length ≤ 64) = b from hb] at this; exact this
 by_cases hk : keyOk k
 ·refine run_draw (fun w' => Ext w3 w') (by kernel_rfl) rfl (qT 0 rfl (fun _ h=>(by first | exact yld U9 rfl rfl (h.blk bW) rfl | exact yld U9 rfl rfl (h.blk fb) rfl | exact yld U9 rfl rfl (h.blk lH) rfl | exact yld U9 rfl rfl (h.blk ey) rfl)) ax ?_); refine zqo 1 [.tmp 14] rfl cf66 rfl (gA true _ (decide_eq_true hk)) ?_; rintro _ w4 ⟨rfl, rfl⟩; refine ⟨ax, ?_⟩; refine zqt 2 rfl ((by first | exact yntd rfl | exact ynt rfl)) ax ?_; refine zqt 3 rfl (ymv rfl) ax (qT 4 rfl (fun _ h=>(by first | exact yld U9 rfl rfl (h.blk bW) rfl | exact yld U9 rfl rfl (h.blk fb) rfl | exact yld U9 rfl rfl (h.blk lH) rfl | exact yld U9 rfl rfl (h.blk ey) rfl)) ax ?_); refine zqt 5 rfl (ylnS U9 rfl) ax (zqt 6 rfl (yad rfl rfl (by omega)) ax (qT 7 rfl (fun _ h=>(by first | exact yld U9 rfl rfl (h.blk bW) rfl | exact yld U9 rfl rfl (h.blk fb) rfl | exact yld U9 rfl rfl (h.blk lH) rfl | exact yld U9 rfl rfl (h.blk ey) rfl)) ax ?_)); refine zqt 8 rfl (ylnS U9 rfl) ax (zqt 9 rfl (yad rfl rfl (by omega)) ax (qT 10 rfl (fun _ h=>(by first | exact yld U24 rfl rfl (h.blk bW) rfl | exact yld U24 rfl rfl (h.blk fb) rfl | exact yld U24 rfl rfl (h.blk lH) rfl | exact yld U24 rfl rfl (h.blk ey) rfl)) ax ?_)); refine zqt 11 rfl (ynk rfl) ax (zqt 12 rfl (yfa fl74_2 rfl) ax (qT 13 rfl (fun _ h=>(by first | exact yld U3 rfl rfl (h.blk bW) rfl | exact yld U3 rfl rfl (h.blk fb) rfl | exact yld U3 rfl rfl (h.blk lH) rfl | exact yld U3 rfl rfl (h.blk ey) rfl)) ax ?_)); refine zqt 14 rfl (ygt rfl rfl) ax (zqt 15 rfl (ypF rfl rfl) ax (zqt 16 rfl (yas rfl) ax (qE (Run.qb (e := [(3, _), (4, _), (5, _), (6, _), (13, _)]) ?_)))); refine run_if rfl (fun hm => ?_) (fun hm => ?_)
  ·refine qN rfl (zqa rfl (rEnd (run_ret Tryz.func38 rfl ?_))); exact ⟨_, rfl, .inl ⟨rfl, fun hh => by have := hh.2; omega, eR.trans ax⟩⟩
  ·have sm : may T.size k v := ⟨hk, by omega⟩; have aM : Ext w3 w3.drew.drew := ax.trans (Ext.drew0 _); have e7 := eR.trans aM; refine run_seq (run_draw (fun w' => Ext w3 w') (by kernel_rfl) rfl (qT 0 rfl (fun _ h=>(by first | exact yld U24 rfl rfl (h.blk bW) rfl | exact yld U24 rfl rfl (h.blk ey) rfl)) aM ?_)); refine zqt 1 rfl (ynk rfl) aM (zqt 2 rfl (yfa fl74_6 rfl) aM (qT 3 rfl (fun _ h=>(by first | exact yld U34 rfl rfl (h.blk bW) rfl | exact yld U34 rfl rfl (h.blk ey) rfl)) aM ?_)); refine zqt 4 rfl (yln U34 rfl) aM (qT 5 rfl (fun _ h=>(by first | exact yld U24 rfl rfl (h.blk bW) rfl | exact yld U24 rfl rfl (h.blk ey) rfl)) aM ?_); refine zqo 6 [.tmp 36] rfl cf25 rfl (need_ret (h.ext e7) hI (by omega)) ?_; rintro _ w4 ⟨rfl, rfl⟩; refine ⟨aM, ?_⟩; refine zqt 7 rfl (ylt rfl rfl) aM (zqt 8 rfl (yas rfl) aM (qE (run_if rfl (fun hf => ?_) (fun hf => ?_))))
   ·refine qN rfl (zqa rfl (rEnd (run_ret Tryz.func38 rfl ?_))); exact ⟨_, rfl, .inr (.inl ⟨rfl, sm, by omega, e7⟩)⟩
   ·have kB : H + 1 ≤ T.given.length := by omega
    have pU := aM.blk bW; have we := aM.blk ey; obtain ⟨w4, IK⟩ : ∃ w4, w3.drew.drew = w4 := ⟨_, rfl⟩; rw [IK] at aM e7 pU we ⊢; have h4 := h.ext e7; have jq := aM.size; refine run_skip (run_inBlock (run_seq (qN rfl (qV ((by first | exact yld U24 rfl rfl pU rfl | exact yld U24 rfl rfl we rfl)) ?_)))); refine qV (ynk rfl) (qV (yfa fl74_1 rfl) (qV ((by first | exact yld U3 rfl rfl pU rfl | exact yld U3 rfl rfl we rfl)) ?_)); refine qV (yeq rfl rfl) (rEnd (run_cut (fun e' w5 => ∃ T1 nb1 F1 H1 ns1 g1, e' = [(3, ptr bt 0), (4, ptr bk 0), (5, ptr bv 0), (6, I 0)] ∧ TreeA w5 p T1 nb1 F1 ∧ InvP T1 H1 ns1 es ∧ EvoR T T1 g1 ∧ g1 + H1 ≤ H + 2 ∧ ((H1 = 1 ∧ es = []) ∨ H1 + 1 ≤ T1.given.length) ∧ (∀ c ps, T1.nodes T1.root = some (innNd c ps) → ps ≠ []) ∧ Kp F w4 w5 ∧ ∀ g, F1 g → F g ∨ w4.heap.size ≤ g) ?hk (fun hk => ?dN)))
    case hk =>
     rintro e' w5 ⟨T1, nb1, F1, H1, ns1, g1, rfl, h1, ff, fe, aE, pV, d9, fB, iB⟩; have IL : bt < w4.heap.size ∧ bk < w4.heap.size ∧ bv < w4.heap.size := ⟨(aM.blk bW).lt, (aM.blk fb).lt, (aM.blk lH).lt⟩; have wg : ¬ F1 bt ∧ ¬ F1 bk ∧ ¬ F1 bv := ⟨fun e => (iB _ e).elim pT (by omega), fun e => (iB _ e).elim rL (by omega), fun e => (iB _ e).elim vN (by omega)⟩; have lQ := fB.blk (aM.blk bW) pT; have DS := fB.blk (aM.blk fb) rL; have DT := fB.blk (aM.blk lH) vN; have o8 := h1.lt; refine qN rfl (rValP rfl rfl (pal (cs := [_]) ti110 rfl) ?_); rintro _ w6 ⟨bp, rfl, Bz, aO, bD⟩; refine qM rfl (qV (ymf (first := []) (caps := [.tmp 3, .tmp 4, .tmp 5, .tmp 7]) rfl rfl) (rEffP rfl (zst ti110 rfl rfl rfl bD (by simp)) ?_)); rintro w7 ⟨dH, bg⟩; have aU : Ext w5 w7 := aO.trans_new bg (fun i hi => by omega); have h7 := h1.ext aU; have wh : ¬ F1 bp := fun e => by have := o8 _ e; omega
     have jt : PutC w7 F1 p k v bt bk bv bp := ⟨aU.blk lQ, aU.blk DS, aU.blk DT, dH, wg.1, wg.2.1, wg.2.2, wh⟩; have IM := aU.size; have gx := Ext.drew0 w7; have kV := gx.size; have mJ := ff.gl
     have fU : Ret Tryz.prog 68 [I T1.root, ptr bt 0, ptr bk 0, ptr bv 0, ptr bp 0] w7.drew fun val w' => ∃ T' nb' F', TreeA w' p T' nb' F' ∧ PutPost T1 H1 T1.root [] none ns1 es k v val T' ∧ Kp F1 w7.drew w' ∧ (∀ i, F' i → F1 i ∨ w7.drew.heap.size ≤ i) ∧ ∀ x, T1.nodes x ≠ none → x ∉ ns1 → nb' x = nb1 x := by
      have rf : PutC w7.drew F1 p k v bt bk bv bp := jt.kp gx.kp (fun i hi => .inl hi); have gY : T1.size = T.size := (show Evo _ _ _ from fe).size; have f9 : 3 + k.length + v.length ≤ mostE T1.size := by rw [gY]; exact sm.2
      have lN : T1.count ≤ 1000000000 := by have := ff.cnt; omega
      rcases pV with ⟨e1, e2⟩ | uh
      ·subst e1; subst e2; exact put_leaf_ret (h7.ext gx) rf ff.bn (inB_top k) hk f9 ff.giv ff.gnum (by omega) (.inl rfl) lN
      ·obtain ⟨h0, rfl⟩ : ∃ h0, H1 = h0 + 1 := ⟨H1 - 1, by have := ff.bn.pos; omega⟩; exact putAt_all h0 _ T1 nb1 F1 T1.root [] none ns1 es (h7.ext gx) rf ff.bn ff.nd (inB_top k) hk f9 ff.giv ff.gnum ff.num (by omega) lN d9
     obtain ⟨mN7, mC7, mO7, gv7, kn7, kc7, ko7, O7⟩ := h7.opn; have im := O7.blk; have eU := jt.t; refine rEnd (run_seq (run_seq (run_drawL [5] (fun w' => Ext w7 w') (by kernel_rfl) rfl (qL [5, 6, 7, 8, 9, 10] 0 rfl (fun _ h=>(by first | exact yld U110 rfl rfl (h.blk dH) rfl | exact yld U110 rfl rfl (h.blk eU) rfl | exact yld U110 rfl rfl (h.blk im) rfl)) gx ?_)))); refine qL [2, 3, 4, 5, 6, 7, 8, 9, 10] 1 rfl (fun _ h=>(by first | exact yld U24 rfl rfl (h.blk dH) rfl | exact yld U24 rfl rfl (h.blk eU) rfl | exact yld U24 rfl rfl (h.blk im) rfl)) gx ?_; refine qL [3, 4, 5, 6, 7, 8, 9, 10] 2 rfl (fun _ h=>ynk rfl) gx (qL [4, 5, 6, 7, 8, 9, 10] 3 rfl (fun _ h=>yfa fl74_1 rfl) gx (qL [5, 6, 7, 8, 9, 10] 4 rfl (fun _ h=>(by first | exact yld U3 rfl rfl (h.blk dH) rfl | exact yld U3 rfl rfl (h.blk eU) rfl | exact yld U3 rfl rfl (h.blk im) rfl)) gx ?_)); refine hLate [5] (by kernel_rfl) (by kernel_rfl) (qO 5 (nCall (i := 5) rfl rfl rfl (ycv' (args := [.tmp 56]) cf68 rfl rfl) (fU) ?_)); rintro v8 w8 ⟨T2, nb2, F2, h2, ⟨wj, io, iU⟩, am, ct, -⟩; refine ⟨trivial, ?_⟩; have gY : T1.size = T.size := (show Evo _ _ _ from fe).size; have zB : sizeOk (T1.size : Int) := by rw [gY]; exact hz
     have DU : Kp F w4 w7.drew := fB.trans (aU.trans gx).kp; have lR : Kp F w4 w8 := DU.trans_new am (fun i hi => (iB i hi).symm); have IN := fB.size
     have ge : ∀ g, F2 g → F g ∨ w4.heap.size ≤ g := fun g hg => by
      rcases ct g hg with e | e
      ·exact iB g e
      ·exact .inr (by omega)
     have zC : T2.count = (insE es k v).length := by rw [insE_len, wj, ff.cnt]
     have kC := lR.blk (aM.blk bW) pT; have pW : ¬ F2 bt := fun e => (ge _ e).elim pT (by omega); have DV := fe.trans io.toR; rcases iU with ⟨rfl, cy, -⟩ | ⟨up, more, rfl, ik⟩
     ·obtain ⟨nsx, cQ, lO⟩ := cy; have zD : InvP T2 H1 nsx (insE es k v) := ff.step io cQ lO zC; refine zqt 6 rfl (ymv rfl) trivial (zqt 7 rfl (yex rfl rfl) trivial (zqt 8 rfl (yex rfl rfl) trivial (zqt 9 rfl (yas rfl) trivial (zqt 10 rfl (yas rfl) trivial (qE (qN rfl (zqm rfl (qV (yne rfl rfl) (rEnd (run_false rfl (run_skip (qN rfl (qV (yld U24 rfl rfl kC rfl) ?_))))))))))))); refine zqc [.tmp 78] cf48 rfl (settle_ret h2 zD) ?_; rintro _ w9 ⟨rfl, T3, H3, ns3, F3, h3, l9, IP, nW, aw, oM⟩; refine qM rfl (zqa rfl (rEnd (run_ret Tryz.func38 rfl ?_))); have mI := lR.size; refine ⟨_, rfl, .inr (.inr ⟨rfl, sm, kB, T3, H3, ns3, ⟨_, F3, h3, l9, e7.kp.trans (lR.trans_new aw (fun i hi => (ge i hi).symm)), fun g hg => ?_⟩, (DV.trans nW).mono (by omega)⟩)⟩; have zE := e7.size; rcases oM g hg with e | e
      ·exact (ge g e).imp id (fun e => by omega)
      ·exact .inr (by omega)
     ·refine zqt 6 rfl (ymv rfl) trivial (zqt 7 rfl (yex rfl rfl) trivial (zqt 8 rfl (yex rfl rfl) trivial (zqt 9 rfl (yas rfl) trivial (zqt 10 rfl (yas rfl) trivial (qE (qN rfl (zqm rfl (qV (yne rfl rfl) (rEnd (run_cut (fun e' w10 => ∃ T3 H3 ns3 nb3 F3, e' = [(3, ptr bt 0), (6, I 0)] ∧ TreeA w10 p T3 nb3 F3 ∧ InvP T3 H3 ns3 (insE es k v) ∧ EvoR T T3 (H + 3) ∧ Kp F w4 w10 ∧ ∀ g, F3 g → F g ∨ w4.heap.size ≤ g) ?kZ (fun kZ => ?vq)))))))))))
      case kZ =>
       rintro e' w10 ⟨T3, H3, ns3, nb3, F3, rfl, h3, l9, nW, eW, oM⟩; have zF := eW.blk (aM.blk bW) pT; refine qN rfl (qV (yld U24 rfl rfl zF rfl) (zqc [.tmp 78] cf48 rfl (settle_ret h3 l9) ?_)); rintro _ w11 ⟨rfl, T4, H4, ns4, F4, IQ, wk, KC, y7, DW, Gq⟩; refine qM rfl (zqa rfl (rEnd (run_ret Tryz.func38 rfl ?_))); have i5 := eW.size; have zE := e7.size; refine ⟨_, rfl, .inr (.inr ⟨rfl, sm, kB, T4, H4, ns4, ⟨_, F4, IQ, wk, e7.kp.trans (eW.trans_new DW (fun i hi => (oM i hi).symm)), fun g hg => ?_⟩, (nW.trans y7).mono (by omega)⟩)⟩; rcases Gq g hg with e | e
       ·exact (oM g e).imp id (fun e => by omega)
       ·exact .inr (by omega)
      case vq =>
       refine run_if rfl (fun hm => ?_) (fun hm => ?_)
       ·have nq : T2.given.length ≤ 2147483647 := by
         have := rise_len io.srt.rise (fun x hx => (io.toR.num ff.num ff.gnum).2 x hx); omega
        obtain ⟨f, gs, fA⟩ : ∃ f gs, T2.given = f :: gs := by
         cases e : T2.given with
         | nil =>
           have dt := io.len; rw [e] at dt; simp at dt; rcases pV with ⟨e1, e2⟩ | uh
           ·subst e1; subst e2; have := ik.two zB; rw [insE_len] at this; simp at this; split at this <;> omega
           ·omega
         | cons a l => exact ⟨a, l, rfl⟩
        have uh := ff.num T1.root (ff.bn.some _ ff.bn.mem); obtain ⟨r, hr⟩ : ∃ r : Nat, T1.root = (r : Int) := ⟨T1.root.toNat, by omega⟩; have qW : T2.root = (r : Int) := by rw [io.root]; exact hr
        obtain ⟨ns3, l9, nW⟩ := ff.two zB io ik fA hr zC
        have KD : 1 ≤ (more : Int) ∧ (more : Int) ≤ 2147483647 := by
         obtain ⟨n1, n2, e1, e2, -, -, cQ, -⟩ := ik; exact (io.toR.num ff.num ff.gnum).1 _ (cQ.some _ cQ.mem)
        have eF : 1 ≤ up.length ∧ up.length ≤ 64 := by
         obtain ⟨n1, n2, e1, e2, -, -, -, -, -, -, hu, -⟩ := ik; exact hu
        obtain ⟨mN8, mC8, mO8, gv8, kn8, kc8, ko8, O8⟩ := h2.opn; have nr : Blk w8 p [I (T2.size : Int), I ((r : Nat) : Int), I (mostE T2.size : Int), I (orderE T2.size : Int), I (T2.count : Int), .map (some mN8), gv8, .map (some mC8), .map (some mO8)] 74 := by rw [← qW]; exact O8.blk
        have DX := Ext.drew0 w8; have ad : Kp F2 w8 w8.drew := DX.kp; have fx : Ext w8 w8.drew := DX; have fF := h2.lt; have bR := DX.size; have mI := lR.size; have zE := e7.size; refine run_drawL [16] (fun w' => Kp F2 w8 w') (by kernel_rfl) rfl (qL [14, 15, 16] 0 rfl (fun _ h=>yld U24 rfl rfl (h.blk kC pW) rfl) ad (qL [13, 14, 15, 16] 1 rfl (fun _ h=>yld U24 rfl rfl (h.blk kC pW) rfl) ad (qL [3, 12, 13, 14, 15, 16] 2 rfl (fun _ h=>ymv rfl) ad (qL [5, 6, 7, 8, 11, 12, 13, 14, 15, 16] 4 rfl (fun _ h=>yld U24 rfl rfl (h.blk kC pW) rfl) ad (qL [6, 7, 8, 11, 12, 13, 14, 15, 16] 5 rfl (fun _ h=>ynk rfl) ad (qL [7, 8, 11, 12, 13, 14, 15, 16] 6 rfl (fun _ h=>yfa fl74_1 rfl) ad (qL [10, 11, 12, 13, 14, 15, 16] 9 rfl (fun _ h=>ymv rfl) ad (qL [11, 12, 13, 14, 15, 16] 10 rfl (fun _ h=>ycv32 rfl U3 U89) ad (hTwoL (i := 3) (j := 7) (by kernel_rfl) ?_ ?_)))))))))
        ·refine nValPL (i := 3) rfl rfl rfl (pbs (parts := [(0, .tmp 64)]) (cs := [_]) (zs := [Value.string ⟨#[]⟩]) U23 ti9 rfl (by kernel_rfl) rfl rfl rfl (by decide)) ?_; rintro _ wa ⟨ba, rfl, ⟨CZ, iG, ja⟩, pX⟩; refine ⟨ad.trans iG.kp, ?_⟩; have ad := ad.trans (iG.kp (S := F2)); have fx := fx.trans iG
         try have kq := kq.ext iG
         have Gr : w8.heap.size ≤ ba := by omega
         have bR := Nat.le_trans bR iG.size; refine hOneL (i := 7) (by kernel_rfl) (nValL (i := 7) rfl rfl rfl (yld U3 rfl rfl (fx.blk nr) rfl) (ad) (qL [11, 12, 13, 14, 15, 16] 8 rfl (fun _ h=>ycv32 rfl U3 U89) ad (hOneL (i := 11) (by kernel_rfl) (nValPL (i := 11) rfl rfl rfl (pbs (parts := [(0, .tmp 70), (1, .tmp 72)]) (cs := [_, _]) (zs := [Value.int .u32 0, Value.int .u32 0]) U82 ti89 rfl (by kernel_rfl) rfl rfl rfl (by decide)) ?_)))); rintro _ wb ⟨bb, rfl, ⟨qU, fw, iF⟩, kq⟩; refine ⟨ad.trans fw.kp, ?_⟩; have ad := ad.trans (fw.kp (S := F2)); have fx := fx.trans fw
         try have pX := pX.ext fw
         have Gs : w8.heap.size ≤ bb := by omega
         have bR := Nat.le_trans bR fw.size; refine qL [13, 14, 15, 16] 12 rfl (fun _ h=>ybd (parts := [(1, .tmp 65), (3, .tmp 73)]) (cs := [_, _, _, _]) ti84 rfl sp84 rfl rfl) ad ?_; have aZ : ba ≠ bb := by have := ja.lt; have := iF.lt; omega
         rw [Nat.mod_eq_of_lt (show more < 4294967296 by omega), Nat.mod_eq_of_lt (show r < 4294967296 by omega)] at kq; have lG : NdP _ (innNd r [(up, more)]) _ (.slice none 0 0) _ := ⟨pX, Sl.nil _ _ _, kq, ⟨by simp [innNd], by simp [innNd], by simp [innNd], by simp [innNd]; omega, by simp [innNd], by simp [innNd]; omega⟩, fun k hk => ⟨by simp [Value.ownBlock], fun e => aZ ((oinj hk).trans (oinj e).symm)⟩, fun k hk => by simp [Value.ownBlock] at hk⟩
         have jg := fresh_ret (h2.ext fx) fA (by rw [fA] at nq; simp at nq; omega) lG (fun g hg hh => by
          have := fF g hh; rcases hg with e | e | e
          ·have e' : ba = g := oinj e; omega
          ·simp [Value.ownBlock] at e
          ·have e' : bb = g := oinj e; omega) (io.srt.free f (by rw [fA]; simp)).1
         rw [show (innNd r [(up, more)]).leaf = false from rfl] at jg; refine hOneL (i := 13) (by kernel_rfl) (nCallL (i := 13) rfl rfl rfl (yc (args := [.tmp 63, .tmp 74]) cf67 rfl) (jg) ?_); rintro _ w9 ⟨rfl, b9, F9, h9, aB, uZ⟩; refine ⟨ad.trans aB, ?_⟩; have ad := ad.trans aB; obtain ⟨mN9, mC9, mO9, gv9, kn9, kc9, ko9, O9⟩ := h9.opn; have cZ := O9.blk; refine qL [15, 16] 14 rfl (fun _ h=>ynk rfl) ad (qL [16] 15 rfl (fun _ h=>yfa fl74_1 rfl) ad (hLate [16] (by kernel_rfl) (by kernel_rfl) (qO 16 (nEffP (i := 16) rfl rfl (zst ti3 rfl rfl rfl cZ (by simp [trCs])) ?_)))); rintro w10 ⟨bN, aK⟩; refine ⟨trivial, ?_⟩; refine qE (Run.qb (e := [(3, _), (6, _)]) ?_); have od := O9.setB w10 f T2.count (by simpa [trCs, Tr.setN, Tr.mark] using bN) aK
         have i9 : ∀ g, F9 g → F g ∨ w4.heap.size ≤ g := fun g hg => by
          rcases uZ g hg with e | e | e
          ·exact ge g e
          ·exact .inr (by omega)
          ·rcases e with e | e | e
           ·have e' : ba = g := oinj e; exact .inr (by omega)
           ·simp [Value.ownBlock] at e
           ·have e' : bb = g := oinj e; exact .inr (by omega)
         have eW : Kp F w4 w10 := (lR.trans_new ad (fun i hi => (ge i hi).symm)).trans_new aK (fun i hi => by rw [hi]; exact (i9 _ O9.fp.1).symm); exact (kZ _ _ ⟨_, _, ns3, _, F9, rfl, od, l9, (fe.trans nW).mono (by omega), eW, i9⟩).qb
        ·refine nValL (i := 7) rfl rfl rfl (yld U3 rfl rfl (fx.blk nr) rfl) (ad) (qL [11, 12, 13, 14, 15, 16] 8 rfl (fun _ h=>ycv32 rfl U3 U89) ad (hTwoL (i := 3) (j := 11) (by kernel_rfl) ?_ ?_))
         ·refine nValPL (i := 3) rfl rfl rfl (pbs (parts := [(0, .tmp 64)]) (cs := [_]) (zs := [Value.string ⟨#[]⟩]) U23 ti9 rfl (by kernel_rfl) rfl rfl rfl (by decide)) ?_; rintro _ wa ⟨ba, rfl, ⟨CZ, iG, ja⟩, pX⟩; refine ⟨ad.trans iG.kp, ?_⟩; have ad := ad.trans (iG.kp (S := F2)); have fx := fx.trans iG
          try have kq := kq.ext iG
          have Gr : w8.heap.size ≤ ba := by omega
          have bR := Nat.le_trans bR iG.size; refine hOneL (i := 11) (by kernel_rfl) (nValPL (i := 11) rfl rfl rfl (pbs (parts := [(0, .tmp 70), (1, .tmp 72)]) (cs := [_, _]) (zs := [Value.int .u32 0, Value.int .u32 0]) U82 ti89 rfl (by kernel_rfl) rfl rfl rfl (by decide)) ?_); rintro _ wb ⟨bb, rfl, ⟨qU, fw, iF⟩, kq⟩; refine ⟨ad.trans fw.kp, ?_⟩; have ad := ad.trans (fw.kp (S := F2)); have fx := fx.trans fw
          try have pX := pX.ext fw
          have Gs : w8.heap.size ≤ bb := by omega
          have bR := Nat.le_trans bR fw.size; refine qL [13, 14, 15, 16] 12 rfl (fun _ h=>ybd (parts := [(1, .tmp 65), (3, .tmp 73)]) (cs := [_, _, _, _]) ti84 rfl sp84 rfl rfl) ad ?_; have aZ : ba ≠ bb := by have := ja.lt; have := iF.lt; omega
          rw [Nat.mod_eq_of_lt (show more < 4294967296 by omega), Nat.mod_eq_of_lt (show r < 4294967296 by omega)] at kq; have lG : NdP _ (innNd r [(up, more)]) _ (.slice none 0 0) _ := ⟨pX, Sl.nil _ _ _, kq, ⟨by simp [innNd], by simp [innNd], by simp [innNd], by simp [innNd]; omega, by simp [innNd], by simp [innNd]; omega⟩, fun k hk => ⟨by simp [Value.ownBlock], fun e => aZ ((oinj hk).trans (oinj e).symm)⟩, fun k hk => by simp [Value.ownBlock] at hk⟩
          have jg := fresh_ret (h2.ext fx) fA (by rw [fA] at nq; simp at nq; omega) lG (fun g hg hh => by
           have := fF g hh; rcases hg with e | e | e
           ·have e' : ba = g := oinj e; omega
           ·simp [Value.ownBlock] at e
           ·have e' : bb = g := oinj e; omega) (io.srt.free f (by rw [fA]; simp)).1
          rw [show (innNd r [(up, more)]).leaf = false from rfl] at jg; refine hOneL (i := 13) (by kernel_rfl) (nCallL (i := 13) rfl rfl rfl (yc (args := [.tmp 63, .tmp 74]) cf67 rfl) (jg) ?_); rintro _ w9 ⟨rfl, b9, F9, h9, aB, uZ⟩; refine ⟨ad.trans aB, ?_⟩; have ad := ad.trans aB; obtain ⟨mN9, mC9, mO9, gv9, kn9, kc9, ko9, O9⟩ := h9.opn; have cZ := O9.blk; refine qL [15, 16] 14 rfl (fun _ h=>ynk rfl) ad (qL [16] 15 rfl (fun _ h=>yfa fl74_1 rfl) ad (hLate [16] (by kernel_rfl) (by kernel_rfl) (qO 16 (nEffP (i := 16) rfl rfl (zst ti3 rfl rfl rfl cZ (by simp [trCs])) ?_)))); rintro w10 ⟨bN, aK⟩; refine ⟨trivial, ?_⟩; refine qE (Run.qb (e := [(3, _), (6, _)]) ?_); have od := O9.setB w10 f T2.count (by simpa [trCs, Tr.setN, Tr.mark] using bN) aK
          have i9 : ∀ g, F9 g → F g ∨ w4.heap.size ≤ g := fun g hg => by
           rcases uZ g hg with e | e | e
           ·exact ge g e
           ·exact .inr (by omega)
           ·rcases e with e | e | e
            ·have e' : ba = g := oinj e; exact .inr (by omega)
            ·simp [Value.ownBlock] at e
            ·have e' : bb = g := oinj e; exact .inr (by omega)
          have eW : Kp F w4 w10 := (lR.trans_new ad (fun i hi => (ge i hi).symm)).trans_new aK (fun i hi => by rw [hi]; exact (i9 _ O9.fp.1).symm); exact (kZ _ _ ⟨_, _, ns3, _, F9, rfl, od, l9, (fe.trans nW).mono (by omega), eW, i9⟩).qb
         ·refine nValPL (i := 11) rfl rfl rfl (pbs (parts := [(0, .tmp 70), (1, .tmp 72)]) (cs := [_, _]) (zs := [Value.int .u32 0, Value.int .u32 0]) U82 ti89 rfl (by kernel_rfl) rfl rfl rfl (by decide)) ?_; rintro _ wb ⟨bb, rfl, ⟨qU, fw, iF⟩, kq⟩; refine ⟨ad.trans fw.kp, ?_⟩; have ad := ad.trans (fw.kp (S := F2)); have fx := fx.trans fw
          try have pX := pX.ext fw
          have Gs : w8.heap.size ≤ bb := by omega
          have bR := Nat.le_trans bR fw.size; refine hOneL (i := 3) (by kernel_rfl) (nValPL (i := 3) rfl rfl rfl (pbs (parts := [(0, .tmp 64)]) (cs := [_]) (zs := [Value.string ⟨#[]⟩]) U23 ti9 rfl (by kernel_rfl) rfl rfl rfl (by decide)) ?_); rintro _ wa ⟨ba, rfl, ⟨CZ, iG, ja⟩, pX⟩; refine ⟨ad.trans iG.kp, ?_⟩; have ad := ad.trans (iG.kp (S := F2)); have fx := fx.trans iG
          try have kq := kq.ext iG
          have Gr : w8.heap.size ≤ ba := by omega
          have bR := Nat.le_trans bR iG.size; refine qL [13, 14, 15, 16] 12 rfl (fun _ h=>ybd (parts := [(1, .tmp 65), (3, .tmp 73)]) (cs := [_, _, _, _]) ti84 rfl sp84 rfl rfl) ad ?_; have aZ : ba ≠ bb := by have := ja.lt; have := iF.lt; omega
          rw [Nat.mod_eq_of_lt (show more < 4294967296 by omega), Nat.mod_eq_of_lt (show r < 4294967296 by omega)] at kq; have lG : NdP _ (innNd r [(up, more)]) _ (.slice none 0 0) _ := ⟨pX, Sl.nil _ _ _, kq, ⟨by simp [innNd], by simp [innNd], by simp [innNd], by simp [innNd]; omega, by simp [innNd], by simp [innNd]; omega⟩, fun k hk => ⟨by simp [Value.ownBlock], fun e => aZ ((oinj hk).trans (oinj e).symm)⟩, fun k hk => by simp [Value.ownBlock] at hk⟩
          have jg := fresh_ret (h2.ext fx) fA (by rw [fA] at nq; simp at nq; omega) lG (fun g hg hh => by
           have := fF g hh; rcases hg with e | e | e
           ·have e' : ba = g := oinj e; omega
           ·simp [Value.ownBlock] at e
           ·have e' : bb = g := oinj e; omega) (io.srt.free f (by rw [fA]; simp)).1
          rw [show (innNd r [(up, more)]).leaf = false from rfl] at jg; refine hOneL (i := 13) (by kernel_rfl) (nCallL (i := 13) rfl rfl rfl (yc (args := [.tmp 63, .tmp 74]) cf67 rfl) (jg) ?_); rintro _ w9 ⟨rfl, b9, F9, h9, aB, uZ⟩; refine ⟨ad.trans aB, ?_⟩; have ad := ad.trans aB; obtain ⟨mN9, mC9, mO9, gv9, kn9, kc9, ko9, O9⟩ := h9.opn; have cZ := O9.blk; refine qL [15, 16] 14 rfl (fun _ h=>ynk rfl) ad (qL [16] 15 rfl (fun _ h=>yfa fl74_1 rfl) ad (hLate [16] (by kernel_rfl) (by kernel_rfl) (qO 16 (nEffP (i := 16) rfl rfl (zst ti3 rfl rfl rfl cZ (by simp [trCs])) ?_)))); rintro w10 ⟨bN, aK⟩; refine ⟨trivial, ?_⟩; refine qE (Run.qb (e := [(3, _), (6, _)]) ?_); have od := O9.setB w10 f T2.count (by simpa [trCs, Tr.setN, Tr.mark] using bN) aK
          have i9 : ∀ g, F9 g → F g ∨ w4.heap.size ≤ g := fun g hg => by
           rcases uZ g hg with e | e | e
           ·exact ge g e
           ·exact .inr (by omega)
           ·rcases e with e | e | e
            ·have e' : ba = g := oinj e; exact .inr (by omega)
            ·simp [Value.ownBlock] at e
            ·have e' : bb = g := oinj e; exact .inr (by omega)
          have eW : Kp F w4 w10 := (lR.trans_new ad (fun i hi => (ge i hi).symm)).trans_new aK (fun i hi => by rw [hi]; exact (i9 _ O9.fp.1).symm); exact (kZ _ _ ⟨_, _, ns3, _, F9, rfl, od, l9, (fe.trans nW).mono (by omega), eW, i9⟩).qb
       ·exfalso; apply hm; intro e; obtain ⟨n1, n2, e1, e2, -, -, -, -, -, -, -, -, -, ut⟩ := ik; omega
    case dN =>
     refine run_if rfl (fun hr => ?_) (fun hr => ?_)
     ·obtain ⟨f, gs, fA⟩ : ∃ f gs, T.given = f :: gs := by
       cases e : T.given with
       | nil => rw [e] at kB; simp at kB
       | cons a l => exact ⟨a, l, rfl⟩
      have a8 := Ext.drew0 w4; obtain ⟨xp, KE, IR, fe⟩ := hI.first hz hr fA; subst xp; have lG : NdP w4.drew (leafNd []) (.slice none 0 0) (.slice none 0 0) (.slice none 0 0) := ⟨Sl.nil _ _ _, Sl.nil _ _ _, Sl.nil _ _ _, leaf_bd hz ⟨by simp, List.Pairwise.nil⟩ (by simp [entB]), fun k hk => by simp [Value.ownBlock] at hk, fun k hk => by simp [Value.ownBlock] at hk⟩; have bM : ∀ k, ¬ ownP (.slice none 0 0) (.slice none 0 0) (.slice none 0 0) k := fun k hk => by simp [ownP, Value.ownBlock] at hk
      have jg := fresh_ret (h4.ext a8) fA (by rw [fA] at de; simp at de; omega) lG (fun k hk => absurd hk (bM k)) (hI.giv.free f (by rw [fA]; simp)).1; rw [show (leafNd []).leaf = true from rfl] at jg; refine run_drawL [6] (fun w' => Kp F w4 w') (by kernel_rfl) rfl (qL [4, 5, 6] 0 rfl (fun _ h=>yld U24 rfl rfl (h.blk pU pT) rfl) (a8.kp) (qL [3, 4, 5, 6] 1 rfl (fun _ h=>yld U24 rfl rfl (h.blk pU pT) rfl) (a8.kp) (qL [3, 4, 5, 6] 2 rfl (fun _ hS => ybd (parts := [(0, .const (Value.bool true))]) (cs := [_, _, _, _]) ti84 rfl sp84 rfl rfl) (a8.kp) (hOneL (i := 3) (by kernel_rfl) (nCallL (i := 3) rfl rfl rfl (yc (args := [.tmp 45, .tmp 46]) cf67 rfl) (jg) ?_))))); rintro _ w5 ⟨rfl, b5, F5, h5, bh, jr⟩; refine ⟨a8.kp.trans bh, ?_⟩; obtain ⟨mN5, mC5, mO5, gv5, kn5, kc5, ko5, O5⟩ := h5.opn; have bx := O5.blk; refine qL [5, 6] 4 rfl (fun _ h=>ynk rfl) (a8.kp.trans bh) (qL [6] 5 rfl (fun _ h=>yfa fl74_1 rfl) (a8.kp.trans bh) (hLate [6] (by kernel_rfl) (by kernel_rfl) (qO 6 (nEffP (i := 6) rfl rfl (zst ti3 rfl rfl rfl bx (by simp [trCs])) ?_)))); rintro w6 ⟨bD, bX⟩; refine ⟨trivial, ?_⟩; refine qE (Run.qb (e := [(3, _), (4, _), (5, _), (6, _)]) ?_); have h6 := O5.setB w6 f T.count (by simpa [trCs, Tr.setN, Tr.mark] using bD) bX; have kW := a8.size
      have dV : ∀ g, F5 g → F g ∨ w4.heap.size ≤ g := fun g hg => by
       rcases jr g hg with e | e | e
       ·exact .inl e
       ·exact .inr (by omega)
       ·exact absurd e (bM g)
      refine (hk _ _ ⟨_, _, F5, 1, [f], 1, rfl, h6, IR, fe, by omega, .inl ⟨rfl, rfl⟩, fun c ps hn => ?_, (a8.kp.trans bh).trans_new bX (fun i hi => by rw [hi]; exact (dV _ O5.fp.1).symm), dV⟩).qb; have gB : updI T.nodes f (some (leafNd [])) f = some (innNd c ps) := hn; rw [updI_same] at gB; have := congrArg (fun n => n.map Nd.leaf) gB; simp [leafNd, innNd] at this
     ·refine run_skip ?_; have hP := hI.toP hr; refine (hk _ _ ⟨T, nb, F, H, ns, 0, rfl, h4, hP, (Evo.refl hI.giv).toR, by omega, .inr kB, fun c ps hn => ?_, Kp.refl _ _, fun g hg => .inl hg⟩).qb; rcases hI.std with ⟨e, -⟩ | ⟨-, -, -, -, br⟩
      ·exact absurd e hr
      ·have := br _ hn; intro e; rw [e] at this; exact this rfl
 ·refine run_draw (fun w' => Ext w3 w') (by kernel_rfl) rfl (qT 0 rfl (fun _ h=>(by first | exact yld U9 rfl rfl (h.blk bW) rfl | exact yld U9 rfl rfl (h.blk fb) rfl | exact yld U9 rfl rfl (h.blk lH) rfl | exact yld U9 rfl rfl (h.blk ey) rfl)) ax ?_); refine zqo 1 [.tmp 14] rfl cf66 rfl (gA false _ (decide_eq_false hk)) ?_; rintro _ w4 ⟨rfl, rfl⟩; refine ⟨ax, ?_⟩; refine zqt 2 rfl ((by first | exact yntd rfl | exact ynt rfl)) ax ?_; refine zqt 3 rfl (ymv rfl) ax (qJ 4 rfl (ax) (qJ 5 rfl (ax) (qJ 6 rfl (ax) (qJ 7 rfl (ax) (qJ 8 rfl (ax) (qJ 9 rfl (ax) (qJ 10 rfl (ax) (qJ 11 rfl (ax) (qJ 12 rfl (ax) (qJ 13 rfl (ax) (qJ 14 rfl (ax) (zqt 15 rfl (ypT rfl rfl) ax (zqt 16 rfl (yas rfl) ax ?_))))))))))))); refine qE (Run.qb (e := [(3, _), (4, _), (5, _), (6, _), (13, _)]) ?_); refine run_true rfl (qN rfl (zqa rfl (rEnd (run_ret Tryz.func38 rfl ?_)))); exact ⟨_, rfl, .inl ⟨rfl, fun hh => hk hh.1, eR.trans ax⟩⟩
end
def Tr0 (z : Nat) : Tr := ⟨z, 0, 0, fun _ => none, [], fun _ => false, fun _ => false⟩
theorem inv0 (z : Nat) : Inv (Tr0 z) 0 [] [] := ⟨.inl ⟨rfl, rfl, rfl, rfl⟩, fun x h => absurd rfl h, rfl, fun x h => absurd rfl h, fun x h => absurd h List.not_mem_nil, ⟨List.Pairwise.nil, fun x h => absurd h List.not_mem_nil⟩, fun x h => absurd rfl h⟩
section
variable {w : World}
theorem newT_ret (z : Int) : Ret Tryz.prog 8 [I z] w fun v w' => Ext w w' ∧ ((sizeOk z ∧ ∃ p F, v = .tuple #[ptr p 0, I 0] ∧ TreeA w' p (Tr0 z.toNat) (fun _ => 0) F ∧ ∀ k, F k → w.heap.size ≤ k) ∨ (¬ sizeOk z ∧ v = .tuple #[.pointer none, I 1])) := by
 refine ret_of_run (e := [(0, _)]) Tryz.func8 rfl Tryz.ntmps8 rfl rfl (qN rfl (zqa rfl (zqa rfl (qM rfl (zqm rfl ?_)))))
 by_cases hz : sizeOk z
 ·obtain ⟨k, rfl⟩ : ∃ k : Nat, z = (k : Int) := ⟨z.toNat, by have := hz.1; omega⟩; refine zqc [.tmp 9] cf34 rfl (most_ok hz w) ?_; rintro _ w ⟨rfl, rfl⟩; refine zqm rfl (qV (yex rfl rfl) (qV (yex rfl rfl) (zqa rfl (zqa rfl (rEnd (run_seq (qN rfl (zqm rfl (qV (yne rfl rfl) (rEnd (run_if rfl (fun h0 => ?_) (fun h0 => ?_))))))))))))
  ·exact absurd rfl h0
  ·refine run_skip (qN rfl (zqm rfl (zqc [.tmp 17] cf35 rfl (order_ok hz w) ?_))); rintro _ w ⟨rfl, rfl⟩; refine zqm rfl (qV (yex rfl rfl) (qV (yex rfl rfl) (zqa rfl (zqa rfl (qM rfl (zqm rfl (zqm rfl (zqm rfl (rValP rfl rfl (pmm) ?_))))))))); rintro _ w1 ⟨m1, rfl, o5, aa, zG⟩; refine rValP rfl rfl (pmm) ?_; rintro _ w2 ⟨m2, rfl, jn, ae, tr⟩; refine rValP rfl rfl (pmm) ?_; rintro _ w3 ⟨m3, rfl, DY, ah, Gt⟩; refine qV (ybd (parts := [(0, .tmp 21), (2, .tmp 22), (3, .tmp 23), (5, .tmp 24), (7, .tmp 25), (8, .tmp 26)]) (cs := [_, _, _, _, _, _, _, _, _]) ti74 rfl sp74 rfl rfl) (rValP rfl rfl (pbx rfl rfl) ?_); rintro _ w4 ⟨b, rfl, hb, aC, aW⟩; refine zqa rfl (zqa rfl (rEnd (Run.qb (e := [(2, _), (3, _)]) ?_))); refine run_ret Tryz.func8 rfl ?_; have eI := aa.size; have eQ := ae.size; have jK := ah.size; have l1 : m1 < w1.heap.size := (MapB.new (K := KZ) zG).lt; have l2 : m2 < w2.heap.size := (MapB.new (K := KZ) tr).lt; have l3 : m3 < w3.heap.size := (MapB.new (K := KZ) Gt).lt; have bL := (MapB.new (K := KZ) zG).ext ((ae.trans ah).trans aC); have cu := (MapB.new (K := KZ) tr).ext (ah.trans aC); have fd := (MapB.new (K := KZ) Gt).ext aC; refine ⟨_, rfl, ((aa.trans ae).trans ah).trans aC, .inl ⟨hz, b, fpT b (Tr0 k) m1 m2 m3 (.slice none 0 0) (fun _ => ⟨0, .slice none 0 0, .slice none 0 0, .slice none 0 0⟩), rfl, ⟨m1, m2, m3, .slice none 0 0, fun _ => ⟨0, .slice none 0 0, .slice none 0 0, .slice none 0 0⟩, ⟨?_, ⟨[], bL, fun _ => rfl⟩, ⟨[], cu, fun _ => rfl⟩, ⟨[], fd, fun _ => rfl⟩, Sl.nil _ _ _, fun no n h => by simp [Tr0] at h, fun no n no' n' h => by simp [Tr0] at h, fun no n h => by simp [Tr0] at h, ⟨by omega, by omega, by omega, by omega, by omega, by omega⟩, fun k hk => by simp [Value.ownBlock] at hk, hz⟩, fun _ => rfl, fun _ => Iff.rfl⟩, fun i hi => ?_⟩⟩
   ·exact aW
   ·rcases hi with h | h | h | h | h | ⟨no, n, h, -⟩
    ·omega
    ·omega
    ·omega
    ·omega
    ·simp [Value.ownBlock] at h
    ·simp [Tr0] at h
 ·have hm := most_ret z w; rw [if_neg hz, if_neg hz] at hm; refine zqc [.tmp 9] cf34 rfl (hm) ?_; rintro _ w ⟨rfl, rfl⟩; refine zqm rfl (qV (yex rfl rfl) (qV (yex rfl rfl) (zqa rfl (zqa rfl (rEnd (run_seq (qN rfl (zqm rfl (qV (yne rfl rfl) (rEnd (run_if rfl (fun h0 => ?_) (fun h0 => ?_))))))))))))
  ·refine qN rfl (zqm rfl (zqa rfl (zqa rfl (rEnd (run_ret Tryz.func8 rfl ?_))))); exact ⟨_, rfl, Ext.refl _, .inr ⟨hz, rfl⟩⟩
  ·exact absurd (by decide) h0
end
def giveOk (T : Tr) (l : List Int) : Prop := l.Nodup ∧ ∀ x ∈ l, (1 ≤ x ∧ x ≤ 2147483647) ∧ T.nodes x = none ∧ T.old x = false ∧ x ∉ T.given
theorem nodup_le {l : List Int} (h : l.Nodup) (hb : ∀ x ∈ l, 1 ≤ x ∧ x ≤ 2147483647) : l.length ≤ 2147483647 := by
 have h1 := rise_len (sortZ_lt h) (a := 1) (b := 2147483647) (fun x hx => hb x (sortZ_mem.1 hx))
 rw [sortZ_len] at h1
 omega
theorem Inv.give {T : Tr} {H : Nat} {ns : List Int} {es : Es} (h : Inv T H ns es) {l : List Int} (hl : giveOk T l) : Inv { T with given := sortZ (T.given ++ l) } H ns es := by
 obtain ⟨h1, h2⟩ := hl
 refine ⟨h.std, h.all, h.cnt, h.num, fun x hx => ?_, ⟨sortZ_lt ?_, fun x hx => ?_⟩, h.chg⟩
 ·rcases List.mem_append.1 (sortZ_mem.1 hx) with hx | hx
  ·exact h.gnum x hx
  ·exact (h2 x hx).1
 ·exact List.nodup_append.2 ⟨nodup_of_lt h.giv.rise, h1, fun a ha b hb e => (h2 b hb).2.2.2 (e ▸ ha)⟩
 ·rcases List.mem_append.1 (sortZ_mem.1 hx) with hx | hx
  ·exact h.giv.free x hx
  ·exact ⟨(h2 x hx).2.1, (h2 x hx).2.2.1⟩
section
variable {w : World} {p : Nat} {T : Tr} {nb : Int → Nat} {F : Nat → Prop}
set_option maxHeartbeats 4000000 in
theorem give_ret (h : TreeA w p T nb F) {H : Nat} {ns : List Int} {es : Es} (hI : Inv T H ns es) {lv : Value} {l : List Int} (hR : Rd w lv 1 l.length (l.map I)) (hl : l.length ≤ 17592186044415) :
  Ret Tryz.prog 50 [ptr p 0, lv] w fun v w' => (v = I 0 ∧ giveOk T l ∧ Kp F w w' ∧ ∃ F', TreeA w' p { T with given := sortZ (T.given ++ l) } nb F' ∧ ∀ k, F' k → F k ∨ w.heap.size ≤ k) ∨ (v = I 1 ∧ ¬ giveOk T l ∧ Ext w w') := by
 obtain ⟨la, lc, rfl, -⟩ := hR.shape
 have de := hI.gl
 have af := h.lt
 refine ret_of_run (e := [(0, _), (1, _)]) Tryz.func50 rfl Tryz.ntmps50 rfl rfl (qN rfl (zqa rfl (rEnd (run_seq (qN rfl (zqm rfl (qV (yeqpN U24 rfl rfl) (rEnd (run_false rfl (run_skip (qN rfl (rValP rfl rfl (pmm) ?_))))))))))))
 rintro _ w1 ⟨ms, rfl, IS, aa, zG⟩
 have jy : ms < w1.heap.size := (MapB.new (K := KZ) zG).lt
 refine zqa rfl (rEnd (run_seq (qN rfl (zqm rfl (qV (yln U34 rfl) (zqm rfl (rEnd (run_block (zqu (α := Nat) (0) (fun i => [(0, ptr p 0), (1, .slice la l.length lc), (5, .map (some ms)), (11, .slice la l.length lc), (12, I (l.length : Int)), (13, I (i : Int))]) (fun i w' => i ≤ l.length ∧ Ext w w' ∧ (l.take i).Nodup ∧ (∀ x ∈ l.take i, (1 ≤ x ∧ x ≤ 2147483647) ∧ T.nodes x = none ∧ T.old x = false ∧ x ∉ T.given) ∧ ∃ kv, MapB KZ w' ms kv ∧ ∀ x, getL kv x = if x ∈ l.take i then some (I 1) else none) (fun i => l.length - i) ?hI ?hround)))))))))
 case hI => exact ⟨Nat.zero_le _, aa, by simp, by simp, [], MapB.new zG, fun x => by simp [getL]⟩
 case hround =>
  rintro i wi ⟨hi, bC, bz, aH, kv, xq, f9⟩ ih; have ab := h.ext bC; obtain ⟨mN, mC, mO, gv, kn, kc, ko, O⟩ := ab.opn; obtain ⟨ga, gcp, nL, -⟩ := O.gs.rd.shape; subst nL; have vD := bC.size
  try dsimp only
  refine qN rfl (qV (ylt rfl rfl) (rEnd (run_seq (run_if rfl (fun ji => ?_) (fun ji => ?_)))))
  ·have cE : i < l.length := by omega
   obtain ⟨lb, lo, s, rfl, bG⟩ := rd_getI hR cE; have bE : s ∈ l := List.mem_of_getElem? bG; refine run_skip (run_seq (run_block (qN rfl (qV (yis U34 ti3 rfl rfl (by omega)) (qV (yldc U3 rfl rfl (rd_intT (hR.ext bC) cE bG)) (zqa rfl (qM rfl (zqm rfl (zqm rfl (qV (ylk (k := s) (K := KZ) U72 (ky_int U3) ti3 rfl rfl xq.l) ?_))))))))))
   have bP : (¬ (1 ≤ s ∧ s ≤ 2147483647) ∨ s ∈ l.take i ∨ T.nodes s ≠ none ∨ T.old s = true ∨ s ∈ T.given) → ¬ giveOk T l := fun hb aQ => by
    obtain ⟨g1, g2⟩ := aQ; obtain ⟨g3, g4, g5, g6⟩ := g2 s bE; rcases hb with hb | hb | hb | hb | hb
    ·exact hb g3
    ·obtain ⟨j, hj, e⟩ := List.mem_take_iff_getElem.1 hb; obtain ⟨pr, e2⟩ := List.getElem?_eq_some_iff.1 bG; have := (List.getElem_inj g1).1 (e.trans e2.symm); omega
    ·exact hb g4
    ·rw [g5] at hb; cases hb
    ·exact g6 hb
   obtain ⟨q, hq, iD⟩ : ∃ q : Nat, (getL kv s).getD (I 0) = I (q : Int) ∧ ((q = 0 ∧ s ∉ l.take i) ∨ (q = 1 ∧ s ∈ l.take i)) := by
    rw [f9 s]; by_cases hm : s ∈ l.take i
    ·exact ⟨1, by rw [if_pos hm]; rfl, .inr ⟨rfl, hm⟩⟩
    ·exact ⟨0, by rw [if_neg hm]; rfl, .inl ⟨rfl, hm⟩⟩
   rw [hq]; refine zqd rfl rfl (rEffP rfl (zmuB U72 (ky_int U3) rfl rfl rfl xq (k := s)) ?_); rintro w2 ⟨cu, am⟩; have ae : Ext w w2 := bC.trans_new am (fun j hj => by omega); have BY : ∀ g, F g → ¬ g = ms := fun g hg e => by have := af g hg; omega
   have ey := am.blk O.blk (BY _ O.fp.1); have DZ := O.nm.kp am (BY _ O.fp.2.1); have IT := O.om.kp am (BY _ O.fp.2.2.2.1); have IU := O.gs.kp am (fun g hg => BY g (O.fp.2.2.2.2 g hg)); have kD : (getL (putL kv s (I ((q : Int) + 1))) s).getD (I 0) = I ((q : Int) + 1) := by rw [getL_put, if_pos rfl]; rfl
   refine qM rfl (zqm rfl (qV (ylt rfl rfl) (rVal_if (fun cD => ?_) (fun cD => ?_))))
   ·refine zqm rfl (qS (qS (qV (ypT rfl rfl) (zqm rfl (qS (qS (qS (qS (qV (ypT rfl rfl) (zqm rfl (qS (qS (qS ?_))))))))))))); refine qS (qS (qS (qS (qV (ypT rfl rfl) (zqm rfl (qS (qS (qS (qS (qS (qS (qS (qV (ypT rfl rfl) ?_))))))))))))); refine zqm rfl (qS (qS (qS (qS (qS (qS (qV (ypT rfl rfl) (rEnd (run_true rfl (qN rfl (zqa rfl (rEnd (run_ret Tryz.func50 rfl ?_))))))))))))); exact ⟨_, rfl, .inr ⟨rfl, bP (.inl (by omega)), ae⟩⟩
   ·refine zqm rfl (zqm rfl (qV (ygt rfl rfl) (rVal_if (fun cP => ?_) (fun cP => ?_))))
    ·refine qV (ypF rfl rfl) (zqm rfl (qS (qS (qS (qS (qV (ypT rfl rfl) (zqm rfl (qS (qS (qS (qS (qS (qS ?_))))))))))))); refine qS (qV (ypT rfl rfl) (zqm rfl (qS (qS (qS (qS (qS (qS (qS (qV (ypT rfl rfl) (zqm rfl (qS (qS ?_))))))))))))); refine qS (qS (qS (qS (qV (ypT rfl rfl) (rEnd (run_true rfl (qN rfl (zqa rfl (rEnd (run_ret Tryz.func50 rfl ?_)))))))))); exact ⟨_, rfl, .inr ⟨rfl, bP (.inl (by omega)), ae⟩⟩
    ·refine qV (ypF rfl rfl) (zqm rfl (zqm rfl (zqm rfl (qV (ylk (k := s) (K := KZ) U72 (ky_int U3) ti3 rfl rfl cu.l) ?_)))); rw [kD]; refine qV (ygt rfl rfl) (rVal_if (fun o3 => ?_) (fun o3 => ?_))
     ·refine qV (ypF rfl rfl) (zqm rfl (qS (qS (qS (qS (qS (qS (qS (qV (ypT rfl rfl) (zqm rfl (qS (qS (qS ?_))))))))))))); refine qS (qS (qS (qS (qV (ypT rfl rfl) (zqm rfl (qS (qS (qS (qS (qS (qS (qV (ypT rfl rfl) (rEnd ?_))))))))))))); refine run_true rfl (qN rfl (zqa rfl (rEnd (run_ret Tryz.func50 rfl ?_)))); exact ⟨_, rfl, .inr ⟨rfl, bP (.inr (.inl (iD.elim (fun e => by have := e.1; omega) (fun e => e.2)))), ae⟩⟩
     ·have tt : s ∉ l.take i ∧ q = 0 := iD.elim (fun e => ⟨e.2, e.1⟩) (fun e => by have := e.1; omega); obtain ⟨tt, rfl⟩ := tt; refine qV (ypF rfl rfl) (zqm rfl (zqm rfl (qV (ynk rfl) (qV (yfa fl74_5 rfl) (qV (yld U71 rfl rfl ey rfl) (zqm rfl (qV (ylk (k := s) (K := KZ) U71 (ky_int U3) ti81 rfl rfl DZ.l) ?_))))))); rw [show (getL kn s).getD (.pointer none) = (match T.nodes s with | none => .pointer none | some _ => ptr (nb s) 0) by rw [O.ng s]; cases T.nodes s <;> rfl]
      cases j9 : T.nodes s with
      | some n0 =>
        refine qV (ynepN U81 rfl rfl) (qV (ypF rfl rfl) (zqm rfl (qS (qS (qS (qS (qS (qS (qS (qV (ypT rfl rfl) (zqm rfl (qS (qS ?_))))))))))))); refine qS (qS (qS (qS (qV (ypT rfl rfl) (rEnd (run_true rfl (qN rfl (zqa rfl (rEnd (run_ret Tryz.func50 rfl ?_))))))))))
        exact ⟨_, rfl, .inr ⟨rfl, bP (.inr (.inr (.inl (by rw [j9]; simp)))), ae⟩⟩
      | none =>
        refine qV (ynepN U81 rfl rfl) (qV (ypF rfl rfl) (zqm rfl (zqm rfl (qV (ynk rfl) (qV (yfa fl74_8 rfl) (qV (yld U72 rfl rfl ey rfl) (zqm rfl (qV (ylk (k := s) (K := KZ) U72 (ky_int U3) ti3 rfl rfl IT.l) ?_)))))))); rw [show (getL ko s).getD (I 0) = I (if T.old s then 1 else 0) by rw [O.og s]; cases T.old s <;> rfl]; refine qV (ygt rfl rfl) (rVal_if (fun sn => ?_) (fun sn => ?_))
        ·refine qV (ypF rfl rfl) (zqm rfl (qS (qS (qS (qS (qS (qS (qV (ypT rfl rfl) (rEnd (run_true rfl (qN rfl (zqa rfl (rEnd ?_))))))))))))); refine run_ret Tryz.func50 rfl ?_; exact ⟨_, rfl, .inr ⟨rfl, bP (.inr (.inr (.inr (.inl (by cases ho : T.old s <;> simp_all))))), ae⟩⟩
        ·have cN : T.old s = false := by cases ho : T.old s <;> simp_all
         refine qV (ypF rfl rfl) (zqm rfl (zqm rfl (qV (ynk rfl) (qV (yfa fl74_6 rfl) (qV (yld U34 rfl rfl ey rfl) (zqm rfl (zqc [.tmp 55, .tmp 56] cf80 rfl (containsI_ret s IU.rd (by omega)) ?_))))))); rintro _ w2 ⟨rfl, rfl⟩; refine qV (ypF rfl rfl) (rEnd (run_if rfl (fun rn => ?_) (fun rn => ?_)))
         ·refine qN rfl (zqa rfl (rEnd (run_ret Tryz.func50 rfl ?_))); exact ⟨_, rfl, .inr ⟨rfl, bP (.inr (.inr (.inr (.inr rn)))), ae⟩⟩
         ·refine run_skip (run_inBlock (run_reg rfl (zqd rfl rfl (zqm rfl (rEnd ?_))))); obtain ⟨pr, e2⟩ := List.getElem?_eq_some_iff.1 bG; refine (ih (i + 1) w2 ⟨by omega, ae, ?_, fun x hx => ?_, _, cu, fun x => ?_⟩ (by omega)).qb
          ·rw [List.take_succ_eq_append_getElem pr, e2]; exact List.nodup_append.2 ⟨bz, by simp, fun a ha b hb e => by simp at hb; subst hb; subst e; exact tt ha⟩
          ·rcases (mem_take_succ bG).1 hx with hx | rfl
           ·exact aH x hx
           ·exact ⟨by omega, j9, cN, rn⟩
          ·rw [getL_put, f9 x]; by_cases so : x = s
           ·rw [if_pos so, if_pos ((mem_take_succ bG).2 (.inr so))]; rfl
           ·rw [if_neg so]; by_cases nO : x ∈ l.take i
            ·rw [if_pos nO, if_pos ((mem_take_succ bG).2 (.inl nO))]
            ·rw [if_neg nO, if_neg (fun hh => by rcases (mem_take_succ bG).1 hh with e | e; exact nO e; exact so e)]
  ·have : i = l.length := by omega
   subst this; rw [List.take_length] at bz aH; have aQ : giveOk T l := ⟨bz, aH⟩; have l0 := nodup_le bz (fun x hx => (aH x hx).1); have ey := O.blk; have dL : maxLen = 9223372036854775807 := rfl; refine run_exit rfl (qN rfl (zqm rfl (zqm rfl (qV (ynk rfl) (qV (yfa fl74_6 rfl) (qV (yld U34 rfl rfl ey rfl) (zqm rfl (rValP rfl rfl (pap U34 ti3 rfl (by decide) rfl rfl O.gs (hR.ext bC) (by intro c hc; obtain ⟨z, -, rfl⟩ := List.mem_map.1 hc; rfl) (by omega) (by omega)) ?_)))))))); rintro gv2 w2 ⟨bB, am, fT, -⟩; have eQ := am.size; have ip := am.blk ey (fun e => O.ne.2.2.2 e); refine qV (ynk rfl) (qV (yfa fl74_6 rfl) (rEffP rfl (zst ti34 rfl rfl (oneV_sl bB) ip (by simp [trCs])) ?_)); rintro w3 ⟨aG, aw⟩; have gZ : Blk w3 p (trCs T mN mC mO gv2) 74 := aG
   have Gu : ∀ g, gv2.ownBlock = some g → g ≠ p := fun g hg e => by
    subst e; rcases fT g hg with e | e
    ·exact O.ne.2.2.2 e
    ·have := af g O.fp.1; omega
   have bs := bB.kp aw (fun g hg e => Gu g hg e)
   have E0 : Sl w3 gv2 3 1 (T.given ++ l).length ((T.given ++ l).map I) := by
    rw [List.length_append, List.map_append]; exact bs
   refine qM rfl (zqm rfl (qV (ynk rfl) (qV (yfa fl74_6 rfl) (qV (yld U34 rfl rfl gZ rfl) (zqc [.tmp 72] cf62 rfl (sortZ_ret E0 (by rw [List.length_append]; omega)) ?_))))); rintro _ w4 ⟨rfl, gq, az⟩; have aW := az.blk gZ (fun e => Gu p e rfl); refine qM rfl (zqa rfl (rEnd (run_ret Tryz.func50 rfl ?_))); have cR : Kp (fun k => k = p ∨ (Value.slice ga T.given.length gcp).ownBlock = some k) wi w4 := (((am.mono' (fun k e => .inr e)).trans (aw.mono' (fun k e => .inl e)))).trans_new az (fun k e => (fT k e).elim (fun e => .inr (.inr e)) .inl); obtain ⟨F', h', iC⟩ := O.setG w4 gv2 (sortZ (T.given ++ l)) aW gq cR fT; exact ⟨_, rfl, .inl ⟨rfl, aQ, bC.kp.trans (cR.mono' (fun k e => e.elim (fun e => e ▸ O.fp.1) (fun e => O.fp.2.2.2.2 k e))), F', h', fun k hk => (iC k hk).imp id (fun e => by omega)⟩⟩
end
structure Sub1 (z : Nat) (N : Nodes) (V : List Int) (rt : Bool) (no : Int) (lo : Bytes) (hi : Option Bytes) (h : Nat) (ns : List Int) (es : Es) : Prop where
 bn : Bn z N h no lo hi ns es
 nd : ns.Nodup
 out : ∀ x ∈ ns, x ∉ V
 cnd : ∀ n, N no = some n → if rt then n.keys ≠ [] else ¬ n.low z
def NoSub (z : Nat) (N : Nodes) (V : List Int) (rt : Bool) (no : Int) (lo : Bytes) (hi : Option Bytes) : Prop := ∀ h ns es, ¬ Sub1 z N V rt no lo hi h ns es
section
variable {z : Nat} {N : Nodes} {V : List Int} {rt : Bool} {no : Int} {lo : Bytes} {hi : Option Bytes} {n : Nd}
theorem bn_at {h : Nat} {ns : List Int} {es : Es} (s : Bn z N h no lo hi ns es) : ∃ n, N no = some n ∧ NdOk z n ∧ ∀ k ∈ n.keys, inB lo hi k := by
 cases h with
 | zero => exact s.elim
 | succ h => obtain ⟨n, h1, h2, h3, -⟩ := s; exact ⟨n, h1, h2, h3⟩
theorem nosub_none (h : N no = none) : NoSub z N V rt no lo hi := fun _ _ _ s => by
 obtain ⟨n, h1, -⟩ := bn_at s.bn; rw [h] at h1; cases h1
theorem nosub_met (h : no ∈ V) : NoSub z N V rt no lo hi := fun _ _ _ s => s.out no s.bn.mem h
theorem nosub_cnd (hn : N no = some n) (h : ¬ if rt then n.keys ≠ [] else ¬ n.low z) : NoSub z N V rt no lo hi := fun _ _ _ s => h (s.cnd n hn)
theorem nosub_key (hn : N no = some n) {k : Bytes} (hk : k ∈ n.keys) (h : ¬ inB lo hi k) : NoSub z N V rt no lo hi := fun _ _ _ s => by
 obtain ⟨m, h1, -, h3⟩ := bn_at s.bn
 rw [hn] at h1; cases h1
 exact h (h3 k hk)
theorem sub1_leaf (hz : sizeOk (z : Int)) {E : Es} (hn : N no = some (leafNd E)) (aQ : NdOk z (leafNd E)) (cA : ∀ k ∈ (leafNd E).keys, inB lo hi k) (hv : no ∉ V) (hc : if rt then (leafNd E).keys ≠ [] else ¬ (leafNd E).low z) : Sub1 z N V rt no lo hi 1 [no] E := by
 obtain ⟨h1, h2⟩ := (leafNd_ok (by have := hz.2.1; omega)).1 aQ
 refine ⟨Bn.of_leaf (by have := hz.2.1; omega) hn h1 h2 (fun x hx => cA x.1 (List.mem_map.2 ⟨x, hx, rfl⟩)), by simp, by simpa using hv, fun m hm => ?_⟩
 rw [hn] at hm; cases hm; exact hc
structure KidsU (z : Nat) (N : Nodes) (V : List Int) (no : Int) (lo : Bytes) (hi : Option Bytes) (c : Nat) (ps : List (Bytes × Nat)) (h : Nat) (L : List (List Int × Es)) : Prop where
 len : L.length ≤ ps.length + 1
 bn : ∀ (i : Nat) b l, (bnds lo hi c ps)[i]? = some b → L[i]? = some l → Bn z N h (b.1 : Int) b.2.1 b.2.2 l.1 l.2 ∧ Full z N b.1
 nd : (L.flatMap (·.1)).Nodup
 out : ∀ x ∈ L.flatMap (·.1), x ∉ no :: V
variable {c : Nat} {ps : List (Bytes × Nat)} {L : List (List Int × Es)} {h h' a : Nat} {l : Bytes} {u : Option Bytes} {ns : List Int} {es : Es}
theorem KidsU.nil (h : Nat) : KidsU z N V no lo hi c ps h [] := ⟨by simp, fun i b l _ hl => by simp at hl, by simp, by simp⟩
theorem KidsU.change (K : KidsU z N V no lo hi c ps h []) (h' : Nat) : KidsU z N V no lo hi c ps h' [] := KidsU.nil h'
theorem KidsU.step (K : KidsU z N V no lo hi c ps h L) (hb : (bnds lo hi c ps)[L.length]? = some (a, l, u)) (s : Sub1 z N (L.flatMap (·.1) ++ no :: V) false (a : Int) l u h ns es) : KidsU z N V no lo hi c ps h (L ++ [(ns, es)]) := by
 have af : L.length < ps.length + 1 := by
  have := (List.getElem?_eq_some_iff.1 hb).1
  rwa [bnds_length] at this
 refine ⟨by simp; omega, fun i b q dw i0 => ?_, ?_, ?_⟩
 ·rcases Nat.lt_or_ge i L.length with ab | ab
  ·rw [List.getElem?_append_left ab] at i0; exact K.bn i b q dw i0
  ·have e : i = L.length := by
    have := (List.getElem?_eq_some_iff.1 i0).1; simp at this; omega
   subst e; rw [hb] at dw; cases dw; rw [List.getElem?_append_right (Nat.le_refl _)] at i0; simp at i0; subst i0; exact ⟨s.bn, fun m hm => by have := s.cnd m hm; simpa using this⟩
 ·rw [List.flatMap_append, List.nodup_append]; refine ⟨K.nd, by simpa using s.nd, fun x hx y hy e => ?_⟩; subst e; exact s.out x (by simpa using hy) (List.mem_append_left _ hx)
 ·intro x hx; rw [List.flatMap_append] at hx; rcases List.mem_append.1 hx with hx | hx
  ·exact K.out x hx
  ·exact fun hv => s.out x (by simpa using hx) (List.mem_append_right _ hv)
theorem KidsU.pre (hz : sizeOk (z : Int)) (hn : N no = some (innNd c ps)) (K : KidsU z N V no lo hi c ps h L) {h0 : Nat} {ns0 : List Int} {es0 : Es} (s : Sub1 z N V rt no lo hi h0 ns0 es0) :
  ∃ (h2 : Nat) (L' : List (List Int × Es)), L'.length = ps.length + 1 ∧ L'.take L.length = L ∧ (∀ (i : Nat) b l, (bnds lo hi c ps)[i]? = some b → L'[i]? = some l → Bn z N (h2 + 1) (b.1 : Int) b.2.1 b.2.2 l.1 l.2 ∧ Full z N b.1) ∧ (no :: L'.flatMap (·.1)).Nodup ∧ (∀ x ∈ L'.flatMap (·.1), x ∉ V) ∧ (0 < L.length → h = h2 + 1) := by
 have iR := s.bn.pos
 rcases Nat.eq_or_lt_of_le iR with e | e
 ·have hb := s.bn; rw [← e] at hb; obtain ⟨h1, -⟩ := hb.leaf (by have := hz.2.1; omega); rw [hn] at h1; have := congrArg Nd.leaf (oinj h1); simp [leafNd, innNd] at this
 ·obtain ⟨h2, rfl⟩ : ∃ h2, h0 = h2 + 2 := ⟨h0 - 2, by omega⟩; obtain ⟨c', ps', ns', gB, rfl, -, -, -, -, aR, hC⟩ := s.bn.inner (by have := hz.1; omega); rw [hn] at gB; obtain ⟨rfl, rfl⟩ := innNd_inj (oinj gB); obtain ⟨L', fo, hS, rfl, rfl⟩ := (ch_iff hi).1 hC
  have iQ : ∀ (j : Nat) q, L[j]? = some q → L'[j]? = some q ∧ h = h2 + 1 := fun j q hq => by
   have hj : j < L.length := (List.getElem?_eq_some_iff.1 hq).1; have aP := K.len; obtain ⟨b, hb⟩ : ∃ b, (bnds lo hi c ps)[j]? = some b := ⟨_, List.getElem?_eq_getElem (by rw [bnds_length]; omega)⟩; obtain ⟨q', iD⟩ : ∃ q, L'[j]? = some q := ⟨_, List.getElem?_eq_getElem (by omega)⟩; obtain ⟨e1, e2, e3⟩ := bn_det hz (K.bn j b q hb hq).1 (hS j b q' hb iD); rw [iD]; exact ⟨by rw [Prod.ext e2.symm e3.symm], e1⟩
  refine ⟨h2, L', fo, ?_, fun i b l hb hl => ⟨hS i b l hb hl, ?_⟩, s.nd, fun x hx => s.out x (List.mem_cons_of_mem _ hx), fun h0 => ?_⟩
  ·apply List.ext_getElem?; intro j; rw [List.getElem?_take]; split
   ·rename_i hj
    rw [List.getElem?_eq_getElem hj]; exact (iQ j _ (List.getElem?_eq_getElem hj)).1
   ·rw [List.getElem?_eq_none (by omega)]
  ·obtain ⟨a, l', u', h1, js, -, -⟩ := bnds_get hi ps lo c i (by
    have := (List.getElem?_eq_some_iff.1 hb).1
    rw [bnds_length] at this; omega)
   rw [hb] at h1; cases h1; exact aR _ (List.mem_of_getElem? js)
  ·exact (iQ 0 _ (List.getElem?_eq_getElem h0)).2
theorem kidsU_no (hz : sizeOk (z : Int)) (hn : N no = some (innNd c ps)) (K : KidsU z N V no lo hi c ps h L) (hb : (bnds lo hi c ps)[L.length]? = some (a, l, u)) (bK : NoSub z N (L.flatMap (·.1) ++ no :: V) false (a : Int) l u) : NoSub z N V rt no lo hi := fun h0 ns0 es0 s => by
 obtain ⟨h2, L', fo, ht, hS, bz, hv, -⟩ := K.pre hz hn s
 have af : L.length < L'.length := by
  have := (List.getElem?_eq_some_iff.1 hb).1; rw [bnds_length] at this; omega
 have hq := List.getElem?_eq_getElem af
 obtain ⟨b1, b2⟩ := hS _ _ _ hb hq
 have ry : L' = L ++ L'[L.length] :: L'.drop (L.length + 1) := by
  conv => lhs; rw [← List.take_append_drop L.length L', ht, List.drop_eq_getElem_cons af]
 rw [ry, List.flatMap_append, List.flatMap_cons] at bz
 obtain ⟨n1, n2⟩ := List.nodup_cons.1 bz
 obtain ⟨n3, n4, n5⟩ := List.nodup_append.1 n2
 refine bK _ _ _ ⟨b1, (List.nodup_append.1 n4).1, fun x hx bi => ?_, fun m hm => by simpa using b2 m hm⟩
 rcases List.mem_append.1 bi with bi | bi
 ·exact n5 x bi x (List.mem_append_left _ hx) rfl
 ·rcases List.mem_cons.1 bi with rfl | bi
  ·exact n1 (List.mem_append_right _ (List.mem_append_left _ hx))
  ·exact hv x (List.mem_flatMap.2 ⟨_, List.getElem_mem af, hx⟩) bi
theorem kidsU_dep (hz : sizeOk (z : Int)) (hn : N no = some (innNd c ps)) (K : KidsU z N V no lo hi c ps h L) (h0 : 0 < L.length) (hb : (bnds lo hi c ps)[L.length]? = some (a, l, u)) {W : List Int} (s : Sub1 z N W false (a : Int) l u h' ns es) (aZ : h' ≠ h) : NoSub z N V rt no lo hi := fun _ ns0 es0 s0 => by
 obtain ⟨h2, L', fo, ht, hS, -, -, hh⟩ := K.pre hz hn s0
 have af : L.length < L'.length := by
  have := (List.getElem?_eq_some_iff.1 hb).1; rw [bnds_length] at this; omega
 obtain ⟨b1, b2⟩ := hS _ _ _ hb (List.getElem?_eq_getElem af)
 have := (bn_det hz s.bn b1).1
 have := hh h0
 omega
theorem kidsU_all (hz : sizeOk (z : Int)) (hn : N no = some (innNd c ps)) (aQ : NdOk z (innNd c ps)) (cA : ∀ k ∈ (innNd c ps).keys, inB lo hi k) (K : KidsU z N V no lo hi c ps h L) (hl : L.length = ps.length + 1) (hv : no ∉ V) (hc : if rt then (innNd c ps).keys ≠ [] else ¬ (innNd c ps).low z) :
  Sub1 z N V rt no lo hi (h + 1) (no :: L.flatMap (·.1)) (L.flatMap (·.2)) := by
 obtain ⟨a1, a2, a3, a4⟩ := (innNd_ok (by have := hz.1; omega)).1 aQ
 obtain ⟨b0, IV⟩ : ∃ b, (bnds lo hi c ps)[0]? = some b := ⟨_, List.getElem?_eq_getElem (by rw [bnds_length]; omega)⟩
 have hp := (K.bn 0 b0 _ IV (List.getElem?_eq_getElem (by omega))).1.pos
 obtain ⟨h2, rfl⟩ : ∃ h2, h = h2 + 1 := ⟨h - 1, by omega⟩
 have aR : ∀ d ∈ c :: ps.map (·.2), Full z N d := fun d hd => by
  obtain ⟨i, ab, e⟩ := List.getElem_of_mem hd; have cE : i ≤ ps.length := by simp at ab; omega
  obtain ⟨a, l', u', h1, js, -, -⟩ := bnds_get hi ps lo c i cE; have := (K.bn i _ _ h1 (List.getElem?_eq_getElem (by omega))).2; rw [List.getElem?_eq_getElem ab, e] at js; cases js; exact this
 refine ⟨Bn.of_inner (by have := hz.1; omega) hn a1 a2 ⟨a3, a4⟩ cA aR ((ch_iff hi).2 ⟨L, hl, fun i b l hb hl => (K.bn i b l hb hl).1, rfl, rfl⟩), ?_, fun x hx => ?_, fun m hm => ?_⟩
 ·exact List.nodup_cons.2 ⟨fun hx => K.out no hx (List.mem_cons_self ..), K.nd⟩
 ·rcases List.mem_cons.1 hx with rfl | hx
  ·exact hv
  ·exact fun h => K.out x hx (List.mem_cons_of_mem _ h)
 ·rw [hn] at hm; cases hm; exact hc
end
theorem bn_height {z : Nat} {N : Nodes} (hz : sizeOk (z : Int)) : ∀ {h : Nat} {no : Int} {lo : Bytes} {hi : Option Bytes} {ns : List Int} {es : Es}, Bn z N h no lo hi ns es → h ≤ ns.length
 | 0, _, _, _, _, _, s => s.elim
 | 1, _, _, _, _, _, s => by
   obtain ⟨-, rfl, -⟩ := s.leaf (by have := hz.2.1; omega)
   simp
 | h + 2, _, _, hi, _, _, s => by
   obtain ⟨c, ps, n1, -, rfl, -, -, -, -, -, hC⟩ := s.inner (by have := hz.1; omega); obtain ⟨L, hl, hS, rfl, rfl⟩ := (ch_iff hi).1 hC; have hq : 0 < L.length := by omega
   have := bn_height hz (hS 0 _ _ (List.getElem?_eq_getElem (by rw [bnds_length]; omega)) (List.getElem?_eq_getElem hq))
   obtain ⟨x, L', rfl⟩ : ∃ x L', L = x :: L' := by cases L with
    | nil => simp at hq
    | cons x L' => exact ⟨x, L', rfl⟩
   simp at this ⊢; omega
end Go.Proofs.YtocnhaoilnojmaaGreat
