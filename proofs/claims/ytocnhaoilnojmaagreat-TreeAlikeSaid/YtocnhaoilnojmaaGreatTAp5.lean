/- Texts TrHc, TrGv, PgB, ShR, TrHd, TrZd, TrKb, TrKd, TrBs, PgE, R7A, R7B, R7C, one behind the other (what the statement TreeAlike does not use is left out). -/
import Derived.Test.YtocnhaoilnojmaaGreatTAp1
import Derived.Test.YtocnhaoilnojmaaGreatTAp4
import Derived.Test.YtocnhaoilnojmaaGreatTAp3
import Derived.Shelf.SortM.SortNone
import Derived.Shelf.Strings.Repeat
import Derived.Test.YtocnhaoilnojmaaGreatProg
namespace Go.Proofs.YtocnhaoilnojmaaGreat
open Go Go.RowKit
set_option linter.all false
set_option maxRecDepth 100000
/-- A tree that is in order: so high, of these pages, with these entries. -/
structure Inv (T : Tr) (H : Nat) (ns : List Int) (es : Es) : Prop where
 std : (T.root = 0 ∧ H = 0 ∧ ns = [] ∧ es = []) ∨ (T.root ≠ 0 ∧ 1 ≤ H ∧ Bn T.size T.nodes H T.root [] none ns es ∧ ns.Nodup ∧ ∀ n, T.nodes T.root = some n → n.keys ≠ [])
 all : ∀ x, T.nodes x ≠ none → x ∈ ns
 cnt : T.count = es.length
 num : ∀ x, T.nodes x ≠ none → 1 ≤ x ∧ x ≤ 2147483647
 gnum : ∀ x ∈ T.given, 1 ≤ x ∧ x ≤ 2147483647
 giv : GivS T
 chg : ∀ x, T.nodes x ≠ none → T.changed x = false → T.old x = true
theorem rise_len : ∀ {l : List Int} {a b : Int}, l.Pairwise (· < ·) → (∀ x ∈ l, a ≤ x ∧ x ≤ b) → (l.length : Int) ≤ max 0 (b + 1 - a)
 | [], _, _, _, _ => by simp; omega
 | x :: r, a, b, h, hb => by
   obtain ⟨h1, h2⟩ := List.pairwise_cons.1 h
   have := rise_len (a := x + 1) (b := b) h2 (fun y hy => ⟨by have := h1 y hy; omega, (hb y (List.mem_cons_of_mem _ hy)).2⟩)
   have hx := hb x (List.mem_cons_self ..)
   rw [List.length_cons]
   omega
theorem Inv.gl {T : Tr} {H : Nat} {ns : List Int} {es : Es} (h : Inv T H ns es) : T.given.length ≤ 2147483647 := by
 have := rise_len h.giv.rise h.gnum
 omega
theorem inB_top (k : Bytes) : inB [] none k := ⟨nil_le k, fun u hu => by cases hu⟩
theorem Bn.pos {z h : Nat} {N : Nodes} {no : Int} {lo : Bytes} {hi : Option Bytes} {ns : List Int} {es : Es} (s : Bn z N h no lo hi ns es) : 1 ≤ h := by
 cases h with
 | zero => exact s.elim
 | succ h => omega
section
variable {w : World} {p : Nat} {T : Tr} {nb : Int → Nat} {F : Nat → Prop}
set_option maxHeartbeats 2000000 in
theorem leaf_ret (h : TreeA w p T nb F) {H : Nat} {ns : List Int} {es : Es} (hI : Inv T H ns es) (k : Bytes) :
  Ret Tryz.prog 74 [ptr p 0, S k] w fun v w' => Ext w w' ∧ ((T.root = 0 ∧ v = .pointer none) ∨ ∃ x E e1 e2, v = ptr (nb x) 0 ∧ T.nodes x = some (leafNd E) ∧ EsOk T.size E ∧ es = e1 ++ (E ++ e2) ∧ (∀ y ∈ e1, lt y.1 k = true) ∧ (∀ y ∈ e2, lt k y.1 = true)) := by
 have hz : sizeOk (T.size : Int) := size_ok h
 obtain ⟨z1, z2, -⟩ := id hz
 obtain ⟨mN, mC, mO, gv, kn, kc, ko, O⟩ := h.opn
 have hg0 : Ext w w.drew := Ext.drew0 w
 refine ret_of_run (e := [(0, _), (1, _)]) Tryz.func74 rfl Tryz.ntmps74 rfl rfl ?_; refine qN rfl ?_; refine qV (yas rfl) ?_; refine rEnd ?_; refine run_seq ?_; refine run_draw (fun w' => Ext w w') (by kernel_rfl) rfl ?_; refine qT 0 rfl (fun _ hS => ymv rfl) (hg0) ?_; refine qT 1 rfl (fun _ hS => (by first | exact ync rfl | exact yncf rfl)) (hg0) ?_; refine qT 2 rfl (fun _ hS => yfa fl74_5 rfl) (hg0) ?_; refine qT 3 rfl (fun _ hS => yld U71 rfl rfl (hS.blk O.blk) rfl) (hg0) ?_; refine qT 4 rfl (fun _ hS => ymv rfl) (hg0) ?_
 refine qT 5 rfl (fun _ hS => (by first | exact ync rfl | exact yncf rfl)) (hg0) ?_; refine qT 6 rfl (fun _ hS => yfa fl74_1 rfl) (hg0) ?_; refine qT 7 rfl (fun _ hS => yld U3 rfl rfl (hS.blk O.blk) rfl) (hg0) ?_; refine qT 8 rfl (fun _ hS => ylk (k := T.root) (K := KZ) U71 (ky_int U3) ti81 rfl rfl (hS.map O.nm.l)) (hg0) ?_
 rcases hI.std with ⟨hr, -, -, -⟩ | ⟨hr, hH, hB, hnd, -⟩
 ·have hn0 : T.nodes T.root = none := by
   cases e : T.nodes T.root with
   | none => rfl
   | some n => have := hI.num T.root (by rw [e]; simp); omega
  rw [show (getL kn T.root).getD (.pointer none) = .pointer none by rw [O.ng T.root, hn0]; rfl]
  refine qT 9 rfl (fun _ hS => yas rfl) (hg0) ?_; refine qE ?_; refine run_seq ?_; refine run_block ?_; refine run_loop (α := Unit) (()) (fun _ => [(0, ptr p 0), (1, S k), (4, .pointer none), (5, .pointer none)]) (fun _ w' => Ext w w') (fun _ => 0) (by repeat (first | exact Sub.nil | refine Sub.cons rfl ?_)) ?hI ?hround
  case hI => exact hg0
  case hround =>
   rintro ⟨⟩ w1 hx1 ih
   try dsimp only
   refine run_seq ?_; refine qN rfl ?_; refine qV (ymv rfl) ?_; refine qV (ynepN U81 rfl rfl) ?_; refine qV (ymv rfl) ?_; refine qS ?_; refine qS ?_; refine qS ?_; refine qS ?_; refine qS ?_; refine qV (ypF rfl rfl) ?_; refine rEnd ?_; refine run_false rfl ?_; refine run_exit rfl ?_; refine qN rfl ?_; refine qV (ymv rfl) ?_; refine qV (yas rfl) ?_; refine rEnd ?_; refine run_ret Tryz.func74 rfl ?_
   exact ⟨_, rfl, hx1, .inl ⟨hr, rfl⟩⟩
 ·have hroot : (getL kn T.root).getD (.pointer none) = ptr (nb T.root) 0 := by
   rw [O.ng T.root]
   cases e : T.nodes T.root with
   | none => exact absurd e (Bn.some hB _ hB.mem)
   | some n => rfl
  rw [hroot]
  refine qT 9 rfl (fun _ hS => yas rfl) (hg0) ?_; refine qE ?_; refine run_seq ?_; refine run_block ?_; refine run_loop (α := Nat × Int) ((H, T.root)) (fun x => [(0, ptr p 0), (1, S k), (4, .pointer none), (5, ptr (nb x.2) 0)]) (fun x w' => Ext w w' ∧ ∃ lo hi ns' e1 em e2, Bn T.size T.nodes x.1 x.2 lo hi ns' em ∧ ns'.Nodup ∧ inB lo hi k ∧ es = e1 ++ (em ++ e2) ∧ (∀ y ∈ e1, lt y.1 k = true) ∧ (∀ y ∈ e2, lt k y.1 = true)) (fun x => x.1) (by repeat (first | exact Sub.nil | refine Sub.cons rfl ?_)) ?hI ?hround
  case hI => exact ⟨hg0, [], none, ns, [], es, [], hB, hnd, inB_top k, by simp, by simp, by simp⟩
  case hround =>
   rintro ⟨h', x⟩ wi ⟨hxi, lo, hi, ns', e1, em, e2, hBx, hndx, hink, hes, he1, he2⟩ ih
   dsimp only at hBx
   have hi0 := h.ext hxi
   obtain ⟨mNi, mCi, mOi, gvi, kni, kci, koi, Oi⟩ := hi0.opn
   rcases Nat.eq_or_lt_of_le hBx.pos with e | e
   ·subst e
    obtain ⟨hn, rfl, hok, -, -⟩ := hBx.leaf (by omega)
    obtain ⟨q, hq, hM, hqF, -⟩ := hi0.node hn
    have hBn := hM.blk
    rw [hq] at hBn
    try dsimp only
    refine run_seq ?_; refine qN rfl ?_; refine qV (ymv rfl) ?_; refine qV (ynepN U81 rfl rfl) ?_; refine qV (ymv rfl) ?_; refine qV (ymv rfl) ?_; refine qV ((by first | exact ync rfl | exact yncf rfl)) ?_; refine qV (yfa fl84_0 rfl) ?_; refine qV (yld U4 rfl rfl hBn rfl) ?_; refine qV ((by first | exact yntd rfl | exact ynt rfl)) ?_; refine qV (ypT rfl rfl) ?_; refine rEnd ?_; refine run_false rfl ?_; refine run_exit rfl ?_; refine qN rfl ?_; refine qV (ymv rfl) ?_; refine qV (yas rfl) ?_; refine rEnd ?_; refine run_ret Tryz.func74 rfl ?_
    exact ⟨_, rfl, hxi, .inr ⟨x, em, e1, e2, rfl, hn, hok, hes, he1, he2⟩⟩
   ·obtain ⟨h2, rfl⟩ : ∃ h2, h' = h2 + 2 := ⟨h' - 2, by omega⟩
    obtain ⟨c, ps, ns1, hn, rfl, hko, -, -, -, a, lo', hi', nm, em', f1, f2, ha, hBa, hnda, hina, -, -, hem, hf1, hf2, -⟩ := inner_step hz hBx hndx hink
    obtain ⟨q, hq, hM, hqF, -⟩ := hi0.node hn
    obtain ⟨qb, qk, qv, qc⟩ := q
    dsimp only at hq
    subst hq
    have hBn := hM.blk
    have hCn := hM.kids
    dsimp only at hBn hCn
    have kcl : (innNd c ps).kids.length = ps.length + 1 := by simp [innNd]
    rw [kcl] at hCn
    obtain ⟨gc, cc, rfl⟩ := some_of hCn (by omega)
    have hwl := wayI_le (ps.map (·.1)) k
    rw [List.length_map] at hwl
    have hal := hM.bd.cs a (List.mem_of_getElem? (show (innNd c ps).kids[_]? = some a from ha))
    have hpl : ps.length ≤ 100000 := by have := hM.bd.cl; omega
    have hgi : Ext wi wi.drew := Ext.drew0 wi
    obtain ⟨na, hna⟩ : ∃ n, T.nodes (a : Int) = some n := Option.ne_none_iff_exists'.1 (Bn.some hBa _ hBa.mem)
    try dsimp only
    refine run_seq ?_; refine qN rfl ?_; refine qV (ymv rfl) ?_; refine qV (ynepN U81 rfl rfl) ?_; refine qV (ymv rfl) ?_; refine qV (ymv rfl) ?_; refine qV ((by first | exact ync rfl | exact yncf rfl)) ?_; refine qV (yfa fl84_0 rfl) ?_; refine qV (yld U4 rfl rfl hBn rfl) ?_; refine qV ((by first | exact yntd rfl | exact ynt rfl)) ?_; refine qV (ypT rfl rfl) ?_; refine rEnd ?_; refine run_true rfl ?_; refine run_skip ?_; refine run_block ?_; refine run_draw (fun w' => Ext wi w') (by kernel_rfl) rfl ?_; refine qT 0 rfl (fun _ hS => ymv rfl) (hgi) ?_
    refine qT 1 rfl (fun _ hS => (by first | exact ync rfl | exact yncf rfl)) (hgi) ?_; refine qT 2 rfl (fun _ hS => yfa fl74_5 rfl) (hgi) ?_; refine qT 3 rfl (fun _ hS => (by first | exact yld U71 rfl rfl (hS.blk Oi.blk) rfl | exact yld U71 rfl rfl (hS.blk hBn) rfl)) (hgi) ?_; refine qT 4 rfl (fun _ hS => ymv rfl) (hgi) ?_; refine qT 5 rfl (fun _ hS => (by first | exact ync rfl | exact yncf rfl)) (hgi) ?_; refine qT 6 rfl (fun _ hS => yfa fl84_3 rfl) (hgi) ?_
    refine qT 7 rfl (fun _ hS => (by first | exact yld U82 rfl rfl (hS.blk Oi.blk) rfl | exact yld U82 rfl rfl (hS.blk hBn) rfl)) (hgi) ?_; refine qT 8 rfl (fun _ hS => ymv rfl) (hgi) ?_; refine qT 9 rfl (fun _ hS => ymv rfl) (hgi) ?_; refine qO 10 ?_; refine nCall (i := 10) rfl rfl rfl (yc (args := [.tmp 32, .tmp 33]) cf46 rfl) (way_ret k (hgi.blk hBn) (hM.r.ext hgi) hM.bd hko.2) ?_
    rintro _ w1 ⟨rfl, rfl⟩
    refine ⟨hgi, ?_⟩
    have hwi : wayI (innNd c ps).keys k = wayI (ps.map (·.1)) k := rfl
    rw [hwi]
    refine qT 11 rfl (fun _ hS => yis U82 ti89 rfl rfl (by omega)) (hgi) ?_; refine qT 12 rfl (fun _ hS => yldc U89 rfl rfl (rd_u32 ((hCn.ext hS).rd) (by omega) ha)) (hgi) ?_; refine qT 13 rfl (fun _ hS => ycvSi64 rfl U89 U3 (by omega)) (hgi) ?_; refine qT 14 rfl (fun _ hS => ylk (k := (a : Int)) (K := KZ) U71 (ky_int U3) ti81 rfl rfl (hS.map Oi.nm.l)) (hgi) ?_
    rw [show (getL kni (a : Int)).getD (.pointer none) = ptr (nb a) 0 by rw [Oi.ng (a : Int), hna]; rfl]
    refine qT 15 rfl (fun _ hS => yas rfl) (hgi) ?_; refine qE ?_; refine run_inBlock ?_
    exact (ih (h2 + 1, (a : Int)) _ ⟨hxi.trans hgi, lo', hi', nm, e1 ++ f1, em', f2 ++ e2, hBa, hnda, hina, by rw [hes, hem]; simp, fun y hy => (List.mem_append.1 hy).elim (he1 y) (hf1 y), fun y hy => (List.mem_append.1 hy).elim (hf2 y) (he2 y)⟩ (by dsimp only; omega)).qb
end
end Go.Proofs.YtocnhaoilnojmaaGreat
namespace Go.Proofs.YtocnhaoilnojmaaGreat
open Go Go.RowKit Go.Shelf
set_option linter.all false
set_option maxRecDepth 100000
section
variable {w : World}
theorem rd_getI {w : World} {a : Option Addr} {cap : Nat} {l : List Int} {i : Nat} (h : Rd w (.slice a l.length cap) 1 l.length (l.map I)) (hi : i < l.length) : ∃ b off s, a = some ⟨b, off, none⟩ ∧ l[i]? = some s := by
 rcases h.2 with ⟨c, -, h0⟩ | ⟨b', off', cap', hv, hc⟩
 ·omega
 ·cases hv
  exact ⟨b', off', _, rfl, List.getElem?_eq_getElem hi⟩
theorem rd_getU {w : World} {a : Option Addr} {cap : Nat} {l : List Nat} {i : Nat} (h : Rd w (.slice a l.length cap) 1 l.length (l.map u32v)) (hi : i < l.length) : ∃ b off s, a = some ⟨b, off, none⟩ ∧ l[i]? = some s := by
 rcases h.2 with ⟨c, -, h0⟩ | ⟨b', off', cap', hv, hc⟩
 ·omega
 ·cases hv
  exact ⟨b', off', _, rfl, List.getElem?_eq_getElem hi⟩
theorem mem_take_succ {α : Type} {l : List α} {i : Nat} {s x : α} (h : l[i]? = some s) : x ∈ l.take (i + 1) ↔ x ∈ l.take i ∨ x = s := by
 obtain ⟨hi, e⟩ := List.getElem?_eq_some_iff.1 h
 rw [List.take_succ_eq_append_getElem hi, e, List.mem_append, List.mem_singleton]
theorem indexI_ret {l : List Int} {lv : Value} (x : Int) (hR : Rd w lv 1 l.length (l.map I)) (hl : l.length ≤ 4294967296) :
  Ret Tryz.prog 106 [lv, I x] w fun v w' => w' = w ∧ ∃ r : Int, v = I r ∧ (0 ≤ r ↔ x ∈ l) := by
 obtain ⟨a, cap, rfl, -⟩ := hR.shape
 refine ret_of_run (e := [(0, _), (1, _)]) Tryz.func106 rfl Tryz.ntmps106 rfl rfl ?_; refine qN rfl ?_; refine qV (yas rfl) ?_; refine rEnd ?_; refine run_seq ?_; refine qN rfl ?_; refine qV (ymv rfl) ?_; refine qV (yln U34 rfl) ?_; refine qV (ymv rfl) ?_; refine rEnd ?_; refine run_block ?_; refine run_loop (α := Nat) (0) (fun i => [(0, .slice a l.length cap), (1, I x), (7, I (l.length : Int)), (8, I (i : Int))]) (fun i w' => w' = w ∧ i ≤ l.length ∧ x ∉ l.take i) (fun i => l.length - i) (by repeat (first | exact Sub.nil | refine Sub.cons rfl ?_)) ?hI ?hround
 case hI => exact ⟨rfl, Nat.zero_le _, by simp⟩
 case hround =>
  rintro i wi ⟨rfl, hi, hno⟩ ih
  try dsimp only
  refine qN rfl ?_; refine qV (ylt rfl rfl) ?_; refine rEnd ?_; refine run_seq ?_; refine run_if rfl (fun hlt => ?_) (fun hlt => ?_)
  ·skip
   have hi' : i < l.length := by omega
   obtain ⟨lb, lo, s, rfl, hs'⟩ := rd_getI hR hi'
   refine run_skip ?_; refine run_seq ?_; refine run_block ?_; refine qN rfl ?_; refine qV (ymv rfl) ?_; refine qV (yas rfl) ?_; refine qM rfl ?_; refine qV (ymv rfl) ?_; refine qV (ymv rfl) ?_; refine qV (ymv rfl) ?_; refine qV (yis U34 ti3 rfl rfl (by omega)) ?_; refine qV (yldc U3 rfl rfl (rd_intT hR hi' hs')) ?_; refine qV (yeq rfl rfl) ?_; refine rEnd ?_; refine run_if rfl (fun he => ?_) (fun he => ?_)
   ·skip
    refine qN rfl ?_; refine qV (ymv rfl) ?_; refine qV (yas rfl) ?_; refine rEnd ?_; refine run_ret Tryz.func106 rfl ?_
    exact ⟨_, rfl, rfl, _, rfl, ⟨fun _ => by rw [he]; exact List.mem_of_getElem? hs', fun _ => by omega⟩⟩
   ·skip
    refine run_skip ?_; refine run_inBlock ?_; refine run_reg rfl ?_; refine qV (yad rfl rfl (by omega)) ?_; refine qV (ymv rfl) ?_; refine rEnd ?_
    exact (ih (i + 1) _ ⟨rfl, by omega, fun hh => by
     rcases (mem_take_succ hs').1 hh with h | h
     ·exact hno h
     ·exact he h⟩ (by omega)).qb
  ·skip
   have : i = l.length := by omega
   subst this
   rw [List.take_length] at hno
   refine run_exit rfl ?_; refine qN rfl ?_; refine qV (yas rfl) ?_; refine rEnd ?_; refine run_ret Tryz.func106 rfl ?_
   exact ⟨_, rfl, rfl, -1, rfl, ⟨fun h => by omega, fun h => absurd h hno⟩⟩
theorem containsI_ret {l : List Int} {lv : Value} (x : Int) (hR : Rd w lv 1 l.length (l.map I)) (hl : l.length ≤ 4294967296) :
  Ret Tryz.prog 80 [lv, I x] w fun v w' => w' = w ∧ v = .bool (decide (x ∈ l)) := by
 refine ret_of_run (e := [(0, _), (1, _)]) Tryz.func80 rfl Tryz.ntmps80 rfl rfl ?_; refine qN rfl ?_; refine qV (yas rfl) ?_; refine qM rfl ?_; refine qV (ymv rfl) ?_; refine qV (ymv rfl) ?_; refine rCall rfl rfl (yc (args := [.tmp 5, .tmp 6]) cf106 rfl) (indexI_ret x hR hl) ?_
 rintro _ w1 ⟨rfl, r, rfl, hr⟩
 refine qV (yge rfl rfl) ?_; refine qV (yas rfl) ?_; refine rEnd ?_; refine run_ret Tryz.func80 rfl ?_
 exact ⟨_, rfl, rfl, by simp only [resVal]; congr 1; exact decide_eq_decide.2 hr⟩
theorem indexU_ret {l : List Nat} {lv : Value} (x : Nat) (hx : x < 4294967296) (hb : ∀ y ∈ l, y < 4294967296) (hR : Rd w lv 1 l.length (l.map u32v)) (hl : l.length ≤ 4294967296) :
  Ret Tryz.prog 158 [lv, u32v x] w fun v w' => w' = w ∧ ∃ r : Int, v = I r ∧ (0 ≤ r ↔ x ∈ l) := by
 obtain ⟨a, cap, rfl, -⟩ := hR.shape
 refine ret_of_run (e := [(0, _), (1, _)]) Tryz.func158 rfl Tryz.ntmps158 rfl rfl ?_; refine qN rfl ?_; refine qV (yas rfl) ?_; refine rEnd ?_; refine run_seq ?_; refine qN rfl ?_; refine qV (ymv rfl) ?_; refine qV (yln U82 rfl) ?_; refine qV (ymv rfl) ?_; refine rEnd ?_; refine run_block ?_; refine run_loop (α := Nat) (0) (fun i => [(0, .slice a l.length cap), (1, u32v x), (7, I (l.length : Int)), (8, I (i : Int))]) (fun i w' => w' = w ∧ i ≤ l.length ∧ x ∉ l.take i) (fun i => l.length - i) (by repeat (first | exact Sub.nil | refine Sub.cons rfl ?_)) ?hI ?hround
 case hI => exact ⟨rfl, Nat.zero_le _, by simp⟩
 case hround =>
  rintro i wi ⟨rfl, hi, hno⟩ ih
  try dsimp only
  refine qN rfl ?_; refine qV (ylt rfl rfl) ?_; refine rEnd ?_; refine run_seq ?_; refine run_if rfl (fun hlt => ?_) (fun hlt => ?_)
  ·skip
   have hi' : i < l.length := by omega
   obtain ⟨lb, lo, s, rfl, hs'⟩ := rd_getU hR hi'
   refine run_skip ?_; refine run_seq ?_; refine run_block ?_; refine qN rfl ?_; refine qV (ymv rfl) ?_; refine qV (yas rfl) ?_; refine qM rfl ?_; refine qV (ymv rfl) ?_; refine qV (ymv rfl) ?_; refine qV (ymv rfl) ?_; refine qV (yis U82 ti89 rfl rfl (by omega)) ?_; refine qV (yldc U89 rfl rfl (rd_u32 hR hi' hs')) ?_; refine qV (yeq rfl rfl) ?_; refine rEnd ?_; refine run_if rfl (fun he => ?_) (fun he => ?_)
   ·skip
    refine qN rfl ?_; refine qV (ymv rfl) ?_; refine qV (yas rfl) ?_; refine rEnd ?_; refine run_ret Tryz.func158 rfl ?_
    exact ⟨_, rfl, rfl, _, rfl, ⟨fun _ => by rw [show x = s by omega]; exact List.mem_of_getElem? hs', fun _ => by omega⟩⟩
   ·skip
    refine run_skip ?_; refine run_inBlock ?_; refine run_reg rfl ?_; refine qV (yad rfl rfl (by omega)) ?_; refine qV (ymv rfl) ?_; refine rEnd ?_
    exact (ih (i + 1) _ ⟨rfl, by omega, fun hh => by
     rcases (mem_take_succ hs').1 hh with h | h
     ·exact hno h
     ·exact he (by omega)⟩ (by omega)).qb
  ·skip
   have : i = l.length := by omega
   subst this
   rw [List.take_length] at hno
   refine run_exit rfl ?_; refine qN rfl ?_; refine qV (yas rfl) ?_; refine rEnd ?_; refine run_ret Tryz.func158 rfl ?_
   exact ⟨_, rfl, rfl, -1, rfl, ⟨fun h => by omega, fun h => absurd h hno⟩⟩
theorem containsU_ret {l : List Nat} {lv : Value} (x : Nat) (hx : x < 4294967296) (hb : ∀ y ∈ l, y < 4294967296) (hR : Rd w lv 1 l.length (l.map u32v)) (hl : l.length ≤ 4294967296) :
  Ret Tryz.prog 134 [lv, u32v x] w fun v w' => w' = w ∧ v = .bool (decide (x ∈ l)) := by
 refine ret_of_run (e := [(0, _), (1, _)]) Tryz.func134 rfl Tryz.ntmps134 rfl rfl ?_; refine qN rfl ?_; refine qV (yas rfl) ?_; refine qM rfl ?_; refine qV (ymv rfl) ?_; refine qV (ymv rfl) ?_; refine rCall rfl rfl (yc (args := [.tmp 5, .tmp 6]) cf158 rfl) (indexU_ret x hx hb hR hl) ?_
 rintro _ w1 ⟨rfl, r, rfl, hr⟩
 refine qV (yge rfl rfl) ?_; refine qV (yas rfl) ?_; refine rEnd ?_; refine run_ret Tryz.func134 rfl ?_
 exact ⟨_, rfl, rfl, by simp only [resVal]; congr 1; exact decide_eq_decide.2 hr⟩
/-- A copy of a list. -/
theorem clone_ret {l : List Int} {sv : Value} (hS : Sl w sv 3 1 l.length (l.map I)) (hl : l.length ≤ 4294967296) :
  Ret Tryz.prog 61 [sv] w fun v w' => Sl w' v 3 1 l.length (l.map I) ∧ Ext w w' ∧ ∀ g, v.ownBlock = some g → w.heap.size ≤ g := by
 refine ret_of_run (e := [(0, _)]) Tryz.func61 rfl Tryz.ntmps61 rfl rfl ?_
 rcases hS.shape with ⟨rfl, h0⟩ | ⟨g, cap, rfl, hcap⟩
 ·skip
  refine qN rfl ?_; refine qV (yas rfl) ?_; refine rEnd ?_; refine run_seq ?_; refine qN rfl ?_; refine qV (ymv rfl) ?_; refine qV (yeqsN U34 rfl rfl) ?_; refine rEnd ?_; refine run_true rfl ?_; refine qN rfl ?_; refine qV (yas rfl) ?_; refine rEnd ?_; refine run_ret Tryz.func61 rfl ?_; refine ⟨_, rfl, ?_, Ext.refl _, fun g hg => by simp [resVal, Value.ownBlock] at hg⟩
  have : l = [] := List.eq_nil_of_length_eq_zero h0
  subst this
  exact Sl.nil _ _ _
 ·skip
  refine qN rfl ?_; refine qV (yas rfl) ?_; refine rEnd ?_; refine run_seq ?_; refine qN rfl ?_; refine qV (ymv rfl) ?_; refine qV (yeqsN U34 rfl rfl) ?_; refine rEnd ?_; refine run_false rfl ?_; refine run_skip ?_; refine qN rfl ?_; refine rValP rfl rfl (pbs (parts := []) (cs := []) (zs := []) U34 ti3 rfl (by kernel_rfl) rfl rfl rfl (by decide)) ?_
  rintro _ w4 ⟨b4, rfl, ⟨hb4, hx4, hB4⟩, hS4⟩
  refine qV (ymv rfl) ?_; refine rValP rfl rfl (pap U34 ti3 rfl (by decide) rfl rfl hS4 (hS.ext hx4).rd (by intro c hc; obtain ⟨z, -, rfl⟩ := List.mem_map.1 hc; rfl) (by omega) (Nat.le_trans (by omega : 0 + l.length ≤ 4294967296) (by decide))) ?_
  rintro gv5 w5 ⟨hS5, hk5, hown5, -⟩
  refine qV (yas rfl) ?_; refine rEnd ?_; refine run_ret Tryz.func61 rfl ?_
  have hz4 := hx4.size
  refine ⟨_, rfl, by simpa [resVal] using hS5, hx4.trans_new hk5 (fun i hi => ?_), fun g hg => ?_⟩
  ·have e : b4 = i := Option.some.inj hi
   omega
  ·rcases hown5 g hg with e | e
   ·have e' : b4 = g := Option.some.inj e
    omega
   ·omega
theorem sortI_none {p : Option Addr} {cap : Nat} :
  Ret Tryz.prog 62 [.slice p 0 cap] w fun v w' => v = .tuple #[] ∧ w' = w :=
 Calls.mono (AnyM.slices_Sort_int_none sortA p cap w) fun _ _ ⟨he, hw⟩ => ⟨_, he, rfl, hw⟩
/-- slices.Sort of any ints. -/
theorem sortZ_ret {sv : Value} {l : List Int} (hS : Sl w sv 3 1 l.length (l.map I)) (hl : l.length ≤ 8589934592) :
  Ret Tryz.prog 62 [sv] w fun v w' => v = .tuple #[] ∧ Sl w' sv 3 1 (sortZ l).length ((sortZ l).map I) ∧ Kp (fun k => sv.ownBlock = some k) w w' := by
 have hlen : (sortZ l).length = l.length := List.length_mergeSort _
 by_cases h0 : l = []
 ·subst h0
  obtain ⟨a, cap, rfl, -⟩ := hS.rd.shape
  refine Calls.mono (sortI_none (w := w) (p := a) (cap := cap)) ?_
  rintro _ _ ⟨v, he, rfl, rfl⟩
  have e0 : sortZ [] = [] := by simp [sortZ]
  exact ⟨_, he, rfl, by rw [e0]; exact hS, Kp.refl _ _⟩
 ·refine Calls.mono (sortI_ret hS (List.length_pos_iff.2 h0) hl) ?_
  rintro _ _ ⟨v, he, rfl, hS', hk⟩
  exact ⟨_, he, rfl, by rw [hlen]; exact hS', hk⟩
end
section
variable {w : World} {p : Nat} {T : Tr} {nb : Int → Nat} {F : Nat → Prop}
theorem given_ret (h : TreeA w p T nb F) (hgl : T.given.length ≤ 4294967296) :
  Ret Tryz.prog 27 [ptr p 0] w fun v w' => Sl w' v 3 1 T.given.length (T.given.map I) ∧ Ext w w' ∧ ∀ g, v.ownBlock = some g → w.heap.size ≤ g := by
 obtain ⟨mN, mC, mO, gv, kn, kc, ko, O⟩ := h.opn
 refine ret_of_run (e := [(0, _)]) Tryz.func27 rfl Tryz.ntmps27 rfl rfl ?_; refine qN rfl ?_; refine qV (yas rfl) ?_; refine rEnd ?_; refine run_seq ?_; refine qN rfl ?_; refine qV (ymv rfl) ?_; refine qV (yeqpN U24 rfl rfl) ?_; refine rEnd ?_; refine run_false rfl ?_; refine run_skip ?_; refine qN rfl ?_; refine qV (ymv rfl) ?_; refine qV ((by first | exact ync rfl | exact yncf rfl)) ?_; refine qV (yfa fl74_6 rfl) ?_; refine qV (yld U34 rfl rfl O.blk rfl) ?_; refine rCall rfl rfl (yc (args := [.tmp 8]) cf61 rfl) (clone_ret O.gs hgl) ?_
 rintro v w1 ⟨hS1, hx1, ho1⟩
 refine qV (yas rfl) ?_; refine rEnd ?_; refine run_ret Tryz.func27 rfl ?_
 exact ⟨_, rfl, hS1, hx1, ho1⟩
end
end Go.Proofs.YtocnhaoilnojmaaGreat
namespace Go.Proofs.YtocnhaoilnojmaaGreat
open Go Go.RowKit
set_option linter.all false
set_option maxRecDepth 100000
theorem most_ok {z : Nat} (hz : sizeOk (z : Int)) (w : World) : Ret Tryz.prog 34 [I (z : Int)] w fun v w' => v = .tuple #[I ((mostE z : Nat) : Int), I 0] ∧ w' = w := by
 have := most_ret (z : Int) w
 rw [if_pos hz, if_pos hz, Int.toNat_natCast] at this
 exact this
theorem order_ok {z : Nat} (hz : sizeOk (z : Int)) (w : World) : Ret Tryz.prog 35 [I (z : Int)] w fun v w' => v = .tuple #[I ((orderE z : Nat) : Int), I 0] ∧ w' = w := by
 have := order_ret (z : Int) w
 rw [if_pos hz, if_pos hz, Int.toNat_natCast] at this
 exact this
theorem check_ret {n : Nd} {kv vv cv : Value} {w : World} (hR : NdR w n kv vv cv) (hb : n.Bd) {z : Nat} (hz : sizeOk (z : Int)) :
  Ret Tryz.prog 107 [ndv n kv vv cv, I (z : Int)] w fun v w' => v = I (if NdOk z n then 0 else 1) ∧ Ext w w' := by
 obtain ⟨z1, z2, -⟩ := id hz
 have hmz : mostE z ≤ 1100 := by unfold mostE; omega
 have hoz : orderE z ≤ 1100 := by unfold orderE; omega
 have hbb := hb.bytes
 obtain ⟨⟨lf, ks, vs, cs⟩, rfl⟩ : ∃ x, x = n := ⟨_, rfl⟩
 obtain ⟨hk, hv, hc⟩ := id hR
 dsimp only at hk hv hc
 obtain ⟨ka, kc, rfl, -⟩ := hk.shape
 obtain ⟨va, vc, rfl, -⟩ := hv.shape
 obtain ⟨ca, cc, rfl, -⟩ := hc.shape
 have b1 := hb.kl
 have b2 := hb.vl
 have b3 := hb.cl
 dsimp only at b1 b2 b3
 refine ret_of_run (e := [(0, _), (1, _)]) Tryz.func107 rfl Tryz.ntmps107 rfl rfl ?_; refine qN rfl ?_; refine rValP rfl rfl (pbx rfl rfl) ?_
 rintro _ w1 ⟨b, rfl, hb1, hx1, hB1⟩
 refine qV (yas rfl) ?_; refine qM rfl ?_; refine qV (ymv rfl) ?_; refine rCall rfl rfl (yc (args := [.tmp 11]) cf34 rfl) (most_ok hz _) ?_
 rintro _ w1 ⟨rfl, rfl⟩
 refine qV (ymv rfl) ?_; refine qV (yex rfl rfl) ?_; refine qV (yex rfl rfl) ?_; refine qV (yas rfl) ?_; refine qV (yas rfl) ?_; refine rEnd ?_; refine run_seq ?_; refine qN rfl ?_; refine qV (ymv rfl) ?_; refine qV (yne rfl rfl) ?_; refine rEnd ?_; refine run_if rfl (fun h0 => ?_) (fun h0 => ?_)
 ·exact absurd rfl h0
 ·skip
  refine run_skip ?_; refine qN rfl ?_; refine qV (ymv rfl) ?_; refine rCall rfl rfl (yc (args := [.tmp 19]) cf35 rfl) (order_ok hz _) ?_
  rintro _ w1 ⟨rfl, rfl⟩
  refine qV (ymv rfl) ?_; refine qV (yex rfl rfl) ?_; refine qV (yex rfl rfl) ?_; refine qV (yas rfl) ?_; refine qV (yas rfl) ?_; refine rEnd ?_; refine run_seq ?_; refine run_cut (fun e' w' => ∃ B : Bool, e' = [(2, ptr b 0), (4, I 0), (5, I ((mostE z : Nat) : Int)), (7, I ((orderE z : Nat) : Int)), (9, .bool B)] ∧ (B = true ↔ keysOk ks ∧ Nd.bytes ⟨lf, ks, vs, cs⟩ ≤ z) ∧ Ext w1 w') ?hk (fun hk => ?hmain)
  case hk =>
   rintro e' w3 ⟨B, rfl, hB, hx3⟩
   have hB3 := hx3.blk hB1
   have hx13 := hx1.trans hx3
   refine run_seq ?_; refine run_cut (fun e' w' => ∃ B' : Bool, e' = [(4, I 0), (9, .bool B')] ∧ (B' = true ↔ NdOk z ⟨lf, ks, vs, cs⟩) ∧ Ext w3 w') ?hkn (fun hkn => ?hmainn)
   case hkn =>
    rintro e' w4 ⟨B', rfl, hB', hx4⟩
    refine run_seq ?_; refine qN rfl ?_; refine qV (ymv rfl) ?_; refine qV ((by first | exact yntd rfl | exact ynt rfl)) ?_; refine rEnd ?_; refine run_cond rfl (fun hh => ?_) (fun hh => ?_)
    ·skip
     refine qN rfl ?_; refine qV (yas rfl) ?_; refine rEnd ?_; refine run_ret Tryz.func107 rfl ?_
     have : B' = false := by cases B' <;> simp_all
     exact ⟨_, rfl, by rw [if_neg (fun h => by rw [hB'.2 h] at this; cases this)]; rfl, hx13.trans hx4⟩
    ·skip
     refine run_skip ?_; refine qN rfl ?_; refine qV (yas rfl) ?_; refine rEnd ?_; refine run_ret Tryz.func107 rfl ?_
     have : B' = true := by cases B' <;> simp_all
     exact ⟨_, rfl, by rw [if_pos (hB'.1 this)]; rfl, hx13.trans hx4⟩
   case hmainn =>
    refine run_block ?_; refine qN rfl ?_; refine qV (yfa fl84_0 rfl) ?_; refine qV (yld U4 rfl rfl hB3 rfl) ?_; refine qV (yas rfl) ?_; refine rEnd ?_; refine run_cond rfl (fun hl => ?_) (fun hl => ?_)
    ·skip
     refine run_reg rfl ?_; refine qV (ymv rfl) ?_; refine qV (ymv rfl) ?_; refine rVal_bool (fun hBt => ?_) (fun hBt => ?_)
     ·skip
      refine qV (yldA U84 rfl ti84 rfl (Blk.cells (n := 4) hB3 (news := [_, _, _, _]) rfl) rfl) ?_; refine qV (ymv rfl) ?_; refine rCall rfl rfl (yc (args := [.tmp 67, .tmp 68]) cf133 rfl) (pleaf_ret (hR.ext hx13) hb _ (by omega)) ?_
      rintro _ w4 ⟨rfl, hx4⟩
      refine qV (ypT rfl rfl) ?_; refine qV (yas rfl) ?_; refine rEnd ?_; refine run_inBlock ?_; refine (hkn _ _ ⟨_, rfl, ?_, hx4⟩).qb
      have hl' : lf = true := hl
      rw [decide_eq_true_iff]
      unfold NdOk
      dsimp only
      rw [if_pos hl']
      exact ⟨fun h => ⟨(hB.1 hBt).1, (hB.1 hBt).2, h⟩, fun h => h.2.2⟩
     ·skip
      refine qS ?_; refine qS ?_; refine qS ?_; refine qV (ypF rfl rfl) ?_; refine qV (yas rfl) ?_; refine rEnd ?_; refine run_inBlock ?_; refine (hkn _ _ ⟨_, rfl, ⟨fun h => Bool.noConfusion h, fun h => ?_⟩, Ext.refl _⟩).qb
      rw [hB.2 ⟨h.1, h.2.1⟩] at hBt; cases hBt
    ·skip
     have hl' : ¬ lf = true := by rw [show lf = false from hl]; decide
     have hno : (¬ (keysOk ks ∧ Nd.bytes ⟨lf, ks, vs, cs⟩ ≤ z) ∨ ¬ vs = [] ∨ ¬ cs.length = ks.length + 1 ∨ ¬ cs.length ≤ orderE z ∨ 0 ∈ cs) → (false = true ↔ NdOk z ⟨lf, ks, vs, cs⟩) := fun h => ⟨fun h => Bool.noConfusion h, fun ⟨h1, h2, h3⟩ => by
      rw [if_neg hl'] at h3
      obtain ⟨h4, h5, h6, h7⟩ := h3
      dsimp only at h4 h5 h6 h7
      rcases h with h | h | h | h | h
      ·exact absurd ⟨h1, h2⟩ h
      ·exact absurd h4 h
      ·exact absurd h5 h
      ·exact absurd h6 h
      ·exact absurd rfl (h7 0 h)⟩
     refine run_reg rfl ?_; refine qV (ymv rfl) ?_; refine qV (ymv rfl) ?_; refine rVal_bool (fun hBt => ?_) (fun hBt => ?_)
     ·skip
      refine qV (yfa fl84_2 rfl) ?_; refine qV (yld U23 rfl rfl hB3 rfl) ?_; refine qV (yln U23 rfl) ?_; refine qV (yeq rfl rfl) ?_; refine rVal_if (fun h1 => ?_) (fun h1 => ?_)
      ·skip
       refine qV (ypT rfl rfl) ?_; refine qV (ymv rfl) ?_; refine qV (yfa fl84_3 rfl) ?_; refine qV (yld U82 rfl rfl hB3 rfl) ?_; refine qV (yln U82 rfl) ?_; refine qV (yfa fl84_1 rfl) ?_; refine qV (yld U23 rfl rfl hB3 rfl) ?_; refine qV (yln U23 rfl) ?_; refine qV (yad rfl rfl (by omega)) ?_; refine qV (yeq rfl rfl) ?_; refine rVal_if (fun h2 => ?_) (fun h2 => ?_)
       ·skip
        refine qV (ypT rfl rfl) ?_; refine qV (ymv rfl) ?_; refine qV (yfa fl84_3 rfl) ?_; refine qV (yld U82 rfl rfl hB3 rfl) ?_; refine qV (yln U82 rfl) ?_; refine qV (ymv rfl) ?_; refine qV (yle rfl rfl) ?_; refine rVal_if (fun h3 => ?_) (fun h3 => ?_)
        ·skip
         refine qV (ypT rfl rfl) ?_; refine qV (ymv rfl) ?_; refine qV (yfa fl84_3 rfl) ?_; refine qV (yld U82 rfl rfl hB3 rfl) ?_; refine rCall rfl rfl (yc (args := [.tmp 58, .const (Value.int .u32 0)]) cf134 rfl) (containsU_ret (l := cs) 0 (by omega) hb.cs (hc.ext hx13) (by omega)) ?_
         rintro _ w4 ⟨rfl, rfl⟩
         refine qV ((by first | exact yntd rfl | exact ynt rfl)) ?_; refine qV (ypT rfl rfl) ?_; refine qV (yas rfl) ?_; refine rEnd ?_; refine Run.qb (e := [(4, _), (9, _)]) ?_; refine run_inBlock ?_; refine (hkn _ _ ⟨_, rfl, ?_, Ext.refl _⟩).qb
         by_cases h0c : 0 ∈ cs
         ·have := hno (.inr (.inr (.inr (.inr h0c))))
          simpa [h0c] using this
         ·simp only [h0c, decide_false, Bool.not_false, not_false_eq_true, decide_true, true_iff]
          unfold NdOk
          dsimp only
          rw [if_neg hl']
          refine ⟨(hB.1 hBt).1, (hB.1 hBt).2, ?_⟩
          unfold innerOk
          dsimp only
          exact ⟨List.eq_nil_of_length_eq_zero (by omega), by omega, by omega, fun c hc' e => h0c (e ▸ hc')⟩
        ·skip
         refine qV (ypT rfl rfl) ?_; refine qV (ymv rfl) ?_; refine qS ?_; refine qS ?_; refine qS ?_; refine qS ?_; refine qV (ypF rfl rfl) ?_; refine qV (yas rfl) ?_; refine rEnd ?_; refine Run.qb (e := [(4, _), (9, _)]) ?_; refine run_inBlock ?_
         exact (hkn _ _ ⟨_, rfl, hno (.inr (.inr (.inr (.inl (by omega))))), Ext.refl _⟩).qb
       ·skip
        refine qV (ypT rfl rfl) ?_; refine qV (ymv rfl) ?_; refine qS ?_; refine qS ?_; refine qS ?_; refine qS ?_; refine qS ?_; refine qV (ypF rfl rfl) ?_; refine qV (ymv rfl) ?_; refine qS ?_; refine qS ?_; refine qS ?_; refine qS ?_; refine qV (ypF rfl rfl) ?_; refine qV (yas rfl) ?_; refine rEnd ?_; refine Run.qb (e := [(4, _), (9, _)]) ?_; refine run_inBlock ?_
        exact (hkn _ _ ⟨_, rfl, hno (.inr (.inr (.inl (by omega)))), Ext.refl _⟩).qb
      ·skip
       refine qV (ypT rfl rfl) ?_; refine qV (ymv rfl) ?_; refine qS ?_; refine qS ?_; refine qS ?_; refine qS ?_; refine qS ?_; refine qS ?_; refine qS ?_; refine qS ?_; refine qV (ypF rfl rfl) ?_; refine qV (ymv rfl) ?_; refine qS ?_; refine qS ?_; refine qS ?_; refine qS ?_; refine qS ?_; refine qV (ypF rfl rfl) ?_; refine qV (ymv rfl) ?_; refine qS ?_; refine qS ?_; refine qS ?_; refine qS ?_; refine qV (ypF rfl rfl) ?_; refine qV (yas rfl) ?_; refine rEnd ?_; refine Run.qb (e := [(4, _), (9, _)]) ?_; refine run_inBlock ?_
       exact (hkn _ _ ⟨_, rfl, hno (.inr (.inl (fun e => h1 (by rw [e]; rfl)))), Ext.refl _⟩).qb
     ·skip
      refine qS ?_; refine qS ?_; refine qS ?_; refine qS ?_; refine qV (ypF rfl rfl) ?_; refine qV (ymv rfl) ?_; refine qS ?_; refine qS ?_; refine qS ?_; refine qS ?_; refine qS ?_; refine qS ?_; refine qS ?_; refine qS ?_; refine qV (ypF rfl rfl) ?_; refine qV (ymv rfl) ?_; refine qS ?_; refine qS ?_; refine qS ?_; refine qS ?_; refine qS ?_; refine qV (ypF rfl rfl) ?_; refine qV (ymv rfl) ?_; refine qS ?_; refine qS ?_; refine qS ?_; refine qS ?_; refine qV (ypF rfl rfl) ?_; refine qV (yas rfl) ?_; refine rEnd ?_; refine Run.qb (e := [(4, _), (9, _)]) ?_; refine run_inBlock ?_
      exact (hkn _ _ ⟨_, rfl, hno (.inl (fun h => by rw [hB.2 h] at hBt; cases hBt)), Ext.refl _⟩).qb
  case hmain =>
   refine run_reg rfl ?_; refine qV (yfa fl84_1 rfl) ?_; refine qV (yld U23 rfl rfl hB1 rfl) ?_; refine rCall rfl rfl (yc (args := [.tmp 24]) cf132 rfl) (pkeys_ret (hR.ext hx1).keys b1) ?_
   rintro _ w1 ⟨rfl, rfl⟩
   refine qV (ymv rfl) ?_; refine rVal_if (fun h1 => ?_) (fun h1 => ?_)
   ·skip
    refine qV (yldA U84 rfl ti84 rfl (Blk.cells (n := 4) hB1 (news := [_, _, _, _]) rfl) rfl) ?_; refine rCall rfl rfl (yc (args := [.tmp 27]) cf70 rfl) (bytes_ret _ _ _ _ _ (hR.ext hx1) hb) ?_
    rintro _ w3 ⟨rfl, hx3⟩
    refine qV (ymv rfl) ?_; refine qV (yle rfl rfl) ?_; refine qV (ypT rfl rfl) ?_; refine qV (yas rfl) ?_; refine rEnd ?_; refine Run.qb (e := [(2, _), (4, _), (5, _), (7, _), (9, _)]) ?_; refine (hk _ _ ⟨_, rfl, ?_, hx3⟩).qb
    rw [decide_eq_true_iff]
    exact ⟨fun h => ⟨h1, by omega⟩, fun h => by have := h.2; omega⟩
   ·skip
    refine qS ?_; refine qS ?_; refine qS ?_; refine qS ?_; refine qV (ypF rfl rfl) ?_; refine qV (yas rfl) ?_; refine rEnd ?_; refine Run.qb (e := [(2, _), (4, _), (5, _), (7, _), (9, _)]) ?_
    exact (hk _ _ ⟨_, rfl, ⟨fun h => Bool.noConfusion h, fun h => absurd h.1 h1⟩, Ext.refl _⟩).qb

end Go.Proofs.YtocnhaoilnojmaaGreat
namespace Go.Proofs.YtocnhaoilnojmaaGreat
open Go Go.Proofs Go.Shelf
set_option linter.all false
def repA_ren : Go.Shelf.Ren := ⟨fun | 105 => 111 | 212 => 136 | 99 => 137 | 165 => 138 | 166 => 110 | 170 => 112 | 169 => 113 | 263 => 160 | 264 => 161 | 206 => 162 | 240 => 135 | 241 => 163 | 276 => 159 | 277 => 168 | n => n, fun | 9 => 9 | 3 => 3 | 4 => 4 | 20 => 20 | 0 => 0 | 46 => 118 | 109 => 178 | 5 => 5 | 72 => 152 | 76 => 156 | 51 => 89 | 146 => 199 | 53 => 175 | 148 => 201 | 70 => 150 | 37 => 123 | 75 => 155 | 127 => 180 | 164 => 197 | 80 => 160 | n => n, fun | n => n⟩
theorem repA : Go.Proofs.Lays.n105 Tryz.prog repA_ren := {
  mixed := by kernel_rfl
  f99 := Tryz.func137.trans (congrArg some (by kernel_rfl))
  f105 := Tryz.func111.trans (congrArg some (by kernel_rfl))
  f165 := Tryz.func138.trans (congrArg some (by kernel_rfl))
  f166 := Tryz.func110.trans (congrArg some (by kernel_rfl))
  f169 := Tryz.func113.trans (congrArg some (by kernel_rfl))
  f170 := Tryz.func112.trans (congrArg some (by kernel_rfl))
  f206 := Tryz.func162.trans (congrArg some (by kernel_rfl))
  f212 := Tryz.func136.trans (congrArg some (by kernel_rfl))
  f240 := Tryz.func135.trans (congrArg some (by kernel_rfl))
  f241 := Tryz.func163.trans (congrArg some (by kernel_rfl))
  f263 := Tryz.func160.trans (congrArg some (by kernel_rfl))
  f264 := Tryz.func161.trans (congrArg some (by kernel_rfl))
  f276 := Tryz.func159.trans (congrArg some (by kernel_rfl))
  f277 := Tryz.func168.trans (congrArg some (by kernel_rfl))
  t0 := Tryz.underlying0
  a0 := Tryz.isAgg0
  z0 := Tryz.sizeOf0
  v0 := Tryz.zeroValue0
  t3 := Tryz.underlying3
  a3 := Tryz.isAgg3
  z3 := Tryz.sizeOf3
  v3 := Tryz.zeroValue3
  t4 := Tryz.underlying4
  a4 := Tryz.isAgg4
  z4 := Tryz.sizeOf4
  v4 := Tryz.zeroValue4
  t5 := Tryz.underlying5
  a5 := Tryz.isAgg5
  z5 := Tryz.sizeOf5
  v5 := Tryz.zeroValue5
  t9 := Tryz.underlying9
  a9 := Tryz.isAgg9
  z9 := Tryz.sizeOf9
  v9 := Tryz.zeroValue9
  t20 := Tryz.underlying20
  a20 := Tryz.isAgg20
  z20 := Tryz.sizeOf20
  v20 := Tryz.zeroValue20
  t37 := Tryz.underlying123
  a37 := Tryz.isAgg123
  z37 := Tryz.sizeOf123
  v37 := Tryz.zeroValue123
  t46 := Tryz.underlying118
  a46 := Tryz.isAgg118
  z46 := Tryz.sizeOf118
  v46 := Tryz.zeroValue118
  t51 := Tryz.underlying89
  a51 := Tryz.isAgg89
  z51 := Tryz.sizeOf89
  v51 := Tryz.zeroValue89
  t53 := Tryz.underlying175
  a53 := Tryz.isAgg175
  z53 := Tryz.sizeOf175
  v53 := Tryz.zeroValue175
  t70 := Tryz.underlying150
  a70 := Tryz.isAgg150
  z70 := Tryz.sizeOf150
  v70 := Tryz.zeroValue150
  t72 := Tryz.underlying152
  a72 := Tryz.isAgg152
  z72 := Tryz.sizeOf152
  v72 := Tryz.zeroValue152
  t75 := Tryz.underlying155
  a75 := Tryz.isAgg155
  z75 := Tryz.sizeOf155
  v75 := Tryz.zeroValue155
  t76 := Tryz.underlying156
  a76 := Tryz.isAgg156
  z76 := Tryz.sizeOf156
  v76 := Tryz.zeroValue156
  t109 := Tryz.underlying178
  a109 := Tryz.isAgg178
  z109 := Tryz.sizeOf178
  v109 := Tryz.zeroValue178
  t127 := Tryz.underlying180
  a127 := Tryz.isAgg180
  z127 := Tryz.sizeOf180
  v127 := Tryz.zeroValue180
  t146 := Tryz.underlying199
  a146 := Tryz.isAgg199
  z146 := Tryz.sizeOf199
  v146 := Tryz.zeroValue199
  t148 := Tryz.underlying201
  a148 := Tryz.isAgg201
  z148 := Tryz.sizeOf201
  v148 := Tryz.zeroValue201
  t164 := Tryz.underlying197
  a164 := Tryz.isAgg197
  z164 := Tryz.sizeOf197
  v164 := Tryz.zeroValue197 }
end Go.Proofs.YtocnhaoilnojmaaGreat
namespace Go.Proofs.YtocnhaoilnojmaaGreat
open Go Go.RowKit
set_option linter.all false
set_option maxRecDepth 100000
def keyOk (k : Bytes) : Prop := 1 ≤ k.length ∧ k.length ≤ 64
instance (k : Bytes) : Decidable (keyOk k) := by unfold keyOk; infer_instance
/-- What Get answers. -/
def getR (es : Es) (k : Bytes) : Bytes × Int := if keyOk k then (match getE es k with | some v => (v, 0) | none => ([], 6)) else ([], 1)
theorem getE_some {es : Es} {k v : Bytes} (h : hasE es k) (hv : (es.map (·.2))[posE es k]? = some v) : getE es k = some v := by
 unfold getE; rw [if_pos h, ← hv, List.getElem?_map]
theorem getE_none {es : Es} {k : Bytes} (h : ¬ hasE es k) : getE es k = none := by unfold getE; rw [if_neg h]
theorem Ch.first {S : Int → Bytes → Option Bytes → List Int → Es → Prop} {lo : Bytes} {hi : Option Bytes} {c : Nat} {ps : List (Bytes × Nat)} {ns : List Int} {es : Es} (h : Ch S lo hi c ps ns es) : ∃ u n e, S (c : Int) lo u n e := by
 cases ps with
 | nil => exact ⟨_, _, _, h⟩
 | cons q r => obtain ⟨n1, n2, e1, e2, -, -, h1, -⟩ := h; exact ⟨_, _, _, h1⟩
section
variable {w : World} {p : Nat} {T : Tr} {nb : Int → Nat} {F : Nat → Prop}
set_option maxHeartbeats 1000000 in
theorem get_ret (h : TreeA w p T nb F) {H : Nat} {ns : List Int} {es : Es} (hI : Inv T H ns es) (k : Bytes) :
  Ret Tryz.prog 42 [ptr p 0, S k] w fun v w' => v = .tuple #[S (getR es k).1, I (getR es k).2] ∧ Ext w w' := by
 refine ret_of_run (e := [(0, _), (1, _)]) Tryz.func42 rfl Tryz.ntmps42 rfl rfl ?_; refine qN rfl ?_; refine qV (yas rfl) ?_; refine qV (yas rfl) ?_; refine rEnd ?_; refine run_seq ?_; refine run_block ?_; refine qN rfl ?_; refine qV (ymv rfl) ?_; refine qV (yeqpN U24 rfl rfl) ?_; refine qV (yas rfl) ?_; refine rEnd ?_; refine run_false rfl ?_; refine qN rfl ?_; refine qV (ymv rfl) ?_; refine rCall rfl rfl (yc (args := [.tmp 13]) cf66 rfl) (key_ret k _) ?_
 rintro _ w1 ⟨rfl, rfl⟩
 refine qV ((by first | exact yntd rfl | exact ynt rfl)) ?_; refine qV (yas rfl) ?_; refine rEnd ?_; refine run_cond rfl (fun hk => ?_) (fun hk => ?_)
 ·skip
  refine qN rfl ?_; refine qV (yas rfl) ?_; refine qV (yas rfl) ?_; refine rEnd ?_; refine run_ret Tryz.func42 rfl ?_
  have hk' : ¬ keyOk k := of_decide_eq_true hk
  refine ⟨_, rfl, ?_, Ext.refl _⟩
  unfold getR
  rw [if_neg hk']; rfl
 ·skip
  have hk' : keyOk k := Decidable.not_not.1 (of_decide_eq_false hk)
  refine run_skip ?_; refine run_inBlock ?_; refine run_seq ?_; refine qN rfl ?_; refine qV (ymv rfl) ?_; refine qV (ymv rfl) ?_; refine rCall rfl rfl (yc (args := [.tmp 16, .tmp 17]) cf74 rfl) (leaf_ret h hI k) ?_
  rintro v1 w1 ⟨hx1, hv1⟩
  rcases hv1 with ⟨hr, rfl⟩ | ⟨x, E, e1, e2, rfl, hn, hok, hes, he1, he2⟩
  ·skip
   refine qV (yas rfl) ?_; refine qM rfl ?_; refine qV (ymv rfl) ?_; refine qV (ynepN U81 rfl rfl) ?_; refine rEnd ?_; refine run_false rfl ?_; refine run_skip ?_; refine qN rfl ?_; refine qV (yas rfl) ?_; refine qV (yas rfl) ?_; refine rEnd ?_; refine run_ret Tryz.func42 rfl ?_
   rcases hI.std with ⟨-, -, -, rfl⟩ | ⟨hr', -⟩
   ·refine ⟨_, rfl, ?_, hx1⟩
    unfold getR
    rw [if_pos hk']
    rfl
   ·exact absurd hr hr'
  ·skip
   obtain ⟨q, hq, hM, -, -⟩ := (h.ext hx1).node hn
   obtain ⟨qb, qk, qv, qc⟩ := q
   dsimp only at hq
   subst hq
   have hB := hM.blk
   have hV := hM.vals
   dsimp only at hB hV
   have hget : getE es k = getE E k := by rw [hes, getE_mid he1 he2]
   have hle : E.length ≤ 100000 := by have := hM.bd.kl; simpa [leafNd] using this
   have hp : pos (leafNd E).keys k = posE E k := rfl
   refine qV (yas rfl) ?_; refine qM rfl ?_; refine qV (ymv rfl) ?_; refine qV (ynepN U81 rfl rfl) ?_; refine rEnd ?_; refine run_true rfl ?_; refine qN rfl ?_; refine qV (ymv rfl) ?_; refine qV ((by first | exact ync rfl | exact yncf rfl)) ?_; refine qV (yfa fl84_1 rfl) ?_; refine qV (yld U23 rfl rfl hB rfl) ?_; refine qV (ymv rfl) ?_; refine rCall rfl rfl (yc (args := [.tmp 25, .tmp 26]) cf44 rfl) (bsearch_ret (leafNd E).keys k qk _ hM.r.keys (by simp [leafNd]; omega) hok.rise) ?_
   rintro _ w2 ⟨rfl, rfl⟩
   rw [hp]
   refine qV (ymv rfl) ?_; refine qV (yex rfl rfl) ?_; refine qV (yex rfl rfl) ?_; refine qV (yas rfl) ?_; refine qV (yas rfl) ?_; refine rEnd ?_; refine Run.qb (e := [(4, _), (5, _), (6, _), (7, _), (8, _)]) ?_; refine qN rfl ?_; refine qV (ymv rfl) ?_; refine rEnd ?_; refine run_cond rfl (fun hf => ?_) (fun hf => ?_)
   ·skip
    have hhas : hasE E k := of_decide_eq_true hf
    have hlt := hasE_lt hhas
    have hvl : (leafNd E).vals.length = E.length := by simp [leafNd]
    rw [hvl] at hV
    obtain ⟨gv, cv, rfl⟩ := some_of hV (by omega)
    obtain ⟨v, hv⟩ : ∃ v, (E.map (·.2))[posE E k]? = some v := ⟨_, List.getElem?_eq_getElem (by simpa using hlt)⟩
    refine qN rfl ?_; refine qV (ymv rfl) ?_; refine qV ((by first | exact ync rfl | exact yncf rfl)) ?_; refine qV (yfa fl84_2 rfl) ?_; refine qV (yld U23 rfl rfl hB rfl) ?_; refine qV (ymv rfl) ?_; refine qV (yis U23 ti9 rfl rfl (by omega)) ?_; refine qV (yldc U9 rfl rfl (rd_str (hV.rd) hlt hv)) ?_; refine qV (yas rfl) ?_; refine qV (yas rfl) ?_; refine rEnd ?_; refine run_ret Tryz.func42 rfl ?_; refine ⟨_, rfl, ?_, hx1⟩
    unfold getR
    rw [if_pos hk', hget, getE_some hhas hv]
    rfl
   ·skip
    have hhas : ¬ hasE E k := of_decide_eq_false hf
    refine run_skip ?_; refine qN rfl ?_; refine qV (yas rfl) ?_; refine qV (yas rfl) ?_; refine rEnd ?_; refine run_ret Tryz.func42 rfl ?_; refine ⟨_, rfl, ?_, hx1⟩
    unfold getR
    rw [if_pos hk', hget, getE_none hhas]
    rfl
set_option maxHeartbeats 1000000 in
theorem depth_ret (h : TreeA w p T nb F) {H : Nat} {ns : List Int} {es : Es} (hI : Inv T H ns es) (hH : H ≤ 1000000) :
  Ret Tryz.prog 20 [ptr p 0] w fun v w' => v = I (H : Int) ∧ w' = w := by
 have hz : sizeOk (T.size : Int) := size_ok h
 obtain ⟨z1, z2, -⟩ := id hz
 obtain ⟨mN, mC, mO, gv, kn, kc, ko, O⟩ := h.opn
 refine ret_of_run (e := [(0, _)]) Tryz.func20 rfl Tryz.ntmps20 rfl rfl ?_; refine qN rfl ?_; refine qV (yas rfl) ?_; refine rEnd ?_; refine run_seq ?_; refine qN rfl ?_; refine qV (ymv rfl) ?_; refine qV (yeqpN U24 rfl rfl) ?_; refine rEnd ?_; refine run_false rfl ?_; refine run_skip ?_; refine qN rfl ?_; refine qV (yas rfl) ?_; refine rEnd ?_; refine run_seq ?_; refine qN rfl ?_; refine qV (ymv rfl) ?_; refine qV ((by first | exact ync rfl | exact yncf rfl)) ?_; refine qV (yfa fl74_1 rfl) ?_; refine qV (yld U3 rfl rfl O.blk rfl) ?_; refine qV (yas rfl) ?_; refine rEnd ?_; refine run_block ?_
 refine run_loop (α := Nat × Int × Int) ((H, T.root, 0)) (fun x => [(0, ptr p 0), (2, I 0), (3, I x.2.2), (4, I x.2.1)]) (fun x w' => w' = w ∧ x.1 ≤ H ∧ x.2.2 = H - x.1 ∧ ((x.1 = 0 ∧ x.2.1 = 0) ∨ ∃ lo hi ns' em, Bn T.size T.nodes x.1 x.2.1 lo hi ns' em)) (fun x => x.1) (by repeat (first | exact Sub.nil | refine Sub.cons rfl ?_)) ?hI ?hround
 case hI =>
  refine ⟨rfl, Nat.le_refl _, by simp, ?_⟩
  rcases hI.std with ⟨a, b, -⟩ | ⟨-, -, hB, -⟩
  ·exact .inl ⟨b, a⟩
  ·exact .inr ⟨_, _, _, _, hB⟩
 case hround =>
  rintro ⟨h', x, d⟩ _ ⟨rfl, hle, hd, hc⟩ ih
  dsimp only at hle hd hc
  try dsimp only
  refine run_seq ?_; refine qN rfl ?_; refine qV (ymv rfl) ?_; refine qV (yne rfl rfl) ?_; refine rEnd ?_; refine run_if rfl (fun hx => ?_) (fun hx => ?_)
  ·skip
   rcases hc with ⟨-, e⟩ | ⟨lo, hi, ns', em, hBx⟩
   ·exact absurd e hx
   have hpos := hBx.pos
   rcases Nat.eq_or_lt_of_le hpos with e | e
   ·subst e
    obtain ⟨hn, -⟩ := hBx.leaf (by omega)
    obtain ⟨q, hq, hM, hqF, -⟩ := h.node hn
    have hBn := hM.blk
    rw [hq] at hBn
    refine run_skip ?_; refine run_seq ?_; refine run_block ?_; refine qN rfl ?_; refine qV (ymv rfl) ?_; refine qV ((by first | exact ync rfl | exact yncf rfl)) ?_; refine qV (yfa fl74_5 rfl) ?_; refine qV ((by first | exact yld U71 rfl rfl O.blk rfl | exact yld U71 rfl rfl hBn rfl)) ?_; refine qV (ymv rfl) ?_; refine qV (ylk (k := x) (K := KZ) U71 (ky_int U3) ti81 rfl rfl O.nm.l) ?_
    rw [show (getL kn x).getD (.pointer none) = ptr (nb x) 0 by rw [O.ng x, hn]; rfl]
    refine qV (yas rfl) ?_; refine qM rfl ?_; refine qV (yas rfl) ?_; refine qM rfl ?_; refine qV (ymv rfl) ?_; refine qV ((by first | exact ync rfl | exact yncf rfl)) ?_; refine qV (yfa fl84_0 rfl) ?_; refine qV ((by first | exact yld U4 rfl rfl O.blk rfl | exact yld U4 rfl rfl hBn rfl)) ?_; refine qV ((by first | exact yntd rfl | exact ynt rfl)) ?_; refine rEnd ?_; refine run_false rfl ?_; refine run_skip ?_; refine run_inBlock ?_; refine run_reg rfl ?_; refine qV (ymv rfl) ?_; refine qV (yad rfl rfl (by omega)) ?_; refine qV (yas rfl) ?_; refine rEnd ?_
    exact (ih (0, 0, d + 1) _ ⟨rfl, Nat.zero_le _, by dsimp only; omega, .inl ⟨rfl, rfl⟩⟩ (by dsimp only; omega)).qb
   ·skip
    obtain ⟨h2, rfl⟩ : ∃ h2, h' = h2 + 2 := ⟨h' - 2, by omega⟩
    obtain ⟨c, ps, ns1, hn, rfl, -, -, -, -, -, hch⟩ := Bn.inner (by omega) hBx
    obtain ⟨u, n1, e1, hBc⟩ := hch.first
    obtain ⟨q, hq, hM, hqF, -⟩ := h.node hn
    obtain ⟨qb, qk, qv, qc⟩ := q
    dsimp only at hq
    subst hq
    have hBn := hM.blk
    have hCn := hM.kids
    dsimp only at hBn hCn
    have kcl : (innNd c ps).kids.length = ps.length + 1 := by simp [innNd]
    rw [kcl] at hCn
    obtain ⟨gc, cc, rfl⟩ := some_of hCn (by omega)
    have hcl := hM.bd.cs c (by simp [innNd])
    refine run_skip ?_; refine run_seq ?_; refine run_block ?_; refine qN rfl ?_; refine qV (ymv rfl) ?_; refine qV ((by first | exact ync rfl | exact yncf rfl)) ?_; refine qV (yfa fl74_5 rfl) ?_; refine qV ((by first | exact yld U71 rfl rfl O.blk rfl | exact yld U71 rfl rfl hBn rfl)) ?_; refine qV (ymv rfl) ?_; refine qV (ylk (k := x) (K := KZ) U71 (ky_int U3) ti81 rfl rfl O.nm.l) ?_
    rw [show (getL kn x).getD (.pointer none) = ptr (nb x) 0 by rw [O.ng x, hn]; rfl]
    refine qV (yas rfl) ?_; refine qM rfl ?_; refine qV (yas rfl) ?_; refine qM rfl ?_; refine qV (ymv rfl) ?_; refine qV ((by first | exact ync rfl | exact yncf rfl)) ?_; refine qV (yfa fl84_0 rfl) ?_; refine qV ((by first | exact yld U4 rfl rfl O.blk rfl | exact yld U4 rfl rfl hBn rfl)) ?_; refine qV ((by first | exact yntd rfl | exact ynt rfl)) ?_; refine rEnd ?_; refine run_true rfl ?_; refine run_reg rfl ?_; refine qV (ymv rfl) ?_; refine qV ((by first | exact ync rfl | exact yncf rfl)) ?_; refine qV (yfa fl84_3 rfl) ?_
    refine qV ((by first | exact yld U82 rfl rfl O.blk rfl | exact yld U82 rfl rfl hBn rfl)) ?_; refine qV (yis U82 ti89 rfl rfl (by omega)) ?_; refine qV (yldc U89 rfl rfl (rd_u32 (s := c) (hCn.rd) (by omega) rfl)) ?_; refine qV (ycvSi64 rfl U89 U3 (by omega)) ?_; refine qV (yas rfl) ?_; refine rEnd ?_; refine run_inBlock ?_; refine run_reg rfl ?_; refine qV (ymv rfl) ?_; refine qV (yad rfl rfl (by omega)) ?_; refine qV (yas rfl) ?_; refine rEnd ?_
    exact (ih (h2 + 1, (c : Int), d + 1) _ ⟨rfl, by dsimp only; omega, by dsimp only; omega, .inr ⟨_, _, _, _, hBc⟩⟩ (by dsimp only; omega)).qb
  ·skip
   rcases hc with ⟨e, -⟩ | ⟨lo, hi, ns', em, hBx⟩
   ·subst e
    refine run_exit rfl ?_; refine qN rfl ?_; refine qV (ymv rfl) ?_; refine qV (yas rfl) ?_; refine rEnd ?_; refine run_ret Tryz.func20 rfl ?_
    exact ⟨_, rfl, by simp [resVal]; omega, rfl⟩
   ·exfalso
    have := hI.num x (Bn.some hBx _ hBx.mem)
    omega
theorem need_ret (h : TreeA w p T nb F) {H : Nat} {ns : List Int} {es : Es} (hI : Inv T H ns es) (hH : H ≤ 1000000) :
  Ret Tryz.prog 25 [ptr p 0] w fun v w' => v = I ((H + 1 : Nat) : Int) ∧ w' = w := by
 refine ret_of_run (e := [(0, _)]) Tryz.func25 rfl Tryz.ntmps25 rfl rfl ?_; refine qN rfl ?_; refine qV (yas rfl) ?_; refine rEnd ?_; refine run_seq ?_; refine qN rfl ?_; refine qV (ymv rfl) ?_; refine qV (yeqpN U24 rfl rfl) ?_; refine rEnd ?_; refine run_false rfl ?_; refine run_skip ?_; refine qN rfl ?_; refine qV (ymv rfl) ?_; refine rCall rfl rfl (yc (args := [.tmp 5]) cf20 rfl) (depth_ret h hI hH) ?_
 rintro _ w1 ⟨rfl, rfl⟩
 refine qV (yad rfl rfl (by omega)) ?_; refine qV (yas rfl) ?_; refine rEnd ?_; refine run_ret Tryz.func25 rfl ?_
 exact ⟨_, rfl, by simp [resVal], rfl⟩
end
end Go.Proofs.YtocnhaoilnojmaaGreat
namespace Go.Proofs.YtocnhaoilnojmaaGreat
open Go Go.RowKit
set_option linter.all false
section
variable {z h : Nat} {N : Nodes} {no : Int} {lo : Bytes} {hi : Option Bytes} {ns : List Int} {es : Es} {c : Nat} {P : List (Bytes × Nat)}
theorem Bn.away {N' : Nodes} {x : Int} {l : Bytes} {u : Option Bytes} {n : List Int} {e : Es} (s : Bn z N h x l u n e) (he : ∀ y, N y ≠ none → y ∈ n → N' y = N y) : Bn z N' h x l u n e := s.move fun y hy => he y (s.some y hy) hy
theorem put_inn1 (hz : sizeOk z) (hc : Ch (Bn z N (h + 1)) lo hi c P ns es) (ko : keysOk (P.map (·.1))) (len : P.length + 1 ≤ orderE z) (nz : c ≠ 0 ∧ ∀ y ∈ P, y.2 ≠ 0) (inn : ∀ u ∈ P.map (·.1), inB lo hi u) (full : ∀ d ∈ c :: P.map (·.2), Full z N d) (hnd : (no :: ns).Nodup) :
  Bn z (updI N no (some (innNd c P))) (h + 2) no lo hi (no :: ns) es ∧ Ev N (updI N no (some (innNd c P))) (no :: ns) (no :: ns) := by
 have hn := (List.nodup_cons.1 hnd).1
 have hkid := hc.kid (fun x l u n e hx => hx.mem)
 refine ⟨Bn.of_inner (by have := hz.1; omega) (updI_same _ _ _) ko len nz inn (fun d hd m hm => ?_) (hc.mono fun x l u n e hx hs => hx.move fun y hy => updI_ne fun e => hn (by rw [← e]; exact hs y hy)), Ev.set hnd (List.mem_cons_self ..)⟩
 refine full d hd m ?_
 rw [← hm]
 exact (updI_ne (fun e => hn (by rw [← e]; exact hkid d hd))).symm
theorem put_inn2 {f : Nat} (hz : sizeOk z) (hc : Ch (Bn z N (h + 1)) lo hi c P ns es) (ko : keysOk (P.map (·.1))) (h1 : orderE z < P.length + 1) (h2 : P.length + 1 ≤ 2 * orderE z) (nz : c ≠ 0 ∧ ∀ y ∈ P, y.2 ≠ 0) (inn : ∀ u ∈ P.map (·.1), inB lo hi u) (full : ∀ d ∈ c :: P.map (·.2), Full z N d) (hnd : (no :: ns).Nodup) (hno : N no ≠ none) (hf : N (f : Int) = none) (hf0 : f ≠ 0) :
  ∃ up c2, P[(P.length + 1) / 2 - 1]? = some (up, c2) ∧ ∃ n1 n2 e1 e2, es = e1 ++ e2 ∧
    Bn z (updI (updI N no (some (innNd c (P.take ((P.length + 1) / 2 - 1))))) (f : Int) (some (innNd c2 (P.drop ((P.length + 1) / 2))))) (h + 2) no lo (some up) n1 e1 ∧
    Bn z (updI (updI N no (some (innNd c (P.take ((P.length + 1) / 2 - 1))))) (f : Int) (some (innNd c2 (P.drop ((P.length + 1) / 2))))) (h + 2) (f : Int) up hi n2 e2 ∧
    Ev N (updI (updI N no (some (innNd c (P.take ((P.length + 1) / 2 - 1))))) (f : Int) (some (innNd c2 (P.drop ((P.length + 1) / 2))))) (no :: ns) (n1 ++ n2) ∧ inB lo hi up ∧ lt lo up = true ∧ (1 ≤ up.length ∧ up.length ≤ 64) ∧
    (∀ m, updI (updI N no (some (innNd c (P.take ((P.length + 1) / 2 - 1))))) (f : Int) (some (innNd c2 (P.drop ((P.length + 1) / 2)))) no = some m → ¬ m.low z) ∧ Full z (updI (updI N no (some (innNd c (P.take ((P.length + 1) / 2 - 1))))) (f : Int) (some (innNd c2 (P.drop ((P.length + 1) / 2))))) f := by
 have hn := List.nodup_cons.1 hnd
 have hkid := hc.kid (fun x l u n e hx => hx.mem)
 have hsome := hc.some (fun x l u n e hx => hx.some)
 obtain ⟨up, c2, hg, n1, n2, e1, e2, rfl, rfl, c1, c3, k1, k2, i1, i2, l1, l2, w1, w2, hup, hlu, hul, hc2⟩ := part_ok hc hz ko h1 h2 nz inn
 have hmem := List.mem_of_getElem? hg
 have hnf : no ≠ (f : Int) := fun e => hno (by rw [e]; exact hf)
 have hfs : ∀ y ∈ n1 ++ n2, y ≠ (f : Int) ∧ y ≠ no := fun y hy => ⟨fun e => hsome y hy (by rw [e]; exact hf), fun e => hn.1 (by rw [← e]; exact hy)⟩
 have hN : ∀ (a b : Nd), ∀ y ∈ n1 ++ n2, updI (updI N no (some a)) (f : Int) (some b) y = N y := fun a b y hy => by
  rw [updI_ne (hfs y hy).1, updI_ne (hfs y hy).2]
 have hfull : ∀ (a b : Nd), ∀ d ∈ c :: P.map (·.2), Full z (updI (updI N no (some a)) (f : Int) (some b)) d := fun a b d hd m hm => by
  rw [hN a b d (hkid d hd)] at hm
  exact full d hd m hm
 refine ⟨up, c2, hg, no :: n1, (f : Int) :: n2, e1, e2, rfl, ?_, ?_, ?_, hup, hlu, hul, fun m hm => ?_, fun m hm => ?_⟩
 ·refine Bn.of_inner (by have := hz.1; omega) (by rw [updI_ne hnf]; exact updI_same _ _ _) k1 l1 ⟨nz.1, fun y hy => nz.2 y (List.mem_of_mem_take hy)⟩ i1 (fun d hd => hfull _ _ d ?_) (c1.mono fun x l u n e hx hs => hx.move fun y hy => hN _ _ y (List.mem_append_left _ (hs y hy)))
  rcases List.mem_cons.1 hd with rfl | hd
  ·exact List.mem_cons_self ..
  ·obtain ⟨y, hy, rfl⟩ := List.mem_map.1 hd
   exact List.mem_cons_of_mem _ (List.mem_map.2 ⟨y, List.mem_of_mem_take hy, rfl⟩)
 ·refine Bn.of_inner (by have := hz.1; omega) (updI_same _ _ _) k2 l2 ⟨hc2, fun y hy => nz.2 y (List.mem_of_mem_drop hy)⟩ i2 (fun d hd => hfull _ _ d ?_) (c3.mono fun x l u n e hx hs => hx.move fun y hy => hN _ _ y (List.mem_append_right _ (hs y hy)))
  rcases List.mem_cons.1 hd with rfl | hd
  ·exact List.mem_cons_of_mem _ (List.mem_map.2 ⟨_, hmem, rfl⟩)
  ·obtain ⟨y, hy, rfl⟩ := List.mem_map.1 hd
   exact List.mem_cons_of_mem _ (List.mem_map.2 ⟨y, List.mem_of_mem_drop hy, rfl⟩)
 ·have e1 : Ev N (updI N no (some (innNd c (P.take ((P.length + 1) / 2 - 1))))) (no :: (n1 ++ n2)) (no :: (n1 ++ n2)) := Ev.set hnd (List.mem_cons_self ..)
  refine e1.trans (Ev.new ?_ (by rw [updI_ne hnf.symm]; exact hf) (fun x hx => ?_) (fun x hx => ?_) (by simp))
  ·have hnd2 := List.nodup_append.1 hn.2
   have hd : ∀ y ∈ n1 ++ n2, y ≠ (f : Int) ∧ y ≠ no := hfs
   rw [List.cons_append, List.nodup_cons, List.nodup_append]
   refine ⟨fun h => ?_, hnd2.1, List.nodup_cons.2 ⟨fun h => (hd _ (List.mem_append_right _ h)).1 rfl, hnd2.2.1⟩, fun a ha b hb e => ?_⟩
   ·rcases List.mem_append.1 h with h | h
    ·exact (hd _ (List.mem_append_left _ h)).2 rfl
    ·rcases List.mem_cons.1 h with h | h
     ·exact hnf h
     ·exact (hd _ (List.mem_append_right _ h)).2 rfl
   ·subst e
    rcases List.mem_cons.1 hb with h | h
    ·exact (hd a (List.mem_append_left _ ha)).1 h
    ·exact hnd2.2.2 a ha a h rfl
  ·simp only [List.cons_append, List.mem_cons, List.mem_append] at hx ⊢
   rcases hx with h | h | h | h
   ·exact .inl (.inl h)
   ·exact .inl (.inr (.inl h))
   ·exact .inr h
   ·exact .inl (.inr (.inr h))
  ·simp only [List.cons_append, List.mem_cons, List.mem_append] at hx ⊢
   rcases hx with h | h | h
   ·exact .inl h
   ·exact .inr (.inl h)
   ·exact .inr (.inr (.inr h))
 ·rw [updI_ne hnf, updI_same] at hm
  cases hm; exact w1
 ·rw [updI_same] at hm
  cases hm; exact w2
end
end Go.Proofs.YtocnhaoilnojmaaGreat
namespace Go.Proofs.YtocnhaoilnojmaaGreat
open Go Go.RowKit
set_option linter.all false
set_option maxRecDepth 100000
/-- A tree in order, but that its root may have no keys. -/
structure InvP (T : Tr) (H : Nat) (ns : List Int) (es : Es) : Prop where
 bn : Bn T.size T.nodes H T.root [] none ns es
 nd : ns.Nodup
 all : ∀ x, T.nodes x ≠ none → x ∈ ns
 cnt : T.count = es.length
 num : ∀ x, T.nodes x ≠ none → 1 ≤ x ∧ x ≤ 2147483647
 gnum : ∀ x ∈ T.given, 1 ≤ x ∧ x ≤ 2147483647
 giv : GivS T
 chg : ∀ x, T.nodes x ≠ none → T.changed x = false → T.old x = true
theorem Inv.toP {T : Tr} {H : Nat} {ns : List Int} {es : Es} (h : Inv T H ns es) (hr : T.root ≠ 0) : InvP T H ns es := by
 rcases h.std with ⟨e, -⟩ | ⟨-, -, hB, hnd, -⟩
 ·exact absurd e hr
 ·exact ⟨hB, hnd, h.all, h.cnt, h.num, h.gnum, h.giv, h.chg⟩
theorem InvP.inv {T : Tr} {H : Nat} {ns : List Int} {es : Es} (h : InvP T H ns es) (hk : ∀ n, T.nodes T.root = some n → n.keys ≠ []) : Inv T H ns es := by
 have := h.num T.root (h.bn.some _ h.bn.mem)
 exact ⟨.inr ⟨by omega, h.bn.pos, h.bn, h.nd, hk⟩, h.all, h.cnt, h.num, h.gnum, h.giv, h.chg⟩
theorem InvP.gl {T : Tr} {H : Nat} {ns : List Int} {es : Es} (h : InvP T H ns es) : T.given.length ≤ 2147483647 := by
 have := rise_len h.giv.rise h.gnum
 omega
/-- What a call makes of a tree, be its root what it may. -/
def EvoR (T T' : Tr) (g : Nat) : Prop := Evo T { T' with root := T.root } g
theorem Evo.rt {T T' : Tr} {g : Nat} (h : Evo T T' g) (a : Int) : Evo { T with root := a } { T' with root := a } g := ⟨h.size, h.old, rfl, h.len, h.giv, h.nod, ⟨h.srt.rise, h.srt.free⟩, h.chg⟩
theorem Evo.toR {T T' : Tr} {g : Nat} (h : Evo T T' g) : EvoR T T' g := ⟨h.size, h.old, rfl, h.len, h.giv, h.nod, ⟨h.srt.rise, h.srt.free⟩, h.chg⟩
theorem Evo.toR' {T T' : Tr} {g : Nat} {a : Int} (h : Evo T T' g) : EvoR T { T' with root := a } g := ⟨h.size, h.old, rfl, h.len, h.giv, h.nod, ⟨h.srt.rise, h.srt.free⟩, h.chg⟩
theorem EvoR.trans {T T1 T2 : Tr} {a b : Nat} (h1 : EvoR T T1 a) (h2 : EvoR T1 T2 b) : EvoR T T2 (a + b) :=
 Evo.trans (T1 := { T1 with root := T.root }) h1 (Evo.rt h2 T.root)
theorem EvoR.giv {T T' : Tr} {g : Nat} (h : EvoR T T' g) : GivS T' := ⟨(show Evo _ _ _ from h).srt.rise, (show Evo _ _ _ from h).srt.free⟩
theorem EvoR.num {T T' : Tr} {g : Nat} (h : EvoR T T' g) (hn : ∀ x, T.nodes x ≠ none → 1 ≤ x ∧ x ≤ 2147483647) (hg : ∀ x ∈ T.given, 1 ≤ x ∧ x ≤ 2147483647) : (∀ x, T'.nodes x ≠ none → 1 ≤ x ∧ x ≤ 2147483647) ∧ ∀ x ∈ T'.given, 1 ≤ x ∧ x ≤ 2147483647 :=
 ⟨fun x hx => ((show Evo _ _ _ from h).nod x hx).elim (hn x) (hg x), fun x hx => ((show Evo _ _ _ from h).giv x hx).elim (hg x) (fun e => hn x e.1)⟩
theorem EvoR.chgd {T T' : Tr} {g : Nat} (h : EvoR T T' g) (hc : ∀ x, T.nodes x ≠ none → T.changed x = false → T.old x = true) : ∀ x, T'.nodes x ≠ none → T'.changed x = false → T'.old x = true := fun x hx hcx => by
 rw [show T'.old = T.old from (show Evo _ _ _ from h).old]
 rcases (show Evo _ _ _ from h).chg x hcx with e | ⟨e, e'⟩
 ·exact absurd e hx
 ·exact hc x (by rw [← e]; exact hx) e'
theorem InvP.step {T T' : Tr} {H H' g : Nat} {ns ns' : List Int} {es es' : Es} (h : InvP T H ns es) (e : Evo T T' g) (b : Bn T.size T'.nodes H' T.root [] none ns' es') (v : Ev T.nodes T'.nodes ns ns') (c : T'.count = es'.length) : InvP T' H' ns' es' := by
 have hn := e.toR.num h.num h.gnum
 refine ⟨by rw [e.size, e.root]; exact b, v.nd, fun x hx => ?_, c, hn.1, hn.2, e.srt, e.toR.chgd h.chg⟩
 rcases v.d3 x hx with e | ⟨e1, e2⟩
 ·exact e
 ·exact absurd (h.all x e1) e2
section
variable {w : World} {p : Nat} {T : Tr} {nb : Int → Nat} {F : Nat → Prop}
theorem settle_ret (h : TreeA w p T nb F) {H : Nat} {ns : List Int} {es : Es} (hI : InvP T H ns es) :
  Ret Tryz.prog 48 [ptr p 0] w fun v w' => v = .tuple #[] ∧ ∃ T' H' ns' F', TreeA w' p T' nb F' ∧ Inv T' H' ns' es ∧ H' ≤ H ∧ EvoR T T' 0 ∧ Kp F w w' ∧ ∀ k, F' k → F k ∨ w.heap.size ≤ k := by
 have hz : sizeOk (T.size : Int) := size_ok h
 obtain ⟨z1, z2, -⟩ := id hz
 have hgl := hI.gl
 have hB := hI.bn
 have hpos := hB.pos
 have hdropE : ∀ {m : Nd} {a : Int}, T.nodes T.root = some m → EvoR T { T.dropN T.root with root := a } 0 := fun hm => (Evo.drop hI.giv hm).toR'
 rcases Nat.eq_or_lt_of_le hpos with e | e
 ·subst e
  obtain ⟨hn, hns, hok, hbE, hinE⟩ := hB.leaf (by omega)
  by_cases he : es = []
  ·subst he
   refine (settle_leaf0 h hn (by omega)).mono ?_
   rintro v w' ⟨rfl, F', h', hk, hF⟩
   have hE := hdropE (a := 0) hn
   obtain ⟨n1, n2⟩ := hE.num hI.num hI.gnum
   refine ⟨rfl, _, 0, [], F', h', ⟨.inl ⟨rfl, rfl, rfl, rfl⟩, fun x hx => ?_, hI.cnt, n1, n2, hE.giv, hE.chgd hI.chg⟩, by omega, hE, hk, hF⟩
   exfalso
   apply hx
   show updI T.nodes T.root none x = none
   by_cases e : x = T.root
   ·rw [e]; exact updI_same _ _ _
   ·rw [updI_ne e]
    cases hm : T.nodes x with
    | none => rfl
    | some m => have := hI.all x (by rw [hm]; simp); rw [hns] at this; simp at this; exact absurd this e
  ·refine (settle_leafS h hn he).mono ?_
   rintro v w' ⟨rfl, hx⟩
   refine ⟨rfl, T, 1, ns, F, h.ext hx, hI.inv (fun n hn' => ?_), by omega, (Evo.refl hI.giv).toR, hx.kp, fun k hk => .inl hk⟩
   rw [hn] at hn'; cases hn'
   simpa [leafNd] using he
 ·obtain ⟨h0, rfl⟩ : ∃ h0, H = h0 + 2 := ⟨H - 2, by omega⟩
  obtain ⟨c, ps, ns', hn, rfl, hko, hlo, hnz, hink, hfull, hC⟩ := hB.inner (by omega)
  cases ps with
  | cons x r =>
    refine (settle_innS h hn (by simp)).mono ?_
    rintro v w' ⟨rfl, hx⟩
    refine ⟨rfl, T, h0 + 2, _, F, h.ext hx, hI.inv (fun n hn' => ?_), by omega, (Evo.refl hI.giv).toR, hx.kp, fun k hk => .inl hk⟩
    rw [hn] at hn'; cases hn'
    simp [innNd]
  | nil =>
    refine (settle_inn1 h hn (by omega)).mono ?_
    rintro v w' ⟨rfl, F', h', hk, hF⟩
    have hE := hdropE (a := (c : Int)) hn
    obtain ⟨n1, n2⟩ := hE.num hI.num hI.gnum
    have hnd := List.nodup_cons.1 hI.nd
    have hC' : Bn T.size T.nodes (h0 + 1) (c : Int) [] none ns' es := hC
    have hB' : Bn T.size (updI T.nodes T.root none) (h0 + 1) (c : Int) [] none ns' es := hC'.away (fun y _ hy => updI_ne (fun e => hnd.1 (by rw [← e]; exact hy)))
    have hcr : (c : Int) ≠ T.root := fun e => hnd.1 (by rw [← e]; exact hC'.mem)
    refine ⟨rfl, _, h0 + 1, ns', F', h', InvP.inv ⟨hB', hnd.2, fun x hx => ?_, hI.cnt, n1, n2, hE.giv, hE.chgd hI.chg⟩ (fun n hn' => ?_), by omega, hE, hk, hF⟩
    ·have hxr : x ≠ T.root := fun e => hx (by rw [e]; exact updI_same _ _ _)
     have hx' : updI T.nodes T.root none x ≠ none := hx
     rw [updI_ne hxr] at hx'
     exact (List.mem_cons.1 (hI.all x hx')).resolve_left hxr
    ·have hn'' : updI T.nodes T.root none (c : Int) = some n := hn'
     rw [updI_ne hcr] at hn''
     have hf := hfull c (List.mem_cons_self ..)
     cases h0 with
     | zero =>
       obtain ⟨hl, -⟩ := hC'.leaf (by omega)
       rw [hl] at hn''
       cases hn''
       have := full_leaf hf hz hl
       intro e
       have e' : es.length = 0 := by have := congrArg List.length e; simpa [leafNd] using this
       omega
     | succ h1 =>
       obtain ⟨c', ps', _, hl, -⟩ := hC'.inner (by omega)
       rw [hl] at hn''
       cases hn''
       have := full_inn hf hz hl
       intro e
       have e' : ps'.length = 0 := by have := congrArg List.length e; simpa [innNd] using this
       omega
end
end Go.Proofs.YtocnhaoilnojmaaGreat
namespace Go.Proofs.YtocnhaoilnojmaaGreat
open Go Go.RowKit
set_option linter.all false
theorem Ch.cnts {S : Int → Bytes → Option Bytes → List Int → Es → Prop} {h : Nat} {G : Nat → Prop} (hS : ∀ (x : Nat) l u n e, G x → S (x : Int) l u n e → n.length + 1 ≤ 2 * e.length ∧ h ≤ e.length) : ∀ {ps : List (Bytes × Nat)} {lo : Bytes} {hi : Option Bytes} {c : Nat} {ns : List Int} {es : Es}, Ch S lo hi c ps ns es → (∀ d ∈ c :: ps.map (·.2), G d) → ns.length + (ps.length + 1) ≤ 2 * es.length ∧ h * (ps.length + 1) ≤ es.length
 | [], _, _, c, ns, es, hc, hg => by
   have := hS c _ _ _ _ (hg c (List.mem_cons_self ..)) hc
   simpa using this
 | (k, d) :: r, lo, hi, c, ns, es, hc, hg => by
   obtain ⟨n1, n2, e1, e2, rfl, rfl, hs, hr⟩ := hc
   have h1 := hS c _ _ _ _ (hg c (List.mem_cons_self ..)) hs
   have h2 := Ch.cnts hS hr (fun x hx => hg x (List.mem_cons_of_mem _ (by simpa using hx)))
   simp only [List.length_append, List.length_cons]
   refine ⟨by omega, ?_⟩
   have : h * (r.length + 1 + 1) = h * (r.length + 1) + h := by rw [Nat.mul_succ]
   omega
theorem bn_cnts {z : Nat} {N : Nodes} (hz : sizeOk (z : Int)) : ∀ {h : Nat} {no : Int} {lo : Bytes} {hi : Option Bytes} {ns : List Int} {es : Es}, Bn z N h no lo hi ns es → (∀ n, N no = some n → n.keys ≠ []) → ns.length + 1 ≤ 2 * es.length ∧ h ≤ es.length
 | 0, _, _, _, _, _, s, _ => s.elim
 | 1, no, lo, hi, ns, es, s, hk => by
   obtain ⟨hn, rfl, -⟩ := s.leaf (by have := hz.2.1; omega)
   have := hk _ hn
   have : es ≠ [] := fun e => this (by rw [e]; rfl)
   have := List.length_pos_iff.2 this
   simp
   omega
 | h + 2, no, lo, hi, ns, es, s, hk => by
   obtain ⟨c, ps, ns', hn, rfl, -, -, -, -, hfull, hC⟩ := s.inner (by have := hz.1; omega)
   have hps : ps ≠ [] := fun e => hk _ hn (by rw [e]; rfl)
   have hpl := List.length_pos_iff.2 hps
   have := hC.cnts (h := h + 1) (G := fun x => Full z N x) (fun x l u n e hf hb => bn_cnts hz hb (fun m hm => by
    cases h with
    | zero =>
      obtain ⟨hl, -⟩ := hb.leaf (by have := hz.2.1; omega)
      rw [hl] at hm; cases hm
      have := full_leaf hf hz hl
      intro e'
      have : e.length = 0 := by have := congrArg List.length e'; simpa [leafNd] using this
      omega
    | succ h1 =>
      obtain ⟨c', ps', _, hl, -⟩ := hb.inner (by have := hz.1; omega)
      rw [hl] at hm; cases hm
      have := full_inn hf hz hl
      intro e'
      have : ps'.length = 0 := by have := congrArg List.length e'; simpa [innNd] using this
      omega)) hfull
   have h2 : (h + 1) * (ps.length + 1) ≥ (h + 1) * 2 := Nat.mul_le_mul_left _ (by omega)
   simp only [List.length_cons]
   omega
theorem Inv.cnts {T : Tr} {H : Nat} {ns : List Int} {es : Es} (hz : sizeOk (T.size : Int)) (h : Inv T H ns es) : ns.length ≤ 2 * es.length ∧ H ≤ es.length := by
 rcases h.std with ⟨-, rfl, rfl, rfl⟩ | ⟨-, -, hB, -, hk⟩
 ·simp
 ·have := bn_cnts hz hB hk
  omega
end Go.Proofs.YtocnhaoilnojmaaGreat
namespace Go.Proofs.YtocnhaoilnojmaaGreat
open Go Go.RowKit
set_option linter.all false
/-- The kids with the bounds of their keys. -/
def bnds : Bytes → Option Bytes → Nat → List (Bytes × Nat) → List (Nat × Bytes × Option Bytes)
 | lo, hi, c, [] => [(c, lo, hi)]
 | lo, hi, c, (k, d) :: r => (c, lo, some k) :: bnds k hi d r
theorem bnds_length (hi : Option Bytes) : ∀ (ps : List (Bytes × Nat)) (lo : Bytes) (c : Nat), (bnds lo hi c ps).length = ps.length + 1
 | [], _, _ => rfl
 | (k, d) :: r, _, _ => by simp [bnds, bnds_length hi r]
theorem bnds_get (hi : Option Bytes) : ∀ (ps : List (Bytes × Nat)) (lo : Bytes) (c i : Nat), i ≤ ps.length → ∃ a l u, (bnds lo hi c ps)[i]? = some (a, l, u) ∧ (c :: ps.map (·.2))[i]? = some a ∧ ((i = 0 ∧ l = lo) ∨ ∃ j, i = j + 1 ∧ (ps.map (·.1))[j]? = some l) ∧ ((i = ps.length ∧ u = hi) ∨ ∃ k, i < ps.length ∧ (ps.map (·.1))[i]? = some k ∧ u = some k)
 | [], lo, c, i, h => by
   have : i = 0 := by simpa using h
   subst this
   exact ⟨c, lo, hi, rfl, rfl, .inl ⟨rfl, rfl⟩, .inl ⟨rfl, rfl⟩⟩
 | (k, d) :: r, lo, c, 0, _ => ⟨c, lo, some k, rfl, rfl, .inl ⟨rfl, rfl⟩, .inr ⟨k, by simp, rfl, rfl⟩⟩
 | (k, d) :: r, lo, c, i + 1, h => by
   obtain ⟨a, l, u, h1, h2, h3, h4⟩ := bnds_get hi r k d i (by simpa using h)
   refine ⟨a, l, u, h1, by simpa using h2, .inr ⟨i, rfl, ?_⟩, ?_⟩
   ·rcases h3 with ⟨rfl, rfl⟩ | ⟨j, rfl, hj⟩
    ·rfl
    ·simpa using hj
   ·rcases h4 with ⟨rfl, rfl⟩ | ⟨k', hk, hk', rfl⟩
    ·exact .inl ⟨by simp, rfl⟩
    ·exact .inr ⟨k', by simp; omega, by simpa using hk', rfl⟩
theorem ch_iff {S : Int → Bytes → Option Bytes → List Int → Es → Prop} (hi : Option Bytes) : ∀ {ps : List (Bytes × Nat)} {lo : Bytes} {c : Nat} {ns : List Int} {es : Es}, Ch S lo hi c ps ns es ↔ ∃ L : List (List Int × Es), L.length = ps.length + 1 ∧ (∀ (i : Nat) b l, (bnds lo hi c ps)[i]? = some b → L[i]? = some l → S (b.1 : Int) b.2.1 b.2.2 l.1 l.2) ∧ ns = L.flatMap (·.1) ∧ es = L.flatMap (·.2)
 | [], lo, c, ns, es => by
   constructor
   ·intro h
    refine ⟨[(ns, es)], rfl, fun i b l hb hl => ?_, by simp, by simp⟩
    cases i with
    | zero =>
      have e1 : (c, lo, hi) = b := Option.some.inj hb
      have e2 : (ns, es) = l := Option.some.inj hl
      subst e1; subst e2; exact h
    | succ i => simp at hl
   ·rintro ⟨L, hl, hS, rfl, rfl⟩
    match L, hl with
    | [x], _ =>
      have := hS 0 _ x rfl rfl
      have e1 : [x].flatMap (fun l : List Int × Es => l.1) = x.1 := by simp
      have e2 : [x].flatMap (fun l : List Int × Es => l.2) = x.2 := by simp
      rw [e1, e2]
      exact this
 | (k, d) :: r, lo, c, ns, es => by
   constructor
   ·rintro ⟨n1, n2, e1, e2, rfl, rfl, hs, hr⟩
    obtain ⟨L, hl, hS, rfl, rfl⟩ := (ch_iff hi).1 hr
    refine ⟨(n1, e1) :: L, by simp [hl], fun i b l hb hl => ?_, by simp, by simp⟩
    cases i with
    | zero =>
      have e1' : (c, lo, some k) = b := Option.some.inj hb
      have e2' : (n1, e1) = l := Option.some.inj hl
      subst e1'; subst e2'; exact hs
    | succ i => exact hS i b l (by simpa [bnds] using hb) (by simpa using hl)
   ·rintro ⟨L, hl, hS, rfl, rfl⟩
    match L, hl with
    | x :: L', hl' =>
      exact ⟨x.1, L'.flatMap (·.1), x.2, L'.flatMap (·.2), by simp, by simp, hS 0 _ x rfl rfl, (ch_iff hi).2 ⟨L', by simpa using hl', fun i b l hb hl => hS (i + 1) b l (by simpa [bnds] using hb) (by simpa using hl), rfl, rfl⟩⟩
/-- Entries from a key on, at most so many, behind those that are there. -/
def takeR (most : Nat) (from' : Bytes) (out es : Es) : Es := out ++ (es.filter fun x => !lt x.1 from').take (most - out.length)
theorem takeR_app (m : Nat) (f : Bytes) (out a b : Es) : takeR m f (takeR m f out a) b = takeR m f out (a ++ b) := by
 unfold takeR
 rw [List.filter_append, List.take_append, List.append_assoc]
 congr 2
 rw [List.length_append, List.length_take]
 by_cases h : (a.filter fun x => !lt x.1 f).length ≤ m - out.length
 ·rw [Nat.min_eq_right h, Nat.sub_sub]
 ·rw [Nat.min_eq_left (by omega), show m - (out.length + (m - out.length)) = 0 by omega, show m - out.length - (a.filter fun x => !lt x.1 f).length = 0 by omega]
theorem takeR_full {m : Nat} {f : Bytes} {out es : Es} (h : m ≤ out.length) : takeR m f out es = out := by
 unfold takeR; rw [show m - out.length = 0 by omega]; simp
theorem takeR_nil (m : Nat) (f : Bytes) (out : Es) : takeR m f out [] = out := by simp [takeR]
theorem takeR_one {m : Nat} {f : Bytes} {out : Es} {x : Bytes × Bytes} (h : out.length < m) (hx : lt x.1 f = false) : takeR m f out [x] = out ++ [x] := by
 unfold takeR
 rw [List.filter_cons_of_pos (by simp [hx]), List.filter_nil, List.take_of_length_le (by simp; omega)]
theorem takeR_not {m : Nat} {f : Bytes} {out : Es} {es : Es} (h : ∀ x ∈ es, lt x.1 f = true) : takeR m f out es = out := by
 unfold takeR
 rw [List.filter_eq_nil_iff.2 (fun x hx => by simp [h x hx])]; simp
theorem takeR_len (m : Nat) (f : Bytes) (out es : Es) : (takeR m f out es).length ≤ out.length + es.length := by
 unfold takeR
 rw [List.length_append, List.length_take]
 have := List.length_filter_le (fun x : Bytes × Bytes => !lt x.1 f) es
 omega
theorem flatMap_take_succ {α β : Type} {L : List α} {f : α → List β} {i : Nat} {x : α} (h : L[i]? = some x) : (L.take (i + 1)).flatMap f = (L.take i).flatMap f ++ f x := by
 obtain ⟨hi, e⟩ := List.getElem?_eq_some_iff.1 h
 rw [List.take_succ_eq_append_getElem hi, e]; simp
/-- The kids ahead of the way hold no key from this one on. -/
theorem way_before {S : Int → Bytes → Option Bytes → List Int → Es → Prop} {lo : Bytes} {hi : Option Bytes} {c : Nat} {ps : List (Bytes × Nat)} {k : Bytes} {L : List (List Int × Es)} (hl : L.length = ps.length + 1) (hS : ∀ (i : Nat) b l, (bnds lo hi c ps)[i]? = some b → L[i]? = some l → S (b.1 : Int) b.2.1 b.2.2 l.1 l.2) (hb : ∀ x l u n e, S x l u n e → ∀ y ∈ e, inB l u y.1) :
  ∀ x ∈ (L.take (wayI (ps.map (·.1)) k)).flatMap (·.2), lt x.1 k = true := by
 intro x hx
 obtain ⟨l, hl', hxl⟩ := List.mem_flatMap.1 hx
 obtain ⟨i, hi', e⟩ := List.mem_take_iff_getElem.1 hl'
 have hw := wayI_le (ps.map (·.1)) k
 rw [List.length_map] at hw
 have hiw : i < wayI (ps.map (·.1)) k := by omega
 obtain ⟨a, lo', u, h1, -, -, h4⟩ := bnds_get hi ps lo c i (by omega)
 have hin := hb _ _ _ _ _ (hS i _ l h1 (by rw [List.getElem?_eq_getElem (by omega), e])) x hxl
 rcases h4 with ⟨e', -⟩ | ⟨k', hk1, hk2, rfl⟩
 ·omega
 ·have h5 := wayI_lo (l := ps.map (·.1)) (k := k) k' (List.mem_take_iff_getElem.2 ⟨i, by rw [List.length_map]; omega, (List.getElem?_eq_some_iff.1 hk2).2⟩)
  exact lt_le_trans (hin.2 k' rfl) h5
end Go.Proofs.YtocnhaoilnojmaaGreat
namespace Go.Proofs.YtocnhaoilnojmaaGreat
open Go Go.RowKit Go.Shelf
set_option linter.all false
set_option maxRecDepth 100000

/-! ### A builder of strings -/
theorem repX : Builder.Extra Tryz.prog repA_ren where
 sizeBuilder := by kernel_rfl
 liesBuilder := by kernel_rfl
 t5 := by kernel_rfl
 a5 := fun _ => by kernel_rfl
 z5 := fun _ => by kernel_rfl
 v5 := fun w => TI.zero (w := w) ti5
 infoByte := by kernel_rfl
 cellsByte := by kernel_rfl
 sizeByte := by kernel_rfl
 neB5 := by decide
/-- A builder at b, with these bytes. -/
def Bld (B b : Nat) (l : Bytes) (w : World) : Prop := Lib.IsBuilder 152 5 B b (Lib.byteCells l) w ∧ B ≤ w.heap.size
theorem bld_new {w : World} {b : Nat} (h : w.heap[b]? = some (.cells #[.pointer none, .slice none 0 0] 152 (0, 0))) (hb : b ≤ w.heap.size) : Bld b b [] w :=
 ⟨.inl ⟨Nat.le_refl _, .slice none 0 0, h, World.ownsRow_nil w b _ 1, by simp [Value.ownBlock]⟩, hb⟩
section
variable {w : World}
theorem bws_ret {B b : Nat} {l : Bytes} (h : Bld B b l w) (s : Bytes) (hl : l.length + s.length ≤ 140737488355328) :
  Ret Tryz.prog 110 [ptr b 0, S s] w fun v w' => Bld B b (l ++ s) w' ∧ Below B w w' := by
 have := Any.Builder_WriteString { repA with } repX B b (Lib.byteCells l) ⟨s.toArray⟩ w h.1 (by rw [Lib.byteCells_length, size_S]; exact hl) h.2
 refine Calls.mono this fun _ _ ⟨he, hw, hB⟩ => ⟨_, he, ⟨?_, by have := hB.size; have := h.2; omega⟩, hB⟩
 rw [Lib.byteCells_append]
 exact .inr hw
theorem blen_ret {B b : Nat} {l : Bytes} (h : Bld B b l w) : Ret Tryz.prog 112 [ptr b 0] w fun v w' => v = I (l.length : Int) ∧ w' = w := by
 have := Any.Builder_Len { repA with } B b (Lib.byteCells l) w h.1
 rw [Lib.byteCells_length] at this
 exact Calls.mono this fun _ _ ⟨he, hw⟩ => ⟨_, he, rfl, hw⟩
theorem bstr_ret {B b : Nat} {l : Bytes} (h : Bld B b l w) : Ret Tryz.prog 113 [ptr b 0] w fun v w' => v = S l ∧ Below B w w' :=
 Calls.mono (Any.Builder_String_any { repA with } repX B b l w h.1 h.2) fun _ _ ⟨he, hw⟩ => ⟨_, he, rfl, hw⟩
theorem brep_ret (c : UInt8) (n : Nat) (hn : n ≤ 1000000) : Ret Tryz.prog 111 [S [c], I (n : Int)] w fun v w' => v = S (List.replicate n c) ∧ Ext w w' := by
 have := Any.strings_Repeat repA repX ⟨[c].toArray⟩ n w (by omega) (by rw [size_S, List.length_singleton]; omega)
 have e : ∀ n, Lib.repeatL [c] n = List.replicate n c := fun n => by
  induction n with
  | zero => rfl
  | succ n ih => rw [Lib.repeatL, ih]; rfl
 refine Calls.mono this fun _ _ ⟨he, hw⟩ => ⟨_, he, ?_, Ext.of_below hw⟩
 show Value.string ⟨(Lib.repeatL [c] n).toArray⟩ = _
 rw [e]
end
theorem zstcP {P : Program} {e : Env} {ty t : TypeId} {d : Option Nat} {pos : String} {aft : Array Edge} {g : Option (Nat × Bool)} {x y : Operand} {w : World} {z v u : Value} {bytes : Nat} {a : Addr} (hs : TI P t z 1 bytes) (hx : look e x = some (.pointer (some a))) (hy : look e y = some v) (hv : oneV v = true) (hc : w.cell? a = some u) (hf : w.frozen? a = false) :
  Zp P e ⟨d, .store t x y, ty, pos, aft, g⟩ w fun w' => w' = w.setCell a v := ⟨_, zstc hs hx hy hv hc hf, rfl⟩
theorem palB {P : Program} {e : Env} {d : Option Nat} {ty t : TypeId} {pos : String} {aft : Array Edge} {g : Option (Nat × Bool)} {w : World} {z : Value} {n bytes : Nat} {cs : List Value} (hs : TI P t z n bytes) (hz : z.cells = cs.toArray) : Yp P e ⟨d, .alloc t, ty, pos, aft, g⟩ w fun v' w' => ∃ b, v' = ptr b 0 ∧ b = w.heap.size ∧ Ext w w' ∧ w'.heap[b]? = some (.cells cs.toArray t (0, 0)) :=
 ⟨_, _, fun ρ hρ => by simp [execOp, Instr.alloc, hs.zero, newVar, newRow, newObj, Sem.run, hz], w.heap.size, rfl, rfl, ext_alloc w _, heap_new w _⟩
/-- 'a[lo:]' of an array. -/
theorem yslArrF {P : Program} {e : Env} {d : Option Nat} {ty t : TypeId} {pos : String} {aft : Array Edge} {g : Option (Nat × Bool)} {x y : Operand} {w : World} {k : IntKind} {za : Int} {m : Nat} [ha : NatC za m] {n : Nat} {z : Value} {size bytes b i : Nat} {el : TypeId} (ht : P.underlying t = some (.array n el)) (he : TI P el z size bytes) (hx : look e x = some (ptr b i)) (hy : look e y = some (.int k za)) (hm : m < n) :
  Y P e ⟨d, .slice t x (some y) none none, ty, pos, aft, g⟩ (.slice (some ⟨b, i + m * size, none⟩) (n - m) (n - m)) w w := fun ρ hρ => by
 obtain ⟨rfl⟩ := ha
 have hs := he.size (w := w)
 have h2 : ∀ w, (Instr.sliceBound (.int k (m : Int)) n .sliceB).run P w = .ok m w := fun w => by rw [run_sliceBound _ _ _ _ _ (by omega) (by omega)]; simp
 have hne : ¬ n = m := by omega
 simp [execOp, hρ _ _ hx, hρ _ _ hy, Instr.sliceAt, run_underlying ht, Instr.sureAddr, Instr.sliceBounds, h2, hs, add_off, hne]
theorem kp_of_below {B : Nat} {w w' : World} (h : Below B w w') : Kp (fun k => B ≤ k) w w' := ⟨h.os, h.tape, h.output, h.size, fun k hk hn => h.block k (by omega)⟩
theorem Bld.lt {B b : Nat} {l : Bytes} {w : World} (h : Bld B b l w) : b < w.heap.size := by
 rcases h.1 with ⟨-, v, hb, -⟩ | ⟨-, v, hb, -⟩ <;>
 ·rcases Nat.lt_or_ge b w.heap.size with h' | h'
  ·exact h'
  ·rw [Array.getElem?_eq_none h'] at hb; cases hb
theorem own_ext {w w' : World} {B : Nat} {e n size : Nat} {v : Value} {xs : List Value} (h : w.ownsRow B e size v n xs) (k : Ext w w') : w'.ownsRow B e size v n xs :=
 ⟨h.1, h.2.imp id fun ⟨g, cap, cur, a, b, c, d⟩ => ⟨g, cap, cur, a, b, k.heap c id, d⟩⟩
theorem Bld.ext {B b : Nat} {l : Bytes} {w w' : World} (h : Bld B b l w) (k : Ext w w') : Bld B b l w' := by
 have := k.size
 refine ⟨?_, by have := h.2; omega⟩
 rcases h.1 with ⟨h1, v, h2, h3, h4⟩ | ⟨h1, v, h2, h3, h4⟩
 ·exact .inl ⟨h1, v, k.heap h2 id, own_ext h3 k, h4⟩
 ·exact .inr ⟨h1, v, k.heap h2 id, own_ext h3 k, h4⟩
theorem below_of_kp {S : Nat → Prop} {w w' : World} {B : Nat} (h : Kp S w w') (hB : B ≤ w.heap.size) (hs : ∀ k, S k → B ≤ k) : Below B w w' := ⟨h.os, h.tape, h.output, h.size, fun k hk => h.block k (by omega) (fun e => by have := hs k e; omega)⟩
theorem bcc_ret {w : World} {B b : Nat} {l : Bytes} (h : Bld B b l w) : Ret Tryz.prog 135 [ptr b 0] w fun v w' => v = .tuple #[] ∧ Lib.BuilderAt 152 5 B b (ptr b 0) (Lib.byteCells l) w' ∧ Kp (fun k => k = b) w w' := by
 rcases h.1 with h | h
 ·exact Calls.mono (Any.Builder_copyCheck_fresh { repA with } repX.toX72 b w h.cell0 h.shape h.frozen0) fun _ _ ⟨he, hw⟩ => ⟨_, he, rfl, by rw [hw]; exact h.used _, by rw [hw]; exact kp_setCell w b 0 _⟩
 ·exact Calls.mono (Any.Builder_copyCheck_used { repA with } repX.toX72 b w h.cell0) fun _ _ ⟨he, hw⟩ => ⟨_, he, rfl, by rw [hw]; exact h, by rw [hw]; exact Kp.refl _ _⟩
theorem rebase {w : World} {B B' : Nat} {e n size : Nat} {v : Value} {xs : List Value} (h : w.ownsRow B e size v n xs) (hb : ∀ g, v.ownBlock = some g → B' ≤ g) : w.ownsRow B' e size v n xs :=
 ⟨h.1, h.2.imp id fun ⟨g, cap, cur, a, _, c⟩ => ⟨g, cap, cur, a, hb g (by rw [a]; rfl), c⟩⟩
set_option maxHeartbeats 1000000 in
theorem bwr_ret {w : World} {B b m : Nat} {l s : Bytes} {sv : Value} (h : Bld B b l w) (hs : Rd w sv 1 m (s.map u8v)) (hsb : ∀ g, sv.ownBlock = some g → g ≠ b) (hl : l.length + m ≤ 1000000000) :
  Ret Tryz.prog 109 [ptr b 0, sv] w fun v w' => Bld B b (l ++ s) w' ∧ Below B w w' := by
 obtain ⟨sa, sc, rfl, -⟩ := hs.shape
 have hBw := h.2
 have hsm : s.length = m := by have := hs.len; simpa using this
 refine ret_of_run (e := [(0, _), (1, _)]) Tryz.func109 rfl Tryz.ntmps109 rfl rfl ?_; refine qN rfl ?_; refine qV (yas rfl) ?_; refine qV (yas rfl) ?_; refine qM rfl ?_; refine qV (ymv rfl) ?_; refine rCall rfl rfl (yc (args := [.tmp 6]) cf135 rfl) (bcc_ret h) ?_
 rintro _ w1 ⟨rfl, ⟨hBb, v, hbk, hown, hne⟩, hk1⟩
 have hz1 := hk1.size
 have hs1 := hs.kp hk1 (fun g hg => hsb g hg)
 have hB1 : Blk w1 b [ptr b 0, v] 152 := ⟨(0, 0), hbk, fun i _ => by omega⟩
 have hS1 : Sl w1 v 5 1 l.length (Lib.byteCells l) := by
  have := rebase (B' := 0) hown (fun _ _ => Nat.zero_le _)
  rw [Lib.byteCells_length] at this
  exact this
 have hog : ∀ g, v.ownBlock = some g → B ≤ g := fun g hg => (hown.lt g hg).1
 refine qM rfl ?_; refine qV (ymv rfl) ?_; refine qV (ymv rfl) ?_; refine qV ((by first | exact ync rfl | exact yncf rfl)) ?_; refine qV (yfa fl152_1 rfl) ?_; refine qV (yld U123 rfl rfl hB1 rfl) ?_; refine qV (ymv rfl) ?_
 have hml : maxLen = 9223372036854775807 := rfl
 refine rValP rfl rfl (pap U123 ti5 rfl (by decide) rfl rfl hS1 hs1 (by intro c hc; obtain ⟨x, -, rfl⟩ := List.mem_map.1 hc; rfl) (by omega) (by omega)) ?_
 rintro v2 w2 ⟨hS2, hk2, ho2, -⟩
 have hz2 := hk2.size
 have hb2 := hk2.heap hbk (fun e => hne e)
 refine qV ((by first | exact ync rfl | exact yncf rfl)) ?_; refine qV (yfa fl152_1 rfl) ?_; refine rEffP rfl (zstcP ti123 rfl rfl (oneV_sl hS2) (a := ⟨b, 1, none⟩) (by rw [Lib.cell_of_heap hb2]; rfl) (Lib.frozen_of_heap hb2 1)) ?_
 rintro w3 rfl
 refine qM rfl ?_; refine qV (ymv rfl) ?_; refine qV (yln U123 rfl) ?_; refine qV (yas rfl) ?_; refine qV (yas rfl) ?_; refine rEnd ?_; refine run_ret Tryz.func109 rfl ?_
 have ho2' : ∀ g, v2.ownBlock = some g → B ≤ g := fun g hg => (ho2 g hg).elim (hog g) (fun e => by omega)
 have hS2' : w2.ownsRow B 5 1 v2 (Lib.byteCells (l ++ s)).length (Lib.byteCells (l ++ s)) := by
  rw [Lib.byteCells_length, List.length_append, hsm, Lib.byteCells_append]
  exact rebase hS2 ho2'
 have hput := Lib.BuilderAt.put (v' := v2) hBb hb2 hS2' (by decide)
 have hk3 := kp_setCell w2 b 1 v2
 refine ⟨_, rfl, ⟨.inr hput, ?_⟩, ?_⟩
 ·have := hk3.size; omega
 ·refine below_of_kp (S := fun k => B ≤ k) (((hk1.mono' (fun k e => by rw [e]; exact hBb)).trans (hk2.mono' (fun k e => hog k e))).trans (hk3.mono' (fun k e => by rw [e]; exact hBb))) hBw (fun _ h => h)
/-! ### Encode -/
theorem put_ret {w : World} {B b : Nat} {l : Bytes} (h : Bld B b l w) (v k : Nat) (hk : 1 ≤ k ∧ k ≤ 4) (hv : v < 4294967296) (hl : l.length ≤ 900000000) :
  Ret Tryz.prog 108 [I (v : Int), I (k : Int), ptr b 0] w fun _ w' => Bld B b (l ++ beN v k) w' ∧ Below B w w' := by
 have hB := h.2
 have hbl := h.lt
 refine ret_of_run (e := [(0, _), (1, _), (2, _)]) Tryz.func108 rfl Tryz.ntmps108 rfl rfl ?_; refine qN rfl ?_; refine qV (ymv rfl) ?_; refine qV (ysrN 24 16777216 rfl rfl (by decide) rfl) ?_; refine qV (ycv8 rfl U3 U5) ?_; refine qV (ymv rfl) ?_; refine qV (ysrN 16 65536 rfl rfl (by decide) rfl) ?_; refine qV (ycv8 rfl U3 U5) ?_; refine qV (ymv rfl) ?_; refine qV (ysrN 8 256 rfl rfl (by decide) rfl) ?_; refine qV (ycv8 rfl U3 U5) ?_; refine qV (ymv rfl) ?_; refine qV (ycv8 rfl U3 U5) ?_
 refine qV (ybdA (parts := [(0, .tmp 8), (1, .tmp 11), (2, .tmp 14), (3, .tmp 16)]) (cs := [_, _, _, _]) ti153 rfl U153 ti5 rfl rfl) ?_; refine rValP rfl rfl (pal (cs := [_, _, _, _]) ti153 rfl) ?_
 rintro _ w1 ⟨b5, rfl, hb5, hx1, hB1⟩
 refine rEffP rfl (zstA ti153 rfl rfl rfl rfl hB1 (by simp)) ?_
 rintro w2 ⟨hB2, hk2⟩
 have hx2 : Ext w w2 := hx1.trans_new hk2 (fun i hi => by omega)
 have hbs : (beN v 4).map u8v = [Value.int .u8 ((v / 16777216 % 256 : Nat) : Int), Value.int .u8 ((v / 65536 % 256 : Nat) : Int), Value.int .u8 ((v / 256 % 256 : Nat) : Int), Value.int .u8 ((v % 256 : Nat) : Int)] := by
  simp [beN, u8v]
 have hB2' : Blk w2 b5 ((beN v 4).map u8v) 153 := by
  rw [hbs]; exact hB2
 refine rEnd ?_; refine run_reg rfl ?_; refine qV (ymv rfl) ?_; refine qV (ysb rfl rfl (by omega)) ?_
 rw [show ((4 : Int) - (k : Int)) = ((4 - k : Nat) : Int) by omega]
 refine qV (yslArrF U153 ti5 rfl rfl (by omega)) ?_
 have hrd : Rd w2 (.slice (some ⟨b5, 0 + (4 - k) * 1, none⟩) (4 - (4 - k)) (4 - (4 - k))) 1 (4 - (4 - k)) ((beN v k).map u8v) := by
  have e4 : 4 - (4 - k) = k := by omega
  refine ⟨by simp; omega, .inr ⟨b5, _, _, rfl, fun j u hj => ?_⟩⟩
  rw [hB2'.cell]
  have hd : (beN v 4).drop (4 - k) = beN v k := by
   have : k = 0 ∨ k = 1 ∨ k = 2 ∨ k = 3 ∨ k = 4 := by omega
   rcases this with rfl | rfl | rfl | rfl | rfl <;> rfl
  rw [← hd, List.map_drop, List.getElem?_drop] at hj
  rw [show 0 + (4 - k) * 1 + j = 4 - k + j by omega]
  exact hj
 refine rCall rfl rfl (yc (args := [.tmp 2, .tmp 20]) cf109 rfl) (bwr_ret (h.ext hx2) hrd (fun g hg e => by have e' : b5 = g := Option.some.inj hg; omega) (by omega)) ?_
 rintro _ w3 ⟨hBl3, hlow3⟩
 refine rEnd ?_; refine run_end Tryz.func108 rfl ?_
 exact ⟨_, rfl, hBl3, ⟨hlow3.os.trans hx2.os, hlow3.tape.trans hx2.tape, hlow3.output.trans hx2.output, Nat.le_trans hx2.size hlow3.size, fun i hi => (hlow3.block i hi).trans (hx2.block i (by omega) id)⟩⟩
theorem rd_getuN {w : World} {a : Option Addr} {cap n : Nat} {l : List Nat} {i : Nat} (h : Rd w (.slice a n cap) 1 n (l.map u32v)) (hn : n = l.length) (hi : i < n) : ∃ b off s, a = some ⟨b, off, none⟩ ∧ l[i]? = some s := by
 subst hn; exact rd_getu h hi
theorem rd_getsM {w : World} {a : Option Addr} {cap n : Nat} {l : List Bytes} {i : Nat} (h : Rd w (.slice a n cap) 1 n (l.map S)) (hn : n = l.length) (hi : i < n) : ∃ b off s, a = some ⟨b, off, none⟩ ∧ l[i]? = some s := by
 subst hn; exact rd_gets h hi
theorem bodyL_snoc {es : Es} {i : Nat} {x : Bytes × Bytes} (h : es[i]? = some x) : bodyL (es.take (i + 1)) = bodyL (es.take i) ++ (beN x.1.length 1 ++ (beN x.2.length 2 ++ (x.1 ++ x.2))) := by
 unfold bodyL
 rw [flatMap_take_succ h]; rfl
theorem bodyI_snoc {ps : List (Bytes × Nat)} {i : Nat} {x : Bytes × Nat} (h : ps[i]? = some x) : bodyI (ps.take (i + 1)) = bodyI (ps.take i) ++ (beN x.1.length 1 ++ (x.1 ++ beN x.2 4)) := by
 unfold bodyI
 rw [flatMap_take_succ h]; rfl
theorem bodyL_take_le (es : Es) (i : Nat) : (bodyL (es.take i)).length ≤ (bodyL es).length := by
 rw [bodyL_length, bodyL_length]
 conv => rhs; rw [← List.take_append_drop i es, entB_app]
 omega
theorem bodyI_take_le (ps : List (Bytes × Nat)) (i : Nat) : (bodyI (ps.take i)).length ≤ (bodyI ps).length := by
 conv => rhs; rw [← List.take_append_drop i ps]
 unfold bodyI
 rw [List.flatMap_append, List.length_append]
 omega
set_option maxHeartbeats 2000000 in
theorem encode_ret {n : Nd} {kv vv cv : Value} {w : World} (hR : NdR w n kv vv cv) (hb : n.Bd) {z : Nat} (hz : sizeOk (z : Int)) :
  Ret Tryz.prog 83 [ndv n kv vv cv, I (z : Int)] w fun v w' => Ext w w' ∧ ((NdOk z n ∧ v = .tuple #[S (enc z n), I 0]) ∨ (¬ NdOk z n ∧ v = .tuple #[S [], I 1])) := by
 obtain ⟨z1, z2, -⟩ := id hz
 refine ret_of_run (e := [(0, _), (1, _)]) Tryz.func83 rfl Tryz.ntmps83 rfl rfl ?_; refine qN rfl ?_; refine rValP rfl rfl (pbx rfl (cs := [.bool n.leaf, kv, vv, cv]) rfl) ?_
 rintro _ w1 ⟨b, rfl, hb1, hx1, hB1⟩
 refine qV (yas rfl) ?_; refine qV (yas rfl) ?_; refine rEnd ?_; refine run_seq ?_; refine qN rfl ?_; refine qV (yldA U84 rfl ti84 rfl (Blk.cells (n := 4) hB1 (news := [_, _, _, _]) rfl) rfl) ?_; refine qV (ymv rfl) ?_; refine rCall rfl rfl (yc (args := [.tmp 12, .tmp 13]) cf107 rfl) (check_ret (hR.ext hx1) hb hz) ?_
 rintro _ w2 ⟨rfl, hx2⟩
 have hx02 := hx1.trans hx2
 have hB2 := hx2.blk hB1
 have hR2 := hR.ext hx02
 by_cases hok : NdOk z n
 ·rw [if_pos hok]
  refine qV (yas rfl) ?_; refine qM rfl ?_; refine qV (ymv rfl) ?_; refine qV (yne rfl rfl) ?_; refine rEnd ?_; refine run_if rfl (fun h0 => ?_) (fun h0 => ?_)
  ·exact absurd rfl h0
  ·skip
   refine run_skip ?_; refine qN rfl ?_; refine rValP rfl rfl (palB (cs := [_, _]) ti152 rfl) ?_
   rintro _ w3 ⟨bb, rfl, hbb, hx3, hbk⟩
   have hBl3 : Bld bb bb [] w3 := bld_new hbk (by have := hx3.size; omega)
   have hstep : ∀ {a c : World}, Ext w2 a → Below bb a c → Ext w2 c := fun h k => h.trans_new (kp_of_below k) (fun i hi => by omega)
   have hB3 := hx3.blk hB2
   have hzn : NdZ z n := ⟨hok, hb.cs⟩
   rcases nd_cases hok with ⟨es, rfl⟩ | ⟨c, ps, rfl⟩
   ·obtain ⟨n1, n2⟩ := ndz_leaf hz hzn
    have hrl := rawN_length hok
    rw [rawN_leaf] at hrl
    have hby := hok.2.1
    have hbl : (bodyL es).length + 3 ≤ 4096 := by simp at hrl; omega
    have hK := hR2.keys
    have hV := hR2.vals
    rw [show (leafNd es).keys.length = es.length by simp [leafNd]] at hK
    rw [show (leafNd es).vals.length = es.length by simp [leafNd]] at hV
    obtain ⟨ka, kc, rfl, -⟩ := hK.shape
    obtain ⟨va, vc, rfl, -⟩ := hV.shape
    refine qM rfl ?_; refine qV (ymf (first := []) (caps := [.tmp 7]) rfl rfl) ?_; refine qV (yas rfl) ?_; refine qM rfl ?_; refine qV (yas rfl) ?_; refine rEnd ?_; refine run_seq ?_; refine qN rfl ?_; refine qV (yfa fl84_0 rfl) ?_; refine qV (yld U4 rfl rfl hB3 rfl) ?_; refine rEnd ?_; refine run_true rfl ?_; refine run_reg rfl ?_; refine qV (yas rfl) ?_; refine qM rfl ?_; refine qV (ymv rfl) ?_; refine qV (ymv rfl) ?_; refine rCall rfl rfl (ycv' (args := [.tmp 22, .const (Value.int .i64 1)]) cf108 rfl rfl) (put_ret hBl3 1 1 (by omega) (by omega) (by simp)) ?_
    rintro _ w4 ⟨hBl4, hlow4⟩
    have hx4 := hstep hx3 hlow4
    have hB4 := hx4.blk hB2
    refine qM rfl ?_; refine qV (ymv rfl) ?_; refine qV (yfa fl84_1 rfl) ?_; refine qV (yld U23 rfl rfl hB4 rfl) ?_; refine qV (yln U23 rfl) ?_; refine rCall rfl rfl (ycv' (args := [.tmp 27, .const (Value.int .i64 2)]) cf108 rfl rfl) (put_ret hBl4 es.length 2 (by omega) (by omega) (by simp)) ?_
    rintro _ w5 ⟨hBl5, hlow5⟩
    have hx5 := hstep hx4 hlow5
    have hB5 := hx5.blk hB2
    refine rEnd ?_; refine Run.qb (e := [(1, _), (2, _), (4, _), (5, _), (7, _), (8, _)]) ?_; refine run_seq ?_; refine qN rfl ?_; refine qV (yfa fl84_0 rfl) ?_; refine qV (yld U4 rfl rfl hB5 rfl) ?_; refine qV ((by first | exact yntd rfl | exact ynt rfl)) ?_; refine rEnd ?_; refine run_false rfl ?_; refine run_skip ?_; refine run_seq ?_; refine qN rfl ?_; refine qV (yfa fl84_1 rfl) ?_; refine qV (yld U23 rfl rfl hB5 rfl) ?_; refine qV (yln U23 rfl) ?_; refine qV (ymv rfl) ?_; refine rEnd ?_; refine run_block ?_
    refine run_loop (α := Nat) (0) (fun i => [(1, I (z : Int)), (2, ptr b 0), (7, ptr bb 0), (8, .func (.func 108) #[] #[ptr bb 0]), (40, .slice ka es.length kc), (41, I (es.length : Int)), (42, I (i : Int))]) (fun i w' => i ≤ es.length ∧ Ext w2 w' ∧ Bld bb bb (1 :: (beN es.length 2 ++ bodyL (es.take i))) w') (fun i => es.length - i) (by repeat (first | exact Sub.nil | refine Sub.cons rfl ?_)) ?hI ?hround
    case hI => exact ⟨Nat.zero_le _, hx5, by simpa [bodyL, beN] using hBl5⟩
    case hround =>
     rintro i wi ⟨hi, hxi, hBli⟩ ih
     have hBi := hxi.blk hB2
     have hKi := hK.ext hxi
     have hVi := hV.ext hxi
     have htl := bodyL_take_le es i
     try dsimp only
     refine qN rfl ?_; refine qV (ylt rfl rfl) ?_; refine rEnd ?_; refine run_seq ?_; refine run_if rfl (fun hlt => ?_) (fun hlt => ?_)
     ·skip
      have hi' : i < es.length := by omega
      obtain ⟨x, hx⟩ : ∃ x, es[i]? = some x := ⟨_, List.getElem?_eq_getElem hi'⟩
      obtain ⟨lb, lo, s, rfl, hs'⟩ := rd_getsM hKi (by simp [leafNd]) hi'
      obtain ⟨lb2, lo2, s2, rfl, hs2⟩ := rd_getsM hVi (by simp [leafNd]) hi'
      have e1 : s = x.1 := by simp [leafNd, hx] at hs'; exact hs'.symm
      have e2 : s2 = x.2 := by simp [leafNd, hx] at hs2; exact hs2.symm
      have hxl := n2 x (List.mem_of_getElem? hx)
      refine run_skip ?_; refine run_seq ?_; refine run_block ?_; refine qN rfl ?_; refine qV (ymv rfl) ?_; refine qV (yis U23 ti9 rfl rfl (by omega)) ?_; refine qV (yldc U9 rfl rfl (rd_str hKi hi' hs')) ?_
      rw [e1]
      refine qV (yas rfl) ?_; refine qV (yas rfl) ?_; refine qM rfl ?_; refine qV (ymv rfl) ?_; refine qV (ymv rfl) ?_; refine qV (ylnS U9 rfl) ?_; refine rCall rfl rfl (ycv' (args := [.tmp 49, .const (Value.int .i64 1)]) cf108 rfl rfl) (put_ret hBli x.1.length 1 (by omega) (by omega) (by simp; omega)) ?_
      rintro _ w6 ⟨hBl6, hlow6⟩
      have hx6 := hstep hxi hlow6
      have hB6 := hx6.blk hB2
      refine rEnd ?_; refine run_seq ?_; refine qN rfl ?_; refine qV (yfa fl84_0 rfl) ?_; refine qV (yld U4 rfl rfl hB6 rfl) ?_; refine rEnd ?_; refine run_true rfl ?_; refine qN rfl ?_; refine qV (ymv rfl) ?_; refine qV (yfa fl84_2 rfl) ?_; refine qV (yld U23 rfl rfl hB6 rfl) ?_; refine qV (ymv rfl) ?_; refine qV (yis U23 ti9 rfl rfl (by omega)) ?_; refine qV (yldc U9 rfl rfl (rd_str (hV.ext hx6) hi' hs2)) ?_
      rw [e2]
      refine qV (ylnS U9 rfl) ?_; refine rCall rfl rfl (ycv' (args := [.tmp 59, .const (Value.int .i64 2)]) cf108 rfl rfl) (put_ret hBl6 x.2.length 2 (by omega) (by omega) (by simp; omega)) ?_
      rintro _ w7 ⟨hBl7, hlow7⟩
      have hx7 := hstep hx6 hlow7
      have hB7 := hx7.blk hB2
      refine qM rfl ?_; refine qV (ymv rfl) ?_; refine qV (yfa fl84_2 rfl) ?_; refine qV (yld U23 rfl rfl hB7 rfl) ?_; refine qV (ymv rfl) ?_; refine qV (yis U23 ti9 rfl rfl (by omega)) ?_; refine qV (yldc U9 rfl rfl (rd_str (hV.ext hx7) hi' hs2)) ?_
      rw [e2]
      refine qV (ycatS rfl rfl (by first | omega | (simp; done) | (simp; omega))) ?_
      refine rCall rfl rfl (yc (args := [.tmp 7, .tmp 67]) cf110 rfl) (bws_ret hBl7 (x.1 ++ x.2) (by simp; omega)) ?_
      rintro _ w8 ⟨hBl8, hlow8⟩
      have hx8 := hstep hx7 hlow8
      refine rEnd ?_; refine run_exit rfl ?_; refine run_reg rfl ?_; refine qV (yad rfl rfl (by omega)) ?_; refine qV (ymv rfl) ?_; refine rEnd ?_; refine (ih (i + 1) w8 ⟨by omega, hx8, ?_⟩ (by omega)).qb
      rw [bodyL_snoc hx]
      simpa using hBl8
     ·skip
      have e : i = es.length := by omega
      subst e
      rw [List.take_length] at hBli
      refine run_exit rfl ?_; refine qN rfl ?_; refine qV (ymv rfl) ?_; refine rCall rfl rfl (yc (args := [.tmp 7]) cf112 rfl) (blen_ret hBli) ?_
      rintro _ _ ⟨rfl, rfl⟩
      have hlen : (1 :: (beN es.length 2 ++ bodyL es)).length ≤ z := by rw [hrl]; exact hby
      refine qV (ysb rfl rfl (by omega)) ?_
      rw [show ((z : Int) - ((1 :: (beN es.length 2 ++ bodyL es)).length : Int)) = ((z - (1 :: (beN es.length 2 ++ bodyL es)).length : Nat) : Int) by omega]
      refine rCall rfl rfl (yc (args := [.const (Value.string (⟨#[0]⟩)), .tmp 83]) cf111 rfl) (brep_ret 0 _ (by omega)) ?_
      rintro _ w9 ⟨rfl, hx9⟩
      refine rCall rfl rfl (yc (args := [.tmp 7, .tmp 84]) cf110 rfl) (bws_ret (hBli.ext hx9) _ (by simp; omega)) ?_
      rintro _ w10 ⟨hBl10, hlow10⟩
      refine qM rfl ?_; refine rCall rfl rfl (yc (args := [.tmp 7]) cf113 rfl) (bstr_ret hBl10) ?_
      rintro _ w11 ⟨rfl, hlow11⟩
      refine qV (yas rfl) ?_; refine qV (yas rfl) ?_; refine rEnd ?_; refine run_ret Tryz.func83 rfl ?_; refine ⟨_, rfl, hx02.trans (hstep (hstep (hxi.trans hx9) hlow10) hlow11), .inl ⟨hok, ?_⟩⟩
      simp only [resVal, enc, rawN_leaf]
   ·obtain ⟨n1, nc, n2⟩ := ndz_inn hz hzn
    have hrl := rawN_length hok
    rw [rawN_inn] at hrl
    have hby := hok.2.1
    have hbl : (bodyI ps).length + 7 ≤ 4096 := by simp at hrl; omega
    have hK := hR2.keys
    have hC := hR2.kids
    rw [show (innNd c ps).keys.length = ps.length by simp [innNd]] at hK
    rw [show (innNd c ps).kids.length = ps.length + 1 by simp [innNd]] at hC
    obtain ⟨ka, kc, rfl, -⟩ := hK.shape
    obtain ⟨ca, cc, rfl, -⟩ := hC.shape
    obtain ⟨cb, co, c0, rfl, hc0⟩ := rd_getuN hC (by simp [innNd]) (show 0 < ps.length + 1 by omega)
    have ec0 : c0 = c := by simp [innNd] at hc0; exact hc0.symm
    subst ec0
    refine qM rfl ?_; refine qV (ymf (first := []) (caps := [.tmp 7]) rfl rfl) ?_; refine qV (yas rfl) ?_; refine qM rfl ?_; refine qV (yas rfl) ?_; refine rEnd ?_; refine run_seq ?_; refine qN rfl ?_; refine qV (yfa fl84_0 rfl) ?_; refine qV (yld U4 rfl rfl hB3 rfl) ?_; refine rEnd ?_; refine run_false rfl ?_; refine run_skip ?_; refine qN rfl ?_; refine qV (ymv rfl) ?_; refine qV (ymv rfl) ?_; refine rCall rfl rfl (ycv' (args := [.tmp 22, .const (Value.int .i64 1)]) cf108 rfl rfl) (put_ret hBl3 2 1 (by omega) (by omega) (by simp)) ?_
    rintro _ w4 ⟨hBl4, hlow4⟩
    have hx4 := hstep hx3 hlow4
    have hB4 := hx4.blk hB2
    refine qM rfl ?_; refine qV (ymv rfl) ?_; refine qV (yfa fl84_1 rfl) ?_; refine qV (yld U23 rfl rfl hB4 rfl) ?_; refine qV (yln U23 rfl) ?_; refine rCall rfl rfl (ycv' (args := [.tmp 27, .const (Value.int .i64 2)]) cf108 rfl rfl) (put_ret hBl4 ps.length 2 (by omega) (by omega) (by simp)) ?_
    rintro _ w5 ⟨hBl5, hlow5⟩
    have hx5 := hstep hx4 hlow5
    have hB5 := hx5.blk hB2
    refine rEnd ?_; refine Run.qb (e := [(1, _), (2, _), (4, _), (5, _), (7, _), (8, _)]) ?_; refine run_seq ?_; refine qN rfl ?_; refine qV (yfa fl84_0 rfl) ?_; refine qV (yld U4 rfl rfl hB5 rfl) ?_; refine qV ((by first | exact yntd rfl | exact ynt rfl)) ?_; refine rEnd ?_; refine run_true rfl ?_; refine run_reg rfl ?_; refine qV (ymv rfl) ?_; refine qV (yfa fl84_3 rfl) ?_; refine qV (yld U82 rfl rfl hB5 rfl) ?_; refine qV (yis U82 ti89 rfl rfl (by omega)) ?_; refine qV (yldc U89 rfl rfl (rd_u32 (hC.ext hx5) (by omega) hc0)) ?_; refine qV (ycvSi64 rfl U89 U3 (by omega)) ?_
    refine rCall rfl rfl (ycv' (args := [.tmp 37, .const (Value.int .i64 4)]) cf108 rfl rfl) (put_ret hBl5 c0 4 (by omega) (by omega) (by simp)) ?_
    rintro _ w5' ⟨hBl5', hlow5'⟩
    have hx5' := hstep hx5 hlow5'
    have hB5' := hx5'.blk hB2
    refine rEnd ?_; refine run_seq ?_; refine qN rfl ?_; refine qV (yfa fl84_1 rfl) ?_; refine qV (yld U23 rfl rfl hB5' rfl) ?_; refine qV (yln U23 rfl) ?_; refine qV (ymv rfl) ?_; refine rEnd ?_; refine run_block ?_
    refine run_loop (α := Nat) (0) (fun i => [(1, I (z : Int)), (2, ptr b 0), (7, ptr bb 0), (8, .func (.func 108) #[] #[ptr bb 0]), (40, .slice ka ps.length kc), (41, I (ps.length : Int)), (42, I (i : Int))]) (fun i w' => i ≤ ps.length ∧ Ext w2 w' ∧ Bld bb bb (2 :: (beN ps.length 2 ++ (beN c0 4 ++ bodyI (ps.take i)))) w') (fun i => ps.length - i) (by repeat (first | exact Sub.nil | refine Sub.cons rfl ?_)) ?hI ?hround
    case hI => exact ⟨Nat.zero_le _, hx5', by simpa [bodyI, beN] using hBl5'⟩
    case hround =>
     rintro i wi ⟨hi, hxi, hBli⟩ ih
     have hBi := hxi.blk hB2
     have hKi := hK.ext hxi
     have htl := bodyI_take_le ps i
     try dsimp only
     refine qN rfl ?_; refine qV (ylt rfl rfl) ?_; refine rEnd ?_; refine run_seq ?_; refine run_if rfl (fun hlt => ?_) (fun hlt => ?_)
     ·skip
      have hi' : i < ps.length := by omega
      obtain ⟨x, hx⟩ : ∃ x, ps[i]? = some x := ⟨_, List.getElem?_eq_getElem hi'⟩
      obtain ⟨lb, lo, s, rfl, hs'⟩ := rd_getsM hKi (by simp [innNd]) hi'
      have e1 : s = x.1 := by simp [innNd, hx] at hs'; exact hs'.symm
      have hs2 : (innNd c0 ps).kids[i + 1]? = some x.2 := by simp [innNd, hx]
      have hxl := n2 x (List.mem_of_getElem? hx)
      refine run_skip ?_; refine run_seq ?_; refine run_block ?_; refine qN rfl ?_; refine qV (ymv rfl) ?_; refine qV (yis U23 ti9 rfl rfl (by omega)) ?_; refine qV (yldc U9 rfl rfl (rd_str hKi hi' hs')) ?_
      rw [e1]
      refine qV (yas rfl) ?_; refine qV (yas rfl) ?_; refine qM rfl ?_; refine qV (ymv rfl) ?_; refine qV (ymv rfl) ?_; refine qV (ylnS U9 rfl) ?_; refine rCall rfl rfl (ycv' (args := [.tmp 49, .const (Value.int .i64 1)]) cf108 rfl rfl) (put_ret hBli x.1.length 1 (by omega) (by omega) (by simp; omega)) ?_
      rintro _ w6 ⟨hBl6, hlow6⟩
      have hx6 := hstep hxi hlow6
      have hB6 := hx6.blk hB2
      refine rEnd ?_; refine run_seq ?_; refine qN rfl ?_; refine qV (yfa fl84_0 rfl) ?_; refine qV (yld U4 rfl rfl hB6 rfl) ?_; refine rEnd ?_; refine run_false rfl ?_; refine run_skip ?_; refine qN rfl ?_; refine qV (ymv rfl) ?_; refine rCall rfl rfl (yc (args := [.tmp 7, .tmp 69]) cf110 rfl) (bws_ret hBl6 x.1 (by simp; omega)) ?_
      rintro _ w7 ⟨hBl7, hlow7⟩
      have hx7 := hstep hx6 hlow7
      have hB7 := hx7.blk hB2
      refine rEnd ?_; refine run_reg rfl ?_; refine qV (ymv rfl) ?_; refine qV (yfa fl84_3 rfl) ?_; refine qV (yld U82 rfl rfl hB7 rfl) ?_; refine qV (ymv rfl) ?_; refine qV (yad rfl rfl (by omega)) ?_; refine qV (yis U82 ti89 rfl rfl (show i + 1 < ps.length + 1 by omega)) ?_; refine qV (yldc U89 rfl rfl (rd_u32 (hC.ext hx7) (by omega) hs2)) ?_; refine qV (ycvSi64 rfl U89 U3 (by omega)) ?_; refine rCall rfl rfl (ycv' (args := [.tmp 78, .const (Value.int .i64 4)]) cf108 rfl rfl) (put_ret hBl7 x.2 4 (by omega) (by omega) (by simp; omega)) ?_
      rintro _ w8 ⟨hBl8, hlow8⟩
      have hx8 := hstep hx7 hlow8
      refine rEnd ?_; refine run_inBlock ?_; refine run_reg rfl ?_; refine qV (yad rfl rfl (by omega)) ?_; refine qV (ymv rfl) ?_; refine rEnd ?_; refine (ih (i + 1) w8 ⟨by omega, hx8, ?_⟩ (by omega)).qb
      rw [bodyI_snoc hx]
      simpa using hBl8
     ·skip
      have e : i = ps.length := by omega
      subst e
      rw [List.take_length] at hBli
      refine run_exit rfl ?_; refine qN rfl ?_; refine qV (ymv rfl) ?_; refine rCall rfl rfl (yc (args := [.tmp 7]) cf112 rfl) (blen_ret hBli) ?_
      rintro _ _ ⟨rfl, rfl⟩
      have hlen : (2 :: (beN ps.length 2 ++ (beN c0 4 ++ bodyI ps))).length ≤ z := by rw [hrl]; exact hby
      refine qV (ysb rfl rfl (by omega)) ?_
      rw [show ((z : Int) - ((2 :: (beN ps.length 2 ++ (beN c0 4 ++ bodyI ps))).length : Int)) = ((z - (2 :: (beN ps.length 2 ++ (beN c0 4 ++ bodyI ps))).length : Nat) : Int) by omega]
      refine rCall rfl rfl (yc (args := [.const (Value.string (⟨#[0]⟩)), .tmp 83]) cf111 rfl) (brep_ret 0 _ (by omega)) ?_
      rintro _ w9 ⟨rfl, hx9⟩
      refine rCall rfl rfl (yc (args := [.tmp 7, .tmp 84]) cf110 rfl) (bws_ret (hBli.ext hx9) _ (by simp; omega)) ?_
      rintro _ w10 ⟨hBl10, hlow10⟩
      refine qM rfl ?_; refine rCall rfl rfl (yc (args := [.tmp 7]) cf113 rfl) (bstr_ret hBl10) ?_
      rintro _ w11 ⟨rfl, hlow11⟩
      refine qV (yas rfl) ?_; refine qV (yas rfl) ?_; refine rEnd ?_; refine run_ret Tryz.func83 rfl ?_; refine ⟨_, rfl, hx02.trans (hstep (hstep (hxi.trans hx9) hlow10) hlow11), .inl ⟨hok, ?_⟩⟩
      simp only [resVal, enc, rawN_inn]
 ·skip
  rw [if_neg hok]
  refine qV (yas rfl) ?_; refine qM rfl ?_; refine qV (ymv rfl) ?_; refine qV (yne rfl rfl) ?_; refine rEnd ?_; refine run_if rfl (fun h0 => ?_) (fun h0 => ?_)
  ·skip
   refine qN rfl ?_; refine qV (ymv rfl) ?_; refine qV (yas rfl) ?_; refine qV (yas rfl) ?_; refine rEnd ?_; refine run_ret Tryz.func83 rfl ?_
   exact ⟨_, rfl, hx02, .inr ⟨hok, rfl⟩⟩
  ·exact absurd (by decide) h0
end Go.Proofs.YtocnhaoilnojmaaGreat
namespace Go.Proofs.YtocnhaoilnojmaaGreat
open Go Go.RowKit
set_option linter.all false
set_option maxRecDepth 100000
section
variable {w : World}
theorem rsize_ret (z : Int) (w : World) : Ret Tryz.prog 23 [I z] w fun v w' => v = I (if sizeOk z then 0 else 1) ∧ w' = w := by
 refine ret_of_run (e := [(0, _)]) Tryz.func23 rfl Tryz.ntmps23 rfl rfl ?_; refine qN rfl ?_; refine qV (yas rfl) ?_; refine rEnd ?_; refine run_seq ?_; refine qN rfl ?_; refine qV (ymv rfl) ?_; refine qV (ylt rfl rfl) ?_; refine rVal_if (fun h1 => ?_) (fun h1 => ?_)
 ·skip
  refine qV (ymv rfl) ?_; refine qS ?_; refine qS ?_; refine qV (ypT rfl rfl) ?_; refine qV (ymv rfl) ?_; refine qS ?_; refine qS ?_; refine qS ?_; refine qV (ypT rfl rfl) ?_; refine rEnd ?_; refine run_true rfl ?_; refine qN rfl ?_; refine qV (yas rfl) ?_; refine rEnd ?_; refine run_ret Tryz.func23 rfl ?_
  exact ⟨_, rfl, by rw [if_neg (fun h => by unfold sizeOk at h; omega)]; rfl, rfl⟩
 ·skip
  refine qV (ymv rfl) ?_; refine qV (ymv rfl) ?_; refine qV (ygt rfl rfl) ?_; refine rVal_if (fun h2 => ?_) (fun h2 => ?_)
  ·skip
   refine qV (ypF rfl rfl) ?_; refine qV (ymv rfl) ?_; refine qS ?_; refine qS ?_; refine qS ?_; refine qV (ypT rfl rfl) ?_; refine rEnd ?_; refine run_true rfl ?_; refine qN rfl ?_; refine qV (yas rfl) ?_; refine rEnd ?_; refine run_ret Tryz.func23 rfl ?_
   exact ⟨_, rfl, by rw [if_neg (fun h => by unfold sizeOk at h; omega)]; rfl, rfl⟩
  ·skip
   refine qV (ypF rfl rfl) ?_; refine qV (ymv rfl) ?_; refine qV (ymv rfl) ?_; refine qV (yre rfl rfl (by omega)) ?_; refine qV (yne rfl rfl) ?_; refine qV (ypF rfl rfl) ?_; refine rEnd ?_; refine run_if rfl (fun h3 => ?_) (fun h3 => ?_)
   ·skip
    refine qN rfl ?_; refine qV (yas rfl) ?_; refine rEnd ?_; refine run_ret Tryz.func23 rfl ?_
    exact ⟨_, rfl, by rw [if_neg (fun h => by unfold sizeOk at h; omega)]; rfl, rfl⟩
   ·skip
    refine run_skip ?_; refine qN rfl ?_; refine qV (yas rfl) ?_; refine rEnd ?_; refine run_ret Tryz.func23 rfl ?_
    exact ⟨_, rfl, by rw [if_pos (by unfold sizeOk; omega)]; rfl, rfl⟩
theorem rmost_ret (z : Int) (w : World) : Ret Tryz.prog 65 [I z] w fun v w' => v = .tuple #[I (if sizeOk z then ((mostE z.toNat : Nat) : Int) else 0), I (if sizeOk z then 0 else 1)] ∧ w' = w := by
 refine ret_of_run (e := [(0, _)]) Tryz.func65 rfl Tryz.ntmps65 rfl rfl ?_; refine qN rfl ?_; refine qV (yas rfl) ?_; refine qV (yas rfl) ?_; refine rEnd ?_; refine run_seq ?_; refine qN rfl ?_; refine qV (ymv rfl) ?_; refine rCall rfl rfl (yc (args := [.tmp 4]) cf23 rfl) (rsize_ret z _) ?_
 rintro _ w ⟨rfl, rfl⟩
 by_cases h : sizeOk z
 ·rw [if_pos h, if_pos h]
  unfold sizeOk at h
  refine qV (yne rfl rfl) ?_; refine rFalse (by (first | exact fun h => h rfl | assumption | omega)) ?_; refine rEnd ?_; refine run_false rfl ?_; refine run_skip ?_; refine qN rfl ?_; refine qV (ymv rfl) ?_; refine qV (ysb rfl rfl (by omega)) ?_; refine qV (yqu rfl rfl (by omega)) ?_; refine qV (yas rfl) ?_; refine qV (yas rfl) ?_; refine rEnd ?_; refine run_ret Tryz.func65 rfl ?_; refine ⟨_, rfl, ?_, rfl⟩
  have : (z - 3) / 4 = (((z.toNat - 3) / 4 : Nat) : Int) := by omega
  rw [this]; rfl
 ·rw [if_neg h, if_neg h]
  refine qV (yne rfl rfl) ?_; refine rTrue (by (first | rfl | assumption | omega | decide)) ?_; refine rEnd ?_; refine run_true rfl ?_; refine qN rfl ?_; refine qV (yas rfl) ?_; refine qV (yas rfl) ?_; refine rEnd ?_; refine run_ret Tryz.func65 rfl ?_
  exact ⟨_, rfl, rfl, rfl⟩
theorem rorder_ret (z : Int) (w : World) : Ret Tryz.prog 87 [I z] w fun v w' => v = .tuple #[I (if sizeOk z then ((orderE z.toNat : Nat) : Int) else 0), I (if sizeOk z then 0 else 1)] ∧ w' = w := by
 refine ret_of_run (e := [(0, _)]) Tryz.func87 rfl Tryz.ntmps87 rfl rfl ?_; refine qN rfl ?_; refine qV (yas rfl) ?_; refine qV (yas rfl) ?_; refine rEnd ?_; refine run_seq ?_; refine qN rfl ?_; refine qV (ymv rfl) ?_; refine rCall rfl rfl (yc (args := [.tmp 4]) cf23 rfl) (rsize_ret z _) ?_
 rintro _ w ⟨rfl, rfl⟩
 by_cases h : sizeOk z
 ·rw [if_pos h, if_pos h]
  unfold sizeOk at h
  refine qV (yne rfl rfl) ?_; refine rFalse (by (first | exact fun h => h rfl | assumption | omega)) ?_; refine rEnd ?_; refine run_false rfl ?_; refine run_skip ?_; refine qN rfl ?_; refine qV (ymv rfl) ?_; refine qV (ysb rfl rfl (by omega)) ?_; refine qV (yqu rfl rfl (by omega)) ?_; refine qV (yad rfl rfl (by omega)) ?_; refine qV (yas rfl) ?_; refine qV (yas rfl) ?_; refine rEnd ?_; refine run_ret Tryz.func87 rfl ?_; refine ⟨_, rfl, ?_, rfl⟩
  have : 1 + (z - 7) / 69 = ((1 + (z.toNat - 7) / 69 : Nat) : Int) := by omega
  rw [this]; rfl
 ·rw [if_neg h, if_neg h]
  refine qV (yne rfl rfl) ?_; refine rTrue (by (first | rfl | assumption | omega | decide)) ?_; refine rEnd ?_; refine run_true rfl ?_; refine qN rfl ?_; refine qV (yas rfl) ?_; refine qV (yas rfl) ?_; refine rEnd ?_; refine run_ret Tryz.func87 rfl ?_
  exact ⟨_, rfl, rfl, rfl⟩
theorem rmost_ok {z : Nat} (hz : sizeOk (z : Int)) (w : World) : Ret Tryz.prog 65 [I (z : Int)] w fun v w' => v = .tuple #[I ((mostE z : Nat) : Int), I 0] ∧ w' = w := by
 have := rmost_ret (z : Int) w
 rw [if_pos hz, if_pos hz, Int.toNat_natCast] at this
 exact this
theorem rorder_ok {z : Nat} (hz : sizeOk (z : Int)) (w : World) : Ret Tryz.prog 87 [I (z : Int)] w fun v w' => v = .tuple #[I ((orderE z : Nat) : Int), I 0] ∧ w' = w := by
 have := rorder_ret (z : Int) w
 rw [if_pos hz, if_pos hz, Int.toNat_natCast] at this
 exact this
theorem rkey_ret (s : Bytes) (w : World) : Ret Tryz.prog 40 [S s] w fun v w' => v = .bool (decide (1 ≤ s.length ∧ s.length ≤ 64)) ∧ w' = w := by
 refine ret_of_run (e := [(0, _)]) Tryz.func40 rfl Tryz.ntmps40 rfl rfl ?_; refine qN rfl ?_; refine qV (yas rfl) ?_; refine qM rfl ?_; refine qV (ymv rfl) ?_; refine qV (ylnS U9 rfl) ?_; refine qV (yge rfl rfl) ?_; refine rVal_if (fun h1 => ?_) (fun h1 => ?_)
 ·skip
  refine qV (ymv rfl) ?_; refine qV (ymv rfl) ?_; refine qV (ylnS U9 rfl) ?_; refine qV (yle rfl rfl) ?_; refine qV (ypT rfl rfl) ?_; refine qV (yas rfl) ?_; refine rEnd ?_; refine run_ret Tryz.func40 rfl ?_; refine ⟨_, rfl, ?_, rfl⟩
  have : 1 ≤ s.length := by omega
  simp [resVal, this]; omega
 ·skip
  refine qV (ymv rfl) ?_; refine qS ?_; refine qS ?_; refine qS ?_; refine qV (ypF rfl rfl) ?_; refine qV (yas rfl) ?_; refine rEnd ?_; refine run_ret Tryz.func40 rfl ?_
  have : s = [] := by
   have : s.length = 0 := by omega
   exact List.eq_nil_of_length_eq_zero this
  subst this
  exact ⟨_, rfl, by simp [resVal], rfl⟩
theorem take07_ret (s : Bytes) (n : Nat) (w : World) : Ret Tryz.prog 115 [S s, I (n : Int)] w fun v w' => Ext w w' ∧ v = if s.length < n then .tuple #[S [], S [], .bool false] else .tuple #[S (s.take n), S (s.drop n), .bool true] := by
 refine ret_of_run (e := [(0, _), (1, _)]) Tryz.func115 rfl Tryz.ntmps115 rfl rfl ?_; refine qN rfl ?_; refine qV (yas rfl) ?_; refine qV (yas rfl) ?_; refine qV (yas rfl) ?_; refine rEnd ?_; refine run_seq ?_; refine qN rfl ?_; refine qV (ymv rfl) ?_; refine qV (ymv rfl) ?_; refine qV (ylnS U9 rfl) ?_; refine qV (ygt rfl rfl) ?_; refine rEnd ?_; refine run_if rfl (fun h => ?_) (fun h => ?_)
 ·skip
  refine qN rfl ?_; refine qV (yas rfl) ?_; refine qV (yas rfl) ?_; refine qV (yas rfl) ?_; refine rEnd ?_; refine run_ret Tryz.func115 rfl ?_
  exact ⟨_, rfl, Ext.refl _, by rw [if_pos (by omega)]; rfl⟩
 ·skip
  have hg : Ext w w.drew := Ext.drew0 w
  refine run_skip ?_; refine run_seq ?_; refine run_draw (fun w' => Ext w w') (by kernel_rfl) rfl ?_; refine qT 0 rfl (fun _ hS => ymv rfl) (hg) ?_; refine qT 1 rfl (fun _ hS => ymv rfl) (hg) ?_; refine qT 2 rfl (fun _ hS => yslSt U9 rfl rfl (by omega)) (hg) ?_; refine qT 3 rfl (fun _ hS => ymv rfl) (hg) ?_; refine qT 4 rfl (fun _ hS => ymv rfl) (hg) ?_; refine qT 5 rfl (fun _ hS => yslSf U9 rfl rfl (by omega)) (hg) ?_; refine qT 6 rfl (fun _ hS => yas rfl) (hg) ?_; refine qT 7 rfl (fun _ hS => yas rfl) (hg) ?_; refine qT 8 rfl (fun _ hS => yas rfl) (hg) ?_; refine qE ?_
  refine run_ret Tryz.func115 rfl ?_
  exact ⟨_, rfl, hg, by rw [if_neg (by omega)]; rfl⟩
theorem value_ret (s : Bytes) (hs : s.length ≤ 4) (w : World) : Ret Tryz.prog 114 [S s] w fun v w' => v = I ((valB s : Nat) : Int) ∧ w' = w := by
 refine ret_of_run (e := [(0, _)]) Tryz.func114 rfl Tryz.ntmps114 rfl rfl ?_; refine qN rfl ?_; refine qV (yas rfl) ?_; refine qM rfl ?_; refine qV (yas rfl) ?_; refine rEnd ?_; refine run_seq ?_; refine qN rfl ?_; refine qV (yas rfl) ?_; refine rEnd ?_; refine run_block ?_; refine run_loop (α := Nat) (0) (fun i => [(0, S s), (3, I ((valB (s.take i) : Nat) : Int)), (4, I (i : Int))]) (fun i w' => w' = w ∧ i ≤ s.length) (fun i => s.length - i) (by repeat (first | exact Sub.nil | refine Sub.cons rfl ?_)) ?hI ?hround
 case hI => exact ⟨rfl, Nat.zero_le _⟩
 case hround =>
  rintro i w1 ⟨rfl, hi⟩ ih
  have hvb := valB_lt (s.take i)
  have hvp : 256 ^ (s.take i).length ≤ 256 ^ 4 := Nat.pow_le_pow_right (by omega) (by rw [List.length_take]; omega)
  have hvb2 : valB (s.take i) < 4294967296 := by omega
  try dsimp only
  refine run_seq ?_; refine qN rfl ?_; refine qV (ymv rfl) ?_; refine qV (ymv rfl) ?_; refine qV (ylnS U9 rfl) ?_; refine qV (ylt rfl rfl) ?_; refine rEnd ?_; refine run_if rfl (fun hlt => ?_) (fun hlt => ?_)
  ·skip
   have hi' : i < s.length := by omega
   have hub : (s.getD i 0).toNat < 256 := (s.getD i 0).toNat_lt
   have hgd : s.getD i 0 = s[i] := by rw [List.getD_eq_getElem?_getD, List.getElem?_eq_getElem hi']; rfl
   have hnx : ((256 : Int) * ((valB (s.take i) : Nat) : Int) + ((s.getD i 0).toNat : Int)) = ((valB (s.take (i + 1)) : Nat) : Int) := by
    rw [List.take_succ_eq_append_getElem hi', valB_snoc, hgd]; omega
   refine run_skip ?_; refine run_seq ?_; refine run_block ?_; refine run_reg rfl ?_; refine qV (ymv rfl) ?_; refine qV (yml rfl rfl (by omega)) ?_; refine qV (ymv rfl) ?_; refine qV (ymv rfl) ?_; refine qV (yixS U9 rfl rfl (by omega)) ?_; refine qV ((by first | exact ycvB rfl U5 U3 (by decide) | exact ycvSi64 rfl U5 U3 (by omega))) ?_; refine qV (yad rfl rfl (by omega)) ?_; refine qV (yas rfl) ?_; refine rEnd ?_; refine run_inBlock ?_; refine run_reg rfl ?_; refine qV (ymv rfl) ?_; refine qV (yad rfl rfl (by omega)) ?_; refine qV (yas rfl) ?_; refine rEnd ?_
   rw [hnx]
   exact (ih (i + 1) _ ⟨rfl, by omega⟩ (by omega)).qb
  ·skip
   have : i = s.length := by omega
   subst this
   rw [List.take_length]
   refine run_exit rfl ?_; refine qN rfl ?_; refine qV (ymv rfl) ?_; refine qV (yas rfl) ?_; refine rEnd ?_; refine run_ret Tryz.func114 rfl ?_
   exact ⟨_, rfl, rfl, rfl⟩
theorem number07_ret (n k : Nat) (hk : 1 ≤ k ∧ k ≤ 4) (hn : n < 4294967296) (w : World) : Ret Tryz.prog 140 [u32v n, I (k : Int)] w fun v w' => v = S (beN n k) ∧ Ext w w' := by
 refine ret_of_run (e := [(0, _), (1, _)]) Tryz.func140 rfl Tryz.ntmps140 rfl rfl ?_; refine qN rfl ?_; refine qV (yas rfl) ?_; refine qM rfl ?_; refine qV (ymv rfl) ?_
 have hml : maxLen = 9223372036854775807 := rfl
 refine rValP rfl rfl (pmk U123 ti5 rfl rfl rfl (Nat.le_refl _) (by omega) (by omega)) ?_
 rintro _ w1 ⟨b, rfl, ⟨hb, hx1, hB1⟩, hS1⟩
 refine qV (yas rfl) ?_; refine rEnd ?_; refine run_seq ?_; refine qN rfl ?_; refine qV (yas rfl) ?_; refine rEnd ?_; refine run_block ?_; refine run_loop (α := Nat) (0) (fun i => [(0, u32v n), (1, I (k : Int)), (5, .slice (some ⟨b, 0, none⟩) k k), (6, I (i : Int))]) (fun i w' => i ≤ k ∧ Ext w w' ∧ Blk w' b (((beN n k).take i).map u8v ++ List.replicate (k - i) (Value.int .u8 0)) 5) (fun i => k - i) (by repeat (first | exact Sub.nil | refine Sub.cons rfl ?_)) ?hI ?hround
 case hI => exact ⟨Nat.zero_le _, hx1, by simpa using hB1⟩
 case hround =>
  rintro i wi ⟨hi, hxi, hBi⟩ ih
  try dsimp only
  refine run_seq ?_; refine qN rfl ?_; refine qV (ymv rfl) ?_; refine qV (ymv rfl) ?_; refine qV (ylt rfl rfl) ?_; refine rEnd ?_; refine run_if rfl (fun hlt => ?_) (fun hlt => ?_)
  ·skip
   have hi' : i < k := by omega
   have htl : ((beN n k).take i).length = i := by rw [List.length_take, beN_length]; omega
   refine run_skip ?_; refine run_seq ?_; refine run_block ?_; refine run_reg rfl ?_; refine qV (ymv rfl) ?_; refine qV (ymv rfl) ?_; refine qV (ymv rfl) ?_; refine qV (ymv rfl) ?_; refine qV (ysb rfl rfl (by omega)) ?_; refine qV (ymv rfl) ?_; refine qV (ysb rfl rfl (by omega)) ?_; refine qV (yml rfl rfl (by omega)) ?_
   rw [show ((8 : Int) * (((k : Int) - 1) - (i : Int))) = ((8 * (k - 1 - i) : Nat) : Int) by omega]
   unfold u32v
   refine qV (ysrN (8 * (k - 1 - i)) (2 ^ (8 * (k - 1 - i))) rfl rfl (by show 8 * (k - 1 - i) ≤ 32; omega) rfl) ?_
   refine qV (ycv8 rfl U89 U5) ?_; refine qV (yis U123 ti5 rfl rfl (by omega)) ?_; refine rEffP rfl (zst ti5 rfl rfl rfl hBi (by rw [List.length_append, List.length_map, List.length_replicate, htl]; omega)) ?_
   rintro w2 ⟨hB2, hk2⟩
   have hget := beN_get n (k := k) hi'
   have hnew : (((beN n k).take i).map u8v ++ List.replicate (k - i) (Value.int .u8 0)).set (0 + i * 1) (Value.int .u8 ((n / 2 ^ (8 * (k - 1 - i)) % 256 : Nat) : Int)) = ((beN n k).take (i + 1)).map u8v ++ List.replicate (k - (i + 1)) (Value.int .u8 0) := by
    rw [map_take_succ hget, show k - i = (k - (i + 1)) + 1 by omega, List.replicate_succ, Nat.zero_add, Nat.mul_one, List.set_append_right _ _ (by rw [List.length_map, htl]; omega)]
    rw [List.length_map, htl, Nat.sub_self, List.set_cons_zero, List.append_assoc]
    congr 2
    simp only [u8v, List.cons_append, List.nil_append]
    rw [Nat.pow_mul]
    simp
   refine rEnd ?_; refine run_inBlock ?_; refine run_reg rfl ?_; refine qV (ymv rfl) ?_; refine qV (yad rfl rfl (by omega)) ?_; refine qV (yas rfl) ?_; refine rEnd ?_; refine (ih (i + 1) w2 ⟨by omega, hxi.trans_new hk2 (fun j hj => by omega), ?_⟩ (by omega)).qb
   rw [← hnew]; exact hB2
  ·skip
   have : i = k := by omega
   subst this
   have hfull : (beN n i).take i = beN n i := by rw [List.take_of_length_le (by simp)]
   rw [Nat.sub_self, hfull] at hBi
   refine run_exit rfl ?_; refine qN rfl ?_; refine qV (ymv rfl) ?_; refine qV (yB2S U123 U5 U9 rfl hBi (by simp; rw [List.take_of_length_le (by simp)]) (by simp)) ?_
   refine qV (yas rfl) ?_; refine rEnd ?_; refine run_ret Tryz.func140 rfl ?_
   exact ⟨_, rfl, rfl, hxi⟩
set_option maxHeartbeats 1000000 in
theorem rbytes_ret {n : Nd} {kv vv cv : Value} (hR : NdR w n kv vv cv) (hb : n.Bd) : Ret Tryz.prog 88 [ndv n kv vv cv] w fun v w' => v = I (n.bytes : Int) ∧ Ext w w' := by
 obtain ⟨⟨lf, ks, vs, cs⟩, rfl⟩ : ∃ x, x = n := ⟨_, rfl⟩
 obtain ⟨hk, hv, hc⟩ := hR
 obtain ⟨b1, b2, b3, b4, b5, b6⟩ := hb
 dsimp only at hk hv hc b1 b2 b3 b4 b5 b6
 obtain ⟨ka, kc, rfl, -⟩ := hk.shape
 obtain ⟨va, vc, rfl, -⟩ := hv.shape
 obtain ⟨ca, cc, rfl, -⟩ := hc.shape
 refine ret_of_run (e := [(0, _)]) Tryz.func88 rfl Tryz.ntmps88 rfl rfl ?_; refine qN rfl ?_; refine rValP rfl rfl (pbx rfl rfl) ?_
 rintro _ w1 ⟨b, rfl, hb1, hx1, hB1⟩
 refine qV (yas rfl) ?_; refine qM rfl ?_; refine qV (yas rfl) ?_; refine rEnd ?_; refine run_seq ?_; refine qN rfl ?_; refine qV (yas rfl) ?_; refine rEnd ?_; refine run_block ?_
 have hk1 := hk.ext hx1
 have hv1 := hv.ext hx1
 obtain ⟨q, hq⟩ : ∃ q : Nat, q = if lf then 3 else 1 := ⟨_, rfl⟩
 have hq3 : q ≤ 3 := by rw [hq]; split <;> omega
 refine run_cut2 (fun e' w' => e' = [(1, ptr b 0), (2, I 0), (3, I ((3 + sumL ks q : Nat) : Int))] ∧ w' = w1) ?hkz (fun hkz => ?hmainz)
 case hkz =>
  rintro e' w1 ⟨rfl, rfl⟩
  have hs1 := sumL_le (k := q) (m := 100000) b4
  have hs1b : ks.length * (100000 + q) ≤ 100000 * (100000 + 3) := Nat.mul_le_mul b1 (by omega)
  refine run_seq ?_; refine qN rfl ?_; refine qV (yfa fl130_0 rfl) ?_; refine qV (yld U4 rfl rfl hB1 rfl) ?_
  cases lf with
  | false =>
    simp only [Bool.false_eq_true, if_false] at hq
    subst hq
    refine qV ((by first | exact yntd rfl | exact ynt rfl)) ?_; refine rEnd ?_; refine run_true rfl ?_; refine qN rfl ?_; refine qV (ymv rfl) ?_; refine qV (yfa fl130_3 rfl) ?_; refine qV (yld U82 rfl rfl hB1 rfl) ?_; refine qV (yln U82 rfl) ?_; refine qV (yml rfl rfl (by omega)) ?_; refine qV (yad rfl rfl (by omega)) ?_; refine qV (yas rfl) ?_; refine rEnd ?_; refine run_ret Tryz.func88 rfl ?_; refine ⟨_, rfl, ?_, hx1⟩
    simp only [resVal, Nd.bytes, Bool.false_eq_true, if_false]
    congr 1
    omega
  | true =>
    simp only [if_true] at hq
    subst hq
    refine qV ((by first | exact yntd rfl | exact ynt rfl)) ?_; refine rEnd ?_; refine run_false rfl ?_; refine run_skip ?_; refine run_seq ?_; refine qN rfl ?_; refine qV (yas rfl) ?_; refine rEnd ?_; refine run_block ?_; refine run_loop (α := Nat) (0) (fun i => [(1, ptr b 0), (3, I ((3 + sumL ks 3 + sumL (vs.take i) 0 : Nat) : Int)), (5, I (i : Int))]) (fun i w' => w' = w1 ∧ i ≤ vs.length) (fun i => vs.length - i) (by repeat (first | exact Sub.nil | refine Sub.cons rfl ?_)) ?hI ?hround
    case hI => exact ⟨rfl, Nat.zero_le _⟩
    case hround =>
     rintro i w2 ⟨rfl, hi⟩ ih
     have hs2 := sumL_le (l := vs.take i) (k := 0) (m := 100000) (fun s hs => b5 s (List.mem_of_mem_take hs))
     have hs2b : (vs.take i).length * (100000 + 0) ≤ 100000 * 100000 := Nat.mul_le_mul (by rw [List.length_take]; omega) (by omega)
     try dsimp only
     refine run_seq ?_; refine qN rfl ?_; refine qV (ymv rfl) ?_; refine qV (yfa fl130_2 rfl) ?_; refine qV (yld U23 rfl rfl hB1 rfl) ?_; refine qV (yln U23 rfl) ?_; refine qV (ylt rfl rfl) ?_; refine rEnd ?_; refine run_if rfl (fun hlt => ?_) (fun hlt => ?_)
     ·skip
      have hi' : i < vs.length := by omega
      obtain ⟨lb, lo, s, rfl, hs⟩ := rd_gets hv1 hi'
      have hsl := b5 s (List.mem_of_getElem? hs)
      obtain ⟨hi2, e2⟩ := List.getElem?_eq_some_iff.1 hs
      have hnx : (((3 + sumL ks 3 + sumL (vs.take i) 0 : Nat) : Int) + (s.length : Int)) = ((3 + sumL ks 3 + sumL (vs.take (i + 1)) 0 : Nat) : Int) := by
       rw [List.take_succ_eq_append_getElem hi2, e2, sumL_app, sumL_cons, sumL_nil]; omega
      refine run_skip ?_; refine run_seq ?_; refine run_block ?_; refine run_reg rfl ?_; refine qV (ymv rfl) ?_; refine qV (yfa fl130_2 rfl) ?_; refine qV (yld U23 rfl rfl hB1 rfl) ?_; refine qV (ymv rfl) ?_; refine qV (yis U23 ti9 rfl rfl (by omega)) ?_; refine qV (yldc U9 rfl rfl (rd_str hv1 hi' hs)) ?_; refine qV (ylnS U9 rfl) ?_; refine qV (yad rfl rfl (by omega)) ?_; refine qV (yas rfl) ?_; refine rEnd ?_; refine run_inBlock ?_; refine run_reg rfl ?_; refine qV (ymv rfl) ?_; refine qV (yad rfl rfl (by omega)) ?_; refine qV (yas rfl) ?_; refine rEnd ?_
      rw [hnx]
      exact (ih (i + 1) _ ⟨rfl, by omega⟩ (by omega)).qb
     ·skip
      have : i = vs.length := by omega
      subst this
      rw [List.take_length]
      refine run_exit rfl ?_; refine qN rfl ?_; refine qV (ymv rfl) ?_; refine qV (yas rfl) ?_; refine rEnd ?_; refine run_ret Tryz.func88 rfl ?_; refine ⟨_, rfl, ?_, hx1⟩
      simp only [resVal, Nd.bytes, if_true]
      congr 1
      omega
 case hmainz =>
  refine run_loop (α := Nat) (0) (fun i => [(1, ptr b 0), (2, I 0), (3, I ((3 + sumL (ks.take i) q : Nat) : Int)), (4, I (i : Int))]) (fun i w' => w' = w1 ∧ i ≤ ks.length) (fun i => ks.length - i) (by repeat (first | exact Sub.nil | refine Sub.cons rfl ?_)) ?hI ?hround
  case hI => exact ⟨rfl, Nat.zero_le _⟩
  case hround =>
   rintro i w2 ⟨rfl, hi⟩ ih
   have hs2 := sumL_le (l := ks.take i) (k := q) (m := 100000) (fun s hs => b4 s (List.mem_of_mem_take hs))
   have hs2b : (ks.take i).length * (100000 + q) ≤ 100000 * (100000 + 3) := Nat.mul_le_mul (by rw [List.length_take]; omega) (by omega)
   try dsimp only
   refine run_seq ?_; refine qN rfl ?_; refine qV (ymv rfl) ?_; refine qV (yfa fl130_1 rfl) ?_; refine qV (yld U23 rfl rfl hB1 rfl) ?_; refine qV (yln U23 rfl) ?_; refine qV (ylt rfl rfl) ?_; refine rEnd ?_; refine run_if rfl (fun hlt => ?_) (fun hlt => ?_)
   ·skip
    have hi' : i < ks.length := by omega
    obtain ⟨lb, lo, s, rfl, hs⟩ := rd_gets hk1 hi'
    have hsl := b4 s (List.mem_of_getElem? hs)
    obtain ⟨hi2, e2⟩ := List.getElem?_eq_some_iff.1 hs
    have hnx : (((3 + sumL (ks.take i) q : Nat) : Int) + (s.length : Int)) + (q : Int) = ((3 + sumL (ks.take (i + 1)) q : Nat) : Int) := by
     rw [List.take_succ_eq_append_getElem hi2, e2, sumL_app, sumL_cons, sumL_nil]; omega
    refine run_skip ?_; refine run_seq ?_; refine run_block ?_; refine qN rfl ?_; refine qV (ymv rfl) ?_; refine qV (yfa fl130_1 rfl) ?_; refine qV (yld U23 rfl rfl hB1 rfl) ?_; refine qV (ymv rfl) ?_; refine qV (yis U23 ti9 rfl rfl (by omega)) ?_; refine qV (yldc U9 rfl rfl (rd_str hk1 hi' hs)) ?_; refine qV (ylnS U9 rfl) ?_; refine qV (yad rfl rfl (by omega)) ?_; refine qV (yas rfl) ?_; refine qM rfl ?_; refine qV (yfa fl130_0 rfl) ?_; refine qV (yld U4 rfl rfl hB1 rfl) ?_
    cases lf with
    | false =>
      simp only [Bool.false_eq_true, if_false] at hq
      subst hq
      refine rEnd ?_; refine run_false rfl ?_; refine run_reg rfl ?_; refine qV (ymv rfl) ?_; refine qV (yad rfl rfl (by omega)) ?_; refine qV (yas rfl) ?_; refine rEnd ?_; refine run_inBlock ?_; refine run_reg rfl ?_; refine qV (ymv rfl) ?_; refine qV (yad rfl rfl (by omega)) ?_; refine qV (yas rfl) ?_; refine rEnd ?_
      rw [show ((3 + sumL (ks.take i) 1 : Nat) : Int) + (s.length : Int) + 1 = ((3 + sumL (ks.take (i + 1)) 1 : Nat) : Int) from hnx]
      exact (ih (i + 1) _ ⟨rfl, by omega⟩ (by omega)).qb
    | true =>
      simp only [if_true] at hq
      subst hq
      refine rEnd ?_; refine run_true rfl ?_; refine run_reg rfl ?_; refine qV (ymv rfl) ?_; refine qV (yad rfl rfl (by omega)) ?_; refine qV (yas rfl) ?_; refine rEnd ?_; refine run_inBlock ?_; refine run_reg rfl ?_; refine qV (ymv rfl) ?_; refine qV (yad rfl rfl (by omega)) ?_; refine qV (yas rfl) ?_; refine rEnd ?_
      rw [show ((3 + sumL (ks.take i) 3 : Nat) : Int) + (s.length : Int) + 3 = ((3 + sumL (ks.take (i + 1)) 3 : Nat) : Int) from hnx]
      exact (ih (i + 1) _ ⟨rfl, by omega⟩ (by omega)).qb
   ·skip
    have : i = ks.length := by omega
    subst this
    rw [List.take_length]
    refine run_exit rfl ?_
    exact (hkz _ _ ⟨rfl, rfl⟩).qb
end
end Go.Proofs.YtocnhaoilnojmaaGreat
namespace Go.Proofs.YtocnhaoilnojmaaGreat
open Go Go.RowKit
set_option linter.all false
set_option maxRecDepth 100000
theorem keys_bad {l : List Bytes} {i : Nat} {s : Bytes} (hs : l[i]? = some s) (h : ¬ (1 ≤ s.length ∧ s.length ≤ 64) ∨ (0 < i ∧ ∃ p, l[i - 1]? = some p ∧ lt p s = false)) : ¬ keysOk l := by
 rintro ⟨h1, h2⟩
 have := h1 s (List.mem_of_getElem? hs)
 rcases h with h | ⟨hi, p, hp, hlt⟩
 ·exact h this
 ·rw [h2.get (by omega) hp hs] at hlt; cases hlt
theorem keys_step {l : List Bytes} {i : Nat} {s : Bytes} (h : keysOk (l.take i)) (hs : l[i]? = some s) (hl : 1 ≤ s.length ∧ s.length ≤ 64) (hp : i = 0 ∨ ∃ p, l[i - 1]? = some p ∧ lt p s = true) : keysOk (l.take (i + 1)) := by
 obtain ⟨h1, h2⟩ := h
 refine ⟨fun k hk => ?_, rise_take_succ h2 hs hp⟩
 rcases (mem_take_succ hs).1 hk with hk | rfl
 ·exact h1 k hk
 ·exact hl
section
variable {w : World}
set_option maxHeartbeats 4000000 in
theorem rcheck_ret {n : Nd} {kv vv cv : Value} (hR : NdR w n kv vv cv) (hb : n.Bd) {z : Nat} (hz : sizeOk (z : Int)) :
  Ret Tryz.prog 139 [ndv n kv vv cv, I (z : Int)] w fun v w' => v = I (if NdOk z n then 0 else 1) ∧ Ext w w' := by
 obtain ⟨z1, z2, -⟩ := id hz
 have hmz : mostE z ≤ 1100 := by unfold mostE; omega
 have hoz : orderE z ≤ 1100 := by unfold orderE; omega
 have hbb := hb.bytes
 obtain ⟨⟨lf, ks, vs, cs⟩, rfl⟩ : ∃ x, x = n := ⟨_, rfl⟩
 obtain ⟨hk, hv, hc⟩ := id hR
 dsimp only at hk hv hc
 obtain ⟨ka, kc, rfl, -⟩ := hk.shape
 obtain ⟨va, vc, rfl, -⟩ := hv.shape
 obtain ⟨ca, cc, rfl, -⟩ := hc.shape
 obtain ⟨b1, b2, b3, b4, b5, b6⟩ := id hb
 dsimp only at b1 b2 b3 b4 b5 b6
 have hfail : ∀ {w' : World}, Ext w w' → ¬ NdOk z ⟨lf, ks, vs, cs⟩ → ∃ v, Ending.returned (I 1) = .returned v ∧ v = I (if NdOk z ⟨lf, ks, vs, cs⟩ then 0 else 1) ∧ Ext w w' := fun hx hn => ⟨_, rfl, by rw [if_neg hn], hx⟩
 refine ret_of_run (e := [(0, _), (1, _)]) Tryz.func139 rfl Tryz.ntmps139 rfl rfl ?_; refine qN rfl ?_; refine rValP rfl rfl (pbx rfl rfl) ?_
 rintro _ w1 ⟨b, rfl, hb1, hx1, hB1⟩
 refine qV (yas rfl) ?_; refine qM rfl ?_; refine qV (ymv rfl) ?_; refine rCall rfl rfl (yc (args := [.tmp 13]) cf65 rfl) (rmost_ok hz _) ?_
 rintro _ w1 ⟨rfl, rfl⟩
 refine qV (ymv rfl) ?_; refine qV (yex rfl rfl) ?_; refine qV (yex rfl rfl) ?_; refine qV (yas rfl) ?_; refine qV (yas rfl) ?_; refine qM rfl ?_; refine qV (ymv rfl) ?_; refine rCall rfl rfl (yc (args := [.tmp 18]) cf87 rfl) (rorder_ok hz _) ?_
 rintro _ w1 ⟨rfl, rfl⟩
 refine qV (ymv rfl) ?_; refine qV (yex rfl rfl) ?_; refine qV (yex rfl rfl) ?_; refine qV (yas rfl) ?_; refine qV (yas rfl) ?_; refine rEnd ?_; refine run_seq ?_; refine qN rfl ?_; refine qV (ymv rfl) ?_; refine qV (yne rfl rfl) ?_; refine rEnd ?_; refine run_if rfl (fun h0 => ?_) (fun h0 => ?_)
 ·exact absurd rfl h0
 ·skip
  refine run_skip ?_; refine run_seq ?_; refine qN rfl ?_; refine qV (yas rfl) ?_; refine rEnd ?_; refine run_block ?_; refine run_cut2 (fun e' w' => e' = [(1, I (z : Int)), (2, ptr b 0), (4, I 0), (5, I ((mostE z : Nat) : Int)), (7, I ((orderE z : Nat) : Int))] ∧ Ext w1 w' ∧ keysOk ks) ?hka (fun hka => ?hmaina)
  case hka =>
   rintro e' w2 ⟨rfl, hx2, hkok⟩
   have hx02 := hx1.trans hx2
   have hB2 := hx2.blk hB1
   have hk2 := hk.ext hx02
   have hv2 := hv.ext hx02
   have hc2 := hc.ext hx02
   refine run_seq ?_; refine qN rfl ?_; refine qV (yfa fl130_0 rfl) ?_; refine qV (yld U4 rfl rfl hB2 rfl) ?_; refine rEnd ?_; refine run_cut (fun e' w' => e' = [(1, I (z : Int)), (2, ptr b 0), (4, I 0)] ∧ Ext w1 w' ∧ (if lf = true then leafOk ⟨lf, ks, vs, cs⟩ (mostE z) else innerOk ⟨lf, ks, vs, cs⟩ (orderE z))) ?hkb (fun hkb => ?hmainb)
   case hkb =>
    rintro e' w3 ⟨rfl, hx3, hlok⟩
    have hB3 := hx3.blk hB1
    have hx03 := hx1.trans hx3
    refine run_seq ?_; refine qN rfl ?_; refine qV (yldA U130 rfl ti130 rfl (Blk.cells (n := 4) hB3 (news := [_, _, _, _]) rfl) rfl) ?_; refine rCall rfl rfl (yc (args := [.tmp 137]) cf88 rfl) (rbytes_ret (n := ⟨lf, ks, vs, cs⟩) (hR.ext hx03) hb) ?_
    rintro _ w4 ⟨rfl, hx4⟩
    refine qV (ymv rfl) ?_; refine qV (ygt rfl rfl) ?_; refine rEnd ?_; refine run_if rfl (fun hbz => ?_) (fun hbz => ?_)
    ·skip
     refine qN rfl ?_; refine qV (yas rfl) ?_; refine rEnd ?_; refine run_ret Tryz.func139 rfl ?_
     exact hfail (hx03.trans hx4) (fun h => by have := h.2.1; omega)
    ·skip
     refine run_skip ?_; refine qN rfl ?_; refine qV (yas rfl) ?_; refine rEnd ?_; refine run_ret Tryz.func139 rfl ?_
     exact ⟨_, rfl, by rw [if_pos ⟨hkok, by omega, hlok⟩]; rfl, hx03.trans hx4⟩
   case hmainb =>
    refine run_cond rfl (fun hl => ?_) (fun hl => ?_)
    ·skip
     have hl' : lf = true := hl
     have hno : ¬ leafOk ⟨lf, ks, vs, cs⟩ (mostE z) → ¬ NdOk z ⟨lf, ks, vs, cs⟩ := fun h hn => by
      have := hn.2.2
      dsimp only at this
      rw [if_pos hl'] at this
      exact h this
     have hnox : ∀ {x : Bytes × Bytes}, x ∈ ks.zip vs → ¬ (x.2.length ≤ 4095 ∧ 3 + x.1.length + x.2.length ≤ mostE z) → ¬ leafOk ⟨lf, ks, vs, cs⟩ (mostE z) := fun hx h h2 => h (h2.2.2 _ hx)
     refine run_seq ?_; refine qN rfl ?_; refine qV (yfa fl130_2 rfl) ?_; refine qV (yld U23 rfl rfl hB2 rfl) ?_; refine qV (yln U23 rfl) ?_; refine qV (yfa fl130_1 rfl) ?_; refine qV (yld U23 rfl rfl hB2 rfl) ?_; refine qV (yln U23 rfl) ?_; refine qV (yne rfl rfl) ?_; refine rVal_if (fun h1 => ?_) (fun h1 => ?_)
     ·skip
      refine qV (ymv rfl) ?_; refine qS ?_; refine qS ?_; refine qS ?_; refine qS ?_; refine qV (ypT rfl rfl) ?_; refine rEnd ?_; refine run_true rfl ?_; refine qN rfl ?_; refine qV (yas rfl) ?_; refine rEnd ?_; refine run_ret Tryz.func139 rfl ?_
      exact hfail hx02 (hno (fun h => h1 (by have := h.1; dsimp only at this; omega)))
     ·skip
      have hvl : vs.length = ks.length := by omega
      refine qV (ymv rfl) ?_; refine qV (yfa fl130_3 rfl) ?_; refine qV (yld U82 rfl rfl hB2 rfl) ?_; refine qV (yln U82 rfl) ?_; refine qV (yne rfl rfl) ?_; refine qV (ypF rfl rfl) ?_; refine rEnd ?_; refine run_if rfl (fun h2 => ?_) (fun h2 => ?_)
      ·skip
       refine qN rfl ?_; refine qV (yas rfl) ?_; refine rEnd ?_; refine run_ret Tryz.func139 rfl ?_
       exact hfail hx02 (hno (fun h => by have e : cs = [] := h.2.1; rw [e] at h2; simp at h2))
      ·skip
       have hcs : cs = [] := List.eq_nil_of_length_eq_zero (by omega)
       refine run_skip ?_; refine qN rfl ?_; refine qV (yas rfl) ?_; refine rEnd ?_; refine run_block ?_; refine run_loop (α := Nat) (0) (fun i => [(1, I (z : Int)), (2, ptr b 0), (4, I 0), (5, I ((mostE z : Nat) : Int)), (10, I (i : Int))]) (fun i w' => i ≤ vs.length ∧ Ext w1 w' ∧ ∀ x ∈ (ks.zip vs).take i, x.2.length ≤ 4095 ∧ 3 + x.1.length + x.2.length ≤ mostE z) (fun i => vs.length - i) (by repeat (first | exact Sub.nil | refine Sub.cons rfl ?_)) ?hI ?hround
       case hI => exact ⟨Nat.zero_le _, hx2, by simp⟩
       case hround =>
        rintro i wi ⟨hi, hxi, hall⟩ ih
        have hBi := hxi.blk hB1
        have hx0i := hx1.trans hxi
        try dsimp only
        refine run_seq ?_; refine qN rfl ?_; refine qV (ymv rfl) ?_; refine qV (yfa fl130_2 rfl) ?_; refine qV (yld U23 rfl rfl hBi rfl) ?_; refine qV (yln U23 rfl) ?_; refine qV (ylt rfl rfl) ?_; refine rEnd ?_; refine run_if rfl (fun hlt => ?_) (fun hlt => ?_)
        ·skip
         have hi' : i < vs.length := by omega
         obtain ⟨lb, lo, s, rfl, hs'⟩ := rd_gets hv hi'
         obtain ⟨lb2, lo2, s2, rfl, hs2⟩ := rd_gets hk (show i < ks.length by omega)
         have hzz : (ks.zip vs)[i]? = some (s2, s) := by rw [List.getElem?_zip_eq_some]; exact ⟨hs2, hs'⟩
         have hzm := List.mem_of_getElem? hzz
         have hsl := b5 s (List.mem_of_getElem? hs')
         have hsl2 := b4 s2 (List.mem_of_getElem? hs2)
         have hg : Ext wi wi.drew := Ext.drew0 wi
         refine run_skip ?_; refine run_seq ?_; refine run_block ?_; refine run_seq ?_; refine run_draw (fun w' => Ext wi w') (by kernel_rfl) rfl ?_; refine qT 0 rfl (fun _ hS => yfa fl130_2 rfl) (hg) ?_; refine qT 1 rfl (fun _ hS => yld U23 rfl rfl (hS.blk hBi) rfl) (hg) ?_; refine qT 2 rfl (fun _ hS => ymv rfl) (hg) ?_; refine qT 3 rfl (fun _ hS => yis U23 ti9 rfl rfl (by omega)) (hg) ?_; refine qT 4 rfl (fun _ hS => yldc U9 rfl rfl (rd_str ((hv.ext hx0i).ext hS) hi' hs')) (hg) ?_; refine qT 5 rfl (fun _ hS => ylnS U9 rfl) (hg) ?_; refine qT 6 rfl (fun _ hS => ygt rfl rfl) (hg) ?_
         refine rh_if (fun h3 => ?_) (fun h3 => ?_)
         ·skip
          refine qT 7 rfl (fun _ hS => ymv rfl) (hg) ?_; refine qJ 8 rfl (hg) ?_; refine qJ 9 rfl (hg) ?_; refine qJ 10 rfl (hg) ?_; refine qJ 11 rfl (hg) ?_; refine qJ 12 rfl (hg) ?_; refine qJ 13 rfl (hg) ?_; refine qJ 14 rfl (hg) ?_; refine qJ 15 rfl (hg) ?_; refine qJ 16 rfl (hg) ?_; refine qJ 17 rfl (hg) ?_; refine qJ 18 rfl (hg) ?_; refine qJ 19 rfl (hg) ?_; refine qJ 20 rfl (hg) ?_; refine qJ 21 rfl (hg) ?_; refine qJ 22 rfl (hg) ?_; refine qJ 23 rfl (hg) ?_; refine qT 24 rfl (fun _ hS => ypT rfl rfl) (hg) ?_; refine qE ?_; refine run_true rfl ?_; refine qN rfl ?_
          refine qV (yas rfl) ?_; refine rEnd ?_; refine run_ret Tryz.func139 rfl ?_
          exact hfail (hx0i.trans hg) (hno (hnox hzm (fun h => by dsimp only at h; omega)))
         ·skip
          refine qT 7 rfl (fun _ hS => ymv rfl) (hg) ?_; refine qT 8 rfl (fun _ hS => yfa fl130_1 rfl) (hg) ?_; refine qT 9 rfl (fun _ hS => yld U23 rfl rfl (hS.blk hBi) rfl) (hg) ?_; refine qT 10 rfl (fun _ hS => ymv rfl) (hg) ?_; refine qT 11 rfl (fun _ hS => yis U23 ti9 rfl rfl (by omega)) (hg) ?_; refine qT 15 rfl (fun _ hS => yfa fl130_2 rfl) (hg) ?_; refine qT 16 rfl (fun _ hS => yld U23 rfl rfl (hS.blk hBi) rfl) (hg) ?_; refine qT 17 rfl (fun _ hS => ymv rfl) (hg) ?_; refine qT 18 rfl (fun _ hS => yis U23 ti9 rfl rfl (by omega)) (hg) ?_
          refine qT 22 rfl (fun _ hS => ymv rfl) (hg) ?_; refine qT 12 rfl (fun _ hS => yldc U9 rfl rfl (rd_str ((hk.ext hx0i).ext hS) (by omega) hs2)) (hg) ?_; refine qT 13 rfl (fun _ hS => ylnS U9 rfl) (hg) ?_; refine qT 14 rfl (fun _ hS => yad rfl rfl (by omega)) (hg) ?_; refine qT 19 rfl (fun _ hS => yldc U9 rfl rfl (rd_str ((hv.ext hx0i).ext hS) hi' hs')) (hg) ?_; refine qT 20 rfl (fun _ hS => ylnS U9 rfl) (hg) ?_; refine qT 21 rfl (fun _ hS => yad rfl rfl (by omega)) (hg) ?_; refine qT 23 rfl (fun _ hS => ygt rfl rfl) (hg) ?_; refine qT 24 rfl (fun _ hS => ypF rfl rfl) (hg) ?_
          refine qE ?_; refine run_if rfl (fun h4 => ?_) (fun h4 => ?_)
          ·skip
           refine qN rfl ?_; refine qV (yas rfl) ?_; refine rEnd ?_; refine run_ret Tryz.func139 rfl ?_
           exact hfail (hx0i.trans hg) (hno (hnox hzm (fun h => by dsimp only at h; omega)))
          ·skip
           refine run_skip ?_; refine run_inBlock ?_; refine run_reg rfl ?_; refine qV (ymv rfl) ?_; refine qV (yad rfl rfl (by omega)) ?_; refine qV (yas rfl) ?_; refine rEnd ?_; refine (ih (i + 1) _ ⟨by omega, hxi.trans hg, fun x hx => ?_⟩ (by omega)).qb
           rcases (mem_take_succ hzz).1 hx with hx | rfl
           ·exact hall x hx
           ·dsimp only; omega
        ·skip
         rw [List.take_of_length_le (by rw [List.length_zip]; omega)] at hall
         refine run_exit rfl ?_; refine (hkb _ _ ⟨rfl, hxi, ?_⟩).qb
         rw [if_pos hl']
         exact ⟨hvl, hcs, hall⟩
    ·skip
     have hl' : ¬ lf = true := by rw [show lf = false from hl]; decide
     have hno : ¬ innerOk ⟨lf, ks, vs, cs⟩ (orderE z) → ¬ NdOk z ⟨lf, ks, vs, cs⟩ := fun h hn => by
      have := hn.2.2
      dsimp only at this
      rw [if_neg hl'] at this
      exact h this
     refine run_seq ?_; refine qN rfl ?_; refine qV (yfa fl130_2 rfl) ?_; refine qV (yld U23 rfl rfl hB2 rfl) ?_; refine qV (yln U23 rfl) ?_; refine qV (yne rfl rfl) ?_; refine rVal_if (fun h1 => ?_) (fun h1 => ?_)
     ·skip
      refine qV (ymv rfl) ?_; refine qS ?_; refine qS ?_; refine qS ?_; refine qS ?_; refine qS ?_; refine qS ?_; refine qS ?_; refine qS ?_; refine qV (ypT rfl rfl) ?_; refine qV (ymv rfl) ?_; refine qS ?_; refine qS ?_; refine qS ?_; refine qS ?_; refine qS ?_; refine qV (ypT rfl rfl) ?_; refine rEnd ?_; refine Run.qb (e := [(1, _), (2, _), (4, _), (123, _)]) ?_; refine run_true rfl ?_; refine qN rfl ?_; refine qV (yas rfl) ?_; refine rEnd ?_; refine run_ret Tryz.func139 rfl ?_
      exact hfail hx02 (hno (fun h => by have e : vs = [] := h.1; rw [e] at h1; exact h1 rfl))
     ·skip
      have hvs : vs = [] := List.eq_nil_of_length_eq_zero (by omega)
      refine qV (ymv rfl) ?_; refine qV (yfa fl130_3 rfl) ?_; refine qV (yld U82 rfl rfl hB2 rfl) ?_; refine qV (yln U82 rfl) ?_; refine qV (yfa fl130_1 rfl) ?_; refine qV (yld U23 rfl rfl hB2 rfl) ?_; refine qV (yln U23 rfl) ?_; refine qV (yad rfl rfl (by omega)) ?_; refine qV (yne rfl rfl) ?_; refine rVal_if (fun h2 => ?_) (fun h2 => ?_)
      ·skip
       refine qV (ypF rfl rfl) ?_; refine qV (ymv rfl) ?_; refine qS ?_; refine qS ?_; refine qS ?_; refine qS ?_; refine qS ?_; refine qV (ypT rfl rfl) ?_; refine rEnd ?_; refine Run.qb (e := [(1, _), (2, _), (4, _), (123, _)]) ?_; refine run_true rfl ?_; refine qN rfl ?_; refine qV (yas rfl) ?_; refine rEnd ?_; refine run_ret Tryz.func139 rfl ?_
       exact hfail hx02 (hno (fun h => h2 (by have := h.2.1; dsimp only at this; omega)))
      ·skip
       refine qV (ypF rfl rfl) ?_; refine qV (ymv rfl) ?_; refine qV (yfa fl130_3 rfl) ?_; refine qV (yld U82 rfl rfl hB2 rfl) ?_; refine qV (yln U82 rfl) ?_; refine qV (ymv rfl) ?_; refine qV (ygt rfl rfl) ?_; refine qV (ypF rfl rfl) ?_; refine rEnd ?_; refine Run.qb (e := [(1, _), (2, _), (4, _), (123, _)]) ?_; refine run_if rfl (fun h3 => ?_) (fun h3 => ?_)
       ·skip
        refine qN rfl ?_; refine qV (yas rfl) ?_; refine rEnd ?_; refine run_ret Tryz.func139 rfl ?_
        exact hfail hx02 (hno (fun h => by have := h.2.2.1; dsimp only at this; omega))
       ·skip
        refine run_skip ?_; refine qN rfl ?_; refine qV (yas rfl) ?_; refine rEnd ?_; refine run_block ?_; refine run_loop (α := Nat) (0) (fun i => [(1, I (z : Int)), (2, ptr b 0), (4, I 0), (11, I (i : Int))]) (fun i w' => w' = w2 ∧ i ≤ cs.length ∧ 0 ∉ cs.take i) (fun i => cs.length - i) (by repeat (first | exact Sub.nil | refine Sub.cons rfl ?_)) ?hI ?hround
        case hI => exact ⟨rfl, Nat.zero_le _, by simp⟩
        case hround =>
         rintro i w3 ⟨rfl, hi, hall⟩ ih
         try dsimp only
         refine run_seq ?_; refine qN rfl ?_; refine qV (ymv rfl) ?_; refine qV (yfa fl130_3 rfl) ?_; refine qV (yld U82 rfl rfl hB2 rfl) ?_; refine qV (yln U82 rfl) ?_; refine qV (ylt rfl rfl) ?_; refine rEnd ?_; refine run_if rfl (fun hlt => ?_) (fun hlt => ?_)
         ·skip
          have hi' : i < cs.length := by omega
          obtain ⟨lb, lo, c, rfl, hcc⟩ := rd_getu hc hi'
          refine run_skip ?_; refine run_seq ?_; refine run_block ?_; refine qN rfl ?_; refine qV (yfa fl130_3 rfl) ?_; refine qV (yld U82 rfl rfl hB2 rfl) ?_; refine qV (ymv rfl) ?_; refine qV (yis U82 ti89 rfl rfl (by omega)) ?_; refine qV (yldc U89 rfl rfl (rd_u32 hc2 hi' hcc)) ?_
          unfold u32v
          refine qV (yeq rfl rfl) ?_; refine rEnd ?_; refine run_if rfl (fun h4 => ?_) (fun h4 => ?_)
          ·skip
           refine qN rfl ?_; refine qV (yas rfl) ?_; refine rEnd ?_; refine run_ret Tryz.func139 rfl ?_; refine hfail hx02 (hno (fun h => ?_))
           have := h.2.2.2 c (List.mem_of_getElem? hcc)
           omega
          ·skip
           refine run_skip ?_; refine run_inBlock ?_; refine run_reg rfl ?_; refine qV (ymv rfl) ?_; refine qV (yad rfl rfl (by omega)) ?_; refine qV (yas rfl) ?_; refine rEnd ?_; refine (ih (i + 1) _ ⟨rfl, by omega, fun hh => ?_⟩ (by omega)).qb
           rcases (mem_take_succ hcc).1 hh with h | h
           ·exact hall h
           ·omega
         ·skip
          have : i = cs.length := by omega
          subst this
          rw [List.take_length] at hall
          refine run_exit rfl ?_; refine (hkb _ _ ⟨rfl, hx2, ?_⟩).qb
          rw [if_neg hl']
          exact ⟨hvs, by dsimp only; omega, by dsimp only; omega, fun c hc' e => hall (e ▸ hc')⟩
  case hmaina =>
   refine run_loop (α := Nat) (0) (fun i => [(1, I (z : Int)), (2, ptr b 0), (4, I 0), (5, I ((mostE z : Nat) : Int)), (7, I ((orderE z : Nat) : Int)), (9, I (i : Int))]) (fun i w' => i ≤ ks.length ∧ Ext w1 w' ∧ keysOk (ks.take i)) (fun i => ks.length - i) (by repeat (first | exact Sub.nil | refine Sub.cons rfl ?_)) ?hI ?hround
   case hI => exact ⟨Nat.zero_le _, Ext.refl _, by simp [keysOk, Rise]⟩
   case hround =>
    rintro i wi ⟨hi, hxi, hko⟩ ih
    have hBi := hxi.blk hB1
    have hx0i := hx1.trans hxi
    try dsimp only
    refine run_seq ?_; refine qN rfl ?_; refine qV (ymv rfl) ?_; refine qV (yfa fl130_1 rfl) ?_; refine qV (yld U23 rfl rfl hBi rfl) ?_; refine qV (yln U23 rfl) ?_; refine qV (ylt rfl rfl) ?_; refine rEnd ?_; refine run_if rfl (fun hlt => ?_) (fun hlt => ?_)
    ·skip
     have hi' : i < ks.length := by omega
     obtain ⟨lb, lo, s, rfl, hs⟩ := rd_gets hk hi'
     have hg : Ext wi wi.drew := Ext.drew0 wi
     refine run_skip ?_; refine run_seq ?_; refine run_block ?_; refine run_seq ?_; refine run_draw (fun w' => Ext wi w') (by kernel_rfl) rfl ?_; refine qT 0 rfl (fun _ hS => yfa fl130_1 rfl) (hg) ?_; refine qT 1 rfl (fun _ hS => yld U23 rfl rfl (hS.blk hBi) rfl) (hg) ?_; refine qT 2 rfl (fun _ hS => ymv rfl) (hg) ?_; refine qT 3 rfl (fun _ hS => yis U23 ti9 rfl rfl (by omega)) (hg) ?_; refine qT 4 rfl (fun _ hS => yldc U9 rfl rfl (rd_str ((hk.ext hx0i).ext hS) hi' hs)) (hg) ?_; refine qO 5 ?_; refine nCall (i := 5) rfl rfl rfl (yc (args := [.tmp 35]) cf40 rfl) (rkey_ret s _) ?_
     rintro _ w3 ⟨rfl, hw3⟩
     refine ⟨(by rw [hw3]; exact hg), ?_⟩
     have hx3 : Ext wi w3 := by rw [hw3]; exact hg
     refine qT 6 rfl (fun _ hS => (by first | exact yntd rfl | exact ynt rfl)) ((by rw [hw3]; exact hg)) ?_
     refine rh_if (fun h1 => ?_) (fun h1 => ?_)
     ·skip
      refine qT 7 rfl (fun _ hS => ymv rfl) ((by rw [hw3]; exact hg)) ?_
      refine qJ 8 rfl ((by rw [hw3]; exact hg)) ?_
      refine qJ 9 rfl ((by rw [hw3]; exact hg)) ?_
      refine qJ 10 rfl ((by rw [hw3]; exact hg)) ?_
      refine qJ 11 rfl ((by rw [hw3]; exact hg)) ?_
      refine qJ 12 rfl ((by rw [hw3]; exact hg)) ?_
      refine qJ 13 rfl ((by rw [hw3]; exact hg)) ?_
      refine qJ 14 rfl ((by rw [hw3]; exact hg)) ?_
      refine qJ 15 rfl ((by rw [hw3]; exact hg)) ?_
      refine qJ 16 rfl ((by rw [hw3]; exact hg)) ?_
      refine qJ 17 rfl ((by rw [hw3]; exact hg)) ?_
      refine qJ 18 rfl ((by rw [hw3]; exact hg)) ?_
      refine qJ 19 rfl ((by rw [hw3]; exact hg)) ?_
      refine qJ 20 rfl ((by rw [hw3]; exact hg)) ?_
      refine qJ 21 rfl ((by rw [hw3]; exact hg)) ?_
      refine qJ 22 rfl ((by rw [hw3]; exact hg)) ?_
      refine qJ 23 rfl ((by rw [hw3]; exact hg)) ?_
      refine qT 24 rfl (fun _ hS => ypT rfl rfl) ((by rw [hw3]; exact hg)) ?_
      refine qE ?_; refine run_true rfl ?_; refine qN rfl ?_; refine qV (yas rfl) ?_; refine rEnd ?_; refine run_ret Tryz.func139 rfl ?_
      exact hfail (hx0i.trans hx3) (fun h => keys_bad hs (.inl h1) h.1)
     ·skip
      have hsl : 1 ≤ s.length ∧ s.length ≤ 64 := Decidable.not_not.1 h1
      refine qT 7 rfl (fun _ hS => ymv rfl) ((by rw [hw3]; exact hg)) ?_
      refine qT 8 rfl (fun _ hS => ymv rfl) ((by rw [hw3]; exact hg)) ?_
      refine qT 9 rfl (fun _ hS => ygt rfl rfl) ((by rw [hw3]; exact hg)) ?_
      refine rh_if (fun h2 => ?_) (fun h2 => ?_)
      ·skip
       have hi1 : i - 1 < ks.length := by omega
       obtain ⟨lb', lo', p, he, hp⟩ := rd_gets hk hi1
       cases he
       refine qT 10 rfl (fun _ hS => ymv rfl) ((by rw [hw3]; exact hg)) ?_
       refine qT 11 rfl (fun _ hS => yfa fl130_1 rfl) ((by rw [hw3]; exact hg)) ?_
       refine qT 12 rfl (fun _ hS => yld U23 rfl rfl (hS.blk hBi) rfl) ((by rw [hw3]; exact hg)) ?_
       refine qT 13 rfl (fun _ hS => ymv rfl) ((by rw [hw3]; exact hg)) ?_
       refine qT 14 rfl (fun _ hS => ysb rfl rfl (by omega)) ((by rw [hw3]; exact hg)) ?_
       refine qT 17 rfl (fun _ hS => yfa fl130_1 rfl) ((by rw [hw3]; exact hg)) ?_
       refine qT 18 rfl (fun _ hS => yld U23 rfl rfl (hS.blk hBi) rfl) ((by rw [hw3]; exact hg)) ?_
       refine qT 19 rfl (fun _ hS => ymv rfl) ((by rw [hw3]; exact hg)) ?_
       rw [show ((i : Int) - 1) = ((i - 1 : Nat) : Int) by omega]
       refine qT 15 rfl (fun _ hS => yis U23 ti9 rfl rfl (by omega)) ((by rw [hw3]; exact hg)) ?_
       refine qT 20 rfl (fun _ hS => yis U23 ti9 rfl rfl (by omega)) ((by rw [hw3]; exact hg)) ?_
       refine qT 16 rfl (fun _ hS => yldc U9 rfl rfl (rd_str ((hk.ext hx0i).ext hS) hi1 hp)) ((by rw [hw3]; exact hg)) ?_
       refine qT 21 rfl (fun _ hS => yldc U9 rfl rfl (rd_str ((hk.ext hx0i).ext hS) hi' hs)) ((by rw [hw3]; exact hg)) ?_
       refine qT 22 rfl (fun _ hS => ygeS rfl rfl) ((by rw [hw3]; exact hg)) ?_
       refine qT 23 rfl (fun _ hS => ypT rfl rfl) ((by rw [hw3]; exact hg)) ?_
       refine qT 24 rfl (fun _ hS => ypF rfl rfl) ((by rw [hw3]; exact hg)) ?_
       refine qE ?_; refine run_cond rfl (fun hq => ?_) (fun hq => ?_)
       ·skip
        have hq' : lt p s = false := by simpa using hq
        refine qN rfl ?_; refine qV (yas rfl) ?_; refine rEnd ?_; refine run_ret Tryz.func139 rfl ?_
        exact hfail (hx0i.trans hx3) (fun h => keys_bad hs (.inr ⟨by omega, p, hp, hq'⟩) h.1)
       ·skip
        have hq' : lt p s = true := by simpa using hq
        refine run_skip ?_; refine run_inBlock ?_; refine run_reg rfl ?_; refine qV (ymv rfl) ?_; refine qV (yad rfl rfl (by omega)) ?_; refine qV (yas rfl) ?_; refine rEnd ?_
        exact (ih (i + 1) w3 ⟨by omega, hxi.trans hx3, keys_step hko hs hsl (.inr ⟨p, hp, hq'⟩)⟩ (by omega)).qb
      ·skip
       refine qT 10 rfl (fun _ hS => ymv rfl) ((by rw [hw3]; exact hg)) ?_
       refine qJ 11 rfl ((by rw [hw3]; exact hg)) ?_
       refine qJ 12 rfl ((by rw [hw3]; exact hg)) ?_
       refine qJ 13 rfl ((by rw [hw3]; exact hg)) ?_
       refine qJ 14 rfl ((by rw [hw3]; exact hg)) ?_
       refine qJ 15 rfl ((by rw [hw3]; exact hg)) ?_
       refine qJ 16 rfl ((by rw [hw3]; exact hg)) ?_
       refine qJ 17 rfl ((by rw [hw3]; exact hg)) ?_
       refine qJ 18 rfl ((by rw [hw3]; exact hg)) ?_
       refine qJ 19 rfl ((by rw [hw3]; exact hg)) ?_
       refine qJ 20 rfl ((by rw [hw3]; exact hg)) ?_
       refine qJ 21 rfl ((by rw [hw3]; exact hg)) ?_
       refine qJ 22 rfl ((by rw [hw3]; exact hg)) ?_
       refine qT 23 rfl (fun _ hS => ypF rfl rfl) ((by rw [hw3]; exact hg)) ?_
       refine qT 24 rfl (fun _ hS => ypF rfl rfl) ((by rw [hw3]; exact hg)) ?_
       refine qE ?_; refine run_false rfl ?_; refine run_skip ?_; refine run_inBlock ?_; refine run_reg rfl ?_; refine qV (ymv rfl) ?_; refine qV (yad rfl rfl (by omega)) ?_; refine qV (yas rfl) ?_; refine rEnd ?_
       exact (ih (i + 1) w3 ⟨by omega, hxi.trans hx3, keys_step hko hs hsl (.inl (by omega))⟩ (by omega)).qb
    ·skip
     have : i = ks.length := by omega
     subst this
     rw [List.take_length] at hko
     refine run_exit rfl ?_
     exact (hka _ _ ⟨rfl, hxi, hko⟩).qb
end
end Go.Proofs.YtocnhaoilnojmaaGreat
namespace Go.Proofs.YtocnhaoilnojmaaGreat
open Go Go.RowKit
set_option linter.all false
set_option maxRecDepth 100000
theorem lg_none_leaf {z : Nat} {s : Bytes} {bad b1 b2 b3 : Bool} {ks vs : List Bytes} {cs : List Nat} {c : Nat} {r t1 t2 t3 t4 r1 r2 r3 r4 : Bytes} (hz : sizeOk (z : Int)) (hl : s.length = z) (h : Lg z s true ks vs cs (c + 1) r bad) (e1 : tx 1 r bad = (t1, r1, b1)) (e2 : tx 2 r1 b1 = (t2, r2, b2)) (e3 : tx (valB t1) r2 b2 = (t3, r3, b3)) (e4 : tx (valB t2) r3 b3 = (t4, r4, true)) : dec s = none := by
 cases e : dec s with
 | none => rfl
 | some n => cases (lg_end hl (lg_leaf hz h e1 e2 e3 e4) (.inr rfl) e).1
theorem lg_none_inn {z : Nat} {s : Bytes} {bad b1 b2 : Bool} {ks vs : List Bytes} {cs : List Nat} {c : Nat} {r t1 t2 t3 r1 r2 r3 : Bytes} (hz : sizeOk (z : Int)) (hl : s.length = z) (h : Lg z s false ks vs cs (c + 1) r bad) (e1 : tx 1 r bad = (t1, r1, b1)) (e2 : tx (valB t1) r1 b1 = (t2, r2, b2)) (e3 : tx 4 r2 b2 = (t3, r3, true)) : dec s = none := by
 cases e : dec s with
 | none => rfl
 | some n => cases (lg_end hl (lg_inn hz h e1 e2 e3) (.inr rfl) e).1
theorem take_tx {s : Bytes} {n : Nat} {v : Value} (h : v = if s.length < n then .tuple #[S [], S [], .bool false] else .tuple #[S (s.take n), S (s.drop n), .bool true]) : (v = .tuple #[S [], S [], .bool false] ∧ tx n s false = ([], s, true)) ∨ ∃ t r, v = .tuple #[S t, S r, .bool true] ∧ tx n s false = (t, r, false) := by
 by_cases hl : s.length < n
 ·rw [if_pos hl] at h
  exact .inl ⟨h, tx_bad (.inr hl)⟩
 ·rw [if_neg hl] at h
  exact .inr ⟨_, _, h, tx_ok (by omega)⟩
section
variable {w : World}
set_option maxHeartbeats 4000000 in
theorem rencode_ret {n : Nd} {kv vv cv : Value} (hR : NdR w n kv vv cv) (hb : n.Bd) {z : Nat} (hz : sizeOk (z : Int)) :
  Ret Tryz.prog 116 [ndv n kv vv cv, I (z : Int)] w fun v w' => Ext w w' ∧ ((NdOk z n ∧ v = .tuple #[S (enc z n), I 0]) ∨ (¬ NdOk z n ∧ v = .tuple #[S [], I 1])) := by
 obtain ⟨z1, z2, -⟩ := id hz
 refine ret_of_run (e := [(0, _), (1, _)]) Tryz.func116 rfl Tryz.ntmps116 rfl rfl ?_; refine qN rfl ?_; refine rValP rfl rfl (pbx rfl (cs := [.bool n.leaf, kv, vv, cv]) rfl) ?_
 rintro _ w1 ⟨b, rfl, hb1, hx1, hB1⟩
 refine qV (yas rfl) ?_; refine qV (yas rfl) ?_; refine rEnd ?_; refine run_seq ?_; refine qN rfl ?_; refine qV (yldA U130 rfl ti130 rfl (Blk.cells (n := 4) hB1 (news := [_, _, _, _]) rfl) rfl) ?_; refine qV (ymv rfl) ?_; refine rCall rfl rfl (yc (args := [.tmp 8, .tmp 9]) cf139 rfl) (rcheck_ret (hR.ext hx1) hb hz) ?_
 rintro _ w2 ⟨rfl, hx2⟩
 have hx02 := hx1.trans hx2
 have hB2 := hx2.blk hB1
 have hR2 := hR.ext hx02
 have hml : maxLen = 9223372036854775807 := rfl
 by_cases hok : NdOk z n
 ·rw [if_pos hok]
  refine qV (yne rfl rfl) ?_; refine rEnd ?_; refine run_if rfl (fun h0 => ?_) (fun h0 => ?_)
  ·exact absurd rfl h0
  ·skip
   have hzn : NdZ z n := ⟨hok, hb.cs⟩
   rcases nd_cases hok with ⟨es, rfl⟩ | ⟨c, ps, rfl⟩
   ·obtain ⟨n1, n2⟩ := ndz_leaf hz hzn
    have hrl := rawN_length hok
    rw [rawN_leaf] at hrl
    have hby := hok.2.1
    have hbl : (bodyL es).length + 3 ≤ 4096 := by simp at hrl; omega
    have hK := hR2.keys
    have hV := hR2.vals
    rw [show (leafNd es).keys.length = es.length by simp [leafNd]] at hK
    rw [show (leafNd es).vals.length = es.length by simp [leafNd]] at hV
    obtain ⟨ka, kc, rfl, -⟩ := hK.shape
    obtain ⟨va, vc, rfl, -⟩ := hV.shape
    refine run_skip ?_; refine qN rfl ?_; refine qV (yas rfl) ?_; refine rEnd ?_; refine run_seq ?_; refine qN rfl ?_; refine qV (yfa fl130_0 rfl) ?_; refine qV (yld U4 rfl rfl hB2 rfl) ?_; refine qV ((by first | exact yntd rfl | exact ynt rfl)) ?_; refine rEnd ?_; refine run_false rfl ?_; refine run_skip ?_; refine qN rfl ?_; refine qV (ymv rfl) ?_; refine qV (yfa fl130_1 rfl) ?_; refine qV (yld U23 rfl rfl hB2 rfl) ?_; refine qV (yln U23 rfl) ?_; refine qV (ycv32 rfl U3 U89) ?_
    rw [Nat.mod_eq_of_lt (show es.length < 4294967296 by omega)]
    refine rCall rfl rfl (yc (args := [.tmp 19, .const (Value.int .i64 2)]) cf140 rfl) (number07_ret es.length 2 (by omega) (by omega) w2) ?_
    rintro _ w3 ⟨rfl, hx3⟩
    have hB3 := hx3.blk hB2
    refine qV (ycatS rfl rfl (by first | omega | (simp; done) | (simp; omega))) ?_
    refine qV (yas rfl) ?_; refine rEnd ?_; refine run_seq ?_; refine qN rfl ?_; refine qV (yfa fl130_0 rfl) ?_; refine qV (yld U4 rfl rfl hB3 rfl) ?_; refine qV ((by first | exact yntd rfl | exact ynt rfl)) ?_; refine rEnd ?_; refine run_false rfl ?_; refine run_skip ?_; refine run_seq ?_; refine qN rfl ?_; refine qV (yas rfl) ?_; refine rEnd ?_; refine run_block ?_
    refine run_loop (α := Nat × Bytes) ((0, [1] ++ beN es.length 2)) (fun x => [(1, I (z : Int)), (2, ptr b 0), (6, S x.2), (7, I (x.1 : Int))]) (fun x w' => x.1 ≤ es.length ∧ Ext w2 w' ∧ x.2 = 1 :: (beN es.length 2 ++ bodyL (es.take x.1))) (fun x => es.length - x.1) (by repeat (first | exact Sub.nil | refine Sub.cons rfl ?_)) ?hI ?hround
    case hI => exact ⟨Nat.zero_le _, hx3, by simp [bodyL]⟩
    case hround =>
     rintro ⟨i, sx⟩ wi ⟨hi, hxi, hsx⟩ ih
     dsimp only at hi hsx
     have hBi := hxi.blk hB2
     have hKi := hK.ext hxi
     have hVi := hV.ext hxi
     have htl := bodyL_take_le es i
     have hsl : sx.length ≤ 4096 := by rw [hsx]; simp; omega
     try dsimp only
     refine run_seq ?_; refine qN rfl ?_; refine qV (ymv rfl) ?_; refine qV (yfa fl130_1 rfl) ?_; refine qV (yld U23 rfl rfl hBi rfl) ?_; refine qV (yln U23 rfl) ?_; refine qV (ylt rfl rfl) ?_; refine rEnd ?_; refine run_if rfl (fun hlt => ?_) (fun hlt => ?_)
     ·skip
      have hi' : i < es.length := by omega
      obtain ⟨x, hx⟩ : ∃ x, es[i]? = some x := ⟨_, List.getElem?_eq_getElem hi'⟩
      obtain ⟨lb, lo, s, rfl, hs'⟩ := rd_getsM hKi (by simp [leafNd]) hi'
      obtain ⟨lb2, lo2, s2, rfl, hs2⟩ := rd_getsM hVi (by simp [leafNd]) hi'
      have e1 : s = x.1 := by simp [leafNd, hx] at hs'; exact hs'.symm
      have e2 : s2 = x.2 := by simp [leafNd, hx] at hs2; exact hs2.symm
      have hxl := n2 x (List.mem_of_getElem? hx)
      refine run_skip ?_; refine run_seq ?_; refine run_block ?_; refine qN rfl ?_; refine qV (ymv rfl) ?_; refine qV (yfa fl130_1 rfl) ?_; refine qV (yld U23 rfl rfl hBi rfl) ?_; refine qV (ymv rfl) ?_; refine qV (yis U23 ti9 rfl rfl (by omega)) ?_; refine qV (yldc U9 rfl rfl (rd_str hKi hi' hs')) ?_
      rw [e1]
      refine qV (ylnS U9 rfl) ?_; refine qV (ycv32 rfl U3 U89) ?_
      rw [Nat.mod_eq_of_lt (show x.1.length < 4294967296 by omega)]
      refine rCall rfl rfl (yc (args := [.tmp 46, .const (Value.int .i64 1)]) cf140 rfl) (number07_ret x.1.length 1 (by omega) (by omega) wi) ?_
      rintro _ w6 ⟨rfl, hx6⟩
      have hx26 := hxi.trans hx6
      have hB6 := hx6.blk hBi
      refine qV (ycatS rfl rfl (by first | omega | (simp; done) | (simp; omega))) ?_
      refine qV (yas rfl) ?_; refine qM rfl ?_; refine qV (yfa fl130_0 rfl) ?_; refine qV (yld U4 rfl rfl hB6 rfl) ?_; refine rEnd ?_; refine run_true rfl ?_
      have hg : Ext w6 w6.drew := Ext.drew0 w6
      refine run_draw (fun w' => Ext w6 w') (by kernel_rfl) rfl ?_; refine qT 0 rfl (fun _ hS => ymv rfl) (hg) ?_; refine qT 1 rfl (fun _ hS => yfa fl130_2 rfl) (hg) ?_; refine qT 2 rfl (fun _ hS => yld U23 rfl rfl (hS.blk hB6) rfl) (hg) ?_; refine qT 3 rfl (fun _ hS => ymv rfl) (hg) ?_; refine qT 4 rfl (fun _ hS => yis U23 ti9 rfl rfl (by omega)) (hg) ?_; refine qT 10 rfl (fun _ hS => yfa fl130_1 rfl) (hg) ?_; refine qT 11 rfl (fun _ hS => yld U23 rfl rfl (hS.blk hB6) rfl) (hg) ?_; refine qT 12 rfl (fun _ hS => ymv rfl) (hg) ?_
      refine qT 13 rfl (fun _ hS => yis U23 ti9 rfl rfl (by omega)) (hg) ?_; refine qT 16 rfl (fun _ hS => yfa fl130_2 rfl) (hg) ?_; refine qT 17 rfl (fun _ hS => yld U23 rfl rfl (hS.blk hB6) rfl) (hg) ?_; refine qT 18 rfl (fun _ hS => ymv rfl) (hg) ?_; refine qT 19 rfl (fun _ hS => yis U23 ti9 rfl rfl (by omega)) (hg) ?_; refine qT 5 rfl (fun _ hS => yldc U9 rfl rfl (rd_str ((hVi.ext hx6).ext hS) hi' hs2)) (hg) ?_; refine qT 6 rfl (fun _ hS => ylnS U9 rfl) (hg) ?_; refine qT 7 rfl (fun _ hS => ycv32 rfl U3 U89) (hg) ?_
      refine qT 14 rfl (fun _ hS => yldc U9 rfl rfl (rd_str ((hKi.ext hx6).ext hS) hi' hs')) (hg) ?_; refine qT 20 rfl (fun _ hS => yldc U9 rfl rfl (rd_str ((hVi.ext hx6).ext hS) hi' hs2)) (hg) ?_
      rw [e1, e2]
      rw [Nat.mod_eq_of_lt (show x.2.length < 4294967296 by omega)]
      refine qO 8 ?_; refine nCall (i := 8) rfl rfl rfl (yc (args := [.tmp 58, .const (Value.int .i64 2)]) cf140 rfl) (number07_ret x.2.length 2 (by omega) (by omega) _) ?_
      rintro _ w7 ⟨rfl, hx7⟩
      refine ⟨hg.trans hx7, ?_⟩
      refine qT 9 rfl (fun _ hS => ycatS rfl rfl (by first | omega | (simp; done) | (simp; omega))) (hg.trans hx7) ?_
      refine qT 15 rfl (fun _ hS => ycatS rfl rfl (by first | omega | (simp; done) | (simp; omega))) (hg.trans hx7) ?_
      refine qT 21 rfl (fun _ hS => ycatS rfl rfl (by first | omega | (simp; done) | (simp; omega))) (hg.trans hx7) ?_
      refine qT 22 rfl (fun _ hS => yas rfl) (hg.trans hx7) ?_; refine qE ?_; refine run_inBlock ?_; refine run_reg rfl ?_; refine qV (ymv rfl) ?_; refine qV (yad rfl rfl (by omega)) ?_; refine qV (yas rfl) ?_; refine rEnd ?_; refine (ih (i + 1, _) w7 ⟨by dsimp only; omega, hx26.trans (hg.trans hx7), ?_⟩ (by dsimp only; omega)).qb
      dsimp only
      rw [bodyL_snoc hx, hsx]
      simp
     ·skip
      have e : i = es.length := by omega
      subst e
      rw [List.take_length] at hsx
      have hlen : sx.length ≤ z := by rw [hsx, hrl]; exact hby
      refine run_exit rfl ?_; refine qN rfl ?_; refine qV (ymv rfl) ?_; refine qV (ymv rfl) ?_; refine qV (ymv rfl) ?_; refine qV (ylnS U9 rfl) ?_; refine qV (ysb rfl rfl (by omega)) ?_
      rw [show ((z : Int) - (sx.length : Int)) = ((z - sx.length : Nat) : Int) by omega]
      refine rValP rfl rfl (pmk U123 ti5 rfl rfl rfl (Nat.le_refl _) (by omega) (by omega)) ?_
      rintro _ w9 ⟨b9, rfl, ⟨hb9, hx9, hB9⟩, hS9⟩
      refine qV (yB2S (l := List.replicate (z - sx.length) 0) U123 U5 U9 rfl hB9 (by simp [u8v]) (by simp)) ?_; refine qV (ycatS rfl rfl (by first | omega | (simp; done) | (simp; omega))) ?_
      refine qV (yas rfl) ?_; refine qV (yas rfl) ?_; refine rEnd ?_; refine run_ret Tryz.func116 rfl ?_; refine ⟨_, rfl, (hx02.trans hxi).trans hx9, .inl ⟨hok, ?_⟩⟩
      simp only [resVal, enc, rawN_leaf, hsx]
   ·obtain ⟨n1, nc, n2⟩ := ndz_inn hz hzn
    have hrl := rawN_length hok
    rw [rawN_inn] at hrl
    have hby := hok.2.1
    have hbl : (bodyI ps).length + 7 ≤ 4096 := by simp at hrl; omega
    have hK := hR2.keys
    have hC := hR2.kids
    rw [show (innNd c ps).keys.length = ps.length by simp [innNd]] at hK
    rw [show (innNd c ps).kids.length = ps.length + 1 by simp [innNd]] at hC
    obtain ⟨ka, kc, rfl, -⟩ := hK.shape
    obtain ⟨ca, cc, rfl, -⟩ := hC.shape
    obtain ⟨cb, co, c0, rfl, hc0⟩ := rd_getuN hC (by simp [innNd]) (show 0 < ps.length + 1 by omega)
    have ec0 : c0 = c := by simp [innNd] at hc0; exact hc0.symm
    subst ec0
    refine run_skip ?_; refine qN rfl ?_; refine qV (yas rfl) ?_; refine rEnd ?_; refine run_seq ?_; refine qN rfl ?_; refine qV (yfa fl130_0 rfl) ?_; refine qV (yld U4 rfl rfl hB2 rfl) ?_; refine qV ((by first | exact yntd rfl | exact ynt rfl)) ?_; refine rEnd ?_; refine run_true rfl ?_; refine run_reg rfl ?_; refine qV (yas rfl) ?_; refine qM rfl ?_; refine qV (ymv rfl) ?_; refine qV (yfa fl130_1 rfl) ?_; refine qV (yld U23 rfl rfl hB2 rfl) ?_; refine qV (yln U23 rfl) ?_; refine qV (ycv32 rfl U3 U89) ?_
    rw [Nat.mod_eq_of_lt (show ps.length < 4294967296 by omega)]
    refine rCall rfl rfl (yc (args := [.tmp 19, .const (Value.int .i64 2)]) cf140 rfl) (number07_ret ps.length 2 (by omega) (by omega) w2) ?_
    rintro _ w3 ⟨rfl, hx3⟩
    have hB3 := hx3.blk hB2
    refine qV (ycatS rfl rfl (by first | omega | (simp; done) | (simp; omega))) ?_
    refine qV (yas rfl) ?_; refine rEnd ?_; refine run_seq ?_; refine qN rfl ?_; refine qV (yfa fl130_0 rfl) ?_; refine qV (yld U4 rfl rfl hB3 rfl) ?_; refine qV ((by first | exact yntd rfl | exact ynt rfl)) ?_; refine rEnd ?_; refine run_true rfl ?_; refine run_reg rfl ?_; refine qV (ymv rfl) ?_; refine qV (yfa fl130_3 rfl) ?_; refine qV (yld U82 rfl rfl hB3 rfl) ?_; refine qV (yis U82 ti89 rfl rfl (by omega)) ?_; refine qV (yldc U89 rfl rfl (rd_u32 (hC.ext hx3) (by omega) hc0)) ?_
    refine rCall rfl rfl (yc (args := [.tmp 29, .const (Value.int .i64 4)]) cf140 rfl) (number07_ret c0 4 (by omega) (by omega) w3) ?_
    rintro _ w4 ⟨rfl, hx4⟩
    refine qV (ycatS rfl rfl (by first | omega | (simp; done) | (simp; omega))) ?_
    refine qV (yas rfl) ?_; refine rEnd ?_; refine Run.qb (e := [(1, _), (2, _), (4, _), (5, _), (6, _)]) ?_; refine run_seq ?_; refine qN rfl ?_; refine qV (yas rfl) ?_; refine rEnd ?_; refine run_block ?_; refine run_loop (α := Nat × Bytes) ((0, ([2] ++ beN ps.length 2) ++ beN c0 4)) (fun x => [(1, I (z : Int)), (2, ptr b 0), (6, S x.2), (7, I (x.1 : Int))]) (fun x w' => x.1 ≤ ps.length ∧ Ext w2 w' ∧ x.2 = 2 :: (beN ps.length 2 ++ (beN c0 4 ++ bodyI (ps.take x.1)))) (fun x => ps.length - x.1) (by repeat (first | exact Sub.nil | refine Sub.cons rfl ?_)) ?hI ?hround
    case hI => exact ⟨Nat.zero_le _, hx3.trans hx4, by simp [bodyI]⟩
    case hround =>
     rintro ⟨i, sx⟩ wi ⟨hi, hxi, hsx⟩ ih
     dsimp only at hi hsx
     have hBi := hxi.blk hB2
     have hKi := hK.ext hxi
     have htl := bodyI_take_le ps i
     have hsl : sx.length ≤ 4096 := by rw [hsx]; simp; omega
     try dsimp only
     refine run_seq ?_; refine qN rfl ?_; refine qV (ymv rfl) ?_; refine qV (yfa fl130_1 rfl) ?_; refine qV (yld U23 rfl rfl hBi rfl) ?_; refine qV (yln U23 rfl) ?_; refine qV (ylt rfl rfl) ?_; refine rEnd ?_; refine run_if rfl (fun hlt => ?_) (fun hlt => ?_)
     ·skip
      have hi' : i < ps.length := by omega
      obtain ⟨x, hx⟩ : ∃ x, ps[i]? = some x := ⟨_, List.getElem?_eq_getElem hi'⟩
      obtain ⟨lb, lo, s, rfl, hs'⟩ := rd_getsM hKi (by simp [innNd]) hi'
      have e1 : s = x.1 := by simp [innNd, hx] at hs'; exact hs'.symm
      have hs2 : (innNd c0 ps).kids[i + 1]? = some x.2 := by simp [innNd, hx]
      have hxl := n2 x (List.mem_of_getElem? hx)
      refine run_skip ?_; refine run_seq ?_; refine run_block ?_; refine qN rfl ?_; refine qV (ymv rfl) ?_; refine qV (yfa fl130_1 rfl) ?_; refine qV (yld U23 rfl rfl hBi rfl) ?_; refine qV (ymv rfl) ?_; refine qV (yis U23 ti9 rfl rfl (by omega)) ?_; refine qV (yldc U9 rfl rfl (rd_str hKi hi' hs')) ?_
      rw [e1]
      refine qV (ylnS U9 rfl) ?_; refine qV (ycv32 rfl U3 U89) ?_
      rw [Nat.mod_eq_of_lt (show x.1.length < 4294967296 by omega)]
      refine rCall rfl rfl (yc (args := [.tmp 46, .const (Value.int .i64 1)]) cf140 rfl) (number07_ret x.1.length 1 (by omega) (by omega) wi) ?_
      rintro _ w6 ⟨rfl, hx6⟩
      have hx26 := hxi.trans hx6
      have hB6 := hx6.blk hBi
      refine qV (ycatS rfl rfl (by first | omega | (simp; done) | (simp; omega))) ?_
      refine qV (yas rfl) ?_; refine qM rfl ?_; refine qV (yfa fl130_0 rfl) ?_; refine qV (yld U4 rfl rfl hB6 rfl) ?_; refine rEnd ?_; refine run_false rfl ?_
      have hg : Ext w6 w6.drew := Ext.drew0 w6
      refine run_draw (fun w' => Ext w6 w') (by kernel_rfl) rfl ?_; refine qT 0 rfl (fun _ hS => ymv rfl) (hg) ?_; refine qT 1 rfl (fun _ hS => yfa fl130_1 rfl) (hg) ?_; refine qT 2 rfl (fun _ hS => yld U23 rfl rfl (hS.blk hB6) rfl) (hg) ?_; refine qT 3 rfl (fun _ hS => ymv rfl) (hg) ?_; refine qT 4 rfl (fun _ hS => yis U23 ti9 rfl rfl (by omega)) (hg) ?_; refine qT 7 rfl (fun _ hS => yfa fl130_3 rfl) (hg) ?_; refine qT 8 rfl (fun _ hS => yld U82 rfl rfl (hS.blk hB6) rfl) (hg) ?_; refine qT 9 rfl (fun _ hS => ymv rfl) (hg) ?_; refine qT 10 rfl (fun _ hS => yad rfl rfl (by omega)) (hg) ?_
      refine qT 5 rfl (fun _ hS => yldc U9 rfl rfl (rd_str ((hKi.ext hx6).ext hS) hi' hs')) (hg) ?_
      rw [e1]
      refine qT 6 rfl (fun _ hS => ycatS rfl rfl (by first | omega | (simp; done) | (simp; omega))) (hg) ?_
      refine qT 11 rfl (fun _ hS => yis U82 ti89 rfl rfl (show i + 1 < ps.length + 1 by omega)) (hg) ?_; refine qT 12 rfl (fun _ hS => yldc U89 rfl rfl (rd_u32 ((hC.ext hx26).ext hS) (by omega) hs2)) (hg) ?_; refine qO 13 ?_; refine nCall (i := 13) rfl rfl rfl (yc (args := [.tmp 85, .const (Value.int .i64 4)]) cf140 rfl) (number07_ret x.2 4 (by omega) (by omega) _) ?_
      rintro _ w7 ⟨rfl, hx7⟩
      refine ⟨hg.trans hx7, ?_⟩
      refine qT 14 rfl (fun _ hS => ycatS rfl rfl (by first | omega | (simp; done) | (simp; omega))) (hg.trans hx7) ?_
      refine qT 15 rfl (fun _ hS => yas rfl) (hg.trans hx7) ?_; refine qE ?_; refine run_inBlock ?_; refine run_reg rfl ?_; refine qV (ymv rfl) ?_; refine qV (yad rfl rfl (by omega)) ?_; refine qV (yas rfl) ?_; refine rEnd ?_; refine (ih (i + 1, _) w7 ⟨by dsimp only; omega, hx26.trans (hg.trans hx7), ?_⟩ (by dsimp only; omega)).qb
      dsimp only
      rw [bodyI_snoc hx, hsx]
      simp
     ·skip
      have e : i = ps.length := by omega
      subst e
      rw [List.take_length] at hsx
      have hlen : sx.length ≤ z := by rw [hsx, hrl]; exact hby
      refine run_exit rfl ?_; refine qN rfl ?_; refine qV (ymv rfl) ?_; refine qV (ymv rfl) ?_; refine qV (ymv rfl) ?_; refine qV (ylnS U9 rfl) ?_; refine qV (ysb rfl rfl (by omega)) ?_
      rw [show ((z : Int) - (sx.length : Int)) = ((z - sx.length : Nat) : Int) by omega]
      refine rValP rfl rfl (pmk U123 ti5 rfl rfl rfl (Nat.le_refl _) (by omega) (by omega)) ?_
      rintro _ w9 ⟨b9, rfl, ⟨hb9, hx9, hB9⟩, hS9⟩
      refine qV (yB2S (l := List.replicate (z - sx.length) 0) U123 U5 U9 rfl hB9 (by simp [u8v]) (by simp)) ?_; refine qV (ycatS rfl rfl (by first | omega | (simp; done) | (simp; omega))) ?_
      refine qV (yas rfl) ?_; refine qV (yas rfl) ?_; refine rEnd ?_; refine run_ret Tryz.func116 rfl ?_; refine ⟨_, rfl, (hx02.trans hxi).trans hx9, .inl ⟨hok, ?_⟩⟩
      simp only [resVal, enc, rawN_inn, hsx]
 ·skip
  rw [if_neg hok]
  refine qV (yne rfl rfl) ?_; refine rEnd ?_; refine run_if rfl (fun h0 => ?_) (fun h0 => ?_)
  ·skip
   refine qN rfl ?_; refine qV (yas rfl) ?_; refine qV (yas rfl) ?_; refine rEnd ?_; refine run_ret Tryz.func116 rfl ?_
   exact ⟨_, rfl, hx02, .inr ⟨hok, rfl⟩⟩
  ·exact absurd (by decide) h0
end
/-- The node that Decode builds. -/
structure DdN (w0 w : World) (b4 b5 b6 b9 : Nat) (lf : Bool) (ks vs : List Bytes) (cs : List Nat) (kv vv cv : Value) : Prop where
 blk : Blk w b9 [.bool lf, kv, vv, cv] 130
 k : Sl w kv 9 1 ks.length (ks.map S)
 v : Sl w vv 9 1 vs.length (vs.map S)
 c : Sl w cv 89 1 cs.length (cs.map u32v)
 low : ∀ g, kv.ownBlock = some g ∨ vv.ownBlock = some g ∨ cv.ownBlock = some g → w0.heap.size ≤ g ∧ g ≠ b4 ∧ g ≠ b5 ∧ g ≠ b6 ∧ g ≠ b9
 d2 : ∀ g, kv.ownBlock = some g → vv.ownBlock ≠ some g ∧ cv.ownBlock ≠ some g
 d3 : ∀ g, vv.ownBlock = some g → cv.ownBlock ≠ some g
 n9 : w0.heap.size ≤ b9 ∧ b9 ≠ b4 ∧ b9 ≠ b5 ∧ b9 ≠ b6
 n4 : b4 < w.heap.size ∧ b5 < w.heap.size ∧ b6 < w.heap.size
section
variable {w0 w w' w1 w2 w3 w4 : World} {b4 b5 b6 b9 : Nat} {lf : Bool} {ks vs : List Bytes} {cs : List Nat} {kv vv cv kv2 : Value}
theorem DdN.kp {S : Nat → Prop} (h : DdN w0 w b4 b5 b6 b9 lf ks vs cs kv vv cv) (k : Kp S w w') (hs : ∀ g, S g → g = b4 ∨ g = b5) : DdN w0 w' b4 b5 b6 b9 lf ks vs cs kv vv cv := by
 have hz := k.size
 refine ⟨k.blk h.blk (fun e => (hs _ e).elim h.n9.2.1 h.n9.2.2.1), h.k.kp k (fun g hg e => ?_), h.v.kp k (fun g hg e => ?_), h.c.kp k (fun g hg e => ?_), h.low, h.d2, h.d3, h.n9, by have := h.n4; omega⟩
 ·have := h.low g (.inl hg); exact (hs g e).elim this.2.1 this.2.2.1
 ·have := h.low g (.inr (.inl hg)); exact (hs g e).elim this.2.1 this.2.2.1
 ·have := h.low g (.inr (.inr hg)); exact (hs g e).elim this.2.1 this.2.2.1
theorem DdN.ext (h : DdN w0 w b4 b5 b6 b9 lf ks vs cs kv vv cv) (k : Ext w w') : DdN w0 w' b4 b5 b6 b9 lf ks vs cs kv vv cv := h.kp k (fun _ e => e.elim)
theorem DdN.pushK (h0 : w0.heap.size ≤ w1.heap.size) (h : DdN w0 w1 b4 b5 b6 b9 lf ks vs cs kv vv cv) {x : Bytes} {u : Value} (hx : Ext w1 w2) (hs : Sl w3 u 9 1 (ks ++ [x]).length ((ks ++ [x]).map S)) (hk : Kp (fun g => kv.ownBlock = some g) w2 w3) (ho : ∀ g, u.ownBlock = some g → kv.ownBlock = some g ∨ w2.heap.size ≤ g) (hl : Blk w4 b9 [.bool lf, u, vv, cv] 130) (hk4 : Kp (fun g => g = b9) w3 w4) :
  DdN w0 w4 b4 b5 b6 b9 lf (ks ++ [x]) vs cs u vv cv ∧ Kp (fun g => g = b9 ∨ kv.ownBlock = some g) w1 w4 := by
 have hk14 : Kp (fun g => g = b9 ∨ kv.ownBlock = some g) w1 w4 := (hx.kp.trans (hk.mono' (fun g e => .inr e))).trans (hk4.mono' (fun g e => .inl e))
 have hz := hx.size
 have hz2 := hk14.size
 have hb9 := h.blk.lt
 have hn4 := h.n4
 have hn9 := h.n9
 have hu : ∀ g, u.ownBlock = some g → w0.heap.size ≤ g ∧ g ≠ b4 ∧ g ≠ b5 ∧ g ≠ b6 ∧ g ≠ b9 := fun g hg => by
  rcases ho g hg with e | e
  ·exact h.low g (.inl e)
  ·exact ⟨by omega, by omega, by omega, by omega, by omega⟩
 refine ⟨⟨hl, hs.kp hk4 (fun g hg e => (hu g hg).2.2.2.2 e), h.v.kp hk14 (fun g hg e => e.elim (h.low g (.inr (.inl hg))).2.2.2.2 (fun e => (h.d2 g e).1 hg)), h.c.kp hk14 (fun g hg e => e.elim (h.low g (.inr (.inr hg))).2.2.2.2 (fun e => (h.d2 g e).2 hg)), ?_, ?_, ?_, h.n9, by omega⟩, hk14⟩
 ·exact fun g hg => by
   rcases hg with hg | hg | hg
   ·exact hu g hg
   ·exact h.low g (.inr (.inl hg))
   ·exact h.low g (.inr (.inr hg))
 ·exact fun g hg => by
   rcases ho g hg with e | e
   ·exact h.d2 g e
   ·exact ⟨fun hg => by have := h.v.lt hg; omega, fun hg => by have := h.c.lt hg; omega⟩
 ·exact h.d3
theorem DdN.pushV (h0 : w0.heap.size ≤ w1.heap.size) (h : DdN w0 w1 b4 b5 b6 b9 lf ks vs cs kv vv cv) {x : Bytes} {u : Value} (hx : Ext w1 w2) (hs : Sl w3 u 9 1 (vs ++ [x]).length ((vs ++ [x]).map S)) (hk : Kp (fun g => vv.ownBlock = some g) w2 w3) (ho : ∀ g, u.ownBlock = some g → vv.ownBlock = some g ∨ w2.heap.size ≤ g) (hl : Blk w4 b9 [.bool lf, kv, u, cv] 130) (hk4 : Kp (fun g => g = b9) w3 w4) :
  DdN w0 w4 b4 b5 b6 b9 lf ks (vs ++ [x]) cs kv u cv ∧ Kp (fun g => g = b9 ∨ vv.ownBlock = some g) w1 w4 := by
 have hk14 : Kp (fun g => g = b9 ∨ vv.ownBlock = some g) w1 w4 := (hx.kp.trans (hk.mono' (fun g e => .inr e))).trans (hk4.mono' (fun g e => .inl e))
 have hz := hx.size
 have hz2 := hk14.size
 have hb9 := h.blk.lt
 have hn4 := h.n4
 have hn9 := h.n9
 have hu : ∀ g, u.ownBlock = some g → w0.heap.size ≤ g ∧ g ≠ b4 ∧ g ≠ b5 ∧ g ≠ b6 ∧ g ≠ b9 := fun g hg => by
  rcases ho g hg with e | e
  ·exact h.low g (.inr (.inl e))
  ·exact ⟨by omega, by omega, by omega, by omega, by omega⟩
 refine ⟨⟨hl, h.k.kp hk14 (fun g hg e => e.elim (h.low g (.inl hg)).2.2.2.2 (fun e => (h.d2 g hg).1 e)), hs.kp hk4 (fun g hg e => (hu g hg).2.2.2.2 e), h.c.kp hk14 (fun g hg e => e.elim (h.low g (.inr (.inr hg))).2.2.2.2 (fun e => h.d3 g e hg)), ?_, ?_, ?_, h.n9, by omega⟩, hk14⟩
 ·exact fun g hg => by
   rcases hg with hg | hg | hg
   ·exact h.low g (.inl hg)
   ·exact hu g hg
   ·exact h.low g (.inr (.inr hg))
 ·exact fun g hg => ⟨fun hg2 => by
   rcases ho g hg2 with e | e
   ·exact (h.d2 g hg).1 e
   ·have := h.k.lt hg; omega, (h.d2 g hg).2⟩
 ·exact fun g hg => by
   rcases ho g hg with e | e
   ·exact h.d3 g e
   ·exact fun hg => by have := h.c.lt hg; omega
theorem DdN.pushC (h0 : w0.heap.size ≤ w1.heap.size) (h : DdN w0 w1 b4 b5 b6 b9 lf ks vs cs kv vv cv) {x : Nat} {u : Value} (hx : Ext w1 w2) (hs : Sl w3 u 89 1 (cs ++ [x]).length ((cs ++ [x]).map u32v)) (hk : Kp (fun g => cv.ownBlock = some g) w2 w3) (ho : ∀ g, u.ownBlock = some g → cv.ownBlock = some g ∨ w2.heap.size ≤ g) (hl : Blk w4 b9 [.bool lf, kv, vv, u] 130) (hk4 : Kp (fun g => g = b9) w3 w4) :
  DdN w0 w4 b4 b5 b6 b9 lf ks vs (cs ++ [x]) kv vv u ∧ Kp (fun g => g = b9 ∨ cv.ownBlock = some g) w1 w4 := by
 have hk14 : Kp (fun g => g = b9 ∨ cv.ownBlock = some g) w1 w4 := (hx.kp.trans (hk.mono' (fun g e => .inr e))).trans (hk4.mono' (fun g e => .inl e))
 have hz := hx.size
 have hz2 := hk14.size
 have hb9 := h.blk.lt
 have hn4 := h.n4
 have hn9 := h.n9
 have hu : ∀ g, u.ownBlock = some g → w0.heap.size ≤ g ∧ g ≠ b4 ∧ g ≠ b5 ∧ g ≠ b6 ∧ g ≠ b9 := fun g hg => by
  rcases ho g hg with e | e
  ·exact h.low g (.inr (.inr e))
  ·exact ⟨by omega, by omega, by omega, by omega, by omega⟩
 refine ⟨⟨hl, h.k.kp hk14 (fun g hg e => e.elim (h.low g (.inl hg)).2.2.2.2 (fun e => (h.d2 g hg).2 e)), h.v.kp hk14 (fun g hg e => e.elim (h.low g (.inr (.inl hg))).2.2.2.2 (fun e => h.d3 g hg e)), hs.kp hk4 (fun g hg e => (hu g hg).2.2.2.2 e), ?_, ?_, ?_, h.n9, by omega⟩, hk14⟩
 ·exact fun g hg => by
   rcases hg with hg | hg | hg
   ·exact h.low g (.inl hg)
   ·exact h.low g (.inr (.inl hg))
   ·exact hu g hg
 ·exact fun g hg => ⟨(h.d2 g hg).1, fun hg2 => by
   rcases ho g hg2 with e | e
   ·exact (h.d2 g hg).2 e
   ·have := h.k.lt hg; omega⟩
 ·exact fun g hg hg2 => by
   rcases ho g hg2 with e | e
   ·exact h.d3 g hg e
   ·have := h.v.lt hg; omega
end
end Go.Proofs.YtocnhaoilnojmaaGreat
