/- Texts TrS, Byt, TrO, TrG, TrI, TrN, TrB, TrD, TrT, TrU, TrV, TrW, TrX, TrM, TrMa, TrE, one behind the other (what the statement TreeStores does not use is left out). -/
import Derived.Test.YtocnhaoilnojmaaGreatTQp1
import Derived.Lib.AppendZerosOnto
import Derived.Lib.Overlaps
import Derived.Maps.RangeRun
namespace Go.Proofs.YtocnhaoilnojmaaGreat
open Go Go.RowKit
set_option linter.all false

def Row0 (w : World) (g : Nat) (cs : List Value) (T : TypeId) : Prop := w.heap[g]? = some (.cells cs.toArray T (0, 0))
theorem Row0.blk {w : World} {g : Nat} {cs : List Value} {T : TypeId} (h : Row0 w g cs T) : Blk w g cs T := ⟨(0, 0), h, fun i _ h => by omega⟩
theorem Row0.set {w : World} {g : Nat} {cs : List Value} {T : TypeId} (h : Row0 w g cs T) (i : Nat) (v : Value) : Row0 (w.setCell ⟨g, i, none⟩ v) g (cs.set i v) T := by
 unfold Row0 at h ⊢
 simp [World.setCell, Array.getElem?_modify, h]
theorem Row0.kp {S : Nat → Prop} {w w' : World} {g : Nat} {cs : List Value} {T : TypeId} (h : Row0 w g cs T) (k : Kp S w w') (hn : ¬ S g) : Row0 w' g cs T := k.heap h hn
theorem Row0.ext {w w' : World} {g : Nat} {cs : List Value} {T : TypeId} (h : Row0 w g cs T) (k : Ext w w') : Row0 w' g cs T := k.heap h id
theorem Sl.row {w : World} {g n cap : Nat} {e : TypeId} {size : Nat} {cs : List Value} (h : Sl w (.slice (some ⟨g, 0, none⟩) n cap) e size n cs) : ∃ cur, Row0 w g cur e ∧ n ≤ cap ∧ cap ≤ maxLen ∧ cur.length = cap * size ∧ cur.take (n * size) = cs := by
 rcases h.2 with ⟨hz, -⟩ | ⟨g1, cap1, cur, hv, -, hg, hn, hm, hs, ht⟩
 ·cases hz
 ·cases hv; exact ⟨cur.toList, by unfold Row0; simpa using hg, hn, hm, by simpa using hs, ht⟩
theorem Row0.sl {w : World} {g n cap : Nat} {e : TypeId} {size : Nat} {cur : List Value} (h : Row0 w g cur e) (hn : n ≤ cap) (hm : cap ≤ maxLen) (hs : cur.length = cap * size) : Sl w (.slice (some ⟨g, 0, none⟩) n cap) e size n (cur.take (n * size)) :=
 ⟨by rw [List.length_take, hs]; exact Nat.min_eq_left (Nat.mul_le_mul_right _ hn), .inr ⟨g, cap, cur.toArray, rfl, Nat.zero_le _, h, hn, hm, by simpa using hs, by simp⟩⟩
theorem Row0.cell {w : World} {g i : Nat} {cur : List Value} {e : TypeId} (h : Row0 w g cur e) : w.cell? ⟨g, i, none⟩ = cur[i]? := h.blk.cell i
theorem Row0.rd {w : World} {g i n c : Nat} {e : TypeId} {cur : List Value} (h : Row0 w g cur e) (hl : i + n ≤ cur.length) : Rd w (.slice (some ⟨g, i, none⟩) n c) 1 n ((cur.drop i).take n) := by
 refine ⟨by simp; omega, .inr ⟨g, i, c, rfl, fun j u hj => ?_⟩⟩
 rw [h.cell]
 rw [List.getElem?_take] at hj
 split at hj
 ·rwa [List.getElem?_drop] at hj
 ·cases hj
theorem rd_empty {w : World} {a : Option Addr} {c : Nat} : Rd w (.slice a 0 c) 1 0 [] := ⟨rfl, .inl ⟨(a, c), rfl, rfl⟩⟩

theorem Rd.kpz {S : Nat → Prop} {w w' : World} {v : Value} {size n : Nat} {cs : List Value} (h : Rd w v size n cs) (k : Kp S w w') (hn : 0 < n → ∀ g, v.ownBlock = some g → ¬ S g) : Rd w' v size n cs := by
 rcases Nat.eq_zero_or_pos n with h0 | h0
 ·subst h0; refine ⟨h.1, ?_⟩; have hl : cs = [] := List.eq_nil_of_length_eq_zero (by have := h.1; omega); rcases h.2 with h2 | ⟨b, off, cap, e, -⟩
  ·exact .inl h2
  ·exact .inr ⟨b, off, cap, e, fun j u hj => by rw [hl] at hj; simp at hj⟩
 ·exact h.kp k (hn h0)
theorem Rd.ltz {w : World} {v : Value} {size n g : Nat} {cs : List Value} (h : Rd w v size n cs) (hs : 0 < size) (hn : 0 < n) (hg : v.ownBlock = some g) : g < w.heap.size := by
 rcases h.2 with ⟨c, -, h2⟩ | ⟨b, off, cap, e, hc⟩
 ·omega
 ·rw [e] at hg; have e2 : b = g := oinj hg; subst e2; have hl : 0 < cs.length := by rw [h.1]; exact Nat.mul_pos hn hs
  exact World.block_lt_of_cell? w _ (hc 0 cs[0] (List.getElem?_eq_getElem hl))

theorem splice_nil (cs : List Value) (i : Nat) : splice cs i [] = cs := by simp [splice]
theorem splice_length (cs vs : List Value) (i : Nat) (h : i + vs.length ≤ cs.length) : (splice cs i vs).length = cs.length := by simp [splice]; omega
theorem splice_get (cs vs : List Value) (i j : Nat) (h : i + vs.length ≤ cs.length) : (splice cs i vs)[j]? = if i ≤ j ∧ j < i + vs.length then vs[j - i]? else cs[j]? := by
 unfold splice
 rw [List.append_assoc]
 by_cases h1 : j < i
 ·rw [List.getElem?_append_left (by simp; omega), List.getElem?_take, if_pos h1, if_neg (by omega)]
 ·rw [List.getElem?_append_right (by simp; omega)]; have e : (cs.take i).length = i := by simp; omega
  rw [e]; by_cases h2 : j < i + vs.length
  ·rw [List.getElem?_append_left (by omega), if_pos ⟨by omega, h2⟩]
  ·rw [List.getElem?_append_right (by omega), List.getElem?_drop, if_neg (by omega)]
   congr 1; omega

theorem run_storeCells_row {P : Program} {b : Nat} {T : TypeId} (o : Nat) : ∀ (vs : List Value) (i : Nat) (cs : List Value) (w : World), Row0 w b cs T → o + i + vs.length ≤ cs.length → (∀ v ∈ vs, v.oneCell' = true) →
  ∃ w', (storeCells ⟨b, o, none⟩ vs i).run P w = .ok () w' ∧ Row0 w' b (splice cs (o + i) vs) T ∧ Kp (fun k => k = b) w w'
 | [], i, cs, w, hB, _, _ => ⟨w, rfl, by simpa [splice] using hB, Kp.refl _ _⟩
 | v :: r, i, cs, w, hB, hl, h1 => by
   simp only [List.length_cons] at hl; have ah : o + i < cs.length := by omega
   have hc : w.cell? ⟨b, o + i, none⟩ = some cs[o + i] := by rw [hB.cell]; simp [ah]
   have hf := hB.blk.free ah; obtain ⟨w', hr, jN, hk⟩ := run_storeCells_row (P := P) o r (i + 1) (cs.set (o + i) v) _ (hB.set (o + i) v) (by simp; omega) (fun u hu => h1 u (List.mem_cons_of_mem _ hu)); refine ⟨w', ?_, ?_, (kp_setCell w b (o + i) v).trans hk⟩
   ·simp only [storeCells, Sem.run_bind, add_off, run_store P w _ v _ (h1 v (List.mem_cons_self ..)), hc, hf]
    simpa using hr
   ·have he : splice (cs.set (o + i) v) (o + (i + 1)) r = splice cs (o + i) (v :: r) := by
     apply List.ext_getElem?; intro j; rw [splice_get _ _ _ _ (by simp; omega), splice_get _ _ _ _ (by simp; omega)]; simp only [List.length_cons]; by_cases h2 : o + i = j
     ·subst h2; rw [if_neg (by omega), if_pos (by omega)]; simp [ah]
     ·by_cases h3 : o + i < j ∧ j < o + i + 1 + r.length
      ·rw [if_pos (by omega), if_pos (by omega), show j - (o + i) = (j - (o + (i + 1))) + 1 by omega]; simp
      ·rw [if_neg (by omega), if_neg (by omega), List.getElem?_set_ne h2]
    rw [← he]; exact jN

section
variable {P : Program} {e : Env} {d : Option Nat} {ty t t' kt el : TypeId} {pos : String} {aft : Array Edge} {g : Option (Nat × Bool)} {x y u u2 : Operand} {w : World}
theorem ycap (ht : P.underlying t = some (.slice el)) {a : Option Addr} {len cap : Nat} (hx : look e x = some (.slice a len cap)) : Y P e ⟨d, .call ⟨.builtin .cap, #[x], #[t]⟩, ty, pos, aft, g⟩ (I (cap : Int)) w w := fun ρ hρ => by
 simp [execOp, resolve, invoke, builtin, hρ _ _ hx, Builtin.cap_, run_underlying ht, goInt, go_sem]
theorem yslE {z : Value} {size bytes n cap i : Nat} {a : Option Addr} {k : IntKind} {za : Int} [hza : NatC za i] (ht : P.underlying t = some (.slice el)) (hs : TI P el z size bytes) (hx : look e x = some (.slice a n cap))
  (hy : look e y = some (.int k za)) (h : i ≤ n) (hc : n ≤ cap) :
  Y P e ⟨d, .slice t x (some y) none none, ty, pos, aft, g⟩ (.slice (if cap = i then a else a.map (·.add (i * size))) (n - i) (cap - i)) w w := fun ρ hρ => by
 obtain ⟨rfl⟩ := hza
 have dJ := hs.size (w := w)
 have h2 : ∀ w, (Instr.sliceBound (.int k (i : Int)) n .sliceB).run P w = .ok i w := fun w => by rw [run_sliceBound _ _ _ _ _ (by omega) (by omega)]; simp
 simp [execOp, hρ _ _ hx, hρ _ _ hy, Instr.sliceAt, run_underlying ht, Instr.slice, Instr.sliceBounds, h2, dJ]
theorem yslK {z : Value} {size bytes n cap i j m : Nat} {a : Option Addr} {k k' k2 : IntKind} {za zb zc : Int} [hza : NatC za i] [Av : NatC zb j] [bO : NatC zc m] (ht : P.underlying t = some (.slice el)) (hs : TI P el z size bytes) (hx : look e x = some (.slice a n cap))
  (hy : look e y = some (.int k za)) (hu : look e u = some (.int k' zb)) (jO : look e u2 = some (.int k2 zc)) (h : i ≤ j ∧ j ≤ m ∧ m ≤ cap) :
  Y P e ⟨d, .slice t x (some y) (some u) (some u2), ty, pos, aft, g⟩ (.slice (if m = i then a else a.map (·.add (i * size))) (j - i) (m - i)) w w := fun ρ hρ => by
 obtain ⟨rfl⟩ := hza
 obtain ⟨rfl⟩ := Av
 obtain ⟨rfl⟩ := bO
 have dJ := hs.size (w := w)
 have h0 : ∀ w, (Instr.sliceBound (.int k2 (m : Int)) cap .slice3Acap).run P w = .ok m w := fun w => by rw [run_sliceBound _ _ _ _ _ (by omega) (by omega)]; simp
 have h1 : ∀ w, (Instr.sliceBound (.int k' (j : Int)) m .slice3B).run P w = .ok j w := fun w => by rw [run_sliceBound _ _ _ _ _ (by omega) (by omega)]; simp
 have h2 : ∀ w, (Instr.sliceBound (.int k (i : Int)) j .slice3C).run P w = .ok i w := fun w => by rw [run_sliceBound _ _ _ _ _ (by omega) (by omega)]; simp
 simp [execOp, hρ _ _ hx, hρ _ _ hy, hρ _ _ hu, hρ _ _ jO, Instr.sliceAt, run_underlying ht, Instr.slice, Instr.sliceBounds, h0, h1, h2, dJ]
theorem run_load_rd {a : Addr} {n m : Nat} {cs : List Value} {b off : Nat} (h : ∀ j u, cs[j]? = some u → w.cell? ⟨b, off + j, none⟩ = some u) (hn : n ≤ cs.length) : (loadCells ⟨b, off, none⟩ n).run P w = .ok (cs.take n).toArray w := by
 have := run_loadCells_list (P := P) (w := w) ⟨b, off, none⟩ (cs.take n) (fun j v hj => by
  rw [add_off]; refine h j v ?_; rw [List.getElem?_take] at hj; split at hj
  ·exact hj
  ·cases hj)
 rwa [List.length_take, Nat.min_eq_left hn] at this
theorem pcpV {z v : Value} {bytes b i n m cap : Nat} {ts : TypeId} {T : TypeId} {cs news : List Value} (ht : P.underlying t = some (.slice el)) (hs : TI P el z 1 bytes) (hx : look e x = some (.slice (some ⟨b, i, none⟩) n cap)) (hy : look e y = some v)
  (hB : Row0 w b cs T) (hi : i + n ≤ cs.length) (hR : Rd w v 1 m news) (h1 : ∀ c ∈ news.take n, c.oneCell' = true) :
  Yp P e ⟨d, .call ⟨.builtin .copy, #[x, y], #[t, ts]⟩, ty, pos, aft, g⟩ w fun v w' => v = I ((min m n : Nat) : Int) ∧ Row0 w' b (splice cs i (news.take n)) T ∧ Kp (fun k => k = b) w w' := by
 have hl := hR.1
 obtain ⟨w', hr, jN, hk⟩ := run_storeCells_row (P := P) i (news.take n) 0 cs w hB (by simp; omega) (fun u hu => h1 u hu)
 refine ⟨_, w', fun ρ hρ => ?_, rfl, by simpa using jN, hk⟩
 have dJ := hs.size (w := w)
 have hc : (Builtin.copy_ #[t, ts] ty #[.slice (some ⟨b, i, none⟩) n cap, v]).run P w = .ok (I ((min m n : Nat) : Int)) w' := by
  rcases hR.2 with ⟨⟨ca, c⟩, rfl, rfl⟩ | ⟨b2, off2, cap2, rfl, k7⟩
  ·have gx : news = [] := List.eq_nil_of_length_eq_zero (by omega); subst gx; simp only [List.take_nil] at hr; unfold Builtin.copy_; cases ca <;> simp [Builtin.lenOf, Builtin.firstCells, run_underlying ht, dJ, Result.andThen, loadCells, loadCellsFrom, goInt, hr]
  ·have Fd : (loadCells ⟨b2, off2, none⟩ (Nat.min m n)).run P w = .ok (news.take n).toArray w := by
    rw [run_load_rd (m := 0) (a := ⟨0, 0, none⟩) k7 (by show min m n ≤ _; omega)]
    congr 2
    show List.take (min m n) news = _; rcases Nat.le_total m n with h | h
    ·rw [Nat.min_eq_left h, List.take_of_length_le (by omega), List.take_of_length_le (by omega)]
    ·rw [Nat.min_eq_right h]
   unfold Builtin.copy_; simp only [List.getElem?_toArray, List.getElem?_cons_zero, List.getElem?_cons_succ, Builtin.lenOf, Builtin.firstCells, pure_bind, Sem.run_bind, run_underlying ht, Result.andThen, Sem.run_pure, dJ, Nat.mul_one, Fd, hr]
   rfl
 simp [execOp, resolve, invoke, builtin, hρ _ _ hx, hρ _ _ hy, hc]
theorem zeroCells_one (z : Value) (n : Nat) (h : oneV z = true) : (Builtin.zeroCells z.cells n).toList = List.replicate n z := by
 rw [oneV_cells h]
 apply List.ext_getElem
 ·simp [Builtin.zeroCells]
 ·intro i h1 h2; simp [Builtin.zeroCells, Nat.mod_one]
theorem pclr {z : Value} {bytes b i n cap : Nat} {T : TypeId} {cs : List Value} (ht : P.underlying t = some (.slice el)) (hs : TI P el z 1 bytes) (hz : oneV z = true) (hx : look e x = some (.slice (some ⟨b, i, none⟩) n cap))
  (hB : Row0 w b cs T) (hi : i + n ≤ cs.length) :
  Yp P e ⟨d, .call ⟨.builtin .clear, #[x], #[t]⟩, ty, pos, aft, g⟩ w fun v w' => Row0 w' b (splice cs i (List.replicate n z)) T ∧ Kp (fun k => k = b) w w' := by
 obtain ⟨w', hr, jN, hk⟩ := run_storeCells_row (P := P) i (List.replicate n z) 0 cs w hB (by simp; omega) (fun u hu => by rw [(List.mem_replicate.1 hu).2]; exact oneV_one hz)
 rcases Nat.eq_zero_or_pos n with h0 | h0
 ·subst h0; refine ⟨.tuple #[], w, fun ρ hρ => ?_, by simpa [splice_nil] using hB, Kp.refl _ _⟩; simp [execOp, resolve, invoke, builtin, hρ _ _ hx, Builtin.clear_, run_underlying ht, go_sem]
 ·refine ⟨.tuple #[], w', fun ρ hρ => ?_, by simpa using jN, hk⟩; have Fe := hs.zero (w := w); obtain ⟨k, rfl⟩ : ∃ k, n = k + 1 := ⟨n - 1, by omega⟩
  have hc : (Builtin.clear_ #[t] ty #[.slice (some ⟨b, i, none⟩) (k + 1) cap]).run P w = .ok (.tuple #[]) w' := by
   unfold Builtin.clear_; simp only [List.getElem?_toArray, List.getElem?_cons_zero, pure_bind, Sem.run_bind, run_underlying ht, Result.andThen, Fe, zeroCells_one z _ hz, hr, Sem.run_pure]
  simp [execOp, resolve, invoke, builtin, hρ _ _ hx, hc]
def ExtG (P : Program) (f : FuncId) (F : Array Value → Sem Value) : Prop := ∃ fn, P.funcs[f]? = some fn ∧ (fn.name == "runtime.NumGoroutine") = false ∧ fn.body.isNone = true ∧ Extern.findNext fn = none ∧ Extern.find fn = some F
theorem yov {z : Value} {bytes : Nat} {f : FuncId} {ts : Array TypeId} {tS tR : TypeId} {b b2 i la ca lb cb : Nat} {T : TypeId} {cs cs2 : List Value} (hE : ExtG P f (Extern.SlicesOverlaps.overlaps #[tS, tS] #[tR])) (ht : P.underlying tS = some (.slice el)) (hs : TI P el z 1 bytes)
  (hx : look e x = some (.slice (some ⟨b, 0, none⟩) la ca)) (hy : look e y = some (.slice (some ⟨b2, i, none⟩) lb cb)) (aT : b ≠ b2) (hA : Row0 w b cs T) (hB : Row0 w b2 cs2 el) (h2 : cs2 ≠ []) :
  Y P e ⟨d, .call ⟨.value (.func f), #[x, y], ts⟩, ty, pos, aft, g⟩ (.bool false) w w := fun ρ hρ => by
 obtain ⟨fn, hf, vw, hb, hn, he⟩ := hE
 have hr := Lib.run_overlaps_apart (P := P) w tS tR el ht 1 (fun w => hs.size (w := w)) ⟨b, 0, none⟩ ⟨b2, i, none⟩ la ca lb cb aT T el cs.length cs2.length (by unfold Row0 at hA; simp [World.shape?, hA]) (by unfold Row0 at hB; simp [World.shape?, hB]) (by simpa using h2)
  (by unfold Row0 at hA; simp [World.frozen?, hA]) (by unfold Row0 at hA; simp [World.frozen?, hA])
 have h0 : ρ (.func f) = .func (.func f) #[] #[] := hρ _ _ rfl
 simp [execOp, resolve, h0, hρ _ _ hx, hρ _ _ hy, Deferred.ofValue, invoke, run_callFunc_extern hf vw hb hn he, hr, Result.andThen]
theorem papF {z u : Value} {size bytes gb n cap m : Nat} {cs news : List Value} (ht : P.underlying t = some (.slice el)) (hs : TI P el z size bytes) (dJ : 0 < size)
  (hx : look e x = some (.slice (some ⟨gb, 0, none⟩) n cap)) (hy : look e y = some u) (hv : Sl w (.slice (some ⟨gb, 0, none⟩) n cap) el size n cs) (hu : Rd w u size m news) (h1 : ∀ c ∈ news, c.oneCell' = true) (hr : n + m ≤ cap) :
  Yp P e ⟨d, .call ⟨.builtin .append, #[x, y], #[t, t]⟩, ty, pos, aft, g⟩ w fun v' w' => v' = .slice (some ⟨gb, 0, none⟩) (n + m) cap ∧ Sl w' v' el size (n + m) (cs ++ news) ∧ Kp (fun k => k = gb) w w' := by
 obtain ⟨i, hi, uM, Aw, DB⟩ := hs
 subst Aw
 rcases hu.2 with ⟨⟨ca, c⟩, rfl, rfl⟩ | ⟨b, off, cap2, rfl, k7⟩
 ·have vx : news = [] := List.eq_nil_of_length_eq_zero (by simpa using hu.1); subst vx
  have hr : (Builtin.append_ #[t, t] ty #[.slice (some ⟨gb, 0, none⟩) n cap, .slice ca 0 c]).run P w = .ok (.slice (some ⟨gb, 0, none⟩) n cap) w := by
   have de : n ≤ cap := by omega
   cases ca
   ·simp [Builtin.append_, run_underlying ht, sizeOf, typeInfo, hi, Builtin.lenOf, Builtin.firstCells, de, storeCells]
   ·simp [Builtin.append_, run_underlying ht, sizeOf, typeInfo, hi, Builtin.lenOf, Builtin.firstCells, de, storeCells, loadCells, loadCellsFrom]
  refine ⟨_, w, fun ρ hρ => ?_, rfl, by simpa using hv, Kp.refl _ _⟩; simp [execOp, resolve, invoke, builtin, hρ _ _ hx, hρ _ _ hy, hr]
 ·have vy : ∀ j u, news[j]? = some u → w.cell? ((⟨b, off, none⟩ : Addr).add j) = some u := fun j u hu => by rw [add_off]; exact k7 j u hu
  obtain ⟨w', jP, Ff, aw⟩ := run_append_fits (P := P) w 0 t ty el i i.size ht hi rfl gb n cap cs hv ⟨b, off, none⟩ m cap2 news hu.1 vy h1 hr; refine ⟨_, w', fun ρ hρ => ?_, rfl, Ff, (Kp.of_grown aw).mono' fun k hk => (oinj hk).symm⟩; simp [execOp, resolve, invoke, builtin, hρ _ _ hx, hρ _ _ hy, jP]
theorem papZ {z : Value} {bytes gb n cap k : Nat} {tn : TypeId} {k1 : IntKind} {za : Int} [hza : NatC za k] {cs : List Value} (ht : P.underlying t = some (.slice el)) (Fg : P.underlying tn = some (.int k1)) (hs : TI P el z 1 bytes) (hz : oneV z = true)
  (hx : look e x = some (.slice (some ⟨gb, 0, none⟩) n cap)) (hy : look e y = some (I za)) (hS : Sl w (.slice (some ⟨gb, 0, none⟩) n cap) el 1 n cs) (h0 : 0 < k) (hc : cap < n + k) (hb : (n + k) * bytes ≤ 140737488355328) (hm : n + k ≤ maxLen) :
  Yp P e ⟨d, .call ⟨.builtin .append, #[x, y], #[t, tn]⟩, ty, pos, aft, g⟩ w fun v' w' => ∃ b c, v' = .slice (some ⟨b, 0, none⟩) (n + k) c ∧ Sl w' v' el 1 (n + k) (cs ++ List.replicate k z) ∧ Ext w w' ∧ w.heap.size ≤ b := by
 obtain ⟨rfl⟩ := hza
 obtain ⟨i, hi, uM, Aw, DB⟩ := hs
 subst DB
 have eP : maxLen = 9223372036854775807 := rfl
 obtain ⟨cur, bJ, de, iJ, aM, zI⟩ := hS.row
 simp only [Nat.mul_one] at aM zI
 have cH : (Builtin.firstCells i.size n (.slice (some ⟨gb, 0, none⟩) n cap)).run P w.drew = .ok cs.toArray w.drew := by
  rw [Aw]; simp only [Builtin.firstCells, Nat.mul_one]
  have := run_load_rd (P := P) (w := w.drew) (m := 0) (a := ⟨0, 0, none⟩) (cs := cur) (b := gb) (off := 0) (n := n) (fun j u hj => by
   rw [(bJ.ext (Ext.drew0 w)).cell, Nat.zero_add]; exact hj) (by omega)
  rw [zI] at this; exact this
 have hr := Lib.run_append_grow_zeros (P := P) w t tn ty el i z .i64 k1 ht Fg hi uM (some ⟨gb, 0, none⟩) n cap cs cH k h0 (by omega) hc (by omega) (by
  have : k * i.bytes ≤ (n + k) * i.bytes := Nat.mul_le_mul_right _ (by omega)
  omega) (growslice_fits (by omega) hb)
 refine ⟨_, w.drew.alloc (.cells (cs.toArray ++ Builtin.zeroCells z.cells k ++ Builtin.zeroCells z.cells (grownCap w (n + k) cap el - (n + k))) el), fun ρ hρ => ?_, w.heap.size, _, rfl, ⟨?_, .inr ⟨w.heap.size, _, _, rfl, Nat.zero_le _, heap_alloc_new w.drew _, grownCap_ge w (n + k) cap el, grownCap_le_maxLen w (n + k) cap el hm, ?_, ?_⟩⟩, ⟨rfl, rfl, rfl, by simp, fun j hj _ => Below.heap_alloc w.drew _ j hj⟩, Nat.le_refl _⟩
 ·simp [execOp, resolve, invoke, builtin, hρ _ _ hx, hρ _ _ hy, hr]
 ·have := hS.1; simp at this ⊢; omega
 ·have hl := hS.1; have qU := grownCap_ge w (n + k) cap el; have e1 : z.cells.size = 1 := by rw [oneV_cells hz]; rfl
  simp only [Array.size_append, List.size_toArray, size_zeroCells, e1]; simp at hl; omega
 ·simp only [Array.toList_append, List.append_assoc, zeroCells_one z _ hz]; rw [← List.append_assoc]; exact List.take_left' (by have := hS.1; simp at this ⊢; omega)
end
abbrev Bytes := List UInt8

abbrev lt (a b : Bytes) : Bool := Op.bytesLess a b
theorem lt_irrefl : ∀ a : Bytes, lt a a = false
 | [] => rfl
 | x :: r => by
   have := lt_irrefl r; simp only [lt, Op.bytesLess] at this ⊢; simp [this]
theorem lt_trans : ∀ {a b c : Bytes}, lt a b = true → lt b c = true → lt a c = true
 | _, [], _, h, _ => by cases ‹List UInt8› <;> simp [lt, Op.bytesLess] at h
 | _, _ :: _, [], _, h => by simp [lt, Op.bytesLess] at h
 | [], _ :: _, _ :: _, _, _ => rfl
 | x :: a, y :: b, z :: c, h1, h2 => by
   simp only [lt, Op.bytesLess, Bool.or_eq_true, Bool.and_eq_true, decide_eq_true_eq, beq_iff_eq] at h1 h2 ⊢; rcases h1 with h1 | ⟨rfl, h1⟩
   ·rcases h2 with h2 | ⟨rfl, h2⟩
    ·exact .inl (UInt8.lt_trans h1 h2)
    ·exact .inl h1
   ·rcases h2 with h2 | ⟨rfl, h2⟩
    ·exact .inl h2
    ·exact .inr ⟨rfl, lt_trans (a := a) h1 h2⟩
theorem lt_tri : ∀ a b : Bytes, lt a b = true ∨ a = b ∨ lt b a = true
 | [], [] => .inr (.inl rfl)
 | [], _ :: _ => .inl rfl
 | _ :: _, [] => .inr (.inr rfl)
 | x :: a, y :: b => by
   simp only [lt, Op.bytesLess, Bool.or_eq_true, Bool.and_eq_true, decide_eq_true_eq, beq_iff_eq]; rcases UInt8.lt_or_lt_of_ne (a := x) (b := y) |> fun f => (Decidable.em (x = y)).symm.imp f id with h | rfl
   ·rcases h with h | h
    ·exact .inl (.inl h)
    ·exact .inr (.inr (.inl h))
   ·rcases lt_tri a b with h | h | h
    ·exact .inl (.inr ⟨rfl, h⟩)
    ·exact .inr (.inl (by rw [h]))
    ·exact .inr (.inr (.inr ⟨rfl, h⟩))
theorem lt_asymm {a b : Bytes} (h : lt a b = true) : lt b a = false := by
 cases hb : lt b a with
 | false => rfl
 | true => have := lt_trans h hb; rw [lt_irrefl] at this; cases this
theorem le_of_lt {a b : Bytes} (h : lt a b = true) : lt b a = false := lt_asymm h
theorem le_lt_trans {a b c : Bytes} (h1 : lt b a = false) (h2 : lt b c = true) : lt a c = true := by
 rcases lt_tri a b with h | h | h
 ·exact lt_trans h h2
 ·rw [h]; exact h2
 ·rw [h1] at h; cases h
theorem lt_le_trans {a b c : Bytes} (h1 : lt a b = true) (h2 : lt c b = false) : lt a c = true := by
 rcases lt_tri b c with h | h | h
 ·exact lt_trans h1 h
 ·rw [← h]; exact h1
 ·rw [h2] at h; cases h
theorem le_trans {a b c : Bytes} (h1 : lt b a = false) (h2 : lt c b = false) : lt c a = false := by
 cases h : lt c a with
 | false => rfl
 | true => rcases lt_tri a b with h' | h' | h'
           ·rw [lt_trans h h'] at h2; cases h2
           ·rw [h', h2] at h; cases h
           ·rw [h1] at h'; cases h'
theorem nil_le (a : Bytes) : lt a [] = false := by cases a <;> rfl
theorem le_refl (a : Bytes) : lt a a = false := lt_irrefl a

section
variable {P : Program} {e : Env} {d : Option Nat} {ty t t' : TypeId} {pos : String} {aft : Array Edge} {g : Option (Nat × Bool)} {x y : Operand} {w : World} {l l' : Bytes}
theorem yltS (hx : look e x = some (S l)) (hy : look e y = some (S l')) : Y P e ⟨d, .binOp .lss t x y t', ty, pos, aft, g⟩ (.bool (lt l l')) w w := fun ρ hρ => by
 simp [execOp, go_sem, hρ _ _ hx, hρ _ _ hy]
theorem ygeS (hx : look e x = some (S l)) (hy : look e y = some (S l')) : Y P e ⟨d, .binOp .geq t x y t', ty, pos, aft, g⟩ (.bool (!lt l l')) w w := fun ρ hρ => by
 simp [execOp, go_sem, hρ _ _ hx, hρ _ _ hy]
end
set_option maxRecDepth 100000

theorem isNaN_ret (s : Bytes) (w : World) : Ret Tryz.prog 76 [S s] w fun v w' => v = .bool false ∧ w' = w := by
 refine ret_of_run (e := [(0, _)]) Tryz.func76 rfl Tryz.ntmps76 rfl rfl (qN rfl (zqa rfl (qM rfl (zqm rfl (zqm rfl (qV (yneS rfl rfl) (zqa rfl (rEnd (run_ret Tryz.func76 rfl ?_)))))))))
 exact ⟨_, rfl, by simp [resVal], rfl⟩
theorem cisNaN_ret (s : Bytes) (w : World) : Ret Tryz.prog 103 [S s] w fun v w' => v = .bool false ∧ w' = w := by
 refine ret_of_run (e := [(0, _)]) Tryz.func103 rfl Tryz.ntmps103 rfl rfl (qN rfl (zqa rfl (qM rfl (zqm rfl (zqm rfl (qV (yneS rfl rfl) (zqa rfl (rEnd (run_ret Tryz.func103 rfl ?_)))))))))
 exact ⟨_, rfl, by simp [resVal], rfl⟩
theorem less_ret (s t : Bytes) (w : World) : Ret Tryz.prog 75 [S s, S t] w fun v w' => v = .bool (lt s t) ∧ w' = w := by
 refine ret_of_run (e := [(0, _), (1, _)]) Tryz.func75 rfl Tryz.ntmps75 rfl rfl (qN rfl (zqa rfl (qM rfl (zqm rfl (zqc [.tmp 5] cf103 rfl (cisNaN_ret s _) ?_)))))
 rintro _ w ⟨rfl, rfl⟩
 refine zqm rfl (qS (qS (qS (qV (ypF rfl rfl) (zqm rfl (zqm rfl (zqm rfl (qV (yltS rfl rfl) (qV (ypF rfl rfl) (zqa rfl (rEnd (run_ret Tryz.func75 rfl ?_))))))))))))
 exact ⟨_, rfl, rfl, rfl⟩

def pos (l : List Bytes) (t : Bytes) : Nat := (l.takeWhile (fun k => lt k t)).length
theorem pos_le (l : List Bytes) (t : Bytes) : pos l t ≤ l.length := by
 unfold pos
 exact (List.takeWhile_sublist _).length_le
theorem pos_of {l : List Bytes} {t : Bytes} {i : Nat} (hi : i ≤ l.length) (h1 : ∀ (j : Nat) k, j < i → l[j]? = some k → lt k t = true) (h2 : ∀ k, l[i]? = some k → lt k t = false) : pos l t = i := by
 unfold pos
 induction l generalizing i with
 | nil => simp at hi; subst hi; rfl
 | cons a r ih =>
   cases i with
   | zero => simp [h2 a rfl]
   | succ i =>
     have ha := h1 0 a (by omega) rfl; simp only [List.takeWhile_cons, ha, if_true, List.length_cons]; rw [ih (by simpa using hi) (fun j k hj hk => h1 (j + 1) k (by omega) (by simpa using hk)) (fun k hk => h2 k (by simpa using hk))]
abbrev Rise (l : List Bytes) : Prop := l.Pairwise (fun a b => lt a b = true)
theorem Rise.get {l : List Bytes} (h : Rise l) {i j : Nat} {a b : Bytes} (lA : i < j) (ha : l[i]? = some a) (hb : l[j]? = some b) : lt a b = true := by
 have hj : j < l.length := by
  rcases Nat.lt_or_ge j l.length with h' | h'
  ·exact h'
  ·rw [List.getElem?_eq_none h'] at hb; cases hb
 have := List.pairwise_iff_getElem.1 h i j (by omega) hj lA
 rw [List.getElem?_eq_getElem (by omega)] at ha
 rw [List.getElem?_eq_getElem hj] at hb
 cases ha; cases hb
 exact this
theorem bsearch_ret (l : List Bytes) (t : Bytes) (v : Value) (w : World) (hR : Rd w v 1 l.length (l.map S)) (hl : l.length ≤ 4611686018427387903) (hs : Rise l) :
  Ret Tryz.prog 44 [v, S t] w fun v w' => v = .tuple #[I (pos l t : Int), .bool (decide (l[pos l t]? = some t))] ∧ w' = w := by
 obtain ⟨a, cap, rfl, -⟩ := hR.shape
 refine ret_of_run (e := [(0, _), (1, _)]) Tryz.func44 rfl Tryz.ntmps44 rfl rfl (qN rfl (zqa rfl (zqa rfl (qM rfl (zqm rfl (qV (yln U23 rfl) (zqa rfl (qM rfl (zqm rfl (zqa rfl (zqa rfl (rEnd (run_seq ?_)))))))))))))
 refine run_block (zqu (α := Nat × Nat) ((0, l.length)) (fun x => [(0, .slice a l.length cap), (1, S t), (6, I (l.length : Int)), (7, I (x.1 : Int)), (8, I (x.2 : Int))]) (fun x w' => w' = w ∧ x.1 ≤ x.2 ∧ x.2 ≤ l.length ∧ (∀ (j : Nat) k, j < x.1 → l[j]? = some k → lt k t = true) ∧ (∀ (j : Nat) k, x.2 ≤ j → l[j]? = some k → lt k t = false)) (fun x => x.2 - x.1) ?hI ?hround)
 case hI => exact ⟨rfl, Nat.zero_le _, Nat.le_refl _, fun j k hj => by omega, fun j k hj hk => by rw [List.getElem?_eq_none hj] at hk; cases hk⟩
 case hround =>
  rintro ⟨i, j⟩ _ ⟨rfl, lA, hj, h1, h2⟩ ih; dsimp only at lA hj h1 h2
  try dsimp only
  refine run_seq (qN rfl (zqm rfl (zqm rfl (qV (ylt rfl rfl) (rEnd (run_if rfl (fun ah => ?_) (fun ah => ?_)))))))
  ·have qW : (i + j) / 2 < j := by omega
   have lB : i ≤ (i + j) / 2 := by omega
   have eP : (i + j) / 2 < l.length := by omega
   obtain ⟨k, hk⟩ : ∃ k, l[(i + j) / 2]? = some k := ⟨_, List.getElem?_eq_getElem eP⟩; rcases hR.2 with ⟨c, -, h0⟩ | ⟨b, off, cap', hv, hc⟩
   ·omega
   cases hv; have gZ := hc ((i + j) / 2) (S k) (by rw [List.getElem?_map, hk]; rfl); refine run_skip (run_block (qN rfl (zqm rfl (zqm rfl (zqd rfl rfl ?_))))); rw [show (i : Int) + (j : Int) = ((i + j : Nat) : Int) by omega]; refine qV ((by first | exact ycvSu64 rfl U3 U118 (by omega) | exact ycv64 rfl U3 U118)) ?_; refine qV (ysrN 1 2 rfl rfl (by decide) rfl) (qV (ycvSi64 rfl U118 U3 (by omega)) (zqa rfl (qM rfl (zqm rfl (zqm rfl (qV (yis U23 ti9 rfl rfl (by omega)) (qV (yldc U9 rfl rfl (by rw [Nat.mul_one]; exact gZ)) ?_))))))); refine zqm rfl (zqc [.tmp 25, .tmp 26] cf75 rfl (less_ret k t _) ?_); rintro _ w1 ⟨rfl, rfl⟩; refine rEnd ?_
   cases p7 : lt k t with
   | true =>
     refine run_true rfl (run_reg rfl (zqm rfl (zqd rfl rfl (zqa rfl (rEnd (run_inBlock ((ih ((i + j) / 2 + 1, j) _ ⟨rfl, by dsimp only; omega, hj, fun m k' hm aS => ?_, h2⟩ (by dsimp only; omega)).qb))))))); by_cases e : m = (i + j) / 2
     ·subst e; rw [hk] at aS; cases aS; exact p7
     ·exact lt_trans (hs.get (by omega) aS hk) p7
   | false =>
     refine run_false rfl (run_reg rfl (zqm rfl (zqa rfl (rEnd (run_inBlock ((ih (i, (i + j) / 2) _ ⟨rfl, lB, by dsimp only; omega, h1, fun m k' hm aS => ?_⟩ (by dsimp only; omega)).qb)))))); by_cases e : m = (i + j) / 2
     ·subst e; rw [hk] at aS; cases aS; exact p7
     ·exact le_trans p7 (lt_asymm (hs.get (show (i + j) / 2 < m by omega) hk aS))
  ·have Ax : i = j := by omega
   subst Ax; have hp : pos l t = i := pos_of hj h1 (fun k hk => h2 i k (Nat.le_refl _) hk); refine run_exit rfl (qN rfl (zqm rfl (zqm rfl (zqm rfl (qV (ylt rfl rfl) (rVal_if (fun cF => ?_) (fun cF => ?_)))))))
   ·obtain ⟨k, hk⟩ : ∃ k, l[i]? = some k := ⟨_, List.getElem?_eq_getElem (by omega)⟩; rcases hR.2 with ⟨c, -, h0⟩ | ⟨b, off, cap', hv, hc⟩
    ·omega
    cases hv; have gZ := hc i (S k) (by rw [List.getElem?_map, hk]; rfl); refine zqm rfl (zqm rfl (zqm rfl (qV (yis U23 ti9 rfl rfl (by omega)) (qV (yldc U9 rfl rfl (by rw [Nat.mul_one]; exact gZ)) ?_)))); refine zqm rfl (qV (yeqS rfl rfl) (rVal_if (fun p7 => ?_) (fun p7 => ?_)))
    ·refine zqm rfl (qS (qS (qS (qS (qS (qS (qS (qS (qS (qV (ypT rfl rfl) (qV (ypT rfl rfl) (zqa rfl (zqa rfl ?_))))))))))))); refine rEnd (Run.qb (e := [(4, _), (5, _)]) ?_); refine run_ret Tryz.func44 rfl (⟨_, rfl, ?_, rfl⟩); rw [hp, hk, p7]; simp [resVal]
    ·refine zqm rfl (zqm rfl (zqm rfl (qV (yis U23 ti9 rfl rfl (by omega)) (qV (yldc U9 rfl rfl (by rw [Nat.mul_one]; exact gZ)) ?_)))); refine zqc [.tmp 46] cf76 rfl (isNaN_ret k _) ?_; rintro _ w1 ⟨rfl, rfl⟩; refine zqm rfl (qS (qS (qV (ypF rfl rfl) (qV (ypF rfl rfl) (qV (ypT rfl rfl) (zqa rfl (zqa rfl (rEnd (Run.qb (e := [(4, _), (5, _)]) ?_))))))))); refine run_ret Tryz.func44 rfl (⟨_, rfl, ?_, rfl⟩); rw [hp, hk]; simp [resVal, p7]
   ·refine zqm rfl (qS (qS (qS (qS (qS (qS (qS (qS (qS (qS (qS (qS (qS ?_))))))))))))); refine qS (qS (qS (qS (qV (ypF rfl rfl) (zqa rfl (zqa rfl (rEnd (Run.qb (e := [(4, _), (5, _)]) ?_)))))))); refine run_ret Tryz.func44 rfl (⟨_, rfl, ?_, rfl⟩); rw [hp, List.getElem?_eq_none (by omega)]; simp [resVal]
theorem splice_take (cs vs : List Value) (i : Nat) (h : i ≤ cs.length) : (splice cs i vs).take (i + vs.length) = cs.take i ++ vs := by
 unfold splice
 exact List.take_left' (by simp; omega)
theorem take_of_splice (cs vs : List Value) (i m : Nat) (h : m ≤ i) (hl : i ≤ cs.length) : (splice cs i vs).take m = cs.take m := by
 unfold splice
 rw [List.append_assoc, List.take_append_of_le_length (by simp; omega), List.take_take, Nat.min_eq_left h]
theorem ins_list {cs cur : List Value} {x : Value} {i n : Nat} (h : i ≤ n) (hl : cs.length = n) (hc : n + 1 ≤ cur.length) (hp : cur.take i = cs.take i) : (splice (splice cur i [x]) (i + 1) (cs.drop i)).take (n + 1) = cs.take i ++ x :: cs.drop i := by
 have h1 := splice_take (splice cur i [x]) (cs.drop i) (i + 1) (by rw [splice_length _ _ _ (by simp; omega)]; omega)
 rw [show i + 1 + (cs.drop i).length = n + 1 by simp; omega] at h1
 rw [h1, show i + 1 = i + [x].length from rfl, splice_take _ _ _ (by omega), hp]
 simp
theorem ins_list2 {cs cur : List Value} {x : Value} {i n : Nat} (h : i ≤ n) (hl : cs.length = n) (hc : n + 1 ≤ cur.length) (hp : cur.take n = cs) : (splice (splice cur (i + 1) (cs.drop i)) i [x]).take (n + 1) = cs.take i ++ x :: cs.drop i := by
 have e : cur.take i = cs.take i := by rw [← hp, List.take_take, Nat.min_eq_left h]
 have e2 : (splice cur (i + 1) (cs.drop i)).length = cur.length := splice_length _ _ _ (by simp; omega)
 have e3 : (splice cur (i + 1) (cs.drop i)).take i = cs.take i := by rw [take_of_splice _ _ _ _ (by omega) (by omega), e]
 have e4 : (splice cur (i + 1) (cs.drop i)).drop (i + 1) = cs.drop i ++ cur.drop (i + 1 + (cs.drop i).length) := by
  unfold splice; rw [List.append_assoc, List.drop_left' (by simp; omega)]
 show ((splice cur (i + 1) (cs.drop i)).take i ++ [x] ++ (splice cur (i + 1) (cs.drop i)).drop (i + 1)).take (n + 1) = _
 rw [e3, e4, ← List.append_assoc, List.take_left' (by simp; omega)]
 simp
theorem hovS : ExtG Tryz.prog 95 (Extern.SlicesOverlaps.overlaps #[23, 23] #[4]) := ⟨_, Tryz.func95, by kernel_rfl, by kernel_rfl, by kernel_rfl, by kernel_rfl⟩
set_option maxHeartbeats 1000000 in
theorem insS_ret {w : World} {sv vv x : Value} {cs : List Value} {i n : Nat} (hS : Sl w sv 9 1 n cs) (hV : Sl w vv 9 1 1 [x]) (aa : x.oneCell' = true) (ia : ∀ c ∈ cs, c.oneCell' = true) (hi : i ≤ n) (hn : n ≤ 100000000) (aT : ∀ b, sv.ownBlock = some b → vv.ownBlock ≠ some b) :
  Ret Tryz.prog 69 [sv, I (i : Int), vv] w fun v w' => Sl w' v 9 1 (n + 1) (cs.take i ++ x :: cs.drop i) ∧ Kp (fun k => sv.ownBlock = some k) w w' ∧ (∀ g, v.ownBlock = some g → sv.ownBlock = some g ∨ w.heap.size ≤ g) := by
 have eP : maxLen = 9223372036854775807 := rfl
 have aM := hS.len
 rw [Nat.mul_one] at aM
 obtain ⟨a, cap, mo, de⟩ : ∃ a cap, sv = .slice a n cap ∧ n ≤ cap := by
  rcases hS.shape with ⟨e, h0⟩ | ⟨g, cap, e, h⟩
  ·exact ⟨none, 0, by rw [e, h0], by omega⟩
  ·exact ⟨_, cap, e, h⟩
 obtain ⟨vb, vc, Ay⟩ : ∃ vb vc, vv = .slice (some ⟨vb, 0, none⟩) 1 vc := by
  rcases hV.shape with ⟨e, h0⟩ | ⟨g, cap, e, h⟩
  ·omega
  ·exact ⟨g, cap, e⟩
 subst mo
 subst Ay
 refine ret_of_run (e := [(0, _), (1, _), (2, _)]) Tryz.func69 rfl Tryz.ntmps69 rfl rfl (qN rfl (zqa rfl (qM rfl (zqm rfl (zqm rfl (qV (yslE U23 ti9 rfl rfl hi de) (qM rfl (zqm rfl (qV (yln U23 rfl) (zqa rfl (rEnd (run_seq (qN rfl ?_)))))))))))))
 refine zqm rfl (qV (yeq rfl rfl) (rFalse (by (first | exact fun h => h rfl | assumption | omega)) ?_))
 refine rEnd (run_false rfl (run_skip (qN rfl (zqm rfl (qV (yln U23 rfl) (zqa rfl (rEnd (run_seq (qN rfl (zqm rfl (zqm rfl (qV (yeq rfl rfl) (rEnd ?_)))))))))))))
 refine run_if rfl (fun cx => ?_) (fun cx => ?_)
 ·have dh : i = n := by omega
  subst dh; refine qN rfl (zqm rfl (zqm rfl (rValP rfl rfl (pap U23 ti9 rfl (by decide) rfl rfl hS hV.rd (by simpa using aa) (by omega) (by omega)) ?_))); rintro v' w1 ⟨eI, aC, dK, -⟩; refine zqa rfl (rEnd (run_ret Tryz.func69 rfl (⟨_, rfl, ?_, aC, dK⟩))); rw [List.take_of_length_le (by omega), List.drop_eq_nil_of_le (by omega)]; exact eI
 ·have dh : i < n := by omega
  obtain ⟨g, rfl⟩ : ∃ g, a = some ⟨g, 0, none⟩ := by
   rcases hS.shape with ⟨e, h0⟩ | ⟨g, cap, e, h⟩
   ·omega
   ·cases e; exact ⟨g, rfl⟩
  have mp : vb ≠ g := fun e => aT g rfl (by rw [e]; rfl); obtain ⟨cur, bJ, -, iJ, cG, di⟩ := hS.row; obtain ⟨vcur, mJ, uN, -, eQ, Az⟩ := hV.row; rw [Nat.mul_one] at cG di eQ Az; have k8 : ∀ j, j < n → cs[j]? = cur[j]? := fun j hj => by rw [← di, List.getElem?_take, if_pos hj]
  refine run_skip (run_seq (qN rfl (zqm rfl (zqm rfl (zqd rfl rfl (zqm rfl (qV (ycap U23 rfl) (qV (ygt rfl rfl) (rEnd (run_if rfl (fun hc => ?_) (fun hc => ?_)))))))))))
  ·have aV : Sl w (.slice (some ⟨g, 0, none⟩) i cap) 9 1 i (cs.take i) := by
    have := bJ.sl (n := i) (by omega) iJ (by rw [Nat.mul_one]; exact cG); rw [Nat.mul_one, show cur.take i = cs.take i by rw [← di, List.take_take, Nat.min_eq_left (by omega)]] at this; exact this
   refine qN rfl (zqm rfl (zqm rfl (qV (yslVt U23 ti9 rfl rfl (by omega)) (zqm rfl (zqm rfl (zqd rfl rfl (zqm rfl (qV (ysb rfl rfl (by omega)) (rValP rfl rfl (papZ (k := n + 1 - i) (hza := ⟨by omega⟩) U23 U3 ti9 rfl rfl rfl aV (by omega) (by omega) (by omega) (by omega)) ?_))))))))); rintro _ w1 ⟨b, c, rfl, aJ, iK, dL⟩; obtain ⟨cur3, ei, lC, lD, cY, dv⟩ := aJ.row; rw [Nat.mul_one] at cY dv; have e3 : i + (n + 1 - i) = n + 1 := by omega
   rw [e3] at lC dv aJ ⊢; have DC : b ≠ vb := fun e => by have := hV.lt (g := vb) rfl; omega
   have AA : b ≠ g := fun e => by have := hS.lt (g := g) rfl; omega
   refine zqa rfl (rEnd (Run.qb (e := [(0, _), (1, _), (2, _), (6, _), (7, _), (8, _), (9, _)]) ?_)); refine qN rfl (zqm rfl (zqm rfl (qV (yslVf U23 ti9 rfl rfl (by omega) (by omega)) (zqm rfl (rValP rfl rfl (pcpV U23 ti9 rfl rfl ei (by omega) (hV.rd.ext iK) (fun c hc => by have := List.mem_of_mem_take hc; simp at this; subst this; exact aa)) ?_))))); rintro _ w2 ⟨rfl, er, ax⟩; refine rEnd (run_seq ?_); have px : (splice cur3 (0 + i * 1) ([x].take (n + 1 - i))).length = c := by rw [splice_length _ _ _ (by simp; omega)]; exact cY
   refine run_draw (fun w' => Kp (fun k => k = b) w2 w') (by kernel_rfl) rfl (zqt 0 rfl (ymv rfl) ((Ext.drew0 w2).kp) (zqt 1 rfl (ymv rfl) ((Ext.drew0 w2).kp) (zqt 2 rfl (ymv rfl) ((Ext.drew0 w2).kp) (zqt 3 rfl (yad rfl rfl (by omega)) ((Ext.drew0 w2).kp) (zqt 5 rfl (ymv rfl) ((Ext.drew0 w2).kp) (zqt 6 rfl (ymv rfl) ((Ext.drew0 w2).kp) (zqt 4 rfl (yslVf U23 ti9 rfl rfl (by omega) (by omega)) ((Ext.drew0 w2).kp) (zqt 7 rfl (yslVf U23 ti9 rfl rfl (by omega) (by omega)) ((Ext.drew0 w2).kp) ?_)))))))); have fV := ((bJ.ext iK).kp ax (fun e => AA e.symm)).ext (Ext.drew0 w2); have k9 := er.ext (Ext.drew0 w2)
   have ke : (cur.drop (0 + i * 1)).take (n - i) = cs.drop i := by
    rw [← di, List.drop_take]; congr 2; omega
   have hR : Rd w2.drew (.slice (some ⟨g, 0 + i * 1, none⟩) (n - i) (cap - i)) 1 (n - i) (cs.drop i) := ke ▸ fV.rd (by omega); refine qO 8 (nValP (i := 8) rfl rfl rfl (pcpV U23 ti9 rfl rfl k9 (by rw [px]; omega) hR (fun c hc => ia c (List.mem_of_mem_drop (List.mem_of_mem_take hc)))) ?_); rintro _ w3 ⟨rfl, mK, aY⟩; refine ⟨(Ext.drew0 w2).kp.trans aY, ?_⟩; refine qE (qN rfl (zqm rfl (zqa rfl (rEnd (run_ret Tryz.func69 rfl ?_))))); have bK : Kp (fun k => k = b) w1 w3 := ax.trans ((Ext.drew0 w2).kp.trans aY); refine ⟨_, rfl, ?_, (iK.trans_new bK (fun k hk => by omega)).kp, fun g' aw => .inr (by cases aw; exact dL)⟩; have ao := mK.sl (n := n + 1) (cap := c) (by omega) lD (by rw [splice_length _ _ _ (by rw [px]; simp; omega), px, Nat.mul_one]); have e1 : [x].take (n + 1 - i) = [x] := List.take_of_length_le (by simp; omega); have e2 : (cs.drop i).take (n + 1 - (i + 1)) = cs.drop i := List.take_of_length_le (by simp; omega)
   have e4 : cur3.take i = cs.take i := by
    have := congrArg (List.take i) dv; rw [List.take_take, Nat.min_eq_left (by omega), List.take_append_of_le_length (by simp; omega), List.take_take, Nat.min_self] at this; exact this
   rw [e1, e2, Nat.mul_one, Nat.mul_one, Nat.zero_add, Nat.mul_one, Nat.zero_add, ins_list (by omega) aM (by omega) e4] at ao; exact ao
  ·have iL : n + 1 ≤ cap := by omega
   refine run_skip (qN rfl (zqm rfl (zqm rfl (zqm rfl (zqd rfl rfl (qV (yslVt U23 ti9 rfl rfl (by omega)) (zqa rfl (rEnd (Run.qb (e := [(0, _), (1, _), (2, _), (6, _), (7, _), (8, _)]) ?_))))))))); refine run_seq (qN rfl (zqm rfl (zqm rfl (zqm rfl (zqm rfl (zqd rfl rfl (qV (yslVf U23 ti9 rfl rfl (by omega) (by omega)) (qV (yov hovS U23 ti9 rfl rfl mp mJ bJ (by intro e; rw [e] at cG; simp at cG; omega)) ?_)))))))); refine qV ((by first | exact yntd rfl | exact ynt rfl)) ?_; refine rEnd (run_true rfl (run_seq (run_draw (fun w' => Kp (fun k => k = g) w w') (by kernel_rfl) rfl (zqt 0 rfl (ymv rfl) ((Ext.drew0 w).kp) (zqt 1 rfl (ymv rfl) ((Ext.drew0 w).kp) (zqt 2 rfl (ymv rfl) ((Ext.drew0 w).kp) (zqt 3 rfl (yad rfl rfl (by omega)) ((Ext.drew0 w).kp) (zqt 5 rfl (ymv rfl) ((Ext.drew0 w).kp) (zqt 6 rfl (ymv rfl) ((Ext.drew0 w).kp) (zqt 4 rfl (yslVf U23 ti9 rfl rfl (by omega) (by omega)) ((Ext.drew0 w).kp) (zqt 7 rfl (yslVf U23 ti9 rfl rfl (by omega) (by omega)) ((Ext.drew0 w).kp) ?_))))))))))); have h0 := Ext.drew0 w
   have ke : ((cur.drop (0 + i * 1)).take (n + 1 - i)).take (n + 1 - (i + 1)) = cs.drop i := by
    rw [List.take_take, ← di, List.drop_take, Nat.min_eq_left (by omega), show 0 + i * 1 = i by omega, show n + 1 - (i + 1) = n - i by omega]
   refine qO 8 (nValP (i := 8) rfl rfl rfl (pcpV U23 ti9 rfl rfl (bJ.ext h0) (by omega) ((bJ.ext h0).rd (i := 0 + i * 1) (n := n + 1 - i) (by omega)) (fun c hc => ia c (List.mem_of_mem_drop (ke ▸ hc)))) ?_); rintro _ w1 ⟨rfl, et, aC⟩; refine ⟨h0.kp.trans aC, ?_⟩; rw [ke] at et; have iM : (splice cur (0 + (i + 1) * 1) (cs.drop i)).length = cap := by rw [splice_length _ _ _ (by simp; omega)]; exact cG
   refine qE (qN rfl (zqm rfl (zqm rfl (qV (yslVf U23 ti9 rfl rfl (by omega) (by omega)) (zqm rfl (rValP rfl rfl (pcpV U23 ti9 rfl rfl et (by rw [iM]; omega) ((hV.rd.ext h0).kp aC (fun b hb e => by cases hb; exact mp e)) (fun c hc => by have := List.mem_of_mem_take hc; simp at this; subst this; exact aa)) ?_)))))); rintro _ w2 ⟨rfl, fW, am⟩; refine rEnd (Run.qb (e := [(0, _), (1, _), (2, _), (6, _), (7, _), (8, _)]) ?_); refine qN rfl (zqm rfl (zqa rfl (rEnd (run_ret Tryz.func69 rfl (⟨_, rfl, ?_, (h0.kp.trans aC).trans am |>.mono' (fun k hk => by subst hk; rfl), fun g' aw => .inl aw⟩))))); have ao := fW.sl (n := n + 1) (cap := cap) (by omega) iJ (by rw [splice_length _ _ _ (by rw [iM]; simp; omega), iM, Nat.mul_one]); have e1 : [x].take (n + 1 - i) = [x] := List.take_of_length_le (by simp; omega); rw [e1, Nat.mul_one, Nat.mul_one, Nat.zero_add, Nat.mul_one, Nat.zero_add, ins_list2 (by omega) aM (by omega) di] at ao; exact ao
theorem hovU : ExtG Tryz.prog 100 (Extern.SlicesOverlaps.overlaps #[82, 82] #[4]) := ⟨_, Tryz.func100, by kernel_rfl, by kernel_rfl, by kernel_rfl, by kernel_rfl⟩
set_option maxHeartbeats 1000000 in
theorem insU_ret {w : World} {sv vv x : Value} {cs : List Value} {i n : Nat} (hS : Sl w sv 89 1 n cs) (hV : Sl w vv 89 1 1 [x]) (aa : x.oneCell' = true) (ia : ∀ c ∈ cs, c.oneCell' = true) (hi : i ≤ n) (hn : n ≤ 100000000) (aT : ∀ b, sv.ownBlock = some b → vv.ownBlock ≠ some b) :
  Ret Tryz.prog 72 [sv, I (i : Int), vv] w fun v w' => Sl w' v 89 1 (n + 1) (cs.take i ++ x :: cs.drop i) ∧ Kp (fun k => sv.ownBlock = some k) w w' ∧ (∀ g, v.ownBlock = some g → sv.ownBlock = some g ∨ w.heap.size ≤ g) := by
 have eP : maxLen = 9223372036854775807 := rfl
 have aM := hS.len
 rw [Nat.mul_one] at aM
 obtain ⟨a, cap, mo, de⟩ : ∃ a cap, sv = .slice a n cap ∧ n ≤ cap := by
  rcases hS.shape with ⟨e, h0⟩ | ⟨g, cap, e, h⟩
  ·exact ⟨none, 0, by rw [e, h0], by omega⟩
  ·exact ⟨_, cap, e, h⟩
 obtain ⟨vb, vc, Ay⟩ : ∃ vb vc, vv = .slice (some ⟨vb, 0, none⟩) 1 vc := by
  rcases hV.shape with ⟨e, h0⟩ | ⟨g, cap, e, h⟩
  ·omega
  ·exact ⟨g, cap, e⟩
 subst mo
 subst Ay
 refine ret_of_run (e := [(0, _), (1, _), (2, _)]) Tryz.func72 rfl Tryz.ntmps72 rfl rfl (qN rfl (zqa rfl (qM rfl (zqm rfl (zqm rfl (qV (yslE U82 ti89 rfl rfl hi de) (qM rfl (zqm rfl (qV (yln U82 rfl) (zqa rfl (rEnd (run_seq (qN rfl ?_)))))))))))))
 refine zqm rfl (qV (yeq rfl rfl) (rFalse (by (first | exact fun h => h rfl | assumption | omega)) ?_))
 refine rEnd (run_false rfl (run_skip (qN rfl (zqm rfl (qV (yln U82 rfl) (zqa rfl (rEnd (run_seq (qN rfl (zqm rfl (zqm rfl (qV (yeq rfl rfl) (rEnd ?_)))))))))))))
 refine run_if rfl (fun cx => ?_) (fun cx => ?_)
 ·have dh : i = n := by omega
  subst dh; refine qN rfl (zqm rfl (zqm rfl (rValP rfl rfl (pap U82 ti89 rfl (by decide) rfl rfl hS hV.rd (by simpa using aa) (by omega) (by omega)) ?_))); rintro v' w1 ⟨eI, aC, dK, -⟩; refine zqa rfl (rEnd (run_ret Tryz.func72 rfl (⟨_, rfl, ?_, aC, dK⟩))); rw [List.take_of_length_le (by omega), List.drop_eq_nil_of_le (by omega)]; exact eI
 ·have dh : i < n := by omega
  obtain ⟨g, rfl⟩ : ∃ g, a = some ⟨g, 0, none⟩ := by
   rcases hS.shape with ⟨e, h0⟩ | ⟨g, cap, e, h⟩
   ·omega
   ·cases e; exact ⟨g, rfl⟩
  have mp : vb ≠ g := fun e => aT g rfl (by rw [e]; rfl); obtain ⟨cur, bJ, -, iJ, cG, di⟩ := hS.row; obtain ⟨vcur, mJ, uN, -, eQ, Az⟩ := hV.row; rw [Nat.mul_one] at cG di eQ Az; have k8 : ∀ j, j < n → cs[j]? = cur[j]? := fun j hj => by rw [← di, List.getElem?_take, if_pos hj]
  refine run_skip (run_seq (qN rfl (zqm rfl (zqm rfl (zqd rfl rfl (zqm rfl (qV (ycap U82 rfl) (qV (ygt rfl rfl) (rEnd (run_if rfl (fun hc => ?_) (fun hc => ?_)))))))))))
  ·have aV : Sl w (.slice (some ⟨g, 0, none⟩) i cap) 89 1 i (cs.take i) := by
    have := bJ.sl (n := i) (by omega) iJ (by rw [Nat.mul_one]; exact cG); rw [Nat.mul_one, show cur.take i = cs.take i by rw [← di, List.take_take, Nat.min_eq_left (by omega)]] at this; exact this
   refine qN rfl (zqm rfl (zqm rfl (qV (yslVt U82 ti89 rfl rfl (by omega)) (zqm rfl (zqm rfl (zqd rfl rfl (zqm rfl (qV (ysb rfl rfl (by omega)) (rValP rfl rfl (papZ (k := n + 1 - i) (hza := ⟨by omega⟩) U82 U3 ti89 rfl rfl rfl aV (by omega) (by omega) (by omega) (by omega)) ?_))))))))); rintro _ w1 ⟨b, c, rfl, aJ, iK, dL⟩; obtain ⟨cur3, ei, lC, lD, cY, dv⟩ := aJ.row; rw [Nat.mul_one] at cY dv; have e3 : i + (n + 1 - i) = n + 1 := by omega
   rw [e3] at lC dv aJ ⊢; have DC : b ≠ vb := fun e => by have := hV.lt (g := vb) rfl; omega
   have AA : b ≠ g := fun e => by have := hS.lt (g := g) rfl; omega
   refine zqa rfl (rEnd (Run.qb (e := [(0, _), (1, _), (2, _), (6, _), (7, _), (8, _), (9, _)]) ?_)); refine qN rfl (zqm rfl (zqm rfl (qV (yslVf U82 ti89 rfl rfl (by omega) (by omega)) (zqm rfl (rValP rfl rfl (pcpV U82 ti89 rfl rfl ei (by omega) (hV.rd.ext iK) (fun c hc => by have := List.mem_of_mem_take hc; simp at this; subst this; exact aa)) ?_))))); rintro _ w2 ⟨rfl, er, ax⟩; refine rEnd (run_seq ?_); have px : (splice cur3 (0 + i * 1) ([x].take (n + 1 - i))).length = c := by rw [splice_length _ _ _ (by simp; omega)]; exact cY
   refine run_draw (fun w' => Kp (fun k => k = b) w2 w') (by kernel_rfl) rfl (zqt 0 rfl (ymv rfl) ((Ext.drew0 w2).kp) (zqt 1 rfl (ymv rfl) ((Ext.drew0 w2).kp) (zqt 2 rfl (ymv rfl) ((Ext.drew0 w2).kp) (zqt 3 rfl (yad rfl rfl (by omega)) ((Ext.drew0 w2).kp) (zqt 5 rfl (ymv rfl) ((Ext.drew0 w2).kp) (zqt 6 rfl (ymv rfl) ((Ext.drew0 w2).kp) (zqt 4 rfl (yslVf U82 ti89 rfl rfl (by omega) (by omega)) ((Ext.drew0 w2).kp) (zqt 7 rfl (yslVf U82 ti89 rfl rfl (by omega) (by omega)) ((Ext.drew0 w2).kp) ?_)))))))); have fV := ((bJ.ext iK).kp ax (fun e => AA e.symm)).ext (Ext.drew0 w2); have k9 := er.ext (Ext.drew0 w2)
   have ke : (cur.drop (0 + i * 1)).take (n - i) = cs.drop i := by
    rw [← di, List.drop_take]; congr 2; omega
   have hR : Rd w2.drew (.slice (some ⟨g, 0 + i * 1, none⟩) (n - i) (cap - i)) 1 (n - i) (cs.drop i) := ke ▸ fV.rd (by omega); refine qO 8 (nValP (i := 8) rfl rfl rfl (pcpV U82 ti89 rfl rfl k9 (by rw [px]; omega) hR (fun c hc => ia c (List.mem_of_mem_drop (List.mem_of_mem_take hc)))) ?_); rintro _ w3 ⟨rfl, mK, aY⟩; refine ⟨(Ext.drew0 w2).kp.trans aY, ?_⟩; refine qE (qN rfl (zqm rfl (zqa rfl (rEnd (run_ret Tryz.func72 rfl ?_))))); have bK : Kp (fun k => k = b) w1 w3 := ax.trans ((Ext.drew0 w2).kp.trans aY); refine ⟨_, rfl, ?_, (iK.trans_new bK (fun k hk => by omega)).kp, fun g' aw => .inr (by cases aw; exact dL)⟩; have ao := mK.sl (n := n + 1) (cap := c) (by omega) lD (by rw [splice_length _ _ _ (by rw [px]; simp; omega), px, Nat.mul_one]); have e1 : [x].take (n + 1 - i) = [x] := List.take_of_length_le (by simp; omega); have e2 : (cs.drop i).take (n + 1 - (i + 1)) = cs.drop i := List.take_of_length_le (by simp; omega)
   have e4 : cur3.take i = cs.take i := by
    have := congrArg (List.take i) dv; rw [List.take_take, Nat.min_eq_left (by omega), List.take_append_of_le_length (by simp; omega), List.take_take, Nat.min_self] at this; exact this
   rw [e1, e2, Nat.mul_one, Nat.mul_one, Nat.zero_add, Nat.mul_one, Nat.zero_add, ins_list (by omega) aM (by omega) e4] at ao; exact ao
  ·have iL : n + 1 ≤ cap := by omega
   refine run_skip (qN rfl (zqm rfl (zqm rfl (zqm rfl (zqd rfl rfl (qV (yslVt U82 ti89 rfl rfl (by omega)) (zqa rfl (rEnd (Run.qb (e := [(0, _), (1, _), (2, _), (6, _), (7, _), (8, _)]) ?_))))))))); refine run_seq (qN rfl (zqm rfl (zqm rfl (zqm rfl (zqm rfl (zqd rfl rfl (qV (yslVf U82 ti89 rfl rfl (by omega) (by omega)) (qV (yov hovU U82 ti89 rfl rfl mp mJ bJ (by intro e; rw [e] at cG; simp at cG; omega)) ?_)))))))); refine qV ((by first | exact yntd rfl | exact ynt rfl)) ?_; refine rEnd (run_true rfl (run_seq (run_draw (fun w' => Kp (fun k => k = g) w w') (by kernel_rfl) rfl (zqt 0 rfl (ymv rfl) ((Ext.drew0 w).kp) (zqt 1 rfl (ymv rfl) ((Ext.drew0 w).kp) (zqt 2 rfl (ymv rfl) ((Ext.drew0 w).kp) (zqt 3 rfl (yad rfl rfl (by omega)) ((Ext.drew0 w).kp) (zqt 5 rfl (ymv rfl) ((Ext.drew0 w).kp) (zqt 6 rfl (ymv rfl) ((Ext.drew0 w).kp) (zqt 4 rfl (yslVf U82 ti89 rfl rfl (by omega) (by omega)) ((Ext.drew0 w).kp) (zqt 7 rfl (yslVf U82 ti89 rfl rfl (by omega) (by omega)) ((Ext.drew0 w).kp) ?_))))))))))); have h0 := Ext.drew0 w
   have ke : ((cur.drop (0 + i * 1)).take (n + 1 - i)).take (n + 1 - (i + 1)) = cs.drop i := by
    rw [List.take_take, ← di, List.drop_take, Nat.min_eq_left (by omega), show 0 + i * 1 = i by omega, show n + 1 - (i + 1) = n - i by omega]
   refine qO 8 (nValP (i := 8) rfl rfl rfl (pcpV U82 ti89 rfl rfl (bJ.ext h0) (by omega) ((bJ.ext h0).rd (i := 0 + i * 1) (n := n + 1 - i) (by omega)) (fun c hc => ia c (List.mem_of_mem_drop (ke ▸ hc)))) ?_); rintro _ w1 ⟨rfl, et, aC⟩; refine ⟨h0.kp.trans aC, ?_⟩; rw [ke] at et; have iM : (splice cur (0 + (i + 1) * 1) (cs.drop i)).length = cap := by rw [splice_length _ _ _ (by simp; omega)]; exact cG
   refine qE (qN rfl (zqm rfl (zqm rfl (qV (yslVf U82 ti89 rfl rfl (by omega) (by omega)) (zqm rfl (rValP rfl rfl (pcpV U82 ti89 rfl rfl et (by rw [iM]; omega) ((hV.rd.ext h0).kp aC (fun b hb e => by cases hb; exact mp e)) (fun c hc => by have := List.mem_of_mem_take hc; simp at this; subst this; exact aa)) ?_)))))); rintro _ w2 ⟨rfl, fW, am⟩; refine rEnd (Run.qb (e := [(0, _), (1, _), (2, _), (6, _), (7, _), (8, _)]) ?_); refine qN rfl (zqm rfl (zqa rfl (rEnd (run_ret Tryz.func72 rfl (⟨_, rfl, ?_, (h0.kp.trans aC).trans am |>.mono' (fun k hk => by subst hk; rfl), fun g' aw => .inl aw⟩))))); have ao := fW.sl (n := n + 1) (cap := cap) (by omega) iJ (by rw [splice_length _ _ _ (by rw [iM]; simp; omega), iM, Nat.mul_one]); have e1 : [x].take (n + 1 - i) = [x] := List.take_of_length_le (by simp; omega); rw [e1, Nat.mul_one, Nat.mul_one, Nat.zero_add, Nat.mul_one, Nat.zero_add, ins_list2 (by omega) aM (by omega) di] at ao; exact ao
set_option maxHeartbeats 1000000 in
theorem delS_ret {w : World} {sv : Value} {cs : List Value} {i n : Nat} (hS : Sl w sv 9 1 n cs) (ia : ∀ c ∈ cs, c.oneCell' = true) (hi : i < n) (hn : n ≤ 100000000) :
  Ret Tryz.prog 45 [sv, I (i : Int), I ((i : Int) + 1)] w fun v w' => Sl w' v 9 1 (n - 1) (cs.take i ++ cs.drop (i + 1)) ∧ Kp (fun k => sv.ownBlock = some k) w w' ∧ (∀ g, v.ownBlock = some g → sv.ownBlock = some g) := by
 have eP : maxLen = 9223372036854775807 := rfl
 have aM := hS.len
 rw [Nat.mul_one] at aM
 obtain ⟨g, cap, rfl, de⟩ : ∃ g cap, sv = .slice (some ⟨g, 0, none⟩) n cap ∧ n ≤ cap := by
  rcases hS.shape with ⟨e, h0⟩ | ⟨g, cap, e, h⟩
  ·omega
  ·exact ⟨g, cap, e, h⟩
 obtain ⟨cur, bJ, -, iJ, cG, di⟩ := hS.row
 rw [Nat.mul_one] at cG di
 rw [show (i : Int) + 1 = ((i + 1 : Nat) : Int) by omega]
 refine ret_of_run (e := [(0, _), (1, _), (2, _)]) Tryz.func45 rfl Tryz.ntmps45 rfl rfl (qN rfl (zqa rfl (qM rfl (zqm rfl (zqm rfl (zqm rfl (zqm rfl (qV (yln U23 rfl) (qV (yslK U23 ti9 rfl rfl rfl rfl ⟨by omega, by omega, de⟩) ?_)))))))))
 refine rEnd (run_seq (qN rfl (zqm rfl (zqm rfl (qV (yeq rfl rfl) (rFalse (by (first | exact fun h => h rfl | assumption | omega)) ?_))))))
 refine rEnd (run_false rfl (run_skip (qN rfl (zqm rfl (qV (yln U23 rfl) (zqa rfl (rEnd (run_seq (run_draw (fun w' => Kp (fun k => k = g) w w') (by kernel_rfl) rfl ?_)))))))))
 have h0 := Ext.drew0 w
 refine zqt 0 rfl (ymv rfl) ((Ext.drew0 w).kp) (zqt 1 rfl (ymv rfl) ((Ext.drew0 w).kp) (zqt 3 rfl (ymv rfl) ((Ext.drew0 w).kp) (zqt 4 rfl (ymv rfl) ((Ext.drew0 w).kp) (zqt 2 rfl (yslVt U23 ti9 rfl rfl (by omega)) ((Ext.drew0 w).kp) (zqt 5 rfl (yslE U23 ti9 rfl rfl (by omega) de) ((Ext.drew0 w).kp) ?_)))))
 have aV : Sl w (.slice (some ⟨g, 0, none⟩) i cap) 9 1 i (cs.take i) := by
  have := bJ.sl (n := i) (by omega) iJ (by rw [Nat.mul_one]; exact cG); rw [Nat.mul_one, show cur.take i = cs.take i by rw [← di, List.take_take, Nat.min_eq_left (by omega)]] at this; exact this
 have ke : (cur.drop (i + 1)).take (n - (i + 1)) = cs.drop (i + 1) := by
  rw [← di, List.drop_take]
 have hR : Rd w.drew (.slice (if cap = i + 1 then some ⟨g, 0, none⟩ else (some (⟨g, 0, none⟩ : Addr)).map (·.add ((i + 1) * 1))) (n - (i + 1)) (cap - (i + 1))) 1 (n - (i + 1)) (cs.drop (i + 1)) := by
  by_cases hc : cap = i + 1
  ·rw [if_pos hc, show n - (i + 1) = 0 by omega, List.drop_eq_nil_of_le (by omega)]; exact rd_empty
  ·rw [if_neg hc, Option.map_some, add_off, Nat.zero_add, Nat.mul_one, ← ke]; exact (bJ.ext h0).rd (by omega)
 refine qO 6 (nValP (i := 6) rfl rfl rfl (papF U23 ti9 (by decide) rfl rfl (aV.ext h0) hR (fun c hc => ia c (List.mem_of_mem_drop hc)) (by omega)) ?_)
 rintro _ w1 ⟨rfl, aJ, ak⟩
 refine ⟨h0.kp.trans ak, ?_⟩
 have e1 : i + (n - (i + 1)) = n - 1 := by omega
 rw [e1] at aJ ⊢
 obtain ⟨cur3, ei, lC, lD, cY, dv⟩ := aJ.row
 rw [Nat.mul_one] at cY dv
 refine zqt 7 rfl (yas rfl) (h0.kp.trans ak) (qE (qN rfl (zqm rfl (zqm rfl (qV (yln U23 rfl) (zqm rfl (qV (yslV U23 ti9 rfl rfl rfl (by omega) (by omega)) (rValP0 rfl (pclr U23 ti9 rfl rfl ei (by omega)) ?_))))))))
 rintro _ w2 ⟨er, ax⟩
 refine rEnd (Run.qb (e := [(0, _), (6, _)]) ?_)
 refine qN rfl (zqm rfl (zqa rfl (rEnd (run_ret Tryz.func45 rfl ?_))))
 have ao := er.sl (n := n - 1) (cap := cap) (by omega) iJ (by rw [splice_length _ _ _ (by simp; omega), cY, Nat.mul_one])
 rw [Nat.mul_one, take_of_splice _ _ _ _ (by omega) (by omega), dv] at ao
 exact ⟨_, rfl, ao, ((h0.kp.trans ak).trans ax).mono' (fun k hk => by subst hk; rfl), fun g' aw => aw⟩
set_option maxHeartbeats 1000000 in
theorem delU_ret {w : World} {sv : Value} {cs : List Value} {i n : Nat} (hS : Sl w sv 89 1 n cs) (ia : ∀ c ∈ cs, c.oneCell' = true) (hi : i < n) (hn : n ≤ 100000000) :
  Ret Tryz.prog 157 [sv, I (i : Int), I ((i : Int) + 1)] w fun v w' => Sl w' v 89 1 (n - 1) (cs.take i ++ cs.drop (i + 1)) ∧ Kp (fun k => sv.ownBlock = some k) w w' ∧ (∀ g, v.ownBlock = some g → sv.ownBlock = some g) := by
 have eP : maxLen = 9223372036854775807 := rfl
 have aM := hS.len
 rw [Nat.mul_one] at aM
 obtain ⟨g, cap, rfl, de⟩ : ∃ g cap, sv = .slice (some ⟨g, 0, none⟩) n cap ∧ n ≤ cap := by
  rcases hS.shape with ⟨e, h0⟩ | ⟨g, cap, e, h⟩
  ·omega
  ·exact ⟨g, cap, e, h⟩
 obtain ⟨cur, bJ, -, iJ, cG, di⟩ := hS.row
 rw [Nat.mul_one] at cG di
 rw [show (i : Int) + 1 = ((i + 1 : Nat) : Int) by omega]
 refine ret_of_run (e := [(0, _), (1, _), (2, _)]) Tryz.func157 rfl Tryz.ntmps157 rfl rfl (qN rfl (zqa rfl (qM rfl (zqm rfl (zqm rfl (zqm rfl (zqm rfl (qV (yln U82 rfl) (qV (yslK U82 ti89 rfl rfl rfl rfl ⟨by omega, by omega, de⟩) ?_)))))))))
 refine rEnd (run_seq (qN rfl (zqm rfl (zqm rfl (qV (yeq rfl rfl) (rFalse (by (first | exact fun h => h rfl | assumption | omega)) ?_))))))
 refine rEnd (run_false rfl (run_skip (qN rfl (zqm rfl (qV (yln U82 rfl) (zqa rfl (rEnd (run_seq (run_draw (fun w' => Kp (fun k => k = g) w w') (by kernel_rfl) rfl ?_)))))))))
 have h0 := Ext.drew0 w
 refine zqt 0 rfl (ymv rfl) ((Ext.drew0 w).kp) (zqt 1 rfl (ymv rfl) ((Ext.drew0 w).kp) (zqt 3 rfl (ymv rfl) ((Ext.drew0 w).kp) (zqt 4 rfl (ymv rfl) ((Ext.drew0 w).kp) (zqt 2 rfl (yslVt U82 ti89 rfl rfl (by omega)) ((Ext.drew0 w).kp) (zqt 5 rfl (yslE U82 ti89 rfl rfl (by omega) de) ((Ext.drew0 w).kp) ?_)))))
 have aV : Sl w (.slice (some ⟨g, 0, none⟩) i cap) 89 1 i (cs.take i) := by
  have := bJ.sl (n := i) (by omega) iJ (by rw [Nat.mul_one]; exact cG); rw [Nat.mul_one, show cur.take i = cs.take i by rw [← di, List.take_take, Nat.min_eq_left (by omega)]] at this; exact this
 have ke : (cur.drop (i + 1)).take (n - (i + 1)) = cs.drop (i + 1) := by
  rw [← di, List.drop_take]
 have hR : Rd w.drew (.slice (if cap = i + 1 then some ⟨g, 0, none⟩ else (some (⟨g, 0, none⟩ : Addr)).map (·.add ((i + 1) * 1))) (n - (i + 1)) (cap - (i + 1))) 1 (n - (i + 1)) (cs.drop (i + 1)) := by
  by_cases hc : cap = i + 1
  ·rw [if_pos hc, show n - (i + 1) = 0 by omega, List.drop_eq_nil_of_le (by omega)]; exact rd_empty
  ·rw [if_neg hc, Option.map_some, add_off, Nat.zero_add, Nat.mul_one, ← ke]; exact (bJ.ext h0).rd (by omega)
 refine qO 6 (nValP (i := 6) rfl rfl rfl (papF U82 ti89 (by decide) rfl rfl (aV.ext h0) hR (fun c hc => ia c (List.mem_of_mem_drop hc)) (by omega)) ?_)
 rintro _ w1 ⟨rfl, aJ, ak⟩
 refine ⟨h0.kp.trans ak, ?_⟩
 have e1 : i + (n - (i + 1)) = n - 1 := by omega
 rw [e1] at aJ ⊢
 obtain ⟨cur3, ei, lC, lD, cY, dv⟩ := aJ.row
 rw [Nat.mul_one] at cY dv
 refine zqt 7 rfl (yas rfl) (h0.kp.trans ak) (qE (qN rfl (zqm rfl (zqm rfl (qV (yln U82 rfl) (zqm rfl (qV (yslV U82 ti89 rfl rfl rfl (by omega) (by omega)) (rValP0 rfl (pclr U82 ti89 rfl rfl ei (by omega)) ?_))))))))
 rintro _ w2 ⟨er, ax⟩
 refine rEnd (Run.qb (e := [(0, _), (6, _)]) ?_)
 refine qN rfl (zqm rfl (zqa rfl (rEnd (run_ret Tryz.func157 rfl ?_))))
 have ao := er.sl (n := n - 1) (cap := cap) (by omega) iJ (by rw [splice_length _ _ _ (by simp; omega), cY, Nat.mul_one])
 rw [Nat.mul_one, take_of_splice _ _ _ _ (by omega) (by omega), dv] at ao
 exact ⟨_, rfl, ao, ((h0.kp.trans ak).trans ax).mono' (fun k hk => by subst hk; rfl), fun g' aw => aw⟩
set_option maxHeartbeats 1000000 in
theorem delI_ret {w : World} {sv : Value} {cs : List Value} {i n : Nat} (hS : Sl w sv 3 1 n cs) (ia : ∀ c ∈ cs, c.oneCell' = true) (hi : i < n) (hn : n ≤ 8589934592) :
  Ret Tryz.prog 94 [sv, I (i : Int), I ((i : Int) + 1)] w fun v w' => Sl w' v 3 1 (n - 1) (cs.take i ++ cs.drop (i + 1)) ∧ Kp (fun k => sv.ownBlock = some k) w w' ∧ (∀ g, v.ownBlock = some g → sv.ownBlock = some g) := by
 have eP : maxLen = 9223372036854775807 := rfl
 have aM := hS.len
 rw [Nat.mul_one] at aM
 obtain ⟨g, cap, rfl, de⟩ : ∃ g cap, sv = .slice (some ⟨g, 0, none⟩) n cap ∧ n ≤ cap := by
  rcases hS.shape with ⟨e, h0⟩ | ⟨g, cap, e, h⟩
  ·omega
  ·exact ⟨g, cap, e, h⟩
 obtain ⟨cur, bJ, -, iJ, cG, di⟩ := hS.row
 rw [Nat.mul_one] at cG di
 rw [show (i : Int) + 1 = ((i + 1 : Nat) : Int) by omega]
 refine ret_of_run (e := [(0, _), (1, _), (2, _)]) Tryz.func94 rfl Tryz.ntmps94 rfl rfl (qN rfl (zqa rfl (qM rfl (zqm rfl (zqm rfl (zqm rfl (zqm rfl (qV (yln U34 rfl) (qV (yslK U34 ti3 rfl rfl rfl rfl ⟨by omega, by omega, de⟩) ?_)))))))))
 refine rEnd (run_seq (qN rfl (zqm rfl (zqm rfl (qV (yeq rfl rfl) (rFalse (by (first | exact fun h => h rfl | assumption | omega)) ?_))))))
 refine rEnd (run_false rfl (run_skip (qN rfl (zqm rfl (qV (yln U34 rfl) (zqa rfl (rEnd (run_seq (run_draw (fun w' => Kp (fun k => k = g) w w') (by kernel_rfl) rfl ?_)))))))))
 have h0 := Ext.drew0 w
 refine zqt 0 rfl (ymv rfl) ((Ext.drew0 w).kp) (zqt 1 rfl (ymv rfl) ((Ext.drew0 w).kp) (zqt 3 rfl (ymv rfl) ((Ext.drew0 w).kp) (zqt 4 rfl (ymv rfl) ((Ext.drew0 w).kp) (zqt 2 rfl (yslVt U34 ti3 rfl rfl (by omega)) ((Ext.drew0 w).kp) (zqt 5 rfl (yslE U34 ti3 rfl rfl (by omega) de) ((Ext.drew0 w).kp) ?_)))))
 have aV : Sl w (.slice (some ⟨g, 0, none⟩) i cap) 3 1 i (cs.take i) := by
  have := bJ.sl (n := i) (by omega) iJ (by rw [Nat.mul_one]; exact cG); rw [Nat.mul_one, show cur.take i = cs.take i by rw [← di, List.take_take, Nat.min_eq_left (by omega)]] at this; exact this
 have ke : (cur.drop (i + 1)).take (n - (i + 1)) = cs.drop (i + 1) := by
  rw [← di, List.drop_take]
 have hR : Rd w.drew (.slice (if cap = i + 1 then some ⟨g, 0, none⟩ else (some (⟨g, 0, none⟩ : Addr)).map (·.add ((i + 1) * 1))) (n - (i + 1)) (cap - (i + 1))) 1 (n - (i + 1)) (cs.drop (i + 1)) := by
  by_cases hc : cap = i + 1
  ·rw [if_pos hc, show n - (i + 1) = 0 by omega, List.drop_eq_nil_of_le (by omega)]; exact rd_empty
  ·rw [if_neg hc, Option.map_some, add_off, Nat.zero_add, Nat.mul_one, ← ke]; exact (bJ.ext h0).rd (by omega)
 refine qO 6 (nValP (i := 6) rfl rfl rfl (papF U34 ti3 (by decide) rfl rfl (aV.ext h0) hR (fun c hc => ia c (List.mem_of_mem_drop hc)) (by omega)) ?_)
 rintro _ w1 ⟨rfl, aJ, ak⟩
 refine ⟨h0.kp.trans ak, ?_⟩
 have e1 : i + (n - (i + 1)) = n - 1 := by omega
 rw [e1] at aJ ⊢
 obtain ⟨cur3, ei, lC, lD, cY, dv⟩ := aJ.row
 rw [Nat.mul_one] at cY dv
 refine zqt 7 rfl (yas rfl) (h0.kp.trans ak) (qE (qN rfl (zqm rfl (zqm rfl (qV (yln U34 rfl) (zqm rfl (qV (yslV U34 ti3 rfl rfl rfl (by omega) (by omega)) (rValP0 rfl (pclr U34 ti3 rfl rfl ei (by omega)) ?_))))))))
 rintro _ w2 ⟨er, ax⟩
 refine rEnd (Run.qb (e := [(0, _), (6, _)]) ?_)
 refine qN rfl (zqm rfl (zqa rfl (rEnd (run_ret Tryz.func94 rfl ?_))))
 have ao := er.sl (n := n - 1) (cap := cap) (by omega) iJ (by rw [splice_length _ _ _ (by simp; omega), cY, Nat.mul_one])
 rw [Nat.mul_one, take_of_splice _ _ _ _ (by omega) (by omega), dv] at ao
 exact ⟨_, rfl, ao, ((h0.kp.trans ak).trans ax).mono' (fun k hk => by subst hk; rfl), fun g' aw => aw⟩

structure Nd where
 leaf : Bool
 keys : List Bytes
 vals : List Bytes
 kids : List Nat
def sumL (l : List Bytes) (k : Nat) : Nat := (l.map fun s => s.length + k).sum
@[simp] theorem sumL_nil (k : Nat) : sumL [] k = 0 := rfl
theorem sumL_cons (s : Bytes) (l : List Bytes) (k : Nat) : sumL (s :: l) k = s.length + k + sumL l k := by simp [sumL]
theorem sumL_app (a b : List Bytes) (k : Nat) : sumL (a ++ b) k = sumL a k + sumL b k := by simp [sumL]
theorem sumL_le {l : List Bytes} {k m : Nat} (h : ∀ s ∈ l, s.length ≤ m) : sumL l k ≤ l.length * (m + k) := by
 induction l with
 | nil => simp
 | cons s r ih =>
   rw [sumL_cons, List.length_cons, Nat.succ_mul]; have := h s (List.mem_cons_self ..); have := ih (fun s hs => h s (List.mem_cons_of_mem _ hs)); omega
def Nd.bytes (n : Nd) : Nat := 3 + if n.leaf then sumL n.keys 3 + sumL n.vals 0 else sumL n.keys 1 + 4 * n.kids.length
structure Nd.Bd (n : Nd) : Prop where
 kl : n.keys.length ≤ 100000
 vl : n.vals.length ≤ 100000
 cl : n.kids.length ≤ 100000
 ks : ∀ k ∈ n.keys, k.length ≤ 100000
 vs : ∀ v ∈ n.vals, v.length ≤ 100000
 cs : ∀ c ∈ n.kids, c < 4294967296
theorem Nd.Bd.bytes {n : Nd} (h : n.Bd) : n.bytes ≤ 30000000000 := by
 have h1 := sumL_le (k := 3) h.ks
 have h2 := sumL_le (k := 0) h.vs
 have h3 := sumL_le (k := 1) h.ks
 have e1 : n.keys.length * (100000 + 3) ≤ 100000 * (100000 + 3) := Nat.mul_le_mul_right _ h.kl
 have e2 : n.vals.length * (100000 + 0) ≤ 100000 * (100000 + 0) := Nat.mul_le_mul_right _ h.vl
 have e3 : n.keys.length * (100000 + 1) ≤ 100000 * (100000 + 1) := Nat.mul_le_mul_right _ h.kl
 have := h.cl
 unfold Nd.bytes
 split <;> omega
def sizeOk (z : Int) : Prop := 512 ≤ z ∧ z ≤ 4096 ∧ z % 512 = 0
instance (z : Int) : Decidable (sizeOk z) := by unfold sizeOk; infer_instance
abbrev mostE (size : Nat) : Nat := (size - 3) / 4
abbrev orderE (size : Nat) : Nat := 1 + (size - 7) / 69
def keysOk (l : List Bytes) : Prop := (∀ k ∈ l, 1 ≤ k.length ∧ k.length ≤ 64) ∧ Rise l
instance (l : List Bytes) : Decidable (keysOk l) := by unfold keysOk; infer_instance
def leafOk (n : Nd) (most : Nat) : Prop := n.vals.length = n.keys.length ∧ n.kids = [] ∧ ∀ x ∈ n.keys.zip n.vals, x.2.length ≤ 4095 ∧ 3 + x.1.length + x.2.length ≤ most
instance (n : Nd) (most : Nat) : Decidable (leafOk n most) := by unfold leafOk; infer_instance
def innerOk (n : Nd) (order : Nat) : Prop := n.vals = [] ∧ n.kids.length = n.keys.length + 1 ∧ n.kids.length ≤ order ∧ ∀ c ∈ n.kids, c ≠ 0
instance (n : Nd) (order : Nat) : Decidable (innerOk n order) := by unfold innerOk; infer_instance
def NdOk (size : Nat) (n : Nd) : Prop := keysOk n.keys ∧ n.bytes ≤ size ∧ if n.leaf then leafOk n (mostE size) else innerOk n (orderE size)
instance (size : Nat) (n : Nd) : Decidable (NdOk size n) := by unfold NdOk; infer_instance
def Nd.low (size : Nat) (n : Nd) : Prop := if n.leaf then 4 * (n.bytes - 3) < size - 3 else n.kids.length < (orderE size + 1) / 2
instance (size : Nat) (n : Nd) : Decidable (n.low size) := by unfold Nd.low; infer_instance

theorem rise_take_succ {l : List Bytes} {i : Nat} {k : Bytes} (h : Rise (l.take i)) (hk : l[i]? = some k) (hp : i = 0 ∨ ∃ p, l[i - 1]? = some p ∧ lt p k = true) : Rise (l.take (i + 1)) := by
 have hi : i < l.length := by
  rcases Nat.lt_or_ge i l.length with h' | h'
  ·exact h'
  ·rw [List.getElem?_eq_none h'] at hk; cases hk
 have e : l[i] = k := by rw [List.getElem?_eq_getElem hi] at hk; exact oinj hk
 rw [List.take_succ_eq_append_getElem hi, e]
 refine List.pairwise_append.2 ⟨h, by simp, fun a ha b hb => ?_⟩
 simp at hb
 subst hb
 rcases hp with h0 | ⟨p, hp, DD⟩
 ·subst h0; simp at ha
 ·obtain ⟨j, hj, ej⟩ := List.getElem_of_mem ha; have iD : j < i := by simp at hj; omega
  rcases Nat.lt_or_ge j (i - 1) with h' | h'
  ·refine lt_trans ?_ DD; refine h.get h' (a := a) (b := p) (by rw [List.getElem?_eq_getElem hj, ej]) ?_; rw [List.getElem?_take, if_pos (by omega)]; exact hp
  ·have : j = i - 1 := by omega
   subst this
   have : a = p := by
    rw [← ej]; simp; rw [List.getElem?_eq_getElem (by omega)] at hp; exact oinj hp
   rw [this]; exact DD

def u32v (n : Nat) : Value := .int .u32 (n : Int)
def ndv (n : Nd) (kv vv cv : Value) : Value := .agg #[.bool n.leaf, kv, vv, cv]
structure NdR (w : World) (n : Nd) (kv vv cv : Value) : Prop where
 keys : Rd w kv 1 n.keys.length (n.keys.map S)
 vals : Rd w vv 1 n.vals.length (n.vals.map S)
 kids : Rd w cv 1 n.kids.length (n.kids.map u32v)
theorem NdR.ext {w w' : World} {n : Nd} {kv vv cv : Value} (h : NdR w n kv vv cv) (k : Ext w w') : NdR w' n kv vv cv := ⟨h.keys.ext k, h.vals.ext k, h.kids.ext k⟩
theorem rd_str {w : World} {b off n cap : Nat} {l : List Bytes} {i : Nat} {s : Bytes} (h : Rd w (.slice (some ⟨b, off, none⟩) n cap) 1 n (l.map S)) (hi : i < n) (hz : l[i]? = some s) : w.cell? ⟨b, off + i * 1, none⟩ = some (S s) := by
 rcases h.2 with ⟨c, -, h0⟩ | ⟨b', off', cap', hv, hc⟩
 ·omega
 ·cases hv; rw [Nat.mul_one]; exact hc i _ (by rw [List.getElem?_map, hz]; rfl)
theorem rd_gets {w : World} {a : Option Addr} {cap : Nat} {l : List Bytes} {i : Nat} (h : Rd w (.slice a l.length cap) 1 l.length (l.map S)) (hi : i < l.length) : ∃ b off s, a = some ⟨b, off, none⟩ ∧ l[i]? = some s := by
 rcases h.2 with ⟨c, -, h0⟩ | ⟨b', off', cap', hv, hc⟩
 ·omega
 ·cases hv; exact ⟨b', off', _, rfl, List.getElem?_eq_getElem hi⟩
theorem rd_u32 {w : World} {b off n cap : Nat} {l : List Nat} {i : Nat} {s : Nat} (h : Rd w (.slice (some ⟨b, off, none⟩) n cap) 1 n (l.map u32v)) (hi : i < n) (hz : l[i]? = some s) : w.cell? ⟨b, off + i * 1, none⟩ = some (u32v s) := by
 rcases h.2 with ⟨c, -, h0⟩ | ⟨b', off', cap', hv, hc⟩
 ·omega
 ·cases hv; rw [Nat.mul_one]; exact hc i _ (by rw [List.getElem?_map, hz]; rfl)
theorem rd_getu {w : World} {a : Option Addr} {cap : Nat} {l : List Nat} {i : Nat} (h : Rd w (.slice a l.length cap) 1 l.length (l.map u32v)) (hi : i < l.length) : ∃ b off s, a = some ⟨b, off, none⟩ ∧ l[i]? = some s := by
 rcases h.2 with ⟨c, -, h0⟩ | ⟨b', off', cap', hv, hc⟩
 ·omega
 ·cases hv; exact ⟨b', off', _, rfl, List.getElem?_eq_getElem hi⟩

theorem size_ret (z : Int) (w : World) : Ret Tryz.prog 64 [I z] w fun v w' => v = I (if sizeOk z then 0 else 1) ∧ w' = w := by
 refine ret_of_run (e := [(0, _)]) Tryz.func64 rfl Tryz.ntmps64 rfl rfl (qN rfl (zqa rfl (rEnd (run_seq (qN rfl (zqm rfl (qV (ylt rfl rfl) (rVal_if (fun h1 => ?_) (fun h1 => ?_)))))))))
 ·refine zqm rfl (qS (qS (qV (ypT rfl rfl) (zqm rfl (qS (qS (qS (qV (ypT rfl rfl) (rEnd (run_true rfl (qN rfl (zqa rfl (rEnd ?_))))))))))))); refine run_ret Tryz.func64 rfl ?_; exact ⟨_, rfl, by rw [if_neg (fun h => by unfold sizeOk at h; omega)]; rfl, rfl⟩
 ·refine zqm rfl (zqm rfl (qV (ygt rfl rfl) (qV (ypF rfl rfl) (zqm rfl (rVal_if (fun h2 => ?_) (fun h2 => ?_))))))
  ·refine qS (qS (qS (qV (ypT rfl rfl) (rEnd (run_true rfl (qN rfl (zqa rfl (rEnd (run_ret Tryz.func64 rfl ?_))))))))); exact ⟨_, rfl, by rw [if_neg (fun h => by unfold sizeOk at h; omega)]; rfl, rfl⟩
  ·refine zqm rfl (qV (yre rfl rfl (by omega)) (qV (ygt rfl rfl) (qV (ypF rfl rfl) (rEnd (run_if rfl (fun h3 => ?_) (fun h3 => ?_))))))
   ·refine qN rfl (zqa rfl (rEnd (run_ret Tryz.func64 rfl ?_))); exact ⟨_, rfl, by rw [if_neg (fun h => by unfold sizeOk at h; omega)]; rfl, rfl⟩
   ·refine run_skip (qN rfl (zqa rfl (rEnd (run_ret Tryz.func64 rfl ?_)))); exact ⟨_, rfl, by rw [if_pos (by unfold sizeOk; omega)]; rfl, rfl⟩
theorem key_ret (s : Bytes) (w : World) : Ret Tryz.prog 66 [S s] w fun v w' => v = .bool (decide (1 ≤ s.length ∧ s.length ≤ 64)) ∧ w' = w := by
 refine ret_of_run (e := [(0, _)]) Tryz.func66 rfl Tryz.ntmps66 rfl rfl (qN rfl (zqa rfl (qM rfl (zqm rfl (qV (yneS rfl rfl) (rVal_if (fun h1 => ?_) (fun h1 => ?_)))))))
 ·refine zqm rfl (zqm rfl (qV (ylnS U9 rfl) (qV (yle rfl rfl) (qV (ypT rfl rfl) (zqa rfl (rEnd (run_ret Tryz.func66 rfl (⟨_, rfl, ?_, rfl⟩)))))))); have : 1 ≤ s.length := List.length_pos_iff.2 h1; simp [resVal, this]; omega
 ·refine zqm rfl (qS (qS (qS (qV (ypF rfl rfl) (zqa rfl (rEnd (run_ret Tryz.func66 rfl ?_))))))); have : s = [] := by simpa using h1
  subst this; exact ⟨_, rfl, by simp [resVal], rfl⟩
theorem bytesF_ret (lv : Value) (l : List Bytes) (k m : Nat) (kz : Int) (pz : kz = (k : Int)) (b : Nat) (w : World) (hR : Rd w lv 1 l.length (l.map S)) (hl : l.length ≤ 100000) (hs : ∀ s ∈ l, s.length ≤ 100000) (hk : k ≤ 100000) (hm : m ≤ 1000000000000) (hB : Blk w b [I (m : Int)] 3) (aT : 0 < l.length → ∀ i, lv.ownBlock = some i → i ≠ b) :
  Ret Tryz.prog 97 [lv, I kz, ptr b 0] w fun v w' => Blk w' b [I ((m + sumL l k : Nat) : Int)] 3 ∧ Kp (fun i => i = b) w w' := by
 subst pz
 obtain ⟨a, cap, rfl, -⟩ := hR.shape
 refine ret_of_run (e := [(0, _), (1, _), (2, _)]) Tryz.func97 rfl Tryz.ntmps97 rfl rfl (qN rfl (zqm rfl (qV (yln U23 rfl) (zqm rfl (rEnd (run_block (zqu (α := Nat) (0) (fun i => [(1, I (k : Int)), (2, ptr b 0), (7, .slice a l.length cap), (8, I (l.length : Int)), (9, I (i : Int))]) (fun i w' => i ≤ l.length ∧ Blk w' b [I ((m + sumL (l.take i) k : Nat) : Int)] 3 ∧ Kp (fun i => i = b) w w') (fun i => l.length - i) ?hI ?hround)))))))
 case hI => exact ⟨Nat.zero_le _, by simpa using hB, Kp.refl _ _⟩
 case hround =>
  rintro i wi ⟨hi, uO, kZ⟩ ih
  try dsimp only
  refine qN rfl (qV (ylt rfl rfl) (rEnd (run_seq (run_if rfl (fun ah => ?_) (fun ah => ?_)))))
  ·have af : i < l.length := by omega
   have su := hR.kp kZ (fun g hg e => aT (by omega) g hg e); obtain ⟨lb, lo, s, rfl, cn⟩ := rd_gets su af; have l9 := hs s (List.mem_of_getElem? cn); have e : l[i] = s := by rw [List.getElem?_eq_getElem af] at cn; exact oinj cn
   have zI : l.take (i + 1) = l.take i ++ [s] := by rw [List.take_succ_eq_append_getElem af, e]
   have kf := sumL_le (l := l.take i) (k := k) (m := 100000) (fun s dD => hs s (List.mem_of_mem_take dD)); have DE : (l.take i).length * (100000 + k) ≤ 100000 * (100000 + 100000) := Nat.mul_le_mul (by simp; omega) (by omega); refine run_skip (run_seq (run_block (qN rfl (qV (yis U23 ti9 rfl rfl (by omega)) (qV (yldc U9 rfl rfl (rd_str su af cn)) (zqa rfl (rEnd (run_reg rfl (qV (yld U3 rfl rfl uO rfl) (zqm rfl (qV (ylnS U9 rfl) (zqm rfl (zqd rfl rfl ?_))))))))))))); refine zqd rfl rfl (rEffP rfl (zst ti3 rfl rfl rfl uO (by simp)) ?_); rintro w2 ⟨ay, am⟩; refine rEnd (run_inBlock (run_reg rfl (zqd rfl rfl (zqm rfl (rEnd ?_))))); have e2 : (((m + sumL (l.take i) k : Nat) : Int) + ((s.length : Int) + (k : Int))) = ((m + sumL (l.take (i + 1)) k : Nat) : Int) := by rw [zI, sumL_app, sumL_cons, sumL_nil]; omega
   rw [e2] at ay; exact (ih (i + 1) w2 ⟨af, ay, kZ.trans am⟩ (by omega)).qb
  ·have zJ : i = l.length := by omega
   subst zJ; rw [List.take_length] at uO; refine run_exit rfl (run_end Tryz.func97 rfl ?_); exact ⟨_, rfl, uO, kZ⟩
theorem most_ret (z : Int) (w : World) : Ret Tryz.prog 34 [I z] w fun v w' => v = .tuple #[I (if sizeOk z then ((mostE z.toNat : Nat) : Int) else 0), I (if sizeOk z then 0 else 1)] ∧ w' = w := by
 refine ret_of_run (e := [(0, _)]) Tryz.func34 rfl Tryz.ntmps34 rfl rfl (qN rfl (zqa rfl (zqa rfl (rEnd (run_seq (qN rfl (zqm rfl (zqc [.tmp 5] cf64 rfl (size_ret z _) ?_))))))))
 rintro _ w ⟨rfl, rfl⟩
 by_cases h : sizeOk z
 ·rw [if_pos h, if_pos h]; unfold sizeOk at h; refine zqa rfl (qM rfl (zqm rfl (qV (yne rfl rfl) (rFalse (by (first | exact fun h => h rfl | assumption | omega)) ?_)))); refine rEnd (run_false rfl (run_skip (qN rfl (zqm rfl (qV (ysb rfl rfl (by omega)) (qV (yqu rfl rfl (by omega)) (zqa rfl (zqa rfl (rEnd (run_ret Tryz.func34 rfl (⟨_, rfl, ?_, rfl⟩))))))))))); have : (z - 3) / 4 = (((z.toNat - 3) / 4 : Nat) : Int) := by omega
  rw [this]; rfl
 ·rw [if_neg h, if_neg h]; refine zqa rfl (qM rfl (zqm rfl (qV (yne rfl rfl) (rTrue (by (first | rfl | assumption | omega | decide)) ?_)))); refine rEnd (run_true rfl (qN rfl (zqm rfl (zqa rfl (zqa rfl (rEnd (run_ret Tryz.func34 rfl ?_))))))); exact ⟨_, rfl, rfl, rfl⟩
theorem order_ret (z : Int) (w : World) : Ret Tryz.prog 35 [I z] w fun v w' => v = .tuple #[I (if sizeOk z then ((orderE z.toNat : Nat) : Int) else 0), I (if sizeOk z then 0 else 1)] ∧ w' = w := by
 refine ret_of_run (e := [(0, _)]) Tryz.func35 rfl Tryz.ntmps35 rfl rfl (qN rfl (zqa rfl (zqa rfl (rEnd (run_seq (qN rfl (zqm rfl (zqc [.tmp 5] cf64 rfl (size_ret z _) ?_))))))))
 rintro _ w ⟨rfl, rfl⟩
 by_cases h : sizeOk z
 ·rw [if_pos h, if_pos h]; unfold sizeOk at h; refine zqa rfl (qM rfl (zqm rfl (qV (yne rfl rfl) (rFalse (by (first | exact fun h => h rfl | assumption | omega)) ?_)))); refine rEnd (run_false rfl (run_skip (qN rfl (zqm rfl (qV (ysb rfl rfl (by omega)) (qV (ysb rfl rfl (by omega)) (qV (yqu rfl rfl (by omega)) (zqd rfl rfl (zqa rfl (zqa rfl (rEnd (run_ret Tryz.func35 rfl (⟨_, rfl, ?_, rfl⟩))))))))))))); have : 1 + (z - 3 - 4) / 69 = ((1 + (z.toNat - 7) / 69 : Nat) : Int) := by omega
  rw [this]; rfl
 ·rw [if_neg h, if_neg h]; refine zqa rfl (qM rfl (zqm rfl (qV (yne rfl rfl) (rTrue (by (first | rfl | assumption | omega | decide)) ?_)))); refine rEnd (run_true rfl (qN rfl (zqm rfl (zqa rfl (zqa rfl (rEnd (run_ret Tryz.func35 rfl ?_))))))); exact ⟨_, rfl, rfl, rfl⟩
theorem bytes_ret (n : Nd) (kv vv cv : Value) (w : World) (hR : NdR w n kv vv cv) (hb : n.Bd) : Ret Tryz.prog 70 [ndv n kv vv cv] w fun v w' => v = I (n.bytes : Int) ∧ Ext w w' := by
 have pA := hb.bytes
 have cG := hb.cl
 have DF := sumL_le (k := 3) hb.ks
 have DG := sumL_le (k := 0) hb.vs
 have DH := sumL_le (k := 1) hb.ks
 have e1 : n.keys.length * (100000 + 3) ≤ 100000 * (100000 + 3) := Nat.mul_le_mul_right _ hb.kl
 have e2 : n.vals.length * (100000 + 0) ≤ 100000 * (100000 + 0) := Nat.mul_le_mul_right _ hb.vl
 have e3 : n.keys.length * (100000 + 1) ≤ 100000 * (100000 + 1) := Nat.mul_le_mul_right _ hb.kl
 obtain ⟨ka, kc, rfl, -⟩ := hR.keys.shape
 obtain ⟨va, vc, rfl, -⟩ := hR.vals.shape
 obtain ⟨ca, cc, rfl, -⟩ := hR.kids.shape
 unfold ndv
 refine ret_of_run (e := [(0, _)]) Tryz.func70 rfl Tryz.ntmps70 rfl rfl (qN rfl (rValP rfl rfl (pbx rfl rfl) ?_))
 rintro _ w1 ⟨b1, rfl, dL, aa, aj⟩
 refine zqa rfl (qM rfl (rValP rfl rfl (pal (cs := [_]) ti3 rfl) ?_))
 rintro _ w2 ⟨b3, rfl, zK, ad, aN⟩
 have kg := aa.size
 have dD := ad.size
 refine rEffP rfl (zst ti3 rfl rfl rfl aN (by simp)) ?_
 rintro w3 ⟨gA, ak⟩
 replace gA : Blk w3 b3 [I ((3 : Nat) : Int)] 3 := gA
 have ai : Ext w w3 := (aa.trans ad).trans_new ak (fun i hi => by omega)
 have cq := ak.blk (ad.blk aj) (by have := aj.lt; omega)
 have AB := hR.ext ai
 have cy : ∀ {v : Value} {m : Nat} {cs : List Value}, Rd w v 1 m cs → 0 < m → ∀ i, v.ownBlock = some i → i ≠ b3 := fun h h0 i hi => by have := h.ltz (by omega) h0 hi; omega
 refine qM rfl (qV (ymf (first := []) (caps := [.tmp 3]) rfl rfl) (zqa rfl (rEnd (run_seq (qN rfl (qV (yfa fl84_0 rfl) (qV ((by first | exact yld U4 rfl rfl cq rfl | exact yld U4 rfl rfl gA rfl)) ?_)))))))
 refine rEnd ?_
 cases gB : n.leaf with
 | true =>
   rw [gB] at cq; refine run_true rfl (qN rfl (zqm rfl (qV (yfa fl84_1 rfl) (qV ((by first | exact yld U23 rfl rfl cq rfl | exact yld U23 rfl rfl gA rfl)) ?_)))); refine rCall rfl rfl (ycv' (args := [.tmp 10, .const (Value.int .i64 3)]) cf97 rfl rfl) (bytesF_ret (.slice ka n.keys.length kc) n.keys 3 3 3 rfl b3 w3 AB.keys hb.kl hb.ks (by omega) (by omega) gA (cy hR.keys)) ?_; rintro _ w4 ⟨bs, ax⟩; have gC := ax.blk cq (by have := aj.lt; omega); refine qM rfl (zqm rfl (qV (yfa fl84_2 rfl) (qV ((by first | exact yld U23 rfl rfl gC rfl | exact yld U23 rfl rfl bs rfl)) ?_))); refine rCall rfl rfl (ycv' (args := [.tmp 14, .const (Value.int .i64 0)]) cf97 rfl rfl) (bytesF_ret (.slice va n.vals.length vc) n.vals 0 (3 + sumL n.keys 3) 0 rfl b3 w4 (AB.vals.kpz ax (cy hR.vals)) hb.vl hb.vs (by omega) (by omega) bs (cy hR.vals)) ?_; rintro _ w5 ⟨bu, aY⟩; refine qM rfl (qV (yld U3 rfl rfl bu rfl) (zqa rfl (rEnd (run_ret Tryz.func70 rfl (⟨_, rfl, ?_, (ai.trans_new ax (fun i hi => by omega)).trans_new aY (fun i hi => by omega)⟩))))); simp only [resVal, Nd.bytes, gB, if_true]
   congr 2; omega
 | false =>
   rw [gB] at cq; refine run_false rfl (run_skip (qN rfl (zqm rfl (qV (yfa fl84_1 rfl) (qV ((by first | exact yld U23 rfl rfl cq rfl | exact yld U23 rfl rfl gA rfl)) ?_))))); refine rCall rfl rfl (ycv' (args := [.tmp 19, .const (Value.int .i64 1)]) cf97 rfl rfl) (bytesF_ret (.slice ka n.keys.length kc) n.keys 1 3 1 rfl b3 w3 AB.keys hb.kl hb.ks (by omega) (by omega) gA (cy hR.keys)) ?_; rintro _ w4 ⟨bs, ax⟩; have gC := ax.blk cq (by have := aj.lt; omega); refine qM rfl (qV ((by first | exact yld U3 rfl rfl gC rfl | exact yld U3 rfl rfl bs rfl)) ?_); refine qV (yfa fl84_3 rfl) (qV ((by first | exact yld U82 rfl rfl gC rfl | exact yld U82 rfl rfl bs rfl)) ?_); refine qV (yln U82 rfl) (qV (yml rfl rfl (by omega)) (zqd rfl rfl (zqa rfl (rEnd (run_ret Tryz.func70 rfl (⟨_, rfl, ?_, ai.trans_new ax (fun i hi => by omega)⟩)))))); simp only [resVal, Nd.bytes, gB, Bool.false_eq_true, if_false]
   congr 2; omega
end Go.Proofs.YtocnhaoilnojmaaGreat
namespace Go.Proofs.YtocnhaoilnojmaaGreat
open Go Go.RowKit
open Go.ChangeMaps (setBlock)
set_option linter.all false

def MapB {κ : Type} (K : κ → Value) (w : World) (m : Nat) (kv : List (κ × Value)) : Prop := (∃ es clock, w.heap[m]? = some (.map es clock) ∧ Ents K es.toList kv ∧ (∀ e ∈ es.toList, e.born < clock) ∧ (es.toList.map (·.born)).Nodup) ∧ (kv.map (·.1)).Nodup
section
variable {κ : Type} [DecidableEq κ] {K : κ → Value}
theorem MapB.l {w : World} {m : Nat} {kv : List (κ × Value)} (h : MapB K w m kv) : MapL K w m kv := by
 obtain ⟨⟨es, c, h1, h2, -, -⟩, h3⟩ := h
 exact ⟨⟨es, c, h1, h2⟩, h3⟩
theorem MapB.lt {w : World} {m : Nat} {kv : List (κ × Value)} (h : MapB K w m kv) : m < w.heap.size := h.l.lt
theorem MapB.nd {w : World} {m : Nat} {kv : List (κ × Value)} (h : MapB K w m kv) : (kv.map (·.1)).Nodup := h.2
theorem MapB.kp {S : Nat → Prop} {w w' : World} {m : Nat} {kv : List (κ × Value)} (h : MapB K w m kv) (k : Kp S w w') (hn : ¬ S m) : MapB K w' m kv := by
 obtain ⟨⟨es, c, h, he⟩, hd⟩ := h
 exact ⟨⟨es, c, k.heap h hn, he⟩, hd⟩
theorem MapB.ext {w w' : World} {m : Nat} {kv : List (κ × Value)} (h : MapB K w m kv) (k : Ext w w') : MapB K w' m kv := h.kp k id
theorem MapB.new {w : World} {m : Nat} (h : w.heap[m]? = some (.map #[] 0)) : MapB K w m [] := ⟨⟨#[], 0, h, rfl, by simp, by simp⟩, by simp⟩

def delL : List (κ × Value) → κ → List (κ × Value)
 | [], _ => []
 | (a, v) :: r, k => if k = a then r else (a, v) :: delL r k
theorem delL_sub : ∀ (kv : List (κ × Value)) (k : κ), (delL kv k).Sublist kv
 | [], _ => .slnil
 | (a, v) :: r, k => by
   simp only [delL]; split
   ·exact List.sublist_cons_self _ _
   ·exact (delL_sub r k).cons_cons _
theorem getL_none {kv : List (κ × Value)} {k : κ} (h : k ∉ kv.map (·.1)) : getL kv k = none := by
 induction kv with
 | nil => rfl
 | cons p r ih =>
   obtain ⟨a, u⟩ := p; simp only [List.map_cons, List.mem_cons, not_or] at h; simp only [getL, h.1, if_false]; exact ih h.2
theorem getL_del {kv : List (κ × Value)} (hn : (kv.map (·.1)).Nodup) (k x : κ) : getL (delL kv k) x = if x = k then none else getL kv x := by
 induction kv with
 | nil => simp [delL, getL]
 | cons p r ih =>
   obtain ⟨a, u⟩ := p; simp only [List.map_cons, List.nodup_cons] at hn; simp only [delL]; by_cases h : k = a
   ·subst h; simp only [if_true, getL]; by_cases hx : x = k
    ·subst hx; simp [getL_none hn.1]
    ·simp [hx]
   ·simp only [h, if_false, getL, ih hn.2]; by_cases hx : x = a
    ·subst hx; simp [Ne.symm h]
    ·simp [hx]
theorem getL_mem {kv : List (κ × Value)} {k : κ} {v : Value} (h : getL kv k = some v) : (k, v) ∈ kv := by
 induction kv with
 | nil => cases h
 | cons p r ih =>
   obtain ⟨a, u⟩ := p; simp only [getL] at h; split at h
   ·rename_i e; subst e; cases h; exact List.mem_cons_self ..
   ·exact List.mem_cons_of_mem _ (ih h)
theorem getL_of_mem {kv : List (κ × Value)} (hn : (kv.map (·.1)).Nodup) {k : κ} {v : Value} (h : (k, v) ∈ kv) : getL kv k = some v := by
 induction kv with
 | nil => cases h
 | cons p r ih =>
   obtain ⟨a, u⟩ := p; simp only [List.map_cons, List.nodup_cons] at hn; rcases List.mem_cons.1 h with e | h
   ·cases e; simp [getL]
   ·have : k ≠ a := fun e => hn.1 (List.mem_map.2 ⟨(k, v), h, e⟩); simp only [getL, this, if_false]; exact ih hn.2 h
theorem findNow_del {td : TypeDesc} (hs : ∀ a b, Instr.sameNow td (K a) (K b) = some (decide (a = b))) : ∀ {es : List MapEntry} {kv : List (κ × Value)} (i : Nat) {k : κ} {v : Value}, Ents K es kv → getL kv k = some v →
  ∃ j, Instr.findNow td (K k) es i = some (some (i + j, v)) ∧ j < es.length ∧ Ents K (es.eraseIdx j) (delL kv k)
 | e :: es, (a, v') :: kv, i, k, v, h, hg => by
   simp only [Ents, List.map_cons, List.cons.injEq, Prod.mk.injEq] at h; simp only [getL] at hg; split at hg
   ·rename_i he
    subst he; cases hg; refine ⟨0, by simp [Instr.findNow, h.1.1, hs, h.1.2], by simp, ?_⟩; simp only [List.eraseIdx_zero, List.tail_cons, delL, if_true]; exact h.2
   ·rename_i aT
    obtain ⟨j, h1, h2, h3⟩ := findNow_del hs (i + 1) h.2 hg; refine ⟨j + 1, ?_, by simp; omega, ?_⟩
    ·simp only [Instr.findNow, h.1.1, hs, aT, decide_false, h1]
     congr 3; omega
    ·simp only [delL, aT, if_false, List.eraseIdx_cons_succ, Ents, List.map_cons, List.cons.injEq, Prod.mk.injEq]
     exact ⟨h.1, h3⟩
 | [], [], _, _, _, _, hg => by simp [getL] at hg
 | [], _ :: _, _, _, _, h, _ => by simp [Ents] at h
 | _ :: _, [], _, _, _, h, _ => by simp [Ents] at h

variable {P : Program} {e : Env} {d : Option Nat} {ty t kt el : TypeId} {pos : String} {aft : Array Edge} {g : Option (Nat × Bool)} {x y u : Operand} {w : World} {m : Nat} {kv : List (κ × Value)} {z : Value} {size bytes : Nat} {k : κ} {v : Value}
theorem ylenM (ht : P.underlying t = some (.map kt el)) (hx : look e x = some (.map (some m))) (hm : MapL K w m kv) : Y P e ⟨d, .call ⟨.builtin .len, #[x], #[t]⟩, ty, pos, aft, g⟩ (I (kv.length : Int)) w w := fun ρ hρ => by
 obtain ⟨⟨es, c, hh, he⟩, -⟩ := hm
 have hl : es.size = kv.length := by
  have := congrArg List.length he
  simpa using this
 have hg : (getObj m).run P w = .ok (.map es c) w := by simp [getObj, Sem.run, hh]
 simp [execOp, resolve, invoke, builtin, hρ _ _ hx, Builtin.len_, run_underlying ht, hg, goInt, hl, go_sem, Result.andThen]
theorem zmuB (ht : P.underlying t = some (.map kt el)) (hK : Ky P kt K) (hx : look e x = some (.map (some m))) (hy : look e y = some (K k)) (hu : look e u = some v) (hm : MapB K w m kv) :
  Zp P e ⟨d, .mapUpdate t x y u, ty, pos, aft, g⟩ w fun w' => MapB K w' m (putL kv k v) ∧ Kp (fun i => i = m) w w' := by
 have ah := hm.lt
 obtain ⟨⟨es, c, hh, he, dL, cz⟩, hd⟩ := hm
 have qX := fun b => hK.same.choose_spec.2.2 w b 9999 k
 have hg : (getObj m).run P w = .ok (.map es c) w := by simp [getObj, Sem.run, hh]
 have fy : ∀ o, (setObj m o).run P w = .ok () (w.putObj m o) := fun o => by simp [setObj, Sem.run, hh, World.putObj]
 cases eJ : getL kv k with
 | none =>
   have hf := findKey_none (P := P) (w := w) hK he eJ; refine ⟨w.putObj m (.map (es.push { key := K k, val := v, born := c }) (c + 1)), fun ρ hρ => ?_, ⟨⟨_, _, World.putObj_heap_same ah, ?_, ?_, ?_⟩, ?_⟩, kp_putObj w m _⟩
   ·simp [execOp, hρ _ _ hx, hρ _ _ hy, hρ _ _ hu, Instr.mapUpdate, run_underlying ht, hg, qX, hf, fy]
   ·rw [putL_new _ _ _ eJ]
    simpa [Ents] using he
   ·intro x hx; simp at hx; rcases hx with hx | rfl
    ·have := dL x (by simpa using hx); omega
    ·simp
   ·simp only [Array.toList_push, List.map_append, List.map_cons, List.map_nil]; refine List.nodup_append.2 ⟨cz, by simp, fun a ha b hb dY => ?_⟩; simp at hb; subst hb; subst dY; obtain ⟨x, hx, AC⟩ := List.mem_map.1 ha; have := dL x hx; omega
   ·rw [putL_new _ _ _ eJ, List.map_append, List.nodup_append]; refine ⟨hd, by simp, fun a ha b hb dY => ?_⟩; simp at hb; subst hb; subst dY
    exact getL_notin eJ ha
 | some v0 =>
   obtain ⟨j, hf, ⟨ej, sw, fX⟩, hJ⟩ := findKey_some (P := P) (w := w) hK he eJ
   have lE : (es.modify j fun e => { e with key := K k, val := v }).toList.map (·.born) = es.toList.map (·.born) := by
    apply List.ext_getElem?; intro i; simp only [Array.toList_modify, List.getElem?_map, List.getElem?_modify]; by_cases lA : j = i
    ·subst lA; simp; cases es[j]? <;> rfl
    ·simp [lA]
   refine ⟨w.putObj m (.map (es.modify j fun e => { e with key := K k, val := v }) c), fun ρ hρ => ?_, ⟨⟨_, _, World.putObj_heap_same ah, hJ v, ?_, ?_⟩, ?_⟩, kp_putObj w m _⟩
   ·simp [execOp, hρ _ _ hx, hρ _ _ hy, hρ _ _ hu, Instr.mapUpdate, run_underlying ht, hg, qX, hf, fy, sw, fX, Instr.keyThatStays, hK.bits]
   ·intro x hx; have : x.born ∈ es.toList.map (·.born) := by rw [← lE]; exact List.mem_map.2 ⟨x, hx, rfl⟩
    obtain ⟨y, hy, vz⟩ := List.mem_map.1 this; rw [← vz]; exact dL y hy
   ·rw [lE]; exact cz
   ·rw [putL_keys _ _ _ (by rw [eJ]; rfl)]; exact hd
theorem pdel (ht : P.underlying t = some (.map kt el)) (hK : Ky P kt K) (hx : look e x = some (.map (some m))) (hy : look e y = some (K k)) (hm : MapB K w m kv) {ts : Array TypeId} (uP : ts[0]? = some t) :
  Yp P e ⟨d, .call ⟨.builtin .delete, #[x, y], ts⟩, ty, pos, aft, g⟩ w fun v' w' => MapB K w' m (delL kv k) ∧ Kp (fun i => i = m) w w' := by
 have ah := hm.lt
 obtain ⟨⟨es, c, hh, he, dL, cz⟩, hd⟩ := hm
 obtain ⟨⟨td, hu, hs, AD⟩, -⟩ := hK
 have qX := fun b => AD w b 9999 k
 have hg : (getObj m).run P w = .ok (.map es c) w := by simp [getObj, Sem.run, hh]
 have fy : ∀ o, (setObj m o).run P w = .ok () (w.putObj m o) := fun o => by simp [setObj, Sem.run, hh, World.putObj]
 have bE := (delL_sub kv k).map (·.1)
 cases eJ : getL kv k with
 | none =>
   have hf : (Instr.findKey kt (K k) es.toList).run P w = .ok none w := by simp [Instr.findKey, run_underlying hu, findNow_none hs 0 he eJ]
   have mq : delL kv k = kv := by
    clear he hh hd bE
    induction kv with
    | nil => rfl
    | cons p r ih =>
      obtain ⟨a, u⟩ := p; simp only [getL] at eJ; split at eJ
      ·cases eJ
      ·rename_i aT; simp only [delL, aT, if_false, ih eJ]
   refine ⟨.tuple #[], w.putObj m (.map es c), fun ρ hρ => ?_, ⟨⟨es, c, World.putObj_heap_same ah, by rw [mq]; exact he, dL, cz⟩, by rw [mq]; exact hd⟩, kp_putObj w m _⟩
   simp [execOp, resolve, invoke, builtin, hρ _ _ hx, hρ _ _ hy, Builtin.delete_, uP, run_underlying ht, hg, qX, hf, fy, Result.andThen]
 | some v0 =>
   obtain ⟨j, vA, hj, hJ⟩ := findNow_del hs 0 he eJ
   have hf : (Instr.findKey kt (K k) es.toList).run P w = .ok (some (j, v0)) w := by
    rw [Nat.zero_add] at vA; simp [Instr.findKey, run_underlying hu, vA]
   have fP : (es.eraseIdxIfInBounds j).toList = es.toList.eraseIdx j := by
    simp at hj; simp [Array.eraseIdxIfInBounds, hj]
   refine ⟨.tuple #[], w.putObj m (.map (es.eraseIdxIfInBounds j) c), fun ρ hρ => ?_, ⟨⟨_, c, World.putObj_heap_same ah, by rw [fP]; exact hJ, ?_, ?_⟩, bE.nodup hd⟩, kp_putObj w m _⟩
   ·simp [execOp, resolve, invoke, builtin, hρ _ _ hx, hρ _ _ hy, Builtin.delete_, uP, run_underlying ht, hg, qX, hf, fy, Result.andThen]
   ·rw [fP]; exact fun x hx => dL x ((List.eraseIdx_sublist _ _).subset hx)
   ·rw [fP]; exact ((List.eraseIdx_sublist _ _).map _).nodup cz
theorem pclrM (ht : P.underlying t = some (.map kt el)) (hx : look e x = some (.map (some m))) (hm : MapB K w m kv) :
  Yp P e ⟨d, .call ⟨.builtin .clear, #[x], #[t]⟩, ty, pos, aft, g⟩ w fun v' w' => MapB K w' m [] ∧ Kp (fun i => i = m) w w' := by
 have ah := hm.lt
 obtain ⟨⟨es, c, hh, he, dL, cz⟩, hd⟩ := hm
 have hg : (getObj m).run P w = .ok (.map es c) w := by simp [getObj, Sem.run, hh]
 have fy : ∀ o, (setObj m o).run P w = .ok () (w.putObj m o) := fun o => by simp [setObj, Sem.run, hh, World.putObj]
 refine ⟨.tuple #[], w.putObj m (.map #[] c), fun ρ hρ => ?_, ⟨⟨#[], c, World.putObj_heap_same ah, rfl, by simp, by simp⟩, by simp⟩, kp_putObj w m _⟩
 simp [execOp, resolve, invoke, builtin, hρ _ _ hx, Builtin.clear_, run_underlying ht, hg, fy, Result.andThen]

def RgI (K : κ → Value) (w : World) (r m : Nat) (left : List (κ × Value)) : Prop := ∃ (es : Array MapEntry) (clock : Nat) (seen : Array Nat) (c0 since : Nat), w.heap[m]? = some (.map es clock) ∧ w.heap[r]? = some (.mapIter (some m) since seen c0) ∧ since ≤ c0 ∧ (∀ e ∈ es.toList, e.born < since) ∧ since ≤ clock ∧ (es.toList.map (·.born)).Nodup ∧ Ents K (leftOf es seen).toList left
def RgE (K : κ → Value) (w : World) (r m : Nat) (p : κ × Value) (left : List (κ × Value)) : Prop := RgI K w r m left ∧ ∃ (es : Array MapEntry) (clock : Nat) (seen : Array Nat) (since : Nat) (e : MapEntry), w.heap[m]? = some (.map es clock) ∧ w.heap[r]? = some (.mapIter (some m) since (seen.push e.born) clock) ∧ e ∈ es.toList ∧ (es.toList.map (·.born)).Nodup ∧ e.key = K p.1 ∧ e.val = p.2
theorem RgI.kp {S : Nat → Prop} {w w' : World} {r m : Nat} {left : List (κ × Value)} (h : RgI K w r m left) (k : Kp S w w') (h1 : ¬ S r) (h2 : ¬ S m) : RgI K w' r m left := by
 obtain ⟨es, clock, seen, c0, since, a, b, c⟩ := h
 exact ⟨es, clock, seen, c0, since, k.heap a h2, k.heap b h1, c⟩
theorem RgE.kp {S : Nat → Prop} {w w' : World} {r m : Nat} {p : κ × Value} {left : List (κ × Value)} (h : RgE K w r m p left) (k : Kp S w w') (h1 : ¬ S r) (h2 : ¬ S m) : RgE K w' r m p left := by
 obtain ⟨hi, es, clock, seen, since, e, a, b, c⟩ := h
 exact ⟨hi.kp k h1 h2, es, clock, seen, since, e, k.heap a h2, k.heap b h1, c⟩
theorem prg (ht : P.underlying t = some (.map kt el)) (hx : look e x = some (.map (some m))) (hm : MapB K w m kv) :
  Yp P e ⟨d, .range t x, ty, pos, aft, g⟩ w fun v w' => ∃ r, v = ptr r 0 ∧ w.heap.size ≤ r ∧ Ext w w' ∧ RgI K w' r m kv := by
 have ah := hm.lt
 obtain ⟨⟨es, c, hh, he, dL, cz⟩, hd⟩ := hm
 have k := ext_alloc w (.mapIter (some m) c #[] c)
 refine ⟨ptr w.heap.size 0, _, fun ρ hρ => ?_, w.heap.size, rfl, Nat.le_refl _, k, es, c, #[], c, c, k.heap hh id, heap_new w _, Nat.le_refl _, dL, Nat.le_refl _, cz, ?_⟩
 ·have hg : (getObj m).run P w = .ok (.map es c) w := by simp [getObj, Sem.run, hh]
  simp [execOp, hρ _ _ hx, Instr.range, run_underlying ht, hg, newObj, Sem.run, Result.andThen]
 ·have : leftOf es #[] = es := by simp [leftOf]
  rw [this]; exact he
theorem ynx {r : Nat} {left : List (κ × Value)} (hx : look e x = some (ptr r 0)) (hi : RgI K w r m left) :
  (left = [] ∧ Y P e ⟨d, .next x false, ty, pos, aft, g⟩ (.tuple #[.bool false]) w w) ∨
  ∃ p l1 l2 w', left = l1 ++ p :: l2 ∧ Y P e ⟨d, .next x false, ty, pos, aft, g⟩ (.tuple #[.bool true, K p.1, p.2]) w w' ∧ RgE K w' r m p (l1 ++ l2) ∧ Kp (fun i => i = r) w w' := by
 obtain ⟨es, clock, seen, c0, since, hm, hr, Fh, hb, cG, hn, he⟩ := hi
 rcases run_next_at (P := P) w ty r m since c0 seen es clock hr hm hb Fh with ⟨hz, sx⟩ | ⟨ent, vB, w1, vC, sx⟩
 ·left
  have hl : (leftOf es seen).toList = [] := by
   have : (leftOf es seen).toList.length = 0 := by simpa using hz
   exact List.eq_nil_of_length_eq_zero this
  rw [hl] at he
  have dr : left = [] := by
   have := congrArg List.length he; simp at this; exact List.eq_nil_of_length_eq_zero this.symm
  exact ⟨dr, fun ρ hρ => by simp [execOp, hρ _ _ hx, sx]⟩
 ·right
  obtain ⟨L1, L2, hL⟩ := List.append_of_mem vB; rw [hL] at he; simp only [Ents, List.map_append, List.map_cons] at he; obtain ⟨l1, rest, rfl, e1, e2⟩ := List.map_eq_append_iff.1 he.symm; obtain ⟨p, l2, rfl, e3, e4⟩ := List.map_eq_cons_iff.1 e2
  have fX : ent.key = K p.1 ∧ ent.val = p.2 := by
   have := Prod.mk.inj e3; exact ⟨this.1.symm, this.2.symm⟩
  have DI : Kp (fun i => i = r) w (setBlock w1 r (.mapIter (some m) since (seen.push ent.born) clock)) := by
   have hs : ∀ w2 : World, setBlock w2 r (.mapIter (some m) since (seen.push ent.born) clock) = w2.putObj r (.mapIter (some m) since (seen.push ent.born) clock) := fun _ => rfl; rw [hs]; rcases vC with rfl | rfl
   ·exact kp_putObj _ _ _
   ·exact (Ext.drew0 w).kp.trans (kp_putObj _ _ _)
  have mL : r < w1.heap.size := by rcases vC with rfl | rfl <;> exact lt_of_heap hr
  have Fj : m ≠ r := fun e => by rw [e, hr] at hm; cases hm
  have jP : (setBlock w1 r (.mapIter (some m) since (seen.push ent.born) clock)).heap[r]? = some (.mapIter (some m) since (seen.push ent.born) clock) := World.putObj_heap_same mL; have mM := DI.heap hm Fj
  have bx : ent ∈ es.toList := by
   have : ent ∈ (leftOf es seen).toList := vB; simp [leftOf] at this
   simpa using this.1
  have iN : (leftOf es (seen.push ent.born)).toList = L1 ++ L2 := by
   have h1 : (leftOf es (seen.push ent.born)).toList = (leftOf es seen).toList.filter fun x => !(x.born == ent.born) := by
    simp only [leftOf, Array.toList_filter, List.filter_filter]
    congr 1
    funext x
    have DJ : (x.born == ent.born) = decide (x.born = ent.born) := by by_cases h : x.born = ent.born <;> simp [h]
    simp [Bool.and_comm, DJ]
   have pB : ((leftOf es seen).toList.map (·.born)).Nodup := by
    simp only [leftOf, Array.toList_filter]; exact (List.filter_sublist.map _).nodup hn
   rw [h1, hL]; rw [hL] at pB; simp only [List.map_append, List.map_cons, List.nodup_append, List.nodup_cons, List.mem_map, List.mem_cons] at pB; simp only [List.filter_append, List.filter_cons, beq_self_eq_true, Bool.not_true, Bool.false_eq_true, if_false]
   congr 1
   ·apply List.filter_eq_self.2; intro x hx; have := pB.2.2 x.born ⟨x, hx, rfl⟩ ent.born (.inl rfl)
    simpa using this
   ·apply List.filter_eq_self.2; intro x hx; have := pB.2.1.1; simp only [not_exists, not_and] at this
    simpa using this x hx
  refine ⟨p, l1, l2, _, rfl, fun ρ hρ => ?_, ⟨⟨es, clock, seen.push ent.born, clock, since, mM, jP, cG, hb, cG, hn, ?_⟩, es, clock, seen, since, ent, mM, jP, bx, hn, fX.1, fX.2⟩, DI⟩
  ·simp [execOp, hρ _ _ hx, sx, fX.1, fX.2]
  ·rw [iN]; simp only [Ents, List.map_append]; rw [← e1, ← e4]
theorem yen {r : Nat} {p : κ × Value} {left : List (κ × Value)} (hx : look e x = some (ptr r 0)) (hi : RgE K w r m p left) : Y P e ⟨d, .entry x, ty, pos, aft, g⟩ (.tuple #[K p.1, p.2]) w w := fun ρ hρ => by
 obtain ⟨-, es, clock, seen, since, ent, hm, hr, bx, hn, hk, hv⟩ := hi
 have := run_entry_at (P := P) w r m since seen es clock ent hr hm bx hn
 simp [execOp, hρ _ _ hx, this, hk, hv]
end

abbrev Nodes := Int → Option Nd
abbrev Es := List (Bytes × Bytes)
def inB (lo : Bytes) (hi : Option Bytes) (k : Bytes) : Prop := lt k lo = false ∧ ∀ u, hi = some u → lt k u = true
def Ch (S : Int → Bytes → Option Bytes → List Int → Es → Prop) : Bytes → Option Bytes → Nat → List (Bytes × Nat) → List Int → Es → Prop
 | lo, hi, c, [], ns, es => S (c : Int) lo hi ns es
 | lo, hi, c, (k, d) :: r, ns, es => ∃ n1 n2 e1 e2, ns = n1 ++ n2 ∧ es = e1 ++ e2 ∧ S (c : Int) lo (some k) n1 e1 ∧ Ch S k hi d r n2 e2
def Bn (z : Nat) (N : Nodes) : Nat → Int → Bytes → Option Bytes → List Int → Es → Prop
 | 0, _, _, _, _, _ => False
 | h + 1, no, lo, hi, ns, es => ∃ n, N no = some n ∧ NdOk z n ∧ (∀ k ∈ n.keys, inB lo hi k) ∧
     ((h = 0 ∧ n.leaf = true ∧ ns = [no] ∧ es = n.keys.zip n.vals) ∨
      (h ≠ 0 ∧ n.leaf = false ∧ ∃ c ps ns', n.keys = ps.map (·.1) ∧ n.kids = c :: ps.map (·.2) ∧ ns = no :: ns' ∧ (∀ d ∈ n.kids, ∀ m, N (d : Int) = some m → ¬ m.low z) ∧ Ch (Bn z N h) lo hi c ps ns' es))

section
variable {S S' : Int → Bytes → Option Bytes → List Int → Es → Prop} {lo : Bytes} {hi : Option Bytes} {c : Nat} {ps : List (Bytes × Nat)} {ns : List Int} {es : Es}
theorem Ch.mono (h : Ch S lo hi c ps ns es) (hs : ∀ x l u n e, S x l u n e → (∀ y ∈ n, y ∈ ns) → S' x l u n e) : Ch S' lo hi c ps ns es := by
 induction ps generalizing lo c ns es with
 | nil => exact hs _ _ _ _ _ h (fun y hy => hy)
 | cons p r ih =>
   obtain ⟨k, d⟩ := p; obtain ⟨n1, n2, e1, e2, rfl, rfl, h1, h2⟩ := h; exact ⟨n1, n2, e1, e2, rfl, rfl, hs _ _ _ _ _ h1 (fun y hy => List.mem_append_left _ hy), ih h2 (fun x l u n e hx hn => hs x l u n e hx (fun y hy => List.mem_append_right _ (hn y hy)))⟩
theorem Ch.app {p r : List (Bytes × Nat)} {k : Bytes} {d : Nat} : Ch S lo hi c (p ++ (k, d) :: r) ns es ↔ ∃ n1 n2 e1 e2, ns = n1 ++ n2 ∧ es = e1 ++ e2 ∧ Ch S lo (some k) c p n1 e1 ∧ Ch S k hi d r n2 e2 := by
 induction p generalizing lo c ns es with
 | nil => exact Iff.rfl
 | cons q p ih =>
   obtain ⟨k', d'⟩ := q; constructor
   ·rintro ⟨n1, n2, e1, e2, rfl, rfl, h1, h2⟩; obtain ⟨n3, n4, e3, e4, rfl, rfl, h3, h4⟩ := ih.1 h2; exact ⟨n1 ++ n3, n4, e1 ++ e3, e4, by simp, by simp, ⟨n1, n3, e1, e3, rfl, rfl, h1, h3⟩, h4⟩
   ·rintro ⟨n1, n2, e1, e2, rfl, rfl, ⟨n3, n4, e3, e4, rfl, rfl, h3, h4⟩, h2⟩; exact ⟨n3, n4 ++ n2, e3, e4 ++ e2, by simp, by simp, h3, ih.2 ⟨n4, n2, e4, e2, rfl, rfl, h4, h2⟩⟩
theorem Ch.kid (h : Ch S lo hi c ps ns es) (hS : ∀ x l u n e, S x l u n e → x ∈ n) : ∀ d ∈ c :: ps.map (·.2), (d : Int) ∈ ns := by
 induction ps generalizing lo c ns es with
 | nil => intro d hd; simp at hd; subst hd; exact hS _ _ _ _ _ h
 | cons p r ih =>
   obtain ⟨k, d'⟩ := p; obtain ⟨n1, n2, e1, e2, rfl, rfl, h1, h2⟩ := h; intro d hd; rcases List.mem_cons.1 hd with rfl | hd
   ·exact List.mem_append_left _ (hS _ _ _ _ _ h1)
   ·exact List.mem_append_right _ (ih h2 d (by simpa using hd))
theorem Ch.keys (h : Ch S lo hi c ps ns es) (hS : ∀ x l u n e, S x l u n e → (∀ y ∈ e, inB l u y.1) ∧ Rise (e.map (·.1))) (hk : ∀ k ∈ ps.map (·.1), inB lo hi k) (hr : Rise (ps.map (·.1))) : (∀ y ∈ es, inB lo hi y.1) ∧ Rise (es.map (·.1)) := by
 induction ps generalizing lo c ns es with
 | nil => exact hS _ _ _ _ _ h
 | cons p r ih =>
   obtain ⟨k, d'⟩ := p; obtain ⟨n1, n2, e1, e2, rfl, rfl, h1, h2⟩ := h; simp only [List.map_cons, List.mem_cons, forall_eq_or_imp] at hk; have jP := List.pairwise_cons.1 hr; obtain ⟨a1, a2⟩ := hS _ _ _ _ _ h1; obtain ⟨b1, b2⟩ := ih h2 (fun k' aS => ⟨lt_asymm (jP.1 k' aS), (hk.2 k' aS).2⟩) jP.2; refine ⟨fun y hy => ?_, ?_⟩
   ·rcases List.mem_append.1 hy with hy | hy
    ·refine ⟨(a1 y hy).1, fun u hu => lt_trans ((a1 y hy).2 k rfl) (hk.1.2 u hu)⟩
    ·exact ⟨le_trans hk.1.1 (b1 y hy).1, (b1 y hy).2⟩
   ·rw [List.map_append]; refine List.pairwise_append.2 ⟨a2, b2, fun x hx y hy => ?_⟩; obtain ⟨x', aZ, rfl⟩ := List.mem_map.1 hx; obtain ⟨y', mr, rfl⟩ := List.mem_map.1 hy; exact lt_le_trans ((a1 x' aZ).2 k rfl) (b1 y' mr).1
theorem Ch.seg {p seg r : List (Bytes × Nat)} (h : Ch S lo hi c (p ++ (seg ++ r)) ns es) (hS : ∀ x l u n e, S x l u n e → ∀ y ∈ e, inB l u y.1) (hr : Rise ((p ++ (seg ++ r)).map (·.1))) (hk : ∀ k ∈ (p ++ (seg ++ r)).map (·.1), inB lo hi k) :
  ∃ a lo' af n1 nm n2 e1 em e2, ns = n1 ++ (nm ++ n2) ∧ es = e1 ++ (em ++ e2) ∧ (c :: p.map (·.2)).getLast? = some a ∧ Ch S lo' af a seg nm em ∧ lo' = (p.getLast?.map (·.1)).getD lo ∧ af = (r.head?.map (·.1)).or hi ∧
    (∀ x ∈ e1, lt x.1 lo' = true) ∧ (∀ x ∈ e2, ∀ u, af = some u → lt x.1 u = false) ∧ (r = [] → e2 = []) ∧
    ∀ (S' : Int → Bytes → Option Bytes → List Int → Es → Prop) seg' nm' em', (∀ x l u n e, S x l u n e → ((∀ y ∈ n, y ∈ n1) ∨ (∀ y ∈ n, y ∈ n2)) → S' x l u n e) → Ch S' lo' af a seg' nm' em' → Ch S' lo hi c (p ++ (seg' ++ r)) (n1 ++ (nm' ++ n2)) (e1 ++ (em' ++ e2)) := by
 induction p generalizing lo c ns es with
 | nil =>
   rw [List.nil_append] at h
   cases r with
   | nil =>
     rw [List.append_nil] at h
     exact ⟨c, lo, hi, [], ns, [], [], es, [], by simp, by simp, rfl, h, rfl, by simp, by simp, by simp, fun _ => rfl, fun S' seg' nm' em' _ h' => by simpa using h'⟩
   | cons q r =>
     obtain ⟨k, d⟩ := q; obtain ⟨n1, n2, e1, e2, rfl, rfl, h1, h2⟩ := Ch.app.1 h; refine ⟨c, lo, some k, [], n1, n2, [], e1, e2, by simp, by simp, rfl, h1, rfl, rfl, by simp, fun x hx u hu => ?_, (fun h => by cases h), fun S' seg' nm' em' hs h' => ?_⟩
     ·cases hu; have : Rise (((seg ++ (k, d) :: r)).map (·.1)) := hr; rw [List.map_append, List.map_cons] at this; have pC := (List.pairwise_append.1 this).2.1; have DK := List.pairwise_cons.1 pC; have cO : ∀ k' ∈ r.map (·.1), inB k hi k' := fun k' aS => ⟨lt_asymm (DK.1 k' aS), (hk k' (by simp only [List.nil_append, List.map_append, List.map_cons]; exact List.mem_append_right _ (List.mem_cons_of_mem _ aS))).2⟩
      have : ∀ {lo c ns es} {r : List (Bytes × Nat)}, Ch S lo hi c r ns es → (∀ k' ∈ r.map (·.1), inB lo hi k') → Rise (r.map (·.1)) → ∀ y ∈ es, lt y.1 lo = false := by
       intro lo c ns es r
       induction r generalizing lo c ns es with
       | nil => intro h _ _ y hy; exact (hS _ _ _ _ _ h y hy).1
       | cons q r ih =>
         obtain ⟨k1, d1⟩ := q; rintro ⟨m1, m2, f1, f2, rfl, rfl, g1, g2⟩ aC uQ y hy; have hp := List.pairwise_cons.1 uQ; rcases List.mem_append.1 hy with hy | hy
         ·exact (hS _ _ _ _ _ g1 y hy).1
         ·refine le_trans (aC k1 (by simp)).1 (ih g2 (fun k' aS => ⟨lt_asymm (hp.1 k' aS), (aC k' (List.mem_cons_of_mem _ aS)).2⟩) hp.2 y hy)
      exact this h2 cO DK.2 x hx
     ·exact Ch.app.2 ⟨nm', n2, em', e2, by simp, by simp, h', Ch.mono h2 (fun x l u n e hx hn => hs x l u n e hx (.inr hn))⟩
 | cons q p ih =>
   obtain ⟨k, d⟩ := q; obtain ⟨m1, m2, f1, f2, rfl, rfl, h1, h2⟩ := h; have jP := List.pairwise_cons.1 hr; simp only [List.cons_append, List.map_cons, List.mem_cons, forall_eq_or_imp] at hk; obtain ⟨a, lo', af, n1, nm, n2, e1, em, e2, rfl, rfl, ha, hc, bX, iO, iP, fP, zL, cZ⟩ := ih h2 jP.2 (fun k' aS => ⟨lt_asymm (jP.1 k' aS), (hk.2 k' aS).2⟩)
   have cy : lt lo' k = false := by
    cases hp : p.getLast? with
    | none => rw [hp] at bX; simp at bX; rw [bX]; exact lt_irrefl _
    | some x =>
      rw [hp] at bX; simp at bX; rw [bX]; have hm : x ∈ p := List.mem_of_getLast? hp; exact lt_asymm (jP.1 x.1 (List.mem_map.2 ⟨x, List.mem_append_left _ hm, rfl⟩))
   refine ⟨a, lo', af, m1 ++ n1, nm, n2, f1 ++ e1, em, e2, by simp, by simp, ?_, hc, ?_, iO, fun x hx => ?_, fP, zL, fun S' seg' nm' em' hs h' => ?_⟩
   ·rw [List.map_cons, List.getLast?_cons_cons]; exact ha
   ·rw [bX]
    cases p with
    | nil => rfl
    | cons y p => rw [List.getLast?_cons_cons]; cases hg : (y :: p).getLast? <;> simp_all
   ·rcases List.mem_append.1 hx with hx | hx
    ·exact lt_le_trans ((hS _ _ _ _ _ h1 x hx).2 k rfl) cy
    ·exact iP x hx
   ·refine ⟨m1, n1 ++ (nm' ++ n2), f1, e1 ++ (em' ++ e2), by simp, by simp, hs _ _ _ _ _ h1 (.inl fun y hy => List.mem_append_left _ hy), cZ S' seg' nm' em' (fun x l u n e hx hn => hs x l u n e hx (hn.imp (fun h y hy => List.mem_append_right _ (h y hy)) id)) h'⟩
end

section
variable {z h : Nat} {N N' : Nodes} {no : Int} {lo : Bytes} {hi : Option Bytes} {ns : List Int} {es : Es}
theorem Bn.mem (s : Bn z N h no lo hi ns es) : no ∈ ns := by
 cases h with
 | zero => exact s.elim
 | succ h =>
   obtain ⟨n, -, -, -, ⟨-, -, rfl, -⟩ | ⟨-, -, c, ps, ns', -, -, rfl, -, -⟩⟩ := s
   ·simp
   ·simp
theorem Bn.move (s : Bn z N h no lo hi ns es) (he : ∀ x ∈ ns, N' x = N x) : Bn z N' h no lo hi ns es := by
 induction h generalizing no lo hi ns es with
 | zero => exact s.elim
 | succ h ih =>
   have hm := s.mem; obtain ⟨n, hn, bi, hk, hx⟩ := s; refine ⟨n, by rw [he no hm]; exact hn, bi, hk, ?_⟩; rcases hx with hx | ⟨h0, hl, c, ps, ns', e1, e2, rfl, bL, hc⟩
   ·exact .inl hx
   ·have mP := hc.kid (fun x l u n e hx => Bn.mem hx); refine .inr ⟨h0, hl, c, ps, ns', e1, e2, rfl, fun d hd m hm => bL d hd m ?_, hc.mono fun x l u n e hx hn => ih hx fun y hy => he y (List.mem_cons_of_mem _ (hn y hy))⟩; rw [← he d (List.mem_cons_of_mem _ (mP d (by rw [← e2]; exact hd)))]; exact hm
theorem zip_keys {a b : List Bytes} (h : b.length = a.length) : (a.zip b).map (·.1) = a := List.map_fst_zip (by omega)
theorem Bn.keys (s : Bn z N h no lo hi ns es) : (∀ y ∈ es, inB lo hi y.1) ∧ Rise (es.map (·.1)) := by
 induction h generalizing no lo hi ns es with
 | zero => exact s.elim
 | succ h ih =>
   obtain ⟨n, hn, bi, hk, ⟨-, hl, -, rfl⟩ | ⟨-, hl, c, ps, ns', e1, e2, -, -, hc⟩⟩ := s
   ·obtain ⟨⟨-, hr⟩, -, gB⟩ := bi; rw [if_pos hl] at gB; refine ⟨fun y hy => hk y.1 (List.of_mem_zip hy).1, ?_⟩; rw [zip_keys gB.1]; exact hr
   ·rw [e1] at hk; exact hc.keys (fun x l u n e hx => ih hx) hk (by rw [← e1]; exact bi.1.2)
end

theorem pos_app1 {a b : List Bytes} {t : Bytes} (h : ∀ x ∈ a, lt x t = true) : pos (a ++ b) t = a.length + pos b t := by
 unfold pos
 rw [List.takeWhile_append_of_pos h]
 simp
theorem pos_app2 {b c : List Bytes} {t : Bytes} (h : ∀ x ∈ c, lt x t = false) : pos (b ++ c) t = pos b t := by
 unfold pos
 induction b with
 | nil =>
   cases c with
   | nil => rfl
   | cons x r => simp [h x (List.mem_cons_self ..)]
 | cons a r ih =>
   simp only [List.cons_append, List.takeWhile_cons]
   cases lt a t with
   | true => simpa using ih
   | false => rfl
theorem pos_lt {l : List Bytes} {t : Bytes} : ∀ x ∈ l.take (pos l t), lt x t = true := by
 unfold pos
 induction l with
 | nil => intro x hx; simp at hx
 | cons a r ih =>
   intro x hx; simp only [List.takeWhile_cons] at hx
   cases ha : lt a t with
   | true =>
     rw [ha] at hx; simp only [if_true, List.length_cons, List.take_succ_cons, List.mem_cons] at hx; rcases hx with rfl | hx
     ·exact ha
     ·exact ih x hx
   | false => rw [ha] at hx; simp at hx
theorem pos_ge {l : List Bytes} {t : Bytes} (hr : Rise l) : ∀ x ∈ l.drop (pos l t), lt x t = false := by
 unfold pos
 induction l with
 | nil => intro x hx; simp at hx
 | cons a r ih =>
   intro x hx; have hp := List.pairwise_cons.1 hr; simp only [List.takeWhile_cons] at hx
   cases ha : lt a t with
   | true =>
     rw [ha] at hx; simp only [if_true, List.length_cons, List.drop_succ_cons] at hx
     exact ih hp.2 x hx
   | false =>
     rw [ha] at hx; simp at hx; rcases hx with rfl | hx
     ·exact ha
     ·cases hb : lt x t with
      | false => rfl
      | true => rw [lt_trans (hp.1 x hx) hb] at ha; cases ha

def posE (es : Es) (k : Bytes) : Nat := pos (es.map (·.1)) k
def hasE (es : Es) (k : Bytes) : Prop := (es.map (·.1))[posE es k]? = some k
instance (es : Es) (k : Bytes) : Decidable (hasE es k) := by unfold hasE; infer_instance
def insE (es : Es) (k v : Bytes) : Es := es.take (posE es k) ++ (k, v) :: es.drop (if hasE es k then posE es k + 1 else posE es k)
def delE (es : Es) (k : Bytes) : Es := if hasE es k then es.take (posE es k) ++ es.drop (posE es k + 1) else es
def getE (es : Es) (k : Bytes) : Option Bytes := if hasE es k then (es[posE es k]?).map (·.2) else none
theorem posE_le (es : Es) (k : Bytes) : posE es k ≤ es.length := by have := pos_le (es.map (·.1)) k; simpa [posE] using this
section
variable {e1 em e2 : Es} {k v : Bytes}
theorem posE_mid (h1 : ∀ x ∈ e1, lt x.1 k = true) (h2 : ∀ x ∈ e2, lt k x.1 = true) : posE (e1 ++ (em ++ e2)) k = e1.length + posE em k := by
 unfold posE
 rw [List.map_append, List.map_append, pos_app1 (by intro x hx; obtain ⟨y, hy, rfl⟩ := List.mem_map.1 hx; exact h1 y hy), pos_app2 (by intro x hx; obtain ⟨y, hy, rfl⟩ := List.mem_map.1 hx; exact lt_asymm (h2 y hy)), List.length_map]
theorem hasE_mid (h1 : ∀ x ∈ e1, lt x.1 k = true) (h2 : ∀ x ∈ e2, lt k x.1 = true) : hasE (e1 ++ (em ++ e2)) k ↔ hasE em k := by
 unfold hasE
 rw [posE_mid h1 h2, List.map_append, List.getElem?_append_right (by simp), List.length_map, Nat.add_sub_cancel_left, List.map_append]
 rcases Nat.lt_or_ge (posE em k) em.length with h | h
 ·rw [List.getElem?_append_left (by simpa using h)]
 ·rw [List.getElem?_append_right (by simpa using h), List.getElem?_eq_none (l := em.map (·.1)) (by simpa using h)]; constructor
  ·intro he; obtain ⟨x, hx, AC⟩ := List.mem_map.1 (List.mem_of_getElem? he); have := h2 x hx; rw [AC, lt_irrefl] at this; cases this
  ·intro he; cases he
theorem insE_mid (h1 : ∀ x ∈ e1, lt x.1 k = true) (h2 : ∀ x ∈ e2, lt k x.1 = true) : insE (e1 ++ (em ++ e2)) k v = e1 ++ (insE em k v ++ e2) := by
 have hp := posE_le em k
 unfold insE
 rw [posE_mid h1 h2]
 have ht : (e1 ++ (em ++ e2)).take (e1.length + posE em k) = e1 ++ em.take (posE em k) := by
  rw [List.take_length_add_append, List.take_append_of_le_length hp]
 have hd : ∀ j, j ≤ em.length → (e1 ++ (em ++ e2)).drop (e1.length + j) = em.drop j ++ e2 := fun j hj => by
  rw [List.drop_length_add_append, List.drop_append_of_le_length hj]
 by_cases hh : hasE em k
 ·have ah : posE em k < em.length := by
   unfold hasE at hh; rcases Nat.lt_or_ge (posE em k) em.length with h | h
   ·exact h
   ·rw [List.getElem?_eq_none (by simpa using h)] at hh; cases hh
  rw [if_pos ((hasE_mid h1 h2).2 hh), if_pos hh, ht, Nat.add_assoc, hd _ (by omega)]; simp
 ·rw [if_neg (fun h => hh ((hasE_mid h1 h2).1 h)), if_neg hh, ht, hd _ hp]; simp
theorem hasE_lt (h : hasE em k) : posE em k < em.length := by
 unfold hasE at h
 rcases Nat.lt_or_ge (posE em k) em.length with h' | h'
 ·exact h'
 ·rw [List.getElem?_eq_none (by simpa using h')] at h; cases h
theorem delE_mid (h1 : ∀ x ∈ e1, lt x.1 k = true) (h2 : ∀ x ∈ e2, lt k x.1 = true) : delE (e1 ++ (em ++ e2)) k = e1 ++ (delE em k ++ e2) := by
 unfold delE
 rw [posE_mid h1 h2]
 by_cases hh : hasE em k
 ·have ah := hasE_lt hh; rw [if_pos ((hasE_mid h1 h2).2 hh), if_pos hh, List.take_length_add_append, List.take_append_of_le_length (by omega), Nat.add_assoc, List.drop_length_add_append, List.drop_append_of_le_length (by omega)]; simp
 ·rw [if_neg (fun h => hh ((hasE_mid h1 h2).1 h)), if_neg hh]
theorem getE_mid (h1 : ∀ x ∈ e1, lt x.1 k = true) (h2 : ∀ x ∈ e2, lt k x.1 = true) : getE (e1 ++ (em ++ e2)) k = getE em k := by
 unfold getE
 rw [posE_mid h1 h2]
 by_cases hh : hasE em k
 ·have ah := hasE_lt hh; rw [if_pos ((hasE_mid h1 h2).2 hh), if_pos hh, List.getElem?_append_right (by omega), Nat.add_sub_cancel_left, List.getElem?_append_left ah]
 ·rw [if_neg (fun h => hh ((hasE_mid h1 h2).1 h)), if_neg hh]
theorem insE_rise (h : Rise (em.map (·.1))) : Rise ((insE em k v).map (·.1)) := by
 unfold insE
 have hl := pos_lt (l := em.map (·.1)) (t := k)
 have hg := pos_ge (l := em.map (·.1)) (t := k) h
 rw [List.map_append, List.map_cons]
 have hd : ∀ x ∈ (em.drop (if hasE em k then posE em k + 1 else posE em k)).map (·.1), lt k x = true := by
  intro x hx; by_cases hh : hasE em k
  ·rw [if_pos hh] at hx; unfold hasE at hh; obtain ⟨j, hj, sy⟩ := List.getElem_of_mem hx; refine h.get (i := posE em k) (j := posE em k + 1 + j) (by omega) hh ?_; have h0 := List.getElem?_eq_getElem hj; rw [sy, List.map_drop, List.getElem?_drop] at h0; exact h0
  ·rw [if_neg hh] at hx; have aZ : x ∈ (em.map (·.1)).drop (posE em k) := by rw [← List.map_drop]; exact hx
   have h1 := hg x aZ; rcases lt_tri k x with h2 | h2 | h2
   ·exact h2
   ·subst h2; exfalso; apply hh; unfold hasE
    have ah : posE em k < (em.map (·.1)).length := by
     rcases Nat.lt_or_ge (posE em k) (em.map (·.1)).length with h' | h'
     ·exact h'
     ·rw [List.drop_eq_nil_of_le h'] at aZ; cases aZ
    obtain ⟨j, hj, sy⟩ := List.getElem_of_mem aZ; have h0 := List.getElem?_eq_getElem hj; rw [sy, List.getElem?_drop] at h0
    cases j with
    | zero => exact h0
    | succ j =>
      have hb := hg ((em.map (·.1))[posE em k]) (by show _ ∈ List.drop (posE em k) (em.map (·.1)); rw [List.drop_eq_getElem_cons ah]; exact List.mem_cons_self ..); have := h.get (i := posE em k) (j := posE em k + (j + 1)) (a := (em.map (·.1))[posE em k]) (b := k) (by omega) (List.getElem?_eq_getElem ah) h0; rw [this] at hb; cases hb
   ·rw [h1] at h2; cases h2
 refine List.pairwise_append.2 ⟨?_, List.pairwise_cons.2 ⟨hd, ?_⟩, fun x hx y hy => ?_⟩
 ·rw [List.map_take]; exact h.sublist (List.take_sublist _ _)
 ·rw [List.map_drop]; exact h.sublist (List.drop_sublist _ _)
 ·have aZ := hl x (by rw [← List.map_take]; exact hx); rcases List.mem_cons.1 hy with rfl | hy
  ·exact aZ
  ·exact lt_trans aZ (hd y hy)
end

def entB (es : Es) : Nat := (es.map fun x => 3 + x.1.length + x.2.length).sum
@[simp] theorem entB_nil : entB [] = 0 := rfl
theorem entB_cons (x : Bytes × Bytes) (es : Es) : entB (x :: es) = 3 + x.1.length + x.2.length + entB es := by simp [entB]
theorem entB_app (a b : Es) : entB (a ++ b) = entB a + entB b := by simp [entB]
theorem entB_zip : ∀ {a b : List Bytes}, b.length = a.length → entB (a.zip b) = sumL a 3 + sumL b 0
 | [], [], _ => rfl
 | x :: a, y :: b, h => by
   rw [List.zip_cons_cons, entB_cons, sumL_cons, sumL_cons, entB_zip (by simpa using h)]
   simp only; omega
 | [], _ :: _, h => by simp at h
 | _ :: _, [], h => by simp at h
theorem leaf_bytes {n : Nd} (hl : n.leaf = true) (h : n.vals.length = n.keys.length) : n.bytes = 3 + entB (n.keys.zip n.vals) := by
 unfold Nd.bytes
 rw [if_pos hl, entB_zip h]

def apart (all left : Nat) : Nat := max (2 * left - all) (all - 2 * left)
def halfGo (all : Nat) : List Nat → Nat → Nat → Nat → Nat → Nat
 | [], _, _, _, a => a
 | [_], _, _, _, a => a
 | s :: t :: r, i, left, best, a => if apart all (left + s) < best then halfGo all (t :: r) (i + 1) (left + s) (apart all (left + s)) (i + 1) else halfGo all (t :: r) (i + 1) (left + s) best a
def halfOf (ss : List Nat) : Nat := halfGo ss.sum ss 0 0 ss.sum 1
theorem take_sum_succ (l : List Nat) {j : Nat} (h : j < l.length) : (l.take (j + 1)).sum = (l.take j).sum + l[j] := by
 rw [List.take_succ_eq_append_getElem h, List.sum_append, List.sum_cons, List.sum_nil, Nat.add_zero]
theorem halfGo_min (all : Nat) (base : Nat) : ∀ (ss : List Nat) (i left best a : Nat) (pre : List Nat), pre.length = i → pre.sum = left → (∀ j, 1 ≤ j → j ≤ i → best ≤ apart all ((pre.take j).sum)) → (1 ≤ i → 1 ≤ a ∧ a ≤ i ∧ best = apart all ((pre.take a).sum)) → (i = 0 → best = base) →
  (∀ j, 1 ≤ j → j < (pre ++ ss).length → apart all (((pre ++ ss).take j).sum) < base) → 2 ≤ (pre ++ ss).length → ss ≠ [] →
  1 ≤ halfGo all ss i left best a ∧ halfGo all ss i left best a < (pre ++ ss).length ∧ ∀ j, 1 ≤ j → j < (pre ++ ss).length → apart all (((pre ++ ss).take (halfGo all ss i left best a)).sum) ≤ apart all (((pre ++ ss).take j).sum)
 | [], _, _, _, _, _, _, _, _, _, _, _, _, h => absurd rfl h
 | [s], i, left, best, a, pre, hp, hs, h1, h2, h3, h4, h5, _ => by
   have hl : (pre ++ [s]).length = i + 1 := by simp [hp]
   have hi : 1 ≤ i := by omega
   obtain ⟨a1, a2, a3⟩ := h2 hi; have e : ∀ j, j ≤ i → (pre ++ [s]).take j = pre.take j := fun j hj => List.take_append_of_le_length (by omega); show 1 ≤ a ∧ a < _ ∧ ∀ j, 1 ≤ j → j < _ → apart all (((pre ++ [s]).take a).sum) ≤ _; refine ⟨a1, by omega, fun j j1 j2 => ?_⟩; rw [e a a2, e j (by omega), ← a3]
   exact h1 j j1 (by omega)
 | s :: t :: r, i, left, best, a, pre, hp, hs, h1, h2, h3, h4, h5, _ => by
   have e0 : pre ++ s :: t :: r = (pre ++ [s]) ++ t :: r := by simp
   have hl : (pre ++ [s]).length = i + 1 := by simp [hp]
   have kf : (pre ++ [s]).sum = left + s := by simp [hs]
   have etk : ∀ j, j ≤ i → (pre ++ [s]).take j = pre.take j := fun j hj => List.take_append_of_le_length (by omega); have eall : (pre ++ [s]).take (i + 1) = pre ++ [s] := by rw [← hl]; exact List.take_length
   have hA : apart all (left + s) < base := by
    have := h4 (i + 1) (by omega) (by simp [hp]); rw [e0, List.take_append_of_le_length (by omega), eall, kf] at this; exact this
   rw [e0] at h4 h5 ⊢; simp only [halfGo]; by_cases hb : apart all (left + s) < best
   ·rw [if_pos hb]; refine halfGo_min all base (t :: r) (i + 1) (left + s) (apart all (left + s)) (i + 1) (pre ++ [s]) hl kf (fun j j1 j2 => ?_) (fun _ => ⟨by omega, by omega, by rw [eall, kf]⟩) (fun h => by omega) h4 h5 (by simp); by_cases hj : j ≤ i
    ·rw [etk j hj]; have := h1 j j1 hj; omega
    ·have : j = i + 1 := by omega
     subst this; rw [eall, kf]; omega
   ·rw [if_neg hb]
    have hi : 1 ≤ i := by
     rcases Nat.eq_zero_or_pos i with h0 | h0
     ·rw [h3 h0] at hb; exact absurd hA hb
     ·exact h0
    obtain ⟨a1, a2, a3⟩ := h2 hi; refine halfGo_min all base (t :: r) (i + 1) (left + s) best a (pre ++ [s]) hl kf (fun j j1 j2 => ?_) (fun _ => ⟨a1, by omega, by rw [etk a a2]; exact a3⟩) (fun h => by omega) h4 h5 (by simp); by_cases hj : j ≤ i
    ·rw [etk j hj]; exact h1 j j1 hj
    ·have : j = i + 1 := by omega
     subst this; rw [eall, kf]; omega
theorem take_sum_mono (l : List Nat) : ∀ {i j : Nat}, i ≤ j → (l.take i).sum ≤ (l.take j).sum := by
 induction l with
 | nil => intro i j _; simp
 | cons a r ih =>
   intro i j h
   cases i with
   | zero => simp
   | succ i =>
     cases j with
     | zero => omega
     | succ j => simp only [List.take_succ_cons, List.sum_cons]; have := ih (i := i) (j := j) (by omega); omega
theorem half_ok {ss : List Nat} {M : Nat} (hM : ∀ s ∈ ss, s ≤ M) (hp : ∀ s ∈ ss, 0 < s) (bF : 4 * M < ss.sum) :
  1 ≤ halfOf ss ∧ halfOf ss < ss.length ∧ ss.sum ≤ 2 * (ss.take (halfOf ss)).sum + M ∧ 2 * (ss.take (halfOf ss)).sum ≤ ss.sum + M := by
 have aM : 2 ≤ ss.length := by
  match ss, hM, bF with
  | [], _, h => simp at h
  | [a], hM, h => have := hM a (by simp); simp at h; omega
  | _ :: _ :: _, _, _ => simp
 have ib : ∀ j, 1 ≤ j → 0 < (ss.take j).sum := fun j hj => by
  match ss, hp, aM with
  | a :: r, hp, _ =>
    obtain ⟨j, rfl⟩ : ∃ k, j = k + 1 := ⟨j - 1, by omega⟩; have := hp a (List.mem_cons_self ..); simp; omega
 have ah : ∀ j, j < ss.length → (ss.take j).sum < ss.sum := fun j hj => by
  have h1 := take_sum_succ ss hj; have h2 := take_sum_mono ss (i := j + 1) (j := ss.length) (by omega); rw [List.take_length] at h2; have := hp ss[j] (List.getElem_mem hj); omega
 obtain ⟨h1, h2, h3⟩ := halfGo_min ss.sum ss.sum ss 0 0 ss.sum 1 [] rfl rfl (fun j j1 j2 => by omega) (fun h => by omega) (fun _ => rfl) (fun j j1 j2 => by
  have := ib j j1; have := ah j (by simpa using j2); simp only [List.nil_append]
  unfold apart; omega) (by simpa using aM) (by intro h; simp [h] at aM)
 simp only [List.nil_append] at h1 h2 h3
 -- a place that is good enough
 obtain ⟨j, Fk, AE, Fl⟩ : ∃ j, 1 ≤ j ∧ j < ss.length ∧ apart ss.sum ((ss.take j).sum) ≤ M := by
  have : ∀ m, m ≤ ss.length → ss.sum ≤ 2 * (ss.take m).sum → ∃ j, j < m ∧ 2 * (ss.take j).sum < ss.sum ∧ ss.sum ≤ 2 * (ss.take (j + 1)).sum := by
   intro m
   induction m with
   | zero => intro _ h; simp at h; omega
   | succ m ih =>
     intro hm h; by_cases hh : 2 * (ss.take m).sum < ss.sum
     ·exact ⟨m, by omega, hh, h⟩
     ·obtain ⟨j, a, b, c⟩ := ih (by omega) (by omega); exact ⟨j, by omega, b, c⟩
  obtain ⟨j, a, b, c⟩ := this ss.length (Nat.le_refl _) (by rw [List.take_length]; omega); have hs := take_sum_succ ss a; have hm := hM ss[j] (List.getElem_mem a); by_cases hc : ss.sum - 2 * (ss.take j).sum ≤ M
  ·refine ⟨j, ?_, a, by unfold apart; omega⟩; rcases Nat.eq_zero_or_pos j with h0 | h0
   ·subst h0; simp at hc; omega
   ·exact h0
  ·refine ⟨j + 1, by omega, ?_, by unfold apart; omega⟩; rcases Nat.lt_or_ge (j + 1) ss.length with h0 | h0
   ·exact h0
   ·have : j + 1 = ss.length := by omega
    rw [this, List.take_length] at hs; omega
 have hb := h3 j Fk AE
 unfold halfOf
 refine ⟨h1, h2, ?_, ?_⟩ <;> (unfold apart at hb Fl; omega)

def leafNd (es : Es) : Nd := ⟨true, es.map (·.1), es.map (·.2), []⟩
def innNd (c : Nat) (ps : List (Bytes × Nat)) : Nd := ⟨false, ps.map (·.1), [], c :: ps.map (·.2)⟩
theorem zip_es : ∀ es : Es, (es.map (·.1)).zip (es.map (·.2)) = es
 | [] => rfl
 | x :: r => by simp [zip_es r]
theorem leaf_eq {n : Nd} (h1 : n.leaf = true) (h2 : n.kids = []) (h3 : n.vals.length = n.keys.length) : n = leafNd (n.keys.zip n.vals) := by
 cases n with
 | mk l ks vs cs =>
   simp only at h1 h2 h3; subst h1; subst h2; have Ik : vs.length = ks.length := h3; show (⟨true, ks, vs, []⟩ : Nd) = ⟨true, (ks.zip vs).map (·.1), (ks.zip vs).map (·.2), []⟩; rw [List.map_fst_zip (by omega), List.map_snd_zip (by omega)]
theorem leafNd_bytes (es : Es) : (leafNd es).bytes = 3 + entB es := by
 rw [leaf_bytes rfl (by simp [leafNd])]
 show 3 + entB ((es.map (·.1)).zip (es.map (·.2))) = _
 rw [zip_es]
structure EsOk (z : Nat) (es : Es) : Prop where
 one : ∀ x ∈ es, 1 ≤ x.1.length ∧ x.1.length ≤ 64 ∧ 3 + x.1.length + x.2.length ≤ mostE z
 rise : Rise (es.map (·.1))
theorem EsOk.sub {z : Nat} {a b : Es} (h : EsOk z b) (hs : a.Sublist b) : EsOk z a := ⟨fun x hx => h.one x (hs.subset hx), h.rise.sublist (hs.map _)⟩
theorem leafNd_ok {z : Nat} {es : Es} (hz : z ≤ 4096) : NdOk z (leafNd es) ↔ EsOk z es ∧ 3 + entB es ≤ z := by
 unfold NdOk
 rw [leafNd_bytes]
 simp only [leafNd, if_true]
 constructor
 ·rintro ⟨⟨h1, h2⟩, h3, -, -, h4⟩; rw [zip_es] at h4; refine ⟨⟨fun x hx => ?_, h2⟩, h3⟩; have := h1 x.1 (List.mem_map.2 ⟨x, hx, rfl⟩); exact ⟨this.1, this.2, (h4 x hx).2⟩
 ·rintro ⟨⟨h1, h2⟩, h3⟩; refine ⟨⟨fun k hk => ?_, h2⟩, h3, by simp, rfl, fun x hx => ?_⟩
  ·obtain ⟨x, hx, rfl⟩ := List.mem_map.1 hk; exact ⟨(h1 x hx).1, (h1 x hx).2.1⟩
  ·rw [zip_es] at hx; have := (h1 x hx).2.2; exact ⟨by unfold mostE at this; omega, this⟩
theorem leafNd_low {z : Nat} {es : Es} : (leafNd es).low z ↔ 4 * entB es < z - 3 := by
 unfold Nd.low
 rw [leafNd_bytes]
 simp [leafNd]
theorem innNd_low {z c : Nat} {ps : List (Bytes × Nat)} : (innNd c ps).low z ↔ ps.length + 1 < (orderE z + 1) / 2 := by
 unfold Nd.low; simp [innNd]
theorem innNd_bytes_le {ps : List (Bytes × Nat)} (c : Nat) (h : ∀ k ∈ ps.map (·.1), k.length ≤ 64) : (innNd c ps).bytes ≤ 7 + 69 * ps.length := by
 unfold Nd.bytes
 have := sumL_le (k := 1) h
 simp only [innNd, Bool.false_eq_true, if_false, List.length_cons, List.length_map] at this ⊢
 omega
theorem innNd_ok {z c : Nat} {ps : List (Bytes × Nat)} (hz : 512 ≤ z) : NdOk z (innNd c ps) ↔ keysOk (ps.map (·.1)) ∧ ps.length + 1 ≤ orderE z ∧ c ≠ 0 ∧ ∀ x ∈ ps, x.2 ≠ 0 := by
 unfold NdOk
 constructor
 ·rintro ⟨h1, h2, h3⟩; simp only [innNd, Bool.false_eq_true, if_false] at h3; obtain ⟨-, -, h4, h5⟩ := h3; exact ⟨h1, by simpa [innNd] using h4, h5 c (by simp [innNd]), fun x hx => h5 x.2 (by simp [innNd]; exact .inr ⟨_, hx⟩)⟩
 ·rintro ⟨h1, h2, h3, h4⟩; have hb := innNd_bytes_le (ps := ps) c (fun k hk => (h1.1 k hk).2); refine ⟨h1, by unfold orderE at h2; omega, ?_⟩; simp only [innNd, Bool.false_eq_true, if_false]; refine ⟨rfl, by simp, by simpa using h2, fun d hd => ?_⟩; rcases List.mem_cons.1 hd with rfl | hd
  ·exact h3
  ·obtain ⟨x, hx, rfl⟩ := List.mem_map.1 hd; exact h4 x hx
theorem inn_eq {n : Nd} {c : Nat} {ps : List (Bytes × Nat)} (h1 : n.leaf = false) (h2 : n.vals = []) (h3 : n.keys = ps.map (·.1)) (h4 : n.kids = c :: ps.map (·.2)) : n = innNd c ps := by
 cases n; simp only at h1 h2 h3 h4; subst h1; subst h2; subst h3; subst h4; rfl

section
variable {z h : Nat} {N N' : Nodes} {no : Int} {lo : Bytes} {hi : Option Bytes} {ns : List Int} {es : Es}
theorem Bn.leaf (hz : z ≤ 4096) (s : Bn z N 1 no lo hi ns es) : N no = some (leafNd es) ∧ ns = [no] ∧ EsOk z es ∧ 3 + entB es ≤ z ∧ ∀ x ∈ es, inB lo hi x.1 := by
 have hk := s.keys.1
 obtain ⟨n, hn, bi, -, ⟨-, hl, rfl, rfl⟩ | ⟨h0, -⟩⟩ := s
 ·have gB := bi.2.2; rw [if_pos hl] at gB; have e := leaf_eq hl gB.2.1 gB.1; rw [e] at bi; obtain ⟨h1, h2⟩ := (leafNd_ok hz).1 bi; exact ⟨by rw [hn, ← e], rfl, h1, h2, hk⟩
 ·exact absurd rfl h0
theorem Bn.of_leaf (hz : z ≤ 4096) (hn : N no = some (leafNd es)) (h1 : EsOk z es) (h2 : 3 + entB es ≤ z) (h3 : ∀ x ∈ es, inB lo hi x.1) : Bn z N 1 no lo hi [no] es :=
 ⟨_, hn, (leafNd_ok hz).2 ⟨h1, h2⟩, fun k hk => by obtain ⟨x, hx, rfl⟩ := List.mem_map.1 hk; exact h3 x hx, .inl ⟨rfl, rfl, rfl, (zip_es es).symm⟩⟩
def Full (z : Nat) (N : Nodes) (d : Nat) : Prop := ∀ m, N (d : Int) = some m → ¬ m.low z
theorem Bn.inner (hz : 512 ≤ z) (s : Bn z N (h + 2) no lo hi ns es) : ∃ c ps ns', N no = some (innNd c ps) ∧ ns = no :: ns' ∧ keysOk (ps.map (·.1)) ∧ ps.length + 1 ≤ orderE z ∧ (c ≠ 0 ∧ ∀ x ∈ ps, x.2 ≠ 0) ∧ (∀ k ∈ ps.map (·.1), inB lo hi k) ∧ (∀ d ∈ c :: ps.map (·.2), Full z N d) ∧ Ch (Bn z N (h + 1)) lo hi c ps ns' es := by
 obtain ⟨n, hn, bi, hk, ⟨h0, -⟩ | ⟨-, hl, c, ps, ns', e1, e2, rfl, bL, hc⟩⟩ := s
 ·omega
 ·have cx := bi.2.2; rw [if_neg (by rw [hl]; decide)] at cx; have e := inn_eq hl cx.1 e1 e2; subst e; obtain ⟨a1, a2, a3, a4⟩ := (innNd_ok hz).1 bi; exact ⟨c, ps, ns', hn, rfl, a1, a2, ⟨a3, a4⟩, hk, bL, hc⟩
theorem Bn.of_inner (hz : 512 ≤ z) {c : Nat} {ps : List (Bytes × Nat)} (hn : N no = some (innNd c ps)) (h1 : keysOk (ps.map (·.1))) (h2 : ps.length + 1 ≤ orderE z) (h3 : c ≠ 0 ∧ ∀ x ∈ ps, x.2 ≠ 0) (h4 : ∀ k ∈ ps.map (·.1), inB lo hi k) (h5 : ∀ d ∈ c :: ps.map (·.2), Full z N d) (hc : Ch (Bn z N (h + 1)) lo hi c ps ns es) : Bn z N (h + 2) no lo hi (no :: ns) es :=
 ⟨_, hn, (innNd_ok hz).2 ⟨h1, h2, h3⟩, h4, .inr ⟨by omega, rfl, c, ps, ns, rfl, rfl, rfl, h5, hc⟩⟩
end

/-! ### A leaf's cut -/
def sizes (es : Es) : List Nat := es.map fun x => 3 + x.1.length + x.2.length
theorem sizes_sum (es : Es) : (sizes es).sum = entB es := rfl
theorem sizes_take (es : Es) (i : Nat) : ((sizes es).take i).sum = entB (es.take i) := by unfold sizes entB; rw [List.map_take]
theorem cut_ok {z : Nat} {es : Es} (hz : sizeOk z) (h : EsOk z es) (h1 : z < 3 + entB es) (h2 : entB es ≤ (z - 3) + mostE z) :
  1 ≤ halfOf (sizes es) ∧ halfOf (sizes es) < es.length ∧ 3 + entB (es.take (halfOf (sizes es))) ≤ z ∧ 3 + entB (es.drop (halfOf (sizes es))) ≤ z ∧
    ¬ (leafNd (es.take (halfOf (sizes es)))).low z ∧ ¬ (leafNd (es.drop (halfOf (sizes es)))).low z := by
 obtain ⟨z1, z2, -⟩ := hz
 have hM : 4 * mostE z ≤ z - 3 := by unfold mostE; omega
 obtain ⟨a1, a2, a3, a4⟩ := half_ok (ss := sizes es) (M := mostE z) (fun s hs => by obtain ⟨x, hx, rfl⟩ := List.mem_map.1 hs; exact (h.one x hx).2.2) (fun s hs => by obtain ⟨x, hx, rfl⟩ := List.mem_map.1 hs; show 0 < 3 + x.1.length + x.2.length; omega) (by rw [sizes_sum]; omega)
 rw [sizes_take, sizes_sum] at a3 a4
 have hl : (sizes es).length = es.length := by simp [sizes]
 have hd : entB (es.take (halfOf (sizes es))) + entB (es.drop (halfOf (sizes es))) = entB es := by rw [← entB_app, List.take_append_drop]
 refine ⟨a1, by omega, by omega, by omega, ?_, ?_⟩
 ·rw [leafNd_low]; omega
 ·rw [leafNd_low]; omega

def updI {α : Type} (f : Int → α) (k : Int) (v : α) : Int → α := fun x => if x = k then v else f x
@[simp] theorem updI_same {α : Type} (f : Int → α) (k : Int) (v : α) : updI f k v k = v := by simp [updI]
theorem updI_ne {α : Type} {f : Int → α} {k x : Int} {v : α} (h : x ≠ k) : updI f k v x = f x := by simp [updI, h]
structure Ev (N N' : Nodes) (ns ns' : List Int) : Prop where
 nd : ns'.Nodup
 d1 : ∀ x ∈ ns', x ∈ ns ∨ N x = none
 d2 : ∀ x, N x ≠ none → x ∉ ns → N' x = N x
 d3 : ∀ x, N' x ≠ none → x ∈ ns' ∨ (N x ≠ none ∧ x ∉ ns)
theorem Ev.refl {N : Nodes} {ns : List Int} (h : ns.Nodup) : Ev N N ns ns := ⟨h, fun x hx => .inl hx, fun x _ _ => rfl, fun x hx => by
 by_cases h : x ∈ ns
 ·exact .inl h
 ·exact .inr ⟨hx, h⟩⟩
theorem Ev.trans {N N1 N2 : Nodes} {ns n1 n2 : List Int} (a : Ev N N1 ns n1) (b : Ev N1 N2 n1 n2) : Ev N N2 ns n2 := by
 have cx : ∀ x, N x ≠ none → x ∉ ns → x ∉ n1 := fun x h1 h2 h3 => (a.d1 x h3).elim h2 h1
 refine ⟨b.nd, fun x hx => ?_, fun x h1 h2 => ?_, fun x hx => ?_⟩
 ·rcases b.d1 x hx with h | h
  ·exact a.d1 x h
  ·by_cases h1 : x ∈ ns
   ·exact .inl h1
   ·by_cases h2 : N x = none
    ·exact .inr h2
    ·exact absurd h (by rw [a.d2 x h2 h1]; exact h2)
 ·have h3 := a.d2 x h1 h2; rw [b.d2 x (by rw [h3]; exact h1) (cx x h1 h2), h3]
 ·rcases b.d3 x hx with h | ⟨h1, h2⟩
  ·exact .inl h
  ·rcases a.d3 x h1 with h | h
   ·exact absurd h h2
   ·exact .inr h
theorem Ev.part {N N' : Nodes} {a nm nm' b : List Int} (e : Ev N N' nm nm') (hn : (a ++ (nm ++ b)).Nodup) (ha : ∀ x ∈ a, N x ≠ none) (hb : ∀ x ∈ b, N x ≠ none) : Ev N N' (a ++ (nm ++ b)) (a ++ (nm' ++ b)) := by
 have h1 := List.nodup_append.1 hn
 have h2 := List.nodup_append.1 h1.2.1
 have cI : ∀ x, N x ≠ none → x ∉ nm → x ∉ nm' := fun x h3 h4 h5 => (e.d1 x h5).elim h4 h3
 refine ⟨List.nodup_append.2 ⟨h1.1, List.nodup_append.2 ⟨e.nd, h2.2.1, fun x hx y hy hU => ?_⟩, fun x hx y hy hU => ?_⟩, fun x hx => ?_, fun x h3 h4 => ?_, fun x hx => ?_⟩
 ·subst hU; exact cI x (hb x hy) (fun h => h2.2.2 x h x hy rfl) hx
 ·subst hU; rcases List.mem_append.1 hy with hy | hy
  ·exact cI x (ha x hx) (fun h => h1.2.2 x hx x (List.mem_append_left _ h) rfl) hy
  ·exact h1.2.2 x hx x (List.mem_append_right _ hy) rfl
 ·simp only [List.mem_append] at hx ⊢; rcases hx with hx | hx | hx
  ·exact .inl (.inl hx)
  ·rcases e.d1 x hx with h | h
   ·exact .inl (.inr (.inl h))
   ·exact .inr h
  ·exact .inl (.inr (.inr hx))
 ·simp only [List.mem_append, not_or] at h4; exact e.d2 x h3 h4.2.1
 ·simp only [List.mem_append, not_or]; rcases e.d3 x hx with h | ⟨h3, h4⟩
  ·exact .inl (.inr (.inl h))
  ·by_cases h5 : x ∈ a
   ·exact .inl (.inl h5)
   ·by_cases h6 : x ∈ b
    ·exact .inl (.inr (.inr h6))
    ·exact .inr ⟨h3, h5, h4, h6⟩
theorem Ev.one {N : Nodes} {no : Int} {n : Nd} (h : N no ≠ none) : Ev N (updI N no (some n)) [no] [no] :=
 ⟨by simp, fun x hx => .inl hx, fun x _ h2 => updI_ne (by simpa using h2), fun x hx => by
  by_cases e : x = no
  ·exact .inl (by simp [e])
  ·rw [updI_ne e] at hx; exact .inr ⟨hx, by simpa using e⟩⟩
theorem Ev.set {N : Nodes} {no : Int} {n : Nd} {ns : List Int} (hn : ns.Nodup) (hm : no ∈ ns) : Ev N (updI N no (some n)) ns ns :=
 ⟨hn, fun x hx => .inl hx, fun x _ h2 => updI_ne (fun e => h2 (e ▸ hm)), fun x hx => by
  by_cases e : x = no
  ·exact .inl (e ▸ hm)
  ·rw [updI_ne e] at hx; by_cases h : x ∈ ns
   ·exact .inl h
   ·exact .inr ⟨hx, h⟩⟩
theorem Ev.new {N : Nodes} {f : Int} {n : Nd} {ns ns' : List Int} (hn : ns'.Nodup) (hf : N f = none) (h1 : ∀ x ∈ ns', x ∈ ns ∨ x = f) (h2 : ∀ x ∈ ns, x ∈ ns') (h3 : f ∈ ns') : Ev N (updI N f (some n)) ns ns' :=
 ⟨hn, fun x hx => by
  rcases h1 x hx with h | h
  ·exact .inl h
  ·subst h; exact .inr hf, fun x hx _ => updI_ne (fun e => hx (e ▸ hf)), fun x hx => by
  by_cases e : x = f
  ·exact .inl (e ▸ h3)
  ·rw [updI_ne e] at hx; by_cases h : x ∈ ns
   ·exact .inl (h2 x h)
   ·exact .inr ⟨hx, h⟩⟩
theorem Ev.del {N : Nodes} {b : Int} {ns ns' : List Int} (hn : ns'.Nodup) (h1 : ∀ x ∈ ns', x ∈ ns) (h2 : ∀ x ∈ ns, x ∈ ns' ∨ x = b) (h3 : b ∈ ns) : Ev N (updI N b none) ns ns' :=
 ⟨hn, fun x hx => .inl (h1 x hx), fun x _ hx => updI_ne (fun e => hx (e ▸ h3)), fun x hx => by
  by_cases e : x = b
  ·subst e; simp at hx
  ·rw [updI_ne e] at hx; by_cases h : x ∈ ns
   ·rcases h2 x h with h | h
    ·exact .inl h
    ·exact absurd h e
   ·exact .inr ⟨hx, h⟩⟩
section
variable {z h : Nat} {N N' : Nodes} {no : Int} {lo : Bytes} {hi : Option Bytes} {ns : List Int} {es : Es}
theorem Ch.some {c : Nat} {ps : List (Bytes × Nat)} {S : Int → Bytes → Option Bytes → List Int → Es → Prop} (hc : Ch S lo hi c ps ns es) (hS : ∀ x l u n e, S x l u n e → ∀ y ∈ n, N y ≠ none) : ∀ y ∈ ns, N y ≠ none := by
 induction ps generalizing lo c ns es with
 | nil => exact hS _ _ _ _ _ hc
 | cons p r ih =>
   obtain ⟨k, d⟩ := p; obtain ⟨n1, n2, e1, e2, rfl, rfl, h1, h2⟩ := hc; intro y hy; rcases List.mem_append.1 hy with hy | hy
   ·exact hS _ _ _ _ _ h1 y hy
   ·exact ih h2 y hy
theorem Bn.some (s : Bn z N h no lo hi ns es) : ∀ x ∈ ns, N x ≠ none := by
 induction h generalizing no lo hi ns es with
 | zero => exact s.elim
 | succ h ih =>
   obtain ⟨n, hn, -, -, ⟨-, -, rfl, -⟩ | ⟨-, -, c, ps, ns', -, -, rfl, -, hc⟩⟩ := s
   ·intro x hx; simp at hx; subst hx; rw [hn]; simp
   ·intro x hx; rcases List.mem_cons.1 hx with rfl | hx
    ·rw [hn]; simp
    ·exact hc.some (fun x l u n e hx => ih hx) x hx
theorem Bn.keep (s : Bn z N h no lo hi ns es) {nm nm' : List Int} (e : Ev N N' nm nm') (hd : ∀ x ∈ ns, x ∉ nm) : Bn z N' h no lo hi ns es :=
 s.move fun x hx => e.d2 x (s.some x hx) (hd x hx)

theorem insE_ok {k v : Bytes} (h : EsOk z es) (h1 : 1 ≤ k.length ∧ k.length ≤ 64) (h2 : 3 + k.length + v.length ≤ mostE z) : EsOk z (insE es k v) :=
 ⟨fun x hx => by
  unfold insE at hx; rcases List.mem_append.1 hx with hx | hx
  ·exact h.one x (List.mem_of_mem_take hx)
  ·rcases List.mem_cons.1 hx with rfl | hx
   ·exact ⟨h1.1, h1.2, h2⟩
   ·exact h.one x (List.mem_of_mem_drop hx), insE_rise h.rise⟩
theorem entB_take_drop (es : Es) (i : Nat) : entB (es.take i) + entB (es.drop i) = entB es := by rw [← entB_app, List.take_append_drop]
theorem insE_entB {k v : Bytes} : entB (insE es k v) ≤ entB es + (3 + k.length + v.length) := by
 have h1 := entB_take_drop es (posE es k)
 unfold insE
 rw [entB_app, entB_cons]
 split
 ·have : entB (es.drop (posE es k + 1)) ≤ entB (es.drop (posE es k)) := by
   have := entB_take_drop (es.drop (posE es k)) 1; rw [List.drop_drop] at this; omega
  simp only; omega
 ·simp only; omega
theorem insE_in {k v : Bytes} (h : ∀ x ∈ es, inB lo hi x.1) (hk : inB lo hi k) : ∀ x ∈ insE es k v, inB lo hi x.1 := by
 intro x hx
 unfold insE at hx
 rcases List.mem_append.1 hx with hx | hx
 ·exact h x (List.mem_of_mem_take hx)
 ·rcases List.mem_cons.1 hx with rfl | hx
  ·exact hk
  ·exact h x (List.mem_of_mem_drop hx)

def One (z h : Nat) (N N' : Nodes) (no : Int) (lo : Bytes) (hi : Option Bytes) (ns : List Int) (es' : Es) : Prop := ∃ ns', Bn z N' h no lo hi ns' es' ∧ Ev N N' ns ns'
def Two (z h : Nat) (N N' : Nodes) (no : Int) (lo : Bytes) (hi : Option Bytes) (ns : List Int) (es' : Es) (up : Bytes) (more : Nat) : Prop := ∃ n1 n2 e1 e2, es' = e1 ++ e2 ∧ Bn z N' h no lo (some up) n1 e1 ∧ Bn z N' h (more : Int) up hi n2 e2 ∧ Ev N N' ns (n1 ++ n2) ∧ inB lo hi up ∧ lt lo up = true ∧ (1 ≤ up.length ∧ up.length ≤ 64) ∧ (∀ m, N' no = some m → ¬ m.low z) ∧ Full z N' more ∧ more ≠ 0

theorem put_leaf1 {k v : Bytes} (hz : sizeOk z) (s : Bn z N 1 no lo hi ns es) (hk : inB lo hi k) (h1 : 1 ≤ k.length ∧ k.length ≤ 64) (h2 : 3 + k.length + v.length ≤ mostE z) (hb : 3 + entB (insE es k v) ≤ z) :
  One z 1 N (updI N no (some (leafNd (insE es k v)))) no lo hi ns (insE es k v) := by
 obtain ⟨z1, z2, -⟩ := hz
 obtain ⟨hn, rfl, bi, -, cx⟩ := s.leaf (by omega)
 exact ⟨[no], Bn.of_leaf (by omega) (updI_same _ _ _) (insE_ok bi h1 h2) hb (insE_in cx hk), Ev.one (by rw [hn]; simp)⟩
theorem put_leaf2 {k v : Bytes} {f : Nat} (hz : sizeOk z) (s : Bn z N 1 no lo hi ns es) (hk : inB lo hi k) (h1 : 1 ≤ k.length ∧ k.length ≤ 64) (h2 : 3 + k.length + v.length ≤ mostE z) (hb : z < 3 + entB (insE es k v)) (hf : N (f : Int) = none) (vA : f ≠ 0) :
  ∃ up, ((insE es k v)[halfOf (sizes (insE es k v))]?).map (·.1) = some up ∧
  Two z 1 N (updI (updI N no (some (leafNd ((insE es k v).take (halfOf (sizes (insE es k v))))))) (f : Int) (some (leafNd ((insE es k v).drop (halfOf (sizes (insE es k v))))))) no lo hi ns (insE es k v) up f := by
 have gy := hz
 obtain ⟨z1, z2, -⟩ := gy
 obtain ⟨hn, rfl, bi, gD, cx⟩ := s.leaf (by omega)
 have gE := insE_ok (v := v) bi h1 h2
 have dh := insE_in (v := v) cx hk
 have dr := insE_entB (es := es) (k := k) (v := v)
 obtain ⟨a1, a2, a3, a4, a5, a6⟩ := cut_ok hz gE hb (by omega)
 revert gE dh a1 a2 a3 a4 a5 a6
 generalize insE es k v = E
 generalize halfOf (sizes E) = m
 intro gE dh a1 a2 a3 a4 a5 a6
 have kh : no ≠ (f : Int) := fun e => by rw [e, hf] at hn; cases hn
 have hg : E[m]? = some E[m] := List.getElem?_eq_getElem a2
 have eu : E[m] ∈ E := List.getElem_mem a2
 have hr := gE.rise
 have eJ : (E.map (·.1))[m]? = some E[m].1 := by rw [List.getElem?_map, hg]; rfl
 have hl : ∀ x ∈ E.take m, lt x.1 E[m].1 = true := fun x hx => by
  obtain ⟨j, hj, rfl⟩ := List.getElem_of_mem hx; have iD : j < m := by simp at hj; omega
  have aZ : (E.map (·.1))[j]? = some ((E.take m)[j]).1 := by rw [List.getElem?_map, List.getElem?_eq_getElem (show j < E.length by omega)]; simp
  exact hr.get iD aZ eJ
 have mQ : ∀ x ∈ E.drop m, lt x.1 E[m].1 = false := fun x hx => by
  obtain ⟨j, hj, rfl⟩ := List.getElem_of_mem hx; simp only [List.getElem_drop]; rcases Nat.eq_zero_or_pos j with h0 | h0
  ·subst h0; exact lt_irrefl _
  ·refine lt_asymm (hr.get (show m < m + j by omega) eJ ?_); rw [List.getElem?_map, List.getElem?_eq_getElem (by simp at hj; omega)]
   rfl
 refine ⟨E[m].1, by rw [hg]; rfl, [no], [(f : Int)], E.take m, E.drop m, by rw [List.take_append_drop], ?_, ?_, ?_, dh _ eu, ?_, ⟨(gE.one _ eu).1, (gE.one _ eu).2.1⟩, ?_, ?_, vA⟩
 ·refine Bn.of_leaf (by omega) (by rw [updI_ne kh]; simp) (gE.sub (List.take_sublist _ _)) a3 fun x hx => ⟨(dh x (List.mem_of_mem_take hx)).1, fun u hu => by cases hu; exact hl x hx⟩
 ·refine Bn.of_leaf (by omega) (updI_same _ _ _) (gE.sub (List.drop_sublist _ _)) a4 fun x hx => ⟨mQ x hx, (dh x (List.mem_of_mem_drop hx)).2⟩
 ·have e1 : Ev N (updI N no (some (leafNd (E.take m)))) [no] [no] := Ev.one (by rw [hn]; simp); refine e1.trans (Ev.new (by simp [kh]) (by rw [updI_ne kh.symm]; exact hf) (fun x hx => by simpa using hx) (fun x hx => by simp at hx; simp [hx]) (by simp))
 ·obtain ⟨x, hx⟩ : ∃ x, x ∈ E.take m := by
   cases hE : E.take m with
   | nil => have := congrArg List.length hE; rw [List.length_take, List.length_nil] at this; omega
   | cons x r => exact ⟨x, List.mem_cons_self ..⟩
  exact le_lt_trans (dh x (List.mem_of_mem_take hx)).1 (hl x hx)
 ·intro q hq; rw [updI_ne kh, updI_same] at hq; cases hq; exact a5
 ·intro q hq; rw [updI_same] at hq; cases hq; exact a6
end
set_option maxRecDepth 100000

abbrev KZ : Int → Value := fun z => Value.int .i64 z
structure Pl where
 b : Nat
 kv : Value
 vv : Value
 cv : Value
def Pl.fp (q : Pl) (k : Nat) : Prop := k = q.b ∨ q.kv.ownBlock = some k ∨ q.vv.ownBlock = some k ∨ q.cv.ownBlock = some k
structure NdM (w : World) (n : Nd) (q : Pl) : Prop where
 blk : Blk w q.b [.bool n.leaf, q.kv, q.vv, q.cv] 84
 keys : Sl w q.kv 9 1 n.keys.length (n.keys.map S)
 vals : Sl w q.vv 9 1 n.vals.length (n.vals.map S)
 kids : Sl w q.cv 89 1 n.kids.length (n.kids.map u32v)
 bd : n.Bd
 d1 : q.kv.ownBlock ≠ some q.b ∧ q.vv.ownBlock ≠ some q.b ∧ q.cv.ownBlock ≠ some q.b
 d2 : ∀ k, q.kv.ownBlock = some k → q.vv.ownBlock ≠ some k ∧ q.cv.ownBlock ≠ some k
 d3 : ∀ k, q.vv.ownBlock = some k → q.cv.ownBlock ≠ some k
theorem NdM.kp {S : Nat → Prop} {w w' : World} {n : Nd} {q : Pl} (h : NdM w n q) (k : Kp S w w') (hs : ∀ i, q.fp i → ¬ S i) : NdM w' n q :=
 ⟨k.blk h.blk (hs _ (.inl rfl)), h.keys.kp k (fun g hg => hs g (.inr (.inl hg))), h.vals.kp k (fun g hg => hs g (.inr (.inr (.inl hg)))), h.kids.kp k (fun g hg => hs g (.inr (.inr (.inr hg)))), h.bd, h.d1, h.d2, h.d3⟩
theorem NdM.lt {w : World} {n : Nd} {q : Pl} (h : NdM w n q) : ∀ i, q.fp i → i < w.heap.size := fun i hi => by
 rcases hi with rfl | hi | hi | hi
 ·exact h.blk.lt
 ·exact h.keys.lt hi
 ·exact h.vals.lt hi
 ·exact h.kids.lt hi
theorem NdM.r {w : World} {n : Nd} {q : Pl} (h : NdM w n q) : NdR w n q.kv q.vv q.cv := ⟨h.keys.rd, h.vals.rd, h.kids.rd⟩

structure Tr where
 size : Nat
 root : Int
 count : Nat
 nodes : Nodes
 given : List Int
 changed : Int → Bool
 old : Int → Bool
def Tr.setN (T : Tr) (no : Int) (n : Nd) : Tr := { T with nodes := updI T.nodes no (some n) }
def Tr.mark (T : Tr) (no : Int) : Tr := { T with changed := updI T.changed no true }
def trCs (T : Tr) (mN mC mO : Nat) (gv : Value) : List Value := [I (T.size : Int), I T.root, I (mostE T.size : Int), I (orderE T.size : Int), I (T.count : Int), .map (some mN), gv, .map (some mC), .map (some mO)]
def flag (b : Bool) : Option Value := if b then some (I 1) else none
structure TrM (w : World) (p : Nat) (T : Tr) (mN mC mO : Nat) (gv : Value) (pl : Int → Pl) : Prop where
 blk : Blk w p (trCs T mN mC mO gv) 74
 nm : ∃ kv, MapB KZ w mN kv ∧ ∀ no, getL kv no = (T.nodes no).map fun _ => ptr (pl no).b 0
 cm : ∃ kv, MapB KZ w mC kv ∧ ∀ no, getL kv no = flag (T.changed no)
 om : ∃ kv, MapB KZ w mO kv ∧ ∀ no, getL kv no = flag (T.old no)
 gs : Sl w gv 3 1 T.given.length (T.given.map I)
 nd : ∀ no n, T.nodes no = some n → NdM w n (pl no)
 dis : ∀ no n no' n', T.nodes no = some n → T.nodes no' = some n' → no ≠ no' → ∀ k, (pl no).fp k → ¬ (pl no').fp k
 top : ∀ no n, T.nodes no = some n → ∀ k, (pl no).fp k → k ≠ p ∧ k ≠ mN ∧ k ≠ mC ∧ k ≠ mO ∧ gv.ownBlock ≠ some k
 apart : p ≠ mN ∧ p ≠ mC ∧ p ≠ mO ∧ mN ≠ mC ∧ mN ≠ mO ∧ mC ≠ mO
 ga : ∀ k, gv.ownBlock = some k → k ≠ p ∧ k ≠ mN ∧ k ≠ mC ∧ k ≠ mO
 z : sizeOk T.size
def fpT (p : Nat) (T : Tr) (mN mC mO : Nat) (gv : Value) (pl : Int → Pl) (k : Nat) : Prop := k = p ∨ k = mN ∨ k = mC ∨ k = mO ∨ gv.ownBlock = some k ∨ ∃ no n, T.nodes no = some n ∧ (pl no).fp k
def TreeA (w : World) (p : Nat) (T : Tr) (nb : Int → Nat) (F : Nat → Prop) : Prop := ∃ mN mC mO gv pl, TrM w p T mN mC mO gv pl ∧ (∀ no, (pl no).b = nb no) ∧ ∀ k, F k ↔ fpT p T mN mC mO gv pl k
section
variable {w w' : World} {p : Nat} {T : Tr} {nb : Int → Nat} {F : Nat → Prop} {no : Int} {n : Nd}
theorem TreeA.lt (h : TreeA w p T nb F) : ∀ k, F k → k < w.heap.size := fun k hk => by
 obtain ⟨mN, mC, mO, gv, pl, M, -, hF⟩ := h
 rcases (hF k).1 hk with rfl | rfl | rfl | rfl | hk | ⟨no, n, hn, hk⟩
 ·exact M.blk.lt
 ·obtain ⟨kv, h, -⟩ := M.nm; exact h.lt
 ·obtain ⟨kv, h, -⟩ := M.cm; exact h.lt
 ·obtain ⟨kv, h, -⟩ := M.om; exact h.lt
 ·exact M.gs.lt hk
 ·exact (M.nd no n hn).lt k hk
theorem TreeA.kp {S : Nat → Prop} (h : TreeA w p T nb F) (k : Kp S w w') (hs : ∀ i, F i → ¬ S i) : TreeA w' p T nb F := by
 obtain ⟨mN, mC, mO, gv, pl, M, hb, hF⟩ := h
 have cn : ∀ i, fpT p T mN mC mO gv pl i → ¬ S i := fun i hi => hs i ((hF i).2 hi)
 obtain ⟨kn, dj, dZ⟩ := M.nm
 obtain ⟨kc, cJ, dE⟩ := M.cm
 obtain ⟨ko, dK, fA⟩ := M.om
 exact ⟨mN, mC, mO, gv, pl, ⟨k.blk M.blk (cn _ (.inl rfl)), ⟨kn, dj.kp k (cn _ (.inr (.inl rfl))), dZ⟩, ⟨kc, cJ.kp k (cn _ (.inr (.inr (.inl rfl)))), dE⟩, ⟨ko, dK.kp k (cn _ (.inr (.inr (.inr (.inl rfl))))), fA⟩, M.gs.kp k (fun g hg => cn g (.inr (.inr (.inr (.inr (.inl hg)))))), fun no n hn => (M.nd no n hn).kp k (fun i hi => cn i (.inr (.inr (.inr (.inr (.inr ⟨no, n, hn, hi⟩)))))), M.dis, M.top, M.apart, M.ga, M.z⟩, hb, hF⟩
theorem TreeA.ext (h : TreeA w p T nb F) (k : Ext w w') : TreeA w' p T nb F := h.kp k fun _ _ => id
theorem TreeA.nodeF (h : TreeA w p T nb F) (hn : T.nodes no = some n) : ∃ q : Pl, q.b = nb no ∧ NdM w n q ∧ (∀ k, q.fp k → F k ∧ k ≠ p) ∧
  ∀ (w' : World) (n' : Nd) (q' : Pl), q'.b = q.b → NdM w' n' q' → Kp q.fp w w' → (∀ k, q'.fp k → q.fp k ∨ ¬ F k) → ∃ F', TreeA w' p (T.setN no n') nb F' ∧ ∀ k, F' k → F k ∨ q'.fp k := by
 have ah := h.lt
 obtain ⟨mN, mC, mO, gv, pl, M, hb, hF⟩ := h
 have hM := M.nd no n hn
 have gF := M.top no n hn
 refine ⟨pl no, hb no, hM, fun k hk => ⟨(hF k).2 (.inr (.inr (.inr (.inr (.inr ⟨no, n, hn, hk⟩))))), (gF k hk).1⟩, fun w' n' q' hq ic hk dF => ?_⟩
 have dl : ∀ x, (updI pl no q' x).b = nb x := fun x => by
  by_cases e : x = no
  ·subst e; rw [updI_same, hq, hb]
  ·rw [updI_ne e, hb]
 have Il : ∀ k, (pl no).fp k → k < w.heap.size := hM.lt
 obtain ⟨kn, dj, dZ⟩ := M.nm
 obtain ⟨kc, cJ, dE⟩ := M.cm
 obtain ⟨ko, dK, fA⟩ := M.om
 have Fm := M.blk.lt
 refine ⟨fpT p (T.setN no n') mN mC mO gv (updI pl no q'), ⟨mN, mC, mO, gv, updI pl no q', ⟨?_, ⟨kn, dj.kp hk (fun h => (gF _ h).2.1 rfl), fun x => ?_⟩, ⟨kc, cJ.kp hk (fun h => (gF _ h).2.2.1 rfl), dE⟩, ⟨ko, dK.kp hk (fun h => (gF _ h).2.2.2.1 rfl), fA⟩, M.gs.kp hk (fun g hg h => (gF g h).2.2.2.2 hg), fun x m hx => ?_, fun x m y m' hx hy hU k aC am => ?_, fun x m hx k hk => ?_, M.apart, M.ga, M.z⟩, dl, fun k => Iff.rfl⟩, fun k hk => ?_⟩
 ·exact hk.blk M.blk (fun h => (gF _ h).1 rfl)
 ·rw [dZ x, dl x, hb x]; show _ = (updI T.nodes no (some n') x).map _; by_cases e : x = no
  ·subst e; rw [updI_same, hn]; rfl
  ·rw [updI_ne e]
 ·by_cases e : x = no
  ·subst e; rw [updI_same]; have : (some n' : Option Nd) = some m := by rw [← hx]; exact (updI_same _ _ _).symm
   cases this; exact ic
  ·rw [updI_ne e]; have aZ : T.nodes x = some m := by rw [← hx]; exact (updI_ne e).symm
   exact (M.nd x m aZ).kp hk (fun i hi h => M.dis x m no n aZ hn e i hi h)
 ·have old : ∀ {x m}, (T.setN no n').nodes x = some m → x ≠ no → T.nodes x = some m := fun {x m} hx e => by rw [← hx]; exact (updI_ne e).symm
  by_cases e1 : x = no
  ·subst e1; rw [updI_same] at aC; rw [updI_ne (Ne.symm hU)] at am; have mr := old hy (Ne.symm hU); rcases dF k aC with h | h
   ·exact M.dis x n y m' hn mr hU k h am
   ·exact h ((hF k).2 (.inr (.inr (.inr (.inr (.inr ⟨y, m', mr, am⟩))))))
  ·rw [updI_ne e1] at aC; have aZ := old hx e1; by_cases e2 : y = no
   ·subst e2; rw [updI_same] at am; rcases dF k am with h | h
    ·exact M.dis x m y n aZ hn hU k aC h
    ·exact h ((hF k).2 (.inr (.inr (.inr (.inr (.inr ⟨x, m, aZ, aC⟩))))))
   ·rw [updI_ne e2] at am; exact M.dis x m y m' aZ (old hy e2) hU k aC am
 ·by_cases e : x = no
  ·subst e; rw [updI_same] at hk; rcases dF k hk with h | h
   ·exact gF k h
   ·exact ⟨fun e => h ((hF k).2 (.inl e)), fun e => h ((hF k).2 (.inr (.inl e))), fun e => h ((hF k).2 (.inr (.inr (.inl e)))), fun e => h ((hF k).2 (.inr (.inr (.inr (.inl e))))), fun e => h ((hF k).2 (.inr (.inr (.inr (.inr (.inl e))))))⟩
  ·rw [updI_ne e] at hk; exact M.top x m (by rw [← hx]; exact (updI_ne e).symm) k hk
 ·rcases hk with h | h | h | h | h | ⟨x, m, hx, hk⟩
  ·exact .inl ((hF k).2 (.inl h))
  ·exact .inl ((hF k).2 (.inr (.inl h)))
  ·exact .inl ((hF k).2 (.inr (.inr (.inl h))))
  ·exact .inl ((hF k).2 (.inr (.inr (.inr (.inl h)))))
  ·exact .inl ((hF k).2 (.inr (.inr (.inr (.inr (.inl h))))))
  ·by_cases e : x = no
   ·subst e; rw [updI_same] at hk; exact .inr hk
   ·rw [updI_ne e] at hk; exact .inl ((hF k).2 (.inr (.inr (.inr (.inr (.inr ⟨x, m, by rw [← hx]; exact (updI_ne e).symm, hk⟩))))))
theorem TreeA.node (h : TreeA w p T nb F) (hn : T.nodes no = some n) : ∃ q : Pl, q.b = nb no ∧ NdM w n q ∧ (∀ k, q.fp k → F k ∧ k ≠ p) ∧
  ∀ (w' : World) (n' : Nd) (q' : Pl), q'.b = q.b → NdM w' n' q' → Kp q.fp w w' → (∀ k, q'.fp k → q.fp k ∨ w.heap.size ≤ k) → ∃ F', TreeA w' p (T.setN no n') nb F' ∧ ∀ k, F' k → F k ∨ w.heap.size ≤ k := by
 have ah := h.lt
 obtain ⟨q, h1, h2, h3, h4⟩ := h.nodeF hn
 refine ⟨q, h1, h2, h3, fun w' n' q' e1 e2 e3 e4 => ?_⟩
 obtain ⟨F', a, b⟩ := h4 w' n' q' e1 e2 e3 (fun k hk => (e4 k hk).elim .inl (fun e => .inr (fun f => by have := ah k f; omega)))
 exact ⟨F', a, fun k hk => (b k hk).elim .inl (fun e => (e4 k e).elim (fun f => .inl (h3 k f).1) .inr)⟩
theorem Blk.inj {w : World} {b : Nat} {cs cs' : List Value} {T T' : TypeId} (h : Blk w b cs T) (h' : Blk w b cs' T') : cs = cs' := by
 obtain ⟨f, h1, -⟩ := h
 obtain ⟨f', zM, -⟩ := h'
 rw [h1] at zM
 simpa using congrArg (fun o => match o with | some (Obj.cells c _ _) => c.toList | _ => []) zM
theorem NdM.uniq {w : World} {n n' : Nd} {q q' : Pl} (h : NdM w n q) (h' : NdM w n' q') (e : q.b = q'.b) : q = q' := by
 obtain ⟨b, kv, vv, cv⟩ := q
 obtain ⟨b', kv', vv', cv'⟩ := q'
 dsimp only at e
 subst e
 have := Blk.inj h.blk h'.blk
 simp at this
 obtain ⟨-, rfl, rfl, rfl⟩ := this
 rfl
theorem TreeA.two (h : TreeA w p T nb F) {x y : Int} {m : Nd} {q1 q2 : Pl} (hn : T.nodes x = some n) (hm : T.nodes y = some m) (dY : x ≠ y) (h1 : NdM w n q1) (e1 : q1.b = nb x) (h2 : NdM w m q2) (e2 : q2.b = nb y) : ∀ k, q1.fp k → ¬ q2.fp k := by
 obtain ⟨mN, mC, mO, gv, pl, M, hb, hF⟩ := h
 rw [h1.uniq (M.nd x n hn) (by rw [e1, hb]), h2.uniq (M.nd y m hm) (by rw [e2, hb])]
 exact M.dis x n y m hn hm dY
end
section
variable {w : World} {p : Nat} {T : Tr} {nb : Int → Nat} {F : Nat → Prop}
structure TrO (w : World) (p : Nat) (T : Tr) (nb : Int → Nat) (F : Nat → Prop) (mN mC mO : Nat) (gv : Value) (kn kc ko : List (Int × Value)) : Prop where
 blk : Blk w p (trCs T mN mC mO gv) 74
 nm : MapB KZ w mN kn
 ng : ∀ no, getL kn no = (T.nodes no).map fun _ => ptr (nb no) 0
 cm : MapB KZ w mC kc
 cg : ∀ no, getL kc no = flag (T.changed no)
 om : MapB KZ w mO ko
 og : ∀ no, getL ko no = flag (T.old no)
 gs : Sl w gv 3 1 T.given.length (T.given.map I)
 z : sizeOk T.size
 fp : F p ∧ F mN ∧ F mC ∧ F mO ∧ ∀ k, gv.ownBlock = some k → F k
 ne : mN ≠ p ∧ mC ≠ p ∧ mO ≠ p ∧ gv.ownBlock ≠ some p
 ap : mN ≠ mC ∧ mN ≠ mO ∧ mC ≠ mO
 top : ∀ no n q, T.nodes no = some n → NdM w n q → q.b = nb no → ∀ k, q.fp k → k ≠ p ∧ k ≠ mN ∧ k ≠ mC ∧ k ≠ mO ∧ gv.ownBlock ≠ some k
 setC : ∀ w' kv' ch', MapB KZ w' mC kv' → Kp (fun k => k = mC) w w' → (∀ no, getL kv' no = flag (ch' no)) → TreeA w' p { T with changed := ch' } nb F
 setO : ∀ w' kv' ch', MapB KZ w' mO kv' → Kp (fun k => k = mO) w w' → (∀ no, getL kv' no = flag (ch' no)) → TreeA w' p { T with old := ch' } nb F
 setB : ∀ w' root' count', Blk w' p (trCs { T with root := root', count := count' } mN mC mO gv) 74 → Kp (fun k => k = p) w w' → TreeA w' p { T with root := root', count := count' } nb F
 setG : ∀ w' gv' g', Blk w' p (trCs T mN mC mO gv') 74 → Sl w' gv' 3 1 g'.length (g'.map I) → Kp (fun k => k = p ∨ gv.ownBlock = some k) w w' → (∀ k, gv'.ownBlock = some k → gv.ownBlock = some k ∨ w.heap.size ≤ k) → ∃ F', TreeA w' p { T with given := g' } nb F' ∧ ∀ k, F' k → F k ∨ w.heap.size ≤ k
 delN : ∀ w' kv' no, MapB KZ w' mN kv' → Kp (fun k => k = mN) w w' → (∀ x, getL kv' x = if x = no then none else getL kn x) → ∃ F', TreeA w' p { T with nodes := updI T.nodes no none } nb F' ∧ ∀ k, F' k → F k
 newN : ∀ w' kv' no n (q : Pl), NdM w' n q → MapB KZ w' mN kv' → Kp (fun k => k = mN) w w' → (∀ x, getL kv' x = if x = no then some (ptr q.b 0) else getL kn x) → T.nodes no = none → (∀ k, q.fp k → ¬ F k) → ∃ F', TreeA w' p (T.setN no n) (updI nb no q.b) F' ∧ ∀ k, F' k → F k ∨ q.fp k
theorem TreeA.opn (h : TreeA w p T nb F) : ∃ mN mC mO gv kn kc ko, TrO w p T nb F mN mC mO gv kn kc ko := by
 obtain ⟨mN, mC, mO, gv, pl, M, hb, hF⟩ := h
 obtain ⟨kn, dj, dZ⟩ := M.nm
 obtain ⟨kc, cJ, dE⟩ := M.cm
 obtain ⟨ko, dK, fA⟩ := M.om
 obtain ⟨a1, a2, a3, a4, a5, a6⟩ := M.apart
 have ah : ∀ k, fpT p T mN mC mO gv pl k → k < w.heap.size := fun k hk => TreeA.lt (F := fpT p T mN mC mO gv pl) ⟨mN, mC, mO, gv, pl, M, hb, fun _ => Iff.rfl⟩ k hk
 refine ⟨mN, mC, mO, gv, kn, kc, ko, M.blk, dj, fun no => by rw [dZ no, hb no], cJ, dE, dK, fA, M.gs, M.z, ⟨(hF _).2 (.inl rfl), (hF _).2 (.inr (.inl rfl)), (hF _).2 (.inr (.inr (.inl rfl))), (hF _).2 (.inr (.inr (.inr (.inl rfl)))), fun k hk => (hF k).2 (.inr (.inr (.inr (.inr (.inl hk)))))⟩, ⟨a1.symm, a2.symm, a3.symm, fun hg => (M.ga p hg).1 rfl⟩, ⟨a4, a5, a6⟩, fun no n q hn hq e k hk => M.top no n hn k (by rw [← hq.uniq (M.nd no n hn) (by rw [e, hb])]; exact hk), ?_, ?_, ?_, ?_, ?_, ?_⟩
 ·intro w' kv' ch' hm hk hg; exact ⟨mN, mC, mO, gv, pl, ⟨hk.blk M.blk a2, ⟨kn, dj.kp hk a4, dZ⟩, ⟨kv', hm, hg⟩, ⟨ko, dK.kp hk a6.symm, fA⟩, M.gs.kp hk (fun g hg e => (M.ga g hg).2.2.1 e), fun no n hn => (M.nd no n hn).kp hk (fun i hi e => (M.top no n hn i hi).2.2.1 e), M.dis, M.top, M.apart, M.ga, M.z⟩, hb, hF⟩
 ·intro w' kv' ch' hm hk hg; exact ⟨mN, mC, mO, gv, pl, ⟨hk.blk M.blk a3, ⟨kn, dj.kp hk a5, dZ⟩, ⟨kc, cJ.kp hk a6, dE⟩, ⟨kv', hm, hg⟩, M.gs.kp hk (fun g hg e => (M.ga g hg).2.2.2 e), fun no n hn => (M.nd no n hn).kp hk (fun i hi e => (M.top no n hn i hi).2.2.2.1 e), M.dis, M.top, M.apart, M.ga, M.z⟩, hb, hF⟩
 ·intro w' root' count' hB hk; exact ⟨mN, mC, mO, gv, pl, ⟨hB, ⟨kn, dj.kp hk a1.symm, dZ⟩, ⟨kc, cJ.kp hk a2.symm, dE⟩, ⟨ko, dK.kp hk a3.symm, fA⟩, M.gs.kp hk (fun g hg e => (M.ga g hg).1 e), fun no n hn => (M.nd no n hn).kp hk (fun i hi e => (M.top no n hn i hi).1 e), M.dis, M.top, M.apart, M.ga, M.z⟩, hb, hF⟩
 ·intro w' gv' g' hB hS hk bB
  have ld : ∀ i, (i = p ∨ gv.ownBlock = some i) → fpT p T mN mC mO gv pl i := fun i hi => by
   rcases hi with h | h
   ·exact .inl h
   ·exact .inr (.inr (.inr (.inr (.inl h))))
  have hz := hk.size; refine ⟨fpT p { T with given := g' } mN mC mO gv' pl, ⟨mN, mC, mO, gv', pl, ⟨hB, ⟨kn, dj.kp hk (fun e => e.elim a1.symm (fun e => (M.ga _ e).2.1 rfl)), dZ⟩, ⟨kc, cJ.kp hk (fun e => e.elim a2.symm (fun e => (M.ga _ e).2.2.1 rfl)), dE⟩, ⟨ko, dK.kp hk (fun e => e.elim a3.symm (fun e => (M.ga _ e).2.2.2 rfl)), fA⟩, hS, fun no n hn => (M.nd no n hn).kp hk (fun i hi e => e.elim (M.top no n hn i hi).1 (M.top no n hn i hi).2.2.2.2), M.dis, fun no n hn k aS => ?_, M.apart, fun k aS => ?_, M.z⟩, hb, fun k => Iff.rfl⟩, fun k aS => ?_⟩
  ·obtain ⟨t1, t2, t3, t4, t5⟩ := M.top no n hn k aS; refine ⟨t1, t2, t3, t4, fun hg => ?_⟩; rcases bB k hg with h | h
   ·exact t5 h
   ·have := (M.nd no n hn).lt k aS; omega
  ·rcases bB k aS with h | h
   ·exact M.ga k h
   ·have l1 := ah p (.inl rfl); have l2 := ah mN (.inr (.inl rfl)); have l3 := ah mC (.inr (.inr (.inl rfl))); have l4 := ah mO (.inr (.inr (.inr (.inl rfl)))); exact ⟨by omega, by omega, by omega, by omega⟩
  ·rcases aS with h | h | h | h | h | h
   ·exact .inl ((hF k).2 (.inl h))
   ·exact .inl ((hF k).2 (.inr (.inl h)))
   ·exact .inl ((hF k).2 (.inr (.inr (.inl h))))
   ·exact .inl ((hF k).2 (.inr (.inr (.inr (.inl h)))))
   ·rcases bB k h with h | h
    ·exact .inl ((hF k).2 (.inr (.inr (.inr (.inr (.inl h))))))
    ·exact .inr h
   ·exact .inl ((hF k).2 (.inr (.inr (.inr (.inr (.inr h))))))
 ·intro w' kv' no hm hk hg
  have old : ∀ {x m}, updI T.nodes no none x = some m → T.nodes x = some m := fun {x m} hx => by
   by_cases e : x = no
   ·subst e; rw [updI_same] at hx; cases hx
   ·rw [updI_ne e] at hx; exact hx
  refine ⟨fpT p { T with nodes := updI T.nodes no none } mN mC mO gv pl, ⟨mN, mC, mO, gv, pl, ⟨hk.blk M.blk a1, ⟨kv', hm, fun x => ?_⟩, ⟨kc, cJ.kp hk a4.symm, dE⟩, ⟨ko, dK.kp hk a5.symm, fA⟩, M.gs.kp hk (fun g hg e => (M.ga g hg).2.1 e), fun x m hx => (M.nd x m (old hx)).kp hk (fun i hi e => (M.top x m (old hx) i hi).2.1 e), fun x m y m' hx hy => M.dis x m y m' (old hx) (old hy), fun x m hx => M.top x m (old hx), M.apart, M.ga, M.z⟩, hb, fun k => Iff.rfl⟩, fun k aS => ?_⟩
  ·rw [hg x, dZ x]; show _ = (updI T.nodes no none x).map _; by_cases e : x = no
   ·subst e; rw [if_pos rfl, updI_same]; rfl
   ·rw [if_neg e, updI_ne e]
  ·rcases aS with h | h | h | h | h | ⟨x, m, hx, h⟩
   ·exact (hF k).2 (.inl h)
   ·exact (hF k).2 (.inr (.inl h))
   ·exact (hF k).2 (.inr (.inr (.inl h)))
   ·exact (hF k).2 (.inr (.inr (.inr (.inl h))))
   ·exact (hF k).2 (.inr (.inr (.inr (.inr (.inl h)))))
   ·exact (hF k).2 (.inr (.inr (.inr (.inr (.inr ⟨x, m, old hx, h⟩)))))
 ·intro w' kv' no n q hq hm hk hg cw Fo; have sz : ∀ k, q.fp k → ¬ fpT p T mN mC mO gv pl k := fun k hk hf => Fo k hk ((hF k).2 hf); have old : ∀ {x m}, x ≠ no → (T.setN no n).nodes x = some m → T.nodes x = some m := fun {x m} e hx => by rw [← hx]; exact (updI_ne e).symm
  refine ⟨fpT p (T.setN no n) mN mC mO gv (updI pl no q), ⟨mN, mC, mO, gv, updI pl no q, ⟨hk.blk M.blk a1, ⟨kv', hm, fun x => ?_⟩, ⟨kc, cJ.kp hk a4.symm, dE⟩, ⟨ko, dK.kp hk a5.symm, fA⟩, M.gs.kp hk (fun g hg e => (M.ga g hg).2.1 e), fun x m hx => ?_, fun x m y m' hx hy hU k aC am => ?_, fun x m hx k aC => ?_, M.apart, M.ga, M.z⟩, fun x => ?_, fun k => Iff.rfl⟩, fun k aS => ?_⟩
  ·rw [hg x, dZ x]; show _ = (updI T.nodes no (some n) x).map _; by_cases e : x = no
   ·subst e; rw [if_pos rfl, updI_same, updI_same]; rfl
   ·rw [if_neg e, updI_ne e, updI_ne e]
  ·by_cases e : x = no
   ·subst e; rw [updI_same]; have : (some n : Option Nd) = some m := by rw [← hx]; exact (updI_same _ _ _).symm
    cases this; exact hq
   ·rw [updI_ne e]; exact (M.nd x m (old e hx)).kp hk (fun i hi e' => (M.top x m (old e hx) i hi).2.1 e')
  ·by_cases e1 : x = no
   ·subst e1; rw [updI_same] at aC; rw [updI_ne (Ne.symm hU)] at am; exact sz k aC (.inr (.inr (.inr (.inr (.inr ⟨y, m', old (Ne.symm hU) hy, am⟩)))))
   ·rw [updI_ne e1] at aC; by_cases e2 : y = no
    ·subst e2; rw [updI_same] at am; exact sz k am (.inr (.inr (.inr (.inr (.inr ⟨x, m, old e1 hx, aC⟩)))))
    ·rw [updI_ne e2] at am; exact M.dis x m y m' (old e1 hx) (old e2 hy) hU k aC am
  ·by_cases e : x = no
   ·subst e; rw [updI_same] at aC; have := sz k aC; exact ⟨fun h => this (.inl h), fun h => this (.inr (.inl h)), fun h => this (.inr (.inr (.inl h))), fun h => this (.inr (.inr (.inr (.inl h)))), fun h => this (.inr (.inr (.inr (.inr (.inl h)))))⟩
   ·rw [updI_ne e] at aC; exact M.top x m (old e hx) k aC
  ·by_cases e : x = no
   ·subst e; rw [updI_same, updI_same]
   ·rw [updI_ne e, updI_ne e, hb]
  ·rcases aS with h | h | h | h | h | ⟨x, m, hx, h⟩
   ·exact .inl ((hF k).2 (.inl h))
   ·exact .inl ((hF k).2 (.inr (.inl h)))
   ·exact .inl ((hF k).2 (.inr (.inr (.inl h))))
   ·exact .inl ((hF k).2 (.inr (.inr (.inr (.inl h)))))
   ·exact .inl ((hF k).2 (.inr (.inr (.inr (.inr (.inl h))))))
   ·by_cases e : x = no
    ·subst e; rw [updI_same] at h; exact .inr h
    ·rw [updI_ne e] at h; exact .inl ((hF k).2 (.inr (.inr (.inr (.inr (.inr ⟨x, m, old e hx, h⟩))))))
end
section
variable {κ : Type} [DecidableEq κ] {K : κ → Value}
def MapE (K : κ → Value) (w : World) (m : Nat) (kv : List (κ × Value)) (k : κ) (b : Nat) : Prop := (∃ (es : Array MapEntry) (clock i : Nat), w.heap[m]? = some (.map es clock) ∧ Ents K es.toList kv ∧ (∀ e ∈ es.toList, e.born < clock) ∧ (es.toList.map (·.born)).Nodup ∧ (es.toList.map (·.born))[i]? = some b ∧ (kv.map (·.1))[i]? = some k) ∧ (kv.map (·.1)).Nodup
theorem MapE.b {w : World} {m : Nat} {kv : List (κ × Value)} {k : κ} {b : Nat} (h : MapE K w m kv k b) : MapB K w m kv := by
 obtain ⟨⟨es, c, i, h1, h2, h3, h4, -, -⟩, h5⟩ := h
 exact ⟨⟨es, c, h1, h2, h3, h4⟩, h5⟩
theorem MapE.kp {S : Nat → Prop} {w w' : World} {m : Nat} {kv : List (κ × Value)} {k : κ} {b : Nat} (h : MapE K w m kv k b) (kk : Kp S w w') (hn : ¬ S m) : MapE K w' m kv k b := by
 obtain ⟨⟨es, c, i, h, he⟩, hd⟩ := h
 exact ⟨⟨es, c, i, kk.heap h hn, he⟩, hd⟩
theorem getL_idx {kv : List (κ × Value)} {k : κ} {v : Value} (h : getL kv k = some v) : ∃ i : Nat, kv[i]? = some (k, v) := by
 obtain ⟨i, hi, e⟩ := List.getElem_of_mem (getL_mem h)
 exact ⟨i, by rw [List.getElem?_eq_getElem hi, e]⟩
theorem putL_set : ∀ {kv : List (κ × Value)} {i : Nat} {k : κ} {u v : Value}, (kv.map (·.1)).Nodup → kv[i]? = some (k, u) → putL kv k v = kv.set i (k, v)
 | [], _, _, _, _, _, h => by simp at h
 | (a, x) :: r, 0, k, u, v, hn, h => by
   simp at h; obtain ⟨rfl, rfl⟩ := h
   simp [putL]
 | (a, x) :: r, i + 1, k, u, v, hn, h => by
   simp only [List.map_cons, List.nodup_cons] at hn; have h' : r[i]? = some (k, u) := by simpa using h
   have aT : k ≠ a := fun e => hn.1 (by
    subst e
    exact List.mem_map.2 ⟨(k, u), List.mem_of_getElem? h', rfl⟩)
   simp only [putL, aT, if_false, List.set_cons_succ, putL_set hn.2 h']
variable {P : Program} {e : Env} {d : Option Nat} {ty t kt el : TypeId} {pos : String} {aft : Array Edge} {g : Option (Nat × Bool)} {x y u : Operand} {w : World} {m : Nat} {kv : List (κ × Value)} {z : Value} {size bytes : Nat} {k : κ} {v : Value}
theorem pme (ht : P.underlying t = some (.map kt el)) (hK : Ky P kt K) (hz : TI P el z size bytes) (hx : look e x = some (.map (some m))) (hy : look e y = some (K k)) (hm : MapB K w m kv) :
  Yp P e ⟨d, .mapEntry t x y, ty, pos, aft, g⟩ w fun v' w' => ∃ b : Nat, v' = .tuple #[(getL kv k).getD z, I (b : Int)] ∧ MapE K w' m (putL kv k ((getL kv k).getD z)) k b ∧ Kp (fun i => i = m) w w' := by
 have ah := hm.lt
 obtain ⟨⟨es, c, hh, he, dL, cz⟩, hd⟩ := hm
 have qX := fun b => hK.same.choose_spec.2.2 w b 9999 k
 have hg : (getObj m).run P w = .ok (.map es c) w := by simp [getObj, Sem.run, hh]
 have fy : ∀ o, (setObj m o).run P w = .ok () (w.putObj m o) := fun o => by simp [setObj, Sem.run, hh, World.putObj]
 have Fp := hz.zero (w := w)
 cases eJ : getL kv k with
 | none =>
   have hf := findKey_none (P := P) (w := w) hK he eJ; refine ⟨_, w.putObj m (.map (es.push { key := K k, val := z, born := c }) (c + 1)), fun ρ hρ => ?_, c, rfl, ⟨⟨_, _, kv.length, World.putObj_heap_same ah, ?_, ?_, ?_, ?_, ?_⟩, ?_⟩, kp_putObj w m _⟩
   ·simp [execOp, hρ _ _ hx, hρ _ _ hy, Instr.mapEntry, run_underlying ht, hg, qX, hf, fy, Fp, goInt]
   ·rw [putL_new _ _ _ eJ]
    simpa [Ents] using he
   ·intro x hx; simp at hx; rcases hx with hx | rfl
    ·have := dL x (by simpa using hx); omega
    ·simp
   ·simp only [Array.toList_push, List.map_append, List.map_cons, List.map_nil]; refine List.nodup_append.2 ⟨cz, by simp, fun a ha b hb dY => ?_⟩; simp at hb; subst hb; subst dY; obtain ⟨x, hx, AC⟩ := List.mem_map.1 ha; have := dL x hx; omega
   ·have hl : es.size = kv.length := by have := congrArg List.length he; simpa using this
    simp [hl]
   ·rw [putL_new _ _ _ eJ]; simp
   ·rw [putL_new _ _ _ eJ, List.map_append, List.nodup_append]; refine ⟨hd, by simp, fun a ha b hb dY => ?_⟩; simp at hb; subst hb; subst dY
    exact getL_notin eJ ha
 | some v0 =>
   obtain ⟨j, hf, ⟨ej, sw, fX⟩, hJ⟩ := findKey_some (P := P) (w := w) hK he eJ
   have hj : j < es.size := by
    rcases Nat.lt_or_ge j es.size with h | h
    ·exact h
    ·rw [Array.getElem?_eq_none h] at sw; cases sw
   have fi : es.toList[j]? = some ej := by simpa using sw
   obtain ⟨i, hi⟩ := getL_idx eJ
   have fB : putL kv k v0 = kv := by
    rw [putL_set hd hi]; apply List.ext_getElem?; intro q; rw [List.getElem?_set]; split
    ·rename_i hq; subst hq
     split
     ·exact hi.symm
     ·rename_i mR; rw [List.getElem?_eq_none (by omega)]
    ·rfl
   have lE : (es.modify j fun e => { e with key := K k }).toList.map (·.born) = es.toList.map (·.born) := by
    apply List.ext_getElem?; intro i; simp only [Array.toList_modify, List.getElem?_map, List.getElem?_modify]; by_cases lA : j = i
    ·subst lA; simp; cases es[j]? <;> rfl
    ·simp [lA]
   have AF : ej.val = v0 := by
    have h0 := hJ ej.val
    -- the entry that was found bears v0
    obtain ⟨⟨td, hu, hs, -⟩, -⟩ := hK; have qY : (Instr.findKey kt (K k) es.toList).run P w = .ok (some (j, v0)) w := hf; obtain ⟨j2, AE, ⟨e2, fP, am⟩, lB⟩ := findNow_some hs 0 he eJ; have mt : (Instr.findKey kt (K k) es.toList).run P w = .ok (some (0 + j2, v0)) w := by simp [Instr.findKey, run_underlying hu, AE]
    rw [qY] at mt; have Fq : j = j2 := by simpa using mt
    subst Fq; have e3 : e2 = ej := by rw [fi] at fP; exact (oinj fP).symm
    subst e3; have h4 := lB v0; rw [fB] at h4; have h5 := congrArg (fun l => (l[j]?).map (·.2)) (h4.trans he.symm); simp only [List.getElem?_map, List.getElem?_modify, if_true, fi, Option.map_some] at h5; exact (oinj h5).symm
   have ie := hJ v0; rw [fB] at ie
   have AG : (es.modify j fun e => { e with key := K k, val := v0 }) = es.modify j fun e => { e with key := K k } := by
    apply Array.ext_getElem?; intro q; simp only [Array.getElem?_modify]; split
    ·rename_i hq; subst hq; rw [sw]; simp [AF]
    ·rfl
   rw [AG] at ie; refine ⟨_, w.putObj m (.map (es.modify j fun e => { e with key := K k }) c), fun ρ hρ => ?_, ej.born, rfl, ⟨⟨_, _, j, World.putObj_heap_same ah, ?_, ?_, ?_, ?_, ?_⟩, ?_⟩, kp_putObj w m _⟩
   ·simp [execOp, hρ _ _ hx, hρ _ _ hy, Instr.mapEntry, run_underlying ht, hg, qX, hf, fy, sw, fX, Instr.keyThatStays, hK.bits, goInt]
   ·simp only [Option.getD_some]; rw [fB]; exact ie
   ·intro x hx; have : x.born ∈ es.toList.map (·.born) := by rw [← lE]; exact List.mem_map.2 ⟨x, hx, rfl⟩
    obtain ⟨y, hy, vz⟩ := List.mem_map.1 this; rw [← vz]; exact dL y hy
   ·rw [lE]; exact cz
   ·rw [lE, List.getElem?_map, fi]; rfl
   ·simp only [Option.getD_some]; rw [fB]; have h6 := congrArg (fun l => l[j]?) ie; simp only [List.getElem?_map, Array.toList_modify, List.getElem?_modify, if_true, fi, Option.map_some] at h6
    cases AH : kv[j]? with
    | none => rw [AH] at h6; cases h6
    | some q =>
      rw [AH] at h6; have h7 := (Prod.mk.inj (oinj h6)).1
      have h8 : decide (k = q.1) = true := by
       have h9 := hK.same.choose_spec.2.1 k q.1; have mS := hK.same.choose_spec.2.1 k k; have Fr : K k = K q.1 := h7; rw [← Fr, mS] at h9
       simpa using h9
      rw [List.getElem?_map, AH]; simp at h8; simp [h8]
   ·simp only [Option.getD_some]; rw [fB]; exact hd
theorem zes {b : Nat} (hx : look e x = some (.map (some m))) (hy : look e y = some (I (b : Int))) (hu : look e u = some v) (hm : MapE K w m kv k b) :
  Zp P e ⟨d, .entryStore t x y u, ty, pos, aft, g⟩ w fun w' => MapB K w' m (putL kv k v) ∧ Kp (fun i => i = m) w w' := by
 have ah := hm.b.lt
 obtain ⟨⟨es, c, i, hh, he, dL, cz, zN, kZ⟩, hd⟩ := hm
 have hg : (getObj m).run P w = .ok (.map es c) w := by simp [getObj, Sem.run, hh]
 have fy : ∀ o, (setObj m o).run P w = .ok () (w.putObj m o) := fun o => by simp [setObj, Sem.run, hh, World.putObj]
 have cF : i < es.size := by
  rcases Nat.lt_or_ge i es.size with h | h
  ·exact h
  ·rw [List.getElem?_eq_none (by simpa using h)] at zN; cases zN
 have vD : es[i].born = b := by
  rw [List.getElem?_map, List.getElem?_eq_getElem (by simpa using cF)] at zN
  simpa using zN
 have AI : es.findIdx? (fun e => (e.born : Int) == (b : Int)) = some i := by
  rw [Array.findIdx?_eq_some_iff_getElem]; refine ⟨cF, by simp [vD], fun j hj => ?_⟩; have vF : j < es.size := by omega
  have := List.pairwise_iff_getElem.1 cz j i (by simpa using vF) (by simpa using cF) hj; simp at this; rw [vD] at this; simp; omega
 have cy : i < kv.length := by
  rcases Nat.lt_or_ge i kv.length with h | h
  ·exact h
  ·rw [List.getElem?_eq_none (by simpa using h)] at kZ; cases kZ
 have aC : kv[i].1 = k := by
  rw [List.getElem?_map, List.getElem?_eq_getElem cy] at kZ
  simpa using kZ
 have fB : putL kv k v = kv.set i (k, v) := putL_set (u := kv[i].2) hd (by rw [List.getElem?_eq_getElem cy, ← aC])
 have lE : (es.modify i fun e => { e with val := v }).toList.map (·.born) = es.toList.map (·.born) := by
  apply List.ext_getElem?; intro q; simp only [Array.toList_modify, List.getElem?_map, List.getElem?_modify]; by_cases hq : i = q
  ·subst hq; simp; cases es[i]? <;> rfl
  ·simp [hq]
 refine ⟨w.putObj m (.map (es.modify i fun e => { e with val := v }) c), fun ρ hρ => ?_, ⟨⟨_, _, World.putObj_heap_same ah, ?_, ?_, ?_⟩, ?_⟩, kp_putObj w m _⟩
 ·simp [execOp, hρ _ _ hx, hρ _ _ hy, hρ _ _ hu, Instr.entryStore, asInt, asIntOf, hg, AI, fy]
 ·rw [fB]; unfold Ents at he ⊢; apply List.ext_getElem?; intro q; have hq := congrArg (fun l => l[q]?) he; simp only [List.getElem?_map] at hq; simp only [Array.toList_modify, List.getElem?_map, List.getElem?_modify, List.getElem?_set]; by_cases e : i = q
  ·subst e; rw [List.getElem?_eq_getElem (by simpa using cF), List.getElem?_eq_getElem cy] at hq; simp only [Option.map_some, Option.some.injEq, Prod.mk.injEq] at hq; rw [List.getElem?_eq_getElem (by simpa using cF)]; have dM := hq.1; rw [aC] at dM; simp only [if_true, if_pos cy, Option.map_eq_map, Option.map_some]; rw [← dM]
  ·have hf : (fun a : MapEntry => if i = q then { a with val := v } else a) = id := by funext a; rw [if_neg e]; rfl
   rw [hf]; simp only [if_neg e]; rw [← hq]; cases es.toList[q]? <;> rfl
 ·intro x hx; have : x.born ∈ es.toList.map (·.born) := by rw [← lE]; exact List.mem_map.2 ⟨x, hx, rfl⟩
  obtain ⟨y, hy, vz⟩ := List.mem_map.1 this; rw [← vz]; exact dL y hy
 ·rw [lE]; exact cz
 ·rw [fB]
  have : (kv.set i (k, v)).map (·.1) = kv.map (·.1) := by
   rw [List.map_set]; apply List.ext_getElem?; intro q; rw [List.getElem?_set]; split
   ·rename_i hq; subst hq
    rw [if_pos (by simpa using cy)]; exact kZ.symm
   ·rfl
  rw [this]; exact hd
end
end Go.Proofs.YtocnhaoilnojmaaGreat
