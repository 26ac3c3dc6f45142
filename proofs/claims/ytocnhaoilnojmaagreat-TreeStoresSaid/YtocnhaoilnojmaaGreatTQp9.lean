/- Texts LwO, LwW, one behind the other (what the statement TreeStores does not use is left out). -/
import Derived.Test.YtocnhaoilnojmaaGreatTQp1
import Derived.Test.YtocnhaoilnojmaaGreatTQp8
import Derived.Test.YtocnhaoilnojmaaGreatTQp7
import Derived.Deep.Slices
import Derived.Deep.Strs
namespace Go.Proofs.YtocnhaoilnojmaaGreat
open Go Go.ChangeShapes Go.WideShapes Go.ChangeAt Go.RowKit Go.Deep
set_option linter.all false
set_option maxRecDepth 100000

/-! ### Rows of equal length -/
theorem flat_get {C : Nat → List Value} {k : Nat} : ∀ {n : Nat}, (∀ i, i < n → (C i).length = k) → ∀ i r, i < n → r < k → ((List.range n).flatMap C)[i * k + r]? = (C i)[r]?
 | 0, _, i, r, hi, _ => absurd hi (Nat.not_lt_zero _)
 | n + 1, hl, i, r, hi, hr => by
   have aM : ((List.range n).flatMap C).length = n * k := by
    have : ∀ m, m ≤ n → ((List.range m).flatMap C).length = m * k := fun m hm => by
     induction m with
     | zero => simp
     | succ m ih => rw [List.range_succ, List.flatMap_append, List.length_append, ih (by omega)]; simp [hl m (by omega)]; rw [Nat.succ_mul]
    exact this n (Nat.le_refl _)
   rw [List.range_succ, List.flatMap_append]; rcases Nat.lt_or_ge i n with h | h
   ·have ah : i * k + r < n * k := by
     have : (i + 1) * k ≤ n * k := Nat.mul_le_mul_right k h; rw [Nat.succ_mul] at this; omega
    rw [List.getElem?_append_left (by rw [aM]; exact ah)]; exact flat_get (fun j hj => hl j (by omega)) i r h hr
   ·have e : i = n := by omega
    subst e; rw [List.getElem?_append_right (by rw [aM]; omega), aM, show i * k + r - i * k = r by omega]; simp
theorem flat_length {C : Nat → List Value} {k n : Nat} (hl : ∀ i, i < n → (C i).length = k) : ((List.range n).flatMap C).length = n * k := by
 have : ∀ m, m ≤ n → ((List.range m).flatMap C).length = m * k := fun m hm => by
  induction m with
  | zero => simp
  | succ m ih => rw [List.range_succ, List.flatMap_append, List.length_append, ih (by omega)]; simp [hl m (by omega)]; rw [Nat.succ_mul]
 exact this n (Nat.le_refl _)
section
variable {H : Type} {enc : TypeId × Value → H} {P : Program} {W : World} {sp : Nat → Bool}

theorem rd_rows {a : Addr} {len cap size : Nat} {C : Nat → List Value} (hs : 0 < size) (hC : ∀ i, i < len → W.cells? 0 (a.add (i * size)) size = some (C i)) : Rd W (.slice (some a) len cap) size len ((List.range len).flatMap C) ∧ ∀ i, i < len → (C i).length = size := by
 have hl : ∀ i, i < len → (C i).length = size := fun i hi => (World.cells?_some (hC i hi)).2.1
 refine ⟨⟨flat_length hl, ?_⟩, hl⟩
 rcases Nat.eq_zero_or_pos len with h0 | h0
 ·subst h0; exact .inl ⟨(some a, cap), rfl, rfl⟩
 ·obtain ⟨b, off, spot⟩ := a
  have pE : spot = none := by
   obtain ⟨-, h1, h2⟩ := World.cells?_some (hC 0 h0); have h3 := h2 0 hs; rw [Nat.zero_mul] at h3; simp only [Addr.add, if_true] at h3; rw [List.getElem?_eq_getElem (by omega)] at h3; unfold World.cell? at h3; split at h3
   ·cases spot with
    | none => rfl
    | some s => simp at h3
   ·cases h3
  subst pE; refine .inr ⟨b, off, cap, rfl, fun j u hj => ?_⟩
  have vF : j < len * size := by
   rcases Nat.lt_or_ge j (len * size) with h | h
   ·exact h
   ·rw [List.getElem?_eq_none (by rw [flat_length hl]; exact h)] at hj; cases hj
  have hi : j / size < len := (Nat.div_lt_iff_lt_mul hs).2 vF; have hr : j % size < size := Nat.mod_lt _ hs; have e : j = (j / size) * size + j % size := by have := Nat.div_add_mod j size; rw [Nat.mul_comm] at this; exact this.symm
  rw [e, flat_get hl _ _ hi hr] at hj; obtain ⟨-, h1, h2⟩ := World.cells?_some (hC _ hi); have h3 := h2 _ hr; rw [hj, add_off, add_off] at h3; rw [e, ← Nat.add_assoc]; exact h3

theorem open_ints {t e : TypeId} {fuel : Nat} {v : Value} {x : DataW H × List MemPlace} (ht : P.underlying t = some (.slice e)) (he : P.underlying e = some (.int .i64)) (hc : P.cellsOf e = 1) (hb : P.bytesOf e = 8) (h : DataW.trod enc P W 0 sp true fuel t [v] = some x)
  (hw : ∀ n ∈ x.1.weights P t, n ≤ reachBytes) : ∃ l : List Int, Rd W v 1 l.length (l.map I) ∧ l.length ≤ 17592186044415 ∧ ∃ a c, v = .slice a l.length c ∧ l.length ≤ c := by
 rcases open_slice ht h with ⟨hv, hx⟩ | ⟨a, len, cap, m, n, D, Pl, hv, -, hl, hm, kq, hx, fi⟩
 ·cases hv; exact ⟨[], ⟨rfl, .inl ⟨(none, 0), rfl, rfl⟩⟩, by simp, none, 0, rfl, Nat.le_refl _⟩
 ·cases hv; rw [hc] at fi; have Ih : len ≤ m := by rw [kq]; split <;> omega
  obtain ⟨Z, hZ⟩ := choose_lt (α := Int) (n := len) (p := fun i z => W.cells? 0 (a.add (i * 1)) 1 = some [I z]) (fun i hi => by
   obtain ⟨cs', h1, h2⟩ := fi i (by omega); obtain ⟨z, hz, -⟩ := DataW.trod_int he h2
   exact ⟨z, by rw [h1, hz]⟩)
  obtain ⟨h1, h2⟩ := rd_rows (size := 1) (cap := cap) (C := fun i => [I (Z i)]) (by omega) hZ
  have hf : (List.range len).flatMap (fun i => [I (Z i)]) = ((List.range len).map Z).map I := by
   rw [List.flatMap_def, List.map_map]
   induction (List.range len) with
   | nil => rfl
   | cons a r ih => simpa using ih
  rw [hf] at h1; refine ⟨(List.range len).map Z, by simpa using h1, ?_, some a, cap, by simp, by simpa using hl⟩; have qP := hw ((len + (m - len)) * 8) (by rw [hx]; simp [DataW.weights, ht, hb]); simp [reachBytes] at qP; simp; omega
end

/-! ### Calls -/
section
variable {H : Type} {enc : TypeId × Value → H} {W : World} {sp : Nat → Bool}
theorem i64_le (n : Int) (h : (Lit.int .i64 n).wf = true) : n ≤ 9223372036854775807 ∧ -9223372036854775808 ≤ n := by
 simp [Lit.wf, IntKind.min, IntKind.max, IntKind.signed, IntKind.bits] at h; omega

theorem weightsAll_mem {P : Program} {t : TypeId} {d : DataW H} {n : Nat} : ∀ {L : List (DataW H)}, d ∈ L → n ∈ DataW.weights P t d → n ∈ DataW.weightsAll P t L
 | [], hd, _ => by cases hd
 | x :: r, hd, hn => by
   simp only [DataW.weightsAll, List.mem_append]; rcases List.mem_cons.1 hd with rfl | h
   ·exact .inl hn
   ·exact .inr (weightsAll_mem h hn)
end
section
variable {H : Type} {enc : TypeId × Value → H} {W : World} {sp : Nat → Bool}
theorem open_op {fuel : Nat} {cs : List Value} {x : DataW H × List MemPlace} (h : DataW.trod enc Tryz.prog W 0 sp true fuel 39 cs = some x) (hw : ∀ n ∈ x.1.weights Tryz.prog 39, n ≤ reachBytes) :
  ∃ o : TOp, cs = o.cs ∧ (Rd W o.nv 1 o.nos.length (o.nos.map I) ∧ o.nos.length ≤ 17592186044415 ∧ ∃ a c, o.nv = .slice a o.nos.length c ∧ o.nos.length ≤ c) ∧ o.key.length ≤ 140737488355328 ∧ o.val.length ≤ 140737488355328 ∧ o.n ≤ 9223372036854775807 := by
 obtain ⟨xs, n, -, hx, hl, aM, hf⟩ := DataW.trod_struct U39 h
 rw [show Tryz.prog.cellsOf 39 = 6 by kernel_rfl] at hl
 match xs, aM with
 | [y0, y1, y2, y3, y4, y5], _ =>
 match cs, hl with
 | [c0, c1, c2, c3, c4, c5], _ =>
   have t0 := hf 0 _ rfl; have t1 := hf 1 _ rfl; have t2 := hf 2 _ rfl; have t3 := hf 3 _ rfl; have t4 := hf 4 _ rfl; have t5 := hf 5 _ rfl; simp only [show Tryz.prog.cellsOf 9 = 1 by kernel_rfl, show Tryz.prog.cellsOf 3 = 1 by kernel_rfl, show Tryz.prog.cellsOf 34 = 1 by kernel_rfl, show Tryz.prog.cellsOf 4 = 1 by kernel_rfl, List.drop, List.take, List.getElem?_cons_zero, List.getElem?_cons_succ] at t0 t1 t2 t3 t4 t5
   have bx : ∀ n, n ∈ DataW.weights Tryz.prog 9 y1.1 ∨ n ∈ DataW.weights Tryz.prog 9 y2.1 ∨ n ∈ DataW.weights Tryz.prog 34 y4.1 → n ≤ reachBytes := fun n hn => hw n (by
    rw [hx]; simp only [DataW.weights, U39, DataW.weightsEach, List.map, List.mem_append]; rcases hn with hn | hn | hn
    ·exact .inr (.inl hn)
    ·exact .inr (.inr (.inl hn))
    ·exact .inr (.inr (.inr (.inr (.inl hn)))))
   obtain ⟨n0, e0, -, -⟩ := DataW.trod_int U3 t0; obtain ⟨s1, e1, Ef, -⟩ := DataW.trod_string U9 t1; obtain ⟨s2, e2, Ii, -⟩ := DataW.trod_string U9 t2; obtain ⟨n3, e3, -, w3⟩ := DataW.trod_int U3 t3; obtain ⟨al, Ij, ve⟩ := open_ints U34 U3 (by kernel_rfl) (by kernel_rfl) t4 (fun n hn => bx n (.inr (.inr hn))); obtain ⟨bb, e5, -⟩ := DataW.trod_bool U4 t5; cases e0; cases e1; cases e2; cases e3; cases e5; have h1 := bx s1.data.toList.length (.inl (by rw [Ef]; simp [DataW.weights])); have h2 := bx s2.data.toList.length (.inr (.inl (by rw [Ii]; simp [DataW.weights]))); simp [reachBytes] at h1 h2; refine ⟨⟨n0, s1.data.toList, s2.data.toList, n3, al, bb, c4⟩, ?_, ⟨Ij, ve⟩, by simp; omega, by simp; omega, (i64_le _ w3).1⟩; show _ = [I n0, S s1.data.toList, S s2.data.toList, I n3, c4, .bool bb]; rw [str_S, str_S]
theorem open_ops {fuel : Nat} {v : Value} {x : DataW H × List MemPlace} (h : DataW.trod enc Tryz.prog W 0 sp true fuel 22 [v] = some x) (hw : ∀ n ∈ x.1.weights Tryz.prog 22, n ≤ reachBytes) : ∃ l : List TOp, OpsT W v l := by
 rcases open_slice U22 h with ⟨hv, hx⟩ | ⟨a, len, cap, m, n, D, Pl, hv, -, hl, hm, kq, hx, fi⟩
 ·cases hv; exact ⟨[], ⟨⟨rfl, .inl ⟨(none, 0), rfl, rfl⟩⟩, by simp, by simp, by simp⟩⟩
 ·cases hv; rw [show Tryz.prog.cellsOf 39 = 6 by kernel_rfl] at fi; have Ih : len ≤ m := by rw [kq]; split <;> omega
  obtain ⟨O, hO⟩ := @choose_lt TOp ⟨⟨0, [], [], 0, [], false, .nilFunc⟩⟩ len (fun i o => W.cells? 0 (a.add (i * 6)) 6 = some o.cs ∧ (Rd W o.nv 1 o.nos.length (o.nos.map I) ∧ o.nos.length ≤ 17592186044415 ∧ ∃ a c, o.nv = .slice a o.nos.length c ∧ o.nos.length ≤ c) ∧ o.key.length ≤ 140737488355328 ∧ o.val.length ≤ 140737488355328 ∧ o.n ≤ 9223372036854775807) (fun i hi => by
   obtain ⟨cs', h1, h2⟩ := fi i (by omega)
   obtain ⟨o, ia, bi⟩ := open_op h2 (fun n hn => hw n (by
    rw [hx]; simp only [DataW.weights, U22, List.mem_cons, List.mem_append]
    exact .inr (.inl (weightsAll_mem (List.mem_map.2 ⟨i, by simpa using hi, rfl⟩) hn))))
   exact ⟨o, by rw [h1, ia], bi⟩)
  obtain ⟨h1, h2⟩ := rd_rows (size := 6) (cap := cap) (C := fun i => (O i).cs) (by omega) (fun i hi => (hO i hi).1); have hf : (List.range len).flatMap (fun i => (O i).cs) = ((List.range len).map O).flatMap TOp.cs := by simp [List.flatMap_map]
  rw [hf] at h1; refine ⟨(List.range len).map O, by simpa using h1, ?_, fun o ho => ?_, fun o ho => ?_⟩
  ·have qP := hw ((len + (m - len)) * Tryz.prog.bytesOf 39) (by rw [hx]; simp [DataW.weights, U22]); have hb : 1 ≤ Tryz.prog.bytesOf 39 := by decide +kernel
   have DA := Nat.mul_le_mul_left (len + (m - len)) hb; simp [reachBytes] at qP DA; simp; omega
  ·obtain ⟨i, hi, rfl⟩ := List.mem_map.1 ho; exact (hO i (by simpa using hi)).2.1
  ·obtain ⟨i, hi, rfl⟩ := List.mem_map.1 ho; exact (hO i (by simpa using hi)).2.2
end
end Go.Proofs.YtocnhaoilnojmaaGreat
