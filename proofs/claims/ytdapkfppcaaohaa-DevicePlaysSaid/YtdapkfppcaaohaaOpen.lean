/- Arguments read from memory: slices of numbers, slices of structs, calls (of the laws on devices). -/
import Derived.Test.YtdapkfppcaaohaaRow
import Derived.Test.YtdapkfppcaaohaaDvD
import Derived.Deep.Slices
import Derived.Deep.Strs
namespace Go.Proofs.Ytdapkfppcaaohaa
open Go Go.ChangeShapes Go.WideShapes Go.ChangeAt Go.RowKit Go.Deep
set_option linter.all false
set_option maxRecDepth 100000

/-! ### Rows of equal length -/
theorem flat_get {C : Nat → List Value} {k : Nat} : ∀ {n : Nat}, (∀ i, i < n → (C i).length = k) → ∀ i r, i < n → r < k → ((List.range n).flatMap C)[i * k + r]? = (C i)[r]?
  | 0, _, i, r, hi, _ => absurd hi (Nat.not_lt_zero _)
  | n + 1, hl, i, r, hi, hr => by
    have hlen : ((List.range n).flatMap C).length = n * k := by
      have : ∀ m, m ≤ n → ((List.range m).flatMap C).length = m * k := fun m hm => by
        induction m with
        | zero => simp
        | succ m ih => rw [List.range_succ, List.flatMap_append, List.length_append, ih (by omega)]; simp [hl m (by omega)]; rw [Nat.succ_mul]
      exact this n (Nat.le_refl _)
    rw [List.range_succ, List.flatMap_append]
    rcases Nat.lt_or_ge i n with h | h
    · have hlt : i * k + r < n * k := by
        have : (i + 1) * k ≤ n * k := Nat.mul_le_mul_right k h
        rw [Nat.succ_mul] at this; omega
      rw [List.getElem?_append_left (by rw [hlen]; exact hlt)]
      exact flat_get (fun j hj => hl j (by omega)) i r h hr
    · have e : i = n := by omega
      subst e
      rw [List.getElem?_append_right (by rw [hlen]; omega), hlen, show i * k + r - i * k = r by omega]
      simp
theorem flat_length {C : Nat → List Value} {k n : Nat} (hl : ∀ i, i < n → (C i).length = k) : ((List.range n).flatMap C).length = n * k := by
  have : ∀ m, m ≤ n → ((List.range m).flatMap C).length = m * k := fun m hm => by
    induction m with
    | zero => simp
    | succ m ih => rw [List.range_succ, List.flatMap_append, List.length_append, ih (by omega)]; simp [hl m (by omega)]; rw [Nat.succ_mul]
  exact this n (Nat.le_refl _)
theorem flat_row {C : Nat → List Value} {k n i : Nat} (hl : ∀ i, i < n → (C i).length = k) (hi : i < n) : (((List.range n).flatMap C).drop (i * k)).take k = C i := by
  apply List.ext_getElem?
  intro r
  rw [List.getElem?_take, List.getElem?_drop]
  by_cases hr : r < k
  · rw [if_pos hr, flat_get hl i r hi hr]
  · rw [if_neg hr, List.getElem?_eq_none (by rw [hl i hi]; omega)]

section
variable {H : Type} {enc : TypeId × Value → H} {P : Program} {W : World} {sp : Nat → Bool}

/-- Elements that lie in a row are read as a slice. -/
theorem rd_rows {a : Addr} {len cap size : Nat} {C : Nat → List Value} (hs : 0 < size) (hC : ∀ i, i < len → W.cells? 0 (a.add (i * size)) size = some (C i)) : Rd W (.slice (some a) len cap) size len ((List.range len).flatMap C) ∧ ∀ i, i < len → (C i).length = size := by
  have hl : ∀ i, i < len → (C i).length = size := fun i hi => (World.cells?_some (hC i hi)).2.1
  refine ⟨⟨flat_length hl, ?_⟩, hl⟩
  rcases Nat.eq_zero_or_pos len with h0 | h0
  · subst h0
    exact .inl ⟨(some a, cap), rfl, rfl⟩
  · obtain ⟨b, off, spot⟩ := a
    have hsp : spot = none := by
      obtain ⟨-, h1, h2⟩ := World.cells?_some (hC 0 h0)
      have h3 := h2 0 hs
      rw [Nat.zero_mul] at h3
      simp only [Addr.add, if_true] at h3
      rw [List.getElem?_eq_getElem (by omega)] at h3
      unfold World.cell? at h3
      split at h3
      · cases spot with
        | none => rfl
        | some s => simp at h3
      · cases h3
    subst hsp
    refine .inr ⟨b, off, cap, rfl, fun j u hj => ?_⟩
    have hjl : j < len * size := by
      rcases Nat.lt_or_ge j (len * size) with h | h
      · exact h
      · rw [List.getElem?_eq_none (by rw [flat_length hl]; exact h)] at hj; cases hj
    have hi : j / size < len := (Nat.div_lt_iff_lt_mul hs).2 hjl
    have hr : j % size < size := Nat.mod_lt _ hs
    have e : j = (j / size) * size + j % size := by have := Nat.div_add_mod j size; rw [Nat.mul_comm] at this; exact this.symm
    rw [e, flat_get hl _ _ hi hr] at hj
    obtain ⟨-, h1, h2⟩ := World.cells?_some (hC _ hi)
    have h3 := h2 _ hr
    rw [hj, add_off, add_off] at h3
    rw [e, ← Nat.add_assoc]; exact h3

/-- A slice of numbers. -/
theorem open_ints {t e : TypeId} {fuel : Nat} {v : Value} {x : DataW H × List MemPlace} (ht : P.underlying t = some (.slice e)) (he : P.underlying e = some (.int .i64)) (hc : P.cellsOf e = 1) (hb : P.bytesOf e = 8) (h : DataW.trod enc P W 0 sp true fuel t [v] = some x)
    (hw : ∀ n ∈ x.1.weights P t, n ≤ reachBytes) : ∃ l : List Int, Rd W v 1 l.length (l.map I) ∧ l.length ≤ 17592186044415 := by
  rcases open_slice ht h with ⟨hv, hx⟩ | ⟨a, len, cap, m, n, D, Pl, hv, -, hl, hm, hmm, hx, hel⟩
  · cases hv
    exact ⟨[], ⟨rfl, .inl ⟨(none, 0), rfl, rfl⟩⟩, by simp⟩
  · cases hv
    rw [hc] at hel
    have hlm : len ≤ m := by rw [hmm]; split <;> omega
    obtain ⟨Z, hZ⟩ := choose_lt (α := Int) (n := len) (p := fun i z => W.cells? 0 (a.add (i * 1)) 1 = some [I z]) (fun i hi => by
      obtain ⟨cs', h1, h2⟩ := hel i (by omega)
      obtain ⟨z, hz, -⟩ := DataW.trod_int he h2
      exact ⟨z, by rw [h1, hz]⟩)
    obtain ⟨h1, h2⟩ := rd_rows (size := 1) (cap := cap) (C := fun i => [I (Z i)]) (by omega) hZ
    have hf : (List.range len).flatMap (fun i => [I (Z i)]) = ((List.range len).map Z).map I := by
      rw [List.flatMap_def, List.map_map]
      induction (List.range len) with
      | nil => rfl
      | cons a r ih => simpa using ih
    rw [hf] at h1
    refine ⟨(List.range len).map Z, by simpa using h1, ?_⟩
    have hwt := hw ((len + (m - len)) * 8) (by rw [hx]; simp [DataW.weights, ht, hb])
    simp [reachBytes] at hwt
    simp; omega
end

/-! ### Calls -/
section
variable {H : Type} {enc : TypeId × Value → H} {W : World} {sp : Nat → Bool}
theorem u8v_mk (n : Int) (h : (Lit.int .u8 n).wf = true) : Value.int .u8 n = u8v (UInt8.ofNat n.toNat) := by
  simp [Lit.wf, IntKind.min, IntKind.max, IntKind.signed, IntKind.bits] at h
  unfold u8v; rw [UInt8.toNat_ofNat_of_lt' (by show n.toNat < 256; omega)]; congr; omega
theorem i64_le (n : Int) (h : (Lit.int .i64 n).wf = true) : n ≤ 9223372036854775807 ∧ -9223372036854775808 ≤ n := by
  simp [Lit.wf, IntKind.min, IntKind.max, IntKind.signed, IntKind.bits] at h; omega

theorem open_crash {fuel : Nat} {cs : List Value} {x : DataW H × List MemPlace} (h : DataW.trod enc Try.prog W 0 sp true fuel 45 cs = some x) (hw : ∀ n ∈ x.1.weights Try.prog 45, n ≤ reachBytes) :
    ∃ (kv : Value) (l : List Int) (tn : Int) (mk : UInt8), cs = [kv, I tn, u8v mk] ∧ Rd W kv 1 l.length (l.map I) ∧ l.length ≤ 17592186044415 := by
  obtain ⟨y0, y1, y2, n, hx, hl, t0, t1, t2⟩ := trod_struct3 Try.underlying45 h
  rw [show Try.prog.cellsOf 45 = 3 by kernel_rfl] at hl
  match cs, hl with
  | [c0, c1, c2], _ =>
    simp only [show Try.prog.cellsOf 43 = 1 by kernel_rfl, show Try.prog.cellsOf 3 = 1 by kernel_rfl, show Try.prog.cellsOf 5 = 1 by kernel_rfl, List.drop, List.take] at t0 t1 t2
    obtain ⟨tn, e1, -, -⟩ := DataW.trod_int Try.underlying3 t1
    obtain ⟨mk, e2, -, wm⟩ := DataW.trod_int Try.underlying5 t2
    cases e1
    cases e2
    obtain ⟨l, hr, hll⟩ := open_ints Try.underlying43 Try.underlying3 (by kernel_rfl) (by kernel_rfl) t0 (fun n hn => hw n (by rw [hx]; simp only [DataW.weights, Try.underlying45, DataW.weightsEach, List.map, List.mem_append]; exact .inl hn))
    exact ⟨c0, l, tn, _, by rw [u8v_mk mk wm], hr, hll⟩

theorem open_op {fuel : Nat} {cs : List Value} {x : DataW H × List MemPlace} (h : DataW.trod enc Try.prog W 0 sp true fuel 64 cs = some x) (hw : ∀ n ∈ x.1.weights Try.prog 64, n ≤ reachBytes) :
    ∃ (o : POp) (kv : Value), cs = o.cs kv ∧ Rd W kv 1 o.keep.length (o.keep.map I) ∧ o.Ok := by
  obtain ⟨xs, n, -, hx, hl, hlen, hf⟩ := DataW.trod_struct Try.underlying64 h
  rw [show Try.prog.cellsOf 64 = 8 by kernel_rfl] at hl
  match xs, hlen with
  | [y0, y1, y2, y3, y4, y5], _ =>
  match cs, hl with
  | [c0, c1, c2, c3, c4, c5, c6, c7], _ =>
    have t0 := hf 0 _ rfl
    have t1 := hf 1 _ rfl
    have t2 := hf 2 _ rfl
    have t3 := hf 3 _ rfl
    have t4 := hf 4 _ rfl
    have t5 := hf 5 _ rfl
    simp only [show Try.prog.cellsOf 9 = 1 by kernel_rfl, show Try.prog.cellsOf 3 = 1 by kernel_rfl, show Try.prog.cellsOf 45 = 3 by kernel_rfl, List.drop, List.take, List.getElem?_cons_zero, List.getElem?_cons_succ] at t0 t1 t2 t3 t4 t5
    obtain ⟨n0, e0, -, -⟩ := DataW.trod_int Try.underlying3 t0
    obtain ⟨n1, e1, -, -⟩ := DataW.trod_int Try.underlying3 t1
    obtain ⟨n2, e2, -, -⟩ := DataW.trod_int Try.underlying3 t2
    obtain ⟨n3, e3, -, w3⟩ := DataW.trod_int Try.underlying3 t3
    obtain ⟨s4, e4, hy4, -⟩ := DataW.trod_string Try.underlying9 t4
    cases e0; cases e1; cases e2; cases e3; cases e4
    have hmem : ∀ n, n ∈ DataW.weights Try.prog 9 y4.1 ∨ n ∈ DataW.weights Try.prog 45 y5.1 → n ≤ reachBytes := fun n hn => hw n (by
      rw [hx]
      simp only [DataW.weights, Try.underlying64, DataW.weightsEach, List.map, List.mem_append]
      rcases hn with hn | hn
      · exact .inr (.inr (.inr (.inr (.inl hn))))
      · exact .inr (.inr (.inr (.inr (.inr (.inl hn))))))
    obtain ⟨kv, l, tn, mk, e5, hr, hll⟩ := open_crash t5 (fun n hn => hmem n (.inr hn))
    cases e5
    refine ⟨⟨n0, n1, n2, n3, s4.data.toList, l, tn, mk⟩, _, ?_, hr, ⟨hll, ?_, (i64_le _ w3).1⟩⟩
    · rw [str_S]; rfl
    · have := hmem s4.data.toList.length (.inl (by rw [hy4]; simp [DataW.weights]))
      simp [reachBytes] at this; show s4.data.toList.length ≤ _; simp; omega

theorem open_ops {fuel : Nat} {v : Value} {x : DataW H × List MemPlace} (h : DataW.trod enc Try.prog W 0 sp true fuel 62 [v] = some x) (hw : ∀ n ∈ x.1.weights Try.prog 62, n ≤ reachBytes) : ∃ os : List POp, OpsM W v os := by
  rcases open_slice Try.underlying62 h with ⟨hv, hx⟩ | ⟨a, len, cap, m, n, D, Pl, hv, -, hl, hm, hmm, hx, hel⟩
  · cases hv
    exact ⟨[], [], fun _ => .nilFunc, ⟨rfl, .inl ⟨(none, 0), rfl, rfl⟩⟩, fun i o ho => by simp at ho⟩
  · cases hv
    rw [show Try.prog.cellsOf 64 = 8 by kernel_rfl] at hel
    have hlm : len ≤ m := by rw [hmm]; split <;> omega
    obtain ⟨O, hO⟩ := @choose_lt (POp × Value) ⟨⟨⟨0, 0, 0, 0, [], [], 0, 0⟩, .nilFunc⟩⟩ len (fun i o => W.cells? 0 (a.add (i * 8)) 8 = some (o.1.cs o.2) ∧ Rd W o.2 1 o.1.keep.length (o.1.keep.map I) ∧ o.1.Ok) (fun i hi => by
      obtain ⟨cs', h1, h2⟩ := hel i (by omega)
      obtain ⟨o, kv, hcs, hr, hok⟩ := open_op h2 (fun n hn => hw n (by
        rw [hx]
        simp only [DataW.weights, Try.underlying62, List.mem_cons, List.mem_append]
        refine .inr (.inl ?_)
        have hmem : D i ∈ (List.range len).map D := List.mem_map.2 ⟨i, by simpa using hi, rfl⟩
        revert hmem hn
        generalize (List.range len).map D = L
        intro hn hmem
        induction L with
        | nil => cases hmem
        | cons d r ih =>
          simp only [DataW.weightsAll, List.mem_append]
          rcases List.mem_cons.1 hmem with rfl | h
          · exact .inl hn
          · exact .inr (ih h)))
      exact ⟨(o, kv), by rw [h1, hcs], hr, hok⟩)
    obtain ⟨h1, h2⟩ := rd_rows (size := 8) (cap := cap) (C := fun i => (O i).1.cs (O i).2) (by omega) (fun i hi => (hO i hi).1)
    refine ⟨(List.range len).map fun i => (O i).1, _, fun i => (O i).2, by simpa using h1, fun i o ho => ?_⟩
    have hi : i < len := by
      rcases Nat.lt_or_ge i len with h | h
      · exact h
      · rw [List.getElem?_eq_none (by simpa using h)] at ho; cases ho
    have e : o = (O i).1 := by
      rw [List.getElem?_map, List.getElem?_range hi] at ho
      exact (Option.some.inj ho).symm
    subst e
    exact ⟨flat_row h2 hi, (hO i hi).2.1, (hO i hi).2.2⟩
end
end Go.Proofs.Ytdapkfppcaaohaa
