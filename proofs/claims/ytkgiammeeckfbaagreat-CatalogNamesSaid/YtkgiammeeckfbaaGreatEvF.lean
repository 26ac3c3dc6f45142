/- The reckoner's operations on slices, fields and elements. It is of no program. -/
import Derived.Test.YtkgiammeeckfbaaGreatEvE
namespace Go.Proofs.YtkgiammeeckfbaaGreat
open Go Go.RowKit
set_option linter.all false

section
variable {P : Program} {G : Nat} {φ : Ph} {h : H} {w : World} {e : Env} {d : Option Nat} {ty t t' : TypeId} {pos : String} {aft : Array Edge} {g : Option (Nat × Bool)} {x y : Operand} {v v1 v2 : V} {u u1 u2 : Value}

theorem repl_len (l : List V) : ∀ n, (repl l n).length = n * l.length
  | 0 => by show ([] : List V).length = _; simp
  | n + 1 => by
    show (l ++ repl l n).length = _
    rw [List.length_append, repl_len l n, Nat.add_mul]; omega
theorem repl_cvs {l : List V} {us : List Value} (hc : CVs φ l us) : ∀ n, CVs φ (repl l n) ((List.replicate n us).flatten)
  | 0 => CVs.nil
  | n + 1 => by
    show CVs φ (l ++ repl l n) _
    rw [List.replicate_succ, List.flatten_cons]
    exact hc.append (repl_cvs hc n)
theorem flat_get (us : List Value) : ∀ (n i : Nat), i < n * us.length → ((List.replicate n us).flatten)[i]? = us[i % us.length]?
  | 0, i, h => by omega
  | n + 1, i, h => by
    rw [List.replicate_succ, List.flatten_cons, List.getElem?_append]
    have h' : i < n * us.length + us.length := by rw [Nat.add_mul] at h; omega
    split
    · rename_i hi; rw [Nat.mod_eq_of_lt hi]
    · rename_i hi
      rw [flat_get us n (i - us.length) (by omega)]
      rw [← Nat.mod_eq_sub_mod (Nat.le_of_not_lt hi)]
theorem range_rep (z : Array Value) (n : Nat) : ((Array.range (n * z.size)).map (z[· % z.size]!)) = ((List.replicate n z.toList).flatten).toArray := by
  apply Array.toList_inj.1
  apply List.ext_getElem?
  intro i
  simp only [Array.toList_map, Array.toList_range]
  by_cases hi : i < n * z.size
  · have hz : 0 < z.size := by
      rcases Nat.eq_zero_or_pos z.size with h0 | h0
      · rw [h0] at hi; omega
      · exact h0
    rw [flat_get _ _ _ (by simpa using hi)]
    simp only [List.getElem?_map, List.getElem?_range hi, Option.map_some]
    have hm : i % z.size < z.size := Nat.mod_lt _ hz
    simp [hm]
  · rw [List.getElem?_eq_none (by simp; omega), List.getElem?_eq_none (by simp; omega)]

theorem lay_len {l new : List V} {o : Nat} (h : o + new.length ≤ l.length) : (lay l o new).length = l.length := by
  simp [lay]; omega
theorem fillV_len {pl : Nat → Option (Nat × Nat)} : ∀ {ps : List (Nat × V)} {l l' : List V} {n : Nat}, fillV pl l ps = some l' → l.length = n → l'.length = n
  | [], l, l', n, h, hn => by simp [fillV] at h; subst h; exact hn
  | (i, v) :: ps, l, l', n, h, hn => by
    simp only [fillV] at h
    cases hpl : pl i with
    | none => rw [hpl] at h; cases h
    | some q =>
      obtain ⟨o, s⟩ := q
      rw [hpl] at h
      simp only at h
      cases hb : and (Nat.beq (cellsOf v).length s) (Nat.ble (Nat.add o s) l.length) with
      | false => rw [hb] at h; cases h
      | true =>
        rw [hb] at h
        simp only [Bool.and_eq_true] at hb
        have h1 := Nat.eq_of_beq_eq_true hb.1
        have h2 : o + s ≤ l.length := Nat.le_of_ble_eq_true hb.2
        exact fillV_len h (by rw [lay_len (by omega)]; exact hn)

theorem buildSlN_ok {n : Nat} {ps : List (Nat × V)} {us : List (Nat × Value)} {parts : List (Nat × Operand)} (hk : ∀ v ∈ ps.map (·.2), v ≠ .und) (hp : lookp e parts = some us) (hpr : PR φ ps us) :
    NwOk P φ w e ⟨d, .buildSlice t n parts.toArray, ty, pos, aft, g⟩ (buildSlN P t n ps) := by
  unfold buildSlN
  split <;> try exact trivial
  rename_i el ht
  split <;> try exact trivial
  rename_i z hz
  obtain ⟨z, hs, rfl⟩ := ti_of hz
  refine NwOk.cnd fun h1 => ?_
  simp only [Bool.and_eq_true] at h1
  obtain ⟨hz1, hz2, hsm⟩ := h1
  have hz2 := Nat.eq_of_beq_eq_true hz2
  split <;> try exact trivial
  rename_i l hl
  rw [fL_eq]
  refine NwOk.cnd fun ho => ?_
  rw [newB_eq]
  simp only [fN_eq]
  have hzc := cvs_zero (φ := φ) hz1
  have hsz : z.cells.size = tsz P el := by rw [← Array.length_toList, hzc.len, hz2]
  obtain ⟨cs', e1, e2⟩ := fillV_ok hk hpr (repl_cvs hzc n) hl
  have hf := fill_bl us _ cs' e1
  have hlen : l.length = n * tsz P el := by
    exact fillV_len hl (by rw [repl_len, hz2])
  refine NwOk.cells (T := el) (u := .slice (some ⟨w.heap.size, 0, none⟩) n n) e2 (fun ρ hρ => ?_) fun φ' b hb => .sl (b' := w.heap.size) (a := 0) (c' := n) hb (Nat.le_refl _) (Nat.le_refl _) (fun _ => rfl) (by rw [hlen]; simp)
  have h24 : ¬ n * tsz P el > 2 ^ 24 := by have := Nat.le_of_ble_eq_true hsm; simp only [Nat.mul_eq] at this; omega
  simp only [execOp, lookp_arr hρ hp, Instr.buildSlice, Sem.run_bind, run_underlying ht, Result.andThen_ok, hs.size, Sem.run_ite, if_neg h24, Sem.run_pure]
  rw [← range_rep, hsz] at hf
  by_cases h0 : n * tsz P el = 0
  · rw [h0] at hf
    simp [Array.range_zero'] at hf
    simp [h0, newRow, newObj, Sem.run, Array.range_zero', hf]
  · rw [← hsz] at hf h0 ⊢
    simp [h0, newRow, newObj, Sem.run, hf, hs.zero]
theorem ones_append {l m : List V} : ones (l ++ m) = (ones l && ones m) := by
  induction l with
  | nil => rfl
  | cons a l ih =>
    show (one a && ones (l ++ m)) = ((one a && ones l) && ones m)
    rw [ih, Bool.and_assoc]
theorem ones_left {l : List V} {n : Nat} (h : ones (repl l (n + 1)) = true) : ones l = true := by
  have : ones (l ++ repl l n) = true := h
  rw [ones_append, Bool.and_eq_true] at this
  exact this.1
theorem makeSlN_ok (hx : Kn φ e x v1) (hy : Kn φ e y v2) : NwOk P φ w e ⟨d, .makeSlice t x y, ty, pos, aft, g⟩ (makeSlN P t v1 v2) := by
  unfold makeSlN
  split <;> try exact trivial
  rename_i k l k' c
  obtain ⟨u1, hx, hc1⟩ := hx (by simp)
  obtain ⟨u2, hy, hc2⟩ := hy (by simp)
  cases hc1
  cases hc2
  rw [nat?_eq]
  split <;> try exact trivial
  rename_i hl
  rw [nat?_eq]
  split <;> try exact trivial
  rename_i hc
  obtain ⟨l, rfl⟩ : ∃ m : Nat, l = m := ⟨l.toNat, (Int.toNat_of_nonneg hl).symm⟩
  obtain ⟨c, rfl⟩ : ∃ m : Nat, c = m := ⟨c.toNat, (Int.toNat_of_nonneg hc).symm⟩
  simp only [Int.toNat_natCast]
  split <;> try exact trivial
  rename_i el ht
  split <;> try exact trivial
  rename_i z hz
  obtain ⟨z, hs, rfl⟩ := ti_of hz
  refine NwOk.cnd fun h1 => ?_
  simp only [Bool.and_eq_true] at h1
  obtain ⟨hz2, h1, h2, h3⟩ := h1
  have hz2 := Nat.eq_of_beq_eq_true hz2
  have h1 := Nat.le_of_ble_eq_true h1
  have h2 := Nat.le_of_ble_eq_true h2
  have h3 := Nat.le_of_ble_eq_true h3
  rw [fL_eq]
  refine NwOk.cnd fun ho => ?_
  rw [newB_eq]
  simp only [fN_eq]
  obtain ⟨i, hi, hiz, his, hib⟩ := hs
  have hr := run_make (P := P) w t el i z ht hi hiz k k' l c (by omega) (by omega) (by rw [hib, ← Int.natCast_mul]; exact Int.ofNat_le.2 h3) (by omega)
  rw [his] at hr
  simp only [Int.toNat_natCast] at hr
  by_cases hc0 : c = 0
  · subst hc0
    have hcells : madeCells z.cells (0 * tsz P el) = #[] := by simp [madeCells]
    rw [hcells] at hr
    refine NwOk.cells (T := el) (u := .slice (some ⟨w.heap.size, 0, none⟩) l 0) (l := repl (zeroB z) 0) (vs := []) CVs.nil (fun ρ hρ => ?_) fun φ' b hb => .sl (b' := w.heap.size) (a := 0) (c' := 0) hb h1 (Nat.le_refl _) (fun _ => rfl) (by simp)
    simp only [execOp, hρ _ _ hx, hρ _ _ hy, Sem.run_bind, hr, Result.andThen_ok, Sem.run_pure]
  · have hz1 : ones (zeroB z) = true := by
      obtain ⟨c', rfl⟩ : ∃ c', c = c' + 1 := ⟨c - 1, by omega⟩
      exact ones_left ho
    have hzc := cvs_zero (φ := φ) hz1
    have hsz : z.cells.size = tsz P el := by rw [← Array.length_toList, hzc.len, hz2]
    have hcells : madeCells z.cells (c * tsz P el) = ((List.replicate c z.cells.toList).flatten).toArray := by
      unfold madeCells; rw [← hsz]; exact range_rep _ _
    rw [hcells] at hr
    refine NwOk.cells (T := el) (u := .slice (some ⟨w.heap.size, 0, none⟩) l c) (repl_cvs hzc c) (fun ρ hρ => ?_) fun φ' b hb => .sl (b' := w.heap.size) (a := 0) (c' := c) hb h1 (Nat.le_refl _) (fun _ => rfl) (by rw [repl_len, hz2]; simp)
    simp only [execOp, hρ _ _ hx, hρ _ _ hy, Sem.run_bind, hr, Result.andThen_ok, Sem.run_pure]

/-! ### Fields and elements -/
theorem tfld_some {i off s : Nat} {a : Bool} (hf : tfld P t i = some (off, s, a)) : ∃ fs f td, P.underlying t = some (.struct fs) ∧ fs[i]? = some f ∧ f.offset = off ∧ tsz P f.type = s ∧ P.underlying f.type = some td ∧ aggOf td = a := by
  unfold tfld at hf
  split at hf <;> try cases hf
  rename_i fs ht
  split at hf <;> try cases hf
  rename_i f hi
  split at hf <;> try cases hf
  rename_i a ha
  obtain ⟨td, hu, ha⟩ := tagg_some ha
  exact ⟨fs, f, td, ht, hi, rfl, rfl, hu, ha⟩
theorem fldAddr_ok {i : Nat} (r : Rel G φ h w) (hx : Kn φ e x v) : QOk P φ h w e ⟨d, .fieldAddr t x i, ty, pos, aft, g⟩ (fldAddr P h t v i) := by
  unfold fldAddr
  split <;> try exact trivial
  rename_i b o
  obtain ⟨u, hx, hc⟩ := hx (by simp)
  cases hc with
  | @ptr _ _ b' a N hp =>
  split <;> try exact trivial
  rename_i off s ag hf
  obtain ⟨fs, f, td, h1, h2, h3, h4, h5, h6⟩ := tfld_some hf
  refine cond_q' fun hs => ?_
  have hs : 0 < s := by simpa using hs
  rw [fN_eq]
  refine QOk.pure (u := ptr b' (a + (o + off))) (fun ρ hρ => ?_) (.ptr hp)
  have hsz := run_sz h5 w
  have h0 : tsz P f.type ≠ 0 := by omega
  simp [execOp, hρ _ _ hx, Instr.fieldAt, run_underlying h1, h2, Instr.sureAddr, fieldPlace, hsz, add_off, h3, h0, Nat.add_assoc]
theorem fldV_ok {i : Nat} (r : Rel G φ h w) (hx : Kn φ e x v) : QOk P φ h w e ⟨d, .field t x i, ty, pos, aft, g⟩ (fldV P h t v i) := by
  unfold fldV
  split <;> try exact trivial
  rename_i l
  obtain ⟨u, hx, hc⟩ := hx (by simp)
  cases hc with
  | @agg _ us hc =>
  split <;> try exact trivial
  · rename_i off s hf
    obtain ⟨fs, f, td, h1, h2, h3, h4, h5, h6⟩ := tfld_some hf
    split <;> try exact trivial
    rename_i v hv
    obtain ⟨u, e1, e2⟩ := hc.get hv
    refine rV_q fun _ => ⟨u, fun ρ hρ => ?_, e2⟩
    simp [execOp, hρ _ _ hx, Instr.field, run_underlying h1, h2, part, run_isAgg h5, h6, asAgg, h3, e1]
  · rename_i off s hf
    obtain ⟨fs, f, td, h1, h2, h3, h4, h5, h6⟩ := tfld_some hf
    rw [fL_eq]
    refine QOk.pure (u := .agg (((us.drop off).take s).toArray)) (fun ρ hρ => ?_) (.agg ((hc.drop off).take s))
    have hsz := run_sz h5 w
    simp [execOp, hρ _ _ hx, Instr.field, run_underlying h1, h2, part, run_isAgg h5, h6, asAgg, h3, hsz, h4]
theorem ixAddr_ok (r : Rel G φ h w) (hx : Kn φ e x v1) (hy : Kn φ e y v2) : QOk P φ h w e ⟨d, .indexAddr t x y, ty, pos, aft, g⟩ (ixAddr P h t v1 v2) := by
  unfold ixAddr
  split <;> try exact trivial
  rename_i k z
  obtain ⟨u2, hy, hc2⟩ := hy (by simp)
  cases hc2
  rw [nat?_eq]
  split <;> try exact trivial
  rename_i hz
  obtain ⟨i, rfl⟩ : ∃ m : Nat, z = m := ⟨z.toNat, (Int.toNat_of_nonneg hz).symm⟩
  simp only [Int.toNat_natCast]
  split <;> try exact trivial
  · rename_i b o
    obtain ⟨u1, hx, hc1⟩ := hx (by simp)
    cases hc1 with
    | @ptr _ _ b' a N hp =>
    split <;> try exact trivial
    rename_i n el ht
    refine cond_q' fun hh => ?_
    simp only [Bool.and_eq_true] at hh
    have hi : i < n := by simpa using hh.1
    have hs := run_sz' (show 0 < tsz P el by simpa using hh.2) w
    rw [fN_eq]
    refine QOk.pure (u := ptr b' (a + (o + i * tsz P el))) (fun ρ hρ => ?_) (.ptr hp)
    simp [execOp, hρ _ _ hx, hρ _ _ hy, Instr.indexAt, asIntOf, run_underlying ht, Instr.sureAddr, hi, hs, add_off, Nat.add_assoc]
  · rename_i b o len kc es op
    obtain ⟨u1, hx, hc1⟩ := hx (by simp)
    cases hc1 with
    | @sl _ _ _ _ _ _ b' a N c' hp q1 q2 q3 q4 =>
    split <;> try exact trivial
    rename_i el ht
    refine cond_q' fun hh => ?_
    simp only [Bool.and_eq_true] at hh
    have hi : i < len := by simpa using hh.1
    have he : es = tsz P el := Nat.eq_of_beq_eq_true hh.2.2
    have hs := run_sz' (show 0 < tsz P el by rw [← he]; simpa using hh.2.1) w
    rw [fN_eq]
    refine QOk.pure (u := ptr b' (a + (o + i * es))) (fun ρ hρ => ?_) (.ptr hp)
    simp [execOp, hρ _ _ hx, hρ _ _ hy, Instr.indexAt, asIntOf, run_underlying ht, hi, hs, add_off, Nat.add_assoc, he]
theorem ixV_ok (r : Rel G φ h w) (hx : Kn φ e x v1) (hy : Kn φ e y v2) : QOk P φ h w e ⟨d, .index t x y, ty, pos, aft, g⟩ (ixV P h t v1 v2) := by
  unfold ixV
  split <;> try exact trivial
  rename_i k z
  obtain ⟨u2, hy, hc2⟩ := hy (by simp)
  cases hc2
  rw [nat?_eq]
  split <;> try exact trivial
  rename_i hz
  obtain ⟨i, rfl⟩ : ∃ m : Nat, z = m := ⟨z.toNat, (Int.toNat_of_nonneg hz).symm⟩
  simp only [Int.toNat_natCast]
  split <;> try exact trivial
  · rename_i n s
    obtain ⟨u1, hx, hc1⟩ := hx (by simp)
    cases hc1
    split <;> try exact trivial
    rename_i ht
    refine cond_q' fun hi => ?_
    have hi : i < n := by simpa using hi
    rw [rInt_eq]
    have hb : (.ofNat (Nat.mod (Nat.div s (Nat.pow 256 i)) 256) : Int) = (((unp n s).getD i 0).toNat : Int) := by
      rw [unp_get n s i hi]
      show ((s / 256 ^ i % 256 : Nat) : Int) = _
      simp
    rw [hb]
    exact QOk.pure (yixS' ht hx hy (by simpa using hi)) .int
  · rename_i l
    obtain ⟨u1, hx, hc1⟩ := hx (by simp)
    cases hc1 with
    | @agg _ us hc =>
    split <;> try exact trivial
    rename_i n el ht
    split <;> try exact trivial
    · rename_i ha
      obtain ⟨td, hu, ha⟩ := tagg_some ha
      refine cond_q' fun hh => ?_
      simp only [Bool.and_eq_true] at hh
      have hi : i < n := by simpa using hh.1
      have h1 : tsz P el = 1 := Nat.eq_of_beq_eq_true hh.2
      split <;> try exact trivial
      rename_i v hv
      obtain ⟨u, e1, e2⟩ := hc.get hv
      refine rV_q fun _ => ⟨u, fun ρ hρ => ?_, e2⟩
      have hs := run_sz hu w
      simp [execOp, hρ _ _ hx, hρ _ _ hy, Instr.index, asIntOf, run_underlying ht, hi, hs, h1, part, run_isAgg hu, ha, e1]
    · rename_i ha
      obtain ⟨td, hu, ha⟩ := tagg_some ha
      refine cond_q' fun hh => ?_
      have hi : i < n := by simpa using hh
      rw [fL_eq]
      refine QOk.pure (u := .agg (((us.drop (i * tsz P el)).take (tsz P el)).toArray)) (fun ρ hρ => ?_) (.agg ((hc.drop _).take _))
      have hs := run_sz hu w
      simp [execOp, hρ _ _ hx, hρ _ _ hy, Instr.index, asIntOf, run_underlying ht, hi, hs, part, run_isAgg hu, ha]
end
end Go.Proofs.YtkgiammeeckfbaaGreat
