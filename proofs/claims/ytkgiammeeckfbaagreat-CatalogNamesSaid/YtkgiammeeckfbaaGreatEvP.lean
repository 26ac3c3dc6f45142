/- Regions that draw their order: what hangs on the order alone. It is of no program. -/
import Derived.Test.YtkgiammeeckfbaaGreatEvO
namespace Go.Proofs.YtkgiammeeckfbaaGreat
open Go Go.RowKit
set_option linter.all false

/-! ### Bits -/
theorem ancOf_bit (acc : List Nat) (i : Nat) : ∀ (l : List Edge), (ancOf acc l).testBit i = true → ∃ e ∈ l, Region.binds .any e = true ∧ (i = e.on ∨ (acc.getD e.on 0).testBit i = true)
  | [], h => by simp [ancOf] at h
  | e :: l, h => by
    have hstep : ancOf acc (e :: l) = cond (Region.binds .any e) (Nat.lor (ancOf acc l) (Nat.lor (Nat.pow 2 e.on) (acc.getD e.on 0))) (ancOf acc l) := rfl
    rw [hstep] at h
    cases hb : Region.binds .any e with
    | false =>
      rw [hb] at h
      obtain ⟨e', h1, h2⟩ := ancOf_bit acc i l h
      exact ⟨e', List.mem_cons_of_mem _ h1, h2⟩
    | true =>
      rw [hb] at h
      simp only [cond_true] at h
      have h' : (ancOf acc l ||| (2 ^ e.on ||| acc.getD e.on 0)).testBit i = true := h
      rw [Nat.testBit_or, Nat.testBit_or, Bool.or_eq_true, Bool.or_eq_true] at h'
      rcases h' with h' | h' | h'
      · obtain ⟨e', h1, h2⟩ := ancOf_bit acc i l h'
        exact ⟨e', List.mem_cons_of_mem _ h1, h2⟩
      · refine ⟨e, List.mem_cons_self .., hb, .inl ?_⟩
        rw [Nat.testBit_two_pow] at h'
        exact (of_decide_eq_true h').symm
      · exact ⟨e, List.mem_cons_self .., hb, .inr h'⟩
theorem ancs_app : ∀ (l : List Oper) (acc : List Nat), ∃ r, ancs l acc = acc ++ r ∧ r.length = l.length
  | [], acc => ⟨[], by simp [ancs], rfl⟩
  | o :: l, acc => by
    obtain ⟨r, h1, h2⟩ := ancs_app l (acc ++ [ancOf acc o.after.toList])
    refine ⟨ancOf acc o.after.toList :: r, ?_, by simp [h2]⟩
    show ancs l (acc ++ [ancOf acc o.after.toList]) = _
    rw [h1]; simp
theorem ancs_get : ∀ (l : List Oper) (acc : List Nat) (j : Nat) (o : Oper), l[j]? = some o → ∃ m : List Nat, m.length = acc.length + j ∧ (∃ r, ancs l acc = m ++ r) ∧ (ancs l acc)[acc.length + j]? = some (ancOf m o.after.toList)
  | [], _, _, _, h => by simp at h
  | q :: l, acc, 0, o, h => by
    simp at h; subst h
    obtain ⟨r, h1, h2⟩ := ancs_app l (acc ++ [ancOf acc q.after.toList])
    have hs : ancs (q :: l) acc = ancs l (acc ++ [ancOf acc q.after.toList]) := rfl
    refine ⟨acc, rfl, ⟨[ancOf acc q.after.toList] ++ r, by rw [hs, h1]; simp⟩, ?_⟩
    rw [hs, h1]; simp
  | q :: l, acc, j + 1, o, h => by
    have hs : ancs (q :: l) acc = ancs l (acc ++ [ancOf acc q.after.toList]) := rfl
    obtain ⟨m, h1, h2, h3⟩ := ancs_get l (acc ++ [ancOf acc q.after.toList]) j o (by simpa using h)
    refine ⟨m, by rw [h1]; simp; omega, by rw [hs]; exact h2, ?_⟩
    rw [hs]
    have : acc.length + (j + 1) = (acc ++ [ancOf acc q.after.toList]).length + j := by simp; omega
    rw [this]; exact h3
/-- A set of operations that holds what its members hang on. -/
def Closed (ops : List Oper) (L : Nat → Prop) : Prop := ∀ j o e, ops[j]? = some o → L j → e ∈ o.after.toList → Region.binds .any e = true → L e.on
theorem anc_closed {ops : List Oper} {L : Nat → Prop} (hL : Closed ops L) : ∀ (j i : Nat) (o : Oper), ops[j]? = some o → (∀ e ∈ o.after.toList, Region.binds .any e = true → L e.on) → (anc ops j).testBit i = true → L i := by
  intro j
  induction j using Nat.strongRecOn with
  | _ j ih =>
    intro i o ho hj hb
    obtain ⟨m, h1, ⟨r, h2⟩, h3⟩ := ancs_get ops [] j o ho
    simp only [List.length_nil, Nat.zero_add] at h1 h3
    have ha : anc ops j = ancOf m o.after.toList := by
      unfold anc
      simp [List.getD, h3]
    rw [ha] at hb
    obtain ⟨e, he, hbe, hor⟩ := ancOf_bit m i _ hb
    have hLe := hj e he hbe
    rcases hor with rfl | hbit
    · exact hLe
    · have hlt : e.on < m.length := by
        rcases Nat.lt_or_ge e.on m.length with h | h
        · exact h
        · rw [List.getD_eq_getElem?_getD, List.getElem?_eq_none h] at hbit; simp at hbit
      have hm : anc ops e.on = m.getD e.on 0 := by
        unfold anc
        rw [h2, List.getD_eq_getElem?_getD, List.getD_eq_getElem?_getD, List.getElem?_append_left hlt]
      have hlj : e.on < j := by omega
      have hjl : j < ops.length := (List.getElem?_eq_some_iff.1 ho).1
      obtain ⟨o', ho'⟩ : ∃ o', ops[e.on]? = some o' := ⟨ops[e.on], List.getElem?_eq_getElem (by omega)⟩
      exact ih e.on hlj i o' ho' (fun e' he' hb' => hL e.on o' e' ho' hLe he' hb') (by rw [hm]; exact hbit)

theorem filter_at {p : Nat → Bool} {n j : Nat} (hj : j < n) (hp : p j = true) : ((List.range n).filter p)[((List.range j).filter p).length]? = some j := by
  have h1 : List.range n = List.range j ++ (j :: List.range' (j + 1) (n - j - 1)) := by
    rw [List.range_eq_range', List.range_eq_range', ← List.range'_succ, show (n - j - 1) + 1 = n - j from by omega]
    have := List.range'_append (s := 0) (m := j) (n := n - j) (step := 1)
    simp at this
    rw [← show j + (n - j) = n from by omega, ← this]
    congr 2; omega
  rw [h1, List.filter_append, List.getElem?_append_right (Nat.le_refl _), Nat.sub_self, List.filter_cons, if_pos hp]
  rfl

theorem nodupB_spec : ∀ {l : List Nat}, nodupB l = true → l.Nodup
  | [], _ => List.nodup_nil
  | a :: l, h => by
    simp only [nodupB, Bool.and_eq_true] at h
    refine List.nodup_cons.2 ⟨fun hm => ?_, nodupB_spec h.2⟩
    have := List.all_eq_true.1 h.1 a hm
    simp at this
end Go.Proofs.YtkgiammeeckfbaaGreat
