/- Regions that draw their order: memories that hold more or less. It is of no program. -/
import Derived.Test.YtkgiammeeckfbaaGreatEvP
namespace Go.Proofs.YtkgiammeeckfbaaGreat
open Go Go.RowKit
set_option linter.all false

theorem get_put_in {α : Type} (z : α) : ∀ (d i : Nat) (t : Tr α d) (v : α), i < 16 ^ d → trGet z d i (trPut d i t v) = v
  | 0, i, t, v, h => by
    have : i = 0 := by simp at h; omega
    subst this
    rw [trGet_zero, if_pos rfl]; rfl
  | d + 1, i, t, v, h => by
    rw [trGet_succ, trPut_succ, sel_upd (Nat.mod_lt _ (by omega)) (Nat.mod_lt _ (by omega)), if_pos rfl]
    exact get_put_in z d _ _ _ (by rw [Nat.pow_succ] at h; omega)
theorem hGet_lt {h : H} {b : Nat} {x : B} (hb : hGet h b = some x) : b < 16 ^ HD := by
  rcases Nat.lt_or_ge b (16 ^ HD) with h1 | h1
  · exact h1
  · have : hGet h b = none := get_out none HD b h.t h1
    rw [hb] at this; cases this

section
variable {G : Nat} {φ φ' φ0 : Ph} {h h0 h1 K K' Hin : H} {w w' w0 : World}

/-- A part of the memory. -/
theorem Rel.sub (r : Rel G φ K w) (hn : Hin.next = K.next) (hs : ∀ b y, hGet Hin b = some y → hGet K b = some y) : Rel G φ Hin w :=
  ⟨fun a b x y p q ha hb => r.inj a b x y p q (hs _ _ ha) (hs _ _ hb), fun b x hb => r.blk b x (hs _ _ hb), fun b hb => r.fresh b (hn ▸ hb), r.glob⟩
theorem foot_sub (hs : ∀ b y, hGet Hin b = some y → hGet K b = some y) {k : Nat} (hf : foot φ Hin k) : foot φ K k := by
  obtain ⟨b, x, p, h1, h2, h3, h4⟩ := hf
  exact ⟨b, x, p, hs _ _ h1, h2, h3, h4⟩
/-- The same memory, said otherwise. -/
theorem Post.same (p : Post G φ0 h0 w0 φ K w) (hn : K'.next = K.next) (hs : ∀ b y, hGet K' b = some y → hGet K b = some y) : Post G φ0 h0 w0 φ K' w :=
  ⟨p.sb, p.rel.sub hn hs, p.kp, fun k hk => p.ft k (foot_sub hs hk), ⟨p.hp.dm, by rw [hn]; exact p.hp.nx, fun b hb e => (by
    cases hq : hGet K' b with
    | none => rfl
    | some y => have := hs _ _ hq; rw [p.hp.od b hb e] at this; cases this), fun b l e => p.hp.ro b l (hs _ _ e)⟩⟩

/-- What was done on a part of the memory leaves the rest as it was. -/
theorem Post.frame (p : Post G φ0 h0 w0 φ K w) (hn : Hin.next = K.next) (hs : ∀ b y, hGet Hin b = some y → hGet K b = some y) (q : Post G φ Hin w φ' h1 w') (hn' : K'.next = h1.next)
    (hk : ∀ b y, hGet K' b = some y → hGet h1 b = some y ∨ (hGet K b = some y ∧ hGet Hin b = none)) : Post G φ0 h0 w0 φ' K' w' := by
  have hr := p.rel
  have notF : ∀ b x s, hGet K b = some x → hGet Hin b = none → φ b = some s → ¬ foot φ Hin s.1 := fun b x s hb hb' hp ⟨c, y, s', h1, _, h3, h4⟩ => by
    have := hr.inj _ _ _ _ _ _ (hs _ _ h1) hb h3 hp h4
    subst this
    rw [h1] at hb'; cases hb'
  have old : ∀ b x, hGet K b = some x → ∃ s, φ b = some s ∧ φ' b = some s ∧ s.1 < w.heap.size := fun b x hb => by
    obtain ⟨s, h1, h2⟩ := hr.blk _ _ hb
    exact ⟨s, h1, q.sb _ _ h1, h2.lt⟩
  have mix : ∀ a b x y s t, hGet h1 a = some x → hGet K b = some y → hGet Hin b = none → φ' a = some s → φ' b = some t → s.1 = t.1 → False := fun a b x y s t ha hb hb' hs' ht e => by
    obtain ⟨t', e1, e2, e3⟩ := old _ _ hb
    rw [ht] at e2; cases e2
    have viaK : ∀ c z u, hGet Hin c = some z → φ c = some u → u.1 = t.1 → False := fun c z u hc hu e => by
      have := hr.inj _ _ _ _ _ _ (hs _ _ hc) hb hu e1 e
      subst this
      rw [hc] at hb'; cases hb'
    cases hx : isRo x with
    | true =>
      obtain ⟨l, rfl⟩ : ∃ l, x = .ro l := by cases x <;> first | exact ⟨_, rfl⟩ | cases hx
      have hin := q.hp.ro _ _ ha
      obtain ⟨u, h1, h2, -⟩ := old _ _ (hs _ _ hin)
      rw [hs'] at h2; cases h2
      exact viaK _ _ _ hin h1 e
    | false =>
      rcases q.ft s.1 ⟨a, x, s, ha, hx, hs', rfl⟩ with ⟨c, z, u, h1, _, h3, h4⟩ | h1
      · exact viaK _ _ _ h1 h3 (h4.trans e)
      · omega
  refine ⟨p.sb.trans q.sb, ⟨fun a b x y s t ha hb hsa htb e => ?_, fun b x hb => ?_, fun b hb => q.rel.fresh b (hn' ▸ hb), q.rel.glob⟩, p.kp.trans_new q.kp fun i hi => (p.ft i (foot_sub hs hi)).symm, fun k hk' => ?_, ⟨fun b hb => ?_, ?_, fun b hb e => ?_, fun b l e => ?_⟩⟩
  · rcases hk _ _ ha with h2 | ⟨h2, h2'⟩
    · rcases hk _ _ hb with h3 | ⟨h3, h3'⟩
      · exact q.rel.inj _ _ _ _ _ _ h2 h3 hsa htb e
      · exact (mix _ _ _ _ _ _ h2 h3 h3' hsa htb e).elim
    · rcases hk _ _ hb with h3 | ⟨h3, h3'⟩
      · exact (mix _ _ _ _ _ _ h3 h2 h2' htb hsa e.symm).elim
      · obtain ⟨s', e1, e2, -⟩ := old _ _ h2
        rw [hsa] at e2; cases e2
        obtain ⟨t', e3, e4, -⟩ := old _ _ h3
        rw [htb] at e4; cases e4
        exact hr.inj _ _ _ _ _ _ h2 h3 e1 e3 e
  · rcases hk _ _ hb with h2 | ⟨h2, h2'⟩
    · exact q.rel.blk _ _ h2
    · obtain ⟨s, e1, e2⟩ := hr.blk _ _ h2
      exact ⟨s, q.sb _ _ e1, e2.kp q.sb q.kp (notF _ _ _ h2 h2' e1)⟩
  · obtain ⟨b, x, s, hb, hx, hsb, e⟩ := hk'
    rcases hk _ _ hb with h2 | ⟨h2, h2'⟩
    · rcases q.ft k ⟨b, x, s, h2, hx, hsb, e⟩ with h3 | h3
      · exact p.ft k (foot_sub hs h3)
      · exact .inr (Nat.le_trans p.kp.size h3)
    · obtain ⟨s', e1, e2, -⟩ := old _ _ h2
      rw [hsb] at e2; cases e2
      exact p.ft k ⟨b, x, s, h2, hx, e1, e⟩
  · rw [q.hp.dm b (by rw [hn]; exact Nat.lt_of_lt_of_le hb p.hp.nx)]
    exact p.hp.dm b hb
  · rw [hn']
    exact Nat.le_trans p.hp.nx (hn ▸ q.hp.nx)
  · have hK := p.hp.od b hb e
    have hI : hGet Hin b = none := by
      cases hq : hGet Hin b with
      | none => rfl
      | some y => have := hs _ _ hq; rw [hK] at this; cases this
    have h1' := q.hp.od b (by rw [hn]; exact Nat.lt_of_lt_of_le hb p.hp.nx) hI
    cases hq : hGet K' b with
    | none => rfl
    | some y =>
      rcases hk _ _ hq with h2 | ⟨h2, -⟩
      · rw [h1'] at h2; cases h2
      · rw [hK] at h2; cases h2
  · rcases hk _ _ e with h2 | ⟨h2, -⟩
    · exact p.hp.ro _ _ (hs _ _ (q.hp.ro _ _ h2))
    · exact p.hp.ro _ _ h2

/-- A block is new, at a number that was kept free for it. -/
theorem Post.newAt (p : Post G φ0 h0 w0 φ K w) {β : Nat} {x : B} {b' N : Nat} (hβ : h0.next ≤ β) (hβ' : β < K.next) (hφ : φ β = none) (k : Ext w w') (hb' : w.heap.size ≤ b') (hx : BR (addPh φ β (b', 0, N)) x (b', 0, N) w') (hro : isRo x = false)
    (hn : K'.next = K.next) (hk : ∀ b y, hGet K' b = some y → (b ≠ β ∧ hGet K b = some y) ∨ (b = β ∧ y = x)) : Post G φ0 h0 w0 (addPh φ β (b', 0, N)) K' w' := by
  have hr := p.rel
  have hsb : Sb φ (addPh φ β (b', 0, N)) := fun b q hb => by
    unfold addPh
    split
    · rename_i e; rw [e, hφ] at hb; cases hb
    · exact hb
  have hph : ∀ b, b ≠ β → addPh φ β (b', 0, N) b = φ b := fun b hb => if_neg hb
  have mix : ∀ b y s, hGet K b = some y → φ b = some s → s.1 = b' → False := fun b y s hb hs e => by
    obtain ⟨q, e1, e2⟩ := hr.blk _ _ hb
    rw [hs] at e1; cases e1
    have := e2.lt
    omega
  refine ⟨p.sb.trans hsb, ⟨fun a b y z s t ha hb hsa htb e => ?_, fun b y hb => ?_, fun b hb => ?_, fun g hg => ?_⟩, p.kp.trans k.kp, fun j hj => ?_, ⟨fun b hb => ?_, by rw [hn]; exact p.hp.nx, fun b hb e => ?_, fun b l e => ?_⟩⟩
  · rcases hk _ _ ha with ⟨n1, h1⟩ | ⟨rfl, rfl⟩
    · rw [hph _ n1] at hsa
      rcases hk _ _ hb with ⟨n2, h2⟩ | ⟨rfl, rfl⟩
      · rw [hph _ n2] at htb
        exact hr.inj _ _ _ _ _ _ h1 h2 hsa htb e
      · rw [addPh_same] at htb; cases htb
        exact (mix _ _ _ h1 hsa e).elim
    · rw [addPh_same] at hsa; cases hsa
      rcases hk _ _ hb with ⟨n2, h2⟩ | ⟨rfl, rfl⟩
      · rw [hph _ n2] at htb
        exact (mix _ _ _ h2 htb e.symm).elim
      · rfl
  · rcases hk _ _ hb with ⟨n1, h1⟩ | ⟨rfl, rfl⟩
    · obtain ⟨s, e1, e2⟩ := hr.blk _ _ h1
      exact ⟨s, hsb _ _ e1, e2.kp hsb k id⟩
    · exact ⟨_, addPh_same _ _ _, hx⟩
  · rw [hn] at hb
    rw [hph _ (by omega)]
    exact hr.fresh b hb
  · obtain ⟨N', h1⟩ := hr.glob g hg
    exact ⟨N', hsb _ _ h1⟩
  · obtain ⟨b, y, s, hb, hy, hs, e⟩ := hj
    rcases hk _ _ hb with ⟨n1, h1⟩ | ⟨rfl, rfl⟩
    · rw [hph _ n1] at hs
      exact p.ft j ⟨b, y, s, h1, hy, hs, e⟩
    · rw [addPh_same] at hs; cases hs
      exact .inr (e ▸ Nat.le_trans p.kp.size hb')
  · rw [hph _ (by omega)]
    exact p.hp.dm b hb
  · have hK := p.hp.od b hb e
    cases hq : hGet K' b with
    | none => rfl
    | some y =>
      rcases hk _ _ hq with ⟨-, h2⟩ | ⟨rfl, -⟩
      · rw [hK] at h2; cases h2
      · omega
  · rcases hk _ _ e with ⟨-, h2⟩ | ⟨-, h2⟩
    · exact p.hp.ro _ _ h2
    · rw [← h2] at hro; cases hro
end

/-! ### Blocks laid into a memory -/
section
variable (P : Program) (ops : List Oper) (b0 : Nat)
noncomputable def addA (al : List (Nat × B)) (h : H) : H := al.foldl (fun h p => ⟨trPut HD (b0 + rk P ops p.1) h.t (some p.2), h.next⟩) h
theorem addAll_eq {β : Type} (c : H → β) : ∀ (al : List (Nat × B)) (h : H), addAll P ops b0 al h c = c (addA P ops b0 al h)
  | [], h => rfl
  | p :: al, h => by
    show hSet h (Nat.add b0 (rk P ops p.1)) (some p.2) (fun h => addAll P ops b0 al h c) = _
    rw [hSet_eq, addAll_eq c al]
    rfl
variable {P ops b0}
theorem addA_next : ∀ (al : List (Nat × B)) (h : H), (addA P ops b0 al h).next = h.next
  | [], _ => rfl
  | p :: al, h => addA_next al _
theorem addA_ne {b : Nat} : ∀ (al : List (Nat × B)) (h : H), (∀ p ∈ al, b ≠ b0 + rk P ops p.1) → hGet (addA P ops b0 al h) b = hGet h b
  | [], _, _ => rfl
  | p :: al, h, hn => (addA_ne al _ fun q hq => hn q (List.mem_cons_of_mem _ hq)).trans (hGet_put_ne (hn p (List.mem_cons_self ..)))
theorem addA_some {b : Nat} {y : B} : ∀ (al : List (Nat × B)) (h : H), hGet (addA P ops b0 al h) b = some y → (hGet h b = some y ∧ ∀ p ∈ al, b ≠ b0 + rk P ops p.1) ∨ ∃ p ∈ al, b = b0 + rk P ops p.1 ∧ y = p.2
  | [], _, e => .inl ⟨e, fun _ h => by cases h⟩
  | p :: al, h, e => by
    rcases addA_some al _ e with ⟨h1, h2⟩ | ⟨q, h1, h2, h3⟩
    · by_cases hb : b = b0 + rk P ops p.1
      · subst hb
        have := hGet_put_same h1
        exact .inr ⟨p, List.mem_cons_self .., rfl, (Option.some.inj this).symm⟩
      · rw [hGet_put_ne hb] at h1
        refine .inl ⟨h1, fun q hq => ?_⟩
        rcases List.mem_cons.1 hq with rfl | hq
        · exact hb
        · exact h2 q hq
    · exact .inr ⟨q, List.mem_cons_of_mem _ h1, h2, h3⟩
theorem addA_in {p : Nat × B} : ∀ (al : List (Nat × B)) (h : H), (al.map fun q => rk P ops q.1).Nodup → p ∈ al → b0 + rk P ops p.1 < 16 ^ HD → hGet (addA P ops b0 al h) (b0 + rk P ops p.1) = some p.2
  | [], _, _, hp, _ => by cases hp
  | q :: al, h, hn, hp, hb => by
    simp only [List.map_cons, List.nodup_cons] at hn
    rcases List.mem_cons.1 hp with rfl | hp
    · have h1 : hGet (addA P ops b0 al ⟨trPut HD (b0 + rk P ops p.1) h.t (some p.2), h.next⟩) (b0 + rk P ops p.1) = _ := addA_ne al _ fun q hq e => hn.1 (by
        have : rk P ops p.1 = rk P ops q.1 := by omega
        rw [this]; exact List.mem_map_of_mem hq)
      exact h1.trans (get_put_in none HD _ _ _ hb)
    · exact addA_in al _ hn.2 hp hb
end
end Go.Proofs.YtkgiammeeckfbaaGreat
