/- A function's answer at given arguments and a given part of the memory, reckoned once, as a hook: what lies beside that part stays. It is of no program. -/
import Derived.Test.YtkgiammeeckfbaaGreatEvZ
namespace Go.Proofs.YtkgiammeeckfbaaGreat
open Go Go.RowKit
set_option linter.all false

section
variable {α : Type}
noncomputable def ndEq (f : α → α → Bool) (x y : Nd α) : Bool :=
  and (and (and (and (f x.a0 y.a0) (f x.a1 y.a1)) (and (f x.a2 y.a2) (f x.a3 y.a3))) (and (and (f x.a4 y.a4) (f x.a5 y.a5)) (and (f x.a6 y.a6) (f x.a7 y.a7))))
    (and (and (and (f x.a8 y.a8) (f x.a9 y.a9)) (and (f x.a10 y.a10) (f x.a11 y.a11))) (and (and (f x.a12 y.a12) (f x.a13 y.a13)) (and (f x.a14 y.a14) (f x.a15 y.a15))))
theorem ndEq_sound {f : α → α → Bool} (hf : ∀ a b, f a b = true → a = b) {x y : Nd α} (h : ndEq f x y = true) : x = y := by
  unfold ndEq at h
  simp only [Bool.and_eq_true] at h
  obtain ⟨⟨⟨⟨h0, h1⟩, h2, h3⟩, ⟨h4, h5⟩, h6, h7⟩, ⟨⟨h8, h9⟩, h10, h11⟩, ⟨h12, h13⟩, h14, h15⟩ := h
  cases x; cases y
  simp only [Nd.mk.injEq]
  exact ⟨hf _ _ h0, hf _ _ h1, hf _ _ h2, hf _ _ h3, hf _ _ h4, hf _ _ h5, hf _ _ h6, hf _ _ h7, hf _ _ h8, hf _ _ h9, hf _ _ h10, hf _ _ h11, hf _ _ h12, hf _ _ h13, hf _ _ h14, hf _ _ h15⟩
noncomputable def trEqB (f : α → α → Bool) (d : Nat) : Tr α d → Tr α d → Bool := Nat.rec (motive := fun d => Tr α d → Tr α d → Bool) f (fun _ ih x y => ndEq ih x y) d
theorem trEqB_sound {f : α → α → Bool} (hf : ∀ a b, f a b = true → a = b) : ∀ (d : Nat) (x y : Tr α d), trEqB f d x y = true → x = y
  | 0, x, y, h => hf x y h
  | d + 1, _, _, h => ndEq_sound (f := trEqB f d) (trEqB_sound hf d) h
end
/-- The entries of maps. -/
noncomputable def esEq (l : List (V × V × Nat)) : List (V × V × Nat) → Bool := List.rec (motive := fun _ => List (V × V × Nat) → Bool) (fun m => m.isEmpty) (fun a _ ih m => match m with
  | [] => false
  | b :: m => and (and (vEq 20 a.1 b.1) (and (vEq 20 a.2.1 b.2.1) (Nat.beq a.2.2 b.2.2))) (ih m)) l
theorem esEq_sound : ∀ (l m : List (V × V × Nat)), esEq l m = true → l = m
  | [], [], _ => rfl
  | [], _ :: _, h => by cases h
  | _ :: _, [], h => by cases h
  | (a, b, c) :: l, (a', b', c') :: m, h => by
    have h' : and (and (vEq 20 a a') (and (vEq 20 b b') (Nat.beq c c'))) (esEq l m) = true := h
    simp only [Bool.and_eq_true] at h'
    obtain ⟨⟨h1, h2, h3⟩, h4⟩ := h'
    rw [vEq_sound _ _ _ h1, vEq_sound _ _ _ h2, Nat.eq_of_beq_eq_true h3, esEq_sound l m h4]
noncomputable def usEq (l : List (V × V)) : List (V × V) → Bool := List.rec (motive := fun _ => List (V × V) → Bool) (fun m => m.isEmpty) (fun a _ ih m => match m with
  | [] => false
  | b :: m => and (and (vEq 20 a.1 b.1) (vEq 20 a.2 b.2)) (ih m)) l
theorem usEq_sound : ∀ (l m : List (V × V)), usEq l m = true → l = m
  | [], [], _ => rfl
  | [], _ :: _, h => by cases h
  | _ :: _, [], h => by cases h
  | (a, b) :: l, (a', b') :: m, h => by
    have h' : and (and (vEq 20 a a') (vEq 20 b b')) (usEq l m) = true := h
    simp only [Bool.and_eq_true] at h'
    obtain ⟨⟨h1, h2⟩, h4⟩ := h'
    rw [vEq_sound _ _ _ h1, vEq_sound _ _ _ h2, usEq_sound l m h4]
noncomputable def isUnd (b : V) : Bool := match b with
  | .und => true
  | _ => false
/-- Equal, or both unknown. -/
noncomputable def vEqU (a b : V) : Bool := match a with
  | .und => isUnd b
  | a => vEq 20 a b
theorem vEqU_sound (a b : V) (h : vEqU a b = true) : a = b := by
  unfold vEqU at h
  split at h
  · unfold isUnd at h
    split at h
    · rfl
    · cases h
  · exact vEq_sound 20 _ _ h
noncomputable def blkEq (x y : B) : Bool := match x, y with
  | .cells n d t ty st, .cells n' d' t' ty' st' => if e : d = d' then and (and (Nat.beq n n') (and (Nat.beq ty ty') (beqB st st'))) (trEqB vEqU d' (e ▸ t) t') else false
  | .ro l, .ro m => vEqs (vEq 20) l m
  | .map l c, .map m c' => and (Nat.beq c c') (esEq l m)
  | .umap l, .umap m => usEq l m
  | .dfr, .dfr => true
  | .shut, .shut => true
  | .byt n s ty st, .byt n' s' ty' st' => and (and (Nat.beq n n') (Nat.beq s s')) (and (Nat.beq ty ty') (beqB st st'))
  | _, _ => false
theorem beqB_sound {a b : Bool} (h : beqB a b = true) : a = b := by rw [beqB_eq] at h; simpa using h
theorem blkEq_sound (x y : B) (h : blkEq x y = true) : x = y := by
  unfold blkEq at h
  split at h
  · rename_i n d t ty st n' d' t' ty' st'
    split at h
    · rename_i e
      subst e
      simp only [Bool.and_eq_true] at h
      obtain ⟨⟨h1, h2, h3⟩, h4⟩ := h
      have := trEqB_sound (fun a b h => vEqU_sound a b h) _ _ _ h4
      rw [Nat.eq_of_beq_eq_true h1, Nat.eq_of_beq_eq_true h2, beqB_sound h3, this]
    · cases h
  · rw [vEqs_sound (vEq_sound 20) _ _ h]
  · simp only [Bool.and_eq_true] at h
    rw [Nat.eq_of_beq_eq_true h.1, esEq_sound _ _ h.2]
  · rw [usEq_sound _ _ h]
  · rfl
  · rfl
  · simp only [Bool.and_eq_true] at h
    obtain ⟨⟨h1, h2⟩, h3, h4⟩ := h
    rw [Nat.eq_of_beq_eq_true h1, Nat.eq_of_beq_eq_true h2, Nat.eq_of_beq_eq_true h3, beqB_sound h4]
  · cases h
noncomputable def optEq (x y : Option B) : Bool := match x, y with
  | none, none => true
  | some x, some y => blkEq x y
  | _, _ => false
theorem optEq_sound (x y : Option B) (h : optEq x y = true) : x = y := by
  unfold optEq at h
  split at h
  · rfl
  · rw [blkEq_sound _ _ h]
  · cases h
/-! ### What was reckoned once -/
/-- The function f, at these arguments and a memory of these blocks, answers v; then these blocks are others, or new, or gone. -/
structure Memo where
  f : Nat
  args : List V
  n0 : Nat
  l0 : List (Nat × B)
  v : V
  n1 : Nat
  l1 : List (Nat × Option B)
noncomputable def hMkL (l : List (Nat × B)) : H → H := List.rec (motive := fun _ => H → H) (fun h => h) (fun p _ ih h => hSet h p.1 (some p.2) ih) l
noncomputable def hMk (n : Nat) (l : List (Nat × B)) : H := hMkL l ⟨trNew none HD, n⟩
theorem hMkL_step (p : Nat × B) (l : List (Nat × B)) (h : H) : hMkL (p :: l) h = hMkL l ⟨trPut HD p.1 h.t (some p.2), h.next⟩ := by
  show hSet h p.1 (some p.2) (hMkL l) = _
  rw [hSet_eq]
theorem hMkL_get : ∀ {l : List (Nat × B)} {h : H} {b : Nat} {x : B}, hGet (hMkL l h) b = some x → (b, x) ∈ l ∨ hGet h b = some x
  | [], _, _, _, e => .inr e
  | (c, y) :: l, h, b, x, e => by
    rw [hMkL_step] at e
    rcases hMkL_get e with e1 | e1
    · exact .inl (List.mem_cons_of_mem _ e1)
    · by_cases hb : b = c
      · subst hb
        have := hGet_put_same e1
        cases this
        exact .inl (List.mem_cons_self ..)
      · rw [hGet_put_ne hb] at e1
        exact .inr e1
theorem hMkL_next : ∀ {l : List (Nat × B)} {h : H}, (hMkL l h).next = h.next
  | [], _ => rfl
  | p :: l, h => by rw [hMkL_step]; exact hMkL_next
theorem hMk_get {n : Nat} {l : List (Nat × B)} {b : Nat} {x : B} (e : hGet (hMk n l) b = some x) : (b, x) ∈ l := by
  rcases hMkL_get e with e1 | e1
  · exact e1
  · have hn : hGet (⟨trNew none HD, n⟩ : H) b = none := get_new none HD b
    rw [hn] at e1; cases e1
noncomputable def hPutsK {β : Type} (l : List (Nat × Option B)) : H → (H → β) → β := List.rec (motive := fun _ => H → (H → β) → β) (fun h c => c h) (fun p _ ih h c => hSet h p.1 p.2 fun h => ih h c) l
noncomputable def hPuts : List (Nat × Option B) → H → H
  | [], h => h
  | p :: l, h => hPuts l ⟨trPut HD p.1 h.t p.2, h.next⟩
theorem hPutsK_eq {β : Type} : ∀ (l : List (Nat × Option B)) (h : H) (c : H → β), hPutsK l h c = c (hPuts l h)
  | [], _, _ => rfl
  | p :: l, h, c => by
    show hSet h p.1 p.2 (fun h => hPutsK l h c) = _
    rw [hSet_eq, hPutsK_eq l]
    rfl
theorem hPuts_get : ∀ {l : List (Nat × Option B)} {h : H} {b : Nat} {x : B}, hGet (hPuts l h) b = some x → (b, some x) ∈ l ∨ ((∀ y, (b, y) ∉ l) ∧ hGet h b = some x)
  | [], _, _, _, e => .inr ⟨fun y hy => by simp at hy, e⟩
  | (c, y) :: l, h, b, x, e => by
    rcases hPuts_get (l := l) e with e1 | ⟨e0, e1⟩
    · exact .inl (List.mem_cons_of_mem _ e1)
    · by_cases hb : b = c
      · subst hb
        have := hGet_put_same e1
        subst this
        exact .inl (List.mem_cons_self ..)
      · rw [hGet_put_ne hb] at e1
        exact .inr ⟨fun z hz => by
          rcases List.mem_cons.1 hz with h1 | h1
          · cases h1; exact hb rfl
          · exact e0 z h1, e1⟩
theorem hPuts_next : ∀ {l : List (Nat × Option B)} {h : H}, (hPuts l h).next = h.next
  | [], _ => rfl
  | p :: l, h => hPuts_next (l := l)
noncomputable def keyIn (b : Nat) (l : List (Nat × Option B)) : Bool := List.rec (motive := fun _ => Bool) false (fun p _ ih => or (Nat.beq p.1 b) ih) l
theorem keyIn_false {b : Nat} : ∀ {l : List (Nat × Option B)}, (∀ y, (b, y) ∉ l) → keyIn b l = false
  | [], _ => rfl
  | (c, x) :: l, h => by
    show or (Nat.beq c b) (keyIn b l) = false
    rw [keyIn_false (l := l) fun y hy => h y (List.mem_cons_of_mem _ hy)]
    cases hb : Nat.beq c b with
    | false => rfl
    | true =>
      have := Nat.eq_of_beq_eq_true hb
      subst this
      exact absurd (List.mem_cons_self ..) (h x)
noncomputable def lsAll (h : H) (l : List (Nat × Option B)) : Bool := List.rec (motive := fun _ => Bool) true (fun p _ ih => and (optEq (hGet h p.1) p.2) ih) l
theorem lsAll_spec {h : H} : ∀ {l : List (Nat × Option B)}, lsAll h l = true → ∀ p ∈ l, hGet h p.1 = p.2
  | [], _, p, hp => by simp at hp
  | q :: l, e, p, hp => by
    have e' : and (optEq (hGet h q.1) q.2) (lsAll h l) = true := e
    simp only [Bool.and_eq_true] at e'
    rcases List.mem_cons.1 hp with h1 | h1
    · subst h1; exact optEq_sound _ _ e'.1
    · exact lsAll_spec e'.2 p h1
noncomputable def lsKept (h : H) (l1 : List (Nat × Option B)) (l : List (Nat × B)) : Bool := List.rec (motive := fun _ => Bool) true (fun p _ ih => and (or (keyIn p.1 l1) (optEq (hGet h p.1) (some p.2))) ih) l
theorem lsKept_spec {h : H} {l1 : List (Nat × Option B)} : ∀ {l : List (Nat × B)}, lsKept h l1 l = true → ∀ p ∈ l, (∀ y, (p.1, y) ∉ l1) → hGet h p.1 = some p.2
  | [], _, p, hp, _ => by simp at hp
  | q :: l, e, p, hp, hk => by
    have e' : and (or (keyIn q.1 l1) (optEq (hGet h q.1) (some q.2))) (lsKept h l1 l) = true := e
    simp only [Bool.and_eq_true] at e'
    rcases List.mem_cons.1 hp with h1 | h1
    · subst h1
      rw [keyIn_false hk, Bool.false_or] at e'
      exact optEq_sound _ _ e'.1
    · exact lsKept_spec e'.2 p h1 hk
/-- The memory holds these blocks. -/
noncomputable def lsHold (h : H) (l : List (Nat × B)) : Bool := List.rec (motive := fun _ => Bool) true (fun p _ ih => and (optEq (hGet h p.1) (some p.2)) ih) l
theorem lsHold_spec {h : H} : ∀ {l : List (Nat × B)}, lsHold h l = true → ∀ p ∈ l, hGet h p.1 = some p.2
  | [], _, p, hp => by simp at hp
  | q :: l, e, p, hp => by
    have e' : and (optEq (hGet h q.1) (some q.2)) (lsHold h l) = true := e
    simp only [Bool.and_eq_true] at e'
    rcases List.mem_cons.1 hp with h1 | h1
    · subst h1; exact optEq_sound _ _ e'.1
    · exact lsHold_spec e'.2 p h1
noncomputable def memoR (m : Memo) (r : Res) : Bool := match r with
  | .ok v h => and (vEq 20 v m.v) (and (Nat.beq h.next m.n1) (and (lsAll h m.l1) (lsKept h m.l1 m.l0)))
  | .bad _ _ => false
/-- The reckoner finds the same. -/
noncomputable def memoB (P : Program) (G : Nat) (X : Hook P G) (n : Nat) (m : Memo) : Bool := memoR m (evF P G X n m.f m.args (hMk m.n0 m.l0))
def MemoOK (P : Program) (G : Nat) (m : Memo) : Prop := ∀ φ w us, Rel G φ (hMk m.n0 m.l0) w → CVs φ m.args us → CF P m.f ∧ Ret P m.f us w fun u w' => ∃ φ' h1, Post G φ (hMk m.n0 m.l0) w φ' h1 w' ∧ CV φ' m.v u ∧
  h1.next = m.n1 ∧ (∀ p ∈ m.l1, hGet h1 p.1 = p.2) ∧ (∀ p ∈ m.l0, (∀ y, (p.1, y) ∉ m.l1) → hGet h1 p.1 = some p.2)
theorem memo_ok {P : Program} {G n : Nat} {X : Hook P G} {m : Memo} (he : memoB P G X n m = true) : MemoOK P G m := by
  intro φ w us r hc
  unfold memoB memoR at he
  split at he
  · rename_i v h1 hv
    simp only [Bool.and_eq_true] at he
    obtain ⟨e1, e2, e3, e4⟩ := he
    obtain ⟨hcf, hr⟩ := evF_ok hv r hc
    refine ⟨hcf, hr.mono fun u w' ⟨φ', hp, hu⟩ => ⟨φ', h1, hp, ?_, Nat.eq_of_beq_eq_true e2, lsAll_spec e3, lsKept_spec e4⟩⟩
    rw [← vEq_sound _ _ _ e1]; exact hu
  · cases he
theorem memo_frame {P : Program} {G : Nat} {m : Memo} (hm : MemoOK P G m) {h : H} (hn : h.next = m.n0) (hh : ∀ p ∈ m.l0, hGet h p.1 = some p.2) {φ : Ph} {w : World} {us : List Value} (r : Rel G φ h w) (hc : CVs φ m.args us) :
    CF P m.f ∧ Ret P m.f us w fun u w' => ∃ φ', Post G φ h w φ' (hPuts m.l1 ⟨h.t, m.n1⟩) w' ∧ CV φ' m.v u := by
  have hsub : ∀ b x, hGet (hMk m.n0 m.l0) b = some x → hGet h b = some x := fun b x e => hh _ (hMk_get e)
  have hnx : (hMk m.n0 m.l0).next = m.n0 := hMkL_next
  have hd0 : ∀ {b x}, (b, x) ∈ m.l0 → hGet h b = some x := fun e => hh _ e
  have r0 : Rel G φ (hMk m.n0 m.l0) w := ⟨fun a b x y p q ha hb => r.inj a b x y p q (hsub _ _ ha) (hsub _ _ hb), fun b x hb => r.blk b x (hsub _ _ hb), fun b hb => r.fresh b (by rw [hn, ← hnx]; exact hb), r.glob⟩
  obtain ⟨hcf, hr⟩ := hm φ w us r0 hc
  refine ⟨hcf, hr.mono fun u w' ⟨φ', h1, hp, hu, en, e1, e0⟩ => ⟨φ', ?_, hu⟩⟩
  have hfoot : ∀ k, foot φ (hMk m.n0 m.l0) k → foot φ h k := fun k ⟨b, x, p, hb, h2, h3, h4⟩ => ⟨b, x, p, hsub _ _ hb, h2, h3, h4⟩
  -- what the new memory holds
  have hget : ∀ {b x}, hGet (hPuts m.l1 ⟨h.t, m.n1⟩) b = some x → hGet h1 b = some x ∨ (hGet h b = some x ∧ ∀ y, (b, y) ∉ m.l0) := by
    intro b x e
    rcases hPuts_get e with h2 | ⟨h2, h3⟩
    · exact .inl (e1 _ h2)
    · have h4 : hGet h b = some x := h3
      by_cases hb : ∃ y, (b, y) ∈ m.l0
      · obtain ⟨y, hy⟩ := hb
        have h5 := e0 _ hy h2
        rw [hd0 hy] at h4
        cases h4
        exact .inl h5
      · exact .inr ⟨h4, fun y hy => hb ⟨y, hy⟩⟩
  have old : ∀ {b x}, hGet h b = some x → (∀ y, (b, y) ∉ m.l0) → ∃ p, φ b = some p ∧ φ' b = some p ∧ BR φ x p w ∧ ¬ foot φ (hMk m.n0 m.l0) p.1 := by
    intro b x hb hno
    obtain ⟨p, hpb, hbr⟩ := r.blk _ _ hb
    refine ⟨p, hpb, hp.sb _ _ hpb, hbr, fun ⟨c, y, q, hc', _, hq, e⟩ => ?_⟩
    have := r.inj _ _ _ _ _ _ (hsub _ _ hc') hb hq hpb e
    subst this
    exact hno _ (hMk_get hc')
  have mixed : ∀ {a b x y p q}, hGet h1 a = some x → hGet h b = some y → (∀ z, (b, z) ∉ m.l0) → φ' a = some p → φ' b = some q → p.1 = q.1 → a = b := by
    intro a b x y p q ha hb hno hpa hqb e
    obtain ⟨q', h2, h3, h4, h5⟩ := old hb hno
    rw [h3] at hqb; cases hqb
    cases hro : isRo x with
    | false =>
      rcases hp.ft p.1 ⟨a, x, p, ha, hro, hpa, rfl⟩ with h6 | h6
      · exact absurd (e ▸ h6) h5
      · have := h4.lt; omega
    | true =>
      cases x <;> try cases hro
      rename_i l
      have h6 := hsub _ _ (hp.hp.ro _ _ ha)
      obtain ⟨p', h7, -⟩ := r.blk _ _ h6
      have h8 := hp.sb _ _ h7
      rw [h8] at hpa; cases hpa
      exact r.inj _ _ _ _ _ _ h6 hb h7 h2 e
  refine ⟨hp.sb, ⟨fun a b x y p q ha hb hpa hqb e => ?_, fun b x hb => ?_, fun b hb => ?_, hp.rel.glob⟩, hp.kp.mono' hfoot, fun k ⟨b, x, p, hb, hro, hpb, e⟩ => ?_, ⟨fun b hb => ?_, ?_, fun b hb e => ?_, fun b l e => ?_⟩⟩
  · rcases hget ha with ha | ⟨ha, ha0⟩
    · rcases hget hb with hb | ⟨hb, hb0⟩
      · exact hp.rel.inj _ _ _ _ _ _ ha hb hpa hqb e
      · exact mixed ha hb hb0 hpa hqb e
    · rcases hget hb with hb | ⟨hb, hb0⟩
      · exact (mixed hb ha ha0 hqb hpa e.symm).symm
      · obtain ⟨p', h2, h3, -⟩ := old ha ha0
        obtain ⟨q', h4, h5, -⟩ := old hb hb0
        rw [h3] at hpa; cases hpa
        rw [h5] at hqb; cases hqb
        exact r.inj _ _ _ _ _ _ ha hb h2 h4 e
  · rcases hget hb with hb | ⟨hb, hb0⟩
    · exact hp.rel.blk _ _ hb
    · obtain ⟨p, -, h3, h4, h5⟩ := old hb hb0
      exact ⟨p, h3, h4.kp hp.sb hp.kp h5⟩
  · rw [hPuts_next] at hb
    exact hp.rel.fresh _ (by rw [en]; exact hb)
  · rcases hget hb with hb | ⟨hb, hb0⟩
    · rcases hp.ft k ⟨b, x, p, hb, hro, hpb, e⟩ with h2 | h2
      · exact .inl (hfoot _ h2)
      · exact .inr h2
    · obtain ⟨q, h2, h3, -⟩ := old hb hb0
      rw [h3] at hpb; cases hpb
      exact .inl ⟨b, x, p, hb, hro, h2, e⟩
  · exact hp.hp.dm b (by rw [hnx, ← hn]; exact hb)
  · rw [hPuts_next]
    have := hp.hp.nx
    rw [hnx, en, ← hn] at this
    exact this
  · cases hx : hGet (hPuts m.l1 ⟨h.t, m.n1⟩) b with
    | none => rfl
    | some x =>
      rcases hget hx with h2 | ⟨h2, -⟩
      · have h3 : hGet (hMk m.n0 m.l0) b = none := by
          cases h4 : hGet (hMk m.n0 m.l0) b with
          | none => rfl
          | some y => rw [hsub _ _ h4] at e; cases e
        rw [hp.hp.od b (by rw [hnx, ← hn]; exact hb) h3] at h2
        cases h2
      · rw [e] at h2; cases h2
  · rcases hget e with h2 | ⟨h2, -⟩
    · exact hsub _ _ (hp.hp.ro _ _ h2)
    · exact h2
/-- The hook: known at these arguments and this part of the memory; else the function is gone through. -/
noncomputable def xMemos (l : List Memo) (args : List V) (h : H) : Option Res := List.rec (motive := fun _ => Option Res) none (fun m _ ih => cond (and (Nat.beq m.n0 h.next) (and (vEqs (vEq 20) args m.args) (lsHold h m.l0))) (hPutsK m.l1 ⟨h.t, m.n1⟩ fun h => some (.ok m.v h)) ih) l
theorem xMemos_ok {P : Program} {G : Nat} {f : FuncId} {args : List V} {h h' : H} {v : V} : ∀ {l : List Memo}, (∀ m ∈ l, m.f = f ∧ MemoOK P G m) → xMemos l args h = some (.ok v h') → ∀ {φ w us}, Rel G φ h w → CVs φ args us → Dn P f us w fun u w' => ∃ φ', Post G φ h w φ' h' w' ∧ CV φ' v u
  | [], _, e, _, _, _, _, _ => by cases e
  | m :: l, hl, e, φ, w, us, r, hc => by
    have hstep : xMemos (m :: l) args h = cond (and (Nat.beq m.n0 h.next) (and (vEqs (vEq 20) args m.args) (lsHold h m.l0))) (hPutsK m.l1 ⟨h.t, m.n1⟩ fun h => some (.ok m.v h)) (xMemos l args h) := rfl
    rw [hstep] at e
    cases hcnd : and (Nat.beq m.n0 h.next) (and (vEqs (vEq 20) args m.args) (lsHold h m.l0)) with
    | false =>
      rw [hcnd] at e
      exact xMemos_ok (fun m hm => hl m (List.mem_cons_of_mem _ hm)) e r hc
    | true =>
      rw [hcnd, cond_true, hPutsK_eq] at e
      cases e
      simp only [Bool.and_eq_true] at hcnd
      obtain ⟨k1, k2, k3⟩ := hcnd
      have ha := vEqs_sound (vEq_sound 20) _ _ k2
      subst ha
      obtain ⟨hf, hm⟩ := hl m (List.mem_cons_self ..)
      subst hf
      exact .inl (memo_frame hm (Nat.eq_of_beq_eq_true k1).symm (lsHold_spec k3) r hc)
/-- The memos of one function. -/
noncomputable def ofF (f : Nat) (ms : List Memo) : List Memo := List.rec (motive := fun _ => List Memo) [] (fun m _ ih => cond (Nat.beq m.f f) (m :: ih) ih) ms
theorem ofF_mem {f : Nat} {m : Memo} : ∀ {ms : List Memo}, m ∈ ofF f ms → m ∈ ms ∧ m.f = f
  | [], h => by cases h
  | a :: ms, h => by
    have hstep : ofF f (a :: ms) = cond (Nat.beq a.f f) (a :: ofF f ms) (ofF f ms) := rfl
    rw [hstep] at h
    cases hb : Nat.beq a.f f with
    | false =>
      rw [hb] at h
      obtain ⟨h1, h2⟩ := ofF_mem (ms := ms) h
      exact ⟨List.mem_cons_of_mem _ h1, h2⟩
    | true =>
      rw [hb] at h
      rcases List.mem_cons.1 h with h1 | h1
      · subst h1; exact ⟨List.mem_cons_self .., Nat.eq_of_beq_eq_true hb⟩
      · obtain ⟨h1, h2⟩ := ofF_mem (ms := ms) h1
        exact ⟨List.mem_cons_of_mem _ h1, h2⟩
noncomputable def memoFn (l : List Memo) : Option (List V → H → Option Res) := @List.rec Memo (fun _ => Option (List V → H → Option Res)) none (fun _ _ _ => some (xMemos l)) l
theorem memoFn_spec {l : List Memo} {g : List V → H → Option Res} (h : memoFn l = some g) : g = xMemos l := by
  cases l with
  | nil => cases h
  | cons a l => cases h; rfl
/-- What is asked of a deferred function that is known. -/
def DkOk (P : Program) (G : Nat) (f : FuncId) (g : List V → H → Res) : Prop := ∀ args h v h', g args h = .ok v h' → ∀ φ w us, Rel G φ h w → CVs φ args us → CF P f ∧ RetD P f us w fun u w' => ∃ φ', Post G φ h w φ' h' w' ∧ CV φ' v u
/-- Known functions, what was reckoned once, deferred functions that are known. -/
noncomputable def mkHookM {P : Program} {G : Nat} (l : List (Nat × (List V → H → Res))) (dl : List (Nat × (List V → H → Res))) (ms : List Memo) (hl : ∀ p ∈ l, HkOk P G p.1 p.2) (hd : ∀ p ∈ dl, DkOk P G p.1 p.2) (hm : ∀ m ∈ ms, MemoOK P G m) : Hook P G :=
  ⟨fun f => @Option.rec (List V → H → Res) (fun _ => Option (List V → H → Option Res)) (memoFn (ofF f ms)) (fun g => some (hkW g)) (hkFn l f), fun f g h args h0 v h' he φ w us r hc => by
    cases hg : hkFn l f with
    | none =>
      rw [hg] at h
      have := memoFn_spec h
      subst this
      exact xMemos_ok (fun m hm' => ⟨(ofF_mem hm').2, hm m (ofF_mem hm').1⟩) he r hc
    | some g0 =>
      rw [hg] at h
      cases h
      exact hl _ (hkFn_mem hg) args h0 v h' (Option.some.inj he) φ w us r hc, hkFn dl, fun f g h => hd _ (hkFn_mem h)⟩
theorem memos_nil {P : Program} {G : Nat} : ∀ m ∈ ([] : List Memo), MemoOK P G m := fun m h => by cases h
theorem memos_cons {P : Program} {G : Nat} {m : Memo} {l : List Memo} (h : MemoOK P G m) (hl : ∀ m ∈ l, MemoOK P G m) : ∀ x ∈ m :: l, MemoOK P G x := fun x hx => by
  rcases List.mem_cons.1 hx with h1 | h1
  · subst h1; exact h
  · exact hl x h1
/-! Blocks and values as the texts write them. -/
noncomputable def cB (ty : Nat) (l : List V) : B := newB l ty false fun x => x
noncomputable def cT (ty : Nat) (l : List V) : B := newB l ty true fun x => x
noncomputable abbrev vi (n : Nat) : V := .int .i64 (.ofNat n)
noncomputable abbrev vu (n : Nat) : V := .int .u64 (.ofNat n)
end Go.Proofs.YtkgiammeeckfbaaGreat
