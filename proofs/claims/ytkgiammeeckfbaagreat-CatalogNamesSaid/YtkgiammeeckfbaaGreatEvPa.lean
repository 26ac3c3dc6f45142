/- Bytes that are packed: plain laws; memories that mean the same. It is of no program. -/
import Derived.Test.YtkgiammeeckfbaaGreatEvKa
namespace Go.Proofs.YtkgiammeeckfbaaGreat
open Go Go.RowKit
set_option linter.all false

/-! ### Digits -/
theorem shr8 (s o : Nat) : Nat.shiftRight s (Nat.mul 8 o) = s / 256 ^ o := by
  show s >>> (8 * o) = _
  rw [Nat.shiftRight_eq_div_pow, Nat.pow_mul]
theorem shl8 (s o : Nat) : Nat.shiftLeft s (Nat.mul 8 o) = s * 256 ^ o := by
  show s <<< (8 * o) = _
  rw [Nat.shiftLeft_eq, Nat.pow_mul]
/-- A byte. -/
def dg (s i : Nat) : Nat := s / 256 ^ i % 256
theorem byA_eq (s o : Nat) : byA s o = dg s o := by
  show Nat.shiftRight s (Nat.mul 8 o) % 256 = _
  rw [shr8]; rfl
theorem dg_lt (s i : Nat) : dg s i < 256 := Nat.mod_lt _ (by omega)
theorem dg_shift (s o i : Nat) : dg (s / 256 ^ o) i = dg s (o + i) := by unfold dg; rw [Nat.div_div_eq_div_mul, ← Nat.pow_add]
theorem dg_mod (s n i : Nat) (h : i < n) : dg (s % 256 ^ n) i = dg s i := by
  unfold dg
  obtain ⟨k, rfl⟩ : ∃ k, n = i + (k + 1) := ⟨n - i - 1, by omega⟩
  rw [Nat.pow_add, Nat.mod_mul_right_div_self, pow256, Nat.mod_mul_right_mod]
theorem dg_app (s n x i : Nat) (hs : s < 256 ^ n) : dg (s + x * 256 ^ n) i = if i < n then dg s i else dg x (i - n) := by
  split
  · rename_i h
    rw [← dg_mod (s + x * 256 ^ n) n i h, Nat.add_mul_mod_self_right, Nat.mod_eq_of_lt hs]
  · rename_i h
    obtain ⟨k, rfl⟩ : ∃ k, i = n + k := ⟨i - n, by omega⟩
    rw [← dg_shift, Nat.add_mul_div_right _ _ (Nat.pow_pos (by omega)), Nat.div_eq_of_lt hs, Nat.zero_add, Nat.add_sub_cancel_left]
theorem byS_eq (s o n : Nat) : byS s o n = s / 256 ^ o % 256 ^ n := by
  show Nat.shiftRight s (Nat.mul 8 o) % 256 ^ n = _
  rw [shr8]
theorem byS_lt (s o n : Nat) : byS s o n < 256 ^ n := by rw [byS_eq]; exact Nat.mod_lt _ (Nat.pow_pos (by omega))
theorem dg_byS (s o n i : Nat) (h : i < n) : dg (byS s o n) i = dg s (o + i) := by rw [byS_eq, dg_mod _ _ _ h, dg_shift]
theorem byC_eq (s n x : Nat) : byC s n x = s + x * 256 ^ n := by
  show s + Nat.shiftLeft x (Nat.mul 8 n) = _
  rw [shl8]
theorem byP_eq (s o n x : Nat) : byP s o n x = s % 256 ^ o + (x + s / 256 ^ (o + n) * 256 ^ n) * 256 ^ o := by
  have h0 : byP s o n x = s - byS s o n * 256 ^ o + x * 256 ^ o := by
    show (s - Nat.shiftLeft (byS s o n) (Nat.mul 8 o)) + Nat.shiftLeft x (Nat.mul 8 o) = _
    rw [shl8, shl8]
  have h1 : s = s % 256 ^ o + 256 ^ o * (s / 256 ^ o) := by rw [Nat.add_comm]; exact (Nat.div_add_mod s _).symm
  have h2 : s / 256 ^ o = byS s o n + 256 ^ n * (s / 256 ^ (o + n)) := by
    rw [byS_eq, Nat.pow_add, ← Nat.div_div_eq_div_mul, Nat.add_comm]; exact (Nat.div_add_mod _ _).symm
  rw [h0]
  have h3 : s = s % 256 ^ o + (byS s o n * 256 ^ o + s / 256 ^ (o + n) * 256 ^ n * 256 ^ o) := by
    rw [h2, Nat.mul_add] at h1
    rw [Nat.mul_comm (256 ^ o), Nat.mul_comm (256 ^ o), Nat.mul_comm (256 ^ n)] at h1
    exact h1
  rw [Nat.add_mul]
  omega
theorem dg_byP (s o n x i : Nat) (hx : x < 256 ^ n) : dg (byP s o n x) i = if o ≤ i ∧ i < o + n then dg x (i - o) else dg s i := by
  rw [byP_eq, dg_app _ _ _ _ (Nat.mod_lt _ (Nat.pow_pos (by omega)))]
  by_cases h1 : i < o
  · rw [if_pos h1, if_neg (by omega), dg_mod _ _ _ h1]
  · rw [if_neg h1, dg_app _ _ _ _ hx]
    by_cases h2 : i - o < n
    · rw [if_pos h2, if_pos (by omega)]
    · rw [if_neg h2, if_neg (by omega), dg_shift]
      congr 1; omega
theorem dg_zero (i : Nat) : dg 0 i = 0 := by simp [dg]
theorem dg_one (x : Nat) (h : x < 256) : dg x 0 = x := by simp [dg]; omega

/-! ### Trees -/
theorem get_put_inR {α : Type} (z : α) : ∀ (d i : Nat) (t : Tr α d) (v : α), i < 16 ^ d → trGet z d i (trPut d i t v) = v
  | 0, i, t, v, h => by
    have : i = 0 := by simpa using h
    subst this
    rw [trGet_zero, if_pos rfl]; rfl
  | d + 1, i, t, v, h => by
    rw [trGet_succ, trPut_succ, sel_upd (Nat.mod_lt _ (by omega)) (Nat.mod_lt _ (by omega)), if_pos rfl]
    exact get_put_inR z d _ _ _ (by rw [Nat.pow_succ] at h; omega)
/-- A place is there or not, whatever stands in it. -/
theorem get_put_two {α : Type} (z : α) : ∀ (d i : Nat), (∀ (t : Tr α d) (v : α), trGet z d i (trPut d i t v) = v) ∨ (∀ (t : Tr α d), trGet z d i t = z)
  | 0, i => by
    by_cases h : i = 0
    · subst h; exact .inl fun t v => by rw [trGet_zero, if_pos rfl]; rfl
    · exact .inr fun t => by rw [trGet_zero, if_neg h]
  | d + 1, i => by
    rcases get_put_two z d (i / 16) with h | h
    · exact .inl fun t v => by
        rw [trGet_succ, trPut_succ, sel_upd (Nat.mod_lt _ (by omega)) (Nat.mod_lt _ (by omega)), if_pos rfl]
        exact h _ _
    · exact .inr fun t => by rw [trGet_succ]; exact h _
theorem wr_in (d : Nat) : ∀ (l : List V) (t : Tr V d) (o i : Nat), i < 16 ^ d → vGet d i (wr d l t o) = if o ≤ i ∧ i < o + l.length then l.getD (i - o) .und else vGet d i t
  | [], t, o, i, _ => by rw [if_neg (by simp only [List.length_nil]; omega)]; rfl
  | v :: l, t, o, i, h => by
    simp only [wr]
    rw [wr_in d l _ (o + 1) i h]
    by_cases hi : i = o
    · subst hi
      rw [if_neg (by omega), if_pos (by simp)]
      show trGet _ d i (trPut d i t v) = _
      rw [get_put_inR _ _ _ _ _ h]; simp
    · by_cases hr : o + 1 ≤ i ∧ i < o + 1 + l.length
      · rw [if_pos hr, if_pos (by simp only [List.length_cons]; omega)]
        have : i - o = (i - (o + 1)) + 1 := by omega
        rw [this]; simp
      · rw [if_neg hr, if_neg (by simp only [List.length_cons]; omega)]
        exact get_put_ne _ _ _ _ _ _ hi
theorem lvls_ok {n : Nat} (h : n ≤ 1048576) : n ≤ 16 ^ lvls n := by
  unfold lvls
  repeat' (rw [show ∀ {α} (b : Bool) (x y : α), cond b x y = if b = true then x else y from fun b x y => by cases b <;> rfl])
  split
  · rename_i h; have := Nat.le_of_ble_eq_true h; simpa using this
  split
  · rename_i h; have := Nat.le_of_ble_eq_true h; simpa using this
  split
  · rename_i h; have := Nat.le_of_ble_eq_true h; simpa using this
  split
  · rename_i h; have := Nat.le_of_ble_eq_true h; simpa using this
  split
  · rename_i h; have := Nat.le_of_ble_eq_true h; simpa using this
  · simpa using h

/-! ### Blocks that mean the same -/
def bv (s i : Nat) : V := .int .u8 (.ofNat (dg s i))
def BEq (x y : B) : Prop := ∀ φ p w, BR φ x p w ↔ BR φ y p w
theorem beq_byt {n d s : Nat} {t : Tr V d} {ty : TypeId} {st : Bool} (h : ∀ i, i < n → vGet d i t = bv s i) : BEq (.cells n d t ty st) (.byt n s ty st) := fun φ p w => by
  constructor
  · rintro ⟨h1, us, T, fz, h2, h3, h4, h5⟩
    refine ⟨h1, us, T, fz, h2, h3, fun i hi => ?_, h5⟩
    obtain ⟨u, e, c⟩ := h4 i hi
    rw [h i hi] at c
    cases c
    exact e
  · rintro ⟨h1, us, T, fz, h2, h3, h4, h5⟩
    refine ⟨h1, us, T, fz, h2, h3, fun i hi => ⟨_, h4 i hi, ?_⟩, h5⟩
    rw [h i hi]
    exact .int
theorem beq_cells {n d : Nat} {t t' : Tr V d} {ty : TypeId} {st : Bool} (h : ∀ i, i < n → vGet d i t = vGet d i t') : BEq (.cells n d t ty st) (.cells n d t' ty st) := fun φ p w => by
  constructor
  · rintro ⟨h1, us, T, fz, h2, h3, h4, h5⟩
    exact ⟨h1, us, T, fz, h2, h3, fun i hi => by rw [← h i hi]; exact h4 i hi, h5⟩
  · rintro ⟨h1, us, T, fz, h2, h3, h4, h5⟩
    exact ⟨h1, us, T, fz, h2, h3, fun i hi => by rw [h i hi]; exact h4 i hi, h5⟩

/-- The bytes as cells. -/
noncomputable def byL (n s : Nat) : List V := (List.range n).map (bv s)
theorem byL_len (n s : Nat) : (byL n s).length = n := by simp [byL]
noncomputable def exT (n s : Nat) : Tr V n := wr n (byL n s) (trNew .und n) 0
theorem lt_pow16 (n : Nat) : n < 16 ^ n := Nat.lt_pow_self (by omega)
theorem exT_get (n s i : Nat) (h : i < n) : vGet n i (exT n s) = bv s i := by
  unfold exT
  rw [wr_in _ _ _ _ _ (Nat.lt_trans h (lt_pow16 n)), if_pos (by rw [byL_len]; omega)]
  simp [byL, h, List.getD]
noncomputable def ex : B → B
  | .byt n s ty st => .cells n n (exT n s) ty st
  | x => x
theorem ex_eq (x : B) : BEq x (ex x) := by
  cases x with
  | byt n s ty st => exact fun φ p w => (beq_byt (exT_get n s) φ p w).symm
  | _ => exact fun _ _ _ => Iff.rfl
theorem ex_ro (x : B) : isRo (ex x) = isRo x := by cases x <;> rfl

/-- Memories that mean the same. -/
structure HEq (h g : H) : Prop where
  next : h.next = g.next
  b : ∀ b, hGet h b = hGet g b ∨ ∃ x y, hGet h b = some x ∧ hGet g b = some y ∧ BEq x y ∧ isRo x = false ∧ isRo y = false
theorem HEq.refl (h : H) : HEq h h := ⟨rfl, fun _ => .inl rfl⟩
theorem HEq.symm {h g : H} (k : HEq h g) : HEq g h := ⟨k.next.symm, fun b => (k.b b).elim (fun e => .inl e.symm) fun ⟨x, y, h1, h2, h3, h4, h5⟩ => .inr ⟨y, x, h2, h1, fun φ p w => (h3 φ p w).symm, h5, h4⟩⟩
theorem HEq.someE {h g : H} (k : HEq h g) {b : Nat} {y : B} (hy : hGet g b = some y) : ∃ x, hGet h b = some x ∧ (∀ φ p w, BR φ x p w ↔ BR φ y p w) ∧ isRo x = isRo y ∧ (isRo y = true → x = y) := by
  rcases k.b b with e | ⟨x, y', h1, h2, h3, h4, h5⟩
  · exact ⟨y, by rw [e]; exact hy, fun _ _ _ => Iff.rfl, rfl, fun _ => rfl⟩
  · rw [hy] at h2
    have := Option.some.inj h2
    subst this
    exact ⟨x, h1, h3, by rw [h4, h5], fun e => by rw [h5] at e; cases e⟩
theorem HEq.noneE {h g : H} (k : HEq h g) {b : Nat} (hy : hGet g b = none) : hGet h b = none := by
  rcases k.b b with e | ⟨x, y', h1, h2, h3, h4, h5⟩
  · rw [e]; exact hy
  · rw [hy] at h2; cases h2
section
variable {G : Nat} {φ φ' : Ph} {h g h' g' : H} {w w' : World}
theorem Rel.heq (r : Rel G φ h w) (k : HEq h g) : Rel G φ g w :=
  ⟨fun a b x y p q ha hb hp hq e => by
    obtain ⟨x', h1, -⟩ := k.someE ha
    obtain ⟨y', h2, -⟩ := k.someE hb
    exact r.inj a b x' y' p q h1 h2 hp hq e, fun b x hb => by
    obtain ⟨x', h1, h2, -⟩ := k.someE hb
    obtain ⟨p, h3, h4⟩ := r.blk b x' h1
    exact ⟨p, h3, (h2 _ _ _).1 h4⟩, fun b hb => r.fresh b (by rw [k.next]; exact hb), r.glob⟩
theorem foot_heq (k : HEq h g) (i : Nat) : foot φ g i → foot φ h i := by
  rintro ⟨b, x, p, h1, h2, h3, h4⟩
  obtain ⟨x', e1, -, e2, -⟩ := k.someE h1
  exact ⟨b, x', p, e1, by rw [e2]; exact h2, h3, h4⟩
theorem Post.heq (q : Post G φ h w φ' h' w') (k : HEq h g) (k' : HEq h' g') : Post G φ g w φ' g' w' :=
  ⟨q.sb, q.rel.heq k', q.kp.mono' fun i hi => foot_heq k.symm i hi, fun i hi => (q.ft i (foot_heq k' i hi)).imp (foot_heq k.symm i) id,
    ⟨fun b hb => q.hp.dm b (by rw [k.next]; exact hb), by rw [← k.next, ← k'.next]; exact q.hp.nx, fun b hb e => k'.symm.noneE (q.hp.od b (by rw [k.next]; exact hb) (k.noneE e)), fun b l e => by
      obtain ⟨x, h1, -, h2, h3⟩ := k'.someE e
      have := h3 rfl
      subst this
      have h4 := q.hp.ro b l h1
      obtain ⟨y, e1, -, e2, e3⟩ := k.symm.someE h4
      have := e3 rfl
      subst this
      exact e1⟩⟩
end

/-- What is answered means the same. -/
def REq : R → R → Prop
  | _, .bad _ => True
  | .v x g, r => ∃ h, r = .v x h ∧ HEq g h
  | .eff g, r => ∃ h, r = .eff h ∧ HEq g h
  | r, r' => r = r'
theorem REq.v {x : V} {g h : H} (k : HEq g h) : REq (.v x g) (.v x h) := ⟨h, rfl, k⟩
theorem REq.eff {g h : H} (k : HEq g h) : REq (.eff g) (.eff h) := ⟨h, rfl, k⟩
theorem REq.bad (r : R) (n : Nat) : REq r (.bad n) := by cases r <;> exact trivial
section
variable {P : Program} {G : Nat} {φ : Ph} {h g : H} {w : World} {e : Env} {o : Oper} {s : Sem Value} {r r' : R}
theorem ROk.heq (q : ROk P G φ g w e o r) (k : HEq g h) (kr : REq r r') : ROk P G φ h w e o r' := by
  cases r' with
  | bad n => exact trivial
  | v x h' =>
    cases r with
    | v y g' =>
      obtain ⟨h2, e, kk⟩ := kr
      cases e
      obtain ⟨u, w', φ', h1, h2, h3⟩ := q
      exact ⟨u, w', φ', h1, h2.heq k kk, h3⟩
    | eff g' => obtain ⟨h2, e, kk⟩ := kr; cases e
    | _ => cases kr
  | eff h' =>
    cases r with
    | v y g' => obtain ⟨h2, e, kk⟩ := kr; cases e
    | eff g' =>
      obtain ⟨h2, e, kk⟩ := kr
      cases e
      obtain ⟨w', φ', h1, h2⟩ := q
      exact ⟨w', φ', h1, h2.heq k kk⟩
    | _ => cases kr
  | call f args =>
    cases r with
    | v y g' => obtain ⟨h2, e, kk⟩ := kr; cases e
    | eff g' => obtain ⟨h2, e, kk⟩ := kr; cases e
    | _ => cases kr <;> exact q
  | yld l args =>
    cases r with
    | v y g' => obtain ⟨h2, e, kk⟩ := kr; cases e
    | eff g' => obtain ⟨h2, e, kk⟩ := kr; cases e
    | _ => cases kr <;> exact q
  | dfr f c args =>
    cases r with
    | v y g' => obtain ⟨h2, e, kk⟩ := kr; cases e
    | eff g' => obtain ⟨h2, e, kk⟩ := kr; cases e
    | _ => cases kr <;> exact q
theorem BOk.heq (q : BOk P G φ g w s r) (k : HEq g h) (kr : REq r r') : BOk P G φ h w s r' := by
  cases r' with
  | bad n => exact trivial
  | v x h' =>
    cases r with
    | v y g' =>
      obtain ⟨h2, e, kk⟩ := kr
      cases e
      obtain ⟨u, w', φ', h1, h2, h3⟩ := q
      exact ⟨u, w', φ', h1, h2.heq k kk, h3⟩
    | eff g' => obtain ⟨h2, e, kk⟩ := kr; cases e
    | _ => cases kr
  | eff h' =>
    cases r with
    | v y g' => obtain ⟨h2, e, kk⟩ := kr; cases e
    | eff g' => exact q.elim
    | _ => cases kr
  | call f args =>
    cases r with
    | v y g' => obtain ⟨h2, e, kk⟩ := kr; cases e
    | eff g' => obtain ⟨h2, e, kk⟩ := kr; cases e
    | _ => cases kr <;> exact q
  | yld l args =>
    cases r with
    | v y g' => obtain ⟨h2, e, kk⟩ := kr; cases e
    | eff g' => obtain ⟨h2, e, kk⟩ := kr; cases e
    | _ => cases kr <;> exact q
  | dfr f c args =>
    cases r with
    | v y g' => obtain ⟨h2, e, kk⟩ := kr; cases e
    | eff g' => obtain ⟨h2, e, kk⟩ := kr; cases e
    | _ => cases kr <;> exact q
end

/-! ### All bytes as cells -/
noncomputable def trMap {α : Type} (f : α → α) : (d : Nat) → Tr α d → Tr α d
  | 0, t => f t
  | d + 1, t => Nd.rec (motive := fun _ => Nd (Tr α d)) (fun a0 a1 a2 a3 a4 a5 a6 a7 a8 a9 a10 a11 a12 a13 a14 a15 => ⟨trMap f d a0, trMap f d a1, trMap f d a2, trMap f d a3, trMap f d a4, trMap f d a5, trMap f d a6, trMap f d a7, trMap f d a8, trMap f d a9, trMap f d a10, trMap f d a11, trMap f d a12, trMap f d a13, trMap f d a14, trMap f d a15⟩) t
theorem trMap_get {α : Type} (f : α → α) (z : α) (hz : f z = z) : ∀ (d i : Nat) (t : Tr α d), trGet z d i (trMap f d t) = f (trGet z d i t)
  | 0, i, t => by
    rw [trGet_zero, trGet_zero]
    split
    · rfl
    · exact hz.symm
  | d + 1, i, t => by
    rw [trGet_succ, trGet_succ, ← trMap_get f z hz d]
    congr 1
    obtain ⟨x0, x1, x2, x3, x4, x5, x6, x7, x8, x9, x10, x11, x12, x13, x14, x15⟩ := t
    rcases lt16 (Nat.mod_lt i (show 0 < 16 by omega)) with e | e | e | e | e | e | e | e | e | e | e | e | e | e | e | e <;> rw [e] <;> rfl
noncomputable def exH (h : H) : H := ⟨trMap (Option.map ex) HD h.t, h.next⟩
theorem exH_get (h : H) (b : Nat) : hGet (exH h) b = (hGet h b).map ex := trMap_get _ _ rfl _ _ _
theorem exH_eq (h : H) : HEq (exH h) h := ⟨rfl, fun b => by
  rw [exH_get]
  cases hb : hGet h b with
  | none => exact .inl rfl
  | some x =>
    by_cases hr : isRo x = true
    · left; cases x <;> first | rfl | cases hr
    · exact .inr ⟨ex x, x, rfl, rfl, fun φ p w => (ex_eq x φ p w).symm, by rw [ex_ro]; simpa using hr, by simpa using hr⟩⟩
/-- One block of each is written with what means the same. -/
theorem HEq.put {h g : H} (k : HEq h g) (b : Nat) {x y : B} (e : BEq x y) (hx : isRo x = false) (hy : isRo y = false) : HEq ⟨trPut HD b h.t (some x), h.next⟩ ⟨trPut HD b g.t (some y), g.next⟩ := ⟨k.next, fun c => by
  by_cases hc : c = b
  · subst hc
    rcases get_put_two (none : Option B) HD c with h1 | h1
    · exact .inr ⟨x, y, h1 _ _, h1 _ _, e, hx, hy⟩
    · exact .inl ((h1 _).trans (h1 _).symm)
  · rw [hGet_put_ne hc, hGet_put_ne hc]
    exact k.b c⟩
theorem HEq.new {h g : H} (k : HEq h g) {x y : B} (e : BEq x y) (hx : isRo x = false) (hy : isRo y = false) : HEq ⟨trPut HD h.next h.t (some x), h.next + 1⟩ ⟨trPut HD g.next g.t (some y), g.next + 1⟩ := ⟨by show h.next + 1 = g.next + 1; rw [k.next], fun c => by
  have := (k.put g.next e hx hy).b c
  rw [k.next]; exact this⟩
theorem HEq.del {h g : H} (k : HEq h g) (b : Nat) : HEq ⟨trPut HD b h.t none, h.next⟩ ⟨trPut HD b g.t none, g.next⟩ := ⟨k.next, fun c => by
  by_cases hc : c = b
  · subst hc
    left
    rcases get_put_two (none : Option B) HD c with h1 | h1
    · exact (h1 _ _).trans (h1 _ _).symm
    · exact (h1 _).trans (h1 _).symm
  · rw [hGet_put_ne hc, hGet_put_ne hc]
    exact k.b c⟩
end Go.Proofs.YtkgiammeeckfbaaGreat
