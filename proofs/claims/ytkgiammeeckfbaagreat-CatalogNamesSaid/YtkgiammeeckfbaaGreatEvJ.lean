/- The reckoner's comparisons and conversions. It is of no program. -/
import Derived.Test.YtkgiammeeckfbaaGreatEvI
namespace Go.Proofs.YtkgiammeeckfbaaGreat
open Go Go.RowKit
set_option linter.all false

section
variable {P : Program} {G : Nat} {φ : Ph} {h : H} {w : World} {e : Env} {d : Option Nat} {ty t t' : TypeId} {pos : String} {aft : Array Edge} {g : Option (Nat × Bool)} {x y : Operand} {v v1 v2 : V} {u u1 u2 : Value} {ρ : Operand → V}

theorem beqI (a b : Int) : (a == b) = decide (a = b) := by by_cases h : a = b <;> simp [h]

theorem noStr {b' : Nat} {us : List Value} {T : TypeId} (hB : BlkF w b' us T (0, 0)) (off : Nat) : (stringish ⟨b', off, none⟩).run P w = .ok false w := by
  have hs : w.shape? b' = some (T, us.length) := by simp [World.shape?, hB.1]
  have hf : ∀ i, w.frozen? ⟨b', i, none⟩ = false := fun i => by simp [World.frozen?, hB.1]
  simp [stringish, frozen, shape, Sem.run, hf, hs]

section
variable {n : Nat}
theorem eqn_bool {p q : Bool} (ht : P.underlying t = some .bool) : (Op.equalIn (n + 1) t (.bool p) (.bool q)).run P w = .ok (p == q) w := by
  simp only [Op.equalIn, Sem.run_bind, run_underlying ht, Result.andThen_ok, Sem.run_pure]
theorem eqn_int {k kk : IntKind} {p q : Int} (ht : P.underlying t = some (.int kk)) : (Op.equalIn (n + 1) t (.int k p) (.int k q)).run P w = .ok (decide (p = q)) w := by
  simp only [Op.equalIn, Sem.run_bind, run_underlying ht, Result.andThen_ok, Sem.run_pure, if_true, beqI]
theorem eqn_str {p q : List UInt8} (ht : P.underlying t = some .string) : (Op.equalIn (n + 1) t (S p) (S q)).run P w = .ok (decide (p = q)) w := by
  simp only [Op.equalIn, Sem.run_bind, run_underlying ht, Result.andThen_ok, Sem.run_pure, S, beqS]
theorem eqn_pnl {el : TypeId} {p : Option Addr} (ht : P.underlying t = some (.pointer el)) : (Op.equalIn (n + 1) t (.pointer none) (.pointer p)).run P w = .ok p.isNone w := by
  simp only [Op.equalIn, Sem.run_bind, run_underlying ht, Result.andThen_ok, Sem.run_pure]
theorem eqn_pnr {el : TypeId} {p : Addr} (ht : P.underlying t = some (.pointer el)) : (Op.equalIn (n + 1) t (.pointer (some p)) (.pointer none)).run P w = .ok false w := by
  simp only [Op.equalIn, Sem.run_bind, run_underlying ht, Result.andThen_ok, Sem.run_pure]
theorem eqn_pp {el : TypeId} {p q : Addr} (ht : P.underlying t = some (.pointer el)) (hs : 0 < tsz P el) : (Op.equalIn (n + 1) t (.pointer (some p)) (.pointer (some q))).run P w = (sameAddr p q).run P w := by
  have h0 : tsz P el ≠ 0 := by omega
  simp only [Op.equalIn, Sem.run_bind, run_underlying ht, Result.andThen_ok, run_sz' hs w, ne_eq, h0, not_false_eq_true, if_true]
theorem eqn_snl {el : TypeId} {p : Option Addr} {l c l' c' : Nat} (ht : P.underlying t = some (.slice el)) : (Op.equalIn (n + 1) t (.slice none l c) (.slice p l' c')).run P w = .ok p.isNone w := by
  simp only [Op.equalIn, Sem.run_bind, run_underlying ht, Result.andThen_ok, Sem.run_pure]
theorem eqn_snr {el : TypeId} {p : Addr} {l c l' c' : Nat} (ht : P.underlying t = some (.slice el)) : (Op.equalIn (n + 1) t (.slice (some p) l c) (.slice none l' c')).run P w = .ok false w := by
  simp only [Op.equalIn, Sem.run_bind, run_underlying ht, Result.andThen_ok, Sem.run_pure]
theorem eqn_mnl {kt el : TypeId} {p : Option Nat} (ht : P.underlying t = some (.map kt el)) : (Op.equalIn (n + 1) t (.map none) (.map p)).run P w = .ok p.isNone w := by
  simp only [Op.equalIn, Sem.run_bind, run_underlying ht, Result.andThen_ok, Sem.run_pure]
theorem eqn_mnr {kt el : TypeId} {p : Nat} (ht : P.underlying t = some (.map kt el)) : (Op.equalIn (n + 1) t (.map (some p)) (.map none)).run P w = .ok false w := by
  simp only [Op.equalIn, Sem.run_bind, run_underlying ht, Result.andThen_ok, Sem.run_pure]
theorem eqn_fnn {a b : Array TypeId} {c : Bool} (ht : P.underlying t = some (.func a b c)) : (Op.equalIn (n + 1) t .nilFunc .nilFunc).run P w = .ok true w := by
  simp only [Op.equalIn, Sem.run_bind, run_underlying ht, Result.andThen_ok, Sem.run_pure]
theorem eqn_fnl {a b : Array TypeId} {c : Bool} {f : Fn} {p q : Array Value} (ht : P.underlying t = some (.func a b c)) : (Op.equalIn (n + 1) t .nilFunc (.func f p q)).run P w = .ok false w := by
  simp only [Op.equalIn, Sem.run_bind, run_underlying ht, Result.andThen_ok, Sem.run_pure]
theorem eqn_fnr {a b : Array TypeId} {c : Bool} {f : Fn} {p q : Array Value} (ht : P.underlying t = some (.func a b c)) : (Op.equalIn (n + 1) t (.func f p q) .nilFunc).run P w = .ok false w := by
  simp only [Op.equalIn, Sem.run_bind, run_underlying ht, Result.andThen_ok, Sem.run_pure]
theorem eqn_inn {ms : Array (String × TypeId)} (ht : P.underlying t = some (.interface ms)) : (Op.equalIn (n + 1) t .nilIface .nilIface).run P w = .ok true w := by
  simp [Op.equalIn, run_underlying ht]
theorem eqg_nil {op : BinOp} {x y : Operand} {ms : Array (String × TypeId)} (ht : P.underlying t = some (.interface ms)) (hm : ms.isEmpty = true) : (eqGuard op t x y .nilIface .nilIface).run P w = .ok () w := by
  have hA : ∀ n, (Op.eqGuardIn (n + 1) t .nilIface .nilIface).run P w = .ok false w := fun n => by
    simp only [Op.eqGuardIn, Sem.run_bind, run_underlying ht, Result.andThen_ok, Sem.run_pure, hm, Bool.not_true]
  have hG : (Op.eqGuardIn Op.maxDepth t .nilIface .nilIface).run P w = .ok false w := hA 9999
  cases op <;> first
    | rfl
    | (cases x <;> cases y <;> first | rfl | (unfold eqGuard; simp only [Sem.run_bind, hG, Result.andThen_ok, Bool.not_true, Bool.false_eq_true, if_false, Bool.or_self, Sem.run_pure]; done) | (unfold eqGuard; simp only [Sem.run_bind, hG, Result.andThen_ok, Bool.not_true, Bool.false_eq_true, if_false, Bool.or_self, Sem.run_pure]; rfl))
theorem eqn_inl {ms : Array (String × TypeId)} {tx : TypeId} {v : Value} (ht : P.underlying t = some (.interface ms)) : (Op.equalIn (n + 1) t .nilIface (.iface tx v)).run P w = .ok false w := by
  simp only [Op.equalIn, Sem.run_bind, run_underlying ht, Result.andThen_ok, Sem.run_pure]
theorem eqn_inr {ms : Array (String × TypeId)} {tx : TypeId} {v : Value} (ht : P.underlying t = some (.interface ms)) : (Op.equalIn (n + 1) t (.iface tx v) .nilIface).run P w = .ok false w := by
  simp only [Op.equalIn, Sem.run_bind, run_underlying ht, Result.andThen_ok, Sem.run_pure]

theorem same_ptr (r : Rel G φ h w) {b o b2 o2 n0 d0 n1 d1 : Nat} {t0 : Tr V d0} {t1 : Tr V d1} {ty0 ty1 : TypeId} {b' a N b2' a2 N2 : Nat} (hp : φ b = some (b', a, N)) (hp2 : φ b2 = some (b2', a2, N2))
    (hg1 : hGet h b = some (.cells n0 d0 t0 ty0 false)) (hg2 : hGet h b2 = some (.cells n1 d1 t1 ty1 false)) : (sameAddr ⟨b', a + o, none⟩ ⟨b2', a2 + o2, none⟩).run P w = .ok (and (Nat.beq b b2) (Nat.beq o o2)) w := by
  obtain ⟨hN, us, T, fz, hB, hlen, hT, hst⟩ := r.cells hg1 hp
  obtain ⟨hN2, us2, T2, fz2, hB2, hlen2, hT2, hst2⟩ := r.cells hg2 hp2
  have e1 := (hst.2 rfl).1
  have e2 := (hst2.2 rfl).1
  subst e1; subst e2
  by_cases hbb : b = b2
  · subst hbb
    rw [hp] at hp2
    cases hp2
    have h1 : ((⟨b', a + o, none⟩ : Addr) == ⟨b', a + o2, none⟩) = (and (Nat.beq b b) (Nat.beq o o2)) := by
      rw [Bool.eq_iff_iff]
      simp
    have h2 : (b' == b') = true := by simp
    unfold sameAddr
    simp only [h2, if_true, h1]
    rfl
  · have hne : (b' == b2') = false := by
      rw [Bool.eq_false_iff]
      intro hh
      have hh : b' = b2' := by simpa using hh
      exact hbb (r.inj _ _ _ _ _ _ hg1 hg2 hp hp2 hh)
    have hq : (and (Nat.beq b b2) (Nat.beq o o2)) = false := by
      rw [Bool.and_eq_false_iff]
      left
      rw [Bool.eq_false_iff]
      intro hh; exact hbb (Nat.eq_of_beq_eq_true hh)
    rw [hq]
    have s1 := noStr (P := P) hB (a + o)
    have s2 := noStr (P := P) hB2 (a2 + o2)
    have hf : (frozen ⟨b', a + o, none⟩).run P w = .ok false w := by simp [frozen, Sem.run, World.frozen?, hB.1]
    have hf2 : (frozen ⟨b2', a2 + o2, none⟩).run P w = .ok false w := by simp [frozen, Sem.run, World.frozen?, hB2.1]
    have hsh1 : (shape b').run P w = .ok (some (T, us.length)) w := by simp [shape, Sem.run, World.shape?, hB.1]
    have hsh2 : (shape b2').run P w = .ok (some (T2, us2.length)) w := by simp [shape, Sem.run, World.shape?, hB2.1]
    have hv1 : (noView ⟨b', a + o, none⟩).run P w = .ok () w := by
      simp [noView, viewAt, hsh1]
    have hv2 : (noView ⟨b2', a2 + o2, none⟩).run P w = .ok () w := by
      simp [noView, viewAt, hsh2]
    have hm : (mayBeOne ⟨b', a + o, none⟩ ⟨b2', a2 + o2, none⟩).run P w = .ok false w := by
      simp [mayBeOne, s1, s2, hsh1, hsh2]
    unfold sameAddr
    simp [hne, hf, hf2, hv1, hv2, hm]
end

theorem eq1_ok (r : Rel G φ h w) {a b : V} {ua ub : Value} {q : Bool} (ha : CV φ a ua) (hb : CV φ b ub) (he : eq1 P h t a b = some q) (n : Nat) : (Op.equalIn (n + 1) t ua ub).run P w = .ok q w := by
  unfold eq1 at he
  split at he
  · rename_i ht
    split at he <;> simp at he
    cases ha; cases hb
    subst he
    rw [beqB_eq]; exact eqn_bool ht
  · rename_i ht
    split at he <;> try cases he
    rename_i k a k' b
    cases ha; cases hb
    cases hq : keq k k' with
    | false => rw [hq] at he; cases he
    | true =>
      rw [hq] at he
      have := keq_eq.1 hq
      subst this
      simp only [cond_true, Option.some.injEq, ieq_eq] at he
      subst he
      exact eqn_int ht
  · rename_i ht
    split at he <;> try cases he
    rename_i n s m t0
    cases ha with
    | str hs =>
    cases hb with
    | str ht0 =>
    rw [strEq hs ht0]
    exact eqn_str ht
  · rename_i el ht
    split at he <;> try cases he
    · cases ha; cases hb; exact eqn_pnl ht
    · cases ha; cases hb; exact eqn_pnl ht
    · cases ha; cases hb; exact eqn_pnr ht
    · rename_i b o b2 o2
      cases ha with
      | @ptr _ _ b' a N hp =>
      cases hb with
      | @ptr _ _ b2' a2 N2 hp2 =>
      split at he <;> try cases he
      rename_i hg1 hg2
      cases hz : Nat.blt 0 (tsz P el) with
      | false => rw [hz] at he; cases he
      | true =>
        rw [hz] at he
        simp only [cond_true, Option.some.injEq] at he
        rw [eqn_pp ht (by simpa using hz), ← he]
        exact same_ptr r hp hp2 hg1 hg2
  · rename_i el ht
    split at he <;> try cases he
    · cases ha; cases hb; exact eqn_snl ht
    · cases ha; cases hb; exact eqn_snl ht
    · cases ha; cases hb; exact eqn_snl ht
    · cases ha; cases hb; exact eqn_snr ht
    · cases ha; cases hb; exact eqn_snr ht
  · rename_i kt el ht
    split at he <;> try cases he
    · cases ha; cases hb; exact eqn_mnl ht
    · cases ha; cases hb; exact eqn_mnl ht
    · cases ha; cases hb; exact eqn_mnr ht
  · rename_i ht
    split at he <;> try cases he
    · cases ha; cases hb; exact eqn_fnn ht
    · cases ha; cases hb; exact eqn_fnl ht
    · cases ha; cases hb; exact eqn_fnl ht
    · cases ha; cases hb; exact eqn_fnr ht
    · cases ha; cases hb; exact eqn_fnr ht
  · rename_i ms ht
    split at he <;> try cases he
    · cases ha; cases hb
      cases hm : ms.isEmpty with
      | false => rw [hm] at he; cases he
      | true =>
        rw [hm] at he
        cases he
        exact eqn_inn ht
    · cases ha; cases hb; exact eqn_inl ht
    · cases ha; cases hb; exact eqn_inr ht
  · cases he

/-! ### Structs -/
theorem partV_ok {f : Field} {l : List V} {us : List Value} {v : V} (hc : CVs φ l us) (hv : partV P f l = some v) : ∃ u, (part f.type us.toArray f.offset).run P w = .ok u w ∧ CV φ v u := by
  unfold partV at hv
  split at hv <;> try cases hv
  · rename_i ha
    obtain ⟨td, hu, ha⟩ := tagg_some ha
    refine ⟨.agg ((us.drop f.offset).take (tsz P f.type)).toArray, ?_, .agg ((hc.drop _).take _)⟩
    simp [part, run_isAgg hu, ha, run_sz hu w]
  · rename_i ha
    obtain ⟨td, hu, ha⟩ := tagg_some ha
    obtain ⟨u, e1, e2⟩ := hc.get hv
    exact ⟨u, by simp [part, run_isAgg hu, ha, e1], e2⟩

theorem eqT_succ (n : Nat) (t : TypeId) (a b : V) : eqT P h (n + 1) t a b = match a, b with
      | .agg l, .agg m => match P.underlying t with
        | some (.struct fs) => cond (P.stoodInHeld t) none
          (List.rec (motive := fun _ => Option Bool) (some true) (fun f _ rest => cond (f.name == "_") rest (match partV P f l, partV P f m with
            | some x, some y => match eqT P h n f.type x y with
              | some true => rest
              | some false => some false
              | none => none
            | _, _ => none)) fs.toList)
        | _ => none
      | a, b => eq1 P h t a b := rfl
theorem eqT_ok (r : Rel G φ h w) : ∀ (n : Nat) {t : TypeId} {a b : V} {ua ub : Value} {q : Bool}, CV φ a ua → CV φ b ub → eqT P h n t a b = some q → ∀ m, n ≤ m → (Op.equalIn m t ua ub).run P w = .ok q w
  | 0, t, a, b, ua, ub, q, _, _, he, _, _ => by cases he
  | n + 1, t, a, b, ua, ub, q, ha, hb, he, m, hm => by
    obtain ⟨m, rfl⟩ : ∃ m', m = m' + 1 := ⟨m - 1, by omega⟩
    rw [eqT_succ] at he
    split at he
    · rename_i l1 l2
      cases ha with
      | @agg _ us1 h1 =>
      cases hb with
      | @agg _ us2 h2 =>
      split at he <;> try cases he
      rename_i fs ht
      cases hsi : P.stoodInHeld t with
      | true => rw [hsi] at he; cases he
      | false =>
      rw [hsi] at he
      simp only [cond_false] at he
      have hfo : P.fieldsOf t = fs := by simp [Program.fieldsOf, ht]
      rw [run_equalIn_struct w m t _ _ (by rw [hfo]; exact ht) hsi, hfo]
      revert he
      generalize fs.toList = l
      intro he
      induction l with
      | nil =>
        simp only [Option.some.injEq] at he
        subst he
        simp [Op.eqFields]
      | cons f l ih =>
        simp only at he
        by_cases hn : f.name = "_"
        · have hb : (f.name == "_") = true := by simp [hn]
          rw [hb] at he
          simp only [cond_true] at he
          simp only [Op.eqFields, hn, ne_eq, not_true_eq_false, if_false]
          exact ih he
        · have hb : (f.name == "_") = false := by simp [hn]
          rw [hb] at he
          simp only [cond_false] at he
          split at he <;> try cases he
          rename_i x1 x2 hx1 hx2
          obtain ⟨w1, e1, c1⟩ := partV_ok (w := w) h1 hx1
          obtain ⟨w2, e2, c2⟩ := partV_ok (w := w) h2 hx2
          split at he <;> try cases he
          · rename_i hq
            have e3 := eqT_ok r n c1 c2 hq m (by omega)
            simp only [Op.eqFields, ne_eq, hn, not_false_eq_true, if_true, Sem.run_bind, e1, e2, e3, Result.andThen_ok, Bool.not_true, Bool.false_eq_true, if_false]
            exact ih he
          · rename_i hq
            have e3 := eqT_ok r n c1 c2 hq m (by omega)
            simp only [Op.eqFields, ne_eq, hn, not_false_eq_true, if_true, Sem.run_bind, e1, e2, e3, Result.andThen_ok, Bool.not_false, Sem.run_pure]
    · exact eq1_ok r ha hb he m

/-- Two values of which at most one is a struct .. the guard ahead of '=='. -/
theorem guard_ok {op : BinOp} {a b : V} {ua ub : Value} {n : Nat} {q : Bool} (ha : CV φ a ua) (hb : CV φ b ub) (hg : gOk P t a = true) (he : eqT P h (n + 1) t a b = some q) (x y : Operand) : (eqGuard op t x y ua ub).run P w = .ok () w := by
  by_cases hagg : ∃ l, a = .agg l
  · obtain ⟨l, rfl⟩ := hagg
    cases ha with
    | agg h1 =>
    have hg' : P.eqGuardType P.depth t = false := by
      have : (!P.eqGuardType P.depth t) = true := hg
      simpa using this
    by_cases hbg : ∃ m, b = .agg m
    · obtain ⟨m, rfl⟩ := hbg
      cases hb with
      | agg h2 => exact run_eqGuard_agg w op t x y _ _ hg'
    · refine eqg_run (fun p q _ e => ?_) (fun e => by cases e) x y
      subst e
      cases hb with
      | agg h2 => exact hbg ⟨_, rfl⟩
      | und =>
        have : eqT P h (n + 1) t (.agg l) .und = eq1 P h t (.agg l) .und := rfl
        rw [this] at he
        unfold eq1 at he
        split at he <;> first | cases he | (split at he <;> cases he)
  · by_cases hnn : ua = .nilIface ∧ ub = .nilIface
    · obtain ⟨rfl, rfl⟩ := hnn
      have h1 : eqT P h (n + 1) t a b = eq1 P h t a b := by
        cases a <;> first | rfl | exact (hagg ⟨_, rfl⟩).elim
      rw [h1] at he
      unfold eq1 at he
      cases ha with
      | nifc =>
        cases hb with
        | nifc =>
          split at he <;> try cases he
          rename_i ms ht
          cases hm : ms.isEmpty with
          | false => simp [hm] at he
          | true => exact eqg_nil ht hm
        | und => split at he <;> cases he
      | und => split at he <;> first | cases he | (split at he <;> cases he)
    refine eqg_run (fun p q e _ => ?_) (fun e1 e2 => hnn ⟨e1, e2⟩) x y
    · subst e
      cases ha with
      | agg h1 => exact hagg ⟨_, rfl⟩
      | und =>
        have : eqT P h (n + 1) t .und b = eq1 P h t .und b := by cases b <;> rfl
        rw [this] at he
        unfold eq1 at he
        split at he <;> first | cases he | (split at he <;> cases he)

theorem binOp_eql (hni : ∀ k a k' b, u1 = .int k a → u2 = .int k' b → False) (hns : ∀ a b, u1 = .string a → u2 = .string b → False) (hf : ∀ k b, u1 ≠ .float k b) (hx : ∀ k b c, u1 ≠ .complex k b c) :
    binOp .eql t u1 u2 = (do pure (.bool (← Op.equal t u1 u2))) := by
  cases u1 <;> first
    | rfl
    | exact absurd rfl (hf _ _)
    | exact absurd rfl (hx _ _ _)
    | (cases u2 <;> first | rfl | exact (hni _ _ _ _ rfl rfl).elim | exact (hns _ _ rfl rfl).elim)
theorem binOp_neq (hni : ∀ k a k' b, u1 = .int k a → u2 = .int k' b → False) (hns : ∀ a b, u1 = .string a → u2 = .string b → False) (hf : ∀ k b, u1 ≠ .float k b) (hx : ∀ k b c, u1 ≠ .complex k b c) :
    binOp .neq t u1 u2 = (do pure (.bool (!(← Op.equal t u1 u2)))) := by
  cases u1 <;> first
    | rfl
    | exact absurd rfl (hf _ _)
    | exact absurd rfl (hx _ _ _)
    | (cases u2 <;> first | rfl | exact (hni _ _ _ _ rfl rfl).elim | exact (hns _ _ rfl rfl).elim)
theorem cv_nofloat (hc : CV φ v u) (hv : v ≠ .und) : (∀ k b, u ≠ .float k b) ∧ (∀ k b c, u ≠ .complex k b c) := by
  cases hc <;> first | exact absurd rfl hv | exact ⟨(fun _ _ e => by cases e), (fun _ _ _ e => by cases e)⟩
theorem eqr_ok {op : BinOp} {q : Bool} {ub : Bool} (r : Rel G φ h w) (hx : look e x = some u1) (hy : look e y = some u2) (hc1 : CV φ v1 u1) (hc2 : CV φ v2 u2) (hk1 : v1 ≠ .und) (hg : gOk P t v1 = true) (he : eqT P h 8 t v1 v2 = some q)
    (hni : ∀ k a k' b, u1 = .int k a → u2 = .int k' b → False) (hns : ∀ a b, u1 = .string a → u2 = .string b → False) (hop : (op = .eql ∧ ub = q) ∨ (op = .neq ∧ ub = !q)) :
    QOk P φ h w e ⟨d, .binOp op t x y t', ty, pos, aft, g⟩ (.v (.bool ub) h) := by
  have hq := eqT_ok r 8 hc1 hc2 he 10000 (by omega)
  obtain ⟨hf, hxx⟩ := cv_nofloat hc1 hk1
  refine QOk.pure (Y.bin hx hy (fun x y => guard_ok hc1 hc2 hg he x y) ?_) .bool
  have heq : (Op.equal t u1 u2).run P w = .ok q w := hq
  rcases hop with ⟨rfl, rfl⟩ | ⟨rfl, rfl⟩
  · rw [binOp_eql hni hns hf hxx]; simp [heq]
  · rw [binOp_neq hni hns hf hxx]; simp [heq]
theorem eqT_known {q : Bool} (he : eqT P h 8 t v1 v2 = some q) : v1 ≠ .und ∧ v2 ≠ .und := by
  constructor
  · rintro rfl
    have : eqT P h 8 t .und v2 = eq1 P h t .und v2 := by cases v2 <;> rfl
    rw [this] at he
    unfold eq1 at he
    split at he <;> first | cases he | (split at he <;> cases he)
  · rintro rfl
    have : eqT P h 8 t v1 .und = eq1 P h t v1 .und := by cases v1 <;> rfl
    rw [this] at he
    unfold eq1 at he
    split at he <;> first | cases he | (cases v1 <;> first | cases he | (simp at he; done))
theorem bin_ok {op : BinOp} (r : Rel G φ h w) (hx : Kn φ e x v1) (hy : Kn φ e y v2) : QOk P φ h w e ⟨d, .binOp op t x y t', ty, pos, aft, g⟩ (bin P h op t v1 v2) := by
  unfold bin
  split
  · rename_i k a k' b
    obtain ⟨u1, hx, hc1⟩ := hx (by simp)
    obtain ⟨u2, hy, hc2⟩ := hy (by simp)
    cases hc1; cases hc2
    have hg : ∀ x y, (eqGuard op t x y (.int k a) (.int k' b)).run P w = .ok () w := fun x y => eqg_run (fun p q e _ => by cases e) (fun e => by cases e) x y
    split
    · exact PV.q (shInt_pv .shl k k' a b (.inl rfl)) fun u e1 => Y.bin hx hy hg e1
    · exact PV.q (shInt_pv .shr k k' a b (.inr rfl)) fun u e1 => Y.bin hx hy hg e1
    · rename_i h1 h2
      refine cond_q' fun hk => ?_
      have := keq_eq.1 hk
      subst this
      exact PV.q (binInt_pv op k a b ⟨fun e => h1 e, fun e => h2 e⟩) fun u e1 => Y.bin hx hy hg e1
  · rename_i n s m t0
    obtain ⟨u1, hx, hc1⟩ := hx (by simp)
    obtain ⟨u2, hy, hc2⟩ := hy (by simp)
    cases hc1 with
    | str hs =>
    cases hc2 with
    | str ht0 =>
    have hg : ∀ x y, (eqGuard op t x y (S (unp n s)) (S (unp m t0))).run P w = .ok () w := fun x y => eqg_run (fun p q e _ => by cases e) (fun e => by cases e) x y
    exact PV.q (binStr_pv op hs ht0) fun u e1 => Y.bin hx hy hg e1
  · rename_i hi hs
    have hni : ∀ {u1 u2 : Value}, CV φ v1 u1 → CV φ v2 u2 → v1 ≠ .und → v2 ≠ .und → (∀ k a k' b, u1 = .int k a → u2 = .int k' b → False) ∧ (∀ a b, u1 = .string a → u2 = .string b → False) := fun {u1 u2} c1 c2 k1 k2 => by
      constructor
      · intro k a k' b e1 e2
        subst e1; subst e2
        cases c1 with
        | und => exact k1 rfl
        | int =>
        cases c2 with
        | und => exact k2 rfl
        | int => exact hi _ _ _ _ rfl rfl
      · intro a b e1 e2
        subst e1; subst e2
        cases c1 with
        | und => exact k1 rfl
        | str _ =>
        cases c2 with
        | und => exact k2 rfl
        | str _ => exact hs _ _ _ _ rfl rfl
    split <;> try exact trivial
    · refine cond_q' fun hg => ?_
      cases he : eqT P h 8 t v1 v2 with
      | none => exact trivial
      | some q =>
        obtain ⟨k1, k2⟩ := eqT_known he
        obtain ⟨u1, hx, hc1⟩ := hx k1
        obtain ⟨u2, hy, hc2⟩ := hy k2
        obtain ⟨n1, n2⟩ := hni hc1 hc2 k1 k2
        simp only [rOB, rBool_eq]
        exact eqr_ok r hx hy hc1 hc2 k1 hg he n1 n2 (.inl ⟨rfl, rfl⟩)
    · refine cond_q' fun hg => ?_
      cases he : eqT P h 8 t v1 v2 with
      | none => exact trivial
      | some q =>
        obtain ⟨k1, k2⟩ := eqT_known he
        obtain ⟨u1, hx, hc1⟩ := hx k1
        obtain ⟨u2, hy, hc2⟩ := hy k2
        obtain ⟨n1, n2⟩ := hni hc1 hc2 k1 k2
        simp only [Option.map_some, rOB, rBool_eq]
        exact eqr_ok r hx hy hc1 hc2 k1 hg he n1 n2 (.inr ⟨rfl, rfl⟩)

theorem un_ok {op : UnOp} (r : Rel G φ h w) (hx : Kn φ e x v1) : QOk P φ h w e ⟨d, .unOp op t x, ty, pos, aft, g⟩ (un h op v1) := by
  unfold un
  split <;> try exact trivial
  · obtain ⟨u1, hx, hc1⟩ := hx (by simp)
    cases hc1
    rw [rBool_eq]
    exact QOk.pure (ynt hx) .bool
  · rename_i k n
    obtain ⟨u1, hx, hc1⟩ := hx (by simp)
    cases hc1
    rw [rInt_eq, wrp_eq]
    refine QOk.pure (u := .int k (k.wrap (0 - n))) (fun ρ hρ => ?_) ?_
    · simp [execOp, hρ _ _ hx, Op.unary, Op.intArith]
    · have : (0 - n : Int) = Int.neg n := by show 0 - n = -n; omega
      rw [this]; exact .int
  · rename_i k n
    obtain ⟨u1, hx, hc1⟩ := hx (by simp)
    cases hc1
    cases hs : k.signed with
    | true => exact trivial
    | false =>
    simp only [cond_false]
    rw [nat?_eq]
    split <;> try exact trivial
    rename_i hn
    refine cond_q' fun hr => ?_
    rw [rInt_eq]
    have hm := natLt hn hr
    obtain ⟨n, rfl⟩ : ∃ m : Nat, n = m := ⟨n.toNat, (Int.toNat_of_nonneg hn).symm⟩
    simp only [Int.toNat_natCast] at hm ⊢
    exact QOk.pure (ycoU' hx hs hm) .int

theorem mi_ok (r : Rel G φ h w) (hx : Kn φ e x v1) : QOk P φ h w e ⟨d, .makeInterface t x, ty, pos, aft, g⟩ (mi P h t v1) := by
  unfold mi
  split <;> try exact trivial
  rename_i hnu
  obtain ⟨u1, hx, hc1⟩ := hx hnu
  split <;> try exact trivial
  rename_i td hni ht
  refine QOk.pure (u := .iface t u1) (fun ρ hρ => ?_) (.ifc hc1)
  simp only [execOp, hρ _ _ hx, Instr.makeInterface, Sem.run_bind, run_underlying ht, Result.andThen_ok]
  cases td <;> first | rfl | exact (hni _ rfl).elim
theorem ta_ok {ok : Bool} (r : Rel G φ h w) (hx : Kn φ e x v1) : QOk P φ h w e ⟨d, .typeAssert x t' t ok, ty, pos, aft, g⟩ (ta P h v1 t ok) := by
  unfold ta
  split <;> try exact trivial
  rename_i u v
  obtain ⟨u1, hx, hc1⟩ := hx (by simp)
  cases hc1 with
  | @ifc _ _ uv hc =>
  split <;> try exact trivial
  rename_i td hni ht
  refine cond_q' fun htu => ?_
  have := Nat.eq_of_beq_eq_true htu
  subst this
  cases ok with
  | true =>
    refine QOk.pure (u := .tuple [uv, .bool true].toArray) (fun ρ hρ => ?_) (.tup (.cons hc (.cons .bool .nil)))
    simp only [execOp, hρ _ _ hx, Instr.typeAssert, Sem.run_bind, run_underlying ht, Result.andThen_ok]
    cases td <;> first | (simp; done) | exact (hni _ rfl).elim
  | false =>
    refine rV_q fun _ => ⟨uv, fun ρ hρ => ?_, hc⟩
    simp only [execOp, hρ _ _ hx, Instr.typeAssert, Sem.run_bind, run_underlying ht, Result.andThen_ok]
    cases td <;> first | (simp; done) | exact (hni _ rfl).elim
end
end Go.Proofs.YtkgiammeeckfbaaGreat
