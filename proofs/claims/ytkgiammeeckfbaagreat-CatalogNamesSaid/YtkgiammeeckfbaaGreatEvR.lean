/- Regions that draw their order: what the reckoner has seen of each operation. It is of no program. -/
import Derived.Test.YtkgiammeeckfbaaGreatEvQ
namespace Go.Proofs.YtkgiammeeckfbaaGreat
open Go Go.RowKit
set_option linter.all false

theorem dst_inj : ∀ {ops : List Oper}, (dstsOf ops).Nodup → ∀ {i i' : Nat} {o o' : Oper} {t : Nat}, ops[i]? = some o → ops[i']? = some o' → o.dst = some t → o'.dst = some t → i = i'
  | [], _, _, _, _, _, _, h, _, _, _ => by simp at h
  | q :: ops, hn, i, i', o, o', t, h, h', hd, hd' => by
    have mem : ∀ (i : Nat) (o : Oper), ops[i]? = some o → o.dst = some t → t ∈ dstsOf ops := fun i o h hd => List.mem_filterMap.2 ⟨o, List.mem_of_getElem? h, hd⟩
    have hn' : (dstsOf ops).Nodup := by
      unfold dstsOf at hn ⊢
      rw [List.filterMap_cons] at hn
      split at hn
      · exact hn
      · exact (List.nodup_cons.1 hn).2
    have hq : q.dst = some t → t ∉ dstsOf ops := fun e => by
      unfold dstsOf at hn ⊢
      rw [List.filterMap_cons, e] at hn
      exact (List.nodup_cons.1 hn).1
    cases i with
    | zero =>
      simp at h; subst h
      cases i' with
      | zero => rfl
      | succ i' => exact absurd (mem i' o' (by simpa using h') hd') (hq hd)
    | succ i =>
      cases i' with
      | zero =>
        simp at h'; subst h'
        exact absurd (mem i o (by simpa using h) hd) (hq hd')
      | succ i' => exact congrArg (· + 1) (dst_inj hn' (i := i) (i' := i') (by simpa using h) (by simpa using h') hd hd')

theorem back_lt {ops : List Oper} (hb : backOk ops = true) {i j : Nat} (hj : j < ops.length) (h : (anc ops j).testBit i = true) : i < j := by
  have := List.all_eq_true.1 hb j (List.mem_range.2 hj)
  have h1 : anc ops j < 2 ^ j := by simpa using this
  rcases Nat.lt_or_ge i j with h2 | h2
  · exact h2
  · have : (anc ops j).testBit i = false := Nat.testBit_lt_two_pow (Nat.lt_of_lt_of_le h1 (Nat.pow_le_pow_right (by omega) h2))
    rw [this] at h; cases h
theorem slots_anc {ops : List Oper} (hs : slotsOk ops = true) {i j t : Nat} {o q : Oper} (hj : ops[j]? = some o) (ht : t ∈ readsOf ops o) (hi : ops[i]? = some q) (hq : q.dst = some t) : (anc ops j).testBit i = true ∨ i = j ∨ (anc ops i).testBit j = true := by
  have h1 := List.all_eq_true.1 hs j (List.mem_range.2 (List.getElem?_eq_some_iff.1 hj).1)
  rw [hj] at h1
  have h2 := List.all_eq_true.1 h1 t ht
  have h3 := List.all_eq_true.1 h2 i (List.mem_range.2 (List.getElem?_eq_some_iff.1 hi).1)
  rw [hi] at h3
  simp only [hq] at h3
  have : Nat.beq t t = true := Nat.beq_refl t
  rw [this] at h3
  simp only [cond_true, Bool.or_eq_true] at h3
  rcases h3 with h3 | h3 | h3
  · exact .inl h3
  · exact .inr (.inl (Nat.eq_of_beq_eq_true h3))
  · exact .inr (.inr h3)
theorem tmps_mem {l : List Operand} {t : Nat} (h : .tmp t ∈ l) : t ∈ tmpsOf l := List.mem_filterMap.2 ⟨_, h, rfl⟩

noncomputable def putD (d : Nat) (E : Tr V d) (dst : Option Nat) (x : V) : Tr V d := match dst with
  | none => E
  | some t => trPut d t E x
theorem dstV_putD {β : Type} (d : Nat) (E : Tr V d) (dst : Option Nat) (v : V) (c : Tr V d → β) : dstV d E dst v c = c (putD d E dst v) := by
  rw [dstV_eq]; cases dst <;> rfl

noncomputable def cAt (P : Program) (ops : List Oper) (j : Nat) : Nat := ((List.range j).filter (isE P ops)).length
theorem cAt_succ (P : Program) (ops : List Oper) (j : Nat) : cAt P ops (j + 1) = cAt P ops j + (if isE P ops j = true then 1 else 0) := by
  unfold cAt
  rw [List.range_succ, List.filter_append, List.length_append]
  congr 1
  by_cases h : isE P ops j = true <;> simp [List.filter_cons, h]
/-- A slot holds, as far as it is known. -/
def SV (d : Nat) (E : Tr V d) (dst : Option Nat) (x : V) : Prop := ∀ t, dst = some t → vGet d t E = x ∨ vGet d t E = .und
/-- What an acting operation does. -/
def Does (P : Program) (G : Nat) (X : Hook P G) (ih : RunT) (fr : Fr) (E : Tr V fr.d) (o : Oper) (hc hc' : H) : R → Prop
  | .v x h => h = hc' ∧ SV fr.d E o.dst x
  | .eff h => h = hc' ∧ o.dst = none
  | .call f args => ∃ x, enterF P G X ih f args hc = .ok x hc' ∧ SV fr.d E o.dst x
  | .yld l args => ∃ x, roundF P ih l args hc = .ok x hc' ∧ SV fr.d E o.dst x
  | .dfr _ _ _ => False
  | .bad _ => False
/-- The memory that an acting operation meets. -/
noncomputable def metH (P : Program) (ops : List Oper) (b0 : Nat) (al : List (Nat × B)) (c : Nat) (h : H) : H := addA P ops b0 (al.filter (joinB P ops c)) h
inductive Fact (P : Program) (G : Nat) (X : Hook P G) (ih : RunT) (ops : List Oper) (b0 : Nat) (fr : Fr) (E Ej : Tr V fr.d) (hh : List H) (al : List (Nat × B)) (j : Nat) (o : Oper) : Prop
  | no : wants fr.d Ej ops o.guard = some false → SV fr.d E o.dst (.tup []) → (isE P ops j = true → ∃ hc, hh[cAt P ops j]? = some hc ∧ hh[cAt P ops j + 1]? = some (metH P ops b0 al (cAt P ops j) hc)) → Fact P G X ih ops b0 fr E Ej hh al j o
  | rd : wants fr.d Ej ops o.guard = some true → isRd P ops j = true → Fact P G X ih ops b0 fr E Ej hh al j o
  | al (x : B) (mk : Nat → V) : wants fr.d Ej ops o.guard = some true → isRd P ops j = false → isE P ops j = false → alOp P (opV G fr.d Ej) o.op = some (x, mk) → (j, x) ∈ al → SV fr.d E o.dst (mk (b0 + rk P ops j)) → Fact P G X ih ops b0 fr E Ej hh al j o
  | ac (hc hc' : H) : wants fr.d Ej ops o.guard = some true → isRd P ops j = false → isE P ops j = true → hh[cAt P ops j]? = some hc → hh[cAt P ops j + 1]? = some hc' → Does P G X ih fr E o (metH P ops b0 al (cAt P ops j) hc) hc' (evOp P (opV G fr.d Ej) o.op (metH P ops b0 al (cAt P ops j) hc)) → Fact P G X ih ops b0 fr E Ej hh al j o
/-- What an operation looks at: what was there ahead of the region, or what the region has left. -/
structure EnvAt (ops : List Oper) (d : Nat) (E0 E Ej : Tr V d) (j : Nat) (o : Oper) : Prop where
  new : ∀ t ∈ readsOf ops o, (∀ i q, ops[i]? = some q → q.dst = some t → (anc ops j).testBit i = true) → vGet d t Ej = vGet d t E
  old : ∀ t ∈ readsOf ops o, (∀ i q, ops[i]? = some q → q.dst = some t → ¬ (anc ops j).testBit i = true) → vGet d t Ej = vGet d t E0

theorem join_anc {P : Program} {ops : List Oper} {j : Nat} (hj : j < ops.length) (hE : isE P ops j = true) {p : Nat × B} (h : joinB P ops (cAt P ops j) p = true) : (anc ops j).testBit p.1 = true := by
  have h1 : cMax P ops p.1 = cAt P ops j := Nat.eq_of_beq_eq_true h
  have h2 : (es P ops)[cAt P ops j]? = some j := filter_at hj hE
  obtain ⟨h3, h4⟩ := List.getElem?_eq_some_iff.1 h2
  have h5 : cMax P ops p.1 < (es P ops).length := by rw [h1]; exact h3
  have h6 : (anc ops (es P ops)[cMax P ops p.1]).testBit p.1 = true := List.findIdx_getElem (w := h5) (p := fun e => (anc ops e).testBit p.1)
  have h7 : (es P ops)[cMax P ops p.1] = j := by
    have : (es P ops)[cMax P ops p.1]? = some j := by rw [h1]; exact h2
    exact (List.getElem?_eq_some_iff.1 this).2
  rwa [h7] at h6

section
variable {P : Program} {G : Nat} {X : Hook P G} {ih : RunT} {ops : List Oper} {b0 : Nat} {fr : Fr} {v : V} {h' : H}

theorem wants_congr {E E' : Tr V fr.d} {o : Oper} (h : ∀ t ∈ readsOf ops o, vGet fr.d t E' = vGet fr.d t E) : wants fr.d E' ops o.guard = wants fr.d E ops o.guard := by
  unfold wants
  cases hg : o.guard with
  | none => rfl
  | some p =>
    obtain ⟨j, b⟩ := p
    simp only
    cases hj : ops[j]? with
    | none => rfl
    | some q =>
      simp only
      cases hq : q.dst with
      | none => rfl
      | some i =>
        simp only
        rw [h i]
        unfold readsOf
        rw [List.mem_append, hg]
        simp [hj, hq]
theorem opV_congr {E E' : Tr V fr.d} {o : Oper} (h : ∀ t ∈ readsOf ops o, vGet fr.d t E' = vGet fr.d t E) (x : Operand) (hx : x ∈ o.op.operands) : opV G fr.d E' x = opV G fr.d E x := by
  cases x with
  | tmp t =>
    refine h t ?_
    unfold readsOf
    rw [List.mem_append]
    exact .inl (tmps_mem (by simpa using hx))
  | _ => rfl
theorem SV.congr {E E' : Tr V fr.d} {dst : Option Nat} {x : V} (h : ∀ t, dst = some t → vGet fr.d t E' = vGet fr.d t E) (s : SV fr.d E dst x) : SV fr.d E' dst x := fun t ht => by
  rw [h t ht]; exact s t ht
theorem sv_putD (E : Tr V fr.d) (dst : Option Nat) (x : V) : SV fr.d (putD fr.d E dst x) dst x := fun t ht => by
  subst ht; exact get_put_same V.und fr.d t E x

theorem drawGo_spec (hslot : slotsOk ops = true) (hback : backOk ops = true) (hnod : (dstsOf ops).Nodup) (H0 : H) (E0 : Tr V fr.d) (cont : DrawT fr) :
    ∀ (l : List Oper) (j : Nat) (E : Tr V fr.d) (cur ful : H) (hs : List H) (al : List (Nat × B)) (Es : List (Tr V fr.d)), l = ops.drop j → hs.length = cAt P ops j → (H0 :: hs.reverse)[hs.length]? = some cur → Es.length = j → (∀ t, (∀ i q, ops[i]? = some q → q.dst = some t → j ≤ i) → vGet fr.d t E = vGet fr.d t E0) → drawGo P G X ih ops b0 fr cont l j E cur ful hs al Es = .ok v h' →
    ∃ Ef cur' hs' al' Es', cont Ef cur' hs' al' Es' = .ok v h' ∧ (∃ n, hs' = n ++ hs) ∧ (∃ n, Es' = n ++ Es) ∧ (∃ n, al' = n ++ al ∧ (∀ p ∈ n, j ≤ p.1 ∧ p.1 < ops.length ∧ isRd P ops p.1 = false ∧ isE P ops p.1 = false ∧ ∃ o Ej, ops[p.1]? = some o ∧ Es'.reverse[p.1]? = some Ej ∧ wants fr.d Ej ops o.guard = some true) ∧ (n.map (·.1)).Nodup) ∧
      (H0 :: hs'.reverse)[hs'.length]? = some cur' ∧ hs'.length = cAt P ops (j + l.length) ∧ (∀ t, (∀ i o, j ≤ i → ops[i]? = some o → o.dst ≠ some t) → vGet fr.d t Ef = vGet fr.d t E) ∧
      ∀ i o, j ≤ i → ops[i]? = some o → ∃ Ej, Es'.reverse[i]? = some Ej ∧ EnvAt ops fr.d E0 Ef Ej i o ∧ Fact P G X ih ops b0 fr Ef Ej (H0 :: hs'.reverse) al' i o
  | [], j, E, cur, ful, hs, al, Es, hl, hlen, hcur, hEs, hE0, he => by
    have hj : ops.length ≤ j := by
      have := congrArg List.length hl
      simp at this; omega
    exact ⟨E, cur, hs, al, Es, he, ⟨[], rfl⟩, ⟨[], rfl⟩, ⟨[], rfl, by simp, by simp⟩, hcur, hlen, fun _ _ => rfl, fun i o hi ho => by
      have := (List.getElem?_eq_some_iff.1 ho).1; omega⟩
  | o :: l, j, E, cur, ful, hs, al, Es, hl, hlen, hcur, hEs, hE0, he => by
    have hoj : ops[j]? = some o := by
      have := congrArg (·[0]?) hl
      simpa using this.symm
    have hjl : j < ops.length := (List.getElem?_eq_some_iff.1 hoj).1
    have hl' : l = ops.drop (j + 1) := by
      have := congrArg List.tail hl
      simpa using this
    -- on with the rest
    have fin : ∀ (x : V) (cur1 ful1 : H) (hs1 : List H) (al1 : List (Nat × B)), drawGo P G X ih ops b0 fr cont l (j + 1) (putD fr.d E o.dst x) cur1 ful1 hs1 al1 (E :: Es) = .ok v h' →
        (isE P ops j = false ∧ hs1 = hs ∧ cur1 = cur ∨ isE P ops j = true ∧ hs1 = cur1 :: hs) → (al1 = al ∨ isRd P ops j = false ∧ isE P ops j = false ∧ wants fr.d E ops o.guard = some true ∧ ∃ y, al1 = (j, y) :: al) →
        (∀ (Ef : Tr V fr.d) (hh : List H) (al' : List (Nat × B)), SV fr.d Ef o.dst x → hh[cAt P ops j]? = some cur → (isE P ops j = true → hh[cAt P ops j + 1]? = some cur1) → (isE P ops j = true → metH P ops b0 al' (cAt P ops j) cur = addA P ops b0 (al.filter (joinB P ops hs.length)) cur) → (∀ p ∈ al1, p ∈ al') → Fact P G X ih ops b0 fr Ef E hh al' j o) →
        ∃ Ef cur' hs' al' Es', cont Ef cur' hs' al' Es' = .ok v h' ∧ (∃ n, hs' = n ++ hs) ∧ (∃ n, Es' = n ++ Es) ∧ (∃ n, al' = n ++ al ∧ (∀ p ∈ n, j ≤ p.1 ∧ p.1 < ops.length ∧ isRd P ops p.1 = false ∧ isE P ops p.1 = false ∧ ∃ o Ej, ops[p.1]? = some o ∧ Es'.reverse[p.1]? = some Ej ∧ wants fr.d Ej ops o.guard = some true) ∧ (n.map (·.1)).Nodup) ∧
          (H0 :: hs'.reverse)[hs'.length]? = some cur' ∧ hs'.length = cAt P ops (j + (o :: l).length) ∧ (∀ t, (∀ i o, j ≤ i → ops[i]? = some o → o.dst ≠ some t) → vGet fr.d t Ef = vGet fr.d t E) ∧
          ∀ i o, j ≤ i → ops[i]? = some o → ∃ Ej, Es'.reverse[i]? = some Ej ∧ EnvAt ops fr.d E0 Ef Ej i o ∧ Fact P G X ih ops b0 fr Ef Ej (H0 :: hs'.reverse) al' i o := by
      intro x cur1 ful1 hs1 al1 he1 hE hal hfact
      have hlen1 : hs1.length = cAt P ops (j + 1) := by
        rw [cAt_succ]
        rcases hE with ⟨e1, rfl, rfl⟩ | ⟨e1, rfl⟩
        · simp [e1, hlen]
        · simp [e1, hlen]
      have hcur1 : (H0 :: hs1.reverse)[hs1.length]? = some cur1 := by
        rcases hE with ⟨e1, rfl, rfl⟩ | ⟨e1, rfl⟩
        · exact hcur
        · simp
      have hput : ∀ t, o.dst ≠ some t → vGet fr.d t (putD fr.d E o.dst x) = vGet fr.d t E := fun t ht => by
        cases hd : o.dst with
        | none => rfl
        | some t' => exact get_put_ne V.und fr.d t' t E x fun e => ht (by rw [hd, e])
      obtain ⟨Ef, cur', hs', al', Es', k1, ⟨n, k2⟩, ⟨z, kE⟩, ⟨m, k3, k3', k3''⟩, k4, k5, k6, k7⟩ := drawGo_spec hslot hback hnod H0 E0 cont l (j + 1) _ cur1 ful1 hs1 al1 (E :: Es) hl' hlen1 hcur1 (by simp [hEs]) (fun t ht => by
        rw [hput t fun hd => by have := ht j o hoj hd; omega]
        exact hE0 t fun i q hi hd => by have := ht i q hi hd; omega) he1
      have slot : ∀ t, (∀ i o, j ≤ i → ops[i]? = some o → o.dst ≠ some t) → vGet fr.d t Ef = vGet fr.d t E := fun t ht => by
        rw [k6 t fun i o hi => ht i o (by omega)]
        exact hput t (ht j o (Nat.le_refl _) hoj)
      have hEj : Es'.reverse[j]? = some E := by
        rw [kE, List.reverse_append, List.reverse_cons, List.append_assoc, List.getElem?_append_right (by simp [hEs])]
        simp [hEs]
      have hpre : ∀ i, i ≤ hs.length → (H0 :: hs'.reverse)[i]? = (H0 :: hs.reverse)[i]? := fun i hi => by
        have hx : ∃ z, hs' = z ++ hs := by
          rcases hE with ⟨e1, rfl, rfl⟩ | ⟨e1, rfl⟩
          · exact ⟨n, k2⟩
          · exact ⟨n ++ [cur1], by rw [k2]; simp⟩
        obtain ⟨z, rfl⟩ := hx
        rw [List.reverse_append, ← List.cons_append, List.getElem?_append_left (by simp; omega)]
      refine ⟨Ef, cur', hs', al', Es', k1, ?_, ⟨z ++ [E], by rw [kE]; simp⟩, ?_, k4, by rw [k5]; congr 1; simp; omega, slot, fun i q hi hq => ?_⟩
      · rcases hE with ⟨e1, rfl, rfl⟩ | ⟨e1, rfl⟩
        · exact ⟨n, k2⟩
        · exact ⟨n ++ [cur1], by rw [k2]; simp⟩
      · rcases hal with rfl | ⟨e1, e2, e3, y, rfl⟩
        · exact ⟨m, k3, fun p hp => let ⟨a, b⟩ := k3' p hp; ⟨by omega, b⟩, k3''⟩
        · refine ⟨m ++ [(j, y)], by rw [k3]; simp, fun p hp => ?_, ?_⟩
          · rcases List.mem_append.1 hp with hp | hp
            · obtain ⟨a, b⟩ := k3' p hp
              exact ⟨by omega, b⟩
            · simp at hp; subst hp
              exact ⟨Nat.le_refl _, hjl, e1, e2, o, E, hoj, hEj, e3⟩
          · rw [List.map_append, List.nodup_append]
            refine ⟨k3'', by simp, fun a ha b hb => ?_⟩
            simp at hb; subst hb
            obtain ⟨p, hp, rfl⟩ := List.mem_map.1 ha
            have := (k3' p hp).1
            omega
      · rcases Nat.lt_or_ge j i with h1 | h1
        · exact k7 i q h1 hq
        · have : i = j := by omega
          subst this
          rw [hoj] at hq; cases hq
          refine ⟨E, hEj, ⟨fun t ht hw => (slot t fun i' q hi' hq hd => ?_).symm, fun t ht hw => hE0 t fun i' q hq hd => ?_⟩, hfact Ef _ al' ?_ ?_ (fun e => ?_) (fun e => ?_) fun p hp => by rw [k3]; exact List.mem_append_right _ hp⟩
          · have := back_lt hback hjl (hw i' q hq hd)
            omega
          · rcases slots_anc hslot hoj ht hq hd with h2 | h2 | h2
            · exact absurd h2 (hw i' q hq hd)
            · omega
            · have := back_lt hback (List.getElem?_eq_some_iff.1 hq).1 h2
              omega
          · refine SV.congr (fun t ht => k6 t fun i' q hi' hq hd => ?_) (sv_putD E o.dst x)
            have := dst_inj hnod hq hoj hd ht
            omega
          · rw [← hlen, hpre _ (Nat.le_refl _)]; exact hcur
          · rcases hE with ⟨e1, -⟩ | ⟨-, rfl⟩
            · rw [e1] at e; cases e
            · rw [k2, ← hlen, List.reverse_append, ← List.cons_append, List.getElem?_append_left (by simp)]
              simp
          · have h2 : al1 = al := by
              rcases hal with h2 | ⟨-, h2, -⟩
              · exact h2
              · rw [h2] at e; cases e
            have h3 : m.filter (joinB P ops (cAt P ops i)) = [] := List.filter_eq_nil_iff.2 fun p hp hjn => by
              have h4 := back_lt hback hjl (join_anc hjl e hjn)
              have h5 := (k3' p hp).1
              omega
            unfold metH
            rw [k3, h2, List.filter_append, h3, List.nil_append, hlen]
    have hstep : drawGo P G X ih ops b0 fr cont (o :: l) j E cur ful hs al Es = (match wants fr.d E ops o.guard with
      | some true => match isRd P ops j with
        | true => match evOp P (opV G fr.d E) o.op ful with
          | .v x _ => dstV fr.d E o.dst x fun E' => drawGo P G X ih ops b0 fr cont l (j + 1) E' cur ful hs al (E :: Es)
          | .bad n => .bad n fr.f
          | _ => .bad 222 fr.f
        | false => match isE P ops j with
          | false => match alOp P (opV G fr.d E) o.op with
            | some (x, mk) => dstV fr.d E o.dst (mk (Nat.add b0 (rk P ops j))) fun E' => hSet ful (Nat.add b0 (rk P ops j)) (some x) fun ful => drawGo P G X ih ops b0 fr cont l (j + 1) E' cur ful hs ((j, x) :: al) (E :: Es)
            | none => .bad 223 fr.f
          | true => addAll P ops b0 (al.filter (joinB P ops (List.length hs))) cur fun cur => match evOp P (opV G fr.d E) o.op cur with
            | .v x h => dstV fr.d E o.dst x fun E' => addAll P ops b0 (al.filter (lateB P ops (Nat.succ (List.length hs)))) h fun ful => drawGo P G X ih ops b0 fr cont l (j + 1) E' h ful (h :: hs) al (E :: Es)
            | .eff h => match o.dst with
              | none => addAll P ops b0 (al.filter (lateB P ops (Nat.succ (List.length hs)))) h fun ful => drawGo P G X ih ops b0 fr cont l (j + 1) E h ful (h :: hs) al (E :: Es)
              | some _ => .bad 219 fr.f
            | .call f args => match enterF P G X ih f args cur with
              | .ok x h => dstV fr.d E o.dst x fun E' => addAll P ops b0 (al.filter (lateB P ops (Nat.succ (List.length hs)))) h fun ful => drawGo P G X ih ops b0 fr cont l (j + 1) E' h ful (h :: hs) al (E :: Es)
              | .bad n a => .bad n a
            | .yld l' args => match roundF P ih l' args cur with
              | .ok x h => dstV fr.d E o.dst x fun E' => addAll P ops b0 (al.filter (lateB P ops (Nat.succ (List.length hs)))) h fun ful => drawGo P G X ih ops b0 fr cont l (j + 1) E' h ful (h :: hs) al (E :: Es)
              | .bad n a => .bad n a
            | .dfr _ _ _ => .bad 243 fr.f
            | .bad n => .bad n fr.f
      | some false => dstV fr.d E o.dst (.tup []) fun E' => match isE P ops j with
        | true => addAll P ops b0 (al.filter (joinB P ops (List.length hs))) cur fun cur => drawGo P G X ih ops b0 fr cont l (j + 1) E' cur ful (cur :: hs) al (E :: Es)
        | false => drawGo P G X ih ops b0 fr cont l (j + 1) E' cur ful hs al (E :: Es)
      | none => .bad 207 fr.f) := rfl
    rw [hstep] at he
    split at he <;> try cases he
    · rename_i hw
      split at he
      · rename_i hrd
        have hEf : isE P ops j = false := by unfold isE; rw [hrd]; rfl
        split at he <;> try cases he
        rename_i x _ hev
        rw [dstV_putD] at he
        exact fin x cur ful hs al he (.inl ⟨hEf, rfl, rfl⟩) (.inl rfl) fun Ef hh al' _ _ _ _ _ => .rd hw hrd
      · rename_i hrd
        split at he
        · rename_i hEf
          split at he <;> try cases he
          rename_i x mk hal
          rw [dstV_putD, hSet_eq] at he
          exact fin _ cur _ hs _ he (.inl ⟨hEf, rfl, rfl⟩) (.inr ⟨hrd, hEf, hw, x, rfl⟩) fun Ef hh al' hsv _ _ _ hm => .al x mk hw hrd hEf hal (hm _ (List.mem_cons_self ..)) hsv
        · rename_i hEt
          rw [addAll_eq] at he
          split at he <;> try cases he
          · rename_i x h1 hev
            rw [dstV_putD, addAll_eq] at he
            exact fin x h1 _ _ al he (.inr ⟨hEt, rfl⟩) (.inl rfl) fun Ef hh al' hsv hc hc' hmt _ => .ac cur h1 hw hrd hEt hc (hc' hEt) (by rw [hmt hEt, hev]; exact ⟨rfl, hsv⟩)
          · rename_i h1 hev
            split at he <;> try cases he
            rename_i hd
            rw [addAll_eq] at he
            exact fin .und h1 _ _ al (by rw [hd]; exact he) (.inr ⟨hEt, rfl⟩) (.inl rfl) fun Ef hh al' hsv hc hc' hmt _ => .ac cur h1 hw hrd hEt hc (hc' hEt) (by rw [hmt hEt, hev]; exact ⟨rfl, hd⟩)
          · rename_i f args hev
            split at he <;> try cases he
            rename_i x h1 hen
            rw [dstV_putD, addAll_eq] at he
            exact fin x h1 _ _ al he (.inr ⟨hEt, rfl⟩) (.inl rfl) fun Ef hh al' hsv hc hc' hmt _ => .ac cur h1 hw hrd hEt hc (hc' hEt) (by rw [hmt hEt, hev]; exact ⟨x, hen, hsv⟩)
          · rename_i f args hev
            split at he <;> try cases he
            rename_i x h1 hen
            rw [dstV_putD, addAll_eq] at he
            exact fin x h1 _ _ al he (.inr ⟨hEt, rfl⟩) (.inl rfl) fun Ef hh al' hsv hc hc' hmt _ => .ac cur h1 hw hrd hEt hc (hc' hEt) (by rw [hmt hEt, hev]; exact ⟨x, hen, hsv⟩)
    · rename_i hw
      rw [dstV_putD] at he
      split at he
      · rename_i hEt
        rw [addAll_eq] at he
        exact fin _ _ _ _ al he (.inr ⟨hEt, rfl⟩) (.inl rfl) fun Ef hh al' hsv hc hc' hmt _ => .no hw hsv fun e => ⟨cur, hc, by rw [hmt e]; exact hc' e⟩
      · rename_i hEf
        exact fin _ cur _ _ al he (.inl ⟨hEf, rfl, rfl⟩) (.inl rfl) fun Ef hh al' hsv _ _ _ _ => .no hw hsv fun e => by rw [hEf] at e; cases e
end
end Go.Proofs.YtkgiammeeckfbaaGreat
