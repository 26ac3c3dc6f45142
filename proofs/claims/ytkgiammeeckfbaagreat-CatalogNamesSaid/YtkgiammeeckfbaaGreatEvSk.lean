/- The reckoner's maps whose keys are flat structs: they are found by asking '==' of each entry. It is of no program. -/
import Derived.Test.YtkgiammeeckfbaaGreatEvJ
namespace Go.Proofs.YtkgiammeeckfbaaGreat
open Go Go.RowKit
set_option linter.all false

section
variable {P : Program} {G : Nat} {φ : Ph} {h : H} {w : World} {e : Env} {d : Option Nat} {ty t kt : TypeId} {pos : String} {aft : Array Edge} {g : Option (Nat × Bool)} {x y : Operand} {v1 v2 : V}
theorem cellEq_ok {a b : V} {u v : Value} (hq : cellEq a b = true) (ha : CV φ a u) (hb : CV φ b v) : u = v ∧ Instr.sameBits 9999 u v = true := by
  unfold cellEq at hq
  split at hq
  · simp only [Bool.and_eq_true, ieq_eq] at hq
    have := keq_eq.1 hq.1
    subst this
    have := of_decide_eq_true hq.2
    subst this
    cases ha; cases hb
    exact ⟨rfl, by simp [Instr.sameBits]⟩
  · simp only [Bool.and_eq_true] at hq
    have h1 := Nat.eq_of_beq_eq_true hq.1
    have h2 := Nat.eq_of_beq_eq_true hq.2
    subst h1; subst h2
    cases ha; cases hb
    exact ⟨rfl, by simp [Instr.sameBits, S, beqS]⟩
  · rw [beqB_eq] at hq
    have hq' := eq_of_beq hq
    subst hq'
    cases ha; cases hb
    exact ⟨rfl, by simp [Instr.sameBits]⟩
  · cases hq
theorem cellsEq_ok : ∀ {l m : List V} {us vs : List Value}, cellsEq l m = true → CVs φ l us → CVs φ m vs → us = vs ∧ ((us.zip vs).all fun p => Instr.sameBits 9999 p.1 p.2) = true
  | [], [], _, _, _, .nil, .nil => ⟨rfl, rfl⟩
  | [], _ :: _, _, _, h, _, _ => by cases h
  | _ :: _, [], _, _, h, _, _ => by cases h
  | a :: l, b :: m, _, _, h, .cons h1 h2, .cons k1 k2 => by
    simp only [cellsEq, Bool.and_eq_true] at h
    obtain ⟨rfl, e2⟩ := cellEq_ok h.1 h1 k1
    obtain ⟨rfl, e4⟩ := cellsEq_ok h.2 h2 k2
    exact ⟨rfl, by simp only [List.zip_cons_cons, List.all_cons, e2, Bool.true_and]; exact e4⟩
theorem findS_cons {kt : TypeId} {k : Value} {e : MapEntry} {es : List MapEntry} {i : Nat} {q : Bool} (hq : (Op.equal kt k e.key).run P w = .ok q w) :
    (Instr.findAsking kt k (e :: es) i).run P w = (if q then (pure (some (i, e.val)) : Sem _) else Instr.findAsking kt k es (i + 1)).run P w := by
  simp only [Instr.findAsking, Sem.run_bind, hq, Result.andThen_ok]
theorem mFindS_eq {β : Type} (r : Rel G φ h w) {l : List V} {us : List Value} (hc : CVs φ l us) (yes : Nat → V → β) (no bad : β) : ∀ {es : List (V × V × Nat)} {ents : List MapEntry} (i : Nat), MR φ es ents →
    mFindS P h kt l es yes no bad i = bad ∨
    (∃ j v n e, mFindS P h kt l es yes no bad i = yes (i + j) v ∧ (∃ k', es[j]? = some (k', v, n)) ∧ ents[j]? = some e ∧ e.key = .agg us.toArray ∧ ((us.zip us).all fun p => Instr.sameBits 9999 p.1 p.2) = true ∧ CV φ v e.val ∧ e.born = n ∧ (Instr.findAsking kt (.agg us.toArray) ents i).run P w = .ok (some (i + j, e.val)) w) ∨
    (mFindS P h kt l es yes no bad i = no ∧ (Instr.findAsking kt (.agg us.toArray) ents i).run P w = .ok none w)
  | _, _, i, .nil => .inr (.inr ⟨rfl, rfl⟩)
  | _, _, i, .cons (k := a) (v := v) (n := n) (e := e) (l := es) (es := ents) h1 h2 h3 hM => by
    have hstep : mFindS P h kt l ((a, v, n) :: es) yes no bad i = match kEqS P h kt l a with
      | some true => yes i v
      | some false => mFindS P h kt l es yes no bad (i + 1)
      | none => bad := rfl
    rw [hstep]
    cases hq : kEqS P h kt l a with
    | none => exact .inl rfl
    | some q =>
      unfold kEqS at hq
      split at hq <;> try cases hq
      rename_i m
      obtain ⟨vs, hkey, hvs⟩ : ∃ vs, e.key = .agg vs.toArray ∧ CVs φ m vs := by
        generalize e.key = u at h1
        cases h1 with
        | agg h => exact ⟨_, rfl, h⟩
      cases he : eqT P h 8 kt (.agg l) (.agg m) with
      | none => rw [he] at hq; cases hq
      | some q' =>
        have heq : (Op.equal kt (.agg us.toArray) e.key).run P w = .ok q' w := by
          rw [hkey]
          exact eqT_ok r 8 (.agg hc) (.agg hvs) he 10000 (by omega)
        rw [he] at hq
        cases q' with
        | true =>
          simp only at hq
          cases hce : cellsEq l m with
          | false => rw [hce] at hq; cases hq
          | true =>
            rw [hce] at hq
            cases hq
            obtain ⟨rfl, hsb⟩ := cellsEq_ok hce hc hvs
            refine .inr (.inl ⟨0, v, n, e, rfl, ⟨_, rfl⟩, rfl, hkey, hsb, h2, h3, ?_⟩)
            rw [findS_cons heq]; rfl
        | false =>
          simp only at hq
          cases hq
          simp only
          rcases mFindS_eq r hc yes no bad (i + 1) hM with h4 | ⟨j, v', n', e', h4, ⟨k', h5⟩, h6, h7, h7', h8, h9, h10⟩ | ⟨h4, h5⟩
          · exact .inl h4
          · refine .inr (.inl ⟨j + 1, v', n', e', ?_, ⟨k', by simpa using h5⟩, by simpa using h6, h7, h7', h8, h9, ?_⟩)
            · rw [h4]; congr 1; omega
            · rw [findS_cons heq]
              simp only [Bool.false_eq_true, if_false]
              rw [h10]; congr 3; omega
          · refine .inr (.inr ⟨h4, ?_⟩)
            rw [findS_cons heq]
            simpa using h5
theorem findKey_S {fs : Array Field} (hs : P.underlying kt = some (.struct fs)) {k : Value} {ents : List MapEntry} {x : Option (Nat × Value)} (hf : (Instr.findAsking kt k ents 0).run P w = .ok x w) : (Instr.findKey kt k ents).run P w = .ok x w := by
  cases ents with
  | nil =>
    have : x = none := by
      have h : (Result.ok none w : Result (Option (Nat × Value))) = .ok x w := hf
      cases h; rfl
    subst this
    simp [Instr.findKey, run_underlying hs, Instr.findNow]
  | cons e es =>
    have hn : Instr.findNow (.struct fs) k (e :: es) 0 = none := by
      simp [Instr.findNow, Instr.sameNow]
    simp only [Instr.findKey, Sem.run_bind, run_underlying hs, Result.andThen_ok, hn]
    exact hf
theorem checkF {l : List V} {us : List Value} (hc : CVs φ l us) (b : Bool) (lv : Nat) : ∀ (fs : List Field), (fs.all fun f => match P.underlying f.type with
    | some (.int _) | some .string | some .bool => (partV P f l).isSome
    | _ => false) = true → (forIn fs PUnit.unit fun f _ => do
      if f.name ≠ "_" then Instr.checkKey b (lv + 1) f.type (← part f.type us.toArray f.offset)
      pure (ForInStep.yield PUnit.unit) : Sem PUnit).run P w = .ok PUnit.unit w
  | [], _ => rfl
  | f :: fs, hall => by
    simp only [List.all_cons, Bool.and_eq_true] at hall
    obtain ⟨h1, h2⟩ := hall
    have ih := checkF hc b lv fs h2
    have hck : ∀ v, (Instr.checkKey b (lv + 1) f.type v).run P w = .ok () w := by
      intro v
      split at h1 <;> try cases h1
      · rename_i k hu
        have hA : ∀ n, (Instr.checkKey b (n + 1) f.type v).run P w = .ok () w := fun n => by simp [Instr.checkKey, run_underlying hu]
        exact hA lv
      · rename_i hu
        have hA : ∀ n, (Instr.checkKey b (n + 1) f.type v).run P w = .ok () w := fun n => by simp [Instr.checkKey, run_underlying hu]
        exact hA lv
      · rename_i hu
        have hA : ∀ n, (Instr.checkKey b (n + 1) f.type v).run P w = .ok () w := fun n => by simp [Instr.checkKey, run_underlying hu]
        exact hA lv
    obtain ⟨u, hp⟩ : ∃ u, (part f.type us.toArray f.offset).run P w = .ok u w := by
      have : (partV P f l).isSome = true := by
        split at h1 <;> first | exact h1 | cases h1
      obtain ⟨v, hv⟩ := Option.isSome_iff_exists.1 this
      obtain ⟨u, e1, -⟩ := partV_ok (w := w) hc hv
      exact ⟨u, e1⟩
    rw [List.forIn_cons]
    by_cases hn : f.name = "_"
    · simp only [hn, ne_eq, not_true_eq_false, if_false, Sem.run_bind, Sem.run_pure, Result.andThen_ok]
      simpa using ih
    · simp only [hn, ne_eq, not_false_eq_true, if_true, Sem.run_bind, hp, hck, Sem.run_pure, Result.andThen_ok]
      simpa using ih
theorem checkS {l : List V} {us : List Value} (hc : CVs φ l us) (hok : kOkS P kt l = true) : ∃ fs, P.underlying kt = some (.struct fs) ∧ ∀ b, (Instr.checkKey b 10000 kt (.agg us.toArray)).run P w = .ok () w := by
  unfold kOkS at hok
  split at hok <;> try cases hok
  rename_i fs hs
  refine ⟨fs, hs, fun b => ?_⟩
  have hA : ∀ lv, (Instr.checkKey b (lv + 1 + 1) kt (.agg us.toArray)).run P w = .ok () w := fun lv => by
    have hF := checkF (P := P) (w := w) hc b lv fs.toList hok
    simp only [Instr.checkKey, Sem.run_bind, run_underlying hs, Result.andThen_ok, ← Array.forIn_toList]
    simp only [Instr.checkKey] at hF
    simp_all
  exact hA 9998
theorem lkS_ok {ok : Bool} {l : List V} (r : Rel G φ h w) (hx : Kn φ e x v1) (hy : Kn φ e y (.agg l)) : QOk P φ h w e ⟨d, .lookup t x y ok, ty, pos, aft, g⟩ (lkS P h t v1 l ok) := by
  unfold lkS
  split <;> try exact trivial
  rename_i mk el ht
  split <;> try exact trivial
  rename_i zv hzv
  refine cond_q' fun hh => ?_
  simp only [Bool.and_eq_true] at hh
  obtain ⟨z, hz, hzc⟩ := tzv_of hzv hh.2
  obtain ⟨u2, hy, hc2⟩ := hy (by simp)
  cases hc2 with
  | @agg _ us hc2 =>
  obtain ⟨fs, hs, hck⟩ := checkS (w := w) hc2 hh.1
  have hzr := hz.zero (w := w)
  split <;> try exact trivial
  obtain ⟨u1, hx, hc1⟩ := hx (by simp)
  cases hc1 with
  | @map b b' a N hp =>
  split <;> try exact trivial
  rename_i es cl hb
  obtain ⟨arr, hm, hM⟩ := r.mapAt hb hp
  rcases mFindS_eq (kt := mk) r hc2 _ _ _ 0 hM with he | ⟨j, v, n, ent, he, h5, h6, h7, h7', h8, h9, h10⟩ | ⟨he, hf⟩
  · rw [he]; exact trivial
  · rw [he]
    have hfk := findKey_S hs h10
    cases ok with
    | true =>
      refine QOk.pure (u := .tuple [ent.val, .bool true].toArray) (fun ρ hρ => ?_) (.tup (.cons h8 (.cons .bool .nil)))
      simp [execOp, hρ _ _ hx, hρ _ _ hy, Instr.lookup, run_underlying ht, run_getMap hm, hck, hfk]
    | false =>
      refine rV_q fun _ => ⟨ent.val, fun ρ hρ => ?_, h8⟩
      simp [execOp, hρ _ _ hx, hρ _ _ hy, Instr.lookup, run_underlying ht, run_getMap hm, hck, hfk]
  · rw [he]
    have hfk := findKey_S hs hf
    cases ok with
    | true =>
      refine QOk.pure (u := .tuple [z, .bool false].toArray) (fun ρ hρ => ?_) (.tup (.cons (hzc φ) (.cons .bool .nil)))
      simp [execOp, hρ _ _ hx, hρ _ _ hy, Instr.lookup, run_underlying ht, run_getMap hm, hck, hfk, hzr]
    | false =>
      simp only [cond_false, fV_eq]
      refine QOk.pure (u := z) (fun ρ hρ => ?_) (hzc φ)
      simp [execOp, hρ _ _ hx, hρ _ _ hy, Instr.lookup, run_underlying ht, run_getMap hm, hck, hfk, hzr]
theorem lkW_ok {ok : Bool} (r : Rel G φ h w) (hx : Kn φ e x v1) (hy : Kn φ e y v2) : QOk P φ h w e ⟨d, .lookup t x y ok, ty, pos, aft, g⟩ (lkW P h t v1 v2 ok) := by
  unfold lkW
  split
  · exact lkS_ok r hx hy
  · exact lkV_ok r hx hy
theorem meS_ok {l : List V} (r : Rel G φ h w) (hx : Kn φ e x v1) (hy : Kn φ e y (.agg l)) : ROk P G φ h w e ⟨d, .mapEntry t x y, ty, pos, aft, g⟩ (meS P h t v1 l) := by
  unfold meS
  split <;> try exact trivial
  rename_i mk el ht
  split <;> try exact trivial
  rename_i zv hzv
  refine cond_ok' fun hh => ?_
  simp only [Bool.and_eq_true] at hh
  obtain ⟨z, hz, hzc⟩ := tzv_of hzv hh.2
  obtain ⟨u2, hy, hc2⟩ := hy (by simp)
  cases hc2 with
  | @agg _ us hc2 =>
  obtain ⟨fs, hs, hck⟩ := checkS (w := w) hc2 hh.1
  have hzr := hz.zero (w := w)
  split <;> try exact trivial
  obtain ⟨u1, hx, hc1⟩ := hx (by simp)
  cases hc1 with
  | @map b b' a N hp =>
  split <;> try exact trivial
  rename_i es cl hb
  obtain ⟨arr, hm, hM⟩ := r.mapAt hb hp
  rcases mFindS_eq (kt := mk) r hc2 _ _ _ 0 hM with he | ⟨j, v, n, ent, he, ⟨k', h5⟩, h6, h7, h7', h8, h9, h10⟩ | ⟨he, hf⟩
  · rw [he]; exact trivial
  · rw [he]
    simp only [Nat.zero_add] at h10 ⊢
    rw [h5]
    simp only [fN_eq]
    have hfk := findKey_S hs h10
    rw [Array.getElem?_toList] at h6
    have hb1 : Instr.sameBits 10000 (.agg us.toArray) (.agg us.toArray) = true := by
      show Instr.sameBits (9999 + 1) (.agg us.toArray) (.agg us.toArray) = true
      simp only [Instr.sameBits, beq_self_eq_true, Bool.true_and]
      simpa using h7'
    have hMs : MR φ es (arr.modify j fun e => { e with key := .agg us.toArray }).toList := by
      have : (arr.modify j fun e => { e with key := .agg us.toArray }) = arr := by
        apply Array.ext_getElem?
        intro i
        rw [Array.getElem?_modify]
        split
        · rename_i hij
          subst hij
          rw [h6, ← h7]; rfl
        · rfl
      rw [this]; exact hM
    refine ⟨.tuple [ent.val, I (n : Int)].toArray, _, φ, fun ρ hρ => ?_, r.ext_put hb hp hm hMs, .tup (.cons h8 (.cons .int .nil))⟩
    simp [execOp, hρ _ _ hx, hρ _ _ hy, Instr.mapEntry, run_underlying ht, run_getMap hm, hck, hfk, h6, h7, Instr.keyThatStays, hb1, run_setMap hm, goInt, h9]
  · rw [he, fL_eq, fN_eq, hSet_eq]
    have hfk := findKey_S hs hf
    have hMs : MR φ (es ++ [(.agg l, zv, cl)]) (arr.push { key := .agg us.toArray, val := z, born := cl }).toList := by rw [Array.toList_push]; exact MR.push hM (n := cl) (.agg hc2) (hzc φ)
    refine ⟨.tuple [z, I (cl : Int)].toArray, _, φ, fun ρ hρ => ?_, r.putMap hb hp hm hMs, .tup (.cons (hzc φ) (.cons .int .nil))⟩
    simp [execOp, hρ _ _ hx, hρ _ _ hy, Instr.mapEntry, run_underlying ht, run_getMap hm, hck, hfk, hzr, run_setMap hm, goInt]
theorem meW_ok (r : Rel G φ h w) (hx : Kn φ e x v1) (hy : Kn φ e y v2) : ROk P G φ h w e ⟨d, .mapEntry t x y, ty, pos, aft, g⟩ (meW P h t v1 v2) := by
  unfold meW
  split
  · exact meS_ok r hx hy
  · exact meV_ok r hx hy
end
end Go.Proofs.YtkgiammeeckfbaaGreat
