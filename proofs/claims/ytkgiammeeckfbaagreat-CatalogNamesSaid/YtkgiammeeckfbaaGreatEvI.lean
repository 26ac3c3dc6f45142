/- The reckoner's maps and conversions. It is of no program. -/
import Derived.Test.YtkgiammeeckfbaaGreatEvH
namespace Go.Proofs.YtkgiammeeckfbaaGreat
open Go Go.RowKit
set_option linter.all false

section
variable {P : Program} {G : Nat} {φ : Ph} {h : H} {w : World} {e : Env} {d : Option Nat} {ty t t' : TypeId} {pos : String} {aft : Array Edge} {g : Option (Nat × Bool)} {x y : Operand} {v v1 v2 : V} {u u1 u2 : Value} {ρ : Operand → V}

/-! ### Keys -/
def KTd (td : TypeDesc) (k : V) : Prop := (∃ kk kd n, td = .int kk ∧ k = .int kd n) ∨ (td = .string ∧ ∃ n s, k = .str n s)
theorem keyOk_spec {kt : TypeId} {k : V} (h : keyOk P kt k = true) : ∃ td, P.underlying kt = some td ∧ KTd td k := by
  unfold keyOk at h
  split at h
  · rename_i kk kd n hu; exact ⟨_, hu, .inl ⟨kk, kd, n, rfl, rfl⟩⟩
  · rename_i n s hu; exact ⟨_, hu, .inr ⟨rfl, n, s, rfl⟩⟩
  · cases h
theorem strEq {n s m t : Nat} (hs : s < 256 ^ n) (ht : t < 256 ^ m) : (and (Nat.beq n m) (Nat.beq s t)) = decide (unp n s = unp m t) := by
  rw [Bool.eq_iff_iff]
  simp only [Bool.and_eq_true, Nat.beq_eq, decide_eq_true_eq]
  constructor
  · rintro ⟨rfl, rfl⟩; rfl
  · intro he
    have hl : n = m := by have := congrArg List.length he; simpa using this
    subst hl
    exact ⟨rfl, unp_inj n s t hs ht he⟩
theorem keyNow {td : TypeDesc} {a b : V} {ua ub : Value} {r : Bool} (hk : KTd td a) (ha : CV φ a ua) (hb : CV φ b ub) (he : keyEq a b = some r) : Instr.sameNow td ua ub = some r ∧ (r = true → a = b ∧ ua = ub) := by
  rcases hk with ⟨kk, kd, n, rfl, rfl⟩ | ⟨rfl, n, s, rfl⟩
  · cases ha
    cases hb <;> simp only [keyEq] at he <;> try cases he
    rename_i k' m
    cases hq : keq kd k' with
    | false => rw [hq] at he; cases he
    | true =>
      rw [hq] at he
      have := keq_eq.1 hq
      subst this
      simp only [cond_true, Option.some.injEq, ieq_eq] at he
      subst he
      have : (n == m) = decide (n = m) := by by_cases h : n = m <;> simp [h]
      refine ⟨by simp [Instr.sameNow, this], fun h => ?_⟩
      have h := of_decide_eq_true h
      subst h; exact ⟨rfl, rfl⟩
  · cases ha with
    | str hs =>
    cases hb <;> simp only [keyEq] at he <;> try cases he
    rename_i m t ht
    rw [strEq hs ht]
    refine ⟨by simp [Instr.sameNow, S, beqS], fun h => ?_⟩
    have h1 := of_decide_eq_true h
    have hl : n = m := by have := congrArg List.length h1; simpa using this
    subst hl
    have := unp_inj n s t hs ht h1
    subst this
    exact ⟨rfl, rfl⟩
theorem key_check {kt : TypeId} {td : TypeDesc} {k : V} (hu : P.underlying kt = some td) (hk : KTd td k) (hc : CV φ k u) (e : Bool) (n : Nat) : (Instr.checkKey e (n + 1) kt u).run P w = .ok () w := by
  rcases hk with ⟨kk, kd, n, rfl, rfl⟩ | ⟨rfl, n, s, rfl⟩
  · cases hc; simp [Instr.checkKey, run_underlying hu]
  · cases hc; simp [Instr.checkKey, run_underlying hu]
theorem key_bits {td : TypeDesc} {k : V} (hk : KTd td k) (hc : CV φ k u) : Instr.sameBits 10000 u u = true := by
  rcases hk with ⟨kk, kd, n, rfl, rfl⟩ | ⟨rfl, n, s, rfl⟩
  · cases hc; simp [Instr.sameBits]
  · cases hc; simp [Instr.sameBits, S, beqS]
theorem key_known {td : TypeDesc} {k : V} (hk : KTd td k) : k ≠ .und := by
  rcases hk with ⟨kk, kd, n, rfl, rfl⟩ | ⟨rfl, n, s, rfl⟩ <;> simp

theorem mFind_eq {β : Type} {td : TypeDesc} {k : V} (hk : KTd td k) (hc : CV φ k u) (yes : Nat → V → β) (no bad : β) : ∀ {es : List (V × V × Nat)} {ents : List MapEntry} (i : Nat), MR φ es ents →
    mFindI k es yes no bad i = bad ∨
    (∃ j v n e, mFindI k es yes no bad i = yes (i + j) v ∧ es[j]? = some (k, v, n) ∧ ents[j]? = some e ∧ e.key = u ∧ CV φ v e.val ∧ e.born = n ∧ Instr.findNow td u ents i = some (some (i + j, e.val))) ∨
    (mFindI k es yes no bad i = no ∧ Instr.findNow td u ents i = some none)
  | _, _, i, .nil => .inr (.inr ⟨rfl, rfl⟩)
  | _, _, i, .cons (k := a) (v := v) (n := n) (e := e) (l := l) (es := es) h1 h2 h3 hM => by
    have hstep : mFindI k ((a, v, n) :: l) yes no bad i = match keyEq k a with
      | some true => yes i v
      | some false => mFindI k l yes no bad (i + 1)
      | none => bad := rfl
    rw [hstep]
    cases hq : keyEq k a with
    | none => exact .inl rfl
    | some r =>
      obtain ⟨q1, q2⟩ := keyNow hk hc h1 hq
      cases r with
      | true =>
        obtain ⟨rfl, rfl⟩ := q2 rfl
        refine .inr (.inl ⟨0, v, n, e, rfl, rfl, rfl, rfl, h2, h3, ?_⟩)
        simp [Instr.findNow, q1]
      | false =>
        simp only [Instr.findNow, q1]
        rcases mFind_eq hk hc yes no bad (i + 1) hM with h4 | ⟨j, v', n', e', h4, h5, h6, h7, h8, h9, h10⟩ | ⟨h4, h5⟩
        · exact .inl h4
        · refine .inr (.inl ⟨j + 1, v', n', e', ?_, by simpa using h5, by simpa using h6, h7, h8, h9, ?_⟩)
          · rw [h4]; congr 1; omega
          · rw [h10]; congr 3; omega
        · exact .inr (.inr ⟨h4, h5⟩)

theorem MR.set {l : List (V × V × Nat)} {es : List MapEntry} (hM : MR φ l es) {j n : Nat} {k v0 v : V} {ku uv : Value} (hj : l[j]? = some (k, v0, n)) (hk : CV φ k ku) (hv : CV φ v uv) : MR φ (mSet l j v) (es.modify j fun e => { e with key := ku, val := uv }) := by
  induction hM generalizing j with
  | nil => simp at hj
  | cons h1 h2 h3 hM ih =>
    cases j with
    | zero =>
      simp at hj
      obtain ⟨rfl, rfl, rfl⟩ := hj
      simp only [mSet, List.modify_zero_cons]
      exact .cons hk hv h3 hM
    | succ j =>
      simp only [mSet, List.modify_succ_cons]
      exact .cons h1 h2 h3 (ih (by simpa using hj))
theorem MR.setv {l : List (V × V × Nat)} {es : List MapEntry} (hM : MR φ l es) {j : Nat} {v : V} {uv : Value} (hj : j < l.length) (hv : CV φ v uv) : MR φ (mSet l j v) (es.modify j fun e => { e with val := uv }) := by
  induction hM generalizing j with
  | nil => simp at hj
  | cons h1 h2 h3 hM ih =>
    cases j with
    | zero =>
      simp only [mSet, List.modify_zero_cons]
      exact .cons h1 hv h3 hM
    | succ j =>
      simp only [mSet, List.modify_succ_cons]
      exact .cons h1 h2 h3 (ih (by simpa using hj))
theorem MR.push {l : List (V × V × Nat)} {es : List MapEntry} (hM : MR φ l es) {n : Nat} {k v : V} {ku uv : Value} (hk : CV φ k ku) (hv : CV φ v uv) : MR φ (l ++ [(k, v, n)]) (es ++ [{ key := ku, val := uv, born := n }]) := by
  induction hM with
  | nil => exact .cons hk hv rfl .nil
  | cons h1 h2 h3 hM ih => exact .cons h1 h2 h3 ih
theorem MR.del {l : List (V × V × Nat)} {es : List MapEntry} (hM : MR φ l es) (j : Nat) : MR φ (mDel l j) (es.eraseIdx j) := by
  induction hM generalizing j with
  | nil => exact .nil
  | cons h1 h2 h3 hM ih =>
    cases j with
    | zero => simpa [mDel] using hM
    | succ j => simpa [mDel] using MR.cons h1 h2 h3 (ih j)

theorem tzv_of {zv : V} {el : TypeId} (h : tzv P el = some zv) (ho : ones (cellsOf zv) = true) : ∃ z, TI P el z (tsz P el) (tbytes P el) ∧ ∀ φ, CV φ zv z := by
  unfold tzv at h
  cases hi : P.info? el with
  | none => rw [hi] at h; cases h
  | some i =>
    rw [hi] at h
    simp only at h
    cases hz : i.zero with
    | none => rw [hz] at h; cases h
    | some z =>
      rw [hz] at h
      simp at h
      refine ⟨z, ⟨i, hi, hz, by simp [tsz, hi], by simp [tbytes, hi]⟩, fun φ => ?_⟩
      subst h
      unfold zV at ho ⊢
      split at ho
      · exact .agg (cvs_ofV ho)
      · refine cv_ofV fun e => ?_
        rw [e] at ho; cases ho
noncomputable def uGet (k : V) (l : List (V × V)) : Option (Option V) := uFindI k l (fun v => some (some v)) (some none) none
theorem uGet_cons (k : V) (x : V × V) (l : List (V × V)) : uGet k (x :: l) = match keyEq k x.1 with
  | some true => some (some x.2)
  | some false => uGet k l
  | none => none := rfl
theorem uFind_get {β : Type} (k : V) (yes : V → β) (no bad : β) : ∀ (l : List (V × V)), uFindI k l yes no bad = (match uGet k l with
    | none => bad
    | some none => no
    | some (some v) => yes v)
  | [] => rfl
  | x :: l => by
    have hstep : uFindI k (x :: l) yes no bad = match keyEq k x.1 with
      | some true => yes x.2
      | some false => uFindI k l yes no bad
      | none => bad := rfl
    rw [hstep, uGet_cons]
    cases keyEq k x.1 with
    | none => rfl
    | some b =>
      cases b with
      | true => rfl
      | false => exact uFind_get k yes no bad l
theorem mFind_get (k : V) : ∀ (l : List (V × V × Nat)) (i : Nat), mFindI k l (fun _ v => some (some v)) (some none) none i = uGet k (l.map fun e => (e.1, e.2.1))
  | [], _ => rfl
  | x :: l, i => by
    have hstep : mFindI k (x :: l) (fun _ v => some (some v)) (some none) none i = match keyEq k x.1 with
      | some true => some (some x.2.1)
      | some false => mFindI k l (fun _ v => some (some v)) (some none) none (i + 1)
      | none => none := rfl
    rw [hstep, List.map_cons, uGet_cons]
    cases keyEq k x.1 with
    | none => rfl
    | some b =>
      cases b with
      | true => rfl
      | false => exact mFind_get k l (i + 1)
theorem uGet_perm {k : V} {kk : IntKind} {l m : List (V × V)} (h : l.Perm m) : (∀ e ∈ l, ∃ n, e.1 = .int kk n) → l.Pairwise (fun a b => a.1 ≠ b.1) → uGet k l = uGet k m := by
  induction h with
  | nil => intro _ _; rfl
  | cons x h ih =>
    intro h1 h2
    rw [uGet_cons, uGet_cons, ih (fun e he => h1 e (List.mem_cons_of_mem _ he)) (List.pairwise_cons.1 h2).2]
  | swap x y l =>
    intro h1 h2
    obtain ⟨nx, hx⟩ := h1 x (by simp)
    obtain ⟨ny, hy⟩ := h1 y (by simp)
    have hne : y.1 ≠ x.1 := (List.pairwise_cons.1 h2).1 x (by simp)
    simp only [uGet_cons, hx, hy]
    rw [hx, hy] at hne
    cases k with
    | int k' n =>
      simp only [keyEq]
      cases hq : keq k' kk with
      | false => rfl
      | true =>
        simp only [cond_true, ieq_eq]
        by_cases e1 : n = nx
        · by_cases e2 : n = ny
          · exact absurd (by rw [← e1, ← e2]) hne
          · simp [e1, e2]
            rw [← e1]; simp [e2]
        · by_cases e2 : n = ny
          · simp [e2]
            rw [← e2]; simp [e1]
          · simp [e1, e2]
    | _ => rfl
  | trans h1 h2 ih1 ih2 =>
    intro k1 k2
    rw [ih1 k1 k2, ih2 (fun e he => k1 e (h1.mem_iff.2 he)) ((h1.pairwise_iff fun h => Ne.symm h).1 k2)]
theorem uFind_eq {β : Type} {td : TypeDesc} {k : V} {u : Value} (hk : KTd td k) (hc : CV φ k u) (yes : V → β) (no bad : β) {es : List (V × V)} {arr : List MapEntry} (hU : UR φ es arr) :
    uFindI k es yes no bad = bad ∨ (∃ j v e, uFindI k es yes no bad = yes v ∧ arr[j]? = some e ∧ CV φ v e.val ∧ Instr.findNow td u arr 0 = some (some (j, e.val))) ∨ (uFindI k es yes no bad = no ∧ Instr.findNow td u arr 0 = some none) := by
  obtain ⟨es', hM, hp, ⟨kk, hkk⟩, hd⟩ := hU
  have e1 : uGet k es = mFindI k es' (fun _ v => some (some v)) (some none) none 0 := by
    rw [mFind_get]
    exact (uGet_perm hp (fun e he => hkk e (hp.mem_iff.1 he)) ((hp.pairwise_iff fun h => Ne.symm h).2 hd)).symm
  rw [uFind_get, e1]
  rcases mFind_eq hk hc (fun _ v => some (some v)) (some none) none 0 hM with h4 | ⟨j, v, n, e, h4, h5, h6, h7, h8, h9, h10⟩ | ⟨h4, h5⟩
  · rw [h4]; exact .inl rfl
  · rw [h4]; exact .inr (.inl ⟨j, v, e, rfl, h6, h8, by simpa using h10⟩)
  · rw [h4]; exact .inr (.inr ⟨rfl, h5⟩)
theorem Rel.mapAt (r : Rel G φ h w) {b cl : Nat} {es : List (V × V × Nat)} (hb : hGet h b = some (.map es cl)) {p : Nat × Nat × Nat} (hp : φ b = some p) : ∃ arr : Array MapEntry, w.heap[p.1]? = some (.map arr cl) ∧ MR φ es arr.toList := by
  obtain ⟨q, hq, hbr⟩ := r.blk _ _ hb
  rw [hp] at hq; cases hq
  exact hbr
theorem run_getMap {b : Nat} {arr : Array MapEntry} {cl : Nat} (h : w.heap[b]? = some (.map arr cl)) : (getObj b).run P w = .ok (.map arr cl) w := by simp [getObj, Sem.run, h]
theorem run_setMap {b : Nat} {arr : Array MapEntry} {cl : Nat} (h : w.heap[b]? = some (.map arr cl)) (o : Obj) : (setObj b o).run P w = .ok () (w.putObj b o) := by simp [setObj, Sem.run, h, World.putObj]
/-- A map is written. -/
theorem Rel.putMap (r : Rel G φ h w) {b cl : Nat} {es : List (V × V × Nat)} (hb : hGet h b = some (.map es cl)) {p : Nat × Nat × Nat} (hp : φ b = some p) {arr : Array MapEntry} (hm : w.heap[p.1]? = some (.map arr cl))
    {es' : List (V × V × Nat)} {cl' : Nat} {arr' : Array MapEntry} (hM : MR φ es' arr'.toList) : Post G φ h w φ ⟨trPut HD b h.t (some (.map es' cl')), h.next⟩ (w.putObj p.1 (.map arr' cl')) :=
  r.upd hb rfl hp (kp_putObj w p.1 _) ⟨arr', World.putObj_heap_same (lt_of_heap hm), hM⟩

/-- A map is written with what it holds. -/
theorem Rel.ext_put (r : Rel G φ h w) {b cl : Nat} {es : List (V × V × Nat)} (hb : hGet h b = some (.map es cl)) {p : Nat × Nat × Nat} (hp : φ b = some p) {arr arr' : Array MapEntry} (hm : w.heap[p.1]? = some (.map arr cl))
    (hM : MR φ es arr'.toList) : Post G φ h w φ h (w.putObj p.1 (.map arr' cl)) := by
  refine ⟨Sb.refl φ, ⟨r.inj, fun c y hc => ?_, r.fresh, r.glob⟩, (kp_putObj w p.1 _).mono' fun i hi => ⟨b, _, p, hb, rfl, hp, hi.symm⟩, fun _ h => .inl h, Hp.refl φ h⟩
  by_cases h1 : c = b
  · subst h1
    rw [hb] at hc; cases hc
    exact ⟨p, hp, arr', World.putObj_heap_same (lt_of_heap hm), hM⟩
  · obtain ⟨q, hq, hbr⟩ := r.blk _ _ hc
    refine ⟨q, hq, hbr.kp (Sb.refl φ) (kp_putObj w p.1 _) fun e => h1 ?_⟩
    exact r.inj _ _ _ _ _ _ hc hb hq hp e
theorem lkV_ok {ok : Bool} (r : Rel G φ h w) (hx : Kn φ e x v1) (hy : Kn φ e y v2) : QOk P φ h w e ⟨d, .lookup t x y ok, ty, pos, aft, g⟩ (lkV P h t v1 v2 ok) := by
  unfold lkV
  split <;> try exact trivial
  rename_i kt el ht
  split <;> try exact trivial
  rename_i zv hzv
  refine cond_q' fun hh => ?_
  simp only [Bool.and_eq_true] at hh
  obtain ⟨td, hu, hk⟩ := keyOk_spec hh.1
  obtain ⟨z, hz, hzc⟩ := tzv_of hzv hh.2
  obtain ⟨u2, hy, hc2⟩ := hy (key_known hk)
  have hck := fun b => key_check (P := P) (w := w) hu hk hc2 b 9999
  have hzr := hz.zero (w := w)
  -- the answer when there is no such entry
  have hno : ∀ (m : Option Nat) (arr : Array MapEntry), look e x = some (.map m) → ((m = none ∧ arr = #[]) ∨ ∃ b cl, m = some b ∧ w.heap[b]? = some (.map arr cl)) → Instr.findNow td u2 arr.toList 0 = some none →
      QOk P φ h w e ⟨d, .lookup t x y ok, ty, pos, aft, g⟩ (cond ok (.v (.tup [zv, .bool false]) h) (fV zv fun v => .v v h)) := fun m arr hx hm hf => by
    have hfk : (Instr.findKey kt u2 arr.toList).run P w = .ok none w := by simp [Instr.findKey, run_underlying hu, hf]
    cases ok with
    | true =>
      refine QOk.pure (u := .tuple [z, .bool false].toArray) (fun ρ hρ => ?_) (.tup (.cons (hzc φ) (.cons .bool .nil)))
      rcases hm with ⟨rfl, rfl⟩ | ⟨b, cl, rfl, hm⟩
      · simp [execOp, hρ _ _ hx, hρ _ _ hy, Instr.lookup, run_underlying ht, hck, hzr]
        simp at hfk
        simp [hfk, hzr]
      · simp [execOp, hρ _ _ hx, hρ _ _ hy, Instr.lookup, run_underlying ht, run_getMap hm, hck, hfk, hzr]
    | false =>
      simp only [cond_false, fV_eq]
      refine QOk.pure (u := z) (fun ρ hρ => ?_) (hzc φ)
      rcases hm with ⟨rfl, rfl⟩ | ⟨b, cl, rfl, hm⟩
      · simp [execOp, hρ _ _ hx, hρ _ _ hy, Instr.lookup, run_underlying ht, hck, hzr]
        simp at hfk
        simp [hfk, hzr]
      · simp [execOp, hρ _ _ hx, hρ _ _ hy, Instr.lookup, run_underlying ht, run_getMap hm, hck, hfk, hzr]
  split <;> try exact trivial
  · obtain ⟨u1, hx, hc1⟩ := hx (by simp)
    cases hc1
    exact hno none #[] hx (.inl ⟨rfl, rfl⟩) rfl
  · obtain ⟨u1, hx, hc1⟩ := hx (by simp)
    cases hc1 with
    | @map b b' a N hp =>
    split <;> try exact trivial
    · rename_i es cl hb
      obtain ⟨arr, hm, hM⟩ := r.mapAt hb hp
      rcases mFind_eq hk hc2 _ _ _ 0 hM with he | ⟨j, v, n, ent, he, h5, h6, h7, h8, h9, h10⟩ | ⟨he, hf⟩
      · rw [he]; exact trivial
      · rw [he]
        have hfk : (Instr.findKey kt u2 arr.toList).run P w = .ok (some (0 + j, ent.val)) w := by simp [Instr.findKey, run_underlying hu, h10]
        cases ok with
        | true =>
          refine QOk.pure (u := .tuple [ent.val, .bool true].toArray) (fun ρ hρ => ?_) (.tup (.cons h8 (.cons .bool .nil)))
          simp [execOp, hρ _ _ hx, hρ _ _ hy, Instr.lookup, run_underlying ht, run_getMap hm, hck, hfk]
        | false =>
          refine rV_q fun _ => ⟨ent.val, fun ρ hρ => ?_, h8⟩
          simp [execOp, hρ _ _ hx, hρ _ _ hy, Instr.lookup, run_underlying ht, run_getMap hm, hck, hfk]
      · rw [he]
        exact hno _ arr hx (.inr ⟨b', cl, rfl, hm⟩) hf
    · rename_i es hb
      obtain ⟨q, hq, arr, cl, hm, hU⟩ := r.blk _ _ hb
      rw [hp] at hq; cases hq
      rcases uFind_eq hk hc2 _ _ _ hU with he | ⟨j, v, ent, he, h6, h8, h10⟩ | ⟨he, hf⟩
      · rw [he]; exact trivial
      · rw [he]
        have hfk : (Instr.findKey kt u2 arr.toList).run P w = .ok (some (j, ent.val)) w := by simp [Instr.findKey, run_underlying hu, h10]
        cases ok with
        | true =>
          refine QOk.pure (u := .tuple [ent.val, .bool true].toArray) (fun ρ hρ => ?_) (.tup (.cons h8 (.cons .bool .nil)))
          simp [execOp, hρ _ _ hx, hρ _ _ hy, Instr.lookup, run_underlying ht, run_getMap hm, hck, hfk]
        | false =>
          refine rV_q fun _ => ⟨ent.val, fun ρ hρ => ?_, h8⟩
          simp [execOp, hρ _ _ hx, hρ _ _ hy, Instr.lookup, run_underlying ht, run_getMap hm, hck, hfk]
      · rw [he]
        exact hno _ arr hx (.inr ⟨b', cl, rfl, hm⟩) hf

/-- What a store into a map asks. -/
def MuZ (P : Program) (e : Env) (o : Oper) (t : TypeId) (x y z : Operand) : Prop := ∀ ρ, (execOp ρ o) = (do Instr.mapUpdate t (ρ x) (ρ y) (ρ z); pure .skip)
theorem muV_ok {z : Operand} {o : Oper} {v3 : V} (ho : MuZ P e o t x y z) (r : Rel G φ h w) (hx : Kn φ e x v1) (hy : Kn φ e y v2) (hz : Kn φ e z v3) : ROk P G φ h w e o (muV P h t v1 v2 v3) := by
  unfold muV
  split <;> try exact trivial
  rename_i kt el ht
  refine cond_ok' fun hh => ?_
  obtain ⟨td, hu, hk⟩ := keyOk_spec hh
  obtain ⟨u2, hy, hc2⟩ := hy (key_known hk)
  have hck := fun b => key_check (P := P) (w := w) hu hk hc2 b 9999
  split <;> try exact trivial
  obtain ⟨u1, hx, hc1⟩ := hx (by simp)
  cases hc1 with
  | @map b b' a N hp =>
  split <;> try exact trivial
  rename_i hnu
  obtain ⟨u3, hz, hc3⟩ := hz hnu
  split <;> try exact trivial
  rename_i es cl hb
  obtain ⟨arr, hm, hM⟩ := r.mapAt hb hp
  rcases mFind_eq hk hc2 _ _ _ 0 hM with he | ⟨j, v, n, ent, he, h5, h6, h7, h8, h9, h10⟩ | ⟨he, hf⟩
  · rw [he]; exact trivial
  · rw [he, fL_eq, hSet_eq]
    have hfk : (Instr.findKey kt u2 arr.toList).run P w = .ok (some (0 + j, ent.val)) w := by simp [Instr.findKey, run_underlying hu, h10]
    simp only [Nat.zero_add] at hfk ⊢
    have hMs := MR.set hM h5 hc2 hc3
    rw [← Array.toList_modify] at hMs
    refine ⟨_, φ, fun ρ hρ => ?_, r.putMap hb hp hm hMs⟩
    rw [Array.getElem?_toList] at h6
    have hb1 := key_bits hk hc2
    rw [ho]
    simp [hρ _ _ hx, hρ _ _ hy, hρ _ _ hz, Instr.mapUpdate, run_underlying ht, run_getMap hm, hck, hfk, h6, h7, Instr.keyThatStays, hb1, run_setMap hm]
  · rw [he, fL_eq, fN_eq, hSet_eq]
    have hfk : (Instr.findKey kt u2 arr.toList).run P w = .ok none w := by simp [Instr.findKey, run_underlying hu, hf]
    have hMs : MR φ (es ++ [(v2, v3, cl)]) (arr.push { key := u2, val := u3, born := cl }).toList := by rw [Array.toList_push]; exact MR.push hM (n := cl) hc2 hc3
    refine ⟨_, φ, fun ρ hρ => ?_, r.putMap hb hp hm hMs⟩
    rw [ho]
    simp [hρ _ _ hx, hρ _ _ hy, hρ _ _ hz, Instr.mapUpdate, run_underlying ht, run_getMap hm, hck, hfk, run_setMap hm]
theorem meV_ok (r : Rel G φ h w) (hx : Kn φ e x v1) (hy : Kn φ e y v2) : ROk P G φ h w e ⟨d, .mapEntry t x y, ty, pos, aft, g⟩ (meV P h t v1 v2) := by
  unfold meV
  split <;> try exact trivial
  rename_i kt el ht
  split <;> try exact trivial
  rename_i zv hzv
  refine cond_ok' fun hh => ?_
  simp only [Bool.and_eq_true] at hh
  obtain ⟨td, hu, hk⟩ := keyOk_spec hh.1
  obtain ⟨z, hz, hzc⟩ := tzv_of hzv hh.2
  obtain ⟨u2, hy, hc2⟩ := hy (key_known hk)
  have hck := fun b => key_check (P := P) (w := w) hu hk hc2 b 9999
  have hzr := hz.zero (w := w)
  split <;> try exact trivial
  obtain ⟨u1, hx, hc1⟩ := hx (by simp)
  cases hc1 with
  | @map b b' a N hp =>
  split <;> try exact trivial
  rename_i es cl hb
  obtain ⟨arr, hm, hM⟩ := r.mapAt hb hp
  rcases mFind_eq hk hc2 _ _ _ 0 hM with he | ⟨j, v, n, ent, he, h5, h6, h7, h8, h9, h10⟩ | ⟨he, hf⟩
  · rw [he]; exact trivial
  · rw [he]
    simp only [Nat.zero_add] at h10 ⊢
    rw [h5]
    simp only [fN_eq]
    have hfk : (Instr.findKey kt u2 arr.toList).run P w = .ok (some (j, ent.val)) w := by simp [Instr.findKey, run_underlying hu, h10]
    rw [Array.getElem?_toList] at h6
    have hb1 := key_bits hk hc2
    have hMs : MR φ es (arr.modify j fun e => { e with key := u2 }).toList := by
      have : (arr.modify j fun e => { e with key := u2 }) = arr := by
        apply Array.ext_getElem?
        intro i
        rw [Array.getElem?_modify]
        split
        · rename_i hij
          subst hij
          rw [h6, ← h7]; rfl
        · rfl
      rw [this]; exact hM
    refine ⟨.tuple [ent.val, I (n : Int)].toArray, _, φ, fun ρ hρ => ?_, r.ext_put hb hp hm hMs, .tup (.cons h8 (.cons .int .nil))⟩
    simp [execOp, hρ _ _ hx, hρ _ _ hy, Instr.mapEntry, run_underlying ht, run_getMap hm, hck, hfk, h6, h7, Instr.keyThatStays, hb1, run_setMap hm, goInt, h9]
  · rw [he, fL_eq, fN_eq, hSet_eq]
    have hfk : (Instr.findKey kt u2 arr.toList).run P w = .ok none w := by simp [Instr.findKey, run_underlying hu, hf]
    have hMs : MR φ (es ++ [(v2, zv, cl)]) (arr.push { key := u2, val := z, born := cl }).toList := by rw [Array.toList_push]; exact MR.push hM (n := cl) hc2 (hzc φ)
    refine ⟨.tuple [z, I (cl : Int)].toArray, _, φ, fun ρ hρ => ?_, r.putMap hb hp hm hMs, .tup (.cons (hzc φ) (.cons .int .nil))⟩
    simp [execOp, hρ _ _ hx, hρ _ _ hy, Instr.mapEntry, run_underlying ht, run_getMap hm, hck, hfk, hzr, run_setMap hm, goInt]
theorem mBorn_spec {n : Nat} : ∀ {es : List (V × V × Nat)} {ents : List MapEntry} {i : Nat}, MR φ es ents → mBorn es n = some i → i < es.length ∧ ents.findIdx? (fun e => (e.born : Int) == (n : Int)) = some i
  | _, _, _, .nil, h => by simp [mBorn] at h
  | _, _, i, .cons (n := b) (e := e) h1 h2 h3 hM, h => by
    simp only [mBorn, List.findIdx?_cons] at h ⊢
    have hq : ((e.born : Int) == (n : Int)) = Nat.beq b n := by
      rw [h3, Bool.eq_iff_iff]; simp; omega
    rw [hq]
    cases hb : Nat.beq b n with
    | true =>
      rw [hb] at h
      simp at h
      subst h; simp
    | false =>
      rw [hb] at h
      simp only [Bool.false_eq_true, if_false, Option.map_eq_some_iff] at h ⊢
      obtain ⟨j, hj, rfl⟩ := h
      obtain ⟨q1, q2⟩ := mBorn_spec hM hj
      exact ⟨by simp; omega, j, q2, rfl⟩
theorem esV_ok {z : Operand} {v3 : V} (r : Rel G φ h w) (hx : Kn φ e x v1) (hy : Kn φ e y v2) (hz : Kn φ e z v3) : ROk P G φ h w e ⟨d, .entryStore t x y z, ty, pos, aft, g⟩ (esV h v1 v2 v3) := by
  unfold esV
  split <;> try exact trivial
  rename_i b kk n
  obtain ⟨u1, hx, hc1⟩ := hx (by simp)
  obtain ⟨u2, hy, hc2⟩ := hy (by simp)
  cases hc2
  cases hc1 with
  | @map _ b' a N hp =>
  rw [nat?_eq]
  split <;> try exact trivial
  rename_i hn
  obtain ⟨n, rfl⟩ : ∃ m : Nat, n = m := ⟨n.toNat, (Int.toNat_of_nonneg hn).symm⟩
  simp only [Int.toNat_natCast]
  split <;> try exact trivial
  rename_i hnu
  obtain ⟨u3, hz, hc3⟩ := hz hnu
  split <;> try exact trivial
  rename_i es cl hb
  obtain ⟨arr, hm, hM⟩ := r.mapAt hb hp
  split <;> try exact trivial
  rename_i i hi
  rw [fL_eq, hSet_eq]
  obtain ⟨q1, q2⟩ := mBorn_spec hM hi
  have hMs := MR.setv hM q1 hc3
  rw [← Array.toList_modify] at hMs
  refine ⟨_, φ, fun ρ hρ => ?_, r.putMap hb hp hm hMs⟩
  have q3 : arr.findIdx? (fun e => (e.born : Int) == (n : Int)) = some i := by rw [← Array.toArray_toList (xs := arr), List.findIdx?_toArray]; exact q2
  simp [execOp, hρ _ _ hx, hρ _ _ hy, hρ _ _ hz, Instr.entryStore, asInt, asIntOf, run_getMap hm, q3, run_setMap hm]
theorem delV_ok (r : Rel G φ h w) (hc1 : CV φ v1 u1) (hc2 : CV φ v2 u2) : BOk P G φ h w (Builtin.delete_ #[t, t'] ty #[u1, u2]) (delV P h t v1 v2) := by
  unfold delV
  split <;> try exact trivial
  rename_i kt el ht
  refine BOk.cnd' fun hh => ?_
  obtain ⟨td, hu, hk⟩ := keyOk_spec hh
  have hck := fun b => key_check (P := P) (w := w) hu hk hc2 b 9999
  split <;> try exact trivial
  · cases hc1
    exact BOk.pure r (u := .tuple [].toArray) (by simp [Builtin.delete_, run_underlying ht, hck]) (.tup .nil)
  · cases hc1 with
    | @map b b' a N hp =>
    split <;> try exact trivial
    rename_i es cl hb
    obtain ⟨arr, hm, hM⟩ := r.mapAt hb hp
    rcases mFind_eq hk hc2 _ _ _ 0 hM with he | ⟨j, v, n, ent, he, h5, h6, h7, h8, h9, h10⟩ | ⟨he, hf⟩
    · rw [he]; exact trivial
    · rw [he, fL_eq, hSet_eq]
      simp only [Nat.zero_add] at h10 ⊢
      have hfk : (Instr.findKey kt u2 arr.toList).run P w = .ok (some (j, ent.val)) w := by simp [Instr.findKey, run_underlying hu, h10]
      have hMs := MR.del hM j
      rw [← Array.toList_eraseIdxIfInBounds] at hMs
      refine ⟨.tuple [].toArray, _, φ, ?_, r.putMap hb hp hm hMs, .tup .nil⟩
      simp [Builtin.delete_, run_underlying ht, run_getMap hm, hck, hfk, run_setMap hm]
    · rw [he]
      have hfk : (Instr.findKey kt u2 arr.toList).run P w = .ok none w := by simp [Instr.findKey, run_underlying hu, hf]
      refine ⟨.tuple [].toArray, _, φ, ?_, r.ext_put hb hp hm hM, .tup .nil⟩
      simp [Builtin.delete_, run_underlying ht, run_getMap hm, hck, hfk, run_setMap hm]
theorem clearV_ok (r : Rel G φ h w) (hc : CV φ v u) : BOk P G φ h w (Builtin.clear_ #[t] ty #[u]) (clearV P h t v) := by
  unfold clearV
  split <;> try exact trivial
  · rename_i el ht
    split <;> try exact trivial
    · cases hc
      exact BOk.pure r (u := .tuple [].toArray) (by simp [Builtin.clear_, run_underlying ht]) (.tup .nil)
    · cases hc
      exact BOk.pure r (u := .tuple [].toArray) (by simp [Builtin.clear_, run_underlying ht]) (.tup .nil)
    · rename_i b o len kc es op
      cases hc with
      | @sl _ _ _ _ _ _ b' a N c' hp q1 q2 q3 q4 =>
      split <;> try exact trivial
      rename_i z hz
      split <;> try exact trivial
      rename_i n0 d0 t0 ty0 st0 hb0
      obtain ⟨hN0, us, T, fz, hB, hlen, hT, hst⟩ := r.cells hb0 hp
      simp only at hN0 hB hlen hT
      refine BOk.cnd (fun hh => ?_) fun _ => BOk.cnd' fun h0 => ?_
      · simp only [Bool.and_eq_true] at hh
        obtain ⟨⟨hes, ho⟩, hfit, h0⟩ := hh
        have hes := Nat.eq_of_beq_eq_true hes
        have hfit : o + len * es ≤ n0 := Nat.le_of_ble_eq_true hfit
        have h0 : 0 < len := by simpa using h0
        obtain ⟨zv, hzt, rfl⟩ := ti_of hz
        have hzr := hzt.zero (w := w)
        have hzc := cvs_zero (φ := φ) ho
        have hrc := repl_cvs hzc len
        have hnl : ((List.replicate len zv.cells.toList).flatten).length = len * es := by rw [hrc.len, repl_len, hes]
        have hro : ∀ u ∈ (List.replicate len zv.cells.toList).flatten, u.oneCell' = true := fun u hu => by
          obtain ⟨l, hl, hu⟩ := List.mem_flatten.1 hu
          rw [List.eq_of_mem_replicate hl] at hu
          exact cvs_one' hzc ho u hu
        rw [wrK_eq, hSet_eq]
        obtain ⟨w', hr, hB', hk⟩ := run_storeCells_blkF (P := P) (a + o) _ 0 us w hB (by rw [hnl]; omega) hro
        simp only [Nat.add_zero] at hB'
        have hw := hT.wr hrc (o := o) (by rw [← hrc.len, hnl]; omega) (by omega)
        refine ⟨.tuple [].toArray, w', φ, ?_, r.upd hb0 rfl hp hk ⟨hN0, _, T, fz, hB', by rw [splice_len _ _ _ (by rw [hnl]; omega)]; exact hlen, hw, hst⟩, .tup .nil⟩
        obtain ⟨m, rfl⟩ : ∃ m, len = m + 1 := ⟨len - 1, by omega⟩
        have hcell : (Builtin.zeroCells zv.cells (m + 1)).toList = (List.replicate (m + 1) zv.cells.toList).flatten := by
          unfold Builtin.zeroCells
          rw [range_rep]
        simp only [Builtin.clear_, Sem.run_bind, run_underlying ht, Result.andThen_ok, List.getElem?_toArray, List.getElem?_cons_zero, hzr, hcell, hr, Sem.run_pure]
      · have h0 := Nat.eq_of_beq_eq_true h0
        subst h0
        exact BOk.pure r (u := .tuple [].toArray) (by simp [Builtin.clear_, run_underlying ht]) (.tup .nil)
  · rename_i kt el ht
    split <;> try exact trivial
    · cases hc
      exact BOk.pure r (u := .tuple [].toArray) (by simp [Builtin.clear_, run_underlying ht]) (.tup .nil)
    · cases hc with
      | @map b b' a N hp =>
      split <;> try exact trivial
      rename_i es cl hb
      obtain ⟨arr, hm, hM⟩ := r.mapAt hb hp
      rw [hSet_eq]
      refine ⟨.tuple [].toArray, _, φ, ?_, r.putMap (arr' := #[]) hb hp hm .nil, .tup .nil⟩
      simp [Builtin.clear_, run_underlying ht, run_getMap hm, run_setMap hm]
end
end Go.Proofs.YtkgiammeeckfbaaGreat
