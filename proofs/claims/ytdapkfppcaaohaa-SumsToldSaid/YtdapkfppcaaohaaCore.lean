/- A small calculus for walking Go functions: the frame is kept as a list of the slots that are known, what is still to do as a stack. It is of no program. -/
import Derived.WalkKit
import Derived.WalkSpells
import Derived.WalkLawsBesides
import Derived.OrdersHeld
namespace Go.Proofs.Ytdapkfppcaaohaa
open Go Go.RowKit

abbrev Env := List (Nat × Value)

/-- What a slot is known to hold. -/
def fnd : Env → Nat → Option Value
  | [], _ => none
  | (j, v) :: r, i => match Nat.beq i j with
    | true => some v
    | false => fnd r i

def look (e : Env) : Operand → Option Value
  | .tmp t => fnd e t
  | .const v => some v
  | .global g => some (.pointer (some ⟨g, 0, none⟩))
  | .func f => some (.func (.func f) #[] #[])

structure EOk (n : Nat) (e : Env) (a : Act) : Prop where
  size : a.tmps.size = n
  defers : a.defers = []
  get : ∀ i v, fnd e i = some v → a.tmps.getD i undef = v

theorem EOk.look {n : Nat} {e : Env} {a : Act} (h : EOk n e a) {x : Operand} {v : Value} (hx : look e x = some v) : a.eval x = v := by
  cases x with
  | tmp t => exact h.get t v hx
  | const u => exact Option.some.inj hx
  | global g => exact Option.some.inj hx
  | func f => exact Option.some.inj hx

theorem EOk.put {n : Nat} {e : Env} {a : Act} (h : EOk n e a) {d : Nat} (hd : Nat.blt d n = true) (v : Value) : EOk n ((d, v) :: e) (a.put (some d) v) := by
  have hd' : d < n := by simpa using hd
  refine ⟨by simp [Act.put, h.size], by simpa [Act.put] using h.defers, fun i u hi => ?_⟩
  simp only [Act.put]
  simp only [fnd] at hi
  by_cases hij : i = d
  · subst hij
    simp at hi
    subst hi
    simp [Array.getD, h.size, hd']
  · have hb : Nat.beq i d = false := by
      cases hq : Nat.beq i d with
      | false => rfl
      | true => exact absurd (Nat.eq_of_beq_eq_true hq) hij
    rw [hb] at hi
    have hg := h.get i u hi
    rw [← hg]
    simp only [Array.getD, Array.size_setIfInBounds]
    split
    · rename_i hlt
      simp only [Array.getInternal_eq_getElem]
      rw [Array.getElem_setIfInBounds_ne]
      exact fun hh => hij hh.symm
    · rfl

theorem EOk.put0 {n : Nat} {e : Env} {a : Act} (h : EOk n e a) (v : Value) : EOk n e (a.put none v) := h

def Sub (e e' : Env) : Prop := ∀ i v, fnd e i = some v → fnd e' i = some v

theorem Sub.nil {e : Env} : Sub [] e := fun _ _ h => by simp [fnd] at h
theorem Sub.cons {e e' : Env} {i : Nat} {v : Value} (h : fnd e' i = some v) (hr : Sub e e') : Sub ((i, v) :: e) e' := fun j u hj => by
  simp only [fnd] at hj
  split at hj
  · rename_i hb
    have := Nat.eq_of_beq_eq_true hb
    subst this
    simp at hj
    subst hj
    exact h
  · exact hr j u hj
theorem Sub.refl (e : Env) : Sub e e := fun _ _ h => h
theorem EOk.sub {n : Nat} {e e' : Env} {a : Act} (h : EOk n e' a) (hs : Sub e e') : EOk n e a := ⟨h.size, h.defers, fun i v hi => h.get i v (hs i v hi)⟩

/-- From here on, whoever called, the function comes to an ending of which 'R' holds. -/
def RunA (P : Program) (f : FuncId) (R : Ending → World → Prop) (k : List Item) (a : Act) (w : World) : Prop :=
  ∀ (b : Frame), b.fn = f → b.kind = .normal → ∀ cs, ∃ x w' fr, R x w' ∧ Comes P (lone (b.at a k) cs w) (lone fr cs w') x ∧ fr.fn = f ∧ fr.leaving P w' x

structure Cx where
  P : Program
  f : FuncId
  R : Ending → World → Prop
  n : Nat

def Run (C : Cx) (k : List Item) (e : Env) (w : World) : Prop := ∀ a, EOk C.n e a → RunA C.P C.f C.R k a w

theorem Run.sub {C : Cx} {k : List Item} {e e' : Env} {w : World} (h : Run C k e w) (hs : Sub e e') : Run C k e' w := fun a ha => h a (ha.sub hs)

theorem RunA.step {P : Program} {f : FuncId} {R : Ending → World → Prop} {k k' : List Item} {a a' : Act} {w w' : World}
    (hs : ∀ (b : Frame) cs, step P (lone (b.at a k) cs w) = .next (lone (b.at a' k') cs w')) (h : RunA P f R k' a' w') : RunA P f R k a w := fun b hb hk cs =>
  let ⟨x, w₁, fr, hR, hc, hf, hl⟩ := h b hb hk cs
  ⟨x, w₁, fr, hR, Comes.of_steps (.one (hs b cs)) hc, hf, hl⟩

section
variable {C : Cx} {k k' : List Item} {e : Env} {w : World}

theorem run_seq {x y : Code} (h : Run C (.code x :: .code y :: k) e w) : Run C (.code (.seq x y) :: k) e w := fun a ha => RunA.step (fun _ _ => step_seq) (h a ha)
theorem run_skip (h : Run C k e w) : Run C (.code .skip :: k) e w := fun a ha => RunA.step (fun _ _ => step_skip) (h a ha)
theorem run_label {l : Nat} (h : Run C k e w) : Run C (.code (.label l) :: k) e w := fun a ha => RunA.step (fun _ _ => step_label) (h a ha)
theorem run_block {id : Nat} {c : Code} (h : Run C (.code c :: .inBlock id :: k) e w) : Run C (.code (.block id c) :: k) e w := fun a ha => RunA.step (fun _ _ => step_block) (h a ha)
theorem run_inBlock {id : Nat} (h : Run C k e w) : Run C (.inBlock id :: k) e w := fun a ha => RunA.step (fun _ _ => step_inBlock) (h a ha)
theorem run_exit {id : Nat} (hk : exitTo id k = some k') (h : Run C k' e w) : Run C (.code (.exit id) :: k) e w := fun a ha => RunA.step (fun _ _ => step_exit hk) (h a ha)
theorem run_goto {l : Nat} (hk : gotoIn l k = some k') (h : Run C k' e w) : Run C (.code (.goto l) :: k) e w := fun a ha => RunA.step (fun _ _ => step_goto hk) (h a ha)
theorem run_inLoop {c : Code} (h : Run C (.code c :: .inLoop c :: k) e w) : Run C (.inLoop c :: k) e w := fun a ha => RunA.step (fun _ _ => step_inLoop) (h a ha)

/-- A test: its two ways. -/
theorem run_cond {c : Operand} {x y : Code} {t : Bool} (hc : look e c = some (.bool t)) (ht : t = true → Run C (.code x :: k) e w) (hf : t = false → Run C (.code y :: k) e w) : Run C (.code (.cond c x y) :: k) e w := fun a ha => by
  cases t with
  | true => exact RunA.step (k' := .code x :: k) (fun _ _ => by simpa using step_cond (ha.look hc)) (ht rfl a ha)
  | false => exact RunA.step (k' := .code y :: k) (fun _ _ => by simpa using step_cond (ha.look hc)) (hf rfl a ha)
theorem run_if {c : Operand} {x y : Code} {p : Prop} [hp : Decidable p] (hc : look e c = some (.bool (decide p))) (ht : p → Run C (.code x :: k) e w) (hf : ¬ p → Run C (.code y :: k) e w) : Run C (.code (.cond c x y) :: k) e w :=
  run_cond hc (fun h => ht (of_decide_eq_true h)) (fun h => hf (of_decide_eq_false h))
theorem run_true {c : Operand} {x y : Code} (hc : look e c = some (.bool true)) (h : Run C (.code x :: k) e w) : Run C (.code (.cond c x y) :: k) e w := run_cond hc (fun _ => h) (fun h => by cases h)
theorem run_false {c : Operand} {x y : Code} (hc : look e c = some (.bool false)) (h : Run C (.code y :: k) e w) : Run C (.code (.cond c x y) :: k) e w := run_cond hc (fun h => by cases h) (fun _ => h)

/-- A loop: what holds at each round's head, by a value 'x' of the prover's own, and a measure of it that falls. -/
theorem run_loop {α : Type} {c : Code} (x0 : α) (E : α → Env) (I : α → World → Prop) (μ : α → Nat) (hE : Sub (E x0) e) (hI : I x0 w)
    (round : ∀ x w, I x w → (∀ y w', I y w' → μ y < μ x → Run C (.inLoop c :: k) (E y) w') → Run C (.code c :: .inLoop c :: k) (E x) w) : Run C (.code (.loop c) :: k) e w := by
  have key : ∀ n x w, μ x = n → I x w → Run C (.code c :: .inLoop c :: k) (E x) w := by
    intro n
    induction n using Nat.strongRecOn with
    | _ n ih =>
      intro x w hn hx
      exact round x w hx fun y w' hy hlt => run_inLoop (ih (μ y) (hn ▸ hlt) y w' rfl hy)
  exact fun a ha => RunA.step (fun _ _ => step_loop) (key _ x0 w rfl hI a (ha.sub hE))

end

/-- What is known where a piece of code is left. -/
def QK (C : Cx) (k : List Item) : Exit → Act → World → Prop
  | .normal, a, w => RunA C.P C.f C.R k a w
  | .outgrown, _, w => C.R .outgrown w
  | _, _, _ => False

theorem runA_of_wp {C : Cx} {c : Code} {k : List Item} {a : Act} {w : World} (h : c.wp C.P (QK C k) a w) : RunA C.P C.f C.R (.code c :: k) a w := by
  intro b hb hk cs
  obtain ⟨x, a', w', q, harr⟩ := h b k cs
  cases x with
  | normal =>
    obtain ⟨x, w₁, fr, hR, hc, hf, hl⟩ := q b hb hk cs
    exact ⟨x, w₁, fr, hR, Comes.of_steps harr hc, hf, hl⟩
  | outgrown =>
    refine ⟨.outgrown, w', b, q, harr.resolve_left (by rw [hk]; simp), hb, trivial⟩
  | exit id => exact q.elim
  | goto l => exact q.elim
  | ret => exact q.elim
  | panic ch => exact q.elim

/-- The function's own end. -/
def resOf (e : Env) : List ResultVar → Option (List Value)
  | [] => some []
  | .tmp t :: r => match fnd e t, resOf e r with
    | some v, some vs => some (v :: vs)
    | _, _ => none
  | _ => none

def resVal : List Value → Value
  | [v] => v
  | vs => .tuple vs.toArray

def resM (a : Act) : ResultVar → Sem Value
  | .tmp t => pure (a.tmps.getD t undef)
  | .cell x t => do loadVar t (← asAddr (a.tmps.getD x undef))

theorem mapM_res {n : Nat} {e : Env} {a : Act} (ha : EOk n e a) (P : Program) (w : World) : ∀ (rs : List ResultVar) (vs : List Value), resOf e rs = some vs →
    Sem.run P (rs.mapM (resM a)) w = .ok vs w := by
  intro rs
  induction rs with
  | nil => intro vs h; simp [resOf] at h; subst h; simp [go_sem]
  | cons r rs ih =>
    intro vs h
    cases r with
    | cell x t => simp [resOf] at h
    | tmp t =>
      simp only [resOf] at h
      split at h
      · rename_i v vs' hv hvs
        simp at h
        subst h
        have h1 := ih vs' hvs
        have hg : resM a (.tmp t) = pure v := by simp only [resM]; rw [ha.get t v hv]
        rw [List.mapM_cons, hg]
        simp only [pure_bind, Sem.run_bind, h1, Result.andThen, Sem.run_pure]
      · cases h

theorem results_run {n : Nat} {e : Env} {a : Act} (ha : EOk n e a) (P : Program) (w : World) (fn : Func) (vs : List Value) (h : resOf e fn.results.toList = some vs) :
    (results fn a.tmps).run P w = .ok (resVal vs) w := by
  have hm := mapM_res ha P w _ _ h
  have he : results fn a.tmps = (do
      let us ← fn.results.mapM (resM a)
      pure (if h : us.size = 1 then us[0] else .tuple us)) := rfl
  rw [he, ← Array.toArray_toList (xs := fn.results), List.mapM_toArray]
  simp only [Sem.run_bind, map_eq_pure_bind, hm, Result.andThen, Sem.run_pure]
  cases vs with
  | nil => simp [resVal]
  | cons v r => cases r with
    | nil => simp [resVal]
    | cons u r => simp [resVal]

section
variable {C : Cx} {k : List Item} {e : Env} {w : World} {fn : Func} {vs : List Value}

theorem run_ret (hf : C.P.funcs[C.f]? = some fn) (hr : resOf e fn.results.toList = some vs) (hR : C.R (.returned (resVal vs)) w) : Run C (.code .ret :: k) e w := fun a ha b hb hk cs =>
  ⟨.returned (resVal vs), w, _, hR, .one step_ret, hb, rfl, ha.defers, by simpa [Frame.at] using hk, fn, by simpa [Frame.at, hb] using hf, by simpa [Frame.at] using results_run ha C.P w fn vs hr⟩
theorem run_end (hf : C.P.funcs[C.f]? = some fn) (hr : resOf e fn.results.toList = some vs) (hR : C.R (.returned (resVal vs)) w) : Run C [] e w := fun a ha b hb hk cs =>
  ⟨.returned (resVal vs), w, _, hR, .one step_end, hb, rfl, ha.defers, by simpa [Frame.at] using hk, fn, by simpa [Frame.at, hb] using hf, by simpa [Frame.at] using results_run ha C.P w fn vs hr⟩
end

def envOf : Nat → List Value → Env
  | _, [] => []
  | i, v :: r => (i, v) :: envOf (i + 1) r

theorem fnd_envOf : ∀ (l : List Value) (i j : Nat) (v : Value), fnd (envOf i l) j = some v → i ≤ j ∧ l[j - i]? = some v
  | [], _, _, _, h => by simp [envOf, fnd] at h
  | u :: r, i, j, v, h => by
    simp only [envOf, fnd] at h
    split at h
    · rename_i hb
      have := Nat.eq_of_beq_eq_true hb
      subst this
      simpa using h
    · rename_i hb
      have hne : j ≠ i := fun hh => by subst hh; simp at hb
      obtain ⟨h1, h2⟩ := fnd_envOf r (i + 1) j v h
      refine ⟨by omega, ?_⟩
      have : j - i = (j - (i + 1)) + 1 := by omega
      rw [this]
      simpa using h2

/-- A function's contract: it returns, and this holds of what it returns. -/
def Ret (P : Program) (f : FuncId) (args : List Value) (w : World) (S : Value → World → Prop) : Prop :=
  Calls P f args.toArray w fun x w' => ∃ v, x = .returned v ∧ S v w'

theorem Ret.mono {P : Program} {f : FuncId} {args : List Value} {w : World} {S S' : Value → World → Prop} (h : Ret P f args w S) (hs : ∀ v w', S v w' → S' v w') : Ret P f args w S' :=
  Calls.mono h fun _ _ ⟨v, hx, hv⟩ => ⟨v, hx, hs _ _ hv⟩

def RetX (S : Value → World → Prop) : Ending → World → Prop := fun x w' => ∃ v, x = .returned v ∧ S v w'

theorem ret_of_run {P : Program} {f : FuncId} {fn : Func} {c : Code} {args : List Value} {e : Env} {w : World} {S : Value → World → Prop} {n : Nat}
    (hf : P.funcs[f]? = some fn) (hb : fn.body = some c) (hnt : fn.ntmps = n) (hn : Nat.ble args.length n = true) (he : envOf 0 args = e)
    (h : Run ⟨P, f, RetX S, n⟩ [.code c] e w) : Ret P f args w S := by
  subst hnt
  intro cs
  let b : Frame := { (default : Frame) with fn := f, kind := .normal }
  have hn' : args.length ≤ fn.ntmps := by simpa using hn
  let a : Act := { tmps := args.toArray ++ Array.replicate (fn.ntmps - args.toArray.size) undef, defers := [] }
  have henter : Frame.enter P f args.toArray .normal = b.at a [.code c] := by
    simp [Frame.enter, Frame.at, hf, hb, b, a]
  have hok : EOk fn.ntmps e a := by
    refine ⟨by simp [a]; omega, rfl, fun i v hi => ?_⟩
    subst he
    obtain ⟨-, h2⟩ := fnd_envOf args 0 i v hi
    simp at h2
    have hlt : i < args.length := by
      rcases Nat.lt_or_ge i args.length with h | h
      · exact h
      · simp [List.getElem?_eq_none h] at h2
    have h3 : args[i] = v := by simpa [List.getElem?_eq_getElem hlt] using h2
    simp only [a, Array.getD]
    rw [dif_pos (by simp; omega)]
    simp [hlt, h3]
  rw [henter]
  exact h a hok b rfl rfl cs

end Go.Proofs.Ytdapkfppcaaohaa
