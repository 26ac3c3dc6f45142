/- A small calculus for walking Go functions: the frame is kept as a list of the slots that are known, what is still to do as a stack. It is of no program. -/
import Derived.WalkKit
import Derived.WalkSpells
import Derived.WalkLawsBesides
import Derived.OrdersHeld
import Derived.RangeFuncRecord
import Derived.OrdersIn
import Derived.TacticsIn
namespace Go.Proofs.YtkgiammeeckfbaaGreat
open Go Go.RowKit

abbrev Env := List (Nat × Value)

/-- What a slot is known to hold. -/
def fnd : Env → Nat → Option Value
  | [], _ => none
  | (j, v) :: r, i => match Nat.beq i j with
    | true => some v
    | false => fnd r i

def look (e : Env) : Operand → Option Value
  | .tmp t => fnd e t
  | .const v => some v
  | .global g => some (.pointer (some ⟨g, 0, none⟩))
  | .func f => some (.func (.func f) #[] #[])

/-- What has been deferred: the mark that a loop over a function has left, or a call. -/
inductive Dfr where
  | mk (D : Nat)
  | call (f : FuncId) (cap args : List Value)
def Dfr.d : Dfr → Deferred
  | .mk D => { target := .collected D, args := #[] }
  | .call f cap args => { target := .fn (.func f) cap.toArray, args := args.toArray }
def marks (ms : List Dfr) : List Deferred := ms.map Dfr.d

structure EOk (n : Nat) (ms : List Dfr) (e : Env) (a : Act) : Prop where
  size : a.tmps.size = n
  defers : a.defers = marks ms
  get : ∀ i v, fnd e i = some v → a.tmps.getD i undef = v

theorem EOk.look {n : Nat} {ms : List Dfr} {e : Env} {a : Act} (h : EOk n ms e a) {x : Operand} {v : Value} (hx : look e x = some v) : a.eval x = v := by
  cases x with
  | tmp t => exact h.get t v hx
  | const u => exact Option.some.inj hx
  | global g => exact Option.some.inj hx
  | func f => exact Option.some.inj hx

theorem EOk.put {n : Nat} {ms : List Dfr} {e : Env} {a : Act} (h : EOk n ms e a) {d : Nat} (hd : Nat.blt d n = true) (v : Value) : EOk n ms ((d, v) :: e) (a.put (some d) v) := by
  have hd' : d < n := by simpa using hd
  refine ⟨by simp [Act.put, h.size], by simpa [Act.put] using h.defers, fun i u hi => ?_⟩
  simp only [Act.put]
  simp only [fnd] at hi
  by_cases hij : i = d
  · subst hij
    simp at hi
    subst hi
    simp [Array.getD, h.size, hd']
  · have hb : Nat.beq i d = false := by
      cases hq : Nat.beq i d with
      | false => rfl
      | true => exact absurd (Nat.eq_of_beq_eq_true hq) hij
    rw [hb] at hi
    have hg := h.get i u hi
    rw [← hg]
    simp only [Array.getD, Array.size_setIfInBounds]
    split
    · rename_i hlt
      simp only [Array.getInternal_eq_getElem]
      rw [Array.getElem_setIfInBounds_ne]
      exact fun hh => hij hh.symm
    · rfl

theorem EOk.put0 {n : Nat} {ms : List Dfr} {e : Env} {a : Act} (h : EOk n ms e a) (v : Value) : EOk n ms e (a.put none v) := h

def Sub (e e' : Env) : Prop := ∀ i v, fnd e i = some v → fnd e' i = some v

theorem Sub.nil {e : Env} : Sub [] e := fun _ _ h => by simp [fnd] at h
theorem Sub.cons {e e' : Env} {i : Nat} {v : Value} (h : fnd e' i = some v) (hr : Sub e e') : Sub ((i, v) :: e) e' := fun j u hj => by
  simp only [fnd] at hj
  split at hj
  · rename_i hb
    have := Nat.eq_of_beq_eq_true hb
    subst this
    simp at hj
    subst hj
    exact h
  · exact hr j u hj
theorem Sub.refl (e : Env) : Sub e e := fun _ _ h => h
theorem EOk.sub {n : Nat} {ms : List Dfr} {e e' : Env} {a : Act} (h : EOk n ms e' a) (hs : Sub e e') : EOk n ms e a := ⟨h.size, h.defers, fun i v hi => h.get i v (hs i v hi)⟩

def RetX (S : Value → World → Prop) : Ending → World → Prop := fun x w' => ∃ v, x = .returned v ∧ S v w'

/-- A machine whose top frame is one of function f's (or a round of a loop of f's, 'rd') comes to that frame's end, and there R holds. -/
def Lands (P : Program) (f : FuncId) (rd : Option Nat) (dk : Bool) (R : Ending → World → Prop) (m : Machine) (cs : List Frame) : Prop :=
  match rd with
  | none => ∃ x w' fr, R x w' ∧ Comes P m (lone fr cs w') x ∧ fr.fn = f ∧ (match dk with | false => fr.leaving P w' x | true => fr.kind = .deferred ∧ fr.going P w' x)
  | some _ => ∀ c cs', cs = c :: cs' → ∃ x w', R x w' ∧ Comes P m (match x with | .returned v => lone (c.finish v) cs' w' | .panicked ch => lone (c.raise ch) cs' w' | .outgrown => lone c cs' w') x

theorem Lands.of_steps {P : Program} {f : FuncId} {rd : Option Nat} {dk : Bool} {R : Ending → World → Prop} {m m' : Machine} {cs : List Frame} (hs : Steps P m m') (h : Lands P f rd dk R m' cs) : Lands P f rd dk R m cs := by
  cases rd with
  | none =>
    obtain ⟨x, w', fr, hR, hc, hf, hl⟩ := h
    exact ⟨x, w', fr, hR, Comes.of_steps hs hc, hf, hl⟩
  | some l =>
    intro c cs' hcs
    obtain ⟨x, w', hR, hc⟩ := h c cs' hcs
    exact ⟨x, w', hR, Comes.of_steps hs hc⟩

/-- Is it a deferred call's frame? -/
def kdOf : Bool → CallKind
  | false => .normal
  | true => .deferred
/-- From here on, whoever called, the function (or the round) comes to an ending of which 'R' holds. -/
def RunA (P : Program) (f : FuncId) (rd : Option Nat) (dk : Bool) (R : Ending → World → Prop) (k : List Item) (a : Act) (w : World) : Prop :=
  ∀ (b : Frame), b.fn = f → b.kind = kdOf dk → b.roundOf = rd → ∀ cs, Lands P f rd dk R (lone (b.atR a k) cs w) cs

structure Cx where
  P : Program
  f : FuncId
  R : Value → World → Prop
  n : Nat
  rd : Option Nat := none
  ms : List Dfr := []
  dk : Bool := false

def Run (C : Cx) (k : List Item) (e : Env) (w : World) : Prop := ∀ a, EOk C.n C.ms e a → RunA C.P C.f C.rd C.dk (RetX C.R) k a w

theorem Run.sub {C : Cx} {k : List Item} {e e' : Env} {w : World} (h : Run C k e w) (hs : Sub e e') : Run C k e' w := fun a ha => h a (ha.sub hs)

theorem RunA.step {P : Program} {f : FuncId} {rd : Option Nat} {dk : Bool} {R : Ending → World → Prop} {k k' : List Item} {a a' : Act} {w w' : World}
    (hs : ∀ (b : Frame) cs, step P (lone (b.atR a k) cs w) = .next (lone (b.atR a' k') cs w')) (h : RunA P f rd dk R k' a' w') : RunA P f rd dk R k a w := fun b hb hk hr cs =>
  (h b hb hk hr cs).of_steps (.one (hs b cs))

/-- All frames may go where they will; the frame is a round's, or is not. -/
def WF (rd : Option Nat) : Fence := { fn := fun _ => True, depth := none, alive := false, round := rd }
theorem room_WF (rd : Option Nat) (n : Nat) : (WF rd).room n := fun _ h => by simp [WF] at h
theorem fenced_WF (P : Program) (rd : Option Nat) : Machine.fenced P (WF rd) = Machine.fenced P Fence.wide := rfl

section
variable {C : Cx} {k k' : List Item} {e : Env} {w : World}

theorem run_seq {x y : Code} (h : Run C (.code x :: .code y :: k) e w) : Run C (.code (.seq x y) :: k) e w := fun a ha => RunA.step (fun _ _ => stepR_seq) (h a ha)
theorem run_skip (h : Run C k e w) : Run C (.code .skip :: k) e w := fun a ha => RunA.step (fun _ _ => stepR_skip) (h a ha)
theorem run_label {l : Nat} (h : Run C k e w) : Run C (.code (.label l) :: k) e w := fun a ha => RunA.step (fun _ _ => stepR_label) (h a ha)
theorem run_block {id : Nat} {c : Code} (h : Run C (.code c :: .inBlock id :: k) e w) : Run C (.code (.block id c) :: k) e w := fun a ha => RunA.step (fun _ _ => stepR_block) (h a ha)
theorem run_inBlock {id : Nat} (h : Run C k e w) : Run C (.inBlock id :: k) e w := fun a ha => RunA.step (fun _ _ => stepR_inBlock) (h a ha)
theorem run_exit {id : Nat} (hk : exitTo id k = some k') (h : Run C k' e w) : Run C (.code (.exit id) :: k) e w := fun a ha => RunA.step (fun _ _ => stepR_exit hk) (h a ha)
theorem run_goto {l : Nat} (hk : gotoIn l k = some k') (h : Run C k' e w) : Run C (.code (.goto l) :: k) e w := fun a ha => RunA.step (fun _ _ => stepR_goto hk) (h a ha)
theorem run_inLoop {c : Code} (h : Run C (.code c :: .inLoop c :: k) e w) : Run C (.inLoop c :: k) e w := fun a ha => RunA.step (fun _ _ => stepR_inLoop) (h a ha)

/-- A test: its two ways. -/
theorem run_cond {c : Operand} {x y : Code} {t : Bool} (hc : look e c = some (.bool t)) (ht : t = true → Run C (.code x :: k) e w) (hf : t = false → Run C (.code y :: k) e w) : Run C (.code (.cond c x y) :: k) e w := fun a ha => by
  cases t with
  | true => exact RunA.step (k' := .code x :: k) (fun _ _ => by simpa using stepR_cond (ha.look hc)) (ht rfl a ha)
  | false => exact RunA.step (k' := .code y :: k) (fun _ _ => by simpa using stepR_cond (ha.look hc)) (hf rfl a ha)
theorem run_if {c : Operand} {x y : Code} {p : Prop} [hp : Decidable p] (hc : look e c = some (.bool (decide p))) (ht : p → Run C (.code x :: k) e w) (hf : ¬ p → Run C (.code y :: k) e w) : Run C (.code (.cond c x y) :: k) e w :=
  run_cond hc (fun h => ht (of_decide_eq_true h)) (fun h => hf (of_decide_eq_false h))
theorem run_true {c : Operand} {x y : Code} (hc : look e c = some (.bool true)) (h : Run C (.code x :: k) e w) : Run C (.code (.cond c x y) :: k) e w := run_cond hc (fun _ => h) (fun h => by cases h)
theorem run_false {c : Operand} {x y : Code} (hc : look e c = some (.bool false)) (h : Run C (.code y :: k) e w) : Run C (.code (.cond c x y) :: k) e w := run_cond hc (fun h => by cases h) (fun _ => h)

/-- A loop: what holds at each round's head, by a value 'x' of the prover's own, and a measure of it that falls. -/
theorem run_loop {α : Type} {c : Code} (x0 : α) (E : α → Env) (I : α → World → Prop) (μ : α → Nat) (hE : Sub (E x0) e) (hI : I x0 w)
    (round : ∀ x w, I x w → (∀ y w', I y w' → μ y < μ x → Run C (.inLoop c :: k) (E y) w') → Run C (.code c :: .inLoop c :: k) (E x) w) : Run C (.code (.loop c) :: k) e w := by
  have key : ∀ n x w, μ x = n → I x w → Run C (.code c :: .inLoop c :: k) (E x) w := by
    intro n
    induction n using Nat.strongRecOn with
    | _ n ih =>
      intro x w hn hx
      exact round x w hx fun y w' hy hlt => run_inLoop (ih (μ y) (hn ▸ hlt) y w' rfl hy)
  exact fun a ha => RunA.step (fun _ _ => stepR_loop) (key _ x0 w rfl hI a (ha.sub hE))

end

/-- What is known where a piece of code is left. -/
def QK (C : Cx) (k : List Item) : Exit → Act → World → Prop
  | .normal, a, w => RunA C.P C.f C.rd C.dk (RetX C.R) k a w
  | _, _, _ => False
theorem QK.no {C : Cx} {k : List Item} : ¬ LetsOut (QK C k) := fun ⟨_, _, h⟩ => h

theorem runA_of_wpIn {C : Cx} {c : Code} {k : List Item} {a : Act} {w : World} {n : Nat} (h : c.wpIn (WF C.rd) n C.P (QK C k) a w) : RunA C.P C.f C.rd C.dk (RetX C.R) (.code c :: k) a w := by
  intro b hb hk hr cs
  obtain ⟨x, a', w', q, harr⟩ := h b k cs hr trivial (room_WF _ _)
  cases x with
  | normal => exact (q b hb hk hr cs).of_steps (StepsIn.steps harr)
  | outgrown => exact q.elim
  | exit id => exact q.elim
  | goto l => exact q.elim
  | ret => exact q.elim
  | panic ch => exact q.elim

/-- The function's own end. -/
def resOf (e : Env) : List ResultVar → Option (List Value)
  | [] => some []
  | .tmp t :: r => match fnd e t, resOf e r with
    | some v, some vs => some (v :: vs)
    | _, _ => none
  | _ => none

def resVal : List Value → Value
  | [v] => v
  | vs => .tuple vs.toArray

def resM (a : Act) : ResultVar → Sem Value
  | .tmp t => pure (a.tmps.getD t undef)
  | .cell x t => do loadVar t (← asAddr (a.tmps.getD x undef))

theorem mapM_res {n : Nat} {ms : List Dfr} {e : Env} {a : Act} (ha : EOk n ms e a) (P : Program) (w : World) : ∀ (rs : List ResultVar) (vs : List Value), resOf e rs = some vs →
    Sem.run P (rs.mapM (resM a)) w = .ok vs w := by
  intro rs
  induction rs with
  | nil => intro vs h; simp [resOf] at h; subst h; simp [go_sem]
  | cons r rs ih =>
    intro vs h
    cases r with
    | cell x t => simp [resOf] at h
    | tmp t =>
      simp only [resOf] at h
      split at h
      · rename_i v vs' hv hvs
        simp at h
        subst h
        have h1 := ih vs' hvs
        have hg : resM a (.tmp t) = pure v := by simp only [resM]; rw [ha.get t v hv]
        rw [List.mapM_cons, hg]
        simp only [pure_bind, Sem.run_bind, h1, Result.andThen, Sem.run_pure]
      · cases h

theorem results_run {n : Nat} {ms : List Dfr} {e : Env} {a : Act} (ha : EOk n ms e a) (P : Program) (w : World) (fn : Func) (vs : List Value) (h : resOf e fn.results.toList = some vs) :
    (results fn a.tmps).run P w = .ok (resVal vs) w := by
  have hm := mapM_res ha P w _ _ h
  have he : results fn a.tmps = (do
      let us ← fn.results.mapM (resM a)
      pure (if h : us.size = 1 then us[0] else .tuple us)) := rfl
  rw [he, ← Array.toArray_toList (xs := fn.results), List.mapM_toArray]
  simp only [Sem.run_bind, map_eq_pure_bind, hm, Result.andThen, Sem.run_pure]
  cases vs with
  | nil => simp [resVal]
  | cons v r => cases r with
    | nil => simp [resVal]
    | cons u r => simp [resVal]

/-- The marks' blocks are as they were laid; nothing else has been deferred. -/
def MarkedE (ms : List Dfr) (w : World) : Prop := ∀ d ∈ ms, ∃ D, d = .mk D ∧ w.heap[D]? = some (.deferred (some []))
/-- The world behind a function's end: the marks' blocks are shut. -/
def shutM : List Dfr → World → World
  | [], w => w
  | .mk D :: ms, w => shutM ms (w.putObj D (.deferred none))
  | .call .. :: ms, w => shutM ms w

theorem leaves_marks {P : Program} {fn : Func} {tmps : Array Value} {R : Ending → World → Prop} {v : Value} : ∀ (ms : List Dfr) (w : World), ms.Nodup → MarkedE ms w →
    (results fn tmps).run P (shutM ms w) = .ok v (shutM ms w) → R (.returned v) (shutM ms w) → LeavesInM Fence.wide 0 P fn tmps R (marks ms) .returning w
  | [], w, _, _, hr, hR => ⟨v, hr, hR⟩
  | .call f c a :: ms, w, _, hm, _, _ => by
    obtain ⟨D, h, -⟩ := hm _ (List.mem_cons_self ..)
    cases h
  | .mk D :: ms, w, hd, hm, hr, hR => by
    obtain ⟨D', h, hD⟩ := hm _ (List.mem_cons_self ..)
    cases h
    refine ⟨by simp, .inl ⟨D, _, rfl, run_takeDeferred hD, ?_⟩⟩
    refine leaves_marks ms _ (List.nodup_cons.1 hd).2 (fun d hd' => ?_) hr hR
    obtain ⟨D', rfl, hD'⟩ := hm d (by simp [hd'])
    refine ⟨D', rfl, ?_⟩
    rw [World.putObj_heap_other (fun h => (List.nodup_cons.1 hd).1 (by subst h; exact hd'))]
    exact hD'

section
variable {C : Cx} {k : List Item} {e : Env} {w : World} {fn : Func} {vs : List Value}

theorem lands_leave {f : FuncId} {P : Program} {R : Ending → World → Prop} {m : Machine} {b : Frame} {a : Act} {todo : List Item} {cs : List Frame} {ms : List Dfr} (hf : P.funcs[f]? = some fn) (hb : b.fn = f) (hk : b.kind = .normal)
    (hd : a.defers = marks ms) (hl : LeavesInM Fence.wide 0 P fn a.tmps R (marks ms) .returning w)
    (hs : Steps P m (lone { b.atR a todo with mode := .returning } cs w)) : Lands P f none false R m cs := by
  subst hb
  obtain ⟨x, w', fr', hR', hs', hfn', hl'⟩ := leaves_stepsInM (F := Fence.wide) (n := 0) a.defers .returning w { b.atR a todo with mode := .returning } cs rfl rfl rfl hf hk trivial (room_wide _)
    (by rw [hd]; exact hl)
  exact ⟨x, w', fr', hR', Comes.of_steps hs (comesIn_wide.1 hs'), hfn', hl'⟩

theorem run_retL (hrd : C.rd = none) (hdk : C.dk = false) (hf : C.P.funcs[C.f]? = some fn)
    (hr : ∀ a, EOk C.n C.ms e a → LeavesInM Fence.wide 0 C.P fn a.tmps (RetX C.R) (marks C.ms) .returning w) : Run C (.code .ret :: k) e w := fun a ha b hb hk hro cs => by
  rw [hdk] at hk ⊢
  rw [hrd] at hro ⊢
  exact lands_leave hf hb hk ha.defers (hr a ha) (.one (stepR_ret hro))
theorem run_endL (hrd : C.rd = none) (hdk : C.dk = false) (hf : C.P.funcs[C.f]? = some fn)
    (hr : ∀ a, EOk C.n C.ms e a → LeavesInM Fence.wide 0 C.P fn a.tmps (RetX C.R) (marks C.ms) .returning w) : Run C [] e w := fun a ha b hb hk hro cs => by
  rw [hdk] at hk ⊢
  rw [hrd] at hro ⊢
  exact lands_leave hf hb hk ha.defers (hr a ha) (.one (stepR_end hro))
theorem run_retS (hrd : C.rd = none) (hf : C.P.funcs[C.f]? = some fn) (hn : C.ms.Nodup) (hm : MarkedE C.ms w)
    (hr : ∀ a, EOk C.n C.ms e a → ∃ v, (results fn a.tmps).run C.P (shutM C.ms w) = .ok v (shutM C.ms w) ∧ RetX C.R (.returned v) (shutM C.ms w)) (hdk : C.dk = false := by rfl) : Run C (.code .ret :: k) e w :=
  run_retL hrd hdk hf fun a ha => let ⟨_, h1, h2⟩ := hr a ha; leaves_marks _ _ hn hm h1 h2
theorem run_endS (hrd : C.rd = none) (hf : C.P.funcs[C.f]? = some fn) (hn : C.ms.Nodup) (hm : MarkedE C.ms w)
    (hr : ∀ a, EOk C.n C.ms e a → ∃ v, (results fn a.tmps).run C.P (shutM C.ms w) = .ok v (shutM C.ms w) ∧ RetX C.R (.returned v) (shutM C.ms w)) (hdk : C.dk = false := by rfl) : Run C [] e w :=
  run_endL hrd hdk hf fun a ha => let ⟨_, h1, h2⟩ := hr a ha; leaves_marks _ _ hn hm h1 h2

/-- A deferred call's own end: it has deferred nothing. -/
theorem lands_going {f : FuncId} {P : Program} {R : Ending → World → Prop} {m : Machine} {b : Frame} {a : Act} {todo : List Item} {cs : List Frame} {v : Value} (hf : P.funcs[f]? = some fn) (hb : b.fn = f) (hk : b.kind = .deferred)
    (hd : a.defers = []) (hr : (results fn a.tmps).run P w = .ok v w) (hR : R (.returned v) w)
    (hs : Steps P m (lone { b.atR a todo with mode := .returning } cs w)) : Lands P f none true R m cs := by
  subst hb
  exact ⟨.returned v, w, _, hR, hs, rfl, hk, rfl, hd, fn, hf, hr⟩
theorem run_retD (hrd : C.rd = none) (hdk : C.dk = true) (hms : C.ms = []) (hf : C.P.funcs[C.f]? = some fn)
    (hr : ∀ a, EOk C.n C.ms e a → ∃ v, (results fn a.tmps).run C.P w = .ok v w ∧ RetX C.R (.returned v) w) : Run C (.code .ret :: k) e w := fun a ha b hb hk hro cs => by
  obtain ⟨v, h1, h2⟩ := hr a ha
  rw [hdk] at hk ⊢
  rw [hrd] at hro ⊢
  exact lands_going hf hb hk (by rw [ha.defers, hms]; rfl) h1 h2 (.one (stepR_ret hro))
theorem run_endD (hrd : C.rd = none) (hdk : C.dk = true) (hms : C.ms = []) (hf : C.P.funcs[C.f]? = some fn)
    (hr : ∀ a, EOk C.n C.ms e a → ∃ v, (results fn a.tmps).run C.P w = .ok v w ∧ RetX C.R (.returned v) w) : Run C [] e w := fun a ha b hb hk hro cs => by
  obtain ⟨v, h1, h2⟩ := hr a ha
  rw [hdk] at hk ⊢
  rw [hrd] at hro ⊢
  exact lands_going hf hb hk (by rw [ha.defers, hms]; rfl) h1 h2 (.one (stepR_end hro))
end

section
variable {P : Program} {f : FuncId} {R : Value → World → Prop} {n : Nat} {k : List Item} {e : Env} {w : World} {fn : Func} {vs : List Value}
theorem run_ret (hf : P.funcs[f]? = some fn) (hr : resOf e fn.results.toList = some vs) (hR : RetX R (.returned (resVal vs)) w) : Run ⟨P, f, R, n, none, [], false⟩ (.code .ret :: k) e w :=
  run_retS rfl hf List.nodup_nil (fun _ h => by cases h) fun a ha => ⟨_, results_run ha P w fn vs hr, hR⟩
theorem run_end (hf : P.funcs[f]? = some fn) (hr : resOf e fn.results.toList = some vs) (hR : RetX R (.returned (resVal vs)) w) : Run ⟨P, f, R, n, none, [], false⟩ [] e w :=
  run_endS rfl hf List.nodup_nil (fun _ h => by cases h) fun a ha => ⟨_, results_run ha P w fn vs hr, hR⟩
/-- A function that has gone through loops over functions ends. -/
theorem run_retM {ms : List Dfr} (hn : ms.Nodup) (hm : MarkedE ms w) (hf : P.funcs[f]? = some fn) (hr : resOf e fn.results.toList = some vs) (hR : RetX R (.returned (resVal vs)) (shutM ms w)) : Run ⟨P, f, R, n, none, ms, false⟩ (.code .ret :: k) e w :=
  run_retS rfl hf hn hm fun a ha => ⟨_, results_run ha P _ fn vs hr, hR⟩
theorem run_endM {ms : List Dfr} (hn : ms.Nodup) (hm : MarkedE ms w) (hf : P.funcs[f]? = some fn) (hr : resOf e fn.results.toList = some vs) (hR : RetX R (.returned (resVal vs)) (shutM ms w)) : Run ⟨P, f, R, n, none, ms, false⟩ [] e w :=
  run_endS rfl hf hn hm fun a ha => ⟨_, results_run ha P _ fn vs hr, hR⟩
end

def envOf : Nat → List Value → Env
  | _, [] => []
  | i, v :: r => (i, v) :: envOf (i + 1) r

theorem fnd_envOf : ∀ (l : List Value) (i j : Nat) (v : Value), fnd (envOf i l) j = some v → i ≤ j ∧ l[j - i]? = some v
  | [], _, _, _, h => by simp [envOf, fnd] at h
  | u :: r, i, j, v, h => by
    simp only [envOf, fnd] at h
    split at h
    · rename_i hb
      have := Nat.eq_of_beq_eq_true hb
      subst this
      simpa using h
    · rename_i hb
      have hne : j ≠ i := fun hh => by subst hh; simp at hb
      obtain ⟨h1, h2⟩ := fnd_envOf r (i + 1) j v h
      refine ⟨by omega, ?_⟩
      have : j - i = (j - (i + 1)) + 1 := by omega
      rw [this]
      simpa using h2

/-- A function's contract: it returns, and this holds of what it returns. -/
def Ret (P : Program) (f : FuncId) (args : List Value) (w : World) (S : Value → World → Prop) : Prop :=
  Calls P f args.toArray w fun x w' => ∃ v, x = .returned v ∧ S v w'

theorem Ret.mono {P : Program} {f : FuncId} {args : List Value} {w : World} {S S' : Value → World → Prop} (h : Ret P f args w S) (hs : ∀ v w', S v w' → S' v w') : Ret P f args w S' :=
  Calls.mono h fun _ _ ⟨v, hx, hv⟩ => ⟨v, hx, hs _ _ hv⟩

/-- The same of a deferred call, while the frame below returns. -/
def RetD (P : Program) (f : FuncId) (args : List Value) (w : World) (S : Value → World → Prop) : Prop :=
  CallsDIn Fence.wide 0 P f args.toArray .returning w fun x u w' => u = .returning ∧ ∃ v, x = .returned v ∧ S v w'

theorem ret_of_run {P : Program} {f : FuncId} {fn : Func} {c : Code} {args : List Value} {e : Env} {w : World} {S : Value → World → Prop} {n : Nat}
    (hf : P.funcs[f]? = some fn) (hb : fn.body = some c) (hnt : fn.ntmps = n) (hn : Nat.ble args.length n = true) (he : envOf 0 args = e)
    (h : Run ⟨P, f, S, n, none, [], false⟩ [.code c] e w) : Ret P f args w S := by
  subst hnt
  intro cs
  let b : Frame := { (default : Frame) with fn := f, kind := .normal, roundOf := none }
  have hn' : args.length ≤ fn.ntmps := by simpa using hn
  let a : Act := { tmps := args.toArray ++ Array.replicate (fn.ntmps - args.toArray.size) undef, defers := [] }
  have henter : Frame.enter P f args.toArray .normal = b.atR a [.code c] := by
    simp [Frame.enter, Frame.atR, hf, hb, b, a]
  have hok : EOk fn.ntmps [] e a := by
    refine ⟨by simp [a]; omega, rfl, fun i v hi => ?_⟩
    subst he
    obtain ⟨-, h2⟩ := fnd_envOf args 0 i v hi
    simp at h2
    have hlt : i < args.length := by
      rcases Nat.lt_or_ge i args.length with h | h
      · exact h
      · simp [List.getElem?_eq_none h] at h2
    have h3 : args[i] = v := by simpa [List.getElem?_eq_getElem hlt] using h2
    simp only [a, Array.getD]
    rw [dif_pos (by simp; omega)]
    simp [hlt, h3]
  rw [henter]
  exact h a hok b rfl rfl rfl cs

theorem retD_of_run {P : Program} {f : FuncId} {fn : Func} {c : Code} {args : List Value} {e : Env} {w : World} {S : Value → World → Prop} {n : Nat}
    (hf : P.funcs[f]? = some fn) (hb : fn.body = some c) (hnt : fn.ntmps = n) (hn : Nat.ble args.length n = true) (he : envOf 0 args = e)
    (h : Run ⟨P, f, S, n, none, [], true⟩ [.code c] e w) : RetD P f args w S := by
  subst hnt
  refine ⟨trivial, fun c0 cs hm _ => ?_⟩
  let b : Frame := { (default : Frame) with fn := f, kind := .deferred, roundOf := none }
  have hn' : args.length ≤ fn.ntmps := by simpa using hn
  let a : Act := { tmps := args.toArray ++ Array.replicate (fn.ntmps - args.toArray.size) undef, defers := [] }
  have henter : Frame.enter P f args.toArray .deferred = b.atR a [.code c] := by
    simp [Frame.enter, Frame.atR, hf, hb, b, a]
  have hok : EOk fn.ntmps [] e a := by
    refine ⟨by simp [a]; omega, rfl, fun i v hi => ?_⟩
    subst he
    obtain ⟨-, h2⟩ := fnd_envOf args 0 i v hi
    simp at h2
    have hlt : i < args.length := by
      rcases Nat.lt_or_ge i args.length with h | h
      · exact h
      · simp [List.getElem?_eq_none h] at h2
    have h3 : args[i] = v := by simpa [List.getElem?_eq_getElem hlt] using h2
    simp only [a, Array.getD]
    rw [dif_pos (by simp; omega)]
    simp [hlt, h3]
  obtain ⟨x, w', fr, hR, hc, hfn, hk, hg⟩ := h a hok b rfl rfl rfl (c0 :: cs)
  have hcc : ({ c0 with mode := .returning } : Frame) = c0 := by cases c0; simp_all
  rw [henter]
  exact ⟨x, .returning, w', fr, ⟨rfl, hR⟩, by rw [hcc]; exact comesIn_wide.2 hc, hk, hfn, hg⟩

end Go.Proofs.YtkgiammeeckfbaaGreat
