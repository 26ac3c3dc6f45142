/- Texts Core, Reg, Mem, Heap, Iter, Map, Ops, Late, Types, Sho, one behind the other (what the statement TreeStores does not use is left out). -/
import Derived.WalkKit
import Derived.WalkSpells
import Derived.WalkLawsBesides
import Derived.OrdersHeld
import Derived.RangeFuncRecord
import Derived.OrdersIn
import Derived.TacticsIn
import Derived.Lib.Strings
import Derived.Lib.SmallJoins
import Derived.Laws.Externs
import Derived.MapKept
import Derived.Test.YtocnhaoilnojmaaGreatRows
import Derived.KernelRfl
namespace Go.Proofs.YtocnhaoilnojmaaGreat
open Go Go.RowKit

abbrev Env := List (Nat × Value)

def fnd : Env → Nat → Option Value
  | [], _ => none
  | (j, v) :: r, i => match Nat.beq i j with
    | true => some v
    | false => fnd r i

def look (e : Env) : Operand → Option Value
  | .tmp t => fnd e t
  | .const v => some v
  | .global g => some (.pointer (some ⟨g, 0, none⟩))
  | .func f => some (.func (.func f) #[] #[])

inductive Dfr where
  | mk (D : Nat)
  | call (f : FuncId) (cap args : List Value)
def Dfr.d : Dfr → Deferred
  | .mk D => { target := .collected D, args := #[] }
  | .call f cap args => { target := .fn (.func f) cap.toArray, args := args.toArray }
def marks (ms : List Dfr) : List Deferred := ms.map Dfr.d

structure EOk (n : Nat) (ms : List Dfr) (e : Env) (a : Act) : Prop where
  size : a.tmps.size = n
  defers : a.defers = marks ms
  get : ∀ i v, fnd e i = some v → a.tmps.getD i undef = v

theorem EOk.look {n : Nat} {ms : List Dfr} {e : Env} {a : Act} (h : EOk n ms e a) {x : Operand} {v : Value} (hx : look e x = some v) : a.eval x = v := by
  cases x with
  | tmp t => exact h.get t v hx
  | const u => exact Option.some.inj hx
  | global g => exact Option.some.inj hx
  | func f => exact Option.some.inj hx

theorem EOk.put {n : Nat} {ms : List Dfr} {e : Env} {a : Act} (h : EOk n ms e a) {d : Nat} (hd : Nat.blt d n = true) (v : Value) : EOk n ms ((d, v) :: e) (a.put (some d) v) := by
  have hd' : d < n := by simpa using hd
  refine ⟨by simp [Act.put, h.size], by simpa [Act.put] using h.defers, fun i u hi => ?_⟩
  simp only [Act.put]
  simp only [fnd] at hi
  by_cases hij : i = d
  · subst hij
    simp at hi
    subst hi
    simp [Array.getD, h.size, hd']
  · have hb : Nat.beq i d = false := by
      cases hq : Nat.beq i d with
      | false => rfl
      | true => exact absurd (Nat.eq_of_beq_eq_true hq) hij
    rw [hb] at hi
    have hg := h.get i u hi
    rw [← hg]
    simp only [Array.getD, Array.size_setIfInBounds]
    split
    · rename_i hlt
      simp only [Array.getInternal_eq_getElem]
      rw [Array.getElem_setIfInBounds_ne]
      exact fun hh => hij hh.symm
    · rfl

theorem EOk.put0 {n : Nat} {ms : List Dfr} {e : Env} {a : Act} (h : EOk n ms e a) (v : Value) : EOk n ms e (a.put none v) := h

def Sub (e e' : Env) : Prop := ∀ i v, fnd e i = some v → fnd e' i = some v

theorem Sub.nil {e : Env} : Sub [] e := fun _ _ h => by simp [fnd] at h
theorem Sub.cons {e e' : Env} {i : Nat} {v : Value} (h : fnd e' i = some v) (hr : Sub e e') : Sub ((i, v) :: e) e' := fun j u hj => by
  simp only [fnd] at hj
  split at hj
  · rename_i hb
    have := Nat.eq_of_beq_eq_true hb
    subst this
    simp at hj
    subst hj
    exact h
  · exact hr j u hj
theorem Sub.refl (e : Env) : Sub e e := fun _ _ h => h
theorem EOk.sub {n : Nat} {ms : List Dfr} {e e' : Env} {a : Act} (h : EOk n ms e' a) (hs : Sub e e') : EOk n ms e a := ⟨h.size, h.defers, fun i v hi => h.get i v (hs i v hi)⟩

def RetX (S : Value → World → Prop) : Ending → World → Prop := fun x w' => ∃ v, x = .returned v ∧ S v w'

def Lands (P : Program) (f : FuncId) (rd : Option Nat) (dk : Bool) (R : Ending → World → Prop) (m : Machine) (cs : List Frame) : Prop :=
  match rd with
  | none => ∃ x w' fr, R x w' ∧ Comes P m (lone fr cs w') x ∧ fr.fn = f ∧ (match dk with | false => fr.leaving P w' x | true => fr.kind = .deferred ∧ fr.going P w' x)
  | some _ => ∀ c cs', cs = c :: cs' → ∃ x w', R x w' ∧ Comes P m (match x with | .returned v => lone (c.finish v) cs' w' | .panicked ch => lone (c.raise ch) cs' w' | .outgrown => lone c cs' w') x

theorem Lands.of_steps {P : Program} {f : FuncId} {rd : Option Nat} {dk : Bool} {R : Ending → World → Prop} {m m' : Machine} {cs : List Frame} (hs : Steps P m m') (h : Lands P f rd dk R m' cs) : Lands P f rd dk R m cs := by
  cases rd with
  | none =>
    obtain ⟨x, w', fr, hR, hc, hf, hl⟩ := h
    exact ⟨x, w', fr, hR, Comes.of_steps hs hc, hf, hl⟩
  | some l =>
    intro c cs' hcs
    obtain ⟨x, w', hR, hc⟩ := h c cs' hcs
    exact ⟨x, w', hR, Comes.of_steps hs hc⟩

def kdOf : Bool → CallKind
  | false => .normal
  | true => .deferred
def RunA (P : Program) (f : FuncId) (rd : Option Nat) (dk : Bool) (R : Ending → World → Prop) (k : List Item) (a : Act) (w : World) : Prop :=
  ∀ (b : Frame), b.fn = f → b.kind = kdOf dk → b.roundOf = rd → ∀ cs, Lands P f rd dk R (lone (b.atR a k) cs w) cs

structure Cx where
  P : Program
  f : FuncId
  R : Value → World → Prop
  n : Nat
  rd : Option Nat := none
  ms : List Dfr := []
  dk : Bool := false

def Run (C : Cx) (k : List Item) (e : Env) (w : World) : Prop := ∀ a, EOk C.n C.ms e a → RunA C.P C.f C.rd C.dk (RetX C.R) k a w

theorem Run.sub {C : Cx} {k : List Item} {e e' : Env} {w : World} (h : Run C k e w) (hs : Sub e e') : Run C k e' w := fun a ha => h a (ha.sub hs)

theorem RunA.step {P : Program} {f : FuncId} {rd : Option Nat} {dk : Bool} {R : Ending → World → Prop} {k k' : List Item} {a a' : Act} {w w' : World}
    (hs : ∀ (b : Frame) cs, step P (lone (b.atR a k) cs w) = .next (lone (b.atR a' k') cs w')) (h : RunA P f rd dk R k' a' w') : RunA P f rd dk R k a w := fun b hb hk hr cs =>
  (h b hb hk hr cs).of_steps (.one (hs b cs))

def WF (rd : Option Nat) : Fence := { fn := fun _ => True, depth := none, alive := false, round := rd }
theorem room_WF (rd : Option Nat) (n : Nat) : (WF rd).room n := fun _ h => by simp [WF] at h
section
variable {C : Cx} {k k' : List Item} {e : Env} {w : World}

theorem run_seq {x y : Code} (h : Run C (.code x :: .code y :: k) e w) : Run C (.code (.seq x y) :: k) e w := fun a ha => RunA.step (fun _ _ => stepR_seq) (h a ha)
theorem run_skip (h : Run C k e w) : Run C (.code .skip :: k) e w := fun a ha => RunA.step (fun _ _ => stepR_skip) (h a ha)
theorem run_block {id : Nat} {c : Code} (h : Run C (.code c :: .inBlock id :: k) e w) : Run C (.code (.block id c) :: k) e w := fun a ha => RunA.step (fun _ _ => stepR_block) (h a ha)
theorem run_inBlock {id : Nat} (h : Run C k e w) : Run C (.inBlock id :: k) e w := fun a ha => RunA.step (fun _ _ => stepR_inBlock) (h a ha)
theorem run_exit {id : Nat} (hk : exitTo id k = some k') (h : Run C k' e w) : Run C (.code (.exit id) :: k) e w := fun a ha => RunA.step (fun _ _ => stepR_exit hk) (h a ha)
theorem run_inLoop {c : Code} (h : Run C (.code c :: .inLoop c :: k) e w) : Run C (.inLoop c :: k) e w := fun a ha => RunA.step (fun _ _ => stepR_inLoop) (h a ha)

theorem run_cond {c : Operand} {x y : Code} {t : Bool} (hc : look e c = some (.bool t)) (ht : t = true → Run C (.code x :: k) e w) (hf : t = false → Run C (.code y :: k) e w) : Run C (.code (.cond c x y) :: k) e w := fun a ha => by
  cases t with
  | true => exact RunA.step (k' := .code x :: k) (fun _ _ => by simpa using stepR_cond (ha.look hc)) (ht rfl a ha)
  | false => exact RunA.step (k' := .code y :: k) (fun _ _ => by simpa using stepR_cond (ha.look hc)) (hf rfl a ha)
theorem run_if {c : Operand} {x y : Code} {p : Prop} [hp : Decidable p] (hc : look e c = some (.bool (decide p))) (ht : p → Run C (.code x :: k) e w) (hf : ¬ p → Run C (.code y :: k) e w) : Run C (.code (.cond c x y) :: k) e w :=
  run_cond hc (fun h => ht (of_decide_eq_true h)) (fun h => hf (of_decide_eq_false h))
theorem run_true {c : Operand} {x y : Code} (hc : look e c = some (.bool true)) (h : Run C (.code x :: k) e w) : Run C (.code (.cond c x y) :: k) e w := run_cond hc (fun _ => h) (fun h => by cases h)
theorem run_false {c : Operand} {x y : Code} (hc : look e c = some (.bool false)) (h : Run C (.code y :: k) e w) : Run C (.code (.cond c x y) :: k) e w := run_cond hc (fun h => by cases h) (fun _ => h)

theorem run_loop {α : Type} {c : Code} (x0 : α) (E : α → Env) (I : α → World → Prop) (μ : α → Nat) (hE : Sub (E x0) e) (hI : I x0 w)
    (round : ∀ x w, I x w → (∀ y w', I y w' → μ y < μ x → Run C (.inLoop c :: k) (E y) w') → Run C (.code c :: .inLoop c :: k) (E x) w) : Run C (.code (.loop c) :: k) e w := by
  have key : ∀ n x w, μ x = n → I x w → Run C (.code c :: .inLoop c :: k) (E x) w := by
    intro n
    induction n using Nat.strongRecOn with
    | _ n ih =>
      intro x w hn hx
      exact round x w hx fun y w' hy hlt => run_inLoop (ih (μ y) (hn ▸ hlt) y w' rfl hy)
  exact fun a ha => RunA.step (fun _ _ => stepR_loop) (key _ x0 w rfl hI a (ha.sub hE))

end

def QK (C : Cx) (k : List Item) : Exit → Act → World → Prop
  | .normal, a, w => RunA C.P C.f C.rd C.dk (RetX C.R) k a w
  | _, _, _ => False
theorem QK.no {C : Cx} {k : List Item} : ¬ LetsOut (QK C k) := fun ⟨_, _, h⟩ => h

theorem runA_of_wpIn {C : Cx} {c : Code} {k : List Item} {a : Act} {w : World} {n : Nat} (h : c.wpIn (WF C.rd) n C.P (QK C k) a w) : RunA C.P C.f C.rd C.dk (RetX C.R) (.code c :: k) a w := by
  intro b hb hk hr cs
  obtain ⟨x, a', w', q, harr⟩ := h b k cs hr trivial (room_WF _ _)
  cases x with
  | normal => exact (q b hb hk hr cs).of_steps (StepsIn.steps harr)
  | outgrown => exact q.elim
  | exit id => exact q.elim
  | goto l => exact q.elim
  | ret => exact q.elim
  | panic ch => exact q.elim

def resOf (e : Env) : List ResultVar → Option (List Value)
  | [] => some []
  | .tmp t :: r => match fnd e t, resOf e r with
    | some v, some vs => some (v :: vs)
    | _, _ => none
  | _ => none

def resVal : List Value → Value
  | [v] => v
  | vs => .tuple vs.toArray

def resM (a : Act) : ResultVar → Sem Value
  | .tmp t => pure (a.tmps.getD t undef)
  | .cell x t => do loadVar t (← asAddr (a.tmps.getD x undef))

theorem mapM_res {n : Nat} {ms : List Dfr} {e : Env} {a : Act} (ha : EOk n ms e a) (P : Program) (w : World) : ∀ (rs : List ResultVar) (vs : List Value), resOf e rs = some vs →
    Sem.run P (rs.mapM (resM a)) w = .ok vs w := by
  intro rs
  induction rs with
  | nil => intro vs h; simp [resOf] at h; subst h; simp [go_sem]
  | cons r rs ih =>
    intro vs h
    cases r with
    | cell x t => simp [resOf] at h
    | tmp t =>
      simp only [resOf] at h
      split at h
      · rename_i v vs' hv hvs
        simp at h
        subst h
        have h1 := ih vs' hvs
        have hg : resM a (.tmp t) = pure v := by simp only [resM]; rw [ha.get t v hv]
        rw [List.mapM_cons, hg]
        simp only [pure_bind, Sem.run_bind, h1, Result.andThen, Sem.run_pure]
      · cases h

theorem results_run {n : Nat} {ms : List Dfr} {e : Env} {a : Act} (ha : EOk n ms e a) (P : Program) (w : World) (fn : Func) (vs : List Value) (h : resOf e fn.results.toList = some vs) :
    (results fn a.tmps).run P w = .ok (resVal vs) w := by
  have hm := mapM_res ha P w _ _ h
  have he : results fn a.tmps = (do
      let us ← fn.results.mapM (resM a)
      pure (if h : us.size = 1 then us[0] else .tuple us)) := rfl
  rw [he, ← Array.toArray_toList (xs := fn.results), List.mapM_toArray]
  simp only [Sem.run_bind, map_eq_pure_bind, hm, Result.andThen, Sem.run_pure]
  cases vs with
  | nil => simp [resVal]
  | cons v r => cases r with
    | nil => simp [resVal]
    | cons u r => simp [resVal]

def MarkedE (ms : List Dfr) (w : World) : Prop := ∀ d ∈ ms, ∃ D, d = .mk D ∧ w.heap[D]? = some (.deferred (some []))
def shutM : List Dfr → World → World
  | [], w => w
  | .mk D :: ms, w => shutM ms (w.putObj D (.deferred none))
  | .call .. :: ms, w => shutM ms w

theorem leaves_marks {P : Program} {fn : Func} {tmps : Array Value} {R : Ending → World → Prop} {v : Value} : ∀ (ms : List Dfr) (w : World), ms.Nodup → MarkedE ms w →
    (results fn tmps).run P (shutM ms w) = .ok v (shutM ms w) → R (.returned v) (shutM ms w) → LeavesInM Fence.wide 0 P fn tmps R (marks ms) .returning w
  | [], w, _, _, hr, hR => ⟨v, hr, hR⟩
  | .call f c a :: ms, w, _, hm, _, _ => by
    obtain ⟨D, h, -⟩ := hm _ (List.mem_cons_self ..)
    cases h
  | .mk D :: ms, w, hd, hm, hr, hR => by
    obtain ⟨D', h, hD⟩ := hm _ (List.mem_cons_self ..)
    cases h
    refine ⟨by simp, .inl ⟨D, _, rfl, run_takeDeferred hD, ?_⟩⟩
    refine leaves_marks ms _ (List.nodup_cons.1 hd).2 (fun d hd' => ?_) hr hR
    obtain ⟨D', rfl, hD'⟩ := hm d (by simp [hd'])
    refine ⟨D', rfl, ?_⟩
    rw [World.putObj_heap_other (fun h => (List.nodup_cons.1 hd).1 (by subst h; exact hd'))]
    exact hD'

section
variable {C : Cx} {k : List Item} {e : Env} {w : World} {fn : Func} {vs : List Value}

theorem lands_leave {f : FuncId} {P : Program} {R : Ending → World → Prop} {m : Machine} {b : Frame} {a : Act} {todo : List Item} {cs : List Frame} {ms : List Dfr} (hf : P.funcs[f]? = some fn) (hb : b.fn = f) (hk : b.kind = .normal)
    (hd : a.defers = marks ms) (hl : LeavesInM Fence.wide 0 P fn a.tmps R (marks ms) .returning w)
    (hs : Steps P m (lone { b.atR a todo with mode := .returning } cs w)) : Lands P f none false R m cs := by
  subst hb
  obtain ⟨x, w', fr', hR', hs', hfn', hl'⟩ := leaves_stepsInM (F := Fence.wide) (n := 0) a.defers .returning w { b.atR a todo with mode := .returning } cs rfl rfl rfl hf hk trivial (room_wide _)
    (by rw [hd]; exact hl)
  exact ⟨x, w', fr', hR', Comes.of_steps hs (comesIn_wide.1 hs'), hfn', hl'⟩

theorem run_retL (hrd : C.rd = none) (hdk : C.dk = false) (hf : C.P.funcs[C.f]? = some fn)
    (hr : ∀ a, EOk C.n C.ms e a → LeavesInM Fence.wide 0 C.P fn a.tmps (RetX C.R) (marks C.ms) .returning w) : Run C (.code .ret :: k) e w := fun a ha b hb hk hro cs => by
  rw [hdk] at hk ⊢
  rw [hrd] at hro ⊢
  exact lands_leave hf hb hk ha.defers (hr a ha) (.one (stepR_ret hro))
theorem run_endL (hrd : C.rd = none) (hdk : C.dk = false) (hf : C.P.funcs[C.f]? = some fn)
    (hr : ∀ a, EOk C.n C.ms e a → LeavesInM Fence.wide 0 C.P fn a.tmps (RetX C.R) (marks C.ms) .returning w) : Run C [] e w := fun a ha b hb hk hro cs => by
  rw [hdk] at hk ⊢
  rw [hrd] at hro ⊢
  exact lands_leave hf hb hk ha.defers (hr a ha) (.one (stepR_end hro))
theorem run_retS (hrd : C.rd = none) (hf : C.P.funcs[C.f]? = some fn) (hn : C.ms.Nodup) (hm : MarkedE C.ms w)
    (hr : ∀ a, EOk C.n C.ms e a → ∃ v, (results fn a.tmps).run C.P (shutM C.ms w) = .ok v (shutM C.ms w) ∧ RetX C.R (.returned v) (shutM C.ms w)) (hdk : C.dk = false := by rfl) : Run C (.code .ret :: k) e w :=
  run_retL hrd hdk hf fun a ha => let ⟨_, h1, h2⟩ := hr a ha; leaves_marks _ _ hn hm h1 h2
theorem run_endS (hrd : C.rd = none) (hf : C.P.funcs[C.f]? = some fn) (hn : C.ms.Nodup) (hm : MarkedE C.ms w)
    (hr : ∀ a, EOk C.n C.ms e a → ∃ v, (results fn a.tmps).run C.P (shutM C.ms w) = .ok v (shutM C.ms w) ∧ RetX C.R (.returned v) (shutM C.ms w)) (hdk : C.dk = false := by rfl) : Run C [] e w :=
  run_endL hrd hdk hf fun a ha => let ⟨_, h1, h2⟩ := hr a ha; leaves_marks _ _ hn hm h1 h2

end

section
variable {P : Program} {f : FuncId} {R : Value → World → Prop} {n : Nat} {k : List Item} {e : Env} {w : World} {fn : Func} {vs : List Value}
theorem run_ret (hf : P.funcs[f]? = some fn) (hr : resOf e fn.results.toList = some vs) (hR : RetX R (.returned (resVal vs)) w) : Run ⟨P, f, R, n, none, [], false⟩ (.code .ret :: k) e w :=
  run_retS rfl hf List.nodup_nil (fun _ h => by cases h) fun a ha => ⟨_, results_run ha P w fn vs hr, hR⟩
theorem run_end (hf : P.funcs[f]? = some fn) (hr : resOf e fn.results.toList = some vs) (hR : RetX R (.returned (resVal vs)) w) : Run ⟨P, f, R, n, none, [], false⟩ [] e w :=
  run_endS rfl hf List.nodup_nil (fun _ h => by cases h) fun a ha => ⟨_, results_run ha P w fn vs hr, hR⟩
end

def envOf : Nat → List Value → Env
  | _, [] => []
  | i, v :: r => (i, v) :: envOf (i + 1) r

theorem fnd_envOf : ∀ (l : List Value) (i j : Nat) (v : Value), fnd (envOf i l) j = some v → i ≤ j ∧ l[j - i]? = some v
  | [], _, _, _, h => by simp [envOf, fnd] at h
  | u :: r, i, j, v, h => by
    simp only [envOf, fnd] at h
    split at h
    · rename_i hb
      have := Nat.eq_of_beq_eq_true hb
      subst this
      simpa using h
    · rename_i hb
      have hne : j ≠ i := fun hh => by subst hh; simp at hb
      obtain ⟨h1, h2⟩ := fnd_envOf r (i + 1) j v h
      refine ⟨by omega, ?_⟩
      have : j - i = (j - (i + 1)) + 1 := by omega
      rw [this]
      simpa using h2

def Ret (P : Program) (f : FuncId) (args : List Value) (w : World) (S : Value → World → Prop) : Prop :=
  Calls P f args.toArray w fun x w' => ∃ v, x = .returned v ∧ S v w'

theorem Ret.mono {P : Program} {f : FuncId} {args : List Value} {w : World} {S S' : Value → World → Prop} (h : Ret P f args w S) (hs : ∀ v w', S v w' → S' v w') : Ret P f args w S' :=
  Calls.mono h fun _ _ ⟨v, hx, hv⟩ => ⟨v, hx, hs _ _ hv⟩

def RetD (P : Program) (f : FuncId) (args : List Value) (w : World) (S : Value → World → Prop) : Prop :=
  CallsDIn Fence.wide 0 P f args.toArray .returning w fun x u w' => u = .returning ∧ ∃ v, x = .returned v ∧ S v w'

theorem ret_of_run {P : Program} {f : FuncId} {fn : Func} {c : Code} {args : List Value} {e : Env} {w : World} {S : Value → World → Prop} {n : Nat}
    (hf : P.funcs[f]? = some fn) (hb : fn.body = some c) (hnt : fn.ntmps = n) (hn : Nat.ble args.length n = true) (he : envOf 0 args = e)
    (h : Run ⟨P, f, S, n, none, [], false⟩ [.code c] e w) : Ret P f args w S := by
  subst hnt
  intro cs
  let b : Frame := { (default : Frame) with fn := f, kind := .normal, roundOf := none }
  have hn' : args.length ≤ fn.ntmps := by simpa using hn
  let a : Act := { tmps := args.toArray ++ Array.replicate (fn.ntmps - args.toArray.size) undef, defers := [] }
  have henter : Frame.enter P f args.toArray .normal = b.atR a [.code c] := by
    simp [Frame.enter, Frame.atR, hf, hb, b, a]
  have hok : EOk fn.ntmps [] e a := by
    refine ⟨by simp [a]; omega, rfl, fun i v hi => ?_⟩
    subst he
    obtain ⟨-, h2⟩ := fnd_envOf args 0 i v hi
    simp at h2
    have hlt : i < args.length := by
      rcases Nat.lt_or_ge i args.length with h | h
      · exact h
      · simp [List.getElem?_eq_none h] at h2
    have h3 : args[i] = v := by simpa [List.getElem?_eq_getElem hlt] using h2
    simp only [a, Array.getD]
    rw [dif_pos (by simp; omega)]
    simp [hlt, h3]
  rw [henter]
  exact h a hok b rfl rfl rfl cs


def wantE (ops : List Oper) (e : Env) : Option (Nat × Bool) → Option Bool
  | none => some true
  | some (j, b) => match ops[j]? with
    | none => none
    | some oj => match oj.dst with
      | none => none
      | some d => match fnd e d with
        | some (.bool c) => some (match b with | true => c | false => !c)
        | some (.tuple _) => some false
        | _ => none

theorem wantE_spec {n : Nat} {ms : List Dfr} {ops : List Oper} {e : Env} {a : Act} {o : Oper} {t : Bool} (ha : EOk n ms e a) (hn : ∀ (j : Nat) (oj : Oper) (d : Nat), ops[j]? = some oj → oj.dst = some d → Nat.blt d n = true)
    (h : wantE ops e o.guard = some t) : Region.wanted o (yielded ops.toArray a.tmps) = t := by
  unfold Region.wanted
  cases hg : o.guard with
  | none => rw [hg] at h; simp [wantE] at h; simp [h]
  | some p =>
    obtain ⟨j, b⟩ := p
    rw [hg] at h
    simp only [wantE] at h
    split at h
    · cases h
    · rename_i oj hj
      split at h
      · cases h
      · rename_i d hd
        have hdn : d < n := by simpa using hn j oj d hj hd
        have hget : ∀ v, fnd e d = some v → a.tmps[d]? = some v := fun v hv => by
          have h1 := ha.get d v hv
          have h2 : d < a.tmps.size := by rw [ha.size]; exact hdn
          rw [Array.getElem?_eq_getElem h2]
          simpa [Array.getD, h2] using h1
        split at h
        · rename_i c hc
          have := hget _ hc
          simp only [yielded, List.getElem?_toArray, hj, Option.bind_some, hd, this]
          cases b <;> cases c <;> simp_all
        · rename_i hc
          have := hget _ hc
          simp only [yielded, List.getElem?_toArray, hj, Option.bind_some, hd, this]
          simp_all
        · cases h

def dstsOk (n : Nat) (ops : List Oper) : Bool := ops.all fun o => match o.dst with | some d => Nat.blt d n | none => true

theorem dstsOk_spec {n : Nat} {ops : List Oper} (h : dstsOk n ops = true) : ∀ (j : Nat) (oj : Oper) (d : Nat), ops[j]? = some oj → oj.dst = some d → Nat.blt d n = true := fun j oj d hj hd => by
  have := List.all_eq_true.1 h oj (List.mem_of_getElem? hj)
  simpa [hd] using this

def Y (P : Program) (e : Env) (o : Oper) (v : Value) (w w' : World) : Prop :=
  ∀ ρ : Operand → Value, (∀ x v, look e x = some v → ρ x = v) → (execOp ρ o).run P w = .ok (.value v) w'
def Z (P : Program) (e : Env) (o : Oper) (w w' : World) : Prop :=
  ∀ ρ : Operand → Value, (∀ x v, look e x = some v → ρ x = v) → (execOp ρ o).run P w = .ok .skip w'
def Yc (P : Program) (e : Env) (o : Oper) (f : FuncId) (args : List Value) (w : World) : Prop :=
  ∀ ρ : Operand → Value, (∀ x v, look e x = some v → ρ x = v) → (execOp ρ o).run P w = .ok (.enter f args.toArray) w

theorem callsIn_WF {rd : Option Nat} {n : Nat} {P : Program} {f : FuncId} {args : Array Value} {w : World} {R : Ending → World → Prop} (h : Calls P f args w R) : CallsIn (WF rd) n P f args w R :=
  (callsIn_wide (n := n)).2 h

theorem noDepth {rd : Option Nat} : (WF rd).depth.isSome = true → 1 ≤ 0 := fun h => by cases h

theorem semAt_run {P : Program} {rd : Option Nat} {ρ : Operand → Value} {o : Oper} {w w' : World} {x : Next} (h : (execOp ρ o).run P w = .ok x w') (hx : ∀ d, x ≠ .defer d) : (o.semAt rd ρ).run P w = .ok x w' := by
  unfold Oper.semAt
  split
  · rename_i l c ho
    exfalso
    simp only [execOp, ho, Sem.run_bind] at h
    cases hr : (resolve ρ c o.type).run P w with
    | ok d w1 =>
      rw [hr] at h
      simp only [Result.andThen, Sem.run_pure, Result.ok.injEq] at h
      exact hx d h.1.symm
    | halt y w1 =>
      rw [hr] at h
      simp [Result.andThen] at h
  · exact h

def calm (ops : List Oper) : Bool := ops.all fun o => match o.op with | .defer _ => false | _ => true

theorem wpIn_of_wp {P : Program} {rd : Option Nat} {o : Oper} {a : Act} {w : World} {K : Act → World → Prop} {Q : Exit → Act → World → Prop} (hc : ∀ c, o.op ≠ .defer c) (h : o.wp P a w K Q) : o.wpIn (WF rd) 0 P a w K Q := by
  refine ⟨fun _ _ => trivial, ?_⟩
  rw [Oper.semAt_eq _ _ _ hc]
  unfold Oper.wp at h
  generalize (execOp a.eval o).run P w = r at h ⊢
  cases r with
  | ok x w' =>
    cases x <;> simp only [Oper.upon, Oper.uponIn] at h ⊢ <;>
      first
        | exact h
        | exact h.elim
        | exact ⟨noDepth, callsIn_WF h⟩
        | exact ⟨noDepth, fun c cs _ => let ⟨v, w', hR, hs⟩ := h c cs; ⟨v, w', hR, stepsIn_wide.2 hs⟩⟩
  | halt x w' => cases x <;> simp only [Oper.upon, Oper.uponIn] at h ⊢ <;> exact h

def AtR (P : Program) (ops : Array Oper) (Q : Exit → Act → World → Prop) (i : Nat) (K : Act → World → Prop) (a : Act) (w : World) : Prop :=
  wpOp P ops Q i K a w ∨ ∃ o, ops[i]? = some o ∧ Region.wanted o (yielded ops a.tmps) = true ∧ ∃ l f tmps as1 bd, (execOp a.eval o).run P w = .ok (.round l f tmps as1 bd) w ∧
    RoundIn Fence.wide 0 P l f tmps as1 bd w fun e w'' => ∃ v, e = .returned v ∧ K (a.put o.dst v) w''
theorem AtR.mono {P : Program} {ops : Array Oper} {Q : Exit → Act → World → Prop} {i : Nat} {K K' : Act → World → Prop} {a : Act} {w : World} (hK : ∀ a w, K a w → K' a w) (h : AtR P ops Q i K a w) : AtR P ops Q i K' a w := by
  rcases h with h | ⟨o, ho, hw, l, f, tm, as1, bd, hr, hR⟩
  · exact .inl (wpOp_mono hK h)
  · exact .inr ⟨o, ho, hw, l, f, tm, as1, bd, hr, hR.mono fun e w' ⟨v, he, hv⟩ => ⟨v, he, hK _ _ hv⟩⟩
def HeldR (P : Program) (ops : Array Oper) (Q : Exit → Act → World → Prop) (S : World → Prop) : Nat → Array Bool → Act → World → Prop
  | 0, listed, a, w => Region.ready .any ops listed = [] ∧ Q .normal a w
  | n + 1, listed, a, w => (Region.ready .any ops listed = [] → Q .normal a w) ∧
      ∀ i ∈ Region.ready .any ops listed, AtR P ops Q i (fun a' w' => S w' ∧ HeldR P ops Q S n (listed.setIfInBounds i true) a' w') a w

theorem opIn_of_op {P : Program} {rd : Option Nat} {ops : List Oper} {Q : Exit → Act → World → Prop} {K K' : Act → World → Prop} {i : Nat} {a : Act} {w : World} (hc : calm ops = true) (hno : ¬ LetsOut Q) (hK : ∀ a w, K a w → K' a w)
    (h : AtR P ops.toArray Q i K a w) : wpOpIn (WF rd) 0 P ops.toArray Q i K' a w := by
  rcases h with h2 | ⟨o, ho, hw, l, f, tm, as1, bd, hr, hR⟩
  · unfold wpOp at h2
    unfold wpOpIn
    cases ho : ops.toArray[i]? with
    | none =>
      rw [ho] at h2
      exact hK _ _ h2
    | some o =>
      rw [ho] at h2
      have hcm : ∀ c, o.op ≠ .defer c := fun c hh => by
        have hm := List.all_eq_true.1 hc o (List.mem_of_getElem? (by simpa using ho))
        rw [hh] at hm
        cases hm
      by_cases hw : Region.wanted o (yielded ops.toArray a.tmps) = true
      · simp only [hw, if_true] at h2 ⊢
        rcases h2 with h2 | h2
        · exact Oper.wpIn_mono hK (wpIn_of_wp hcm h2)
        · exact absurd h2.2 hno
      · simp only [hw] at h2 ⊢
        exact ⟨fun _ _ => trivial, hK _ _ h2⟩
  · unfold wpOpIn
    simp only [ho, hw, if_true]
    refine ⟨fun _ _ => trivial, ?_⟩
    rw [semAt_run hr (fun _ h => by cases h)]
    refine ⟨noDepth, ?_⟩
    have hR' : RoundIn Fence.wide 0 P l f tm as1 bd w fun
        | .returned v, w'' => K' (a.put o.dst v) w''
        | .panicked chain, w'' => Q (.panic chain) a w''
        | .outgrown, _ => LetsOut Q := hR.mono fun e w' ⟨v, he, hv⟩ => by subst he; exact hK _ _ hv
    exact hR'
theorem wpAnyIn_of_held {P : Program} {rd : Option Nat} {ops : List Oper} {Q : Exit → Act → World → Prop} {S : World → Prop} (hc : calm ops = true) (hno : ¬ LetsOut Q) : ∀ (fuel : Nat) (listed : Array Bool) (a : Act) (w : World),
    HeldR P ops.toArray Q S fuel listed a w → wpAnyIn (WF rd) 0 P .any ops.toArray Q fuel listed a w
  | 0, _, _, _, h => h
  | fuel + 1, _, _, _, h => ⟨h.1, fun i hi => opIn_of_op hc hno (fun _ _ hh => wpAnyIn_of_held hc hno fuel _ _ _ hh.2) (h.2 i hi)⟩

section
variable {P : Program} {ops : Array Oper} {Q : Exit → Act → World → Prop} {S : World → Prop}
theorem atR_put {j : Nat} {oi oj : Oper} {v : Value} {K : Act → World → Prop} {a : Act} {w : World} (hj : ops[j]? = some oj) (hap : oi.apart ops oj = true) (hsi : ∀ cs b, oi.op ≠ .select cs b) (hsj : ∀ cs b, oj.op ≠ .select cs b)
    (hQ : ∀ c a w, Q (.panic c) (a.put oi.dst v) w → Q (.panic c) a w) (hy : YieldsIf P ops S oi v a) (h : AtR P ops Q j K (a.put oi.dst v) w) : AtR P ops Q j (fun a' w' => YieldsIf P ops S oi v a' ∧ K (a'.put oi.dst v) w') a w := by
  rcases h with h | ⟨o, ho, hw, l, f, tm, as1, bd, hr, hR⟩
  · exact .inl (wpOp_putIf hj hap hsi hsj hQ hy h)
  · obtain rfl : oj = o := by rw [hj] at ho; exact Option.some.inj ho
    obtain ⟨h1, h2, h3⟩ := Oper.apart_spec hap
    rw [wanted_put oj a oi.dst v h1] at hw
    rw [execOp_put oj hsj a oi.dst v h1] at hr
    exact .inr ⟨oj, hj, hw, l, f, tm, as1, bd, hr, hR.mono fun e w' ⟨u, he, hK⟩ => ⟨u, he, hy.of_same (execOp_put oi hsi a oj.dst u h3) (wanted_put oi a oj.dst u h3), by rw [← Act.put_comm a v u h2]; exact hK⟩⟩
theorem atR_yields {i : Nat} {o : Oper} {v : Value} {a : Act} {w : World} {K : Act → World → Prop} (hi : ops[i]? = some o) (hy : YieldsIf P ops S o v a) (hS : S w) (h : K (a.put o.dst v) w) : AtR P ops Q i K a w := .inl (hy.wpOp hi hS h)
theorem heldR_ahead {i : Nat} {oi : Oper} {v : Value} (hi : ops[i]? = some oi) (hsel : ∀ (j : Nat) (o : Oper) cs b, ops[j]? = some o → o.op ≠ .select cs b) (hQ : ∀ c a w, Q (.panic c) (a.put oi.dst v) w → Q (.panic c) a w) : ∀ (n : Nat) (listed : Array Bool) (a : Act) (w : World),
    (∀ j oj, ops[j]? = some oj → j ≠ i → listed.getD j true = false → (∀ e ∈ oj.after, Region.binds .any e = true → e.on ≠ i) → oi.apart ops oj = true) → i ∈ Region.ready .any ops listed → YieldsIf P ops S oi v a → S w →
    HeldR P ops Q S n (listed.setIfInBounds i true) (a.put oi.dst v) w → HeldR P ops Q S (n + 1) listed a w := by
  intro n
  induction n with
  | zero =>
    intro listed a w _ hr hy hS H
    constructor
    · intro h0; rw [h0] at hr; cases hr
    · intro j hj
      by_cases e : j = i
      · subst e; exact atR_yields hi hy hS ⟨hS, H⟩
      · exact absurd (ready_mono hj e) (by rw [H.1]; exact List.not_mem_nil)
  | succ n ih =>
    intro listed a w hap hr hy hS H
    constructor
    · intro h0; rw [h0] at hr; cases hr
    · intro j hj
      by_cases e : j = i
      · subst e; exact atR_yields hi hy hS ⟨hS, H⟩
      · obtain ⟨hun, oj, hoj, hall⟩ := mem_ready.1 hj
        have hni : listed.getD i true = false := (mem_ready.1 hr).1
        have hwait : ∀ x ∈ oj.after, Region.binds .any x = true → x.on ≠ i := fun x hx hb heq => by
          have h1 := hall x hx hb
          rw [heq] at h1
          by_cases hlt : i < listed.size
          · simp [hlt] at hni h1; rw [hni] at h1; cases h1
          · simp [Array.getElem?_eq_none (by omega : listed.size ≤ i)] at h1
        have h2 := atR_put hoj (hap j oj hoj e hun hwait) (fun cs b => hsel i oi cs b hi) (fun cs b => hsel j oj cs b hoj) hQ hy (H.2 j (ready_mono hj e))
        refine AtR.mono (fun a' w' h3 => ⟨h3.2.1, ?_⟩) h2
        refine ih (listed.setIfInBounds j true) a' w' (fun m om hm hmi hmu hno => ?_) (ready_mono hr (Ne.symm e)) h3.1 h3.2.1 ?_
        · refine hap m om hm hmi ?_ hno
          by_cases hjm : j = m
          · subst hjm; exact hun
          · rw [getD_set_ne true hjm] at hmu; exact hmu
        · rw [Array.setIfInBounds_comm _ _ e]; exact h3.2.2
theorem heldR_take {i : Nat} {oi : Oper} {v : Value} {fuel : Nat} {listed : Array Bool} {a : Act} {w : World} (hi : ops[i]? = some oi) (hs : Region.noSelect ops = true) (hf : Region.free .any ops listed i = true) (hr : (Region.ready .any ops listed).contains i = true)
    (hQ : ∀ c a w, Q (.panic c) (a.put oi.dst v) w → Q (.panic c) a w) (hy : YieldsIf P ops S oi v a) (hS : S w) (h : HeldR P ops Q S fuel (listed.setIfInBounds i true) (a.put oi.dst v) w) : HeldR P ops Q S (fuel + 1) listed a w :=
  heldR_ahead hi (Region.noSelect_spec hs) hQ fuel listed a w (Region.free_spec hi hf) (by simpa using hr) hy hS h
theorem heldR_all {rs : List Nat} {fuel : Nat} {listed : Array Bool} {a : Act} {w : World} (hr : Region.ready .any ops listed = rs) (hne : rs ≠ []) (h : ∀ i ∈ rs, AtR P ops Q i (fun a' w' => S w' ∧ HeldR P ops Q S fuel (listed.setIfInBounds i true) a' w') a w) : HeldR P ops Q S (fuel + 1) listed a w :=
  ⟨fun h0 => absurd (hr ▸ h0) hne, hr ▸ h⟩
theorem heldR_done {listed : Array Bool} {a : Act} {w : World} (hr : Region.ready .any ops listed = []) (h : Q .normal a w) : ∀ fuel, HeldR P ops Q S fuel listed a w
  | 0 => ⟨hr, h⟩
  | _ + 1 => ⟨fun _ => h, by rw [hr]; simp⟩
end

structure RC where
  C : Cx
  ops : List Oper
  k : List Item
  ok : dstsOk C.n ops = true

def RL (D : RC) (l : List Oper) (e : Env) (w : World) : Prop := ∀ a, EOk D.C.n D.C.ms e a → wpListIn (WF D.C.rd) 0 D.C.P D.ops.toArray (QK D.C D.k) l a w

theorem run_reg {C : Cx} {id : Nat} {ops : List Oper} {k : List Item} {e : Env} {w : World} (ho : dstsOk C.n ops = true) (h : RL ⟨C, ops, k, ho⟩ ops e w) : Run C (.code (.region id ops.toArray false) :: k) e w :=
  fun a ha => runA_of_wpIn (wpIn_region_lit (h a ha))

def okg (ops : List Oper) (e : Env) (t : Bool) : Option (Nat × Bool) → Bool
  | none => t
  | some p => match wantE ops e (some p), t with | some true, true => true | some false, false => true | _, _ => false
def okw (D : RC) (e : Env) (g : Option (Nat × Bool)) (t : Bool) : Bool := okg D.ops e t g

theorem okw_spec {D : RC} {e : Env} {o : Oper} {t : Bool} {a : Act} (ha : EOk D.C.n D.C.ms e a) (h : okw D e o.guard t = true) : Region.wanted o (yielded D.ops.toArray a.tmps) = t := by
  refine wantE_spec ha (dstsOk_spec D.ok) ?_
  unfold okw okg at h
  split at h
  · rename_i hg
    rw [hg]
    simp only [wantE]
    rw [h]
  · rename_i p hg
    rw [hg]
    split at h
    · rename_i hw; exact hw
    · rename_i hw; exact hw
    · cases h

section
variable {D : RC} {l : List Oper} {e : Env} {w w' : World} {d : Nat} {op : Op} {ty : TypeId} {pos : String} {aft : Array Edge} {g : Option (Nat × Bool)}

theorem rEnd (h : Run D.C D.k e w) : RL D [] e w := fun a ha => h a ha

theorem wpList_want {F : Fence} {n : Nat} {P : Program} {ops : Array Oper} {Q : Exit → Act → World → Prop} {a : Act} {w : World} {rest : List Oper} {o : Oper} (hw : Region.wanted o (yielded ops a.tmps) = true)
    (h : o.wpIn F n P a w (wpListIn F n P ops Q rest) Q) : wpListIn F n P ops Q (o :: rest) a w := by
  simp only [wpListIn, hw, if_true]; exact h

theorem rVal {v : Value} (ho : okw D e g true = true) (hd : Nat.blt d D.C.n = true) (hy : Y D.C.P e ⟨some d, op, ty, pos, aft, g⟩ v w w') (h : RL D l ((d, v) :: e) w') :
    RL D (⟨some d, op, ty, pos, aft, g⟩ :: l) e w := fun a ha => by
  refine wpList_want (okw_spec ha ho) ⟨fun _ _ => trivial, ?_⟩
  have := hy a.eval (fun x v hx => ha.look hx)
  rw [semAt_run this (fun _ h => by cases h)]
  exact h _ (ha.put hd v)

theorem rVal0 {v : Value} (ho : okw D e g true = true) (hy : Y D.C.P e ⟨none, op, ty, pos, aft, g⟩ v w w') (h : RL D l e w') :
    RL D (⟨none, op, ty, pos, aft, g⟩ :: l) e w := fun a ha => by
  refine wpList_want (okw_spec ha ho) ⟨fun _ _ => trivial, ?_⟩
  have := hy a.eval (fun x v hx => ha.look hx)
  rw [semAt_run this (fun _ h => by cases h)]
  exact h _ (ha.put0 v)

theorem rEff (ho : okw D e g true = true) (hy : Z D.C.P e ⟨none, op, ty, pos, aft, g⟩ w w') (h : RL D l e w') :
    RL D (⟨none, op, ty, pos, aft, g⟩ :: l) e w := fun a ha => by
  refine wpList_want (okw_spec ha ho) ⟨fun _ _ => trivial, ?_⟩
  have := hy a.eval (fun x v hx => ha.look hx)
  rw [semAt_run this (fun _ h => by cases h)]
  exact h _ (ha.put0 undef)

theorem rSkip (ho : okw D e g false = true) (hd : Nat.blt d D.C.n = true) (h : RL D l ((d, undef) :: e) w) : RL D (⟨some d, op, ty, pos, aft, g⟩ :: l) e w := fun a ha => by
  have hw := okw_spec (o := ⟨some d, op, ty, pos, aft, g⟩) ha ho
  simp only [wpListIn, hw]
  exact ⟨fun _ _ => trivial, h _ (ha.put hd undef)⟩

theorem rCall {f : FuncId} {args : List Value} {S : Value → World → Prop} (ho : okw D e g true = true) (hd : Nat.blt d D.C.n = true) (hy : Yc D.C.P e ⟨some d, op, ty, pos, aft, g⟩ f args w)
    (hc : Ret D.C.P f args w S) (h : ∀ v w', S v w' → RL D l ((d, v) :: e) w') : RL D (⟨some d, op, ty, pos, aft, g⟩ :: l) e w := fun a ha => by
  refine wpList_want (okw_spec ha ho) ⟨fun _ _ => trivial, ?_⟩
  have := hy a.eval (fun x v hx => ha.look hx)
  rw [semAt_run this (fun _ h => by cases h)]
  exact ⟨noDepth, callsIn_WF (Calls.mono hc fun x w' ⟨v, hx, hv⟩ => by subst hx; exact h v w' hv _ (ha.put hd v))⟩

theorem rVal_if {p : Prop} [hp : Decidable p] (ht : p → RL D l ((d, .bool true) :: e) w) (hf : ¬ p → RL D l ((d, .bool false) :: e) w) : RL D l ((d, .bool (decide p)) :: e) w := by
  by_cases h : p
  · simp only [h, decide_true]; exact ht h
  · simp only [h, decide_false]; exact hf h
theorem rVal_bool {b : Bool} (ht : b = true → RL D l ((d, .bool true) :: e) w) (hf : b = false → RL D l ((d, .bool false) :: e) w) : RL D l ((d, .bool b) :: e) w := by
  cases b with
  | true => exact ht rfl
  | false => exact hf rfl

theorem rTrue {p : Prop} [hp : Decidable p] (h : p) (hr : RL D l ((d, .bool true) :: e) w) : RL D l ((d, .bool (decide p)) :: e) w := by
  simp only [h, decide_true]; exact hr
theorem rFalse {p : Prop} [hp : Decidable p] (h : ¬ p) (hr : RL D l ((d, .bool false) :: e) w) : RL D l ((d, .bool (decide p)) :: e) w := by
  simp only [h, decide_false]; exact hr
theorem RL.sub {e' : Env} (h : RL D l e w) (hs : Sub e e') : RL D l e' w := fun a ha => h a (ha.sub hs)
end

theorem run_cut {C : Cx} {i : Item} {k : List Item} {e : Env} {w : World} (J : Env → World → Prop) (hk : ∀ e w, J e w → Run C k e w) (h : (∀ e w, J e w → Run C k e w) → Run C (i :: k) e w) : Run C (i :: k) e w := h hk
theorem run_cut2 {C : Cx} {i : Item} {id : Nat} {k : List Item} {e : Env} {w : World} (J : Env → World → Prop) (hk : ∀ e w, J e w → Run C k e w) (h : (∀ e w, J e w → Run C k e w) → Run C (i :: .inBlock id :: k) e w) : Run C (i :: .inBlock id :: k) e w := h hk
/-! ### A region that draws its order: 'S' holds of the world all through. -/

def RH (D : RC) (S : World → Prop) (fuel : Nat) (listed : Array Bool) (e : Env) (w : World) : Prop :=
  ∀ a, EOk D.C.n D.C.ms e a → HeldR D.C.P D.ops.toArray (QK D.C D.k) S fuel listed a w

theorem run_draw {C : Cx} {id : Nat} {ops : List Oper} {k : List Item} {e : Env} {w : World} (S : World → Prop) (hm : C.P.follows .mixedOrders = true)
    (ho : dstsOk C.n ops = true) (h : RH ⟨C, ops, k, ho⟩ S ops.length (Array.replicate ops.length false) e w.drew) (hc : calm ops = true := by rfl) : Run C (.code (.region id ops.toArray true) :: k) e w :=
  fun a ha => runA_of_wpIn (wpIn_region_any hm (wpAnyIn_of_held hc QK.no _ _ _ _ (by simpa using h a ha)))

def readyIs (ops : List Oper) (listed : Array Bool) (rs : List Nat) : Bool := Region.ready .any ops.toArray listed == rs
def freeNow (ops : List Oper) (listed : Array Bool) (i : Nat) : Bool := Region.noSelect ops.toArray && Region.free .any ops.toArray listed i && (Region.ready .any ops.toArray listed).contains i

section
variable {D : RC} {S : World → Prop} {e : Env} {w w' : World} {d i fuel : Nat} {op : Op} {ty : TypeId} {pos : String} {aft : Array Edge} {g : Option (Nat × Bool)} {listed : Array Bool}

theorem hEnd (hr : readyIs D.ops listed [] = true) (h : Run D.C D.k e w) : RH D S fuel listed e w := fun a ha => heldR_done (by simpa [readyIs] using hr) (h a ha) _

theorem freeNow_spec {ops : List Oper} (h : freeNow ops listed i = true) : Region.noSelect ops.toArray = true ∧ Region.free .any ops.toArray listed i = true ∧ (Region.ready .any ops.toArray listed).contains i = true := by
  simp only [freeNow, Bool.and_eq_true] at h
  exact ⟨h.1.1, h.1.2, h.2⟩

theorem hTake {v : Value} (hi : D.ops[i]? = some ⟨some d, op, ty, pos, aft, g⟩) (hf : freeNow D.ops listed i = true) (ho : okw D e g true = true) (hd : Nat.blt d D.C.n = true)
    (hy : ∀ w, S w → Y D.C.P e ⟨some d, op, ty, pos, aft, g⟩ v w w) (hS : S w) (h : RH D S fuel (listed.setIfInBounds i true) ((d, v) :: e) w) : RH D S (fuel + 1) listed e w := fun a ha => by
  obtain ⟨h1, h2, h3⟩ := freeNow_spec hf
  exact heldR_take (v := v) (by simpa using hi) h1 h2 h3 (fun _ _ _ h => h) (.inl ⟨okw_spec ha ho, fun w hw => hy w hw a.eval (fun x v hx => ha.look hx)⟩) hS (h _ (ha.put hd v))

theorem hSkip (hi : D.ops[i]? = some ⟨some d, op, ty, pos, aft, g⟩) (hf : freeNow D.ops listed i = true) (ho : okw D e g false = true) (hd : Nat.blt d D.C.n = true)
    (hS : S w) (h : RH D S fuel (listed.setIfInBounds i true) ((d, undef) :: e) w) : RH D S (fuel + 1) listed e w := fun a ha => by
  obtain ⟨h1, h2, h3⟩ := freeNow_spec hf
  exact heldR_take (v := undef) (by simpa using hi) h1 h2 h3 (fun _ _ _ h => h) (.inr ⟨okw_spec ha ho, rfl⟩) hS (h _ (ha.put hd undef))

def Nx (D : RC) (S : World → Prop) (fuel : Nat) (listed : Array Bool) (e : Env) (w : World) (i : Nat) : Prop :=
  ∀ a, EOk D.C.n D.C.ms e a → AtR D.C.P D.ops.toArray (QK D.C D.k) i (fun a' w' => S w' ∧ HeldR D.C.P D.ops.toArray (QK D.C D.k) S fuel (listed.setIfInBounds i true) a' w') a w

theorem hOne (hr : readyIs D.ops listed [i] = true) (h : Nx D S fuel listed e w i) : RH D S (fuel + 1) listed e w := fun a ha =>
  heldR_all (rs := [i]) (by simpa [readyIs] using hr) (by simp) fun j hj => by simp at hj; subst hj; exact h a ha
theorem hTwo {j : Nat} (hr : readyIs D.ops listed [i, j] = true) (h : Nx D S fuel listed e w i) (h' : Nx D S fuel listed e w j) : RH D S (fuel + 1) listed e w := fun a ha =>
  heldR_all (rs := [i, j]) (by simpa [readyIs] using hr) (by simp) fun m hm => by
    simp at hm
    rcases hm with rfl | rfl
    · exact h a ha
    · exact h' a ha
theorem Nx.mk_wp {o : Oper} (hi : D.ops[i]? = some o) (ho : okw D e o.guard true = true)
    (h : ∀ a, EOk D.C.n D.C.ms e a → o.wp D.C.P a w (fun a' w' => S w' ∧ HeldR D.C.P D.ops.toArray (QK D.C D.k) S fuel (listed.setIfInBounds i true) a' w') (QK D.C D.k)) : Nx D S fuel listed e w i := fun a ha => by
  have hw := okw_spec ha ho
  refine .inl ?_
  unfold wpOp
  simp only [List.getElem?_toArray, hi]
  rw [if_pos hw]
  exact .inl (h a ha)

theorem nVal {v : Value} (hi : D.ops[i]? = some ⟨some d, op, ty, pos, aft, g⟩) (ho : okw D e g true = true) (hd : Nat.blt d D.C.n = true)
    (hy : Y D.C.P e ⟨some d, op, ty, pos, aft, g⟩ v w w') (hS : S w') (h : RH D S fuel (listed.setIfInBounds i true) ((d, v) :: e) w') : Nx D S fuel listed e w i :=
  Nx.mk_wp hi ho fun a ha => by
    have := hy a.eval (fun x v hx => ha.look hx)
    unfold Oper.wp
    rw [this]
    exact ⟨hS, h _ (ha.put hd v)⟩
theorem nEff (hi : D.ops[i]? = some ⟨none, op, ty, pos, aft, g⟩) (ho : okw D e g true = true)
    (hy : Z D.C.P e ⟨none, op, ty, pos, aft, g⟩ w w') (hS : S w') (h : RH D S fuel (listed.setIfInBounds i true) e w') : Nx D S fuel listed e w i :=
  Nx.mk_wp hi ho fun a ha => by
    have := hy a.eval (fun x v hx => ha.look hx)
    unfold Oper.wp
    rw [this]
    exact ⟨hS, h _ (ha.put0 undef)⟩
theorem nCall {f : FuncId} {args : List Value} {T : Value → World → Prop} (hi : D.ops[i]? = some ⟨some d, op, ty, pos, aft, g⟩) (ho : okw D e g true = true) (hd : Nat.blt d D.C.n = true)
    (hy : Yc D.C.P e ⟨some d, op, ty, pos, aft, g⟩ f args w) (hc : Ret D.C.P f args w T) (h : ∀ v w', T v w' → S w' ∧ RH D S fuel (listed.setIfInBounds i true) ((d, v) :: e) w') : Nx D S fuel listed e w i :=
  Nx.mk_wp hi ho fun a ha => by
    have := hy a.eval (fun x v hx => ha.look hx)
    unfold Oper.wp
    rw [this]
    exact Calls.mono hc fun x w' ⟨v, hx, hv⟩ => by subst hx; exact ⟨(h v w' hv).1, (h v w' hv).2 _ (ha.put hd v)⟩
theorem rh_if {p : Prop} [hp : Decidable p] (ht : p → RH D S fuel listed ((d, .bool true) :: e) w) (hf : ¬ p → RH D S fuel listed ((d, .bool false) :: e) w) : RH D S fuel listed ((d, .bool (decide p)) :: e) w := by
  by_cases h : p
  · simp only [h, decide_true]; exact ht h
  · simp only [h, decide_false]; exact hf h
theorem rh_bool {b : Bool} (ht : b = true → RH D S fuel listed ((d, .bool true) :: e) w) (hf : b = false → RH D S fuel listed ((d, .bool false) :: e) w) : RH D S fuel listed ((d, .bool b) :: e) w := by
  cases b with
  | true => exact ht rfl
  | false => exact hf rfl
theorem hTrue {p : Prop} [hp : Decidable p] (h : p) (hr : RH D S fuel listed ((d, .bool true) :: e) w) : RH D S fuel listed ((d, .bool (decide p)) :: e) w := by
  simp only [h, decide_true]; exact hr
theorem hFalse {p : Prop} [hp : Decidable p] (h : ¬ p) (hr : RH D S fuel listed ((d, .bool false) :: e) w) : RH D S fuel listed ((d, .bool (decide p)) :: e) w := by
  simp only [h, decide_false]; exact hr
theorem RH.sub {e' : Env} (h : RH D S fuel listed e w) (hsb : Sub e e') : RH D S fuel listed e' w := fun a ha => h a (ha.sub hsb)
end

/-! ### Memory -/

def Blk (w : World) (b : Nat) (cs : List Value) (T : TypeId) : Prop := ∃ fz : Nat × Nat, w.heap[b]? = some (.cells cs.toArray T fz) ∧ ∀ i, i < cs.length → ¬ (fz.1 ≤ i ∧ i < fz.2)

theorem Blk.lt {w : World} {b : Nat} {cs : List Value} {T : TypeId} (h : Blk w b cs T) : b < w.heap.size := by
  obtain ⟨fz, h, -⟩ := h
  rcases Nat.lt_or_ge b w.heap.size with h' | h'
  · exact h'
  · simp [Array.getElem?_eq_none h'] at h

theorem Blk.cell {w : World} {b : Nat} {cs : List Value} {T : TypeId} (h : Blk w b cs T) (i : Nat) : w.cell? ⟨b, i, none⟩ = cs[i]? := by
  obtain ⟨fz, h, -⟩ := h
  simp [World.cell?, h]

theorem Blk.free {w : World} {b : Nat} {cs : List Value} {T : TypeId} (h : Blk w b cs T) {i : Nat} (hi : i < cs.length) : w.frozen? ⟨b, i, none⟩ = false := by
  obtain ⟨fz, h, hf⟩ := h
  have := hf i hi
  simp only [World.frozen?, h]
  simpa using this

structure Kp (S : Nat → Prop) (w w' : World) : Prop where
  os : w'.os = w.os
  tape : w'.tape = w.tape
  output : w'.output = w.output
  size : w.heap.size ≤ w'.heap.size
  block : ∀ k, k < w.heap.size → ¬ S k → w'.heap[k]? = w.heap[k]?

def Ext (w w' : World) : Prop := Kp (fun _ => False) w w'

theorem Kp.refl (S : Nat → Prop) (w : World) : Kp S w w := ⟨rfl, rfl, rfl, Nat.le_refl _, fun _ _ _ => rfl⟩
theorem Kp.trans {S : Nat → Prop} {a b c : World} (h : Kp S a b) (k : Kp S b c) : Kp S a c :=
  ⟨k.os.trans h.os, k.tape.trans h.tape, k.output.trans h.output, Nat.le_trans h.size k.size, fun i hi hs => (k.block i (Nat.lt_of_lt_of_le hi h.size) hs).trans (h.block i hi hs)⟩
theorem Kp.mono {S S' : Nat → Prop} {w w' : World} (h : Kp S w w') (hs : ∀ k, k < w.heap.size → S k → S' k) : Kp S' w w' := ⟨h.os, h.tape, h.output, h.size, fun k hk hn => h.block k hk fun hh => hn (hs k hk hh)⟩
theorem Kp.mono' {S S' : Nat → Prop} {w w' : World} (h : Kp S w w') (hs : ∀ k, S k → S' k) : Kp S' w w' := h.mono fun k _ => hs k
theorem Ext.kp {S : Nat → Prop} {w w' : World} (h : Ext w w') : Kp S w w' := Kp.mono h fun _ _ hh => hh.elim
theorem Ext.refl (w : World) : Ext w w := Kp.refl _ w
theorem Ext.trans {a b c : World} (h : Ext a b) (k : Ext b c) : Ext a c := Kp.trans h k
theorem Kp.drew {S : Nat → Prop} {a w : World} (h : Kp S a w) : Kp S a w.drew := ⟨h.os, h.tape, h.output, h.size, h.block⟩
theorem Ext.drew {a w : World} (h : Ext a w) : Ext a w.drew := Kp.drew h
theorem Ext.drew0 (w : World) : Ext w w.drew := (Ext.refl w).drew
theorem Kp.trans_new {S S' : Nat → Prop} {a b c : World} (h : Kp S a b) (k : Kp S' b c) (hs : ∀ i, S' i → a.heap.size ≤ i ∨ S i) : Kp S a c :=
  ⟨k.os.trans h.os, k.tape.trans h.tape, k.output.trans h.output, Nat.le_trans h.size k.size, fun i hi hn =>
    (k.block i (Nat.lt_of_lt_of_le hi h.size) fun hh => by rcases hs i hh with h' | h'; omega; exact hn h').trans (h.block i hi hn)⟩
theorem Ext.trans_new {S' : Nat → Prop} {a b c : World} (h : Ext a b) (k : Kp S' b c) (hs : ∀ i, S' i → a.heap.size ≤ i) : Ext a c := Kp.trans_new h k fun i hi => .inl (hs i hi)
theorem Ext.below {w w' : World} (h : Ext w w') : Below w.heap.size w w' := ⟨h.os, h.tape, h.output, h.size, fun k hk => h.block k hk id⟩
theorem Ext.of_below {w w' : World} (h : Below w.heap.size w w') : Ext w w' := ⟨h.os, h.tape, h.output, h.size, fun k hk _ => h.block k hk⟩

theorem Kp.blk {S : Nat → Prop} {w w' : World} {b : Nat} {cs : List Value} {T : TypeId} (h : Kp S w w') (hb : Blk w b cs T) (hn : ¬ S b) : Blk w' b cs T := by
  have hlt := hb.lt
  obtain ⟨fz, hb, hf⟩ := hb
  exact ⟨fz, by rw [h.block b hlt hn]; exact hb, hf⟩
theorem Ext.blk {w w' : World} {b : Nat} {cs : List Value} {T : TypeId} (h : Ext w w') (hb : Blk w b cs T) : Blk w' b cs T := Kp.blk h hb id
theorem Kp.heap {S : Nat → Prop} {w w' : World} {b : Nat} {o : Obj} (h : Kp S w w') (hb : w.heap[b]? = some o) (hn : ¬ S b) : w'.heap[b]? = some o := by
  have hlt : b < w.heap.size := by
    rcases Nat.lt_or_ge b w.heap.size with h' | h'
    · exact h'
    · simp [Array.getElem?_eq_none h'] at hb
  rw [h.block b hlt hn]; exact hb

theorem ext_alloc (w : World) (o : Obj) : Ext w (w.alloc o) := ⟨rfl, rfl, rfl, by simp, fun k hk _ => by rw [Below.heap_alloc _ _ _ hk]⟩
theorem heap_new (w : World) (o : Obj) : (w.alloc o).heap[w.heap.size]? = some o := by
  show (w.heap.push o)[w.heap.size]? = _
  simp
theorem blk_new (w : World) (cs : List Value) (T : TypeId) : Blk (w.alloc (.cells cs.toArray T)) w.heap.size cs T := ⟨(0, 0), by rw [heap_new], fun i _ h => by simp at h⟩

theorem kp_setCell (w : World) (b i : Nat) (v : Value) : Kp (fun k => k = b) w (w.setCell ⟨b, i, none⟩ v) := ⟨rfl, rfl, rfl, by simp [World.setCell], fun k _ hn => Below.heap_setCell _ _ _ _ hn⟩
theorem blk_setCell {w : World} {b : Nat} {cs : List Value} {T : TypeId} (h : Blk w b cs T) (i : Nat) (v : Value) : Blk (w.setCell ⟨b, i, none⟩ v) b (cs.set i v) T := by
  obtain ⟨fz, h, hf⟩ := h
  refine ⟨fz, ?_, by simpa using hf⟩
  simp [World.setCell, Array.getElem?_modify, h]

/-! ### Types -/

def aggOf : TypeDesc → Bool
  | .struct _ | .array _ _ => true
  | _ => false

def TI (P : Program) (t : TypeId) (z : Value) (s bytes : Nat) : Prop := ∃ i, P.info? t = some i ∧ i.zero = some z ∧ i.size = s ∧ i.bytes = bytes
theorem ti_mk {P : Program} {t : TypeId} {z : Value} {s bytes : Nat} (h : (P.info? t).map (fun i => (i.zero, i.size, i.bytes)) = some (some z, s, bytes)) : TI P t z s bytes := info_parts h

section
variable {P : Program} {w : World} {t : TypeId} {z : Value} {s bytes : Nat}
theorem TI.size (h : TI P t z s bytes) : (sizeOf t).run P w = .ok s w := by
  obtain ⟨i, h1, -, h3, -⟩ := h
  simp [sizeOf, typeInfo, program, Sem.run, h1, h3]
theorem TI.zero (h : TI P t z s bytes) : (zeroValue t).run P w = .ok z w := by
  obtain ⟨i, h1, h2, -⟩ := h
  simp [zeroValue, typeInfo, program, Sem.run, h1, h2]
theorem run_isAgg {d : TypeDesc} (h : P.underlying t = some d) : (isAgg t).run P w = .ok (aggOf d) w := by
  cases d <;> simp [isAgg, run_underlying h, aggOf]
end

def Fld (P : Program) (t i off n : Nat) (agg : Bool) : Prop := ∃ fs f z bytes d, P.underlying t = some (.struct fs) ∧ fs[i]? = some f ∧ f.offset = off ∧ TI P f.type z n bytes ∧ P.underlying f.type = some d ∧ aggOf d = agg

class NatC (z : Int) (n : outParam Nat) : Prop where
  eq : z = (n : Int)
instance natC_cast (n : Nat) : NatC (n : Int) n := ⟨rfl⟩
instance natC_lit (n : Nat) : NatC (no_index (OfNat.ofNat n) : Int) (OfNat.ofNat n) := ⟨rfl⟩
instance natC_add {a b : Int} {m n : Nat} [ha : NatC a m] [hb : NatC b n] : NatC (a + b) (m + n) := ⟨by rw [ha.eq, hb.eq]; simp⟩
instance natC_mul {a b : Int} {m n : Nat} [ha : NatC a m] [hb : NatC b n] : NatC (a * b) (m * n) := ⟨by rw [ha.eq, hb.eq]; simp⟩
instance natC_div {a b : Int} {m n : Nat} [ha : NatC a m] [hb : NatC b n] : NatC (a / b) (m / n) := ⟨by rw [ha.eq, hb.eq]; simp⟩
instance natC_mod {a b : Int} {m n : Nat} [ha : NatC a m] [hb : NatC b n] : NatC (a % b) (m % n) := ⟨by rw [ha.eq, hb.eq]; simp⟩
instance natC_min {a b : Int} {m n : Nat} [ha : NatC a m] [hb : NatC b n] : NatC (min a b) (min m n) := ⟨by rw [ha.eq, hb.eq]; omega⟩
/-! ### Single operations -/

abbrev S (l : List UInt8) : Value := .string ⟨l.toArray⟩
abbrev I (n : Int) : Value := .int .i64 n
abbrev ptr (b i : Nat) : Value := .pointer (some ⟨b, i, none⟩)

section
variable {P : Program} {e : Env} {d : Option Nat} {ty t t' : TypeId} {pos : String} {aft : Array Edge} {g : Option (Nat × Bool)} {x y : Operand} {w w' : World} {k k' : IntKind} {a b : Int} {m n : Nat} {u v : Value} {l l' : List UInt8}

theorem ymv (hx : look e x = some v) : Y P e ⟨d, .move x, ty, pos, aft, g⟩ v w w := fun ρ hρ => by simp [execOp, hρ _ _ hx]
theorem yas (hx : look e x = some v) : Y P e ⟨d, .assign x, ty, pos, aft, g⟩ v w w := fun ρ hρ => by simp [execOp, hρ _ _ hx]
theorem ypT {c : Operand} (hc : look e c = some (.bool true)) (hx : look e x = some v) : Y P e ⟨d, .pick c x y, ty, pos, aft, g⟩ v w w := fun ρ hρ => by simp [execOp, hρ _ _ hx, hρ _ _ hc, asBool]
theorem ypF {c : Operand} (hc : look e c = some (.bool false)) (hy : look e y = some v) : Y P e ⟨d, .pick c x y, ty, pos, aft, g⟩ v w w := fun ρ hρ => by simp [execOp, hρ _ _ hy, hρ _ _ hc, asBool]

-- tests on integers
theorem ylt (hx : look e x = some (.int k a)) (hy : look e y = some (.int k b)) : Y P e ⟨d, .binOp .lss t x y t', ty, pos, aft, g⟩ (.bool (decide (a < b))) w w := fun ρ hρ => by simp [execOp, go_sem, hρ _ _ hx, hρ _ _ hy]
theorem yle (hx : look e x = some (.int k a)) (hy : look e y = some (.int k b)) : Y P e ⟨d, .binOp .leq t x y t', ty, pos, aft, g⟩ (.bool (decide (a ≤ b))) w w := fun ρ hρ => by simp [execOp, go_sem, hρ _ _ hx, hρ _ _ hy]
theorem ygt (hx : look e x = some (.int k a)) (hy : look e y = some (.int k b)) : Y P e ⟨d, .binOp .gtr t x y t', ty, pos, aft, g⟩ (.bool (decide (b < a))) w w := fun ρ hρ => by simp [execOp, go_sem, hρ _ _ hx, hρ _ _ hy]
theorem yge (hx : look e x = some (.int k a)) (hy : look e y = some (.int k b)) : Y P e ⟨d, .binOp .geq t x y t', ty, pos, aft, g⟩ (.bool (decide (b ≤ a))) w w := fun ρ hρ => by simp [execOp, go_sem, hρ _ _ hx, hρ _ _ hy]
theorem yeq (hx : look e x = some (.int k a)) (hy : look e y = some (.int k b)) : Y P e ⟨d, .binOp .eql t x y t', ty, pos, aft, g⟩ (.bool (decide (a = b))) w w := fun ρ hρ => by
  have : (a == b) = decide (a = b) := by by_cases h : a = b <;> simp [h]
  simp [execOp, go_sem, hρ _ _ hx, hρ _ _ hy, this]
theorem yne (hx : look e x = some (.int k a)) (hy : look e y = some (.int k b)) : Y P e ⟨d, .binOp .neq t x y t', ty, pos, aft, g⟩ (.bool (decide (a ≠ b))) w w := fun ρ hρ => by
  have : (a != b) = decide (a ≠ b) := by by_cases h : a = b <;> simp [h]
  simp [execOp, go_sem, hρ _ _ hx, hρ _ _ hy, this]

-- arithmetic on int
theorem wrap_i64 {a : Int} (h : -9223372036854775808 ≤ a ∧ a ≤ 9223372036854775807) : IntKind.i64.wrap a = a := by
  simp only [IntKind.wrap, IntKind.bits, IntKind.signed]; simp; omega
theorem yad (hx : look e x = some (I a)) (hy : look e y = some (I b)) (h : -9223372036854775808 ≤ a + b ∧ a + b ≤ 9223372036854775807) : Y P e ⟨d, .binOp .add t x y t', ty, pos, aft, g⟩ (I (a + b)) w w := fun ρ hρ => by simp [execOp, go_sem, hρ _ _ hx, hρ _ _ hy, wrap_i64 h]
theorem ysb (hx : look e x = some (I a)) (hy : look e y = some (I b)) (h : -9223372036854775808 ≤ a - b ∧ a - b ≤ 9223372036854775807) : Y P e ⟨d, .binOp .sub t x y t', ty, pos, aft, g⟩ (I (a - b)) w w := fun ρ hρ => by simp [execOp, go_sem, hρ _ _ hx, hρ _ _ hy, wrap_i64 h]
theorem yml (hx : look e x = some (I a)) (hy : look e y = some (I b)) (h : -9223372036854775808 ≤ a * b ∧ a * b ≤ 9223372036854775807) : Y P e ⟨d, .binOp .mul t x y t', ty, pos, aft, g⟩ (I (a * b)) w w := fun ρ hρ => by simp [execOp, go_sem, hρ _ _ hx, hρ _ _ hy, wrap_i64 h]
theorem yqu (hx : look e x = some (I a)) (hy : look e y = some (I b)) (h : 0 ≤ a ∧ 0 < b ∧ a ≤ 9223372036854775807) : Y P e ⟨d, .binOp .quo t x y t', ty, pos, aft, g⟩ (I (a / b)) w w := fun ρ hρ => by
  have h0 : ¬ b = 0 := by omega
  have h1 : a.tdiv b = a / b := Int.tdiv_eq_ediv_of_nonneg h.1
  have h2 : 0 ≤ a / b := Int.ediv_nonneg h.1 (by omega)
  have h3 : a / b ≤ a := Int.ediv_le_self b h.1
  have h4 := wrap_i64 (a := a / b) ⟨by omega, by omega⟩
  simp [execOp, go_sem, hρ _ _ hx, hρ _ _ hy, h0, h1, h4]
theorem yre (hx : look e x = some (I a)) (hy : look e y = some (I b)) (h : 0 ≤ a ∧ 0 < b) : Y P e ⟨d, .binOp .rem t x y t', ty, pos, aft, g⟩ (I (a % b)) w w := fun ρ hρ => by
  have h0 : ¬ b = 0 := by omega
  have h1 : a.tmod b = a % b := Int.tmod_eq_emod_of_nonneg h.1
  simp [execOp, go_sem, hρ _ _ hx, hρ _ _ hy, h0, h1]
theorem yslP (c p : Nat) (hx : look e x = some (I a)) (hy : look e y = some (.int k' (c : Int))) (hc : c ≤ 64) (hp : 2 ^ c = p) (h : -9223372036854775808 ≤ a * p ∧ a * p ≤ 9223372036854775807) : Y P e ⟨d, .binOp .shl t x y t', ty, pos, aft, g⟩ (I (a * p)) w w := fun ρ hρ => by
  have h0 : ¬ ((c : Int) < 0) := by omega
  have hp' : (2 : Int) ^ c = (p : Int) := by rw [← hp]; simp
  simp only [execOp, eqGuard_shl, binOp_shl, hρ _ _ hx, hρ _ _ hy, Op.shift, h0, if_false, Int.toNat_natCast, IntKind.bits, Nat.min_eq_left hc, pure_bind, Sem.run_pure, hp', wrap_i64 h]
theorem ysr (c : Nat) (hx : look e x = some (.int k a)) (hy : look e y = some (.int k' (c : Int))) (hc : c ≤ k.bits) : Y P e ⟨d, .binOp .shr t x y t', ty, pos, aft, g⟩ (.int k (a / 2 ^ c)) w w := fun ρ hρ => by
  have h0 : ¬ ((c : Int) < 0) := by omega
  have h1 : (0 : Int) ≤ 2 ^ c := Int.pow_nonneg (by decide)
  simp only [execOp, eqGuard_shr, binOp_shr, hρ _ _ hx, hρ _ _ hy, Op.shift, h0, if_false, Int.toNat_natCast, Nat.min_eq_left hc, Int.fdiv_eq_ediv_of_nonneg _ h1, pure_bind, Sem.run_pure]

-- numbers without a sign, as natural numbers
theorem ysrU' (c : Nat) (hx : look e x = some (.int k (m : Int))) (hy : look e y = some (.int k' (c : Int))) (hc : c ≤ k.bits) : Y P e ⟨d, .binOp .shr t x y t', ty, pos, aft, g⟩ (.int k ((m / 2 ^ c : Nat) : Int)) w w := fun ρ hρ => by
  have := ysr (P := P) (d := d) (t := t) (t' := t') (ty := ty) (pos := pos) (aft := aft) (g := g) (w := w) c hx hy hc ρ hρ
  rw [this]
  simp

theorem ofInt_nat {k : IntKind} (h : m < 2 ^ k.bits) : (BitVec.ofInt k.bits (m : Int)).toNat = m := by
  simp
  exact Nat.mod_eq_of_lt h
theorem yor64' (hx : look e x = some (I (m : Int))) (hy : look e y = some (I (n : Int))) (hm : m < 2 ^ 63) (hn : n < 2 ^ 63) : Y P e ⟨d, .binOp .or t x y t', ty, pos, aft, g⟩ (I ((m ||| n : Nat) : Int)) w w := fun ρ hρ => by
  have h1 : m < 2 ^ IntKind.i64.bits := by simp only [IntKind.bits]; omega
  have h2 : n < 2 ^ IntKind.i64.bits := by simp only [IntKind.bits]; omega
  have h3 := Nat.or_lt_two_pow hm hn
  simp only [execOp, eqGuard_or, binOp_or, intBits_or, hρ _ _ hx, hρ _ _ hy, pure_bind, Sem.run_pure, bits, BitVec.toNat_or, ofInt_nat h1, ofInt_nat h2]
  rw [wrap_i64 ⟨by omega, by omega⟩]
theorem ynt {c : Bool} (hx : look e x = some (.bool c)) : Y P e ⟨d, .unOp .not t x, ty, pos, aft, g⟩ (.bool (!c)) w w := fun ρ hρ => by simp [execOp, hρ _ _ hx, Op.unary]
theorem yntd {p : Prop} [Decidable p] (hx : look e x = some (.bool (decide p))) : Y P e ⟨d, .unOp .not t x, ty, pos, aft, g⟩ (.bool (decide ¬ p)) w w := fun ρ hρ => by simp [execOp, hρ _ _ hx, Op.unary]

-- conversions of numbers
theorem ycv (hx : look e x = some (.int k a)) (hs : P.underlying t = some (.int k)) (hd : P.underlying t' = some (.int k')) (h : k'.wrap a = b) : Y P e ⟨d, .convert t t' x, ty, pos, aft, g⟩ (.int k' b) w w := fun ρ hρ => by
  simp [execOp, hρ _ _ hx, convert, run_underlying hs, run_underlying hd, Conv.intToInt, h]
theorem ycvU' (hx : look e x = some (.int k (m : Int))) (hs : P.underlying t = some (.int k)) (hd : P.underlying t' = some (.int k')) (h : k'.signed = false) : Y P e ⟨d, .convert t t' x, ty, pos, aft, g⟩ (.int k' ((m % 2 ^ k'.bits : Nat) : Int)) w w :=
  ycv hx hs hd (by simp [IntKind.wrap, h])
theorem ycvS (hx : look e x = some (.int k a)) (hs : P.underlying t = some (.int k)) (hd : P.underlying t' = some (.int k')) (h : k'.min ≤ a ∧ a ≤ k'.max) : Y P e ⟨d, .convert t t' x, ty, pos, aft, g⟩ (.int k' a) w w :=
  ycv hx hs hd (by cases k' <;> simp only [IntKind.wrap, IntKind.bits, IntKind.signed, IntKind.min, IntKind.max] at * <;> simp at * <;> omega)

-- strings
theorem size_S (l : List UInt8) : (ByteArray.mk l.toArray).size = l.length := by simp [ByteArray.size]
theorem ylnS (ht : P.underlying t = some .string) (hx : look e x = some (S l)) : Y P e ⟨d, .call ⟨.builtin .len, #[x], #[t]⟩, ty, pos, aft, g⟩ (I (l.length : Int)) w w := fun ρ hρ => by
  simp [go_sem, hρ _ _ hx, run_len_string w t ty _ ht, size_S]
theorem ycatS (hx : look e x = some (S l)) (hy : look e y = some (S l')) (h : l.length + l'.length ≤ 9223372036854775807) : Y P e ⟨d, .binOp .add t x y t', ty, pos, aft, g⟩ (S (l ++ l')) w w := fun ρ hρ => by
  have h1 : (Op.stringOp .add ⟨l.toArray⟩ ⟨l'.toArray⟩).run P w = .ok (.string (⟨l.toArray⟩ ++ ⟨l'.toArray⟩)) w := run_string_add_sum w _ _ (by rw [size_S, size_S]; exact h)
  have h2 : ((⟨l.toArray⟩ : ByteArray) ++ (⟨l'.toArray⟩ : ByteArray)) = ⟨(l ++ l').toArray⟩ := by
    apply ByteArray.ext
    apply Array.toList_inj.1
    rw [Joins.data_append]
  simp only [execOp, hρ _ _ hx, hρ _ _ hy, eqGuard_add, binOp_string_add, pure_bind, Sem.run_bind, h1, h2, Result.andThen_ok, Sem.run_pure]
theorem yeqS (hx : look e x = some (S l)) (hy : look e y = some (S l')) : Y P e ⟨d, .binOp .eql t x y t', ty, pos, aft, g⟩ (.bool (decide (l = l'))) w w := fun ρ hρ => by
  have : (l == l') = decide (l = l') := by by_cases h : l = l' <;> simp [h]
  simp [execOp, go_sem, hρ _ _ hx, hρ _ _ hy, this]
theorem yneS (hx : look e x = some (S l)) (hy : look e y = some (S l')) : Y P e ⟨d, .binOp .neq t x y t', ty, pos, aft, g⟩ (.bool (decide (l ≠ l'))) w w := fun ρ hρ => by
  have : (!(l == l')) = decide (l ≠ l') := by by_cases h : l = l' <;> simp [h]
  simp [execOp, go_sem, hρ _ _ hx, hρ _ _ hy, this]

theorem extract_S (l : List UInt8) (i j : Nat) : (ByteArray.mk l.toArray).extract i j = ⟨((l.drop i).take (j - i)).toArray⟩ := by
  apply ByteArray.ext
  apply Array.toList_inj.1
  rw [Lib.extract_data]
theorem yslSf' {i : Nat} (ht : P.underlying t = some .string) (hx : look e x = some (S l)) (hy : look e y = some (.int k (i : Int))) (h : i ≤ l.length) :
    Y P e ⟨d, .slice t x (some y) none none, ty, pos, aft, g⟩ (S (l.drop i)) w w := fun ρ hρ => by
  have h2 : ∀ w, (Instr.sliceBound (.int k (i : Int)) l.length .sliceB).run P w = .ok i w := fun w => by rw [run_sliceBound _ _ _ _ _ (by omega) (by omega)]; simp
  have h3 : (l.drop i).take (l.length - i) = l.drop i := List.take_of_length_le (by simp)
  simp [execOp, hρ _ _ hx, hρ _ _ hy, Instr.sliceAt, run_underlying ht, Instr.slice, Instr.sliceBounds, h2, extract_S, size_S, h3]
theorem yslSt' {j : Nat} (ht : P.underlying t = some .string) (hx : look e x = some (S l)) (hy : look e y = some (.int k (j : Int))) (h : j ≤ l.length) :
    Y P e ⟨d, .slice t x none (some y) none, ty, pos, aft, g⟩ (S (l.take j)) w w := fun ρ hρ => by
  have h1 : ∀ w, (Instr.sliceBound (.int k (j : Int)) (ByteArray.mk l.toArray).size .sliceAlen).run P w = .ok j w := fun w => by rw [run_sliceBound _ _ _ _ _ (by omega) (by rw [size_S]; omega)]; simp
  simp [execOp, hρ _ _ hx, hρ _ _ hy, Instr.sliceAt, run_underlying ht, Instr.slice, Instr.sliceBounds, h1, extract_S]

theorem ymi (hx : look e x = some (I a)) (hy : look e y = some (I b)) {ts : Array TypeId} : Y P e ⟨d, .call ⟨.builtin .min, #[x, y], ts⟩, ty, pos, aft, g⟩ (I (min a b)) w w := fun ρ hρ => by
  have : (if b < a then b else a) = min a b := by omega
  simp [go_sem, hρ _ _ hx, hρ _ _ hy, Builtin.min_, Builtin.min2, this]
theorem yma (hx : look e x = some (I a)) (hy : look e y = some (I b)) {ts : Array TypeId} : Y P e ⟨d, .call ⟨.builtin .max, #[x, y], ts⟩, ty, pos, aft, g⟩ (I (max a b)) w w := fun ρ hρ => by
  have : (if a < b then b else a) = max a b := by omega
  simp [go_sem, hρ _ _ hx, hρ _ _ hy, Builtin.max_, Builtin.max2, this]

-- the same with the numbers written out
theorem ycv8' (hx : look e x = some (.int k (m : Int))) (hs : P.underlying t = some (.int k)) (hd : P.underlying t' = some (.int .u8)) : Y P e ⟨d, .convert t t' x, ty, pos, aft, g⟩ (.int .u8 ((m % 256 : Nat) : Int)) w w := ycvU' hx hs hd rfl
theorem ycv32' (hx : look e x = some (.int k (m : Int))) (hs : P.underlying t = some (.int k)) (hd : P.underlying t' = some (.int .u32)) : Y P e ⟨d, .convert t t' x, ty, pos, aft, g⟩ (.int .u32 ((m % 4294967296 : Nat) : Int)) w w := ycvU' hx hs hd rfl
theorem ycv64' (hx : look e x = some (.int k (m : Int))) (hs : P.underlying t = some (.int k)) (hd : P.underlying t' = some (.int .u64)) : Y P e ⟨d, .convert t t' x, ty, pos, aft, g⟩ (.int .u64 ((m % 18446744073709551616 : Nat) : Int)) w w := ycvU' hx hs hd rfl
theorem ycvSi64 (hx : look e x = some (.int k a)) (hs : P.underlying t = some (.int k)) (hd : P.underlying t' = some (.int .i64)) (h : -9223372036854775808 ≤ a ∧ a ≤ 9223372036854775807) : Y P e ⟨d, .convert t t' x, ty, pos, aft, g⟩ (.int .i64 a) w w := ycvS hx hs hd h
theorem ycvSu64 (hx : look e x = some (.int k a)) (hs : P.underlying t = some (.int k)) (hd : P.underlying t' = some (.int .u64)) (h : 0 ≤ a ∧ a ≤ 18446744073709551615) : Y P e ⟨d, .convert t t' x, ty, pos, aft, g⟩ (.int .u64 a) w w := ycvS hx hs hd h
theorem ycvB {c : UInt8} (hx : look e x = some (.int .u8 (c.toNat : Int))) (hs : P.underlying t = some (.int .u8)) (hd : P.underlying t' = some (.int k')) (hk : 255 ≤ k'.max) : Y P e ⟨d, .convert t t' x, ty, pos, aft, g⟩ (.int k' (c.toNat : Int)) w w :=
  ycvS hx hs hd ⟨by have : k'.min ≤ 0 := by cases k' <;> decide
                    omega, by have := c.toNat_lt; omega⟩

-- .. of whatever integers that are natural numbers
section
variable {za zb : Int} [ha : NatC za m] [hb : NatC zb n]
theorem ysl (c p : Nat) (hx : look e x = some (I za)) (hy : look e y = some (.int k' (c : Int))) (hc : c ≤ 64) (hp : 2 ^ c = p) (h : m * p ≤ 9223372036854775807) : Y P e ⟨d, .binOp .shl t x y t', ty, pos, aft, g⟩ (I ((m * p : Nat) : Int)) w w := by
  obtain ⟨rfl⟩ := ha
  have := yslP (P := P) (d := d) (t := t) (t' := t') (ty := ty) (pos := pos) (aft := aft) (g := g) (w := w) c p hx hy hc hp ⟨by rw [← Int.natCast_mul]; omega, by rw [← Int.natCast_mul]; omega⟩
  rw [Int.natCast_mul]
  exact this
theorem ysrN (c p : Nat) (hx : look e x = some (.int k za)) (hy : look e y = some (.int k' (c : Int))) (hc : c ≤ k.bits) (hp : 2 ^ c = p) : Y P e ⟨d, .binOp .shr t x y t', ty, pos, aft, g⟩ (.int k ((m / p : Nat) : Int)) w w := by
  obtain ⟨rfl⟩ := ha; subst hp; exact ysrU' c hx hy hc
theorem yor64 (hx : look e x = some (I za)) (hy : look e y = some (I zb)) (hm : m ≤ 9223372036854775807) (hn : n ≤ 9223372036854775807) : Y P e ⟨d, .binOp .or t x y t', ty, pos, aft, g⟩ (I ((m ||| n : Nat) : Int)) w w := by obtain ⟨rfl⟩ := ha; obtain ⟨rfl⟩ := hb; exact yor64' hx hy (by omega) (by omega)
theorem ycv8 (hx : look e x = some (.int k za)) (hs : P.underlying t = some (.int k)) (hd : P.underlying t' = some (.int .u8)) : Y P e ⟨d, .convert t t' x, ty, pos, aft, g⟩ (.int .u8 ((m % 256 : Nat) : Int)) w w := by obtain ⟨rfl⟩ := ha; exact ycv8' hx hs hd
theorem ycv32 (hx : look e x = some (.int k za)) (hs : P.underlying t = some (.int k)) (hd : P.underlying t' = some (.int .u32)) : Y P e ⟨d, .convert t t' x, ty, pos, aft, g⟩ (.int .u32 ((m % 4294967296 : Nat) : Int)) w w := by obtain ⟨rfl⟩ := ha; exact ycv32' hx hs hd
theorem ycv64 (hx : look e x = some (.int k za)) (hs : P.underlying t = some (.int k)) (hd : P.underlying t' = some (.int .u64)) : Y P e ⟨d, .convert t t' x, ty, pos, aft, g⟩ (.int .u64 ((m % 18446744073709551616 : Nat) : Int)) w w := by obtain ⟨rfl⟩ := ha; exact ycv64' hx hs hd
theorem yslSf (ht : P.underlying t = some .string) (hx : look e x = some (S l)) (hy : look e y = some (.int k za)) (h : m ≤ l.length) :
    Y P e ⟨d, .slice t x (some y) none none, ty, pos, aft, g⟩ (S (l.drop m)) w w := by obtain ⟨rfl⟩ := ha; exact yslSf' ht hx hy h
theorem yslSt (ht : P.underlying t = some .string) (hx : look e x = some (S l)) (hy : look e y = some (.int k za)) (h : m ≤ l.length) :
    Y P e ⟨d, .slice t x none (some y) none, ty, pos, aft, g⟩ (S (l.take m)) w w := by obtain ⟨rfl⟩ := ha; exact yslSt' ht hx hy h
end
end

def Yp (P : Program) (e : Env) (o : Oper) (w : World) (Post : Value → World → Prop) : Prop := ∃ v w', Y P e o v w w' ∧ Post v w'
def Zp (P : Program) (e : Env) (o : Oper) (w : World) (Post : World → Prop) : Prop := ∃ w', Z P e o w w' ∧ Post w'

section
variable {D : RC} {l : List Oper} {e : Env} {w : World} {d : Nat} {op : Op} {ty : TypeId} {pos : String} {aft : Array Edge} {g : Option (Nat × Bool)}
theorem rValP {Post : Value → World → Prop} (ho : okw D e g true = true) (hd : Nat.blt d D.C.n = true) (hy : Yp D.C.P e ⟨some d, op, ty, pos, aft, g⟩ w Post) (h : ∀ v w', Post v w' → RL D l ((d, v) :: e) w') :
    RL D (⟨some d, op, ty, pos, aft, g⟩ :: l) e w := by
  obtain ⟨v, w', hy, hp⟩ := hy
  exact rVal ho hd hy (h v w' hp)
theorem rValP0 {Post : Value → World → Prop} (ho : okw D e g true = true) (hy : Yp D.C.P e ⟨none, op, ty, pos, aft, g⟩ w Post) (h : ∀ v w', Post v w' → RL D l e w') :
    RL D (⟨none, op, ty, pos, aft, g⟩ :: l) e w := by
  obtain ⟨v, w', hy, hp⟩ := hy
  exact rVal0 ho hy (h v w' hp)
theorem rEffP {Post : World → Prop} (ho : okw D e g true = true) (hy : Zp D.C.P e ⟨none, op, ty, pos, aft, g⟩ w Post) (h : ∀ w', Post w' → RL D l e w') :
    RL D (⟨none, op, ty, pos, aft, g⟩ :: l) e w := by
  obtain ⟨w', hy, hp⟩ := hy
  exact rEff ho hy (h w' hp)
end
section
variable {D : RC} {S : World → Prop} {e : Env} {w : World} {d i fuel : Nat} {op : Op} {ty : TypeId} {pos : String} {aft : Array Edge} {g : Option (Nat × Bool)} {listed : Array Bool}
theorem nValP {Post : Value → World → Prop} (hi : D.ops[i]? = some ⟨some d, op, ty, pos, aft, g⟩) (ho : okw D e g true = true) (hd : Nat.blt d D.C.n = true)
    (hy : Yp D.C.P e ⟨some d, op, ty, pos, aft, g⟩ w Post) (h : ∀ v w', Post v w' → S w' ∧ RH D S fuel (listed.setIfInBounds i true) ((d, v) :: e) w') : Nx D S fuel listed e w i := by
  obtain ⟨v, w', hy, hp⟩ := hy
  exact nVal hi ho hd hy (h v w' hp).1 (h v w' hp).2
theorem nEffP {Post : World → Prop} (hi : D.ops[i]? = some ⟨none, op, ty, pos, aft, g⟩) (ho : okw D e g true = true)
    (hy : Zp D.C.P e ⟨none, op, ty, pos, aft, g⟩ w Post) (h : ∀ w', Post w' → S w' ∧ RH D S fuel (listed.setIfInBounds i true) e w') : Nx D S fuel listed e w i := by
  obtain ⟨w', hy, hp⟩ := hy
  exact nEff hi ho hy (h w' hp).1 (h w' hp).2
end

theorem add_off (b i j : Nat) : (⟨b, i, none⟩ : Addr).add j = ⟨b, i + j, none⟩ := by
  unfold Addr.add
  split
  · simp_all
  · rfl

/-! ### Slices -/

def Rd (w : World) (v : Value) (size n : Nat) (cs : List Value) : Prop :=
  cs.length = n * size ∧ ((∃ c : Option Addr × Nat, v = .slice c.1 0 c.2 ∧ n = 0) ∨ ∃ b off cap, v = .slice (some ⟨b, off, none⟩) n cap ∧ ∀ j u, cs[j]? = some u → w.cell? ⟨b, off + j, none⟩ = some u)
def Sl (w : World) (v : Value) (e : TypeId) (size n : Nat) (cs : List Value) : Prop := w.ownsRow 0 e size v n cs

section
variable {w w' : World} {v : Value} {e size n : Nat} {cs : List Value} {S : Nat → Prop}
theorem Sl.len (h : Sl w v e size n cs) : cs.length = n * size := h.1
theorem Sl.lt (h : Sl w v e size n cs) {g : Nat} (hg : v.ownBlock = some g) : g < w.heap.size := (World.ownsRow.lt h g hg).2
theorem Sl.nil (w : World) (e size : Nat) : Sl w (.slice none 0 0) e size 0 [] := World.ownsRow_nil w 0 e size
theorem Sl.kp (h : Sl w v e size n cs) (k : Kp S w w') (hn : ∀ g, v.ownBlock = some g → ¬ S g) : Sl w' v e size n cs := by
  refine ⟨h.1, ?_⟩
  rcases h.2 with hz | ⟨g, cap, cur, rfl, hb, hg, r⟩
  · exact .inl hz
  · exact .inr ⟨g, cap, cur, rfl, hb, k.heap hg (hn g rfl), r⟩
theorem Sl.ext (h : Sl w v e size n cs) (k : Ext w w') : Sl w' v e size n cs := h.kp k fun _ _ => id
theorem Sl.rd (h : Sl w v e size n cs) : Rd w v size n cs := by
  refine ⟨h.1, ?_⟩
  rcases h.2 with ⟨hz, hn⟩ | ⟨g, cap, cur, hv, hb, hg, hn, hm, hs, ht⟩
  · exact .inl ⟨(none, 0), hz, hn⟩
  · refine .inr ⟨g, 0, cap, hv, fun j u hu => ?_⟩
    have hc := World.ownsRow.cells h (g := g) (by rw [hv]; rfl) j u hu
    rw [add_off] at hc
    exact hc
theorem Sl.shape (h : Sl w v e size n cs) : (v = .slice none 0 0 ∧ n = 0) ∨ ∃ g cap, v = .slice (some ⟨g, 0, none⟩) n cap ∧ n ≤ cap := by
  rcases h.2 with hz | ⟨g, cap, cur, hv, hb, hg, hn, r⟩
  · exact .inl hz
  · exact .inr ⟨g, cap, hv, hn⟩
theorem Rd.len (h : Rd w v size n cs) : cs.length = n * size := h.1
theorem Rd.kp (h : Rd w v size n cs) (k : Kp S w w') (hn : ∀ g, v.ownBlock = some g → ¬ S g) : Rd w' v size n cs := by
  refine ⟨h.1, ?_⟩
  rcases h.2 with hz | ⟨b, off, cap, rfl, hc⟩
  · exact .inl hz
  · refine .inr ⟨b, off, cap, rfl, fun j u hu => ?_⟩
    have h1 := hc j u hu
    have hlt : b < w.heap.size := World.block_lt_of_cell? w _ h1
    rw [World.cell?_of_block (w := w) (a := ⟨b, off + j, none⟩) (k.block b hlt (hn b rfl))]
    exact h1
theorem Rd.ext (h : Rd w v size n cs) (k : Ext w w') : Rd w' v size n cs := h.kp k fun _ _ => id
theorem Rd.shape (h : Rd w v size n cs) : ∃ a cap, v = .slice a n cap ∧ (a = none → n = 0) := by
  rcases h.2 with ⟨c, hv, hn⟩ | ⟨b, off, cap, hv, -⟩
  · subst hn; exact ⟨c.1, c.2, hv, fun _ => rfl⟩
  · exact ⟨_, cap, hv, fun h => by cases h⟩
end

theorem Kp.of_grown {w w' : World} {row : Option Nat} (h : w.grownBy w' row) : Kp (fun k => row = some k) w w' :=
  ⟨h.os, h.tape, h.output, h.size, fun k hk hn => h.block k hk fun hh => hn hh.symm⟩

theorem run_app {P : Program} (w : World) (t ty e : TypeId) (i : TypeInfo) (z : Value) (size bytes : Nat) (ht : P.underlying t = some (.slice e)) (hi : P.info? e = some i) (hz : i.zero = some z)
    (hsize : i.size = size) (hby : i.bytes = bytes) (hzs : z.cells.size = size) (hsz : 0 < size)
    (v : Value) (n : Nat) (xs : List Value) (hown : Sl w v e size n xs) (x : Value) (m : Nat) (news : List Value) (hrd : Rd w x size m news) (h1 : ∀ u ∈ news, u.oneCell' = true)
    (hbytes : (n + m) * bytes ≤ 140737488355328) (h63 : n + m ≤ maxLen) :
    ∃ v' w', (Builtin.append_ #[t, t] ty #[v, x]).run P w = .ok v' w' ∧ Sl w' v' e size (n + m) (xs ++ news) ∧ Kp (fun k => v.ownBlock = some k) w w' ∧
      (∀ g, v'.ownBlock = some g → v.ownBlock = some g ∨ w.heap.size ≤ g) ∧ (v' = .slice none 0 0 ↔ v = .slice none 0 0 ∧ m = 0) := by
  subst hsize
  subst hby
  have hsmall : n + m ≤ 9223372036854775807 := by simp only [maxLen] at h63; omega
  rcases hrd.2 with ⟨⟨ca, c⟩, rfl, rfl⟩ | ⟨b, off, cap, rfl, hcells⟩
  · have hnil : news = [] := List.eq_nil_of_length_eq_zero (by simpa using hrd.1)
    subst hnil
    have hr : (Builtin.append_ #[t, t] ty #[v, .slice ca 0 c]).run P w = .ok v w := by
      cases ca <;>
      rcases hown.2 with ⟨rfl, rfl⟩ | ⟨g, cap, cur, rfl, hbg, hg, hnc, hcm, hcs, htake⟩
      · simp [Builtin.append_, run_underlying ht, sizeOf, typeInfo, hi, Builtin.lenOf, Builtin.firstCells]
      · simp [Builtin.append_, run_underlying ht, sizeOf, typeInfo, hi, Builtin.lenOf, Builtin.firstCells, hnc, storeCells]
      · simp [Builtin.append_, run_underlying ht, sizeOf, typeInfo, hi, Builtin.lenOf, Builtin.firstCells, loadCells, loadCellsFrom]
      · simp [Builtin.append_, run_underlying ht, sizeOf, typeInfo, hi, Builtin.lenOf, Builtin.firstCells, hnc, storeCells, loadCells, loadCellsFrom]
    exact ⟨v, w, hr, by simpa using hown, Kp.refl _ _, fun g hg => .inl hg, by simp⟩
  · have hnews : ∀ j u, news[j]? = some u → w.cell? ((⟨b, off, none⟩ : Addr).add j) = some u := fun j u hu => by rw [add_off]; exact hcells j u hu
    rcases hown.2 with ⟨rfl, rfl⟩ | ⟨g, cap', cur, rfl, hbg, hg, hnc, hcm, hcs, htake⟩
    · have hx : xs = [] := List.eq_nil_of_length_eq_zero (by simpa using hown.1)
      subst hx
      by_cases hm : m = 0
      · subst hm
        have hn : news = [] := List.eq_nil_of_length_eq_zero (by simpa using hrd.1)
        subst hn
        refine ⟨.slice none 0 0, w, ?_, Sl.nil w e i.size, Kp.refl _ _, by simp [Value.ownBlock], by simp⟩
        simp [Builtin.append_, run_underlying ht, sizeOf, typeInfo, hi, Builtin.lenOf, Builtin.firstCells, loadCells, loadCellsFrom]
      · have hr := run_append_nil (P := P) w t ty e i z ht hi hz ⟨b, off, none⟩ m cap news hrd.1 hnews (by omega) (by omega) (by have hb := hbytes; simp only [Nat.zero_add] at hb; omega)
        obtain ⟨v', w', hr', ho', hg', hnil'⟩ := run_append_own (P := P) w w.heap.size t ty e i z i.size i.bytes ht hi hz rfl rfl hzs hsz (.slice none 0 0) 0 [] (World.ownsRow_nil w w.heap.size e i.size) ⟨b, off, none⟩ m cap news hrd.1 hnews h1 h63 hbytes (Nat.le_refl _)
        refine ⟨v', w', hr', ⟨ho'.1, ?_⟩, Kp.of_grown hg', fun g hg => .inr (World.ownsRow.lt ho' g hg).1, hnil'⟩
        rcases ho'.2 with hz' | ⟨g, cap2, cur2, hv2, hb2, hr2⟩
        · exact .inl hz'
        · exact .inr ⟨g, cap2, cur2, hv2, Nat.zero_le _, hr2⟩
    · by_cases hroom : n + m ≤ cap'
      · obtain ⟨w', hr', ho', hg'⟩ := run_append_fits (P := P) w 0 t ty e i i.size ht hi rfl g n cap' xs hown ⟨b, off, none⟩ m cap news hrd.1 hnews h1 hroom
        exact ⟨_, w', hr', ho', Kp.of_grown hg', fun g' hg' => .inl (by simpa [Value.ownBlock] using hg'), by simp⟩
      · have holds : ∀ j u, xs[j]? = some u → w.cell? ((⟨g, 0, none⟩ : Addr).add j) = some u := World.ownsRow.cells hown (g := g) rfl
        have hr := run_append_grow (P := P) w t ty e i z ht hi hz ⟨g, 0, none⟩ n cap' xs hown.1 holds ⟨b, off, none⟩ m cap news hrd.1 hnews (by omega) (by omega) (growslice_fits (by omega) hbytes)
        have hge := grownCap_ge w (n + m) cap' e
        have hlen : (xs ++ news).length = (n + m) * i.size := by rw [List.length_append, hown.1, hrd.1, Nat.add_mul]
        refine ⟨_, _, hr, ⟨hlen, .inr ⟨w.heap.size, _, _, rfl, Nat.zero_le _, heap_alloc_new w.drew _, hge, grownCap_le_maxLen w (n + m) cap' e h63, ?_, ?_⟩⟩, ?_, fun g' hg' => .inr (by simp [Value.ownBlock] at hg'; omega), by simp⟩
        · simp only [Array.size_append, List.size_toArray, size_zeroCells, hzs, hown.1, hrd.1, ← Nat.add_mul]
          congr 1
          omega
        · simp only [Array.toList_append, List.append_assoc]
          rw [← List.append_assoc, ← hlen]
          exact List.take_left
        · exact ⟨rfl, rfl, rfl, by simp, fun k hk _ => Below.heap_alloc w.drew _ k hk⟩

section
variable {P : Program} {e : Env} {d : Option Nat} {ty t t' el : TypeId} {pos : String} {aft : Array Edge} {g : Option (Nat × Bool)} {x y : Operand} {w w' : World} {k k' : IntKind} {m n : Nat} {u v z : Value} {l : List UInt8} {cs news : List Value} {b i size bytes off : Nat} {T : TypeId} {td : TypeDesc} {agg : Bool}

/-! ### Loads and stores -/

theorem yld (hu : P.underlying t = some td) (ha : aggOf td = false) (hx : look e x = some (ptr b i)) (hB : Blk w b cs T) (hi : cs[i]? = some v) : Y P e ⟨d, .load t x, ty, pos, aft, g⟩ v w w := fun ρ hρ => by
  have hc : w.cell? ⟨b, i, none⟩ = some v := by rw [hB.cell]; exact hi
  simp only [execOp, hρ _ _ hx, Instr.loadAt, Instr.sureAddr, loadVar, pure_bind, Sem.run_bind, run_isAgg hu, ha, Result.andThen_ok, Bool.false_eq_true, if_false, run_load, hc, Sem.run_pure]
theorem yldc (hu : P.underlying t = some td) (ha : aggOf td = false) {a : Addr} (hx : look e x = some (.pointer (some a))) (hc : w.cell? a = some v) : Y P e ⟨d, .load t x, ty, pos, aft, g⟩ v w w := fun ρ hρ => by
  simp only [execOp, hρ _ _ hx, Instr.loadAt, Instr.sureAddr, loadVar, pure_bind, Sem.run_bind, run_isAgg hu, ha, Result.andThen_ok, Bool.false_eq_true, if_false, run_load, hc, Sem.run_pure]
theorem yldA (hu : P.underlying t = some td) (ha : aggOf td = true) (hs : TI P t z n bytes) (hx : look e x = some (ptr b i)) (hc : ∀ j u, news[j]? = some u → w.cell? ⟨b, i + j, none⟩ = some u) (hn : news.length = n) :
    Y P e ⟨d, .load t x, ty, pos, aft, g⟩ (.agg news.toArray) w w := fun ρ hρ => by
  have hl := run_loadCells_list (P := P) w ⟨b, i, none⟩ news (fun j v hj => by rw [add_off]; exact hc j v hj)
  rw [hn] at hl
  simp only [execOp, hρ _ _ hx, Instr.loadAt, Instr.sureAddr, loadVar, pure_bind, Sem.run_bind, run_isAgg hu, ha, Result.andThen_ok, if_true, hs.size, hl, Sem.run_pure]
theorem Blk.cells (hB : Blk w b cs T) (hn : (cs.drop i).take n = news) : ∀ j u, news[j]? = some u → w.cell? ⟨b, i + j, none⟩ = some u := fun j u hj => by
  subst hn
  rw [hB.cell]
  rw [List.getElem?_take] at hj
  split at hj
  · simpa using hj
  · cases hj

def oneV : Value → Bool
  | .agg _ | .tuple _ => false
  | _ => true
theorem oneV_cells (h : oneV v = true) : v.cells = #[v] := by cases v <;> simp_all [oneV, Value.cells]
theorem oneV_one (h : oneV v = true) : v.oneCell' = true := by cases v <;> simp_all [oneV, Value.oneCell']

theorem zst (hs : TI P t z 1 bytes) (hx : look e x = some (ptr b i)) (hy : look e y = some v) (hv : oneV v = true) (hB : Blk w b cs T) (hi : i < cs.length) :
    Zp P e ⟨d, .store t x y, ty, pos, aft, g⟩ w fun w' => Blk w' b (cs.set i v) T ∧ Kp (fun k => k = b) w w' := by
  refine ⟨w.setCell ⟨b, i, none⟩ v, fun ρ hρ => ?_, blk_setCell hB i v, kp_setCell w b i v⟩
  have hc : w.cell? ⟨b, i, none⟩ = some cs[i] := by rw [hB.cell]; simp [hi]
  have hf := hB.free hi
  have h0 : (⟨b, i, none⟩ : Addr).add 0 = ⟨b, i, none⟩ := by rw [add_off]; simp
  simp only [execOp, hρ _ _ hx, hρ _ _ hy, Instr.storeAt, Instr.sureAddr, storeVar, pure_bind, Sem.run_bind, hs.size, Result.andThen_ok, oneV_cells hv]
  simp [storeCells, h0, run_store P w _ v _ (oneV_one hv), hc, hf]
theorem zstc (hs : TI P t z 1 bytes) {a : Addr} (hx : look e x = some (.pointer (some a))) (hy : look e y = some v) (hv : oneV v = true) (hc : w.cell? a = some u) (hf : w.frozen? a = false) :
    Z P e ⟨d, .store t x y, ty, pos, aft, g⟩ w (w.setCell a v) := fun ρ hρ => by
  have h0 : a.add 0 = a := by simp [Addr.add]
  simp only [execOp, hρ _ _ hx, hρ _ _ hy, Instr.storeAt, Instr.sureAddr, storeVar, pure_bind, Sem.run_bind, hs.size, Result.andThen_ok, oneV_cells hv]
  simp [storeCells, h0, run_store P w _ v _ (oneV_one hv), hc, hf]

def splice (cs : List Value) (i : Nat) (vs : List Value) : List Value := cs.take i ++ vs ++ cs.drop (i + vs.length)

theorem run_storeCells_blk {P : Program} {b : Nat} {T : TypeId} (o : Nat) : ∀ (vs : List Value) (i : Nat) (cs : List Value) (w : World), Blk w b cs T → o + i + vs.length ≤ cs.length → (∀ v ∈ vs, v.oneCell' = true) →
    ∃ w', (storeCells ⟨b, o, none⟩ vs i).run P w = .ok () w' ∧ Blk w' b (splice cs (o + i) vs) T ∧ Kp (fun k => k = b) w w'
  | [], i, cs, w, hB, _, _ => ⟨w, rfl, by simpa [splice] using hB, Kp.refl _ _⟩
  | v :: r, i, cs, w, hB, hl, h1 => by
    simp only [List.length_cons] at hl
    have hlt : o + i < cs.length := by omega
    have hc : w.cell? ⟨b, o + i, none⟩ = some cs[o + i] := by rw [hB.cell]; simp [hlt]
    have hf := hB.free hlt
    obtain ⟨w', hr, hB', hk⟩ := run_storeCells_blk (P := P) o r (i + 1) (cs.set (o + i) v) _ (blk_setCell hB (o + i) v) (by simp; omega) (fun u hu => h1 u (List.mem_cons_of_mem _ hu))
    refine ⟨w', ?_, ?_, (kp_setCell w b (o + i) v).trans hk⟩
    · simp only [storeCells, Sem.run_bind, add_off, run_store P w _ v _ (h1 v (List.mem_cons_self ..)), hc, hf]
      simpa using hr
    · have he : splice (cs.set (o + i) v) (o + (i + 1)) r = splice cs (o + i) (v :: r) := by
        simp only [splice, List.length_cons]
        have e1 : (cs.set (o + i) v).take (o + (i + 1)) = cs.take (o + i) ++ [v] := by
          rw [show o + (i + 1) = (o + i) + 1 from by omega, List.take_succ_eq_append_getElem (by simpa using hlt)]
          simp only [List.take_set, List.getElem_set_self]
          rw [List.set_eq_of_length_le (by simp; omega)]
        have e2 : (cs.set (o + i) v).drop (o + (i + 1) + r.length) = cs.drop (o + i + (r.length + 1)) := by
          rw [List.drop_set_of_lt (by omega)]
          congr 1
          omega
        rw [e1, e2]
        simp
      rw [← he]
      exact hB'

theorem zstA (hs : TI P t z n bytes) (hx : look e x = some (ptr b i)) (hy : look e y = some (.agg news.toArray)) (hv : news.all oneV = true) (hn : news.length = n) (hB : Blk w b cs T) (hi : i + n ≤ cs.length) :
    Zp P e ⟨d, .store t x y, ty, pos, aft, g⟩ w fun w' => Blk w' b (splice cs i news) T ∧ Kp (fun k => k = b) w w' := by
  obtain ⟨w', hr, hB', hk⟩ := run_storeCells_blk (P := P) i news 0 cs w hB (by omega) (fun u hu => oneV_one (by have := List.all_eq_true.1 hv u hu; exact this))
  refine ⟨w', fun ρ hρ => ?_, by simpa using hB', hk⟩
  simp only [execOp, hρ _ _ hx, hρ _ _ hy, Instr.storeAt, Instr.sureAddr, storeVar, pure_bind, Sem.run_bind, hs.size, Result.andThen_ok, Value.cells]
  simp [hn, hr]

/-! ### New variables -/

def NewB (w : World) (b : Nat) (cs : List Value) (T : TypeId) (w' : World) : Prop := b = w.heap.size ∧ Ext w w' ∧ Blk w' b cs T
theorem NewB.mk' (w : World) (cs : List Value) (T : TypeId) : NewB w w.heap.size cs T (w.alloc (.cells cs.toArray T)) := ⟨rfl, ext_alloc w _, blk_new w cs T⟩

theorem pbx (hx : look e x = some v) (hv : v.cells = cs.toArray) : Yp P e ⟨d, .box t x, ty, pos, aft, g⟩ w fun v' w' => ∃ b, v' = ptr b 0 ∧ NewB w b cs t w' := by
  refine ⟨_, _, fun ρ hρ => ?_, w.heap.size, rfl, NewB.mk' w cs t⟩
  simp [execOp, hρ _ _ hx, Instr.box, newVar, newRow, newObj, Sem.run, hv]
theorem pal (hs : TI P t z n bytes) (hz : z.cells = cs.toArray) : Yp P e ⟨d, .alloc t, ty, pos, aft, g⟩ w fun v' w' => ∃ b, v' = ptr b 0 ∧ NewB w b cs t w' := by
  refine ⟨_, _, fun ρ hρ => ?_, w.heap.size, rfl, NewB.mk' w cs t⟩
  simp [execOp, Instr.alloc, hs.zero, newVar, newRow, newObj, Sem.run, hz]
theorem pmm : Yp P e ⟨d, .makeMap t none, ty, pos, aft, g⟩ w fun v' w' => ∃ b, v' = .map (some b) ∧ b = w.heap.size ∧ Ext w w' ∧ w'.heap[b]? = some (.map #[] 0) := by
  refine ⟨_, _, fun ρ hρ => ?_, w.heap.size, rfl, rfl, ext_alloc w _, heap_new w _⟩
  simp [execOp, Instr.makeMap, newObj, Sem.run]

def bl (pl : Nat → Option (Nat × Nat)) : List Value → List (Nat × Value) → Option (List Value)
  | cs, [] => some cs
  | cs, (i, v) :: r => match pl i with
    | none => none
    | some (off, size) => match Nat.beq v.cells.toList.length size && Nat.ble (off + size) cs.length with
      | true => bl pl (splice cs off v.cells.toList) r
      | false => none

theorem fill_fold (off : Nat) : ∀ (vs : List Value) (j : Nat) (cs : List Value), off + j + vs.length ≤ cs.length →
    ((vs.zipIdx j).foldl (fun (cs : Array Value) (p : Value × Nat) => cs.setIfInBounds (off + p.2) p.1) cs.toArray) = (splice cs (off + j) vs).toArray
  | [], j, cs, _ => by simp [splice]
  | v :: r, j, cs, h => by
    simp only [List.length_cons] at h
    simp only [List.zipIdx_cons, List.foldl_cons, List.setIfInBounds_toArray]
    rw [fill_fold off r (j + 1) (cs.set (off + j) v) (by simp; omega)]
    congr 1
    have hlt : off + j < cs.length := by omega
    simp only [splice, List.length_cons]
    have e1 : (cs.set (off + j) v).take (off + (j + 1)) = cs.take (off + j) ++ [v] := by
      rw [show off + (j + 1) = (off + j) + 1 from by omega, List.take_succ_eq_append_getElem (by simpa using hlt)]
      simp only [List.take_set, List.getElem_set_self]
      rw [List.set_eq_of_length_le (by simp; omega)]
    have e2 : (cs.set (off + j) v).drop (off + (j + 1) + r.length) = cs.drop (off + j + (r.length + 1)) := by
      rw [List.drop_set_of_lt (by omega)]
      congr 1
      omega
    rw [e1, e2]
    simp

theorem fill_bl {pl : Nat → Option (Nat × Nat)} : ∀ (vs : List (Nat × Value)) (cs cs' : List Value), bl pl cs vs = some cs' → Instr.fill pl cs.toArray vs = some cs'.toArray
  | [], cs, cs', h => by simp [bl] at h; simp [Instr.fill, h]
  | (i, v) :: r, cs, cs', h => by
    simp only [bl] at h
    simp only [Instr.fill]
    split at h
    · cases h
    · rename_i off size hpl
      split at h
      · rename_i hb
        simp only [Bool.and_eq_true] at hb
        have h1 : v.cells.toList.length = size := Nat.eq_of_beq_eq_true hb.1
        have h2 : off + size ≤ cs.length := Nat.le_of_ble_eq_true hb.2
        simp only [hpl]
        have hs : v.cells.size = size := by simpa using h1
        have hc : (decide (v.cells.size ≠ size) || decide (off + v.cells.size > cs.toArray.size)) = false := by simp; omega
        rw [if_neg (by rw [hc]; simp)]
        have hf := fill_fold off v.cells.toList 0 cs (by simp only [Nat.add_zero]; rw [h1]; exact h2)
        simp only [Nat.add_zero] at hf
        have hz : (v.cells.zipIdx.foldl (fun (cs : Array Value) (p : Value × Nat) => cs.setIfInBounds (off + p.2) p.1) cs.toArray) = (splice cs off v.cells.toList).toArray := by
          rw [← Array.foldl_toList, Array.toList_zipIdx]
          exact hf
        have := fill_bl r _ cs' h
        rw [← hz] at this
        exact this
      · cases h

def lookp (e : Env) : List (Nat × Operand) → Option (List (Nat × Value))
  | [] => some []
  | (i, x) :: r => match look e x, lookp e r with
    | some v, some vs => some ((i, v) :: vs)
    | _, _ => none
theorem lookp_map {e : Env} {ρ : Operand → Value} (hρ : ∀ x v, look e x = some v → ρ x = v) : ∀ (l : List (Nat × Operand)) (us : List (Nat × Value)), lookp e l = some us → l.map (fun p => (p.1, ρ p.2)) = us
  | [], us, h => by simp [lookp] at h; simp [h]
  | (i, x) :: r, us, h => by
    simp only [lookp] at h
    split at h
    · rename_i v vs hv hvs
      simp at h
      subst h
      simp [hρ _ _ hv, lookp_map hρ r vs hvs]
    · cases h
theorem lookp_arr {e : Env} {ρ : Operand → Value} (hρ : ∀ x v, look e x = some v → ρ x = v) {l : List (Nat × Operand)} {us : List (Nat × Value)} (h : lookp e l = some us) :
    (l.toArray.map fun x => match x with | (i, x) => (i, ρ x)) = us.toArray := by
  apply Array.toList_inj.1
  simp only [Array.toList_map]
  exact lookp_map hρ l us h

def SP (P : Program) (t : TypeId) (pl : List (Nat × Nat)) : Prop := ∃ fs : Array Field, P.underlying t = some (.struct fs) ∧ ∀ w, (fs.mapM fun f => do pure (f.offset, ← sizeOf f.type) : Sem (Array (Nat × Nat))).run P w = .ok pl.toArray w

theorem ybd {parts : List (Nat × Operand)} {vs : List (Nat × Value)} {pl : List (Nat × Nat)} {zs : List Value} (hs : TI P t z n bytes) (hz : z.cells = zs.toArray) (hpl : SP P t pl) (hp : lookp e parts = some vs) (h : bl (pl[·]?) zs vs = some cs) :
    Y P e ⟨d, .build t parts.toArray, ty, pos, aft, g⟩ (.agg cs.toArray) w w := fun ρ hρ => by
  obtain ⟨fs, h1, h2⟩ := hpl
  have hf := fill_bl vs zs cs h
  have hf' : Instr.fill (pl.toArray[·]?) z.cells vs = some cs.toArray := by rw [hz]; simpa using hf
  simp only [execOp, lookp_arr hρ hp, Instr.build, Sem.run_bind, hs.zero, Result.andThen_ok, run_underlying h1, h2, hf', Sem.run_pure]
theorem ybdA {parts : List (Nat × Operand)} {vs : List (Nat × Value)} {zs : List Value} {len : Nat} {ze : Value} {be : Nat} (hs : TI P t z n bytes) (hz : z.cells = zs.toArray) (ht : P.underlying t = some (.array len el)) (he : TI P el ze size be) (hp : lookp e parts = some vs) (h : bl (fun i => some (i * size, size)) zs vs = some cs) :
    Y P e ⟨d, .build t parts.toArray, ty, pos, aft, g⟩ (.agg cs.toArray) w w := fun ρ hρ => by
  have hf := fill_bl vs zs cs h
  rw [← hz] at hf
  simp only [execOp, lookp_arr hρ hp, Instr.build, Sem.run_bind, hs.zero, Result.andThen_ok, run_underlying ht, he.size, hf, Sem.run_pure]

theorem pbs {parts : List (Nat × Operand)} {vs : List (Nat × Value)} {len : Nat} {ze : Value} {be : Nat} {zs : List Value} (ht : P.underlying t = some (.slice el)) (he : TI P el ze size be) (hsm : Nat.ble (len * size) 16777216 = true)
    (hzs : (Array.range (len * size)).map ((if len * size = 0 then #[] else ze.cells)[· % (if len * size = 0 then #[] else ze.cells).size]!) = zs.toArray) (hp : lookp e parts = some vs) (h : bl (fun i => some (i * size, size)) zs vs = some cs) (hl : cs.length = len * size) (hm : len ≤ maxLen) :
    Yp P e ⟨d, .buildSlice t len parts.toArray, ty, pos, aft, g⟩ w fun v' w' => ∃ b, v' = .slice (some ⟨b, 0, none⟩) len len ∧ NewB w b cs el w' ∧ Sl w' v' el size len cs := by
  refine ⟨_, _, fun ρ hρ => ?_, w.heap.size, rfl, NewB.mk' w cs el, ⟨hl, .inr ⟨w.heap.size, len, cs.toArray, rfl, Nat.zero_le _, heap_new w _, Nat.le_refl _, hm, by simpa using hl, by simp [← hl]⟩⟩⟩
  have hf := fill_bl vs zs cs h
  rw [← hzs] at hf
  have h24 : ¬ len * size > 2 ^ 24 := by have := Nat.le_of_ble_eq_true hsm; omega
  simp only [execOp, lookp_arr hρ hp, Instr.buildSlice, Sem.run_bind, run_underlying ht, Result.andThen_ok, he.size, Sem.run_ite, if_neg h24, Sem.run_pure]
  by_cases h0 : len * size = 0
  · simp only [h0, if_true] at hf
    simp [Array.range_zero'] at hf
    simp [h0, newRow, newObj, Sem.run, Array.range_zero', hf]
  · simp only [h0, if_false] at hf
    simp [h0, newRow, newObj, Sem.run, hf, he.zero]

theorem madeCells_one (z : Value) (n : Nat) (h : oneV z = true) : (madeCells z.cells n).toList = List.replicate n z := by
  rw [oneV_cells h]
  apply List.ext_getElem
  · simp [madeCells]
  · intro j h1 h2
    simp [madeCells, Nat.mod_one]

theorem pmk {za zb : Int} {c : Nat} [hza : NatC za n] [hb' : NatC zb c] (ht : P.underlying t = some (.slice el)) (hs : TI P el z 1 bytes) (hz : oneV z = true) (hx : look e x = some (.int k za)) (hy : look e y = some (.int k' zb)) (hnc : n ≤ c) (hb : bytes * c ≤ 281474976710656) (hm : c ≤ maxLen) :
    Yp P e ⟨d, .makeSlice t x y, ty, pos, aft, g⟩ w fun v' w' => ∃ b, v' = .slice (some ⟨b, 0, none⟩) n c ∧ NewB w b (List.replicate c z) el w' ∧ Sl w' v' el 1 n (List.replicate n z) := by
  obtain ⟨rfl⟩ := hza
  obtain ⟨rfl⟩ := hb'
  obtain ⟨i, hi, hiz, his, hib⟩ := hs
  have hr := run_make (P := P) w t el i z ht hi hiz k k' n c (by omega) (by omega) (by rw [hib, ← Int.natCast_mul]; exact Int.ofNat_le.2 hb) (by simp only [maxLen] at hm; omega)
  have hcells := madeCells_one z c hz
  have hcells' : madeCells z.cells c = (List.replicate c z).toArray := by rw [← hcells]
  rw [his] at hr
  simp only [Int.toNat_natCast, Nat.mul_one, hcells'] at hr
  refine ⟨_, _, fun ρ hρ => ?_, w.heap.size, rfl, NewB.mk' w (List.replicate c z) el, ⟨by simp, .inr ⟨w.heap.size, c, _, rfl, Nat.zero_le _, heap_new w _, hnc, hm, by simp, ?_⟩⟩⟩
  · simp only [execOp, hρ _ _ hx, hρ _ _ hy, Sem.run_bind, hr, Result.andThen_ok, Sem.run_pure]
  · simp [List.take_replicate, Nat.min_eq_left hnc]

/-! ### Addresses, fields, parts -/

theorem yfa (hf : Fld P t i off (n + 1) agg) (hx : look e x = some (ptr b m)) : Y P e ⟨d, .fieldAddr t x i, ty, pos, aft, g⟩ (ptr b (m + off)) w w := fun ρ hρ => by
  obtain ⟨fs, f, z, bytes, dd, h1, h2, h3, h4, h5, h6⟩ := hf
  have hs := h4.size (w := w)
  simp [execOp, hρ _ _ hx, Instr.fieldAt, run_underlying h1, h2, Instr.sureAddr, fieldPlace, hs, add_off, h3]
theorem yis {za : Int} [hza : NatC za n] {len cap : Nat} (ht : P.underlying t = some (.slice el)) (hs : TI P el z size bytes) (hx : look e x = some (.slice (some ⟨b, m, none⟩) len cap)) (hy : look e y = some (.int k za)) (hn : n < len) :
    Y P e ⟨d, .indexAddr t x y, ty, pos, aft, g⟩ (ptr b (m + n * size)) w w := fun ρ hρ => by
  obtain ⟨rfl⟩ := hza
  have h0 : (0 : Int) ≤ (n : Int) ∧ (n : Int) < (len : Int) := by omega
  have hs := hs.size (w := w)
  simp [execOp, hρ _ _ hx, hρ _ _ hy, Instr.indexAt, asIntOf, run_underlying ht, hn, hs, add_off]
theorem yex {vs : Array Value} (hx : look e x = some (.tuple vs)) (hv : vs[i]? = some v) : Y P e ⟨d, .extract x i, ty, pos, aft, g⟩ v w w := fun ρ hρ => by
  simp [execOp, hρ _ _ hx, Instr.extract, hv]
theorem ync {a : Addr} (hx : look e x = some (.pointer (some a))) : Y P e ⟨d, .nilCheck x, ty, pos, aft, g⟩ (.pointer (some a)) w w := fun ρ hρ => by simp [execOp, hρ _ _ hx]
theorem yncf {f : FuncId} {p q : Array Value} (hx : look e x = some (.func (.func f) p q)) : Y P e ⟨d, .nilCheck x, ty, pos, aft, g⟩ (.func (.func f) p q) w w := fun ρ hρ => by simp [execOp, hρ _ _ hx]
theorem yln (ht : P.underlying t = some (.slice el)) {a : Option Addr} {len cap : Nat} (hx : look e x = some (.slice a len cap)) : Y P e ⟨d, .call ⟨.builtin .len, #[x], #[t]⟩, ty, pos, aft, g⟩ (I (len : Int)) w w := fun ρ hρ => by
  simp [execOp, resolve, invoke, builtin, hρ _ _ hx, Builtin.len_, run_underlying ht, goInt]
end

/-! ### Calls -/

def CF (P : Program) (f : FuncId) : Prop := ∃ fn, P.funcs[f]? = some fn ∧ (fn.name == "runtime.NumGoroutine") = false ∧ fn.body.isNone = false
section
variable {P : Program} {e : Env} {d : Option Nat} {ty : TypeId} {pos : String} {aft : Array Edge} {g : Option (Nat × Bool)} {w : World} {f : FuncId}
def looks (e : Env) : List Operand → Option (List Value)
  | [] => some []
  | x :: r => match look e x, looks e r with
    | some v, some vs => some (v :: vs)
    | _, _ => none
theorem looks_map {ρ : Operand → Value} (hρ : ∀ x v, look e x = some v → ρ x = v) : ∀ (xs : List Operand) (vs : List Value), looks e xs = some vs → xs.map ρ = vs
  | [], vs, h => by simp [looks] at h; simp [h]
  | x :: r, vs, h => by
    simp only [looks] at h
    split at h
    · rename_i v us hv hus
      simp at h
      subst h
      simp [hρ _ _ hv, looks_map hρ r us hus]
    · cases h
theorem run_callFunc (h : CF P f) (args : Array Value) : (callFunc f args).run P w = .ok (.enter f args) w := by
  obtain ⟨fn, h1, h2, h3⟩ := h
  have h2' : ¬ fn.name = "runtime.NumGoroutine" := by simpa using h2
  have h3' : ¬ fn.body = none := by intro hh; simp [hh] at h3
  simp [callFunc, program, Sem.run, h1, h2', h3']
theorem yc {args : List Operand} {ts : Array TypeId} {vs : List Value} (hf : CF P f) (ha : looks e args = some vs) : Yc P e ⟨d, .call ⟨.value (.func f), args.toArray, ts⟩, ty, pos, aft, g⟩ f vs w := fun ρ hρ => by
  have h0 : ρ (.func f) = .func (.func f) #[] #[] := hρ _ _ rfl
  have hm := looks_map hρ _ _ ha
  simp [execOp, resolve, h0, Deferred.ofValue, invoke, run_callFunc hf, hm]
theorem ycv' {fv : Operand} {args : List Operand} {ts : Array TypeId} {vs p q : List Value} (hf : CF P f) (hv : look e fv = some (.func (.func f) p.toArray q.toArray)) (ha : looks e args = some vs) :
    Yc P e ⟨d, .call ⟨.value fv, args.toArray, ts⟩, ty, pos, aft, g⟩ f (p ++ vs ++ q) w := fun ρ hρ => by
  have h0 := hρ _ _ hv
  have hm := looks_map hρ _ _ ha
  simp [execOp, resolve, h0, Deferred.ofValue, invoke, run_callFunc hf, hm]
theorem ymf {first caps : List Operand} {p q : List Value} (hp : looks e first = some p) (hq : looks e caps = some q) : Y P e ⟨d, .makeFunc (.func f) first.toArray caps.toArray, ty, pos, aft, g⟩ (.func (.func f) p.toArray q.toArray) w w := fun ρ hρ => by
  simp [execOp, Instr.makeFunc, looks_map hρ _ _ hp, looks_map hρ _ _ hq]
theorem pap {t el : TypeId} {x y : Operand} {z : Value} {size bytes n m : Nat} {u v : Value} {cs news : List Value} (ht : P.underlying t = some (.slice el)) (hs : TI P el z size bytes) (hzs : z.cells.size = size) (hsz : 0 < size)
    (hx : look e x = some v) (hy : look e y = some u) (hv : Sl w v el size n cs) (hu : Rd w u size m news) (h1 : ∀ c ∈ news, c.oneCell' = true) (hb : (n + m) * bytes ≤ 140737488355328) (hm : n + m ≤ maxLen) :
    Yp P e ⟨d, .call ⟨.builtin .append, #[x, y], #[t, t]⟩, ty, pos, aft, g⟩ w fun v' w' => Sl w' v' el size (n + m) (cs ++ news) ∧ Kp (fun k => v.ownBlock = some k) w w' ∧
      (∀ g, v'.ownBlock = some g → v.ownBlock = some g ∨ w.heap.size ≤ g) ∧ (v' = .slice none 0 0 ↔ v = .slice none 0 0 ∧ m = 0) := by
  obtain ⟨i, hi, hiz, his, hib⟩ := hs
  obtain ⟨v', w', hr, hrest⟩ := run_app (P := P) w t ty el i z size bytes ht hi hiz his hib hzs hsz v n cs hv u m news hu h1 hb hm
  refine ⟨v', w', fun ρ hρ => ?_, hrest⟩
  simp [execOp, resolve, invoke, builtin, hρ _ _ hx, hρ _ _ hy, hr]
end
/-! ### Strings and bytes -/
def u8v (c : UInt8) : Value := .int .u8 (c.toNat : Int)
section
variable {P : Program} {e : Env} {d : Option Nat} {ty t t' el : TypeId} {pos : String} {aft : Array Edge} {g : Option (Nat × Bool)} {x : Operand} {w : World} {l : List UInt8} {cs : List Value} {b i n cap : Nat} {T : TypeId}
theorem pS2B (hs : P.underlying t = some .string) (hd : P.underlying t' = some (.slice el)) (he : P.underlying el = some (.int .u8)) (hx : look e x = some (S l)) :
    Yp P e ⟨d, .convert t t' x, ty, pos, aft, g⟩ w fun v' w' => ∃ b cap rest, v' = .slice (some ⟨b, 0, none⟩) l.length cap ∧ NewB w b (l.map u8v ++ rest) el w' ∧ l.length + rest.length = cap := by
  have hr := run_bytes_of_string (P := P) w t t' el ⟨l.toArray⟩ hs hd he
  rw [size_S] at hr
  have hge := grownCap_ge w l.length 0 el
  have hrow : bytesRow ⟨l.toArray⟩ (grownCap w l.length 0 el) = (l.map u8v ++ List.replicate (grownCap w l.length 0 el - l.length) (Value.int .u8 0)).toArray := by
    simp [bytesRow, size_S, u8v]
  refine ⟨_, w.drew.alloc (.cells (bytesRow ⟨l.toArray⟩ (grownCap w l.length 0 el)) el ((bytesRow ⟨l.toArray⟩ (grownCap w l.length 0 el)).size, (bytesRow ⟨l.toArray⟩ (grownCap w l.length 0 el)).size + 1)), fun ρ hρ => ?_, w.heap.size, grownCap w l.length 0 el, List.replicate (grownCap w l.length 0 el - l.length) (Value.int .u8 0), rfl, ⟨rfl, ?_, ?_⟩, by simp; omega⟩
  · simp only [execOp, hρ _ _ hx, Sem.run_bind, hr, Result.andThen_ok, Sem.run_pure]
  · exact (Ext.drew0 w).trans (ext_alloc w.drew _)
  · refine ⟨_, by rw [← hrow]; exact heap_new w.drew _, fun j hj => ?_⟩
    rw [hrow]
    simp only [List.size_toArray]
    omega
end
/-! ### Results that lie in memory -/
inductive ResR (P : Program) (w : World) (e : Env) : List ResultVar → List Value → Prop where
  | nil : ResR P w e [] []
  | tmp {t : Tmp} {v : Value} {rs : List ResultVar} {vs : List Value} (h : fnd e t = some v) (hr : ResR P w e rs vs) : ResR P w e (.tmp t :: rs) (v :: vs)
  | cell {x : Tmp} {t : TypeId} {td : TypeDesc} {z : Value} {n bytes b i : Nat} {news : List Value} {rs : List ResultVar} {vs : List Value} (hu : P.underlying t = some td) (ha : aggOf td = true) (hs : TI P t z n bytes)
      (h : fnd e x = some (ptr b i)) (hc : ∀ j u, news[j]? = some u → w.cell? ⟨b, i + j, none⟩ = some u) (hn : news.length = n) (hr : ResR P w e rs vs) : ResR P w e (.cell x t :: rs) (.agg news.toArray :: vs)
  | cell1 {x : Tmp} {t : TypeId} {td : TypeDesc} {b i : Nat} {v : Value} {rs : List ResultVar} {vs : List Value} (hu : P.underlying t = some td) (ha : aggOf td = false)
      (h : fnd e x = some (ptr b i)) (hc : w.cell? ⟨b, i, none⟩ = some v) (hr : ResR P w e rs vs) : ResR P w e (.cell x t :: rs) (v :: vs)

theorem ResR.run {P : Program} {w : World} {e : Env} {n : Nat} {ms : List Dfr} {a : Act} (ha : EOk n ms e a) : ∀ {rs : List ResultVar} {vs : List Value}, ResR P w e rs vs → Sem.run P (rs.mapM (resM a)) w = .ok vs w := by
  intro rs vs h
  induction h with
  | nil => simp
  | @tmp t v rs vs h hr ih =>
    have hg : resM a (.tmp t) = pure v := by simp only [resM]; rw [ha.get _ _ h]
    rw [List.mapM_cons, hg]
    simp only [pure_bind, Sem.run_bind, ih, Result.andThen, Sem.run_pure]
  | @cell x t td z n bytes b i news rs vs hu hA hs h hc hn hr ih =>
    have hg := ha.get _ _ h
    have hl := run_loadCells_list (P := P) w ⟨b, i, none⟩ news (fun j v hj => by rw [add_off]; exact hc j v hj)
    rw [hn] at hl
    have h1 : Sem.run P (resM a (.cell x t)) w = .ok (.agg news.toArray) w := by
      simp only [resM, hg, asAddr, pure_bind, loadVar, Sem.run_bind, run_isAgg hu, hA, Result.andThen_ok, if_true, hs.size, hl, Sem.run_pure]
    rw [List.mapM_cons]
    simp only [Sem.run_bind, h1, ih, Result.andThen, Sem.run_pure]
  | @cell1 x t td b i v rs vs hu hA h hc hr ih =>
    have hg := ha.get _ _ h
    have h1 : Sem.run P (resM a (.cell x t)) w = .ok v w := by
      simp only [resM, hg, asAddr, pure_bind, loadVar, Sem.run_bind, run_isAgg hu, hA, Result.andThen_ok, Bool.false_eq_true, if_false, run_load, hc]
    rw [List.mapM_cons]
    simp only [Sem.run_bind, h1, ih, Result.andThen, Sem.run_pure]

theorem resultsR_run {n : Nat} {ms : List Dfr} {e : Env} {a : Act} (ha : EOk n ms e a) (P : Program) (w : World) (fn : Func) (vs : List Value) (h : ResR P w e fn.results.toList vs) :
    (results fn a.tmps).run P w = .ok (resVal vs) w := by
  have hm := ResR.run ha h
  have he : results fn a.tmps = (do
      let us ← fn.results.mapM (resM a)
      pure (if h : us.size = 1 then us[0] else .tuple us)) := rfl
  rw [he, ← Array.toArray_toList (xs := fn.results), List.mapM_toArray]
  simp only [Sem.run_bind, map_eq_pure_bind, hm, Result.andThen, Sem.run_pure]
  cases vs with
  | nil => simp [resVal]
  | cons v r => cases r with
    | nil => simp [resVal]
    | cons u r => simp [resVal]

section
variable {P : Program} {f : FuncId} {R : Value → World → Prop} {n : Nat} {k : List Item} {e : Env} {w : World} {fn : Func} {vs : List Value}
theorem run_retR (hf : P.funcs[f]? = some fn) (hr : ResR P w e fn.results.toList vs) (hR : RetX R (.returned (resVal vs)) w) : Run ⟨P, f, R, n, none, [], false⟩ (.code .ret :: k) e w :=
  run_retS rfl hf List.nodup_nil (fun _ h => by cases h) fun a ha => ⟨_, resultsR_run ha P w fn vs hr, hR⟩
end

section
variable {P : Program} {e : Env} {d : Option Nat} {ty t t' : TypeId} {pos : String} {aft : Array Edge} {g : Option (Nat × Bool)} {x y : Operand} {w : World} {k : IntKind} {za zb : Int} {m n : Nat} [ha : NatC za m] [hb : NatC zb n]
end
set_option linter.all false

theorem kp_putObj (w : World) (l : Nat) (o : Obj) : Kp (fun k => k = l) w (w.putObj l o) :=
  ⟨rfl, rfl, rfl, by simp, fun k _ hn => World.putObj_heap_other hn⟩
theorem lt_of_heap {w : World} {l : Nat} {o : Obj} (h : w.heap[l]? = some o) : l < w.heap.size := by
  rcases Nat.lt_or_ge l w.heap.size with h' | h'
  · exact h'
  · rw [Array.getElem?_eq_none h'] at h; cases h

def Rec (f n : Nat) (e : Env) (ps : Array Tmp) (assign body : Code) (l : Nat) (st : LoopState) (pend : Option Code) (w : World) : Prop :=
  ∃ r : Loop, w.heap[l]? = some (.loop r) ∧ r.state = st ∧ r.pending = pend ∧ r.fn = f ∧ r.params = ps ∧ r.assign = assign ∧ r.body = body ∧ r.tmps.size = n ∧ ∀ i v, fnd e i = some v → r.tmps.getD i undef = v

theorem Rec.lt {f n : Nat} {e : Env} {ps : Array Tmp} {assign body : Code} {l : Nat} {st : LoopState} {pend : Option Code} {w : World} (h : Rec f n e ps assign body l st pend w) : l < w.heap.size := by
  obtain ⟨r, h, -⟩ := h; exact lt_of_heap h
theorem Kp.rec' {S : Nat → Prop} {w w' : World} {f n : Nat} {e : Env} {ps : Array Tmp} {assign body : Code} {l : Nat} {st : LoopState} {pend : Option Code} (k : Kp S w w') (h : Rec f n e ps assign body l st pend w) (hn : ¬ S l) : Rec f n e ps assign body l st pend w' := by
  obtain ⟨r, h, hr⟩ := h
  exact ⟨r, k.heap h hn, hr⟩

theorem Kp.rc {S : Nat → Prop} {w w' : World} {f n : Nat} {e : Env} {ps : Array Tmp} {assign body : Code} {l : Nat} {st : LoopState} {pend : Option Code} {Rc : LoopState → Option Code → World → Prop} (k : Kp S w w') (hRc : Rc = Rec f n e ps assign body l) (h : Rc st pend w) (hn : ¬ S l) : Rc st pend w' := by
  subst hRc; exact k.rec' h hn
def RetY (P : Program) (l : Nat) (args : List Value) (w : World) (S : Value → World → Prop) : Prop :=
  ∃ r : Loop, w.heap[l]? = some (.loop r) ∧ args.length = r.params.size ∧
    RoundIn Fence.wide 0 P l r.fn ((r.params.zip args.toArray).foldl (fun tmps (t, a) => tmps.setIfInBounds t a) r.tmps) r.assign r.body w (RetX S)

theorem RetY.mono {P : Program} {l : Nat} {args : List Value} {w : World} {S S' : Value → World → Prop} (h : RetY P l args w S) (hs : ∀ v w', S v w' → S' v w') : RetY P l args w S' := by
  obtain ⟨r, h1, h2, h3⟩ := h
  exact ⟨r, h1, h2, h3.mono fun x w' ⟨v, hx, hv⟩ => ⟨v, hx, hs _ _ hv⟩⟩

def bindE : List Tmp → List Value → Env → Env
  | p :: ps, v :: vs, e => bindE ps vs ((p, v) :: e)
  | _, _, e => e

section
variable {C : Cx} {k : List Item} {e : Env} {w : World} {f n : Nat} {e0 : Env} {ps : Array Tmp} {assign body : Code} {l : Nat} {st : LoopState} {pend : Option Code}

end
section
variable {P : Program} {g : Nat} {S : Value → World → Prop} {m : Nat} {k : List Item} {e : Env} {w : World} {f n : Nat} {e0 : Env} {ps : Array Tmp} {assign body : Code} {l : Nat} {st : LoopState} {pend : Option Code}

end

/-! ### The call of yield -/
def Yy (P : Program) (e : Env) (o : Oper) (l : Nat) (args : List Value) (w : World) : Prop :=
  ∀ ρ : Operand → Value, (∀ x v, look e x = some v → ρ x = v) → (execOp ρ o).run P w = (Instr.yield l args.toArray).run P w

section
variable {D : RC} {rest : List Oper} {e : Env} {w w' : World} {d : Nat} {op : Op} {ty : TypeId} {pos : String} {aft : Array Edge} {g : Option (Nat × Bool)} {l : Nat} {args : List Value} {S : Value → World → Prop}

end

structure Ky (P : Program) (kt : TypeId) {κ : Type} [DecidableEq κ] (K : κ → Value) : Prop where
  same : ∃ td, P.underlying kt = some td ∧ (∀ a b, Instr.sameNow td (K a) (K b) = some (decide (a = b))) ∧ ∀ w e n a, (Instr.checkKey e (n + 1) kt (K a)).run P w = .ok () w
  bits : ∀ a, Instr.sameBits 10000 (K a) (K a) = true

theorem ky_int {P : Program} {kt : TypeId} {k : IntKind} (h : P.underlying kt = some (.int k)) : Ky P kt (fun z : Int => Value.int k z) := by
  refine ⟨⟨_, h, fun a b => ?_, fun w e n a => ?_⟩, fun a => ?_⟩
  · have : (a == b) = decide (a = b) := by by_cases hab : a = b <;> simp [hab]
    simp [Instr.sameNow, this]
  · simp [Instr.checkKey, run_underlying h]
  · simp [Instr.sameBits]
theorem beqS (a b : List UInt8) : ((⟨a.toArray⟩ : ByteArray) == ⟨b.toArray⟩) = decide (a = b) := by
  have h : ((⟨a.toArray⟩ : ByteArray) == ⟨b.toArray⟩) = (a.toArray == b.toArray) := rfl
  rw [h]
  by_cases hab : a = b <;> simp [hab]
section
variable {κ : Type} [DecidableEq κ]

def getL : List (κ × Value) → κ → Option Value
  | [], _ => none
  | (a, v) :: r, k => if k = a then some v else getL r k
def putL : List (κ × Value) → κ → Value → List (κ × Value)
  | [], k, v => [(k, v)]
  | (a, u) :: r, k, v => if k = a then (a, v) :: r else (a, u) :: putL r k v

theorem getL_put (kv : List (κ × Value)) (k : κ) (v : Value) (x : κ) : getL (putL kv k v) x = if x = k then some v else getL kv x := by
  induction kv with
  | nil => simp [putL, getL]
  | cons p r ih =>
    obtain ⟨a, u⟩ := p
    simp only [putL]
    by_cases h : k = a
    · subst h
      simp only [if_true, getL]
      by_cases hx : x = k <;> simp [hx]
    · simp only [h, if_false, getL, ih]
      by_cases hx : x = a
      · subst hx; simp [Ne.symm h]
      · simp [hx]
theorem getL_notin {kv : List (κ × Value)} {k : κ} (h : getL kv k = none) : k ∉ kv.map (·.1) := by
  induction kv with
  | nil => simp
  | cons p r ih =>
    obtain ⟨a, u⟩ := p
    simp only [getL] at h
    split at h
    · cases h
    · rename_i hne
      simp only [List.map_cons, List.mem_cons, not_or]
      exact ⟨hne, ih h⟩
theorem putL_keys (kv : List (κ × Value)) (k : κ) (v : Value) : (getL kv k).isSome = true → (putL kv k v).map (·.1) = kv.map (·.1) := by
  induction kv with
  | nil => simp [getL]
  | cons p r ih =>
    obtain ⟨a, u⟩ := p
    simp only [putL, getL]
    by_cases h : k = a
    · simp [h]
    · simp only [h, if_false]; intro hh; simp [ih hh]
theorem putL_new (kv : List (κ × Value)) (k : κ) (v : Value) : getL kv k = none → putL kv k v = kv ++ [(k, v)] := by
  induction kv with
  | nil => simp [putL]
  | cons p r ih =>
    obtain ⟨a, u⟩ := p
    simp only [putL, getL]
    by_cases h : k = a
    · simp [h]
    · simp only [h, if_false]; intro hh; simp [ih hh]

def Ents (K : κ → Value) (es : List MapEntry) (kv : List (κ × Value)) : Prop := es.map (fun e => (e.key, e.val)) = kv.map (fun p => (K p.1, p.2))

def MapL (K : κ → Value) (w : World) (m : Nat) (kv : List (κ × Value)) : Prop := (∃ es clock, w.heap[m]? = some (.map es clock) ∧ Ents K es.toList kv) ∧ (kv.map (·.1)).Nodup

theorem MapL.lt {K : κ → Value} {w : World} {m : Nat} {kv : List (κ × Value)} (h : MapL K w m kv) : m < w.heap.size := by
  obtain ⟨⟨es, c, h, -⟩, -⟩ := h; exact lt_of_heap h
theorem Kp.map {K : κ → Value} {S : Nat → Prop} {w w' : World} {m : Nat} {kv : List (κ × Value)} (k : Kp S w w') (h : MapL K w m kv) (hn : ¬ S m) : MapL K w' m kv := by
  obtain ⟨⟨es, c, h, he⟩, hd⟩ := h
  exact ⟨⟨es, c, k.heap h hn, he⟩, hd⟩
theorem Ext.map {K : κ → Value} {w w' : World} {m : Nat} {kv : List (κ × Value)} (k : Ext w w') (h : MapL K w m kv) : MapL K w' m kv := Kp.map k h id

theorem findNow_none {td : TypeDesc} {K : κ → Value} (hs : ∀ a b, Instr.sameNow td (K a) (K b) = some (decide (a = b))) : ∀ {es : List MapEntry} {kv : List (κ × Value)} (i : Nat) {k : κ}, Ents K es kv → getL kv k = none →
    Instr.findNow td (K k) es i = some none
  | [], [], _, _, _, _ => rfl
  | e :: es, (a, v) :: kv, i, k, h, hg => by
    simp only [Ents, List.map_cons, List.cons.injEq, Prod.mk.injEq] at h
    simp only [getL] at hg
    split at hg
    · cases hg
    · rename_i hne
      simp only [Instr.findNow, h.1.1, hs, hne, decide_false]
      exact findNow_none hs (i + 1) h.2 hg
  | [], _ :: _, _, _, h, _ => by simp [Ents] at h
  | _ :: _, [], _, _, h, _ => by simp [Ents] at h

theorem findNow_some {td : TypeDesc} {K : κ → Value} (hs : ∀ a b, Instr.sameNow td (K a) (K b) = some (decide (a = b))) : ∀ {es : List MapEntry} {kv : List (κ × Value)} (i : Nat) {k : κ} {v : Value}, Ents K es kv → getL kv k = some v →
    ∃ j, Instr.findNow td (K k) es i = some (some (i + j, v)) ∧ (∃ e, es[j]? = some e ∧ e.key = K k) ∧ ∀ u, Ents K (es.modify j fun e => { e with key := K k, val := u }) (putL kv k u)
  | e :: es, (a, v') :: kv, i, k, v, h, hg => by
    simp only [Ents, List.map_cons, List.cons.injEq, Prod.mk.injEq] at h
    simp only [getL] at hg
    split at hg
    · rename_i he
      subst he
      cases hg
      refine ⟨0, by simp [Instr.findNow, h.1.1, hs, h.1.2], ⟨e, rfl, h.1.1⟩, fun u => ?_⟩
      simp only [Ents, putL, if_true, List.modify_cons, List.map_cons, List.modify_zero_cons]
      simp [h.2]
    · rename_i hne
      obtain ⟨j, h1, ⟨e', h2, h3⟩, h4⟩ := findNow_some hs (i + 1) h.2 hg
      refine ⟨j + 1, ?_, ⟨e', by simpa using h2, h3⟩, fun u => ?_⟩
      · simp only [Instr.findNow, h.1.1, hs, hne, decide_false, h1]
        congr 3; omega
      · simp only [putL, hne, if_false, List.modify_succ_cons, Ents, List.map_cons, List.cons.injEq, Prod.mk.injEq]
        exact ⟨h.1, h4 u⟩
  | [], [], _, _, _, _, hg => by simp [getL] at hg
  | [], _ :: _, _, _, _, h, _ => by simp [Ents] at h
  | _ :: _, [], _, _, _, h, _ => by simp [Ents] at h

variable {P : Program} {e : Env} {d : Option Nat} {ty t kt el : TypeId} {pos : String} {aft : Array Edge} {g : Option (Nat × Bool)} {x y u : Operand} {w : World} {m : Nat} {kv : List (κ × Value)} {K : κ → Value} {z : Value} {size bytes : Nat} {k : κ} {v : Value}

theorem findKey_none (hK : Ky P kt K) {es : Array MapEntry} (h : Ents K es.toList kv) (hg : getL kv k = none) : (Instr.findKey kt (K k) es.toList).run P w = .ok none w := by
  obtain ⟨⟨td, hu, hs, -⟩, -⟩ := hK
  simp [Instr.findKey, run_underlying hu, findNow_none hs 0 h hg]
theorem findKey_some (hK : Ky P kt K) {es : Array MapEntry} (h : Ents K es.toList kv) (hg : getL kv k = some v) :
    ∃ j, (Instr.findKey kt (K k) es.toList).run P w = .ok (some (j, v)) w ∧ (∃ e, es[j]? = some e ∧ e.key = K k) ∧ ∀ u, Ents K (es.modify j fun e => { e with key := K k, val := u }).toList (putL kv k u) := by
  obtain ⟨⟨td, hu, hs, -⟩, -⟩ := hK
  obtain ⟨j, h1, h2, h3⟩ := findNow_some hs 0 h hg
  refine ⟨j, ?_, by simpa using h2, fun u => by simpa using h3 u⟩
  simp [Instr.findKey, run_underlying hu, h1]

theorem ylk (ht : P.underlying t = some (.map kt el)) (hK : Ky P kt K) (hz : TI P el z size bytes) (hx : look e x = some (.map (some m))) (hy : look e y = some (K k)) (hm : MapL K w m kv) :
    Y P e ⟨d, .lookup t x y false, ty, pos, aft, g⟩ ((getL kv k).getD z) w w := fun ρ hρ => by
  obtain ⟨⟨es, c, hh, he⟩, -⟩ := hm
  have hzv := hz.zero (w := w)
  have hck := fun b => hK.same.choose_spec.2.2 w b 9999 k
  have hg : (getObj m).run P w = .ok (.map es c) w := by simp [getObj, Sem.run, hh]
  cases hgk : getL kv k with
  | none =>
    have hf := findKey_none (P := P) (w := w) hK he hgk
    simp [execOp, hρ _ _ hx, hρ _ _ hy, Instr.lookup, run_underlying ht, hg, hck, hf, hzv]
  | some v =>
    obtain ⟨j, hf, -⟩ := findKey_some (P := P) (w := w) hK he hgk
    simp [execOp, hρ _ _ hx, hρ _ _ hy, Instr.lookup, run_underlying ht, hg, hck, hf]

end

theorem Sl.part {w : World} {g n cap e size i k : Nat} {cs news : List Value} (h : Sl w (.slice (some ⟨g, 0, none⟩) n cap) e size n cs) (hn : (cs.drop i).take k = news) : ∀ j u, news[j]? = some u → w.cell? ⟨g, 0 + i + j, none⟩ = some u := fun j u hj => by
  have hc := World.ownsRow.cells h (g := g) rfl (i + j) u (by
    subst hn
    rw [List.getElem?_take] at hj
    split at hj
    · rwa [List.getElem?_drop] at hj
    · cases hj)
  rw [add_off] at hc
  rw [show 0 + i + j = 0 + (i + j) by omega]
  exact hc

section
variable {P : Program} {e : Env} {d : Option Nat} {ty t t' kt el : TypeId} {pos : String} {aft : Array Edge} {g : Option (Nat × Bool)} {x y u : Operand} {w : World}

theorem eqg_p {op : BinOp} {p : Option Addr} {v : Value} : eqGuard op t x y (.pointer p) v = pure () := by cases op <;> rfl
theorem eqg_s {op : BinOp} {a : Option Addr} {n c : Nat} {v : Value} : eqGuard op t x y (.slice a n c) v = pure () := by cases op <;> rfl
theorem binOp_eql_p {p : Option Addr} {v : Value} : binOp .eql t (.pointer p) v = (do pure (.bool (← Op.equal t (.pointer p) v))) := rfl
theorem binOp_neq_p {p : Option Addr} {v : Value} : binOp .neq t (.pointer p) v = (do pure (.bool (!(← Op.equal t (.pointer p) v)))) := rfl
theorem binOp_eql_s {a : Option Addr} {n c : Nat} {v : Value} : binOp .eql t (.slice a n c) v = (do pure (.bool (← Op.equal t (.slice a n c) v))) := rfl
theorem eq_p {p : Option Addr} (ht : P.underlying t = some (.pointer el)) : (Op.equal t (.pointer p) (.pointer none)).run P w = .ok p.isNone w :=
  run_equalIn_pointer_nil (P := P) (w := w) 9999 t p (by simp [Program.pointee, ht])
theorem eq_s {a : Option Addr} {n c : Nat} (ht : P.underlying t = some (.slice el)) : (Op.equal t (.slice a n c) (.slice none 0 0)).run P w = .ok a.isNone w :=
  run_equalIn_slice_nil (P := P) (w := w) 9999 t el a n c ht
theorem yeqpN {p : Option Addr} (ht : P.underlying t = some (.pointer el)) (hx : look e x = some (.pointer p)) (hy : look e y = some (.pointer none)) : Y P e ⟨d, .binOp .eql t x y t', ty, pos, aft, g⟩ (.bool p.isNone) w w := fun ρ hρ => by
  simp only [execOp, hρ _ _ hx, hρ _ _ hy, eqg_p, binOp_eql_p, pure_bind, Sem.run_bind, eq_p ht, Result.andThen, Sem.run_pure]
theorem ynepN {p : Option Addr} (ht : P.underlying t = some (.pointer el)) (hx : look e x = some (.pointer p)) (hy : look e y = some (.pointer none)) : Y P e ⟨d, .binOp .neq t x y t', ty, pos, aft, g⟩ (.bool (!p.isNone)) w w := fun ρ hρ => by
  simp only [execOp, hρ _ _ hx, hρ _ _ hy, eqg_p, binOp_neq_p, pure_bind, Sem.run_bind, eq_p ht, Result.andThen, Sem.run_pure]
theorem yeqsN {a : Option Addr} {n c : Nat} (ht : P.underlying t = some (.slice el)) (hx : look e x = some (.slice a n c)) (hy : look e y = some (.slice none 0 0)) : Y P e ⟨d, .binOp .eql t x y t', ty, pos, aft, g⟩ (.bool a.isNone) w w := fun ρ hρ => by
  simp only [execOp, hρ _ _ hx, hρ _ _ hy, eqg_s, binOp_eql_s, pure_bind, Sem.run_bind, eq_s ht, Result.andThen, Sem.run_pure]
theorem yslV {z : Value} {size bytes b m n cap i j : Nat} {k k' : IntKind} {za zb : Int} [hza : NatC za i] [hzb : NatC zb j] (ht : P.underlying t = some (.slice el)) (hs : TI P el z size bytes) (hx : look e x = some (.slice (some ⟨b, m, none⟩) n cap))
    (hy : look e y = some (.int k za)) (hu : look e u = some (.int k' zb)) (h : i ≤ j ∧ j ≤ cap) (hlt : i < cap) :
    Y P e ⟨d, .slice t x (some y) (some u) none, ty, pos, aft, g⟩ (.slice (some ⟨b, m + i * size, none⟩) (j - i) (cap - i)) w w := fun ρ hρ => by
  obtain ⟨rfl⟩ := hza
  obtain ⟨rfl⟩ := hzb
  have hsz := hs.size (w := w)
  have h1 : ∀ w, (Instr.sliceBound (.int k' (j : Int)) cap .sliceAcap).run P w = .ok j w := fun w => by rw [run_sliceBound _ _ _ _ _ (by omega) (by omega)]; simp
  have h2 : ∀ w, (Instr.sliceBound (.int k (i : Int)) j .sliceB).run P w = .ok i w := fun w => by rw [run_sliceBound _ _ _ _ _ (by omega) (by omega)]; simp
  have hne : ¬ cap = i := by omega
  simp [execOp, hρ _ _ hx, hρ _ _ hy, hρ _ _ hu, Instr.sliceAt, run_underlying ht, Instr.slice, Instr.sliceBounds, h1, h2, hsz, hne, add_off]
theorem yslVf {z : Value} {size bytes b m n cap i : Nat} {k : IntKind} {za : Int} [hza : NatC za i] (ht : P.underlying t = some (.slice el)) (hs : TI P el z size bytes) (hx : look e x = some (.slice (some ⟨b, m, none⟩) n cap))
    (hy : look e y = some (.int k za)) (h : i ≤ n) (hlt : i < cap) :
    Y P e ⟨d, .slice t x (some y) none none, ty, pos, aft, g⟩ (.slice (some ⟨b, m + i * size, none⟩) (n - i) (cap - i)) w w := fun ρ hρ => by
  obtain ⟨rfl⟩ := hza
  have hsz := hs.size (w := w)
  have h2 : ∀ w, (Instr.sliceBound (.int k (i : Int)) n .sliceB).run P w = .ok i w := fun w => by rw [run_sliceBound _ _ _ _ _ (by omega) (by omega)]; simp
  have hne : ¬ cap = i := by omega
  simp [execOp, hρ _ _ hx, hρ _ _ hy, Instr.sliceAt, run_underlying ht, Instr.slice, Instr.sliceBounds, h2, hsz, hne, add_off]
theorem yslVt {z : Value} {size bytes b m n cap j : Nat} {k : IntKind} {zb : Int} [hzb : NatC zb j] (ht : P.underlying t = some (.slice el)) (hs : TI P el z size bytes) (hx : look e x = some (.slice (some ⟨b, m, none⟩) n cap))
    (hu : look e u = some (.int k zb)) (h : j ≤ cap) :
    Y P e ⟨d, .slice t x none (some u) none, ty, pos, aft, g⟩ (.slice (some ⟨b, m, none⟩) j cap) w w := fun ρ hρ => by
  obtain ⟨rfl⟩ := hzb
  have hsz := hs.size (w := w)
  have h1 : ∀ w, (Instr.sliceBound (.int k (j : Int)) cap .sliceAcap).run P w = .ok j w := fun w => by rw [run_sliceBound _ _ _ _ _ (by omega) (by omega)]; simp
  simp [execOp, hρ _ _ hx, hρ _ _ hu, Instr.sliceAt, run_underlying ht, Instr.slice, Instr.sliceBounds, h1, hsz, add_off]
theorem zstSl {g' : Option (Nat × Bool)} {z v : Value} {size bytes g n cap j : Nat} {cs : List Value} (hs : TI P t z 1 bytes) (hx : look e x = some (ptr g j)) (hy : look e y = some v) (hv : oneV v = true) (hS : Sl w (.slice (some ⟨g, 0, none⟩) n cap) el size n cs) (hj : j < cs.length) :
    Zp P e ⟨d, .store t x y, ty, pos, aft, g'⟩ w fun w' => Sl w' (.slice (some ⟨g, 0, none⟩) n cap) el size n (cs.set j v) ∧ Kp (fun k => k = g) w w' := by
  obtain ⟨hlen, ⟨hz, -⟩ | ⟨g1, cap1, cur, hv1, hb, hg, hn, hm, hsz, htk⟩⟩ := hS
  · cases hz
  cases hv1
  have hjc : j < cur.size := by
    have : cs.length ≤ cur.toList.length := by rw [← htk]; simp; omega
    simp at this; omega
  have hc : w.cell? ⟨g, j, none⟩ = some cur[j] := by simp [World.cell?, hg, hjc]
  have hf : w.frozen? ⟨g, j, none⟩ = false := by simp [World.frozen?, hg]
  refine ⟨w.setCell ⟨g, j, none⟩ v, fun ρ hρ => zstc hs hx hy hv hc hf ρ hρ, ⟨by simpa using hlen, .inr ⟨g, cap, cur.setIfInBounds j v, rfl, hb, Joins.block_setCell hg v, hn, hm, by simpa using hsz, ?_⟩⟩, kp_setCell w g j v⟩
  rw [Array.toList_setIfInBounds, ← htk, List.take_set]
end

def HeldL (P : Program) (ops : Array Oper) (Q : Exit → Act → World → Prop) (late : List Nat) (S : World → Prop) : Nat → Array Bool → Act → World → Prop
  | 0, listed, a, w => Region.ready .any ops listed = [] ∧ Q .normal a w
  | n + 1, listed, a, w => (Region.ready .any ops listed = [] → Q .normal a w) ∧
      ∀ i ∈ Region.ready .any ops listed, (i ∈ late → AtR P ops Q i (fun a' w' => HeldR P ops Q (fun _ => True) n (listed.setIfInBounds i true) a' w') a w) ∧
        (i ∉ late → AtR P ops Q i (fun a' w' => S w' ∧ HeldL P ops Q late S n (listed.setIfInBounds i true) a' w') a w)
theorem heldR_of_L {P : Program} {ops : Array Oper} {Q : Exit → Act → World → Prop} {late : List Nat} {S : World → Prop} : ∀ (n : Nat) (listed : Array Bool) (a : Act) (w : World), HeldL P ops Q late S n listed a w → HeldR P ops Q (fun _ => True) n listed a w
  | 0, _, _, _, h => h
  | n + 1, _, _, _, h => ⟨h.1, fun i hi => by
      by_cases e : i ∈ late
      · exact AtR.mono (fun a w hh => ⟨trivial, hh⟩) ((h.2 i hi).1 e)
      · exact AtR.mono (fun a w hh => ⟨trivial, heldR_of_L n _ _ _ hh.2⟩) ((h.2 i hi).2 e)⟩
theorem heldL_of_R {P : Program} {ops : Array Oper} {Q : Exit → Act → World → Prop} {late : List Nat} {S : World → Prop} {n : Nat} {listed : Array Bool} {a : Act} {w : World} (hl : ∀ i ∈ Region.ready .any ops listed, i ∈ late) (h : HeldR P ops Q (fun _ => True) n listed a w) : HeldL P ops Q late S n listed a w := by
  cases n with
  | zero => exact h
  | succ n => exact ⟨h.1, fun i hi => ⟨fun _ => AtR.mono (fun a w hh => hh.2) (h.2 i hi), fun e => absurd (hl i hi) e⟩⟩
def waits (ops : List Oper) (listed : Array Bool) (late dn : List Nat) (i : Nat) : Bool := !dn.contains i && late.all (fun j => dn.contains j) && dn.all fun j => !listed.getD j true && match ops[j]? with | some o => o.after.any fun x => Region.binds .any x && (x.on == i || dn.contains x.on) | none => false
section
variable {P : Program} {ops : Array Oper} {Q : Exit → Act → World → Prop} {S : World → Prop} {late : List Nat}
theorem heldL_ahead {i : Nat} {oi : Oper} {v : Value} {dn : List Nat} (hi : ops[i]? = some oi) (hsel : ∀ (j : Nat) (o : Oper) cs b, ops[j]? = some o → o.op ≠ .select cs b) (hQ : ∀ c a w, Q (.panic c) (a.put oi.dst v) w → Q (.panic c) a w) (hil : i ∉ dn)
    (hlate : ∀ j ∈ late, j ∈ dn) (hdn : ∀ j ∈ dn, ∃ oj, ops[j]? = some oj ∧ ∃ e ∈ oj.after, Region.binds .any e = true ∧ (e.on = i ∨ e.on ∈ dn)) : ∀ (n : Nat) (listed : Array Bool) (a : Act) (w : World), (∀ j ∈ dn, listed.getD j true = false) →
    (∀ j oj, ops[j]? = some oj → j ≠ i → listed.getD j true = false → (∀ e ∈ oj.after, Region.binds .any e = true → e.on ≠ i) → oi.apart ops oj = true) → i ∈ Region.ready .any ops listed → YieldsIf P ops S oi v a → S w →
    HeldL P ops Q late S n (listed.setIfInBounds i true) (a.put oi.dst v) w → HeldL P ops Q late S (n + 1) listed a w := by
  intro n
  induction n with
  | zero =>
    intro listed a w _ _ hr hy hS H
    constructor
    · intro h0; rw [h0] at hr; cases hr
    · intro j hj
      by_cases e : j = i
      · subst e; exact ⟨fun h => absurd (hlate _ h) hil, fun _ => atR_yields hi hy hS ⟨hS, H⟩⟩
      · exact absurd (ready_mono hj e) (by rw [H.1]; exact List.not_mem_nil)
  | succ n ih =>
    intro listed a w hdl hap hr hy hS H
    constructor
    · intro h0; rw [h0] at hr; cases hr
    · intro j hj
      by_cases e : j = i
      · subst e; exact ⟨fun h => absurd (hlate _ h) hil, fun _ => atR_yields hi hy hS ⟨hS, H⟩⟩
      · obtain ⟨hun, oj, hoj, hall⟩ := mem_ready.1 hj
        have hni : listed.getD i true = false := (mem_ready.1 hr).1
        have hnot : ∀ {m : Nat}, listed.getD m true = false → ∀ x ∈ oj.after, Region.binds .any x = true → x.on ≠ m := fun {m} hm x hx hb heq => by
          have h1 := hall x hx hb
          rw [heq] at h1
          by_cases hlt : m < listed.size
          · simp [hlt] at hm h1; rw [hm] at h1; cases h1
          · simp [Array.getElem?_eq_none (by omega : listed.size ≤ m)] at h1
        have hjd : j ∉ dn := fun hjd => by
          obtain ⟨oj', hoj', x, hx, hb, hon⟩ := hdn j hjd
          rw [hoj] at hoj'; cases hoj'
          rcases hon with hon | hon
          · exact hnot hni x hx hb hon
          · exact hnot (hdl _ hon) x hx hb rfl
        refine ⟨fun hjl => absurd (hlate _ hjl) hjd, fun hjl => ?_⟩
        have h2 := atR_put hoj (hap j oj hoj e hun (hnot hni)) (fun cs b => hsel i oi cs b hi) (fun cs b => hsel j oj cs b hoj) hQ hy ((H.2 j (ready_mono hj e)).2 hjl)
        refine AtR.mono (fun a' w' h3 => ⟨h3.2.1, ?_⟩) h2
        refine ih (listed.setIfInBounds j true) a' w' (fun m hm => ?_) (fun m om hm hmi hmu hno => ?_) (ready_mono hr (Ne.symm e)) h3.1 h3.2.1 ?_
        · rw [getD_set_ne true (fun e => hjd (by rw [e]; exact hm))]; exact hdl m hm
        · refine hap m om hm hmi ?_ hno
          by_cases hjm : j = m
          · subst hjm; exact hun
          · rw [getD_set_ne true hjm] at hmu; exact hmu
        · rw [Array.setIfInBounds_comm _ _ e]; exact h3.2.2
theorem heldL_aheadU {i : Nat} {oi : Oper} {v : Value} (hi : ops[i]? = some oi) (hsel : ∀ (j : Nat) (o : Oper) cs b, ops[j]? = some o → o.op ≠ .select cs b) (hQ : ∀ c a w, Q (.panic c) (a.put oi.dst v) w → Q (.panic c) a w) (hil : i ∉ late) : ∀ (n : Nat) (listed : Array Bool) (a : Act) (w : World),
    (∀ j oj, ops[j]? = some oj → j ≠ i → listed.getD j true = false → (∀ e ∈ oj.after, Region.binds .any e = true → e.on ≠ i) → oi.apart ops oj = true) → i ∈ Region.ready .any ops listed → YieldsIf P ops (fun _ => True) oi v a → S w →
    HeldL P ops Q late S n (listed.setIfInBounds i true) (a.put oi.dst v) w → HeldL P ops Q late S (n + 1) listed a w := by
  intro n
  induction n with
  | zero =>
    intro listed a w _ hr hy hS H
    constructor
    · intro h0; rw [h0] at hr; cases hr
    · intro j hj
      by_cases e : j = i
      · subst e; exact ⟨fun h => absurd h hil, fun _ => atR_yields hi hy trivial ⟨hS, H⟩⟩
      · exact absurd (ready_mono hj e) (by rw [H.1]; exact List.not_mem_nil)
  | succ n ih =>
    intro listed a w hap hr hy hS H
    constructor
    · intro h0; rw [h0] at hr; cases hr
    · intro j hj
      by_cases e : j = i
      · subst e; exact ⟨fun h => absurd h hil, fun _ => atR_yields hi hy trivial ⟨hS, H⟩⟩
      · obtain ⟨hun, oj, hoj, hall⟩ := mem_ready.1 hj
        have hni : listed.getD i true = false := (mem_ready.1 hr).1
        have hwait : ∀ x ∈ oj.after, Region.binds .any x = true → x.on ≠ i := fun x hx hb heq => by
          have h1 := hall x hx hb
          rw [heq] at h1
          by_cases hlt : i < listed.size
          · simp [hlt] at hni h1; rw [hni] at h1; cases h1
          · simp [Array.getElem?_eq_none (by omega : listed.size ≤ i)] at h1
        have hap' : ∀ m om, ops[m]? = some om → m ≠ i → (listed.setIfInBounds j true).getD m true = false → (∀ e ∈ om.after, Region.binds .any e = true → e.on ≠ i) → oi.apart ops om = true := fun m om hm hmi hmu hno => by
          refine hap m om hm hmi ?_ hno
          by_cases hjm : j = m
          · subst hjm; exact hun
          · rw [getD_set_ne true hjm] at hmu; exact hmu
        refine ⟨fun hjl => ?_, fun hjl => ?_⟩
        · have h2 := atR_put hoj (hap j oj hoj e hun hwait) (fun cs b => hsel i oi cs b hi) (fun cs b => hsel j oj cs b hoj) hQ hy ((H.2 j (ready_mono hj e)).1 hjl)
          refine AtR.mono (fun a' w' h3 => ?_) h2
          exact heldR_ahead hi hsel hQ n (listed.setIfInBounds j true) a' w' hap' (ready_mono hr (Ne.symm e)) h3.1 trivial (by rw [Array.setIfInBounds_comm _ _ e]; exact h3.2)
        · have h2 := atR_put hoj (hap j oj hoj e hun hwait) (fun cs b => hsel i oi cs b hi) (fun cs b => hsel j oj cs b hoj) hQ hy ((H.2 j (ready_mono hj e)).2 hjl)
          refine AtR.mono (fun a' w' h3 => ⟨h3.2.1, ?_⟩) h2
          refine ih (listed.setIfInBounds j true) a' w' hap' (ready_mono hr (Ne.symm e)) h3.1 h3.2.1 ?_
          rw [Array.setIfInBounds_comm _ _ e]; exact h3.2.2
theorem heldL_all {rs : List Nat} {fuel : Nat} {listed : Array Bool} {a : Act} {w : World} (hr : Region.ready .any ops listed = rs) (hne : rs ≠ []) (hl : ∀ i ∈ rs, i ∉ late) (h : ∀ i ∈ rs, AtR P ops Q i (fun a' w' => S w' ∧ HeldL P ops Q late S fuel (listed.setIfInBounds i true) a' w') a w) : HeldL P ops Q late S (fuel + 1) listed a w :=
  ⟨fun h0 => absurd (hr ▸ h0) hne, by rw [hr]; exact fun i hi => ⟨fun e => absurd e (hl i hi), fun _ => h i hi⟩⟩
end
def RHL (D : RC) (late : List Nat) (S : World → Prop) (fuel : Nat) (listed : Array Bool) (e : Env) (w : World) : Prop :=
  ∀ a, EOk D.C.n D.C.ms e a → HeldL D.C.P D.ops.toArray (QK D.C D.k) late S fuel listed a w
theorem run_drawL {C : Cx} {id : Nat} {ops : List Oper} {k : List Item} {e : Env} {w : World} (late : List Nat) (S : World → Prop) (hm : C.P.follows .mixedOrders = true)
    (ho : dstsOk C.n ops = true) (h : RHL ⟨C, ops, k, ho⟩ late S ops.length (Array.replicate ops.length false) e w.drew) (hc : calm ops = true := by rfl) : Run C (.code (.region id ops.toArray true) :: k) e w :=
  run_draw (fun _ => True) hm ho (fun a ha => heldR_of_L _ _ _ _ (h a ha)) hc
def noneOf (rs late : List Nat) : Bool := rs.all fun i => !late.contains i
def allOf (rs late : List Nat) : Bool := rs.all fun i => late.contains i
section
variable {D : RC} {late : List Nat} {S : World → Prop} {e : Env} {w w' : World} {d i fuel : Nat} {op : Op} {ty : TypeId} {pos : String} {aft : Array Edge} {g : Option (Nat × Bool)} {listed : Array Bool}
theorem hLate (rs : List Nat) (hr : readyIs D.ops listed rs = true) (hl : allOf rs late = true) (h : RH D (fun _ => True) fuel listed e w) : RHL D late S fuel listed e w := fun a ha =>
  heldL_of_R (fun i hi => by
    have hr' : Region.ready .any D.ops.toArray listed = rs := by simpa [readyIs] using hr
    rw [hr'] at hi
    simpa using List.all_eq_true.1 hl i hi) (h a ha)
theorem waits_spec {ops : List Oper} {dn : List Nat} (h : waits ops listed late dn i = true) : i ∉ dn ∧ (∀ j ∈ late, j ∈ dn) ∧ (∀ j ∈ dn, listed.getD j true = false) ∧ ∀ j ∈ dn, ∃ oj, ops.toArray[j]? = some oj ∧ ∃ e ∈ oj.after, Region.binds .any e = true ∧ (e.on = i ∨ e.on ∈ dn) := by
  unfold waits at h
  rw [Bool.and_eq_true, Bool.and_eq_true] at h
  obtain ⟨⟨h1, h2⟩, h3⟩ := h
  have h3 := fun j hj => List.all_eq_true.1 h3 j hj
  refine ⟨by simpa using h1, fun j hj => by simpa using List.all_eq_true.1 h2 j hj, fun j hj => ?_, fun j hj => ?_⟩
  · have := h3 j hj
    rw [Bool.and_eq_true] at this
    cases e : listed.getD j true
    · rfl
    · have h4 := this.1; rw [e] at h4; cases h4
  · have := h3 j hj
    rw [Bool.and_eq_true] at this
    have := this.2
    cases ho : ops[j]? with
    | none => rw [ho] at this; cases this
    | some o =>
      rw [ho] at this
      obtain ⟨x, hx, hb⟩ := Array.any_eq_true'.1 this
      rw [Bool.and_eq_true, Bool.or_eq_true] at hb
      exact ⟨o, by simpa using ho, x, hx, hb.1, hb.2.imp (fun h => by simpa using h) (fun h => by simpa using h)⟩
theorem hTakeL (dn : List Nat) {v : Value} (hi : D.ops[i]? = some ⟨some d, op, ty, pos, aft, g⟩) (hf : (freeNow D.ops listed i && waits D.ops listed late dn i) = true) (ho : okw D e g true = true) (hd : Nat.blt d D.C.n = true)
    (hy : ∀ w, S w → Y D.C.P e ⟨some d, op, ty, pos, aft, g⟩ v w w) (hS : S w) (h : RHL D late S fuel (listed.setIfInBounds i true) ((d, v) :: e) w) : RHL D late S (fuel + 1) listed e w := fun a ha => by
  rw [Bool.and_eq_true] at hf
  obtain ⟨h1, h2, h3⟩ := freeNow_spec hf.1
  obtain ⟨l1, l2, l3, l4⟩ := waits_spec hf.2
  exact heldL_ahead (v := v) (by simpa using hi) (Region.noSelect_spec h1) (fun _ _ _ h => h) l1 l2 l4 _ _ _ _ l3 (Region.free_spec (by simpa using hi) h2) (by simpa using h3) (.inl ⟨okw_spec ha ho, fun w hw => hy w hw a.eval (fun x v hx => ha.look hx)⟩) hS (h _ (ha.put hd v))
theorem hTakeU {v : Value} (hi : D.ops[i]? = some ⟨some d, op, ty, pos, aft, g⟩) (hf : (freeNow D.ops listed i && !late.contains i) = true) (ho : okw D e g true = true) (hd : Nat.blt d D.C.n = true)
    (hy : ∀ w, Y D.C.P e ⟨some d, op, ty, pos, aft, g⟩ v w w) (hS : S w) (h : RHL D late S fuel (listed.setIfInBounds i true) ((d, v) :: e) w) : RHL D late S (fuel + 1) listed e w := fun a ha => by
  rw [Bool.and_eq_true] at hf
  obtain ⟨h1, h2, h3⟩ := freeNow_spec hf.1
  exact heldL_aheadU (v := v) (by simpa using hi) (Region.noSelect_spec h1) (fun _ _ _ h => h) (by simpa using hf.2) _ _ _ _ (Region.free_spec (by simpa using hi) h2) (by simpa using h3) (.inl ⟨okw_spec ha ho, fun w _ => hy w a.eval (fun x v hx => ha.look hx)⟩) hS (h _ (ha.put hd v))
def NxL (D : RC) (late : List Nat) (S : World → Prop) (fuel : Nat) (listed : Array Bool) (e : Env) (w : World) (i : Nat) : Prop :=
  ∀ a, EOk D.C.n D.C.ms e a → AtR D.C.P D.ops.toArray (QK D.C D.k) i (fun a' w' => S w' ∧ HeldL D.C.P D.ops.toArray (QK D.C D.k) late S fuel (listed.setIfInBounds i true) a' w') a w
theorem hOneL (hr : (readyIs D.ops listed [i] && noneOf [i] late) = true) (h : NxL D late S fuel listed e w i) : RHL D late S (fuel + 1) listed e w := fun a ha => by
  rw [Bool.and_eq_true] at hr
  exact heldL_all (rs := [i]) (by simpa [readyIs] using hr.1) (by simp) (fun j hj => by simpa using List.all_eq_true.1 hr.2 j hj) fun j hj => by simp at hj; subst hj; exact h a ha
theorem hTwoL {j : Nat} (hr : (readyIs D.ops listed [i, j] && noneOf [i, j] late) = true) (h : NxL D late S fuel listed e w i) (h' : NxL D late S fuel listed e w j) : RHL D late S (fuel + 1) listed e w := fun a ha => by
  rw [Bool.and_eq_true] at hr
  exact heldL_all (rs := [i, j]) (by simpa [readyIs] using hr.1) (by simp) (fun j hj => by simpa using List.all_eq_true.1 hr.2 j hj) fun m hm => by
    simp at hm
    rcases hm with rfl | rfl
    · exact h a ha
    · exact h' a ha
theorem NxL.mk_wp {o : Oper} (hi : D.ops[i]? = some o) (ho : okw D e o.guard true = true)
    (h : ∀ a, EOk D.C.n D.C.ms e a → o.wp D.C.P a w (fun a' w' => S w' ∧ HeldL D.C.P D.ops.toArray (QK D.C D.k) late S fuel (listed.setIfInBounds i true) a' w') (QK D.C D.k)) : NxL D late S fuel listed e w i := fun a ha => by
  have hw := okw_spec ha ho
  refine .inl ?_
  unfold wpOp
  simp only [List.getElem?_toArray, hi]
  rw [if_pos hw]
  exact .inl (h a ha)
theorem nValL {v : Value} (hi : D.ops[i]? = some ⟨some d, op, ty, pos, aft, g⟩) (ho : okw D e g true = true) (hd : Nat.blt d D.C.n = true)
    (hy : Y D.C.P e ⟨some d, op, ty, pos, aft, g⟩ v w w') (hS : S w') (h : RHL D late S fuel (listed.setIfInBounds i true) ((d, v) :: e) w') : NxL D late S fuel listed e w i :=
  NxL.mk_wp hi ho fun a ha => by
    have := hy a.eval (fun x v hx => ha.look hx)
    unfold Oper.wp
    rw [this]
    exact ⟨hS, h _ (ha.put hd v)⟩
theorem nCallL {f : FuncId} {args : List Value} {T : Value → World → Prop} (hi : D.ops[i]? = some ⟨some d, op, ty, pos, aft, g⟩) (ho : okw D e g true = true) (hd : Nat.blt d D.C.n = true)
    (hy : Yc D.C.P e ⟨some d, op, ty, pos, aft, g⟩ f args w) (hc : Ret D.C.P f args w T) (h : ∀ v w', T v w' → S w' ∧ RHL D late S fuel (listed.setIfInBounds i true) ((d, v) :: e) w') : NxL D late S fuel listed e w i :=
  NxL.mk_wp hi ho fun a ha => by
    have := hy a.eval (fun x v hx => ha.look hx)
    unfold Oper.wp
    rw [this]
    exact Calls.mono hc fun x w' ⟨v, hx, hv⟩ => by subst hx; exact ⟨(h v w' hv).1, (h v w' hv).2 _ (ha.put hd v)⟩
theorem nValPL {Post : Value → World → Prop} (hi : D.ops[i]? = some ⟨some d, op, ty, pos, aft, g⟩) (ho : okw D e g true = true) (hd : Nat.blt d D.C.n = true)
    (hy : Yp D.C.P e ⟨some d, op, ty, pos, aft, g⟩ w Post) (h : ∀ v w', Post v w' → S w' ∧ RHL D late S fuel (listed.setIfInBounds i true) ((d, v) :: e) w') : NxL D late S fuel listed e w i := by
  obtain ⟨v, w', hy, hp⟩ := hy
  exact nValL hi ho hd hy (h v w' hp).1 (h v w' hp).2
end
set_option maxRecDepth 100000
set_option linter.unusedSimpArgs false
theorem ti3 : TI Tryz.prog 3 (Value.int .i64 0) 1 8 := ti_mk (by kernel_rfl)
theorem ti4 : TI Tryz.prog 4 (Value.bool false) 1 1 := ti_mk (by kernel_rfl)
theorem ti5 : TI Tryz.prog 5 (Value.int .u8 0) 1 1 := ti_mk (by kernel_rfl)
theorem ti9 : TI Tryz.prog 9 (Value.string ⟨#[]⟩) 1 16 := ti_mk (by kernel_rfl)
theorem ti23 : TI Tryz.prog 23 (Value.slice none 0 0) 1 24 := ti_mk (by kernel_rfl)
theorem ti24 : TI Tryz.prog 24 (Value.pointer none) 1 8 := ti_mk (by kernel_rfl)
theorem ti29 : TI Tryz.prog 29 (Value.pointer none) 1 8 := ti_mk (by kernel_rfl)
theorem ti30 : TI Tryz.prog 30 (Value.slice none 0 0) 1 24 := ti_mk (by kernel_rfl)
theorem ti32 : TI Tryz.prog 32 (Value.agg #[Value.slice none 0 0]) 1 24 := ti_mk (by kernel_rfl)
theorem ti33 : TI Tryz.prog 33 (Value.slice none 0 0) 1 24 := ti_mk (by kernel_rfl)
theorem ti34 : TI Tryz.prog 34 (Value.slice none 0 0) 1 24 := ti_mk (by kernel_rfl)
theorem ti36 : TI Tryz.prog 36 (Value.agg #[Value.int .i64 0, Value.pointer none, Value.pointer none, Value.slice none 0 0, Value.slice none 0 0, Value.int .i64 0]) 6 80 := ti_mk (by kernel_rfl)
theorem ti39 : TI Tryz.prog 39 (Value.agg #[Value.int .i64 0, Value.string ⟨#[]⟩, Value.string ⟨#[]⟩, Value.int .i64 0, Value.slice none 0 0, Value.bool false]) 6 80 := ti_mk (by kernel_rfl)
theorem ti41 : TI Tryz.prog 41 (Value.agg #[Value.string ⟨#[]⟩, Value.string ⟨#[]⟩]) 2 32 := ti_mk (by kernel_rfl)
theorem ti45 : TI Tryz.prog 45 (Value.slice none 0 0) 1 24 := ti_mk (by kernel_rfl)
theorem ti49 : TI Tryz.prog 49 (Value.agg #[Value.string ⟨#[]⟩, Value.string ⟨#[]⟩]) 2 32 := ti_mk (by kernel_rfl)
theorem ti54 : TI Tryz.prog 54 (Value.agg #[Value.int .i64 0, Value.string ⟨#[]⟩]) 2 24 := ti_mk (by kernel_rfl)
theorem ti55 : TI Tryz.prog 55 (Value.agg #[Value.int .i64 0, Value.string ⟨#[]⟩]) 2 24 := ti_mk (by kernel_rfl)
theorem ti71 : TI Tryz.prog 71 (Value.map none) 1 8 := ti_mk (by kernel_rfl)
theorem ti72 : TI Tryz.prog 72 (Value.map none) 1 8 := ti_mk (by kernel_rfl)
theorem ti74 : TI Tryz.prog 74 (Value.agg #[Value.int .i64 0, Value.int .i64 0, Value.int .i64 0, Value.int .i64 0, Value.int .i64 0, Value.map none, Value.slice none 0 0, Value.map none, Value.map none]) 9 88 := ti_mk (by kernel_rfl)
theorem ti80 : TI Tryz.prog 80 (Value.nilFunc) 1 8 := ti_mk (by kernel_rfl)
theorem ti81 : TI Tryz.prog 81 (Value.pointer none) 1 8 := ti_mk (by kernel_rfl)
theorem ti82 : TI Tryz.prog 82 (Value.slice none 0 0) 1 24 := ti_mk (by kernel_rfl)
theorem ti84 : TI Tryz.prog 84 (Value.agg #[Value.bool false, Value.slice none 0 0, Value.slice none 0 0, Value.slice none 0 0]) 4 80 := ti_mk (by kernel_rfl)
theorem ti89 : TI Tryz.prog 89 (Value.int .u32 0) 1 4 := ti_mk (by kernel_rfl)
theorem ti110 : TI Tryz.prog 110 (Value.nilFunc) 1 8 := ti_mk (by kernel_rfl)
theorem ti122 : TI Tryz.prog 122 (Value.nilFunc) 1 8 := ti_mk (by kernel_rfl)
theorem ti123 : TI Tryz.prog 123 (Value.slice none 0 0) 1 24 := ti_mk (by kernel_rfl)
theorem ti126 : TI Tryz.prog 126 (Value.nilFunc) 1 8 := ti_mk (by kernel_rfl)
theorem ti128 : TI Tryz.prog 128 (Value.agg #[Value.string ⟨#[]⟩, Value.string ⟨#[]⟩, Value.bool false]) 3 40 := ti_mk (by kernel_rfl)
theorem ti146 : TI Tryz.prog 146 (Value.agg #[Value.pointer none, Value.int .i64 0, Value.pointer none, Value.pointer none]) 4 32 := ti_mk (by kernel_rfl)
theorem ti152 : TI Tryz.prog 152 (Value.agg #[Value.pointer none, Value.slice none 0 0]) 2 32 := ti_mk (by kernel_rfl)
theorem ti153 : TI Tryz.prog 153 (Value.agg #[Value.int .u8 0, Value.int .u8 0, Value.int .u8 0, Value.int .u8 0]) 4 4 := ti_mk (by kernel_rfl)
theorem fl32_0 : Fld Tryz.prog 32 0 0 1 false := ⟨_, _, _, _, _, Tryz.underlying32, rfl, rfl, ti30, Tryz.underlying30, rfl⟩
theorem sp32 : SP Tryz.prog 32 [(0, 1)] := ⟨_, Tryz.underlying32, fun _ => by simp [ti30.size, Sem.run_bind, Sem.run_pure]⟩
theorem fl36_0 : Fld Tryz.prog 36 0 0 1 false := ⟨_, _, _, _, _, Tryz.underlying36, rfl, rfl, ti3, Tryz.underlying3, rfl⟩
theorem fl36_1 : Fld Tryz.prog 36 1 1 1 false := ⟨_, _, _, _, _, Tryz.underlying36, rfl, rfl, ti24, Tryz.underlying24, rfl⟩
theorem fl36_2 : Fld Tryz.prog 36 2 2 1 false := ⟨_, _, _, _, _, Tryz.underlying36, rfl, rfl, ti29, Tryz.underlying29, rfl⟩
theorem fl36_3 : Fld Tryz.prog 36 3 3 1 false := ⟨_, _, _, _, _, Tryz.underlying36, rfl, rfl, ti33, Tryz.underlying33, rfl⟩
theorem fl36_4 : Fld Tryz.prog 36 4 4 1 false := ⟨_, _, _, _, _, Tryz.underlying36, rfl, rfl, ti34, Tryz.underlying34, rfl⟩
theorem fl36_5 : Fld Tryz.prog 36 5 5 1 false := ⟨_, _, _, _, _, Tryz.underlying36, rfl, rfl, ti3, Tryz.underlying3, rfl⟩
theorem sp36 : SP Tryz.prog 36 [(0, 1), (1, 1), (2, 1), (3, 1), (4, 1), (5, 1)] := ⟨_, Tryz.underlying36, fun _ => by simp [ti24.size, ti29.size, ti3.size, ti33.size, ti34.size, Sem.run_bind, Sem.run_pure]⟩
theorem fl39_0 : Fld Tryz.prog 39 0 0 1 false := ⟨_, _, _, _, _, Tryz.underlying39, rfl, rfl, ti3, Tryz.underlying3, rfl⟩
theorem fl39_1 : Fld Tryz.prog 39 1 1 1 false := ⟨_, _, _, _, _, Tryz.underlying39, rfl, rfl, ti9, Tryz.underlying9, rfl⟩
theorem fl39_2 : Fld Tryz.prog 39 2 2 1 false := ⟨_, _, _, _, _, Tryz.underlying39, rfl, rfl, ti9, Tryz.underlying9, rfl⟩
theorem fl39_3 : Fld Tryz.prog 39 3 3 1 false := ⟨_, _, _, _, _, Tryz.underlying39, rfl, rfl, ti3, Tryz.underlying3, rfl⟩
theorem fl39_4 : Fld Tryz.prog 39 4 4 1 false := ⟨_, _, _, _, _, Tryz.underlying39, rfl, rfl, ti34, Tryz.underlying34, rfl⟩
theorem fl39_5 : Fld Tryz.prog 39 5 5 1 false := ⟨_, _, _, _, _, Tryz.underlying39, rfl, rfl, ti4, Tryz.underlying4, rfl⟩
theorem fl41_0 : Fld Tryz.prog 41 0 0 1 false := ⟨_, _, _, _, _, Tryz.underlying41, rfl, rfl, ti9, Tryz.underlying9, rfl⟩
theorem fl41_1 : Fld Tryz.prog 41 1 1 1 false := ⟨_, _, _, _, _, Tryz.underlying41, rfl, rfl, ti9, Tryz.underlying9, rfl⟩
theorem sp41 : SP Tryz.prog 41 [(0, 1), (1, 1)] := ⟨_, Tryz.underlying41, fun _ => by simp [ti9.size, Sem.run_bind, Sem.run_pure]⟩
theorem fl49_0 : Fld Tryz.prog 49 0 0 1 false := ⟨_, _, _, _, _, Tryz.underlying49, rfl, rfl, ti9, Tryz.underlying9, rfl⟩
theorem fl49_1 : Fld Tryz.prog 49 1 1 1 false := ⟨_, _, _, _, _, Tryz.underlying49, rfl, rfl, ti9, Tryz.underlying9, rfl⟩
theorem sp49 : SP Tryz.prog 49 [(0, 1), (1, 1)] := ⟨_, Tryz.underlying49, fun _ => by simp [ti9.size, Sem.run_bind, Sem.run_pure]⟩
theorem fl54_0 : Fld Tryz.prog 54 0 0 1 false := ⟨_, _, _, _, _, Tryz.underlying54, rfl, rfl, ti3, Tryz.underlying3, rfl⟩
theorem sp54 : SP Tryz.prog 54 [(0, 1), (1, 1)] := ⟨_, Tryz.underlying54, fun _ => by simp [ti3.size, ti9.size, Sem.run_bind, Sem.run_pure]⟩
theorem fl55_0 : Fld Tryz.prog 55 0 0 1 false := ⟨_, _, _, _, _, Tryz.underlying55, rfl, rfl, ti3, Tryz.underlying3, rfl⟩
theorem fl55_1 : Fld Tryz.prog 55 1 1 1 false := ⟨_, _, _, _, _, Tryz.underlying55, rfl, rfl, ti9, Tryz.underlying9, rfl⟩
theorem sp55 : SP Tryz.prog 55 [(0, 1), (1, 1)] := ⟨_, Tryz.underlying55, fun _ => by simp [ti3.size, ti9.size, Sem.run_bind, Sem.run_pure]⟩
theorem fl74_0 : Fld Tryz.prog 74 0 0 1 false := ⟨_, _, _, _, _, Tryz.underlying74, rfl, rfl, ti3, Tryz.underlying3, rfl⟩
theorem fl74_1 : Fld Tryz.prog 74 1 1 1 false := ⟨_, _, _, _, _, Tryz.underlying74, rfl, rfl, ti3, Tryz.underlying3, rfl⟩
theorem fl74_2 : Fld Tryz.prog 74 2 2 1 false := ⟨_, _, _, _, _, Tryz.underlying74, rfl, rfl, ti3, Tryz.underlying3, rfl⟩
theorem fl74_3 : Fld Tryz.prog 74 3 3 1 false := ⟨_, _, _, _, _, Tryz.underlying74, rfl, rfl, ti3, Tryz.underlying3, rfl⟩
theorem fl74_4 : Fld Tryz.prog 74 4 4 1 false := ⟨_, _, _, _, _, Tryz.underlying74, rfl, rfl, ti3, Tryz.underlying3, rfl⟩
theorem fl74_5 : Fld Tryz.prog 74 5 5 1 false := ⟨_, _, _, _, _, Tryz.underlying74, rfl, rfl, ti71, Tryz.underlying71, rfl⟩
theorem fl74_6 : Fld Tryz.prog 74 6 6 1 false := ⟨_, _, _, _, _, Tryz.underlying74, rfl, rfl, ti34, Tryz.underlying34, rfl⟩
theorem fl74_7 : Fld Tryz.prog 74 7 7 1 false := ⟨_, _, _, _, _, Tryz.underlying74, rfl, rfl, ti72, Tryz.underlying72, rfl⟩
theorem fl74_8 : Fld Tryz.prog 74 8 8 1 false := ⟨_, _, _, _, _, Tryz.underlying74, rfl, rfl, ti72, Tryz.underlying72, rfl⟩
theorem sp74 : SP Tryz.prog 74 [(0, 1), (1, 1), (2, 1), (3, 1), (4, 1), (5, 1), (6, 1), (7, 1), (8, 1)] := ⟨_, Tryz.underlying74, fun _ => by simp [ti3.size, ti34.size, ti71.size, ti72.size, Sem.run_bind, Sem.run_pure]⟩
theorem fl84_0 : Fld Tryz.prog 84 0 0 1 false := ⟨_, _, _, _, _, Tryz.underlying84, rfl, rfl, ti4, Tryz.underlying4, rfl⟩
theorem fl84_1 : Fld Tryz.prog 84 1 1 1 false := ⟨_, _, _, _, _, Tryz.underlying84, rfl, rfl, ti23, Tryz.underlying23, rfl⟩
theorem fl84_2 : Fld Tryz.prog 84 2 2 1 false := ⟨_, _, _, _, _, Tryz.underlying84, rfl, rfl, ti23, Tryz.underlying23, rfl⟩
theorem fl84_3 : Fld Tryz.prog 84 3 3 1 false := ⟨_, _, _, _, _, Tryz.underlying84, rfl, rfl, ti82, Tryz.underlying82, rfl⟩
theorem sp84 : SP Tryz.prog 84 [(0, 1), (1, 1), (2, 1), (3, 1)] := ⟨_, Tryz.underlying84, fun _ => by simp [ti23.size, ti4.size, ti82.size, Sem.run_bind, Sem.run_pure]⟩
theorem fl128_0 : Fld Tryz.prog 128 0 0 1 false := ⟨_, _, _, _, _, Tryz.underlying128, rfl, rfl, ti9, Tryz.underlying9, rfl⟩
theorem fl128_1 : Fld Tryz.prog 128 1 1 1 false := ⟨_, _, _, _, _, Tryz.underlying128, rfl, rfl, ti9, Tryz.underlying9, rfl⟩
theorem fl128_2 : Fld Tryz.prog 128 2 2 1 false := ⟨_, _, _, _, _, Tryz.underlying128, rfl, rfl, ti4, Tryz.underlying4, rfl⟩
theorem sp128 : SP Tryz.prog 128 [(0, 1), (1, 1), (2, 1)] := ⟨_, Tryz.underlying128, fun _ => by simp [ti4.size, ti9.size, Sem.run_bind, Sem.run_pure]⟩
theorem fl146_0 : Fld Tryz.prog 146 0 0 1 false := ⟨_, _, _, _, _, Tryz.underlying146, rfl, rfl, ti81, Tryz.underlying81, rfl⟩
theorem fl146_1 : Fld Tryz.prog 146 1 1 1 false := ⟨_, _, _, _, _, Tryz.underlying146, rfl, rfl, ti3, Tryz.underlying3, rfl⟩
theorem fl146_2 : Fld Tryz.prog 146 2 2 1 false := ⟨_, _, _, _, _, Tryz.underlying146, rfl, rfl, ti81, Tryz.underlying81, rfl⟩
theorem fl146_3 : Fld Tryz.prog 146 3 3 1 false := ⟨_, _, _, _, _, Tryz.underlying146, rfl, rfl, ti81, Tryz.underlying81, rfl⟩
theorem sp146 : SP Tryz.prog 146 [(0, 1), (1, 1), (2, 1), (3, 1)] := ⟨_, Tryz.underlying146, fun _ => by simp [ti3.size, ti81.size, Sem.run_bind, Sem.run_pure]⟩
theorem fl152_1 : Fld Tryz.prog 152 1 1 1 false := ⟨_, _, _, _, _, Tryz.underlying152, rfl, rfl, ti123, Tryz.underlying123, rfl⟩
theorem cf8 : CF Tryz.prog 8 := ⟨_, Tryz.func8, by kernel_rfl, rfl⟩
theorem cf9 : CF Tryz.prog 9 := ⟨_, Tryz.func9, by kernel_rfl, rfl⟩
theorem cf10 : CF Tryz.prog 10 := ⟨_, Tryz.func10, by kernel_rfl, rfl⟩
theorem cf11 : CF Tryz.prog 11 := ⟨_, Tryz.func11, by kernel_rfl, rfl⟩
theorem cf12 : CF Tryz.prog 12 := ⟨_, Tryz.func12, by kernel_rfl, rfl⟩
theorem cf13 : CF Tryz.prog 13 := ⟨_, Tryz.func13, by kernel_rfl, rfl⟩
theorem cf14 : CF Tryz.prog 14 := ⟨_, Tryz.func14, by kernel_rfl, rfl⟩
theorem cf16 : CF Tryz.prog 16 := ⟨_, Tryz.func16, by kernel_rfl, rfl⟩
theorem cf17 : CF Tryz.prog 17 := ⟨_, Tryz.func17, by kernel_rfl, rfl⟩
theorem cf20 : CF Tryz.prog 20 := ⟨_, Tryz.func20, by kernel_rfl, rfl⟩
theorem cf21 : CF Tryz.prog 21 := ⟨_, Tryz.func21, by kernel_rfl, rfl⟩
theorem cf22 : CF Tryz.prog 22 := ⟨_, Tryz.func22, by kernel_rfl, rfl⟩
theorem cf23 : CF Tryz.prog 23 := ⟨_, Tryz.func23, by kernel_rfl, rfl⟩
theorem cf24 : CF Tryz.prog 24 := ⟨_, Tryz.func24, by kernel_rfl, rfl⟩
theorem cf25 : CF Tryz.prog 25 := ⟨_, Tryz.func25, by kernel_rfl, rfl⟩
theorem cf26 : CF Tryz.prog 26 := ⟨_, Tryz.func26, by kernel_rfl, rfl⟩
theorem cf27 : CF Tryz.prog 27 := ⟨_, Tryz.func27, by kernel_rfl, rfl⟩
theorem cf28 : CF Tryz.prog 28 := ⟨_, Tryz.func28, by kernel_rfl, rfl⟩
theorem cf29 : CF Tryz.prog 29 := ⟨_, Tryz.func29, by kernel_rfl, rfl⟩
theorem cf30 : CF Tryz.prog 30 := ⟨_, Tryz.func30, by kernel_rfl, rfl⟩
theorem cf31 : CF Tryz.prog 31 := ⟨_, Tryz.func31, by kernel_rfl, rfl⟩
theorem cf32 : CF Tryz.prog 32 := ⟨_, Tryz.func32, by kernel_rfl, rfl⟩
theorem cf33 : CF Tryz.prog 33 := ⟨_, Tryz.func33, by kernel_rfl, rfl⟩
theorem cf34 : CF Tryz.prog 34 := ⟨_, Tryz.func34, by kernel_rfl, rfl⟩
theorem cf35 : CF Tryz.prog 35 := ⟨_, Tryz.func35, by kernel_rfl, rfl⟩
theorem cf36 : CF Tryz.prog 36 := ⟨_, Tryz.func36, by kernel_rfl, rfl⟩
theorem cf37 : CF Tryz.prog 37 := ⟨_, Tryz.func37, by kernel_rfl, rfl⟩
theorem cf38 : CF Tryz.prog 38 := ⟨_, Tryz.func38, by kernel_rfl, rfl⟩
theorem cf39 : CF Tryz.prog 39 := ⟨_, Tryz.func39, by kernel_rfl, rfl⟩
theorem cf40 : CF Tryz.prog 40 := ⟨_, Tryz.func40, by kernel_rfl, rfl⟩
theorem cf41 : CF Tryz.prog 41 := ⟨_, Tryz.func41, by kernel_rfl, rfl⟩
theorem cf42 : CF Tryz.prog 42 := ⟨_, Tryz.func42, by kernel_rfl, rfl⟩
theorem cf43 : CF Tryz.prog 43 := ⟨_, Tryz.func43, by kernel_rfl, rfl⟩
theorem cf44 : CF Tryz.prog 44 := ⟨_, Tryz.func44, by kernel_rfl, rfl⟩
theorem cf45 : CF Tryz.prog 45 := ⟨_, Tryz.func45, by kernel_rfl, rfl⟩
theorem cf46 : CF Tryz.prog 46 := ⟨_, Tryz.func46, by kernel_rfl, rfl⟩
theorem cf47 : CF Tryz.prog 47 := ⟨_, Tryz.func47, by kernel_rfl, rfl⟩
theorem cf48 : CF Tryz.prog 48 := ⟨_, Tryz.func48, by kernel_rfl, rfl⟩
theorem cf49 : CF Tryz.prog 49 := ⟨_, Tryz.func49, by kernel_rfl, rfl⟩
theorem cf50 : CF Tryz.prog 50 := ⟨_, Tryz.func50, by kernel_rfl, rfl⟩
theorem cf51 : CF Tryz.prog 51 := ⟨_, Tryz.func51, by kernel_rfl, rfl⟩
theorem cf52 : CF Tryz.prog 52 := ⟨_, Tryz.func52, by kernel_rfl, rfl⟩
theorem cf55 : CF Tryz.prog 55 := ⟨_, Tryz.func55, by kernel_rfl, rfl⟩
theorem cf56 : CF Tryz.prog 56 := ⟨_, Tryz.func56, by kernel_rfl, rfl⟩
theorem cf57 : CF Tryz.prog 57 := ⟨_, Tryz.func57, by kernel_rfl, rfl⟩
theorem cf58 : CF Tryz.prog 58 := ⟨_, Tryz.func58, by kernel_rfl, rfl⟩
theorem cf59 : CF Tryz.prog 59 := ⟨_, Tryz.func59, by kernel_rfl, rfl⟩
theorem cf60 : CF Tryz.prog 60 := ⟨_, Tryz.func60, by kernel_rfl, rfl⟩
theorem cf61 : CF Tryz.prog 61 := ⟨_, Tryz.func61, by kernel_rfl, rfl⟩
theorem cf62 : CF Tryz.prog 62 := ⟨_, Tryz.func62, by kernel_rfl, rfl⟩
theorem cf63 : CF Tryz.prog 63 := ⟨_, Tryz.func63, by kernel_rfl, rfl⟩
theorem cf64 : CF Tryz.prog 64 := ⟨_, Tryz.func64, by kernel_rfl, rfl⟩
theorem cf65 : CF Tryz.prog 65 := ⟨_, Tryz.func65, by kernel_rfl, rfl⟩
theorem cf66 : CF Tryz.prog 66 := ⟨_, Tryz.func66, by kernel_rfl, rfl⟩
theorem cf67 : CF Tryz.prog 67 := ⟨_, Tryz.func67, by kernel_rfl, rfl⟩
theorem cf68 : CF Tryz.prog 68 := ⟨_, Tryz.func68, by kernel_rfl, rfl⟩
theorem cf69 : CF Tryz.prog 69 := ⟨_, Tryz.func69, by kernel_rfl, rfl⟩
theorem cf70 : CF Tryz.prog 70 := ⟨_, Tryz.func70, by kernel_rfl, rfl⟩
theorem cf71 : CF Tryz.prog 71 := ⟨_, Tryz.func71, by kernel_rfl, rfl⟩
theorem cf72 : CF Tryz.prog 72 := ⟨_, Tryz.func72, by kernel_rfl, rfl⟩
theorem cf73 : CF Tryz.prog 73 := ⟨_, Tryz.func73, by kernel_rfl, rfl⟩
theorem cf74 : CF Tryz.prog 74 := ⟨_, Tryz.func74, by kernel_rfl, rfl⟩
theorem cf75 : CF Tryz.prog 75 := ⟨_, Tryz.func75, by kernel_rfl, rfl⟩
theorem cf76 : CF Tryz.prog 76 := ⟨_, Tryz.func76, by kernel_rfl, rfl⟩
theorem cf77 : CF Tryz.prog 77 := ⟨_, Tryz.func77, by kernel_rfl, rfl⟩
theorem cf78 : CF Tryz.prog 78 := ⟨_, Tryz.func78, by kernel_rfl, rfl⟩
theorem cf79 : CF Tryz.prog 79 := ⟨_, Tryz.func79, by kernel_rfl, rfl⟩
theorem cf80 : CF Tryz.prog 80 := ⟨_, Tryz.func80, by kernel_rfl, rfl⟩
theorem cf81 : CF Tryz.prog 81 := ⟨_, Tryz.func81, by kernel_rfl, rfl⟩
theorem cf82 : CF Tryz.prog 82 := ⟨_, Tryz.func82, by kernel_rfl, rfl⟩
theorem cf83 : CF Tryz.prog 83 := ⟨_, Tryz.func83, by kernel_rfl, rfl⟩
theorem cf84 : CF Tryz.prog 84 := ⟨_, Tryz.func84, by kernel_rfl, rfl⟩
theorem cf85 : CF Tryz.prog 85 := ⟨_, Tryz.func85, by kernel_rfl, rfl⟩
theorem cf90 : CF Tryz.prog 90 := ⟨_, Tryz.func90, by kernel_rfl, rfl⟩
theorem cf93 : CF Tryz.prog 93 := ⟨_, Tryz.func93, by kernel_rfl, rfl⟩
theorem cf94 : CF Tryz.prog 94 := ⟨_, Tryz.func94, by kernel_rfl, rfl⟩
theorem cf97 : CF Tryz.prog 97 := ⟨_, Tryz.func97, by kernel_rfl, rfl⟩
theorem cf98 : CF Tryz.prog 98 := ⟨_, Tryz.func98, by kernel_rfl, rfl⟩
theorem cf99 : CF Tryz.prog 99 := ⟨_, Tryz.func99, by kernel_rfl, rfl⟩
theorem cf102 : CF Tryz.prog 102 := ⟨_, Tryz.func102, by kernel_rfl, rfl⟩
theorem cf103 : CF Tryz.prog 103 := ⟨_, Tryz.func103, by kernel_rfl, rfl⟩
theorem cf104 : CF Tryz.prog 104 := ⟨_, Tryz.func104, by kernel_rfl, rfl⟩
theorem cf105 : CF Tryz.prog 105 := ⟨_, Tryz.func105, by kernel_rfl, rfl⟩
theorem cf106 : CF Tryz.prog 106 := ⟨_, Tryz.func106, by kernel_rfl, rfl⟩
theorem cf107 : CF Tryz.prog 107 := ⟨_, Tryz.func107, by kernel_rfl, rfl⟩
theorem cf108 : CF Tryz.prog 108 := ⟨_, Tryz.func108, by kernel_rfl, rfl⟩
theorem cf109 : CF Tryz.prog 109 := ⟨_, Tryz.func109, by kernel_rfl, rfl⟩
theorem cf110 : CF Tryz.prog 110 := ⟨_, Tryz.func110, by kernel_rfl, rfl⟩
theorem cf111 : CF Tryz.prog 111 := ⟨_, Tryz.func111, by kernel_rfl, rfl⟩
theorem cf112 : CF Tryz.prog 112 := ⟨_, Tryz.func112, by kernel_rfl, rfl⟩
theorem cf113 : CF Tryz.prog 113 := ⟨_, Tryz.func113, by kernel_rfl, rfl⟩
theorem cf117 : CF Tryz.prog 117 := ⟨_, Tryz.func117, by kernel_rfl, rfl⟩
theorem cf131 : CF Tryz.prog 131 := ⟨_, Tryz.func131, by kernel_rfl, rfl⟩
theorem cf132 : CF Tryz.prog 132 := ⟨_, Tryz.func132, by kernel_rfl, rfl⟩
theorem cf133 : CF Tryz.prog 133 := ⟨_, Tryz.func133, by kernel_rfl, rfl⟩
theorem cf134 : CF Tryz.prog 134 := ⟨_, Tryz.func134, by kernel_rfl, rfl⟩
theorem cf135 : CF Tryz.prog 135 := ⟨_, Tryz.func135, by kernel_rfl, rfl⟩
theorem cf141 : CF Tryz.prog 141 := ⟨_, Tryz.func141, by kernel_rfl, rfl⟩
theorem cf157 : CF Tryz.prog 157 := ⟨_, Tryz.func157, by kernel_rfl, rfl⟩
theorem cf158 : CF Tryz.prog 158 := ⟨_, Tryz.func158, by kernel_rfl, rfl⟩
section
variable {D : RC} {l : List Oper} {e : Env} {w w' : World} {d : Nat} {op : Op} {ty : TypeId} {pos : String} {aft : Array Edge} {g : Option (Nat × Bool)} {v : Value}
theorem qV (hy : Y D.C.P e ⟨some d, op, ty, pos, aft, g⟩ v w w') (h : RL D l ((d, v) :: e) w') (ho : okw D e g true = true := by exact rfl) (hd : Nat.blt d D.C.n = true := by exact rfl) : RL D (⟨some d, op, ty, pos, aft, g⟩ :: l) e w := rVal ho hd hy h
theorem qS (h : RL D l ((d, undef) :: e) w) (ho : okw D e g false = true := by exact rfl) (hd : Nat.blt d D.C.n = true := by exact rfl) : RL D (⟨some d, op, ty, pos, aft, g⟩ :: l) e w := rSkip ho hd h
theorem zqm {x : Operand} (hx : look e x = some v) (h : RL D l ((d, v) :: e) w) (ho : okw D e g true = true := by exact rfl) (hd : Nat.blt d D.C.n = true := by exact rfl) : RL D (⟨some d, .move x, ty, pos, aft, g⟩ :: l) e w := rVal ho hd (ymv hx) h
theorem zqa {x : Operand} (hx : look e x = some v) (h : RL D l ((d, v) :: e) w) (ho : okw D e g true = true := by exact rfl) (hd : Nat.blt d D.C.n = true := by exact rfl) : RL D (⟨some d, .assign x, ty, pos, aft, g⟩ :: l) e w := rVal ho hd (yas hx) h
theorem zqd {x y : Operand} {t t' : TypeId} {a b : Int} (hx : look e x = some (I a)) (hy : look e y = some (I b)) (h : RL D l ((d, I (a + b)) :: e) w) (hb : -9223372036854775808 ≤ a + b ∧ a + b ≤ 9223372036854775807 := by omega) (ho : okw D e g true = true := by exact rfl) (hd : Nat.blt d D.C.n = true := by exact rfl) : RL D (⟨some d, .binOp .add t x y t', ty, pos, aft, g⟩ :: l) e w := rVal ho hd (yad hx hy hb) h
theorem zqc {f : FuncId} {vs : List Value} {S : Value → World → Prop} {ts : Array TypeId} (args : List Operand) (hf : CF D.C.P f) (ha : looks e args = some vs) (hc : Ret D.C.P f vs w S) (h : ∀ v w', S v w' → RL D l ((d, v) :: e) w') (ho : okw D e g true = true := by exact rfl) (hd : Nat.blt d D.C.n = true := by exact rfl) : RL D (⟨some d, .call ⟨.value (.func f), args.toArray, ts⟩, ty, pos, aft, g⟩ :: l) e w := rCall ho hd (yc hf ha) hc h
def nonNil : Value → Bool
  | .pointer (some _) => true
  | .func (.func _) _ _ => true
  | _ => false
theorem ynk {P : Program} {d : Option Nat} {x : Operand} (hx : look e x = some v) (hv : nonNil v = true := by exact rfl) : Y P e ⟨d, .nilCheck x, ty, pos, aft, g⟩ v w w := by
  unfold nonNil at hv
  split at hv
  · exact ync hx
  · exact yncf hx
  · cases hv
end
section
variable {C : Cx} {k : List Item} {e e' : Env} {w : World} {id : Nat} {ops : List Oper} {y : Code}
theorem qR' {ho : dstsOk C.n ops = true} (h : RL ⟨C, ops, k, ho⟩ ops e w) : Run C (.code (.region id ops.toArray false) :: k) e w := run_reg ho h
theorem qN {x : Code} (ho : dstsOk C.n ops = true) (h : RL ⟨C, ops, .code x :: k, ho⟩ ops e w) : Run C (.code (.seq (.region id ops.toArray false) x) :: k) e w := run_seq (run_reg ho h)
theorem zqu {α : Type} {c : Code} (x0 : α) (E : α → Env) (I : α → World → Prop) (μ : α → Nat) (hI : I x0 w) (round : ∀ x w, I x w → (∀ y w', I y w' → μ y < μ x → Run C (.inLoop c :: k) (E y) w') → Run C (.code c :: .inLoop c :: k) (E x) w) (hE : Sub (E x0) e := by repeat (first | exact Sub.nil | refine Sub.cons rfl ?_)) : Run C (.code (.loop c) :: k) e w := run_loop x0 E I μ hE hI round
theorem Run.qb (h : Run C k e w) (hs : Sub e e' := by repeat (first | exact Sub.nil | refine Sub.cons rfl ?_)) : Run C k e' w := h.sub hs
end
section
variable {D : RC} {k : List Item} {e : Env} {w : World} {id : Nat} {ops : List Oper} {x : Code}
theorem qM {C : Cx} {ops0 : List Oper} {h0 : dstsOk C.n ops0 = true} (ho : dstsOk C.n ops = true) (h : RL ⟨C, ops, .code x :: k, ho⟩ ops e w) : RL ⟨C, ops0, .code (.seq (.region id ops.toArray false) x) :: k, h0⟩ [] e w := rEnd (run_seq (run_reg ho h))
end
section
variable {D : RC} {late : List Nat} {S : World → Prop} {e : Env} {w w' : World} {d fuel : Nat} {op : Op} {ty : TypeId} {pos : String} {aft : Array Edge} {g : Option (Nat × Bool)} {listed : Array Bool} {v : Value}
theorem qT (i : Nat) (hi : D.ops[i]? = some ⟨some d, op, ty, pos, aft, g⟩) (hy : ∀ w, S w → Y D.C.P e ⟨some d, op, ty, pos, aft, g⟩ v w w) (hS : S w) (h : RH D S fuel (listed.setIfInBounds i true) ((d, v) :: e) w)
    (hf : freeNow D.ops listed i = true := by kernel_rfl) (ho : okw D e g true = true := by exact rfl) (hd : Nat.blt d D.C.n = true := by exact rfl) : RH D S (fuel + 1) listed e w := hTake hi hf ho hd hy hS h
theorem zqt (i : Nat) (hi : D.ops[i]? = some ⟨some d, op, ty, pos, aft, g⟩) (hy : ∀ {w}, Y D.C.P e ⟨some d, op, ty, pos, aft, g⟩ v w w) (hS : S w) (h : RH D S fuel (listed.setIfInBounds i true) ((d, v) :: e) w)
    (hf : freeNow D.ops listed i = true := by kernel_rfl) (ho : okw D e g true = true := by exact rfl) (hd : Nat.blt d D.C.n = true := by exact rfl) : RH D S (fuel + 1) listed e w := hTake hi hf ho hd (fun _ _ => hy) hS h
theorem qJ (i : Nat) (hi : D.ops[i]? = some ⟨some d, op, ty, pos, aft, g⟩) (hS : S w) (h : RH D S fuel (listed.setIfInBounds i true) ((d, undef) :: e) w)
    (hf : freeNow D.ops listed i = true := by kernel_rfl) (ho : okw D e g false = true := by exact rfl) (hd : Nat.blt d D.C.n = true := by exact rfl) : RH D S (fuel + 1) listed e w := hSkip hi hf ho hd hS h
theorem qO (i : Nat) (h : Nx D S fuel listed e w i) (hr : readyIs D.ops listed [i] = true := by kernel_rfl) : RH D S (fuel + 1) listed e w := hOne hr h
theorem zqo {f : FuncId} {vs : List Value} {T : Value → World → Prop} {ts : Array TypeId} (i : Nat) (args : List Operand) (hi : D.ops[i]? = some ⟨some d, .call ⟨.value (.func f), args.toArray, ts⟩, ty, pos, aft, g⟩) (hf : CF D.C.P f) (ha : looks e args = some vs) (hc : Ret D.C.P f vs w T) (h : ∀ v w', T v w' → S w' ∧ RH D S fuel (listed.setIfInBounds i true) ((d, v) :: e) w')
    (hr : readyIs D.ops listed [i] = true := by kernel_rfl) (ho : okw D e g true = true := by exact rfl) (hd : Nat.blt d D.C.n = true := by exact rfl) : RH D S (fuel + 1) listed e w := hOne hr (nCall hi ho hd (yc hf ha) hc h)
theorem qE (h : Run D.C D.k e w) (hr : readyIs D.ops listed [] = true := by kernel_rfl) : RH D S fuel listed e w := hEnd hr h
theorem qL (dn : List Nat) (i : Nat) (hi : D.ops[i]? = some ⟨some d, op, ty, pos, aft, g⟩) (hy : ∀ w, S w → Y D.C.P e ⟨some d, op, ty, pos, aft, g⟩ v w w) (hS : S w) (h : RHL D late S fuel (listed.setIfInBounds i true) ((d, v) :: e) w)
    (hf : (freeNow D.ops listed i && waits D.ops listed late dn i) = true := by kernel_rfl) (ho : okw D e g true = true := by exact rfl) (hd : Nat.blt d D.C.n = true := by exact rfl) : RHL D late S (fuel + 1) listed e w := hTakeL dn hi hf ho hd hy hS h
end
theorem oinj {α : Type} {a b : α} (h : some a = some b) : a = b := Option.some.inj h
def U3 := Tryz.underlying3
def U4 := Tryz.underlying4
def U5 := Tryz.underlying5
def U9 := Tryz.underlying9
def U22 := Tryz.underlying22
def U23 := Tryz.underlying23
def U24 := Tryz.underlying24
def U29 := Tryz.underlying29
def U30 := Tryz.underlying30
def U33 := Tryz.underlying33
def U34 := Tryz.underlying34
def U39 := Tryz.underlying39
def U45 := Tryz.underlying45
def U52 := Tryz.underlying52
def U54 := Tryz.underlying54
def U55 := Tryz.underlying55
def U71 := Tryz.underlying71
def U72 := Tryz.underlying72
def U80 := Tryz.underlying80
def U81 := Tryz.underlying81
def U82 := Tryz.underlying82
def U84 := Tryz.underlying84
def U89 := Tryz.underlying89
def U110 := Tryz.underlying110
def U118 := Tryz.underlying118
def U122 := Tryz.underlying122
def U123 := Tryz.underlying123
def U126 := Tryz.underlying126
def U128 := Tryz.underlying128
def U146 := Tryz.underlying146
def U153 := Tryz.underlying153
end Go.Proofs.YtocnhaoilnojmaaGreat
