/- Regions, walked one operation at a time over a frame that is a list of known slots; those that draw their order, too. It is of no program. -/
import Derived.Test.YtkgiammeeckfbaaGreatCore
namespace Go.Proofs.YtkgiammeeckfbaaGreat
open Go Go.RowKit

/-- Is an operation to be carried out: what the frame says of its guard. -/
def wantE (ops : List Oper) (e : Env) : Option (Nat × Bool) → Option Bool
  | none => some true
  | some (j, b) => match ops[j]? with
    | none => none
    | some oj => match oj.dst with
      | none => none
      | some d => match fnd e d with
        | some (.bool c) => some (match b with | true => c | false => !c)
        | some (.tuple _) => some false
        | _ => none

theorem wantE_spec {n : Nat} {ms : List Dfr} {ops : List Oper} {e : Env} {a : Act} {o : Oper} {t : Bool} (ha : EOk n ms e a) (hn : ∀ (j : Nat) (oj : Oper) (d : Nat), ops[j]? = some oj → oj.dst = some d → Nat.blt d n = true)
    (h : wantE ops e o.guard = some t) : Region.wanted o (yielded ops.toArray a.tmps) = t := by
  unfold Region.wanted
  cases hg : o.guard with
  | none => rw [hg] at h; simp [wantE] at h; simp [h]
  | some p =>
    obtain ⟨j, b⟩ := p
    rw [hg] at h
    simp only [wantE] at h
    split at h
    · cases h
    · rename_i oj hj
      split at h
      · cases h
      · rename_i d hd
        have hdn : d < n := by simpa using hn j oj d hj hd
        have hget : ∀ v, fnd e d = some v → a.tmps[d]? = some v := fun v hv => by
          have h1 := ha.get d v hv
          have h2 : d < a.tmps.size := by rw [ha.size]; exact hdn
          rw [Array.getElem?_eq_getElem h2]
          simpa [Array.getD, h2] using h1
        split at h
        · rename_i c hc
          have := hget _ hc
          simp only [yielded, List.getElem?_toArray, hj, Option.bind_some, hd, this]
          cases b <;> cases c <;> simp_all
        · rename_i hc
          have := hget _ hc
          simp only [yielded, List.getElem?_toArray, hj, Option.bind_some, hd, this]
          simp_all
        · cases h

/-- All temporaries that the region writes lie in the frame. -/
def dstsOk (n : Nat) (ops : List Oper) : Bool := ops.all fun o => match o.dst with | some d => Nat.blt d n | none => true

theorem dstsOk_spec {n : Nat} {ops : List Oper} (h : dstsOk n ops = true) : ∀ (j : Nat) (oj : Oper) (d : Nat), ops[j]? = some oj → oj.dst = some d → Nat.blt d n = true := fun j oj d hj hd => by
  have := List.all_eq_true.1 h oj (List.mem_of_getElem? hj)
  simpa [hd] using this

/-- An operation, carried out where the frame holds 'e', yields a value. -/
def Y (P : Program) (e : Env) (o : Oper) (v : Value) (w w' : World) : Prop :=
  ∀ ρ : Operand → Value, (∀ x v, look e x = some v → ρ x = v) → (execOp ρ o).run P w = .ok (.value v) w'
/-- .. does something, and yields nothing. -/
def Z (P : Program) (e : Env) (o : Oper) (w w' : World) : Prop :=
  ∀ ρ : Operand → Value, (∀ x v, look e x = some v → ρ x = v) → (execOp ρ o).run P w = .ok .skip w'
/-- .. enters a function. -/
def Yc (P : Program) (e : Env) (o : Oper) (f : FuncId) (args : List Value) (w : World) : Prop :=
  ∀ ρ : Operand → Value, (∀ x v, look e x = some v → ρ x = v) → (execOp ρ o).run P w = .ok (.enter f args.toArray) w

theorem callsIn_WF {rd : Option Nat} {n : Nat} {P : Program} {f : FuncId} {args : Array Value} {w : World} {R : Ending → World → Prop} (h : Calls P f args w R) : CallsIn (WF rd) n P f args w R :=
  (callsIn_wide (n := n)).2 h

theorem noDepth {rd : Option Nat} : (WF rd).depth.isSome = true → 1 ≤ 0 := fun h => by cases h

/-- What an operation does that defers nothing, it does in a round of a loop, too. -/
theorem semAt_run {P : Program} {rd : Option Nat} {ρ : Operand → Value} {o : Oper} {w w' : World} {x : Next} (h : (execOp ρ o).run P w = .ok x w') (hx : ∀ d, x ≠ .defer d) : (o.semAt rd ρ).run P w = .ok x w' := by
  unfold Oper.semAt
  split
  · rename_i l c ho
    exfalso
    simp only [execOp, ho, Sem.run_bind] at h
    cases hr : (resolve ρ c o.type).run P w with
    | ok d w1 =>
      rw [hr] at h
      simp only [Result.andThen, Sem.run_pure, Result.ok.injEq] at h
      exact hx d h.1.symm
    | halt y w1 =>
      rw [hr] at h
      simp [Result.andThen] at h
  · exact h

/-- No operation of the region is a defer statement. -/
def calm (ops : List Oper) : Bool := ops.all fun o => match o.op with | .defer _ => false | _ => true

theorem wpIn_of_wp {P : Program} {rd : Option Nat} {o : Oper} {a : Act} {w : World} {K : Act → World → Prop} {Q : Exit → Act → World → Prop} (hc : ∀ c, o.op ≠ .defer c) (h : o.wp P a w K Q) : o.wpIn (WF rd) 0 P a w K Q := by
  refine ⟨fun _ _ => trivial, ?_⟩
  rw [Oper.semAt_eq _ _ _ hc]
  unfold Oper.wp at h
  generalize (execOp a.eval o).run P w = r at h ⊢
  cases r with
  | ok x w' =>
    cases x <;> simp only [Oper.upon, Oper.uponIn] at h ⊢ <;>
      first
        | exact h
        | exact h.elim
        | exact ⟨noDepth, callsIn_WF h⟩
        | exact ⟨noDepth, fun c cs _ => let ⟨v, w', hR, hs⟩ := h c cs; ⟨v, w', hR, stepsIn_wide.2 hs⟩⟩
  | halt x w' => cases x <;> simp only [Oper.upon, Oper.uponIn] at h ⊢ <;> exact h

theorem wpAnyIn_of_held {P : Program} {rd : Option Nat} {ops : List Oper} {Q : Exit → Act → World → Prop} {S : World → Prop} (hc : calm ops = true) (hno : ¬ LetsOut Q) : ∀ (fuel : Nat) (listed : Array Bool) (a : Act) (w : World),
    wpAnyH P .any ops.toArray Q S fuel listed a w → wpAnyIn (WF rd) 0 P .any ops.toArray Q fuel listed a w
  | 0, _, _, _, h => h
  | fuel + 1, listed, a, w, h => by
    refine ⟨h.1, fun i hi => ?_⟩
    have h2 := h.2 i hi
    unfold wpOp at h2
    unfold wpOpIn
    cases ho : ops.toArray[i]? with
    | none =>
      rw [ho] at h2
      exact wpAnyIn_of_held hc hno fuel _ _ _ h2.2
    | some o =>
      rw [ho] at h2
      have hcm : ∀ c, o.op ≠ .defer c := fun c hh => by
        have hm := List.all_eq_true.1 hc o (List.mem_of_getElem? (by simpa using ho))
        rw [hh] at hm
        cases hm
      by_cases hw : Region.wanted o (yielded ops.toArray a.tmps) = true
      · simp only [hw, if_true] at h2 ⊢
        rcases h2 with h2 | h2
        · exact Oper.wpIn_mono (fun a w hh => wpAnyIn_of_held hc hno fuel _ _ _ hh.2) (wpIn_of_wp hcm h2)
        · exact absurd h2.2 hno
      · simp only [hw] at h2 ⊢
        exact ⟨fun _ _ => trivial, wpAnyIn_of_held hc hno fuel _ _ _ h2.2⟩

structure RC where
  C : Cx
  ops : List Oper
  k : List Item
  ok : dstsOk C.n ops = true

/-- The rest 'l' of a region's operations, in the order of the text. -/
def RL (D : RC) (l : List Oper) (e : Env) (w : World) : Prop := ∀ a, EOk D.C.n D.C.ms e a → wpListIn (WF D.C.rd) 0 D.C.P D.ops.toArray (QK D.C D.k) l a w

theorem run_reg {C : Cx} {id : Nat} {ops : List Oper} {k : List Item} {e : Env} {w : World} (ho : dstsOk C.n ops = true) (h : RL ⟨C, ops, k, ho⟩ ops e w) : Run C (.code (.region id ops.toArray false) :: k) e w :=
  fun a ha => runA_of_wpIn (wpIn_region_lit (h a ha))

def okg (ops : List Oper) (e : Env) (t : Bool) : Option (Nat × Bool) → Bool
  | none => t
  | some p => match wantE ops e (some p), t with | some true, true => true | some false, false => true | _, _ => false
def okw (D : RC) (e : Env) (g : Option (Nat × Bool)) (t : Bool) : Bool := okg D.ops e t g

theorem okw_spec {D : RC} {e : Env} {o : Oper} {t : Bool} {a : Act} (ha : EOk D.C.n D.C.ms e a) (h : okw D e o.guard t = true) : Region.wanted o (yielded D.ops.toArray a.tmps) = t := by
  refine wantE_spec ha (dstsOk_spec D.ok) ?_
  unfold okw okg at h
  split at h
  · rename_i hg
    rw [hg]
    simp only [wantE]
    rw [h]
  · rename_i p hg
    rw [hg]
    split at h
    · rename_i hw; exact hw
    · rename_i hw; exact hw
    · cases h

section
variable {D : RC} {l : List Oper} {e : Env} {w w' : World} {d : Nat} {op : Op} {ty : TypeId} {pos : String} {aft : Array Edge} {g : Option (Nat × Bool)}

theorem rEnd (h : Run D.C D.k e w) : RL D [] e w := fun a ha => h a ha

theorem wpList_want {F : Fence} {n : Nat} {P : Program} {ops : Array Oper} {Q : Exit → Act → World → Prop} {a : Act} {w : World} {rest : List Oper} {o : Oper} (hw : Region.wanted o (yielded ops a.tmps) = true)
    (h : o.wpIn F n P a w (wpListIn F n P ops Q rest) Q) : wpListIn F n P ops Q (o :: rest) a w := by
  simp only [wpListIn, hw, if_true]; exact h

theorem rVal {v : Value} (ho : okw D e g true = true) (hd : Nat.blt d D.C.n = true) (hy : Y D.C.P e ⟨some d, op, ty, pos, aft, g⟩ v w w') (h : RL D l ((d, v) :: e) w') :
    RL D (⟨some d, op, ty, pos, aft, g⟩ :: l) e w := fun a ha => by
  refine wpList_want (okw_spec ha ho) ⟨fun _ _ => trivial, ?_⟩
  have := hy a.eval (fun x v hx => ha.look hx)
  rw [semAt_run this (fun _ h => by cases h)]
  exact h _ (ha.put hd v)

theorem rVal0 {v : Value} (ho : okw D e g true = true) (hy : Y D.C.P e ⟨none, op, ty, pos, aft, g⟩ v w w') (h : RL D l e w') :
    RL D (⟨none, op, ty, pos, aft, g⟩ :: l) e w := fun a ha => by
  refine wpList_want (okw_spec ha ho) ⟨fun _ _ => trivial, ?_⟩
  have := hy a.eval (fun x v hx => ha.look hx)
  rw [semAt_run this (fun _ h => by cases h)]
  exact h _ (ha.put0 v)

theorem rEff (ho : okw D e g true = true) (hy : Z D.C.P e ⟨none, op, ty, pos, aft, g⟩ w w') (h : RL D l e w') :
    RL D (⟨none, op, ty, pos, aft, g⟩ :: l) e w := fun a ha => by
  refine wpList_want (okw_spec ha ho) ⟨fun _ _ => trivial, ?_⟩
  have := hy a.eval (fun x v hx => ha.look hx)
  rw [semAt_run this (fun _ h => by cases h)]
  exact h _ (ha.put0 undef)

theorem rSkip (ho : okw D e g false = true) (hd : Nat.blt d D.C.n = true) (h : RL D l ((d, undef) :: e) w) : RL D (⟨some d, op, ty, pos, aft, g⟩ :: l) e w := fun a ha => by
  have hw := okw_spec (o := ⟨some d, op, ty, pos, aft, g⟩) ha ho
  simp only [wpListIn, hw]
  exact ⟨fun _ _ => trivial, h _ (ha.put hd undef)⟩

theorem rSkip0 (ho : okw D e g false = true) (h : RL D l e w) : RL D (⟨none, op, ty, pos, aft, g⟩ :: l) e w := fun a ha => by
  have hw := okw_spec (o := ⟨none, op, ty, pos, aft, g⟩) ha ho
  simp only [wpListIn, hw]
  exact ⟨fun _ _ => trivial, h _ (ha.put0 undef)⟩

theorem rCall {f : FuncId} {args : List Value} {S : Value → World → Prop} (ho : okw D e g true = true) (hd : Nat.blt d D.C.n = true) (hy : Yc D.C.P e ⟨some d, op, ty, pos, aft, g⟩ f args w)
    (hc : Ret D.C.P f args w S) (h : ∀ v w', S v w' → RL D l ((d, v) :: e) w') : RL D (⟨some d, op, ty, pos, aft, g⟩ :: l) e w := fun a ha => by
  refine wpList_want (okw_spec ha ho) ⟨fun _ _ => trivial, ?_⟩
  have := hy a.eval (fun x v hx => ha.look hx)
  rw [semAt_run this (fun _ h => by cases h)]
  exact ⟨noDepth, callsIn_WF (Calls.mono hc fun x w' ⟨v, hx, hv⟩ => by subst hx; exact h v w' hv _ (ha.put hd v))⟩

theorem rCall0 {f : FuncId} {args : List Value} {S : Value → World → Prop} (ho : okw D e g true = true) (hy : Yc D.C.P e ⟨none, op, ty, pos, aft, g⟩ f args w)
    (hc : Ret D.C.P f args w S) (h : ∀ v w', S v w' → RL D l e w') : RL D (⟨none, op, ty, pos, aft, g⟩ :: l) e w := fun a ha => by
  refine wpList_want (okw_spec ha ho) ⟨fun _ _ => trivial, ?_⟩
  have := hy a.eval (fun x v hx => ha.look hx)
  rw [semAt_run this (fun _ h => by cases h)]
  exact ⟨noDepth, callsIn_WF (Calls.mono hc fun x w' ⟨v, hx, hv⟩ => by subst hx; exact h v w' hv _ (ha.put0 v))⟩

/-- A call is deferred. -/
theorem rDefer {f : FuncId} {cap args : List Value} (hrd : D.C.rd = none) (ho : okw D e g true = true)
    (hy : ∀ ρ : Operand → Value, (∀ x v, look e x = some v → ρ x = v) → (execOp ρ ⟨none, op, ty, pos, aft, g⟩).run D.C.P w = .ok (.defer (Dfr.d (.call f cap args))) w)
    (h : RL ⟨{ D.C with ms := .call f cap args :: D.C.ms }, D.ops, D.k, D.ok⟩ l e w) : RL D (⟨none, op, ty, pos, aft, g⟩ :: l) e w := fun a ha => by
  refine wpList_want (okw_spec ha ho) ⟨fun _ _ => trivial, ?_⟩
  have := hy a.eval (fun x v hx => ha.look hx)
  rw [show (WF D.C.rd).round = none from hrd, Oper.semAt_none, this]
  exact h _ ⟨ha.size, by show Dfr.d _ :: a.defers = _; rw [ha.defers]; rfl, ha.get⟩

/-- The newest slot's truth is parted. -/
theorem rVal_if {p : Prop} [hp : Decidable p] (ht : p → RL D l ((d, .bool true) :: e) w) (hf : ¬ p → RL D l ((d, .bool false) :: e) w) : RL D l ((d, .bool (decide p)) :: e) w := by
  by_cases h : p
  · simp only [h, decide_true]; exact ht h
  · simp only [h, decide_false]; exact hf h
theorem rVal_bool {b : Bool} (ht : b = true → RL D l ((d, .bool true) :: e) w) (hf : b = false → RL D l ((d, .bool false) :: e) w) : RL D l ((d, .bool b) :: e) w := by
  cases b with
  | true => exact ht rfl
  | false => exact hf rfl

/-- The newest slot's truth is known. -/
theorem rTrue {p : Prop} [hp : Decidable p] (h : p) (hr : RL D l ((d, .bool true) :: e) w) : RL D l ((d, .bool (decide p)) :: e) w := by
  simp only [h, decide_true]; exact hr
theorem rFalse {p : Prop} [hp : Decidable p] (h : ¬ p) (hr : RL D l ((d, .bool false) :: e) w) : RL D l ((d, .bool (decide p)) :: e) w := by
  simp only [h, decide_false]; exact hr
theorem RL.sub {e' : Env} (h : RL D l e w) (hs : Sub e e') : RL D l e' w := fun a ha => h a (ha.sub hs)
end

/-- What comes behind is shown once, of whatever meets J. -/
theorem run_cut {C : Cx} {i : Item} {k : List Item} {e : Env} {w : World} (J : Env → World → Prop) (hk : ∀ e w, J e w → Run C k e w) (h : (∀ e w, J e w → Run C k e w) → Run C (i :: k) e w) : Run C (i :: k) e w := h hk
theorem run_cut2 {C : Cx} {i : Item} {id : Nat} {k : List Item} {e : Env} {w : World} (J : Env → World → Prop) (hk : ∀ e w, J e w → Run C k e w) (h : (∀ e w, J e w → Run C k e w) → Run C (i :: .inBlock id :: k) e w) : Run C (i :: .inBlock id :: k) e w := h hk
theorem rl_cut {D : RC} {l : List Oper} {e : Env} {w : World} (J : Env → World → Prop) (hk : ∀ e w, J e w → Run D.C D.k e w) (h : (∀ e w, J e w → Run D.C D.k e w) → RL D l e w) : RL D l e w := h hk

/-! ### A region that draws its order: 'S' holds of the world all through. -/

def RH (D : RC) (S : World → Prop) (fuel : Nat) (listed : Array Bool) (e : Env) (w : World) : Prop :=
  ∀ a, EOk D.C.n D.C.ms e a → wpAnyH D.C.P .any D.ops.toArray (QK D.C D.k) S fuel listed a w

theorem run_draw {C : Cx} {id : Nat} {ops : List Oper} {k : List Item} {e : Env} {w : World} (S : World → Prop) (hm : C.P.follows .mixedOrders = true)
    (ho : dstsOk C.n ops = true) (h : RH ⟨C, ops, k, ho⟩ S ops.length (Array.replicate ops.length false) e w.drew) (hc : calm ops = true := by rfl) : Run C (.code (.region id ops.toArray true) :: k) e w :=
  fun a ha => runA_of_wpIn (wpIn_region_any hm (wpAnyIn_of_held hc QK.no _ _ _ _ (by simpa using h a ha)))

def readyIs (ops : List Oper) (listed : Array Bool) (rs : List Nat) : Bool := Region.ready .any ops.toArray listed == rs
def freeNow (ops : List Oper) (listed : Array Bool) (i : Nat) : Bool := Region.noSelect ops.toArray && Region.free .any ops.toArray listed i && (Region.ready .any ops.toArray listed).contains i

section
variable {D : RC} {S : World → Prop} {e : Env} {w w' : World} {d i fuel : Nat} {op : Op} {ty : TypeId} {pos : String} {aft : Array Edge} {g : Option (Nat × Bool)} {listed : Array Bool}

theorem hEnd (hr : readyIs D.ops listed [] = true) (h : Run D.C D.k e w) : RH D S fuel listed e w := fun a ha => wpAnyH_done (by simpa [readyIs] using hr) (h a ha) _

theorem freeNow_spec {ops : List Oper} (h : freeNow ops listed i = true) : Region.noSelect ops.toArray = true ∧ Region.free .any ops.toArray listed i = true ∧ (Region.ready .any ops.toArray listed).contains i = true := by
  simp only [freeNow, Bool.and_eq_true] at h
  exact ⟨h.1.1, h.1.2, h.2⟩

/-- What yields one value in whatever world of the class, and does nothing else, is taken first. -/
theorem hTake {v : Value} (hi : D.ops[i]? = some ⟨some d, op, ty, pos, aft, g⟩) (hf : freeNow D.ops listed i = true) (ho : okw D e g true = true) (hd : Nat.blt d D.C.n = true)
    (hy : ∀ w, S w → Y D.C.P e ⟨some d, op, ty, pos, aft, g⟩ v w w) (hS : S w) (h : RH D S fuel (listed.setIfInBounds i true) ((d, v) :: e) w) : RH D S (fuel + 1) listed e w := fun a ha => by
  obtain ⟨h1, h2, h3⟩ := freeNow_spec hf
  exact wpAnyH_take (v := v) (by simpa using hi) h1 h2 h3 (fun _ _ _ h => h) (.inl ⟨okw_spec ha ho, fun w hw => hy w hw a.eval (fun x v hx => ha.look hx)⟩) hS (h _ (ha.put hd v))

theorem hSkip (hi : D.ops[i]? = some ⟨some d, op, ty, pos, aft, g⟩) (hf : freeNow D.ops listed i = true) (ho : okw D e g false = true) (hd : Nat.blt d D.C.n = true)
    (hS : S w) (h : RH D S fuel (listed.setIfInBounds i true) ((d, undef) :: e) w) : RH D S (fuel + 1) listed e w := fun a ha => by
  obtain ⟨h1, h2, h3⟩ := freeNow_spec hf
  exact wpAnyH_take (v := undef) (by simpa using hi) h1 h2 h3 (fun _ _ _ h => h) (.inr ⟨okw_spec ha ho, rfl⟩) hS (h _ (ha.put hd undef))

theorem hSkip0 (hi : D.ops[i]? = some ⟨none, op, ty, pos, aft, g⟩) (hf : freeNow D.ops listed i = true) (ho : okw D e g false = true)
    (hS : S w) (h : RH D S fuel (listed.setIfInBounds i true) e w) : RH D S (fuel + 1) listed e w := fun a ha => by
  obtain ⟨h1, h2, h3⟩ := freeNow_spec hf
  exact wpAnyH_take (v := undef) (by simpa using hi) h1 h2 h3 (fun _ _ _ h => h) (.inr ⟨okw_spec ha ho, rfl⟩) hS (h _ (ha.put0 undef))

/-- One operation as the next, from the world at hand: what is asked of it. -/
def Nx (D : RC) (S : World → Prop) (fuel : Nat) (listed : Array Bool) (e : Env) (w : World) (i : Nat) : Prop :=
  ∀ a, EOk D.C.n D.C.ms e a → wpOp D.C.P D.ops.toArray (QK D.C D.k) i (fun a' w' => S w' ∧ wpAnyH D.C.P .any D.ops.toArray (QK D.C D.k) S fuel (listed.setIfInBounds i true) a' w') a w

theorem hOne (hr : readyIs D.ops listed [i] = true) (h : Nx D S fuel listed e w i) : RH D S (fuel + 1) listed e w := fun a ha =>
  wpAnyH_all (rs := [i]) (by simpa [readyIs] using hr) (by simp) fun j hj => by simp at hj; subst hj; exact h a ha
theorem hTwo {j : Nat} (hr : readyIs D.ops listed [i, j] = true) (h : Nx D S fuel listed e w i) (h' : Nx D S fuel listed e w j) : RH D S (fuel + 1) listed e w := fun a ha =>
  wpAnyH_all (rs := [i, j]) (by simpa [readyIs] using hr) (by simp) fun m hm => by
    simp at hm
    rcases hm with rfl | rfl
    · exact h a ha
    · exact h' a ha
theorem hThree {j m : Nat} (hr : readyIs D.ops listed [i, j, m] = true) (h : Nx D S fuel listed e w i) (h' : Nx D S fuel listed e w j) (h'' : Nx D S fuel listed e w m) : RH D S (fuel + 1) listed e w := fun a ha =>
  wpAnyH_all (rs := [i, j, m]) (by simpa [readyIs] using hr) (by simp) fun q hq => by
    simp at hq
    rcases hq with rfl | rfl | rfl
    · exact h a ha
    · exact h' a ha
    · exact h'' a ha

theorem Nx.mk_wp {o : Oper} (hi : D.ops[i]? = some o) (ho : okw D e o.guard true = true)
    (h : ∀ a, EOk D.C.n D.C.ms e a → o.wp D.C.P a w (fun a' w' => S w' ∧ wpAnyH D.C.P .any D.ops.toArray (QK D.C D.k) S fuel (listed.setIfInBounds i true) a' w') (QK D.C D.k)) : Nx D S fuel listed e w i := fun a ha => by
  have hw := okw_spec ha ho
  unfold wpOp
  simp only [List.getElem?_toArray, hi]
  rw [if_pos hw]
  exact .inl (h a ha)

theorem nVal {v : Value} (hi : D.ops[i]? = some ⟨some d, op, ty, pos, aft, g⟩) (ho : okw D e g true = true) (hd : Nat.blt d D.C.n = true)
    (hy : Y D.C.P e ⟨some d, op, ty, pos, aft, g⟩ v w w') (hS : S w') (h : RH D S fuel (listed.setIfInBounds i true) ((d, v) :: e) w') : Nx D S fuel listed e w i :=
  Nx.mk_wp hi ho fun a ha => by
    have := hy a.eval (fun x v hx => ha.look hx)
    unfold Oper.wp
    rw [this]
    exact ⟨hS, h _ (ha.put hd v)⟩
theorem nVal0 {v : Value} (hi : D.ops[i]? = some ⟨none, op, ty, pos, aft, g⟩) (ho : okw D e g true = true)
    (hy : Y D.C.P e ⟨none, op, ty, pos, aft, g⟩ v w w') (hS : S w') (h : RH D S fuel (listed.setIfInBounds i true) e w') : Nx D S fuel listed e w i :=
  Nx.mk_wp hi ho fun a ha => by
    have := hy a.eval (fun x v hx => ha.look hx)
    unfold Oper.wp
    rw [this]
    exact ⟨hS, h _ (ha.put0 v)⟩
theorem nEff (hi : D.ops[i]? = some ⟨none, op, ty, pos, aft, g⟩) (ho : okw D e g true = true)
    (hy : Z D.C.P e ⟨none, op, ty, pos, aft, g⟩ w w') (hS : S w') (h : RH D S fuel (listed.setIfInBounds i true) e w') : Nx D S fuel listed e w i :=
  Nx.mk_wp hi ho fun a ha => by
    have := hy a.eval (fun x v hx => ha.look hx)
    unfold Oper.wp
    rw [this]
    exact ⟨hS, h _ (ha.put0 undef)⟩
theorem nCall {f : FuncId} {args : List Value} {T : Value → World → Prop} (hi : D.ops[i]? = some ⟨some d, op, ty, pos, aft, g⟩) (ho : okw D e g true = true) (hd : Nat.blt d D.C.n = true)
    (hy : Yc D.C.P e ⟨some d, op, ty, pos, aft, g⟩ f args w) (hc : Ret D.C.P f args w T) (h : ∀ v w', T v w' → S w' ∧ RH D S fuel (listed.setIfInBounds i true) ((d, v) :: e) w') : Nx D S fuel listed e w i :=
  Nx.mk_wp hi ho fun a ha => by
    have := hy a.eval (fun x v hx => ha.look hx)
    unfold Oper.wp
    rw [this]
    exact Calls.mono hc fun x w' ⟨v, hx, hv⟩ => by subst hx; exact ⟨(h v w' hv).1, (h v w' hv).2 _ (ha.put hd v)⟩
theorem nCall0 {f : FuncId} {args : List Value} {T : Value → World → Prop} (hi : D.ops[i]? = some ⟨none, op, ty, pos, aft, g⟩) (ho : okw D e g true = true)
    (hy : Yc D.C.P e ⟨none, op, ty, pos, aft, g⟩ f args w) (hc : Ret D.C.P f args w T) (h : ∀ v w', T v w' → S w' ∧ RH D S fuel (listed.setIfInBounds i true) e w') : Nx D S fuel listed e w i :=
  Nx.mk_wp hi ho fun a ha => by
    have := hy a.eval (fun x v hx => ha.look hx)
    unfold Oper.wp
    rw [this]
    exact Calls.mono hc fun x w' ⟨v, hx, hv⟩ => by subst hx; exact ⟨(h v w' hv).1, (h v w' hv).2 _ (ha.put0 v)⟩

theorem rh_if {p : Prop} [hp : Decidable p] (ht : p → RH D S fuel listed ((d, .bool true) :: e) w) (hf : ¬ p → RH D S fuel listed ((d, .bool false) :: e) w) : RH D S fuel listed ((d, .bool (decide p)) :: e) w := by
  by_cases h : p
  · simp only [h, decide_true]; exact ht h
  · simp only [h, decide_false]; exact hf h
theorem rh_bool {b : Bool} (ht : b = true → RH D S fuel listed ((d, .bool true) :: e) w) (hf : b = false → RH D S fuel listed ((d, .bool false) :: e) w) : RH D S fuel listed ((d, .bool b) :: e) w := by
  cases b with
  | true => exact ht rfl
  | false => exact hf rfl
theorem hTrue {p : Prop} [hp : Decidable p] (h : p) (hr : RH D S fuel listed ((d, .bool true) :: e) w) : RH D S fuel listed ((d, .bool (decide p)) :: e) w := by
  simp only [h, decide_true]; exact hr
theorem hFalse {p : Prop} [hp : Decidable p] (h : ¬ p) (hr : RH D S fuel listed ((d, .bool false) :: e) w) : RH D S fuel listed ((d, .bool (decide p)) :: e) w := by
  simp only [h, decide_false]; exact hr
theorem RH.sub {e' : Env} (h : RH D S fuel listed e w) (hsb : Sub e e') : RH D S fuel listed e' w := fun a ha => h a (ha.sub hsb)
end
end Go.Proofs.YtkgiammeeckfbaaGreat
