/- Loops over functions: the loop's record, its rounds, the call of yield, the statement. It is of no program. -/
import Derived.Test.YtkgiammeeckfbaaGreatHeap
namespace Go.Proofs.YtkgiammeeckfbaaGreat
open Go Go.RowKit
set_option linter.all false

theorem marked1 {D : Nat} {w : World} (h : w.heap[D]? = some (.deferred (some []))) : MarkedE [.mk D] w := fun d h' => by
  simp at h'; subst h'; exact ⟨D, rfl, h⟩
theorem kp_putObj (w : World) (l : Nat) (o : Obj) : Kp (fun k => k = l) w (w.putObj l o) :=
  ⟨rfl, rfl, rfl, by simp, fun k _ hn => World.putObj_heap_other hn⟩
theorem lt_of_heap {w : World} {l : Nat} {o : Obj} (h : w.heap[l]? = some o) : l < w.heap.size := by
  rcases Nat.lt_or_ge l w.heap.size with h' | h'
  · exact h'
  · rw [Array.getElem?_eq_none h'] at h; cases h

/-- The loop's record lies at l: in this state, its function's frame holding e. -/
def Rec (f n : Nat) (e : Env) (ps : Array Tmp) (assign body : Code) (l : Nat) (st : LoopState) (pend : Option Code) (w : World) : Prop :=
  ∃ r : Loop, w.heap[l]? = some (.loop r) ∧ r.state = st ∧ r.pending = pend ∧ r.fn = f ∧ r.params = ps ∧ r.assign = assign ∧ r.body = body ∧ r.tmps.size = n ∧ ∀ i v, fnd e i = some v → r.tmps.getD i undef = v

theorem Rec.lt {f n : Nat} {e : Env} {ps : Array Tmp} {assign body : Code} {l : Nat} {st : LoopState} {pend : Option Code} {w : World} (h : Rec f n e ps assign body l st pend w) : l < w.heap.size := by
  obtain ⟨r, h, -⟩ := h; exact lt_of_heap h
theorem Kp.rec' {S : Nat → Prop} {w w' : World} {f n : Nat} {e : Env} {ps : Array Tmp} {assign body : Code} {l : Nat} {st : LoopState} {pend : Option Code} (k : Kp S w w') (h : Rec f n e ps assign body l st pend w) (hn : ¬ S l) : Rec f n e ps assign body l st pend w' := by
  obtain ⟨r, h, hr⟩ := h
  exact ⟨r, k.heap h hn, hr⟩

theorem Kp.rc {S : Nat → Prop} {w w' : World} {f n : Nat} {e : Env} {ps : Array Tmp} {assign body : Code} {l : Nat} {st : LoopState} {pend : Option Code} {Rc : LoopState → Option Code → World → Prop} (k : Kp S w w') (hRc : Rc = Rec f n e ps assign body l) (h : Rc st pend w) (hn : ¬ S l) : Rc st pend w' := by
  subst hRc; exact k.rec' h hn
theorem rc_lt {w : World} {f n : Nat} {e : Env} {ps : Array Tmp} {assign body : Code} {l : Nat} {st : LoopState} {pend : Option Code} {Rc : LoopState → Option Code → World → Prop} (hRc : Rc = Rec f n e ps assign body l) (h : Rc st pend w) : l < w.heap.size := by
  subst hRc; exact h.lt

/-- A call of yield, at the loop l. -/
def RetY (P : Program) (l : Nat) (args : List Value) (w : World) (S : Value → World → Prop) : Prop :=
  ∃ r : Loop, w.heap[l]? = some (.loop r) ∧ args.length = r.params.size ∧
    RoundIn Fence.wide 0 P l r.fn ((r.params.zip args.toArray).foldl (fun tmps (t, a) => tmps.setIfInBounds t a) r.tmps) r.assign r.body w (RetX S)

theorem RetY.mono {P : Program} {l : Nat} {args : List Value} {w : World} {S S' : Value → World → Prop} (h : RetY P l args w S) (hs : ∀ v w', S v w' → S' v w') : RetY P l args w S' := by
  obtain ⟨r, h1, h2, h3⟩ := h
  exact ⟨r, h1, h2, h3.mono fun x w' ⟨v, hx, hv⟩ => ⟨v, hx, hs _ _ hv⟩⟩

/-- What yield's arguments make of the frame. -/
def bindE : List Tmp → List Value → Env → Env
  | p :: ps, v :: vs, e => bindE ps vs ((p, v) :: e)
  | _, _, e => e

theorem bind_ok {n : Nat} : ∀ (ps : List Tmp) (vs : List Value) (e : Env) (t : Array Value), ps.all (Nat.blt · n) = true → t.size = n → (∀ i v, fnd e i = some v → t.getD i undef = v) →
    ((ps.zip vs).foldl (fun tmps (t, a) => tmps.setIfInBounds t a) t).size = n ∧ ∀ i v, fnd (bindE ps vs e) i = some v → ((ps.zip vs).foldl (fun tmps (t, a) => tmps.setIfInBounds t a) t).getD i undef = v
  | [], _, e, t, _, hs, h => ⟨hs, h⟩
  | _ :: _, [], e, t, _, hs, h => ⟨hs, h⟩
  | p :: ps, v :: vs, e, t, hp, hs, h => by
    simp only [List.all_cons, Bool.and_eq_true] at hp
    have h1 := (EOk.put (n := n) (ms := []) (e := e) (a := ⟨t, []⟩) ⟨hs, rfl, h⟩ hp.1 v)
    exact bind_ok ps vs _ _ hp.2 h1.size h1.get

theorem retY_of_run {P : Program} {f n l : Nat} {w : World} {S : Value → World → Prop} {e : Env} {ps : List Tmp} {assign body : Code} {args : List Value} {st : LoopState} {pend : Option Code}
    {Rc : LoopState → Option Code → World → Prop} (hRc : Rc = Rec f n e ps.toArray assign body l) (hrec : Rc st pend w) (hl : args.length = ps.length) (hps : ps.all (Nat.blt · n) = true)
    (h : Run ⟨P, f, S, n, some l, [], false⟩ [.code assign, .beginRound, .code body] (bindE ps args e) w) : RetY P l args w S := by
  subst hRc
  obtain ⟨r, hr, -, -, rfl, hp, rfl, rfl, hsz, hget⟩ := hrec
  refine ⟨r, hr, by rw [hp, hl]; simp, trivial, fun c cs _ => ?_⟩
  let b : Frame := { (default : Frame) with fn := r.fn, kind := .normal, roundOf := some l }
  have hz : (r.params.zip args.toArray).foldl (fun tmps (t, a) => tmps.setIfInBounds t a) r.tmps = (ps.zip args).foldl (fun tmps (t, a) => tmps.setIfInBounds t a) r.tmps := by
    rw [hp, List.zip_toArray, List.foldl_toArray]
  have hb0 : ∀ tmps, Frame.round l r.fn tmps r.assign r.body .normal = b.atR { tmps := tmps, defers := [] } [.code r.assign, .beginRound, .code r.body] := fun tmps => by
    simp [Frame.round, Frame.atR, b]
  have hb := bind_ok ps args e r.tmps hps hsz hget
  rw [hz, hb0]
  obtain ⟨x, w', hR, hc⟩ := h ⟨_, []⟩ ⟨hb.1, rfl, hb.2⟩ b rfl rfl rfl (c :: cs) c cs rfl
  exact ⟨x, w', hR, comesIn_wide.2 hc⟩

section
variable {C : Cx} {k : List Item} {e : Env} {w : World} {f n : Nat} {e0 : Env} {ps : Array Tmp} {assign body : Code} {l : Nat} {st : LoopState} {pend : Option Code}

theorem rec_put {r : Loop} (h : w.heap[l]? = some (.loop r)) (h4 : r.fn = f) (h5 : r.params = ps) (h6 : r.assign = assign) (h7 : r.body = body) (h8 : r.tmps.size = n) (h9 : ∀ i v, fnd e0 i = some v → r.tmps.getD i undef = v) (st' : LoopState) (pend' : Option Code) :
    Rec f n e0 ps assign body l st' pend' (w.putObj l (.loop { r with state := st', pending := pend' })) :=
  ⟨_, World.putObj_heap_same (lt_of_heap h), rfl, rfl, h4, h5, h6, h7, h8, h9⟩

theorem run_beginRound (hrd : C.rd = some l) {Rc : LoopState → Option Code → World → Prop} (hRc : Rc = Rec f n e0 ps assign body l) (hrec : Rc .ready pend w) (h : ∀ w', Rc .busy pend w' → Kp (fun k => k = l) w w' → Run C k e w') : Run C (.beginRound :: k) e w := by
  subst hRc
  obtain ⟨r, h1, h2, h3, h4, h5, h6, h7, h8, h9⟩ := hrec
  refine fun a ha b hb hk hro cs => ?_
  have hbr := Go.run_beginRound (P := C.P) h1 h2
  have hre : Rec f n e0 ps assign body l .busy pend (w.putObj l (.loop { r with state := .busy })) := by
    rw [← h3]; exact rec_put h1 h4 h5 h6 h7 h8 h9 .busy r.pending
  exact (h _ hre (kp_putObj w l _) a ha b hb hk hro cs).of_steps (.one (stepR_beginRound (hro.trans hrd) hbr))
end
section
variable {P : Program} {g : Nat} {S : Value → World → Prop} {m : Nat} {k : List Item} {e : Env} {w : World} {f n : Nat} {e0 : Env} {ps : Array Tmp} {assign body : Code} {l : Nat} {st : LoopState} {pend : Option Code}

/-- A round ends: on with the loop. -/
theorem run_roundEnd {Rc : LoopState → Option Code → World → Prop} (hRc : Rc = Rec f n e0 ps assign body l) (hrec : Rc st pend w) (h : ∀ w', Rc .ready none w' → Kp (fun k => k = l) w w' → S (.bool true) w') : Run ⟨P, g, S, m, some l, [], false⟩ [] e w := by
  subst hRc
  obtain ⟨r, h1, h2, h3, h4, h5, h6, h7, h8, h9⟩ := hrec
  intro a ha b hb hk hro cs c cs' hcs
  subst hcs
  exact ⟨.returned (.bool true), _, ⟨_, rfl, h _ (rec_put h1 h4 h5 h6 h7 h8 h9 .ready none) (kp_putObj w l _)⟩, .one (stepR_round_end hro hk (run_endRound none h1))⟩
/-- A round ends by a return. -/
theorem run_roundRet {Rc : LoopState → Option Code → World → Prop} (hRc : Rc = Rec f n e0 ps assign body l) (hrec : Rc st pend w) (h : ∀ w', Rc .done (some .ret) w' → Kp (fun k => k = l) w w' → S (.bool false) w') : Run ⟨P, g, S, m, some l, [], false⟩ (.code .ret :: k) e w := by
  subst hRc
  obtain ⟨r, h1, h2, h3, h4, h5, h6, h7, h8, h9⟩ := hrec
  intro a ha b hb hk hro cs c cs' hcs
  subst hcs
  exact ⟨.returned (.bool false), _, ⟨_, rfl, h _ (rec_put h1 h4 h5 h6 h7 h8 h9 .done (some .ret)) (kp_putObj w l _)⟩, .one (stepR_round_ret hro hk (run_endRound (some .ret) h1))⟩
/-- A round ends by leaving the loop. -/
theorem run_roundExit {id : Nat} (hx : exitTo id k = none) {Rc : LoopState → Option Code → World → Prop} (hRc : Rc = Rec f n e0 ps assign body l) (hrec : Rc st pend w) (h : ∀ w', Rc .done (some (.exit id)) w' → Kp (fun k => k = l) w w' → S (.bool false) w') : Run ⟨P, g, S, m, some l, [], false⟩ (.code (.exit id) :: k) e w := by
  subst hRc
  obtain ⟨r, h1, h2, h3, h4, h5, h6, h7, h8, h9⟩ := hrec
  intro a ha b hb hk hro cs c cs' hcs
  subst hcs
  exact ⟨.returned (.bool false), _, ⟨_, rfl, h _ (rec_put h1 h4 h5 h6 h7 h8 h9 .done (some (.exit id))) (kp_putObj w l _)⟩, .one (stepR_round_exit hro hk hx (run_endRound (some (.exit id)) h1))⟩

/-- The statement: the record is laid, the function is called with yield; when it returns the pending jump is taken up. -/
theorem run_rangeFunc {ps : List Tmp} {ms : List Dfr} {fv : Operand} {gf : FuncId} {p q : List Value} (hg : look e fv = some (.func (.func gf) p.toArray q.toArray)) (hf : CF P gf)
    (hcall : ∀ l w1, Ext w w1 → l = w.heap.size + 1 → w1.heap.size = w.heap.size + 2 → w1.heap[w.heap.size]? = some (.deferred (some [])) → ∀ Rc, Rc = Rec f n e ps.toArray assign body l → Rc .ready none w1 →
      Ret P gf (p ++ [.func (.yield l) #[] #[]] ++ q) w1 fun v w2 => ∃ st pend, Rc st pend w2 ∧ st ≠ .busy ∧
        ∀ w3, Kp (fun k => k = l) w2 w3 → Run ⟨P, f, S, n, none, .mk w.heap.size :: ms, false⟩ ((pend.map Item.code).toList ++ k) e w3) :
    Run ⟨P, f, S, n, none, ms, false⟩ (.code (.rangeFunc fv ps.toArray assign body) :: k) e w := by
  intro a ha b hb hk hro cs
  have hev : a.eval fv = .func (.func gf) p.toArray q.toArray := ha.look hg
  have he := run_enterLoop_outer (P := P) (w := w) b.fn a.tmps ps.toArray assign body
  have hro' : b.roundOf = none := hro
  rw [← hro'] at he
  obtain ⟨w1, hw1⟩ : ∃ w1, (w.alloc (.deferred (some []))).alloc (.loop { state := .ready, pending := none, fn := b.fn, tmps := a.tmps, params := ps.toArray, assign, body, defers := w.heap.size }) = w1 := ⟨_, rfl⟩
  have hx1 : Ext w w1 := by rw [← hw1]; exact (ext_alloc w _).trans (ext_alloc _ _)
  have hs1 : w1.heap.size = w.heap.size + 2 := by rw [← hw1]; simp
  have hD : w1.heap[w.heap.size]? = some (.deferred (some [])) := by
    rw [← hw1]
    refine (ext_alloc _ _).block _ (by simp) id |>.trans ?_
    exact World.alloc_heap_new w _
  have hre : Rec f n e ps.toArray assign body (w.heap.size + 1) .ready none w1 := by
    refine ⟨_, by rw [← hw1]; have := World.alloc_heap_new (w.alloc (.deferred (some []))) (.loop { state := .ready, pending := none, fn := b.fn, tmps := a.tmps, params := ps.toArray, assign, body, defers := w.heap.size }); simpa using this, rfl, rfl, hb, rfl, rfl, rfl, ha.size, ha.get⟩
  rw [hw1] at he
  have hres : (resolve a.eval (rangeCall fv (w.heap.size + 1)) 0).run P w1 = .ok { target := .fn (.func gf) q.toArray, args := p.toArray ++ #[.func (.yield (w.heap.size + 1)) #[] #[]] } w1 := by
    have hcv : ∀ v, a.eval (.const v) = v := fun _ => rfl
    generalize a.eval = ρ at hev hcv ⊢
    simp [rangeCall, resolve, hev, hcv, Deferred.ofValue]
  have hinv : (invoke (.fn (.func gf) q.toArray) (p.toArray ++ #[Value.func (.yield (w.heap.size + 1)) #[] #[]])).run P w1 = .ok (.enter gf (p ++ [Value.func (.yield (w.heap.size + 1)) #[] #[]] ++ q).toArray) w1 := by
    simp [invoke, run_callFunc hf]
  have henter := stepR_rangeFunc (P := P) (b := b) (a := a) (k := k) (cs := cs) (w := w) he hres hinv
  have hc := hcall (w.heap.size + 1) w1 hx1 rfl hs1 hD _ rfl hre
  obtain ⟨x, w3, fr, ⟨v, hxv, st, pend, hrec3, hst, hk3⟩, hcomes, hfn, hleave⟩ := hc (b.atR { a with defers := [{ target := .collected w.heap.size, args := #[] }] ++ a.defers } (.inRangeFunc (w.heap.size + 1) :: k) :: cs)
  subst hxv
  obtain ⟨r, r1, r2, r3, r4, r5, r6, r7, r8, r9⟩ := hrec3
  have hend := run_endLoop (P := P) r1 (by rw [r2]; exact hst)
  have s1 := step_leave_returned hleave (c := b.atR { a with defers := [{ target := .collected w.heap.size, args := #[] }] ++ a.defers } (.inRangeFunc (w.heap.size + 1) :: k)) (cs := cs)
  rw [finish_atR_inRangeFunc] at s1
  have s2 := stepR_endRangeFunc (P := P) (b := b) (a := { a with defers := [{ target := .collected w.heap.size, args := #[] }] ++ a.defers }) (k := k) (cs := cs) hend
  rw [r3] at s2
  refine Lands.of_steps (Steps.trans (.one henter) (Steps.trans hcomes (Steps.trans (.one s1) (.one s2)))) ?_
  exact hk3 _ (kp_putObj w3 _ _) ⟨a.tmps, [{ target := .collected w.heap.size, args := #[] }] ++ a.defers⟩ ⟨ha.size, by show [_] ++ a.defers = _; rw [ha.defers]; rfl, ha.get⟩ b hb hk hro cs

/-- The statement in a round of another such loop. -/
theorem run_rangeFuncIn {ps : List Tmp} {ms : List Dfr} {l0 : Nat} {fv : Operand} {gf : FuncId} {p q : List Value} {f0 n0 : Nat} {e0 : Env} {ps0 : Array Tmp} {assign0 body0 : Code} {st0 : LoopState} {pend0 : Option Code}
    (hg : look e fv = some (.func (.func gf) p.toArray q.toArray)) (hf : CF P gf) (h0 : Rec f0 n0 e0 ps0 assign0 body0 l0 st0 pend0 w)
    (hcall : ∀ l w1, Ext w w1 → l = w.heap.size → w1.heap.size = w.heap.size + 1 → ∀ Rc, Rc = Rec f n e ps.toArray assign body l → Rc .ready none w1 →
      Ret P gf (p ++ [.func (.yield l) #[] #[]] ++ q) w1 fun v w2 => ∃ st pend, Rc st pend w2 ∧ st ≠ .busy ∧
        ∀ w3, Kp (fun k => k = l) w2 w3 → Run ⟨P, f, S, n, some l0, ms, false⟩ ((pend.map Item.code).toList ++ k) e w3) :
    Run ⟨P, f, S, n, some l0, ms, false⟩ (.code (.rangeFunc fv ps.toArray assign body) :: k) e w := by
  intro a ha b hb hk hro cs
  obtain ⟨r0, hr0, -⟩ := h0
  have hev : a.eval fv = .func (.func gf) p.toArray q.toArray := ha.look hg
  have hro' : b.roundOf = some l0 := hro
  have he : (Instr.enterLoop b.fn a.tmps ps.toArray assign body b.roundOf).run P w = .ok (w.heap.size, []) (w.alloc (.loop { state := .ready, pending := none, fn := b.fn, tmps := a.tmps, params := ps.toArray, assign, body, defers := r0.defers })) := by
    rw [hro']
    unfold Instr.enterLoop
    simp only [Sem.run_bind, run_getLoop hr0, run_newObj_alloc, Result.andThen, Sem.run_pure]
  obtain ⟨w1, hw1⟩ : ∃ w1, w.alloc (.loop { state := .ready, pending := none, fn := b.fn, tmps := a.tmps, params := ps.toArray, assign, body, defers := r0.defers }) = w1 := ⟨_, rfl⟩
  have hx1 : Ext w w1 := by rw [← hw1]; exact ext_alloc w _
  have hs1 : w1.heap.size = w.heap.size + 1 := by rw [← hw1]; simp
  have hre : Rec f n e ps.toArray assign body w.heap.size .ready none w1 :=
    ⟨_, by rw [← hw1]; exact World.alloc_heap_new w _, rfl, rfl, hb, rfl, rfl, rfl, ha.size, ha.get⟩
  rw [hw1] at he
  have hres : (resolve a.eval (rangeCall fv w.heap.size) 0).run P w1 = .ok { target := .fn (.func gf) q.toArray, args := p.toArray ++ #[.func (.yield w.heap.size) #[] #[]] } w1 := by
    have hcv : ∀ v, a.eval (.const v) = v := fun _ => rfl
    generalize a.eval = ρ at hev hcv ⊢
    simp [rangeCall, resolve, hev, hcv, Deferred.ofValue]
  have hinv : (invoke (.fn (.func gf) q.toArray) (p.toArray ++ #[Value.func (.yield w.heap.size) #[] #[]])).run P w1 = .ok (.enter gf (p ++ [Value.func (.yield w.heap.size) #[] #[]] ++ q).toArray) w1 := by
    simp [invoke, run_callFunc hf]
  have henter := stepR_rangeFunc (P := P) (b := b) (a := a) (k := k) (cs := cs) (w := w) he hres hinv
  have hc := hcall w.heap.size w1 hx1 rfl hs1 _ rfl hre
  obtain ⟨x, w3, fr, ⟨v, hxv, st, pend, hrec3, hst, hk3⟩, hcomes, hfn, hleave⟩ := hc (b.atR { a with defers := [] ++ a.defers } (.inRangeFunc w.heap.size :: k) :: cs)
  subst hxv
  obtain ⟨r, r1, r2, r3, r4, r5, r6, r7, r8, r9⟩ := hrec3
  have hend := run_endLoop (P := P) r1 (by rw [r2]; exact hst)
  have s1 := step_leave_returned hleave (c := b.atR { a with defers := [] ++ a.defers } (.inRangeFunc w.heap.size :: k)) (cs := cs)
  rw [finish_atR_inRangeFunc] at s1
  have s2 := stepR_endRangeFunc (P := P) (b := b) (a := { a with defers := [] ++ a.defers }) (k := k) (cs := cs) hend
  rw [r3] at s2
  refine Lands.of_steps (Steps.trans (.one henter) (Steps.trans hcomes (Steps.trans (.one s1) (.one s2)))) ?_
  exact hk3 _ (kp_putObj w3 _ _) ⟨a.tmps, _⟩ ⟨ha.size, ha.defers, ha.get⟩ b hb hk hro cs
end

/-! ### The call of yield -/
/-- The operation calls yield. -/
def Yy (P : Program) (e : Env) (o : Oper) (l : Nat) (args : List Value) (w : World) : Prop :=
  ∀ ρ : Operand → Value, (∀ x v, look e x = some v → ρ x = v) → (execOp ρ o).run P w = (Instr.yield l args.toArray).run P w

section
variable {D : RC} {rest : List Oper} {e : Env} {w w' : World} {d : Nat} {op : Op} {ty : TypeId} {pos : String} {aft : Array Edge} {g : Option (Nat × Bool)} {l : Nat} {args : List Value} {S : Value → World → Prop}

theorem yy {P : Program} {d : Option Nat} {fv : Operand} {args : List Operand} {ts : Array TypeId} {vs : List Value} (hv : look e fv = some (.func (.yield l) #[] #[])) (ha : looks e args = some vs) :
    Yy P e ⟨d, .call ⟨.value fv, args.toArray, ts⟩, ty, pos, aft, g⟩ l vs w := fun ρ hρ => by
  have h0 := hρ _ _ hv
  have hm := looks_map hρ _ _ ha
  simp [execOp, resolve, h0, Deferred.ofValue, invoke, hm]

theorem round_WF {rd : Option Nat} {P : Program} {f : FuncId} {tmps : Array Value} {assign body : Code} {R : Ending → World → Prop} (h : RoundIn Fence.wide 0 P l f tmps assign body w R) : RoundIn (WF rd) 0 P l f tmps assign body w R := h

theorem rYield (ho : okw D e g true = true) (hd : Nat.blt d D.C.n = true) (hy : Yy D.C.P e ⟨some d, op, ty, pos, aft, g⟩ l args w) (hc : RetY D.C.P l args w S)
    (h : ∀ v w', S v w' → RL D rest ((d, v) :: e) w') : RL D (⟨some d, op, ty, pos, aft, g⟩ :: rest) e w := fun a ha => by
  refine wpList_want (okw_spec ha ho) ⟨fun _ _ => trivial, ?_⟩
  have h1 := hy a.eval (fun x v hx => ha.look hx)
  obtain ⟨r, hr, hl, hR⟩ := hc
  rw [run_yield hr (by simpa using hl)] at h1
  rw [semAt_run h1 (fun _ h => by cases h)]
  exact ⟨noDepth, round_WF (hR.mono fun x w' ⟨v, hx, hv⟩ => by subst hx; exact h v w' hv _ (ha.put hd v))⟩
theorem rYield0 (ho : okw D e g true = true) (hy : Yy D.C.P e ⟨none, op, ty, pos, aft, g⟩ l args w) (hc : RetY D.C.P l args w S)
    (h : ∀ v w', S v w' → RL D rest e w') : RL D (⟨none, op, ty, pos, aft, g⟩ :: rest) e w := fun a ha => by
  refine wpList_want (okw_spec ha ho) ⟨fun _ _ => trivial, ?_⟩
  have h1 := hy a.eval (fun x v hx => ha.look hx)
  obtain ⟨r, hr, hl, hR⟩ := hc
  rw [run_yield hr (by simpa using hl)] at h1
  rw [semAt_run h1 (fun _ h => by cases h)]
  exact ⟨noDepth, round_WF (hR.mono fun x w' ⟨v, hx, hv⟩ => by subst hx; exact h v w' hv _ (ha.put0 v))⟩
end
end Go.Proofs.YtkgiammeeckfbaaGreat
