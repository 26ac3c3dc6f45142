/- What the reckoner answers for a function is what the function returns. It is of no program. -/
import Derived.Test.YtkgiammeeckfbaaGreatEvL
namespace Go.Proofs.YtkgiammeeckfbaaGreat
open Go Go.RowKit
set_option linter.all false

def RdR (φ : Ph) : Option Nat → Option Nat → Prop
  | none, none => True
  | some l, some l' => ∃ a N, φ l = some (l', a, N)
  | _, _ => False
theorem RdR.mono {φ φ' : Ph} (hs : Sb φ φ') : ∀ {a b : Option Nat}, RdR φ a b → RdR φ' a b
  | none, none, _ => trivial
  | some _, some _, ⟨x, y, h⟩ => ⟨x, y, hs _ _ h⟩
  | none, some _, h => h.elim
  | some _, none, h => h.elim

/-- What is asked of the surroundings. -/
structure At (P : Program) (G : Nat) (φ : Ph) (h : H) (w : World) (fr : Fr) (E : Tr V fr.d) (ms : List DV) (e : Env) (C : Cx) : Prop where
  rel : Rel G φ h w
  env : EnvR φ fr.d E e
  prog : C.P = P
  fn : C.f = fr.f
  nt : C.n = fr.n
  dk : C.dk = fr.dk
  rd : RdR φ fr.rd C.rd
  mr : MsR φ ms C.ms
  msn : fr.rd.isSome = true → ms = [] ∧ fr.dk = false
  res : fr.rd = none → ∃ fn, P.funcs[fr.f]? = some fn ∧ fn.results.toList = fr.res
theorem At.to {P : Program} {G : Nat} {φ φ' : Ph} {h h' : H} {w w' : World} {fr : Fr} {E E' : Tr V fr.d} {ms : List DV} {e e' : Env} {C : Cx} (a : At P G φ h w fr E ms e C) (p : Post G φ h w φ' h' w') (he : EnvR φ' fr.d E' e') : At P G φ' h' w' fr E' ms e' C :=
  ⟨p.rel, he, a.prog, a.fn, a.nt, a.dk, a.rd.mono p.sb, a.mr.mono p.sb, a.msn, a.res⟩

/-- The end is met. -/
def Fin (G : Nat) (φ : Ph) (h : H) (w : World) (v : V) (h' : H) (R : Value → World → Prop) : Prop := ∀ u w' φ', Post G φ h w φ' h' w' → CV φ' v u → R u w'
theorem Fin.to {G : Nat} {φ φ1 : Ph} {h h1 h' : H} {w w1 : World} {v : V} {R : Value → World → Prop} (f : Fin G φ h w v h' R) (p : Post G φ h w φ1 h1 w1) : Fin G φ1 h1 w1 v h' R := fun u w' φ' q c => f u w' φ' (p.trans q) c

def Sd (P : Program) (G : Nat) (X : Hook P G) (ih : RunT) : Prop := ∀ ops rest k fr E ms h v h', ih ops rest k fr E ms h = .ok v h' → ∀ φ w e (C : Cx), At P G φ h w fr E ms e C → Fin G φ h w v h' C.R →
  (rest = [] → Run C k e w) ∧ (∀ ho : dstsOk C.n ops = true, dstsOk C.n rest = true → RL ⟨C, ops, k, ho⟩ rest e w)

section
variable {P : Program} {G : Nat} {X : Hook P G} {ih : RunT}

theorem bodyOf_spec {f : FuncId} {c : Code} {n d : Nat} {res : List ResultVar} (hb : bodyOf P f = some (c, n, d, res)) : ∃ fn, P.funcs[f]? = some fn ∧ fn.body = some c ∧ fn.ntmps = n ∧ fn.results.toList = res ∧ CF P f := by
  unfold bodyOf at hb
  split at hb <;> try cases hb
  rename_i fn hf
  split at hb <;> try cases hb
  rename_i c' hc
  cases hn : (fn.name == "runtime.NumGoroutine") with
  | true => rw [hn] at hb; cases hb
  | false =>
    rw [hn] at hb
    cases hb
    exact ⟨fn, hf, hc, rfl, rfl, fn, hf, hn, by rw [hc]; rfl⟩

theorem enter_cf {f : FuncId} {args : List V} {h h' : H} {v : V} (he : enterN P ih f args h = .ok v h') : CF P f := by
  unfold enterN at he
  split at he <;> try cases he
  rename_i hb
  obtain ⟨fn, _, _, _, _, h⟩ := bodyOf_spec hb
  exact h
/-- A call. -/
theorem enterN_ok (hS : Sd P G X ih) {f : FuncId} {args : List V} {h h' : H} {v : V} (he : enterN P ih f args h = .ok v h') {φ : Ph} {w : World} {us : List Value} (r : Rel G φ h w) (hc : CVs φ args us) :
    CF P f ∧ Ret P f us w fun u w' => ∃ φ', Post G φ h w φ' h' w' ∧ CV φ' v u := by
  refine ⟨enter_cf he, ?_⟩
  unfold enterN at he
  split at he <;> try cases he
  rename_i c n d res hb
  obtain ⟨fn, hf, hbody, hnt, hres, hCF⟩ := bodyOf_spec hb
  cases hn : Nat.ble args.length n with
  | false => rw [hn] at he; cases he
  | true =>
    rw [hn] at he
    simp only [cond_true, wrK_eq] at he
    refine ret_of_run hf hbody hnt (by rw [hc.len]; exact hn) rfl ?_
    refine (hS _ _ _ _ _ _ _ _ _ he φ w (envOf 0 us) ⟨P, f, _, n, none, [], false⟩ ⟨r, EnvR.args hc, rfl, rfl, rfl, rfl, trivial, trivial, (fun hh => by cases hh), fun _ => ⟨fn, hf, hres⟩⟩ ?_).1 rfl
    exact fun u w' φ' p c => ⟨φ', p, c⟩

theorem enter_ok (hS : Sd P G X ih) {f : FuncId} {args : List V} {h h' : H} {v : V} (he : enterF P G X ih f args h = .ok v h') {φ : Ph} {w : World} {us : List Value} (r : Rel G φ h w) (hc : CVs φ args us) :
    Dn P f us w fun u w' => ∃ φ', Post G φ h w φ' h' w' ∧ CV φ' v u := by
  unfold enterF at he
  split at he
  · rename_i g hg
    split at he
    · rename_i r' hr
      exact X.ok f g hg args h v h' (by rw [hr, he]) φ w us r hc
    · exact .inl (enterN_ok hS he r hc)
  · exact .inl (enterN_ok hS he r hc)

theorem bindV_eq {φ : Ph} {d : Nat} {β : Type} (no : β) : ∀ (ps : List Tmp) (args : List V) (us : List Value) (E : Tr V d) (e : Env) (c : Tr V d → β), EnvR φ d E e → CVs φ args us →
    bindV d E ps args c no = no ∨ ∃ E', bindV d E ps args c no = c E' ∧ EnvR φ d E' (bindE ps us e) ∧ us.length = ps.length
  | [], [], _, E, e, c, he, .nil => .inr ⟨E, rfl, he, rfl⟩
  | p :: ps, v :: vs, _, E, e, c, he, .cons (u := u) (us := us) h1 h2 => by
    have hstep : bindV d E (p :: ps) (v :: vs) c no = trSet d p E v fun E => bindV d E ps vs c no := rfl
    rw [hstep, trSet_eq]
    rcases bindV_eq no ps vs us (trPut d p E v) ((p, u) :: e) c (he.put p h1) h2 with h3 | ⟨E', h3, h4, h5⟩
    · exact .inl h3
    · exact .inr ⟨E', h3, h4, by simp [h5]⟩
  | [], _ :: _, _, _, _, _, _, _ => .inl rfl
  | _ :: _, [], _, _, _, _, _, _ => .inl rfl

/-- A round. -/
theorem round_ok (hS : Sd P G X ih) {l : Nat} {args : List V} {h h' : H} {v : V} (he : roundF P ih l args h = .ok v h') {φ : Ph} {w : World} {us : List Value} {l' a N : Nat} (r : Rel G φ h w) (hl : φ l = some (l', a, N)) (hc : CVs φ args us) :
    RetY P l' us w fun u w' => ∃ φ', Post G φ h w φ' h' w' ∧ CV φ' v u := by
  unfold roundF at he
  split at he <;> try cases he
  rename_i pend f ed E n ps as b hb
  cases hps : ps.all (Nat.blt · n) with
  | false => rw [hps] at he; cases he
  | true =>
  rw [hps] at he
  simp only [cond_true] at he
  obtain ⟨q, hq, hbr⟩ := r.blk _ _ hb
  rw [hl] at hq; cases hq
  obtain ⟨e0, hrec, henv⟩ := loop_rec hbr
  rcases bindV_eq (Res.bad 205 f) ps args us E e0 _ henv hc with h1 | ⟨E', h1, h2, h3⟩
  · rw [h1] at he; cases he
  · rw [h1] at he
    refine retY_of_run (n := n) rfl hrec h3 hps ?_
    refine (hS _ _ _ _ _ _ _ _ _ he φ w _ ⟨P, f, _, n, some l', [], false⟩ ⟨r, h2, rfl, rfl, rfl, rfl, ⟨a, N, hl⟩, trivial, fun _ => ⟨rfl, rfl⟩, (fun hh => by cases hh)⟩ ?_).1 rfl
    exact fun u w' φ' p c => ⟨φ', p, c⟩

/-- A deferred call. -/
theorem enterD0_ok (hS : Sd P G X ih) {f : FuncId} {args : List V} {h h' : H} {v : V} (he : enterD0 P ih f args h = .ok v h') {φ : Ph} {w : World} {us : List Value} (r : Rel G φ h w) (hc : CVs φ args us) :
    CF P f ∧ RetD P f us w fun u w' => ∃ φ', Post G φ h w φ' h' w' ∧ CV φ' v u := by
  unfold enterD0 at he
  split at he <;> try cases he
  rename_i c n d res hb
  obtain ⟨fn, hf, hbody, hnt, hres, hCF⟩ := bodyOf_spec hb
  refine ⟨hCF, ?_⟩
  cases hn : Nat.ble args.length n with
  | false => rw [hn] at he; cases he
  | true =>
    rw [hn] at he
    simp only [cond_true, wrK_eq] at he
    refine retD_of_run hf hbody hnt (by rw [hc.len]; exact hn) rfl ?_
    refine (hS _ _ _ _ _ _ _ _ _ he φ w (envOf 0 us) ⟨P, f, _, n, none, [], true⟩ ⟨r, EnvR.args hc, rfl, rfl, rfl, rfl, trivial, trivial, (fun hh => by cases hh), fun _ => ⟨fn, hf, hres⟩⟩ ?_).1 rfl
    exact fun u w' φ' p c => ⟨φ', p, c⟩

theorem enterD_ok (hS : Sd P G X ih) {f : FuncId} {args : List V} {h h' : H} {v : V} (he : enterD P G X ih f args h = .ok v h') {φ : Ph} {w : World} {us : List Value} (r : Rel G φ h w) (hc : CVs φ args us) :
    CF P f ∧ RetD P f us w fun u w' => ∃ φ', Post G φ h w φ' h' w' ∧ CV φ' v u := by
  unfold enterD at he
  split at he
  · rename_i g hg
    exact X.dok _ _ hg _ _ _ _ he _ _ _ r hc
  · exact enterD0_ok hS he r hc

theorem leaveAll_ok (hS : Sd P G X ih) {fn : Func} {tmps : Array Value} {R : Ending → World → Prop} {v : V} {h' : H} (c : H → Res) : ∀ (ms : List DV) (ms' : List Dfr) (h : H) (w : World) (φ : Ph), Rel G φ h w → MsR φ ms ms' → leaveAll P G X ih ms h c = .ok v h' →
    (∀ h1 w1 φ1, c h1 = .ok v h' → Post G φ h w φ1 h1 w1 → ∃ u, (results fn tmps).run P w1 = .ok u w1 ∧ R (.returned u) w1) → LeavesInM Fence.wide 0 P fn tmps R (marks ms') .returning w
  | [], [], h, w, φ, r, _, he, hk => hk h w φ he (Post.refl r)
  | .mk m :: ms, .mk m' :: ms', h, w, φ, r, ⟨⟨a, N, hp⟩, hm⟩, he, hk => by
    have hstep : leaveAll P G X ih (.mk m :: ms) h c = match hGet h m with
      | some .dfr => hSet h m (some .shut) fun h => leaveAll P G X ih ms h c
      | _ => .bad 201 0 := rfl
    rw [hstep] at he
    split at he <;> try cases he
    rename_i hb
    rw [hSet_eq] at he
    obtain ⟨q, hq, hbr⟩ := r.blk _ _ hb
    rw [hp] at hq; cases hq
    have hbr : w.heap[m']? = some (.deferred (some [])) := hbr
    have p1 : Post G φ h w φ ⟨trPut HD m h.t (some .shut), h.next⟩ (w.putObj m' (.deferred none)) :=
      r.upd hb rfl hp (kp_putObj w m' _) (by show m' < _; have := lt_of_heap hbr; simpa using this)
    refine ⟨by simp, .inl ⟨m', _, rfl, run_takeDeferred hbr, ?_⟩⟩
    exact leaveAll_ok hS c ms ms' _ _ φ p1.rel hm he fun h1 w1 φ1 h2 p2 => hk h1 w1 φ1 h2 (p1.trans p2)
  | .call f cap args :: ms, .call f' cap' args' :: ms', h, w, φ, r, ⟨hf, hc1, hc2, hm⟩, he, hk => by
    subst hf
    have hstep : leaveAll P G X ih (.call f cap args :: ms) h c = fL (args ++ cap) fun l => match enterD P G X ih f l h with
      | .ok _ h => leaveAll P G X ih ms h c
      | .bad n a => .bad n a := rfl
    rw [hstep, fL_eq] at he
    split at he <;> try cases he
    rename_i x h2 hen
    obtain ⟨hCF, hRet⟩ := enterD_ok hS hen r (hc2.append hc1)
    refine ⟨by simp, .inr ⟨(fun h => by cases h), .func f, cap'.toArray, f, (args' ++ cap').toArray, rfl, ?_, (fun _ _ => trivial), ?_⟩⟩
    · simp [Dfr.d, invoke, run_callFunc hCF]
    · refine CallsDIn.mono hRet ?_
      rintro x u w1 ⟨rfl, v1, rfl, φ1, p1, -⟩
      exact leaveAll_ok hS c ms ms' _ _ φ1 p1.rel (hm.mono p1.sb) he fun h1 w1 φ1 h2 p2 => hk h1 w1 φ1 h2 (p1.trans p2)
  | [], _ :: _, _, _, _, _, h, _, _ => h.elim
  | .mk _ :: _, [], _, _, _, _, h, _, _ => h.elim
  | .call .. :: _, [], _, _, _, _, h, _, _ => h.elim
  | .mk _ :: _, .call .. :: _, _, _, _, _, h, _, _ => h.elim
  | .call .. :: _, .mk _ :: _, _, _, _, _, h, _, _ => h.elim

/-- A function ends. -/
theorem retF_ok (hS : Sd P G X ih) {fr : Fr} {E : Tr V fr.d} {ms : List DV} {h h' : H} {v : V} (he : retF P G X ih fr E ms h = .ok v h') {φ : Ph} {w : World} {e : Env} {C : Cx} (hA : At P G φ h w fr E ms e C) (hF : Fin G φ h w v h' C.R) (hrd : fr.rd = none) :
    C.rd = none ∧ ∃ fn, C.P.funcs[C.f]? = some fn ∧ (C.dk = true → C.ms = []) ∧ ∀ a, EOk C.n C.ms e a → LeavesInM Fence.wide 0 C.P fn a.tmps (RetX C.R) (marks C.ms) .returning w := by
  have hrd' : C.rd = none := by
    have := hA.rd
    rw [hrd] at this
    cases hc : C.rd with
    | none => rfl
    | some _ => rw [hc] at this; exact this.elim
  obtain ⟨fn, hf, hres⟩ := hA.res hrd
  refine ⟨hrd', fn, by rw [hA.prog, hA.fn]; exact hf, ?_⟩
  unfold retF at he
  cases hb : (fr.dk && !ms.isEmpty) with
  | true => rw [hb] at he; cases he
  | false =>
  rw [hb] at he
  simp only [cond_false] at he
  constructor
  · intro hd
    rw [hA.dk] at hd
    rw [hd] at hb
    have hm : ms = [] := by cases ms with | nil => rfl | cons _ _ => simp at hb
    have := hA.mr
    rw [hm] at this
    cases hc : C.ms with
    | nil => rfl
    | cons _ _ => rw [hc] at this; exact this.elim
  · intro a ha
    rw [hA.prog]
    refine leaveAll_ok hS _ ms C.ms h w φ hA.rel hA.mr he fun h1 w1 φ1 he e4 => ?_
    split at he <;> try cases he
    rename_i vs hvs
    rw [fL_eq] at he
    cases he
    obtain ⟨us, k1, k2⟩ := resV_ok (n := C.n) (ms := C.ms) e4.rel (hA.env.mono e4.sb) hvs
    have k3 := k2 a ha
    rw [← hres] at k3
    exact ⟨_, results_of k3, _, rfl, hF _ _ _ e4 (resOne_cv k1)⟩
theorem leaves_none {fn : Func} {tmps : Array Value} {R : Value → World → Prop} {w : World} (h : LeavesInM Fence.wide 0 P fn tmps (RetX R) (marks []) .returning w) : ∃ v, (results fn tmps).run P w = .ok v w ∧ RetX R (.returned v) w := h
theorem run_leave {C : Cx} {fn : Func} {k : List Item} {e : Env} {w : World} (h1 : C.rd = none) (h2 : C.P.funcs[C.f]? = some fn) (h3 : C.dk = true → C.ms = []) (h4 : ∀ a, EOk C.n C.ms e a → LeavesInM Fence.wide 0 C.P fn a.tmps (RetX C.R) (marks C.ms) .returning w) : Run C (.code .ret :: k) e w ∧ Run C [] e w := by
  cases hd : C.dk with
  | false => exact ⟨run_retL h1 hd h2 h4, run_endL h1 hd h2 h4⟩
  | true =>
    have hm := h3 hd
    have h5 : ∀ a, EOk C.n C.ms e a → ∃ v, (results fn a.tmps).run C.P w = .ok v w ∧ RetX C.R (.returned v) w := fun a ha => by
      have := h4 a ha
      rw [hm] at this
      exact leaves_none this
    exact ⟨run_retD h1 hd hm h2 h5, run_endD h1 hd hm h2 h5⟩

theorem roundEnd_ok {fr : Fr} {E : Tr V fr.d} {ms : List DV} {h h' : H} {v : V} {l : Nat} {jump : Option Code} (he : endRound fr l jump h = .ok v h') {φ : Ph} {w : World} {e : Env} {C : Cx} (hA : At P G φ h w fr E ms e C) (hF : Fin G φ h w v h' C.R) (hrd : fr.rd = some l) :
    ∃ l' Rc f n e0 ps as b st pend, C = ⟨C.P, C.f, C.R, C.n, some l', [], false⟩ ∧ Rc = Rec f n e0 ps as b l' ∧ Rc st pend w ∧
      ∀ w', Rc (match jump with | none => .ready | some _ => .done) jump w' → Kp (fun k => k = l') w w' → C.R (.bool jump.isNone) w' := by
  have hR := hA.rd
  rw [hrd] at hR
  cases hcr : C.rd with
  | none => rw [hcr] at hR; exact hR.elim
  | some l' =>
  rw [hcr] at hR
  obtain ⟨a, N, hl⟩ := hR
  have hm : ms = [] := (hA.msn (by rw [hrd]; rfl)).1
  have hcd : C.dk = false := hA.dk.trans (hA.msn (by rw [hrd]; rfl)).2
  have hms := hA.mr
  rw [hm] at hms
  have hcm : C.ms = [] := by
    cases hc : C.ms with
    | nil => rfl
    | cons _ _ => rw [hc] at hms; exact hms.elim
  unfold endRound at he
  split at he <;> try cases he
  rename_i st pend f ed E' n ps as b hb
  rw [hSet_eq] at he
  cases he
  obtain ⟨q, hq, hbr⟩ := hA.rel.blk _ _ hb
  rw [hl] at hq; cases hq
  obtain ⟨e0, hrec, henv⟩ := loop_rec hbr
  refine ⟨l', _, f, n, e0, ps.toArray, as, b, st, pend, ?_, rfl, hrec, fun w' hr hk => ?_⟩
  · obtain ⟨a1, a2, a3, a4, a5, a6, a7⟩ := C
    simp only at hcr hcm hcd
    subst hcr; subst hcm; subst hcd; rfl
  · exact hF _ _ φ (hA.rel.upd hb rfl hl hk (rec_loop hr henv)) .bool
theorem leave_ok (hS : Sd P G X ih) {jump : Option Code} {fr : Fr} {E : Tr V fr.d} {ms : List DV} {h h' : H} {v : V} (he : leave P G X ih jump fr E ms h = .ok v h') {φ : Ph} {w : World} {e : Env} {C : Cx} (hA : At P G φ h w fr E ms e C) (hF : Fin G φ h w v h' C.R) {k : List Item}
    (hj : (jump = none ∧ k = []) ∨ (jump = some .ret ∧ ∃ k', k = .code .ret :: k') ∨ (∃ id k', jump = some (.exit id) ∧ k = .code (.exit id) :: k' ∧ exitTo id k' = none)) : Run C k e w := by
  unfold leave at he
  split at he
  · rename_i l hrd
    obtain ⟨l', Rc, f, n, e0, ps, as, b, st, pend, hC, hRc, hrec, hfin⟩ := roundEnd_ok he hA hF hrd
    rw [hC]
    rcases hj with ⟨rfl, rfl⟩ | ⟨rfl, k', rfl⟩ | ⟨id, k', rfl, rfl, hx⟩
    · exact run_roundEnd hRc hrec fun w' h1 h2 => hfin w' h1 h2
    · exact run_roundRet hRc hrec fun w' h1 h2 => hfin w' h1 h2
    · exact run_roundExit hx hRc hrec fun w' h1 h2 => hfin w' h1 h2
  · rename_i hrd
    split at he <;> try cases he
    · rcases hj with ⟨-, rfl⟩ | ⟨hh, -⟩ | ⟨id, k', hh, -⟩
      · obtain ⟨h1, fn, h2, h3, h4⟩ := retF_ok hS he hA hF hrd
        exact (run_leave (k := []) h1 h2 h3 h4).2
      · cases hh
      · cases hh
    · rcases hj with ⟨hh, -⟩ | ⟨-, k', rfl⟩ | ⟨id, k', hh, -⟩
      · cases hh
      · obtain ⟨h1, fn, h2, h3, h4⟩ := retF_ok hS he hA hF hrd
        exact (run_leave h1 h2 h3 h4).1
      · cases hh

/-! ### One step -/
theorem stepOp_ok (hS : Sd P G X ih) {ops : List Oper} {o : Oper} {rest : List Oper} {k : List Item} {fr : Fr} {E : Tr V fr.d} {ms : List DV} {h h' : H} {v : V} (he : stepOp P G X ih ops o rest k fr E ms h = .ok v h') {φ : Ph} {w : World} {e : Env} {C : Cx}
    (hA : At P G φ h w fr E ms e C) (hF : Fin G φ h w v h' C.R) (ho : dstsOk C.n ops = true) (hr0 : dstsOk C.n (o :: rest) = true) : RL ⟨C, ops, k, ho⟩ (o :: rest) e w := by
  have hr' : (match o.dst with | some d => Nat.blt d C.n | none => true) = true ∧ dstsOk C.n rest = true := by
    have : ((match o.dst with | some d => Nat.blt d C.n | none => true) && dstsOk C.n rest) = true := hr0
    simpa only [Bool.and_eq_true] using this
  obtain ⟨hd, hr⟩ := hr'
  clear hr0
  obtain ⟨dst, op, ty, pos, aft, g⟩ := o
  -- on with the rest
  have on : ∀ {x : V} {h1 : H} {φ1 : Ph} {w1 : World} {u : Value}, dstV fr.d E dst x (fun E => ih ops rest k fr E ms h1) = .ok v h' → Post G φ h w φ1 h1 w1 → CV φ1 x u →
      (∀ i, dst = some i → RL ⟨C, ops, k, ho⟩ rest ((i, u) :: e) w1) ∧ (dst = none → RL ⟨C, ops, k, ho⟩ rest e w1) := fun {x h1 φ1 w1 u} he p hc => by
    rw [dstV_eq] at he
    constructor
    · rintro i rfl
      exact (hS _ _ _ _ _ _ _ _ _ he φ1 w1 _ C (hA.to p ((hA.env.mono p.sb).put i hc)) (hF.to p)).2 ho hr
    · rintro rfl
      exact (hS _ _ _ _ _ _ _ _ _ he φ1 w1 _ C (hA.to p (hA.env.mono p.sb)) (hF.to p)).2 ho hr
  unfold stepOp at he
  simp only at he hd
  split at he <;> try cases he
  · rename_i hw
    have hok := wants_ok (D := ⟨C, ops, k, ho⟩) hA.env hw rfl
    have hk := evOp_ok (P := P) (d := dst) (ty := ty) (pos := pos) (aft := aft) (g := g) (op := op) hA.rel (EnvR.rho hA.rel hA.env)
    split at he <;> try cases he
    · rename_i x h1 hev
      rw [hev] at hk
      obtain ⟨u, w1, φ1, hy, hp, hc⟩ := hk
      rw [← hA.prog] at hy
      obtain ⟨q1, q2⟩ := on he hp hc
      cases dst with
      | none => exact rVal0 hok hy (q2 rfl)
      | some i => exact rVal hok hd hy (q1 i rfl)
    · rename_i h1 hev
      rw [hev] at hk
      obtain ⟨w1, φ1, hz, hp⟩ := hk
      rw [← hA.prog] at hz
      cases dst with
      | some i => cases he
      | none => exact rEff hok hz ((hS _ _ _ _ _ _ _ _ _ he φ1 w1 _ C (hA.to hp (hA.env.mono hp.sb)) (hF.to hp)).2 ho hr)
    · rename_i f args hev
      rw [hev] at hk
      obtain ⟨us, hy, hc, hv⟩ := hk
      split at he <;> try cases he
      rename_i x h1 hen
      rcases enter_ok hS hen hA.rel hc with ⟨hCF, hRet⟩ | ⟨u, w1, hrun, φ1, hp, hc⟩
      · have hy := hy hCF
        rw [← hA.prog] at hy hRet
        cases dst with
        | none => exact rCall0 hok hy hRet fun u w1 ⟨φ1, hp, hc⟩ => (on he hp hc).2 rfl
        | some i => exact rCall hok hd hy hRet fun u w1 ⟨φ1, hp, hc⟩ => (on he hp hc).1 i rfl
      · have hy := hv u w1 hrun
        rw [← hA.prog] at hy
        obtain ⟨q1, q2⟩ := on he hp hc
        cases dst with
        | none => exact rVal0 hok hy (q2 rfl)
        | some i => exact rVal hok hd hy (q1 i rfl)
    · rename_i l args hev
      rw [hev] at hk
      obtain ⟨us, l', a, N, hl, hc, hy⟩ := hk
      split at he <;> try cases he
      rename_i x h1 hen
      have hRet := round_ok hS hen hA.rel hl hc
      rw [← hA.prog] at hy hRet
      cases dst with
      | none => exact rYield0 hok hy hRet fun u w1 ⟨φ1, hp, hc⟩ => (on he hp hc).2 rfl
      | some i => exact rYield hok hd hy hRet fun u w1 ⟨φ1, hp, hc⟩ => (on he hp hc).1 i rfl
    · rename_i f cap args hev
      rw [hev] at hk
      obtain ⟨uc, ua, hc1, hc2, hy⟩ := hk
      rw [← hA.prog] at hy
      split at he <;> try cases he
      rename_i hrd
      have hR := hA.rd
      rw [hrd] at hR
      have hrd' : C.rd = none := by
        cases hc : C.rd with
        | none => rfl
        | some _ => rw [hc] at hR; exact hR.elim
      refine rDefer (D := ⟨C, ops, k, ho⟩) hrd' hok hy ?_
      exact (hS _ _ _ _ _ _ _ _ _ he φ w e { C with ms := .call f uc ua :: C.ms } ⟨hA.rel, hA.env, hA.prog, hA.fn, hA.nt, hA.dk, hA.rd, ⟨rfl, hc1, hc2, hA.mr⟩, (fun hh => by rw [hrd] at hh; cases hh), hA.res⟩ hF).2 ho hr
  · rename_i hw
    have hok := wants_ok (D := ⟨C, ops, k, ho⟩) hA.env hw rfl
    obtain ⟨q1, q2⟩ := on (u := undef) he (Post.refl hA.rel) (.tup .nil)
    cases dst with
    | none => exact rSkip0 hok (q2 rfl)
    | some i => exact rSkip hok hd (q1 i rfl)

/-! ### Loops over functions -/
theorem run_rangeFunc' {f n : Nat} {S : Value → World → Prop} {ps : List Tmp} {assign body : Code} {ms : List Dfr} {fv : Operand} {gf : FuncId} {p q : List Value} {k : List Item} {e : Env} {w : World} (hg : look e fv = some (.func (.func gf) p.toArray q.toArray)) (hf : CF P gf)
    (hcall : ∀ w1, Ext w w1 → w1.heap.size = w.heap.size + 2 → w1.heap[w.heap.size]? = some (.deferred (some [])) → ∀ e1, (∀ i v, fnd e i = some v → fnd e1 i = some v) → Rec f n e1 ps.toArray assign body (w.heap.size + 1) .ready none w1 →
      Ret P gf (p ++ [.func (.yield (w.heap.size + 1)) #[] #[]] ++ q) w1 fun v w2 => ∃ r : Loop, w2.heap[w.heap.size + 1]? = some (.loop r) ∧ r.state ≠ .busy ∧
        ∀ w3, Kp (fun k => k = w.heap.size + 1) w2 w3 → Run ⟨P, f, S, n, none, .mk w.heap.size :: ms, false⟩ ((r.pending.map Item.code).toList ++ k) e w3) :
    Run ⟨P, f, S, n, none, ms, false⟩ (.code (.rangeFunc fv ps.toArray assign body) :: k) e w := by
  intro a ha b hb hk hro cs
  have hev : a.eval fv = .func (.func gf) p.toArray q.toArray := ha.look hg
  have he := run_enterLoop_outer (P := P) (w := w) b.fn a.tmps ps.toArray assign body
  have hro' : b.roundOf = none := hro
  rw [← hro'] at he
  obtain ⟨w1, hw1⟩ : ∃ w1, (w.alloc (.deferred (some []))).alloc (.loop { state := .ready, pending := none, fn := b.fn, tmps := a.tmps, params := ps.toArray, assign, body, defers := w.heap.size }) = w1 := ⟨_, rfl⟩
  have hx1 : Ext w w1 := by rw [← hw1]; exact (ext_alloc w _).trans (ext_alloc _ _)
  have hs1 : w1.heap.size = w.heap.size + 2 := by rw [← hw1]; simp
  have hD : w1.heap[w.heap.size]? = some (.deferred (some [])) := by
    rw [← hw1]
    refine (ext_alloc _ _).block _ (by simp) id |>.trans ?_
    exact World.alloc_heap_new w _
  have hre : Rec f n e ps.toArray assign body (w.heap.size + 1) .ready none w1 := by
    refine ⟨_, by rw [← hw1]; have := World.alloc_heap_new (w.alloc (.deferred (some []))) (.loop { state := .ready, pending := none, fn := b.fn, tmps := a.tmps, params := ps.toArray, assign, body, defers := w.heap.size }); simpa using this, rfl, rfl, hb, rfl, rfl, rfl, ha.size, ha.get⟩
  rw [hw1] at he
  have hres : (resolve a.eval (rangeCall fv (w.heap.size + 1)) 0).run P w1 = .ok { target := .fn (.func gf) q.toArray, args := p.toArray ++ #[.func (.yield (w.heap.size + 1)) #[] #[]] } w1 := by
    have hcv : ∀ v, a.eval (.const v) = v := fun _ => rfl
    generalize a.eval = ρ at hev hcv ⊢
    simp [rangeCall, resolve, hev, hcv, Deferred.ofValue]
  have hinv : (invoke (.fn (.func gf) q.toArray) (p.toArray ++ #[Value.func (.yield (w.heap.size + 1)) #[] #[]])).run P w1 = .ok (.enter gf (p ++ [Value.func (.yield (w.heap.size + 1)) #[] #[]] ++ q).toArray) w1 := by
    simp [invoke, run_callFunc hf]
  have henter := stepR_rangeFunc (P := P) (b := b) (a := a) (k := k) (cs := cs) (w := w) he hres hinv
  have hc := hcall w1 hx1 hs1 hD e (fun _ _ h => h) hre
  obtain ⟨x, w3, fr, ⟨v, hxv, r, r1, r2, hk3⟩, hcomes, hfn, hleave⟩ := hc (b.atR { a with defers := [{ target := .collected w.heap.size, args := #[] }] ++ a.defers } (.inRangeFunc (w.heap.size + 1) :: k) :: cs)
  subst hxv
  have hend := run_endLoop (P := P) r1 r2
  have s1 := step_leave_returned hleave (c := b.atR { a with defers := [{ target := .collected w.heap.size, args := #[] }] ++ a.defers } (.inRangeFunc (w.heap.size + 1) :: k)) (cs := cs)
  rw [finish_atR_inRangeFunc] at s1
  have s2 := stepR_endRangeFunc (P := P) (b := b) (a := { a with defers := [{ target := .collected w.heap.size, args := #[] }] ++ a.defers }) (k := k) (cs := cs) hend
  refine Lands.of_steps (Steps.trans (.one henter) (Steps.trans hcomes (Steps.trans (.one s1) (.one s2)))) ?_
  exact hk3 _ (kp_putObj w3 _ _) ⟨a.tmps, [{ target := .collected w.heap.size, args := #[] }] ++ a.defers⟩ ⟨ha.size, by show [_] ++ a.defers = _; rw [ha.defers]; rfl, ha.get⟩ b hb hk hro cs
theorem run_rangeFuncIn' {f n : Nat} {S : Value → World → Prop} {ps : List Tmp} {assign body : Code} {ms : List Dfr} {l0 : Nat} {fv : Operand} {gf : FuncId} {p q : List Value} {k : List Item} {e : Env} {w : World} {r0 : Loop} (hg : look e fv = some (.func (.func gf) p.toArray q.toArray)) (hf : CF P gf) (hr0 : w.heap[l0]? = some (.loop r0))
    (hcall : ∀ w1, Ext w w1 → w1.heap.size = w.heap.size + 1 → Rec f n e ps.toArray assign body w.heap.size .ready none w1 →
      Ret P gf (p ++ [.func (.yield w.heap.size) #[] #[]] ++ q) w1 fun v w2 => ∃ r : Loop, w2.heap[w.heap.size]? = some (.loop r) ∧ r.state ≠ .busy ∧
        ∀ w3, Kp (fun k => k = w.heap.size) w2 w3 → Run ⟨P, f, S, n, some l0, ms, false⟩ ((r.pending.map Item.code).toList ++ k) e w3) :
    Run ⟨P, f, S, n, some l0, ms, false⟩ (.code (.rangeFunc fv ps.toArray assign body) :: k) e w := by
  intro a ha b hb hk hro cs
  have hev : a.eval fv = .func (.func gf) p.toArray q.toArray := ha.look hg
  have hro' : b.roundOf = some l0 := hro
  have he : (Instr.enterLoop b.fn a.tmps ps.toArray assign body b.roundOf).run P w = .ok (w.heap.size, []) (w.alloc (.loop { state := .ready, pending := none, fn := b.fn, tmps := a.tmps, params := ps.toArray, assign, body, defers := r0.defers })) := by
    rw [hro']
    unfold Instr.enterLoop
    simp only [Sem.run_bind, run_getLoop hr0, run_newObj_alloc, Result.andThen, Sem.run_pure]
  obtain ⟨w1, hw1⟩ : ∃ w1, w.alloc (.loop { state := .ready, pending := none, fn := b.fn, tmps := a.tmps, params := ps.toArray, assign, body, defers := r0.defers }) = w1 := ⟨_, rfl⟩
  have hx1 : Ext w w1 := by rw [← hw1]; exact ext_alloc w _
  have hs1 : w1.heap.size = w.heap.size + 1 := by rw [← hw1]; simp
  have hre : Rec f n e ps.toArray assign body w.heap.size .ready none w1 :=
    ⟨_, by rw [← hw1]; exact World.alloc_heap_new w _, rfl, rfl, hb, rfl, rfl, rfl, ha.size, ha.get⟩
  rw [hw1] at he
  have hres : (resolve a.eval (rangeCall fv w.heap.size) 0).run P w1 = .ok { target := .fn (.func gf) q.toArray, args := p.toArray ++ #[.func (.yield w.heap.size) #[] #[]] } w1 := by
    have hcv : ∀ v, a.eval (.const v) = v := fun _ => rfl
    generalize a.eval = ρ at hev hcv ⊢
    simp [rangeCall, resolve, hev, hcv, Deferred.ofValue]
  have hinv : (invoke (.fn (.func gf) q.toArray) (p.toArray ++ #[Value.func (.yield w.heap.size) #[] #[]])).run P w1 = .ok (.enter gf (p ++ [Value.func (.yield w.heap.size) #[] #[]] ++ q).toArray) w1 := by
    simp [invoke, run_callFunc hf]
  have henter := stepR_rangeFunc (P := P) (b := b) (a := a) (k := k) (cs := cs) (w := w) he hres hinv
  have hc := hcall w1 hx1 hs1 hre
  obtain ⟨x, w3, fr, ⟨v, hxv, r, r1, r2, hk3⟩, hcomes, hfn, hleave⟩ := hc (b.atR { a with defers := [] ++ a.defers } (.inRangeFunc w.heap.size :: k) :: cs)
  subst hxv
  have hend := run_endLoop (P := P) r1 r2
  have s1 := step_leave_returned hleave (c := b.atR { a with defers := [] ++ a.defers } (.inRangeFunc w.heap.size :: k)) (cs := cs)
  rw [finish_atR_inRangeFunc] at s1
  have s2 := stepR_endRangeFunc (P := P) (b := b) (a := { a with defers := [] ++ a.defers }) (k := k) (cs := cs) hend
  refine Lands.of_steps (Steps.trans (.one henter) (Steps.trans hcomes (Steps.trans (.one s1) (.one s2)))) ?_
  exact hk3 _ (kp_putObj w3 _ _) ⟨a.tmps, _⟩ ⟨ha.size, ha.defers, ha.get⟩ b hb hk hro cs

/-- A world between. -/
theorem ext_mid {w w1 : World} (hx : Ext w w1) (hs : w1.heap.size = w.heap.size + 2) : ∃ wA, Ext w wA ∧ Ext wA w1 ∧ wA.heap.size = w.heap.size + 1 ∧ wA.heap[w.heap.size]? = w1.heap[w.heap.size]? := by
  refine ⟨{ w1 with heap := w1.heap.pop }, ⟨hx.os, hx.tape, hx.output, by simp; omega, fun k hk hn => ?_⟩, ⟨rfl, rfl, rfl, by simp, fun k hk _ => ?_⟩, by simp; omega, ?_⟩
  · rw [← hx.block k hk hn]
    show w1.heap.pop[k]? = _
    rw [Array.getElem?_pop, if_pos (by omega)]
  · have hk : k < w1.heap.pop.size := hk
    show _ = w1.heap.pop[k]?
    rw [Array.getElem?_pop, if_pos (by simpa using hk)]
  · show w1.heap.pop[w.heap.size]? = _
    rw [Array.getElem?_pop, if_pos (by omega)]
end
end Go.Proofs.YtkgiammeeckfbaaGreat
