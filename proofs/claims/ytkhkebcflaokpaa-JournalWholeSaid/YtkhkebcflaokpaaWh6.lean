/- Texts EvM, EvN, EvO, EvP, EvQ, EvR, EvS, EvT, one behind the other (what the statement JournalWhole does not use is left out). -/
import Derived.Test.YtkhkebcflaokpaaWh5
namespace Go.Proofs.Ytkhkebcflaokpaa
open Go Go.RowKit
set_option linter.all false

def RdR (φ : Ph) : Option Nat → Option Nat → Prop
  | none, none => True
  | some l, some l' => ∃ a N, φ l = some (l', a, N)
  | _, _ => False
theorem RdR.mono {φ φ' : Ph} (hs : Sb φ φ') : ∀ {a b : Option Nat}, RdR φ a b → RdR φ' a b
  | none, none, _ => trivial
  | some _, some _, ⟨x, y, h⟩ => ⟨x, y, hs _ _ h⟩
  | none, some _, h => h.elim
  | some _, none, h => h.elim

/-- What is asked of the surroundings. -/
structure At (P : Program) (G : Nat) (φ : Ph) (h : H) (w : World) (fr : Fr) (E : Tr V fr.d) (ms : List DV) (e : Env) (C : Cx) : Prop where
  rel : Rel G φ h w
  env : EnvR φ fr.d E e
  prog : C.P = P
  fn : C.f = fr.f
  nt : C.n = fr.n
  dk : C.dk = fr.dk
  rd : RdR φ fr.rd C.rd
  mr : MsR φ ms C.ms
  msn : fr.rd.isSome = true → ms = [] ∧ fr.dk = false
  res : fr.rd = none → ∃ fn, P.funcs[fr.f]? = some fn ∧ fn.results.toList = fr.res
theorem At.to {P : Program} {G : Nat} {φ φ' : Ph} {h h' : H} {w w' : World} {fr : Fr} {E E' : Tr V fr.d} {ms : List DV} {e e' : Env} {C : Cx} (a : At P G φ h w fr E ms e C) (p : Post G φ h w φ' h' w') (he : EnvR φ' fr.d E' e') : At P G φ' h' w' fr E' ms e' C :=
  ⟨p.rel, he, a.prog, a.fn, a.nt, a.dk, a.rd.mono p.sb, a.mr.mono p.sb, a.msn, a.res⟩

/-- The end is met. -/
def Fin (G : Nat) (φ : Ph) (h : H) (w : World) (v : V) (h' : H) (R : Value → World → Prop) : Prop := ∀ u w' φ', Post G φ h w φ' h' w' → CV φ' v u → R u w'
theorem Fin.to {G : Nat} {φ φ1 : Ph} {h h1 h' : H} {w w1 : World} {v : V} {R : Value → World → Prop} (f : Fin G φ h w v h' R) (p : Post G φ h w φ1 h1 w1) : Fin G φ1 h1 w1 v h' R := fun u w' φ' q c => f u w' φ' (p.trans q) c

def Sd (P : Program) (G : Nat) (X : Hook P G) (ih : RunT) : Prop := ∀ ops rest k fr E ms h v h', ih ops rest k fr E ms h = .ok v h' → ∀ φ w e (C : Cx), At P G φ h w fr E ms e C → Fin G φ h w v h' C.R →
  (rest = [] → Run C k e w) ∧ (∀ ho : dstsOk C.n ops = true, dstsOk C.n rest = true → RL ⟨C, ops, k, ho⟩ rest e w)

section
variable {P : Program} {G : Nat} {X : Hook P G} {ih : RunT}

theorem bodyOf_spec {f : FuncId} {c : Code} {n d : Nat} {res : List ResultVar} (hb : bodyOf P f = some (c, n, d, res)) : ∃ fn, P.funcs[f]? = some fn ∧ fn.body = some c ∧ fn.ntmps = n ∧ fn.results.toList = res ∧ CF P f := by
  unfold bodyOf at hb
  split at hb <;> try cases hb
  rename_i fn hf
  split at hb <;> try cases hb
  rename_i c' hc
  cases hn : (fn.name == "runtime.NumGoroutine") with
  | true => rw [hn] at hb; cases hb
  | false =>
    rw [hn] at hb
    cases hb
    exact ⟨fn, hf, hc, rfl, rfl, fn, hf, hn, by rw [hc]; rfl⟩

theorem enter_cf {f : FuncId} {args : List V} {h h' : H} {v : V} (he : enterN P ih f args h = .ok v h') : CF P f := by
  unfold enterN at he
  split at he <;> try cases he
  rename_i hb
  obtain ⟨fn, _, _, _, _, h⟩ := bodyOf_spec hb
  exact h
/-- A call. -/
theorem enterN_ok (hS : Sd P G X ih) {f : FuncId} {args : List V} {h h' : H} {v : V} (he : enterN P ih f args h = .ok v h') {φ : Ph} {w : World} {us : List Value} (r : Rel G φ h w) (hc : CVs φ args us) :
    CF P f ∧ Ret P f us w fun u w' => ∃ φ', Post G φ h w φ' h' w' ∧ CV φ' v u := by
  refine ⟨enter_cf he, ?_⟩
  unfold enterN at he
  split at he <;> try cases he
  rename_i c n d res hb
  obtain ⟨fn, hf, hbody, hnt, hres, hCF⟩ := bodyOf_spec hb
  cases hn : Nat.ble args.length n with
  | false => rw [hn] at he; cases he
  | true =>
    rw [hn] at he
    simp only [cond_true, wrK_eq] at he
    refine ret_of_run hf hbody hnt (by rw [hc.len]; exact hn) rfl ?_
    refine (hS _ _ _ _ _ _ _ _ _ he φ w (envOf 0 us) ⟨P, f, _, n, none, [], false⟩ ⟨r, EnvR.args hc, rfl, rfl, rfl, rfl, trivial, trivial, (fun hh => by cases hh), fun _ => ⟨fn, hf, hres⟩⟩ ?_).1 rfl
    exact fun u w' φ' p c => ⟨φ', p, c⟩

theorem enter_ok (hS : Sd P G X ih) {f : FuncId} {args : List V} {h h' : H} {v : V} (he : enterF P G X ih f args h = .ok v h') {φ : Ph} {w : World} {us : List Value} (r : Rel G φ h w) (hc : CVs φ args us) :
    Dn P f us w fun u w' => ∃ φ', Post G φ h w φ' h' w' ∧ CV φ' v u := by
  unfold enterF at he
  split at he
  · rename_i g hg
    split at he
    · rename_i r' hr
      exact X.ok f g hg args h v h' (by rw [hr, he]) φ w us r hc
    · exact .inl (enterN_ok hS he r hc)
  · exact .inl (enterN_ok hS he r hc)

theorem bindV_eq {φ : Ph} {d : Nat} {β : Type} (no : β) : ∀ (ps : List Tmp) (args : List V) (us : List Value) (E : Tr V d) (e : Env) (c : Tr V d → β), EnvR φ d E e → CVs φ args us →
    bindV d E ps args c no = no ∨ ∃ E', bindV d E ps args c no = c E' ∧ EnvR φ d E' (bindE ps us e) ∧ us.length = ps.length
  | [], [], _, E, e, c, he, .nil => .inr ⟨E, rfl, he, rfl⟩
  | p :: ps, v :: vs, _, E, e, c, he, .cons (u := u) (us := us) h1 h2 => by
    have hstep : bindV d E (p :: ps) (v :: vs) c no = trSet d p E v fun E => bindV d E ps vs c no := rfl
    rw [hstep, trSet_eq]
    rcases bindV_eq no ps vs us (trPut d p E v) ((p, u) :: e) c (he.put p h1) h2 with h3 | ⟨E', h3, h4, h5⟩
    · exact .inl h3
    · exact .inr ⟨E', h3, h4, by simp [h5]⟩
  | [], _ :: _, _, _, _, _, _, _ => .inl rfl
  | _ :: _, [], _, _, _, _, _, _ => .inl rfl

/-- A round. -/
theorem round_ok (hS : Sd P G X ih) {l : Nat} {args : List V} {h h' : H} {v : V} (he : roundF P ih l args h = .ok v h') {φ : Ph} {w : World} {us : List Value} {l' a N : Nat} (r : Rel G φ h w) (hl : φ l = some (l', a, N)) (hc : CVs φ args us) :
    RetY P l' us w fun u w' => ∃ φ', Post G φ h w φ' h' w' ∧ CV φ' v u := by
  unfold roundF at he
  split at he <;> try cases he
  rename_i pend f ed E n ps as1 b hb
  cases hps : ps.all (Nat.blt · n) with
  | false => rw [hps] at he; cases he
  | true =>
  rw [hps] at he
  simp only [cond_true] at he
  obtain ⟨q, hq, hbr⟩ := r.blk _ _ hb
  rw [hl] at hq; cases hq
  obtain ⟨e0, hrec, henv⟩ := loop_rec hbr
  rcases bindV_eq (Res.bad 205 f) ps args us E e0 _ henv hc with h1 | ⟨E', h1, h2, h3⟩
  · rw [h1] at he; cases he
  · rw [h1] at he
    refine retY_of_run (n := n) rfl hrec h3 hps ?_
    refine (hS _ _ _ _ _ _ _ _ _ he φ w _ ⟨P, f, _, n, some l', [], false⟩ ⟨r, h2, rfl, rfl, rfl, rfl, ⟨a, N, hl⟩, trivial, fun _ => ⟨rfl, rfl⟩, (fun hh => by cases hh)⟩ ?_).1 rfl
    exact fun u w' φ' p c => ⟨φ', p, c⟩

/-- A deferred call. -/
theorem enterD0_ok (hS : Sd P G X ih) {f : FuncId} {args : List V} {h h' : H} {v : V} (he : enterD0 P ih f args h = .ok v h') {φ : Ph} {w : World} {us : List Value} (r : Rel G φ h w) (hc : CVs φ args us) :
    CF P f ∧ RetD P f us w fun u w' => ∃ φ', Post G φ h w φ' h' w' ∧ CV φ' v u := by
  unfold enterD0 at he
  split at he <;> try cases he
  rename_i c n d res hb
  obtain ⟨fn, hf, hbody, hnt, hres, hCF⟩ := bodyOf_spec hb
  refine ⟨hCF, ?_⟩
  cases hn : Nat.ble args.length n with
  | false => rw [hn] at he; cases he
  | true =>
    rw [hn] at he
    simp only [cond_true, wrK_eq] at he
    refine retD_of_run hf hbody hnt (by rw [hc.len]; exact hn) rfl ?_
    refine (hS _ _ _ _ _ _ _ _ _ he φ w (envOf 0 us) ⟨P, f, _, n, none, [], true⟩ ⟨r, EnvR.args hc, rfl, rfl, rfl, rfl, trivial, trivial, (fun hh => by cases hh), fun _ => ⟨fn, hf, hres⟩⟩ ?_).1 rfl
    exact fun u w' φ' p c => ⟨φ', p, c⟩

theorem enterD_ok (hS : Sd P G X ih) {f : FuncId} {args : List V} {h h' : H} {v : V} (he : enterD P G X ih f args h = .ok v h') {φ : Ph} {w : World} {us : List Value} (r : Rel G φ h w) (hc : CVs φ args us) :
    CF P f ∧ RetD P f us w fun u w' => ∃ φ', Post G φ h w φ' h' w' ∧ CV φ' v u := by
  unfold enterD at he
  split at he
  · rename_i g hg
    exact X.dok _ _ hg _ _ _ _ he _ _ _ r hc
  · exact enterD0_ok hS he r hc

theorem leaveAll_ok (hS : Sd P G X ih) {fn : Func} {tmps : Array Value} {R : Ending → World → Prop} {v : V} {h' : H} (c : H → Res) : ∀ (ms : List DV) (ms' : List Dfr) (h : H) (w : World) (φ : Ph), Rel G φ h w → MsR φ ms ms' → leaveAll P G X ih ms h c = .ok v h' →
    (∀ h1 w1 φ1, c h1 = .ok v h' → Post G φ h w φ1 h1 w1 → ∃ u, (results fn tmps).run P w1 = .ok u w1 ∧ R (.returned u) w1) → LeavesInM Fence.wide 0 P fn tmps R (marks ms') .returning w
  | [], [], h, w, φ, r, _, he, hk => hk h w φ he (Post.refl r)
  | .mk m :: ms, .mk m' :: ms', h, w, φ, r, ⟨⟨a, N, hp⟩, hm⟩, he, hk => by
    have hstep : leaveAll P G X ih (.mk m :: ms) h c = match hGet h m with
      | some .dfr => hSet h m (some .shut) fun h => leaveAll P G X ih ms h c
      | _ => .bad 201 0 := rfl
    rw [hstep] at he
    split at he <;> try cases he
    rename_i hb
    rw [hSet_eq] at he
    obtain ⟨q, hq, hbr⟩ := r.blk _ _ hb
    rw [hp] at hq; cases hq
    have hbr : w.heap[m']? = some (.deferred (some [])) := hbr
    have p1 : Post G φ h w φ ⟨trPut HD m h.t (some .shut), h.next⟩ (w.putObj m' (.deferred none)) :=
      r.updE hb rfl hp (kp_putObj w m' _) (by show m' < _; have := lt_of_heap hbr; simpa using this)
    refine ⟨by simp, .inl ⟨m', _, rfl, run_takeDeferred hbr, ?_⟩⟩
    exact leaveAll_ok hS c ms ms' _ _ φ p1.rel hm he fun h1 w1 φ1 h2 p2 => hk h1 w1 φ1 h2 (p1.trans p2)
  | .call f cap args :: ms, .call f' cap' args' :: ms', h, w, φ, r, ⟨hf, hc1, hc2, hm⟩, he, hk => by
    subst hf
    have hstep : leaveAll P G X ih (.call f cap args :: ms) h c = fL (args ++ cap) fun l => match enterD P G X ih f l h with
      | .ok _ h => leaveAll P G X ih ms h c
      | .bad n a => .bad n a := rfl
    rw [hstep, fL_eq] at he
    split at he <;> try cases he
    rename_i x h2 hen
    obtain ⟨hCF, hRet⟩ := enterD_ok hS hen r (hc2.append hc1)
    refine ⟨by simp, .inr ⟨(fun h => by cases h), .func f, cap'.toArray, f, (args' ++ cap').toArray, rfl, ?_, (fun _ _ => trivial), ?_⟩⟩
    · simp [Dfr.d, invoke, run_callFunc hCF]
    · refine CallsDIn.mono hRet ?_
      rintro x u w1 ⟨rfl, v1, rfl, φ1, p1, -⟩
      exact leaveAll_ok hS c ms ms' _ _ φ1 p1.rel (hm.mono p1.sb) he fun h1 w1 φ1 h2 p2 => hk h1 w1 φ1 h2 (p1.trans p2)
  | [], _ :: _, _, _, _, _, h, _, _ => h.elim
  | .mk _ :: _, [], _, _, _, _, h, _, _ => h.elim
  | .call .. :: _, [], _, _, _, _, h, _, _ => h.elim
  | .mk _ :: _, .call .. :: _, _, _, _, _, h, _, _ => h.elim
  | .call .. :: _, .mk _ :: _, _, _, _, _, h, _, _ => h.elim

/-- A function ends. -/
theorem retF_ok (hS : Sd P G X ih) {fr : Fr} {E : Tr V fr.d} {ms : List DV} {h h' : H} {v : V} (he : retF P G X ih fr E ms h = .ok v h') {φ : Ph} {w : World} {e : Env} {C : Cx} (hA : At P G φ h w fr E ms e C) (hF : Fin G φ h w v h' C.R) (hrd : fr.rd = none) :
    C.rd = none ∧ ∃ fn, C.P.funcs[C.f]? = some fn ∧ (C.dk = true → C.ms = []) ∧ ∀ a, EOk C.n C.ms e a → LeavesInM Fence.wide 0 C.P fn a.tmps (RetX C.R) (marks C.ms) .returning w := by
  have hrd' : C.rd = none := by
    have := hA.rd
    rw [hrd] at this
    cases hc : C.rd with
    | none => rfl
    | some _ => rw [hc] at this; exact this.elim
  obtain ⟨fn, hf, hres⟩ := hA.res hrd
  refine ⟨hrd', fn, by rw [hA.prog, hA.fn]; exact hf, ?_⟩
  unfold retF at he
  cases hb : (fr.dk && !ms.isEmpty) with
  | true => rw [hb] at he; cases he
  | false =>
  rw [hb] at he
  simp only [cond_false] at he
  constructor
  · intro hd
    rw [hA.dk] at hd
    rw [hd] at hb
    have hm : ms = [] := by cases ms with | nil => rfl | cons _ _ => simp at hb
    have := hA.mr
    rw [hm] at this
    cases hc : C.ms with
    | nil => rfl
    | cons _ _ => rw [hc] at this; exact this.elim
  · intro a ha
    rw [hA.prog]
    refine leaveAll_ok hS _ ms C.ms h w φ hA.rel hA.mr he fun h1 w1 φ1 he e4 => ?_
    split at he <;> try cases he
    rename_i vs hvs
    rw [fL_eq] at he
    cases he
    obtain ⟨us, k1, k2⟩ := resV_ok (n := C.n) (ms := C.ms) e4.rel (hA.env.mono e4.sb) hvs
    have k3 := k2 a ha
    rw [← hres] at k3
    exact ⟨_, results_of k3, _, rfl, hF _ _ _ e4 (resOne_cv k1)⟩
theorem leaves_none {fn : Func} {tmps : Array Value} {R : Value → World → Prop} {w : World} (h : LeavesInM Fence.wide 0 P fn tmps (RetX R) (marks []) .returning w) : ∃ v, (results fn tmps).run P w = .ok v w ∧ RetX R (.returned v) w := h
theorem run_leave {C : Cx} {fn : Func} {k : List Item} {e : Env} {w : World} (h1 : C.rd = none) (h2 : C.P.funcs[C.f]? = some fn) (h3 : C.dk = true → C.ms = []) (h4 : ∀ a, EOk C.n C.ms e a → LeavesInM Fence.wide 0 C.P fn a.tmps (RetX C.R) (marks C.ms) .returning w) : Run C (.code .ret :: k) e w ∧ Run C [] e w := by
  cases hd : C.dk with
  | false => exact ⟨run_retL h1 hd h2 h4, run_endL h1 hd h2 h4⟩
  | true =>
    have hm := h3 hd
    have h5 : ∀ a, EOk C.n C.ms e a → ∃ v, (results fn a.tmps).run C.P w = .ok v w ∧ RetX C.R (.returned v) w := fun a ha => by
      have := h4 a ha
      rw [hm] at this
      exact leaves_none this
    exact ⟨run_retD h1 hd hm h2 h5, run_endD h1 hd hm h2 h5⟩

theorem roundEnd_ok {fr : Fr} {E : Tr V fr.d} {ms : List DV} {h h' : H} {v : V} {l : Nat} {jump : Option Code} (he : endRound fr l jump h = .ok v h') {φ : Ph} {w : World} {e : Env} {C : Cx} (hA : At P G φ h w fr E ms e C) (hF : Fin G φ h w v h' C.R) (hrd : fr.rd = some l) :
    ∃ l' Rc f n e0 ps as1 b st pend, C = ⟨C.P, C.f, C.R, C.n, some l', [], false⟩ ∧ Rc = Rec f n e0 ps as1 b l' ∧ Rc st pend w ∧
      ∀ w', Rc (match jump with | none => .ready | some _ => .done) jump w' → Kp (fun k => k = l') w w' → C.R (.bool jump.isNone) w' := by
  have hR := hA.rd
  rw [hrd] at hR
  cases hcr : C.rd with
  | none => rw [hcr] at hR; exact hR.elim
  | some l' =>
  rw [hcr] at hR
  obtain ⟨a, N, hl⟩ := hR
  have hm : ms = [] := (hA.msn (by rw [hrd]; rfl)).1
  have hcd : C.dk = false := hA.dk.trans (hA.msn (by rw [hrd]; rfl)).2
  have hms := hA.mr
  rw [hm] at hms
  have hcm : C.ms = [] := by
    cases hc : C.ms with
    | nil => rfl
    | cons _ _ => rw [hc] at hms; exact hms.elim
  unfold endRound at he
  split at he <;> try cases he
  rename_i st pend f ed E' n ps as1 b hb
  rw [hSet_eq] at he
  cases he
  obtain ⟨q, hq, hbr⟩ := hA.rel.blk _ _ hb
  rw [hl] at hq; cases hq
  obtain ⟨e0, hrec, henv⟩ := loop_rec hbr
  refine ⟨l', _, f, n, e0, ps.toArray, as1, b, st, pend, ?_, rfl, hrec, fun w' hr hk => ?_⟩
  · obtain ⟨a1, a2, a3, a4, a5, a6, a7⟩ := C
    simp only at hcr hcm hcd
    subst hcr; subst hcm; subst hcd; rfl
  · exact hF _ _ φ (hA.rel.updE hb rfl hl hk (rec_loop hr henv)) .bool
theorem leave_ok (hS : Sd P G X ih) {jump : Option Code} {fr : Fr} {E : Tr V fr.d} {ms : List DV} {h h' : H} {v : V} (he : leave P G X ih jump fr E ms h = .ok v h') {φ : Ph} {w : World} {e : Env} {C : Cx} (hA : At P G φ h w fr E ms e C) (hF : Fin G φ h w v h' C.R) {k : List Item}
    (hj : (jump = none ∧ k = []) ∨ (jump = some .ret ∧ ∃ k', k = .code .ret :: k') ∨ (∃ id k', jump = some (.exit id) ∧ k = .code (.exit id) :: k' ∧ exitTo id k' = none)) : Run C k e w := by
  unfold leave at he
  split at he
  · rename_i l hrd
    obtain ⟨l', Rc, f, n, e0, ps, as1, b, st, pend, hC, hRc, hrec, hfin⟩ := roundEnd_ok he hA hF hrd
    rw [hC]
    rcases hj with ⟨rfl, rfl⟩ | ⟨rfl, k', rfl⟩ | ⟨id, k', rfl, rfl, hx⟩
    · exact run_roundEnd hRc hrec fun w' h1 h2 => hfin w' h1 h2
    · exact run_roundRet hRc hrec fun w' h1 h2 => hfin w' h1 h2
    · exact run_roundExit hx hRc hrec fun w' h1 h2 => hfin w' h1 h2
  · rename_i hrd
    split at he <;> try cases he
    · rcases hj with ⟨-, rfl⟩ | ⟨hh, -⟩ | ⟨id, k', hh, -⟩
      · obtain ⟨h1, fn, h2, h3, h4⟩ := retF_ok hS he hA hF hrd
        exact (run_leave (k := []) h1 h2 h3 h4).2
      · cases hh
      · cases hh
    · rcases hj with ⟨hh, -⟩ | ⟨-, k', rfl⟩ | ⟨id, k', hh, -⟩
      · cases hh
      · obtain ⟨h1, fn, h2, h3, h4⟩ := retF_ok hS he hA hF hrd
        exact (run_leave h1 h2 h3 h4).1
      · cases hh

/-! ### One step -/
theorem stepOp_ok (hS : Sd P G X ih) {ops : List Oper} {o : Oper} {rest : List Oper} {k : List Item} {fr : Fr} {E : Tr V fr.d} {ms : List DV} {h h' : H} {v : V} (he : stepOp P G X ih ops o rest k fr E ms h = .ok v h') {φ : Ph} {w : World} {e : Env} {C : Cx}
    (hA : At P G φ h w fr E ms e C) (hF : Fin G φ h w v h' C.R) (ho : dstsOk C.n ops = true) (hr0 : dstsOk C.n (o :: rest) = true) : RL ⟨C, ops, k, ho⟩ (o :: rest) e w := by
  have hr' : (match o.dst with | some d => Nat.blt d C.n | none => true) = true ∧ dstsOk C.n rest = true := by
    have : ((match o.dst with | some d => Nat.blt d C.n | none => true) && dstsOk C.n rest) = true := hr0
    simpa only [Bool.and_eq_true] using this
  obtain ⟨hd, hr⟩ := hr'
  clear hr0
  obtain ⟨dst, op, ty, pos, aft, g⟩ := o
  -- on with the rest
  have on : ∀ {x : V} {h1 : H} {φ1 : Ph} {w1 : World} {u : Value}, dstV fr.d E dst x (fun E => ih ops rest k fr E ms h1) = .ok v h' → Post G φ h w φ1 h1 w1 → CV φ1 x u →
      (∀ i, dst = some i → RL ⟨C, ops, k, ho⟩ rest ((i, u) :: e) w1) ∧ (dst = none → RL ⟨C, ops, k, ho⟩ rest e w1) := fun {x h1 φ1 w1 u} he p hc => by
    rw [dstV_eq] at he
    constructor
    · rintro i rfl
      exact (hS _ _ _ _ _ _ _ _ _ he φ1 w1 _ C (hA.to p ((hA.env.mono p.sb).put i hc)) (hF.to p)).2 ho hr
    · rintro rfl
      exact (hS _ _ _ _ _ _ _ _ _ he φ1 w1 _ C (hA.to p (hA.env.mono p.sb)) (hF.to p)).2 ho hr
  unfold stepOp at he
  simp only at he hd
  split at he <;> try cases he
  · rename_i hw
    have hok := wants_ok (D := ⟨C, ops, k, ho⟩) hA.env hw rfl
    have hk := evOp_ok (P := P) (d := dst) (ty := ty) (pos := pos) (aft := aft) (g := g) (op := op) hA.rel (EnvR.rho hA.rel hA.env)
    split at he <;> try cases he
    · rename_i x h1 hev
      rw [hev] at hk
      obtain ⟨u, w1, φ1, hy, hp, hc⟩ := hk
      rw [← hA.prog] at hy
      obtain ⟨q1, q2⟩ := on he hp hc
      cases dst with
      | none => exact rVal0 hok hy (q2 rfl)
      | some i => exact rVal hok hd hy (q1 i rfl)
    · rename_i h1 hev
      rw [hev] at hk
      obtain ⟨w1, φ1, hz, hp⟩ := hk
      rw [← hA.prog] at hz
      cases dst with
      | some i => cases he
      | none => exact rEff hok hz ((hS _ _ _ _ _ _ _ _ _ he φ1 w1 _ C (hA.to hp (hA.env.mono hp.sb)) (hF.to hp)).2 ho hr)
    · rename_i f args hev
      rw [hev] at hk
      obtain ⟨us, hy, hc, hv⟩ := hk
      split at he <;> try cases he
      rename_i x h1 hen
      rcases enter_ok hS hen hA.rel hc with ⟨hCF, hRet⟩ | ⟨u, w1, hrun, φ1, hp, hc⟩
      · have hy := hy hCF
        rw [← hA.prog] at hy hRet
        cases dst with
        | none => exact rCall0 hok hy hRet fun u w1 ⟨φ1, hp, hc⟩ => (on he hp hc).2 rfl
        | some i => exact rCall hok hd hy hRet fun u w1 ⟨φ1, hp, hc⟩ => (on he hp hc).1 i rfl
      · have hy := hv u w1 hrun
        rw [← hA.prog] at hy
        obtain ⟨q1, q2⟩ := on he hp hc
        cases dst with
        | none => exact rVal0 hok hy (q2 rfl)
        | some i => exact rVal hok hd hy (q1 i rfl)
    · rename_i l args hev
      rw [hev] at hk
      obtain ⟨us, l', a, N, hl, hc, hy⟩ := hk
      split at he <;> try cases he
      rename_i x h1 hen
      have hRet := round_ok hS hen hA.rel hl hc
      rw [← hA.prog] at hy hRet
      cases dst with
      | none => exact rYield0 hok hy hRet fun u w1 ⟨φ1, hp, hc⟩ => (on he hp hc).2 rfl
      | some i => exact rYield hok hd hy hRet fun u w1 ⟨φ1, hp, hc⟩ => (on he hp hc).1 i rfl
    · rename_i f cap args hev
      rw [hev] at hk
      obtain ⟨uc, ua, hc1, hc2, hy⟩ := hk
      rw [← hA.prog] at hy
      split at he <;> try cases he
      rename_i hrd
      have hR := hA.rd
      rw [hrd] at hR
      have hrd' : C.rd = none := by
        cases hc : C.rd with
        | none => rfl
        | some _ => rw [hc] at hR; exact hR.elim
      refine rDefer (D := ⟨C, ops, k, ho⟩) hrd' hok hy ?_
      exact (hS _ _ _ _ _ _ _ _ _ he φ w e { C with ms := .call f uc ua :: C.ms } ⟨hA.rel, hA.env, hA.prog, hA.fn, hA.nt, hA.dk, hA.rd, ⟨rfl, hc1, hc2, hA.mr⟩, (fun hh => by rw [hrd] at hh; cases hh), hA.res⟩ hF).2 ho hr
  · rename_i hw
    have hok := wants_ok (D := ⟨C, ops, k, ho⟩) hA.env hw rfl
    obtain ⟨q1, q2⟩ := on (u := undef) he (Post.refl hA.rel) (.tup .nil)
    cases dst with
    | none => exact rSkip0 hok (q2 rfl)
    | some i => exact rSkip hok hd (q1 i rfl)

/-! ### Loops over functions -/
theorem run_rangeFunc' {f n : Nat} {S : Value → World → Prop} {ps : List Tmp} {assign body : Code} {ms : List Dfr} {fv : Operand} {gf : FuncId} {p q : List Value} {k : List Item} {e : Env} {w : World} (hg : look e fv = some (.func (.func gf) p.toArray q.toArray)) (hf : CF P gf)
    (hcall : ∀ w1, Ext w w1 → w1.heap.size = w.heap.size + 2 → w1.heap[w.heap.size]? = some (.deferred (some [])) → ∀ e1, (∀ i v, fnd e i = some v → fnd e1 i = some v) → Rec f n e1 ps.toArray assign body (w.heap.size + 1) .ready none w1 →
      Ret P gf (p ++ [.func (.yield (w.heap.size + 1)) #[] #[]] ++ q) w1 fun v w2 => ∃ r : Loop, w2.heap[w.heap.size + 1]? = some (.loop r) ∧ r.state ≠ .busy ∧
        ∀ w3, Kp (fun k => k = w.heap.size + 1) w2 w3 → Run ⟨P, f, S, n, none, .mk w.heap.size :: ms, false⟩ ((r.pending.map Item.code).toList ++ k) e w3) :
    Run ⟨P, f, S, n, none, ms, false⟩ (.code (.rangeFunc fv ps.toArray assign body) :: k) e w := by
  intro a ha b hb hk hro cs
  have hev : a.eval fv = .func (.func gf) p.toArray q.toArray := ha.look hg
  have he := run_enterLoop_outer (P := P) (w := w) b.fn a.tmps ps.toArray assign body
  have hro' : b.roundOf = none := hro
  rw [← hro'] at he
  obtain ⟨w1, hw1⟩ : ∃ w1, (w.alloc (.deferred (some []))).alloc (.loop { state := .ready, pending := none, fn := b.fn, tmps := a.tmps, params := ps.toArray, assign, body, defers := w.heap.size }) = w1 := ⟨_, rfl⟩
  have hx1 : Ext w w1 := by rw [← hw1]; exact (ext_alloc w _).trans (ext_alloc _ _)
  have hs1 : w1.heap.size = w.heap.size + 2 := by rw [← hw1]; simp
  have hD : w1.heap[w.heap.size]? = some (.deferred (some [])) := by
    rw [← hw1]
    refine (ext_alloc _ _).block _ (by simp) id |>.trans ?_
    exact World.alloc_heap_new w _
  have hre : Rec f n e ps.toArray assign body (w.heap.size + 1) .ready none w1 := by
    refine ⟨_, by rw [← hw1]; have := World.alloc_heap_new (w.alloc (.deferred (some []))) (.loop { state := .ready, pending := none, fn := b.fn, tmps := a.tmps, params := ps.toArray, assign, body, defers := w.heap.size }); simpa using this, rfl, rfl, hb, rfl, rfl, rfl, ha.size, ha.get⟩
  rw [hw1] at he
  have hres : (resolve a.eval (rangeCall fv (w.heap.size + 1)) 0).run P w1 = .ok { target := .fn (.func gf) q.toArray, args := p.toArray ++ #[.func (.yield (w.heap.size + 1)) #[] #[]] } w1 := by
    have hcv : ∀ v, a.eval (.const v) = v := fun _ => rfl
    generalize a.eval = ρ at hev hcv ⊢
    simp [rangeCall, resolve, hev, hcv, Deferred.ofValue]
  have hinv : (invoke (.fn (.func gf) q.toArray) (p.toArray ++ #[Value.func (.yield (w.heap.size + 1)) #[] #[]])).run P w1 = .ok (.enter gf (p ++ [Value.func (.yield (w.heap.size + 1)) #[] #[]] ++ q).toArray) w1 := by
    simp [invoke, run_callFunc hf]
  have henter := stepR_rangeFunc (P := P) (b := b) (a := a) (k := k) (cs := cs) (w := w) he hres hinv
  have hc := hcall w1 hx1 hs1 hD e (fun _ _ h => h) hre
  obtain ⟨x, w3, fr, ⟨v, hxv, r, r1, r2, hk3⟩, hcomes, hfn, hleave⟩ := hc (b.atR { a with defers := [{ target := .collected w.heap.size, args := #[] }] ++ a.defers } (.inRangeFunc (w.heap.size + 1) :: k) :: cs)
  subst hxv
  have hend := run_endLoop (P := P) r1 r2
  have s1 := step_leave_returned hleave (c := b.atR { a with defers := [{ target := .collected w.heap.size, args := #[] }] ++ a.defers } (.inRangeFunc (w.heap.size + 1) :: k)) (cs := cs)
  rw [finish_atR_inRangeFunc] at s1
  have s2 := stepR_endRangeFunc (P := P) (b := b) (a := { a with defers := [{ target := .collected w.heap.size, args := #[] }] ++ a.defers }) (k := k) (cs := cs) hend
  refine Lands.of_steps (Steps.trans (.one henter) (Steps.trans hcomes (Steps.trans (.one s1) (.one s2)))) ?_
  exact hk3 _ (kp_putObj w3 _ _) ⟨a.tmps, [{ target := .collected w.heap.size, args := #[] }] ++ a.defers⟩ ⟨ha.size, by show [_] ++ a.defers = _; rw [ha.defers]; rfl, ha.get⟩ b hb hk hro cs
theorem run_rangeFuncIn' {f n : Nat} {S : Value → World → Prop} {ps : List Tmp} {assign body : Code} {ms : List Dfr} {l0 : Nat} {fv : Operand} {gf : FuncId} {p q : List Value} {k : List Item} {e : Env} {w : World} {r0 : Loop} (hg : look e fv = some (.func (.func gf) p.toArray q.toArray)) (hf : CF P gf) (hr0 : w.heap[l0]? = some (.loop r0))
    (hcall : ∀ w1, Ext w w1 → w1.heap.size = w.heap.size + 1 → Rec f n e ps.toArray assign body w.heap.size .ready none w1 →
      Ret P gf (p ++ [.func (.yield w.heap.size) #[] #[]] ++ q) w1 fun v w2 => ∃ r : Loop, w2.heap[w.heap.size]? = some (.loop r) ∧ r.state ≠ .busy ∧
        ∀ w3, Kp (fun k => k = w.heap.size) w2 w3 → Run ⟨P, f, S, n, some l0, ms, false⟩ ((r.pending.map Item.code).toList ++ k) e w3) :
    Run ⟨P, f, S, n, some l0, ms, false⟩ (.code (.rangeFunc fv ps.toArray assign body) :: k) e w := by
  intro a ha b hb hk hro cs
  have hev : a.eval fv = .func (.func gf) p.toArray q.toArray := ha.look hg
  have hro' : b.roundOf = some l0 := hro
  have he : (Instr.enterLoop b.fn a.tmps ps.toArray assign body b.roundOf).run P w = .ok (w.heap.size, []) (w.alloc (.loop { state := .ready, pending := none, fn := b.fn, tmps := a.tmps, params := ps.toArray, assign, body, defers := r0.defers })) := by
    rw [hro']
    unfold Instr.enterLoop
    simp only [Sem.run_bind, run_getLoop hr0, run_newObj_alloc, Result.andThen, Sem.run_pure]
  obtain ⟨w1, hw1⟩ : ∃ w1, w.alloc (.loop { state := .ready, pending := none, fn := b.fn, tmps := a.tmps, params := ps.toArray, assign, body, defers := r0.defers }) = w1 := ⟨_, rfl⟩
  have hx1 : Ext w w1 := by rw [← hw1]; exact ext_alloc w _
  have hs1 : w1.heap.size = w.heap.size + 1 := by rw [← hw1]; simp
  have hre : Rec f n e ps.toArray assign body w.heap.size .ready none w1 :=
    ⟨_, by rw [← hw1]; exact World.alloc_heap_new w _, rfl, rfl, hb, rfl, rfl, rfl, ha.size, ha.get⟩
  rw [hw1] at he
  have hres : (resolve a.eval (rangeCall fv w.heap.size) 0).run P w1 = .ok { target := .fn (.func gf) q.toArray, args := p.toArray ++ #[.func (.yield w.heap.size) #[] #[]] } w1 := by
    have hcv : ∀ v, a.eval (.const v) = v := fun _ => rfl
    generalize a.eval = ρ at hev hcv ⊢
    simp [rangeCall, resolve, hev, hcv, Deferred.ofValue]
  have hinv : (invoke (.fn (.func gf) q.toArray) (p.toArray ++ #[Value.func (.yield w.heap.size) #[] #[]])).run P w1 = .ok (.enter gf (p ++ [Value.func (.yield w.heap.size) #[] #[]] ++ q).toArray) w1 := by
    simp [invoke, run_callFunc hf]
  have henter := stepR_rangeFunc (P := P) (b := b) (a := a) (k := k) (cs := cs) (w := w) he hres hinv
  have hc := hcall w1 hx1 hs1 hre
  obtain ⟨x, w3, fr, ⟨v, hxv, r, r1, r2, hk3⟩, hcomes, hfn, hleave⟩ := hc (b.atR { a with defers := [] ++ a.defers } (.inRangeFunc w.heap.size :: k) :: cs)
  subst hxv
  have hend := run_endLoop (P := P) r1 r2
  have s1 := step_leave_returned hleave (c := b.atR { a with defers := [] ++ a.defers } (.inRangeFunc w.heap.size :: k)) (cs := cs)
  rw [finish_atR_inRangeFunc] at s1
  have s2 := stepR_endRangeFunc (P := P) (b := b) (a := { a with defers := [] ++ a.defers }) (k := k) (cs := cs) hend
  refine Lands.of_steps (Steps.trans (.one henter) (Steps.trans hcomes (Steps.trans (.one s1) (.one s2)))) ?_
  exact hk3 _ (kp_putObj w3 _ _) ⟨a.tmps, _⟩ ⟨ha.size, ha.defers, ha.get⟩ b hb hk hro cs

/-- A world between. -/
theorem ext_mid {w w1 : World} (hx : Ext w w1) (hs : w1.heap.size = w.heap.size + 2) : ∃ wA, Ext w wA ∧ Ext wA w1 ∧ wA.heap.size = w.heap.size + 1 ∧ wA.heap[w.heap.size]? = w1.heap[w.heap.size]? := by
  refine ⟨{ w1 with heap := w1.heap.pop }, ⟨hx.os, hx.tape, hx.output, by simp; omega, fun k hk hn => ?_⟩, ⟨rfl, rfl, rfl, by simp, fun k hk _ => ?_⟩, by simp; omega, ?_⟩
  · rw [← hx.block k hk hn]
    show w1.heap.pop[k]? = _
    rw [Array.getElem?_pop, if_pos (by omega)]
  · have hk : k < w1.heap.pop.size := hk
    show _ = w1.heap.pop[k]?
    rw [Array.getElem?_pop, if_pos (by simpa using hk)]
  · show w1.heap.pop[w.heap.size]? = _
    rw [Array.getElem?_pop, if_pos (by omega)]
end
end Go.Proofs.Ytkhkebcflaokpaa
namespace Go.Proofs.Ytkhkebcflaokpaa
open Go Go.RowKit
set_option linter.all false

section
variable {P : Program} {G : Nat} {X : Hook P G} {ih : RunT}

theorem run_scope {C : Cx} {c : Code} {k : List Item} {e : Env} {w : World} (h : Run C (.code c :: .inScope c :: k) e w) : Run C (.code (.scope c) :: k) e w := fun a ha => RunA.step (fun _ _ => step_lone_go (by simp [stepG, stepG.exec, Frame.atR])) (h a ha)
theorem run_inScope {C : Cx} {c : Code} {k : List Item} {e : Env} {w : World} (h : Run C k e w) : Run C (.inScope c :: k) e w := fun a ha => RunA.step (fun _ _ => step_lone_go (by simp [stepG, stepG.exec, Frame.atR])) (h a ha)
theorem run_loop1 {C : Cx} {c : Code} {k : List Item} {e : Env} {w : World} (h : Run C (.code c :: .inLoop c :: k) e w) : Run C (.code (.loop c) :: k) e w := fun a ha => RunA.step (fun _ _ => stepR_loop) (h a ha)

theorem rangeF_ok (hS : Sd P G X ih) {fv : Operand} {ps : List Tmp} {as1 b : Code} {k : List Item} {fr : Fr} {E : Tr V fr.d} {ms ms' : List DV} {h0 h h' : H} {v : V} (he : rangeF P G X ih fv ps as1 b k fr E ms' h = .ok v h')
    {φ : Ph} {w : World} {e : Env} {C : Cx} (hA : At P G φ h0 w fr E ms e C) (hF : Fin G φ h0 w v h' C.R) (hcase : (fr.rd = none ∧ h = ⟨trPut HD h0.next h0.t (some .dfr), h0.next + 1⟩ ∧ ms' = .mk h0.next :: ms ∧ fr.dk = false) ∨ (∃ l st pend f ed E' n ps a b, fr.rd = some l ∧ h = h0 ∧ ms' = ms ∧ hGet h0 l = some (.loop st pend f ed E' n ps a b) ∧ fr.dk = false)) :
    Run C (.code (.rangeFunc fv ps.toArray as1 b) :: k) e w := by
  unfold rangeF at he
  split at he <;> try cases he
  rename_i gf p q hfv
  rw [hNew_eq, fL_eq] at he
  split at he <;> try cases he
  rename_i v2 h2 hen
  have hrho := EnvR.rho (G := G) hA.rel hA.env
  obtain ⟨u, hg, hcu⟩ := hrho fv (by rw [hfv]; simp)
  rw [hfv] at hcu
  cases hcu with
  | @fn _ _ _ up uq c1 c2 =>
  split at he <;> try cases he
  rename_i st2 pend2 f2 ed2 E2 n2 ps2 a2 b2 hnb hl2
  rw [hSet_eq] at he
  rcases hcase with ⟨hrd, rfl, rfl, hdk⟩ | ⟨l0, st0, pend0, f0, ed0, E0, n0, ps0, a0, b0, hrd, rfl, rfl, hl0, hdk⟩
  · have hrd' : C.rd = none := by
      have := hA.rd
      rw [hrd] at this
      cases hc : C.rd with
      | none => rfl
      | some _ => rw [hc] at this; exact this.elim
    obtain ⟨CP, Cf, CR, Cn, Crd, Cms, Cdk⟩ := C
    simp only at hrd'
    subst hrd'
    have hpd : Cdk = false := hA.dk.trans hdk
    subst hpd
    have hpP : CP = P := hA.prog
    subst hpP
    have hpf : Cf = fr.f := hA.fn
    subst hpf
    have hpn : Cn = fr.n := hA.nt
    subst hpn
    have hCF : CF CP gf := enter_cf hen
    refine run_rangeFunc' hg hCF fun w1 hx hs hD e1 he1 hrec => ?_
    obtain ⟨wA, xA, xB, sA, dA⟩ := ext_mid hx hs
    have p1 : Post G φ h0 w _ _ wA := hA.rel.new (x := .dfr) (b' := w.heap.size) (a := 0) (N := 0) xA (Nat.le_refl _) (by show wA.heap[w.heap.size]? = _; rw [dA]; exact hD)
    have hrec' : Rec fr.f fr.n e ps.toArray as1 b (w.heap.size + 1) .ready none w1 := by
      obtain ⟨r, r0, r1, r2, r3, r4, r5, r6, r7, r8⟩ := hrec
      exact ⟨r, r0, r1, r2, r3, r4, r5, r6, r7, fun i v hv => r8 i v (he1 i v hv)⟩
    have p2 := p1.rel.new (x := .loop .ready none fr.f fr.d E fr.n ps as1 b) (b' := w.heap.size + 1) (a := 0) (N := 0) xB (by omega)
      (rec_loop hrec' ((hA.env.mono p1.sb).mono (addPh_sb p1.rel _)))
    have p12 := p1.trans p2
    have hl1 : _ = some (w.heap.size + 1, 0, 0) := addPh_same (addPh φ h0.next (w.heap.size, 0, 0)) (h0.next + 1) (w.heap.size + 1, 0, 0)
    obtain ⟨-, hRet⟩ := enterN_ok hS hen p12.rel (((c1.mono p12.sb).append (.cons (.yld hl1) .nil)).append (c2.mono p12.sb))
    refine hRet.mono fun u2 w2 ⟨φ2, p3, c3⟩ => ?_
    obtain ⟨q2, hq2, hbr2⟩ := p3.rel.blk _ _ hl2
    rw [p3.sb _ _ hl1] at hq2
    cases hq2
    obtain ⟨r, r0, r1, r2, -⟩ := hbr2
    refine ⟨r, r0, by rw [r1]; exact hnb, fun w3 hk3 => ?_⟩
    have p4 := p3.rel.delw hl2 rfl (p3.sb _ _ hl1) hk3
    have pp := (p12.trans p3).trans p4
    rw [r2]
    refine (hS _ _ _ _ _ _ _ _ _ he φ2 w3 e ⟨CP, fr.f, CR, fr.n, none, .mk w.heap.size :: Cms, false⟩ ⟨pp.rel, hA.env.mono pp.sb, rfl, rfl, rfl, hdk.symm, by rw [hrd]; trivial, ⟨⟨0, 0, (p2.sb.trans (p3.sb.trans p4.sb)) _ _ (addPh_same _ _ _)⟩, hA.mr.mono pp.sb⟩, (fun hh => by rw [hrd] at hh; cases hh), hA.res⟩ (hF.to pp)).1 rfl
  · have hR := hA.rd
    rw [hrd] at hR
    obtain ⟨CP, Cf, CR, Cn, Crd, Cms, Cdk⟩ := C
    cases Crd with
    | none => exact hR.elim
    | some l' =>
    obtain ⟨aa, NN, hll⟩ := hR
    have hpd : Cdk = false := hA.dk.trans hdk
    subst hpd
    have hpP : CP = P := hA.prog
    subst hpP
    have hpf : Cf = fr.f := hA.fn
    subst hpf
    have hpn : Cn = fr.n := hA.nt
    subst hpn
    have hCF : CF CP gf := enter_cf hen
    obtain ⟨q0, hq0, hbr0⟩ := hA.rel.blk _ _ hl0
    rw [hll] at hq0; cases hq0
    obtain ⟨r0', hr0', -⟩ := hbr0
    refine run_rangeFuncIn' hg hCF hr0' fun w1 hx hs hrec => ?_
    have p12 := hA.rel.new (x := .loop .ready none fr.f fr.d E fr.n ps as1 b) (b' := w.heap.size) (a := 0) (N := 0) hx (Nat.le_refl _) (rec_loop hrec (hA.env.mono (addPh_sb hA.rel _)))
    have hl1 : _ = some (w.heap.size, 0, 0) := addPh_same φ h.next (w.heap.size, 0, 0)
    obtain ⟨-, hRet⟩ := enterN_ok hS hen p12.rel (((c1.mono p12.sb).append (.cons (.yld hl1) .nil)).append (c2.mono p12.sb))
    refine hRet.mono fun u2 w2 ⟨φ2, p3, c3⟩ => ?_
    obtain ⟨q2, hq2, hbr2⟩ := p3.rel.blk _ _ hl2
    rw [p3.sb _ _ hl1] at hq2
    cases hq2
    obtain ⟨r, r0, r1, r2, -⟩ := hbr2
    refine ⟨r, r0, by rw [r1]; exact hnb, fun w3 hk3 => ?_⟩
    have p4 := p3.rel.delw hl2 rfl (p3.sb _ _ hl1) hk3
    have pp := (p12.trans p3).trans p4
    rw [r2]
    refine (hS _ _ _ _ _ _ _ _ _ he φ2 w3 e ⟨CP, fr.f, CR, fr.n, some l', Cms, false⟩ (hA.to pp (hA.env.mono pp.sb)) (hF.to pp)).1 rfl

/-- Regions that draw their order are right. -/
def Dr (P : Program) (G : Nat) (X : Hook P G) (ih : RunT) : Prop := ∀ id ops k fr E ms h v h', drawn P G X ih ops k fr E ms h = .ok v h' → ∀ φ w e (C : Cx), At P G φ h w fr E ms e C → Fin G φ h w v h' C.R → Run C (.code (.region id ops.toArray true) :: k) e w

theorem stepC_ok (hS : Sd P G X ih) (hDr : Dr P G X ih) {c : Code} {k : List Item} {fr : Fr} {E : Tr V fr.d} {ms : List DV} {h h' : H} {v : V} (he : stepC P G X ih c k fr E ms h = .ok v h') {φ : Ph} {w : World} {e : Env} {C : Cx}
    (hA : At P G φ h w fr E ms e C) (hF : Fin G φ h w v h' C.R) : Run C (.code c :: k) e w := by
  have on : ∀ {k' : List Item}, ih [] [] k' fr E ms h = .ok v h' → Run C k' e w := fun {k'} he => (hS _ _ _ _ _ _ _ _ _ he φ w e C hA hF).1 rfl
  unfold stepC at he
  split at he
  · exact run_skip (on he)
  · exact run_label (on he)
  · rename_i id ops
    cases ho : dstsOk fr.n ops.toList with
    | false => rw [ho] at he; cases he
    | true =>
      rw [ho] at he
      have ho' : dstsOk C.n ops.toList = true := by rw [hA.nt]; exact ho
      have := run_reg (id := id) ho' ((hS _ _ _ _ _ _ _ _ _ he φ w e C hA hF).2 ho' ho')
      rwa [Array.toArray_toList] at this
  · rename_i id ops
    have := hDr id _ _ _ _ _ _ _ _ he φ w e C hA hF
    rwa [Array.toArray_toList] at this
  · exact run_seq (on he)
  · rename_i c a b
    split at he <;> try cases he
    · rename_i hc
      obtain ⟨u, h1, h2⟩ := EnvR.rho (G := G) hA.rel hA.env c (by rw [hc]; simp)
      rw [hc] at h2; cases h2
      exact run_true h1 (on he)
    · rename_i hc
      obtain ⟨u, h1, h2⟩ := EnvR.rho (G := G) hA.rel hA.env c (by rw [hc]; simp)
      rw [hc] at h2; cases h2
      exact run_false h1 (on he)
  · exact run_block (on he)
  · exact run_loop1 (on he)
  · rename_i id
    split at he
    · rename_i k' hk
      exact run_exit hk (on he)
    · rename_i hk
      exact leave_ok hS he hA hF (.inr (.inr ⟨id, k, rfl, rfl, hk⟩))
  · rename_i l
    split at he <;> try cases he
    rename_i k' hk
    exact run_goto hk (on he)
  · exact run_scope (on he)
  · exact leave_ok hS he hA hF (.inr (.inl ⟨rfl, k, rfl⟩))
  · rename_i fv ps a b
    split at he
    · rename_i hrd
      cases hdk : fr.dk with
      | true => rw [hdk] at he; cases he
      | false =>
      rw [hdk] at he
      simp only [cond_false] at he
      rw [hNew_eq] at he
      have := rangeF_ok hS he hA hF (.inl ⟨hrd, rfl, rfl, hdk⟩)
      rwa [Array.toArray_toList] at this
    · rename_i l hrd
      split at he <;> try cases he
      rename_i hl
      have := rangeF_ok hS he hA hF (.inr ⟨l, _, _, _, _, _, _, _, _, _, hrd, rfl, rfl, hl, (hA.msn (by rw [hrd]; rfl)).2⟩)
      rwa [Array.toArray_toList] at this
  · cases he

theorem stepI_ok (hS : Sd P G X ih) (hDr : Dr P G X ih) {k : List Item} {fr : Fr} {E : Tr V fr.d} {ms : List DV} {h h' : H} {v : V} (he : stepI P G X ih k fr E ms h = .ok v h') {φ : Ph} {w : World} {e : Env} {C : Cx}
    (hA : At P G φ h w fr E ms e C) (hF : Fin G φ h w v h' C.R) : Run C k e w := by
  have on : ∀ {k' : List Item}, ih [] [] k' fr E ms h = .ok v h' → Run C k' e w := fun {k'} he => (hS _ _ _ _ _ _ _ _ _ he φ w e C hA hF).1 rfl
  unfold stepI at he
  split at he
  · exact leave_ok hS he hA hF (.inl ⟨rfl, rfl⟩)
  · exact stepC_ok hS hDr he hA hF
  · exact run_inBlock (on he)
  · exact run_inScope (on he)
  · exact run_inLoop (on he)
  · split at he <;> try cases he
    rename_i l hrd
    split at he <;> try cases he
    rename_i pend f ed E' n ps a b hl
    rw [hSet_eq] at he
    have hR := hA.rd
    rw [hrd] at hR
    cases hcr : C.rd with
    | none => rw [hcr] at hR; exact hR.elim
    | some l' =>
    rw [hcr] at hR
    obtain ⟨aa, NN, hll⟩ := hR
    obtain ⟨q, hq, hbr⟩ := hA.rel.blk _ _ hl
    rw [hll] at hq; cases hq
    obtain ⟨e0, hrec, henv⟩ := loop_rec hbr
    refine run_beginRound hcr rfl hrec fun w' hr hk => ?_
    have p := hA.rel.updE hl rfl hll hk (rec_loop hr henv)
    exact (hS _ _ _ _ _ _ _ _ _ he φ w' e C (hA.to p hA.env) (hF.to p)).1 rfl
  · cases he

theorem run_succ (n : Nat) (ops rest : List Oper) (k : List Item) (fr : Fr) (E : Tr V fr.d) (ms : List DV) (h : H) : run P G X (n + 1) ops rest k fr E ms h = match rest with
      | o :: rest => stepOp P G X (run P G X n) ops o rest k fr E ms h
      | [] => stepI P G X (run P G X n) k fr E ms h := by
  cases rest with
  | nil => exact stepIF_eq ..
  | cons o rest => exact stepOpF_eq ..
theorem run_ok (hDr : ∀ ih, Sd P G X ih → Dr P G X ih) : ∀ n, Sd P G X (run P G X n)
  | 0 => fun ops rest k fr E ms h v h' he => by cases he
  | n + 1 => fun ops rest k fr E ms h v h' he φ w e C hA hF => by
    have hS := run_ok hDr n
    rw [run_succ] at he
    cases rest with
    | nil =>
      have hr := stepI_ok hS (hDr _ hS) he hA hF
      exact ⟨fun _ => hr, fun ho _ => rEnd hr⟩
    | cons o rest => exact ⟨fun hh => (by cases hh), fun ho hr => stepOp_ok hS he hA hF ho hr⟩
end
end Go.Proofs.Ytkhkebcflaokpaa
namespace Go.Proofs.Ytkhkebcflaokpaa
open Go Go.RowKit
set_option linter.all false

section
variable {P : Program} {G : Nat} {φ : Ph} {h : H} {w : World} {e : Env} {d : Option Nat} {ty t t' : TypeId} {pos : String} {aft : Array Edge} {g : Option (Nat × Bool)} {x y : Operand} {v v1 v2 : V} {u u1 u2 : Value} {ρ : Operand → V}

theorem blt_q {b : Builtin} {ts : List TypeId} {l : List V} {us : List Value} {args : Array Operand} (r : Rel G φ h w) (hl : looks e args.toList = some us) (hc : CVs φ l us) (hb : rdB b = true) :
    QOk P φ h w e ⟨d, .call ⟨.builtin b, args, ts.toArray⟩, ty, pos, aft, g⟩ (blt P h b ts l) := by
  have key : ∀ {s : Sem Value} {rr : R}, (∀ consts, builtin b ts.toArray ty consts us.toArray = (do pure (.value (← s)))) → QB P φ h w s rr → QOk P φ h w e ⟨d, .call ⟨.builtin b, args, ts.toArray⟩, ty, pos, aft, g⟩ rr := fun {s rr} hb hk => by
    cases rr with
    | v x h' =>
      obtain ⟨rfl, u, h1, h3⟩ := hk
      refine ⟨rfl, u, fun ρ hρ => ?_, h3⟩
      have hm : args.map ρ = us.toArray := by
        apply Array.toList_inj.1
        simpa using looks_map hρ _ _ hl
      simp only [execOp, resolve, hm, Sem.run_bind, Sem.run_pure, Result.andThen_ok, invoke, hb, h1]
    | bad n => exact trivial
    | eff _ => exact hk.elim
    | call _ _ => exact hk.elim
    | yld _ _ => exact hk.elim
    | dfr _ _ _ => exact hk.elim
  unfold blt
  split <;> try exact trivial
  · split <;> try exact trivial
    cases hc with
    | cons h1 hc =>
    cases hc
    exact key (fun _ => rfl) (lenV_ok r h1)
  · split <;> try exact trivial
    cases hc with
    | cons h1 hc =>
    cases hc
    exact key (fun _ => rfl) (capV_ok r h1)
  · cases hb
  · cases hb
  · exact key (fun _ => rfl) (mm_ok (ts := ts.toArray) (ty := ty) true hc)
  · exact key (fun _ => rfl) (mm_ok (ts := ts.toArray) (ty := ty) false hc)
  · cases hb
  · cases hb
  · cases hb
  · cases hb

theorem convB_q (r : Rel G φ h w) (hne : ∀ el, P.underlying t' ≠ some (.slice el)) (hx : Kn φ e x v) : QOk P φ h w e ⟨d, .convert t t' x, ty, pos, aft, g⟩ (convB P h t t' v) := by
  unfold convB
  split
  · rename_i n s
    split
    · rename_i el h1 h2
      exact (hne el h2).elim
    · exact conv_q r hne hx
  · rename_i b o len kc es op
    split
    · rename_i n s ty' st hb
      split
      · rename_i el h1 h2
        split
        · rename_i h3
          refine cond_q' fun hc => ?_
          have hc' := hc
          simp only [Bool.and_eq_true] at hc'
          have h5 : o + len ≤ n := Nat.le_of_ble_eq_true hc'.2
          have q := conv_q (P := P) (t := t) (t' := t') (d := d) (ty := ty) (pos := pos) (aft := aft) (g := g) (r.heq (exH_eq h).symm) hne hx
          unfold conv at q
          simp only [h1, h2, h3, exH_byt hb, hc, cond_true, rdK_eq, byL_rd (exT_get n s) o len h5, packK_of _ _ _ _ (byS_lt s o len)] at q
          obtain ⟨-, u, k1, k2⟩ := q
          rw [fN_eq]
          exact QOk.pure k1 k2
        · exact trivial
      · exact trivial
    · exact conv_q r hne hx
  · exact conv_q r hne hx
theorem evOp_q {op : Op} (r : Rel G φ h w) (hρ : RhoR φ ρ e) (hop : rdOp P op = true) : QOk P φ h w e ⟨d, op, ty, pos, aft, g⟩ (evOp P ρ op h) := by
  cases op with
  | move x => exact rV_q fun hv => by obtain ⟨u, hx, hc⟩ := hρ x hv; exact ⟨u, ymv hx, hc⟩
  | assign x => exact rV_q fun hv => by obtain ⟨u, hx, hc⟩ := hρ x hv; exact ⟨u, yas hx, hc⟩
  | pick c a b =>
    unfold evOp
    simp only
    split <;> try exact trivial
    · rename_i hcv
      obtain ⟨uc, hx, hc⟩ := hρ c (by rw [hcv]; simp)
      rw [hcv] at hc; cases hc
      exact rV_q fun hv => by obtain ⟨u, hx2, hc2⟩ := hρ a hv; exact ⟨u, ypT hx hx2, hc2⟩
    · rename_i hcv
      obtain ⟨uc, hx, hc⟩ := hρ c (by rw [hcv]; simp)
      rw [hcv] at hc; cases hc
      exact rV_q fun hv => by obtain ⟨u, hx2, hc2⟩ := hρ b hv; exact ⟨u, ypF hx hx2, hc2⟩
  | build t ps =>
    unfold evOp
    simp only
    rcases partsK_eq ρ ps.toList (buildV P h t) (.bad 142) with h1 | ⟨h1, h2⟩
    · rw [h1]; exact trivial
    · rw [h2]
      obtain ⟨us, hp, hpr⟩ := lookp_of hρ h1
      have := buildV_ok (P := P) (d := d) (ty := ty) (pos := pos) (aft := aft) (g := g) (t := t) r (fun v hv => by
        simp only [List.map_map, List.mem_map] at hv
        obtain ⟨p, hp, rfl⟩ := hv
        exact h1 p hp) hp hpr
      rwa [Array.toArray_toList] at this
  | load t a => exact loadB_ok r (hρ _)
  | nilCheck x =>
    unfold evOp
    simp only
    split <;> try exact trivial
    · rename_i nm y hxv
      obtain ⟨u, hx, hc⟩ := hρ x (by rw [hxv]; simp)
      rw [hxv] at hc
      cases hc with
      | @mth _ _ u' hc =>
      exact mthV_q hx hc
    rename_i hnn hnm
    refine rV_q fun hv => ?_
    obtain ⟨u, hx, hc⟩ := hρ x hv
    refine ⟨u, ?_, hc⟩
    generalize ρ x = v at hc hnn hnm hv
    cases hc with
    | und => exact absurd rfl hv
    | nptr => exact absurd rfl (hnn _)
    | nsl => exact absurd rfl (hnn _)
    | nmap => exact absurd rfl (hnn _)
    | nfn => exact absurd rfl (hnn _)
    | nifc => exact absurd rfl (hnn _)
    | mth _ => exact absurd rfl (hnm _ _)
    | _ => exact fun ρ hρ => by simp [execOp, hρ _ _ hx]
  | binOp op t x y t' => exact bin_ok r (hρ _) (hρ _)
  | unOp op t x => exact un_ok r (hρ _)
  | convert s t x =>
    refine convB_q r (fun el he => ?_) (hρ _)
    have : rdOp P (.convert s t x) = (match P.underlying t with | some (.slice _) => false | _ => true) := rfl
    rw [this, he] at hop
    cases hop
  | makeInterface t x => exact mi_ok r (hρ _)
  | makeFunc fn a b =>
    cases fn with
    | func f =>
      unfold evOp
      simp only
      rcases knownK_eq ρ a.toList (fun p => knownK ρ b.toList (fun q => R.v (.fn f p q) h) (.bad 142)) (.bad 142) with h1 | ⟨h1, h2⟩
      · rw [h1]; exact trivial
      · rw [h2]
        rcases knownK_eq ρ b.toList (fun q => R.v (.fn f (a.toList.map ρ) q) h) (.bad 142) with h3 | ⟨h3, h4⟩
        · rw [h3]; exact trivial
        · rw [h4]
          obtain ⟨us, hl, hc⟩ := looks_of hρ h1
          obtain ⟨us', hl', hc'⟩ := looks_of hρ h3
          have := ymf (P := P) (d := d) (ty := ty) (pos := pos) (aft := aft) (g := g) (w := w) (f := f) hl hl'
          rw [Array.toArray_toList, Array.toArray_toList] at this
          exact QOk.pure this (.fn hc hc')
    | method nm =>
      unfold evOp
      simp only
      rcases knownK_eq ρ a.toList (fun p => mkM h nm p b.toList) (.bad 142) with h1 | ⟨h1, h2⟩
      · rw [h1]; exact trivial
      · rw [h2]
        obtain ⟨us, hl, hc⟩ := looks_of hρ h1
        exact mkM_q hl hc
    | _ => exact trivial
  | slice t x lo hi mx => exact slV_ok r hρ
  | fieldAddr t x i => exact fldAddr_ok r (hρ _)
  | field t x i => exact fldV_ok r (hρ _)
  | indexAddr t x i => exact ixAddr_ok r (hρ _) (hρ _)
  | index t x i => exact ixV_ok r (hρ _) (hρ _)
  | lookup t x k ok => exact lkW_ok r (hρ _) (hρ _)
  | typeAssert x t t' ok => exact ta_ok r (hρ _)
  | extract x i =>
    unfold evOp
    simp only
    split <;> try exact trivial
    rename_i l hl
    obtain ⟨u, hx, hc⟩ := hρ x (by rw [hl]; simp)
    rw [hl] at hc
    cases hc with
    | @tup _ us hc =>
    split <;> try exact trivial
    rename_i v hv
    obtain ⟨u, e1, e2⟩ := hc.get hv
    exact rV_q fun _ => ⟨u, yex hx (by simpa using e1), e2⟩
  | call c =>
    obtain ⟨cal, args, ts⟩ := c
    cases cal with
    | builtin b =>
      have hb : rdB b = true := hop
      unfold evOp evCall
      simp only
      rcases knownK_eq ρ args.toList (fun l => blt P h b ts.toList l) (.bad 142) with h1 | ⟨h1, h2⟩
      · rw [h1]; exact trivial
      · rw [h2]
        obtain ⟨us, hl, hc⟩ := looks_of hρ h1
        have := blt_q (P := P) (d := d) (ty := ty) (pos := pos) (aft := aft) (g := g) (b := b) (ts := ts.toList) r hl hc hb
        rwa [Array.toArray_toList] at this
    | value f => cases hop
    | invoke f n => cases hop
  | _ => cases hop

theorem alOp_ok {op : Op} (hρ : RhoR φ ρ e) : NwOk P φ w e ⟨d, op, ty, pos, aft, g⟩ (alOp P ρ op) := by
  cases op with
  | alloc t => exact allocN_ok
  | box t x => exact boxN_ok (hρ _)
  | buildSlice t n ps =>
    unfold alOp
    simp only
    rcases partsK_eq ρ ps.toList (buildSlB P t n) none with h1 | ⟨h1, h2⟩
    · rw [h1]; exact trivial
    · rw [h2]
      obtain ⟨us, hp, hpr⟩ := lookp_of hρ h1
      have := buildSlB_ok (pu := us) <| buildSlN_ok (P := P) (w := w) (d := d) (ty := ty) (pos := pos) (aft := aft) (g := g) (t := t) (n := n) (fun v hv => by
        simp only [List.map_map, List.mem_map] at hv
        obtain ⟨p, hp, rfl⟩ := hv
        exact h1 p hp) hp hpr
      rwa [Array.toArray_toList] at this
  | makeMap t r =>
    cases r with
    | none => exact makeMap_ok
    | some _ => exact trivial
  | makeSlice t l c => exact makeSlB_ok (hρ _) (hρ _)
  | _ => exact trivial

/-! ### What an operation looks at -/
theorem knownK_congr {β : Type} {ρ ρ' : Operand → V} {l : List Operand} (h : ∀ x ∈ l, ρ x = ρ' x) (c : List V → β) (no : β) : knownK ρ l c no = knownK ρ' l c no := by
  induction l generalizing c with
  | nil => rfl
  | cons x l ih =>
    show (match ρ x with | .und => no | v => fV v fun v => knownK ρ l (fun r => c (v :: r)) no) = (match ρ' x with | .und => no | v => fV v fun v => knownK ρ' l (fun r => c (v :: r)) no)
    rw [h x (List.mem_cons_self ..)]
    split
    · rfl
    · rw [fV_eq, fV_eq]; exact ih (fun y hy => h y (List.mem_cons_of_mem _ hy)) _
theorem partsK_congr {β : Type} {ρ ρ' : Operand → V} {l : List (Nat × Operand)} (h : ∀ p ∈ l, ρ p.2 = ρ' p.2) (c : List (Nat × V) → β) (no : β) : partsK ρ l c no = partsK ρ' l c no := by
  induction l generalizing c with
  | nil => rfl
  | cons x l ih =>
    show (match ρ x.2 with | .und => no | v => fV v fun v => partsK ρ l (fun r => c ((x.1, v) :: r)) no) = (match ρ' x.2 with | .und => no | v => fV v fun v => partsK ρ' l (fun r => c ((x.1, v) :: r)) no)
    rw [h x (List.mem_cons_self ..)]
    split
    · rfl
    · rw [fV_eq, fV_eq]; exact ih (fun y hy => h y (List.mem_cons_of_mem _ hy)) _
theorem evOp_congr {ρ ρ' : Operand → V} {op : Op} (h' : ∀ x ∈ op.operands, ρ x = ρ' x) (h : H) : evOp P ρ op h = evOp P ρ' op h := by
  cases op with
  | call c =>
    obtain ⟨cal, args, ts⟩ := c
    cases cal with
    | value f =>
      have h1 : ρ f = ρ' f := h' f (by simp [Op.operands, Call.operands])
      have h2 : ∀ x ∈ args.toList, ρ x = ρ' x := fun x hx => h' x (by simp [Op.operands, Call.operands]; exact .inr (by simpa using hx))
      unfold evOp evCall
      simp only [h1]
      exact knownK_congr h2 _ _
    | builtin b =>
      have h2 : ∀ x ∈ args.toList, ρ x = ρ' x := fun x hx => h' x (by simp [Op.operands, Call.operands]; simpa using hx)
      unfold evOp evCall
      simp only
      exact knownK_congr h2 _ _
    | invoke f n =>
      have h1 : ρ f = ρ' f := h' f (by simp [Op.operands, Call.operands])
      have h2 : ∀ x ∈ args.toList, ρ x = ρ' x := fun x hx => h' x (by simp [Op.operands, Call.operands]; exact .inr (by simpa using hx))
      unfold evOp evCall
      simp only [h1]
      exact knownK_congr h2 _ _
  | defer c =>
    obtain ⟨cal, args, ts⟩ := c
    cases cal with
    | value f =>
      have h1 : ρ f = ρ' f := h' f (by simp [Op.operands, Call.operands])
      have h2 : ∀ x ∈ args.toList, ρ x = ρ' x := fun x hx => h' x (by simp [Op.operands, Call.operands]; exact .inr (by simpa using hx))
      unfold evOp evDefer
      simp only [h1]
      exact knownK_congr h2 _ _
    | _ => rfl
  | build t ps =>
    have h2 : ∀ p ∈ ps.toList, ρ p.2 = ρ' p.2 := fun p hp => h' p.2 (by simp [Op.operands]; exact ⟨p.1, by simpa using hp⟩)
    unfold evOp
    simp only
    exact partsK_congr h2 _ _
  | buildSlice t n ps =>
    have h2 : ∀ p ∈ ps.toList, ρ p.2 = ρ' p.2 := fun p hp => h' p.2 (by simp [Op.operands]; exact ⟨p.1, by simpa using hp⟩)
    unfold evOp
    simp only
    rw [partsK_congr h2]
  | makeFunc fn a b =>
    cases fn with
    | func f =>
      have h1 : ∀ x ∈ a.toList, ρ x = ρ' x := fun x hx => h' x (by simp [Op.operands]; exact .inl (by simpa using hx))
      have h2 : ∀ x ∈ b.toList, ρ x = ρ' x := fun x hx => h' x (by simp [Op.operands]; exact .inr (by simpa using hx))
      unfold evOp
      simp only
      rw [knownK_congr h1]
      congr 1
      funext p
      exact knownK_congr h2 _ _
    | method nm =>
      have h1 : ∀ x ∈ a.toList, ρ x = ρ' x := fun x hx => h' x (by simp [Op.operands]; exact .inl (by simpa using hx))
      unfold evOp
      simp only
      exact knownK_congr h1 _ _
    | _ => rfl
  | slice t x lo hi mx =>
    have h1 : ρ x = ρ' x := h' x (by simp [Op.operands])
    have h2 : lo.map ρ = lo.map ρ' := by
      cases lo with
      | none => rfl
      | some o => simp [h' o (by simp [Op.operands])]
    have h3 : hi.map ρ = hi.map ρ' := by
      cases hi with
      | none => rfl
      | some o => simp [h' o (by simp [Op.operands])]
    have h4 : mx.map ρ = mx.map ρ' := by
      cases mx with
      | none => rfl
      | some o => simp [h' o (by simp [Op.operands])]
    simp only [evOp, h1, h2, h3, h4]
  | makeMap t r => cases r <;> rfl
  | _ =>
    first
      | rfl
      | (simp only [Op.operands] at h'
         simp only [evOp]
         first
           | rfl
           | (rw [h' _ (by simp), h' _ (by simp), h' _ (by simp)]; done)
           | (rw [h' _ (by simp), h' _ (by simp)]; done)
           | (rw [h' _ (by simp)]; done))
theorem alOp_congr {ρ ρ' : Operand → V} {op : Op} (h' : ∀ x ∈ op.operands, ρ x = ρ' x) : alOp P ρ op = alOp P ρ' op := by
  cases op with
  | buildSlice t n ps =>
    have h2 : ∀ p ∈ ps.toList, ρ p.2 = ρ' p.2 := fun p hp => h' p.2 (by simp [Op.operands]; exact ⟨p.1, by simpa using hp⟩)
    unfold alOp
    simp only
    exact partsK_congr h2 _ _
  | box t x => simp only [alOp]; rw [h' x (by simp [Op.operands])]
  | makeSlice t l c => simp only [alOp]; rw [h' l (by simp [Op.operands]), h' c (by simp [Op.operands])]
  | makeMap t r => cases r <;> rfl
  | _ => rfl
end
end Go.Proofs.Ytkhkebcflaokpaa
namespace Go.Proofs.Ytkhkebcflaokpaa
open Go Go.RowKit
set_option linter.all false

/-! ### Bits -/
theorem ancOf_bit (acc : List Nat) (i : Nat) : ∀ (l : List Edge), (ancOf acc l).testBit i = true → ∃ e ∈ l, Region.binds .any e = true ∧ (i = e.on ∨ (acc.getD e.on 0).testBit i = true)
  | [], h => by simp [ancOf] at h
  | e :: l, h => by
    have hstep : ancOf acc (e :: l) = cond (Region.binds .any e) (Nat.lor (ancOf acc l) (Nat.lor (Nat.pow 2 e.on) (acc.getD e.on 0))) (ancOf acc l) := rfl
    rw [hstep] at h
    cases hb : Region.binds .any e with
    | false =>
      rw [hb] at h
      obtain ⟨e', h1, h2⟩ := ancOf_bit acc i l h
      exact ⟨e', List.mem_cons_of_mem _ h1, h2⟩
    | true =>
      rw [hb] at h
      simp only [cond_true] at h
      have h' : (ancOf acc l ||| (2 ^ e.on ||| acc.getD e.on 0)).testBit i = true := h
      rw [Nat.testBit_or, Nat.testBit_or, Bool.or_eq_true, Bool.or_eq_true] at h'
      rcases h' with h' | h' | h'
      · obtain ⟨e', h1, h2⟩ := ancOf_bit acc i l h'
        exact ⟨e', List.mem_cons_of_mem _ h1, h2⟩
      · refine ⟨e, List.mem_cons_self .., hb, .inl ?_⟩
        rw [Nat.testBit_two_pow] at h'
        exact (of_decide_eq_true h').symm
      · exact ⟨e, List.mem_cons_self .., hb, .inr h'⟩
theorem ancs_app : ∀ (l : List Oper) (acc : List Nat), ∃ r, ancs l acc = acc ++ r ∧ r.length = l.length
  | [], acc => ⟨[], by simp [ancs], rfl⟩
  | o :: l, acc => by
    obtain ⟨r, h1, h2⟩ := ancs_app l (acc ++ [ancOf acc o.after.toList])
    refine ⟨ancOf acc o.after.toList :: r, ?_, by simp [h2]⟩
    show ancs l (acc ++ [ancOf acc o.after.toList]) = _
    rw [h1]; simp
theorem ancs_get : ∀ (l : List Oper) (acc : List Nat) (j : Nat) (o : Oper), l[j]? = some o → ∃ m : List Nat, m.length = acc.length + j ∧ (∃ r, ancs l acc = m ++ r) ∧ (ancs l acc)[acc.length + j]? = some (ancOf m o.after.toList)
  | [], _, _, _, h => by simp at h
  | q :: l, acc, 0, o, h => by
    simp at h; subst h
    obtain ⟨r, h1, h2⟩ := ancs_app l (acc ++ [ancOf acc q.after.toList])
    have hs : ancs (q :: l) acc = ancs l (acc ++ [ancOf acc q.after.toList]) := rfl
    refine ⟨acc, rfl, ⟨[ancOf acc q.after.toList] ++ r, by rw [hs, h1]; simp⟩, ?_⟩
    rw [hs, h1]; simp
  | q :: l, acc, j + 1, o, h => by
    have hs : ancs (q :: l) acc = ancs l (acc ++ [ancOf acc q.after.toList]) := rfl
    obtain ⟨m, h1, h2, h3⟩ := ancs_get l (acc ++ [ancOf acc q.after.toList]) j o (by simpa using h)
    refine ⟨m, by rw [h1]; simp; omega, by rw [hs]; exact h2, ?_⟩
    rw [hs]
    have : acc.length + (j + 1) = (acc ++ [ancOf acc q.after.toList]).length + j := by simp; omega
    rw [this]; exact h3
/-- A set of operations that holds what its members hang on. -/
def Closed (ops : List Oper) (L : Nat → Prop) : Prop := ∀ j o e, ops[j]? = some o → L j → e ∈ o.after.toList → Region.binds .any e = true → L e.on
theorem anc_closed {ops : List Oper} {L : Nat → Prop} (hL : Closed ops L) : ∀ (j i : Nat) (o : Oper), ops[j]? = some o → (∀ e ∈ o.after.toList, Region.binds .any e = true → L e.on) → (anc ops j).testBit i = true → L i := by
  intro j
  induction j using Nat.strongRecOn with
  | _ j ih =>
    intro i o ho hj hb
    obtain ⟨m, h1, ⟨r, h2⟩, h3⟩ := ancs_get ops [] j o ho
    simp only [List.length_nil, Nat.zero_add] at h1 h3
    have ha : anc ops j = ancOf m o.after.toList := by
      unfold anc
      simp [List.getD, h3]
    rw [ha] at hb
    obtain ⟨e, he, hbe, hor⟩ := ancOf_bit m i _ hb
    have hLe := hj e he hbe
    rcases hor with rfl | hbit
    · exact hLe
    · have hlt : e.on < m.length := by
        rcases Nat.lt_or_ge e.on m.length with h | h
        · exact h
        · rw [List.getD_eq_getElem?_getD, List.getElem?_eq_none h] at hbit; simp at hbit
      have hm : anc ops e.on = m.getD e.on 0 := by
        unfold anc
        rw [h2, List.getD_eq_getElem?_getD, List.getD_eq_getElem?_getD, List.getElem?_append_left hlt]
      have hlj : e.on < j := by omega
      have hjl : j < ops.length := (List.getElem?_eq_some_iff.1 ho).1
      obtain ⟨o', ho'⟩ : ∃ o', ops[e.on]? = some o' := ⟨ops[e.on], List.getElem?_eq_getElem (by omega)⟩
      exact ih e.on hlj i o' ho' (fun e' he' hb' => hL e.on o' e' ho' hLe he' hb') (by rw [hm]; exact hbit)

theorem filter_at {p : Nat → Bool} {n j : Nat} (hj : j < n) (hp : p j = true) : ((List.range n).filter p)[((List.range j).filter p).length]? = some j := by
  have h1 : List.range n = List.range j ++ (j :: List.range' (j + 1) (n - j - 1)) := by
    rw [List.range_eq_range', List.range_eq_range', ← List.range'_succ, show (n - j - 1) + 1 = n - j from by omega]
    have := List.range'_append (s := 0) (m := j) (n := n - j) (step := 1)
    simp at this
    rw [← show j + (n - j) = n from by omega, ← this]
    congr 2; omega
  rw [h1, List.filter_append, List.getElem?_append_right (Nat.le_refl _), Nat.sub_self, List.filter_cons, if_pos hp]
  rfl

theorem nodupB_spec : ∀ {l : List Nat}, nodupB l = true → l.Nodup
  | [], _ => List.nodup_nil
  | a :: l, h => by
    simp only [nodupB, Bool.and_eq_true] at h
    refine List.nodup_cons.2 ⟨fun hm => ?_, nodupB_spec h.2⟩
    have := List.all_eq_true.1 h.1 a hm
    simp at this
end Go.Proofs.Ytkhkebcflaokpaa
namespace Go.Proofs.Ytkhkebcflaokpaa
open Go Go.RowKit
set_option linter.all false

theorem get_put_in {α : Type} (z : α) : ∀ (d i : Nat) (t : Tr α d) (v : α), i < 16 ^ d → trGet z d i (trPut d i t v) = v
  | 0, i, t, v, h => by
    have : i = 0 := by simp at h; omega
    subst this
    rw [trGet_zero, if_pos rfl]; rfl
  | d + 1, i, t, v, h => by
    rw [trGet_succ, trPut_succ, sel_upd (Nat.mod_lt _ (by omega)) (Nat.mod_lt _ (by omega)), if_pos rfl]
    exact get_put_in z d _ _ _ (by rw [Nat.pow_succ] at h; omega)
theorem hGet_lt {h : H} {b : Nat} {x : B} (hb : hGet h b = some x) : b < 16 ^ HD := by
  rcases Nat.lt_or_ge b (16 ^ HD) with h1 | h1
  · exact h1
  · have : hGet h b = none := get_out none HD b h.t h1
    rw [hb] at this; cases this

section
variable {G : Nat} {φ φ' φ0 : Ph} {h h0 h1 K K' Hin : H} {w w' w0 : World}

/-- A part of the memory. -/
theorem Rel.sub (r : Rel G φ K w) (hn : Hin.next = K.next) (hs : ∀ b y, hGet Hin b = some y → hGet K b = some y) : Rel G φ Hin w :=
  ⟨fun a b x y p q ha hb => r.inj a b x y p q (hs _ _ ha) (hs _ _ hb), fun b x hb => r.blk b x (hs _ _ hb), fun b hb => r.fresh b (hn ▸ hb), r.glob⟩
theorem foot_sub (hs : ∀ b y, hGet Hin b = some y → hGet K b = some y) {k : Nat} (hf : foot φ Hin k) : foot φ K k := by
  obtain ⟨b, x, p, h1, h2, h3, h4⟩ := hf
  exact ⟨b, x, p, hs _ _ h1, h2, h3, h4⟩
/-- The same memory, said otherwise. -/
theorem Post.same (p : Post G φ0 h0 w0 φ K w) (hn : K'.next = K.next) (hs : ∀ b y, hGet K' b = some y → hGet K b = some y) : Post G φ0 h0 w0 φ K' w :=
  ⟨p.sb, p.rel.sub hn hs, p.kp, fun k hk => p.ft k (foot_sub hs hk), ⟨p.hp.dm, by rw [hn]; exact p.hp.nx, fun b hb e => (by
    cases hq : hGet K' b with
    | none => rfl
    | some y => have := hs _ _ hq; rw [p.hp.od b hb e] at this; cases this), fun b l e => p.hp.ro b l (hs _ _ e)⟩⟩

/-- What was done on a part of the memory leaves the rest as it was. -/
theorem Post.frame (p : Post G φ0 h0 w0 φ K w) (hn : Hin.next = K.next) (hs : ∀ b y, hGet Hin b = some y → hGet K b = some y) (q : Post G φ Hin w φ' h1 w') (hn' : K'.next = h1.next)
    (hk : ∀ b y, hGet K' b = some y → hGet h1 b = some y ∨ (hGet K b = some y ∧ hGet Hin b = none)) : Post G φ0 h0 w0 φ' K' w' := by
  have hr := p.rel
  have notF : ∀ b x s, hGet K b = some x → hGet Hin b = none → φ b = some s → ¬ foot φ Hin s.1 := fun b x s hb hb' hp ⟨c, y, s', h1, _, h3, h4⟩ => by
    have := hr.inj _ _ _ _ _ _ (hs _ _ h1) hb h3 hp h4
    subst this
    rw [h1] at hb'; cases hb'
  have old : ∀ b x, hGet K b = some x → ∃ s, φ b = some s ∧ φ' b = some s ∧ s.1 < w.heap.size := fun b x hb => by
    obtain ⟨s, h1, h2⟩ := hr.blk _ _ hb
    exact ⟨s, h1, q.sb _ _ h1, h2.lt⟩
  have mix : ∀ a b x y s t, hGet h1 a = some x → hGet K b = some y → hGet Hin b = none → φ' a = some s → φ' b = some t → s.1 = t.1 → False := fun a b x y s t ha hb hb' hs' ht e => by
    obtain ⟨t', e1, e2, e3⟩ := old _ _ hb
    rw [ht] at e2; cases e2
    have viaK : ∀ c z u, hGet Hin c = some z → φ c = some u → u.1 = t.1 → False := fun c z u hc hu e => by
      have := hr.inj _ _ _ _ _ _ (hs _ _ hc) hb hu e1 e
      subst this
      rw [hc] at hb'; cases hb'
    cases hx : isRo x with
    | true =>
      obtain ⟨l, rfl⟩ : ∃ l, x = .ro l := by cases x <;> first | exact ⟨_, rfl⟩ | cases hx
      have hin := q.hp.ro _ _ ha
      obtain ⟨u, h1, h2, -⟩ := old _ _ (hs _ _ hin)
      rw [hs'] at h2; cases h2
      exact viaK _ _ _ hin h1 e
    | false =>
      rcases q.ft s.1 ⟨a, x, s, ha, hx, hs', rfl⟩ with ⟨c, z, u, h1, _, h3, h4⟩ | h1
      · exact viaK _ _ _ h1 h3 (h4.trans e)
      · omega
  refine ⟨p.sb.trans q.sb, ⟨fun a b x y s t ha hb hsa htb e => ?_, fun b x hb => ?_, fun b hb => q.rel.fresh b (hn' ▸ hb), q.rel.glob⟩, p.kp.trans_new q.kp fun i hi => (p.ft i (foot_sub hs hi)).symm, fun k hk' => ?_, ⟨fun b hb => ?_, ?_, fun b hb e => ?_, fun b l e => ?_⟩⟩
  · rcases hk _ _ ha with h2 | ⟨h2, h2'⟩
    · rcases hk _ _ hb with h3 | ⟨h3, h3'⟩
      · exact q.rel.inj _ _ _ _ _ _ h2 h3 hsa htb e
      · exact (mix _ _ _ _ _ _ h2 h3 h3' hsa htb e).elim
    · rcases hk _ _ hb with h3 | ⟨h3, h3'⟩
      · exact (mix _ _ _ _ _ _ h3 h2 h2' htb hsa e.symm).elim
      · obtain ⟨s', e1, e2, -⟩ := old _ _ h2
        rw [hsa] at e2; cases e2
        obtain ⟨t', e3, e4, -⟩ := old _ _ h3
        rw [htb] at e4; cases e4
        exact hr.inj _ _ _ _ _ _ h2 h3 e1 e3 e
  · rcases hk _ _ hb with h2 | ⟨h2, h2'⟩
    · exact q.rel.blk _ _ h2
    · obtain ⟨s, e1, e2⟩ := hr.blk _ _ h2
      exact ⟨s, q.sb _ _ e1, e2.kp q.sb q.kp (notF _ _ _ h2 h2' e1)⟩
  · obtain ⟨b, x, s, hb, hx, hsb, e⟩ := hk'
    rcases hk _ _ hb with h2 | ⟨h2, h2'⟩
    · rcases q.ft k ⟨b, x, s, h2, hx, hsb, e⟩ with h3 | h3
      · exact p.ft k (foot_sub hs h3)
      · exact .inr (Nat.le_trans p.kp.size h3)
    · obtain ⟨s', e1, e2, -⟩ := old _ _ h2
      rw [hsb] at e2; cases e2
      exact p.ft k ⟨b, x, s, h2, hx, e1, e⟩
  · rw [q.hp.dm b (by rw [hn]; exact Nat.lt_of_lt_of_le hb p.hp.nx)]
    exact p.hp.dm b hb
  · rw [hn']
    exact Nat.le_trans p.hp.nx (hn ▸ q.hp.nx)
  · have hK := p.hp.od b hb e
    have hI : hGet Hin b = none := by
      cases hq : hGet Hin b with
      | none => rfl
      | some y => have := hs _ _ hq; rw [hK] at this; cases this
    have h1' := q.hp.od b (by rw [hn]; exact Nat.lt_of_lt_of_le hb p.hp.nx) hI
    cases hq : hGet K' b with
    | none => rfl
    | some y =>
      rcases hk _ _ hq with h2 | ⟨h2, -⟩
      · rw [h1'] at h2; cases h2
      · rw [hK] at h2; cases h2
  · rcases hk _ _ e with h2 | ⟨h2, -⟩
    · exact p.hp.ro _ _ (hs _ _ (q.hp.ro _ _ h2))
    · exact p.hp.ro _ _ h2

/-- A block is new, at a number that was kept free for it. -/
theorem Post.newAt (p : Post G φ0 h0 w0 φ K w) {β : Nat} {x : B} {b' N : Nat} (hβ : h0.next ≤ β) (hβ' : β < K.next) (hφ : φ β = none) (k : Ext w w') (hb' : w.heap.size ≤ b') (hx : BR (addPh φ β (b', 0, N)) x (b', 0, N) w') (hro : isRo x = false)
    (hn : K'.next = K.next) (hk : ∀ b y, hGet K' b = some y → (b ≠ β ∧ hGet K b = some y) ∨ (b = β ∧ y = x)) : Post G φ0 h0 w0 (addPh φ β (b', 0, N)) K' w' := by
  have hr := p.rel
  have hsb : Sb φ (addPh φ β (b', 0, N)) := fun b q hb => by
    unfold addPh
    split
    · rename_i e; rw [e, hφ] at hb; cases hb
    · exact hb
  have hph : ∀ b, b ≠ β → addPh φ β (b', 0, N) b = φ b := fun b hb => if_neg hb
  have mix : ∀ b y s, hGet K b = some y → φ b = some s → s.1 = b' → False := fun b y s hb hs e => by
    obtain ⟨q, e1, e2⟩ := hr.blk _ _ hb
    rw [hs] at e1; cases e1
    have := e2.lt
    omega
  refine ⟨p.sb.trans hsb, ⟨fun a b y z s t ha hb hsa htb e => ?_, fun b y hb => ?_, fun b hb => ?_, fun g hg => ?_⟩, p.kp.trans k.kp, fun j hj => ?_, ⟨fun b hb => ?_, by rw [hn]; exact p.hp.nx, fun b hb e => ?_, fun b l e => ?_⟩⟩
  · rcases hk _ _ ha with ⟨n1, h1⟩ | ⟨rfl, rfl⟩
    · rw [hph _ n1] at hsa
      rcases hk _ _ hb with ⟨n2, h2⟩ | ⟨rfl, rfl⟩
      · rw [hph _ n2] at htb
        exact hr.inj _ _ _ _ _ _ h1 h2 hsa htb e
      · rw [addPh_same] at htb; cases htb
        exact (mix _ _ _ h1 hsa e).elim
    · rw [addPh_same] at hsa; cases hsa
      rcases hk _ _ hb with ⟨n2, h2⟩ | ⟨rfl, rfl⟩
      · rw [hph _ n2] at htb
        exact (mix _ _ _ h2 htb e.symm).elim
      · rfl
  · rcases hk _ _ hb with ⟨n1, h1⟩ | ⟨rfl, rfl⟩
    · obtain ⟨s, e1, e2⟩ := hr.blk _ _ h1
      exact ⟨s, hsb _ _ e1, e2.kp hsb k id⟩
    · exact ⟨_, addPh_same _ _ _, hx⟩
  · rw [hn] at hb
    rw [hph _ (by omega)]
    exact hr.fresh b hb
  · obtain ⟨N', h1⟩ := hr.glob g hg
    exact ⟨N', hsb _ _ h1⟩
  · obtain ⟨b, y, s, hb, hy, hs, e⟩ := hj
    rcases hk _ _ hb with ⟨n1, h1⟩ | ⟨rfl, rfl⟩
    · rw [hph _ n1] at hs
      exact p.ft j ⟨b, y, s, h1, hy, hs, e⟩
    · rw [addPh_same] at hs; cases hs
      exact .inr (e ▸ Nat.le_trans p.kp.size hb')
  · rw [hph _ (by omega)]
    exact p.hp.dm b hb
  · have hK := p.hp.od b hb e
    cases hq : hGet K' b with
    | none => rfl
    | some y =>
      rcases hk _ _ hq with ⟨-, h2⟩ | ⟨rfl, -⟩
      · rw [hK] at h2; cases h2
      · omega
  · rcases hk _ _ e with ⟨-, h2⟩ | ⟨-, h2⟩
    · exact p.hp.ro _ _ h2
    · rw [← h2] at hro; cases hro
end

/-! ### Blocks laid into a memory -/
section
variable (P : Program) (ops : List Oper) (b0 : Nat)
noncomputable def addA (al : List (Nat × B)) (h : H) : H := al.foldl (fun h p => ⟨trPut HD (b0 + rk P ops p.1) h.t (some p.2), h.next⟩) h
theorem addAll_eq {β : Type} (c : H → β) : ∀ (al : List (Nat × B)) (h : H), addAll P ops b0 al h c = c (addA P ops b0 al h)
  | [], h => rfl
  | p :: al, h => by
    show hSet h (Nat.add b0 (rk P ops p.1)) (some p.2) (fun h => addAll P ops b0 al h c) = _
    rw [hSet_eq, addAll_eq c al]
    rfl
variable {P ops b0}
theorem addA_next : ∀ (al : List (Nat × B)) (h : H), (addA P ops b0 al h).next = h.next
  | [], _ => rfl
  | p :: al, h => addA_next al _
theorem addA_ne {b : Nat} : ∀ (al : List (Nat × B)) (h : H), (∀ p ∈ al, b ≠ b0 + rk P ops p.1) → hGet (addA P ops b0 al h) b = hGet h b
  | [], _, _ => rfl
  | p :: al, h, hn => (addA_ne al _ fun q hq => hn q (List.mem_cons_of_mem _ hq)).trans (hGet_put_ne (hn p (List.mem_cons_self ..)))
theorem addA_some {b : Nat} {y : B} : ∀ (al : List (Nat × B)) (h : H), hGet (addA P ops b0 al h) b = some y → (hGet h b = some y ∧ ∀ p ∈ al, b ≠ b0 + rk P ops p.1) ∨ ∃ p ∈ al, b = b0 + rk P ops p.1 ∧ y = p.2
  | [], _, e => .inl ⟨e, fun _ h => by cases h⟩
  | p :: al, h, e => by
    rcases addA_some al _ e with ⟨h1, h2⟩ | ⟨q, h1, h2, h3⟩
    · by_cases hb : b = b0 + rk P ops p.1
      · subst hb
        have := hGet_put_same h1
        exact .inr ⟨p, List.mem_cons_self .., rfl, (Option.some.inj this).symm⟩
      · rw [hGet_put_ne hb] at h1
        refine .inl ⟨h1, fun q hq => ?_⟩
        rcases List.mem_cons.1 hq with rfl | hq
        · exact hb
        · exact h2 q hq
    · exact .inr ⟨q, List.mem_cons_of_mem _ h1, h2, h3⟩
theorem addA_in {p : Nat × B} : ∀ (al : List (Nat × B)) (h : H), (al.map fun q => rk P ops q.1).Nodup → p ∈ al → b0 + rk P ops p.1 < 16 ^ HD → hGet (addA P ops b0 al h) (b0 + rk P ops p.1) = some p.2
  | [], _, _, hp, _ => by cases hp
  | q :: al, h, hn, hp, hb => by
    simp only [List.map_cons, List.nodup_cons] at hn
    rcases List.mem_cons.1 hp with rfl | hp
    · have h1 : hGet (addA P ops b0 al ⟨trPut HD (b0 + rk P ops p.1) h.t (some p.2), h.next⟩) (b0 + rk P ops p.1) = _ := addA_ne al _ fun q hq e => hn.1 (by
        have : rk P ops p.1 = rk P ops q.1 := by omega
        rw [this]; exact List.mem_map_of_mem hq)
      exact h1.trans (get_put_in none HD _ _ _ hb)
    · exact addA_in al _ hn.2 hp hb
end
end Go.Proofs.Ytkhkebcflaokpaa
namespace Go.Proofs.Ytkhkebcflaokpaa
open Go Go.RowKit
set_option linter.all false

theorem dst_inj : ∀ {ops : List Oper}, (dstsOf ops).Nodup → ∀ {i i' : Nat} {o o' : Oper} {t : Nat}, ops[i]? = some o → ops[i']? = some o' → o.dst = some t → o'.dst = some t → i = i'
  | [], _, _, _, _, _, _, h, _, _, _ => by simp at h
  | q :: ops, hn, i, i', o, o', t, h, h', hd, hd' => by
    have mem : ∀ (i : Nat) (o : Oper), ops[i]? = some o → o.dst = some t → t ∈ dstsOf ops := fun i o h hd => List.mem_filterMap.2 ⟨o, List.mem_of_getElem? h, hd⟩
    have hn' : (dstsOf ops).Nodup := by
      unfold dstsOf at hn ⊢
      rw [List.filterMap_cons] at hn
      split at hn
      · exact hn
      · exact (List.nodup_cons.1 hn).2
    have hq : q.dst = some t → t ∉ dstsOf ops := fun e => by
      unfold dstsOf at hn ⊢
      rw [List.filterMap_cons, e] at hn
      exact (List.nodup_cons.1 hn).1
    cases i with
    | zero =>
      simp at h; subst h
      cases i' with
      | zero => rfl
      | succ i' => exact absurd (mem i' o' (by simpa using h') hd') (hq hd)
    | succ i =>
      cases i' with
      | zero =>
        simp at h'; subst h'
        exact absurd (mem i o (by simpa using h) hd) (hq hd')
      | succ i' => exact congrArg (· + 1) (dst_inj hn' (i := i) (i' := i') (by simpa using h) (by simpa using h') hd hd')

theorem back_lt {ops : List Oper} (hb : backOk ops = true) {i j : Nat} (hj : j < ops.length) (h : (anc ops j).testBit i = true) : i < j := by
  have := List.all_eq_true.1 hb j (List.mem_range.2 hj)
  have h1 : anc ops j < 2 ^ j := by simpa using this
  rcases Nat.lt_or_ge i j with h2 | h2
  · exact h2
  · have : (anc ops j).testBit i = false := Nat.testBit_lt_two_pow (Nat.lt_of_lt_of_le h1 (Nat.pow_le_pow_right (by omega) h2))
    rw [this] at h; cases h
theorem slots_anc {ops : List Oper} (hs : slotsOk ops = true) {i j t : Nat} {o q : Oper} (hj : ops[j]? = some o) (ht : t ∈ readsOf ops o) (hi : ops[i]? = some q) (hq : q.dst = some t) : (anc ops j).testBit i = true ∨ i = j ∨ (anc ops i).testBit j = true := by
  have h1 := List.all_eq_true.1 hs j (List.mem_range.2 (List.getElem?_eq_some_iff.1 hj).1)
  rw [hj] at h1
  have h2 := List.all_eq_true.1 h1 t ht
  have h3 := List.all_eq_true.1 h2 i (List.mem_range.2 (List.getElem?_eq_some_iff.1 hi).1)
  rw [hi] at h3
  simp only [hq] at h3
  have : Nat.beq t t = true := Nat.beq_refl t
  rw [this] at h3
  simp only [cond_true, Bool.or_eq_true] at h3
  rcases h3 with h3 | h3 | h3
  · exact .inl h3
  · exact .inr (.inl (Nat.eq_of_beq_eq_true h3))
  · exact .inr (.inr h3)
theorem tmps_mem {l : List Operand} {t : Nat} (h : .tmp t ∈ l) : t ∈ tmpsOf l := List.mem_filterMap.2 ⟨_, h, rfl⟩

noncomputable def putD (d : Nat) (E : Tr V d) (dst : Option Nat) (x : V) : Tr V d := match dst with
  | none => E
  | some t => trPut d t E x
theorem dstV_putD {β : Type} (d : Nat) (E : Tr V d) (dst : Option Nat) (v : V) (c : Tr V d → β) : dstV d E dst v c = c (putD d E dst v) := by
  rw [dstV_eq]; cases dst <;> rfl

noncomputable def cAt (P : Program) (ops : List Oper) (j : Nat) : Nat := ((List.range j).filter (isE P ops)).length
theorem cAt_succ (P : Program) (ops : List Oper) (j : Nat) : cAt P ops (j + 1) = cAt P ops j + (if isE P ops j = true then 1 else 0) := by
  unfold cAt
  rw [List.range_succ, List.filter_append, List.length_append]
  congr 1
  by_cases h : isE P ops j = true <;> simp [List.filter_cons, h]
/-- A slot holds, as far as it is known. -/
def SV (d : Nat) (E : Tr V d) (dst : Option Nat) (x : V) : Prop := ∀ t, dst = some t → vGet d t E = x ∨ vGet d t E = .und
/-- What an acting operation does. -/
def Does (P : Program) (G : Nat) (X : Hook P G) (ih : RunT) (fr : Fr) (E : Tr V fr.d) (o : Oper) (hc hc' : H) : R → Prop
  | .v x h => h = hc' ∧ SV fr.d E o.dst x
  | .eff h => h = hc' ∧ o.dst = none
  | .call f args => ∃ x, enterF P G X ih f args hc = .ok x hc' ∧ SV fr.d E o.dst x
  | .yld l args => ∃ x, roundF P ih l args hc = .ok x hc' ∧ SV fr.d E o.dst x
  | .dfr _ _ _ => False
  | .bad _ => False
/-- The memory that an acting operation meets. -/
noncomputable def metH (P : Program) (ops : List Oper) (b0 : Nat) (al : List (Nat × B)) (c : Nat) (h : H) : H := addA P ops b0 (al.filter (joinB P ops c)) h
inductive Fact (P : Program) (G : Nat) (X : Hook P G) (ih : RunT) (ops : List Oper) (b0 : Nat) (fr : Fr) (E Ej : Tr V fr.d) (hh : List H) (al : List (Nat × B)) (j : Nat) (o : Oper) : Prop
  | no : wants fr.d Ej ops o.guard = some false → SV fr.d E o.dst (.tup []) → (isE P ops j = true → ∃ hc, hh[cAt P ops j]? = some hc ∧ hh[cAt P ops j + 1]? = some (metH P ops b0 al (cAt P ops j) hc)) → Fact P G X ih ops b0 fr E Ej hh al j o
  | rd : wants fr.d Ej ops o.guard = some true → isRd P ops j = true → Fact P G X ih ops b0 fr E Ej hh al j o
  | al (x : B) (mk : Nat → V) : wants fr.d Ej ops o.guard = some true → isRd P ops j = false → isE P ops j = false → alOp P (opV G fr.d Ej) o.op = some (x, mk) → (j, x) ∈ al → SV fr.d E o.dst (mk (b0 + rk P ops j)) → Fact P G X ih ops b0 fr E Ej hh al j o
  | ac (hc hc' : H) : wants fr.d Ej ops o.guard = some true → isRd P ops j = false → isE P ops j = true → hh[cAt P ops j]? = some hc → hh[cAt P ops j + 1]? = some hc' → Does P G X ih fr E o (metH P ops b0 al (cAt P ops j) hc) hc' (evOp P (opV G fr.d Ej) o.op (metH P ops b0 al (cAt P ops j) hc)) → Fact P G X ih ops b0 fr E Ej hh al j o
/-- What an operation looks at: what was there ahead of the region, or what the region has left. -/
structure EnvAt (ops : List Oper) (d : Nat) (E0 E Ej : Tr V d) (j : Nat) (o : Oper) : Prop where
  new : ∀ t ∈ readsOf ops o, (∀ i q, ops[i]? = some q → q.dst = some t → (anc ops j).testBit i = true) → vGet d t Ej = vGet d t E
  old : ∀ t ∈ readsOf ops o, (∀ i q, ops[i]? = some q → q.dst = some t → ¬ (anc ops j).testBit i = true) → vGet d t Ej = vGet d t E0

theorem join_anc {P : Program} {ops : List Oper} {j : Nat} (hj : j < ops.length) (hE : isE P ops j = true) {p : Nat × B} (h : joinB P ops (cAt P ops j) p = true) : (anc ops j).testBit p.1 = true := by
  have h1 : cMax P ops p.1 = cAt P ops j := Nat.eq_of_beq_eq_true h
  have h2 : (es P ops)[cAt P ops j]? = some j := filter_at hj hE
  obtain ⟨h3, h4⟩ := List.getElem?_eq_some_iff.1 h2
  have h5 : cMax P ops p.1 < (es P ops).length := by rw [h1]; exact h3
  have h6 : (anc ops (es P ops)[cMax P ops p.1]).testBit p.1 = true := List.findIdx_getElem (w := h5) (p := fun e => (anc ops e).testBit p.1)
  have h7 : (es P ops)[cMax P ops p.1] = j := by
    have : (es P ops)[cMax P ops p.1]? = some j := by rw [h1]; exact h2
    exact (List.getElem?_eq_some_iff.1 this).2
  rwa [h7] at h6

section
variable {P : Program} {G : Nat} {X : Hook P G} {ih : RunT} {ops : List Oper} {b0 : Nat} {fr : Fr} {v : V} {h' : H}

theorem SV.congr {E E' : Tr V fr.d} {dst : Option Nat} {x : V} (h : ∀ t, dst = some t → vGet fr.d t E' = vGet fr.d t E) (s : SV fr.d E dst x) : SV fr.d E' dst x := fun t ht => by
  rw [h t ht]; exact s t ht
theorem sv_putD (E : Tr V fr.d) (dst : Option Nat) (x : V) : SV fr.d (putD fr.d E dst x) dst x := fun t ht => by
  subst ht; exact get_put_same V.und fr.d t E x

theorem drawGo_spec (hslot : slotsOk ops = true) (hback : backOk ops = true) (hnod : (dstsOf ops).Nodup) (H0 : H) (E0 : Tr V fr.d) (cont : DrawT fr) :
    ∀ (l : List Oper) (j : Nat) (E : Tr V fr.d) (cur ful : H) (hs : List H) (al : List (Nat × B)) (Es : List (Tr V fr.d)), l = ops.drop j → hs.length = cAt P ops j → (H0 :: hs.reverse)[hs.length]? = some cur → Es.length = j → (∀ t, (∀ i q, ops[i]? = some q → q.dst = some t → j ≤ i) → vGet fr.d t E = vGet fr.d t E0) → drawGo P G X ih ops b0 fr cont l j E cur ful hs al Es = .ok v h' →
    ∃ Ef cur' hs' al' Es', cont Ef cur' hs' al' Es' = .ok v h' ∧ (∃ n, hs' = n ++ hs) ∧ (∃ n, Es' = n ++ Es) ∧ (∃ n, al' = n ++ al ∧ (∀ p ∈ n, j ≤ p.1 ∧ p.1 < ops.length ∧ isRd P ops p.1 = false ∧ isE P ops p.1 = false ∧ ∃ o Ej, ops[p.1]? = some o ∧ Es'.reverse[p.1]? = some Ej ∧ wants fr.d Ej ops o.guard = some true) ∧ (n.map (·.1)).Nodup) ∧
      (H0 :: hs'.reverse)[hs'.length]? = some cur' ∧ hs'.length = cAt P ops (j + l.length) ∧ (∀ t, (∀ i o, j ≤ i → ops[i]? = some o → o.dst ≠ some t) → vGet fr.d t Ef = vGet fr.d t E) ∧
      ∀ i o, j ≤ i → ops[i]? = some o → ∃ Ej, Es'.reverse[i]? = some Ej ∧ EnvAt ops fr.d E0 Ef Ej i o ∧ Fact P G X ih ops b0 fr Ef Ej (H0 :: hs'.reverse) al' i o
  | [], j, E, cur, ful, hs, al, Es, hl, hlen, hcur, hEs, hE0, he => by
    have hj : ops.length ≤ j := by
      have := congrArg List.length hl
      simp at this; omega
    exact ⟨E, cur, hs, al, Es, he, ⟨[], rfl⟩, ⟨[], rfl⟩, ⟨[], rfl, by simp, by simp⟩, hcur, hlen, fun _ _ => rfl, fun i o hi ho => by
      have := (List.getElem?_eq_some_iff.1 ho).1; omega⟩
  | o :: l, j, E, cur, ful, hs, al, Es, hl, hlen, hcur, hEs, hE0, he => by
    have hoj : ops[j]? = some o := by
      have := congrArg (·[0]?) hl
      simpa using this.symm
    have hjl : j < ops.length := (List.getElem?_eq_some_iff.1 hoj).1
    have hl' : l = ops.drop (j + 1) := by
      have := congrArg List.tail hl
      simpa using this
    -- on with the rest
    have fin : ∀ (x : V) (cur1 ful1 : H) (hs1 : List H) (al1 : List (Nat × B)), drawGo P G X ih ops b0 fr cont l (j + 1) (putD fr.d E o.dst x) cur1 ful1 hs1 al1 (E :: Es) = .ok v h' →
        (isE P ops j = false ∧ hs1 = hs ∧ cur1 = cur ∨ isE P ops j = true ∧ hs1 = cur1 :: hs) → (al1 = al ∨ isRd P ops j = false ∧ isE P ops j = false ∧ wants fr.d E ops o.guard = some true ∧ ∃ y, al1 = (j, y) :: al) →
        (∀ (Ef : Tr V fr.d) (hh : List H) (al' : List (Nat × B)), SV fr.d Ef o.dst x → hh[cAt P ops j]? = some cur → (isE P ops j = true → hh[cAt P ops j + 1]? = some cur1) → (isE P ops j = true → metH P ops b0 al' (cAt P ops j) cur = addA P ops b0 (al.filter (joinB P ops hs.length)) cur) → (∀ p ∈ al1, p ∈ al') → Fact P G X ih ops b0 fr Ef E hh al' j o) →
        ∃ Ef cur' hs' al' Es', cont Ef cur' hs' al' Es' = .ok v h' ∧ (∃ n, hs' = n ++ hs) ∧ (∃ n, Es' = n ++ Es) ∧ (∃ n, al' = n ++ al ∧ (∀ p ∈ n, j ≤ p.1 ∧ p.1 < ops.length ∧ isRd P ops p.1 = false ∧ isE P ops p.1 = false ∧ ∃ o Ej, ops[p.1]? = some o ∧ Es'.reverse[p.1]? = some Ej ∧ wants fr.d Ej ops o.guard = some true) ∧ (n.map (·.1)).Nodup) ∧
          (H0 :: hs'.reverse)[hs'.length]? = some cur' ∧ hs'.length = cAt P ops (j + (o :: l).length) ∧ (∀ t, (∀ i o, j ≤ i → ops[i]? = some o → o.dst ≠ some t) → vGet fr.d t Ef = vGet fr.d t E) ∧
          ∀ i o, j ≤ i → ops[i]? = some o → ∃ Ej, Es'.reverse[i]? = some Ej ∧ EnvAt ops fr.d E0 Ef Ej i o ∧ Fact P G X ih ops b0 fr Ef Ej (H0 :: hs'.reverse) al' i o := by
      intro x cur1 ful1 hs1 al1 he1 hE hal hfact
      have hlen1 : hs1.length = cAt P ops (j + 1) := by
        rw [cAt_succ]
        rcases hE with ⟨e1, rfl, rfl⟩ | ⟨e1, rfl⟩
        · simp [e1, hlen]
        · simp [e1, hlen]
      have hcur1 : (H0 :: hs1.reverse)[hs1.length]? = some cur1 := by
        rcases hE with ⟨e1, rfl, rfl⟩ | ⟨e1, rfl⟩
        · exact hcur
        · simp
      have hput : ∀ t, o.dst ≠ some t → vGet fr.d t (putD fr.d E o.dst x) = vGet fr.d t E := fun t ht => by
        cases hd : o.dst with
        | none => rfl
        | some t' => exact get_put_ne V.und fr.d t' t E x fun e => ht (by rw [hd, e])
      obtain ⟨Ef, cur', hs', al', Es', k1, ⟨n, k2⟩, ⟨z, kE⟩, ⟨m, k3, k3', k3''⟩, k4, k5, k6, k7⟩ := drawGo_spec hslot hback hnod H0 E0 cont l (j + 1) _ cur1 ful1 hs1 al1 (E :: Es) hl' hlen1 hcur1 (by simp [hEs]) (fun t ht => by
        rw [hput t fun hd => by have := ht j o hoj hd; omega]
        exact hE0 t fun i q hi hd => by have := ht i q hi hd; omega) he1
      have slot : ∀ t, (∀ i o, j ≤ i → ops[i]? = some o → o.dst ≠ some t) → vGet fr.d t Ef = vGet fr.d t E := fun t ht => by
        rw [k6 t fun i o hi => ht i o (by omega)]
        exact hput t (ht j o (Nat.le_refl _) hoj)
      have hEj : Es'.reverse[j]? = some E := by
        rw [kE, List.reverse_append, List.reverse_cons, List.append_assoc, List.getElem?_append_right (by simp [hEs])]
        simp [hEs]
      have hpre : ∀ i, i ≤ hs.length → (H0 :: hs'.reverse)[i]? = (H0 :: hs.reverse)[i]? := fun i hi => by
        have hx : ∃ z, hs' = z ++ hs := by
          rcases hE with ⟨e1, rfl, rfl⟩ | ⟨e1, rfl⟩
          · exact ⟨n, k2⟩
          · exact ⟨n ++ [cur1], by rw [k2]; simp⟩
        obtain ⟨z, rfl⟩ := hx
        rw [List.reverse_append, ← List.cons_append, List.getElem?_append_left (by simp; omega)]
      refine ⟨Ef, cur', hs', al', Es', k1, ?_, ⟨z ++ [E], by rw [kE]; simp⟩, ?_, k4, by rw [k5]; congr 1; simp; omega, slot, fun i q hi hq => ?_⟩
      · rcases hE with ⟨e1, rfl, rfl⟩ | ⟨e1, rfl⟩
        · exact ⟨n, k2⟩
        · exact ⟨n ++ [cur1], by rw [k2]; simp⟩
      · rcases hal with rfl | ⟨e1, e2, e3, y, rfl⟩
        · exact ⟨m, k3, fun p hp => let ⟨a, b⟩ := k3' p hp; ⟨by omega, b⟩, k3''⟩
        · refine ⟨m ++ [(j, y)], by rw [k3]; simp, fun p hp => ?_, ?_⟩
          · rcases List.mem_append.1 hp with hp | hp
            · obtain ⟨a, b⟩ := k3' p hp
              exact ⟨by omega, b⟩
            · simp at hp; subst hp
              exact ⟨Nat.le_refl _, hjl, e1, e2, o, E, hoj, hEj, e3⟩
          · rw [List.map_append, List.nodup_append]
            refine ⟨k3'', by simp, fun a ha b hb => ?_⟩
            simp at hb; subst hb
            obtain ⟨p, hp, rfl⟩ := List.mem_map.1 ha
            have := (k3' p hp).1
            omega
      · rcases Nat.lt_or_ge j i with h1 | h1
        · exact k7 i q h1 hq
        · have : i = j := by omega
          subst this
          rw [hoj] at hq; cases hq
          refine ⟨E, hEj, ⟨fun t ht hw => (slot t fun i' q hi' hq hd => ?_).symm, fun t ht hw => hE0 t fun i' q hq hd => ?_⟩, hfact Ef _ al' ?_ ?_ (fun e => ?_) (fun e => ?_) fun p hp => by rw [k3]; exact List.mem_append_right _ hp⟩
          · have := back_lt hback hjl (hw i' q hq hd)
            omega
          · rcases slots_anc hslot hoj ht hq hd with h2 | h2 | h2
            · exact absurd h2 (hw i' q hq hd)
            · omega
            · have := back_lt hback (List.getElem?_eq_some_iff.1 hq).1 h2
              omega
          · refine SV.congr (fun t ht => k6 t fun i' q hi' hq hd => ?_) (sv_putD E o.dst x)
            have := dst_inj hnod hq hoj hd ht
            omega
          · rw [← hlen, hpre _ (Nat.le_refl _)]; exact hcur
          · rcases hE with ⟨e1, -⟩ | ⟨-, rfl⟩
            · rw [e1] at e; cases e
            · rw [k2, ← hlen, List.reverse_append, ← List.cons_append, List.getElem?_append_left (by simp)]
              simp
          · have h2 : al1 = al := by
              rcases hal with h2 | ⟨-, h2, -⟩
              · exact h2
              · rw [h2] at e; cases e
            have h3 : m.filter (joinB P ops (cAt P ops i)) = [] := List.filter_eq_nil_iff.2 fun p hp hjn => by
              have h4 := back_lt hback hjl (join_anc hjl e hjn)
              have h5 := (k3' p hp).1
              omega
            unfold metH
            rw [k3, h2, List.filter_append, h3, List.nil_append, hlen]
    have hstep : drawGo P G X ih ops b0 fr cont (o :: l) j E cur ful hs al Es = (match wants fr.d E ops o.guard with
      | some true => match isRd P ops j with
        | true => match evOp P (opV G fr.d E) o.op ful with
          | .v x _ => dstV fr.d E o.dst x fun E' => drawGo P G X ih ops b0 fr cont l (j + 1) E' cur ful hs al (E :: Es)
          | .bad n => .bad n fr.f
          | _ => .bad 222 fr.f
        | false => match isE P ops j with
          | false => match alOp P (opV G fr.d E) o.op with
            | some (x, mk) => dstV fr.d E o.dst (mk (Nat.add b0 (rk P ops j))) fun E' => hSet ful (Nat.add b0 (rk P ops j)) (some x) fun ful => drawGo P G X ih ops b0 fr cont l (j + 1) E' cur ful hs ((j, x) :: al) (E :: Es)
            | none => .bad 223 fr.f
          | true => addAll P ops b0 (al.filter (joinB P ops (List.length hs))) cur fun cur => match evOp P (opV G fr.d E) o.op cur with
            | .v x h => dstV fr.d E o.dst x fun E' => addAll P ops b0 (al.filter (lateB P ops (Nat.succ (List.length hs)))) h fun ful => drawGo P G X ih ops b0 fr cont l (j + 1) E' h ful (h :: hs) al (E :: Es)
            | .eff h => match o.dst with
              | none => addAll P ops b0 (al.filter (lateB P ops (Nat.succ (List.length hs)))) h fun ful => drawGo P G X ih ops b0 fr cont l (j + 1) E h ful (h :: hs) al (E :: Es)
              | some _ => .bad 219 fr.f
            | .call f args => match enterF P G X ih f args cur with
              | .ok x h => dstV fr.d E o.dst x fun E' => addAll P ops b0 (al.filter (lateB P ops (Nat.succ (List.length hs)))) h fun ful => drawGo P G X ih ops b0 fr cont l (j + 1) E' h ful (h :: hs) al (E :: Es)
              | .bad n a => .bad n a
            | .yld l' args => match roundF P ih l' args cur with
              | .ok x h => dstV fr.d E o.dst x fun E' => addAll P ops b0 (al.filter (lateB P ops (Nat.succ (List.length hs)))) h fun ful => drawGo P G X ih ops b0 fr cont l (j + 1) E' h ful (h :: hs) al (E :: Es)
              | .bad n a => .bad n a
            | .dfr _ _ _ => .bad 243 fr.f
            | .bad n => .bad n fr.f
      | some false => dstV fr.d E o.dst (.tup []) fun E' => match isE P ops j with
        | true => addAll P ops b0 (al.filter (joinB P ops (List.length hs))) cur fun cur => drawGo P G X ih ops b0 fr cont l (j + 1) E' cur ful (cur :: hs) al (E :: Es)
        | false => drawGo P G X ih ops b0 fr cont l (j + 1) E' cur ful hs al (E :: Es)
      | none => .bad 207 fr.f) := rfl
    rw [hstep] at he
    split at he <;> try cases he
    · rename_i hw
      split at he
      · rename_i hrd
        have hEf : isE P ops j = false := by unfold isE; rw [hrd]; rfl
        split at he <;> try cases he
        rename_i x _ hev
        rw [dstV_putD] at he
        exact fin x cur ful hs al he (.inl ⟨hEf, rfl, rfl⟩) (.inl rfl) fun Ef hh al' _ _ _ _ _ => .rd hw hrd
      · rename_i hrd
        split at he
        · rename_i hEf
          split at he <;> try cases he
          rename_i x mk hal
          rw [dstV_putD, hSet_eq] at he
          exact fin _ cur _ hs _ he (.inl ⟨hEf, rfl, rfl⟩) (.inr ⟨hrd, hEf, hw, x, rfl⟩) fun Ef hh al' hsv _ _ _ hm => .al x mk hw hrd hEf hal (hm _ (List.mem_cons_self ..)) hsv
        · rename_i hEt
          rw [addAll_eq] at he
          split at he <;> try cases he
          · rename_i x h1 hev
            rw [dstV_putD, addAll_eq] at he
            exact fin x h1 _ _ al he (.inr ⟨hEt, rfl⟩) (.inl rfl) fun Ef hh al' hsv hc hc' hmt _ => .ac cur h1 hw hrd hEt hc (hc' hEt) (by rw [hmt hEt, hev]; exact ⟨rfl, hsv⟩)
          · rename_i h1 hev
            split at he <;> try cases he
            rename_i hd
            rw [addAll_eq] at he
            exact fin .und h1 _ _ al (by rw [hd]; exact he) (.inr ⟨hEt, rfl⟩) (.inl rfl) fun Ef hh al' hsv hc hc' hmt _ => .ac cur h1 hw hrd hEt hc (hc' hEt) (by rw [hmt hEt, hev]; exact ⟨rfl, hd⟩)
          · rename_i f args hev
            split at he <;> try cases he
            rename_i x h1 hen
            rw [dstV_putD, addAll_eq] at he
            exact fin x h1 _ _ al he (.inr ⟨hEt, rfl⟩) (.inl rfl) fun Ef hh al' hsv hc hc' hmt _ => .ac cur h1 hw hrd hEt hc (hc' hEt) (by rw [hmt hEt, hev]; exact ⟨x, hen, hsv⟩)
          · rename_i f args hev
            split at he <;> try cases he
            rename_i x h1 hen
            rw [dstV_putD, addAll_eq] at he
            exact fin x h1 _ _ al he (.inr ⟨hEt, rfl⟩) (.inl rfl) fun Ef hh al' hsv hc hc' hmt _ => .ac cur h1 hw hrd hEt hc (hc' hEt) (by rw [hmt hEt, hev]; exact ⟨x, hen, hsv⟩)
    · rename_i hw
      rw [dstV_putD] at he
      split at he
      · rename_i hEt
        rw [addAll_eq] at he
        exact fin _ _ _ _ al he (.inr ⟨hEt, rfl⟩) (.inl rfl) fun Ef hh al' hsv hc hc' hmt _ => .no hw hsv fun e => ⟨cur, hc, by rw [hmt e]; exact hc' e⟩
      · rename_i hEf
        exact fin _ cur _ _ al he (.inl ⟨hEf, rfl, rfl⟩) (.inl rfl) fun Ef hh al' hsv _ _ _ _ => .no hw hsv fun e => by rw [hEf] at e; cases e
end
end Go.Proofs.Ytkhkebcflaokpaa
namespace Go.Proofs.Ytkhkebcflaokpaa
open Go Go.RowKit
set_option linter.all false

/-! ### Plain facts -/
theorem vEqs_sound {f : V → V → Bool} (hf : ∀ a b, f a b = true → a = b) : ∀ (l m : List V), vEqs f l m = true → l = m
  | [], [], _ => rfl
  | [], _ :: _, h => by cases h
  | a :: l, [], h => by cases h
  | a :: l, b :: m, h => by
    have h' : and (f a b) (vEqs f l m) = true := h
    simp only [Bool.and_eq_true] at h'
    rw [hf _ _ h'.1, vEqs_sound hf l m h'.2]
theorem nkEq_sound {a b : NK} (h : nkEq a b = true) : a = b := by cases a <;> cases b <;> first | rfl | cases h
theorem vEq_succ (n : Nat) (a b : V) : vEq (n + 1) a b = (match a, b with
      | .int k a, .int k' b => and (keq k k') (ieq a b)
      | .bool a, .bool b => beqB a b
      | .str n s, .str m t => and (Nat.beq n m) (Nat.beq s t)
      | .ptr b o, .ptr b' o' => and (Nat.beq b b') (Nat.beq o o')
      | .sl b o l k e p, .sl b' o' l' k' e' p' => and (and (and (Nat.beq b b') (Nat.beq o o')) (and (Nat.beq l l') (Nat.beq k k'))) (and (Nat.beq e e') (beqB p p'))
      | .es b e, .es b' e' => and (Nat.beq b b') (Nat.beq e e')
      | .map b, .map b' => Nat.beq b b'
      | .nil k, .nil k' => nkEq k k'
      | .fn f p q, .fn f' p' q' => and (Nat.beq f f') (and (vEqs (vEq n) p p') (vEqs (vEq n) q q'))
      | .yld l, .yld l' => Nat.beq l l'
      | .ifc t v, .ifc t' v' => and (Nat.beq t t') (vEq n v v')
      | .mth a x, .mth b y => and (a == b) (vEq n x y)
      | .agg l, .agg m => vEqs (vEq n) l m
      | .tup l, .tup m => vEqs (vEq n) l m
      | _, _ => false) := rfl
theorem vEq_sound : ∀ (n : Nat) (a b : V), vEq n a b = true → a = b
  | 0, _, _, h => by cases h
  | n + 1, a, b, h => by
    have ihl := vEqs_sound (vEq_sound n)
    rw [vEq_succ] at h
    have h' := h
    have nb : ∀ {x y : Nat}, Nat.beq x y = true → x = y := fun h => Nat.eq_of_beq_eq_true h
    have bb : ∀ {x y : Bool}, beqB x y = true → x = y := fun h => by rw [beqB_eq] at h; simpa using h
    clear h
    split at h' <;> (try simp only [Bool.and_eq_true] at h') <;> try cases h'
    · rename_i h1 h2
      rw [keq_eq.1 h1]
      rw [ieq_eq] at h2
      rw [of_decide_eq_true h2]
    · rw [bb h']
    · rename_i h1 h2; rw [nb h1, nb h2]
    · rename_i h1 h2; rw [nb h1, nb h2]
    · rename_i h1 h2
      rw [nb h1.1.1, nb h1.1.2, nb h1.2.1, nb h1.2.2, nb h2.1, bb h2.2]
    · rename_i h1 h2; rw [nb h1, nb h2]
    · rw [nb h']
    · rw [nkEq_sound h']
    · rename_i h1 h2; rw [nb h1, ihl _ _ h2.1, ihl _ _ h2.2]
    · rw [nb h']
    · rename_i h1 h2; rw [nb h1, vEq_sound n _ _ h2]
    · rename_i h1 h2; rw [eq_of_beq h1, vEq_sound n _ _ h2]
    · rw [ihl _ _ h']
    · rw [ihl _ _ h']
theorem cMinL_le {m c : Nat} : ∀ (l : List Nat) (i r : Nat), r ≤ c → (∀ x e, l[x]? = some e → m.testBit e = true → i + x + 1 ≤ c) → cMinL m l i r ≤ c
  | [], i, r, hr, _ => hr
  | e :: l, i, r, hr, h => by
    show cMinL m l (i + 1) (cond (m.testBit e) (i + 1) r) ≤ c
    refine cMinL_le l _ _ ?_ fun x e' he hb => ?_
    · cases hb : m.testBit e with
      | false => exact hr
      | true => exact h 0 e rfl hb
    · have := h (x + 1) e' (by simpa using he) hb
      omega
theorem chained_spec {ops : List Oper} : ∀ (l : List Nat) (m a b : Nat), chained ops l = true → l[m]? = some a → l[m + 1]? = some b → (anc ops b).testBit a = true
  | x :: y :: l, 0, a, b, h, ha, hb => by
    simp at ha hb; subst ha; subst hb
    simp only [chained, Bool.and_eq_true] at h
    exact h.1
  | x :: y :: l, m + 1, a, b, h, ha, hb => by
    simp only [chained, Bool.and_eq_true] at h
    exact chained_spec (y :: l) m a b h.2 (by simpa using ha) (by simpa using hb)
  | [], _, _, _, _, ha, _ => by simp at ha
  | [x], m, _, _, _, _, hb => by simp at hb

section
variable {P : Program} {ops : List Oper}
theorem mem_es {j : Nat} : j ∈ es P ops ↔ j < ops.length ∧ isE P ops j = true := by
  unfold es; simp
theorem es_at {j : Nat} (hj : j < ops.length) (h : isE P ops j = true) : (es P ops)[cAt P ops j]? = some j := filter_at hj h
theorem es_idx {m j : Nat} (h : (es P ops)[m]? = some j) : cAt P ops j = m := by
  have hm := mem_es.1 (List.mem_of_getElem? h)
  have h2 := es_at hm.1 hm.2
  have hn : (es P ops).Nodup := List.nodup_range.filter _
  obtain ⟨a, b⟩ := List.getElem?_eq_some_iff.1 h
  obtain ⟨c, d⟩ := List.getElem?_eq_some_iff.1 h2
  have hp := List.pairwise_iff_getElem.1 hn
  rcases Nat.lt_trichotomy (cAt P ops j) m with h3 | h3 | h3
  · exact absurd (d.trans b.symm) (hp _ _ c a h3)
  · exact h3
  · exact absurd (b.trans d.symm) (hp _ _ a c h3)
theorem mem_frees {j : Nat} : j ∈ frees P ops ↔ j < ops.length ∧ isRd P ops j = false ∧ isE P ops j = false := by
  unfold frees; simp
theorem rk_at {j : Nat} (h : j ∈ frees P ops) : (frees P ops)[rk P ops j]? = some j := by
  have hlt : rk P ops j < (frees P ops).length := List.findIdx_lt_length_of_exists ⟨j, h, Nat.beq_refl j⟩
  have := List.findIdx_getElem (w := hlt) (p := fun i => Nat.beq i j)
  rw [List.getElem?_eq_getElem hlt]
  exact congrArg some (Nat.eq_of_beq_eq_true this)
theorem rk_inj {i j : Nat} (hi : i ∈ frees P ops) (hj : j ∈ frees P ops) (h : rk P ops i = rk P ops j) : i = j := by
  have h1 := rk_at hi
  rw [h, rk_at hj] at h1
  exact (Option.some.inj h1).symm
theorem rk_lt {j : Nat} (h : j ∈ frees P ops) : rk P ops j < nFree P ops := (List.getElem?_eq_some_iff.1 (rk_at h)).1
end

/-! ### One operation -/
def putE (e : Env) (dst : Option Nat) (u : Value) : Env := match dst with
  | none => e
  | some i => (i, u) :: e
def dOk (n : Nat) : Option Nat → Bool
  | none => true
  | some d => Nat.blt d n
theorem EOk.putO {n : Nat} {ms : List Dfr} {e : Env} {a : Act} (h : EOk n ms e a) {dst : Option Nat} (hd : dOk n dst = true) (v : Value) : EOk n ms (putE e dst v) (a.put dst v) := by
  cases dst with
  | none => exact h.put0 v
  | some d => exact h.put hd v

/-- An operation is carried out, wherever it stands. -/
def OpK (D : RC) (o : Oper) (K : Act → World → Prop) (a : Act) (w : World) : Prop :=
  if Region.wanted o (yielded D.ops.toArray a.tmps) = true then o.wpIn (WF D.C.rd) 0 D.C.P a w K (QK D.C D.k) else (∀ f, o.about D.C.P w a.eval = some f → (WF D.C.rd).fn f) ∧ K (a.put o.dst undef) w
section
variable {D : RC} {e : Env} {w w' : World} {o : Oper} {a : Act} {K : Act → World → Prop}
theorem kVal {u : Value} (ho : okw D e o.guard true = true) (hd : dOk D.C.n o.dst = true) (hy : Y D.C.P e o u w w') (ha : EOk D.C.n D.C.ms e a) (h : ∀ a, EOk D.C.n D.C.ms (putE e o.dst u) a → K a w') : OpK D o K a w := by
  unfold OpK
  rw [if_pos (okw_spec ha ho)]
  refine ⟨fun _ _ => trivial, ?_⟩
  have := hy a.eval (fun x v hx => ha.look hx)
  rw [semAt_run this (fun _ h => by cases h)]
  exact h _ (ha.putO hd u)
theorem kEff (ho : okw D e o.guard true = true) (hd : o.dst = none) (hy : Z D.C.P e o w w') (ha : EOk D.C.n D.C.ms e a) (h : ∀ a, EOk D.C.n D.C.ms e a → K a w') : OpK D o K a w := by
  unfold OpK
  rw [if_pos (okw_spec ha ho)]
  refine ⟨fun _ _ => trivial, ?_⟩
  have := hy a.eval (fun x v hx => ha.look hx)
  rw [semAt_run this (fun _ h => by cases h)]
  have := ha.put0 undef
  rw [← hd] at this
  exact h _ this
theorem kSkip (ho : okw D e o.guard false = true) (hd : dOk D.C.n o.dst = true) (ha : EOk D.C.n D.C.ms e a) (h : ∀ a, EOk D.C.n D.C.ms (putE e o.dst undef) a → K a w) : OpK D o K a w := by
  unfold OpK
  rw [if_neg (by rw [okw_spec ha ho]; simp)]
  exact ⟨fun _ _ => trivial, h _ (ha.putO hd undef)⟩
theorem kCall {f : FuncId} {args : List Value} {S : Value → World → Prop} (ho : okw D e o.guard true = true) (hd : dOk D.C.n o.dst = true) (hy : Yc D.C.P e o f args w) (hc : Ret D.C.P f args w S) (ha : EOk D.C.n D.C.ms e a)
    (h : ∀ v w', S v w' → ∀ a, EOk D.C.n D.C.ms (putE e o.dst v) a → K a w') : OpK D o K a w := by
  unfold OpK
  rw [if_pos (okw_spec ha ho)]
  refine ⟨fun _ _ => trivial, ?_⟩
  have := hy a.eval (fun x v hx => ha.look hx)
  rw [semAt_run this (fun _ h => by cases h)]
  exact ⟨noDepth, callsIn_WF (Calls.mono hc fun x w' ⟨v, hx, hv⟩ => by subst hx; exact h v w' hv _ (ha.putO hd v))⟩
theorem kYield {l : Nat} {args : List Value} {S : Value → World → Prop} (ho : okw D e o.guard true = true) (hd : dOk D.C.n o.dst = true) (hy : Yy D.C.P e o l args w) (hc : RetY D.C.P l args w S) (ha : EOk D.C.n D.C.ms e a)
    (h : ∀ v w', S v w' → ∀ a, EOk D.C.n D.C.ms (putE e o.dst v) a → K a w') : OpK D o K a w := by
  unfold OpK
  rw [if_pos (okw_spec ha ho)]
  refine ⟨fun _ _ => trivial, ?_⟩
  have h1 := hy a.eval (fun x v hx => ha.look hx)
  obtain ⟨r, hr, hl, hR⟩ := hc
  rw [run_yield hr (by simpa using hl)] at h1
  rw [semAt_run h1 (fun _ h => by cases h)]
  exact ⟨noDepth, round_WF (hR.mono fun x w' ⟨v, hx, hv⟩ => by subst hx; exact h v w' hv _ (ha.putO hd v))⟩
end

/-! ### What is known of the frame when some operations have been carried out -/
def Lst (L : Array Bool) (j : Nat) : Prop := L.getD j false = true
structure EnvL (φ : Ph) (ops : List Oper) (L : Array Bool) (d : Nat) (E0 E : Tr V d) (e : Env) : Prop where
  new : ∀ t, vGet d t E ≠ .und → (∀ i o, ops[i]? = some o → o.dst = some t → Lst L i) → ∃ u, fnd e t = some u ∧ CV φ (vGet d t E) u
  old : ∀ t, vGet d t E0 ≠ .und → (∀ i o, ops[i]? = some o → o.dst = some t → ¬ Lst L i) → ∃ u, fnd e t = some u ∧ CV φ (vGet d t E0) u
theorem lst_set {L : Array Bool} {i j : Nat} (hi : i < L.size) : Lst (L.setIfInBounds i true) j ↔ j = i ∨ Lst L j := by
  unfold Lst
  rw [Array.getD_eq_getD_getElem?, Array.getD_eq_getD_getElem?, Array.getElem?_setIfInBounds]
  by_cases h : i = j
  · subst h; simp [hi]
  · rw [if_neg h]
    constructor
    · exact .inr
    · rintro (rfl | h')
      · exact absurd rfl h
      · exact h'
theorem EnvL.put {φ φ' : Ph} {ops : List Oper} {L : Array Bool} {d : Nat} {E0 E : Tr V d} {e : Env} {i : Nat} {o : Oper} {x : V} {u : Value} (h : EnvL φ ops L d E0 E e) (hs : Sb φ φ') (hi : i < L.size) (ho : ops[i]? = some o) (hx : SV d E o.dst x) (hc : CV φ' x u) :
    EnvL φ' ops (L.setIfInBounds i true) d E0 E (putE e o.dst u) := by
  have hfnd : ∀ t, o.dst ≠ some t → fnd (putE e o.dst u) t = fnd e t := fun t hd => by
    cases hq : o.dst with
    | none => rfl
    | some s =>
      have : Nat.beq t s = false := by
        rw [Bool.eq_false_iff]; intro hb
        exact hd (by rw [hq, Nat.eq_of_beq_eq_true hb])
      simp [putE, fnd, this]
  refine ⟨fun t ht hw => ?_, fun t ht hw => ?_⟩
  · by_cases hd : o.dst = some t
    · refine ⟨u, ?_, ?_⟩
      · rw [hd]
        have : Nat.beq t t = true := Nat.beq_refl t
        simp [putE, fnd, this]
      · rcases hx t hd with h1 | h1
        · rw [h1]; exact hc
        · exact absurd h1 ht
    · obtain ⟨u', h1, h2⟩ := h.new t ht fun i' o' ho' hd' => by
        rcases (lst_set hi).1 (hw i' o' ho' hd') with rfl | h1
        · rw [ho] at ho'; cases ho'; exact absurd hd' hd
        · exact h1
      exact ⟨u', (hfnd t hd).trans h1, h2.mono hs⟩
  · by_cases hd : o.dst = some t
    · exact absurd ((lst_set hi).2 (.inl rfl)) (hw i o ho hd)
    · obtain ⟨u', h1, h2⟩ := h.old t ht fun i' o' ho' hd' hl => hw i' o' ho' hd' ((lst_set hi).2 (.inr hl))
      exact ⟨u', (hfnd t hd).trans h1, h2.mono hs⟩
/-- What an operation may look at. -/
def only (l : List Nat) (ρ : Operand → V) : Operand → V
  | .tmp t => cond (l.contains t) (ρ (.tmp t)) .und
  | x => ρ x
theorem only_eq {l : List Operand} (ρ : Operand → V) (x : Operand) (hx : x ∈ l) : only (tmpsOf l) ρ x = ρ x := by
  cases x with
  | tmp t =>
    have : (tmpsOf l).contains t = true := by simpa using tmps_mem hx
    simp only [only, this, cond_true]
  | _ => rfl
theorem only_rho {G : Nat} {φ : Ph} {h : H} {w : World} {d : Nat} {E : Tr V d} {e : Env} {l : List Nat} (r : Rel G φ h w) (hl : ∀ t ∈ l, vGet d t E ≠ .und → ∃ u, fnd e t = some u ∧ CV φ (vGet d t E) u) : RhoR φ (only l (opV G d E)) e := fun x hx => by
  cases x with
  | tmp t =>
    have hxx : only l (opV G d E) (.tmp t) = cond (l.contains t) (vGet d t E) .und := rfl
    rw [hxx] at hx ⊢
    cases hm : l.contains t with
    | false => rw [hm] at hx; exact absurd rfl hx
    | true =>
      rw [hm] at hx
      exact hl t (by simpa using hm) hx
  | const v => exact ⟨v, rfl, cv_ofV hx⟩
  | global g =>
    have hxx : only l (opV G d E) (.global g) = cond (Nat.blt g G) (.ptr g 0) .und := rfl
    rw [hxx] at hx ⊢
    cases hg : Nat.blt g G with
    | false => simp [hg] at hx
    | true =>
      obtain ⟨N, hp⟩ := r.glob g (by simpa using hg)
      exact ⟨_, rfl, .ptr hp⟩
  | func f => exact ⟨_, rfl, .fn .nil .nil⟩
theorem wantsL_ok {φ : Ph} {D : RC} {d : Nat} {E : Tr V d} {e : Env} {o : Oper} {t : Bool} (hl : ∀ t ∈ readsOf D.ops o, vGet d t E ≠ .und → ∃ u, fnd e t = some u ∧ CV φ (vGet d t E) u) (hw : wants d E D.ops o.guard = some t) : okw D e o.guard t = true := by
  unfold okw
  unfold wants at hw
  split at hw
  · rename_i hg
    cases hw
    rw [hg]; rfl
  · rename_i j b hg
    rw [hg]
    split at hw <;> try cases hw
    rename_i q hq
    split at hw <;> try cases hw
    rename_i i hi
    have hmem : i ∈ readsOf D.ops o := by
      unfold readsOf
      rw [List.mem_append, hg]
      simp [hq, hi]
    split at hw <;> try cases hw
    · rename_i c hc
      obtain ⟨u, h1, h2⟩ := hl i hmem (by rw [hc]; simp)
      rw [hc] at h2
      cases h2
      simp only [okg, wantE, hq, hi, h1]
      cases b <;> cases c <;> rfl
    · rename_i l hc
      obtain ⟨u, h1, h2⟩ := hl i hmem (by rw [hc]; simp)
      rw [hc] at h2
      cases h2
      simp only [okg, wantE, hq, hi, h1]
end Go.Proofs.Ytkhkebcflaokpaa
namespace Go.Proofs.Ytkhkebcflaokpaa
open Go Go.RowKit
set_option linter.all false

/-- What the reckoner has seen of a region. -/
structure Seen (P : Program) (G : Nat) (X : Hook P G) (ih : RunT) (ops : List Oper) (b0 : Nat) (fr : Fr) (E0 Ef : Tr V fr.d) (hh : List H) (al : List (Nat × B)) (Es : List (Tr V fr.d)) : Prop where
  dsts : dstsOk fr.n ops = true
  slot : slotsOk ops = true
  back : backOk ops = true
  nod : (dstsOf ops).Nodup
  chain : chained ops (es P ops) = true
  fact : ∀ i o, ops[i]? = some o → ∃ Ej, Es[i]? = some Ej ∧ EnvAt ops fr.d E0 Ef Ej i o ∧ Fact P G X ih ops b0 fr Ef Ej hh al i o
  reads : readsOk P G ops b0 fr.d Ef hh al Es = true
  alf : ∀ p ∈ al, p.1 ∈ frees P ops ∧ ∃ o Ej, ops[p.1]? = some o ∧ Es[p.1]? = some Ej ∧ wants fr.d Ej ops o.guard = some true
  aln : (al.map (·.1)).Nodup
  len : hh.length = (es P ops).length + 1

/-- Blocks that have been made, and are not yet in the memory of the acting operations. -/
noncomputable def pendB (P : Program) (ops : List Oper) (L : Array Bool) (c : Nat) (p : Nat × B) : Bool := and (L.getD p.1 false) (lateB P ops c p)
theorem pendB_spec {P : Program} {ops : List Oper} {L : Array Bool} {c : Nat} {p : Nat × B} : pendB P ops L c p = true ↔ Lst L p.1 ∧ c ≤ cMax P ops p.1 := by
  unfold pendB lateB Lst
  rw [Bool.and_eq_true]
  simp

/-- What holds when the operations of L have been carried out. -/
structure Inv (P : Program) (G : Nat) (ops : List Oper) (fr : Fr) (E0 Ef : Tr V fr.d) (hh : List H) (al : List (Nat × B)) (φ0 : Ph) (h0 : H) (w0 : World) (L : Array Bool) (c : Nat) (hc : H) (φ : Ph) (w : World) (e : Env) : Prop where
  post : Post G φ0 h0 w0 φ (addA P ops h0.next (al.filter (pendB P ops L c)) hc) w
  at' : hh[c]? = some hc
  nx : h0.next + nFree P ops ≤ hc.next
  od : ∀ j ∈ frees P ops, c ≤ cMax P ops j → hGet hc (h0.next + rk P ops j) = none
  ph : ∀ j ∈ frees P ops, ¬ Lst L j → φ (h0.next + rk P ops j) = none
  env : EnvL φ ops L fr.d E0 Ef e
  acts : ∀ j, j < ops.length → isE P ops j = true → (Lst L j ↔ cAt P ops j < c)
  clo : Closed ops (Lst L)
  len : L.size = ops.length

section
variable {P : Program} {G : Nat} {X : Hook P G} {ih : RunT} {ops : List Oper} {fr : Fr} {E0 Ef : Tr V fr.d} {hh : List H} {al : List (Nat × B)} {Es : List (Tr V fr.d)} {φ0 φ : Ph} {h0 hc : H} {w0 w : World} {L : Array Bool} {c : Nat} {e : Env}

theorem Seen.nd {b0 : Nat} (S : Seen P G X ih ops b0 fr E0 Ef hh al Es) (f : Nat × B → Bool) : ((al.filter f).map fun q => rk P ops q.1).Nodup := by
  have h1 : al.Pairwise fun a b => a.1 ≠ b.1 := List.pairwise_map.1 S.aln
  have h2 : al.Pairwise fun a b => rk P ops a.1 ≠ rk P ops b.1 := List.Pairwise.imp_of_mem (fun {a b} ha hb hn hr => hn (rk_inj (S.alf a ha).1 (S.alf b hb).1 hr)) h1
  exact List.pairwise_map.2 (h2.sublist List.filter_sublist)

theorem Inv.old (S : Seen P G X ih ops h0.next fr E0 Ef hh al Es) (I : Inv P G ops fr E0 Ef hh al φ0 h0 w0 L c hc φ w e) (b : Nat) (y : B) (hb : hGet hc b = some y) : hGet (addA P ops h0.next (al.filter (pendB P ops L c)) hc) b = some y := by
  refine (addA_ne _ _ fun p hp hbb => ?_).trans hb
  have hp := List.mem_filter.1 hp
  have := I.od p.1 (S.alf p hp.1).1 (pendB_spec.1 hp.2).2
  rw [← hbb, hb] at this
  cases this
theorem Inv.alw (S : Seen P G X ih ops h0.next fr E0 Ef hh al Es) (I : Inv P G ops fr E0 Ef hh al φ0 h0 w0 L c hc φ w e) {p : Nat × B} (hp : p ∈ al) (hl : Lst L p.1) (hm : c ≤ cMax P ops p.1) (hb : h0.next + rk P ops p.1 < 16 ^ HD) : hGet (addA P ops h0.next (al.filter (pendB P ops L c)) hc) (h0.next + rk P ops p.1) = some p.2 :=
  addA_in _ _ (S.nd _) (List.mem_filter.2 ⟨hp, pendB_spec.2 ⟨hl, hm⟩⟩) hb
theorem Inv.sub (S : Seen P G X ih ops h0.next fr E0 Ef hh al Es) (I : Inv P G ops fr E0 Ef hh al φ0 h0 w0 L c hc φ w e) {f : Nat × B → Bool} (hf : ∀ p ∈ al, f p = true → Lst L p.1 ∧ c ≤ cMax P ops p.1) (b : Nat) (y : B) (hb : hGet (addA P ops h0.next (al.filter f) hc) b = some y) : hGet (addA P ops h0.next (al.filter (pendB P ops L c)) hc) b = some y := by
  have hlt := hGet_lt hb
  rcases addA_some _ _ hb with ⟨h1, -⟩ | ⟨p, h1, rfl, rfl⟩
  · exact I.old S b y h1
  · have h2 := List.mem_filter.1 h1
    have h3 := hf p h2.1 h2.2
    exact I.alw S h2.1 h3.1 h3.2 hlt
theorem Inv.part (S : Seen P G X ih ops h0.next fr E0 Ef hh al Es) (I : Inv P G ops fr E0 Ef hh al φ0 h0 w0 L c hc φ w e) {f : Nat × B → Bool} (hf : ∀ p ∈ al, f p = true → Lst L p.1 ∧ c ≤ cMax P ops p.1) : Rel G φ (addA P ops h0.next (al.filter f) hc) w :=
  I.post.rel.sub (by rw [addA_next, addA_next]) (I.sub S hf)

theorem filt_same {i : Nat} (hi : i < L.size) (h : ∀ p ∈ al, p.1 ≠ i) : al.filter (pendB P ops (L.setIfInBounds i true) c) = al.filter (pendB P ops L c) :=
  List.filter_congr fun p hp => by
    rw [Bool.eq_iff_iff, pendB_spec, pendB_spec, lst_set hi]
    constructor
    · rintro ⟨h2 | h2, h3⟩
      · exact absurd h2 (h p hp)
      · exact ⟨h2, h3⟩
    · exact fun h2 => ⟨.inr h2.1, h2.2⟩

theorem inv_step (hS : Sd P G X ih) (S : Seen P G X ih ops h0.next fr E0 Ef hh al Es) {D : RC} (hDo : D.ops = ops) (hDP : D.C.P = P) (hDn : D.C.n = fr.n) (I : Inv P G ops fr E0 Ef hh al φ0 h0 w0 L c hc φ w e) {i : Nat} {o : Oper} (hi : ops[i]? = some o) (hun : ¬ Lst L i)
    (hrdy : ∀ e ∈ o.after.toList, Region.binds .any e = true → Lst L e.on) {K : Act → World → Prop} (hK : ∀ c' hc' φ' w' e', Inv P G ops fr E0 Ef hh al φ0 h0 w0 (L.setIfInBounds i true) c' hc' φ' w' e' → ∀ a, EOk D.C.n D.C.ms e' a → K a w') {a : Act} (ha : EOk D.C.n D.C.ms e a) : OpK D o K a w := by
  subst hDP
  have hil : i < ops.length := (List.getElem?_eq_some_iff.1 hi).1
  have hiL : i < L.size := by rw [I.len]; exact hil
  have ancL : ∀ j, (anc ops i).testBit j = true → Lst L j := fun j hj => anc_closed I.clo i j o hi hrdy hj
  obtain ⟨Ej, hEs, henvj, hfact⟩ := S.fact i o hi
  have rdL : ∀ t ∈ readsOf ops o, vGet fr.d t Ej ≠ .und → ∃ u, fnd e t = some u ∧ CV φ (vGet fr.d t Ej) u := fun t ht hne => by
    by_cases hw : ∃ i' q, ops[i']? = some q ∧ q.dst = some t ∧ (anc ops i).testBit i' = true
    · obtain ⟨i', q, h1, h2, h3⟩ := hw
      have hall : ∀ i'' q', ops[i'']? = some q' → q'.dst = some t → (anc ops i).testBit i'' = true := fun i'' q' h4 h5 => by
        rw [dst_inj S.nod h4 h1 h5 h2]; exact h3
      have h6 := henvj.new t ht hall
      rw [h6] at hne ⊢
      exact I.env.new t hne fun i'' q' h4 h5 => ancL _ (hall i'' q' h4 h5)
    · have hall : ∀ i'' q', ops[i'']? = some q' → q'.dst = some t → ¬ (anc ops i).testBit i'' = true := fun i'' q' h4 h5 h6 => hw ⟨i'', q', h4, h5, h6⟩
      have h6 := henvj.old t ht hall
      rw [h6] at hne ⊢
      refine I.env.old t hne fun i'' q' h4 h5 h7 => ?_
      rcases slots_anc S.slot hi ht h4 h5 with h8 | h8 | h8
      · exact hall i'' q' h4 h5 h8
      · exact hun (h8 ▸ h7)
      · exact hun (anc_closed I.clo i'' i q' h4 (fun ed he hb => I.clo i'' q' ed h4 h7 he hb) h8)
  have opL : ∀ t ∈ tmpsOf o.op.operands.toList, vGet fr.d t Ej ≠ .und → ∃ u, fnd e t = some u ∧ CV φ (vGet fr.d t Ej) u := fun t ht => rdL t (by unfold readsOf; exact List.mem_append_left _ ht)
  have congr : ∀ x ∈ o.op.operands, only (tmpsOf o.op.operands.toList) (opV G fr.d Ej) x = opV G fr.d Ej x := fun x hx => only_eq _ x (by simpa using hx)
  have len' : (L.setIfInBounds i true).size = ops.length := by simp [I.len]
  have mono : ∀ j, Lst L j → Lst (L.setIfInBounds i true) j := fun j hj => (lst_set hiL).2 (.inr hj)
  have clo' : Closed ops (Lst (L.setIfInBounds i true)) := fun j q ed hq hj he hb => by
    rcases (lst_set hiL).1 hj with rfl | hj
    · rw [hi] at hq; cases hq
      exact mono _ (hrdy ed he hb)
    · exact mono _ (I.clo j q ed hq hj he hb)
  have hd : dOk D.C.n o.dst = true := by
    rw [hDn]
    cases hq : o.dst with
    | none => rfl
    | some t => exact dstsOk_spec S.dsts i o t hi hq
  have acts0 : isE D.C.P ops i = false → ∀ j, j < ops.length → isE D.C.P ops j = true → (Lst (L.setIfInBounds i true) j ↔ cAt D.C.P ops j < c) := fun hE j hj hEj => by
    rw [lst_set hiL, ← I.acts j hj hEj]
    constructor
    · rintro (rfl | h)
      · rw [hE] at hEj; cases hEj
      · exact h
    · exact .inr
  have atc : isE D.C.P ops i = true → cAt D.C.P ops i = c := fun hE => by
    have h1 : ¬ cAt D.C.P ops i < c := fun h => hun ((I.acts i hil hE).2 h)
    have h2 : ¬ c < cAt D.C.P ops i := fun h => by
      have h3 := es_at hil hE
      have h4 := (List.getElem?_eq_some_iff.1 h3).1
      obtain ⟨m, hm⟩ : ∃ m, cAt D.C.P ops i = m + 1 := ⟨cAt D.C.P ops i - 1, by omega⟩
      have h5 : (es D.C.P ops)[m]? = some ((es D.C.P ops)[m]'(by omega)) := List.getElem?_eq_getElem _
      rw [hm] at h3
      have h6 := ancL _ (chained_spec _ m _ _ S.chain h5 h3)
      have h7 := mem_es.1 (List.mem_of_getElem? h5)
      have h8 := (I.acts _ h7.1 h7.2).1 h6
      rw [es_idx h5] at h8
      omega
    omega
  have acts1 : isE D.C.P ops i = true → ∀ j, j < ops.length → isE D.C.P ops j = true → (Lst (L.setIfInBounds i true) j ↔ cAt D.C.P ops j < c + 1) := fun hE j hj hEj => by
    rw [lst_set hiL, I.acts j hj hEj]
    constructor
    · rintro (rfl | h)
      · rw [atc hE]; omega
      · omega
    · intro h
      rcases Nat.lt_or_ge (cAt D.C.P ops j) c with h1 | h1
      · exact .inr h1
      · have h2 : cAt D.C.P ops j = cAt D.C.P ops i := by rw [atc hE]; omega
        have h3 := es_at hj hEj
        rw [h2, es_at hil hE] at h3
        exact .inl (Option.some.inj h3).symm
  have ph0 : ∀ {φ' : Ph}, (∀ j ∈ frees D.C.P ops, ¬ Lst L j → φ' (h0.next + rk D.C.P ops j) = none) → ∀ j ∈ frees D.C.P ops, ¬ Lst (L.setIfInBounds i true) j → φ' (h0.next + rk D.C.P ops j) = none := fun h j hj hn => h j hj fun hl => hn (mono j hl)
  have hmax : c ≤ cMax D.C.P ops i := by
    rcases Nat.lt_or_ge (cMax D.C.P ops i) (es D.C.P ops).length with h1 | h1
    · have h2 : (anc ops (es D.C.P ops)[cMax D.C.P ops i]).testBit i = true := List.findIdx_getElem (w := h1) (p := fun e => (anc ops e).testBit i)
      have h3 : (es D.C.P ops)[cMax D.C.P ops i]? = some ((es D.C.P ops)[cMax D.C.P ops i]) := List.getElem?_eq_getElem h1
      have h4 := mem_es.1 (List.mem_of_getElem? h3)
      have h5 := es_idx h3
      rcases Nat.lt_or_ge (cMax D.C.P ops i) c with h6 | h6
      · exfalso
        have h7 := (I.acts _ h4.1 h4.2).2 (by rw [h5]; exact h6)
        obtain ⟨q, hq⟩ : ∃ q, ops[(es D.C.P ops)[cMax D.C.P ops i]]? = some q := ⟨_, List.getElem?_eq_getElem h4.1⟩
        exact hun (anc_closed I.clo _ i q hq (fun ed he hb => I.clo _ q ed hq h7 he hb) h2)
      · exact h6
    · have h2 := (List.getElem?_eq_some_iff.1 I.at').1
      rw [S.len] at h2
      omega
  have hjoin : isE D.C.P ops i = true → ∀ p ∈ al, joinB D.C.P ops c p = true → Lst L p.1 ∧ c ≤ cMax D.C.P ops p.1 := fun hE p _ hj => by
    have h1 : cMax D.C.P ops p.1 = c := Nat.eq_of_beq_eq_true hj
    rw [← atc hE] at hj
    exact ⟨ancL _ (join_anc hil hE hj), by omega⟩
  have odmet : isE D.C.P ops i = true → ∀ j ∈ frees D.C.P ops, c + 1 ≤ cMax D.C.P ops j → hGet (metH D.C.P ops h0.next al c hc) (h0.next + rk D.C.P ops j) = none := fun hE j hj hm => by
    cases hq : hGet (metH D.C.P ops h0.next al c hc) (h0.next + rk D.C.P ops j) with
    | none => rfl
    | some y =>
      rcases addA_some _ _ hq with ⟨h1, -⟩ | ⟨p, h1, h2, -⟩
      · rw [I.od j hj (by omega)] at h1; cases h1
      · have h3 := List.mem_filter.1 h1
        have h4 : j = p.1 := rk_inj hj (S.alf p h3.1).1 (by omega)
        have h5 : cMax D.C.P ops p.1 = c := Nat.eq_of_beq_eq_true h3.2
        rw [← h4] at h5
        omega
  cases hfact with
  | no hw hsv hE =>
    have hok : okw D e o.guard false = true := by
      subst hDo; exact wantsL_ok rdL hw
    have hfil := fun c => filt_same (P := D.C.P) (ops := ops) (c := c) hiL fun p hp e => by
      obtain ⟨-, q, Eq, h1, h2, h3⟩ := S.alf p hp
      rw [e] at h1 h2
      rw [hi] at h1; cases h1
      rw [hEs] at h2; cases h2
      rw [hw] at h3; cases h3
    have henv := I.env.put (Sb.refl φ) hiL hi hsv (u := undef) (.tup .nil)
    cases hEi : isE D.C.P ops i with
    | false => exact kSkip hok hd ha fun a' ha' => hK c hc φ w _ ⟨by rw [hfil]; exact I.post, I.at', I.nx, I.od, ph0 I.ph, henv, acts0 hEi, clo', len'⟩ a' ha'
    | true =>
      obtain ⟨hc2, h1, h2⟩ := hE hEi
      rw [atc hEi] at h1 h2
      rw [I.at'] at h1; cases h1
      refine kSkip hok hd ha fun a' ha' => hK (c + 1) _ φ w _ ⟨?_, h2, (by unfold metH; rw [addA_next]; exact I.nx), fun j hj hm => odmet hEi j hj hm, ph0 I.ph, henv, acts1 hEi, clo', len'⟩ a' ha'
      rw [hfil]
      refine I.post.same (by unfold metH; rw [addA_next, addA_next, addA_next]) fun b y hb => ?_
      have hblt := hGet_lt hb
      rcases addA_some _ _ hb with ⟨h1, -⟩ | ⟨p, h1, h3, h4⟩
      · exact I.sub S (hjoin hEi) b y h1
      · have h5 := List.mem_filter.1 h1
        have h6 := pendB_spec.1 h5.2
        rw [h4, h3]
        exact I.alw S h5.1 h6.1 (by omega) (h3 ▸ hblt)
  | rd hw hrd =>
    have hok : okw D e o.guard true = true := by
      subst hDo; exact wantsL_ok rdL hw
    have hEi : isE D.C.P ops i = false := by unfold isE; rw [hrd]; rfl
    have hfil := fun c => filt_same (P := D.C.P) (ops := ops) (c := c) hiL fun p hp e => by
      have := (mem_frees.1 (S.alf p hp).1).2.1
      rw [e, hrd] at this; cases this
    have hmin : cMin D.C.P ops i ≤ c := cMinL_le _ _ _ (Nat.zero_le _) fun m j hm hb => by
      have h1 := mem_es.1 (List.mem_of_getElem? hm)
      have h2 := (I.acts j h1.1 h1.2).1 (ancL j hb)
      rw [es_idx hm] at h2
      omega
    have hr := List.all_eq_true.1 S.reads i (List.mem_range.2 hil)
    rw [hi] at hr
    simp only [hrd, cond_true, hEs, hw] at hr
    have hr2 := List.all_eq_true.1 hr c (by
      rw [List.mem_range'_1]
      exact ⟨hmin, by show c < cMin D.C.P ops i + (cMax D.C.P ops i + 1 - cMin D.C.P ops i); omega⟩)
    unfold readOk at hr2
    rw [I.at'] at hr2
    simp only [addAll_eq] at hr2
    split at hr2 <;> try cases hr2
    rename_i x hx hev
    have relR := I.part S (f := fun p => and ((anc ops i).testBit p.1) (lateB D.C.P ops c p)) fun p _ hp => by
      rw [Bool.and_eq_true] at hp
      exact ⟨ancL _ hp.1, by simpa [lateB] using hp.2⟩
    have hop : rdOp D.C.P o.op = true := by
      unfold isRd at hrd; rw [hi] at hrd; exact hrd
    obtain ⟨dst, op, ty, pos, aft, g⟩ := o
    have q := evOp_q (P := D.C.P) (G := G) (d := dst) (ty := ty) (pos := pos) (aft := aft) (g := g) relR (only_rho relR opL) hop
    rw [evOp_congr congr, hev] at q
    obtain ⟨-, u, hy, hcv⟩ := q
    have hsv : SV fr.d Ef dst x := fun t ht => by
      subst ht
      exact .inl (vEq_sound _ _ _ hr2).symm
    exact kVal hok hd hy ha fun a' ha' => hK c hc φ w _ ⟨by rw [hfil]; exact I.post, I.at', I.nx, I.od, ph0 I.ph, I.env.put (Sb.refl φ) hiL hi hsv hcv, acts0 hEi, clo', len'⟩ a' ha'
  | al x mk hw hrd hEi hal hmem hsv =>
    have hok : okw D e o.guard true = true := by
      subst hDo; exact wantsL_ok rdL hw
    have hfr : i ∈ frees D.C.P ops := mem_frees.2 ⟨hil, hrd, hEi⟩
    obtain ⟨dst, op, ty, pos, aft, g⟩ := o
    have q := alOp_ok (P := D.C.P) (w := w) (d := dst) (ty := ty) (pos := pos) (aft := aft) (g := g) (op := op) (only_rho (d := fr.d) I.post.rel opL)
    rw [alOp_congr congr, hal] at q
    obtain ⟨obj, u, N, hy, hro, hbr, hcv⟩ := q
    have hph := I.ph i hfr hun
    have hlt : h0.next + rk D.C.P ops i < hc.next := Nat.lt_of_lt_of_le (Nat.add_lt_add_left (rk_lt hfr) _) I.nx
    have hsb : Sb φ (addPh φ (h0.next + rk D.C.P ops i) (w.heap.size, 0, N)) := fun b r hb => by
      unfold addPh
      split
      · rename_i e; rw [e, hph] at hb; cases hb
      · exact hb
    have hpost := I.post.newAt (K' := addA D.C.P ops h0.next (al.filter (pendB D.C.P ops (L.setIfInBounds i true) c)) hc) (x := x) (b' := w.heap.size) (N := N) (Nat.le_add_right _ _) (by rw [addA_next]; exact hlt) hph (ext_alloc w obj) (Nat.le_refl _) (hbr _ hsb) hro (by rw [addA_next, addA_next]) fun b y hb => by
      have hblt := hGet_lt hb
      rcases addA_some _ _ hb with ⟨h1, h2⟩ | ⟨p, h1, h2, h3⟩
      · exact .inl ⟨h2 (i, x) (List.mem_filter.2 ⟨hmem, pendB_spec.2 ⟨(lst_set hiL).2 (.inl rfl), hmax⟩⟩), I.old S b y h1⟩
      · have h4 := List.mem_filter.1 h1
        by_cases hpi : p.1 = i
        · refine .inr ⟨by rw [h2, hpi], ?_⟩
          have hnd := S.aln
          have : p = (i, x) := by
            have hp := List.pairwise_map.1 hnd
            obtain ⟨m, hm, e1⟩ := List.getElem_of_mem h4.1
            obtain ⟨m', hm', e2⟩ := List.getElem_of_mem hmem
            have hpw := List.pairwise_iff_getElem.1 hp
            rcases Nat.lt_trichotomy m m' with h5 | h5 | h5
            · exact absurd (by rw [e1, e2, hpi]) (hpw m m' hm hm' h5)
            · subst h5; rw [← e1, e2]
            · exact absurd (by rw [e1, e2, hpi]) (hpw m' m hm' hm h5)
          rw [h3, this]
        · have hl : Lst L p.1 := by
            rcases (lst_set hiL).1 (pendB_spec.1 h4.2).1 with h5 | h5
            · exact absurd h5 hpi
            · exact h5
          refine .inl ⟨fun e => hpi (rk_inj (S.alf p h4.1).1 hfr (by omega)), ?_⟩
          rw [h3, h2]
          exact I.alw S h4.1 hl (pendB_spec.1 h4.2).2 (h2 ▸ hblt)
    refine kVal hok hd hy ha fun a' ha' => hK c hc _ _ _ ⟨hpost, I.at', I.nx, I.od, fun j hj hn => ?_, I.env.put hsb hiL hi hsv (hcv _ _ (addPh_same _ _ _)), acts0 hEi, clo', len'⟩ a' ha'
    have hji : j ≠ i := fun e => hn (e ▸ (lst_set hiL).2 (.inl rfl))
    show (if h0.next + rk D.C.P ops j = h0.next + rk D.C.P ops i then _ else _) = none
    rw [if_neg fun e => hji (rk_inj hj hfr (by omega))]
    exact I.ph j hj fun h => hn (mono j h)
  | ac hc0 hc' hw hrd hEi hat hat' hdo =>
    have hok : okw D e o.guard true = true := by
      subst hDo; exact wantsL_ok rdL hw
    rw [atc hEi] at hat hat'
    rw [I.at'] at hat; cases hat
    have hfil := fun c => filt_same (P := D.C.P) (ops := ops) (c := c) hiL fun p hp e => by
      have := (mem_frees.1 (S.alf p hp).1).2.2
      rw [e, hEi] at this; cases this
    rw [atc hEi] at hdo
    have next : ∀ {φ1 : Ph} {w1 : World} {x : V} {u : Value}, Post G φ (metH D.C.P ops h0.next al c hc) w φ1 hc' w1 → CV φ1 x u → SV fr.d Ef o.dst x → Inv D.C.P G ops fr E0 Ef hh al φ0 h0 w0 (L.setIfInBounds i true) (c + 1) hc' φ1 w1 (putE e o.dst u) := fun {φ1 w1 x u} q hcv hsv => by
      have hmn : (metH D.C.P ops h0.next al c hc).next = hc.next := addA_next _ _
      have hnx := q.hp.nx
      rw [hmn] at hnx
      refine ⟨?_, hat', Nat.le_trans I.nx hnx, fun j hj hm => q.hp.od _ ?_ (odmet hEi j hj hm), fun j hj hn => ?_, I.env.put q.sb hiL hi hsv hcv, acts1 hEi, clo', len'⟩
      · rw [hfil]
        refine I.post.frame (hmn.trans (addA_next _ _).symm) (I.sub S (hjoin hEi)) q (by rw [addA_next]) fun b y hb => ?_
        have hblt := hGet_lt hb
        rcases addA_some _ _ hb with ⟨h1, -⟩ | ⟨p, h1, h2, h3⟩
        · exact .inl h1
        · have h4 := List.mem_filter.1 h1
          have h5 := pendB_spec.1 h4.2
          refine .inr ⟨?_, ?_⟩
          · rw [h3, h2]; exact I.alw S h4.1 h5.1 (by omega) (h2 ▸ hblt)
          · rw [h2]; exact odmet hEi _ (S.alf p h4.1).1 h5.2
      · rw [hmn]; exact Nat.lt_of_lt_of_le (Nat.add_lt_add_left (rk_lt hj) _) I.nx
      · rw [q.hp.dm _ (by rw [hmn]; exact Nat.lt_of_lt_of_le (Nat.add_lt_add_left (rk_lt hj) _) I.nx)]
        exact I.ph j hj fun h => hn (mono j h)
    have relc : Rel G φ (metH D.C.P ops h0.next al c hc) w := I.part S (hjoin hEi)
    obtain ⟨dst, op, ty, pos, aft, g⟩ := o
    have q := evOp_ok (P := D.C.P) (G := G) (d := dst) (ty := ty) (pos := pos) (aft := aft) (g := g) (op := op) relc (only_rho (d := fr.d) relc opL)
    rw [evOp_congr congr] at q
    revert q hdo
    generalize evOp D.C.P (opV G fr.d Ej) op (metH D.C.P ops h0.next al c hc) = rr
    intro hdo q
    cases rr with
    | v x h1 =>
      obtain ⟨rfl, hsv⟩ := hdo
      obtain ⟨u, w1, φ1, hy, hp, hcv⟩ := q
      exact kVal hok hd hy ha fun a' ha' => hK _ _ _ _ _ (next hp hcv hsv) a' ha'
    | eff h1 =>
      obtain ⟨rfl, hdst⟩ := hdo
      obtain ⟨w1, φ1, hz, hp⟩ := q
      simp only at hdst
      subst hdst
      exact kEff hok rfl hz ha fun a' ha' => hK _ _ _ _ _ (next (u := undef) hp .und fun t ht => by cases ht) a' ha'
    | call f args =>
      obtain ⟨x, hen, hsv⟩ := hdo
      obtain ⟨us, hy, hcs, hv⟩ := q
      rcases enter_ok hS hen relc hcs with ⟨hCF, hRet⟩ | ⟨u, w1, hrun, φ1, hp, hcv⟩
      · have hy := hy hCF
        exact kCall hok hd hy hRet ha fun u w1 ⟨φ1, hp, hcv⟩ a' ha' => hK _ _ _ _ _ (next hp hcv hsv) a' ha'
      · exact kVal hok hd (hv u w1 hrun) ha fun a' ha' => hK _ _ _ _ _ (next hp hcv hsv) a' ha'
    | yld l args =>
      obtain ⟨x, hen, hsv⟩ := hdo
      obtain ⟨us, l', aa, N, hl, hcs, hy⟩ := q
      have hRet := round_ok hS hen relc hl hcs
      exact kYield hok hd hy hRet ha fun u w1 ⟨φ1, hp, hcv⟩ a' ha' => hK _ _ _ _ _ (next hp hcv hsv) a' ha'
    | dfr f cap args => exact hdo.elim
    | bad n => exact hdo.elim
end
end Go.Proofs.Ytkhkebcflaokpaa
