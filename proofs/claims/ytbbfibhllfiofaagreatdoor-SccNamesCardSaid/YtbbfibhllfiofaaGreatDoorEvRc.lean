/- A deferred call whose first deed is recover(), while the frame below returns: it yields nil. It is of no program. -/
import Derived.Test.YtbbfibhllfiofaaGreatDoorEvMe
import Derived.RecoverIn
namespace Go.Proofs.YtbbfibhllfiofaaGreatDoor
open Go Go.RowKit
set_option linter.all false

theorem recover_run {P : Program} {ρ : Operand → Value} {o : Oper} {c : Call} {w : World} (ho : o.op = .call c) (hc : c.callee = .builtin .recover) (ha : c.args.toList = []) : (execOp ρ o).run P w = .ok .recover w := by
  obtain ⟨callee, args, tys⟩ := c
  simp only at hc ha
  subst hc
  have : args = #[] := Array.toList_inj.1 ha
  subst this
  simp [execOp, ho, go_sem]
theorem retD_recover {P : Program} {f : FuncId} {fn : Func} {id : Nat} {ops : Array Oper} {c2 : Code} {args : List Value} {e : Env} {w : World} {S : Value → World → Prop} {n d : Nat} {o : Oper} {rest : List Oper} {c : Call}
    (hf : P.funcs[f]? = some fn) (hb : fn.body = some (.seq (.region id ops false) c2)) (hnt : fn.ntmps = n) (hn : Nat.ble args.length n = true) (he : envOf 0 args = e)
    (hops : ops.toList = o :: rest) (hg : o.guard = none) (hop : o.op = .call c) (hcal : c.callee = .builtin .recover) (hca : c.args.toList = []) (hdst : o.dst = some d) (hd : Nat.blt d n = true) (ho : dstsOk n ops.toList = true)
    (h : RL ⟨⟨P, f, S, n, none, [], true⟩, ops.toList, [.code c2], ho⟩ rest ((d, .nilIface) :: e) w) : RetD P f args w S := by
  subst hnt
  refine ⟨trivial, fun c0 cs hm _ => ?_⟩
  let b : Frame := { (default : Frame) with fn := f, kind := .deferred, roundOf := none }
  have hn' : args.length ≤ fn.ntmps := by simpa using hn
  let a : Act := { tmps := args.toArray ++ Array.replicate (fn.ntmps - args.toArray.size) undef, defers := [] }
  have henter : Frame.enter P f args.toArray .deferred = b.atR a [.code (.seq (.region id ops false) c2)] := by
    simp [Frame.enter, Frame.atR, hf, hb, b, a]
  have hok : EOk fn.ntmps [] e a := by
    refine ⟨by simp [a]; omega, rfl, fun i v hi => ?_⟩
    subst he
    obtain ⟨-, h2⟩ := fnd_envOf args 0 i v hi
    simp at h2
    have hlt : i < args.length := by
      rcases Nat.lt_or_ge i args.length with h | h
      · exact h
      · simp [List.getElem?_eq_none h] at h2
    have h3 : args[i] = v := by simpa [List.getElem?_eq_getElem hlt] using h2
    simp only [a, Array.getD]
    rw [dif_pos (by simp; omega)]
    simp [hlt, h3]
  have hok' := hok.put hd .nilIface
  have h0 : ops[0]? = some o := by
    rw [← Array.getElem?_toList, hops]; rfl
  have hrange : List.range ops.size = 0 :: List.range' 1 rest.length := by
    have : ops.size = rest.length + 1 := by rw [← Array.length_toList, hops]; rfl
    rw [this, List.range_eq_range', List.range'_succ]
  -- recover
  have hgs := stepGR_op (P := P) (b := b) (a := a) (k := [.code c2]) (cs := c0 :: cs) (w := w) (ops := ops) (i := 0) (rest := List.range' 1 rest.length) h0 (by simp [Region.wanted, hg])
  rw [show b.roundOf = none from rfl, Oper.semAt_none] at hgs
  have hfin : (b.atR a (.inRegion ops (0 :: List.range' 1 rest.length) :: [.code c2])).finish .nilIface = b.atR (a.put o.dst .nilIface) (.inRegion ops (List.range' 1 rest.length) :: [.code c2]) := by
    rw [Frame.finish_atR, h0]; rfl
  have htr := tryRecover_deferred (show (b.atR a (.inRegion ops (0 :: List.range' 1 rest.length) :: [.code c2])).kind = .deferred from rfl) (c0 :: cs)
  have hrec : recoverD (c0 :: cs) = none := by simp [recoverD, hm]
  have hstep : step P (lone (b.atR a (.inRegion ops (0 :: List.range' 1 rest.length) :: [.code c2])) (c0 :: cs) w) = .next (lone (b.atR (a.put (some d) .nilIface) (.inRegion ops (List.range' 1 rest.length) :: [.code c2])) (c0 :: cs) w) := by
    refine step_lone_go ?_
    rw [← hdst, hgs, ← hfin]
    simp only [Frame.atR, show b.roundOf = none from rfl] at htr ⊢
    simp [stepG.apply, recover_run hop hcal hca, htr, hrec]
  -- the rest
  have hl := h _ hok'
  have hl' : wpOpsIn (WF none) 0 P ops (QK ⟨P, f, S, fn.ntmps, none, [], true⟩ [.code c2]) (List.range' 1 rest.length) (a.put (some d) .nilIface) w := by
    rw [wpOpsIn_eq_wpListIn rest 1 (fun j => by
      rw [← Array.getElem?_toList, hops, Nat.add_comm]; rfl)]
    simpa using hl
  obtain ⟨x, a', w', q, harr⟩ := wp_opsIn _ _ _ hl' b [.code c2] (c0 :: cs) rfl trivial (room_WF _ _)
  have hland : Lands P f none true (RetX S) (lone (b.atR (a.put (some d) .nilIface) (.inRegion ops (List.range' 1 rest.length) :: [.code c2])) (c0 :: cs) w) (c0 :: cs) := by
    cases x with
    | normal => exact (q b rfl rfl rfl (c0 :: cs)).of_steps (StepsIn.steps harr)
    | outgrown => exact q.elim
    | exit id => exact q.elim
    | goto l => exact q.elim
    | ret => exact q.elim
    | panic ch => exact q.elim
  have s1 : step P (lone (b.atR a [.code (.seq (.region id ops false) c2)]) (c0 :: cs) w) = .next (lone (b.atR a (.code (.region id ops false) :: [.code c2])) (c0 :: cs) w) := stepR_seq
  have s2 : step P (lone (b.atR a (.code (.region id ops false) :: [.code c2])) (c0 :: cs) w) = .next (lone (b.atR a (.inRegion ops (0 :: List.range' 1 rest.length) :: [.code c2])) (c0 :: cs) w) := by
    rw [← hrange]; exact stepR_region
  have hall := hland.of_steps (.head s1 (.head s2 (.one hstep)))
  obtain ⟨x, w', fr, hR, hc, hfn, hk, hg⟩ := hall
  have hcc : ({ c0 with mode := .returning } : Frame) = c0 := by cases c0; simp_all
  rw [henter]
  exact ⟨x, .returning, w', fr, ⟨rfl, hR⟩, by rw [hcc]; exact comesIn_wide.2 hc, hk, hfn, hg⟩

/-- The op is recover(), and its answer goes to a slot. -/
def isRec (o : Oper) : Option Nat := match o.op with
  | .call c => match c.callee with
    | .builtin .recover => cond (and c.args.toList.isEmpty o.guard.isNone) o.dst none
    | _ => none
  | _ => none
theorem isRec_spec {o : Oper} {t : Nat} (h : isRec o = some t) : ∃ c, o.op = .call c ∧ c.callee = .builtin .recover ∧ c.args.toList = [] ∧ o.guard = none ∧ o.dst = some t := by
  unfold isRec at h
  split at h <;> try cases h
  rename_i c hc
  split at h <;> try cases h
  rename_i hcal
  generalize hcc : and c.args.toList.isEmpty o.guard.isNone = q at h
  cases q with
  | false => cases h
  | true =>
    simp only [Bool.and_eq_true] at hcc
    exact ⟨c, hc, hcal, by simpa using hcc.1, by simpa using hcc.2, h⟩
noncomputable def enterRc1 (P : Program) (G : Nat) (X : Hook P G) (m : Nat) (f : FuncId) (args : List V) (h : H) (n d : Nat) (res : List ResultVar) (c2 : Code) (o : Oper) (rest : List Oper) : Res := match isRec o with
  | some t => cond (and (Nat.ble args.length n) (and (Nat.blt t n) (and (dstsOk n (o :: rest)) (dstsOk n rest)))) (wrK args d (trNew .und d) 0 fun E => trSet d t E (.nil .ifc) fun E => run P G X m (o :: rest) rest [.code c2] ⟨f, d, n, res, none, true⟩ E [] h) (.bad 330 f)
  | none => .bad 331 f
/-- A deferred function that begins with recover(), while the frame below returns. -/
noncomputable def enterRc (P : Program) (G : Nat) (X : Hook P G) (m : Nat) (f : FuncId) (args : List V) (h : H) : Res := match bodyOf P f with
  | some (.seq (.region _ ops false) c2, n, d, res) => match ops.toList with
    | o :: rest => enterRc1 P G X m f args h n d res c2 o rest
    | [] => .bad 332 f
  | _ => .bad 333 f
theorem enterRc_ok {P : Program} {G m : Nat} {X : Hook P G} {f : FuncId} : DkOk P G f (enterRc P G X m f) := by
  intro args h v h' he φ w us r hc
  unfold enterRc at he
  split at he <;> try cases he
  rename_i id ops c2 n d res hb
  split at he <;> try cases he
  rename_i o rest hops
  unfold enterRc1 at he
  split at he <;> try cases he
  rename_i t ht
  obtain ⟨c, hop, hcal, hca, hg, hdst⟩ := isRec_spec ht
  obtain ⟨fn, hf, hbody, hnt, hres, hCF⟩ := bodyOf_spec hb
  generalize hcc : and (Nat.ble args.length n) (and (Nat.blt t n) (and (dstsOk n (o :: rest)) (dstsOk n rest))) = q at he
  cases q with
  | false => cases he
  | true =>
  simp only [Bool.and_eq_true] at hcc
  obtain ⟨k1, k2, k3, k4⟩ := hcc
  simp only [cond_true, wrK_eq, trSet_eq] at he
  refine ⟨hCF, retD_recover (o := o) (rest := rest) hf hbody hnt (by rw [hc.len]; exact k1) rfl hops hg hop hcal hca hdst k2 (by rw [hops]; exact k3) ?_⟩
  have key := (run_ok (X := X) (fun _ => dr_ok) m) _ _ _ _ _ _ _ _ _ he φ w ((t, .nilIface) :: envOf 0 us) ⟨P, f, fun u w' => ∃ φ', Post G φ h w φ' h' w' ∧ CV φ' v u, n, none, [], true⟩ ⟨r, (EnvR.args hc).put t .nifc, rfl, rfl, rfl, rfl, trivial, trivial, (fun hh => by cases hh), fun _ => ⟨fn, hf, hres⟩⟩ (fun u w' φ' p c => ⟨φ', p, c⟩)
  have := key.2 k3 k4
  have e : o :: rest = ops.toList := hops.symm
  simp only [e] at this
  exact this
end Go.Proofs.YtbbfibhllfiofaaGreatDoor
