/- What the reckoner answers for a function is what the function returns: the steps put together. It is of no program. -/
import Derived.Test.YtkgiammeeckfbaaGreatEvM
namespace Go.Proofs.YtkgiammeeckfbaaGreat
open Go Go.RowKit
set_option linter.all false

section
variable {P : Program} {G : Nat} {X : Hook P G} {ih : RunT}

theorem run_scope {C : Cx} {c : Code} {k : List Item} {e : Env} {w : World} (h : Run C (.code c :: .inScope c :: k) e w) : Run C (.code (.scope c) :: k) e w := fun a ha => RunA.step (fun _ _ => step_lone_go (by simp [stepG, stepG.exec, Frame.atR])) (h a ha)
theorem run_inScope {C : Cx} {c : Code} {k : List Item} {e : Env} {w : World} (h : Run C k e w) : Run C (.inScope c :: k) e w := fun a ha => RunA.step (fun _ _ => step_lone_go (by simp [stepG, stepG.exec, Frame.atR])) (h a ha)
theorem run_loop1 {C : Cx} {c : Code} {k : List Item} {e : Env} {w : World} (h : Run C (.code c :: .inLoop c :: k) e w) : Run C (.code (.loop c) :: k) e w := fun a ha => RunA.step (fun _ _ => stepR_loop) (h a ha)

theorem rangeF_ok (hS : Sd P G X ih) {fv : Operand} {ps : List Tmp} {as b : Code} {k : List Item} {fr : Fr} {E : Tr V fr.d} {ms ms' : List DV} {h0 h h' : H} {v : V} (he : rangeF P G X ih fv ps as b k fr E ms' h = .ok v h')
    {φ : Ph} {w : World} {e : Env} {C : Cx} (hA : At P G φ h0 w fr E ms e C) (hF : Fin G φ h0 w v h' C.R) (hcase : (fr.rd = none ∧ h = ⟨trPut HD h0.next h0.t (some .dfr), h0.next + 1⟩ ∧ ms' = .mk h0.next :: ms ∧ fr.dk = false) ∨ (∃ l st pend f ed E' n ps a b, fr.rd = some l ∧ h = h0 ∧ ms' = ms ∧ hGet h0 l = some (.loop st pend f ed E' n ps a b) ∧ fr.dk = false)) :
    Run C (.code (.rangeFunc fv ps.toArray as b) :: k) e w := by
  unfold rangeF at he
  split at he <;> try cases he
  rename_i gf p q hfv
  rw [hNew_eq, fL_eq] at he
  split at he <;> try cases he
  rename_i v2 h2 hen
  have hrho := EnvR.rho (G := G) hA.rel hA.env
  obtain ⟨u, hg, hcu⟩ := hrho fv (by rw [hfv]; simp)
  rw [hfv] at hcu
  cases hcu with
  | @fn _ _ _ up uq c1 c2 =>
  split at he <;> try cases he
  rename_i st2 pend2 f2 ed2 E2 n2 ps2 a2 b2 hnb hl2
  rw [hSet_eq] at he
  rcases hcase with ⟨hrd, rfl, rfl, hdk⟩ | ⟨l0, st0, pend0, f0, ed0, E0, n0, ps0, a0, b0, hrd, rfl, rfl, hl0, hdk⟩
  · have hrd' : C.rd = none := by
      have := hA.rd
      rw [hrd] at this
      cases hc : C.rd with
      | none => rfl
      | some _ => rw [hc] at this; exact this.elim
    obtain ⟨CP, Cf, CR, Cn, Crd, Cms, Cdk⟩ := C
    simp only at hrd'
    subst hrd'
    have hpd : Cdk = false := hA.dk.trans hdk
    subst hpd
    have hpP : CP = P := hA.prog
    subst hpP
    have hpf : Cf = fr.f := hA.fn
    subst hpf
    have hpn : Cn = fr.n := hA.nt
    subst hpn
    have hCF : CF CP gf := enter_cf hen
    refine run_rangeFunc' hg hCF fun w1 hx hs hD e1 he1 hrec => ?_
    obtain ⟨wA, xA, xB, sA, dA⟩ := ext_mid hx hs
    have p1 : Post G φ h0 w _ _ wA := hA.rel.new (x := .dfr) (b' := w.heap.size) (a := 0) (N := 0) xA (Nat.le_refl _) (by show wA.heap[w.heap.size]? = _; rw [dA]; exact hD)
    have hrec' : Rec fr.f fr.n e ps.toArray as b (w.heap.size + 1) .ready none w1 := by
      obtain ⟨r, r0, r1, r2, r3, r4, r5, r6, r7, r8⟩ := hrec
      exact ⟨r, r0, r1, r2, r3, r4, r5, r6, r7, fun i v hv => r8 i v (he1 i v hv)⟩
    have p2 := p1.rel.new (x := .loop .ready none fr.f fr.d E fr.n ps as b) (b' := w.heap.size + 1) (a := 0) (N := 0) xB (by omega)
      (rec_loop hrec' ((hA.env.mono p1.sb).mono (addPh_sb p1.rel _)))
    have p12 := p1.trans p2
    have hl1 : _ = some (w.heap.size + 1, 0, 0) := addPh_same (addPh φ h0.next (w.heap.size, 0, 0)) (h0.next + 1) (w.heap.size + 1, 0, 0)
    obtain ⟨-, hRet⟩ := enterN_ok hS hen p12.rel (((c1.mono p12.sb).append (.cons (.yld hl1) .nil)).append (c2.mono p12.sb))
    refine hRet.mono fun u2 w2 ⟨φ2, p3, c3⟩ => ?_
    obtain ⟨q2, hq2, hbr2⟩ := p3.rel.blk _ _ hl2
    rw [p3.sb _ _ hl1] at hq2
    cases hq2
    obtain ⟨r, r0, r1, r2, -⟩ := hbr2
    refine ⟨r, r0, by rw [r1]; exact hnb, fun w3 hk3 => ?_⟩
    have p4 := p3.rel.delw hl2 rfl (p3.sb _ _ hl1) hk3
    have pp := (p12.trans p3).trans p4
    rw [r2]
    refine (hS _ _ _ _ _ _ _ _ _ he φ2 w3 e ⟨CP, fr.f, CR, fr.n, none, .mk w.heap.size :: Cms, false⟩ ⟨pp.rel, hA.env.mono pp.sb, rfl, rfl, rfl, hdk.symm, by rw [hrd]; trivial, ⟨⟨0, 0, (p2.sb.trans (p3.sb.trans p4.sb)) _ _ (addPh_same _ _ _)⟩, hA.mr.mono pp.sb⟩, (fun hh => by rw [hrd] at hh; cases hh), hA.res⟩ (hF.to pp)).1 rfl
  · have hR := hA.rd
    rw [hrd] at hR
    obtain ⟨CP, Cf, CR, Cn, Crd, Cms, Cdk⟩ := C
    cases Crd with
    | none => exact hR.elim
    | some l' =>
    obtain ⟨aa, NN, hll⟩ := hR
    have hpd : Cdk = false := hA.dk.trans hdk
    subst hpd
    have hpP : CP = P := hA.prog
    subst hpP
    have hpf : Cf = fr.f := hA.fn
    subst hpf
    have hpn : Cn = fr.n := hA.nt
    subst hpn
    have hCF : CF CP gf := enter_cf hen
    obtain ⟨q0, hq0, hbr0⟩ := hA.rel.blk _ _ hl0
    rw [hll] at hq0; cases hq0
    obtain ⟨r0', hr0', -⟩ := hbr0
    refine run_rangeFuncIn' hg hCF hr0' fun w1 hx hs hrec => ?_
    have p12 := hA.rel.new (x := .loop .ready none fr.f fr.d E fr.n ps as b) (b' := w.heap.size) (a := 0) (N := 0) hx (Nat.le_refl _) (rec_loop hrec (hA.env.mono (addPh_sb hA.rel _)))
    have hl1 : _ = some (w.heap.size, 0, 0) := addPh_same φ h.next (w.heap.size, 0, 0)
    obtain ⟨-, hRet⟩ := enterN_ok hS hen p12.rel (((c1.mono p12.sb).append (.cons (.yld hl1) .nil)).append (c2.mono p12.sb))
    refine hRet.mono fun u2 w2 ⟨φ2, p3, c3⟩ => ?_
    obtain ⟨q2, hq2, hbr2⟩ := p3.rel.blk _ _ hl2
    rw [p3.sb _ _ hl1] at hq2
    cases hq2
    obtain ⟨r, r0, r1, r2, -⟩ := hbr2
    refine ⟨r, r0, by rw [r1]; exact hnb, fun w3 hk3 => ?_⟩
    have p4 := p3.rel.delw hl2 rfl (p3.sb _ _ hl1) hk3
    have pp := (p12.trans p3).trans p4
    rw [r2]
    refine (hS _ _ _ _ _ _ _ _ _ he φ2 w3 e ⟨CP, fr.f, CR, fr.n, some l', Cms, false⟩ (hA.to pp (hA.env.mono pp.sb)) (hF.to pp)).1 rfl

/-- Regions that draw their order are right. -/
def Dr (P : Program) (G : Nat) (X : Hook P G) (ih : RunT) : Prop := ∀ id ops k fr E ms h v h', drawn P G X ih ops k fr E ms h = .ok v h' → ∀ φ w e (C : Cx), At P G φ h w fr E ms e C → Fin G φ h w v h' C.R → Run C (.code (.region id ops.toArray true) :: k) e w

theorem stepC_ok (hS : Sd P G X ih) (hDr : Dr P G X ih) {c : Code} {k : List Item} {fr : Fr} {E : Tr V fr.d} {ms : List DV} {h h' : H} {v : V} (he : stepC P G X ih c k fr E ms h = .ok v h') {φ : Ph} {w : World} {e : Env} {C : Cx}
    (hA : At P G φ h w fr E ms e C) (hF : Fin G φ h w v h' C.R) : Run C (.code c :: k) e w := by
  have on : ∀ {k' : List Item}, ih [] [] k' fr E ms h = .ok v h' → Run C k' e w := fun {k'} he => (hS _ _ _ _ _ _ _ _ _ he φ w e C hA hF).1 rfl
  unfold stepC at he
  split at he
  · exact run_skip (on he)
  · exact run_label (on he)
  · rename_i id ops
    cases ho : dstsOk fr.n ops.toList with
    | false => rw [ho] at he; cases he
    | true =>
      rw [ho] at he
      have ho' : dstsOk C.n ops.toList = true := by rw [hA.nt]; exact ho
      have := run_reg (id := id) ho' ((hS _ _ _ _ _ _ _ _ _ he φ w e C hA hF).2 ho' ho')
      rwa [Array.toArray_toList] at this
  · rename_i id ops
    have := hDr id _ _ _ _ _ _ _ _ he φ w e C hA hF
    rwa [Array.toArray_toList] at this
  · exact run_seq (on he)
  · rename_i c a b
    split at he <;> try cases he
    · rename_i hc
      obtain ⟨u, h1, h2⟩ := EnvR.rho (G := G) hA.rel hA.env c (by rw [hc]; simp)
      rw [hc] at h2; cases h2
      exact run_true h1 (on he)
    · rename_i hc
      obtain ⟨u, h1, h2⟩ := EnvR.rho (G := G) hA.rel hA.env c (by rw [hc]; simp)
      rw [hc] at h2; cases h2
      exact run_false h1 (on he)
  · exact run_block (on he)
  · exact run_loop1 (on he)
  · rename_i id
    split at he
    · rename_i k' hk
      exact run_exit hk (on he)
    · rename_i hk
      exact leave_ok hS he hA hF (.inr (.inr ⟨id, k, rfl, rfl, hk⟩))
  · rename_i l
    split at he <;> try cases he
    rename_i k' hk
    exact run_goto hk (on he)
  · exact run_scope (on he)
  · exact leave_ok hS he hA hF (.inr (.inl ⟨rfl, k, rfl⟩))
  · rename_i fv ps a b
    split at he
    · rename_i hrd
      cases hdk : fr.dk with
      | true => rw [hdk] at he; cases he
      | false =>
      rw [hdk] at he
      simp only [cond_false] at he
      rw [hNew_eq] at he
      have := rangeF_ok hS he hA hF (.inl ⟨hrd, rfl, rfl, hdk⟩)
      rwa [Array.toArray_toList] at this
    · rename_i l hrd
      split at he <;> try cases he
      rename_i hl
      have := rangeF_ok hS he hA hF (.inr ⟨l, _, _, _, _, _, _, _, _, _, hrd, rfl, rfl, hl, (hA.msn (by rw [hrd]; rfl)).2⟩)
      rwa [Array.toArray_toList] at this
  · cases he

theorem stepI_ok (hS : Sd P G X ih) (hDr : Dr P G X ih) {k : List Item} {fr : Fr} {E : Tr V fr.d} {ms : List DV} {h h' : H} {v : V} (he : stepI P G X ih k fr E ms h = .ok v h') {φ : Ph} {w : World} {e : Env} {C : Cx}
    (hA : At P G φ h w fr E ms e C) (hF : Fin G φ h w v h' C.R) : Run C k e w := by
  have on : ∀ {k' : List Item}, ih [] [] k' fr E ms h = .ok v h' → Run C k' e w := fun {k'} he => (hS _ _ _ _ _ _ _ _ _ he φ w e C hA hF).1 rfl
  unfold stepI at he
  split at he
  · exact leave_ok hS he hA hF (.inl ⟨rfl, rfl⟩)
  · exact stepC_ok hS hDr he hA hF
  · exact run_inBlock (on he)
  · exact run_inScope (on he)
  · exact run_inLoop (on he)
  · split at he <;> try cases he
    rename_i l hrd
    split at he <;> try cases he
    rename_i pend f ed E' n ps a b hl
    rw [hSet_eq] at he
    have hR := hA.rd
    rw [hrd] at hR
    cases hcr : C.rd with
    | none => rw [hcr] at hR; exact hR.elim
    | some l' =>
    rw [hcr] at hR
    obtain ⟨aa, NN, hll⟩ := hR
    obtain ⟨q, hq, hbr⟩ := hA.rel.blk _ _ hl
    rw [hll] at hq; cases hq
    obtain ⟨e0, hrec, henv⟩ := loop_rec hbr
    refine run_beginRound hcr rfl hrec fun w' hr hk => ?_
    have p := hA.rel.upd hl rfl hll hk (rec_loop hr henv)
    exact (hS _ _ _ _ _ _ _ _ _ he φ w' e C (hA.to p hA.env) (hF.to p)).1 rfl
  · cases he

theorem run_succ (n : Nat) (ops rest : List Oper) (k : List Item) (fr : Fr) (E : Tr V fr.d) (ms : List DV) (h : H) : run P G X (n + 1) ops rest k fr E ms h = match rest with
      | o :: rest => stepOp P G X (run P G X n) ops o rest k fr E ms h
      | [] => stepI P G X (run P G X n) k fr E ms h := by
  cases rest with
  | nil => exact stepIF_eq ..
  | cons o rest => exact stepOpF_eq ..
theorem run_ok (hDr : ∀ ih, Sd P G X ih → Dr P G X ih) : ∀ n, Sd P G X (run P G X n)
  | 0 => fun ops rest k fr E ms h v h' he => by cases he
  | n + 1 => fun ops rest k fr E ms h v h' he φ w e C hA hF => by
    have hS := run_ok hDr n
    rw [run_succ] at he
    cases rest with
    | nil =>
      have hr := stepI_ok hS (hDr _ hS) he hA hF
      exact ⟨fun _ => hr, fun ho _ => rEnd hr⟩
    | cons o rest => exact ⟨fun hh => (by cases hh), fun ho hr => stepOp_ok hS he hA hF ho hr⟩
end
end Go.Proofs.YtkgiammeeckfbaaGreat
