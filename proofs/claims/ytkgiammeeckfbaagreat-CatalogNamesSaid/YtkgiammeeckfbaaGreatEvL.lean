/- The reckoner's frames: what a function's text does. It is of no program. -/
import Derived.Test.YtkgiammeeckfbaaGreatEvX
namespace Go.Proofs.YtkgiammeeckfbaaGreat
open Go Go.RowKit
set_option linter.all false

theorem get_out {α : Type} (z : α) : ∀ (d i : Nat) (t : Tr α d), 16 ^ d ≤ i → trGet z d i t = z
  | 0, i, t, h => by
    rw [trGet_zero, if_neg (by simp at h; omega)]
  | d + 1, i, t, h => by
    rw [trGet_succ]
    exact get_out z d _ _ (by rw [Nat.pow_succ] at h; omega)

def EnvR (φ : Ph) (d : Nat) (E : Tr V d) (e : Env) : Prop := ∀ i, vGet d i E ≠ .und → ∃ u, fnd e i = some u ∧ CV φ (vGet d i E) u
theorem EnvR.mono {φ φ' : Ph} (hs : Sb φ φ') {d : Nat} {E : Tr V d} {e : Env} (h : EnvR φ d E e) : EnvR φ' d E e := fun i hi => let ⟨u, a, b⟩ := h i hi; ⟨u, a, b.mono hs⟩
theorem EnvR.put {φ : Ph} {d : Nat} {E : Tr V d} {e : Env} (h : EnvR φ d E e) (i : Nat) {v : V} {u : Value} (hc : CV φ v u) : EnvR φ d (trPut d i E v) ((i, u) :: e) := fun j hj => by
  by_cases hij : j = i
  · subst hij
    refine ⟨u, ?_, ?_⟩
    · have : Nat.beq j j = true := Nat.beq_refl j
      simp [fnd, this]
    · rcases get_put_same V.und d j E v with h1 | h1
      · show CV φ (trGet .und d j _) u
        rw [h1]; exact hc
      · exact absurd h1 hj
  · have h1 : vGet d j (trPut d i E v) = vGet d j E := get_put_ne _ _ _ _ _ _ hij
    rw [h1] at hj ⊢
    obtain ⟨u', h2, h3⟩ := h j hj
    refine ⟨u', ?_, h3⟩
    have : Nat.beq j i = false := by
      rw [Bool.eq_false_iff]; intro hb; exact hij (Nat.eq_of_beq_eq_true hb)
    simp [fnd, this, h2]
theorem EnvR.new {φ : Ph} (d : Nat) (e : Env) : EnvR φ d (trNew .und d) e := fun i hi => absurd (get_new V.und d i) hi
theorem EnvR.rho {G : Nat} {φ : Ph} {h : H} {w : World} {d : Nat} {E : Tr V d} {e : Env} (r : Rel G φ h w) (he : EnvR φ d E e) : RhoR φ (opV G d E) e := fun x hx => by
  cases x with
  | tmp i => exact he i hx
  | const v => exact ⟨v, rfl, cv_ofV hx⟩
  | global g =>
    unfold opV at hx ⊢
    cases hg : Nat.blt g G with
    | false => simp [hg] at hx
    | true =>
      obtain ⟨N, hp⟩ := r.glob g (by simpa using hg)
      simp only [hg, cond_true]
      exact ⟨_, rfl, .ptr hp⟩
  | func f => exact ⟨_, rfl, .fn .nil .nil⟩

theorem fnd_env : ∀ (l : List Value) (j i : Nat), fnd (envOf j l) i = if j ≤ i then l[i - j]? else none
  | [], j, i => by simp [envOf, fnd]
  | v :: l, j, i => by
    simp only [envOf, fnd]
    cases hb : Nat.beq i j with
    | true =>
      have := Nat.eq_of_beq_eq_true hb
      subst this
      simp
    | false =>
      have hne : i ≠ j := fun e => by subst e; simp at hb
      simp only
      rw [fnd_env l (j + 1) i]
      by_cases hj : j ≤ i
      · rw [if_pos (by omega), if_pos hj, show i - j = (i - (j + 1)) + 1 from by omega]; simp
      · rw [if_neg (by omega), if_neg hj]
theorem EnvR.args {φ : Ph} {d : Nat} {l : List V} {us : List Value} (hc : CVs φ l us) : EnvR φ d (wr d l (trNew .und d) 0) (envOf 0 us) := fun i hi => by
  rcases wr_get d l (trNew .und d) 0 i with h1 | h1
  · exact absurd h1 hi
  · split at h1
    · obtain ⟨u, e1, e2⟩ := hc.get h1
      exact ⟨u, by rw [fnd_env, if_pos (Nat.zero_le _)]; exact e1, e2⟩
    · exfalso
      rw [h1] at hi
      exact hi (get_new V.und d i)
theorem wants_ok {φ : Ph} {d : Nat} {E : Tr V d} {e : Env} {ops : List Oper} {g : Option (Nat × Bool)} {t : Bool} (he : EnvR φ d E e) (hw : wants d E ops g = some t) {D : RC} (hD : D.ops = ops) : okw D e g t = true := by
  unfold okw
  rw [hD]
  unfold wants at hw
  split at hw
  · cases hw; rfl
  · rename_i j b
    split at hw <;> try cases hw
    rename_i o ho
    split at hw <;> try cases hw
    rename_i i hi
    split at hw <;> try cases hw
    · rename_i c hc
      obtain ⟨u, h1, h2⟩ := he i (by rw [hc]; simp)
      rw [hc] at h2
      cases h2
      simp only [okg, wantE, ho, hi, h1]
      cases b <;> cases c <;> rfl
    · rename_i l hc
      obtain ⟨u, h1, h2⟩ := he i (by rw [hc]; simp)
      rw [hc] at h2
      cases h2
      simp only [okg, wantE, ho, hi, h1]
theorem dstV_eq {β : Type} (d : Nat) (E : Tr V d) (dst : Option Nat) (v : V) (c : Tr V d → β) : dstV d E dst v c = match dst with
    | none => c E
    | some i => c (trPut d i E v) := by
  cases dst with
  | none => rfl
  | some i => show trSet d i E v c = _; rw [trSet_eq]

/-! ### The loops' records -/
theorem loop_rec {φ : Ph} {st : LoopState} {pend : Option Code} {f ed n : Nat} {E : Tr V ed} {ps : List Tmp} {a b : Code} {p : Nat × Nat × Nat} {w : World} (h : BR φ (.loop st pend f ed E n ps a b) p w) :
    ∃ e0, Rec f n e0 ps.toArray a b p.1 st pend w ∧ EnvR φ ed E e0 := by
  obtain ⟨r, h0, h1, h2, h3, h4, h5, h6, h7, h8⟩ := h
  refine ⟨envOf 0 (r.tmps.toList ++ List.replicate (16 ^ ed) undef), ⟨r, h0, h1, h2, h3, h4, h5, h6, h7, fun i v hv => ?_⟩, fun i hi => ?_⟩
  · rw [fnd_env, if_pos (Nat.zero_le _), Nat.sub_zero, List.getElem?_append] at hv
    split at hv
    · rename_i hlt
      simp at hlt hv
      simp [Array.getD, hlt, hv]
      have := Array.getElem?_eq_some_iff.1 hv
      exact this.2
    · rename_i hlt
      simp at hlt
      rw [List.getElem?_replicate] at hv
      split at hv
      · cases hv
        simp [Array.getD]; omega
      · cases hv
  · refine ⟨r.tmps.getD i undef, ?_, h8 i⟩
    have hlt : i < 16 ^ ed := by
      rcases Nat.lt_or_ge i (16 ^ ed) with h | h
      · exact h
      · exact absurd (get_out V.und ed i E h) hi
    rw [fnd_env, if_pos (Nat.zero_le _), Nat.sub_zero, List.getElem?_append]
    split
    · rename_i hl
      simp at hl
      simp [Array.getD, hl]
    · rename_i hl
      simp at hl
      rw [List.getElem?_replicate, if_pos (by simp; omega)]
      simp [Array.getD]; omega
theorem rec_loop {φ : Ph} {st : LoopState} {pend : Option Code} {f ed n : Nat} {E : Tr V ed} {ps : List Tmp} {a b : Code} {l x y : Nat} {w : World} {e0 : Env} (h : Rec f n e0 ps.toArray a b l st pend w) (he : EnvR φ ed E e0) :
    BR φ (.loop st pend f ed E n ps a b) (l, x, y) w := by
  obtain ⟨r, h0, h1, h2, h3, h4, h5, h6, h7, h8⟩ := h
  refine ⟨r, h0, h1, h2, h3, h4, h5, h6, h7, fun i => ?_⟩
  by_cases hi : vGet ed i E = .und
  · rw [hi]; exact .und
  · obtain ⟨u, e1, e2⟩ := he i hi
    rw [h8 i u e1]; exact e2

/-! ### The end of a function -/
def MsR (φ : Ph) : List DV → List Dfr → Prop
  | [], [] => True
  | .mk m :: l, .mk m' :: l' => (∃ a N, φ m = some (m', a, N)) ∧ MsR φ l l'
  | .call f cap args :: l, .call f' cap' args' :: l' => f = f' ∧ CVs φ cap cap' ∧ CVs φ args args' ∧ MsR φ l l'
  | _, _ => False
theorem MsR.mono {φ φ' : Ph} (hs : Sb φ φ') : ∀ {l : List DV} {l' : List Dfr}, MsR φ l l' → MsR φ' l l'
  | [], [], _ => trivial
  | .mk m :: l, .mk m' :: l', ⟨⟨a, N, h⟩, k⟩ => ⟨⟨a, N, hs _ _ h⟩, MsR.mono hs k⟩
  | .call .. :: l, .call .. :: l', ⟨h1, h2, h3, k⟩ => ⟨h1, h2.mono hs, h3.mono hs, MsR.mono hs k⟩
  | [], _ :: _, h => h.elim
  | _ :: _, [], h => by rename_i x _; cases x <;> exact h.elim
  | .mk _ :: _, .call .. :: _, h => h.elim
  | .call .. :: _, .mk _ :: _, h => h.elim

theorem loadVar_ok {P : Program} {G : Nat} {φ : Ph} {h h' : H} {w : World} {t : TypeId} {v v' : V} {u : Value} (r : Rel G φ h w) (hc : CV φ v u) (hv : loadV P h t v = .v v' h') :
    ∃ ad u', u = .pointer (some ad) ∧ (loadVar t ad).run P w = .ok u' w ∧ CV φ v' u' := by
  have hnu : v ≠ .und := by intro e; subst e; cases hv
  have hp := loadV_pv (P := P) (t := t) r hc hnu
  rw [hv] at hp
  obtain ⟨rfl, u', h1, h2⟩ := hp
  unfold loadV at hv
  split at hv <;> try cases hv
  rename_i b o
  cases hc with
  | @ptr _ _ b' a N hφ =>
  exact ⟨_, u', rfl, by simpa [Instr.loadAt, Instr.sureAddr] using h1, h2⟩
theorem resV_ok {P : Program} {G : Nat} {φ : Ph} {h : H} {w : World} {d n : Nat} {E : Tr V d} {e : Env} {ms : List Dfr} (r : Rel G φ h w) (he : EnvR φ d E e) : ∀ {rs : List ResultVar} {vs : List V}, resV P d E h rs = some vs →
    ∃ us, CVs φ vs us ∧ ∀ a, EOk n ms e a → (rs.mapM (resM a)).run P w = .ok us w
  | [], vs, hv => by
    cases hv
    exact ⟨[], .nil, fun a _ => by simp⟩
  | rv :: rs, vs, hv => by
    unfold resV at hv
    cases hvs : resV P d E h rs with
    | none => rw [hvs] at hv; cases hv
    | some vs' =>
    rw [hvs] at hv
    obtain ⟨us, h1, h2⟩ := resV_ok (n := n) (ms := ms) r he hvs
    cases rv with
    | tmp t =>
      simp only at hv
      by_cases hk : vGet d t E = .und
      · rw [hk] at hv; cases hv
      · have hv' : some (vGet d t E :: vs') = some vs := by
          rw [← hv]
          split
          · rename_i e; exact absurd e hk
          · rfl
        cases hv'
        obtain ⟨u, e1, e2⟩ := he t hk
        refine ⟨u :: us, .cons e2 h1, fun a ha => ?_⟩
        have hg : resM a (.tmp t) = pure u := by simp only [resM]; rw [ha.get _ _ e1]
        rw [List.mapM_cons, hg]
        simp only [pure_bind, Sem.run_bind, h2 a ha, Result.andThen, Sem.run_pure]
    | cell x t =>
      simp only at hv
      cases hl : loadV P h t (vGet d x E) with
      | v v' h' =>
        rw [hl] at hv
        cases hv
        have hx : vGet d x E ≠ .und := by intro e; rw [e] at hl; cases hl
        obtain ⟨u, e1, e2⟩ := he x hx
        obtain ⟨ad, u', rfl, h3, h4⟩ := loadVar_ok r e2 hl
        refine ⟨u' :: us, .cons h4 h1, fun a ha => ?_⟩
        have hg := ha.get _ _ e1
        have h5 : (resM a (.cell x t)).run P w = .ok u' w := by
          simp only [resM, hg, asAddr, pure_bind, h3]
        rw [List.mapM_cons]
        simp only [Sem.run_bind, h5, h2 a ha, Result.andThen, Sem.run_pure]
      | bad _ => rw [hl] at hv; cases hv
      | eff _ => rw [hl] at hv; cases hv
      | call _ _ => rw [hl] at hv; cases hv
      | yld _ _ => rw [hl] at hv; cases hv
      | dfr _ _ _ => rw [hl] at hv; cases hv
theorem resOne_cv {φ : Ph} {vs : List V} {us : List Value} (h : CVs φ vs us) : CV φ (resOne vs) (resVal us) := by
  cases h with
  | nil => exact .tup .nil
  | cons h1 h2 =>
    cases h2 with
    | nil => exact h1
    | cons h2 h3 => exact .tup (.cons h1 (.cons h2 h3))
theorem results_of {a : Act} {P : Program} {w : World} {fn : Func} {us : List Value} (hm : (fn.results.toList.mapM (resM a)).run P w = .ok us w) : (results fn a.tmps).run P w = .ok (resVal us) w := by
  have he : results fn a.tmps = (do
      let us ← fn.results.mapM (resM a)
      pure (if h : us.size = 1 then us[0] else .tuple us)) := rfl
  rw [he, ← Array.toArray_toList (xs := fn.results), List.mapM_toArray]
  simp only [Sem.run_bind, map_eq_pure_bind, hm, Result.andThen, Sem.run_pure]
  cases us with
  | nil => simp [resVal]
  | cons v r => cases r with
    | nil => simp [resVal]
    | cons u r => simp [resVal]
end Go.Proofs.YtkgiammeeckfbaaGreat
