/- Regions that draw their order: one operation after the other, in whatever order. It is of no program. -/
import Derived.Test.YtkgiammeeckfbaaGreatEvR
namespace Go.Proofs.YtkgiammeeckfbaaGreat
open Go Go.RowKit
set_option linter.all false

/-! ### Plain facts -/
theorem vEqs_sound {f : V → V → Bool} (hf : ∀ a b, f a b = true → a = b) : ∀ (l m : List V), vEqs f l m = true → l = m
  | [], [], _ => rfl
  | [], _ :: _, h => by cases h
  | a :: l, [], h => by cases h
  | a :: l, b :: m, h => by
    have h' : and (f a b) (vEqs f l m) = true := h
    simp only [Bool.and_eq_true] at h'
    rw [hf _ _ h'.1, vEqs_sound hf l m h'.2]
theorem nkEq_sound {a b : NK} (h : nkEq a b = true) : a = b := by cases a <;> cases b <;> first | rfl | cases h
theorem vEq_succ (n : Nat) (a b : V) : vEq (n + 1) a b = (match a, b with
      | .int k a, .int k' b => and (keq k k') (ieq a b)
      | .bool a, .bool b => beqB a b
      | .str n s, .str m t => and (Nat.beq n m) (Nat.beq s t)
      | .ptr b o, .ptr b' o' => and (Nat.beq b b') (Nat.beq o o')
      | .sl b o l k e p, .sl b' o' l' k' e' p' => and (and (and (Nat.beq b b') (Nat.beq o o')) (and (Nat.beq l l') (Nat.beq k k'))) (and (Nat.beq e e') (beqB p p'))
      | .es b e, .es b' e' => and (Nat.beq b b') (Nat.beq e e')
      | .map b, .map b' => Nat.beq b b'
      | .nil k, .nil k' => nkEq k k'
      | .fn f p q, .fn f' p' q' => and (Nat.beq f f') (and (vEqs (vEq n) p p') (vEqs (vEq n) q q'))
      | .yld l, .yld l' => Nat.beq l l'
      | .ifc t v, .ifc t' v' => and (Nat.beq t t') (vEq n v v')
      | .mth a x, .mth b y => and (a == b) (vEq n x y)
      | .agg l, .agg m => vEqs (vEq n) l m
      | .tup l, .tup m => vEqs (vEq n) l m
      | _, _ => false) := rfl
theorem vEq_sound : ∀ (n : Nat) (a b : V), vEq n a b = true → a = b
  | 0, _, _, h => by cases h
  | n + 1, a, b, h => by
    have ihl := vEqs_sound (vEq_sound n)
    rw [vEq_succ] at h
    have h' := h
    have nb : ∀ {x y : Nat}, Nat.beq x y = true → x = y := fun h => Nat.eq_of_beq_eq_true h
    have bb : ∀ {x y : Bool}, beqB x y = true → x = y := fun h => by rw [beqB_eq] at h; simpa using h
    clear h
    split at h' <;> (try simp only [Bool.and_eq_true] at h') <;> try cases h'
    · rename_i h1 h2
      rw [keq_eq.1 h1]
      rw [ieq_eq] at h2
      rw [of_decide_eq_true h2]
    · rw [bb h']
    · rename_i h1 h2; rw [nb h1, nb h2]
    · rename_i h1 h2; rw [nb h1, nb h2]
    · rename_i h1 h2
      rw [nb h1.1.1, nb h1.1.2, nb h1.2.1, nb h1.2.2, nb h2.1, bb h2.2]
    · rename_i h1 h2; rw [nb h1, nb h2]
    · rw [nb h']
    · rw [nkEq_sound h']
    · rename_i h1 h2; rw [nb h1, ihl _ _ h2.1, ihl _ _ h2.2]
    · rw [nb h']
    · rename_i h1 h2; rw [nb h1, vEq_sound n _ _ h2]
    · rename_i h1 h2; rw [eq_of_beq h1, vEq_sound n _ _ h2]
    · rw [ihl _ _ h']
    · rw [ihl _ _ h']
theorem cMinL_le {m c : Nat} : ∀ (l : List Nat) (i r : Nat), r ≤ c → (∀ x e, l[x]? = some e → m.testBit e = true → i + x + 1 ≤ c) → cMinL m l i r ≤ c
  | [], i, r, hr, _ => hr
  | e :: l, i, r, hr, h => by
    show cMinL m l (i + 1) (cond (m.testBit e) (i + 1) r) ≤ c
    refine cMinL_le l _ _ ?_ fun x e' he hb => ?_
    · cases hb : m.testBit e with
      | false => exact hr
      | true => exact h 0 e rfl hb
    · have := h (x + 1) e' (by simpa using he) hb
      omega
theorem chained_spec {ops : List Oper} : ∀ (l : List Nat) (m a b : Nat), chained ops l = true → l[m]? = some a → l[m + 1]? = some b → (anc ops b).testBit a = true
  | x :: y :: l, 0, a, b, h, ha, hb => by
    simp at ha hb; subst ha; subst hb
    simp only [chained, Bool.and_eq_true] at h
    exact h.1
  | x :: y :: l, m + 1, a, b, h, ha, hb => by
    simp only [chained, Bool.and_eq_true] at h
    exact chained_spec (y :: l) m a b h.2 (by simpa using ha) (by simpa using hb)
  | [], _, _, _, _, ha, _ => by simp at ha
  | [x], m, _, _, _, _, hb => by simp at hb

section
variable {P : Program} {ops : List Oper}
theorem mem_es {j : Nat} : j ∈ es P ops ↔ j < ops.length ∧ isE P ops j = true := by
  unfold es; simp
theorem es_at {j : Nat} (hj : j < ops.length) (h : isE P ops j = true) : (es P ops)[cAt P ops j]? = some j := filter_at hj h
theorem es_idx {m j : Nat} (h : (es P ops)[m]? = some j) : cAt P ops j = m := by
  have hm := mem_es.1 (List.mem_of_getElem? h)
  have h2 := es_at hm.1 hm.2
  have hn : (es P ops).Nodup := List.nodup_range.filter _
  obtain ⟨a, b⟩ := List.getElem?_eq_some_iff.1 h
  obtain ⟨c, d⟩ := List.getElem?_eq_some_iff.1 h2
  have hp := List.pairwise_iff_getElem.1 hn
  rcases Nat.lt_trichotomy (cAt P ops j) m with h3 | h3 | h3
  · exact absurd (d.trans b.symm) (hp _ _ c a h3)
  · exact h3
  · exact absurd (b.trans d.symm) (hp _ _ a c h3)
theorem mem_frees {j : Nat} : j ∈ frees P ops ↔ j < ops.length ∧ isRd P ops j = false ∧ isE P ops j = false := by
  unfold frees; simp
theorem rk_at {j : Nat} (h : j ∈ frees P ops) : (frees P ops)[rk P ops j]? = some j := by
  have hlt : rk P ops j < (frees P ops).length := List.findIdx_lt_length_of_exists ⟨j, h, Nat.beq_refl j⟩
  have := List.findIdx_getElem (w := hlt) (p := fun i => Nat.beq i j)
  rw [List.getElem?_eq_getElem hlt]
  exact congrArg some (Nat.eq_of_beq_eq_true this)
theorem rk_inj {i j : Nat} (hi : i ∈ frees P ops) (hj : j ∈ frees P ops) (h : rk P ops i = rk P ops j) : i = j := by
  have h1 := rk_at hi
  rw [h, rk_at hj] at h1
  exact (Option.some.inj h1).symm
theorem rk_lt {j : Nat} (h : j ∈ frees P ops) : rk P ops j < nFree P ops := (List.getElem?_eq_some_iff.1 (rk_at h)).1
end

/-! ### One operation -/
def putE (e : Env) (dst : Option Nat) (u : Value) : Env := match dst with
  | none => e
  | some i => (i, u) :: e
def dOk (n : Nat) : Option Nat → Bool
  | none => true
  | some d => Nat.blt d n
theorem EOk.putO {n : Nat} {ms : List Dfr} {e : Env} {a : Act} (h : EOk n ms e a) {dst : Option Nat} (hd : dOk n dst = true) (v : Value) : EOk n ms (putE e dst v) (a.put dst v) := by
  cases dst with
  | none => exact h.put0 v
  | some d => exact h.put hd v

/-- An operation is carried out, wherever it stands. -/
def OpK (D : RC) (o : Oper) (K : Act → World → Prop) (a : Act) (w : World) : Prop :=
  if Region.wanted o (yielded D.ops.toArray a.tmps) = true then o.wpIn (WF D.C.rd) 0 D.C.P a w K (QK D.C D.k) else (∀ f, o.about D.C.P w a.eval = some f → (WF D.C.rd).fn f) ∧ K (a.put o.dst undef) w
section
variable {D : RC} {e : Env} {w w' : World} {o : Oper} {a : Act} {K : Act → World → Prop}
theorem kVal {u : Value} (ho : okw D e o.guard true = true) (hd : dOk D.C.n o.dst = true) (hy : Y D.C.P e o u w w') (ha : EOk D.C.n D.C.ms e a) (h : ∀ a, EOk D.C.n D.C.ms (putE e o.dst u) a → K a w') : OpK D o K a w := by
  unfold OpK
  rw [if_pos (okw_spec ha ho)]
  refine ⟨fun _ _ => trivial, ?_⟩
  have := hy a.eval (fun x v hx => ha.look hx)
  rw [semAt_run this (fun _ h => by cases h)]
  exact h _ (ha.putO hd u)
theorem kEff (ho : okw D e o.guard true = true) (hd : o.dst = none) (hy : Z D.C.P e o w w') (ha : EOk D.C.n D.C.ms e a) (h : ∀ a, EOk D.C.n D.C.ms e a → K a w') : OpK D o K a w := by
  unfold OpK
  rw [if_pos (okw_spec ha ho)]
  refine ⟨fun _ _ => trivial, ?_⟩
  have := hy a.eval (fun x v hx => ha.look hx)
  rw [semAt_run this (fun _ h => by cases h)]
  have := ha.put0 undef
  rw [← hd] at this
  exact h _ this
theorem kSkip (ho : okw D e o.guard false = true) (hd : dOk D.C.n o.dst = true) (ha : EOk D.C.n D.C.ms e a) (h : ∀ a, EOk D.C.n D.C.ms (putE e o.dst undef) a → K a w) : OpK D o K a w := by
  unfold OpK
  rw [if_neg (by rw [okw_spec ha ho]; simp)]
  exact ⟨fun _ _ => trivial, h _ (ha.putO hd undef)⟩
theorem kCall {f : FuncId} {args : List Value} {S : Value → World → Prop} (ho : okw D e o.guard true = true) (hd : dOk D.C.n o.dst = true) (hy : Yc D.C.P e o f args w) (hc : Ret D.C.P f args w S) (ha : EOk D.C.n D.C.ms e a)
    (h : ∀ v w', S v w' → ∀ a, EOk D.C.n D.C.ms (putE e o.dst v) a → K a w') : OpK D o K a w := by
  unfold OpK
  rw [if_pos (okw_spec ha ho)]
  refine ⟨fun _ _ => trivial, ?_⟩
  have := hy a.eval (fun x v hx => ha.look hx)
  rw [semAt_run this (fun _ h => by cases h)]
  exact ⟨noDepth, callsIn_WF (Calls.mono hc fun x w' ⟨v, hx, hv⟩ => by subst hx; exact h v w' hv _ (ha.putO hd v))⟩
theorem kYield {l : Nat} {args : List Value} {S : Value → World → Prop} (ho : okw D e o.guard true = true) (hd : dOk D.C.n o.dst = true) (hy : Yy D.C.P e o l args w) (hc : RetY D.C.P l args w S) (ha : EOk D.C.n D.C.ms e a)
    (h : ∀ v w', S v w' → ∀ a, EOk D.C.n D.C.ms (putE e o.dst v) a → K a w') : OpK D o K a w := by
  unfold OpK
  rw [if_pos (okw_spec ha ho)]
  refine ⟨fun _ _ => trivial, ?_⟩
  have h1 := hy a.eval (fun x v hx => ha.look hx)
  obtain ⟨r, hr, hl, hR⟩ := hc
  rw [run_yield hr (by simpa using hl)] at h1
  rw [semAt_run h1 (fun _ h => by cases h)]
  exact ⟨noDepth, round_WF (hR.mono fun x w' ⟨v, hx, hv⟩ => by subst hx; exact h v w' hv _ (ha.putO hd v))⟩
end

/-! ### What is known of the frame when some operations have been carried out -/
def Lst (L : Array Bool) (j : Nat) : Prop := L.getD j false = true
structure EnvL (φ : Ph) (ops : List Oper) (L : Array Bool) (d : Nat) (E0 E : Tr V d) (e : Env) : Prop where
  new : ∀ t, vGet d t E ≠ .und → (∀ i o, ops[i]? = some o → o.dst = some t → Lst L i) → ∃ u, fnd e t = some u ∧ CV φ (vGet d t E) u
  old : ∀ t, vGet d t E0 ≠ .und → (∀ i o, ops[i]? = some o → o.dst = some t → ¬ Lst L i) → ∃ u, fnd e t = some u ∧ CV φ (vGet d t E0) u
theorem lst_set {L : Array Bool} {i j : Nat} (hi : i < L.size) : Lst (L.setIfInBounds i true) j ↔ j = i ∨ Lst L j := by
  unfold Lst
  rw [Array.getD_eq_getD_getElem?, Array.getD_eq_getD_getElem?, Array.getElem?_setIfInBounds]
  by_cases h : i = j
  · subst h; simp [hi]
  · rw [if_neg h]
    constructor
    · exact .inr
    · rintro (rfl | h')
      · exact absurd rfl h
      · exact h'
theorem EnvL.put {φ φ' : Ph} {ops : List Oper} {L : Array Bool} {d : Nat} {E0 E : Tr V d} {e : Env} {i : Nat} {o : Oper} {x : V} {u : Value} (h : EnvL φ ops L d E0 E e) (hs : Sb φ φ') (hi : i < L.size) (ho : ops[i]? = some o) (hx : SV d E o.dst x) (hc : CV φ' x u) :
    EnvL φ' ops (L.setIfInBounds i true) d E0 E (putE e o.dst u) := by
  have hfnd : ∀ t, o.dst ≠ some t → fnd (putE e o.dst u) t = fnd e t := fun t hd => by
    cases hq : o.dst with
    | none => rfl
    | some s =>
      have : Nat.beq t s = false := by
        rw [Bool.eq_false_iff]; intro hb
        exact hd (by rw [hq, Nat.eq_of_beq_eq_true hb])
      simp [putE, fnd, this]
  refine ⟨fun t ht hw => ?_, fun t ht hw => ?_⟩
  · by_cases hd : o.dst = some t
    · refine ⟨u, ?_, ?_⟩
      · rw [hd]
        have : Nat.beq t t = true := Nat.beq_refl t
        simp [putE, fnd, this]
      · rcases hx t hd with h1 | h1
        · rw [h1]; exact hc
        · exact absurd h1 ht
    · obtain ⟨u', h1, h2⟩ := h.new t ht fun i' o' ho' hd' => by
        rcases (lst_set hi).1 (hw i' o' ho' hd') with rfl | h1
        · rw [ho] at ho'; cases ho'; exact absurd hd' hd
        · exact h1
      exact ⟨u', (hfnd t hd).trans h1, h2.mono hs⟩
  · by_cases hd : o.dst = some t
    · exact absurd ((lst_set hi).2 (.inl rfl)) (hw i o ho hd)
    · obtain ⟨u', h1, h2⟩ := h.old t ht fun i' o' ho' hd' hl => hw i' o' ho' hd' ((lst_set hi).2 (.inr hl))
      exact ⟨u', (hfnd t hd).trans h1, h2.mono hs⟩
/-- What an operation may look at. -/
def only (l : List Nat) (ρ : Operand → V) : Operand → V
  | .tmp t => cond (l.contains t) (ρ (.tmp t)) .und
  | x => ρ x
theorem only_eq {l : List Operand} (ρ : Operand → V) (x : Operand) (hx : x ∈ l) : only (tmpsOf l) ρ x = ρ x := by
  cases x with
  | tmp t =>
    have : (tmpsOf l).contains t = true := by simpa using tmps_mem hx
    simp only [only, this, cond_true]
  | _ => rfl
theorem only_rho {G : Nat} {φ : Ph} {h : H} {w : World} {d : Nat} {E : Tr V d} {e : Env} {l : List Nat} (r : Rel G φ h w) (hl : ∀ t ∈ l, vGet d t E ≠ .und → ∃ u, fnd e t = some u ∧ CV φ (vGet d t E) u) : RhoR φ (only l (opV G d E)) e := fun x hx => by
  cases x with
  | tmp t =>
    have hxx : only l (opV G d E) (.tmp t) = cond (l.contains t) (vGet d t E) .und := rfl
    rw [hxx] at hx ⊢
    cases hm : l.contains t with
    | false => rw [hm] at hx; exact absurd rfl hx
    | true =>
      rw [hm] at hx
      exact hl t (by simpa using hm) hx
  | const v => exact ⟨v, rfl, cv_ofV hx⟩
  | global g =>
    have hxx : only l (opV G d E) (.global g) = cond (Nat.blt g G) (.ptr g 0) .und := rfl
    rw [hxx] at hx ⊢
    cases hg : Nat.blt g G with
    | false => simp [hg] at hx
    | true =>
      obtain ⟨N, hp⟩ := r.glob g (by simpa using hg)
      exact ⟨_, rfl, .ptr hp⟩
  | func f => exact ⟨_, rfl, .fn .nil .nil⟩
theorem wantsL_ok {φ : Ph} {D : RC} {d : Nat} {E : Tr V d} {e : Env} {o : Oper} {t : Bool} (hl : ∀ t ∈ readsOf D.ops o, vGet d t E ≠ .und → ∃ u, fnd e t = some u ∧ CV φ (vGet d t E) u) (hw : wants d E D.ops o.guard = some t) : okw D e o.guard t = true := by
  unfold okw
  unfold wants at hw
  split at hw
  · rename_i hg
    cases hw
    rw [hg]; rfl
  · rename_i j b hg
    rw [hg]
    split at hw <;> try cases hw
    rename_i q hq
    split at hw <;> try cases hw
    rename_i i hi
    have hmem : i ∈ readsOf D.ops o := by
      unfold readsOf
      rw [List.mem_append, hg]
      simp [hq, hi]
    split at hw <;> try cases hw
    · rename_i c hc
      obtain ⟨u, h1, h2⟩ := hl i hmem (by rw [hc]; simp)
      rw [hc] at h2
      cases h2
      simp only [okg, wantE, hq, hi, h1]
      cases b <;> cases c <;> rfl
    · rename_i l hc
      obtain ⟨u, h1, h2⟩ := hl i hmem (by rw [hc]; simp)
      rw [hc] at h2
      cases h2
      simp only [okg, wantE, hq, hi, h1]
end Go.Proofs.YtkgiammeeckfbaaGreat
