/- Regions that draw their order are right. It is of no program. -/
import Derived.Test.YtkgiammeeckfbaaGreatEvS
namespace Go.Proofs.YtkgiammeeckfbaaGreat
open Go Go.RowKit
set_option linter.all false

/-- What the reckoner has seen of a region. -/
structure Seen (P : Program) (G : Nat) (X : Hook P G) (ih : RunT) (ops : List Oper) (b0 : Nat) (fr : Fr) (E0 Ef : Tr V fr.d) (hh : List H) (al : List (Nat × B)) (Es : List (Tr V fr.d)) : Prop where
  dsts : dstsOk fr.n ops = true
  slot : slotsOk ops = true
  back : backOk ops = true
  nod : (dstsOf ops).Nodup
  chain : chained ops (es P ops) = true
  fact : ∀ i o, ops[i]? = some o → ∃ Ej, Es[i]? = some Ej ∧ EnvAt ops fr.d E0 Ef Ej i o ∧ Fact P G X ih ops b0 fr Ef Ej hh al i o
  reads : readsOk P G ops b0 fr.d Ef hh al Es = true
  alf : ∀ p ∈ al, p.1 ∈ frees P ops ∧ ∃ o Ej, ops[p.1]? = some o ∧ Es[p.1]? = some Ej ∧ wants fr.d Ej ops o.guard = some true
  aln : (al.map (·.1)).Nodup
  len : hh.length = (es P ops).length + 1

/-- Blocks that have been made, and are not yet in the memory of the acting operations. -/
noncomputable def pendB (P : Program) (ops : List Oper) (L : Array Bool) (c : Nat) (p : Nat × B) : Bool := and (L.getD p.1 false) (lateB P ops c p)
theorem pendB_spec {P : Program} {ops : List Oper} {L : Array Bool} {c : Nat} {p : Nat × B} : pendB P ops L c p = true ↔ Lst L p.1 ∧ c ≤ cMax P ops p.1 := by
  unfold pendB lateB Lst
  rw [Bool.and_eq_true]
  simp

/-- What holds when the operations of L have been carried out. -/
structure Inv (P : Program) (G : Nat) (ops : List Oper) (fr : Fr) (E0 Ef : Tr V fr.d) (hh : List H) (al : List (Nat × B)) (φ0 : Ph) (h0 : H) (w0 : World) (L : Array Bool) (c : Nat) (hc : H) (φ : Ph) (w : World) (e : Env) : Prop where
  post : Post G φ0 h0 w0 φ (addA P ops h0.next (al.filter (pendB P ops L c)) hc) w
  at' : hh[c]? = some hc
  nx : h0.next + nFree P ops ≤ hc.next
  od : ∀ j ∈ frees P ops, c ≤ cMax P ops j → hGet hc (h0.next + rk P ops j) = none
  ph : ∀ j ∈ frees P ops, ¬ Lst L j → φ (h0.next + rk P ops j) = none
  env : EnvL φ ops L fr.d E0 Ef e
  acts : ∀ j, j < ops.length → isE P ops j = true → (Lst L j ↔ cAt P ops j < c)
  clo : Closed ops (Lst L)
  len : L.size = ops.length

section
variable {P : Program} {G : Nat} {X : Hook P G} {ih : RunT} {ops : List Oper} {fr : Fr} {E0 Ef : Tr V fr.d} {hh : List H} {al : List (Nat × B)} {Es : List (Tr V fr.d)} {φ0 φ : Ph} {h0 hc : H} {w0 w : World} {L : Array Bool} {c : Nat} {e : Env}

theorem Seen.nd {b0 : Nat} (S : Seen P G X ih ops b0 fr E0 Ef hh al Es) (f : Nat × B → Bool) : ((al.filter f).map fun q => rk P ops q.1).Nodup := by
  have h1 : al.Pairwise fun a b => a.1 ≠ b.1 := List.pairwise_map.1 S.aln
  have h2 : al.Pairwise fun a b => rk P ops a.1 ≠ rk P ops b.1 := List.Pairwise.imp_of_mem (fun {a b} ha hb hn hr => hn (rk_inj (S.alf a ha).1 (S.alf b hb).1 hr)) h1
  exact List.pairwise_map.2 (h2.sublist List.filter_sublist)

theorem Inv.old (S : Seen P G X ih ops h0.next fr E0 Ef hh al Es) (I : Inv P G ops fr E0 Ef hh al φ0 h0 w0 L c hc φ w e) (b : Nat) (y : B) (hb : hGet hc b = some y) : hGet (addA P ops h0.next (al.filter (pendB P ops L c)) hc) b = some y := by
  refine (addA_ne _ _ fun p hp hbb => ?_).trans hb
  have hp := List.mem_filter.1 hp
  have := I.od p.1 (S.alf p hp.1).1 (pendB_spec.1 hp.2).2
  rw [← hbb, hb] at this
  cases this
theorem Inv.alw (S : Seen P G X ih ops h0.next fr E0 Ef hh al Es) (I : Inv P G ops fr E0 Ef hh al φ0 h0 w0 L c hc φ w e) {p : Nat × B} (hp : p ∈ al) (hl : Lst L p.1) (hm : c ≤ cMax P ops p.1) (hb : h0.next + rk P ops p.1 < 16 ^ HD) : hGet (addA P ops h0.next (al.filter (pendB P ops L c)) hc) (h0.next + rk P ops p.1) = some p.2 :=
  addA_in _ _ (S.nd _) (List.mem_filter.2 ⟨hp, pendB_spec.2 ⟨hl, hm⟩⟩) hb
theorem Inv.sub (S : Seen P G X ih ops h0.next fr E0 Ef hh al Es) (I : Inv P G ops fr E0 Ef hh al φ0 h0 w0 L c hc φ w e) {f : Nat × B → Bool} (hf : ∀ p ∈ al, f p = true → Lst L p.1 ∧ c ≤ cMax P ops p.1) (b : Nat) (y : B) (hb : hGet (addA P ops h0.next (al.filter f) hc) b = some y) : hGet (addA P ops h0.next (al.filter (pendB P ops L c)) hc) b = some y := by
  have hlt := hGet_lt hb
  rcases addA_some _ _ hb with ⟨h1, -⟩ | ⟨p, h1, rfl, rfl⟩
  · exact I.old S b y h1
  · have h2 := List.mem_filter.1 h1
    have h3 := hf p h2.1 h2.2
    exact I.alw S h2.1 h3.1 h3.2 hlt
theorem Inv.part (S : Seen P G X ih ops h0.next fr E0 Ef hh al Es) (I : Inv P G ops fr E0 Ef hh al φ0 h0 w0 L c hc φ w e) {f : Nat × B → Bool} (hf : ∀ p ∈ al, f p = true → Lst L p.1 ∧ c ≤ cMax P ops p.1) : Rel G φ (addA P ops h0.next (al.filter f) hc) w :=
  I.post.rel.sub (by rw [addA_next, addA_next]) (I.sub S hf)

theorem filt_same {i : Nat} (hi : i < L.size) (h : ∀ p ∈ al, p.1 ≠ i) : al.filter (pendB P ops (L.setIfInBounds i true) c) = al.filter (pendB P ops L c) :=
  List.filter_congr fun p hp => by
    rw [Bool.eq_iff_iff, pendB_spec, pendB_spec, lst_set hi]
    constructor
    · rintro ⟨h2 | h2, h3⟩
      · exact absurd h2 (h p hp)
      · exact ⟨h2, h3⟩
    · exact fun h2 => ⟨.inr h2.1, h2.2⟩

theorem inv_step (hS : Sd P G X ih) (S : Seen P G X ih ops h0.next fr E0 Ef hh al Es) {D : RC} (hDo : D.ops = ops) (hDP : D.C.P = P) (hDn : D.C.n = fr.n) (I : Inv P G ops fr E0 Ef hh al φ0 h0 w0 L c hc φ w e) {i : Nat} {o : Oper} (hi : ops[i]? = some o) (hun : ¬ Lst L i)
    (hrdy : ∀ e ∈ o.after.toList, Region.binds .any e = true → Lst L e.on) {K : Act → World → Prop} (hK : ∀ c' hc' φ' w' e', Inv P G ops fr E0 Ef hh al φ0 h0 w0 (L.setIfInBounds i true) c' hc' φ' w' e' → ∀ a, EOk D.C.n D.C.ms e' a → K a w') {a : Act} (ha : EOk D.C.n D.C.ms e a) : OpK D o K a w := by
  subst hDP
  have hil : i < ops.length := (List.getElem?_eq_some_iff.1 hi).1
  have hiL : i < L.size := by rw [I.len]; exact hil
  have ancL : ∀ j, (anc ops i).testBit j = true → Lst L j := fun j hj => anc_closed I.clo i j o hi hrdy hj
  obtain ⟨Ej, hEs, henvj, hfact⟩ := S.fact i o hi
  have rdL : ∀ t ∈ readsOf ops o, vGet fr.d t Ej ≠ .und → ∃ u, fnd e t = some u ∧ CV φ (vGet fr.d t Ej) u := fun t ht hne => by
    by_cases hw : ∃ i' q, ops[i']? = some q ∧ q.dst = some t ∧ (anc ops i).testBit i' = true
    · obtain ⟨i', q, h1, h2, h3⟩ := hw
      have hall : ∀ i'' q', ops[i'']? = some q' → q'.dst = some t → (anc ops i).testBit i'' = true := fun i'' q' h4 h5 => by
        rw [dst_inj S.nod h4 h1 h5 h2]; exact h3
      have h6 := henvj.new t ht hall
      rw [h6] at hne ⊢
      exact I.env.new t hne fun i'' q' h4 h5 => ancL _ (hall i'' q' h4 h5)
    · have hall : ∀ i'' q', ops[i'']? = some q' → q'.dst = some t → ¬ (anc ops i).testBit i'' = true := fun i'' q' h4 h5 h6 => hw ⟨i'', q', h4, h5, h6⟩
      have h6 := henvj.old t ht hall
      rw [h6] at hne ⊢
      refine I.env.old t hne fun i'' q' h4 h5 h7 => ?_
      rcases slots_anc S.slot hi ht h4 h5 with h8 | h8 | h8
      · exact hall i'' q' h4 h5 h8
      · exact hun (h8 ▸ h7)
      · exact hun (anc_closed I.clo i'' i q' h4 (fun ed he hb => I.clo i'' q' ed h4 h7 he hb) h8)
  have opL : ∀ t ∈ tmpsOf o.op.operands.toList, vGet fr.d t Ej ≠ .und → ∃ u, fnd e t = some u ∧ CV φ (vGet fr.d t Ej) u := fun t ht => rdL t (by unfold readsOf; exact List.mem_append_left _ ht)
  have congr : ∀ x ∈ o.op.operands, only (tmpsOf o.op.operands.toList) (opV G fr.d Ej) x = opV G fr.d Ej x := fun x hx => only_eq _ x (by simpa using hx)
  have len' : (L.setIfInBounds i true).size = ops.length := by simp [I.len]
  have mono : ∀ j, Lst L j → Lst (L.setIfInBounds i true) j := fun j hj => (lst_set hiL).2 (.inr hj)
  have clo' : Closed ops (Lst (L.setIfInBounds i true)) := fun j q ed hq hj he hb => by
    rcases (lst_set hiL).1 hj with rfl | hj
    · rw [hi] at hq; cases hq
      exact mono _ (hrdy ed he hb)
    · exact mono _ (I.clo j q ed hq hj he hb)
  have hd : dOk D.C.n o.dst = true := by
    rw [hDn]
    cases hq : o.dst with
    | none => rfl
    | some t => exact dstsOk_spec S.dsts i o t hi hq
  have acts0 : isE D.C.P ops i = false → ∀ j, j < ops.length → isE D.C.P ops j = true → (Lst (L.setIfInBounds i true) j ↔ cAt D.C.P ops j < c) := fun hE j hj hEj => by
    rw [lst_set hiL, ← I.acts j hj hEj]
    constructor
    · rintro (rfl | h)
      · rw [hE] at hEj; cases hEj
      · exact h
    · exact .inr
  have atc : isE D.C.P ops i = true → cAt D.C.P ops i = c := fun hE => by
    have h1 : ¬ cAt D.C.P ops i < c := fun h => hun ((I.acts i hil hE).2 h)
    have h2 : ¬ c < cAt D.C.P ops i := fun h => by
      have h3 := es_at hil hE
      have h4 := (List.getElem?_eq_some_iff.1 h3).1
      obtain ⟨m, hm⟩ : ∃ m, cAt D.C.P ops i = m + 1 := ⟨cAt D.C.P ops i - 1, by omega⟩
      have h5 : (es D.C.P ops)[m]? = some ((es D.C.P ops)[m]'(by omega)) := List.getElem?_eq_getElem _
      rw [hm] at h3
      have h6 := ancL _ (chained_spec _ m _ _ S.chain h5 h3)
      have h7 := mem_es.1 (List.mem_of_getElem? h5)
      have h8 := (I.acts _ h7.1 h7.2).1 h6
      rw [es_idx h5] at h8
      omega
    omega
  have acts1 : isE D.C.P ops i = true → ∀ j, j < ops.length → isE D.C.P ops j = true → (Lst (L.setIfInBounds i true) j ↔ cAt D.C.P ops j < c + 1) := fun hE j hj hEj => by
    rw [lst_set hiL, I.acts j hj hEj]
    constructor
    · rintro (rfl | h)
      · rw [atc hE]; omega
      · omega
    · intro h
      rcases Nat.lt_or_ge (cAt D.C.P ops j) c with h1 | h1
      · exact .inr h1
      · have h2 : cAt D.C.P ops j = cAt D.C.P ops i := by rw [atc hE]; omega
        have h3 := es_at hj hEj
        rw [h2, es_at hil hE] at h3
        exact .inl (Option.some.inj h3).symm
  have ph0 : ∀ {φ' : Ph}, (∀ j ∈ frees D.C.P ops, ¬ Lst L j → φ' (h0.next + rk D.C.P ops j) = none) → ∀ j ∈ frees D.C.P ops, ¬ Lst (L.setIfInBounds i true) j → φ' (h0.next + rk D.C.P ops j) = none := fun h j hj hn => h j hj fun hl => hn (mono j hl)
  have hmax : c ≤ cMax D.C.P ops i := by
    rcases Nat.lt_or_ge (cMax D.C.P ops i) (es D.C.P ops).length with h1 | h1
    · have h2 : (anc ops (es D.C.P ops)[cMax D.C.P ops i]).testBit i = true := List.findIdx_getElem (w := h1) (p := fun e => (anc ops e).testBit i)
      have h3 : (es D.C.P ops)[cMax D.C.P ops i]? = some ((es D.C.P ops)[cMax D.C.P ops i]) := List.getElem?_eq_getElem h1
      have h4 := mem_es.1 (List.mem_of_getElem? h3)
      have h5 := es_idx h3
      rcases Nat.lt_or_ge (cMax D.C.P ops i) c with h6 | h6
      · exfalso
        have h7 := (I.acts _ h4.1 h4.2).2 (by rw [h5]; exact h6)
        obtain ⟨q, hq⟩ : ∃ q, ops[(es D.C.P ops)[cMax D.C.P ops i]]? = some q := ⟨_, List.getElem?_eq_getElem h4.1⟩
        exact hun (anc_closed I.clo _ i q hq (fun ed he hb => I.clo _ q ed hq h7 he hb) h2)
      · exact h6
    · have h2 := (List.getElem?_eq_some_iff.1 I.at').1
      rw [S.len] at h2
      omega
  have hjoin : isE D.C.P ops i = true → ∀ p ∈ al, joinB D.C.P ops c p = true → Lst L p.1 ∧ c ≤ cMax D.C.P ops p.1 := fun hE p _ hj => by
    have h1 : cMax D.C.P ops p.1 = c := Nat.eq_of_beq_eq_true hj
    rw [← atc hE] at hj
    exact ⟨ancL _ (join_anc hil hE hj), by omega⟩
  have odmet : isE D.C.P ops i = true → ∀ j ∈ frees D.C.P ops, c + 1 ≤ cMax D.C.P ops j → hGet (metH D.C.P ops h0.next al c hc) (h0.next + rk D.C.P ops j) = none := fun hE j hj hm => by
    cases hq : hGet (metH D.C.P ops h0.next al c hc) (h0.next + rk D.C.P ops j) with
    | none => rfl
    | some y =>
      rcases addA_some _ _ hq with ⟨h1, -⟩ | ⟨p, h1, h2, -⟩
      · rw [I.od j hj (by omega)] at h1; cases h1
      · have h3 := List.mem_filter.1 h1
        have h4 : j = p.1 := rk_inj hj (S.alf p h3.1).1 (by omega)
        have h5 : cMax D.C.P ops p.1 = c := Nat.eq_of_beq_eq_true h3.2
        rw [← h4] at h5
        omega
  cases hfact with
  | no hw hsv hE =>
    have hok : okw D e o.guard false = true := by
      subst hDo; exact wantsL_ok rdL hw
    have hfil := fun c => filt_same (P := D.C.P) (ops := ops) (c := c) hiL fun p hp e => by
      obtain ⟨-, q, Eq, h1, h2, h3⟩ := S.alf p hp
      rw [e] at h1 h2
      rw [hi] at h1; cases h1
      rw [hEs] at h2; cases h2
      rw [hw] at h3; cases h3
    have henv := I.env.put (Sb.refl φ) hiL hi hsv (u := undef) (.tup .nil)
    cases hEi : isE D.C.P ops i with
    | false => exact kSkip hok hd ha fun a' ha' => hK c hc φ w _ ⟨by rw [hfil]; exact I.post, I.at', I.nx, I.od, ph0 I.ph, henv, acts0 hEi, clo', len'⟩ a' ha'
    | true =>
      obtain ⟨hc2, h1, h2⟩ := hE hEi
      rw [atc hEi] at h1 h2
      rw [I.at'] at h1; cases h1
      refine kSkip hok hd ha fun a' ha' => hK (c + 1) _ φ w _ ⟨?_, h2, (by unfold metH; rw [addA_next]; exact I.nx), fun j hj hm => odmet hEi j hj hm, ph0 I.ph, henv, acts1 hEi, clo', len'⟩ a' ha'
      rw [hfil]
      refine I.post.same (by unfold metH; rw [addA_next, addA_next, addA_next]) fun b y hb => ?_
      have hblt := hGet_lt hb
      rcases addA_some _ _ hb with ⟨h1, -⟩ | ⟨p, h1, h3, h4⟩
      · exact I.sub S (hjoin hEi) b y h1
      · have h5 := List.mem_filter.1 h1
        have h6 := pendB_spec.1 h5.2
        rw [h4, h3]
        exact I.alw S h5.1 h6.1 (by omega) (h3 ▸ hblt)
  | rd hw hrd =>
    have hok : okw D e o.guard true = true := by
      subst hDo; exact wantsL_ok rdL hw
    have hEi : isE D.C.P ops i = false := by unfold isE; rw [hrd]; rfl
    have hfil := fun c => filt_same (P := D.C.P) (ops := ops) (c := c) hiL fun p hp e => by
      have := (mem_frees.1 (S.alf p hp).1).2.1
      rw [e, hrd] at this; cases this
    have hmin : cMin D.C.P ops i ≤ c := cMinL_le _ _ _ (Nat.zero_le _) fun m j hm hb => by
      have h1 := mem_es.1 (List.mem_of_getElem? hm)
      have h2 := (I.acts j h1.1 h1.2).1 (ancL j hb)
      rw [es_idx hm] at h2
      omega
    have hr := List.all_eq_true.1 S.reads i (List.mem_range.2 hil)
    rw [hi] at hr
    simp only [hrd, cond_true, hEs, hw] at hr
    have hr2 := List.all_eq_true.1 hr c (by
      rw [List.mem_range'_1]
      exact ⟨hmin, by show c < cMin D.C.P ops i + (cMax D.C.P ops i + 1 - cMin D.C.P ops i); omega⟩)
    unfold readOk at hr2
    rw [I.at'] at hr2
    simp only [addAll_eq] at hr2
    split at hr2 <;> try cases hr2
    rename_i x hx hev
    have relR := I.part S (f := fun p => and ((anc ops i).testBit p.1) (lateB D.C.P ops c p)) fun p _ hp => by
      rw [Bool.and_eq_true] at hp
      exact ⟨ancL _ hp.1, by simpa [lateB] using hp.2⟩
    have hop : rdOp D.C.P o.op = true := by
      unfold isRd at hrd; rw [hi] at hrd; exact hrd
    obtain ⟨dst, op, ty, pos, aft, g⟩ := o
    have q := evOp_q (P := D.C.P) (G := G) (d := dst) (ty := ty) (pos := pos) (aft := aft) (g := g) relR (only_rho relR opL) hop
    rw [evOp_congr congr, hev] at q
    obtain ⟨-, u, hy, hcv⟩ := q
    have hsv : SV fr.d Ef dst x := fun t ht => by
      subst ht
      exact .inl (vEq_sound _ _ _ hr2).symm
    exact kVal hok hd hy ha fun a' ha' => hK c hc φ w _ ⟨by rw [hfil]; exact I.post, I.at', I.nx, I.od, ph0 I.ph, I.env.put (Sb.refl φ) hiL hi hsv hcv, acts0 hEi, clo', len'⟩ a' ha'
  | al x mk hw hrd hEi hal hmem hsv =>
    have hok : okw D e o.guard true = true := by
      subst hDo; exact wantsL_ok rdL hw
    have hfr : i ∈ frees D.C.P ops := mem_frees.2 ⟨hil, hrd, hEi⟩
    obtain ⟨dst, op, ty, pos, aft, g⟩ := o
    have q := alOp_ok (P := D.C.P) (w := w) (d := dst) (ty := ty) (pos := pos) (aft := aft) (g := g) (op := op) (only_rho (d := fr.d) I.post.rel opL)
    rw [alOp_congr congr, hal] at q
    obtain ⟨obj, u, N, hy, hro, hbr, hcv⟩ := q
    have hph := I.ph i hfr hun
    have hlt : h0.next + rk D.C.P ops i < hc.next := Nat.lt_of_lt_of_le (Nat.add_lt_add_left (rk_lt hfr) _) I.nx
    have hsb : Sb φ (addPh φ (h0.next + rk D.C.P ops i) (w.heap.size, 0, N)) := fun b r hb => by
      unfold addPh
      split
      · rename_i e; rw [e, hph] at hb; cases hb
      · exact hb
    have hpost := I.post.newAt (K' := addA D.C.P ops h0.next (al.filter (pendB D.C.P ops (L.setIfInBounds i true) c)) hc) (x := x) (b' := w.heap.size) (N := N) (Nat.le_add_right _ _) (by rw [addA_next]; exact hlt) hph (ext_alloc w obj) (Nat.le_refl _) (hbr _ hsb) hro (by rw [addA_next, addA_next]) fun b y hb => by
      have hblt := hGet_lt hb
      rcases addA_some _ _ hb with ⟨h1, h2⟩ | ⟨p, h1, h2, h3⟩
      · exact .inl ⟨h2 (i, x) (List.mem_filter.2 ⟨hmem, pendB_spec.2 ⟨(lst_set hiL).2 (.inl rfl), hmax⟩⟩), I.old S b y h1⟩
      · have h4 := List.mem_filter.1 h1
        by_cases hpi : p.1 = i
        · refine .inr ⟨by rw [h2, hpi], ?_⟩
          have hnd := S.aln
          have : p = (i, x) := by
            have hp := List.pairwise_map.1 hnd
            obtain ⟨m, hm, e1⟩ := List.getElem_of_mem h4.1
            obtain ⟨m', hm', e2⟩ := List.getElem_of_mem hmem
            have hpw := List.pairwise_iff_getElem.1 hp
            rcases Nat.lt_trichotomy m m' with h5 | h5 | h5
            · exact absurd (by rw [e1, e2, hpi]) (hpw m m' hm hm' h5)
            · subst h5; rw [← e1, e2]
            · exact absurd (by rw [e1, e2, hpi]) (hpw m' m hm' hm h5)
          rw [h3, this]
        · have hl : Lst L p.1 := by
            rcases (lst_set hiL).1 (pendB_spec.1 h4.2).1 with h5 | h5
            · exact absurd h5 hpi
            · exact h5
          refine .inl ⟨fun e => hpi (rk_inj (S.alf p h4.1).1 hfr (by omega)), ?_⟩
          rw [h3, h2]
          exact I.alw S h4.1 hl (pendB_spec.1 h4.2).2 (h2 ▸ hblt)
    refine kVal hok hd hy ha fun a' ha' => hK c hc _ _ _ ⟨hpost, I.at', I.nx, I.od, fun j hj hn => ?_, I.env.put hsb hiL hi hsv (hcv _ _ (addPh_same _ _ _)), acts0 hEi, clo', len'⟩ a' ha'
    have hji : j ≠ i := fun e => hn (e ▸ (lst_set hiL).2 (.inl rfl))
    show (if h0.next + rk D.C.P ops j = h0.next + rk D.C.P ops i then _ else _) = none
    rw [if_neg fun e => hji (rk_inj hj hfr (by omega))]
    exact I.ph j hj fun h => hn (mono j h)
  | ac hc0 hc' hw hrd hEi hat hat' hdo =>
    have hok : okw D e o.guard true = true := by
      subst hDo; exact wantsL_ok rdL hw
    rw [atc hEi] at hat hat'
    rw [I.at'] at hat; cases hat
    have hfil := fun c => filt_same (P := D.C.P) (ops := ops) (c := c) hiL fun p hp e => by
      have := (mem_frees.1 (S.alf p hp).1).2.2
      rw [e, hEi] at this; cases this
    rw [atc hEi] at hdo
    have next : ∀ {φ1 : Ph} {w1 : World} {x : V} {u : Value}, Post G φ (metH D.C.P ops h0.next al c hc) w φ1 hc' w1 → CV φ1 x u → SV fr.d Ef o.dst x → Inv D.C.P G ops fr E0 Ef hh al φ0 h0 w0 (L.setIfInBounds i true) (c + 1) hc' φ1 w1 (putE e o.dst u) := fun {φ1 w1 x u} q hcv hsv => by
      have hmn : (metH D.C.P ops h0.next al c hc).next = hc.next := addA_next _ _
      have hnx := q.hp.nx
      rw [hmn] at hnx
      refine ⟨?_, hat', Nat.le_trans I.nx hnx, fun j hj hm => q.hp.od _ ?_ (odmet hEi j hj hm), fun j hj hn => ?_, I.env.put q.sb hiL hi hsv hcv, acts1 hEi, clo', len'⟩
      · rw [hfil]
        refine I.post.frame (hmn.trans (addA_next _ _).symm) (I.sub S (hjoin hEi)) q (by rw [addA_next]) fun b y hb => ?_
        have hblt := hGet_lt hb
        rcases addA_some _ _ hb with ⟨h1, -⟩ | ⟨p, h1, h2, h3⟩
        · exact .inl h1
        · have h4 := List.mem_filter.1 h1
          have h5 := pendB_spec.1 h4.2
          refine .inr ⟨?_, ?_⟩
          · rw [h3, h2]; exact I.alw S h4.1 h5.1 (by omega) (h2 ▸ hblt)
          · rw [h2]; exact odmet hEi _ (S.alf p h4.1).1 h5.2
      · rw [hmn]; exact Nat.lt_of_lt_of_le (Nat.add_lt_add_left (rk_lt hj) _) I.nx
      · rw [q.hp.dm _ (by rw [hmn]; exact Nat.lt_of_lt_of_le (Nat.add_lt_add_left (rk_lt hj) _) I.nx)]
        exact I.ph j hj fun h => hn (mono j h)
    have relc : Rel G φ (metH D.C.P ops h0.next al c hc) w := I.part S (hjoin hEi)
    obtain ⟨dst, op, ty, pos, aft, g⟩ := o
    have q := evOp_ok (P := D.C.P) (G := G) (d := dst) (ty := ty) (pos := pos) (aft := aft) (g := g) (op := op) relc (only_rho (d := fr.d) relc opL)
    rw [evOp_congr congr] at q
    revert q hdo
    generalize evOp D.C.P (opV G fr.d Ej) op (metH D.C.P ops h0.next al c hc) = rr
    intro hdo q
    cases rr with
    | v x h1 =>
      obtain ⟨rfl, hsv⟩ := hdo
      obtain ⟨u, w1, φ1, hy, hp, hcv⟩ := q
      exact kVal hok hd hy ha fun a' ha' => hK _ _ _ _ _ (next hp hcv hsv) a' ha'
    | eff h1 =>
      obtain ⟨rfl, hdst⟩ := hdo
      obtain ⟨w1, φ1, hz, hp⟩ := q
      simp only at hdst
      subst hdst
      exact kEff hok rfl hz ha fun a' ha' => hK _ _ _ _ _ (next (u := undef) hp .und fun t ht => by cases ht) a' ha'
    | call f args =>
      obtain ⟨x, hen, hsv⟩ := hdo
      obtain ⟨us, hy, hcs, hv⟩ := q
      rcases enter_ok hS hen relc hcs with ⟨hCF, hRet⟩ | ⟨u, w1, hrun, φ1, hp, hcv⟩
      · have hy := hy hCF
        exact kCall hok hd hy hRet ha fun u w1 ⟨φ1, hp, hcv⟩ a' ha' => hK _ _ _ _ _ (next hp hcv hsv) a' ha'
      · exact kVal hok hd (hv u w1 hrun) ha fun a' ha' => hK _ _ _ _ _ (next hp hcv hsv) a' ha'
    | yld l args =>
      obtain ⟨x, hen, hsv⟩ := hdo
      obtain ⟨us, l', aa, N, hl, hcs, hy⟩ := q
      have hRet := round_ok hS hen relc hl hcs
      exact kYield hok hd hy hRet ha fun u w1 ⟨φ1, hp, hcv⟩ a' ha' => hK _ _ _ _ _ (next hp hcv hsv) a' ha'
    | dfr f cap args => exact hdo.elim
    | bad n => exact hdo.elim
end
end Go.Proofs.YtkgiammeeckfbaaGreat
