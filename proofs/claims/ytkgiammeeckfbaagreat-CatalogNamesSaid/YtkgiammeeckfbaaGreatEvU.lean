/- What the reckoner answers is what the function returns. It is of no program. -/
import Derived.Test.YtkgiammeeckfbaaGreatEvT
namespace Go.Proofs.YtkgiammeeckfbaaGreat
open Go Go.RowKit
set_option linter.all false

theorem ancOf_has (acc : List Nat) {e : Edge} : ∀ (l : List Edge), e ∈ l → Region.binds .any e = true → (ancOf acc l).testBit e.on = true
  | q :: l, h, hb => by
    have hstep : ancOf acc (q :: l) = cond (Region.binds .any q) (Nat.lor (ancOf acc l) (Nat.lor (Nat.pow 2 q.on) (acc.getD q.on 0))) (ancOf acc l) := rfl
    rw [hstep]
    have hor : ∀ x y : Nat, Nat.lor x y = x ||| y := fun _ _ => rfl
    have hpw : Nat.pow 2 q.on = 2 ^ q.on := rfl
    rcases List.mem_cons.1 h with rfl | h
    · rw [hb]
      simp only [cond_true, hor, hpw, Nat.testBit_or, Nat.testBit_two_pow]
      simp
    · have h1 := ancOf_has acc l h hb
      cases hq : Region.binds .any q with
      | false => exact h1
      | true => simp only [cond_true, hor, Nat.testBit_or, h1, Bool.true_or]
theorem edge_back {ops : List Oper} (hb : backOk ops = true) {j : Nat} {o : Oper} (hj : ops[j]? = some o) {e : Edge} (he : e ∈ o.after.toList) (hbi : Region.binds .any e = true) : e.on < j := by
  obtain ⟨m, h1, -, h3⟩ := ancs_get ops [] j o hj
  simp only [List.length_nil, Nat.zero_add] at h1 h3
  have ha : anc ops j = ancOf m o.after.toList := by
    unfold anc
    simp [List.getD, h3]
  exact back_lt hb (List.getElem?_eq_some_iff.1 hj).1 (by rw [ha]; exact ancOf_has m _ he hbi)

theorem mem_ready {ops : List Oper} {L : Array Bool} {i : Nat} (hL : L.size = ops.length) : i ∈ Region.ready .any ops.toArray L ↔ ∃ o, ops[i]? = some o ∧ ¬ Lst L i ∧ ∀ e ∈ o.after.toList, Region.binds .any e = true → Lst L e.on := by
  unfold Region.ready Lst
  rw [List.mem_filter, List.mem_range]
  constructor
  · rintro ⟨h1, h2⟩
    have h1' : i < ops.length := by simpa using h1
    refine ⟨ops[i], List.getElem?_eq_getElem h1', ?_⟩
    simp [h1', Array.getD, hL] at h2
    refine ⟨by simp [Array.getD, hL, h1', h2.1], fun e he hb => ?_⟩
    obtain ⟨m, hm, rfl⟩ := List.getElem_of_mem he
    have h3 := h2.2 m (by simpa using hm)
    simp at hb
    rcases h3 with h3 | h3
    · rw [hb] at h3; cases h3
    · simpa [Array.getD, hL] using h3
  · rintro ⟨o, h1, h2, h3⟩
    have h1' : i < ops.length := (List.getElem?_eq_some_iff.1 h1).1
    refine ⟨by simpa using h1', ?_⟩
    have h4 : L.getD i true = false := by
      simp [Array.getD, hL, h1'] at h2 ⊢
      exact h2
    simp only [h4, List.getElem?_toArray, h1, Option.map_some, Option.getD_some, Bool.not_false, Bool.true_and, Array.all_eq_true']
    intro e he
    cases hb : Region.binds .any e with
    | false => rfl
    | true => simpa using h3 e (by simpa using he) hb

theorem ready_nil {ops : List Oper} (hb : backOk ops = true) {L : Array Bool} (hL : L.size = ops.length) (hr : Region.ready .any ops.toArray L = []) : ∀ j, j < ops.length → Lst L j := by
  intro j
  induction j using Nat.strongRecOn with
  | _ j ih =>
    intro hj
    by_cases h : Lst L j
    · exact h
    · exfalso
      have h1 : ops[j]? = some ops[j] := List.getElem?_eq_getElem hj
      have : j ∈ Region.ready .any ops.toArray L := (mem_ready hL).2 ⟨_, h1, h, fun e he hbi => by
        have h2 := edge_back hb h1 he hbi
        exact ih e.on h2 (by omega)⟩
      rw [hr] at this; cases this

/-- How many are still to come. -/
def unl (n : Nat) (L : Array Bool) : Nat := ((List.range n).filter fun j => !L.getD j false).length
theorem unl_set {n i : Nat} {L : Array Bool} (hL : L.size = n) (hi : i < n) (h : ¬ Lst L i) : unl n (L.setIfInBounds i true) < unl n L := by
  have h1 : ∀ j, (!(L.setIfInBounds i true).getD j false) = ((!L.getD j false) && !(j == i)) := fun j => by
    have := lst_set (L := L) (i := i) (j := j) (by omega)
    unfold Lst at this
    rw [Bool.eq_iff_iff]
    simp only [Bool.not_eq_true', Bool.and_eq_true, ← Bool.not_eq_true, this, beq_iff_eq]
    simp only [not_or]
    exact And.comm
  have h2 : (List.range n).filter (fun j => !(L.setIfInBounds i true).getD j false) = ((List.range n).filter fun j => !L.getD j false).filter fun j => !(j == i) := by
    rw [List.filter_filter]
    exact List.filter_congr fun j _ => by rw [h1 j, Bool.and_comm]
  unfold unl
  rw [h2]
  refine List.length_filter_lt_length_iff_exists.2 ⟨i, ?_, by simp⟩
  rw [List.mem_filter]
  refine ⟨List.mem_range.2 hi, ?_⟩
  unfold Lst at h
  simpa using h

section
variable {P : Program} {G : Nat} {X : Hook P G} {ih : RunT} {ops : List Oper} {fr : Fr} {E0 Ef : Tr V fr.d} {hh : List H} {al : List (Nat × B)} {Es : List (Tr V fr.d)} {φ0 : Ph} {h0 : H} {w0 : World}

theorem any_ok (hS : Sd P G X ih) (S : Seen P G X ih ops h0.next fr E0 Ef hh al Es) {D : RC} (hDo : D.ops = ops) (hDP : D.C.P = P) (hDn : D.C.n = fr.n)
    (hend : ∀ L c hc φ w e, Inv P G ops fr E0 Ef hh al φ0 h0 w0 L c hc φ w e → (∀ j, j < ops.length → Lst L j) → ∀ a, EOk D.C.n D.C.ms e a → QK D.C D.k .normal a w) :
    ∀ (fuel : Nat) (L : Array Bool) (c : Nat) (hc : H) (φ : Ph) (w : World) (e : Env), Inv P G ops fr E0 Ef hh al φ0 h0 w0 L c hc φ w e → unl ops.length L ≤ fuel → ∀ a, EOk D.C.n D.C.ms e a → wpAnyIn (WF D.C.rd) 0 D.C.P .any D.ops.toArray (QK D.C D.k) fuel L a w
  | 0, L, c, hc, φ, w, e, I, hf, a, ha => by
    have hall : ∀ j, j < ops.length → Lst L j := fun j hj => by
      have h1 : unl ops.length L = 0 := Nat.le_zero.1 hf
      unfold unl at h1
      have h2 := List.length_eq_zero_iff.1 h1
      rw [List.filter_eq_nil_iff] at h2
      have := h2 j (List.mem_range.2 hj)
      simpa [Lst] using this
    refine ⟨?_, hend _ _ _ _ _ _ I hall a ha⟩
    rw [hDo]
    cases hr : Region.ready .any ops.toArray L with
    | nil => rfl
    | cons i r =>
      obtain ⟨o, h1, h2, -⟩ := (mem_ready I.len (i := i)).1 (by rw [hr]; exact List.mem_cons_self ..)
      exact absurd (hall i (List.getElem?_eq_some_iff.1 h1).1) h2
  | fuel + 1, L, c, hc, φ, w, e, I, hf, a, ha => by
    refine ⟨fun hr => hend _ _ _ _ _ _ I (ready_nil S.back I.len (hDo ▸ hr)) a ha, fun i hi => ?_⟩
    obtain ⟨o, h1, h2, h3⟩ := (mem_ready I.len).1 (hDo ▸ hi)
    have hil := (List.getElem?_eq_some_iff.1 h1).1
    have hK := inv_step (K := wpAnyIn (WF D.C.rd) 0 D.C.P .any D.ops.toArray (QK D.C D.k) fuel (L.setIfInBounds i true)) hS S hDo hDP hDn I h1 h2 h3 (fun c' hc' φ' w' e' I' a' ha' =>
      any_ok hS S hDo hDP hDn hend fuel _ c' hc' φ' w' e' I' (by have := unl_set I.len hil h2; omega) a' ha') ha
    unfold wpOpIn
    rw [show D.ops.toArray[i]? = some o from by rw [hDo]; simpa using h1]
    exact hK
end

theorem dr_ok {P : Program} {G : Nat} {X : Hook P G} {ih : RunT} (hS : Sd P G X ih) : Dr P G X ih := by
  intro id ops k fr E ms h v h' he φ w e C hA hF
  unfold drawn at he
  cases hcond : and (P.follows .mixedOrders) (stOk P fr.n ops) with
  | false => rw [hcond] at he; cases he
  | true =>
  rw [hcond] at he
  simp only [cond_true, fN_eq] at he
  simp only [stOk, Bool.and_eq_true] at hcond
  obtain ⟨hm, ⟨hdst, hcalm⟩, ⟨hnod, hback⟩, hch, hslot⟩ := hcond
  obtain ⟨Ef, cur, hs, al, Es, hcont, -, -, ⟨al', e1, half, haln⟩, hcur, hlen, hsl, hfact⟩ := drawGo_spec hslot hback (nodupB_spec hnod) _ E _ ops 0 E _ _ [] [] [] rfl rfl rfl rfl (fun _ _ => rfl) he
  simp only [List.append_nil] at e1
  subst e1
  simp only [Nat.zero_add] at hlen
  have hes : cAt P ops ops.length = (es P ops).length := rfl
  cases hrd : readsOk P G ops h.next fr.d Ef ((⟨h.t, Nat.add h.next (nFree P ops)⟩ : H) :: hs.reverse) al Es.reverse with
  | false => rw [hrd] at hcont; cases hcont
  | true =>
  rw [hrd] at hcont
  simp only [cond_true, addAll_eq] at hcont
  have S : Seen P G X ih ops h.next fr E Ef ((⟨h.t, Nat.add h.next (nFree P ops)⟩ : H) :: hs.reverse) al Es.reverse := ⟨hdst, hslot, hback, nodupB_spec hnod, hch, fun i o hi => hfact i o (Nat.zero_le _) hi, hrd,
    fun p hp => let ⟨_, a, b, c, d⟩ := half p hp; ⟨mem_frees.2 ⟨a, b, c⟩, d⟩, haln, by simp [hlen, hes]⟩
  have hpe := hA.rel.ext (Ext.drew0 w)
  have hok : dstsOk C.n ops = true := by rw [hA.nt]; exact hdst
  have hnone : ∀ b, h.next ≤ b → hGet h b = none := fun b hb => by
    cases hq : hGet h b with
    | none => rfl
    | some x =>
      obtain ⟨p, h1, -⟩ := hA.rel.blk _ _ hq
      rw [hA.rel.fresh b hb] at h1; cases h1
  have I0 : Inv P G ops fr E Ef ((⟨h.t, Nat.add h.next (nFree P ops)⟩ : H) :: hs.reverse) al φ h w (Array.replicate ops.length false) 0 ⟨h.t, Nat.add h.next (nFree P ops)⟩ φ w.drew e := by
    have hl : ∀ j, ¬ Lst (Array.replicate ops.length false) j := fun j => by
      unfold Lst
      by_cases hj : j < ops.length <;> simp [Array.getD, hj]
    have hfil : al.filter (pendB P ops (Array.replicate ops.length false) 0) = [] := List.filter_eq_nil_iff.2 fun p _ hp => hl p.1 (pendB_spec.1 hp).1
    refine ⟨?_, rfl, Nat.le_refl _, fun j hj _ => hnone _ (Nat.le_add_right _ _), fun j hj _ => hA.rel.fresh _ (Nat.le_add_right _ _), ⟨fun t ht hw => ?_, fun t ht _ => hA.env t ht⟩, fun j hj hE => ?_, fun j o ed _ hj => absurd hj (hl j), by simp⟩
    · rw [hfil]
      exact ⟨hpe.sb, ⟨hpe.rel.inj, hpe.rel.blk, fun b hb => hpe.rel.fresh b (Nat.le_trans (Nat.le_add_right _ _) hb), hpe.rel.glob⟩, hpe.kp, hpe.ft, ⟨hpe.hp.dm, Nat.le_add_right _ _, hpe.hp.od, hpe.hp.ro⟩⟩
    · have h1 : vGet fr.d t Ef = vGet fr.d t E := hsl t fun i o _ ho hd => hl i (hw i o ho hd)
      rw [h1] at ht ⊢
      exact hA.env t ht
    · exact ⟨fun h1 => absurd h1 (hl j), fun h1 => by omega⟩
  refine fun a ha => runA_of_wpIn (n := 0) (wpIn_region_any (by rw [hA.prog]; exact hm) ?_)
  refine any_ok (D := ⟨C, ops, k, hok⟩) hS S rfl hA.prog hA.nt (fun L c hc φ1 w1 e1 I hall a' ha' => ?_) _ _ 0 _ φ w.drew e I0 (by unfold unl; exact Nat.le_trans (List.length_filter_le _ _) (by simp)) a ha
  have hcc : c = (es P ops).length := by
    have h1 := (List.getElem?_eq_some_iff.1 I.at').1
    rw [S.len] at h1
    rcases Nat.lt_or_ge c (es P ops).length with h2 | h2
    · have h3 : (es P ops)[c]? = some ((es P ops)[c]) := List.getElem?_eq_getElem h2
      have h4 := mem_es.1 (List.mem_of_getElem? h3)
      have h5 := (I.acts _ h4.1 h4.2).1 (hall _ h4.1)
      rw [es_idx h3] at h5
      omega
    · omega
  have hcu : hc = cur := by
    have h1 := I.at'
    rw [hcc, ← hes, ← hlen, hcur] at h1
    exact (Option.some.inj h1).symm
  subst hcu
  have hfil : al.filter (pendB P ops L c) = al.filter (lateB P ops hs.length) := List.filter_congr fun p hp => by
    have h1 : L.getD p.1 false = true := hall p.1 (mem_frees.1 (S.alf p hp).1).1
    unfold pendB
    rw [h1, hcc, ← hes, ← hlen, Bool.true_and]
  have hp := I.post
  rw [hfil] at hp
  have henv : EnvR φ1 fr.d Ef e1 := fun t ht => I.env.new t ht fun i o ho _ => hall i (List.getElem?_eq_some_iff.1 ho).1
  exact (hS _ _ _ _ _ _ _ _ _ hcont φ1 w1 e1 C (hA.to hp henv) (hF.to hp)).1 rfl a' ha'

/-- A function without arguments, called where the first G blocks are the package's variables. -/
theorem evF_ok {P : Program} {G : Nat} {X : Hook P G} {n : Nat} {f : FuncId} {args : List V} {h h' : H} {v : V} (he : evF P G X n f args h = .ok v h') {φ : Ph} {w : World} {us : List Value} (r : Rel G φ h w) (hc : CVs φ args us) :
    CF P f ∧ Ret P f us w fun u w' => ∃ φ', Post G φ h w φ' h' w' ∧ CV φ' v u :=
  enterN_ok (run_ok (fun _ => dr_ok) n) he r hc
theorem isTrueR_spec {r : Res} (h : isTrueR r = true) : ∃ h', r = .ok (.bool true) h' := by
  unfold isTrueR at h
  split at h
  · subst h; exact ⟨_, rfl⟩
  · cases h
theorem rel_h0 (G : Nat) (w : World) : Rel G (fun b => if b < G then some (b, 0, 0) else none) (h0 G) w := by
  have hn : ∀ b, hGet (h0 G) b = none := fun b => get_new none HD b
  refine ⟨fun a b x y p q ha => (by rw [hn] at ha; cases ha), fun b x hb => (by rw [hn] at hb; cases hb), fun b hb => ?_, fun g hg => ⟨0, if_pos hg⟩⟩
  have : G ≤ b := hb
  exact if_neg (by omega)
/-- What is reckoned to be true is true. -/
theorem evF_true {P : Program} {G : Nat} {X : Hook P G} {n : Nat} {f : FuncId} (he : isTrueR (evF P G X n f [] (h0 G)) = true) (w : World) : Ret P f [] w fun u w' => u = .bool true ∧ Ext w w' := by
  obtain ⟨h', h1⟩ := isTrueR_spec he
  refine (evF_ok h1 (rel_h0 G w) .nil).2.mono fun u w' ⟨φ', hp, hc⟩ => ?_
  cases hc
  refine ⟨rfl, hp.kp.mono' fun k ⟨b, x, p, hb, _⟩ => ?_⟩
  have hn : hGet (h0 G) b = none := get_new none HD b
  rw [hn] at hb; cases hb
end Go.Proofs.YtkgiammeeckfbaaGreat
