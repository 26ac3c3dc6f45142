/- The reckoner's operations on memory: what they answer is what the program's operations do. It is of no program. -/
import Derived.Test.YtkgiammeeckfbaaGreatEvC
import Derived.Deep.AppendSrc
namespace Go.Proofs.YtkgiammeeckfbaaGreat
open Go Go.RowKit
set_option linter.all false

/-! ### Types -/
section
variable {P : Program} {w : World} {t : TypeId}
theorem info_of_und {td : TypeDesc} (h : P.underlying t = some td) : ∃ i, P.info? t = some i := by
  unfold Program.underlying at h
  cases hi : P.info? t with
  | none => rw [hi] at h; cases h
  | some i => exact ⟨i, rfl⟩
theorem run_sz {td : TypeDesc} (h : P.underlying t = some td) (w : World) : (sizeOf t).run P w = .ok (tsz P t) w := by
  obtain ⟨i, hi⟩ := info_of_und h
  simp [sizeOf, typeInfo, program, Sem.run, hi, tsz]
theorem run_sz' (h : 0 < tsz P t) (w : World) : (sizeOf t).run P w = .ok (tsz P t) w := by
  unfold tsz at h
  cases hi : P.info? t with
  | none => rw [hi] at h; simp at h
  | some i => simp [sizeOf, typeInfo, program, Sem.run, hi, tsz]
theorem tagg_some {a : Bool} (h : tagg P t = some a) : ∃ td, P.underlying t = some td ∧ aggOf td = a := by
  unfold tagg at h
  cases hu : P.underlying t with
  | none => rw [hu] at h; cases h
  | some td => rw [hu] at h; exact ⟨td, rfl, by simpa using h⟩
theorem ti_of {l : List V} (h : tzero P t = some l) : ∃ z, TI P t z (tsz P t) (tbytes P t) ∧ l = zeroB z := by
  unfold tzero at h
  cases hi : P.info? t with
  | none => rw [hi] at h; cases h
  | some i =>
    rw [hi] at h
    simp only at h
    cases hz : i.zero with
    | none => rw [hz] at h; cases h
    | some z =>
      rw [hz] at h
      simp at h
      exact ⟨z, ⟨i, hi, hz, by simp [tsz, hi], by simp [tbytes, hi]⟩, h.symm⟩
end

section
variable {φ : Ph}
theorem one_not {v : V} (h : one v = true) : v ≠ .und := by intro e; subst e; cases h
theorem ones_all : ∀ {l : List V}, ones l = true → ∀ v ∈ l, one v = true
  | [], _, v, hv => by cases hv
  | a :: l, h, v, hv => by
    have h' : (one a && ones l) = true := h
    simp only [Bool.and_eq_true] at h'
    rcases List.mem_cons.1 hv with rfl | hv
    · exact h'.1
    · exact ones_all h'.2 v hv
theorem cv_one {v : V} {u : Value} (h : CV φ v u) (ho : one v = true) : oneV u = true := by
  cases h <;> first | rfl | cases ho
theorem cvs_one : ∀ {l : List V} {us : List Value}, CVs φ l us → ones l = true → ∀ u ∈ us, oneV u = true
  | _, _, .nil, _, u, hu => by cases hu
  | _, _, .cons (v := v) (l := l) h k, ho, u, hu => by
    have h' : (one v && ones l) = true := ho
    simp only [Bool.and_eq_true] at h'
    rcases List.mem_cons.1 hu with rfl | hu
    · exact cv_one h h'.1
    · exact cvs_one k h'.2 u hu
theorem cv_ofV {u : Value} (h : ofV u ≠ .und) : CV φ (ofV u) u := by
  unfold ofV at h ⊢
  split at h
  all_goals first | exact .bool | exact .int | exact .nptr | exact .nsl | exact .nmap | exact .nfn | exact .nifc | exact absurd rfl h | skip
  rename_i s
  obtain ⟨⟨l⟩⟩ := s
  have := cv_str (φ := φ) l
  simpa [ByteArray.size] using this
theorem cvs_ofV : ∀ {l : List Value}, ones (l.map ofV) = true → CVs φ (l.map ofV) l
  | [], _ => .nil
  | u :: l, h => by
    have h' : (one (ofV u) && ones (l.map ofV)) = true := h
    simp only [Bool.and_eq_true] at h'
    exact .cons (cv_ofV (one_not h'.1)) (cvs_ofV h'.2)
theorem cvs_zero {z : Value} (h : ones (zeroB z) = true) : CVs φ (zeroB z) z.cells.toList := by
  unfold zeroB at h ⊢
  split at h
  · exact cvs_ofV h
  · rename_i hn
    have h' : (one (ofV z) && true) = true := h
    simp only [Bool.and_true] at h'
    have : z.cells.toList = [z] := by cases z <;> first | rfl | exact (hn _ rfl).elim
    rw [this]
    exact .cons (cv_ofV (one_not h')) .nil
theorem cv_cells {v : V} {u : Value} (h : CV φ v u) (hv : v ≠ .und) : CVs φ (cellsOf v) u.cells.toList := by
  cases h with
  | und => exact absurd rfl hv
  | agg k => exact k
  | int => exact .cons .int .nil
  | bool => exact .cons .bool .nil
  | str h => exact .cons (.str h) .nil
  | ptr h => exact .cons (.ptr h) .nil
  | sl h h1 h2 h3 h4 => exact .cons (.sl h h1 h2 h3 h4) .nil
  | es h h1 => exact .cons (.es h h1) .nil
  | map h => exact .cons (.map h) .nil
  | nptr => exact .cons .nptr .nil
  | nsl => exact .cons .nsl .nil
  | nmap => exact .cons .nmap .nil
  | nfn => exact .cons .nfn .nil
  | nifc => exact .cons .nifc .nil
  | fn h k => exact .cons (.fn h k) .nil
  | yld h => exact .cons (.yld h) .nil
  | ifc h => exact .cons (.ifc h) .nil
  | mth h => exact .cons (.mth h) .nil
  | tup h => exact .cons (.tup h) .nil
end

/-! ### Cells -/
theorem splice_get (us vs : List Value) (k j : Nat) (h : k + vs.length ≤ us.length) : (splice us k vs)[j]? = if k ≤ j ∧ j < k + vs.length then vs[j - k]? else us[j]? := by
  unfold splice
  rw [List.append_assoc, List.getElem?_append]
  simp only [List.length_take, Nat.min_eq_left (show k ≤ us.length by omega)]
  by_cases h1 : j < k
  · rw [if_pos h1, if_neg (by omega), List.getElem?_take, if_pos h1]
  · rw [if_neg h1, List.getElem?_append]
    by_cases h2 : j - k < vs.length
    · rw [if_pos h2, if_pos (by omega)]
    · rw [if_neg h2, if_neg (by omega), List.getElem?_drop]
      congr 1; omega
theorem splice_len (us vs : List Value) (k : Nat) (h : k + vs.length ≤ us.length) : (splice us k vs).length = us.length := by
  simp [splice]; omega

section
variable {φ : Ph} {n d : Nat} {t : Tr V d} {us : List Value} {a : Nat}
theorem TrR.wr {l : List V} {vs : List Value} {o : Nat} (h : TrR φ n d t us a) (hc : CVs φ l vs) (ho : o + l.length ≤ n) (hn : a + n ≤ us.length) : TrR φ n d (wr d l t o) (splice us (a + o) vs) a := by
  have hlen := hc.len
  intro i hi
  rcases wr_get d l t o i with h1 | h1
  · rw [h1]
    have hlt : a + i < (splice us (a + o) vs).length := by rw [splice_len _ _ _ (by omega)]; omega
    exact ⟨_, List.getElem?_eq_getElem hlt, .und⟩
  · rw [splice_get _ _ _ _ (by omega)]
    by_cases hr : o ≤ i ∧ i < o + l.length
    · rw [if_pos hr] at h1
      rw [if_pos (by omega)]
      obtain ⟨u, e1, e2⟩ := hc.get h1
      exact ⟨u, by rw [← e1]; congr 1; omega, e2⟩
    · rw [if_neg hr] at h1
      rw [if_neg (by omega), h1]
      exact h i hi
theorem TrR.new {l : List V} {vs : List Value} (hc : CVs φ l vs) (a : Nat) (pre post : List Value) (ha : pre.length = a) : TrR φ l.length d (Proofs.YtkgiammeeckfbaaGreat.wr d l (trNew .und d) 0) (pre ++ vs ++ post) a := by
  have hlen := hc.len
  intro i hi
  rcases wr_get d l (trNew .und d) 0 i with h1 | h1
  · rw [h1]
    have hlt : a + i < (pre ++ vs ++ post).length := by simp; omega
    exact ⟨_, List.getElem?_eq_getElem hlt, .und⟩
  · rw [if_pos (by omega)] at h1
    obtain ⟨u, e1, e2⟩ := hc.get h1
    refine ⟨u, ?_, e2⟩
    rw [List.append_assoc, List.getElem?_append_right (by omega), ha, List.getElem?_append_left (by simp at e1 ⊢; omega)]
    rw [← e1]; congr 1; omega
theorem TrR.read {m o : Nat} (h : TrR φ n d t us a) (hm : o + m ≤ n) :
    CVs φ ((List.range' o m).map fun i => vGet d i t) ((us.drop (a + o)).take m) := by
  induction m generalizing o with
  | zero => simpa using CVs.nil
  | succ m ih =>
    rw [List.range'_succ, List.map_cons]
    obtain ⟨u, e1, e2⟩ := h o (by omega)
    have := ih (o := o + 1) (by omega)
    have e3 : (us.drop (a + o)).take (m + 1) = u :: (us.drop (a + (o + 1))).take m := by
      have hlt : a + o < us.length := by
        rcases Nat.lt_or_ge (a + o) us.length with h' | h'
        · exact h'
        · rw [List.getElem?_eq_none h'] at e1; cases e1
      rw [List.drop_eq_getElem_cons hlt, List.take_succ_cons]
      congr 1
      rw [List.getElem?_eq_getElem hlt] at e1
      exact Option.some.inj e1
    rw [e3]
    exact .cons e2 this
end

theorem BlkF.cell {w : World} {b : Nat} {us : List Value} {T : TypeId} {fz : Nat × Nat} (h : BlkF w b us T fz) (i : Nat) : w.cell? ⟨b, i, none⟩ = us[i]? := h.blk.cell i

theorem run_storeCells_blkF {P : Program} {b : Nat} {T : TypeId} {fz : Nat × Nat} (o : Nat) : ∀ (vs : List Value) (i : Nat) (cs : List Value) (w : World), BlkF w b cs T fz → o + i + vs.length ≤ cs.length → (∀ v ∈ vs, v.oneCell' = true) →
    ∃ w', (storeCells ⟨b, o, none⟩ vs i).run P w = .ok () w' ∧ BlkF w' b (splice cs (o + i) vs) T fz ∧ Kp (fun k => k = b) w w'
  | [], i, cs, w, hB, _, _ => ⟨w, rfl, by simpa [splice] using hB, Kp.refl _ _⟩
  | v :: r, i, cs, w, hB, hl, h1 => by
    simp only [List.length_cons] at hl
    have hlt : o + i < cs.length := by omega
    have hc : w.cell? ⟨b, o + i, none⟩ = some cs[o + i] := by rw [hB.cell]; simp [hlt]
    have hf := hB.blk.free hlt
    obtain ⟨w', hr, hB', hk⟩ := run_storeCells_blkF (P := P) o r (i + 1) (cs.set (o + i) v) _ (hB.set (o + i) v) (by simp; omega) (fun u hu => h1 u (List.mem_cons_of_mem _ hu))
    refine ⟨w', ?_, ?_, (kp_setCell w b (o + i) v).trans hk⟩
    · simp only [storeCells, Sem.run_bind, add_off, run_store P w _ v _ (h1 v (List.mem_cons_self ..)), hc, hf]
      simpa using hr
    · have he : splice (cs.set (o + i) v) (o + (i + 1)) r = splice cs (o + i) (v :: r) := by
        apply List.ext_getElem?
        intro j
        rw [splice_get _ _ _ _ (by simp; omega), splice_get _ _ _ _ (by simp; omega)]
        simp only [List.length_cons]
        by_cases hj : j = o + i
        · subst hj
          rw [if_neg (by omega), if_pos (by omega)]
          simp [hlt]
        · by_cases h2 : o + (i + 1) ≤ j ∧ j < o + (i + 1) + r.length
          · rw [if_pos h2, if_pos (by omega), show j - (o + i) = (j - (o + (i + 1))) + 1 from by omega]
            simp
          · rw [if_neg h2, if_neg (by omega), List.getElem?_set_ne (by omega)]
      rw [← he]
      exact hB'

section
variable {P : Program} {G : Nat} {φ : Ph} {h : H} {w : World} {e : Env} {d : Option Nat} {ty t t' : TypeId} {pos : String} {aft : Array Edge} {g : Option (Nat × Bool)} {x y : Operand} {v v1 v2 : V} {u u1 u2 : Value}

/-- What the memory says of an address. -/
theorem Rel.cells (r : Rel G φ h w) {b n d : Nat} {t : Tr V d} {ty : TypeId} {st : Bool} (hb : hGet h b = some (.cells n d t ty st)) {p : Nat × Nat × Nat} (hp : φ b = some p) :
    p.2.1 + n ≤ p.2.2 ∧ ∃ us T fz, BlkF w p.1 us T fz ∧ us.length = p.2.2 ∧ TrR φ n d t us p.2.1 ∧ StT st n p ty T fz := by
  obtain ⟨q, hq, hbr⟩ := r.blk _ _ hb
  rw [hp] at hq; cases hq
  exact hbr

/-- What is known of an operand. -/
abbrev Kn (φ : Ph) (e : Env) (x : Operand) (v : V) : Prop := v ≠ .und → ∃ u, look e x = some u ∧ CV φ v u

theorem PV.rV {s : Sem Value} {n : Nat} {v : V} (hy : v ≠ .und → ∃ u, s.run P w = .ok u w ∧ CV φ v u) : PV φ P w h s (rV h n v) := by
  by_cases hv : v = .und
  · subst hv; exact trivial
  · rw [rV_some hv]
    obtain ⟨u, h1, h2⟩ := hy hv
    exact PV.mk h1 h2
theorem PV.cnd {s : Sem Value} {b : Bool} {p : R} {n : Nat} (h1 : b = true → PV φ P w h s p) : PV φ P w h s (_root_.cond b p (.bad n)) := PV.cond h1 fun _ => PV.bad
theorem run_load1 {td : TypeDesc} {b i : Nat} {v : Value} (hu : P.underlying t = some td) (ha : aggOf td = false) (hc : w.cell? ⟨b, i, none⟩ = some v) : (Instr.loadAt t (ptr b i)).run P w = .ok v w := by
  simp only [Instr.loadAt, Instr.sureAddr, loadVar, pure_bind, Sem.run_bind, run_isAgg hu, ha, Result.andThen_ok, Bool.false_eq_true, if_false, run_load, hc]
theorem run_loadA {td : TypeDesc} {b i : Nat} {vs : List Value} (hu : P.underlying t = some td) (ha : aggOf td = true) (hc : ∀ j v, vs[j]? = some v → w.cell? ⟨b, i + j, none⟩ = some v) (hl : vs.length = tsz P t) : (Instr.loadAt t (ptr b i)).run P w = .ok (.agg vs.toArray) w := by
  have hr := run_loadCells_list (P := P) w ⟨b, i, none⟩ vs (fun j v hj => by rw [add_off]; exact hc j v hj)
  rw [hl] at hr
  simp only [Instr.loadAt, Instr.sureAddr, loadVar, pure_bind, Sem.run_bind, run_isAgg hu, ha, Result.andThen_ok, if_true, run_sz hu, hr, Sem.run_pure]

theorem loadV_pv (r : Rel G φ h w) (hc : CV φ v u) (hv : v ≠ .und) : PV φ P w h (Instr.loadAt t u) (loadV P h t v) := by
  unfold loadV
  split <;> try exact trivial
  rename_i b o
  cases hc with
  | @ptr _ _ b' a N hp =>
  split <;> try exact trivial
  · rename_i n dd tr ty' st hb
    obtain ⟨hN, us, T, fz, hB, hlen, hT, -⟩ := r.cells hb hp
    split <;> try exact trivial
    · rename_i ha
      obtain ⟨td, hu, ha⟩ := tagg_some ha
      refine PV.cnd fun ho => PV.rV fun hv => ?_
      have ho : o < n := by simpa using ho
      obtain ⟨u, e1, e2⟩ := hT o ho
      exact ⟨u, run_load1 hu ha (by rw [hB.cell]; exact e1), e2⟩
    · rename_i ha
      obtain ⟨td, hu, ha⟩ := tagg_some ha
      refine PV.cnd fun ho => ?_
      have ho : o + tsz P t ≤ n := Nat.le_of_ble_eq_true ho
      rw [rdK_eq]
      have hc := hT.read ho
      exact PV.mk (run_loadA hu ha (fun j v hj => hB.blk.cells rfl j v hj) (by rw [hc.len]; simp)) (.agg hc)
  · rename_i l hb
    obtain ⟨q, hq, h0, us, us', T, fz, hB, hcs⟩ := r.blk _ _ hb
    rw [hp] at hq; cases hq
    simp only at h0 hB
    subst h0
    split <;> try exact trivial
    · rename_i ha
      obtain ⟨td, hu, ha⟩ := tagg_some ha
      split <;> try exact trivial
      rename_i v hv
      refine PV.rV fun _ => ?_
      obtain ⟨u, e1, e2⟩ := hcs.get hv
      refine ⟨u, run_load1 hu ha ?_, e2⟩
      rw [hB.cell, Nat.zero_add, List.getElem?_append_left (by rw [hcs.len]; exact (List.getElem?_eq_some_iff.1 hv).1)]
      exact e1
    · rename_i ha
      obtain ⟨td, hu, ha⟩ := tagg_some ha
      refine PV.cnd fun ho => ?_
      have ho : o + tsz P t ≤ l.length := Nat.le_of_ble_eq_true ho
      rw [fL_eq]
      have hc := CVs.take (tsz P t) (CVs.drop o hcs)
      refine PV.mk (run_loadA hu ha (fun j v hj => by
        rw [hB.cell, Nat.zero_add]
        rw [List.getElem?_take] at hj
        split at hj
        · rw [List.getElem?_drop] at hj
          rw [List.getElem?_append_left (List.getElem?_eq_some_iff.1 hj).1]
          exact hj
        · cases hj) (by rw [hc.len, List.length_take, List.length_drop, Nat.min_eq_left (by omega)])) (.agg hc)
theorem loadV_ok (r : Rel G φ h w) (hx : Kn φ e x v) : QOk P φ h w e ⟨d, .load t x, ty, pos, aft, g⟩ (loadV P h t v) := by
  by_cases hv : v = .und
  · subst hv; exact trivial
  · obtain ⟨u, hx, hc⟩ := hx hv
    exact PV.q (loadV_pv r hc hv) fun u' h1 ρ hρ => by
      simp only [execOp, hρ _ _ hx, Sem.run_bind, h1, Result.andThen_ok, Sem.run_pure]
theorem und_ones {v : V} (h : ones (cellsOf v) = true) : v ≠ .und := by intro e; subst e; cases h

theorem storeV_ok (r : Rel G φ h w) (hx : Kn φ e x v1) (hy : Kn φ e y v2) : ROk P G φ h w e ⟨d, .store t x y, ty, pos, aft, g⟩ (storeV P h t v1 v2) := by
  unfold storeV
  split <;> try exact trivial
  rename_i b o
  obtain ⟨u1, hx, hc⟩ := hx (by simp)
  cases hc with
  | @ptr _ _ b' a N hp =>
  split <;> try exact trivial
  rename_i n dd tr ty' st hb
  rw [fL_eq]
  refine cond_ok' fun hh => ?_
  simp only [Bool.and_eq_true] at hh
  obtain ⟨h0, ⟨h1, h2⟩, h3⟩ := hh
  have h0 : 0 < tsz P t := by simpa using h0
  have h1 := Nat.eq_of_beq_eq_true h1
  have h3 := Nat.le_of_ble_eq_true h3
  have hv2 := und_ones h2
  obtain ⟨u2, hy, hc2⟩ := hy hv2
  have hcs := cv_cells hc2 hv2
  obtain ⟨hN, us, T, fz, hB, hlen, hT, hst⟩ := r.cells hb hp
  simp only at hN hB hlen hT
  have h3' : o + (cellsOf v2).length ≤ n := h3
  have hl2 := hcs.len
  rw [wrK_eq, hSet_eq]
  obtain ⟨w', hr, hB', hk⟩ := run_storeCells_blkF (P := P) (a + o) u2.cells.toList 0 us w hB (by omega) (fun u hu => oneV_one (cvs_one hcs h2 u hu))
  simp only [Nat.add_zero] at hB'
  refine ⟨w', φ, fun ρ hρ => ?_, r.upd hb rfl hp hk ⟨hN, _, T, fz, hB', by rw [splice_len _ _ _ (by omega)]; exact hlen, hT.wr hcs h3' (by omega), hst⟩⟩
  have hz : ¬ (u2.cells.size ≠ tsz P t) := by
    rw [← Array.length_toList, hl2, h1]; simp
  have hs := run_sz' h0 w
  simp only [execOp, hρ _ _ hx, hρ _ _ hy, Instr.storeAt, Instr.sureAddr, storeVar, pure_bind, Sem.run_bind, hs, Result.andThen_ok, Sem.run_ite, if_neg hz]
  simp [hr]

/-! ### New blocks -/
theorem newCells_eq {β : Type} (h : H) (l : List V) (ty : TypeId) (st : Bool) (c : Nat → H → β) :
    newCells h l ty st c = c h.next ⟨trPut HD h.next h.t (some (.cells l.length (lvls l.length) (wr (lvls l.length) l (trNew .und (lvls l.length)) 0) ty st)), h.next + 1⟩ := by
  unfold newCells
  rw [fN_eq, fN_eq, wrK_eq, hNew_eq]
theorem BlkF.new (w : World) (cs : List Value) (T : TypeId) : BlkF (w.alloc (.cells cs.toArray T)) w.heap.size cs T (0, 0) := ⟨by rw [heap_new], fun i _ h => by simp at h⟩
/-- A block of these cells is new. -/
theorem Rel.newc (r : Rel G φ h w) {l : List V} {vs : List Value} (hc : CVs φ l vs) (T : TypeId) (st : Bool) :
    Post G φ h w (addPh φ h.next (w.heap.size, 0, l.length)) ⟨trPut HD h.next h.t (some (.cells l.length (lvls l.length) (wr (lvls l.length) l (trNew .und (lvls l.length)) 0) T st)), h.next + 1⟩ (w.alloc (.cells vs.toArray T)) := by
  refine r.new (ext_alloc w _) (Nat.le_refl _) ⟨by simp, vs, T, (0, 0), BlkF.new w vs T, hc.len, ?_, rfl, fun _ => ⟨rfl, rfl, rfl⟩⟩
  have := TrR.new (d := lvls l.length) (hc.mono (addPh_sb r (w.heap.size, 0, l.length))) 0 [] [] rfl
  simpa using this

theorem newB_eq {β : Type} (l : List V) (ty : TypeId) (st : Bool) (c : B → β) : newB l ty st c = c (.cells l.length (lvls l.length) (wr (lvls l.length) l (trNew .und (lvls l.length)) 0) ty st) := by
  unfold newB
  rw [fN_eq, fN_eq, wrK_eq]
/-- What an operation makes that makes a block and does nothing else. -/
def NwOk (P : Program) (φ : Ph) (w : World) (e : Env) (o : Oper) : Nw → Prop
  | some (x, mk) => ∃ obj u N, Y P e o u w (w.alloc obj) ∧ isRo x = false ∧ (∀ φ', Sb φ φ' → BR φ' x (w.heap.size, 0, N) (w.alloc obj)) ∧ ∀ φ' b, φ' b = some (w.heap.size, 0, N) → CV φ' (mk b) u
  | none => True
theorem NwOk.rok {o : Oper} {q : Nw} {n : Nat} (k : NwOk P φ w e o q) (r : Rel G φ h w) : ROk P G φ h w e o (nwR h n q) := by
  cases q with
  | none => exact trivial
  | some p =>
    obtain ⟨x, mk⟩ := p
    obtain ⟨obj, u, N, hy, hro, hb, hc⟩ := k
    show ROk P G φ h w e o (hNew h x fun b h => .v (mk b) h)
    rw [hNew_eq]
    exact ⟨u, _, _, hy, r.new (a := 0) (N := N) (ext_alloc w obj) (Nat.le_refl _) (hb _ (addPh_sb r _)) hro, hc _ _ (addPh_same _ _ _)⟩
theorem NwOk.cnd {o : Oper} {b : Bool} {q : Nw} (h1 : b = true → NwOk P φ w e o q) : NwOk P φ w e o (cond b q none) := by
  cases b with
  | true => exact h1 rfl
  | false => exact trivial
theorem NwOk.cells {o : Oper} {l : List V} {vs : List Value} {T : TypeId} {st : Bool} {mk : Nat → V} {u : Value} (hc : CVs φ l vs) (hy : Y P e o u w (w.alloc (.cells vs.toArray T))) (hm : ∀ φ' b, φ' b = some (w.heap.size, 0, l.length) → CV φ' (mk b) u) :
    NwOk P φ w e o (some (.cells l.length (lvls l.length) (wr (lvls l.length) l (trNew .und (lvls l.length)) 0) T st, mk)) := by
  refine ⟨_, u, l.length, hy, rfl, fun φ' hs => ⟨by simp, vs, T, (0, 0), BlkF.new w vs T, hc.len, ?_, rfl, fun _ => ⟨rfl, rfl, rfl⟩⟩, hm⟩
  have := TrR.new (d := lvls l.length) (hc.mono hs) 0 [] [] rfl
  simpa using this

theorem allocN_ok : NwOk P φ w e ⟨d, .alloc t, ty, pos, aft, g⟩ (allocN P t) := by
  unfold allocN
  split <;> try exact trivial
  rename_i l hz
  obtain ⟨z, hs, rfl⟩ := ti_of hz
  rw [fL_eq]
  refine NwOk.cnd fun ho => ?_
  rw [newB_eq]
  refine NwOk.cells (T := t) (u := ptr w.heap.size 0) (cvs_zero (φ := φ) ho) (fun ρ hρ => ?_) fun φ' b hb => .ptr (b' := w.heap.size) (a := 0) hb
  simp [execOp, Instr.alloc, hs.zero, newVar, newRow, newObj, Sem.run]
theorem boxN_ok (hx : Kn φ e x v) : NwOk P φ w e ⟨d, .box t x, ty, pos, aft, g⟩ (boxN t v) := by
  unfold boxN
  rw [fL_eq]
  refine NwOk.cnd fun ho => ?_
  rw [newB_eq]
  have hv := und_ones ho
  obtain ⟨u, hx, hc⟩ := hx hv
  refine NwOk.cells (T := t) (u := ptr w.heap.size 0) (cv_cells hc hv) (fun ρ hρ => ?_) fun φ' b hb => .ptr (b' := w.heap.size) (a := 0) hb
  simp [execOp, hρ _ _ hx, Instr.box, newVar, newRow, newObj, Sem.run]

/-! ### Parts -/
def PR (φ : Ph) (ps : List (Nat × V)) (us : List (Nat × Value)) : Prop := ps.map (·.1) = us.map (·.1) ∧ CVs φ (ps.map (·.2)) (us.map (·.2))
theorem knownK_eq {β : Type} (ρ : Operand → V) (l : List Operand) (c : List V → β) (no : β) : (knownK ρ l c no = no) ∨ ((∀ x ∈ l, ρ x ≠ .und) ∧ knownK ρ l c no = c (l.map ρ)) := by
  have : ∀ (l : List Operand) (c : List V → β), (knownK ρ l c no = no) ∨ ((∀ x ∈ l, ρ x ≠ .und) ∧ knownK ρ l c no = c (l.map ρ)) := by
    intro l
    induction l with
    | nil => intro c; exact .inr ⟨(fun _ h => by cases h), rfl⟩
    | cons x l ih =>
      intro c
      by_cases hx : ρ x = .und
      · left
        show (match ρ x with | .und => no | v => fV v fun v => knownK ρ l (fun r => c (v :: r)) no) = no
        rw [hx]
      · have he : knownK ρ (x :: l) c no = knownK ρ l (fun r => c (ρ x :: r)) no := by
          show (match ρ x with | .und => no | v => fV v fun v => knownK ρ l (fun r => c (v :: r)) no) = _
          split
          · rename_i h'; exact absurd h' hx
          · rw [fV_eq]
        rcases ih fun r => c (ρ x :: r) with h1 | ⟨h1, h2⟩
        · left; rw [he, h1]
        · right
          refine ⟨fun z hz => ?_, by rw [he, h2]; rfl⟩
          rcases List.mem_cons.1 hz with rfl | hz
          · exact hx
          · exact h1 z hz
  exact this l c
theorem partsK_eq {β : Type} (ρ : Operand → V) (l : List (Nat × Operand)) (c : List (Nat × V) → β) (no : β) : (partsK ρ l c no = no) ∨ ((∀ p ∈ l, ρ p.2 ≠ .und) ∧ partsK ρ l c no = c (l.map fun p => (p.1, ρ p.2))) := by
  have : ∀ (l : List (Nat × Operand)) (c : List (Nat × V) → β), (partsK ρ l c no = no) ∨ ((∀ p ∈ l, ρ p.2 ≠ .und) ∧ partsK ρ l c no = c (l.map fun p => (p.1, ρ p.2))) := by
    intro l
    induction l with
    | nil => intro c; exact .inr ⟨(fun _ h => by cases h), rfl⟩
    | cons x l ih =>
      intro c
      by_cases hx : ρ x.2 = .und
      · left
        show (match ρ x.2 with | .und => no | v => fV v fun v => partsK ρ l (fun r => c ((x.1, v) :: r)) no) = no
        rw [hx]
      · have he : partsK ρ (x :: l) c no = partsK ρ l (fun r => c ((x.1, ρ x.2) :: r)) no := by
          show (match ρ x.2 with | .und => no | v => fV v fun v => partsK ρ l (fun r => c ((x.1, v) :: r)) no) = _
          split
          · rename_i h'; exact absurd h' hx
          · rw [fV_eq]
        rcases ih fun r => c ((x.1, ρ x.2) :: r) with h1 | ⟨h1, h2⟩
        · left; rw [he, h1]
        · right
          refine ⟨fun z hz => ?_, by rw [he, h2]; rfl⟩
          rcases List.mem_cons.1 hz with rfl | hz
          · exact hx
          · exact h1 z hz
  exact this l c
theorem looks_of {ρ : Operand → V} (hρ : RhoR φ ρ e) : ∀ {l : List Operand}, (∀ x ∈ l, ρ x ≠ .und) → ∃ us, looks e l = some us ∧ CVs φ (l.map ρ) us
  | [], _ => ⟨[], rfl, .nil⟩
  | x :: l, h => by
    obtain ⟨u, h1, h2⟩ := hρ x (h x (List.mem_cons_self ..))
    obtain ⟨us, h3, h4⟩ := looks_of hρ (l := l) fun y hy => h y (List.mem_cons_of_mem _ hy)
    exact ⟨u :: us, by simp [looks, h1, h3], .cons h2 h4⟩
theorem lookp_of {ρ : Operand → V} (hρ : RhoR φ ρ e) : ∀ {l : List (Nat × Operand)}, (∀ p ∈ l, ρ p.2 ≠ .und) → ∃ us, lookp e l = some us ∧ PR φ (l.map fun p => (p.1, ρ p.2)) us
  | [], _ => ⟨[], rfl, rfl, .nil⟩
  | x :: l, h => by
    obtain ⟨u, h1, h2⟩ := hρ x.2 (h x (List.mem_cons_self ..))
    obtain ⟨us, h3, h4, h5⟩ := lookp_of hρ (l := l) fun y hy => h y (List.mem_cons_of_mem _ hy)
    exact ⟨(x.1, u) :: us, by obtain ⟨i, o⟩ := x; simp [lookp, h1, h3], by simp [h4], .cons h2 h5⟩

theorem lay_cvs {l new : List V} {cs vs : List Value} (o : Nat) (h : CVs φ l cs) (k : CVs φ new vs) : CVs φ (lay l o new) (splice cs o vs) := by
  unfold lay splice
  rw [k.len]
  exact ((h.take o).append k).append (h.drop _)
theorem fillV_ok {pl : Nat → Option (Nat × Nat)} : ∀ {ps : List (Nat × V)} {us : List (Nat × Value)} {l l' : List V} {cs : List Value}, (∀ v ∈ ps.map (·.2), v ≠ .und) → PR φ ps us → CVs φ l cs → fillV pl l ps = some l' → ∃ cs', bl pl cs us = some cs' ∧ CVs φ l' cs'
  | [], [], l, l', cs, _, _, hc, h => by simp [fillV] at h; subst h; exact ⟨cs, rfl, hc⟩
  | [], _ :: _, _, _, _, _, hp, _, _ => by have := hp.1; simp at this
  | _ :: _, [], _, _, _, _, hp, _, _ => by have := hp.1; simp at this
  | (i, v) :: ps, (j, u) :: us, l, l', cs, hk, hp, hc, h => by
    obtain ⟨h1, h2⟩ := hp
    simp only [List.map_cons, List.cons.injEq] at h1
    obtain ⟨rfl, h1⟩ := h1
    cases h2 with
    | cons hvu h2 =>
    have hcv := cv_cells hvu (hk v (by simp))
    simp only [fillV] at h
    cases hpl : pl i with
    | none => rw [hpl] at h; cases h
    | some q =>
      obtain ⟨o, s⟩ := q
      rw [hpl] at h
      simp only at h
      cases hb : and (Nat.beq (cellsOf v).length s) (Nat.ble (Nat.add o s) l.length) with
      | false => rw [hb] at h; cases h
      | true =>
        rw [hb] at h
        simp only [cond_true] at h
        obtain ⟨cs', e1, e2⟩ := fillV_ok (fun v hv => hk v (List.mem_cons_of_mem _ hv)) ⟨h1, h2⟩ (lay_cvs o hc hcv) h
        refine ⟨cs', ?_, e2⟩
        simp only [bl, hpl, hcv.len, hc.len]
        have hb' : (Nat.beq (cellsOf v).length s && Nat.ble (o + s) l.length) = true := hb
        rw [hb']
        exact e1

theorem fldsOk_all : ∀ {l : List Field}, fldsOk P l = true → ∀ f ∈ l, ∃ a, tagg P f.type = some a
  | [], _, f, hf => by cases hf
  | a :: l, h, f, hf => by
    have h' : ((tagg P a.type).isSome && fldsOk P l) = true := h
    simp only [Bool.and_eq_true] at h'
    rcases List.mem_cons.1 hf with rfl | hf
    · exact Option.isSome_iff_exists.1 h'.1
    · exact fldsOk_all h'.2 f hf
theorem run_places {w : World} : ∀ {l : List Field}, fldsOk P l = true → (l.mapM fun f => do pure (f.offset, ← sizeOf f.type) : Sem (List (Nat × Nat))).run P w = .ok (l.map fun f => (f.offset, tsz P f.type)) w
  | [], _ => by simp
  | a :: l, h => by
    have h' : ((tagg P a.type).isSome && fldsOk P l) = true := h
    simp only [Bool.and_eq_true] at h'
    obtain ⟨b, hb⟩ := Option.isSome_iff_exists.1 h'.1
    obtain ⟨td, hu, -⟩ := tagg_some hb
    rw [List.mapM_cons]
    simp only [Sem.run_bind, run_sz hu, Result.andThen, Sem.run_pure, run_places h'.2, List.map_cons]
theorem tfld_eq {fs : Array Field} (ht : P.underlying t = some (.struct fs)) (hf : fldsOk P fs.toList = true) (i : Nat) : (tfld P t i).map (fun f => (f.1, f.2.1)) = (fs.toList.map fun f => (f.offset, tsz P f.type))[i]? := by
  simp only [tfld, ht]
  cases hi : fs[i]? with
  | none => simp [hi]
  | some f =>
    obtain ⟨a, ha⟩ := fldsOk_all hf f (by rw [← Array.getElem?_toList] at hi; exact List.mem_of_getElem? hi)
    simp [ha, hi]

theorem buildV_ok {ps : List (Nat × V)} {us : List (Nat × Value)} {parts : List (Nat × Operand)} (r : Rel G φ h w) (hk : ∀ v ∈ ps.map (·.2), v ≠ .und) (hp : lookp e parts = some us) (hpr : PR φ ps us) :
    QOk P φ h w e ⟨d, .build t parts.toArray, ty, pos, aft, g⟩ (buildV P h t ps) := by
  unfold buildV
  split <;> try exact trivial
  rename_i z hz
  obtain ⟨z, hs, rfl⟩ := ti_of hz
  split <;> try exact trivial
  · rename_i fs ht
    refine cond_q' fun hf => ?_
    split <;> try exact trivial
    rename_i l hl
    rw [fL_eq]
    refine cond_q' fun ho => ?_
    simp only [Bool.and_eq_true] at ho
    have hzc := cvs_zero (φ := φ) ho.1
    have hpl : (fun i => (tfld P t i).map fun f => (f.1, f.2.1)) = fun i => (fs.toList.map fun f => (f.offset, tsz P f.type))[i]? := funext (tfld_eq ht hf)
    rw [hpl] at hl
    obtain ⟨cs', e1, e2⟩ := fillV_ok hk hpr hzc hl
    refine QOk.pure (ybd (pl := fs.toList.map fun f => (f.offset, tsz P f.type)) hs (Array.toArray_toList).symm ⟨fs, ht, fun w => ?_⟩ hp e1) (.agg e2)
    rw [← Array.toArray_toList (xs := fs), List.mapM_toArray]
    simp only [Sem.run_bind, map_eq_pure_bind, run_places hf, Result.andThen, Sem.run_pure]
  · rename_i m el ht
    split <;> try exact trivial
    rename_i l hl
    rw [fL_eq]
    refine cond_q' fun ho => ?_
    simp only [Bool.and_eq_true] at ho
    have hzc := cvs_zero (φ := φ) ho.2.1
    obtain ⟨cs', e1, e2⟩ := fillV_ok hk hpr hzc hl
    refine QOk.pure (fun ρ hρ => ?_) (.agg e2)
    have hf := fill_bl us z.cells.toList cs' e1
    rw [Array.toArray_toList] at hf
    simp only [execOp, lookp_arr hρ hp, Instr.build, Sem.run_bind, hs.zero, Result.andThen_ok, run_underlying ht, run_sz' (show 0 < tsz P el by simpa using ho.1) w, hf, Sem.run_pure]
end
end Go.Proofs.YtkgiammeeckfbaaGreat
