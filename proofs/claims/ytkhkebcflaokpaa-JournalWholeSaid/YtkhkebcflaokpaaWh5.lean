/- Texts EvPb, EvRg, EvSk, EvK, EvW, EvX, EvL, one behind the other (what the statement JournalWhole does not use is left out). -/
import Derived.Test.YtkhkebcflaokpaaWh4
import Derived.Maps.RangeRun
namespace Go.Proofs.Ytkhkebcflaokpaa
open Go Go.RowKit
set_option linter.all false

section
variable {P : Program} {G : Nat} {φ : Ph} {h : H} {w : World} {e : Env} {d : Option Nat} {ty t t' : TypeId} {pos : String} {aft : Array Edge} {g : Option (Nat × Bool)} {x y : Operand} {v v1 v2 : V} {u u1 u2 : Value} {ρ : Operand → V}

theorem beq_comm' (a b : Nat) : Nat.beq a b = Nat.beq b a := by
  cases h1 : Nat.beq a b with
  | true => have := Nat.eq_of_beq_eq_true h1; subst this; exact h1.symm
  | false => cases h2 : Nat.beq b a with
    | true => have := Nat.eq_of_beq_eq_true h2; subst this; rw [h2] at h1; cases h1
    | false => rfl
/-- What a source holds. -/
theorem srcK_eq {β : Type} (hy : CV φ v u) (c : Nat → Nat → β) (no : β) : srcK h v c no = no ∨ ∃ m s, s < 256 ^ m ∧ srcK h v c no = c m s ∧ ∀ {γ : Type} (c' : Nat → List V → γ) (no' : γ), elems P (exH h) v 1 c' no' = c' m (byL m s) := by
  unfold srcK
  split
  · exact .inr ⟨0, 0, by simp, rfl, fun _ _ => rfl⟩
  · exact .inr ⟨0, 0, by simp, rfl, fun _ _ => rfl⟩
  · rename_i n s
    cases hy with
    | str hs =>
    refine .inr ⟨n, s, hs, rfl, fun c' no' => ?_⟩
    unfold elems
    simp only [fL_eq, byL_unp]
    rfl
  · rename_i b o len kc es op
    split
    · rename_i n s ty' st hb
      cases hc : and (Nat.beq es 1) (Nat.ble (Nat.add o len) n) with
      | false => exact .inl rfl
      | true =>
        have hc' := hc
        simp only [Bool.and_eq_true] at hc'
        have h5 : o + len ≤ n := Nat.le_of_ble_eq_true hc'.2
        refine .inr ⟨len, byS s o len, byS_lt _ _ _, by rw [cond_true, fN_eq], fun c' no' => ?_⟩
        unfold elems
        have e1 : (and (Nat.beq 1 es) (Nat.ble (Nat.add o (Nat.mul len 1)) n)) = true := by
          rw [beq_comm' 1 es]
          show (and (Nat.beq es 1) (Nat.ble (o + len * 1) n)) = true
          rw [Nat.mul_one]; exact hc
        simp only [exH_byt hb, e1, cond_true, rdK_eq]
        rw [show Nat.mul len 1 = len from Nat.mul_one len, byL_rd (exT_get n s) o len h5]
    · rename_i n dd tr ty' st hb
      cases hc : and (Nat.beq es 1) (Nat.ble (Nat.add o len) n) with
      | false => exact .inl rfl
      | true =>
        simp only [cond_true, rdK_eq]
        rcases packK_byL no ((List.range' o len).map fun i => vGet dd i tr) (fun s => c len s) with h1 | ⟨s, h0, h1, h2⟩
        · exact .inl h1
        · simp only [List.length_map, List.length_range'] at h0 h2
          refine .inr ⟨len, s, h0, h1, fun c' no' => ?_⟩
          unfold elems
          have e1 : (and (Nat.beq 1 es) (Nat.ble (Nat.add o (Nat.mul len 1)) n)) = true := by
            rw [beq_comm' 1 es]
            show (and (Nat.beq es 1) (Nat.ble (o + len * 1) n)) = true
            rw [Nat.mul_one]; exact hc
          simp only [exH_cells hb, e1, cond_true, rdK_eq]
          rw [show Nat.mul len 1 = len from Nat.mul_one len, h2]
    · exact .inl rfl
  · exact .inl rfl

theorem cond_req {b : Bool} {r r1 : R} {n : Nat} (k : b = true → REq r r1) : REq r (cond b r1 (.bad n)) := by
  cases b with
  | true => exact k rfl
  | false => exact REq.bad _ _
theorem appZ_no {b o len kc es' m s el : Nat} {op : Bool} (hn : ∀ n s ty st, hGet h b ≠ some (.byt n s ty st)) : appZ h el (.sl b o len kc es' op) m s = .bad 85 := by
  cases hb : hGet h b with
  | none => simp only [appZ, hb]
  | some X =>
    cases X with
    | byt n s ty st => exact absurd hb (hn _ _ _ _)
    | _ => simp only [appZ, hb]
theorem appZ_eq {el m s : Nat} (hu : isU8 P el = true) (hs : s < 256 ^ m) : REq (appC P (exH h) el 1 v1 m (byL m s)) (appZ h el v1 m s) := by
  obtain ⟨h1, h2, h3, h4⟩ := isU8_spec hu
  unfold appC
  rw [byL_ones, cond_true]
  cases v1 with
  | nil k =>
    cases k with
    | sl =>
      show REq (cond (Nat.beq m 0) (R.v (V.nil .sl) (exH h)) (cond (Nat.ble m 1073741824) (growE (exH h) (byL m s) m 1 el) (.bad 83))) (cond (Nat.beq m 0) (R.v (V.nil .sl) h) (growY h m s el))
      cases hm : Nat.beq m 0 with
      | true => exact REq.v (exH_eq h)
      | false =>
        simp only [cond_false]
        have key := growY_eq (exH_eq h) m s el
        unfold growY at key ⊢
        cases hc : Nat.ble m 1048576 with
        | false => exact REq.bad _ _
        | true =>
          have hn := Nat.le_of_ble_eq_true hc
          rw [hc] at key
          rw [show Nat.ble m 1073741824 = true from Nat.ble_eq_true_of_le (by omega), cond_true]
          exact key
    | _ => exact REq.bad _ _
  | sl b o len kc es' op =>
    by_cases hyt : ∃ n s0 ty' st, hGet h b = some (.byt n s0 ty' st)
    · obtain ⟨n, s0, ty', st, hb⟩ := hyt
      unfold appZ
      simp only [exH_byt hb, hb, fN_eq]
      refine cond_req fun hh => ?_
      have hh' := hh
      simp only [Bool.and_eq_true] at hh'
      have h5 : o + len ≤ n := Nat.le_of_ble_eq_true hh'.2
      have e3 : (and (Nat.beq 1 es') (Nat.ble (Nat.add o (Nat.mul len 1)) n)) = true := by
        rw [show Nat.mul len 1 = len from Nat.mul_one len]; exact hh
      rw [e3, cond_true, show Nat.mul len 1 = len from Nat.mul_one len, show Nat.mul (Nat.add len m) 1 = Nat.add len m from Nat.mul_one _]
      cases hk : Nat.ble (Nat.add len m) kc with
      | true =>
        simp only [cond_true]
        refine cond_req fun hr => ?_
        rw [hr, cond_true, wrK_eq, hSet_eq, hSet_eq]
        exact REq.v ((exH_eq h).put b (beq_byt (wr_bytes (Nat.le_of_lt (lt_pow16 n)) (exT_get n s0) hs)) rfl rfl)
      | false =>
        simp only [cond_false, rdK_eq]
        rw [byL_rd (exT_get n s0) o len h5, byL_app _ _ _ _ (byS_lt s0 o len)]
        have hgr : ∀ {gm hm : H}, HEq gm hm → Nat.ble (Nat.add len m) 1048576 = true → REq (growE gm (byL (len + m) (byC (byS s0 o len) len s)) (Nat.add len m) 1 el) (growY hm (Nat.add len m) (byC (byS s0 o len) len s) el) := fun {gm hm} k _ => growY_eq k (len + m) (byC (byS s0 o len) len s) el
        have hbad : Nat.ble (Nat.add len m) 1048576 = false → ∀ hm : H, growY hm (Nat.add len m) (byC (byS s0 o len) len s) el = .bad 82 := fun e hm => by unfold growY; rw [e]; rfl
        cases hc : Nat.ble (Nat.add len m) 1048576 with
        | false =>
          cases op with
          | false => simp only [cond_false]; rw [hbad hc]; exact REq.bad _ _
          | true =>
            simp only [cond_true]
            refine cond_req fun hty => ?_
            simp only [hSet_eq]
            rw [hbad hc]; exact REq.bad _ _
        | true =>
          have hn : len + m ≤ 1048576 := Nat.le_of_ble_eq_true hc
          rw [show Nat.ble (Nat.add len m) 1073741824 = true from Nat.ble_eq_true_of_le (by show len + m ≤ _; omega), cond_true]
          cases op with
          | false => simp only [cond_false]; exact hgr (exH_eq h) hc
          | true =>
            simp only [cond_true]
            refine cond_req fun hty => ?_
            rw [hty]
            simp only [cond_true, hSet_eq]
            exact hgr ((exH_eq h).del b) hc
    · rw [appZ_no (fun n s ty st e => hyt ⟨n, s, ty, st, e⟩)]; exact REq.bad _ _
  | _ => exact REq.bad _ _
theorem appY_eq {el : TypeId} (ht : P.underlying t = some (.slice el)) (hy : CV φ v2 u2) : REq (appV P (exH h) t t' v1 v2) (appY P h t' el v1 v2) := by
  unfold appY
  refine cond_req fun hh => ?_
  simp only [Bool.and_eq_true] at hh
  obtain ⟨hu, hz, hso⟩ := hh
  obtain ⟨h1, h2, h3, h4⟩ := isU8_spec hu
  rcases srcK_eq (P := P) (h := h) hy (fun m new => appZ h el v1 m new) (.bad 89) with e1 | ⟨m, s, hs, e1, e2⟩
  · rw [e1]; exact REq.bad _ _
  · rw [e1]
    have hA : (and (and (Nat.blt 0 1) (Nat.ble (tbytes P el) 65536)) (and (zOk P el 1) (srcOk P t' v2 1))) = true := by
      rw [hz, hso]
      simp only [Bool.and_eq_true]
      exact ⟨⟨rfl, Nat.ble_eq_true_of_le h4⟩, trivial, trivial⟩
    unfold appV
    simp only [ht, fN_eq, h3]
    rw [hA, cond_true, e2]
    exact appZ_eq hu hs
theorem appB_ok (r : Rel G φ h w) (hc1 : CV φ v1 u1) (hc2 : CV φ v2 u2) : BOk P G φ h w (Builtin.append_ #[t, t'] ty #[u1, u2]) (appB P h t t' v1 v2) := by
  unfold appB
  split
  · rename_i el ht
    split
    · rename_i k n
      cases hc2
      cases hc : and (isU8 P el) (toY h v1) with
      | false => exact appN_ok r hc1
      | true =>
        simp only [Bool.and_eq_true] at hc
        obtain ⟨h1, h2, h3, h4⟩ := isU8_spec hc.1
        simp only [cond_true]
        split
        · rename_i k' ht'
          refine (appN_ok (k := k) (n := n) (r.heq (exH_eq h).symm) hc1).heq (exH_eq h) ?_
          refine cond_req fun hh => ?_
          simp only [Bool.and_eq_true] at hh
          have hn := Nat.le_of_ble_eq_true hh.2
          unfold appN
          simp only [ht, ht', h2, fN_eq, h3]
          have hA : (and (and (Nat.blt 0 1) (Nat.ble (tbytes P el) 65536)) (and (and (Nat.beq [V.int .u8 0].length 1) (ones [V.int .u8 0])) (Nat.ble n 1073741824))) = true := by
            simp only [Bool.and_eq_true]
            exact ⟨⟨rfl, Nat.ble_eq_true_of_le h4⟩, ⟨rfl, rfl⟩, Nat.ble_eq_true_of_le (by omega)⟩
          rw [hA, cond_true, fL_eq, byL_zeros]
          exact appZ_eq hc.1 (Nat.pow_pos (by omega))
        · exact trivial
    · cases hc : and (isU8 P el) (toY h v1) with
      | false => exact appV_ok r hc1 hc2
      | true => exact (appV_ok (r.heq (exH_eq h).symm) hc1 hc2).heq (exH_eq h) (appY_eq ht hc2)
  · exact trivial

theorem copyB_ok (r : Rel G φ h w) (hc1 : CV φ v1 u1) (hc2 : CV φ v2 u2) : BOk P G φ h w (Builtin.copy_ #[t, t'] ty #[u1, u2]) (copyB P h t v1 v2) := by
  unfold copyB
  split
  · rename_i el ht
    split
    · rename_i b o len kc es op
      split
      · rename_i n s ty' st hb
        refine (copyV_ok (t := t) (t' := t') (r.heq (exH_eq h).symm) hc1 hc2).heq (exH_eq h) ?_
        refine cond_req fun hh => ?_
        have hh' := hh
        simp only [Bool.and_eq_true] at hh'
        obtain ⟨hu, he, hl⟩ := hh'
        obtain ⟨h1, h2, h3, h4⟩ := isU8_spec hu
        have he := Nat.eq_of_beq_eq_true he
        subst he
        rcases srcK_eq (P := P) (h := h) hc2 (fun m new => fN (Nat.min m len) fun k => fN (byP s o k (Nat.mod new (Nat.pow 256 k))) fun s => hSet h b (some (.byt n s ty' st)) fun h => R.v (.int .i64 (.ofNat k)) h) (.bad 94) with e1 | ⟨m, s', hs, e1, e2⟩
        · rw [e1]; exact REq.bad _ _
        · rw [e1]
          unfold copyV
          simp only [ht, h3]
          rw [show (and (Nat.blt 0 1) (Nat.beq 1 1)) = true from rfl, cond_true, e2]
          simp only [exH_byt hb, fN_eq, fL_eq, byL_ones]
          rw [show Nat.mul len 1 = len from Nat.mul_one len, hl, show (and true true) = true from rfl, cond_true, show Nat.mul (Nat.min m len) 1 = Nat.min m len from Nat.mul_one _, byL_take _ _ _ (Nat.min_le_left m len), wrK_eq, hSet_eq, hSet_eq, rInt_eq]
          exact REq.v ((exH_eq h).put b (beq_byt (wr_bytes (Nat.le_of_lt (lt_pow16 n)) (exT_get n s) (Nat.mod_lt _ (Nat.pow_pos (by omega))))) rfl rfl)
      · exact copyV_ok r hc1 hc2
    · exact copyV_ok r hc1 hc2
  · exact trivial

theorem clearB_ok (r : Rel G φ h w) (hc : CV φ v u) : BOk P G φ h w (Builtin.clear_ #[t] ty #[u]) (clearB P h t v) := by
  unfold clearB
  split
  · rename_i b o len kc es op
    split
    · rename_i n s ty' st hb
      split
      · rename_i el ht
        refine (clearV_ok (t := t) (r.heq (exH_eq h).symm) hc).heq (exH_eq h) ?_
        refine cond_req fun hh => ?_
        have hh' := hh
        simp only [Bool.and_eq_true] at hh'
        obtain ⟨hu, he, hl⟩ := hh'
        obtain ⟨h1, h2, h3, h4⟩ := isU8_spec hu
        have he := Nat.eq_of_beq_eq_true he
        subst he
        unfold clearV
        simp only [ht, h2, exH_byt hb]
        rw [show Nat.mul len 1 = len from Nat.mul_one len, hl]
        cases hlen : Nat.beq len 0 with
        | true =>
          have := Nat.eq_of_beq_eq_true hlen
          subst this
          exact REq.v (exH_eq h)
        | false =>
          have hp : Nat.blt 0 len = true := by
            have : len ≠ 0 := fun e => by subst e; cases hlen
            simp; omega
          rw [hp, show (and (and (Nat.beq 1 [V.int .u8 0].length) (ones [V.int .u8 0])) (and true true)) = true from rfl, cond_true, cond_false, byL_zeros, wrK_eq, hSet_eq, fN_eq, hSet_eq]
          exact REq.v ((exH_eq h).put b (beq_byt (wr_bytes (Nat.le_of_lt (lt_pow16 n)) (exT_get n s) (Nat.pow_pos (by omega)))) rfl rfl)
      · exact trivial
    · exact clearV_ok r hc
  · exact clearV_ok r hc

theorem usB_ok {it : TypeId} (r : Rel G φ h w) (hc1 : CV φ v1 u1) (hc2 : CV φ v2 u2) : BOk P G φ h w (Builtin.unsafeString_ #[t, it] ty #[u1, u2]) (usB P h t v1 v2) := by
  unfold usB
  split
  · rename_i b o
    split
    · rename_i n0 s ty' st hb
      split
      · rename_i n el ht
        refine (usV_ok (t := t) (it := it) (r.heq (exH_eq h).symm) hc1 hc2).heq (exH_eq h) ?_
        refine cond_req fun hh => ?_
        have hh' := hh
        simp only [Bool.and_eq_true] at hh'
        have h5 : o + (n + 1) ≤ n0 := Nat.le_of_ble_eq_true hh'.2.1
        unfold usV
        simp only [nat?, exH_byt hb, ht]
        rw [hh, cond_true, rdK_eq, byL_rd (exT_get n0 s) o (n + 1) h5, packK_of _ _ _ _ (byS_lt s o (n + 1)), hSet_eq, fN_eq, hSet_eq]
        exact REq.v ((exH_eq h).del b)
      · exact trivial
    · exact usV_ok r hc1 hc2
  · exact usV_ok r hc1 hc2
end
end Go.Proofs.Ytkhkebcflaokpaa
namespace Go.Proofs.Ytkhkebcflaokpaa
open Go Go.RowKit
set_option linter.all false

section
variable {P : Program} {G : Nat} {φ : Ph} {h : H} {w : World} {e : Env} {d : Option Nat} {ty t : TypeId} {pos : String} {aft : Array Edge} {g : Option (Nat × Bool)} {x : Operand} {v1 : V}
theorem rgV_ok (r : Rel G φ h w) (hx : Kn φ e x v1) : ROk P G φ h w e ⟨d, .range t x, ty, pos, aft, g⟩ (rgV P h t v1) := by
  unfold rgV
  split <;> try exact trivial
  rename_i kt el ht
  split <;> try exact trivial
  rename_i b
  obtain ⟨u1, hx, hc1⟩ := hx (by simp)
  cases hc1 with
  | @map _ b' a N hp =>
  split <;> try exact trivial
  rename_i es cl hb
  obtain ⟨arr, hm, hM⟩ := r.mapAt hb hp
  rw [hNew_eq]
  have k : Ext w (w.alloc (.mapIter (some b') cl #[] cl)) := ext_alloc w _
  refine ⟨ptr w.heap.size (0 + 0), _, _, fun ρ hρ => ?_, r.new (x := .miter b cl [] cl) (b' := w.heap.size) (a := 0) (N := 0) k (Nat.le_refl _) ⟨rfl, b', a, N, addPh_sb r _ _ _ hp, heap_new w _⟩, .ptr (addPh_same _ _ _)⟩
  simp [execOp, hρ _ _ hx, Instr.range, run_underlying ht, run_getMap hm, newObj, Sem.run]
theorem leftV_ok {es : List (V × V × Nat)} {ents : List MapEntry} (seen : List Nat) (hM : MR φ es ents) : MR φ (leftV es seen) (ents.filter fun e => !seen.contains e.born) := by
  induction hM with
  | nil => exact .nil
  | @cons k v n e l ents h1 h2 h3 hM ih =>
    simp only [leftV, List.filter_cons] at ih ⊢
    rw [h3]
    cases seen.contains n with
    | true => simpa using ih
    | false => simpa using MR.cons h1 h2 h3 ih
theorem borns_lt {es : List (V × V × Nat)} {ents : List MapEntry} {s : Nat} (hM : MR φ es ents) (h : es.all (fun e => Nat.blt e.2.2 s) = true) : ∀ x ∈ ents, x.born < s := by
  induction hM with
  | nil => intro x hx; simp at hx
  | @cons k v n e l ents h1 h2 h3 hM ih =>
    simp only [List.all_cons, Bool.and_eq_true] at h
    intro x hx
    rcases List.mem_cons.1 hx with rfl | hx
    · rw [h3]; exact Nat.le_of_ble_eq_true h.1
    · exact ih h.2 x hx
theorem left_toList (arr : Array MapEntry) (seen : List Nat) : (leftOf arr seen.toArray).toList = arr.toList.filter fun e => !seen.contains e.born := by
  simp [leftOf]
theorem Rel.iterAt (r : Rel G φ h w) {i m since last : Nat} {seen : List Nat} (hb : hGet h i = some (.miter m since seen last)) {p : Nat × Nat × Nat} (hp : φ i = some p) : p.2.1 = 0 ∧ ∃ m' a N, φ m = some (m', a, N) ∧ w.heap[p.1]? = some (.mapIter (some m') since seen.toArray last) := by
  obtain ⟨q, hq, hbr⟩ := r.blk _ _ hb
  rw [hp] at hq; cases hq
  exact hbr
theorem nxV_ok {s : Bool} (r : Rel G φ h w) (hx : Kn φ e x v1) : ROk P G φ h w e ⟨d, .next x s, ty, pos, aft, g⟩ (nxV h v1 s) := by
  unfold nxV
  split <;> try exact trivial
  rename_i i
  obtain ⟨u1, hx, hc1⟩ := hx (by simp)
  split <;> try exact trivial
  split <;> try exact trivial
  rename_i m since seen last hi
  split <;> try exact trivial
  rename_i es cl hb
  obtain ⟨p, hp, -⟩ := r.blk _ _ hi
  obtain ⟨h0, m', am, Nm, hm, hit⟩ := r.iterAt hi hp
  obtain ⟨arr, hmap, hM⟩ := r.mapAt hb hm
  refine cond_ok' fun hcc => ?_
  simp only [Bool.and_eq_true] at hcc
  have hlt := borns_lt hM hcc.1
  have hls := Nat.le_of_ble_eq_true hcc.2
  have hL := leftV_ok seen hM
  cases hc1 with
  | @ptr _ _ b' a N hp1 =>
  rw [hp1] at hp; cases hp
  have h0 : a = 0 := h0
  subst h0
  have key := run_next_at (P := P) w ty b' m' since last seen.toArray arr cl hit hmap hlt hls
  rw [left_toList] at key
  have hsz : (leftOf arr seen.toArray).size = (arr.toList.filter fun e => !seen.contains e.born).length := by rw [← left_toList, Array.length_toList]
  rw [hsz] at key
  generalize leftV es seen = L at hL
  generalize (arr.toList.filter fun e => !seen.contains e.born) = F at hL key
  match L, hL with
  | [], .nil =>
    rcases key with ⟨-, hrun⟩ | ⟨ent, he, -⟩
    · refine ⟨.tuple [.bool false].toArray, w, φ, fun ρ hρ => ?_, Post.refl r, .tup (.cons .bool .nil)⟩
      simp [execOp, hρ _ _ hx, hrun]
    · simp at he
  | [(k, v, n)], .cons (e := ent) h1 h2 h3 .nil =>
    rcases key with ⟨hz, -⟩ | ⟨ent', he, w1, hw1, hrun⟩
    · simp at hz
    · have he : ent' = ent := by simpa using he
      subst he
      simp only [nx1, fL_eq, hSet_eq]
      rw [h3] at hrun
      have hlt1 : b' < w1.heap.size := by rcases hw1 with rfl | rfl <;> exact lt_of_heap hit
      have hk : Kp (fun j => j = b') w (w1.putObj b' (.mapIter (some m') since (seen.toArray.push n) cl)) := by
        rcases hw1 with rfl | rfl
        · exact kp_putObj _ _ _
        · exact (Ext.drew0 w).kp.trans (kp_putObj _ _ _)
      refine ⟨.tuple [.bool true, ent'.key, ent'.val].toArray, w1.putObj b' (.mapIter (some m') since (seen.toArray.push n) cl), φ, fun ρ hρ => ?_, r.updE hi rfl hp1 hk ⟨rfl, m', am, Nm, hm, ?_⟩, .tup (.cons .bool (.cons h1 (.cons h2 .nil)))⟩
      · simp [execOp, hρ _ _ hx, hrun]
        rfl
      · rw [World.putObj_heap_same hlt1]; simp
  | _ :: _ :: _, _ => exact trivial
theorem nodupN_ok : ∀ {l : List Nat}, nodupN l = true → l.Nodup
  | [], _ => .nil
  | a :: l, h => by
    simp only [nodupN, Bool.and_eq_true] at h
    exact List.nodup_cons.2 ⟨by simpa using h.1, nodupN_ok h.2⟩
theorem mr_borns {es : List (V × V × Nat)} {ents : List MapEntry} (hM : MR φ es ents) : ents.map (·.born) = es.map fun e => e.2.2 := by
  induction hM with
  | nil => rfl
  | cons h1 h2 h3 hM ih => simp [h3, ih]
theorem mr_find {n : Nat} {es : List (V × V × Nat)} {ents : List MapEntry} {x : V × V × Nat} (hM : MR φ es ents) (h : es.find? (fun e => Nat.beq e.2.2 n) = some x) : ∃ ent ∈ ents, ent.born = n ∧ CV φ x.1 ent.key ∧ CV φ x.2.1 ent.val := by
  induction hM with
  | nil => simp at h
  | @cons k v b e l ents h1 h2 h3 hM ih =>
    rw [List.find?_cons] at h
    cases hq : Nat.beq b n with
    | true =>
      simp only [hq] at h
      cases h
      exact ⟨e, List.mem_cons_self .., by rw [h3]; exact Nat.eq_of_beq_eq_true hq, h1, h2⟩
    | false =>
      simp only [hq] at h
      obtain ⟨ent, a, b⟩ := ih h
      exact ⟨ent, List.mem_cons_of_mem _ a, b⟩
theorem enV_ok (r : Rel G φ h w) (hx : Kn φ e x v1) : ROk P G φ h w e ⟨d, .entry x, ty, pos, aft, g⟩ (enV h v1) := by
  unfold enV
  split <;> try exact trivial
  rename_i i
  obtain ⟨u1, hx, hc1⟩ := hx (by simp)
  split <;> try exact trivial
  rename_i m since seen last hi
  split <;> try exact trivial
  rename_i es cl hb
  split <;> try exact trivial
  rename_i n rest hrev
  obtain ⟨p, hp, -⟩ := r.blk _ _ hi
  obtain ⟨h0, m', am, Nm, hm, hit⟩ := r.iterAt hi hp
  obtain ⟨arr, hmap, hM⟩ := r.mapAt hb hm
  refine cond_ok' fun hcc => ?_
  simp only [Bool.and_eq_true] at hcc
  have hl := Nat.eq_of_beq_eq_true hcc.1
  subst hl
  have hnd := nodupN_ok hcc.2
  rw [← mr_borns hM] at hnd
  split <;> try exact trivial
  rename_i x0 hf
  obtain ⟨ent, he, hbn, c1, c2⟩ := mr_find hM hf
  cases hc1 with
  | @ptr _ _ b' a N hp1 =>
  rw [hp1] at hp; cases hp
  have h0 : a = 0 := h0
  subst h0
  have hs : seen = rest.reverse ++ [n] := by
    have := congrArg List.reverse hrev
    simpa using this
  have hsa : seen.toArray = rest.reverse.toArray.push ent.born := by rw [hs, hbn]; simp
  rw [hsa] at hit
  have hrun := run_entry_at (P := P) w b' m' since _ arr last ent hit hmap he hnd
  refine ⟨.tuple [ent.key, ent.val].toArray, w, φ, fun ρ hρ => ?_, Post.refl r, .tup (.cons c1 (.cons c2 .nil))⟩
  simp [execOp, hρ _ _ hx, hrun]
end
end Go.Proofs.Ytkhkebcflaokpaa
namespace Go.Proofs.Ytkhkebcflaokpaa
open Go Go.RowKit
set_option linter.all false

section
variable {P : Program} {G : Nat} {φ : Ph} {h : H} {w : World} {e : Env} {d : Option Nat} {ty t kt : TypeId} {pos : String} {aft : Array Edge} {g : Option (Nat × Bool)} {x y : Operand} {v1 v2 : V}
theorem cellEq_ok {a b : V} {u v : Value} (hq : cellEq a b = true) (ha : CV φ a u) (hb : CV φ b v) : u = v ∧ Instr.sameBits 9999 u v = true := by
  unfold cellEq at hq
  split at hq
  · simp only [Bool.and_eq_true, ieq_eq] at hq
    have := keq_eq.1 hq.1
    subst this
    have := of_decide_eq_true hq.2
    subst this
    cases ha; cases hb
    exact ⟨rfl, by simp [Instr.sameBits]⟩
  · simp only [Bool.and_eq_true] at hq
    have h1 := Nat.eq_of_beq_eq_true hq.1
    have h2 := Nat.eq_of_beq_eq_true hq.2
    subst h1; subst h2
    cases ha; cases hb
    exact ⟨rfl, by simp [Instr.sameBits, S, beqS]⟩
  · rw [beqB_eq] at hq
    have hq' := eq_of_beq hq
    subst hq'
    cases ha; cases hb
    exact ⟨rfl, by simp [Instr.sameBits]⟩
  · cases hq
theorem cellsEq_ok : ∀ {l m : List V} {us vs : List Value}, cellsEq l m = true → CVs φ l us → CVs φ m vs → us = vs ∧ ((us.zip vs).all fun p => Instr.sameBits 9999 p.1 p.2) = true
  | [], [], _, _, _, .nil, .nil => ⟨rfl, rfl⟩
  | [], _ :: _, _, _, h, _, _ => by cases h
  | _ :: _, [], _, _, h, _, _ => by cases h
  | a :: l, b :: m, _, _, h, .cons h1 h2, .cons k1 k2 => by
    simp only [cellsEq, Bool.and_eq_true] at h
    obtain ⟨rfl, e2⟩ := cellEq_ok h.1 h1 k1
    obtain ⟨rfl, e4⟩ := cellsEq_ok h.2 h2 k2
    exact ⟨rfl, by simp only [List.zip_cons_cons, List.all_cons, e2, Bool.true_and]; exact e4⟩
theorem findS_cons {kt : TypeId} {k : Value} {e : MapEntry} {es : List MapEntry} {i : Nat} {q : Bool} (hq : (Op.equal kt k e.key).run P w = .ok q w) :
    (Instr.findAsking kt k (e :: es) i).run P w = (if q then (pure (some (i, e.val)) : Sem _) else Instr.findAsking kt k es (i + 1)).run P w := by
  simp only [Instr.findAsking, Sem.run_bind, hq, Result.andThen_ok]
theorem mFindS_eq {β : Type} (r : Rel G φ h w) {l : List V} {us : List Value} (hc : CVs φ l us) (yes : Nat → V → β) (no bad : β) : ∀ {es : List (V × V × Nat)} {ents : List MapEntry} (i : Nat), MR φ es ents →
    mFindS P h kt l es yes no bad i = bad ∨
    (∃ j v n e, mFindS P h kt l es yes no bad i = yes (i + j) v ∧ (∃ k', es[j]? = some (k', v, n)) ∧ ents[j]? = some e ∧ e.key = .agg us.toArray ∧ ((us.zip us).all fun p => Instr.sameBits 9999 p.1 p.2) = true ∧ CV φ v e.val ∧ e.born = n ∧ (Instr.findAsking kt (.agg us.toArray) ents i).run P w = .ok (some (i + j, e.val)) w) ∨
    (mFindS P h kt l es yes no bad i = no ∧ (Instr.findAsking kt (.agg us.toArray) ents i).run P w = .ok none w)
  | _, _, i, .nil => .inr (.inr ⟨rfl, rfl⟩)
  | _, _, i, .cons (k := a) (v := v) (n := n) (e := e) (l := es) (es := ents) h1 h2 h3 hM => by
    have hstep : mFindS P h kt l ((a, v, n) :: es) yes no bad i = match kEqS P h kt l a with
      | some true => yes i v
      | some false => mFindS P h kt l es yes no bad (i + 1)
      | none => bad := rfl
    rw [hstep]
    cases hq : kEqS P h kt l a with
    | none => exact .inl rfl
    | some q =>
      unfold kEqS at hq
      split at hq <;> try cases hq
      rename_i m
      obtain ⟨vs, hkey, hvs⟩ : ∃ vs, e.key = .agg vs.toArray ∧ CVs φ m vs := by
        generalize e.key = u at h1
        cases h1 with
        | agg h => exact ⟨_, rfl, h⟩
      cases he : eqT P h 8 kt (.agg l) (.agg m) with
      | none => rw [he] at hq; cases hq
      | some q' =>
        have heq : (Op.equal kt (.agg us.toArray) e.key).run P w = .ok q' w := by
          rw [hkey]
          exact eqT_ok r 8 (.agg hc) (.agg hvs) he 10000 (by omega)
        rw [he] at hq
        cases q' with
        | true =>
          simp only at hq
          cases hce : cellsEq l m with
          | false => rw [hce] at hq; cases hq
          | true =>
            rw [hce] at hq
            cases hq
            obtain ⟨rfl, hsb⟩ := cellsEq_ok hce hc hvs
            refine .inr (.inl ⟨0, v, n, e, rfl, ⟨_, rfl⟩, rfl, hkey, hsb, h2, h3, ?_⟩)
            rw [findS_cons heq]; rfl
        | false =>
          simp only at hq
          cases hq
          simp only
          rcases mFindS_eq r hc yes no bad (i + 1) hM with h4 | ⟨j, v', n', e', h4, ⟨k', h5⟩, h6, h7, h7', h8, h9, h10⟩ | ⟨h4, h5⟩
          · exact .inl h4
          · refine .inr (.inl ⟨j + 1, v', n', e', ?_, ⟨k', by simpa using h5⟩, by simpa using h6, h7, h7', h8, h9, ?_⟩)
            · rw [h4]; congr 1; omega
            · rw [findS_cons heq]
              simp only [Bool.false_eq_true, if_false]
              rw [h10]; congr 3; omega
          · refine .inr (.inr ⟨h4, ?_⟩)
            rw [findS_cons heq]
            simpa using h5
theorem findKey_S {fs : Array Field} (hs : P.underlying kt = some (.struct fs)) {k : Value} {ents : List MapEntry} {x : Option (Nat × Value)} (hf : (Instr.findAsking kt k ents 0).run P w = .ok x w) : (Instr.findKey kt k ents).run P w = .ok x w := by
  cases ents with
  | nil =>
    have : x = none := by
      have h : (Result.ok none w : Result (Option (Nat × Value))) = .ok x w := hf
      cases h; rfl
    subst this
    simp [Instr.findKey, run_underlying hs, Instr.findNow]
  | cons e es =>
    have hn : Instr.findNow (.struct fs) k (e :: es) 0 = none := by
      simp [Instr.findNow, Instr.sameNow]
    simp only [Instr.findKey, Sem.run_bind, run_underlying hs, Result.andThen_ok, hn]
    exact hf
theorem checkF {l : List V} {us : List Value} (hc : CVs φ l us) (b : Bool) (lv : Nat) : ∀ (fs : List Field), (fs.all fun f => match P.underlying f.type with
    | some (.int _) | some .string | some .bool => (partV P f l).isSome
    | _ => false) = true → (forIn fs PUnit.unit fun f _ => do
      if f.name ≠ "_" then Instr.checkKey b (lv + 1) f.type (← part f.type us.toArray f.offset)
      pure (ForInStep.yield PUnit.unit) : Sem PUnit).run P w = .ok PUnit.unit w
  | [], _ => rfl
  | f :: fs, hall => by
    simp only [List.all_cons, Bool.and_eq_true] at hall
    obtain ⟨h1, h2⟩ := hall
    have ih := checkF hc b lv fs h2
    have hck : ∀ v, (Instr.checkKey b (lv + 1) f.type v).run P w = .ok () w := by
      intro v
      split at h1 <;> try cases h1
      · rename_i k hu
        have hA : ∀ n, (Instr.checkKey b (n + 1) f.type v).run P w = .ok () w := fun n => by simp [Instr.checkKey, run_underlying hu]
        exact hA lv
      · rename_i hu
        have hA : ∀ n, (Instr.checkKey b (n + 1) f.type v).run P w = .ok () w := fun n => by simp [Instr.checkKey, run_underlying hu]
        exact hA lv
      · rename_i hu
        have hA : ∀ n, (Instr.checkKey b (n + 1) f.type v).run P w = .ok () w := fun n => by simp [Instr.checkKey, run_underlying hu]
        exact hA lv
    obtain ⟨u, hp⟩ : ∃ u, (part f.type us.toArray f.offset).run P w = .ok u w := by
      have : (partV P f l).isSome = true := by
        split at h1 <;> first | exact h1 | cases h1
      obtain ⟨v, hv⟩ := Option.isSome_iff_exists.1 this
      obtain ⟨u, e1, -⟩ := partV_ok (w := w) hc hv
      exact ⟨u, e1⟩
    rw [List.forIn_cons]
    by_cases hn : f.name = "_"
    · simp only [hn, ne_eq, not_true_eq_false, if_false, Sem.run_bind, Sem.run_pure, Result.andThen_ok]
      simpa using ih
    · simp only [hn, ne_eq, not_false_eq_true, if_true, Sem.run_bind, hp, hck, Sem.run_pure, Result.andThen_ok]
      simpa using ih
theorem checkS {l : List V} {us : List Value} (hc : CVs φ l us) (hok : kOkS P kt l = true) : ∃ fs, P.underlying kt = some (.struct fs) ∧ ∀ b, (Instr.checkKey b 10000 kt (.agg us.toArray)).run P w = .ok () w := by
  unfold kOkS at hok
  split at hok <;> try cases hok
  rename_i fs hs
  refine ⟨fs, hs, fun b => ?_⟩
  have hA : ∀ lv, (Instr.checkKey b (lv + 1 + 1) kt (.agg us.toArray)).run P w = .ok () w := fun lv => by
    have hF := checkF (P := P) (w := w) hc b lv fs.toList hok
    simp only [Instr.checkKey, Sem.run_bind, run_underlying hs, Result.andThen_ok, ← Array.forIn_toList]
    simp only [Instr.checkKey] at hF
    simp_all
  exact hA 9998
theorem lkS_ok {ok : Bool} {l : List V} (r : Rel G φ h w) (hx : Kn φ e x v1) (hy : Kn φ e y (.agg l)) : QOk P φ h w e ⟨d, .lookup t x y ok, ty, pos, aft, g⟩ (lkS P h t v1 l ok) := by
  unfold lkS
  split <;> try exact trivial
  rename_i mk el ht
  split <;> try exact trivial
  rename_i zv hzv
  refine cond_q' fun hh => ?_
  simp only [Bool.and_eq_true] at hh
  obtain ⟨z, hz, hzc⟩ := tzv_of hzv hh.2
  obtain ⟨u2, hy, hc2⟩ := hy (by simp)
  cases hc2 with
  | @agg _ us hc2 =>
  obtain ⟨fs, hs, hck⟩ := checkS (w := w) hc2 hh.1
  have hzr := hz.zero (w := w)
  split <;> try exact trivial
  obtain ⟨u1, hx, hc1⟩ := hx (by simp)
  cases hc1 with
  | @map b b' a N hp =>
  split <;> try exact trivial
  rename_i es cl hb
  obtain ⟨arr, hm, hM⟩ := r.mapAt hb hp
  rcases mFindS_eq (kt := mk) r hc2 _ _ _ 0 hM with he | ⟨j, v, n, ent, he, h5, h6, h7, h7', h8, h9, h10⟩ | ⟨he, hf⟩
  · rw [he]; exact trivial
  · rw [he]
    have hfk := findKey_S hs h10
    cases ok with
    | true =>
      refine QOk.pure (u := .tuple [ent.val, .bool true].toArray) (fun ρ hρ => ?_) (.tup (.cons h8 (.cons .bool .nil)))
      simp [execOp, hρ _ _ hx, hρ _ _ hy, Instr.lookup, run_underlying ht, run_getMap hm, hck, hfk]
    | false =>
      refine rV_q fun _ => ⟨ent.val, fun ρ hρ => ?_, h8⟩
      simp [execOp, hρ _ _ hx, hρ _ _ hy, Instr.lookup, run_underlying ht, run_getMap hm, hck, hfk]
  · rw [he]
    have hfk := findKey_S hs hf
    cases ok with
    | true =>
      refine QOk.pure (u := .tuple [z, .bool false].toArray) (fun ρ hρ => ?_) (.tup (.cons (hzc φ) (.cons .bool .nil)))
      simp [execOp, hρ _ _ hx, hρ _ _ hy, Instr.lookup, run_underlying ht, run_getMap hm, hck, hfk, hzr]
    | false =>
      simp only [cond_false, fV_eq]
      refine QOk.pure (u := z) (fun ρ hρ => ?_) (hzc φ)
      simp [execOp, hρ _ _ hx, hρ _ _ hy, Instr.lookup, run_underlying ht, run_getMap hm, hck, hfk, hzr]
theorem lkW_ok {ok : Bool} (r : Rel G φ h w) (hx : Kn φ e x v1) (hy : Kn φ e y v2) : QOk P φ h w e ⟨d, .lookup t x y ok, ty, pos, aft, g⟩ (lkW P h t v1 v2 ok) := by
  unfold lkW
  split
  · exact lkS_ok r hx hy
  · exact lkV_ok r hx hy
theorem meS_ok {l : List V} (r : Rel G φ h w) (hx : Kn φ e x v1) (hy : Kn φ e y (.agg l)) : ROk P G φ h w e ⟨d, .mapEntry t x y, ty, pos, aft, g⟩ (meS P h t v1 l) := by
  unfold meS
  split <;> try exact trivial
  rename_i mk el ht
  split <;> try exact trivial
  rename_i zv hzv
  refine cond_ok' fun hh => ?_
  simp only [Bool.and_eq_true] at hh
  obtain ⟨z, hz, hzc⟩ := tzv_of hzv hh.2
  obtain ⟨u2, hy, hc2⟩ := hy (by simp)
  cases hc2 with
  | @agg _ us hc2 =>
  obtain ⟨fs, hs, hck⟩ := checkS (w := w) hc2 hh.1
  have hzr := hz.zero (w := w)
  split <;> try exact trivial
  obtain ⟨u1, hx, hc1⟩ := hx (by simp)
  cases hc1 with
  | @map b b' a N hp =>
  split <;> try exact trivial
  rename_i es cl hb
  obtain ⟨arr, hm, hM⟩ := r.mapAt hb hp
  rcases mFindS_eq (kt := mk) r hc2 _ _ _ 0 hM with he | ⟨j, v, n, ent, he, ⟨k', h5⟩, h6, h7, h7', h8, h9, h10⟩ | ⟨he, hf⟩
  · rw [he]; exact trivial
  · rw [he]
    simp only [Nat.zero_add] at h10 ⊢
    rw [h5]
    simp only [fN_eq]
    have hfk := findKey_S hs h10
    rw [Array.getElem?_toList] at h6
    have hb1 : Instr.sameBits 10000 (.agg us.toArray) (.agg us.toArray) = true := by
      show Instr.sameBits (9999 + 1) (.agg us.toArray) (.agg us.toArray) = true
      simp only [Instr.sameBits, beq_self_eq_true, Bool.true_and]
      simpa using h7'
    have hMs : MR φ es (arr.modify j fun e => { e with key := .agg us.toArray }).toList := by
      have : (arr.modify j fun e => { e with key := .agg us.toArray }) = arr := by
        apply Array.ext_getElem?
        intro i
        rw [Array.getElem?_modify]
        split
        · rename_i hij
          subst hij
          rw [h6, ← h7]; rfl
        · rfl
      rw [this]; exact hM
    refine ⟨.tuple [ent.val, I (n : Int)].toArray, _, φ, fun ρ hρ => ?_, r.ext_put hb hp hm hMs, .tup (.cons h8 (.cons .int .nil))⟩
    simp [execOp, hρ _ _ hx, hρ _ _ hy, Instr.mapEntry, run_underlying ht, run_getMap hm, hck, hfk, h6, h7, Instr.keyThatStays, hb1, run_setMap hm, goInt, h9]
  · rw [he, fL_eq, fN_eq, hSet_eq]
    have hfk := findKey_S hs hf
    have hMs : MR φ (es ++ [(.agg l, zv, cl)]) (arr.push { key := .agg us.toArray, val := z, born := cl }).toList := by rw [Array.toList_push]; exact MR.push hM (n := cl) (.agg hc2) (hzc φ)
    refine ⟨.tuple [z, I (cl : Int)].toArray, _, φ, fun ρ hρ => ?_, r.putMap hb hp hm hMs, .tup (.cons (hzc φ) (.cons .int .nil))⟩
    simp [execOp, hρ _ _ hx, hρ _ _ hy, Instr.mapEntry, run_underlying ht, run_getMap hm, hck, hfk, hzr, run_setMap hm, goInt]
theorem meW_ok (r : Rel G φ h w) (hx : Kn φ e x v1) (hy : Kn φ e y v2) : ROk P G φ h w e ⟨d, .mapEntry t x y, ty, pos, aft, g⟩ (meW P h t v1 v2) := by
  unfold meW
  split
  · exact meS_ok r hx hy
  · exact meV_ok r hx hy
end
end Go.Proofs.Ytkhkebcflaokpaa
namespace Go.Proofs.Ytkhkebcflaokpaa
open Go Go.RowKit
set_option linter.all false

section
variable {P : Program} {G : Nat} {φ : Ph} {h : H} {w : World} {e : Env} {d : Option Nat} {ty t t' : TypeId} {pos : String} {aft : Array Edge} {g : Option (Nat × Bool)} {x y : Operand} {v v1 v2 : V} {u u1 u2 : Value} {ρ : Operand → V}

theorem blt_ok {b : Builtin} {ts : List TypeId} {l : List V} {us : List Value} {args : Array Operand} (r : Rel G φ h w) (hl : looks e args.toList = some us) (hc : CVs φ l us) :
    ROk P G φ h w e ⟨d, .call ⟨.builtin b, args, ts.toArray⟩, ty, pos, aft, g⟩ (blt P h b ts l) := by
  have key : ∀ {s : Sem Value} {rr : R}, (∀ consts, builtin b ts.toArray ty consts us.toArray = (do pure (.value (← s)))) → BOk P G φ h w s rr → ROk P G φ h w e ⟨d, .call ⟨.builtin b, args, ts.toArray⟩, ty, pos, aft, g⟩ rr := fun {s rr} hb hk => by
    cases rr with
    | v x h' =>
      obtain ⟨u, w', φ', h1, h2, h3⟩ := hk
      refine ⟨u, w', φ', fun ρ hρ => ?_, h2, h3⟩
      have hm : args.map ρ = us.toArray := by
        apply Array.toList_inj.1
        simpa using looks_map hρ _ _ hl
      simp only [execOp, resolve, hm, Sem.run_bind, Sem.run_pure, Result.andThen_ok, invoke, hb, h1]
    | bad n => exact trivial
    | eff _ => exact hk.elim
    | call _ _ => exact hk.elim
    | yld _ _ => exact hk.elim
    | dfr _ _ _ => exact hk.elim
  unfold blt
  split <;> try exact trivial
  · split <;> try exact trivial
    cases hc with
    | cons h1 hc =>
    cases hc
    exact key (fun _ => rfl) ((lenV_ok r h1).bok r)
  · split <;> try exact trivial
    cases hc with
    | cons h1 hc =>
    cases hc
    exact key (fun _ => rfl) ((capV_ok r h1).bok r)
  · split <;> try exact trivial
    cases hc with
    | cons h1 hc =>
    cases hc with
    | cons h2 hc =>
    cases hc
    exact key (fun _ => rfl) (appB_ok r h1 h2)
  · split <;> try exact trivial
    cases hc with
    | cons h1 hc =>
    cases hc with
    | cons h2 hc =>
    cases hc
    exact key (fun _ => rfl) (copyB_ok r h1 h2)
  · exact key (fun _ => rfl) ((mm_ok (ts := ts.toArray) (ty := ty) true hc).bok r)
  · exact key (fun _ => rfl) ((mm_ok (ts := ts.toArray) (ty := ty) false hc).bok r)
  · split <;> try exact trivial
    cases hc with
    | cons h1 hc =>
    cases hc
    exact key (fun _ => rfl) (clearB_ok r h1)
  · split <;> try exact trivial
    cases hc with
    | cons h1 hc =>
    cases hc with
    | cons h2 hc =>
    cases hc
    exact key (fun _ => rfl) (delV_ok r h1 h2)
  · cases hc with
    | cons h1 hc =>
    cases hc
    exact key (fun _ => rfl) ((sdV_ok (ts := ts.toArray) h1).bok r)
  · split <;> try exact trivial
    cases hc with
    | cons h1 hc =>
    cases hc with
    | cons h2 hc =>
    cases hc
    exact key (fun _ => rfl) (usB_ok r h1 h2)

theorem run_typeInfo {i : TypeInfo} (h : P.info? t = some i) : (typeInfo t).run P w = .ok i w := by simp [typeInfo, program, Sem.run, h]
theorem run_method {f : FuncId} {name : String} {u : Value} (h : methV P t name = some f) (n : Nat) : (method (n + 1) t u name).run P w = .ok (f, u) w := by
  unfold methV at h
  split at h <;> try cases h
  rename_i i hi
  split at h <;> try cases h
  rename_i m hm
  split at h <;> try cases h
  rename_i f' pr hpath hfunc
  have hm' : i.methods.find? (·.name == name) = some m := by rw [← hm, Array.find?_toList]
  split at h <;> try cases h
  · rename_i el hu
    cases pr <;> simp at h
    subst h
    simp [method, run_typeInfo hi, hm', hpath, follow, hfunc, receiverAt, run_underlying hu, Place.get]
  · rename_i td hnp hu
    cases pr <;> simp at h
    subst h
    unfold method
    simp only [Sem.run_bind, run_typeInfo hi, Result.andThen_ok, hm', hpath, follow, Sem.run_pure, hfunc, receiverAt, run_underlying hu, Place.get]

theorem evCall_ok {c : Call} (r : Rel G φ h w) (hρ : RhoR φ ρ e) : ROk P G φ h w e ⟨d, .call c, ty, pos, aft, g⟩ (evCall P ρ c h) := by
  obtain ⟨cal, args, ts⟩ := c
  unfold evCall
  simp only
  split <;> try exact trivial
  · rename_i f
    rcases knownK_eq ρ args.toList (fun l => callV P l (ρ f)) (.bad 142) with h1 | ⟨h1, h2⟩
    · rw [h1]; exact trivial
    · rw [h2]
      obtain ⟨us, hl, hc⟩ := looks_of hρ h1
      have hf := hρ f
      generalize ρ f = v at hf
      unfold callV
      split <;> try exact trivial
      · rename_i f' p q
        obtain ⟨u, hx, hcu⟩ := hf (by simp)
        cases hcu with
        | @fn _ _ _ up uq c1 c2 =>
        rw [fL_eq]
        refine ⟨up ++ us ++ uq, fun hF => ?_, (c1.append hc).append c2, fun u w' hrun ρ' hρ' => ?_⟩
        rotate_left
        · have hm : args.map ρ' = us.toArray := by
            apply Array.toList_inj.1
            simpa using looks_map hρ' _ _ hl
          have hrun' : (callFunc f' (up.toArray ++ us.toArray ++ uq.toArray)).run P w = .ok (.value u) w' := by
            rw [← hrun]; congr 2; simp
          simp only [execOp, resolve, hm, hρ' _ _ hx, Sem.run_bind, Deferred.ofValue, Sem.run_pure, Result.andThen_ok, invoke]
          exact hrun'
        have := ycv' (P := P) (d := d) (ty := ty) (pos := pos) (aft := aft) (g := g) (w := w) (ts := ts) hF hx hl
        rwa [Array.toArray_toList] at this
      · rename_i l
        obtain ⟨u, hx, hcu⟩ := hf (by simp)
        cases hcu with
        | @yld _ l' a N hp =>
        refine ⟨us, l', a, N, hp, hc, ?_⟩
        have := yy (P := P) (d := d) (ty := ty) (pos := pos) (aft := aft) (g := g) (w := w) (ts := ts) hx hl
        rwa [Array.toArray_toList] at this
      · rename_i nm y
        obtain ⟨u, hx, hcu⟩ := hf (by simp)
        cases hcu with
        | @mth _ _ uy hcy =>
        unfold invV
        split <;> try exact trivial
        rename_i t' v'
        cases hcy with
        | @ifc _ _ u' hcv =>
        split <;> try exact trivial
        rename_i f' hm
        rw [fL_eq]
        have hmm := fun w => run_method (P := P) (w := w) (u := u') hm (P.types.size + (Made.depth - 1))
        rw [show P.types.size + (Made.depth - 1) + 1 = P.types.size + Made.depth from rfl] at hmm
        have hpr : (program).run P w = .ok P w := rfl
        refine ⟨u' :: us, fun hF ρ' hρ' => ?_, .cons hcv hc, fun u w' hrun ρ' hρ' => ?_⟩
        · have hm' : args.map ρ' = us.toArray := by
            apply Array.toList_inj.1
            simpa using looks_map hρ' _ _ hl
          simp [execOp, resolve, hm', hρ' _ _ hx, Deferred.ofValue, invoke, callMethod, hpr, hmm, run_callFunc hF]
        · have hm' : args.map ρ' = us.toArray := by
            apply Array.toList_inj.1
            simpa using looks_map hρ' _ _ hl
          have hrun' : (callFunc f' (#[u'] ++ us.toArray)).run P w = .ok (.value u) w' := by
            rw [← hrun]; congr 2; simp
          simp [execOp, resolve, hm', hρ' _ _ hx, Deferred.ofValue, invoke, callMethod, hpr, hmm]
          simpa using hrun'
  · rename_i b
    rcases knownK_eq ρ args.toList (fun l => blt P h b ts.toList l) (.bad 142) with h1 | ⟨h1, h2⟩
    · rw [h1]; exact trivial
    · rw [h2]
      obtain ⟨us, hl, hc⟩ := looks_of hρ h1
      have := blt_ok (P := P) (d := d) (ty := ty) (pos := pos) (aft := aft) (g := g) (b := b) (ts := ts.toList) r hl hc
      rwa [Array.toArray_toList] at this
  · rename_i x name
    rcases knownK_eq ρ args.toList (fun l => invV P name l (ρ x)) (.bad 142) with h1 | ⟨h1, h2⟩
    · rw [h1]; exact trivial
    · rw [h2]
      obtain ⟨us, hl, hc⟩ := looks_of hρ h1
      have hf := hρ x
      generalize ρ x = v at hf
      unfold invV
      split <;> try exact trivial
      rename_i t' v'
      obtain ⟨u, hx, hcu⟩ := hf (by simp)
      cases hcu with
      | @ifc _ _ u' hcv =>
      split <;> try exact trivial
      rename_i f' hm
      rw [fL_eq]
      refine ⟨u' :: us, fun hF ρ' hρ' => ?_, .cons hcv hc, fun u w' hrun ρ' hρ' => ?_⟩
      rotate_left
      · have hm' : args.map ρ' = us.toArray := by
          apply Array.toList_inj.1
          simpa using looks_map hρ' _ _ hl
        have hmm := run_method (P := P) (w := w) (u := u') hm (P.types.size + (Made.depth - 1))
        rw [show P.types.size + (Made.depth - 1) + 1 = P.types.size + Made.depth from rfl] at hmm
        have hpr : (program).run P w = .ok P w := rfl
        have hrun' : (callFunc f' (#[u'] ++ us.toArray)).run P w = .ok (.value u) w' := by
          rw [← hrun]; congr 2; simp
        simp only [execOp, resolve, hm', hρ' _ _ hx, Sem.run_bind, Sem.run_pure, Result.andThen_ok, invoke]
        simp [callMethod, hpr, hmm]
        simpa using hrun'
      have hm' : args.map ρ' = us.toArray := by
        apply Array.toList_inj.1
        simpa using looks_map hρ' _ _ hl
      have hmm := run_method (P := P) (w := w) (u := u') hm (P.types.size + (Made.depth - 1))
      rw [show P.types.size + (Made.depth - 1) + 1 = P.types.size + Made.depth from rfl] at hmm
      have hpr : (program).run P w = .ok P w := rfl
      simp only [execOp, resolve, hm', hρ' _ _ hx, Sem.run_bind, Sem.run_pure, Result.andThen_ok, invoke]
      simp [callMethod, hpr, hmm, run_callFunc hF]

theorem evDefer_ok {c : Call} (r : Rel G φ h w) (hρ : RhoR φ ρ e) : ROk P G φ h w e ⟨d, .defer c, ty, pos, aft, g⟩ (evDefer ρ c) := by
  obtain ⟨cal, args, ts⟩ := c
  unfold evDefer
  simp only
  split <;> try exact trivial
  rename_i f
  rcases knownK_eq ρ args.toList (fun l => dfrV l (ρ f)) (.bad 244) with h1 | ⟨h1, h2⟩
  · rw [h1]; exact trivial
  · rw [h2]
    obtain ⟨us, hl, hc⟩ := looks_of hρ h1
    have hf := hρ f
    generalize ρ f = v at hf
    unfold dfrV
    split <;> try exact trivial
    rename_i f' p q
    obtain ⟨u, hx, hcu⟩ := hf (by simp)
    cases hcu with
    | @fn _ _ _ up uq c1 c2 =>
    rw [fL_eq]
    refine ⟨uq, up ++ us, c2, c1.append hc, fun ρ' hρ' => ?_⟩
    have hm : args.map ρ' = us.toArray := by
      apply Array.toList_inj.1
      simpa using looks_map hρ' _ _ hl
    simp [execOp, resolve, hm, hρ' _ _ hx, Deferred.ofValue, Dfr.d]
theorem makeMap_ok : NwOk P φ w e ⟨d, .makeMap t none, ty, pos, aft, g⟩ (some (.map [] 0, fun b => .map b)) :=
  ⟨.map #[] 0, .map (some w.heap.size), 0, fun ρ hρ => by simp [execOp, Instr.makeMap, newObj, Sem.run], rfl, fun φ' hs => ⟨#[], heap_new w _, .nil⟩, fun φ' b hb => .map hb⟩
theorem mthV_q {nm : String} {x : Operand} {y : V} {u : Value} (hx : look e x = some (.func (.method nm) #[u] #[])) (hc : CV φ y u) : QOk P φ h w e ⟨d, .nilCheck x, ty, pos, aft, g⟩ (mthV P h nm y) := by
  unfold mthV
  split <;> try exact trivial
  rename_i t v
  cases hc with
  | @ifc _ _ u' hc =>
  refine cond_q' fun hh => ?_
  obtain ⟨f, hm⟩ := Option.isSome_iff_exists.1 hh
  refine QOk.pure (fun ρ hρ => ?_) (.mth (.ifc hc))
  have hn : (nilAhead (P.types.size + Made.depth) t u' nm).run P w = .ok (some false) w := by
    rw [show P.types.size + Made.depth = P.types.size + (Made.depth - 1) + 1 from rfl]
    unfold methV at hm
    split at hm <;> try cases hm
    rename_i i hi
    split at hm <;> try cases hm
    rename_i m hmf
    split at hm <;> try cases hm
    rename_i f' pr hpath hfunc
    have hm' : i.methods.find? (·.name == nm) = some m := by rw [← hmf, Array.find?_toList]
    unfold nilAhead
    split at hm <;> try cases hm
    · rename_i el hu
      cases pr <;> simp at hm
      simp [run_typeInfo hi, hm', hpath, followBlind, hfunc]
    · rename_i td hnp hu
      cases pr <;> simp at hm
      simp only [Sem.run_bind, run_typeInfo hi, Result.andThen_ok, hm', hpath, followBlind, Sem.run_pure, hfunc, run_underlying hu]
      cases td <;> first | exact absurd rfl (hnp _) | rfl
  have hpr : (program).run P w = .ok P w := rfl
  simp [execOp, hρ _ _ hx, hpr, hn]
theorem mkM_q {nm : String} {a b : Array Operand} {l : List V} {us : List Value} (hl : looks e a.toList = some us) (hc : CVs φ l us) : QOk P φ h w e ⟨d, .makeFunc (.method nm) a b, ty, pos, aft, g⟩ (mkM h nm l b.toList) := by
  unfold mkM
  split <;> try exact trivial
  rename_i v hb
  cases hc with
  | @cons _ _ u1 _ h1 hc =>
  cases hc
  refine QOk.pure (fun ρ hρ => ?_) (.mth h1)
  have hm : a.map ρ = [u1].toArray := by
    apply Array.toList_inj.1
    simpa using looks_map hρ _ _ hl
  have hb' : b = #[] := by apply Array.toList_inj.1; simpa using hb
  subst hb'
  simp [execOp, hm, Instr.makeFunc]
/-- What the reckoner answers to an operation is what the operation does. -/
theorem evOp_ok {op : Op} (r : Rel G φ h w) (hρ : RhoR φ ρ e) : ROk P G φ h w e ⟨d, op, ty, pos, aft, g⟩ (evOp P ρ op h) := by
  unfold evOp
  split <;> try exact trivial
  · rename_i x
    exact (rV_q fun hv => by obtain ⟨u, hx, hc⟩ := hρ x hv; exact ⟨u, ymv hx, hc⟩).rok r
  · rename_i x
    exact (rV_q fun hv => by obtain ⟨u, hx, hc⟩ := hρ x hv; exact ⟨u, yas hx, hc⟩).rok r
  · rename_i c a b
    split <;> try exact trivial
    · rename_i hcv
      obtain ⟨uc, hx, hc⟩ := hρ c (by rw [hcv]; simp)
      rw [hcv] at hc; cases hc
      exact (rV_q fun hv => by obtain ⟨u, hx2, hc2⟩ := hρ a hv; exact ⟨u, ypT hx hx2, hc2⟩).rok r
    · rename_i hcv
      obtain ⟨uc, hx, hc⟩ := hρ c (by rw [hcv]; simp)
      rw [hcv] at hc; cases hc
      exact (rV_q fun hv => by obtain ⟨u, hx2, hc2⟩ := hρ b hv; exact ⟨u, ypF hx hx2, hc2⟩).rok r
  · exact allocN_ok.rok r
  · exact (boxN_ok (hρ _)).rok r
  · rename_i t ps
    rcases partsK_eq ρ ps.toList (buildV P h t) (.bad 142) with h1 | ⟨h1, h2⟩
    · rw [h1]; exact trivial
    · rw [h2]
      obtain ⟨us, hp, hpr⟩ := lookp_of hρ h1
      have := buildV_ok (P := P) (d := d) (ty := ty) (pos := pos) (aft := aft) (g := g) (t := t) r (fun v hv => by
        simp only [List.map_map, List.mem_map] at hv
        obtain ⟨p, hp, rfl⟩ := hv
        exact h1 p hp) hp hpr
      rw [Array.toArray_toList] at this
      exact this.rok r
  · rename_i t n ps
    rcases partsK_eq ρ ps.toList (buildSlB P t n) none with h1 | ⟨h1, h2⟩
    · rw [h1]; exact trivial
    · rw [h2]
      obtain ⟨us, hp, hpr⟩ := lookp_of hρ h1
      have := buildSlB_ok (pu := us) <| buildSlN_ok (P := P) (w := w) (d := d) (ty := ty) (pos := pos) (aft := aft) (g := g) (t := t) (n := n) (fun v hv => by
        simp only [List.map_map, List.mem_map] at hv
        obtain ⟨p, hp, rfl⟩ := hv
        exact h1 p hp) hp hpr
      rw [Array.toArray_toList] at this
      exact this.rok r
  · exact (loadB_ok r (hρ _)).rok r
  · exact storeB_ok r (hρ _) (hρ _)
  · rename_i x
    split <;> try exact trivial
    · rename_i nm y hxv
      obtain ⟨u, hx, hc⟩ := hρ x (by rw [hxv]; simp)
      rw [hxv] at hc
      cases hc with
      | @mth _ _ u' hc =>
      exact (mthV_q hx hc).rok r
    rename_i hnn hnm
    refine rV_ok r fun hv => ?_
    obtain ⟨u, hx, hc⟩ := hρ x hv
    refine ⟨u, ?_, hc⟩
    generalize ρ x = v at hc hnn hnm hv
    cases hc with
    | und => exact absurd rfl hv
    | nptr => exact absurd rfl (hnn _)
    | nsl => exact absurd rfl (hnn _)
    | nmap => exact absurd rfl (hnn _)
    | nfn => exact absurd rfl (hnn _)
    | nifc => exact absurd rfl (hnn _)
    | mth _ => exact absurd rfl (hnm _ _)
    | _ => exact fun ρ hρ => by simp [execOp, hρ _ _ hx]
  · exact (bin_ok r (hρ _) (hρ _)).rok r
  · exact (un_ok r (hρ _)).rok r
  · exact convB_ok r (hρ _)
  · exact (mi_ok r (hρ _)).rok r
  · rename_i f a b
    rcases knownK_eq ρ a.toList (fun p => knownK ρ b.toList (fun q => R.v (.fn f p q) h) (.bad 142)) (.bad 142) with h1 | ⟨h1, h2⟩
    · rw [h1]; exact trivial
    · rw [h2]
      rcases knownK_eq ρ b.toList (fun q => R.v (.fn f (a.toList.map ρ) q) h) (.bad 142) with h3 | ⟨h3, h4⟩
      · rw [h3]; exact trivial
      · rw [h4]
        obtain ⟨us, hl, hc⟩ := looks_of hρ h1
        obtain ⟨us', hl', hc'⟩ := looks_of hρ h3
        have := ymf (P := P) (d := d) (ty := ty) (pos := pos) (aft := aft) (g := g) (w := w) (f := f) hl hl'
        rw [Array.toArray_toList, Array.toArray_toList] at this
        exact ROk.pure r this (.fn hc hc')
  · rename_i nm a b
    rcases knownK_eq ρ a.toList (fun p => mkM h nm p b.toList) (.bad 142) with h1 | ⟨h1, h2⟩
    · rw [h1]; exact trivial
    · rw [h2]
      obtain ⟨us, hl, hc⟩ := looks_of hρ h1
      exact (mkM_q hl hc).rok r
  · exact (makeMap_ok (P := P)).rok r
  · exact (makeSlB_ok (hρ _) (hρ _)).rok r
  · exact (slV_ok r hρ).rok r
  · exact (fldAddr_ok r (hρ _)).rok r
  · exact (fldV_ok r (hρ _)).rok r
  · exact (ixAddr_ok r (hρ _) (hρ _)).rok r
  · exact (ixV_ok r (hρ _) (hρ _)).rok r
  · exact (lkW_ok r (hρ _) (hρ _)).rok r
  · exact muV_ok (fun _ => rfl) r (hρ _) (hρ _) (hρ _)
  · exact muV_ok (fun _ => rfl) r (hρ _) (hρ _) (hρ _)
  · exact meW_ok r (hρ _) (hρ _)
  · exact esV_ok r (hρ _) (hρ _) (hρ _)
  · exact (ta_ok r (hρ _)).rok r
  · rename_i x i
    split <;> try exact trivial
    rename_i l hl
    obtain ⟨u, hx, hc⟩ := hρ x (by rw [hl]; simp)
    rw [hl] at hc
    cases hc with
    | @tup _ us hc =>
    split <;> try exact trivial
    rename_i v hv
    obtain ⟨u, e1, e2⟩ := hc.get hv
    exact (rV_q fun _ => ⟨u, yex hx (by simpa using e1), e2⟩).rok r
  · exact evCall_ok r hρ
  · exact evDefer_ok r hρ
  · exact rgV_ok r (hρ _)
  · exact nxV_ok r (hρ _)
  · exact enV_ok r (hρ _)
end
end Go.Proofs.Ytkhkebcflaokpaa
namespace Go.Proofs.Ytkhkebcflaokpaa
open Go Go.RowKit
set_option linter.all false
noncomputable section

def opF (x : Operand) : Nat → (d : Nat) → Tr V d → V := @Operand.rec (fun _ => Nat → (d : Nat) → Tr V d → V) (fun i _ d E => vGet d i E) (fun v _ _ _ => ofV v) (fun g G _ _ => cond (Nat.blt g G) (.ptr g 0) .und) (fun f _ _ _ => .fn f [] []) x
def rVF (v : V) : H → Nat → R := @V.rec (fun _ => H → Nat → R) (fun _ => PUnit) (fun x1 x2 => fun h _ => R.v (V.int x1 x2) h) (fun x1 => fun h _ => R.v (V.bool x1) h) (fun x1 x2 => fun h _ => R.v (V.str x1 x2) h) (fun x1 x2 => fun h _ => R.v (V.ptr x1 x2) h) (fun x1 x2 x3 x4 x5 x6 => fun h _ => R.v (V.sl x1 x2 x3 x4 x5 x6) h) (fun x1 x2 => fun h _ => R.v (V.es x1 x2) h) (fun x1 => fun h _ => R.v (V.map x1) h) (fun x1 => fun h _ => R.v (V.nil x1) h) (fun x1 x2 x3 _ _ => fun h _ => R.v (V.fn x1 x2 x3) h) (fun x1 => fun h _ => R.v (V.yld x1) h) (fun x1 x2 _ => fun h _ => R.v (V.ifc x1 x2) h) (fun x1 x2 _ => fun h _ => R.v (V.mth x1 x2) h) (fun x1 _ => fun h _ => R.v (V.agg x1) h) (fun x1 _ => fun h _ => R.v (V.tup x1) h) (fun _ m => R.bad m) PUnit.unit (fun _ _ _ _ => PUnit.unit) v
theorem rVF_eq (v : V) (h : H) (n : Nat) : rVF v h n = rV h n v := by cases v <;> rfl
def keqF (a : IntKind) : IntKind → Bool := @IntKind.rec (fun _ => IntKind → Bool) (fun b => @IntKind.rec (fun _ => Bool) true false false false false false false false b) (fun b => @IntKind.rec (fun _ => Bool) false true false false false false false false b) (fun b => @IntKind.rec (fun _ => Bool) false false true false false false false false b) (fun b => @IntKind.rec (fun _ => Bool) false false false true false false false false b) (fun b => @IntKind.rec (fun _ => Bool) false false false false true false false false b) (fun b => @IntKind.rec (fun _ => Bool) false false false false false true false false b) (fun b => @IntKind.rec (fun _ => Bool) false false false false false false true false b) (fun b => @IntKind.rec (fun _ => Bool) false false false false false false false true b) a
theorem keqF_eq (a b : IntKind) : keqF a b = keq a b := by cases a <;> cases b <;> rfl
def inRF (k : IntKind) : Int → Bool := @IntKind.rec (fun _ => Int → Bool) (fun _ => false) (fun _ => false) (fun _ => false) (fun z => @Int.rec (fun _ => Bool) (fun n => Nat.ble n 9223372036854775807) (fun n => Nat.ble n 9223372036854775807) z) (fun z => @Int.rec (fun _ => Bool) (fun n => Nat.ble n 255) (fun _ => false) z) (fun _ => false) (fun z => @Int.rec (fun _ => Bool) (fun n => Nat.ble n 4294967295) (fun _ => false) z) (fun z => @Int.rec (fun _ => Bool) (fun n => Nat.ble n 18446744073709551615) (fun _ => false) z) k
theorem inRF_eq (k : IntKind) (z : Int) : inRF k z = inR k z := by cases k <;> rfl
def wrpF (k : IntKind) (z : Int) : Int := @Bool.rec (fun _ => IntKind → Int → Int) (fun k z => k.wrap z) (fun _ z => z) (inRF k z) k z
theorem wrpF_eq (k : IntKind) (z : Int) : wrpF k z = wrp k z := by unfold wrpF wrp; rw [inRF_eq]; cases inR k z <;> rfl
/-- A number is reckoned out and answered. -/
def rIntF (z : Int) : IntKind → H → R := @Int.rec (fun _ => IntKind → H → R) (fun n => @Nat.rec (fun _ => IntKind → H → R) (fun k h => .v (.int k (.ofNat 0)) h) (fun m _ k h => .v (.int k (.ofNat (Nat.succ m))) h) n) (fun n => @Nat.rec (fun _ => IntKind → H → R) (fun k h => .v (.int k (.negSucc 0)) h) (fun m _ k h => .v (.int k (.negSucc (Nat.succ m))) h) n) z
theorem rIntF_eq (h : H) (k : IntKind) (z : Int) : rIntF z k h = rInt h k z := by cases z <;> (rename_i n; cases n <;> rfl)
def rBoolF (b : Bool) : H → R := @Bool.rec (fun _ => H → R) (fun h => .v (.bool false) h) (fun h => .v (.bool true) h) b
theorem rBoolF_eq (h : H) (b : Bool) : rBoolF b h = rBool h b := by cases b <;> rfl
def condF (b : Bool) : R → R → R := @Bool.rec (fun _ => R → R → R) (fun _ y => y) (fun x _ => x) b
theorem condF_eq (b : Bool) (x y : R) : condF b x y = cond b x y := by cases b <;> rfl

def bitJ (b : Int) : Nat → (Nat → Nat → Nat) → IntKind → H → R := @Int.rec (fun _ => Nat → (Nat → Nat → Nat) → IntKind → H → R) (fun n m f k h => condF (and (inRF k (.ofNat m)) (inRF k (.ofNat n))) (rIntF (.ofNat (f m n)) k h) (.bad 3)) (fun n m f k h => bitS h k f (.ofNat m) (.negSucc n)) b
def bitF (a : Int) : Int → (Nat → Nat → Nat) → IntKind → H → R := @Int.rec (fun _ => Int → (Nat → Nat → Nat) → IntKind → H → R) (fun m b f k h => bitJ b m f k h) (fun m b f k h => bitS h k f (.negSucc m) b) a
def shlJ (b : Int) : Int → IntKind → H → R := @Int.rec (fun _ => Int → IntKind → H → R) (fun n a k h => @Int.rec (fun _ => Nat → IntKind → H → R) (fun m n k h => rIntF (wrpF k (.ofNat (Nat.mul m (Nat.pow 2 (Nat.min n k.bits))))) k h) (fun m n k h => shNeg h .shl k (.negSucc m) n) a n k h) (fun _ _ _ _ => .bad 7) b
def shrJ (b : Int) : Int → IntKind → H → R := @Int.rec (fun _ => Int → IntKind → H → R) (fun n a k h => @Int.rec (fun _ => Nat → IntKind → H → R) (fun m n k h => rIntF (.ofNat (Nat.div m (Nat.pow 2 (Nat.min n k.bits)))) k h) (fun m n k h => shNeg h .shr k (.negSucc m) n) a n k h) (fun _ _ _ _ => .bad 7) b
theorem bitF_and (a b : Int) (k : IntKind) (h : H) : bitF a b Nat.land k h = binInt h .and k a b := by cases a <;> cases b <;> simp only [bitF, bitJ, binInt, nat?, condF_eq, rIntF_eq, inRF_eq]
theorem bitF_or (a b : Int) (k : IntKind) (h : H) : bitF a b Nat.lor k h = binInt h .or k a b := by cases a <;> cases b <;> simp only [bitF, bitJ, binInt, nat?, condF_eq, rIntF_eq, inRF_eq]
theorem bitF_xor (a b : Int) (k : IntKind) (h : H) : bitF a b Nat.xor k h = binInt h .xor k a b := by cases a <;> cases b <;> simp only [bitF, bitJ, binInt, nat?, condF_eq, rIntF_eq, inRF_eq]
theorem shlJ_eq (a b : Int) (k : IntKind) (h : H) : shlJ b a k h = shInt h .shl k a b := by cases b <;> cases a <;> simp only [shlJ, shInt, nat?, rIntF_eq, wrpF_eq]
theorem shrJ_eq (a b : Int) (k : IntKind) (h : H) : shrJ b a k h = shInt h .shr k a b := by cases b <;> cases a <;> simp only [shrJ, shInt, nat?, rIntF_eq, wrpF_eq]
def addF (a : Int) : Int → Int := @Int.rec (fun _ => Int → Int) (fun m b => @Int.rec (fun _ => Nat → Int) (fun n m => .ofNat (Nat.add m n)) (fun n m => Int.add (.ofNat m) (.negSucc n)) b m) (fun m b => Int.add (.negSucc m) b) a
theorem addF_eq (a b : Int) : addF a b = Int.add a b := by cases a <;> cases b <;> rfl
def subF (a : Int) : Int → Int := @Int.rec (fun _ => Int → Int) (fun m b => @Int.rec (fun _ => Nat → Int) (fun n m => @Bool.rec (fun _ => Nat → Nat → Int) (fun m n => Int.sub (.ofNat m) (.ofNat n)) (fun m n => .ofNat (Nat.sub m n)) (Nat.ble n m) m n) (fun n m => Int.sub (.ofNat m) (.negSucc n)) b m) (fun m b => Int.sub (.negSucc m) b) a
theorem subF_eq (a b : Int) : subF a b = Int.sub a b := by
  cases a with
  | negSucc m => rfl
  | ofNat m =>
    cases b with
    | negSucc n => rfl
    | ofNat n =>
      simp only [subF]
      cases hb : Nat.ble n m with
      | false => rfl
      | true =>
        have := Nat.le_of_ble_eq_true hb
        show Int.ofNat (m - n) = (m : Int) - (n : Int)
        simp only [Int.ofNat_eq_natCast]; omega
def mulF (a : Int) : Int → Int := @Int.rec (fun _ => Int → Int) (fun m b => @Int.rec (fun _ => Nat → Int) (fun n m => .ofNat (Nat.mul m n)) (fun n m => Int.mul (.ofNat m) (.negSucc n)) b m) (fun m b => Int.mul (.negSucc m) b) a
theorem mulF_eq (a b : Int) : mulF a b = Int.mul a b := by cases a <;> cases b <;> rfl

def binIF (op : BinOp) : H → IntKind → IntKind → Int → Int → R := @BinOp.rec (fun _ => H → IntKind → IntKind → Int → Int → R) (fun h k k' a b => condF (keqF k k') (rIntF (wrpF k (addF a b)) k h) (.bad 10)) (fun h k k' a b => condF (keqF k k') (rIntF (wrpF k (subF a b)) k h) (.bad 10)) (fun h k k' a b => condF (keqF k k') (rIntF (wrpF k (mulF a b)) k h) (.bad 10)) (fun h k k' a b => condF (keqF k k') (binInt h .quo k a b) (.bad 10)) (fun h k k' a b => condF (keqF k k') (binInt h .rem k a b) (.bad 10)) (fun h k k' a b => condF (keqF k k') (bitF a b Nat.land k h) (.bad 10)) (fun h k k' a b => condF (keqF k k') (bitF a b Nat.lor k h) (.bad 10)) (fun h k k' a b => condF (keqF k k') (bitF a b Nat.xor k h) (.bad 10)) (fun h k _ a b => shlJ b a k h) (fun h k _ a b => shrJ b a k h) (fun h k k' a b => condF (keqF k k') (binInt h .andNot k a b) (.bad 10)) (fun h k k' a b => condF (keqF k k') (rBoolF (ieq a b) h) (.bad 10)) (fun h k k' a b => condF (keqF k k') (rBoolF (not (ieq a b)) h) (.bad 10)) (fun h k k' a b => condF (keqF k k') (rBoolF (not (ile b a)) h) (.bad 10)) (fun h k k' a b => condF (keqF k k') (rBoolF (ile a b) h) (.bad 10)) (fun h k k' a b => condF (keqF k k') (rBoolF (not (ile a b)) h) (.bad 10)) (fun h k k' a b => condF (keqF k k') (rBoolF (ile b a) h) (.bad 10)) op
theorem binIF_eq (op : BinOp) (h : H) (k k' : IntKind) (a b : Int) : binIF op h k k' a b = (match op with | .shl | .shr => shInt h op k a b | _ => cond (keq k k') (binInt h op k a b) (.bad 10)) := by
  cases op <;> first | (simp only [binIF, condF_eq, keqF_eq, bitF_and, bitF_or, bitF_xor, shlJ_eq, shrJ_eq]; done) | simp only [binIF, condF_eq, keqF_eq, rIntF_eq, rBoolF_eq, wrpF_eq, addF_eq, subF_eq, mulF_eq, binInt]
def binJ (b : V) : IntKind → Int → Program → H → BinOp → TypeId → R := @V.rec (fun _ => IntKind → Int → Program → H → BinOp → TypeId → R) (fun _ => PUnit) (fun k' b => fun k a _ h op _ => binIF op h k k' a b) (fun x1 => fun k a P h op t => bin P h op t (.int k a) (V.bool x1)) (fun x1 x2 => fun k a P h op t => bin P h op t (.int k a) (V.str x1 x2)) (fun x1 x2 => fun k a P h op t => bin P h op t (.int k a) (V.ptr x1 x2)) (fun x1 x2 x3 x4 x5 x6 => fun k a P h op t => bin P h op t (.int k a) (V.sl x1 x2 x3 x4 x5 x6)) (fun x1 x2 => fun k a P h op t => bin P h op t (.int k a) (V.es x1 x2)) (fun x1 => fun k a P h op t => bin P h op t (.int k a) (V.map x1)) (fun x1 => fun k a P h op t => bin P h op t (.int k a) (V.nil x1)) (fun x1 x2 x3 _ _ => fun k a P h op t => bin P h op t (.int k a) (V.fn x1 x2 x3)) (fun x1 => fun k a P h op t => bin P h op t (.int k a) (V.yld x1)) (fun x1 x2 _ => fun k a P h op t => bin P h op t (.int k a) (V.ifc x1 x2)) (fun x1 x2 _ => fun k a P h op t => bin P h op t (.int k a) (V.mth x1 x2)) (fun x1 _ => fun k a P h op t => bin P h op t (.int k a) (V.agg x1)) (fun x1 _ => fun k a P h op t => bin P h op t (.int k a) (V.tup x1)) (fun k a P h op t => bin P h op t (.int k a) V.und) PUnit.unit (fun _ _ _ _ => PUnit.unit) b
def binF (a : V) : V → Program → H → BinOp → TypeId → R := @V.rec (fun _ => V → Program → H → BinOp → TypeId → R) (fun _ => PUnit) (fun k n => fun b P h op t => binJ b k n P h op t) (fun x1 => fun b P h op t => bin P h op t (V.bool x1) b) (fun x1 x2 => fun b P h op t => bin P h op t (V.str x1 x2) b) (fun x1 x2 => fun b P h op t => bin P h op t (V.ptr x1 x2) b) (fun x1 x2 x3 x4 x5 x6 => fun b P h op t => bin P h op t (V.sl x1 x2 x3 x4 x5 x6) b) (fun x1 x2 => fun b P h op t => bin P h op t (V.es x1 x2) b) (fun x1 => fun b P h op t => bin P h op t (V.map x1) b) (fun x1 => fun b P h op t => bin P h op t (V.nil x1) b) (fun x1 x2 x3 _ _ => fun b P h op t => bin P h op t (V.fn x1 x2 x3) b) (fun x1 => fun b P h op t => bin P h op t (V.yld x1) b) (fun x1 x2 _ => fun b P h op t => bin P h op t (V.ifc x1 x2) b) (fun x1 x2 _ => fun b P h op t => bin P h op t (V.mth x1 x2) b) (fun x1 _ => fun b P h op t => bin P h op t (V.agg x1) b) (fun x1 _ => fun b P h op t => bin P h op t (V.tup x1) b) (fun b P h op t => bin P h op t V.und b) PUnit.unit (fun _ _ _ _ => PUnit.unit) a
theorem binF_eq (P : Program) (h : H) (op : BinOp) (t : TypeId) (a b : V) : binF a b P h op t = bin P h op t a b := by
  cases a <;> try rfl
  cases b <;> try rfl
  exact binIF_eq ..

/-- What a cell of a block holds. -/
def ldC (a : Option Bool) : (n d : Nat) → Tr V d → Nat → Program → H → TypeId → R := @Option.rec Bool (fun _ => (n d : Nat) → Tr V d → Nat → Program → H → TypeId → R) (fun _ _ _ _ _ _ _ => .bad 20)
  (fun b => @Bool.rec (fun _ => (n d : Nat) → Tr V d → Nat → Program → H → TypeId → R) (fun n d tr o _ h _ => condF (Nat.blt o n) (rVF (vGet d o tr) h 17) (.bad 18)) (fun n d tr o P h t => condF (Nat.ble (Nat.add o (tsz P t)) n) (rdK (tsz P t) d tr o fun l => .v (.agg l) h) (.bad 19)) b) a
def ldB (x : B) : Nat → Program → H → TypeId → V → R := @B.rec (fun _ => Nat → Program → H → TypeId → V → R) (fun n d tr _ _ o P h t _ => ldC (tagg P t) n d tr o P h t) (fun _ _ P h t a => loadV P h t a) (fun _ _ _ P h t a => loadV P h t a) (fun _ _ _ _ _ _ _ _ _ _ P h t a => loadV P h t a) (fun _ P h t a => loadV P h t a) (fun _ P h t a => loadV P h t a) (fun _ _ _ _ _ P h t a => loadV P h t a) (fun _ _ _ _ P h t a => loadV P h t a) (fun n s _ _ o P h t _ => loadY P h t n s o) (fun _ _ P h t a => loadV P h t a) x
def ldO (x : Option B) : Nat → Program → H → TypeId → V → R := @Option.rec B (fun _ => Nat → Program → H → TypeId → V → R) (fun _ _ _ _ _ => .bad 21) (fun x o P h t a => ldB x o P h t a) x

def loadF (a : V) : Program → H → TypeId → R := @V.rec (fun _ => Program → H → TypeId → R) (fun _ => PUnit) (fun x1 x2 => fun _ _ _ => .bad 22) (fun x1 => fun _ _ _ => .bad 22) (fun x1 x2 => fun _ _ _ => .bad 22) (fun b o => fun P h t => ldO (hGet h b) o P h t (.ptr b o)) (fun x1 x2 x3 x4 x5 x6 => fun _ _ _ => .bad 22) (fun x1 x2 => fun _ _ _ => .bad 22) (fun x1 => fun _ _ _ => .bad 22) (fun x1 => fun _ _ _ => .bad 22) (fun x1 x2 x3 _ _ => fun _ _ _ => .bad 22) (fun x1 => fun _ _ _ => .bad 22) (fun x1 x2 _ => fun _ _ _ => .bad 22) (fun x1 x2 _ => fun _ _ _ => .bad 22) (fun x1 _ => fun _ _ _ => .bad 22) (fun x1 _ => fun _ _ _ => .bad 22) (fun _ _ _ => .bad 22) PUnit.unit (fun _ _ _ _ => PUnit.unit) a
theorem loadF_eq (P : Program) (h : H) (t : TypeId) (a : V) : loadF a P h t = loadB P h t a := by
  cases a <;> try rfl
  rename_i b o
  show ldO (hGet h b) o P h t (.ptr b o) = _
  cases hb : hGet h b with
  | none => simp [ldO, loadB, loadV, hb]
  | some x =>
    cases x <;> try (simp only [ldO, ldB, loadB, hb]; done)
    rename_i n d tr ty st
    show ldC (tagg P t) n d tr o P h t = _
    unfold loadB loadV
    simp only [hb]
    cases ht : tagg P t with
    | none => rfl
    | some q =>
      cases q with
      | false => simp only [ldC, condF_eq, rVF_eq]
      | true => simp only [ldC, condF_eq]

def cvK (P : Program) (s t : TypeId) : Option IntKind := match P.underlying s, P.underlying t with
  | some _, some (.int k) => some k
  | _, _ => none
def cvJ (q : Option IntKind) : IntKind → Int → Program → H → TypeId → TypeId → R := @Option.rec IntKind (fun _ => IntKind → Int → Program → H → TypeId → TypeId → R) (fun k z P h s t => conv P h s t (.int k z)) (fun k _ z _ h _ _ => rIntF (wrpF k z) k h) q

def convF (x : V) : Program → H → TypeId → TypeId → R := @V.rec (fun _ => Program → H → TypeId → TypeId → R) (fun _ => PUnit) (fun k z => fun P h s t => cvJ (cvK P s t) k z P h s t) (fun x1 => fun P h s t => convB P h s t (V.bool x1)) (fun x1 x2 => fun P h s t => convB P h s t (V.str x1 x2)) (fun x1 x2 => fun P h s t => convB P h s t (V.ptr x1 x2)) (fun x1 x2 x3 x4 x5 x6 => fun P h s t => convB P h s t (V.sl x1 x2 x3 x4 x5 x6)) (fun x1 x2 => fun P h s t => convB P h s t (V.es x1 x2)) (fun x1 => fun P h s t => convB P h s t (V.map x1)) (fun x1 => fun P h s t => convB P h s t (V.nil x1)) (fun x1 x2 x3 _ _ => fun P h s t => convB P h s t (V.fn x1 x2 x3)) (fun x1 => fun P h s t => convB P h s t (V.yld x1)) (fun x1 x2 _ => fun P h s t => convB P h s t (V.ifc x1 x2)) (fun x1 x2 _ => fun P h s t => convB P h s t (V.mth x1 x2)) (fun x1 _ => fun P h s t => convB P h s t (V.agg x1)) (fun x1 _ => fun P h s t => convB P h s t (V.tup x1)) (fun P h s t => convB P h s t V.und) PUnit.unit (fun _ _ _ _ => PUnit.unit) x
theorem convF_eq (P : Program) (h : H) (s t : TypeId) (x : V) : convF x P h s t = convB P h s t x := by
  cases x <;> try rfl
  rename_i k z
  show cvJ (cvK P s t) k z P h s t = _
  cases hq : cvK P s t with
  | none => rfl
  | some k' =>
    unfold cvK at hq
    split at hq <;> cases hq
    rename_i h1 h2
    simp only [cvJ, rIntF_eq, wrpF_eq, convB, conv, h1, h2]
def unI (op : UnOp) : IntKind → Int → H → R := @UnOp.rec (fun _ => IntKind → Int → H → R) (fun k n h => rIntF (wrpF k (Int.neg n)) k h) (fun k n h => un h .xor (.int k n)) (fun k n h => un h .not (.int k n)) (fun k n h => un h .plus (.int k n)) op
def unB (op : UnOp) : Bool → H → R := @UnOp.rec (fun _ => Bool → H → R) (fun b h => un h .neg (.bool b)) (fun b h => un h .xor (.bool b)) (fun b h => rBoolF (not b) h) (fun b h => un h .plus (.bool b)) op

def unF (x : V) : H → UnOp → R := @V.rec (fun _ => H → UnOp → R) (fun _ => PUnit) (fun k n => fun h op => unI op k n h) (fun b => fun h op => unB op b h) (fun x1 x2 => fun h op => un h op (V.str x1 x2)) (fun x1 x2 => fun h op => un h op (V.ptr x1 x2)) (fun x1 x2 x3 x4 x5 x6 => fun h op => un h op (V.sl x1 x2 x3 x4 x5 x6)) (fun x1 x2 => fun h op => un h op (V.es x1 x2)) (fun x1 => fun h op => un h op (V.map x1)) (fun x1 => fun h op => un h op (V.nil x1)) (fun x1 x2 x3 _ _ => fun h op => un h op (V.fn x1 x2 x3)) (fun x1 => fun h op => un h op (V.yld x1)) (fun x1 x2 _ => fun h op => un h op (V.ifc x1 x2)) (fun x1 x2 _ => fun h op => un h op (V.mth x1 x2)) (fun x1 _ => fun h op => un h op (V.agg x1)) (fun x1 _ => fun h op => un h op (V.tup x1)) (fun h op => un h op V.und) PUnit.unit (fun _ _ _ _ => PUnit.unit) x
theorem unF_eq (h : H) (op : UnOp) (x : V) : unF x h op = un h op x := by
  cases x <;> try rfl
  · cases op <;> first | rfl | simp only [unF, unI, un, rIntF_eq, wrpF_eq]
  · cases op <;> first | rfl | simp only [unF, unB, un, rBoolF_eq]
def faJ (q : Option (Nat × Nat × Bool)) : Nat → Nat → H → R := @Option.rec (Nat × Nat × Bool) (fun _ => Nat → Nat → H → R) (fun _ _ _ => .bad 48) (fun q b o h => condF (Nat.blt 0 q.2.1) (fN (Nat.add o q.1) fun o => .v (.ptr b o) h) (.bad 47)) q

def faF (x : V) : Program → H → TypeId → Nat → R := @V.rec (fun _ => Program → H → TypeId → Nat → R) (fun _ => PUnit) (fun x1 x2 => fun _ _ _ _ => .bad 49) (fun x1 => fun _ _ _ _ => .bad 49) (fun x1 x2 => fun _ _ _ _ => .bad 49) (fun b o => fun P h t i => faJ (tfld P t i) b o h) (fun x1 x2 x3 x4 x5 x6 => fun _ _ _ _ => .bad 49) (fun x1 x2 => fun _ _ _ _ => .bad 49) (fun x1 => fun _ _ _ _ => .bad 49) (fun x1 => fun _ _ _ _ => .bad 49) (fun x1 x2 x3 _ _ => fun _ _ _ _ => .bad 49) (fun x1 => fun _ _ _ _ => .bad 49) (fun x1 x2 _ => fun _ _ _ _ => .bad 49) (fun x1 x2 _ => fun _ _ _ _ => .bad 49) (fun x1 _ => fun _ _ _ _ => .bad 49) (fun x1 _ => fun _ _ _ _ => .bad 49) (fun _ _ _ _ => .bad 49) PUnit.unit (fun _ _ _ _ => PUnit.unit) x
theorem faF_eq (P : Program) (h : H) (t i : Nat) (x : V) : faF x P h t i = fldAddr P h t x i := by
  cases x <;> try rfl
  rename_i b o
  show faJ (tfld P t i) b o h = _
  simp only [fldAddr]
  cases tfld P t i with
  | none => rfl
  | some q => obtain ⟨a, b, c⟩ := q; simp only [faJ, condF_eq]
def slE (P : Program) (t : TypeId) : Option Nat := match P.underlying t with
  | some (.slice e) => some (tsz P e)
  | _ => none
def ixJ (q : Option Nat) : Nat → Nat → Nat → Nat → Nat → H → R := @Option.rec Nat (fun _ => Nat → Nat → Nat → Nat → Nat → H → R) (fun _ _ _ _ _ _ => .bad 57) (fun sz b o len es i h => condF (and (Nat.blt i len) (and (Nat.blt 0 es) (Nat.beq es sz))) (fN (Nat.add o (Nat.mul i es)) fun o => .v (.ptr b o) h) (.bad 56)) q
def ixN (z : Int) : IntKind → Nat → Nat → Nat → Nat → Nat → Bool → Program → H → TypeId → R := @Int.rec (fun _ => IntKind → Nat → Nat → Nat → Nat → Nat → Bool → Program → H → TypeId → R) (fun i _ b o len _ es _ P h t => ixJ (slE P t) b o len es i h) (fun _ _ _ _ _ _ _ _ _ _ _ => .bad 59) z

def ixI (x : V) : IntKind → Int → Program → H → TypeId → R := @V.rec (fun _ => IntKind → Int → Program → H → TypeId → R) (fun _ => PUnit) (fun x1 x2 => fun k z P h t => ixAddr P h t (V.int x1 x2) (.int k z)) (fun x1 => fun k z P h t => ixAddr P h t (V.bool x1) (.int k z)) (fun x1 x2 => fun k z P h t => ixAddr P h t (V.str x1 x2) (.int k z)) (fun x1 x2 => fun k z P h t => ixAddr P h t (V.ptr x1 x2) (.int k z)) (fun b o len kc es op => fun k z P h t => ixN z k b o len kc es op P h t) (fun x1 x2 => fun k z P h t => ixAddr P h t (V.es x1 x2) (.int k z)) (fun x1 => fun k z P h t => ixAddr P h t (V.map x1) (.int k z)) (fun x1 => fun k z P h t => ixAddr P h t (V.nil x1) (.int k z)) (fun x1 x2 x3 _ _ => fun k z P h t => ixAddr P h t (V.fn x1 x2 x3) (.int k z)) (fun x1 => fun k z P h t => ixAddr P h t (V.yld x1) (.int k z)) (fun x1 x2 _ => fun k z P h t => ixAddr P h t (V.ifc x1 x2) (.int k z)) (fun x1 x2 _ => fun k z P h t => ixAddr P h t (V.mth x1 x2) (.int k z)) (fun x1 _ => fun k z P h t => ixAddr P h t (V.agg x1) (.int k z)) (fun x1 _ => fun k z P h t => ixAddr P h t (V.tup x1) (.int k z)) (fun k z P h t => ixAddr P h t V.und (.int k z)) PUnit.unit (fun _ _ _ _ => PUnit.unit) x
def ixF (i : V) : V → Program → H → TypeId → R := @V.rec (fun _ => V → Program → H → TypeId → R) (fun _ => PUnit) (fun k z => fun x P h t => ixI x k z P h t) (fun x1 => fun _ _ _ _ => .bad 60) (fun x1 x2 => fun _ _ _ _ => .bad 60) (fun x1 x2 => fun _ _ _ _ => .bad 60) (fun x1 x2 x3 x4 x5 x6 => fun _ _ _ _ => .bad 60) (fun x1 x2 => fun _ _ _ _ => .bad 60) (fun x1 => fun _ _ _ _ => .bad 60) (fun x1 => fun _ _ _ _ => .bad 60) (fun x1 x2 x3 _ _ => fun _ _ _ _ => .bad 60) (fun x1 => fun _ _ _ _ => .bad 60) (fun x1 x2 _ => fun _ _ _ _ => .bad 60) (fun x1 x2 _ => fun _ _ _ _ => .bad 60) (fun x1 _ => fun _ _ _ _ => .bad 60) (fun x1 _ => fun _ _ _ _ => .bad 60) (fun _ _ _ _ => .bad 60) PUnit.unit (fun _ _ _ _ => PUnit.unit) i
theorem ixF_eq (P : Program) (h : H) (t : TypeId) (x i : V) : ixF i x P h t = ixAddr P h t x i := by
  cases i <;> try rfl
  rename_i k z
  cases x <;> try rfl
  rename_i b o len kc es op
  cases z with
  | negSucc n => rfl
  | ofNat i =>
    show ixJ (slE P t) b o len es i h = _
    simp only [ixAddr, nat?, slE]
    cases P.underlying t with
    | none => rfl
    | some td => cases td <;> first | rfl | simp only [ixJ, condF_eq]

def stC (b0 : Bool) : V → Nat → (n d : Nat) → Tr V d → TypeId → Bool → Nat → H → R := @Bool.rec (fun _ => V → Nat → (n d : Nat) → Tr V d → TypeId → Bool → Nat → H → R) (fun _ _ _ _ _ _ _ _ _ => .bad 23) (fun v b n d tr ty st o h => trSet d o tr v fun tr => hSet h b (some (.cells n d tr ty st)) fun h => .eff h) b0
def stB (x : B) : V → Nat → Nat → Program → H → TypeId → R := @B.rec (fun _ => V → Nat → Nat → Program → H → TypeId → R) (fun n d tr ty st v b o P h t => stC (and (Nat.beq 1 (tsz P t)) (Nat.ble (Nat.add o 1) n)) v b n d tr ty st o h) (fun _ v b o P h t => storeV P h t (.ptr b o) v) (fun _ _ v b o P h t => storeV P h t (.ptr b o) v) (fun _ _ _ _ _ _ _ _ _ v b o P h t => storeV P h t (.ptr b o) v) (fun v b o P h t => storeV P h t (.ptr b o) v) (fun v b o P h t => storeV P h t (.ptr b o) v) (fun _ _ _ _ v b o P h t => storeV P h t (.ptr b o) v) (fun _ _ _ v b o P h t => storeV P h t (.ptr b o) v) (fun n s ty st v b o P h t => storeY P h t b o n s ty st v) (fun _ v b o P h t => storeV P h t (.ptr b o) v) x
def stO (x : Option B) : V → Nat → Nat → Program → H → TypeId → R := @Option.rec B (fun _ => V → Nat → Nat → Program → H → TypeId → R) (fun _ _ _ _ _ _ => .bad 24) (fun x v b o P h t => stB x v b o P h t) x

def stV (v : V) : Nat → Nat → Program → H → TypeId → R := @V.rec (fun _ => Nat → Nat → Program → H → TypeId → R) (fun _ => PUnit) (fun x1 x2 => fun b o P h t => stO (hGet h b) (V.int x1 x2) b o P h t) (fun x1 => fun b o P h t => stO (hGet h b) (V.bool x1) b o P h t) (fun x1 x2 => fun b o P h t => stO (hGet h b) (V.str x1 x2) b o P h t) (fun x1 x2 => fun b o P h t => stO (hGet h b) (V.ptr x1 x2) b o P h t) (fun x1 x2 x3 x4 x5 x6 => fun b o P h t => stO (hGet h b) (V.sl x1 x2 x3 x4 x5 x6) b o P h t) (fun x1 x2 => fun b o P h t => stO (hGet h b) (V.es x1 x2) b o P h t) (fun x1 => fun b o P h t => stO (hGet h b) (V.map x1) b o P h t) (fun x1 => fun b o P h t => stO (hGet h b) (V.nil x1) b o P h t) (fun x1 x2 x3 _ _ => fun b o P h t => stO (hGet h b) (V.fn x1 x2 x3) b o P h t) (fun x1 => fun b o P h t => stO (hGet h b) (V.yld x1) b o P h t) (fun x1 x2 _ => fun b o P h t => stO (hGet h b) (V.ifc x1 x2) b o P h t) (fun x1 x2 _ => fun b o P h t => stO (hGet h b) (V.mth x1 x2) b o P h t) (fun x1 _ => fun b o P h t => storeB P h t (.ptr b o) (V.agg x1)) (fun x1 _ => fun b o P h t => storeB P h t (.ptr b o) (V.tup x1)) (fun b o P h t => storeB P h t (.ptr b o) V.und) PUnit.unit (fun _ _ _ _ => PUnit.unit) v
def stF (a : V) : V → Program → H → TypeId → R := @V.rec (fun _ => V → Program → H → TypeId → R) (fun _ => PUnit) (fun x1 x2 => fun _ _ _ _ => .bad 25) (fun x1 => fun _ _ _ _ => .bad 25) (fun x1 x2 => fun _ _ _ _ => .bad 25) (fun b o => fun v P h t => stV v b o P h t) (fun x1 x2 x3 x4 x5 x6 => fun _ _ _ _ => .bad 25) (fun x1 x2 => fun _ _ _ _ => .bad 25) (fun x1 => fun _ _ _ _ => .bad 25) (fun x1 => fun _ _ _ _ => .bad 25) (fun x1 x2 x3 _ _ => fun _ _ _ _ => .bad 25) (fun x1 => fun _ _ _ _ => .bad 25) (fun x1 x2 _ => fun _ _ _ _ => .bad 25) (fun x1 x2 _ => fun _ _ _ _ => .bad 25) (fun x1 _ => fun _ _ _ _ => .bad 25) (fun x1 _ => fun _ _ _ _ => .bad 25) (fun _ _ _ _ => .bad 25) PUnit.unit (fun _ _ _ _ => PUnit.unit) a
theorem stO_eq (P : Program) (h : H) (t : TypeId) (v : V) (b o : Nat) (h1 : cellsOf v = [v]) (h2 : one v = true) : stO (hGet h b) v b o P h t = storeB P h t (.ptr b o) v := by
  cases hb : hGet h b with
  | none => simp [stO, storeB, storeV, hb]
  | some x =>
    cases x with
    | cells n d tr ty st =>
      show stC (and (Nat.beq 1 (tsz P t)) (Nat.ble (Nat.add o 1) n)) v b n d tr ty st o h = _
      have e1 : ones [v] = true := by show (one v && true) = true; simp [h2]
      have e2 : (and (Nat.blt 0 (tsz P t)) (and (and (Nat.beq [v].length (tsz P t)) (ones [v])) (Nat.ble (Nat.add o [v].length) n))) = (and (Nat.beq 1 (tsz P t)) (Nat.ble (Nat.add o 1) n)) := by
        rw [e1]
        simp only [List.length_singleton]
        cases hq : Nat.beq 1 (tsz P t) with
        | false => simp
        | true =>
          have := Nat.eq_of_beq_eq_true hq
          rw [← this]; rfl
      simp only [storeB, storeV, hb, fL_eq, h1]
      rw [e2]
      cases (and (Nat.beq 1 (tsz P t)) (Nat.ble (Nat.add o 1) n)) with
      | false => rfl
      | true =>
        show trSet d o tr v _ = wrK [v] d tr o _
        show _ = trSet d o tr v fun t => fN (Nat.succ o) fun o => _
        rw [trSet_eq, trSet_eq, fN_eq]
    | _ => simp only [stO, stB, storeB, hb]
theorem stF_eq (P : Program) (h : H) (t : TypeId) (a v : V) : stF a v P h t = storeB P h t a v := by
  cases a <;> try rfl
  cases v <;> first | rfl | exact stO_eq _ _ _ _ _ _ rfl rfl

def evOpF (o : Op) : Program → (Operand → V) → H → R := @Op.rec (fun _ => Program → (Operand → V) → H → R)
  (fun x P ρ h => rVF (ρ x) h 143)
  (fun x P ρ h => rVF (ρ x) h 143)
  (fun c a b P ρ h => evOp P ρ (.pick c a b) h)
  (fun e P ρ h => evOp P ρ (.alloc e) h)
  (fun e v P ρ h => evOp P ρ (.box e v) h)
  (fun t ps P ρ h => evOp P ρ (.build t ps) h)
  (fun t l ps P ρ h => evOp P ρ (.buildSlice t l ps) h)
  (fun t m k v P ρ h => evOp P ρ (.insert t m k v) h)
  (fun t a P ρ h => loadF (ρ a) P h t)
  (fun t a x P ρ h => stF (ρ a) (ρ x) P h t)
  (fun g P ρ h => evOp P ρ (.ready g) h)
  (fun g P ρ h => evOp P ρ (.waits g) h)
  (fun x P ρ h => evOp P ρ (.nilCheck x) h)
  (fun op t x y yt P ρ h => binF (ρ x) (ρ y) P h op t)
  (fun op t x P ρ h => unF (ρ x) h op)
  (fun s t x P ρ h => convF (ρ x) P h s t)
  (fun t x P ρ h => evOp P ρ (.sliceToArrayPointer t x) h)
  (fun t x P ρ h => evOp P ρ (.makeInterface t x) h)
  (fun f a b P ρ h => evOp P ρ (.makeFunc f a b) h)
  (fun t r P ρ h => evOp P ρ (.makeMap t r) h)
  (fun t s P ρ h => evOp P ρ (.makeChan t s) h)
  (fun t l c P ρ h => evOp P ρ (.makeSlice t l c) h)
  (fun t x lo hi mx P ρ h => evOp P ρ (.slice t x lo hi mx) h)
  (fun t x i P ρ h => faF (ρ x) P h t i)
  (fun t x i P ρ h => fldV P h t (ρ x) i)
  (fun t x i P ρ h => ixF (ρ i) (ρ x) P h t)
  (fun t x i P ρ h => ixV P h t (ρ x) (ρ i))
  (fun t x k ok P ρ h => evOp P ρ (.lookup t x k ok) h)
  (fun t m k v P ρ h => evOp P ρ (.mapUpdate t m k v) h)
  (fun t m k P ρ h => evOp P ρ (.mapEntry t m k) h)
  (fun t m s v P ρ h => evOp P ρ (.entryStore t m s v) h)
  (fun t x P ρ h => evOp P ρ (.range t x) h)
  (fun i s P ρ h => evOp P ρ (.next i s) h)
  (fun i P ρ h => evOp P ρ (.entry i) h)
  (fun x t a ok P ρ h => evOp P ρ (.typeAssert x t a ok) h)
  (fun t i P ρ h => evOp P ρ (.extract t i) h)
  (fun c P ρ h => evCall P ρ c h)
  (fun c P ρ h => evOp P ρ (.go c) h)
  (fun c P ρ h => evOp P ρ (.defer c) h)
  (fun x P ρ h => evOp P ρ (.panic x) h)
  (fun c x P ρ h => evOp P ρ (.send c x) h)
  (fun t c ok P ρ h => evOp P ρ (.recv t c ok) h)
  (fun cs b P ρ h => evOp P ρ (.select cs b) h) o
theorem evOpF_eq (P : Program) (ρ : Operand → V) (o : Op) (h : H) : evOpF o P ρ h = evOp P ρ o h := by
  cases o <;> first | rfl | exact rVF_eq .. | exact loadF_eq .. | exact binF_eq .. | exact stF_eq .. | exact unF_eq .. | exact convF_eq .. | exact faF_eq .. | exact ixF_eq ..
end
end Go.Proofs.Ytkhkebcflaokpaa
namespace Go.Proofs.Ytkhkebcflaokpaa
open Go Go.RowKit
set_option linter.all false
noncomputable section

/-! ### Functions -/
inductive Res where
  | ok (v : V) (h : H)
  | bad (n : Nat) (at' : Nat)
/-- A function of the program that returns, or one without a body that answers at once. -/
def Dn (P : Program) (f : FuncId) (us : List Value) (w : World) (Q : Value → World → Prop) : Prop := (CF P f ∧ Ret P f us w Q) ∨ ∃ u w', (callFunc f us.toArray).run P w = .ok (.value u) w' ∧ Q u w'
/-- Functions that are not walked, but known: what they answer, and that they do. -/
structure Hook (P : Program) (G : Nat) where
  fn : FuncId → Option (List V → H → Option Res)
  ok : ∀ f g, fn f = some g → ∀ args h v h', g args h = some (.ok v h') → ∀ φ w us, Rel G φ h w → CVs φ args us → Dn P f us w fun u w' => ∃ φ', Post G φ h w φ' h' w' ∧ CV φ' v u
  /-- Deferred functions that are known, while the frame below returns. -/
  dfn : FuncId → Option (List V → H → Res)
  dok : ∀ f g, dfn f = some g → ∀ args h v h', g args h = .ok v h' → ∀ φ w us, Rel G φ h w → CVs φ args us → CF P f ∧ RetD P f us w fun u w' => ∃ φ', Post G φ h w φ' h' w' ∧ CV φ' v u
/-- None. -/
def Hook.none (P : Program) (G : Nat) : Hook P G := ⟨fun _ => Option.none, fun _ _ h => (by cases h), fun _ => Option.none, fun _ _ h => (by cases h)⟩
structure Fr where
  f : FuncId
  d : Nat
  n : Nat
  res : List ResultVar
  rd : Option Nat
  dk : Bool
/-- What has been deferred. -/
inductive DV where
  | mk (m : Nat)
  | call (f : Nat) (cap args : List V)
def opV (G d : Nat) (E : Tr V d) (x : Operand) : V := match x with
  | .tmp i => vGet d i E
  | .const v => ofV v
  | .global g => cond (Nat.blt g G) (.ptr g 0) .und
  | .func f => .fn f [] []
/-- Is the operation to be carried out? -/
def wants (d : Nat) (E : Tr V d) (ops : List Oper) (g : Option (Nat × Bool)) : Option Bool := match g with
  | none => some true
  | some (j, b) => match ops[j]? with
    | some o => match o.dst with
      | some i => match vGet d i E with
        | .bool c => some (beqB b c)
        | .tup _ => some false
        | _ => none
      | none => none
    | none => none
def dstV {β : Type} (d : Nat) (E : Tr V d) (dst : Option Nat) (v : V) (c : Tr V d → β) : β := match dst with
  | none => c E
  | some i => trSet d i E v c
def fnOf (P : Program) (f : FuncId) : Option Func := P.funcs[f]?
def bodyOf (P : Program) (f : FuncId) : Option (Code × Nat × Nat × List ResultVar) := match P.funcs[f]? with
  | some fn => match fn.body with
    | some c => cond (fn.name == "runtime.NumGoroutine") none (some (c, fn.ntmps, lvls fn.ntmps, fn.results.toList))
    | none => none
  | none => none
/-- What a function has for its results. -/
def resV (P : Program) (d : Nat) (E : Tr V d) (h : H) : List ResultVar → Option (List V)
  | [] => some []
  | r :: l => match resV P d E h l with
    | none => none
    | some vs => match r with
      | .tmp t => match vGet d t E with
        | .und => none
        | v => some (v :: vs)
      | .cell a t => match loadV P h t (vGet d a E) with
        | .v v _ => some (v :: vs)
        | _ => none
def resOne : List V → V
  | [v] => v
  | l => .tup l
abbrev RunT := List Oper → List Oper → List Item → (fr : Fr) → Tr V fr.d → List DV → H → Res
/-- A deferred function is entered. -/
def enterD0 (P : Program) (ih : RunT) (f : FuncId) (args : List V) (h : H) : Res := match bodyOf P f with
  | some (c, n, d, res) => cond (Nat.ble args.length n) (wrK args d (trNew .und d) 0 fun E => ih [] [] [.code c] ⟨f, d, n, res, none, true⟩ E [] h) (.bad 240 f)
  | none => .bad 241 f
def enterD (P : Program) (G : Nat) (X : Hook P G) (ih : RunT) (f : FuncId) (args : List V) (h : H) : Res := match X.dfn f with
  | some g => g args h
  | none => enterD0 P ih f args h
/-- What was deferred is done. -/
def leaveAll (P : Program) (G : Nat) (X : Hook P G) (ih : RunT) (ms : List DV) (h : H) (c : H → Res) : Res := List.rec (motive := fun _ => H → Res) (fun h => c h) (fun m _ go h => match m with
  | .mk m => match hGet h m with
    | some .dfr => hSet h m (some .shut) go
    | _ => .bad 201 0
  | .call f cap args => fL (args ++ cap) fun l => match enterD P G X ih f l h with
    | .ok _ h => go h
    | .bad n a => .bad n a) ms h
def retF (P : Program) (G : Nat) (X : Hook P G) (ih : RunT) (fr : Fr) (E : Tr V fr.d) (ms : List DV) (h : H) : Res := cond (and fr.dk (not ms.isEmpty)) (.bad 242 fr.f) (leaveAll P G X ih ms h (fun h => match resV P fr.d E h fr.res with
  | some l => fL l fun l => .ok (resOne l) h
  | none => .bad 200 fr.f))
/-- A function is entered. -/
def enterN (P : Program) (ih : RunT) (f : FuncId) (args : List V) (h : H) : Res := match bodyOf P f with
  | some (c, n, d, res) => cond (Nat.ble args.length n) (wrK args d (trNew .und d) 0 fun E => ih [] [] [.code c] ⟨f, d, n, res, none, false⟩ E [] h) (.bad 202 f)
  | none => .bad 203 f
def enterF (P : Program) (G : Nat) (X : Hook P G) (ih : RunT) (f : FuncId) (args : List V) (h : H) : Res := match X.fn f with
  | some g => match g args h with
    | some r => r
    | none => enterN P ih f args h
  | none => enterN P ih f args h
/-- A round of a loop over a function ends. -/
def endRound (fr : Fr) (l : Nat) (jump : Option Code) (h : H) : Res := match hGet h l with
  | some (.loop st pend f ed E n ps a b) => hSet h l (some (.loop (match jump with | none => .ready | some _ => .done) jump f ed E n ps a b)) fun h => .ok (.bool jump.isNone) h
  | _ => .bad 204 fr.f
def bindV {β : Type} (d : Nat) (E : Tr V d) (ps : List Tmp) (args : List V) (c : Tr V d → β) (no : β) : β := match ps, args with
  | p :: ps, v :: vs => trSet d p E v fun E => bindV d E ps vs c no
  | [], [] => c E
  | _, _ => no
def roundF (P : Program) (ih : RunT) (l : Nat) (args : List V) (h : H) : Res := match hGet h l with
  | some (.loop .ready _ f ed E n ps a b) => cond (ps.all (Nat.blt · n)) (bindV ed E ps args (fun E => ih [] [] [.code a, .beginRound, .code b] ⟨f, ed, n, [], some l, false⟩ E [] h) (.bad 205 f)) (.bad 220 f)
  | _ => .bad 206 l
def stepOp (P : Program) (G : Nat) (X : Hook P G) (ih : RunT) (ops : List Oper) (o : Oper) (rest : List Oper) (k : List Item) (fr : Fr) (E : Tr V fr.d) (ms : List DV) (h : H) : Res :=
  match wants fr.d E ops o.guard with
  | some true => match evOp P (opV G fr.d E) o.op h with
    | .v x h => dstV fr.d E o.dst x fun E => ih ops rest k fr E ms h
    | .eff h => match o.dst with
      | none => ih ops rest k fr E ms h
      | some _ => .bad 219 fr.f
    | .call f args => match enterF P G X ih f args h with
      | .ok x h => dstV fr.d E o.dst x fun E => ih ops rest k fr E ms h
      | .bad n a => .bad n a
    | .yld l args => match roundF P ih l args h with
      | .ok x h => dstV fr.d E o.dst x fun E => ih ops rest k fr E ms h
      | .bad n a => .bad n a
    | .dfr f cap args => match o.dst, fr.rd with
      | none, none => ih ops rest k fr E (.call f cap args :: ms) h
      | _, _ => .bad 245 fr.f
    | .bad n => .bad n fr.f
  | some false => dstV fr.d E o.dst (.tup []) fun E => ih ops rest k fr E ms h
  | none => .bad 207 fr.f
def leave (P : Program) (G : Nat) (X : Hook P G) (ih : RunT) (jump : Option Code) (fr : Fr) (E : Tr V fr.d) (ms : List DV) (h : H) : Res := match fr.rd with
  | some l => endRound fr l jump h
  | none => match jump with
    | none | some .ret => retF P G X ih fr E ms h
    | _ => .bad 208 fr.f
/-- A loop over a function. -/
def rangeF (P : Program) (G : Nat) (X : Hook P G) (ih : RunT) (fv : Operand) (ps : List Tmp) (a b : Code) (k : List Item) (fr : Fr) (E : Tr V fr.d) (ms : List DV) (h : H) : Res := match opV G fr.d E fv with
  | .fn f p q => hNew h (.loop .ready none fr.f fr.d E fr.n ps a b) fun l h => fL (p ++ [.yld l] ++ q) fun args => match enterN P ih f args h with
    | .ok _ h => match hGet h l with
      | some (.loop .busy _ _ _ _ _ _ _ _) => .bad 211 fr.f
      | some (.loop _ pend _ _ _ _ _ _ _) => hSet h l none fun h => ih [] [] ((pend.map Item.code).toList ++ k) fr E ms h
      | _ => .bad 211 fr.f
    | .bad n a => .bad n a
  | _ => .bad 212 fr.f
/-! ### Regions that draw their order -/
def ancOf (acc : List Nat) (l : List Edge) : Nat := List.rec (motive := fun _ => Nat) 0 (fun e _ s => cond (Region.binds .any e) (Nat.lor s (Nat.lor (Nat.pow 2 e.on) (acc.getD e.on 0))) s) l
def ancs (ops : List Oper) : List Nat → List Nat := List.rec (motive := fun _ => List Nat → List Nat) (fun acc => acc) (fun o _ ih acc => ih (acc ++ [ancOf acc o.after.toList])) ops
/-- What has to be done ahead of operation j: a set of bits. -/
def anc (ops : List Oper) (j : Nat) : Nat := (ancs ops []).getD j 0
def opAt (ops : List Oper) (j : Nat) : Option Oper := ops[j]?
def isRd (P : Program) (ops : List Oper) (j : Nat) : Bool := match ops[j]? with | some o => rdOp P o.op | none => false
def isAlAt (ops : List Oper) (j : Nat) : Bool := match ops[j]? with | some o => isAl o.op | none => false
/-- Operations that act: they are carried out in one order. -/
def isE (P : Program) (ops : List Oper) (j : Nat) : Bool := and (not (isRd P ops j)) (not (isAlAt ops j))
def es (P : Program) (ops : List Oper) : List Nat := (List.range ops.length).filter (isE P ops)
def frees (P : Program) (ops : List Oper) : List Nat := (List.range ops.length).filter fun j => and (not (isRd P ops j)) (not (isE P ops j))
def rk (P : Program) (ops : List Oper) (j : Nat) : Nat := (frees P ops).findIdx fun i => Nat.beq i j
def nFree (P : Program) (ops : List Oper) : Nat := (frees P ops).length
/-- Up to so many acting operations the operation j may come; behind so many it comes at least. -/
def cMax (P : Program) (ops : List Oper) (j : Nat) : Nat := (es P ops).findIdx fun e => (anc ops e).testBit j
def cMinL (m : Nat) (l : List Nat) : Nat → Nat → Nat := List.rec (motive := fun _ => Nat → Nat → Nat) (fun _ r => r) (fun e _ ih i r => ih (i + 1) (cond (m.testBit e) (i + 1) r)) l
def cMin (P : Program) (ops : List Oper) (j : Nat) : Nat := cMinL (anc ops j) (es P ops) 0 0
def chained (ops : List Oper) : List Nat → Bool
  | a :: b :: l => and ((anc ops b).testBit a) (chained ops (b :: l))
  | _ => true
def tmpsOf (l : List Operand) : List Nat := l.filterMap fun | .tmp t => some t | _ => none
def readsOf (ops : List Oper) (o : Oper) : List Nat := tmpsOf o.op.operands.toList ++ (match o.guard with
  | some (i, _) => (match ops[i]? with | some g => g.dst.toList | none => [])
  | none => [])
def slotsOk (ops : List Oper) : Bool := (List.range ops.length).all fun j => match ops[j]? with
  | some o => (readsOf ops o).all fun t => (List.range ops.length).all fun i => match ops[i]? with
    | some q => match q.dst with
      | some s => cond (Nat.beq s t) (or ((anc ops j).testBit i) (or (Nat.beq i j) ((anc ops i).testBit j))) true
      | none => true
    | none => true
  | none => true
def dstsOf (ops : List Oper) : List Nat := ops.filterMap (·.dst)
def nodupB : List Nat → Bool
  | [] => true
  | a :: l => and (l.all fun b => not (Nat.beq a b)) (nodupB l)
def backOk (ops : List Oper) : Bool := (List.range ops.length).all fun j => Nat.blt (anc ops j) (Nat.pow 2 j)
def stOk (P : Program) (n : Nat) (ops : List Oper) : Bool := and (and (dstsOk n ops) (calm ops)) (and (and (nodupB (dstsOf ops)) (backOk ops)) (and (chained ops (es P ops)) (slotsOk ops)))
/-- Blocks are laid into the memory. -/
def addAll {β : Type} (P : Program) (ops : List Oper) (b0 : Nat) (al : List (Nat × B)) (h : H) (c : H → β) : β := List.rec (motive := fun _ => H → β) (fun h => c h) (fun p _ ih h => hSet h (Nat.add b0 (rk P ops p.1)) (some p.2) ih) al h
def vEqs (f : V → V → Bool) (l : List V) : List V → Bool := List.rec (motive := fun _ => List V → Bool) (fun m => m.isEmpty) (fun a _ ih m => match m with | [] => false | b :: m => and (f a b) (ih m)) l
def nkEq : NK → NK → Bool
  | .ptr, .ptr | .sl, .sl | .map, .map | .fn, .fn | .ifc, .ifc => true
  | _, _ => false
def vEq (n : Nat) : V → V → Bool := Nat.rec (motive := fun _ => V → V → Bool) (fun _ _ => false) (fun _ ih a b => match a, b with
  | .int k a, .int k' b => and (keq k k') (ieq a b)
  | .bool a, .bool b => beqB a b
  | .str n s, .str m t => and (Nat.beq n m) (Nat.beq s t)
  | .ptr b o, .ptr b' o' => and (Nat.beq b b') (Nat.beq o o')
  | .sl b o l k e p, .sl b' o' l' k' e' p' => and (and (and (Nat.beq b b') (Nat.beq o o')) (and (Nat.beq l l') (Nat.beq k k'))) (and (Nat.beq e e') (beqB p p'))
  | .es b e, .es b' e' => and (Nat.beq b b') (Nat.beq e e')
  | .map b, .map b' => Nat.beq b b'
  | .nil k, .nil k' => nkEq k k'
  | .fn f p q, .fn f' p' q' => and (Nat.beq f f') (and (vEqs ih p p') (vEqs ih q q'))
  | .yld l, .yld l' => Nat.beq l l'
  | .ifc t v, .ifc t' v' => and (Nat.beq t t') (ih v v')
  | .mth a x, .mth b y => and (a == b) (ih x y)
  | .agg l, .agg m => vEqs ih l m
  | .tup l, .tup m => vEqs ih l m
  | _, _ => false) n
abbrev DrawT (fr : Fr) := Tr V fr.d → H → List H → List (Nat × B) → List (Tr V fr.d) → Res
/-- The blocks that come into the memory with the acting operation of number c; those that come later. -/
def joinB (P : Program) (ops : List Oper) (c : Nat) (p : Nat × B) : Bool := Nat.beq (cMax P ops p.1) c
def lateB (P : Program) (ops : List Oper) (c : Nat) (p : Nat × B) : Bool := Nat.ble c (cMax P ops p.1)
/-- The region in the order of the text; the memory behind each acting operation is kept. -/
def drawGo (P : Program) (G : Nat) (X : Hook P G) (ih : RunT) (ops : List Oper) (b0 : Nat) (fr : Fr) (cont : DrawT fr) (l : List Oper) : Nat → Tr V fr.d → H → H → List H → List (Nat × B) → List (Tr V fr.d) → Res :=
  List.rec (motive := fun _ => Nat → Tr V fr.d → H → H → List H → List (Nat × B) → List (Tr V fr.d) → Res) (fun _ E cur _ hs al Es => cont E cur hs al Es) (fun o _ go j E0 cur ful hs al Es =>
    match wants fr.d E0 ops o.guard with
    | some true => match isRd P ops j with
      | true => match evOp P (opV G fr.d E0) o.op ful with
        | .v x _ => dstV fr.d E0 o.dst x fun E => go (Nat.succ j) E cur ful hs al (E0 :: Es)
        | .bad n => .bad n fr.f
        | _ => .bad 222 fr.f
      | false => match isE P ops j with
        | false => match alOp P (opV G fr.d E0) o.op with
          | some (x, mk) => dstV fr.d E0 o.dst (mk (Nat.add b0 (rk P ops j))) fun E => hSet ful (Nat.add b0 (rk P ops j)) (some x) fun ful => go (Nat.succ j) E cur ful hs ((j, x) :: al) (E0 :: Es)
          | none => .bad 223 fr.f
        | true => addAll P ops b0 (al.filter (joinB P ops (List.length hs))) cur fun cur => match evOp P (opV G fr.d E0) o.op cur with
          | .v x h => dstV fr.d E0 o.dst x fun E => addAll P ops b0 (al.filter (lateB P ops (Nat.succ (List.length hs)))) h fun ful => go (Nat.succ j) E h ful (h :: hs) al (E0 :: Es)
          | .eff h => match o.dst with
            | none => addAll P ops b0 (al.filter (lateB P ops (Nat.succ (List.length hs)))) h fun ful => go (Nat.succ j) E0 h ful (h :: hs) al (E0 :: Es)
            | some _ => .bad 219 fr.f
          | .call f args => match enterF P G X ih f args cur with
            | .ok x h => dstV fr.d E0 o.dst x fun E => addAll P ops b0 (al.filter (lateB P ops (Nat.succ (List.length hs)))) h fun ful => go (Nat.succ j) E h ful (h :: hs) al (E0 :: Es)
            | .bad n a => .bad n a
          | .yld l args => match roundF P ih l args cur with
            | .ok x h => dstV fr.d E0 o.dst x fun E => addAll P ops b0 (al.filter (lateB P ops (Nat.succ (List.length hs)))) h fun ful => go (Nat.succ j) E h ful (h :: hs) al (E0 :: Es)
            | .bad n a => .bad n a
          | .dfr _ _ _ => .bad 243 fr.f
          | .bad n => .bad n fr.f
    | some false => dstV fr.d E0 o.dst (.tup []) fun E => match isE P ops j with
      | true => addAll P ops b0 (al.filter (joinB P ops (List.length hs))) cur fun cur => go (Nat.succ j) E cur ful (cur :: hs) al (E0 :: Es)
      | false => go (Nat.succ j) E cur ful hs al (E0 :: Es)
    | none => .bad 207 fr.f) l
/-- Does operation j read the same behind each number of acting operations at which it may come? -/
def readOk (P : Program) (G : Nat) (ops : List Oper) (b0 : Nat) (d : Nat) (E Ej : Tr V d) (hh : List H) (al : List (Nat × B)) (j : Nat) (o : Oper) (c : Nat) : Bool := match hh[c]? with
  | some h => addAll P ops b0 (al.filter fun p => and ((anc ops j).testBit p.1) (lateB P ops c p)) h fun h => match evOp P (opV G d Ej) o.op h with
    | .v x _ => match o.dst with
      | some t => vEq 20 x (vGet d t E)
      | none => true
    | _ => false
  | none => false
def readsOk (P : Program) (G : Nat) (ops : List Oper) (b0 : Nat) (d : Nat) (E : Tr V d) (hh : List H) (al : List (Nat × B)) (Es : List (Tr V d)) : Bool := (List.range ops.length).all fun j => match ops[j]? with
  | some o => cond (isRd P ops j) (match Es[j]? with
    | some Ej => (match wants d Ej ops o.guard with
      | some true => (List.range' (cMin P ops j) (Nat.sub (Nat.succ (cMax P ops j)) (cMin P ops j))).all (readOk P G ops b0 d E Ej hh al j o)
      | _ => true)
    | none => false) true
  | none => true
/-- A region that draws its order. -/
def drawn (P : Program) (G : Nat) (X : Hook P G) (ih : RunT) (ops : List Oper) (k : List Item) (fr : Fr) (E : Tr V fr.d) (ms : List DV) (h : H) : Res :=
  cond (and (P.follows .mixedOrders) (stOk P fr.n ops)) (fN (Nat.add h.next (nFree P ops)) fun nx =>
    drawGo P G X ih ops h.next fr (fun E cur hs al Es => cond (readsOk P G ops h.next fr.d E ((⟨h.t, nx⟩ : H) :: hs.reverse) al Es.reverse) (addAll P ops h.next (al.filter (lateB P ops (List.length hs))) cur fun hF => ih [] [] k fr E ms hF) (.bad 224 fr.f)) ops 0 E ⟨h.t, nx⟩ ⟨h.t, nx⟩ [] [] []) (.bad 225 fr.f)
def stepC (P : Program) (G : Nat) (X : Hook P G) (ih : RunT) (c : Code) (k : List Item) (fr : Fr) (E : Tr V fr.d) (ms : List DV) (h : H) : Res := match c with
  | .skip | .label _ => ih [] [] k fr E ms h
  | .region _ ops false => cond (dstsOk fr.n ops.toList) (ih ops.toList ops.toList k fr E ms h) (.bad 218 fr.f)
  | .region _ ops true => drawn P G X ih ops.toList k fr E ms h
  | .seq a b => ih [] [] (.code a :: .code b :: k) fr E ms h
  | .cond c a b => match opV G fr.d E c with
    | .bool true => ih [] [] (.code a :: k) fr E ms h
    | .bool false => ih [] [] (.code b :: k) fr E ms h
    | _ => .bad 209 fr.f
  | .block id b => ih [] [] (.code b :: .inBlock id :: k) fr E ms h
  | .loop b => ih [] [] (.code b :: .inLoop b :: k) fr E ms h
  | .exit id => match exitTo id k with
    | some k => ih [] [] k fr E ms h
    | none => leave P G X ih (some (.exit id)) fr E ms h
  | .goto l => match gotoIn l k with
    | some k => ih [] [] k fr E ms h
    | none => .bad 210 fr.f
  | .scope b => ih [] [] (.code b :: .inScope b :: k) fr E ms h
  | .ret => leave P G X ih (some .ret) fr E ms h
  | .rangeFunc fv ps a b => match fr.rd with
    | none => cond fr.dk (.bad 246 fr.f) (hNew h .dfr fun m h => rangeF P G X ih fv ps.toList a b k fr E (.mk m :: ms) h)
    | some l => match hGet h l with
      | some (.loop _ _ _ _ _ _ _ _ _) => rangeF P G X ih fv ps.toList a b k fr E ms h
      | _ => .bad 221 fr.f
  | _ => .bad 213 fr.f
def stepI (P : Program) (G : Nat) (X : Hook P G) (ih : RunT) (k : List Item) (fr : Fr) (E : Tr V fr.d) (ms : List DV) (h : H) : Res := match k with
  | [] => leave P G X ih none fr E ms h
  | .code c :: k => stepC P G X ih c k fr E ms h
  | .inBlock _ :: k => ih [] [] k fr E ms h
  | .inScope _ :: k => ih [] [] k fr E ms h
  | .inLoop b :: k => ih [] [] (.code b :: .inLoop b :: k) fr E ms h
  | .beginRound :: k => match fr.rd with
    | some l => match hGet h l with
      | some (.loop .ready pend f ed E' n ps a b) => hSet h l (some (.loop .busy pend f ed E' n ps a b)) fun h => ih [] [] k fr E ms h
      | _ => .bad 214 fr.f
    | none => .bad 215 fr.f
  | _ => .bad 216 fr.f
/-! The same steps in a form that the kernel goes through quickly. -/
def dstF (dst : Option Nat) : (d : Nat) → Tr V d → V → (Tr V d → Res) → Res := @Option.rec Nat (fun _ => (d : Nat) → Tr V d → V → (Tr V d → Res) → Res) (fun _ E _ c => c E) (fun i d E v c => trSet d i E v c) dst
theorem dstF_eq (dst : Option Nat) (d : Nat) (E : Tr V d) (v : V) (c : Tr V d → Res) : dstF dst d E v c = dstV d E dst v c := by cases dst <;> rfl
def resF (r : Res) : (V → H → Res) → Res := @Res.rec (fun _ => (V → H → Res) → Res) (fun x h c => c x h) (fun n a _ => .bad n a) r
def enterB (b : Option (Code × Nat × Nat × List ResultVar)) : RunT → Nat → List V → H → Res := @Option.rec (Code × Nat × Nat × List ResultVar) (fun _ => RunT → Nat → List V → H → Res) (fun _ f _ _ => .bad 203 f)
  (fun b ih f args h => @Bool.rec (fun _ => (Code × Nat × Nat × List ResultVar) → RunT → Nat → List V → H → Res) (fun _ _ f _ _ => .bad 202 f) (fun b ih f args h => wrK args b.2.2.1 (trNew .und b.2.2.1) 0 fun E => ih [] [] [.code b.1] ⟨f, b.2.2.1, b.2.1, b.2.2.2, none, false⟩ E [] h) (Nat.ble args.length b.2.1) b ih f args h) b
theorem enterB_eq (P : Program) (ih : RunT) (f : Nat) (args : List V) (h : H) : enterB (bodyOf P f) ih f args h = enterN P ih f args h := by
  unfold enterN
  cases bodyOf P f with
  | none => rfl
  | some b =>
    obtain ⟨c, n, d, res⟩ := b
    simp only [enterB]
    cases Nat.ble args.length n <;> rfl
def enterO (r : Option Res) : Program → RunT → Nat → List V → H → Res := @Option.rec Res (fun _ => Program → RunT → Nat → List V → H → Res) (fun P ih f args h => enterB (bodyOf P f) ih f args h) (fun r _ _ _ _ _ => r) r
def enterFF (P : Program) (G : Nat) (X : Hook P G) (ih : RunT) (f : FuncId) (args : List V) (h : H) : Res := @Option.rec (List V → H → Option Res) (fun _ => Program → RunT → Nat → List V → H → Res) (fun P ih f args h => enterB (bodyOf P f) ih f args h) (fun g P ih f args h => enterO (g args h) P ih f args h) (X.fn f) P ih f args h
theorem enterFF_eq (P : Program) (G : Nat) (X : Hook P G) (ih : RunT) (f : FuncId) (args : List V) (h : H) : enterFF P G X ih f args h = enterF P G X ih f args h := by
  unfold enterFF enterF
  cases X.fn f with
  | none => exact enterB_eq ..
  | some g =>
    show enterO (g args h) P ih f args h = _
    simp only
    cases g args h with
    | none => exact enterB_eq ..
    | some r => rfl
def actF (r : R) : (P : Program) → (G : Nat) → Hook P G → RunT → List Oper → Option Nat → List Oper → List Item → (fr : Fr) → Tr V fr.d → List DV → H → Res := @R.rec (fun _ => (P : Program) → (G : Nat) → Hook P G → RunT → List Oper → Option Nat → List Oper → List Item → (fr : Fr) → Tr V fr.d → List DV → H → Res)
  (fun x h _ _ _ ih ops dst rest k fr E ms _ => dstF dst fr.d E x fun E => ih ops rest k fr E ms h)
  (fun h _ _ _ ih ops dst rest k fr E ms _ => @Option.rec Nat (fun _ => Res) (ih ops rest k fr E ms h) (fun _ => .bad 219 fr.f) dst)
  (fun f args P G X ih ops dst rest k fr E ms h => resF (enterFF P G X ih f args h) fun x h => dstF dst fr.d E x fun E => ih ops rest k fr E ms h)
  (fun l args P _ _ ih ops dst rest k fr E ms h => resF (roundF P ih l args h) fun x h => dstF dst fr.d E x fun E => ih ops rest k fr E ms h)
  (fun f cap args _ _ _ ih ops dst rest k fr E ms h => match dst, fr.rd with
      | none, none => ih ops rest k fr E (.call f cap args :: ms) h
      | _, _ => .bad 245 fr.f)
  (fun n _ _ _ _ _ _ _ _ fr _ _ _ => .bad n fr.f) r
def goF : (P : Program) → (G : Nat) → Hook P G → RunT → List Oper → Oper → List Oper → List Item → (fr : Fr) → Tr V fr.d → List DV → H → Res := fun P G X ih ops o rest k fr E ms h => actF (evOpF o.op P (fun x => opF x G fr.d E) h) P G X ih ops o.dst rest k fr E ms h
def gdF (g : Option Bool) : (P : Program) → (G : Nat) → Hook P G → RunT → List Oper → Oper → List Oper → List Item → (fr : Fr) → Tr V fr.d → List DV → H → Res := @Option.rec Bool (fun _ => (P : Program) → (G : Nat) → Hook P G → RunT → List Oper → Oper → List Oper → List Item → (fr : Fr) → Tr V fr.d → List DV → H → Res) (fun _ _ _ _ _ _ _ _ fr _ _ _ => .bad 207 fr.f)
  (fun b => @Bool.rec (fun _ => (P : Program) → (G : Nat) → Hook P G → RunT → List Oper → Oper → List Oper → List Item → (fr : Fr) → Tr V fr.d → List DV → H → Res) (fun _ _ _ ih ops o rest k fr E ms h => dstF o.dst fr.d E (.tup []) fun E => ih ops rest k fr E ms h) goF b) g
def stepOpF (g : Option (Nat × Bool)) : (P : Program) → (G : Nat) → Hook P G → RunT → List Oper → Oper → List Oper → List Item → (fr : Fr) → Tr V fr.d → List DV → H → Res := @Option.rec (Nat × Bool) (fun _ => (P : Program) → (G : Nat) → Hook P G → RunT → List Oper → Oper → List Oper → List Item → (fr : Fr) → Tr V fr.d → List DV → H → Res) goF (fun g P G X ih ops o rest k fr E ms h => gdF (wants fr.d E ops (some g)) P G X ih ops o rest k fr E ms h) g
theorem opF_eq (G d : Nat) (E : Tr V d) : (fun x => opF x G d E) = opV G d E := by funext x; cases x <;> rfl
theorem stepOpF_eq (P : Program) (G : Nat) (X : Hook P G) (ih : RunT) (ops : List Oper) (o : Oper) (rest : List Oper) (k : List Item) (fr : Fr) (E : Tr V fr.d) (ms : List DV) (h : H) : stepOpF o.guard P G X ih ops o rest k fr E ms h = stepOp P G X ih ops o rest k fr E ms h := by
  have hgo : ∀ g, wants fr.d E ops g = some true → goF P G X ih ops o rest k fr E ms h = (match wants fr.d E ops g with
    | some true => match evOp P (opV G fr.d E) o.op h with
      | .v x h => dstV fr.d E o.dst x fun E => ih ops rest k fr E ms h
      | .eff h => match o.dst with
        | none => ih ops rest k fr E ms h
        | some _ => .bad 219 fr.f
      | .call f args => match enterF P G X ih f args h with
        | .ok x h => dstV fr.d E o.dst x fun E => ih ops rest k fr E ms h
        | .bad n a => .bad n a
      | .yld l args => match roundF P ih l args h with
        | .ok x h => dstV fr.d E o.dst x fun E => ih ops rest k fr E ms h
        | .bad n a => .bad n a
      | .dfr f cap args => match o.dst, fr.rd with
        | none, none => ih ops rest k fr E (.call f cap args :: ms) h
        | _, _ => .bad 245 fr.f
      | .bad n => .bad n fr.f
    | some false => dstV fr.d E o.dst (.tup []) fun E => ih ops rest k fr E ms h
    | none => .bad 207 fr.f) := fun g hg => by
    rw [hg]
    simp only
    unfold goF
    rw [opF_eq, evOpF_eq]
    cases evOp P (opV G fr.d E) o.op h with
    | v x h1 => exact dstF_eq ..
    | eff h1 => show @Option.rec _ _ _ _ o.dst = _; cases o.dst <;> rfl
    | call f args =>
      show resF (enterFF P G X ih f args h) _ = _
      simp only
      rw [enterFF_eq]
      generalize enterF P G X ih f args h = r
      cases r with
      | ok x h1 => exact dstF_eq ..
      | bad n a => rfl
    | yld l args =>
      show resF (roundF P ih l args h) _ = _
      simp only
      generalize roundF P ih l args h = r
      cases r with
      | ok x h1 => exact dstF_eq ..
      | bad n a => rfl
    | dfr f cap args => rfl
    | bad n => rfl
  unfold stepOp
  cases hg : o.guard with
  | none => exact hgo none rfl
  | some g =>
    show gdF (wants fr.d E ops (some g)) P G X ih ops o rest k fr E ms h = _
    cases hw : wants fr.d E ops (some g) with
    | none => rfl
    | some b =>
      cases b with
      | false => exact dstF_eq ..
      | true =>
        have := hgo (some g) hw
        rw [hw] at this
        exact this
def cdF (v : V) : Code → Code → RunT → List Item → (fr : Fr) → Tr V fr.d → List DV → H → Res := @V.rec (fun _ => Code → Code → RunT → List Item → (fr : Fr) → Tr V fr.d → List DV → H → Res) (fun _ => PUnit) (fun x1 x2 => fun _ _ _ _ fr _ _ _ => .bad 209 fr.f) (fun t => fun a b => @Bool.rec (fun _ => RunT → List Item → (fr : Fr) → Tr V fr.d → List DV → H → Res) (fun ih k fr E ms h => ih [] [] (.code b :: k) fr E ms h) (fun ih k fr E ms h => ih [] [] (.code a :: k) fr E ms h) t) (fun x1 x2 => fun _ _ _ _ fr _ _ _ => .bad 209 fr.f) (fun x1 x2 => fun _ _ _ _ fr _ _ _ => .bad 209 fr.f) (fun x1 x2 x3 x4 x5 x6 => fun _ _ _ _ fr _ _ _ => .bad 209 fr.f) (fun x1 x2 => fun _ _ _ _ fr _ _ _ => .bad 209 fr.f) (fun x1 => fun _ _ _ _ fr _ _ _ => .bad 209 fr.f) (fun x1 => fun _ _ _ _ fr _ _ _ => .bad 209 fr.f) (fun x1 x2 x3 _ _ => fun _ _ _ _ fr _ _ _ => .bad 209 fr.f) (fun x1 => fun _ _ _ _ fr _ _ _ => .bad 209 fr.f) (fun x1 x2 _ => fun _ _ _ _ fr _ _ _ => .bad 209 fr.f) (fun x1 x2 _ => fun _ _ _ _ fr _ _ _ => .bad 209 fr.f) (fun x1 _ => fun _ _ _ _ fr _ _ _ => .bad 209 fr.f) (fun x1 _ => fun _ _ _ _ fr _ _ _ => .bad 209 fr.f) (fun _ _ _ _ fr _ _ _ => .bad 209 fr.f) PUnit.unit (fun _ _ _ _ => PUnit.unit) v
def rgF (dr : Bool) : Array Oper → (P : Program) → (G : Nat) → Hook P G → RunT → List Item → (fr : Fr) → Tr V fr.d → List DV → H → Res := @Bool.rec (fun _ => Array Oper → (P : Program) → (G : Nat) → Hook P G → RunT → List Item → (fr : Fr) → Tr V fr.d → List DV → H → Res) (fun ops _ _ _ ih k fr E ms h => @Bool.rec (fun _ => List Oper → RunT → List Item → (fr : Fr) → Tr V fr.d → List DV → H → Res) (fun _ _ _ fr _ _ _ => .bad 218 fr.f) (fun ops ih k fr E ms h => ih ops ops k fr E ms h) (dstsOk fr.n ops.toList) ops.toList ih k fr E ms h)
  (fun ops P G X ih k fr E ms h => drawn P G X ih ops.toList k fr E ms h) dr
def stepCF (c : Code) : (P : Program) → (G : Nat) → Hook P G → RunT → List Item → (fr : Fr) → Tr V fr.d → List DV → H → Res := @Code.rec (fun _ => (P : Program) → (G : Nat) → Hook P G → RunT → List Item → (fr : Fr) → Tr V fr.d → List DV → H → Res)
  (fun _ _ _ ih k fr E ms h => ih [] [] k fr E ms h)
  (fun _ ops dr P G X ih k fr E ms h => rgF dr ops P G X ih k fr E ms h)
  (fun a b _ _ _ _ _ ih k fr E ms h => ih [] [] (.code a :: .code b :: k) fr E ms h)
  (fun c a b _ _ _ G _ ih k fr E ms h => cdF (opF c G fr.d E) a b ih k fr E ms h)
  (fun id b _ _ _ _ ih k fr E ms h => ih [] [] (.code b :: .inBlock id :: k) fr E ms h)
  (fun b _ _ _ _ ih k fr E ms h => ih [] [] (.code b :: .inLoop b :: k) fr E ms h)
  (fun f ps a b _ _ P G X ih k fr E ms h => stepC P G X ih (.rangeFunc f ps a b) k fr E ms h)
  (fun id P G X ih k fr E ms h => stepC P G X ih (.exit id) k fr E ms h)
  (fun b _ P G X ih k fr E ms h => stepC P G X ih (.scope b) k fr E ms h)
  (fun _ _ _ _ ih k fr E ms h => ih [] [] k fr E ms h)
  (fun l P G X ih k fr E ms h => stepC P G X ih (.goto l) k fr E ms h)
  (fun P G X ih _ fr E ms h => leave P G X ih (some .ret) fr E ms h)
  (fun w P G X ih k fr E ms h => stepC P G X ih (.refuse w) k fr E ms h) c
theorem stepCF_eq (P : Program) (G : Nat) (X : Hook P G) (ih : RunT) (c : Code) (k : List Item) (fr : Fr) (E : Tr V fr.d) (ms : List DV) (h : H) : stepCF c P G X ih k fr E ms h = stepC P G X ih c k fr E ms h := by
  cases c <;> try rfl
  · rename_i id ops dr
    cases dr with
    | true => rfl
    | false =>
      simp only [stepCF, rgF, stepC]
      cases dstsOk fr.n ops.toList <;> rfl
  · rename_i c a b
    show cdF (opF c G fr.d E) a b ih k fr E ms h = _
    have := congrFun (opF_eq G fr.d E) c
    unfold stepC
    simp only at this ⊢
    rw [this]
    cases opV G fr.d E c <;> try rfl
    rename_i t
    cases t <;> rfl
def itF (i : Item) : (P : Program) → (G : Nat) → Hook P G → RunT → List Item → (fr : Fr) → Tr V fr.d → List DV → H → Res := @Item.rec (fun _ => (P : Program) → (G : Nat) → Hook P G → RunT → List Item → (fr : Fr) → Tr V fr.d → List DV → H → Res)
  (fun c P G X ih k fr E ms h => stepCF c P G X ih k fr E ms h)
  (fun _ _ _ _ ih k fr E ms h => ih [] [] k fr E ms h)
  (fun b _ _ _ ih k fr E ms h => ih [] [] (.code b :: .inLoop b :: k) fr E ms h)
  (fun b P G X ih k fr E ms h => stepI P G X ih (.inScope b :: k) fr E ms h)
  (fun a b P G X ih k fr E ms h => stepI P G X ih (.inRegion a b :: k) fr E ms h)
  (fun l P G X ih k fr E ms h => stepI P G X ih (.inRangeFunc l :: k) fr E ms h)
  (fun l P G X ih k fr E ms h => stepI P G X ih (.endRangeFunc l :: k) fr E ms h)
  (fun P G X ih k fr E ms h => stepI P G X ih (.beginRound :: k) fr E ms h)
  (fun a b c d P G X ih k fr E ms h => stepI P G X ih (.call a b c d :: k) fr E ms h)
  (fun a b P G X ih k fr E ms h => stepI P G X ih (.extern a b :: k) fr E ms h) i
def stepIF (k : List Item) : (P : Program) → (G : Nat) → Hook P G → RunT → (fr : Fr) → Tr V fr.d → List DV → H → Res := @List.rec Item (fun _ => (P : Program) → (G : Nat) → Hook P G → RunT → (fr : Fr) → Tr V fr.d → List DV → H → Res)
  (fun P G X ih fr E ms h => leave P G X ih none fr E ms h) (fun i k _ P G X ih fr E ms h => itF i P G X ih k fr E ms h) k
theorem stepIF_eq (P : Program) (G : Nat) (X : Hook P G) (ih : RunT) (k : List Item) (fr : Fr) (E : Tr V fr.d) (ms : List DV) (h : H) : stepIF k P G X ih fr E ms h = stepI P G X ih k fr E ms h := by
  cases k with
  | nil => rfl
  | cons i k =>
    show itF i P G X ih k fr E ms h = _
    cases i <;> try rfl
    exact stepCF_eq ..
def run (P : Program) (G : Nat) (X : Hook P G) (fuel : Nat) : RunT := @Nat.rec (fun _ => RunT) (fun _ _ _ fr _ _ _ => .bad 217 fr.f) (fun _ ih ops rest k fr E ms h => @List.rec Oper (fun _ => RunT → List Oper → List Item → (fr : Fr) → Tr V fr.d → List DV → H → Res)
  (fun ih _ k fr E ms h => stepIF k P G X ih fr E ms h) (fun o rest _ ih ops k fr E ms h => stepOpF o.guard P G X ih ops o rest k fr E ms h) rest ih ops k fr E ms h) fuel
def evF (P : Program) (G : Nat) (X : Hook P G) (fuel : Nat) (f : FuncId) (args : List V) (h : H) : Res := enterN P (run P G X fuel) f args h
def isTrueR (r : Res) : Bool := match r with
  | .ok (.bool b) _ => b
  | _ => false
def h0 (G : Nat) : H := ⟨trNew none HD, G⟩
end
end Go.Proofs.Ytkhkebcflaokpaa
namespace Go.Proofs.Ytkhkebcflaokpaa
open Go Go.RowKit
set_option linter.all false

theorem get_out {α : Type} (z : α) : ∀ (d i : Nat) (t : Tr α d), 16 ^ d ≤ i → trGet z d i t = z
  | 0, i, t, h => by
    rw [trGet_zero, if_neg (by simp at h; omega)]
  | d + 1, i, t, h => by
    rw [trGet_succ]
    exact get_out z d _ _ (by rw [Nat.pow_succ] at h; omega)

def EnvR (φ : Ph) (d : Nat) (E : Tr V d) (e : Env) : Prop := ∀ i, vGet d i E ≠ .und → ∃ u, fnd e i = some u ∧ CV φ (vGet d i E) u
theorem EnvR.mono {φ φ' : Ph} (hs : Sb φ φ') {d : Nat} {E : Tr V d} {e : Env} (h : EnvR φ d E e) : EnvR φ' d E e := fun i hi => let ⟨u, a, b⟩ := h i hi; ⟨u, a, b.mono hs⟩
theorem EnvR.put {φ : Ph} {d : Nat} {E : Tr V d} {e : Env} (h : EnvR φ d E e) (i : Nat) {v : V} {u : Value} (hc : CV φ v u) : EnvR φ d (trPut d i E v) ((i, u) :: e) := fun j hj => by
  by_cases hij : j = i
  · subst hij
    refine ⟨u, ?_, ?_⟩
    · have : Nat.beq j j = true := Nat.beq_refl j
      simp [fnd, this]
    · rcases get_put_same V.und d j E v with h1 | h1
      · show CV φ (trGet .und d j _) u
        rw [h1]; exact hc
      · exact absurd h1 hj
  · have h1 : vGet d j (trPut d i E v) = vGet d j E := get_put_ne _ _ _ _ _ _ hij
    rw [h1] at hj ⊢
    obtain ⟨u', h2, h3⟩ := h j hj
    refine ⟨u', ?_, h3⟩
    have : Nat.beq j i = false := by
      rw [Bool.eq_false_iff]; intro hb; exact hij (Nat.eq_of_beq_eq_true hb)
    simp [fnd, this, h2]
theorem EnvR.new {φ : Ph} (d : Nat) (e : Env) : EnvR φ d (trNew .und d) e := fun i hi => absurd (get_new V.und d i) hi
theorem EnvR.rho {G : Nat} {φ : Ph} {h : H} {w : World} {d : Nat} {E : Tr V d} {e : Env} (r : Rel G φ h w) (he : EnvR φ d E e) : RhoR φ (opV G d E) e := fun x hx => by
  cases x with
  | tmp i => exact he i hx
  | const v => exact ⟨v, rfl, cv_ofV hx⟩
  | global g =>
    unfold opV at hx ⊢
    cases hg : Nat.blt g G with
    | false => simp [hg] at hx
    | true =>
      obtain ⟨N, hp⟩ := r.glob g (by simpa using hg)
      simp only [hg, cond_true]
      exact ⟨_, rfl, .ptr hp⟩
  | func f => exact ⟨_, rfl, .fn .nil .nil⟩

theorem fnd_env : ∀ (l : List Value) (j i : Nat), fnd (envOf j l) i = if j ≤ i then l[i - j]? else none
  | [], j, i => by simp [envOf, fnd]
  | v :: l, j, i => by
    simp only [envOf, fnd]
    cases hb : Nat.beq i j with
    | true =>
      have := Nat.eq_of_beq_eq_true hb
      subst this
      simp
    | false =>
      have hne : i ≠ j := fun e => by subst e; simp at hb
      simp only
      rw [fnd_env l (j + 1) i]
      by_cases hj : j ≤ i
      · rw [if_pos (by omega), if_pos hj, show i - j = (i - (j + 1)) + 1 from by omega]; simp
      · rw [if_neg (by omega), if_neg hj]
theorem EnvR.args {φ : Ph} {d : Nat} {l : List V} {us : List Value} (hc : CVs φ l us) : EnvR φ d (wrE d l (trNew .und d) 0) (envOf 0 us) := fun i hi => by
  rcases wr_get d l (trNew .und d) 0 i with h1 | h1
  · exact absurd h1 hi
  · split at h1
    · obtain ⟨u, e1, e2⟩ := hc.get h1
      exact ⟨u, by rw [fnd_env, if_pos (Nat.zero_le _)]; exact e1, e2⟩
    · exfalso
      rw [h1] at hi
      exact hi (get_new V.und d i)
theorem wants_ok {φ : Ph} {d : Nat} {E : Tr V d} {e : Env} {ops : List Oper} {g : Option (Nat × Bool)} {t : Bool} (he : EnvR φ d E e) (hw : wants d E ops g = some t) {D : RC} (hD : D.ops = ops) : okw D e g t = true := by
  unfold okw
  rw [hD]
  unfold wants at hw
  split at hw
  · cases hw; rfl
  · rename_i j b
    split at hw <;> try cases hw
    rename_i o ho
    split at hw <;> try cases hw
    rename_i i hi
    split at hw <;> try cases hw
    · rename_i c hc
      obtain ⟨u, h1, h2⟩ := he i (by rw [hc]; simp)
      rw [hc] at h2
      cases h2
      simp only [okg, wantE, ho, hi, h1]
      cases b <;> cases c <;> rfl
    · rename_i l hc
      obtain ⟨u, h1, h2⟩ := he i (by rw [hc]; simp)
      rw [hc] at h2
      cases h2
      simp only [okg, wantE, ho, hi, h1]
theorem dstV_eq {β : Type} (d : Nat) (E : Tr V d) (dst : Option Nat) (v : V) (c : Tr V d → β) : dstV d E dst v c = match dst with
    | none => c E
    | some i => c (trPut d i E v) := by
  cases dst with
  | none => rfl
  | some i => show trSet d i E v c = _; rw [trSet_eq]

/-! ### The loops' records -/
theorem loop_rec {φ : Ph} {st : LoopState} {pend : Option Code} {f ed n : Nat} {E : Tr V ed} {ps : List Tmp} {a b : Code} {p : Nat × Nat × Nat} {w : World} (h : BR φ (.loop st pend f ed E n ps a b) p w) :
    ∃ e0, Rec f n e0 ps.toArray a b p.1 st pend w ∧ EnvR φ ed E e0 := by
  obtain ⟨r, h0, h1, h2, h3, h4, h5, h6, h7, h8⟩ := h
  refine ⟨envOf 0 (r.tmps.toList ++ List.replicate (16 ^ ed) undef), ⟨r, h0, h1, h2, h3, h4, h5, h6, h7, fun i v hv => ?_⟩, fun i hi => ?_⟩
  · rw [fnd_env, if_pos (Nat.zero_le _), Nat.sub_zero, List.getElem?_append] at hv
    split at hv
    · rename_i hlt
      simp at hlt hv
      simp [Array.getD, hlt, hv]
      have := Array.getElem?_eq_some_iff.1 hv
      exact this.2
    · rename_i hlt
      simp at hlt
      rw [List.getElem?_replicate] at hv
      split at hv
      · cases hv
        simp [Array.getD]; omega
      · cases hv
  · refine ⟨r.tmps.getD i undef, ?_, h8 i⟩
    have hlt : i < 16 ^ ed := by
      rcases Nat.lt_or_ge i (16 ^ ed) with h | h
      · exact h
      · exact absurd (get_out V.und ed i E h) hi
    rw [fnd_env, if_pos (Nat.zero_le _), Nat.sub_zero, List.getElem?_append]
    split
    · rename_i hl
      simp at hl
      simp [Array.getD, hl]
    · rename_i hl
      simp at hl
      rw [List.getElem?_replicate, if_pos (by simp; omega)]
      simp [Array.getD]; omega
theorem rec_loop {φ : Ph} {st : LoopState} {pend : Option Code} {f ed n : Nat} {E : Tr V ed} {ps : List Tmp} {a b : Code} {l x y : Nat} {w : World} {e0 : Env} (h : Rec f n e0 ps.toArray a b l st pend w) (he : EnvR φ ed E e0) :
    BR φ (.loop st pend f ed E n ps a b) (l, x, y) w := by
  obtain ⟨r, h0, h1, h2, h3, h4, h5, h6, h7, h8⟩ := h
  refine ⟨r, h0, h1, h2, h3, h4, h5, h6, h7, fun i => ?_⟩
  by_cases hi : vGet ed i E = .und
  · rw [hi]; exact .und
  · obtain ⟨u, e1, e2⟩ := he i hi
    rw [h8 i u e1]; exact e2

/-! ### The end of a function -/
def MsR (φ : Ph) : List DV → List Dfr → Prop
  | [], [] => True
  | .mk m :: l, .mk m' :: l' => (∃ a N, φ m = some (m', a, N)) ∧ MsR φ l l'
  | .call f cap args :: l, .call f' cap' args' :: l' => f = f' ∧ CVs φ cap cap' ∧ CVs φ args args' ∧ MsR φ l l'
  | _, _ => False
theorem MsR.mono {φ φ' : Ph} (hs : Sb φ φ') : ∀ {l : List DV} {l' : List Dfr}, MsR φ l l' → MsR φ' l l'
  | [], [], _ => trivial
  | .mk m :: l, .mk m' :: l', ⟨⟨a, N, h⟩, k⟩ => ⟨⟨a, N, hs _ _ h⟩, MsR.mono hs k⟩
  | .call .. :: l, .call .. :: l', ⟨h1, h2, h3, k⟩ => ⟨h1, h2.mono hs, h3.mono hs, MsR.mono hs k⟩
  | [], _ :: _, h => h.elim
  | _ :: _, [], h => by rename_i x _; cases x <;> exact h.elim
  | .mk _ :: _, .call .. :: _, h => h.elim
  | .call .. :: _, .mk _ :: _, h => h.elim

theorem loadVar_ok {P : Program} {G : Nat} {φ : Ph} {h h' : H} {w : World} {t : TypeId} {v v' : V} {u : Value} (r : Rel G φ h w) (hc : CV φ v u) (hv : loadV P h t v = .v v' h') :
    ∃ ad u', u = .pointer (some ad) ∧ (loadVar t ad).run P w = .ok u' w ∧ CV φ v' u' := by
  have hnu : v ≠ .und := by intro e; subst e; cases hv
  have hp := loadV_pv (P := P) (t := t) r hc hnu
  rw [hv] at hp
  obtain ⟨rfl, u', h1, h2⟩ := hp
  unfold loadV at hv
  split at hv <;> try cases hv
  rename_i b o
  cases hc with
  | @ptr _ _ b' a N hφ =>
  exact ⟨_, u', rfl, by simpa [Instr.loadAt, Instr.sureAddr] using h1, h2⟩
theorem resV_ok {P : Program} {G : Nat} {φ : Ph} {h : H} {w : World} {d n : Nat} {E : Tr V d} {e : Env} {ms : List Dfr} (r : Rel G φ h w) (he : EnvR φ d E e) : ∀ {rs : List ResultVar} {vs : List V}, resV P d E h rs = some vs →
    ∃ us, CVs φ vs us ∧ ∀ a, EOk n ms e a → (rs.mapM (resM a)).run P w = .ok us w
  | [], vs, hv => by
    cases hv
    exact ⟨[], .nil, fun a _ => by simp⟩
  | rv :: rs, vs, hv => by
    unfold resV at hv
    cases hvs : resV P d E h rs with
    | none => rw [hvs] at hv; cases hv
    | some vs' =>
    rw [hvs] at hv
    obtain ⟨us, h1, h2⟩ := resV_ok (n := n) (ms := ms) r he hvs
    cases rv with
    | tmp t =>
      simp only at hv
      by_cases hk : vGet d t E = .und
      · rw [hk] at hv; cases hv
      · have hv' : some (vGet d t E :: vs') = some vs := by
          rw [← hv]
          split
          · rename_i e; exact absurd e hk
          · rfl
        cases hv'
        obtain ⟨u, e1, e2⟩ := he t hk
        refine ⟨u :: us, .cons e2 h1, fun a ha => ?_⟩
        have hg : resM a (.tmp t) = pure u := by simp only [resM]; rw [ha.get _ _ e1]
        rw [List.mapM_cons, hg]
        simp only [pure_bind, Sem.run_bind, h2 a ha, Result.andThen, Sem.run_pure]
    | cell x t =>
      simp only at hv
      cases hl : loadV P h t (vGet d x E) with
      | v v' h' =>
        rw [hl] at hv
        cases hv
        have hx : vGet d x E ≠ .und := by intro e; rw [e] at hl; cases hl
        obtain ⟨u, e1, e2⟩ := he x hx
        obtain ⟨ad, u', rfl, h3, h4⟩ := loadVar_ok r e2 hl
        refine ⟨u' :: us, .cons h4 h1, fun a ha => ?_⟩
        have hg := ha.get _ _ e1
        have h5 : (resM a (.cell x t)).run P w = .ok u' w := by
          simp only [resM, hg, asAddr, pure_bind, h3]
        rw [List.mapM_cons]
        simp only [Sem.run_bind, h5, h2 a ha, Result.andThen, Sem.run_pure]
      | bad _ => rw [hl] at hv; cases hv
      | eff _ => rw [hl] at hv; cases hv
      | call _ _ => rw [hl] at hv; cases hv
      | yld _ _ => rw [hl] at hv; cases hv
      | dfr _ _ _ => rw [hl] at hv; cases hv
theorem resOne_cv {φ : Ph} {vs : List V} {us : List Value} (h : CVs φ vs us) : CV φ (resOne vs) (resVal us) := by
  cases h with
  | nil => exact .tup .nil
  | cons h1 h2 =>
    cases h2 with
    | nil => exact h1
    | cons h2 h3 => exact .tup (.cons h1 (.cons h2 h3))
theorem results_of {a : Act} {P : Program} {w : World} {fn : Func} {us : List Value} (hm : (fn.results.toList.mapM (resM a)).run P w = .ok us w) : (results fn a.tmps).run P w = .ok (resVal us) w := by
  have he : results fn a.tmps = (do
      let us ← fn.results.mapM (resM a)
      pure (if h : us.size = 1 then us[0] else .tuple us)) := rfl
  rw [he, ← Array.toArray_toList (xs := fn.results), List.mapM_toArray]
  simp only [Sem.run_bind, map_eq_pure_bind, hm, Result.andThen, Sem.run_pure]
  cases us with
  | nil => simp [resVal]
  | cons v r => cases r with
    | nil => simp [resVal]
    | cons u r => simp [resVal]
end Go.Proofs.Ytkhkebcflaokpaa
