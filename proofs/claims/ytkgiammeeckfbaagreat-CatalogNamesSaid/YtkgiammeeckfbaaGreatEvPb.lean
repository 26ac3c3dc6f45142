/- Builtins on bytes that are packed. It is of no program. -/
import Derived.Test.YtkgiammeeckfbaaGreatEvPk
namespace Go.Proofs.YtkgiammeeckfbaaGreat
open Go Go.RowKit
set_option linter.all false

section
variable {P : Program} {G : Nat} {φ : Ph} {h : H} {w : World} {e : Env} {d : Option Nat} {ty t t' : TypeId} {pos : String} {aft : Array Edge} {g : Option (Nat × Bool)} {x y : Operand} {v v1 v2 : V} {u u1 u2 : Value} {ρ : Operand → V}

theorem beq_comm' (a b : Nat) : Nat.beq a b = Nat.beq b a := by
  cases h1 : Nat.beq a b with
  | true => have := Nat.eq_of_beq_eq_true h1; subst this; exact h1.symm
  | false => cases h2 : Nat.beq b a with
    | true => have := Nat.eq_of_beq_eq_true h2; subst this; rw [h2] at h1; cases h1
    | false => rfl
/-- What a source holds. -/
theorem srcK_eq {β : Type} (hy : CV φ v u) (c : Nat → Nat → β) (no : β) : srcK h v c no = no ∨ ∃ m s, s < 256 ^ m ∧ srcK h v c no = c m s ∧ ∀ {γ : Type} (c' : Nat → List V → γ) (no' : γ), elems P (exH h) v 1 c' no' = c' m (byL m s) := by
  unfold srcK
  split
  · exact .inr ⟨0, 0, by simp, rfl, fun _ _ => rfl⟩
  · exact .inr ⟨0, 0, by simp, rfl, fun _ _ => rfl⟩
  · rename_i n s
    cases hy with
    | str hs =>
    refine .inr ⟨n, s, hs, rfl, fun c' no' => ?_⟩
    unfold elems
    simp only [fL_eq, byL_unp]
    rfl
  · rename_i b o len kc es op
    split
    · rename_i n s ty' st hb
      cases hc : and (Nat.beq es 1) (Nat.ble (Nat.add o len) n) with
      | false => exact .inl rfl
      | true =>
        have hc' := hc
        simp only [Bool.and_eq_true] at hc'
        have h5 : o + len ≤ n := Nat.le_of_ble_eq_true hc'.2
        refine .inr ⟨len, byS s o len, byS_lt _ _ _, by rw [cond_true, fN_eq], fun c' no' => ?_⟩
        unfold elems
        have e1 : (and (Nat.beq 1 es) (Nat.ble (Nat.add o (Nat.mul len 1)) n)) = true := by
          rw [beq_comm' 1 es]
          show (and (Nat.beq es 1) (Nat.ble (o + len * 1) n)) = true
          rw [Nat.mul_one]; exact hc
        simp only [exH_byt hb, e1, cond_true, rdK_eq]
        rw [show Nat.mul len 1 = len from Nat.mul_one len, byL_rd (exT_get n s) o len h5]
    · rename_i n dd tr ty' st hb
      cases hc : and (Nat.beq es 1) (Nat.ble (Nat.add o len) n) with
      | false => exact .inl rfl
      | true =>
        simp only [cond_true, rdK_eq]
        rcases packK_byL no ((List.range' o len).map fun i => vGet dd i tr) (fun s => c len s) with h1 | ⟨s, h0, h1, h2⟩
        · exact .inl h1
        · simp only [List.length_map, List.length_range'] at h0 h2
          refine .inr ⟨len, s, h0, h1, fun c' no' => ?_⟩
          unfold elems
          have e1 : (and (Nat.beq 1 es) (Nat.ble (Nat.add o (Nat.mul len 1)) n)) = true := by
            rw [beq_comm' 1 es]
            show (and (Nat.beq es 1) (Nat.ble (o + len * 1) n)) = true
            rw [Nat.mul_one]; exact hc
          simp only [exH_cells hb, e1, cond_true, rdK_eq]
          rw [show Nat.mul len 1 = len from Nat.mul_one len, h2]
    · exact .inl rfl
  · exact .inl rfl

theorem cond_req {b : Bool} {r r1 : R} {n : Nat} (k : b = true → REq r r1) : REq r (cond b r1 (.bad n)) := by
  cases b with
  | true => exact k rfl
  | false => exact REq.bad _ _
theorem appZ_no {b o len kc es' m s el : Nat} {op : Bool} (hn : ∀ n s ty st, hGet h b ≠ some (.byt n s ty st)) : appZ h el (.sl b o len kc es' op) m s = .bad 85 := by
  cases hb : hGet h b with
  | none => simp only [appZ, hb]
  | some X =>
    cases X with
    | byt n s ty st => exact absurd hb (hn _ _ _ _)
    | _ => simp only [appZ, hb]
theorem appZ_eq {el m s : Nat} (hu : isU8 P el = true) (hs : s < 256 ^ m) : REq (appC P (exH h) el 1 v1 m (byL m s)) (appZ h el v1 m s) := by
  obtain ⟨h1, h2, h3, h4⟩ := isU8_spec hu
  unfold appC
  rw [byL_ones, cond_true]
  cases v1 with
  | nil k =>
    cases k with
    | sl =>
      show REq (cond (Nat.beq m 0) (R.v (V.nil .sl) (exH h)) (cond (Nat.ble m 1073741824) (grow (exH h) (byL m s) m 1 el) (.bad 83))) (cond (Nat.beq m 0) (R.v (V.nil .sl) h) (growY h m s el))
      cases hm : Nat.beq m 0 with
      | true => exact REq.v (exH_eq h)
      | false =>
        simp only [cond_false]
        have key := growY_eq (exH_eq h) m s el
        unfold growY at key ⊢
        cases hc : Nat.ble m 1048576 with
        | false => exact REq.bad _ _
        | true =>
          have hn := Nat.le_of_ble_eq_true hc
          rw [hc] at key
          rw [show Nat.ble m 1073741824 = true from Nat.ble_eq_true_of_le (by omega), cond_true]
          exact key
    | _ => exact REq.bad _ _
  | sl b o len kc es' op =>
    by_cases hyt : ∃ n s0 ty' st, hGet h b = some (.byt n s0 ty' st)
    · obtain ⟨n, s0, ty', st, hb⟩ := hyt
      unfold appZ
      simp only [exH_byt hb, hb, fN_eq]
      refine cond_req fun hh => ?_
      have hh' := hh
      simp only [Bool.and_eq_true] at hh'
      have h5 : o + len ≤ n := Nat.le_of_ble_eq_true hh'.2
      have e3 : (and (Nat.beq 1 es') (Nat.ble (Nat.add o (Nat.mul len 1)) n)) = true := by
        rw [show Nat.mul len 1 = len from Nat.mul_one len]; exact hh
      rw [e3, cond_true, show Nat.mul len 1 = len from Nat.mul_one len, show Nat.mul (Nat.add len m) 1 = Nat.add len m from Nat.mul_one _]
      cases hk : Nat.ble (Nat.add len m) kc with
      | true =>
        simp only [cond_true]
        refine cond_req fun hr => ?_
        rw [hr, cond_true, wrK_eq, hSet_eq, hSet_eq]
        exact REq.v ((exH_eq h).put b (beq_byt (wr_bytes (Nat.le_of_lt (lt_pow16 n)) (exT_get n s0) hs)) rfl rfl)
      | false =>
        simp only [cond_false, rdK_eq]
        rw [byL_rd (exT_get n s0) o len h5, byL_app _ _ _ _ (byS_lt s0 o len)]
        have hgr : ∀ {gm hm : H}, HEq gm hm → Nat.ble (Nat.add len m) 1048576 = true → REq (grow gm (byL (len + m) (byC (byS s0 o len) len s)) (Nat.add len m) 1 el) (growY hm (Nat.add len m) (byC (byS s0 o len) len s) el) := fun {gm hm} k _ => growY_eq k (len + m) (byC (byS s0 o len) len s) el
        have hbad : Nat.ble (Nat.add len m) 1048576 = false → ∀ hm : H, growY hm (Nat.add len m) (byC (byS s0 o len) len s) el = .bad 82 := fun e hm => by unfold growY; rw [e]; rfl
        cases hc : Nat.ble (Nat.add len m) 1048576 with
        | false =>
          cases op with
          | false => simp only [cond_false]; rw [hbad hc]; exact REq.bad _ _
          | true =>
            simp only [cond_true]
            refine cond_req fun hty => ?_
            simp only [hSet_eq]
            rw [hbad hc]; exact REq.bad _ _
        | true =>
          have hn : len + m ≤ 1048576 := Nat.le_of_ble_eq_true hc
          rw [show Nat.ble (Nat.add len m) 1073741824 = true from Nat.ble_eq_true_of_le (by show len + m ≤ _; omega), cond_true]
          cases op with
          | false => simp only [cond_false]; exact hgr (exH_eq h) hc
          | true =>
            simp only [cond_true]
            refine cond_req fun hty => ?_
            rw [hty]
            simp only [cond_true, hSet_eq]
            exact hgr ((exH_eq h).del b) hc
    · rw [appZ_no (fun n s ty st e => hyt ⟨n, s, ty, st, e⟩)]; exact REq.bad _ _
  | _ => exact REq.bad _ _
theorem appY_eq {el : TypeId} (ht : P.underlying t = some (.slice el)) (hy : CV φ v2 u2) : REq (appV P (exH h) t t' v1 v2) (appY P h t' el v1 v2) := by
  unfold appY
  refine cond_req fun hh => ?_
  simp only [Bool.and_eq_true] at hh
  obtain ⟨hu, hz, hso⟩ := hh
  obtain ⟨h1, h2, h3, h4⟩ := isU8_spec hu
  rcases srcK_eq (P := P) (h := h) hy (fun m new => appZ h el v1 m new) (.bad 89) with e1 | ⟨m, s, hs, e1, e2⟩
  · rw [e1]; exact REq.bad _ _
  · rw [e1]
    have hA : (and (and (Nat.blt 0 1) (Nat.ble (tbytes P el) 65536)) (and (zOk P el 1) (srcOk P t' v2 1))) = true := by
      rw [hz, hso]
      simp only [Bool.and_eq_true]
      exact ⟨⟨rfl, Nat.ble_eq_true_of_le h4⟩, trivial, trivial⟩
    unfold appV
    simp only [ht, fN_eq, h3]
    rw [hA, cond_true, e2]
    exact appZ_eq hu hs
theorem appB_ok (r : Rel G φ h w) (hc1 : CV φ v1 u1) (hc2 : CV φ v2 u2) : BOk P G φ h w (Builtin.append_ #[t, t'] ty #[u1, u2]) (appB P h t t' v1 v2) := by
  unfold appB
  split
  · rename_i el ht
    split
    · rename_i k n
      cases hc2
      cases hc : and (isU8 P el) (toY h v1) with
      | false => exact appN_ok r hc1
      | true =>
        simp only [Bool.and_eq_true] at hc
        obtain ⟨h1, h2, h3, h4⟩ := isU8_spec hc.1
        simp only [cond_true]
        split
        · rename_i k' ht'
          refine (appN_ok (k := k) (n := n) (r.heq (exH_eq h).symm) hc1).heq (exH_eq h) ?_
          refine cond_req fun hh => ?_
          simp only [Bool.and_eq_true] at hh
          have hn := Nat.le_of_ble_eq_true hh.2
          unfold appN
          simp only [ht, ht', h2, fN_eq, h3]
          have hA : (and (and (Nat.blt 0 1) (Nat.ble (tbytes P el) 65536)) (and (and (Nat.beq [V.int .u8 0].length 1) (ones [V.int .u8 0])) (Nat.ble n 1073741824))) = true := by
            simp only [Bool.and_eq_true]
            exact ⟨⟨rfl, Nat.ble_eq_true_of_le h4⟩, ⟨rfl, rfl⟩, Nat.ble_eq_true_of_le (by omega)⟩
          rw [hA, cond_true, fL_eq, byL_zeros]
          exact appZ_eq hc.1 (Nat.pow_pos (by omega))
        · exact trivial
    · cases hc : and (isU8 P el) (toY h v1) with
      | false => exact appV_ok r hc1 hc2
      | true => exact (appV_ok (r.heq (exH_eq h).symm) hc1 hc2).heq (exH_eq h) (appY_eq ht hc2)
  · exact trivial

theorem copyB_ok (r : Rel G φ h w) (hc1 : CV φ v1 u1) (hc2 : CV φ v2 u2) : BOk P G φ h w (Builtin.copy_ #[t, t'] ty #[u1, u2]) (copyB P h t v1 v2) := by
  unfold copyB
  split
  · rename_i el ht
    split
    · rename_i b o len kc es op
      split
      · rename_i n s ty' st hb
        refine (copyV_ok (t := t) (t' := t') (r.heq (exH_eq h).symm) hc1 hc2).heq (exH_eq h) ?_
        refine cond_req fun hh => ?_
        have hh' := hh
        simp only [Bool.and_eq_true] at hh'
        obtain ⟨hu, he, hl⟩ := hh'
        obtain ⟨h1, h2, h3, h4⟩ := isU8_spec hu
        have he := Nat.eq_of_beq_eq_true he
        subst he
        rcases srcK_eq (P := P) (h := h) hc2 (fun m new => fN (Nat.min m len) fun k => fN (byP s o k (Nat.mod new (Nat.pow 256 k))) fun s => hSet h b (some (.byt n s ty' st)) fun h => R.v (.int .i64 (.ofNat k)) h) (.bad 94) with e1 | ⟨m, s', hs, e1, e2⟩
        · rw [e1]; exact REq.bad _ _
        · rw [e1]
          unfold copyV
          simp only [ht, h3]
          rw [show (and (Nat.blt 0 1) (Nat.beq 1 1)) = true from rfl, cond_true, e2]
          simp only [exH_byt hb, fN_eq, fL_eq, byL_ones]
          rw [show Nat.mul len 1 = len from Nat.mul_one len, hl, show (and true true) = true from rfl, cond_true, show Nat.mul (Nat.min m len) 1 = Nat.min m len from Nat.mul_one _, byL_take _ _ _ (Nat.min_le_left m len), wrK_eq, hSet_eq, hSet_eq, rInt_eq]
          exact REq.v ((exH_eq h).put b (beq_byt (wr_bytes (Nat.le_of_lt (lt_pow16 n)) (exT_get n s) (Nat.mod_lt _ (Nat.pow_pos (by omega))))) rfl rfl)
      · exact copyV_ok r hc1 hc2
    · exact copyV_ok r hc1 hc2
  · exact trivial

theorem clearB_ok (r : Rel G φ h w) (hc : CV φ v u) : BOk P G φ h w (Builtin.clear_ #[t] ty #[u]) (clearB P h t v) := by
  unfold clearB
  split
  · rename_i b o len kc es op
    split
    · rename_i n s ty' st hb
      split
      · rename_i el ht
        refine (clearV_ok (t := t) (r.heq (exH_eq h).symm) hc).heq (exH_eq h) ?_
        refine cond_req fun hh => ?_
        have hh' := hh
        simp only [Bool.and_eq_true] at hh'
        obtain ⟨hu, he, hl⟩ := hh'
        obtain ⟨h1, h2, h3, h4⟩ := isU8_spec hu
        have he := Nat.eq_of_beq_eq_true he
        subst he
        unfold clearV
        simp only [ht, h2, exH_byt hb]
        rw [show Nat.mul len 1 = len from Nat.mul_one len, hl]
        cases hlen : Nat.beq len 0 with
        | true =>
          have := Nat.eq_of_beq_eq_true hlen
          subst this
          exact REq.v (exH_eq h)
        | false =>
          have hp : Nat.blt 0 len = true := by
            have : len ≠ 0 := fun e => by subst e; cases hlen
            simp; omega
          rw [hp, show (and (and (Nat.beq 1 [V.int .u8 0].length) (ones [V.int .u8 0])) (and true true)) = true from rfl, cond_true, cond_false, byL_zeros, wrK_eq, hSet_eq, fN_eq, hSet_eq]
          exact REq.v ((exH_eq h).put b (beq_byt (wr_bytes (Nat.le_of_lt (lt_pow16 n)) (exT_get n s) (Nat.pow_pos (by omega)))) rfl rfl)
      · exact trivial
    · exact clearV_ok r hc
  · exact clearV_ok r hc

theorem usB_ok {it : TypeId} (r : Rel G φ h w) (hc1 : CV φ v1 u1) (hc2 : CV φ v2 u2) : BOk P G φ h w (Builtin.unsafeString_ #[t, it] ty #[u1, u2]) (usB P h t v1 v2) := by
  unfold usB
  split
  · rename_i b o
    split
    · rename_i n0 s ty' st hb
      split
      · rename_i n el ht
        refine (usV_ok (t := t) (it := it) (r.heq (exH_eq h).symm) hc1 hc2).heq (exH_eq h) ?_
        refine cond_req fun hh => ?_
        have hh' := hh
        simp only [Bool.and_eq_true] at hh'
        have h5 : o + (n + 1) ≤ n0 := Nat.le_of_ble_eq_true hh'.2.1
        unfold usV
        simp only [nat?, exH_byt hb, ht]
        rw [hh, cond_true, rdK_eq, byL_rd (exT_get n0 s) o (n + 1) h5, packK_of _ _ _ _ (byS_lt s o (n + 1)), hSet_eq, fN_eq, hSet_eq]
        exact REq.v ((exH_eq h).del b)
      · exact trivial
    · exact usV_ok r hc1 hc2
  · exact usV_ok r hc1 hc2
end
end Go.Proofs.YtkgiammeeckfbaaGreat
