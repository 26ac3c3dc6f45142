/- Operations on bytes that are packed. It is of no program. -/
import Derived.Test.YtkgiammeeckfbaaGreatEvPa
namespace Go.Proofs.YtkgiammeeckfbaaGreat
open Go Go.RowKit
set_option linter.all false

theorem byL_zero (s : Nat) : byL 0 s = [] := rfl
theorem byL_succ (n s : Nat) : byL (n + 1) s = bv s 0 :: byL n (s / 256) := by
  unfold byL
  rw [List.range_succ_eq_map, List.map_cons, List.map_map]
  congr 1
  apply List.map_congr_left
  intro i _
  show bv s (i + 1) = bv (s / 256) i
  unfold bv
  have := dg_shift s 1 i
  rw [Nat.pow_one] at this
  rw [this, Nat.add_comm]
theorem byL_get (n s i : Nat) (h : i < n) : (byL n s)[i]? = some (bv s i) := by simp [byL, h]
theorem byL_ext {n m s t : Nat} (hn : n = m) (h : ∀ i, i < n → dg s i = dg t i) : byL n s = byL m t := by
  subst hn
  unfold byL
  apply List.map_congr_left
  intro i hi
  unfold bv
  rw [h i (by simpa using hi)]
theorem byL_unp (n s : Nat) : (unp n s).map (fun b => V.int .u8 (.ofNat b.toNat)) = byL n s := by
  induction n generalizing s with
  | zero => rfl
  | succ n ih =>
    rw [unp_succ, byL_succ, List.map_cons, ih]
    congr 2
    simp [dg]
theorem byL_ones (n s : Nat) : ones (byL n s) = true := by
  induction n generalizing s with
  | zero => rfl
  | succ n ih => rw [byL_succ]; show (one (bv s 0) && ones (byL n (s / 256))) = true; rw [ih]; rfl
theorem byL_app (n m s t : Nat) (hs : s < 256 ^ n) : byL n s ++ byL m t = byL (n + m) (byC s n t) := by
  apply List.ext_getElem?
  intro i
  rw [byC_eq]
  by_cases h1 : i < n
  · rw [List.getElem?_append_left (by rw [byL_len]; exact h1), byL_get _ _ _ h1, byL_get _ _ _ (by omega)]
    unfold bv; rw [dg_app _ _ _ _ hs, if_pos h1]
  · rw [List.getElem?_append_right (by rw [byL_len]; omega), byL_len]
    by_cases h2 : i < n + m
    · rw [byL_get _ _ _ (by omega), byL_get _ _ _ h2]
      unfold bv; rw [dg_app _ _ _ _ hs, if_neg h1]
    · rw [List.getElem?_eq_none (by rw [byL_len]; omega), List.getElem?_eq_none (by rw [byL_len]; omega)]
theorem byC_lt {n m s t : Nat} (hs : s < 256 ^ n) (ht : t < 256 ^ m) : byC s n t < 256 ^ (n + m) := by rw [byC_eq]; exact app_lt hs ht
theorem byL_take (n k s : Nat) (h : k ≤ n) : (byL n s).take k = byL k (s % 256 ^ k) := by
  apply List.ext_getElem?
  intro i
  rw [List.getElem?_take]
  by_cases h1 : i < k
  · rw [if_pos h1, byL_get _ _ _ (by omega), byL_get _ _ _ h1]
    unfold bv; rw [dg_mod _ _ _ h1]
  · rw [if_neg h1, List.getElem?_eq_none (by rw [byL_len]; omega)]
theorem byL_rd {n d s : Nat} {t : Tr V d} (h : ∀ i, i < n → vGet d i t = bv s i) (o len : Nat) (hl : o + len ≤ n) : (List.range' o len).map (fun i => vGet d i t) = byL len (byS s o len) := by
  apply List.ext_getElem?
  intro i
  by_cases h1 : i < len
  · rw [byL_get _ _ _ h1, List.getElem?_map, List.getElem?_range' h1]
    simp only [Option.map_some, Nat.one_mul]
    rw [h _ (by omega)]
    unfold bv; rw [dg_byS _ _ _ _ h1]
  · rw [List.getElem?_eq_none (by simp; omega), List.getElem?_eq_none (by rw [byL_len]; omega)]
theorem wr_bytes {n d s o k x : Nat} {t : Tr V d} (hd : n ≤ 16 ^ d) (h : ∀ i, i < n → vGet d i t = bv s i) (hx : x < 256 ^ k) : ∀ i, i < n → vGet d i (wr d (byL k x) t o) = bv (byP s o k x) i := fun i hi => by
  rw [wr_in _ _ _ _ _ (by omega), byL_len]
  unfold bv
  rw [dg_byP _ _ _ _ _ hx]
  split
  · rename_i h1
    rw [List.getD, byL_get _ _ _ (by omega)]; rfl
  · exact h i hi
theorem beq_new {n s : Nat} {ty : TypeId} {st : Bool} (h : n ≤ 1048576) : BEq (.cells n (lvls n) (wr (lvls n) (byL n s) (trNew .und (lvls n)) 0) ty st) (.byt n s ty st) := beq_byt fun i hi => by
  rw [wr_in _ _ _ _ _ (by have := lvls_ok h; omega), if_pos (by rw [byL_len]; omega), List.getD, Nat.sub_zero, byL_get _ _ _ hi]; rfl
theorem beq_new2 {n s l : Nat} {ty : TypeId} {st : Bool} (hl : l = n) (h : n ≤ 1048576) : BEq (.cells n (lvls l) (wr (lvls l) (byL n s) (trNew .und (lvls l)) 0) ty st) (.byt n s ty st) := by subst hl; exact beq_new h
theorem byL_zeros (n : Nat) : repl [V.int .u8 0] n = byL n 0 := by
  induction n with
  | zero => rfl
  | succ n ih =>
    rw [byL_succ]
    show [V.int .u8 0] ++ repl [V.int .u8 0] n = _
    rw [ih]; rfl
theorem byL_cons (n x s : Nat) (h : x < 256) : V.int .u8 (.ofNat x) :: byL n s = byL (n + 1) (x + 256 * s) := by
  rw [byL_succ]
  have h1 : dg (x + 256 * s) 0 = x := by simp [dg]; omega
  have h2 : (x + 256 * s) / 256 = s := by omega
  rw [h2]; unfold bv; rw [h1]
theorem packK_byL {β : Type} (no : β) : ∀ (l : List V) (c : Nat → β), packK l c no = no ∨ ∃ s, s < 256 ^ l.length ∧ packK l c no = c s ∧ l = byL l.length s
  | [], c => .inr ⟨0, by simp, rfl, rfl⟩
  | v :: l, c => by
    rw [packK_cons]
    rcases packK_byL no l (pkF no c v) with h1 | ⟨s, h0, h1, h2⟩
    · exact .inl h1
    · rw [h1]
      unfold pkF
      split
      · rename_i z
        cases z with
        | negSucc z => exact .inl rfl
        | ofNat z =>
          show cond (Nat.blt z 256) (fN (Nat.add z (Nat.mul 256 s)) c) no = no ∨ _
          cases hb : Nat.blt z 256 with
          | false => exact .inl rfl
          | true =>
            right
            have hz : z < 256 := by simpa using hb
            refine ⟨z + 256 * s, by rw [List.length_cons, pow256]; omega, by show cond (Nat.blt z 256) (fN (Nat.add z (Nat.mul 256 s)) c) no = _; rw [hb, cond_true, fN_eq]; rfl, ?_⟩
            rw [List.length_cons, ← byL_cons _ _ _ hz, ← h2]
      · exact .inl rfl
theorem packK_of {β : Type} (no : β) : ∀ (n s : Nat) (c : Nat → β), s < 256 ^ n → packK (byL n s) c no = c s
  | 0, s, c, h => by have h0 : s = 0 := (by simpa using h); subst h0; rfl
  | n + 1, s, c, h => by
    rw [pow256] at h
    rw [byL_succ, packK_cons, packK_of no n (s / 256) _ (by omega)]
    show cond (Nat.blt (dg s 0) 256) (fN (Nat.add (dg s 0) (Nat.mul 256 (s / 256))) c) no = _
    have h1 : Nat.blt (dg s 0) 256 = true := by simp [dg_lt]
    have h2 : dg s 0 + 256 * (s / 256) = s := by simp [dg]; omega
    rw [h1, cond_true, fN_eq]
    show c (dg s 0 + 256 * (s / 256)) = _
    rw [h2]
theorem isU8_spec {P : Program} {e : TypeId} (h : isU8 P e = true) : P.underlying e = some (.int .u8) ∧ tzero P e = some [V.int .u8 0] ∧ tsz P e = 1 ∧ tbytes P e ≤ 65536 := by
  unfold isU8 at h
  split at h
  · rename_i h1
    split at h
    · rename_i z h2
      simp only [Bool.and_eq_true, ieq_eq, decide_eq_true_eq] at h
      exact ⟨h1, by rw [h2, h.1], Nat.eq_of_beq_eq_true h.2.1, Nat.le_of_ble_eq_true h.2.2⟩
    · cases h
  · cases h
theorem exH_byt {h : H} {b n s : Nat} {ty : TypeId} {st : Bool} (hb : hGet h b = some (.byt n s ty st)) : hGet (exH h) b = some (.cells n n (exT n s) ty st) := by rw [exH_get, hb]; rfl
theorem exH_cells {h : H} {b n d : Nat} {t : Tr V d} {ty : TypeId} {st : Bool} (hb : hGet h b = some (.cells n d t ty st)) : hGet (exH h) b = some (.cells n d t ty st) := by rw [exH_get, hb]; rfl

section
variable {P : Program} {G : Nat} {φ : Ph} {h : H} {w : World} {e : Env} {d : Option Nat} {ty t t' : TypeId} {pos : String} {aft : Array Edge} {g : Option (Nat × Bool)} {x y : Operand} {v v1 v2 : V} {u u1 u2 : Value} {ρ : Operand → V}

theorem loadB_ok (r : Rel G φ h w) (hx : Kn φ e x v) : QOk P φ h w e ⟨d, .load t x, ty, pos, aft, g⟩ (loadB P h t v) := by
  unfold loadB
  split
  · rename_i b o
    split
    · rename_i n s ty' st hb
      have q := loadV_ok (P := P) (d := d) (ty := ty) (pos := pos) (aft := aft) (g := g) (t := t) (r.heq (exH_eq h).symm) hx
      unfold loadV at q
      simp only [exH_byt hb] at q
      unfold loadY
      split
      · rename_i ht
        rw [ht] at q
        refine cond_q' fun hc => ?_
        have ho : o < n := by simpa using hc
        simp only [hc, cond_true] at q
        rw [exT_get _ _ _ ho, rV_some (by unfold bv; simp)] at q
        obtain ⟨-, u, h1, h2⟩ := q
        rw [fN_eq, byA_eq]
        exact QOk.pure h1 h2
      · exact trivial
    · exact loadV_ok r hx
  · exact loadV_ok r hx

theorem storeB_ok (r : Rel G φ h w) (hx : Kn φ e x v1) (hy : Kn φ e y v2) : ROk P G φ h w e ⟨d, .store t x y, ty, pos, aft, g⟩ (storeB P h t v1 v2) := by
  unfold storeB
  split
  · rename_i b o
    split
    · rename_i n s ty' st hb
      refine (storeV_ok (P := P) (d := d) (ty := ty) (pos := pos) (aft := aft) (g := g) (t := t) (r.heq (exH_eq h).symm) hx hy).heq (exH_eq h) ?_
      unfold storeY
      split
      · rename_i z
        cases hc : and (Nat.beq (tsz P t) 1) (and (Nat.blt z 256) (Nat.blt o n)) with
        | false => exact REq.bad _ _
        | true =>
          simp only [Bool.and_eq_true] at hc
          obtain ⟨h1, h2, h3⟩ := hc
          have h1 := Nat.eq_of_beq_eq_true h1
          have h2 : z < 256 := by simpa using h2
          have h3 : o < n := by simpa using h3
          unfold storeV
          simp only [exH_byt hb, fL_eq, h1, cond_true, fN_eq]
          have e1 : cellsOf (V.int .u8 (.ofNat z)) = byL 1 z := by
            rw [← Nat.add_zero z, show (0 : Nat) = 256 * 0 from rfl, ← byL_cons 0 z 0 h2]; rfl
          have e2 : (and (Nat.blt 0 1) (and (and (Nat.beq (cellsOf (V.int .u8 (.ofNat z))).length 1) (ones (cellsOf (V.int .u8 (.ofNat z))))) (Nat.ble (Nat.add o (cellsOf (V.int .u8 (.ofNat z))).length) n))) = true := by
            rw [e1, byL_len, byL_ones]
            simp only [Bool.and_eq_true]
            exact ⟨rfl, ⟨rfl, trivial⟩, Nat.ble_eq_true_of_le (by show o + 1 ≤ n; omega)⟩
          rw [e2, cond_true, wrK_eq, hSet_eq, hSet_eq, e1]
          exact REq.eff ((exH_eq h).put b (beq_byt (wr_bytes (Nat.le_of_lt (lt_pow16 n)) (exT_get n s) (by omega))) rfl rfl)
      · exact REq.bad _ _
    · exact storeV_ok r hx hy
  · exact storeV_ok r hx hy

theorem NwOk.beq {o : Oper} {X Z : B} {mk : Nat → V} (q : NwOk P φ w e o (some (X, mk))) (k : BEq X Z) (hr : isRo Z = false) : NwOk P φ w e o (some (Z, mk)) := by
  obtain ⟨obj, u, N, h1, h2, h3, h4⟩ := q
  exact ⟨obj, u, N, h1, hr, fun φ' hs => (k _ _ _).1 (h3 φ' hs), h4⟩
theorem makeSlB_ok (hx : Kn φ e x v1) (hy : Kn φ e y v2) : NwOk P φ w e ⟨d, .makeSlice t x y, ty, pos, aft, g⟩ (makeSlB P t v1 v2) := by
  unfold makeSlB
  split
  · rename_i el ht
    cases hu : isU8 P el with
    | false => exact makeSlN_ok hx hy
    | true =>
      obtain ⟨h1, h2, h3, h4⟩ := isU8_spec hu
      simp only [cond_true]
      split
      · rename_i k l k' c
        refine NwOk.cnd fun hc => ?_
        simp only [Bool.and_eq_true] at hc
        have c1 := Nat.le_of_ble_eq_true hc.1
        have c2 := Nat.le_of_ble_eq_true hc.2
        have q := makeSlN_ok (P := P) (w := w) (d := d) (ty := ty) (pos := pos) (aft := aft) (g := g) (t := t) hx hy
        unfold makeSlN at q
        have e1 : (and (Nat.beq [V.int .u8 0].length 1) (and (Nat.ble l c) (and (Nat.ble c 1073741824) (Nat.ble (Nat.mul (tbytes P el) c) 281474976710656)))) = true := by
          have := Nat.mul_le_mul h4 c2
          simp only [Bool.and_eq_true]
          exact ⟨rfl, Nat.ble_eq_true_of_le c1, Nat.ble_eq_true_of_le (by omega), Nat.ble_eq_true_of_le (by show tbytes P el * c ≤ _; omega)⟩
        simp only [nat?, ht, h2, h3] at q
        rw [e1] at q
        simp only [cond_true, fL_eq, byL_zeros, byL_ones, newB_eq, fN_eq, byL_len] at q
        simp only [fN_eq]
        exact q.beq (beq_new2 (byL_len _ _) c2) rfl
      · exact trivial
  · exact trivial
theorem buildSlB_ok {n : Nat} {ps : List (Nat × V)} {pu : List (Nat × Value)} {pp : List (Nat × Operand)} (q : NwOk P φ w e ⟨d, .buildSlice t n pp.toArray, ty, pos, aft, g⟩ (buildSlN P t n ps)) : NwOk P φ w e ⟨d, .buildSlice t n pp.toArray, ty, pos, aft, g⟩ (buildSlB P t n ps) := by
  unfold buildSlB
  split
  · rename_i el ht
    cases hu : and (isU8 P el) (Nat.ble n 1048576) with
    | false => exact q
    | true =>
      simp only [Bool.and_eq_true] at hu
      obtain ⟨h1, h2, h3, h4⟩ := isU8_spec hu.1
      have hn := Nat.le_of_ble_eq_true hu.2
      simp only [cond_true]
      split
      · rename_i l hl
        rcases packK_byL (none : Nw) l (fun s => cond (Nat.beq l.length n) (some (.byt n s el false, fun b => .sl b 0 n n 1 false)) none) with h5 | ⟨s, h5, h6, h7⟩
        · rw [h5]; exact trivial
        · rw [h6]
          refine NwOk.cnd fun hc => ?_
          have hln := Nat.eq_of_beq_eq_true hc
          unfold buildSlN at q
          have e1 : (and (ones [V.int .u8 0]) (and (Nat.beq [V.int .u8 0].length 1) (Nat.ble (Nat.mul n 1) 16777216))) = true := by
            simp only [Bool.and_eq_true]
            exact ⟨rfl, rfl, Nat.ble_eq_true_of_le (by show n * 1 ≤ _; omega)⟩
          have hl' : fillV (fun i => some (i * tsz P el, tsz P el)) (repl [V.int .u8 0] n) ps = some (byL n s) := by rw [hl]; congr 1; rw [← hln]; exact h7
          simp only [h3] at hl'
          simp only [ht, h2, h3] at q
          rw [e1] at q
          simp only [cond_true, hl', fL_eq, byL_ones, newB_eq, byL_len, fN_eq] at q
          exact q.beq (beq_new2 (byL_len _ _) hn) rfl
      · exact trivial
  · exact trivial

theorem growY_eq {gm : H} (k : HEq gm h) (n s el : Nat) : REq (grow gm (byL n s) n 1 el) (growY h n s el) := by
  unfold growY
  cases hc : Nat.ble n 1048576 with
  | false => exact REq.bad _ _
  | true =>
    have hn := Nat.le_of_ble_eq_true hc
    unfold grow
    rw [byL_ones, newCells_eq, byL_len]
    simp only [cond_true, fN_eq]
    rw [hNew_eq, k.next]
    have := k.new (beq_new (s := s) (ty := el) (st := true) hn) rfl rfl
    rw [k.next] at this
    exact REq.v this

theorem convB_ok (r : Rel G φ h w) (hx : Kn φ e x v) : ROk P G φ h w e ⟨d, .convert t t' x, ty, pos, aft, g⟩ (convB P h t t' v) := by
  unfold convB
  split
  · rename_i n s
    split
    · rename_i el h1 h2
      cases hu : isU8 P el with
      | false => exact conv_ok r hx
      | true =>
        obtain ⟨h3, -⟩ := isU8_spec hu
        refine (conv_ok (P := P) (t := t) (t' := t') (d := d) (ty := ty) (pos := pos) (aft := aft) (g := g) r hx).heq (HEq.refl h) ?_
        have e1 : conv P h t t' (.str n s) = grow h (byL n s) n 1 el := by
          unfold conv grow
          simp only [h1, h2, h3, fL_eq, byL_unp, byL_ones, cond_true]
        rw [e1]
        exact growY_eq (HEq.refl h) n s el
    · exact conv_ok r hx
  · rename_i b o len kc es op
    split
    · rename_i n s ty' st hb
      split
      · rename_i el h1 h2
        split
        · rename_i h3
          cases hc : and (Nat.beq es 1) (Nat.ble (Nat.add o len) n) with
          | false => exact trivial
          | true =>
            refine (conv_ok (P := P) (t := t) (t' := t') (d := d) (ty := ty) (pos := pos) (aft := aft) (g := g) (r.heq (exH_eq h).symm) hx).heq (exH_eq h) ?_
            have hc' := hc
            simp only [Bool.and_eq_true] at hc
            have h5 : o + len ≤ n := Nat.le_of_ble_eq_true hc.2
            unfold conv
            simp only [h1, h2, h3, exH_byt hb, hc', cond_true, rdK_eq, byL_rd (exT_get n s) o len h5, packK_of _ _ _ _ (byS_lt s o len), fN_eq]
            exact REq.v (exH_eq h)
        · exact trivial
      · exact trivial
    · exact conv_ok r hx
  · exact conv_ok r hx
end
end Go.Proofs.YtkgiammeeckfbaaGreat
