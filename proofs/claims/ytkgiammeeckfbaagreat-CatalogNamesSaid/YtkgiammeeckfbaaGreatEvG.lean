/- The reckoner's operations on slices: parts of them, append, copy, texts and bytes. It is of no program. -/
import Derived.Test.YtkgiammeeckfbaaGreatEvF
namespace Go.Proofs.YtkgiammeeckfbaaGreat
open Go Go.RowKit
set_option linter.all false

section
variable {P : Program} {G : Nat} {φ : Ph} {h : H} {w : World} {e : Env} {d : Option Nat} {ty t t' : TypeId} {pos : String} {aft : Array Edge} {g : Option (Nat × Bool)} {x y : Operand} {v v1 v2 : V} {u u1 u2 : Value} {ρ : Operand → V}

/-- A bound, or what stands in its place. -/
def Bd (e : Env) (lo : Option Operand) (l dflt : Nat) : Prop := (lo = none ∧ l = dflt) ∨ ∃ o k, lo = some o ∧ look e o = some (.int k (l : Int))
theorem bnd_spec (hρ : RhoR φ ρ e) {lo : Option Operand} {l dflt : Nat} (hb : bnd (lo.map ρ) dflt = some l) : Bd e lo l dflt := by
  cases lo with
  | none => left; simp [bnd] at hb; exact ⟨rfl, hb.symm⟩
  | some o =>
    right
    simp only [Option.map_some, bnd] at hb
    split at hb
    · rename_i he; cases he
    · rename_i k z he
      simp only [Option.some.injEq] at he
      rw [nat?_eq] at hb
      split at hb
      · rename_i hz
        simp at hb
        obtain ⟨u, h1, h2⟩ := hρ o (by rw [he]; simp)
        rw [he] at h2
        cases h2
        exact ⟨o, k, rfl, by rw [h1, ← hb, Int.toNat_of_nonneg hz]⟩
      · cases hb
    · cases hb
theorem run_bound {k : IntKind} {l y : Nat} {code : BoundsCode} (h : l ≤ y) : (Instr.sliceBound (.int k (l : Int)) y code).run P w = .ok l w := by
  have : (0 : Int) ≤ (l : Int) ∧ (l : Int) ≤ (y : Int) := by omega
  simp [Instr.sliceBound, asIntOf, h]
theorem run_bounds {isSl : Bool} {len cap l r : Nat} {lo hi : Option Operand} {ρ : Operand → Value} (hρ : ∀ x v, look e x = some v → ρ x = v) (h1 : Bd e lo l 0) (h2 : Bd e hi r len) (h3 : l ≤ r) (h4 : r ≤ cap) :
    (Instr.sliceBounds isSl len cap (lo.map ρ) (hi.map ρ) none).run P w = .ok (l, r, cap) w := by
  rcases h1 with ⟨rfl, rfl⟩ | ⟨o1, k1, rfl, e1⟩ <;> rcases h2 with ⟨rfl, rfl⟩ | ⟨o2, k2, rfl, e2⟩
  · simp [Instr.sliceBounds]
  · simp only [Instr.sliceBounds, Option.map_none, Option.map_some, hρ _ _ e2, Sem.run_bind, Sem.run_pure, Result.andThen_ok, run_bound h4]
  · simp only [Instr.sliceBounds, Option.map_none, Option.map_some, hρ _ _ e1, Sem.run_bind, Sem.run_pure, Result.andThen_ok, run_bound h3]
  · simp only [Instr.sliceBounds, Option.map_none, Option.map_some, hρ _ _ e1, hρ _ _ e2, Sem.run_bind, Sem.run_pure, Result.andThen_ok, run_bound h3, run_bound h4]
theorem run_bounds3 {isSl : Bool} {len cap l r m : Nat} {lo hi mx : Option Operand} {ρ : Operand → Value} {o2 o3 : Operand} {k2 k3 : IntKind} (hρ : ∀ x v, look e x = some v → ρ x = v) (h1 : Bd e lo l 0) (h2 : hi = some o2 ∧ look e o2 = some (.int k2 (r : Int))) (h2' : mx = some o3 ∧ look e o3 = some (.int k3 (m : Int)))
    (h3 : l ≤ r) (h4 : r ≤ m) (h5 : m ≤ cap) : (Instr.sliceBounds isSl len cap (lo.map ρ) (hi.map ρ) (mx.map ρ)).run P w = .ok (l, r, m) w := by
  obtain ⟨rfl, e2⟩ := h2
  obtain ⟨rfl, e3⟩ := h2'
  rcases h1 with ⟨rfl, rfl⟩ | ⟨o1, k1, rfl, e1⟩
  · simp only [Instr.sliceBounds, Option.map_none, Option.map_some, hρ _ _ e2, hρ _ _ e3, Sem.run_bind, Sem.run_pure, Result.andThen_ok, run_bound h4, run_bound h5]
  · simp only [Instr.sliceBounds, Option.map_none, Option.map_some, hρ _ _ e1, hρ _ _ e2, hρ _ _ e3, Sem.run_bind, Sem.run_pure, Result.andThen_ok, run_bound h3, run_bound h4, run_bound h5]

theorem slV_ok {lo hi mx : Option Operand} (r : Rel G φ h w) (hρ : RhoR φ ρ e) : QOk P φ h w e ⟨d, .slice t x lo hi mx, ty, pos, aft, g⟩ (slV P h t (ρ x) (lo.map ρ) (hi.map ρ) (mx.map ρ)) := by
  have hx0 := hρ x
  generalize ρ x = v at hx0
  unfold slV
  split <;> try exact trivial
  · rename_i n s
    obtain ⟨u, hx, hc⟩ := hx0 (by simp)
    cases hc with
    | str hs =>
    split <;> try exact trivial
    rename_i l j ht hm hl hr
    have hm : mx = none := by cases mx with | none => rfl | some _ => simp at hm
    subst hm
    have hl := bnd_spec hρ hl
    have hr := bnd_spec hρ hr
    refine cond_q' fun hh => ?_
    simp only [Bool.and_eq_true] at hh
    have h1 : l ≤ j := Nat.le_of_ble_eq_true hh.1
    have h2 : j ≤ n := Nat.le_of_ble_eq_true hh.2
    rw [rStr_eq]
    have he : ((unp n s).drop l).take (j - l) = unp (j - l) (s / 256 ^ l % 256 ^ (j - l)) := by
      rw [unp_drop, unp_take _ _ _ (by omega)]
    refine QOk.pure (u := S (((unp n s).drop l).take (j - l))) (fun ρ hρ' => ?_) (by rw [he]; exact .str (Nat.mod_lt _ (Nat.pow_pos (by decide))))
    have hb := run_bounds (P := P) (w := w) (isSl := false) (len := n) (cap := n) hρ' hl hr h1 h2
    have hsz : (ByteArray.mk (unp n s).toArray).size = n := by rw [size_S]; simp
    simp only [execOp, hρ' _ _ hx, Instr.sliceAt, run_underlying ht, Sem.run_bind, Result.andThen_ok, Instr.slice, Option.map_none, Option.isSome_none, Bool.false_eq_true, if_false, Sem.run_ite, Sem.run_pure, hsz, hb, extract_S]
  · rename_i b o
    obtain ⟨u, hx, hc⟩ := hx0 (by simp)
    cases hc with
    | @ptr _ _ b' a N hp =>
    split <;> try exact trivial
    rename_i n el nb _ _ _ _ ht hm hb
    have hm : mx = none := by cases mx with | none => rfl | some _ => simp at hm
    subst hm
    split <;> try exact trivial
    rename_i l j hl hr
    have hl := bnd_spec hρ hl
    have hr := bnd_spec hρ hr
    refine cond_q' fun hh => ?_
    simp only [Bool.and_eq_true] at hh
    obtain ⟨⟨h1, h2⟩, h3, h4, h5⟩ := hh
    have h1 := Nat.le_of_ble_eq_true h1
    have h2 := Nat.le_of_ble_eq_true h2
    have h3 : l < n := by simpa using h3
    have h4 : 0 < tsz P el := by simpa using h4
    have h5 : o + n * tsz P el ≤ nb := Nat.le_of_ble_eq_true h5
    obtain ⟨hN, -⟩ := r.cells hb hp
    simp only at hN
    simp only [fN_eq]
    have e1 : l * tsz P el + (n - l) * tsz P el = n * tsz P el := by rw [← Nat.add_mul]; congr 1; omega
    refine QOk.pure (u := .slice (some ⟨b', a + (o + l * tsz P el), none⟩) (j - l) (n - l)) (fun ρ hρ' => ?_) (.sl hp (Nat.sub_le_sub_right h2 l) (Nat.le_refl _) (fun _ => rfl) (by simp only [Nat.add_eq, Nat.mul_eq]; omega))
    have hbd := run_bounds (P := P) (w := w) (isSl := false) (len := n) (cap := n) hρ' hl hr h1 h2
    have hs := run_sz' h4 w
    have hne : ¬ n = l := by omega
    simp only [execOp, hρ' _ _ hx, Instr.sliceAt, run_underlying ht, Sem.run_bind, Result.andThen_ok, Instr.sureAddr, Sem.run_pure, Option.map_none, hbd, hs, hne, if_false, add_off, Nat.add_assoc]
  · rename_i b o len kc es op
    obtain ⟨u, hx, hc⟩ := hx0 (by simp)
    cases hc with
    | @sl _ _ _ _ _ _ b' a N c' hp q1 q2 q3 q4 =>
    split <;> try exact trivial
    rename_i el ht
    refine cond_q' fun hh => ?_
    simp only [Bool.and_eq_true] at hh
    have h0 : 0 < es := by simpa using hh.1
    have hes : es = tsz P el := Nat.eq_of_beq_eq_true hh.2
    have hs := run_sz' (show 0 < tsz P el by omega) w
    split
    · rename_i hm
      have hm : mx = none := by cases mx with | none => rfl | some _ => simp at hm
      subst hm
      split <;> try exact trivial
      rename_i l j hl hr
      have hl := bnd_spec hρ hl
      have hr := bnd_spec hρ hr
      refine cond_q' fun hh => ?_
      simp only [Bool.and_eq_true] at hh
      have h1 := Nat.le_of_ble_eq_true hh.1
      have h2 := Nat.le_of_ble_eq_true hh.2
      have hbd : ∀ {ρ : Operand → Value}, (∀ x v, look e x = some v → ρ x = v) → _ := fun {ρ} hρ' => run_bounds (P := P) (w := w) (isSl := true) (len := len) (cap := c') hρ' hl hr h1 (by omega)
      refine cond_q (fun hlk => ?_) fun hlk => ?_
      · have hlk := Nat.eq_of_beq_eq_true hlk
        subst hlk
        have hj : j = l := by omega
        subst hj
        refine cond_q (fun hop => ?_) fun hop => ?_
        · by_cases hcl : c' = j
          · subst hcl
            refine QOk.pure (u := .slice (some ⟨b', a + o, none⟩) 0 0) (fun ρ hρ' => ?_) (.es hp (by simp; omega))
            simp only [execOp, hρ' _ _ hx, Instr.sliceAt, run_underlying ht, Sem.run_bind, Result.andThen_ok, Instr.slice, Option.map_none, hbd hρ', hs, Sem.run_pure, if_true, Nat.sub_self]
          · refine QOk.pure (u := .slice (some ⟨b', a + o + j * es, none⟩) 0 (c' - j)) (fun ρ hρ' => ?_) (.es hp ?_)
            · simp only [execOp, hρ' _ _ hx, Instr.sliceAt, run_underlying ht, Sem.run_bind, Result.andThen_ok, Instr.slice, Option.map_none, hbd hρ', hs, Sem.run_pure, hcl, if_false, Nat.sub_self, Option.map_some, add_off, hes]
            · have e1 : j * es + (c' - j) * es = c' * es := by rw [← Nat.add_mul]; congr 1; omega
              omega
        · have hck := q3 hop
          subst hck
          refine QOk.pure (u := .slice (some ⟨b', a + o, none⟩) 0 0) (fun ρ hρ' => ?_) (.sl hp (Nat.le_refl _) (Nat.le_refl _) (fun _ => rfl) (by simp; omega))
          simp only [execOp, hρ' _ _ hx, Instr.sliceAt, run_underlying ht, Sem.run_bind, Result.andThen_ok, Instr.slice, Option.map_none, hbd hρ', hs, Sem.run_pure, if_true, Nat.sub_self]
      · have hlk : ¬ l = kc := fun h => by rw [h] at hlk; simp at hlk
        have hne : ¬ c' = l := by omega
        simp only [fN_eq]
        have e1 : l * es + (c' - l) * es = c' * es := by rw [← Nat.add_mul]; congr 1; omega
        refine QOk.pure (u := .slice (some ⟨b', a + (o + l * es), none⟩) (j - l) (c' - l)) (fun ρ hρ' => ?_) (.sl hp (Nat.sub_le_sub_right h2 l) (Nat.sub_le_sub_right q2 l) (fun hop => by rw [q3 hop]; rfl) (by simp only [Nat.add_eq, Nat.mul_eq]; omega))
        simp only [execOp, hρ' _ _ hx, Instr.sliceAt, run_underlying ht, Sem.run_bind, Result.andThen_ok, Instr.slice, Option.map_none, hbd hρ', hs, Sem.run_pure, hne, if_false, Option.map_some, add_off, ← hes, Nat.add_assoc]
    · rename_i m hm
      split <;> try exact trivial
      rename_i hi' hhi
      split <;> try exact trivial
      rename_i l j m' hl hr hmm
      have hl := bnd_spec hρ hl
      rw [← hhi] at hr
      rw [← hm] at hmm
      have hr := bnd_spec hρ hr
      have hmm := bnd_spec hρ hmm
      refine cond_q' fun hh => ?_
      simp only [Bool.and_eq_true] at hh
      obtain ⟨⟨h1, h2⟩, h3, h4⟩ := hh
      have h1 := Nat.le_of_ble_eq_true h1
      have h2 := Nat.le_of_ble_eq_true h2
      have h3 := Nat.le_of_ble_eq_true h3
      have h4 : l < m' := by simpa using h4
      rcases hr with ⟨rfl, -⟩ | ⟨o2, k2, hhi2, e2⟩
      · simp at hhi
      rcases hmm with ⟨rfl, -⟩ | ⟨o3, k3, hmx2, e3⟩
      · simp at hm
      have hne : ¬ m' = l := by omega
      simp only [fN_eq]
      have e1 : l * es + (m' - l) * es = m' * es := by rw [← Nat.add_mul]; congr 1; omega
      have e4 : m' * es ≤ c' * es := Nat.mul_le_mul_right _ (by omega)
      refine QOk.pure (u := .slice (some ⟨b', a + (o + l * es), none⟩) (j - l) (m' - l)) (fun ρ hρ' => ?_) (.sl hp (Nat.sub_le_sub_right h2 l) (Nat.le_refl _) (fun _ => rfl) (by simp only [Nat.add_eq, Nat.mul_eq]; omega))
      have hbd := run_bounds3 (P := P) (w := w) (isSl := true) (len := len) (cap := c') hρ' hl ⟨hhi2, e2⟩ ⟨hmx2, e3⟩ h1 h2 (by omega)
      simp only [execOp, hρ' _ _ hx, Instr.sliceAt, run_underlying ht, Sem.run_bind, Result.andThen_ok, Instr.slice, hbd, hs, Sem.run_pure, hne, if_false, Option.map_some, add_off, ← hes, Nat.add_assoc]
  · rename_i b es
    obtain ⟨u, hx, hc⟩ := hx0 (by simp)
    cases hc with
    | @es _ _ b' a N off c' hp hN =>
    split <;> try exact trivial
    rename_i el ht hl hr hm
    have hm : mx = none := by cases mx with | none => rfl | some _ => simp at hm
    subst hm
    have hl := bnd_spec hρ hl
    have hr := bnd_spec hρ hr
    refine cond_q' fun h4 => ?_
    have hs := run_sz' (show 0 < tsz P el by simpa using h4) w
    refine QOk.pure (u := .slice (some ⟨b', off, none⟩) 0 c') (fun ρ hρ' => ?_) (.es hp hN)
    have hbd := run_bounds (P := P) (w := w) (isSl := true) (len := 0) (cap := c') hρ' hl hr (Nat.le_refl _) (Nat.zero_le _)
    have hz : ∀ b, (if b = 0 then some (⟨b', off, none⟩ : Addr) else Option.map (fun x => x.add (0 * tsz P el)) (some (⟨b', off, none⟩ : Addr))) = some ⟨b', off, none⟩ := fun b => by split <;> simp [Addr.add]
    simp only [execOp, hρ' _ _ hx, Instr.sliceAt, run_underlying ht, Sem.run_bind, Result.andThen_ok, Instr.slice, Option.map_none, hbd, hs, Sem.run_pure, hz, Nat.sub_zero]
  · obtain ⟨u, hx, hc⟩ := hx0 (by simp)
    cases hc
    split <;> try exact trivial
    rename_i el ht hl hr hm
    have hm : mx = none := by cases mx with | none => rfl | some _ => simp at hm
    subst hm
    have hl := bnd_spec hρ hl
    have hr := bnd_spec hρ hr
    refine cond_q' fun h4 => ?_
    have hs := run_sz' (show 0 < tsz P el by simpa using h4) w
    refine QOk.pure (u := .slice none 0 0) (fun ρ hρ' => ?_) .nsl
    have hbd := run_bounds (P := P) (w := w) (isSl := true) (len := 0) (cap := 0) hρ' hl hr (Nat.le_refl _) (Nat.zero_le _)
    simp only [execOp, hρ' _ _ hx, Instr.sliceAt, run_underlying ht, Sem.run_bind, Result.andThen_ok, Instr.slice, Option.map_none, hbd, hs, Sem.run_pure, if_true, Nat.sub_zero]

/-! ### Elements -/
/-- What append and copy read of a value: m elements of size es, these cells. -/
structure Elm (P : Program) (es : Nat) (u : Value) (m : Nat) (news : List Value) (w : World) : Prop where
  len : ∀ w' : World, (Builtin.lenOf u).run P w' = .ok m w'
  first : ∀ k w', k ≤ m → w'.heap = w.heap → (Builtin.firstCells es k u).run P w' = .ok (news.take (k * es)).toArray w'
  newsLen : news.length = m * es

theorem elm_slice {b' off len c es : Nat} {news : List Value} (hl : news.length = len * es) (hc : ∀ j u, news[j]? = some u → w.cell? ⟨b', off + j, none⟩ = some u) : Elm P es (.slice (some ⟨b', off, none⟩) len c) len news w := by
  refine ⟨fun _ => rfl, fun k w' hk hw => ?_, hl⟩
  have hr := run_loadCells_list (P := P) w' ⟨b', off, none⟩ (news.take (k * es)) (fun j v hj => by
    rw [add_off]
    rw [List.getElem?_take] at hj
    split at hj
    · have := hc j v hj
      rw [← this]
      simp only [World.cell?, hw]
    · cases hj)
  rw [List.length_take, Nat.min_eq_left (by rw [hl]; exact Nat.mul_le_mul_right _ hk)] at hr
  exact hr
theorem elm_nil (es c : Nat) : Elm P es (.slice none 0 c) 0 [] w :=
  ⟨fun _ => rfl, fun k w' hk _ => by simp [Builtin.firstCells], by simp⟩
theorem u8_cvs (l : List UInt8) : CVs φ (l.map fun b => V.int .u8 (.ofNat b.toNat)) (l.map u8v) := by
  induction l with
  | nil => exact .nil
  | cons a l ih => exact .cons .int ih
theorem elm_str (l : List UInt8) : Elm P 1 (S l) l.length (l.map u8v) w := by
  refine ⟨fun w' => ?_, fun k w' hk _ => ?_, by simp⟩
  · simp only [Builtin.lenOf, Sem.run_pure, size_S]
  · simp only [Builtin.firstCells, Sem.run_pure, extract_S, Nat.mul_one]
    congr 1
    apply Array.toList_inj.1
    simp [List.map_take]
    rfl

theorem elems_eq {β : Type} {es : Nat} (r : Rel G φ h w) (hc : CV φ v u) (c : Nat → List V → β) (no : β) :
    elems P h v es c no = no ∨ ∃ m l news, elems P h v es c no = c m l ∧ CVs φ l news ∧ Elm P es u m news w := by
  unfold elems
  split
  · cases hc
    exact .inr ⟨0, [], [], rfl, .nil, elm_nil es 0⟩
  · cases hc with
    | @es _ _ b' a N off c' hp hN => exact .inr ⟨0, [], [], rfl, .nil, elm_slice (by simp) (fun j u h => by simp at h)⟩
  · rename_i b o len kc es' op
    cases hc with
    | @sl _ _ _ _ _ _ b' a N c' hp q1 q2 q3 q4 =>
    split
    · rename_i n dd tr ty' st hb
      obtain ⟨hN, us, T, fz, hB, hlen, hT, -⟩ := r.cells hb hp
      cases hcd : and (Nat.beq es es') (Nat.ble (Nat.add o (Nat.mul len es)) n) with
      | false => exact .inl rfl
      | true =>
        right
        simp only [Bool.and_eq_true] at hcd
        have h1 := Nat.eq_of_beq_eq_true hcd.1
        have h2 : o + len * es ≤ n := Nat.le_of_ble_eq_true hcd.2
        simp only [cond_true, rdK_eq]
        have hcv := hT.read h2
        refine ⟨len, _, _, rfl, hcv, elm_slice ?_ (hB.blk.cells rfl)⟩
        rw [hcv.len]; simp
    · exact .inl rfl
  · rename_i n s
    cases hc with
    | str hs =>
    cases hcd : Nat.beq es 1 with
    | false => exact .inl rfl
    | true =>
      right
      have := Nat.eq_of_beq_eq_true hcd
      subst this
      simp only [cond_true, fL_eq]
      have := elm_str (P := P) (w := w) (unp n s)
      rw [unp_length] at this
      exact ⟨n, _, _, rfl, u8_cvs _, this⟩
  · exact .inl rfl

theorem Elm.src {es m : Nat} {news : List Value} {t : TypeId} {v : V} (hE : Elm P es u m news w) (hs : srcOk P t v es = true) (h1 : ∀ c ∈ news, c.oneCell' = true) : Src P es t u m news w := by
  have hk : (∃ e', P.underlying t = some (.slice e')) ∨ P.underlying t = some .string := by
    unfold srcOk at hs
    split at hs
    · rename_i e' _ _ _ _ _ _ hu; exact .inl ⟨e', hu⟩
    · rename_i e' _ _ hu; exact .inl ⟨e', hu⟩
    · rename_i e' hu; exact .inl ⟨e', hu⟩
    · rename_i hu; exact .inr hu
    · cases hs
  have hf := hE.first m
  rw [List.take_of_length_le (by rw [hE.newsLen]; exact Nat.le_refl _)] at hf
  exact ⟨hk, hE.len, hf w (Nat.le_refl _) rfl, hf w.drew (Nat.le_refl _) rfl, hE.newsLen, h1⟩

/-- What a builtin answers. -/
def BOk (P : Program) (G : Nat) (φ : Ph) (h : H) (w : World) (s : Sem Value) : R → Prop
  | .v x h' => ∃ u w' φ', s.run P w = .ok u w' ∧ Post G φ h w φ' h' w' ∧ CV φ' x u
  | .bad _ => True
  | _ => False
theorem BOk.pure {s : Sem Value} {v : V} {u : Value} (r : Rel G φ h w) (hy : s.run P w = .ok u w) (hc : CV φ v u) : BOk P G φ h w s (.v v h) := ⟨u, w, φ, hy, Post.refl r, hc⟩
theorem BOk.cnd {s : Sem Value} {b : Bool} {p q : R} (h1 : b = true → BOk P G φ h w s p) (h2 : b = false → BOk P G φ h w s q) : BOk P G φ h w s (cond b p q) := by
  cases b with
  | true => exact h1 rfl
  | false => exact h2 rfl
theorem BOk.cnd' {s : Sem Value} {b : Bool} {p : R} {n : Nat} (h1 : b = true → BOk P G φ h w s p) : BOk P G φ h w s (cond b p (.bad n)) := BOk.cnd h1 fun _ => trivial

/-- A builtin that changes nothing. -/
def QB (P : Program) (φ : Ph) (h : H) (w : World) (s : Sem Value) : R → Prop
  | .v x h' => h' = h ∧ ∃ u, s.run P w = .ok u w ∧ CV φ x u
  | .bad _ => True
  | _ => False
theorem QB.pure {s : Sem Value} {v : V} {u : Value} (hy : s.run P w = .ok u w) (hc : CV φ v u) : QB P φ h w s (.v v h) := ⟨rfl, u, hy, hc⟩
theorem QB.cnd {s : Sem Value} {b : Bool} {p q : R} (h1 : b = true → QB P φ h w s p) (h2 : b = false → QB P φ h w s q) : QB P φ h w s (cond b p q) := by
  cases b with
  | true => exact h1 rfl
  | false => exact h2 rfl
theorem QB.cnd' {s : Sem Value} {b : Bool} {p : R} {n : Nat} (h1 : b = true → QB P φ h w s p) : QB P φ h w s (cond b p (.bad n)) := QB.cnd h1 fun _ => trivial
theorem QB.bok {s : Sem Value} {rr : R} (r : Rel G φ h w) (q : QB P φ h w s rr) : BOk P G φ h w s rr := by
  cases rr with
  | v x h' => obtain ⟨rfl, u, h1, h2⟩ := q; exact BOk.pure r h1 h2
  | bad _ => exact trivial
  | eff _ => exact q.elim
  | call _ _ => exact q.elim
  | yld _ _ => exact q.elim
  | dfr _ _ _ => exact q.elim
theorem BOk.after {s : Sem Value} {h1 : H} {q : R} (p : Post G φ h w φ h1 w) (k : BOk P G φ h1 w s q) : BOk P G φ h w s q := by
  cases q with
  | v x h' => obtain ⟨u, w', φ', h1, h2, h3⟩ := k; exact ⟨u, w', φ', h1, p.trans h2, h3⟩
  | bad n => exact trivial
  | eff _ => exact k.elim
  | call _ _ => exact k.elim
  | yld _ _ => exact k.elim
  | dfr _ _ _ => exact k.elim

/-- A block gets a new number. -/
theorem Rel.renew (r : Rel G φ h w) {b : Nat} {x y : B} {p : Nat × Nat × Nat} {a N : Nat} {w' : World} (hb : hGet h b = some x) (hro : isRo x = false) (hp : φ b = some p) (k : Kp (fun i => i = p.1) w w')
    (hy : BR (addPh φ h.next (p.1, a, N)) y (p.1, a, N) w') (hyr : isRo y = false := by rfl) : Post G φ h w (addPh φ h.next (p.1, a, N)) ⟨trPut HD h.next (trPut HD b h.t none) (some y), h.next + 1⟩ w' := by
  have hsb := addPh_sb r (p.1, a, N)
  have hbn : b ≠ h.next := fun e => by have := r.next_none hp; omega
  have hold : ∀ c z, c ≠ h.next → hGet ⟨trPut HD h.next (trPut HD b h.t none) (some y), h.next + 1⟩ c = some z → c ≠ b ∧ hGet h c = some z := fun c z hn hz => by
    have h1 : hGet ⟨trPut HD b h.t none, h.next⟩ c = some z := by
      have := hGet_put_ne (h := ⟨trPut HD b h.t none, h.next⟩) (x := some y) (n := h.next + 1) hn
      rw [← this]; exact hz
    by_cases e : c = b
    · subst e
      have := hGet_put_same h1; cases this
    · exact ⟨e, by rwa [hGet_put_ne e] at h1⟩
  have hph : ∀ c q, c ≠ h.next → addPh φ h.next (p.1, a, N) c = some q → φ c = some q := fun c q hn hq => by unfold addPh at hq; rwa [if_neg hn] at hq
  refine ⟨hsb, ⟨fun c d' z z' q q' hc hd hq hq' e => ?_, fun c z hc => ?_, fun c hc => ?_, fun g hg => ?_⟩, k.mono' fun i hi => ⟨b, x, p, hb, hro, hp, hi.symm⟩, fun j ⟨c, z, q, hc, hro', hq, e⟩ => .inl ?_, (Hp.del b).trans (Hp.new (h := ⟨trPut HD b h.t none, h.next⟩) _ hyr)⟩
  · by_cases h1 : c = h.next
    · by_cases h2 : d' = h.next
      · rw [h1, h2]
      · exfalso
        subst h1
        rw [addPh_same] at hq
        cases hq
        have hh := hold _ _ h2 hd
        exact hh.1 (r.inj _ _ _ _ _ _ hh.2 hb (hph _ _ h2 hq') hp e.symm)
    · by_cases h2 : d' = h.next
      · exfalso
        subst h2
        rw [addPh_same] at hq'
        cases hq'
        have hh := hold _ _ h1 hc
        exact hh.1 (r.inj _ _ _ _ _ _ hh.2 hb (hph _ _ h1 hq) hp e)
      · exact r.inj _ _ _ _ _ _ (hold _ _ h1 hc).2 (hold _ _ h2 hd).2 (hph _ _ h1 hq) (hph _ _ h2 hq') e
  · by_cases h1 : c = h.next
    · subst h1
      have := hGet_put_same (h := ⟨trPut HD b h.t none, h.next⟩) hc
      cases this
      exact ⟨_, addPh_same _ _ _, hy⟩
    · have hh := hold _ _ h1 hc
      obtain ⟨q, hq, hbr⟩ := r.blk _ _ hh.2
      exact ⟨q, hsb _ _ hq, hbr.kp hsb k fun e => hh.1 (r.inj _ _ _ _ _ _ hh.2 hb hq hp e)⟩
  · show (if c = h.next then _ else _) = none
    have hc' : h.next + 1 ≤ c := hc
    rw [if_neg (by omega), r.fresh c (by omega)]
  · obtain ⟨N', h1⟩ := r.glob g hg
    exact ⟨N', hsb _ _ h1⟩
  · by_cases h1 : c = h.next
    · subst h1
      rw [addPh_same] at hq
      cases hq
      exact ⟨b, x, p, hb, hro, hp, e⟩
    · have hh := hold _ _ h1 hc
      exact ⟨c, z, q, hh.2, hro', hph _ _ h1 hq, e⟩

/-- A new row, of which the first cells are known. -/
theorem Rel.grown (r : Rel G φ h w) {l : List V} {vs : List Value} (hc : CVs φ l vs) (post : Array Value) (T : TypeId) (st : Bool) (fz : Nat × Nat) (hfz : ∀ i, i < vs.length + post.size → ¬ (fz.1 ≤ i ∧ i < fz.2)) (hst : st = false → fz = (0, 0) ∧ post.size = 0) :
    Post G φ h w (addPh φ h.next (w.heap.size, 0, l.length + post.size)) ⟨trPut HD h.next h.t (some (.cells l.length (lvls l.length) (wr (lvls l.length) l (trNew .und (lvls l.length)) 0) T st)), h.next + 1⟩ (w.drew.alloc (.cells (vs.toArray ++ post) T fz)) := by
  have he : vs.toArray ++ post = (vs ++ post.toList).toArray := by
    apply Array.toList_inj.1; simp
  refine r.new ((Ext.drew0 w).trans (ext_alloc w.drew _)) (Nat.le_refl _) ⟨by simp, vs ++ post.toList, T, fz, ⟨?_, fun i hi => hfz i (by simpa using hi)⟩, by simp [hc.len], ?_, rfl, fun h => ⟨(hst h).1, rfl, by rw [(hst h).2]; rfl⟩⟩
  · have := heap_new w.drew (.cells (vs.toArray ++ post) T fz)
    rw [he] at this ⊢
    exact this
  · have := TrR.new (d := lvls l.length) (hc.mono (addPh_sb r (w.heap.size, 0, l.length + post.size))) 0 [] post.toList rfl
    simpa using this

theorem zOk_spec {el es : Nat} (hz : zOk P el es = true) : ∃ i z, P.info? el = some i ∧ i.zero = some z ∧ i.size = tsz P el ∧ i.bytes = tbytes P el ∧ z.cells.size = es := by
  unfold zOk at hz
  split at hz
  · rename_i l hl
    obtain ⟨z, ⟨i, h1, h2, h3, h4⟩, rfl⟩ := ti_of hl
    refine ⟨i, z, h1, h2, h3, h4, ?_⟩
    have := Nat.eq_of_beq_eq_true hz
    rw [← this]
    unfold zeroB
    split
    · simp [Value.cells]
    · rename_i hn
      cases z <;> first | rfl | exact (hn _ rfl).elim
  · cases hz

theorem grow_ok {s : Sem Value} {l : List V} {vs : List Value} {n es el : Nat} {z : Value} (r : Rel G φ h w) (hc : CVs φ l vs) (hl : l.length = n * es) (hz : z.cells.size = es) {sCap : Nat}
    (hs : s.run P w = .ok (.slice (some ⟨w.heap.size, 0, none⟩) n (grownCap w n sCap el)) (w.drew.alloc (.cells (vs.toArray ++ Builtin.zeroCells z.cells (grownCap w n sCap el - n)) el))) :
    BOk P G φ h w s (grow h l n es el) := by
  unfold grow
  refine BOk.cnd' fun ho => ?_
  rw [newCells_eq]
  have hge := grownCap_ge w n sCap el
  have hzs : (Builtin.zeroCells z.cells (grownCap w n sCap el - n)).size = (grownCap w n sCap el - n) * es := by rw [size_zeroCells, hz]
  refine ⟨_, _, _, hs, r.grown hc (Builtin.zeroCells z.cells (grownCap w n sCap el - n)) el true (0, 0) (fun i _ hh => by simp at hh) (fun hh => by cases hh), ?_⟩
  refine .sl (a := 0) (addPh_same _ _ _) (Nat.le_refl _) hge (fun hh => by cases hh) ?_
  rw [hl, hzs, ← Nat.add_mul]
  have : n + (grownCap w n sCap el - n) = grownCap w n sCap el := by omega
  rw [this]; simp
end
end Go.Proofs.YtkgiammeeckfbaaGreat
