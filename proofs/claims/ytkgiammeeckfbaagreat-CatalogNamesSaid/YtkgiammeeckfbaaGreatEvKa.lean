/- The reckoner's conversions. It is of no program. -/
import Derived.Test.YtkgiammeeckfbaaGreatEvJ
import Derived.Lib.Builder
import Derived.Lib.UnsafeStr
namespace Go.Proofs.YtkgiammeeckfbaaGreat
open Go Go.RowKit
set_option linter.all false

section
variable {P : Program} {G : Nat} {φ : Ph} {h : H} {w : World} {e : Env} {d : Option Nat} {ty t t' : TypeId} {pos : String} {aft : Array Edge} {g : Option (Nat × Bool)} {x y : Operand} {v v1 v2 : V} {u u1 u2 : Value} {ρ : Operand → V}

noncomputable def pkF {β : Type} (no : β) (c : Nat → β) (v : V) (s : Nat) : β := match v with
  | .int .u8 z => nat? z (fun n => cond (Nat.blt n 256) (fN (Nat.add n (Nat.mul 256 s)) c) no) no
  | _ => no
theorem packK_cons {β : Type} (no : β) (v : V) (l : List V) (c : Nat → β) : packK (v :: l) c no = packK l (pkF no c v) no := rfl
theorem packK_eq {β : Type} (no : β) : ∀ (l : List V) (c : Nat → β), packK l c no = no ∨ ∃ bs : List UInt8, packK l c no = c (pak bs) ∧ bs.length = l.length ∧ ∀ φ us, CVs φ l us → us = bs.map u8v
  | [], c => .inr ⟨[], rfl, rfl, fun φ us h => by cases h; rfl⟩
  | v :: l, c => by
    rw [packK_cons]
    rcases packK_eq no l (pkF no c v) with h1 | ⟨bs, h1, h2, h3⟩
    · exact .inl h1
    · rw [h1]
      unfold pkF
      split
      · rename_i z
        rw [nat?_eq]
        split
        · rename_i hz
          cases hb : Nat.blt z.toNat 256 with
          | false => exact .inl rfl
          | true =>
            right
            have hb : z.toNat < 256 := by simpa using hb
            simp only [cond_true, fN_eq]
            have h8 : (UInt8.ofNat z.toNat).toNat = z.toNat := by simp; omega
            refine ⟨UInt8.ofNat z.toNat :: bs, ?_, by simp [h2], fun φ us h => ?_⟩
            · show _ = c ((UInt8.ofNat z.toNat).toNat + 256 * pak bs)
              rw [h8]; rfl
            · cases h with
              | cons k1 k2 =>
              cases k1
              rw [h3 φ _ k2, List.map_cons]
              congr 1
              simp only [u8v, h8, Int.toNat_of_nonneg hz]
        · exact .inl rfl
      · exact .inl rfl

theorem shape_of {b : Nat} {us : List Value} {T : TypeId} {fz : Nat × Nat} (h : BlkF w b us T fz) : w.shape? b = some (T, us.length) := by
  unfold World.shape?; rw [h.1]; simp
theorem info_of_tsz {t : TypeId} (h : 0 < tsz P t) : ∃ j, P.info? t = some j ∧ j.size ≠ 0 := by
  unfold tsz at h
  cases hi : P.info? t with
  | none => rw [hi] at h; simp at h
  | some i => rw [hi] at h; exact ⟨i, rfl, Nat.pos_iff_ne_zero.1 h⟩
theorem cvU_q (r : Rel G φ h w) (hx : Kn φ e x v) : QOk P φ h w e ⟨d, .convert t t' x, ty, pos, aft, g⟩ (cvU P h t t' v) := by
  unfold cvU
  split <;> try exact trivial
  · rename_i a hs hd
    split <;> try exact trivial
    · obtain ⟨u, hx, hc⟩ := hx (by simp)
      cases hc
      refine QOk.pure (u := .pointer none) (fun ρ hρ => ?_) .nptr
      simp [execOp, hρ _ _ hx, convert, run_underlying hs, run_underlying hd, Conv.unsafePointer]
    · rename_i b o
      obtain ⟨u, hx, hc⟩ := hx (by simp)
      cases hc with
      | @ptr _ _ b' a' N hp =>
      split <;> try exact trivial
      rename_i n0 d0 t0 ty0 hb0
      obtain ⟨hN0, us, T, fz, hB, hlen, hT, hst⟩ := r.cells hb0 hp
      simp only at hN0 hB hlen hT
      refine cond_q' fun hh => ?_
      simp only [Bool.and_eq_true] at hh
      have h1 : o < n0 := by simpa using hh.1
      obtain ⟨j, hj, hj0⟩ := info_of_tsz (show 0 < tsz P a by simpa using hh.2)
      refine QOk.pure (fun ρ hρ => ?_) (.ptr hp)
      have hr := Lib.run_to_unsafe (P := P) (w := w) ⟨b', a' + o, none⟩ hs hd hj hj0 (shape_of hB) (by simp only; omega)
      simp only [execOp, hρ _ _ hx, Sem.run_bind, hr, Result.andThen_ok, Sem.run_pure]
  · rename_i u' hs hd
    split <;> try exact trivial
    · obtain ⟨u, hx, hc⟩ := hx (by simp)
      cases hc
      refine QOk.pure (u := .pointer none) (fun ρ hρ => ?_) .nptr
      simp [execOp, hρ _ _ hx, convert, run_underlying hs, run_underlying hd, Conv.unsafePointer]
    · rename_i b o
      obtain ⟨u, hx, hc⟩ := hx (by simp)
      cases hc with
      | @ptr _ _ b' a' N hp =>
      split <;> try exact trivial
      rename_i n0 d0 t0 ty0 hb0
      obtain ⟨hN0, us, T, fz, hB, hlen, hT, hT2, hst⟩ := r.cells hb0 hp
      obtain ⟨-, ha, hn⟩ := hst rfl
      simp only at hN0 hB hlen hT ha hn
      refine cond_q' fun hh => ?_
      simp only [Bool.and_eq_true] at hh
      obtain ⟨j, hj, hj0⟩ := info_of_tsz (show 0 < tsz P u' by simpa using hh.1)
      refine QOk.pure (fun ρ hρ => ?_) (.ptr hp)
      have hr := Lib.run_from_unsafe (P := P) (w := w) ⟨b', a' + o, none⟩ hs hd hj (shape_of hB) (by rw [hT2, hlen, ← hn, ha, Nat.zero_add]; exact hh.2)
      simp only [execOp, hρ _ _ hx, Sem.run_bind, hr, Result.andThen_ok, Sem.run_pure]
theorem conv_ok (r : Rel G φ h w) (hx : Kn φ e x v) : ROk P G φ h w e ⟨d, .convert t t' x, ty, pos, aft, g⟩ (conv P h t t' v) := by
  unfold conv
  split <;> try exact trivial
  · rename_i td k k' z hs hd
    obtain ⟨u, hx, hc⟩ := hx (by simp)
    cases hc
    rw [rInt_eq, wrp_eq]
    refine ROk.pure r (fun ρ hρ => ?_) .int
    simp only [execOp, hρ _ _ hx, convert, Sem.run_bind, run_underlying hs, run_underlying hd, Result.andThen_ok]
    cases td <;> simp [Conv.intToInt]
  · rename_i td n s hs hd
    obtain ⟨u, hx, hc⟩ := hx (by simp)
    cases hc with
    | str hs' =>
    refine ROk.pure r (fun ρ hρ => ?_) (.str hs')
    simp only [execOp, hρ _ _ hx, convert, Sem.run_bind, run_underlying hs, run_underlying hd, Result.andThen_ok]
    cases td <;> simp
  · rename_i el n s hs hd
    obtain ⟨u, hx, hc⟩ := hx (by simp)
    cases hc with
    | str hs' =>
    split <;> try exact trivial
    rename_i he
    rw [fL_eq, newCells_eq]
    have hr := run_bytes_of_string (P := P) w t t' el ⟨(unp n s).toArray⟩ hs hd he
    have hsz : (ByteArray.mk (unp n s).toArray).size = n := by rw [size_S]; simp
    rw [hsz] at hr
    have hge := grownCap_ge w n 0 el
    have hrow : bytesRow ⟨(unp n s).toArray⟩ (grownCap w n 0 el) = ((unp n s).map u8v).toArray ++ Array.replicate (grownCap w n 0 el - n) (Value.int .u8 0) := by
      apply Array.toList_inj.1
      simp [bytesRow, hsz, u8v]
    have hsize : (bytesRow ⟨(unp n s).toArray⟩ (grownCap w n 0 el)).size = ((unp n s).map u8v).length + (Array.replicate (grownCap w n 0 el - n) (Value.int .u8 0)).size := by rw [hrow]; simp
    refine ⟨.slice (some ⟨w.heap.size, 0, none⟩) n (grownCap w n 0 el), w.drew.alloc (.cells (bytesRow ⟨(unp n s).toArray⟩ (grownCap w n 0 el)) el ((bytesRow ⟨(unp n s).toArray⟩ (grownCap w n 0 el)).size, (bytesRow ⟨(unp n s).toArray⟩ (grownCap w n 0 el)).size + 1)), _, fun ρ hρ => ?_,
      by
        have := r.grown (u8_cvs (φ := φ) (unp n s)) (Array.replicate (grownCap w n 0 el - n) (Value.int .u8 0)) el true ((bytesRow ⟨(unp n s).toArray⟩ (grownCap w n 0 el)).size, (bytesRow ⟨(unp n s).toArray⟩ (grownCap w n 0 el)).size + 1) (fun i hi hh => by rw [hsize] at hh; simp only at hh; omega) (fun hh => by cases hh)
        rw [← hrow] at this
        exact this, ?_⟩
    · simp only [execOp, hρ _ _ hx, Sem.run_bind, hr, Result.andThen_ok, Sem.run_pure]
    · refine .sl (a := 0) (addPh_same _ _ _) (Nat.le_refl _) hge (fun hh => by cases hh) ?_
      simp; omega
  · rename_i el hs hd
    obtain ⟨u, hx, hc⟩ := hx (by simp)
    cases hc
    split <;> try exact trivial
    rename_i he
    refine ROk.pure r (u := S []) (fun ρ hρ => ?_) (CV.str (φ := φ) (n := 0) (s := 0) (by simp))
    simp only [execOp, hρ _ _ hx, convert, Sem.run_bind, run_underlying hs, run_underlying hd, run_underlying he, Result.andThen_ok, Conv.bytesToString, Sem.run_pure]
    rfl
  · rename_i el b es hs hd
    obtain ⟨u, hx, hc⟩ := hx (by simp)
    cases hc with
    | @es _ _ b' a N off c' hp hN =>
    split <;> try exact trivial
    rename_i he
    refine ROk.pure r (u := S []) (fun ρ hρ => ?_) (CV.str (φ := φ) (n := 0) (s := 0) (by simp))
    have hr := run_convert_bytes_back (P := P) w t t' el ⟨b', off, none⟩ c' [] hs he hd (fun j hj => by simp at hj)
    simp only [List.length_nil] at hr
    simp only [execOp, hρ _ _ hx, Sem.run_bind, hr, Result.andThen_ok, Sem.run_pure]
  · rename_i el b o len kc es op hs hd
    obtain ⟨u, hx, hc⟩ := hx (by simp)
    cases hc with
    | @sl _ _ _ _ _ _ b' a N c' hp q1 q2 q3 q4 =>
    split <;> try exact trivial
    rename_i n0 d0 t0 ty0 st0 he hb0
    obtain ⟨hN0, us, T, fz, hB, hlen, hT, hst⟩ := r.cells hb0 hp
    simp only at hN0 hB hlen hT
    refine cond_ok' fun hh => ?_
    simp only [Bool.and_eq_true] at hh
    have hfit : o + len ≤ n0 := Nat.le_of_ble_eq_true hh.2
    rw [rdK_eq]
    have hcv := hT.read hfit
    rcases packK_eq (R.bad 100) _ (fun s => R.v (.str len s) h) with h1 | ⟨bs, h1, h2, h3⟩
    · rw [h1]; exact trivial
    · rw [h1]
      have hus := h3 φ _ hcv
      have hbl : bs.length = len := by rw [h2]; simp
      refine ROk.pure r (u := S bs) (fun ρ hρ => ?_) (by have := cv_str (φ := φ) bs; rwa [hbl] at this)
      have hcells := hB.blk.cells (i := a + o) (n := len) hus
      have hr := run_convert_bytes_back (P := P) w t t' el ⟨b', a + o, none⟩ c' bs hs he hd (fun j hj => by rw [add_off]; exact hcells j _ (by simp [hj, u8v]))
      rw [hbl] at hr
      simp only [execOp, hρ _ _ hx, Sem.run_bind, hr, Result.andThen_ok, Sem.run_pure]
  · exact (cvU_q r hx).rok r

theorem conv_q (r : Rel G φ h w) (hns : ∀ el, P.underlying t' ≠ some (.slice el)) (hx : Kn φ e x v) : QOk P φ h w e ⟨d, .convert t t' x, ty, pos, aft, g⟩ (conv P h t t' v) := by
  unfold conv
  split <;> try exact trivial
  · rename_i td k k' z hs hd
    obtain ⟨u, hx, hc⟩ := hx (by simp)
    cases hc
    rw [rInt_eq, wrp_eq]
    refine QOk.pure (fun ρ hρ => ?_) .int
    simp only [execOp, hρ _ _ hx, convert, Sem.run_bind, run_underlying hs, run_underlying hd, Result.andThen_ok]
    cases td <;> simp [Conv.intToInt]
  · rename_i td n s hs hd
    obtain ⟨u, hx, hc⟩ := hx (by simp)
    cases hc with
    | str hs' =>
    refine QOk.pure (fun ρ hρ => ?_) (.str hs')
    simp only [execOp, hρ _ _ hx, convert, Sem.run_bind, run_underlying hs, run_underlying hd, Result.andThen_ok]
    cases td <;> simp
  · rename_i el n s hs hd
    exact absurd hd (hns el)
  · rename_i el hs hd
    obtain ⟨u, hx, hc⟩ := hx (by simp)
    cases hc
    split <;> try exact trivial
    rename_i he
    refine QOk.pure (u := S []) (fun ρ hρ => ?_) (CV.str (φ := φ) (n := 0) (s := 0) (by simp))
    simp only [execOp, hρ _ _ hx, convert, Sem.run_bind, run_underlying hs, run_underlying hd, run_underlying he, Result.andThen_ok, Conv.bytesToString, Sem.run_pure]
    rfl
  · rename_i el b es hs hd
    obtain ⟨u, hx, hc⟩ := hx (by simp)
    cases hc with
    | @es _ _ b' a N off c' hp hN =>
    split <;> try exact trivial
    rename_i he
    refine QOk.pure (u := S []) (fun ρ hρ => ?_) (CV.str (φ := φ) (n := 0) (s := 0) (by simp))
    have hr := run_convert_bytes_back (P := P) w t t' el ⟨b', off, none⟩ c' [] hs he hd (fun j hj => by simp at hj)
    simp only [List.length_nil] at hr
    simp only [execOp, hρ _ _ hx, Sem.run_bind, hr, Result.andThen_ok, Sem.run_pure]
  · rename_i el b o len kc es op hs hd
    obtain ⟨u, hx, hc⟩ := hx (by simp)
    cases hc with
    | @sl _ _ _ _ _ _ b' a N c' hp q1 q2 q3 q4 =>
    split <;> try exact trivial
    rename_i n0 d0 t0 ty0 st0 he hb0
    obtain ⟨hN0, us, T, fz, hB, hlen, hT, hst⟩ := r.cells hb0 hp
    simp only at hN0 hB hlen hT
    refine cond_q' fun hh => ?_
    simp only [Bool.and_eq_true] at hh
    have hfit : o + len ≤ n0 := Nat.le_of_ble_eq_true hh.2
    rw [rdK_eq]
    have hcv := hT.read hfit
    rcases packK_eq (R.bad 100) _ (fun s => R.v (.str len s) h) with h1 | ⟨bs, h1, h2, h3⟩
    · rw [h1]; exact trivial
    · rw [h1]
      have hus := h3 φ _ hcv
      have hbl : bs.length = len := by rw [h2]; simp
      refine QOk.pure (u := S bs) (fun ρ hρ => ?_) (by have := cv_str (φ := φ) bs; rwa [hbl] at this)
      have hcells := hB.blk.cells (i := a + o) (n := len) hus
      have hr := run_convert_bytes_back (P := P) w t t' el ⟨b', a + o, none⟩ c' bs hs he hd (fun j hj => by rw [add_off]; exact hcells j _ (by simp [hj, u8v]))
      rw [hbl] at hr
      simp only [execOp, hρ _ _ hx, Sem.run_bind, hr, Result.andThen_ok, Sem.run_pure]
  · exact cvU_q r hx

/-! ### Builtins and calls -/
theorem liesAt_bytes' {e : TypeId} (hc : P.cellsOf e = 1) (count off n : Nat) (hn : off + n ≤ count) : liesAt P P.depth e count off e n = true := by
  have hd : P.depth = (2 * (P.types.size + Made.depth) + 1) + 1 := rfl
  rw [hd]
  simp only [liesAt, Bool.or_eq_true]
  left
  rw [hd]
  simp [rowAt, hc, hn, sameLayout, Nat.mod_one]
theorem run_unsafeString_at (pt it ty e : TypeId) (hp : P.underlying pt = some (.pointer e)) (hc : P.cellsOf e = 1) (g off cells : Nat) (hsh : w.shape? g = some (e, cells)) (l : List UInt8) (h0 : l ≠ []) (hn : off + l.length ≤ cells) (h63 : l.length ≤ 9223372036854775807)
    (hcell : ∀ j x, l[j]? = some x → w.cell? ((⟨g, off, none⟩ : Addr).add j) = some (.int .u8 x.toNat)) :
    (Builtin.unsafeString_ #[pt, it] ty #[.pointer (some ⟨g, off, none⟩), .int .i64 l.length]).run P w = .ok (.string ⟨l.toArray⟩) (w.freeze ⟨g, off, none⟩ l.length) := by
  have hl : l.length ≠ 0 := by simpa using h0
  have hlb := Lib.run_loadBytes (P := P) w l ⟨g, off, none⟩ .empty hcell
  have hlies := liesAt_bytes' (P := P) hc (cells / P.cellsOf e) off l.length (by rw [hc]; simpa using hn)
  have h63' : ¬ (9223372036854775807 : Int) < (l.length : Int) := by omega
  have hdef : Builtin.unsafeString_ #[pt, it] ty #[.pointer (some ⟨g, off, none⟩), .int .i64 l.length] =
      (do
        let n ← asInt (.int .i64 l.length)
        if n < 0 then runtimePanic (.error "unsafe.String: len out of range")
        if n > IntKind.i64.max then unsupported (.unsafePointer "String: a length above the largest int")
        if n = 0 then pure (.string .empty)
        else if ← variablesAt ⟨g, off, none⟩ (← elemOf pt) n.toNat then do
          let s ← loadBytes ⟨g, off, none⟩ .empty n.toNat
          freeze ⟨g, off, none⟩ n.toNat
          pure (.string s)
        else unsupported (.unsafePointer "String: not so many bytes at ptr")) := rfl
  rw [hdef]
  have hmax : IntKind.i64.max = 9223372036854775807 := rfl
  have hneg : ¬ (l.length : Int) < 0 := by omega
  simp [asInt, asIntOf, hmax, h63', hneg, hl, variablesAt, hsh, elemOf, run_underlying hp, hlies, hlb]
theorem kp_freeze (w : World) (a : Addr) (n : Nat) : Kp (fun k => k = a.block) w (w.freeze a n) := by
  unfold World.freeze
  split
  · exact Kp.refl _ w
  · exact ⟨rfl, rfl, rfl, by simp, fun k _ hn => by
      simp only [Array.getElem?_modify]
      rw [if_neg (fun h => hn h.symm)]⟩
theorem sdV_ok {ts : Array TypeId} (hc : CV φ v u) : QB P φ h w (Builtin.unsafeSliceData_ ts ty #[u]) (sdV h v) := by
  unfold sdV
  split <;> try exact trivial
  · cases hc
    exact QB.pure (u := .pointer none) rfl .nptr
  · rename_i b o len kc es op
    cases hc with
    | @sl _ _ _ _ _ _ b' a N c' hp q1 q2 q3 q4 =>
    refine QB.cnd' fun hh => ?_
    have hk : 0 < kc := by simpa using hh
    exact QB.pure (Lib.run_unsafeSliceData_row (P := P) w ts ty ⟨b', a + o, none⟩ len c' (by omega)) (.ptr hp)
theorem usV_ok {it : TypeId} (r : Rel G φ h w) (hc1 : CV φ v1 u1) (hc2 : CV φ v2 u2) : BOk P G φ h w (Builtin.unsafeString_ #[t, it] ty #[u1, u2]) (usV P h t v1 v2) := by
  have hs0 : CV φ (.str 0 0) (.string .empty) := CV.str (φ := φ) (n := 0) (s := 0) (by simp)
  unfold usV
  split <;> try exact trivial
  · cases hc1; cases hc2
    refine BOk.cnd' fun hh => ?_
    rw [ieq_eq] at hh
    have hz := of_decide_eq_true hh
    subst hz
    exact BOk.pure r (Lib.run_unsafeString_none (P := P) w t it ty none) hs0
  · rename_i b o z
    cases hc2
    cases hc1 with
    | @ptr _ _ b' a N hp =>
    rw [nat?_eq]
    split <;> try exact trivial
    rename_i hz0
    obtain ⟨n, rfl⟩ : ∃ m : Nat, z = m := ⟨z.toNat, (Int.toNat_of_nonneg hz0).symm⟩
    simp only [Int.toNat_natCast]
    cases n with
    | zero => exact BOk.pure r (Lib.run_unsafeString_none (P := P) w t it ty _) hs0
    | succ n =>
      show BOk P G φ h w _ (match hGet h b, P.underlying t with
        | some (.cells n0 d tr ty _), some (.pointer e) => cond (and (and (Nat.beq ty e) (Nat.beq (P.cellsOf e) 1)) (and (Nat.ble (Nat.add o (n + 1)) n0) (Nat.ble (n + 1) 9223372036854775807)))
          (rdK (n + 1) d tr o fun l => packK l (fun s => hSet h b none fun h => .v (.str (n + 1) s) h) (.bad 254)) (.bad 255)
        | _, _ => .bad 256)
      split <;> try exact trivial
      rename_i n0 d0 t0 ty0 st0 e0 hb0 ht
      obtain ⟨hN0, us, T, fz, hB, hlen, hT, hT2, hst⟩ := r.cells hb0 hp
      simp only at hN0 hB hlen hT
      refine BOk.cnd' fun hh => ?_
      simp only [Bool.and_eq_true] at hh
      obtain ⟨⟨hte, hce⟩, hfit, h63⟩ := hh
      have hte := Nat.eq_of_beq_eq_true hte
      have hce := Nat.eq_of_beq_eq_true hce
      have hfit : o + (n + 1) ≤ n0 := Nat.le_of_ble_eq_true hfit
      have h63 := Nat.le_of_ble_eq_true h63
      subst hte
      rw [rdK_eq]
      have hcv := hT.read hfit
      rcases packK_eq (R.bad 254) _ (fun s => hSet h b none fun h => R.v (.str (n + 1) s) h) with h1 | ⟨bs, h1, h2, h3⟩
      · rw [h1]; exact trivial
      · rw [h1, hSet_eq]
        have hus := h3 φ _ hcv
        have hbl : bs.length = n + 1 := by rw [h2]; simp
        have hcells := hB.blk.cells (i := a + o) (n := n + 1) hus
        have hr := run_unsafeString_at (P := P) (w := w) t it ty ty0 ht hce b' (a + o) us.length (by rw [shape_of hB, hT2]) bs (by intro e; rw [e] at hbl; simp at hbl) (by rw [hbl]; omega) (by omega) (fun j x hj => by rw [add_off]; exact hcells j _ (by simp [hj, u8v]))
        rw [hbl] at hr
        refine ⟨_, _, φ, hr, ?_, ?_⟩
        · by_cases hro : True
          · exact r.delw hb0 rfl hp (kp_freeze w ⟨b', a + o, none⟩ (n + 1))
          · exact absurd trivial hro
        · have := cv_str (φ := φ) bs
          rwa [hbl] at this
theorem lo_eq (a b : Int) : lo a b = if b < a then b else a := by
  unfold lo
  rw [ile_eq]
  by_cases hh : a ≤ b
  · rw [if_neg (by omega)]; simp [hh]
  · rw [if_pos (by omega)]; simp [hh]
theorem hi_eq (a b : Int) : hi a b = if a < b then b else a := by
  unfold hi
  rw [ile_eq]
  by_cases hh : b ≤ a
  · rw [if_neg (by omega)]; simp [hh]
  · rw [if_pos (by omega)]; simp [hh]
theorem mm_ok {ts : Array TypeId} {l : List V} {us : List Value} (mn : Bool) (hc : CVs φ l us) : QB P φ h w (cond mn (Builtin.min_ ts ty us.toArray) (Builtin.max_ ts ty us.toArray)) (mm h mn l) := by
  unfold mm
  split <;> try exact trivial
  · rename_i k a k' b k'' c
    cases hc with
    | cons h1 hc =>
    cases hc with
    | cons h2 hc =>
    cases hc with
    | cons h3 hc =>
    cases hc
    cases h1; cases h2; cases h3
    refine QB.cnd' fun hk => ?_
    simp only [Bool.and_eq_true] at hk
    have e1 := keq_eq.1 hk.1
    have e2 := keq_eq.1 hk.2
    subst e1; subst e2
    rw [rInt_eq]
    cases mn with
    | true =>
      refine QB.pure (u := .int k (lo (lo a b) c)) ?_ .int
      simp only [cond_true, lo_eq]
      simp [Builtin.min_, Builtin.min2]
    | false =>
      refine QB.pure (u := .int k (hi (hi a b) c)) ?_ .int
      simp only [cond_false, hi_eq]
      simp [Builtin.max_, Builtin.max2]
  rename_i k a k' b
  cases hc with
  | cons h1 hc =>
  cases hc with
  | cons h2 hc =>
  cases hc
  cases h1; cases h2
  refine QB.cnd' fun hk => ?_
  have := keq_eq.1 hk
  subst this
  rw [rInt_eq]
  simp only [ile_eq]
  cases mn with
  | true =>
    simp only [cond_true]
    have : (cond (decide (a ≤ b)) a b) = if b < a then b else a := by
      by_cases hh : a ≤ b
      · rw [if_neg (by omega)]; simp [hh]
      · rw [if_pos (by omega)]; simp [hh]
    rw [this]
    exact QB.pure (u := .int k (if b < a then b else a)) (by simp [Builtin.min_, Builtin.min2]) .int
  | false =>
    simp only [cond_false]
    have : (cond (decide (b ≤ a)) a b) = if a < b then b else a := by
      by_cases hh : b ≤ a
      · rw [if_neg (by omega)]; simp [hh]
      · rw [if_pos (by omega)]; simp [hh]
    rw [this]
    exact QB.pure (u := .int k (if a < b then b else a)) (by simp [Builtin.max_, Builtin.max2]) .int
end
end Go.Proofs.YtkgiammeeckfbaaGreat
