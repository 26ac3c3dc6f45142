/- The reckoner's conversions and calls; all operations. It is of no program. -/
import Derived.Test.YtdapkfppcaaohaaEvJ
namespace Go.Proofs.Ytdapkfppcaaohaa
open Go Go.RowKit
set_option linter.all false

section
variable {P : Program} {G : Nat} {φ : Ph} {h : H} {w : World} {e : Env} {d : Option Nat} {ty t t' : TypeId} {pos : String} {aft : Array Edge} {g : Option (Nat × Bool)} {x y : Operand} {v v1 v2 : V} {u u1 u2 : Value} {ρ : Operand → V}

noncomputable def pkF {β : Type} (no : β) (c : Nat → β) (v : V) (s : Nat) : β := match v with
  | .int .u8 z => nat? z (fun n => cond (Nat.blt n 256) (fN (Nat.add n (Nat.mul 256 s)) c) no) no
  | _ => no
theorem packK_cons {β : Type} (no : β) (v : V) (l : List V) (c : Nat → β) : packK (v :: l) c no = packK l (pkF no c v) no := rfl
theorem packK_eq {β : Type} (no : β) : ∀ (l : List V) (c : Nat → β), packK l c no = no ∨ ∃ bs : List UInt8, packK l c no = c (pak bs) ∧ bs.length = l.length ∧ ∀ φ us, CVs φ l us → us = bs.map u8v
  | [], c => .inr ⟨[], rfl, rfl, fun φ us h => by cases h; rfl⟩
  | v :: l, c => by
    rw [packK_cons]
    rcases packK_eq no l (pkF no c v) with h1 | ⟨bs, h1, h2, h3⟩
    · exact .inl h1
    · rw [h1]
      unfold pkF
      split
      · rename_i z
        rw [nat?_eq]
        split
        · rename_i hz
          cases hb : Nat.blt z.toNat 256 with
          | false => exact .inl rfl
          | true =>
            right
            have hb : z.toNat < 256 := by simpa using hb
            simp only [cond_true, fN_eq]
            have h8 : (UInt8.ofNat z.toNat).toNat = z.toNat := by simp; omega
            refine ⟨UInt8.ofNat z.toNat :: bs, ?_, by simp [h2], fun φ us h => ?_⟩
            · show _ = c ((UInt8.ofNat z.toNat).toNat + 256 * pak bs)
              rw [h8]; rfl
            · cases h with
              | cons k1 k2 =>
              cases k1
              rw [h3 φ _ k2, List.map_cons]
              congr 1
              simp only [u8v, h8, Int.toNat_of_nonneg hz]
        · exact .inl rfl
      · exact .inl rfl

theorem conv_ok (r : Rel G φ h w) (hx : Kn φ e x v) : ROk P G φ h w e ⟨d, .convert t t' x, ty, pos, aft, g⟩ (conv P h t t' v) := by
  unfold conv
  split <;> try exact trivial
  · rename_i td k k' z hs hd
    obtain ⟨u, hx, hc⟩ := hx (by simp)
    cases hc
    rw [rInt_eq, wrp_eq]
    refine ROk.pure r (fun ρ hρ => ?_) .int
    simp only [execOp, hρ _ _ hx, convert, Sem.run_bind, run_underlying hs, run_underlying hd, Result.andThen_ok]
    cases td <;> simp [Conv.intToInt]
  · rename_i td n s hs hd
    obtain ⟨u, hx, hc⟩ := hx (by simp)
    cases hc with
    | str hs' =>
    refine ROk.pure r (fun ρ hρ => ?_) (.str hs')
    simp only [execOp, hρ _ _ hx, convert, Sem.run_bind, run_underlying hs, run_underlying hd, Result.andThen_ok]
    cases td <;> simp
  · rename_i el n s hs hd
    obtain ⟨u, hx, hc⟩ := hx (by simp)
    cases hc with
    | str hs' =>
    split <;> try exact trivial
    rename_i he
    rw [fL_eq, newCells_eq]
    have hr := run_bytes_of_string (P := P) w t t' el ⟨(unp n s).toArray⟩ hs hd he
    have hsz : (ByteArray.mk (unp n s).toArray).size = n := by rw [size_S]; simp
    rw [hsz] at hr
    have hge := grownCap_ge w n 0 el
    have hrow : bytesRow ⟨(unp n s).toArray⟩ (grownCap w n 0 el) = ((unp n s).map u8v).toArray ++ Array.replicate (grownCap w n 0 el - n) (Value.int .u8 0) := by
      apply Array.toList_inj.1
      simp [bytesRow, hsz, u8v]
    have hsize : (bytesRow ⟨(unp n s).toArray⟩ (grownCap w n 0 el)).size = ((unp n s).map u8v).length + (Array.replicate (grownCap w n 0 el - n) (Value.int .u8 0)).size := by rw [hrow]; simp
    refine ⟨.slice (some ⟨w.heap.size, 0, none⟩) n (grownCap w n 0 el), w.drew.alloc (.cells (bytesRow ⟨(unp n s).toArray⟩ (grownCap w n 0 el)) el ((bytesRow ⟨(unp n s).toArray⟩ (grownCap w n 0 el)).size, (bytesRow ⟨(unp n s).toArray⟩ (grownCap w n 0 el)).size + 1)), _, fun ρ hρ => ?_,
      by
        have := r.grown (u8_cvs (φ := φ) (unp n s)) (Array.replicate (grownCap w n 0 el - n) (Value.int .u8 0)) el el true ((bytesRow ⟨(unp n s).toArray⟩ (grownCap w n 0 el)).size, (bytesRow ⟨(unp n s).toArray⟩ (grownCap w n 0 el)).size + 1) (fun i hi hh => by rw [hsize] at hh; simp only at hh; omega) (fun hh => by cases hh)
        rw [← hrow] at this
        exact this, ?_⟩
    · simp only [execOp, hρ _ _ hx, Sem.run_bind, hr, Result.andThen_ok, Sem.run_pure]
    · refine .sl (a := 0) (addPh_same _ _ _) (Nat.le_refl _) hge (fun hh => by cases hh) ?_
      simp; omega
  · rename_i el hs hd
    obtain ⟨u, hx, hc⟩ := hx (by simp)
    cases hc
    split <;> try exact trivial
    rename_i he
    refine ROk.pure r (u := S []) (fun ρ hρ => ?_) (CV.str (φ := φ) (n := 0) (s := 0) (by simp))
    simp only [execOp, hρ _ _ hx, convert, Sem.run_bind, run_underlying hs, run_underlying hd, run_underlying he, Result.andThen_ok, Conv.bytesToString, Sem.run_pure]
    rfl
  · rename_i el b es hs hd
    obtain ⟨u, hx, hc⟩ := hx (by simp)
    cases hc with
    | @es _ _ b' a N off c' hp hN =>
    split <;> try exact trivial
    rename_i he
    refine ROk.pure r (u := S []) (fun ρ hρ => ?_) (CV.str (φ := φ) (n := 0) (s := 0) (by simp))
    have hr := run_convert_bytes_back (P := P) w t t' el ⟨b', off, none⟩ c' [] hs he hd (fun j hj => by simp at hj)
    simp only [List.length_nil] at hr
    simp only [execOp, hρ _ _ hx, Sem.run_bind, hr, Result.andThen_ok, Sem.run_pure]
  · rename_i el b o len kc es op hs hd
    obtain ⟨u, hx, hc⟩ := hx (by simp)
    cases hc with
    | @sl _ _ _ _ _ _ b' a N c' hp q1 q2 q3 q4 =>
    split <;> try exact trivial
    rename_i n0 d0 t0 ty0 st0 he hb0
    obtain ⟨hN0, us, T, fz, hB, hlen, hT, hst⟩ := r.cells hb0 hp
    simp only at hN0 hB hlen hT
    refine cond_ok' fun hh => ?_
    simp only [Bool.and_eq_true] at hh
    have hfit : o + len ≤ n0 := Nat.le_of_ble_eq_true hh.2
    rw [rdK_eq]
    have hcv := hT.read hfit
    rcases packK_eq (R.bad 100) _ (fun s => R.v (.str len s) h) with h1 | ⟨bs, h1, h2, h3⟩
    · rw [h1]; exact trivial
    · rw [h1]
      have hus := h3 φ _ hcv
      have hbl : bs.length = len := by rw [h2]; simp
      refine ROk.pure r (u := S bs) (fun ρ hρ => ?_) (by have := cv_str (φ := φ) bs; rwa [hbl] at this)
      have hcells := hB.blk.cells (i := a + o) (n := len) hus
      have hr := run_convert_bytes_back (P := P) w t t' el ⟨b', a + o, none⟩ c' bs hs he hd (fun j hj => by rw [add_off]; exact hcells j _ (by simp [hj, u8v]))
      rw [hbl] at hr
      simp only [execOp, hρ _ _ hx, Sem.run_bind, hr, Result.andThen_ok, Sem.run_pure]

theorem conv_q (r : Rel G φ h w) (hns : ∀ el, P.underlying t' ≠ some (.slice el)) (hx : Kn φ e x v) : QOk P φ h w e ⟨d, .convert t t' x, ty, pos, aft, g⟩ (conv P h t t' v) := by
  unfold conv
  split <;> try exact trivial
  · rename_i td k k' z hs hd
    obtain ⟨u, hx, hc⟩ := hx (by simp)
    cases hc
    rw [rInt_eq, wrp_eq]
    refine QOk.pure (fun ρ hρ => ?_) .int
    simp only [execOp, hρ _ _ hx, convert, Sem.run_bind, run_underlying hs, run_underlying hd, Result.andThen_ok]
    cases td <;> simp [Conv.intToInt]
  · rename_i td n s hs hd
    obtain ⟨u, hx, hc⟩ := hx (by simp)
    cases hc with
    | str hs' =>
    refine QOk.pure (fun ρ hρ => ?_) (.str hs')
    simp only [execOp, hρ _ _ hx, convert, Sem.run_bind, run_underlying hs, run_underlying hd, Result.andThen_ok]
    cases td <;> simp
  · rename_i el n s hs hd
    exact absurd hd (hns el)
  · rename_i el hs hd
    obtain ⟨u, hx, hc⟩ := hx (by simp)
    cases hc
    split <;> try exact trivial
    rename_i he
    refine QOk.pure (u := S []) (fun ρ hρ => ?_) (CV.str (φ := φ) (n := 0) (s := 0) (by simp))
    simp only [execOp, hρ _ _ hx, convert, Sem.run_bind, run_underlying hs, run_underlying hd, run_underlying he, Result.andThen_ok, Conv.bytesToString, Sem.run_pure]
    rfl
  · rename_i el b es hs hd
    obtain ⟨u, hx, hc⟩ := hx (by simp)
    cases hc with
    | @es _ _ b' a N off c' hp hN =>
    split <;> try exact trivial
    rename_i he
    refine QOk.pure (u := S []) (fun ρ hρ => ?_) (CV.str (φ := φ) (n := 0) (s := 0) (by simp))
    have hr := run_convert_bytes_back (P := P) w t t' el ⟨b', off, none⟩ c' [] hs he hd (fun j hj => by simp at hj)
    simp only [List.length_nil] at hr
    simp only [execOp, hρ _ _ hx, Sem.run_bind, hr, Result.andThen_ok, Sem.run_pure]
  · rename_i el b o len kc es op hs hd
    obtain ⟨u, hx, hc⟩ := hx (by simp)
    cases hc with
    | @sl _ _ _ _ _ _ b' a N c' hp q1 q2 q3 q4 =>
    split <;> try exact trivial
    rename_i n0 d0 t0 ty0 st0 he hb0
    obtain ⟨hN0, us, T, fz, hB, hlen, hT, hst⟩ := r.cells hb0 hp
    simp only at hN0 hB hlen hT
    refine cond_q' fun hh => ?_
    simp only [Bool.and_eq_true] at hh
    have hfit : o + len ≤ n0 := Nat.le_of_ble_eq_true hh.2
    rw [rdK_eq]
    have hcv := hT.read hfit
    rcases packK_eq (R.bad 100) _ (fun s => R.v (.str len s) h) with h1 | ⟨bs, h1, h2, h3⟩
    · rw [h1]; exact trivial
    · rw [h1]
      have hus := h3 φ _ hcv
      have hbl : bs.length = len := by rw [h2]; simp
      refine QOk.pure (u := S bs) (fun ρ hρ => ?_) (by have := cv_str (φ := φ) bs; rwa [hbl] at this)
      have hcells := hB.blk.cells (i := a + o) (n := len) hus
      have hr := run_convert_bytes_back (P := P) w t t' el ⟨b', a + o, none⟩ c' bs hs he hd (fun j hj => by rw [add_off]; exact hcells j _ (by simp [hj, u8v]))
      rw [hbl] at hr
      simp only [execOp, hρ _ _ hx, Sem.run_bind, hr, Result.andThen_ok, Sem.run_pure]

/-! ### Builtins and calls -/
theorem mm_ok {ts : Array TypeId} {l : List V} {us : List Value} (mn : Bool) (hc : CVs φ l us) : QB P φ h w (cond mn (Builtin.min_ ts ty us.toArray) (Builtin.max_ ts ty us.toArray)) (mm h mn l) := by
  unfold mm
  split <;> try exact trivial
  rename_i k a k' b
  cases hc with
  | cons h1 hc =>
  cases hc with
  | cons h2 hc =>
  cases hc
  cases h1; cases h2
  refine QB.cnd' fun hk => ?_
  have := keq_eq.1 hk
  subst this
  rw [rInt_eq]
  simp only [ile_eq]
  cases mn with
  | true =>
    simp only [cond_true]
    have : (cond (decide (a ≤ b)) a b) = if b < a then b else a := by
      by_cases hh : a ≤ b
      · rw [if_neg (by omega)]; simp [hh]
      · rw [if_pos (by omega)]; simp [hh]
    rw [this]
    exact QB.pure (u := .int k (if b < a then b else a)) (by simp [Builtin.min_, Builtin.min2]) .int
  | false =>
    simp only [cond_false]
    have : (cond (decide (b ≤ a)) a b) = if a < b then b else a := by
      by_cases hh : b ≤ a
      · rw [if_neg (by omega)]; simp [hh]
      · rw [if_pos (by omega)]; simp [hh]
    rw [this]
    exact QB.pure (u := .int k (if a < b then b else a)) (by simp [Builtin.max_, Builtin.max2]) .int

theorem blt_ok {b : Builtin} {ts : List TypeId} {l : List V} {us : List Value} {args : Array Operand} (r : Rel G φ h w) (hl : looks e args.toList = some us) (hc : CVs φ l us) :
    ROk P G φ h w e ⟨d, .call ⟨.builtin b, args, ts.toArray⟩, ty, pos, aft, g⟩ (blt P h b ts l) := by
  have key : ∀ {s : Sem Value} {rr : R}, (∀ consts, builtin b ts.toArray ty consts us.toArray = (do pure (.value (← s)))) → BOk P G φ h w s rr → ROk P G φ h w e ⟨d, .call ⟨.builtin b, args, ts.toArray⟩, ty, pos, aft, g⟩ rr := fun {s rr} hb hk => by
    cases rr with
    | v x h' =>
      obtain ⟨u, w', φ', h1, h2, h3⟩ := hk
      refine ⟨u, w', φ', fun ρ hρ => ?_, h2, h3⟩
      have hm : args.map ρ = us.toArray := by
        apply Array.toList_inj.1
        simpa using looks_map hρ _ _ hl
      simp only [execOp, resolve, hm, Sem.run_bind, Sem.run_pure, Result.andThen_ok, invoke, hb, h1]
    | bad n => exact trivial
    | eff _ => exact hk.elim
    | call _ _ => exact hk.elim
    | yld _ _ => exact hk.elim
  unfold blt
  split <;> try exact trivial
  · split <;> try exact trivial
    cases hc with
    | cons h1 hc =>
    cases hc
    exact key (fun _ => rfl) ((lenV_ok r h1).bok r)
  · split <;> try exact trivial
    cases hc with
    | cons h1 hc =>
    cases hc
    exact key (fun _ => rfl) ((capV_ok r h1).bok r)
  · split <;> try exact trivial
    cases hc with
    | cons h1 hc =>
    cases hc with
    | cons h2 hc =>
    cases hc
    exact key (fun _ => rfl) (appV_ok r h1 h2)
  · split <;> try exact trivial
    cases hc with
    | cons h1 hc =>
    cases hc with
    | cons h2 hc =>
    cases hc
    exact key (fun _ => rfl) (copyV_ok r h1 h2)
  · exact key (fun _ => rfl) ((mm_ok (ts := ts.toArray) (ty := ty) true hc).bok r)
  · exact key (fun _ => rfl) ((mm_ok (ts := ts.toArray) (ty := ty) false hc).bok r)
  · split <;> try exact trivial
    cases hc with
    | cons h1 hc =>
    cases hc with
    | cons h2 hc =>
    cases hc
    exact key (fun _ => rfl) (delV_ok r h1 h2)

theorem evCall_ok {c : Call} (r : Rel G φ h w) (hρ : RhoR φ ρ e) : ROk P G φ h w e ⟨d, .call c, ty, pos, aft, g⟩ (evCall P ρ c h) := by
  obtain ⟨cal, args, ts⟩ := c
  unfold evCall
  simp only
  split <;> try exact trivial
  · rename_i f
    rcases knownK_eq ρ args.toList (fun l => callV l (ρ f)) (.bad 142) with h1 | ⟨h1, h2⟩
    · rw [h1]; exact trivial
    · rw [h2]
      obtain ⟨us, hl, hc⟩ := looks_of hρ h1
      have hf := hρ f
      generalize ρ f = v at hf
      unfold callV
      split <;> try exact trivial
      · rename_i f' p q
        obtain ⟨u, hx, hcu⟩ := hf (by simp)
        cases hcu with
        | @fn _ _ _ up uq c1 c2 =>
        rw [fL_eq]
        refine ⟨up ++ us ++ uq, fun hF => ?_, (c1.append hc).append c2⟩
        have := ycv' (P := P) (d := d) (ty := ty) (pos := pos) (aft := aft) (g := g) (w := w) (ts := ts) hF hx hl
        rwa [Array.toArray_toList] at this
      · rename_i l
        obtain ⟨u, hx, hcu⟩ := hf (by simp)
        cases hcu with
        | @yld _ l' a N hp =>
        refine ⟨us, l', a, N, hp, hc, ?_⟩
        have := yy (P := P) (d := d) (ty := ty) (pos := pos) (aft := aft) (g := g) (w := w) (ts := ts) hx hl
        rwa [Array.toArray_toList] at this
  · rename_i b
    rcases knownK_eq ρ args.toList (fun l => blt P h b ts.toList l) (.bad 142) with h1 | ⟨h1, h2⟩
    · rw [h1]; exact trivial
    · rw [h2]
      obtain ⟨us, hl, hc⟩ := looks_of hρ h1
      have := blt_ok (P := P) (d := d) (ty := ty) (pos := pos) (aft := aft) (g := g) (b := b) (ts := ts.toList) r hl hc
      rwa [Array.toArray_toList] at this

theorem makeMap_ok : NwOk P φ w e ⟨d, .makeMap t none, ty, pos, aft, g⟩ (some (.map [] 0, fun b => .map b)) :=
  ⟨.map #[] 0, .map (some w.heap.size), 0, fun ρ hρ => by simp [execOp, Instr.makeMap, newObj, Sem.run], rfl, fun φ' hs => ⟨#[], heap_new w _, .nil⟩, fun φ' b hb => .map hb⟩
/-- What the reckoner answers to an operation is what the operation does. -/
theorem evOp_ok {op : Op} (r : Rel G φ h w) (hρ : RhoR φ ρ e) : ROk P G φ h w e ⟨d, op, ty, pos, aft, g⟩ (evOp P ρ op h) := by
  unfold evOp
  split <;> try exact trivial
  · rename_i x
    exact (rV_q fun hv => by obtain ⟨u, hx, hc⟩ := hρ x hv; exact ⟨u, ymv hx, hc⟩).rok r
  · rename_i x
    exact (rV_q fun hv => by obtain ⟨u, hx, hc⟩ := hρ x hv; exact ⟨u, yas hx, hc⟩).rok r
  · rename_i c a b
    split <;> try exact trivial
    · rename_i hcv
      obtain ⟨uc, hx, hc⟩ := hρ c (by rw [hcv]; simp)
      rw [hcv] at hc; cases hc
      exact (rV_q fun hv => by obtain ⟨u, hx2, hc2⟩ := hρ a hv; exact ⟨u, ypT hx hx2, hc2⟩).rok r
    · rename_i hcv
      obtain ⟨uc, hx, hc⟩ := hρ c (by rw [hcv]; simp)
      rw [hcv] at hc; cases hc
      exact (rV_q fun hv => by obtain ⟨u, hx2, hc2⟩ := hρ b hv; exact ⟨u, ypF hx hx2, hc2⟩).rok r
  · exact allocN_ok.rok r
  · exact (boxN_ok (hρ _)).rok r
  · rename_i t ps
    rcases partsK_eq ρ ps.toList (buildV P h t) (.bad 142) with h1 | ⟨h1, h2⟩
    · rw [h1]; exact trivial
    · rw [h2]
      obtain ⟨us, hp, hpr⟩ := lookp_of hρ h1
      have := buildV_ok (P := P) (d := d) (ty := ty) (pos := pos) (aft := aft) (g := g) (t := t) r (fun v hv => by
        simp only [List.map_map, List.mem_map] at hv
        obtain ⟨p, hp, rfl⟩ := hv
        exact h1 p hp) hp hpr
      rw [Array.toArray_toList] at this
      exact this.rok r
  · rename_i t n ps
    rcases partsK_eq ρ ps.toList (buildSlN P t n) none with h1 | ⟨h1, h2⟩
    · rw [h1]; exact trivial
    · rw [h2]
      obtain ⟨us, hp, hpr⟩ := lookp_of hρ h1
      have := buildSlN_ok (P := P) (w := w) (d := d) (ty := ty) (pos := pos) (aft := aft) (g := g) (t := t) (n := n) (fun v hv => by
        simp only [List.map_map, List.mem_map] at hv
        obtain ⟨p, hp, rfl⟩ := hv
        exact h1 p hp) hp hpr
      rw [Array.toArray_toList] at this
      exact this.rok r
  · exact (loadV_ok r (hρ _)).rok r
  · exact storeV_ok r (hρ _) (hρ _)
  · rename_i x
    split <;> try exact trivial
    rename_i hnn
    refine rV_ok r fun hv => ?_
    obtain ⟨u, hx, hc⟩ := hρ x hv
    refine ⟨u, ?_, hc⟩
    generalize ρ x = v at hc hnn hv
    cases hc with
    | und => exact absurd rfl hv
    | nptr => exact absurd rfl (hnn _)
    | nsl => exact absurd rfl (hnn _)
    | nmap => exact absurd rfl (hnn _)
    | nfn => exact absurd rfl (hnn _)
    | nifc => exact absurd rfl (hnn _)
    | _ => exact fun ρ hρ => by simp [execOp, hρ _ _ hx]
  · exact (bin_ok r (hρ _) (hρ _)).rok r
  · exact (un_ok r (hρ _)).rok r
  · exact conv_ok r (hρ _)
  · exact (mi_ok r (hρ _)).rok r
  · rename_i f a b
    rcases knownK_eq ρ a.toList (fun p => knownK ρ b.toList (fun q => R.v (.fn f p q) h) (.bad 142)) (.bad 142) with h1 | ⟨h1, h2⟩
    · rw [h1]; exact trivial
    · rw [h2]
      rcases knownK_eq ρ b.toList (fun q => R.v (.fn f (a.toList.map ρ) q) h) (.bad 142) with h3 | ⟨h3, h4⟩
      · rw [h3]; exact trivial
      · rw [h4]
        obtain ⟨us, hl, hc⟩ := looks_of hρ h1
        obtain ⟨us', hl', hc'⟩ := looks_of hρ h3
        have := ymf (P := P) (d := d) (ty := ty) (pos := pos) (aft := aft) (g := g) (w := w) (f := f) hl hl'
        rw [Array.toArray_toList, Array.toArray_toList] at this
        exact ROk.pure r this (.fn hc hc')
  · exact (makeMap_ok (P := P)).rok r
  · exact (makeSlN_ok (hρ _) (hρ _)).rok r
  · exact (slV_ok r hρ).rok r
  · exact (fldAddr_ok r (hρ _)).rok r
  · exact (fldV_ok r (hρ _)).rok r
  · exact (ixAddr_ok r (hρ _) (hρ _)).rok r
  · exact (ixV_ok r (hρ _) (hρ _)).rok r
  · exact (lkV_ok r (hρ _) (hρ _)).rok r
  · exact muV_ok (fun _ => rfl) r (hρ _) (hρ _) (hρ _)
  · exact muV_ok (fun _ => rfl) r (hρ _) (hρ _) (hρ _)
  · exact meV_ok r (hρ _) (hρ _)
  · exact esV_ok r (hρ _) (hρ _) (hρ _)
  · exact (ta_ok r (hρ _)).rok r
  · rename_i x i
    split <;> try exact trivial
    rename_i l hl
    obtain ⟨u, hx, hc⟩ := hρ x (by rw [hl]; simp)
    rw [hl] at hc
    cases hc with
    | @tup _ us hc =>
    split <;> try exact trivial
    rename_i v hv
    obtain ⟨u, e1, e2⟩ := hc.get hv
    exact (rV_q fun _ => ⟨u, yex hx (by simpa using e1), e2⟩).rok r
  · exact evCall_ok r hρ
end
end Go.Proofs.Ytdapkfppcaaohaa
