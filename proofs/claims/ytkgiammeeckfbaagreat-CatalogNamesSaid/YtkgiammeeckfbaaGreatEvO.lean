/- The reckoner's operations that only read, and those that only make a block. It is of no program. -/
import Derived.Test.YtkgiammeeckfbaaGreatEvN
namespace Go.Proofs.YtkgiammeeckfbaaGreat
open Go Go.RowKit
set_option linter.all false

section
variable {P : Program} {G : Nat} {φ : Ph} {h : H} {w : World} {e : Env} {d : Option Nat} {ty t t' : TypeId} {pos : String} {aft : Array Edge} {g : Option (Nat × Bool)} {x y : Operand} {v v1 v2 : V} {u u1 u2 : Value} {ρ : Operand → V}

theorem blt_q {b : Builtin} {ts : List TypeId} {l : List V} {us : List Value} {args : Array Operand} (r : Rel G φ h w) (hl : looks e args.toList = some us) (hc : CVs φ l us) (hb : rdB b = true) :
    QOk P φ h w e ⟨d, .call ⟨.builtin b, args, ts.toArray⟩, ty, pos, aft, g⟩ (blt P h b ts l) := by
  have key : ∀ {s : Sem Value} {rr : R}, (∀ consts, builtin b ts.toArray ty consts us.toArray = (do pure (.value (← s)))) → QB P φ h w s rr → QOk P φ h w e ⟨d, .call ⟨.builtin b, args, ts.toArray⟩, ty, pos, aft, g⟩ rr := fun {s rr} hb hk => by
    cases rr with
    | v x h' =>
      obtain ⟨rfl, u, h1, h3⟩ := hk
      refine ⟨rfl, u, fun ρ hρ => ?_, h3⟩
      have hm : args.map ρ = us.toArray := by
        apply Array.toList_inj.1
        simpa using looks_map hρ _ _ hl
      simp only [execOp, resolve, hm, Sem.run_bind, Sem.run_pure, Result.andThen_ok, invoke, hb, h1]
    | bad n => exact trivial
    | eff _ => exact hk.elim
    | call _ _ => exact hk.elim
    | yld _ _ => exact hk.elim
    | dfr _ _ _ => exact hk.elim
  unfold blt
  split <;> try exact trivial
  · split <;> try exact trivial
    cases hc with
    | cons h1 hc =>
    cases hc
    exact key (fun _ => rfl) (lenV_ok r h1)
  · split <;> try exact trivial
    cases hc with
    | cons h1 hc =>
    cases hc
    exact key (fun _ => rfl) (capV_ok r h1)
  · cases hb
  · cases hb
  · exact key (fun _ => rfl) (mm_ok (ts := ts.toArray) (ty := ty) true hc)
  · exact key (fun _ => rfl) (mm_ok (ts := ts.toArray) (ty := ty) false hc)
  · cases hb
  · cases hb
  · cases hb
  · cases hb

theorem convB_q (r : Rel G φ h w) (hne : ∀ el, P.underlying t' ≠ some (.slice el)) (hx : Kn φ e x v) : QOk P φ h w e ⟨d, .convert t t' x, ty, pos, aft, g⟩ (convB P h t t' v) := by
  unfold convB
  split
  · rename_i n s
    split
    · rename_i el h1 h2
      exact (hne el h2).elim
    · exact conv_q r hne hx
  · rename_i b o len kc es op
    split
    · rename_i n s ty' st hb
      split
      · rename_i el h1 h2
        split
        · rename_i h3
          refine cond_q' fun hc => ?_
          have hc' := hc
          simp only [Bool.and_eq_true] at hc'
          have h5 : o + len ≤ n := Nat.le_of_ble_eq_true hc'.2
          have q := conv_q (P := P) (t := t) (t' := t') (d := d) (ty := ty) (pos := pos) (aft := aft) (g := g) (r.heq (exH_eq h).symm) hne hx
          unfold conv at q
          simp only [h1, h2, h3, exH_byt hb, hc, cond_true, rdK_eq, byL_rd (exT_get n s) o len h5, packK_of _ _ _ _ (byS_lt s o len)] at q
          obtain ⟨-, u, k1, k2⟩ := q
          rw [fN_eq]
          exact QOk.pure k1 k2
        · exact trivial
      · exact trivial
    · exact conv_q r hne hx
  · exact conv_q r hne hx
theorem evOp_q {op : Op} (r : Rel G φ h w) (hρ : RhoR φ ρ e) (hop : rdOp P op = true) : QOk P φ h w e ⟨d, op, ty, pos, aft, g⟩ (evOp P ρ op h) := by
  cases op with
  | move x => exact rV_q fun hv => by obtain ⟨u, hx, hc⟩ := hρ x hv; exact ⟨u, ymv hx, hc⟩
  | assign x => exact rV_q fun hv => by obtain ⟨u, hx, hc⟩ := hρ x hv; exact ⟨u, yas hx, hc⟩
  | pick c a b =>
    unfold evOp
    simp only
    split <;> try exact trivial
    · rename_i hcv
      obtain ⟨uc, hx, hc⟩ := hρ c (by rw [hcv]; simp)
      rw [hcv] at hc; cases hc
      exact rV_q fun hv => by obtain ⟨u, hx2, hc2⟩ := hρ a hv; exact ⟨u, ypT hx hx2, hc2⟩
    · rename_i hcv
      obtain ⟨uc, hx, hc⟩ := hρ c (by rw [hcv]; simp)
      rw [hcv] at hc; cases hc
      exact rV_q fun hv => by obtain ⟨u, hx2, hc2⟩ := hρ b hv; exact ⟨u, ypF hx hx2, hc2⟩
  | build t ps =>
    unfold evOp
    simp only
    rcases partsK_eq ρ ps.toList (buildV P h t) (.bad 142) with h1 | ⟨h1, h2⟩
    · rw [h1]; exact trivial
    · rw [h2]
      obtain ⟨us, hp, hpr⟩ := lookp_of hρ h1
      have := buildV_ok (P := P) (d := d) (ty := ty) (pos := pos) (aft := aft) (g := g) (t := t) r (fun v hv => by
        simp only [List.map_map, List.mem_map] at hv
        obtain ⟨p, hp, rfl⟩ := hv
        exact h1 p hp) hp hpr
      rwa [Array.toArray_toList] at this
  | load t a => exact loadB_ok r (hρ _)
  | nilCheck x =>
    unfold evOp
    simp only
    split <;> try exact trivial
    · rename_i nm y hxv
      obtain ⟨u, hx, hc⟩ := hρ x (by rw [hxv]; simp)
      rw [hxv] at hc
      cases hc with
      | @mth _ _ u' hc =>
      exact mthV_q hx hc
    rename_i hnn hnm
    refine rV_q fun hv => ?_
    obtain ⟨u, hx, hc⟩ := hρ x hv
    refine ⟨u, ?_, hc⟩
    generalize ρ x = v at hc hnn hnm hv
    cases hc with
    | und => exact absurd rfl hv
    | nptr => exact absurd rfl (hnn _)
    | nsl => exact absurd rfl (hnn _)
    | nmap => exact absurd rfl (hnn _)
    | nfn => exact absurd rfl (hnn _)
    | nifc => exact absurd rfl (hnn _)
    | mth _ => exact absurd rfl (hnm _ _)
    | _ => exact fun ρ hρ => by simp [execOp, hρ _ _ hx]
  | binOp op t x y t' => exact bin_ok r (hρ _) (hρ _)
  | unOp op t x => exact un_ok r (hρ _)
  | convert s t x =>
    refine convB_q r (fun el he => ?_) (hρ _)
    have : rdOp P (.convert s t x) = (match P.underlying t with | some (.slice _) => false | _ => true) := rfl
    rw [this, he] at hop
    cases hop
  | makeInterface t x => exact mi_ok r (hρ _)
  | makeFunc fn a b =>
    cases fn with
    | func f =>
      unfold evOp
      simp only
      rcases knownK_eq ρ a.toList (fun p => knownK ρ b.toList (fun q => R.v (.fn f p q) h) (.bad 142)) (.bad 142) with h1 | ⟨h1, h2⟩
      · rw [h1]; exact trivial
      · rw [h2]
        rcases knownK_eq ρ b.toList (fun q => R.v (.fn f (a.toList.map ρ) q) h) (.bad 142) with h3 | ⟨h3, h4⟩
        · rw [h3]; exact trivial
        · rw [h4]
          obtain ⟨us, hl, hc⟩ := looks_of hρ h1
          obtain ⟨us', hl', hc'⟩ := looks_of hρ h3
          have := ymf (P := P) (d := d) (ty := ty) (pos := pos) (aft := aft) (g := g) (w := w) (f := f) hl hl'
          rw [Array.toArray_toList, Array.toArray_toList] at this
          exact QOk.pure this (.fn hc hc')
    | method nm =>
      unfold evOp
      simp only
      rcases knownK_eq ρ a.toList (fun p => mkM h nm p b.toList) (.bad 142) with h1 | ⟨h1, h2⟩
      · rw [h1]; exact trivial
      · rw [h2]
        obtain ⟨us, hl, hc⟩ := looks_of hρ h1
        exact mkM_q hl hc
    | _ => exact trivial
  | slice t x lo hi mx => exact slV_ok r hρ
  | fieldAddr t x i => exact fldAddr_ok r (hρ _)
  | field t x i => exact fldV_ok r (hρ _)
  | indexAddr t x i => exact ixAddr_ok r (hρ _) (hρ _)
  | index t x i => exact ixV_ok r (hρ _) (hρ _)
  | lookup t x k ok => exact lkW_ok r (hρ _) (hρ _)
  | typeAssert x t t' ok => exact ta_ok r (hρ _)
  | extract x i =>
    unfold evOp
    simp only
    split <;> try exact trivial
    rename_i l hl
    obtain ⟨u, hx, hc⟩ := hρ x (by rw [hl]; simp)
    rw [hl] at hc
    cases hc with
    | @tup _ us hc =>
    split <;> try exact trivial
    rename_i v hv
    obtain ⟨u, e1, e2⟩ := hc.get hv
    exact rV_q fun _ => ⟨u, yex hx (by simpa using e1), e2⟩
  | call c =>
    obtain ⟨cal, args, ts⟩ := c
    cases cal with
    | builtin b =>
      have hb : rdB b = true := hop
      unfold evOp evCall
      simp only
      rcases knownK_eq ρ args.toList (fun l => blt P h b ts.toList l) (.bad 142) with h1 | ⟨h1, h2⟩
      · rw [h1]; exact trivial
      · rw [h2]
        obtain ⟨us, hl, hc⟩ := looks_of hρ h1
        have := blt_q (P := P) (d := d) (ty := ty) (pos := pos) (aft := aft) (g := g) (b := b) (ts := ts.toList) r hl hc hb
        rwa [Array.toArray_toList] at this
    | value f => cases hop
    | invoke f n => cases hop
  | _ => cases hop

theorem alOp_ok {op : Op} (hρ : RhoR φ ρ e) : NwOk P φ w e ⟨d, op, ty, pos, aft, g⟩ (alOp P ρ op) := by
  cases op with
  | alloc t => exact allocN_ok
  | box t x => exact boxN_ok (hρ _)
  | buildSlice t n ps =>
    unfold alOp
    simp only
    rcases partsK_eq ρ ps.toList (buildSlB P t n) none with h1 | ⟨h1, h2⟩
    · rw [h1]; exact trivial
    · rw [h2]
      obtain ⟨us, hp, hpr⟩ := lookp_of hρ h1
      have := buildSlB_ok (pu := us) <| buildSlN_ok (P := P) (w := w) (d := d) (ty := ty) (pos := pos) (aft := aft) (g := g) (t := t) (n := n) (fun v hv => by
        simp only [List.map_map, List.mem_map] at hv
        obtain ⟨p, hp, rfl⟩ := hv
        exact h1 p hp) hp hpr
      rwa [Array.toArray_toList] at this
  | makeMap t r =>
    cases r with
    | none => exact makeMap_ok
    | some _ => exact trivial
  | makeSlice t l c => exact makeSlB_ok (hρ _) (hρ _)
  | _ => exact trivial

/-! ### What an operation looks at -/
theorem knownK_congr {β : Type} {ρ ρ' : Operand → V} {l : List Operand} (h : ∀ x ∈ l, ρ x = ρ' x) (c : List V → β) (no : β) : knownK ρ l c no = knownK ρ' l c no := by
  induction l generalizing c with
  | nil => rfl
  | cons x l ih =>
    show (match ρ x with | .und => no | v => fV v fun v => knownK ρ l (fun r => c (v :: r)) no) = (match ρ' x with | .und => no | v => fV v fun v => knownK ρ' l (fun r => c (v :: r)) no)
    rw [h x (List.mem_cons_self ..)]
    split
    · rfl
    · rw [fV_eq, fV_eq]; exact ih (fun y hy => h y (List.mem_cons_of_mem _ hy)) _
theorem partsK_congr {β : Type} {ρ ρ' : Operand → V} {l : List (Nat × Operand)} (h : ∀ p ∈ l, ρ p.2 = ρ' p.2) (c : List (Nat × V) → β) (no : β) : partsK ρ l c no = partsK ρ' l c no := by
  induction l generalizing c with
  | nil => rfl
  | cons x l ih =>
    show (match ρ x.2 with | .und => no | v => fV v fun v => partsK ρ l (fun r => c ((x.1, v) :: r)) no) = (match ρ' x.2 with | .und => no | v => fV v fun v => partsK ρ' l (fun r => c ((x.1, v) :: r)) no)
    rw [h x (List.mem_cons_self ..)]
    split
    · rfl
    · rw [fV_eq, fV_eq]; exact ih (fun y hy => h y (List.mem_cons_of_mem _ hy)) _
theorem evOp_congr {ρ ρ' : Operand → V} {op : Op} (h' : ∀ x ∈ op.operands, ρ x = ρ' x) (h : H) : evOp P ρ op h = evOp P ρ' op h := by
  cases op with
  | call c =>
    obtain ⟨cal, args, ts⟩ := c
    cases cal with
    | value f =>
      have h1 : ρ f = ρ' f := h' f (by simp [Op.operands, Call.operands])
      have h2 : ∀ x ∈ args.toList, ρ x = ρ' x := fun x hx => h' x (by simp [Op.operands, Call.operands]; exact .inr (by simpa using hx))
      unfold evOp evCall
      simp only [h1]
      exact knownK_congr h2 _ _
    | builtin b =>
      have h2 : ∀ x ∈ args.toList, ρ x = ρ' x := fun x hx => h' x (by simp [Op.operands, Call.operands]; simpa using hx)
      unfold evOp evCall
      simp only
      exact knownK_congr h2 _ _
    | invoke f n =>
      have h1 : ρ f = ρ' f := h' f (by simp [Op.operands, Call.operands])
      have h2 : ∀ x ∈ args.toList, ρ x = ρ' x := fun x hx => h' x (by simp [Op.operands, Call.operands]; exact .inr (by simpa using hx))
      unfold evOp evCall
      simp only [h1]
      exact knownK_congr h2 _ _
  | defer c =>
    obtain ⟨cal, args, ts⟩ := c
    cases cal with
    | value f =>
      have h1 : ρ f = ρ' f := h' f (by simp [Op.operands, Call.operands])
      have h2 : ∀ x ∈ args.toList, ρ x = ρ' x := fun x hx => h' x (by simp [Op.operands, Call.operands]; exact .inr (by simpa using hx))
      unfold evOp evDefer
      simp only [h1]
      exact knownK_congr h2 _ _
    | _ => rfl
  | build t ps =>
    have h2 : ∀ p ∈ ps.toList, ρ p.2 = ρ' p.2 := fun p hp => h' p.2 (by simp [Op.operands]; exact ⟨p.1, by simpa using hp⟩)
    unfold evOp
    simp only
    exact partsK_congr h2 _ _
  | buildSlice t n ps =>
    have h2 : ∀ p ∈ ps.toList, ρ p.2 = ρ' p.2 := fun p hp => h' p.2 (by simp [Op.operands]; exact ⟨p.1, by simpa using hp⟩)
    unfold evOp
    simp only
    rw [partsK_congr h2]
  | makeFunc fn a b =>
    cases fn with
    | func f =>
      have h1 : ∀ x ∈ a.toList, ρ x = ρ' x := fun x hx => h' x (by simp [Op.operands]; exact .inl (by simpa using hx))
      have h2 : ∀ x ∈ b.toList, ρ x = ρ' x := fun x hx => h' x (by simp [Op.operands]; exact .inr (by simpa using hx))
      unfold evOp
      simp only
      rw [knownK_congr h1]
      congr 1
      funext p
      exact knownK_congr h2 _ _
    | method nm =>
      have h1 : ∀ x ∈ a.toList, ρ x = ρ' x := fun x hx => h' x (by simp [Op.operands]; exact .inl (by simpa using hx))
      unfold evOp
      simp only
      exact knownK_congr h1 _ _
    | _ => rfl
  | slice t x lo hi mx =>
    have h1 : ρ x = ρ' x := h' x (by simp [Op.operands])
    have h2 : lo.map ρ = lo.map ρ' := by
      cases lo with
      | none => rfl
      | some o => simp [h' o (by simp [Op.operands])]
    have h3 : hi.map ρ = hi.map ρ' := by
      cases hi with
      | none => rfl
      | some o => simp [h' o (by simp [Op.operands])]
    have h4 : mx.map ρ = mx.map ρ' := by
      cases mx with
      | none => rfl
      | some o => simp [h' o (by simp [Op.operands])]
    simp only [evOp, h1, h2, h3, h4]
  | makeMap t r => cases r <;> rfl
  | _ =>
    first
      | rfl
      | (simp only [Op.operands] at h'
         simp only [evOp]
         first
           | rfl
           | (rw [h' _ (by simp), h' _ (by simp), h' _ (by simp)]; done)
           | (rw [h' _ (by simp), h' _ (by simp)]; done)
           | (rw [h' _ (by simp)]; done))
theorem alOp_congr {ρ ρ' : Operand → V} {op : Op} (h' : ∀ x ∈ op.operands, ρ x = ρ' x) : alOp P ρ op = alOp P ρ' op := by
  cases op with
  | buildSlice t n ps =>
    have h2 : ∀ p ∈ ps.toList, ρ p.2 = ρ' p.2 := fun p hp => h' p.2 (by simp [Op.operands]; exact ⟨p.1, by simpa using hp⟩)
    unfold alOp
    simp only
    exact partsK_congr h2 _ _
  | box t x => simp only [alOp]; rw [h' x (by simp [Op.operands])]
  | makeSlice t l c => simp only [alOp]; rw [h' l (by simp [Op.operands]), h' c (by simp [Op.operands])]
  | makeMap t r => cases r <;> rfl
  | _ => rfl
end
end Go.Proofs.YtkgiammeeckfbaaGreat
