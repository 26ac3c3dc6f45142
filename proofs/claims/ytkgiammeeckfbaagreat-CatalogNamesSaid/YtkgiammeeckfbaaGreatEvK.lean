/- The reckoner's calls; all operations. It is of no program. -/
import Derived.Test.YtkgiammeeckfbaaGreatEvPb
import Derived.Test.YtkgiammeeckfbaaGreatEvRg
import Derived.Test.YtkgiammeeckfbaaGreatEvSk
namespace Go.Proofs.YtkgiammeeckfbaaGreat
open Go Go.RowKit
set_option linter.all false

section
variable {P : Program} {G : Nat} {φ : Ph} {h : H} {w : World} {e : Env} {d : Option Nat} {ty t t' : TypeId} {pos : String} {aft : Array Edge} {g : Option (Nat × Bool)} {x y : Operand} {v v1 v2 : V} {u u1 u2 : Value} {ρ : Operand → V}

theorem blt_ok {b : Builtin} {ts : List TypeId} {l : List V} {us : List Value} {args : Array Operand} (r : Rel G φ h w) (hl : looks e args.toList = some us) (hc : CVs φ l us) :
    ROk P G φ h w e ⟨d, .call ⟨.builtin b, args, ts.toArray⟩, ty, pos, aft, g⟩ (blt P h b ts l) := by
  have key : ∀ {s : Sem Value} {rr : R}, (∀ consts, builtin b ts.toArray ty consts us.toArray = (do pure (.value (← s)))) → BOk P G φ h w s rr → ROk P G φ h w e ⟨d, .call ⟨.builtin b, args, ts.toArray⟩, ty, pos, aft, g⟩ rr := fun {s rr} hb hk => by
    cases rr with
    | v x h' =>
      obtain ⟨u, w', φ', h1, h2, h3⟩ := hk
      refine ⟨u, w', φ', fun ρ hρ => ?_, h2, h3⟩
      have hm : args.map ρ = us.toArray := by
        apply Array.toList_inj.1
        simpa using looks_map hρ _ _ hl
      simp only [execOp, resolve, hm, Sem.run_bind, Sem.run_pure, Result.andThen_ok, invoke, hb, h1]
    | bad n => exact trivial
    | eff _ => exact hk.elim
    | call _ _ => exact hk.elim
    | yld _ _ => exact hk.elim
    | dfr _ _ _ => exact hk.elim
  unfold blt
  split <;> try exact trivial
  · split <;> try exact trivial
    cases hc with
    | cons h1 hc =>
    cases hc
    exact key (fun _ => rfl) ((lenV_ok r h1).bok r)
  · split <;> try exact trivial
    cases hc with
    | cons h1 hc =>
    cases hc
    exact key (fun _ => rfl) ((capV_ok r h1).bok r)
  · split <;> try exact trivial
    cases hc with
    | cons h1 hc =>
    cases hc with
    | cons h2 hc =>
    cases hc
    exact key (fun _ => rfl) (appB_ok r h1 h2)
  · split <;> try exact trivial
    cases hc with
    | cons h1 hc =>
    cases hc with
    | cons h2 hc =>
    cases hc
    exact key (fun _ => rfl) (copyB_ok r h1 h2)
  · exact key (fun _ => rfl) ((mm_ok (ts := ts.toArray) (ty := ty) true hc).bok r)
  · exact key (fun _ => rfl) ((mm_ok (ts := ts.toArray) (ty := ty) false hc).bok r)
  · split <;> try exact trivial
    cases hc with
    | cons h1 hc =>
    cases hc
    exact key (fun _ => rfl) (clearB_ok r h1)
  · split <;> try exact trivial
    cases hc with
    | cons h1 hc =>
    cases hc with
    | cons h2 hc =>
    cases hc
    exact key (fun _ => rfl) (delV_ok r h1 h2)
  · cases hc with
    | cons h1 hc =>
    cases hc
    exact key (fun _ => rfl) ((sdV_ok (ts := ts.toArray) h1).bok r)
  · split <;> try exact trivial
    cases hc with
    | cons h1 hc =>
    cases hc with
    | cons h2 hc =>
    cases hc
    exact key (fun _ => rfl) (usB_ok r h1 h2)

theorem run_typeInfo {i : TypeInfo} (h : P.info? t = some i) : (typeInfo t).run P w = .ok i w := by simp [typeInfo, program, Sem.run, h]
theorem run_method {f : FuncId} {name : String} {u : Value} (h : methV P t name = some f) (n : Nat) : (method (n + 1) t u name).run P w = .ok (f, u) w := by
  unfold methV at h
  split at h <;> try cases h
  rename_i i hi
  split at h <;> try cases h
  rename_i m hm
  split at h <;> try cases h
  rename_i f' pr hpath hfunc
  have hm' : i.methods.find? (·.name == name) = some m := by rw [← hm, Array.find?_toList]
  split at h <;> try cases h
  · rename_i el hu
    cases pr <;> simp at h
    subst h
    simp [method, run_typeInfo hi, hm', hpath, follow, hfunc, receiverAt, run_underlying hu, Place.get]
  · rename_i td hnp hu
    cases pr <;> simp at h
    subst h
    unfold method
    simp only [Sem.run_bind, run_typeInfo hi, Result.andThen_ok, hm', hpath, follow, Sem.run_pure, hfunc, receiverAt, run_underlying hu, Place.get]

theorem evCall_ok {c : Call} (r : Rel G φ h w) (hρ : RhoR φ ρ e) : ROk P G φ h w e ⟨d, .call c, ty, pos, aft, g⟩ (evCall P ρ c h) := by
  obtain ⟨cal, args, ts⟩ := c
  unfold evCall
  simp only
  split <;> try exact trivial
  · rename_i f
    rcases knownK_eq ρ args.toList (fun l => callV P l (ρ f)) (.bad 142) with h1 | ⟨h1, h2⟩
    · rw [h1]; exact trivial
    · rw [h2]
      obtain ⟨us, hl, hc⟩ := looks_of hρ h1
      have hf := hρ f
      generalize ρ f = v at hf
      unfold callV
      split <;> try exact trivial
      · rename_i f' p q
        obtain ⟨u, hx, hcu⟩ := hf (by simp)
        cases hcu with
        | @fn _ _ _ up uq c1 c2 =>
        rw [fL_eq]
        refine ⟨up ++ us ++ uq, fun hF => ?_, (c1.append hc).append c2, fun u w' hrun ρ' hρ' => ?_⟩
        rotate_left
        · have hm : args.map ρ' = us.toArray := by
            apply Array.toList_inj.1
            simpa using looks_map hρ' _ _ hl
          have hrun' : (callFunc f' (up.toArray ++ us.toArray ++ uq.toArray)).run P w = .ok (.value u) w' := by
            rw [← hrun]; congr 2; simp
          simp only [execOp, resolve, hm, hρ' _ _ hx, Sem.run_bind, Deferred.ofValue, Sem.run_pure, Result.andThen_ok, invoke]
          exact hrun'
        have := ycv' (P := P) (d := d) (ty := ty) (pos := pos) (aft := aft) (g := g) (w := w) (ts := ts) hF hx hl
        rwa [Array.toArray_toList] at this
      · rename_i l
        obtain ⟨u, hx, hcu⟩ := hf (by simp)
        cases hcu with
        | @yld _ l' a N hp =>
        refine ⟨us, l', a, N, hp, hc, ?_⟩
        have := yy (P := P) (d := d) (ty := ty) (pos := pos) (aft := aft) (g := g) (w := w) (ts := ts) hx hl
        rwa [Array.toArray_toList] at this
      · rename_i nm y
        obtain ⟨u, hx, hcu⟩ := hf (by simp)
        cases hcu with
        | @mth _ _ uy hcy =>
        unfold invV
        split <;> try exact trivial
        rename_i t' v'
        cases hcy with
        | @ifc _ _ u' hcv =>
        split <;> try exact trivial
        rename_i f' hm
        rw [fL_eq]
        have hmm := fun w => run_method (P := P) (w := w) (u := u') hm (P.types.size + (Made.depth - 1))
        rw [show P.types.size + (Made.depth - 1) + 1 = P.types.size + Made.depth from rfl] at hmm
        have hpr : (program).run P w = .ok P w := rfl
        refine ⟨u' :: us, fun hF ρ' hρ' => ?_, .cons hcv hc, fun u w' hrun ρ' hρ' => ?_⟩
        · have hm' : args.map ρ' = us.toArray := by
            apply Array.toList_inj.1
            simpa using looks_map hρ' _ _ hl
          simp [execOp, resolve, hm', hρ' _ _ hx, Deferred.ofValue, invoke, callMethod, hpr, hmm, run_callFunc hF]
        · have hm' : args.map ρ' = us.toArray := by
            apply Array.toList_inj.1
            simpa using looks_map hρ' _ _ hl
          have hrun' : (callFunc f' (#[u'] ++ us.toArray)).run P w = .ok (.value u) w' := by
            rw [← hrun]; congr 2; simp
          simp [execOp, resolve, hm', hρ' _ _ hx, Deferred.ofValue, invoke, callMethod, hpr, hmm]
          simpa using hrun'
  · rename_i b
    rcases knownK_eq ρ args.toList (fun l => blt P h b ts.toList l) (.bad 142) with h1 | ⟨h1, h2⟩
    · rw [h1]; exact trivial
    · rw [h2]
      obtain ⟨us, hl, hc⟩ := looks_of hρ h1
      have := blt_ok (P := P) (d := d) (ty := ty) (pos := pos) (aft := aft) (g := g) (b := b) (ts := ts.toList) r hl hc
      rwa [Array.toArray_toList] at this
  · rename_i x name
    rcases knownK_eq ρ args.toList (fun l => invV P name l (ρ x)) (.bad 142) with h1 | ⟨h1, h2⟩
    · rw [h1]; exact trivial
    · rw [h2]
      obtain ⟨us, hl, hc⟩ := looks_of hρ h1
      have hf := hρ x
      generalize ρ x = v at hf
      unfold invV
      split <;> try exact trivial
      rename_i t' v'
      obtain ⟨u, hx, hcu⟩ := hf (by simp)
      cases hcu with
      | @ifc _ _ u' hcv =>
      split <;> try exact trivial
      rename_i f' hm
      rw [fL_eq]
      refine ⟨u' :: us, fun hF ρ' hρ' => ?_, .cons hcv hc, fun u w' hrun ρ' hρ' => ?_⟩
      rotate_left
      · have hm' : args.map ρ' = us.toArray := by
          apply Array.toList_inj.1
          simpa using looks_map hρ' _ _ hl
        have hmm := run_method (P := P) (w := w) (u := u') hm (P.types.size + (Made.depth - 1))
        rw [show P.types.size + (Made.depth - 1) + 1 = P.types.size + Made.depth from rfl] at hmm
        have hpr : (program).run P w = .ok P w := rfl
        have hrun' : (callFunc f' (#[u'] ++ us.toArray)).run P w = .ok (.value u) w' := by
          rw [← hrun]; congr 2; simp
        simp only [execOp, resolve, hm', hρ' _ _ hx, Sem.run_bind, Sem.run_pure, Result.andThen_ok, invoke]
        simp [callMethod, hpr, hmm]
        simpa using hrun'
      have hm' : args.map ρ' = us.toArray := by
        apply Array.toList_inj.1
        simpa using looks_map hρ' _ _ hl
      have hmm := run_method (P := P) (w := w) (u := u') hm (P.types.size + (Made.depth - 1))
      rw [show P.types.size + (Made.depth - 1) + 1 = P.types.size + Made.depth from rfl] at hmm
      have hpr : (program).run P w = .ok P w := rfl
      simp only [execOp, resolve, hm', hρ' _ _ hx, Sem.run_bind, Sem.run_pure, Result.andThen_ok, invoke]
      simp [callMethod, hpr, hmm, run_callFunc hF]

theorem evDefer_ok {c : Call} (r : Rel G φ h w) (hρ : RhoR φ ρ e) : ROk P G φ h w e ⟨d, .defer c, ty, pos, aft, g⟩ (evDefer ρ c) := by
  obtain ⟨cal, args, ts⟩ := c
  unfold evDefer
  simp only
  split <;> try exact trivial
  rename_i f
  rcases knownK_eq ρ args.toList (fun l => dfrV l (ρ f)) (.bad 244) with h1 | ⟨h1, h2⟩
  · rw [h1]; exact trivial
  · rw [h2]
    obtain ⟨us, hl, hc⟩ := looks_of hρ h1
    have hf := hρ f
    generalize ρ f = v at hf
    unfold dfrV
    split <;> try exact trivial
    rename_i f' p q
    obtain ⟨u, hx, hcu⟩ := hf (by simp)
    cases hcu with
    | @fn _ _ _ up uq c1 c2 =>
    rw [fL_eq]
    refine ⟨uq, up ++ us, c2, c1.append hc, fun ρ' hρ' => ?_⟩
    have hm : args.map ρ' = us.toArray := by
      apply Array.toList_inj.1
      simpa using looks_map hρ' _ _ hl
    simp [execOp, resolve, hm, hρ' _ _ hx, Deferred.ofValue, Dfr.d]
theorem makeMap_ok : NwOk P φ w e ⟨d, .makeMap t none, ty, pos, aft, g⟩ (some (.map [] 0, fun b => .map b)) :=
  ⟨.map #[] 0, .map (some w.heap.size), 0, fun ρ hρ => by simp [execOp, Instr.makeMap, newObj, Sem.run], rfl, fun φ' hs => ⟨#[], heap_new w _, .nil⟩, fun φ' b hb => .map hb⟩
theorem mthV_q {nm : String} {x : Operand} {y : V} {u : Value} (hx : look e x = some (.func (.method nm) #[u] #[])) (hc : CV φ y u) : QOk P φ h w e ⟨d, .nilCheck x, ty, pos, aft, g⟩ (mthV P h nm y) := by
  unfold mthV
  split <;> try exact trivial
  rename_i t v
  cases hc with
  | @ifc _ _ u' hc =>
  refine cond_q' fun hh => ?_
  obtain ⟨f, hm⟩ := Option.isSome_iff_exists.1 hh
  refine QOk.pure (fun ρ hρ => ?_) (.mth (.ifc hc))
  have hn : (nilAhead (P.types.size + Made.depth) t u' nm).run P w = .ok (some false) w := by
    rw [show P.types.size + Made.depth = P.types.size + (Made.depth - 1) + 1 from rfl]
    unfold methV at hm
    split at hm <;> try cases hm
    rename_i i hi
    split at hm <;> try cases hm
    rename_i m hmf
    split at hm <;> try cases hm
    rename_i f' pr hpath hfunc
    have hm' : i.methods.find? (·.name == nm) = some m := by rw [← hmf, Array.find?_toList]
    unfold nilAhead
    split at hm <;> try cases hm
    · rename_i el hu
      cases pr <;> simp at hm
      simp [run_typeInfo hi, hm', hpath, followBlind, hfunc]
    · rename_i td hnp hu
      cases pr <;> simp at hm
      simp only [Sem.run_bind, run_typeInfo hi, Result.andThen_ok, hm', hpath, followBlind, Sem.run_pure, hfunc, run_underlying hu]
      cases td <;> first | exact absurd rfl (hnp _) | rfl
  have hpr : (program).run P w = .ok P w := rfl
  simp [execOp, hρ _ _ hx, hpr, hn]
theorem mkM_q {nm : String} {a b : Array Operand} {l : List V} {us : List Value} (hl : looks e a.toList = some us) (hc : CVs φ l us) : QOk P φ h w e ⟨d, .makeFunc (.method nm) a b, ty, pos, aft, g⟩ (mkM h nm l b.toList) := by
  unfold mkM
  split <;> try exact trivial
  rename_i v hb
  cases hc with
  | @cons _ _ u1 _ h1 hc =>
  cases hc
  refine QOk.pure (fun ρ hρ => ?_) (.mth h1)
  have hm : a.map ρ = [u1].toArray := by
    apply Array.toList_inj.1
    simpa using looks_map hρ _ _ hl
  have hb' : b = #[] := by apply Array.toList_inj.1; simpa using hb
  subst hb'
  simp [execOp, hm, Instr.makeFunc]
/-- What the reckoner answers to an operation is what the operation does. -/
theorem evOp_ok {op : Op} (r : Rel G φ h w) (hρ : RhoR φ ρ e) : ROk P G φ h w e ⟨d, op, ty, pos, aft, g⟩ (evOp P ρ op h) := by
  unfold evOp
  split <;> try exact trivial
  · rename_i x
    exact (rV_q fun hv => by obtain ⟨u, hx, hc⟩ := hρ x hv; exact ⟨u, ymv hx, hc⟩).rok r
  · rename_i x
    exact (rV_q fun hv => by obtain ⟨u, hx, hc⟩ := hρ x hv; exact ⟨u, yas hx, hc⟩).rok r
  · rename_i c a b
    split <;> try exact trivial
    · rename_i hcv
      obtain ⟨uc, hx, hc⟩ := hρ c (by rw [hcv]; simp)
      rw [hcv] at hc; cases hc
      exact (rV_q fun hv => by obtain ⟨u, hx2, hc2⟩ := hρ a hv; exact ⟨u, ypT hx hx2, hc2⟩).rok r
    · rename_i hcv
      obtain ⟨uc, hx, hc⟩ := hρ c (by rw [hcv]; simp)
      rw [hcv] at hc; cases hc
      exact (rV_q fun hv => by obtain ⟨u, hx2, hc2⟩ := hρ b hv; exact ⟨u, ypF hx hx2, hc2⟩).rok r
  · exact allocN_ok.rok r
  · exact (boxN_ok (hρ _)).rok r
  · rename_i t ps
    rcases partsK_eq ρ ps.toList (buildV P h t) (.bad 142) with h1 | ⟨h1, h2⟩
    · rw [h1]; exact trivial
    · rw [h2]
      obtain ⟨us, hp, hpr⟩ := lookp_of hρ h1
      have := buildV_ok (P := P) (d := d) (ty := ty) (pos := pos) (aft := aft) (g := g) (t := t) r (fun v hv => by
        simp only [List.map_map, List.mem_map] at hv
        obtain ⟨p, hp, rfl⟩ := hv
        exact h1 p hp) hp hpr
      rw [Array.toArray_toList] at this
      exact this.rok r
  · rename_i t n ps
    rcases partsK_eq ρ ps.toList (buildSlB P t n) none with h1 | ⟨h1, h2⟩
    · rw [h1]; exact trivial
    · rw [h2]
      obtain ⟨us, hp, hpr⟩ := lookp_of hρ h1
      have := buildSlB_ok (pu := us) <| buildSlN_ok (P := P) (w := w) (d := d) (ty := ty) (pos := pos) (aft := aft) (g := g) (t := t) (n := n) (fun v hv => by
        simp only [List.map_map, List.mem_map] at hv
        obtain ⟨p, hp, rfl⟩ := hv
        exact h1 p hp) hp hpr
      rw [Array.toArray_toList] at this
      exact this.rok r
  · exact (loadB_ok r (hρ _)).rok r
  · exact storeB_ok r (hρ _) (hρ _)
  · rename_i x
    split <;> try exact trivial
    · rename_i nm y hxv
      obtain ⟨u, hx, hc⟩ := hρ x (by rw [hxv]; simp)
      rw [hxv] at hc
      cases hc with
      | @mth _ _ u' hc =>
      exact (mthV_q hx hc).rok r
    rename_i hnn hnm
    refine rV_ok r fun hv => ?_
    obtain ⟨u, hx, hc⟩ := hρ x hv
    refine ⟨u, ?_, hc⟩
    generalize ρ x = v at hc hnn hnm hv
    cases hc with
    | und => exact absurd rfl hv
    | nptr => exact absurd rfl (hnn _)
    | nsl => exact absurd rfl (hnn _)
    | nmap => exact absurd rfl (hnn _)
    | nfn => exact absurd rfl (hnn _)
    | nifc => exact absurd rfl (hnn _)
    | mth _ => exact absurd rfl (hnm _ _)
    | _ => exact fun ρ hρ => by simp [execOp, hρ _ _ hx]
  · exact (bin_ok r (hρ _) (hρ _)).rok r
  · exact (un_ok r (hρ _)).rok r
  · exact convB_ok r (hρ _)
  · exact (mi_ok r (hρ _)).rok r
  · rename_i f a b
    rcases knownK_eq ρ a.toList (fun p => knownK ρ b.toList (fun q => R.v (.fn f p q) h) (.bad 142)) (.bad 142) with h1 | ⟨h1, h2⟩
    · rw [h1]; exact trivial
    · rw [h2]
      rcases knownK_eq ρ b.toList (fun q => R.v (.fn f (a.toList.map ρ) q) h) (.bad 142) with h3 | ⟨h3, h4⟩
      · rw [h3]; exact trivial
      · rw [h4]
        obtain ⟨us, hl, hc⟩ := looks_of hρ h1
        obtain ⟨us', hl', hc'⟩ := looks_of hρ h3
        have := ymf (P := P) (d := d) (ty := ty) (pos := pos) (aft := aft) (g := g) (w := w) (f := f) hl hl'
        rw [Array.toArray_toList, Array.toArray_toList] at this
        exact ROk.pure r this (.fn hc hc')
  · rename_i nm a b
    rcases knownK_eq ρ a.toList (fun p => mkM h nm p b.toList) (.bad 142) with h1 | ⟨h1, h2⟩
    · rw [h1]; exact trivial
    · rw [h2]
      obtain ⟨us, hl, hc⟩ := looks_of hρ h1
      exact (mkM_q hl hc).rok r
  · exact (makeMap_ok (P := P)).rok r
  · exact (makeSlB_ok (hρ _) (hρ _)).rok r
  · exact (slV_ok r hρ).rok r
  · exact (fldAddr_ok r (hρ _)).rok r
  · exact (fldV_ok r (hρ _)).rok r
  · exact (ixAddr_ok r (hρ _) (hρ _)).rok r
  · exact (ixV_ok r (hρ _) (hρ _)).rok r
  · exact (lkW_ok r (hρ _) (hρ _)).rok r
  · exact muV_ok (fun _ => rfl) r (hρ _) (hρ _) (hρ _)
  · exact muV_ok (fun _ => rfl) r (hρ _) (hρ _) (hρ _)
  · exact meW_ok r (hρ _) (hρ _)
  · exact esV_ok r (hρ _) (hρ _) (hρ _)
  · exact (ta_ok r (hρ _)).rok r
  · rename_i x i
    split <;> try exact trivial
    rename_i l hl
    obtain ⟨u, hx, hc⟩ := hρ x (by rw [hl]; simp)
    rw [hl] at hc
    cases hc with
    | @tup _ us hc =>
    split <;> try exact trivial
    rename_i v hv
    obtain ⟨u, e1, e2⟩ := hc.get hv
    exact (rV_q fun _ => ⟨u, yex hx (by simpa using e1), e2⟩).rok r
  · exact evCall_ok r hρ
  · exact evDefer_ok r hρ
  · exact rgV_ok r (hρ _)
  · exact nxV_ok r (hρ _)
  · exact enV_ok r (hρ _)
end
end Go.Proofs.YtkgiammeeckfbaaGreat
