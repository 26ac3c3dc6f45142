/- The reckoner's builtins: append, copy, len, cap, min, max; conversions. It is of no program. -/
import Derived.Test.YtbhepednfnmngaaGreatEvG
namespace Go.Proofs.YtbhepednfnmngaaGreat
open Go Go.RowKit
set_option linter.all false

section
variable {P : Program} {G : Nat} {φ : Ph} {h : H} {w : World} {e : Env} {d : Option Nat} {ty t t' : TypeId} {pos : String} {aft : Array Edge} {g : Option (Nat × Bool)} {x y : Operand} {v v1 v2 : V} {u u1 u2 : Value} {ρ : Operand → V}

theorem cvs_one' {l : List V} {us : List Value} (hc : CVs φ l us) (ho : ones l = true) : ∀ u ∈ us, u.oneCell' = true := fun u hu => oneV_one (cvs_one hc ho u hu)

theorem MR.len : ∀ {l : List (V × V × Nat)} {es : List MapEntry}, MR φ l es → es.length = l.length
  | _, _, .nil => rfl
  | _, _, .cons _ _ _ k => by simp [MR.len k]
theorem room_ok {es m len c' b' off N : Nat} {news us : List Value} {T : TypeId} {fz : Nat × Nat} {el : TypeId} {i : TypeInfo} (ht : P.underlying t = some (.slice el)) (hi : P.info? el = some i) (hes : i.size = es) (hS : Src P es t' u2 m news w)
    (hB : BlkF w b' us T fz) (hlen : us.length = N) (hN : off + c' * es ≤ N) (hroom : len + m ≤ c') :
    ∃ w', (Builtin.append_ #[t, t'] ty #[.slice (some ⟨b', off, none⟩) len c', u2]).run P w = .ok (.slice (some ⟨b', off, none⟩) (len + m) c') w' ∧ BlkF w' b' (splice us (off + len * es) news) T fz ∧ Kp (fun k => k = b') w w' := by
  have hnl := hS.newsLen
  have h1 : (len + m) * es ≤ c' * es := Nat.mul_le_mul_right _ hroom
  rw [Nat.add_mul] at h1
  have hfit : off + len * es + news.length ≤ us.length := by omega
  obtain ⟨w', hr, hB', hk⟩ := run_storeCells_blkF (P := P) (off + len * es) news 0 us w hB (by omega) hS.one
  simp only [Nat.add_zero] at hB'
  refine ⟨w', ?_, hB', hk⟩
  have hc : ∀ j, j < news.length → (w.cell? ⟨b', off + len * es + j, none⟩).isSome = true := fun j hj => by
    rw [hB.cell, List.getElem?_eq_getElem (by omega)]; rfl
  have hf : ∀ j, j < news.length → w.frozen? ⟨b', off + len * es + j, none⟩ = false := fun j hj => hB.blk.free (by omega)
  have hst := run_storeCells_cells (P := P) b' (off + len * es) news 0 w (by simpa using hc) (by simpa using hf) hS.one
  simp only [Nat.add_zero] at hst
  rw [hst] at hr
  cases hr
  subst hes
  exact run_append_room_src (P := P) w t t' ty el i ht hi b' off len c' u2 m news hS hroom hc hf

theorem append_first {es len c' b' off : Nat} {olds : List Value} (hl : olds.length = len * es) (hc : ∀ j u, olds[j]? = some u → w.cell? ⟨b', off + j, none⟩ = some u) : (Builtin.firstCells es len (.slice (some ⟨b', off, none⟩) len c')).run P w.drew = .ok olds.toArray w.drew := by
  have := (elm_slice (P := P) (c := c') hl hc).first len w.drew (Nat.le_refl _) rfl
  rwa [List.take_of_length_le (by rw [hl]; exact Nat.le_refl _)] at this

theorem appV_ok (r : Rel G φ h w) (hc1 : CV φ v1 u1) (hc2 : CV φ v2 u2) : BOk P G φ h w (Builtin.append_ #[t, t'] ty #[u1, u2]) (appV P h t t' v1 v2) := by
  unfold appV
  split <;> try exact trivial
  rename_i el ht
  rw [fN_eq]
  refine BOk.cnd' fun hh => ?_
  simp only [Bool.and_eq_true] at hh
  obtain ⟨⟨h0, hby⟩, hz, hso⟩ := hh
  have h0 : 0 < tsz P el := by simpa using h0
  have hby := Nat.le_of_ble_eq_true hby
  obtain ⟨i, z, hi, hiz, his, hib, hzs⟩ := zOk_spec hz
  rcases elems_eq (P := P) (es := tsz P el) r hc2 _ _ with he | ⟨m, l, news, he, hcn, hE⟩
  · rw [he]; exact trivial
  · rw [he]
    refine BOk.cnd' fun ho => ?_
    have hS := hE.src hso (cvs_one' hcn ho)
    have hnl := hE.newsLen
    have hll : l.length = m * tsz P el := by rw [← hcn.len]; exact hnl
    have hS' : Src P i.size t' u2 m news w := by rw [his]; exact hS
    have fitb : ∀ {need old : Nat}, old < need → need ≤ 1073741824 → Builtin.nextslicecap need old * i.bytes ≤ 281474976710656 := fun {need old} h1 h2 => growslice_fits h1 (by
      rw [hib]
      have := Nat.mul_le_mul h2 hby
      omega)
    split <;> try exact trivial
    · -- a nil slice
      cases hc1
      refine BOk.cnd (fun hm => ?_) fun hm => BOk.cnd' fun hb => ?_
      · have hm := Nat.eq_of_beq_eq_true hm
        subst hm
        refine BOk.pure r ?_ .nsl
        have hn : news = [] := List.eq_nil_of_length_eq_zero (by simpa using hnl)
        subst hn
        rcases hS'.kind with ⟨e', hk⟩ | hk <;> simp [Builtin.append_, run_underlying ht, run_underlying hk, sizeOf, typeInfo, hi, hS'.len, hS'.cells]
      · have hm : 0 < m := by
          rcases Nat.eq_zero_or_pos m with e0 | e0
          · rw [e0] at hm; cases hm
          · exact e0
        have hb := Nat.le_of_ble_eq_true hb
        have hr := run_append_grow_src (P := P) w t t' ty el i z ht hi hiz none 0 0 [] (by simp [Builtin.firstCells]) u2 m news hS' (by omega) (by omega) (fitb (by omega) (by omega))
        simp only [Nat.zero_add, List.nil_append] at hr
        exact grow_ok r hcn hll hzs hr
    · -- an empty one
      rename_i b es'
      cases hc1 with
      | @es _ _ b' a N off c' hp hN =>
      refine BOk.cnd' fun hh => ?_
      simp only [Bool.and_eq_true] at hh
      have hes := Nat.eq_of_beq_eq_true hh.1
      have hb := Nat.le_of_ble_eq_true hh.2
      subst hes
      refine BOk.cnd (fun hm => ?_) fun hm => ?_
      · have hm := Nat.eq_of_beq_eq_true hm
        subst hm
        refine BOk.pure r ?_ (.es hp hN)
        have hn : news = [] := List.eq_nil_of_length_eq_zero (by simpa using hnl)
        subst hn
        rcases hS'.kind with ⟨e', hk⟩ | hk <;> simp [Builtin.append_, run_underlying ht, run_underlying hk, sizeOf, typeInfo, hi, hS'.len, hS'.cells, storeCells]
      · have hm : 0 < m := by
          rcases Nat.eq_zero_or_pos m with e0 | e0
          · rw [e0] at hm; cases hm
          · exact e0
        split <;> try exact trivial
        rename_i n0 d0 t0 ty0 st0 hb0
        obtain ⟨hN0, us, T, fz, hB, hlen, hT, hst⟩ := r.cells hb0 hp
        simp only at hN0 hB hlen hT
        refine BOk.cnd' fun hte => ?_
        have hte := Nat.eq_of_beq_eq_true hte
        rw [hSet_eq]
        by_cases hroom : 0 + m ≤ c'
        · obtain ⟨w', hr, hB', hk⟩ := room_ok (ty := ty) (len := 0) ht hi his (by rw [← his]; exact hS') hB hlen hN hroom
          simp only [Nat.zero_add, Nat.zero_mul, Nat.add_zero] at hr hB'
          unfold grow
          refine BOk.cnd' fun ho' => ?_
          rw [newCells_eq]
          have hmc : m * tsz P el ≤ c' * tsz P el := Nat.mul_le_mul_right _ (by omega)
          refine ⟨_, w', _, hr, r.renew (a := off) (N := N) hb0 rfl hp hk ⟨by simp only [hll]; omega, _, T, fz, hB', by rw [splice_len _ _ _ (by omega)]; exact hlen, TrR.new (hcn.mono (addPh_sb r _)) off (us.take off) (us.drop (off + news.length)) (by simp; omega), hst.1.trans hte, fun hh => by cases hh⟩, ?_⟩
          · exact .sl (a := off) (addPh_same _ _ _) (Nat.le_refl _) (by omega) (fun hh => by cases hh) (by simpa using hN)
        · have hr := run_append_grow_src (P := P) w t t' ty el i z ht hi hiz (some ⟨b', off, none⟩) 0 c' [] (by simp [Builtin.firstCells, loadCells, loadCellsFrom]) u2 m news hS' (by omega) (by omega) (fitb (by omega) (by omega))
          simp only [Nat.zero_add, List.nil_append] at hr
          exact BOk.after (r.del b) (grow_ok (r.del b).rel hcn hll hzs hr)
    · -- a slice
      rename_i b o len kc es' op
      cases hc1 with
      | @sl _ _ _ _ _ _ b' a N c' hp q1 q2 q3 q4 =>
      split <;> try exact trivial
      rename_i n0 d0 t0 ty0 st0 hb0
      obtain ⟨hN0, us, T, fz, hB, hlen, hT, hst⟩ := r.cells hb0 hp
      simp only at hN0 hB hlen hT
      rw [fN_eq]
      refine BOk.cnd' fun hh => ?_
      simp only [Bool.and_eq_true] at hh
      have hes := Nat.eq_of_beq_eq_true hh.1
      have hold : o + len * tsz P el ≤ n0 := Nat.le_of_ble_eq_true hh.2
      subst hes
      have hnd : (Nat.add len m) = len + m := rfl
      rw [hnd]
      refine BOk.cnd (fun hroom => BOk.cnd' fun hfit => ?_) fun hroom => BOk.cnd' fun hbig => ?_
      · have hroom := Nat.le_of_ble_eq_true hroom
        have hfit : o + (len + m) * tsz P el ≤ n0 := Nat.le_of_ble_eq_true hfit
        rw [Nat.add_mul] at hfit
        obtain ⟨w', hr, hB', hk⟩ := room_ok (ty := ty) (len := len) ht hi his hS hB hlen q4 (by omega)
        rw [wrK_eq, hSet_eq]
        have hw := hT.wr hcn (o := o + len * tsz P el) (by omega) (by omega)
        rw [← Nat.add_assoc] at hw
        refine ⟨_, w', φ, hr, r.upd hb0 rfl hp hk ⟨hN0, _, T, fz, hB', by rw [splice_len _ _ _ (by omega)]; exact hlen, hw, hst⟩, .sl hp hroom q2 q3 q4⟩
      · have hroom : kc < len + m := Nat.lt_of_not_le fun hle => by rw [Nat.ble_eq_true_of_le hle] at hroom; cases hroom
        have hbig := Nat.le_of_ble_eq_true hbig
        rw [rdK_eq]
        have hco := hT.read hold
        have holds := hB.blk.cells (i := a + o) (n := len * tsz P el) rfl
        have hol : ((us.drop (a + o)).take (len * tsz P el)).length = len * tsz P el := by rw [hco.len]; simp
        have hfirst := append_first (P := P) (c' := c') hol holds
        rw [← his] at hfirst
        have hca := hco.append hcn
        have hla : ((List.range' o (len * tsz P el)).map (fun i => vGet d0 i t0) ++ l).length = (len + m) * tsz P el := by
          rw [List.length_append, hll, Nat.add_mul]; simp
        have hgrow : c' < len + m → (Builtin.append_ #[t, t'] ty #[.slice (some ⟨b', a + o, none⟩) len c', u2]).run P w = .ok (.slice (some ⟨w.heap.size, 0, none⟩) (len + m) (grownCap w (len + m) c' el))
            (w.drew.alloc (.cells ((((us.drop (a + o)).take (len * tsz P el)) ++ news).toArray ++ Builtin.zeroCells z.cells (grownCap w (len + m) c' el - (len + m))) el)) := fun hlt => by
          rw [← his]
          exact run_append_grow_src (P := P) w t t' ty el i z ht hi hiz (some ⟨b', a + o, none⟩) len c' _ hfirst u2 m news hS' hlt (by omega) (fitb hlt hbig)
        refine BOk.cnd (fun hop => ?_) fun hop => ?_
        · refine BOk.cnd' fun hte => ?_
          have hte := Nat.eq_of_beq_eq_true hte
          rw [hSet_eq]
          by_cases hr' : len + m ≤ c'
          · obtain ⟨w', hr, hB', hk⟩ := room_ok (ty := ty) (len := len) ht hi his hS hB hlen q4 hr'
            unfold grow
            refine BOk.cnd' fun ho' => ?_
            rw [newCells_eq]
            have hmc : (len + m) * tsz P el ≤ c' * tsz P el := Nat.mul_le_mul_right _ hr'
            have hmc' := hmc
            rw [Nat.add_mul] at hmc'
            have hfit' : a + o + len * tsz P el + news.length ≤ us.length := by rw [hnl, hlen]; omega
            have hsp : splice us (a + o + len * tsz P el) news = us.take (a + o) ++ ((us.drop (a + o)).take (len * tsz P el) ++ news) ++ us.drop (a + o + len * tsz P el + news.length) := by
              unfold splice
              rw [List.take_add]
              simp [List.append_assoc]
            refine ⟨_, w', _, hr, r.renew (a := a + o) (N := N) hb0 rfl hp hk ⟨Nat.le_trans (Nat.add_le_add_left (Nat.le_of_eq hla) (a + o)) (show (a + o) + (len + m) * tsz P el ≤ N by omega), _, T, fz, hB', by rw [splice_len _ _ _ hfit']; exact hlen, ?_, hst.1.trans hte, fun hh => by cases hh⟩, ?_⟩
            · rw [hsp]
              exact TrR.new (hca.mono (addPh_sb r _)) (a + o) (us.take (a + o)) _ (by simp; omega)
            · exact .sl (a := a + o) (addPh_same _ _ _) (Nat.le_refl _) hr' (fun hh => by cases hh) (by simpa using q4)
          · exact BOk.after (r.del b) (grow_ok (r.del b).rel hca hla hzs (hgrow (by omega)))
        · have := q3 hop
          exact grow_ok r hca hla hzs (hgrow (by omega))

theorem copyV_ok (r : Rel G φ h w) (hc1 : CV φ v1 u1) (hc2 : CV φ v2 u2) : BOk P G φ h w (Builtin.copy_ #[t, t'] ty #[u1, u2]) (copyV P h t v1 v2) := by
  unfold copyV
  split <;> try exact trivial
  rename_i el ht
  split <;> try exact trivial
  · cases hc1
    refine BOk.cnd' fun h0 => ?_
    have hs := run_sz' (show 0 < tsz P el by simpa using h0) w
    rcases elems_eq (P := P) (es := tsz P el) r hc2 _ _ with he | ⟨m, l, news, he, hcn, hE⟩
    · rw [he]; exact trivial
    · rw [he]
      refine BOk.pure r (u := I 0) ?_ .int
      have hf := hE.first 0 w (Nat.zero_le _) rfl
      simp only [Nat.zero_mul, List.take_zero] at hf
      simp [Builtin.copy_, run_underlying ht, hE.len, hs, hf, goInt]
  · rename_i b es
    cases hc1 with
    | @es _ _ b' a N off c' hp hN =>
    refine BOk.cnd' fun h0 => ?_
    have hs := run_sz' (show 0 < tsz P el by simpa using h0) w
    rcases elems_eq (P := P) (es := tsz P el) r hc2 _ _ with he | ⟨m, l, news, he, hcn, hE⟩
    · rw [he]; exact trivial
    · rw [he]
      refine BOk.pure r (u := I 0) ?_ .int
      have hf := hE.first 0 w (Nat.zero_le _) rfl
      simp only [Nat.zero_mul, List.take_zero] at hf
      simp [Builtin.copy_, run_underlying ht, hE.len, hs, hf, goInt, storeCells]
  · rename_i b o len kc es op
    cases hc1 with
    | @sl _ _ _ _ _ _ b' a N c' hp q1 q2 q3 q4 =>
    refine BOk.cnd' fun hh => ?_
    simp only [Bool.and_eq_true] at hh
    have h0 : 0 < es := by simpa using hh.1
    have hes := Nat.eq_of_beq_eq_true hh.2
    have hs := run_sz' (show 0 < tsz P el by omega) w
    rcases elems_eq (P := P) (es := es) r hc2 _ _ with he | ⟨m, l, news, he, hcn, hE⟩
    · rw [he]; exact trivial
    · rw [he]
      split <;> try exact trivial
      rename_i n0 d0 t0 ty0 st0 hb0
      obtain ⟨hN0, us, T, fz, hB, hlen, hT, hst⟩ := r.cells hb0 hp
      simp only at hN0 hB hlen hT
      refine BOk.cnd' fun hh => ?_
      simp only [Bool.and_eq_true] at hh
      have ho := hh.1
      have hfit : o + len * es ≤ n0 := Nat.le_of_ble_eq_true hh.2
      rw [fL_eq, wrK_eq, hSet_eq, rInt_eq]
      have hk1 : Nat.min m len ≤ m := Nat.min_le_left _ _
      have hk2 : Nat.min m len * es ≤ len * es := Nat.mul_le_mul_right _ (Nat.min_le_right _ _)
      have hnl := hE.newsLen
      have hk3 : Nat.min m len * es ≤ m * es := Nat.mul_le_mul_right _ hk1
      have hct := CVs.take (Nat.min m len * es) hcn
      have htl : (news.take (Nat.min m len * es)).length = Nat.min m len * es := by rw [List.length_take, Nat.min_eq_left (by omega)]
      obtain ⟨w', hr, hB', hk⟩ := run_storeCells_blkF (P := P) (a + o) (news.take (Nat.min m len * es)) 0 us w hB (by rw [htl]; omega) (fun u hu => cvs_one' hcn ho u (List.mem_of_mem_take hu))
      simp only [Nat.add_zero] at hB'
      have hw := hT.wr hct (o := o) (by rw [← hct.len, htl]; omega) (by omega)
      refine ⟨I ((Nat.min m len : Nat) : Int), w', φ, ?_, r.upd hb0 rfl hp hk ⟨hN0, _, T, fz, hB', by rw [splice_len _ _ _ (by rw [htl]; omega)]; exact hlen, hw, hst⟩, .int⟩
      have hf := hE.first (Nat.min m len) w hk1 rfl
      subst hes
      simp [Builtin.copy_, run_underlying ht, hE.len, hs, goInt]
      have hmm : m.min len = min m len := rfl
      rw [hmm] at hf hr
      simp [hf, hr]

theorem lenV_ok (r : Rel G φ h w) (hc : CV φ v u) : QB P φ h w (Builtin.len_ #[t] ty #[u]) (lenV P h t v) := by
  unfold lenV
  split <;> try exact trivial
  · rename_i ht
    split <;> try exact trivial
    rename_i n s
    cases hc with
    | str hs =>
    rw [rInt_eq]
    have hsz : (ByteArray.mk (unp n s).toArray).size = n := by rw [size_S]; simp
    exact QB.pure (u := I (n : Int)) (by simp [Builtin.len_, run_underlying ht, goInt, hsz]) .int
  · rename_i ht
    split <;> try exact trivial
    · rename_i b o len kc es op
      cases hc with
      | @sl _ _ _ _ _ _ b' a N c' hp q1 q2 q3 q4 =>
      rw [rInt_eq]
      exact QB.pure (u := I (len : Int)) (by simp [Builtin.len_, run_underlying ht, goInt]) .int
    · cases hc with
      | @es _ _ b' a N off c' hp hN => exact QB.pure (u := I 0) (by simp [Builtin.len_, run_underlying ht, goInt]) .int
    · cases hc
      exact QB.pure (u := I 0) (by simp [Builtin.len_, run_underlying ht, goInt]) .int
  · rename_i ht
    split <;> try exact trivial
    · cases hc
      exact QB.pure (u := I 0) (by simp [Builtin.len_, run_underlying ht, goInt]) .int
    · rename_i b
      cases hc with
      | @map _ b' a N hp =>
      split <;> try exact trivial
      rename_i es cl hb
      obtain ⟨q, hq, arr, hm, hM⟩ := r.blk _ _ hb
      rw [hp] at hq; cases hq
      rw [rInt_eq]
      have hl : arr.size = es.length := by rw [← Array.length_toList]; exact MR.len hM
      have hg : (getObj b').run P w = .ok (.map arr cl) w := by simp [getObj, Sem.run, hm]
      refine QB.pure (u := I (es.length : Int)) ?_ .int
      simp [Builtin.len_, run_underlying ht, goInt, hg, hl]
  · rename_i n el ht
    rw [rInt_eq]
    exact QB.pure (u := I (n : Int)) (by simp [Builtin.len_, run_underlying ht, goInt]) .int
  · rename_i ar ht
    split <;> try exact trivial
    rename_i n el ht'
    rw [rInt_eq]
    exact QB.pure (u := I (n : Int)) (by simp [Builtin.len_, run_underlying ht, run_underlying ht', goInt]) .int
theorem capV_ok (r : Rel G φ h w) (hc : CV φ v u) : QB P φ h w (Builtin.cap_ #[t] ty #[u]) (capV P h t v) := by
  unfold capV
  split <;> try exact trivial
  rename_i ht
  split <;> try exact trivial
  · rename_i b o len kc es
    cases hc with
    | @sl _ _ _ _ _ _ b' a N c' hp q1 q2 q3 q4 =>
    have := q3 rfl
    subst this
    rw [rInt_eq]
    exact QB.pure (u := I (c' : Int)) (by simp [Builtin.cap_, run_underlying ht, goInt]) .int
  · cases hc
    exact QB.pure (u := I 0) (by simp [Builtin.cap_, run_underlying ht, goInt]) .int
end
end Go.Proofs.YtbhepednfnmngaaGreat
