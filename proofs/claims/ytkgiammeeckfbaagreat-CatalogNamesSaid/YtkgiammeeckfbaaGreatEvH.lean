/- The reckoner's builtins: append, copy, len, cap, min, max; conversions. It is of no program. -/
import Derived.Test.YtkgiammeeckfbaaGreatEvG
namespace Go.Proofs.YtkgiammeeckfbaaGreat
open Go Go.RowKit
set_option linter.all false

section
variable {P : Program} {G : Nat} {φ : Ph} {h : H} {w : World} {e : Env} {d : Option Nat} {ty t t' : TypeId} {pos : String} {aft : Array Edge} {g : Option (Nat × Bool)} {x y : Operand} {v v1 v2 : V} {u u1 u2 : Value} {ρ : Operand → V}

theorem cvs_one' {l : List V} {us : List Value} (hc : CVs φ l us) (ho : ones l = true) : ∀ u ∈ us, u.oneCell' = true := fun u hu => oneV_one (cvs_one hc ho u hu)

theorem MR.len : ∀ {l : List (V × V × Nat)} {es : List MapEntry}, MR φ l es → es.length = l.length
  | _, _, .nil => rfl
  | _, _, .cons _ _ _ k => by simp [MR.len k]
/-- What append does with such a source: m elements, these cells. -/
structure ASrc (P : Program) (t t' ty el : TypeId) (i : TypeInfo) (z : Value) (u2 : Value) (m : Nat) (news : List Value) (w : World) : Prop where
  one : ∀ u ∈ news, u.oneCell' = true
  newsLen : news.length = m * i.size
  room : ∀ b off sLen sCap, sLen + m ≤ sCap → (∀ j, j < news.length → (w.cell? ⟨b, off + sLen * i.size + j, none⟩).isSome = true) → (∀ j, j < news.length → w.frozen? ⟨b, off + sLen * i.size + j, none⟩ = false) →
    (Builtin.append_ #[t, t'] ty #[.slice (some ⟨b, off, none⟩) sLen sCap, u2]).run P w = .ok (.slice (some ⟨b, off, none⟩) (sLen + m) sCap) (w.setCells b (off + sLen * i.size) news)
  grow : ∀ (base : Option Addr) sLen sCap (olds : List Value), (Builtin.firstCells i.size sLen (.slice base sLen sCap)).run P w.drew = .ok olds.toArray w.drew → sCap < sLen + m → ((sLen + m : Nat) : Int) ≤ 9223372036854775807 → Builtin.nextslicecap (sLen + m) sCap * i.bytes ≤ 281474976710656 →
    (Builtin.append_ #[t, t'] ty #[.slice base sLen sCap, u2]).run P w = .ok (.slice (some ⟨w.heap.size, 0, none⟩) (sLen + m) (grownCap w (sLen + m) sCap el)) (w.drew.alloc (.cells ((olds ++ news).toArray ++ Builtin.zeroCells z.cells (grownCap w (sLen + m) sCap el - (sLen + m))) el))
  nil : m = 0 → (Builtin.append_ #[t, t'] ty #[.slice none 0 0, u2]).run P w = .ok (.slice none 0 0) w
  es : m = 0 → ∀ b off c', (Builtin.append_ #[t, t'] ty #[.slice (some ⟨b, off, none⟩) 0 c', u2]).run P w = .ok (.slice (some ⟨b, off, none⟩) 0 c') w
theorem Src.asrc {t t' ty el : TypeId} {i : TypeInfo} {z : Value} {u2 : Value} {m : Nat} {news : List Value} (ht : P.underlying t = some (.slice el)) (hi : P.info? el = some i) (hiz : i.zero = some z) (hS : Src P i.size t' u2 m news w) : ASrc P t t' ty el i z u2 m news w :=
  ⟨hS.one, hS.newsLen, fun b off sLen sCap hr hc hf => run_append_room_src (P := P) w t t' ty el i ht hi b off sLen sCap u2 m news hS hr hc hf,
   fun base sLen sCap olds ho hg h63 hf => run_append_grow_src (P := P) w t t' ty el i z ht hi hiz base sLen sCap olds ho u2 m news hS hg h63 hf,
   fun hm => by
    subst hm
    have hn : news = [] := List.eq_nil_of_length_eq_zero (by simpa using hS.newsLen)
    subst hn
    rcases hS.kind with ⟨e', hk⟩ | hk <;> simp [Builtin.append_, run_underlying ht, run_underlying hk, sizeOf, typeInfo, hi, hS.len, hS.cells],
   fun hm b off c' => by
    subst hm
    have hn : news = [] := List.eq_nil_of_length_eq_zero (by simpa using hS.newsLen)
    subst hn
    rcases hS.kind with ⟨e', hk⟩ | hk <;> simp [Builtin.append_, run_underlying ht, run_underlying hk, sizeOf, typeInfo, hi, hS.len, hS.cells, storeCells]⟩
/-- Zeros. -/
theorem asrc_zeros {t t' ty el : TypeId} {i : TypeInfo} {z : Value} {k k' : IntKind} {n : Nat} (ht : P.underlying t = some (.slice el)) (ht' : P.underlying t' = some (.int k')) (hi : P.info? el = some i) (hiz : i.zero = some z) (hzs : z.cells.size = i.size) (h0 : 0 < i.size) (h1 : ∀ u ∈ z.cells.toList, u.oneCell' = true) (hn : n ≤ 1073741824) (hb : i.bytes ≤ 65536) :
    ASrc P t t' ty el i z (.int k (n : Int)) n (List.replicate n z.cells.toList).flatten w := by
  have hw : IntKind.i64.wrap (n : Int) = n := by simp [IntKind.wrap, IntKind.bits, IntKind.signed]; omega
  have hbb : n * i.bytes ≤ 1073741824 * 65536 := Nat.mul_le_mul hn hb
  have hl0 : ¬ ((n : Int) < 0) := by omega
  have hl1 : ¬ ((281474976710656 : Int) < (n : Int) * (i.bytes : Int)) := by
    have : (n : Int) * (i.bytes : Int) = ((n * i.bytes : Nat) : Int) := by simp
    rw [this]; omega
  have hlen : ((List.replicate n z.cells.toList).flatten).length = n * i.size := by simp [hzs]
  have hone : ∀ u ∈ (List.replicate n z.cells.toList).flatten, u.oneCell' = true := fun u hu => by
    obtain ⟨l, hl, hu⟩ := List.mem_flatten.1 hu
    rw [List.mem_replicate] at hl
    exact h1 u (hl.2 ▸ hu)
  have hzc : Builtin.zeroCells z.cells n = ((List.replicate n z.cells.toList).flatten).toArray := by
    unfold Builtin.zeroCells; exact range_rep _ _
  have hnz : n * i.size = 0 → (List.replicate n z.cells.toList).flatten = [] := fun e => List.eq_nil_of_length_eq_zero (by rw [hlen]; exact e)
  refine ⟨hone, hlen, fun b off sLen sCap hr hc hf => ?_, fun base sLen sCap olds ho hg h63 hf => ?_, fun hm => ?_, fun hm b off c' => ?_⟩
  · have hst := run_storeCells_cells (P := P) b (off + sLen * i.size) ((List.replicate n z.cells.toList).flatten) 0 w (by simpa using hc) (by simpa using hf) hone
    simp only [Nat.add_zero] at hst
    by_cases hz : n * i.size = 0
    · have e := hnz hz
      rw [e] at hst ⊢
      simp [Builtin.append_, run_underlying ht, run_underlying ht', sizeOf, typeInfo, asInt, asIntOf, hi, hw, hl0, hl1, hr, hz, Addr.add_lit, hst]
    · simp [Builtin.append_, run_underlying ht, run_underlying ht', sizeOf, typeInfo, asInt, asIntOf, hi, hw, hl0, hl1, hr, hz, zeroValue, hiz, hzc, Addr.add_lit, hst]
  · have hn1 : ¬ (sLen + n ≤ sCap) := by omega
    have h63' : ¬ (9223372036854775807 < ((sLen : Int) + (n : Int))) := by omega
    have h48' : ¬ (281474976710656 < Builtin.nextslicecap (sLen + n) sCap * i.bytes) := by omega
    by_cases hz : n * i.size = 0
    · have e := hnz hz
      rw [e]
      simp [Builtin.append_, run_underlying ht, run_underlying ht', sizeOf, typeInfo, zeroValue, asInt, asIntOf, hi, hiz, hw, hl0, hl1, hn1, h63', h48', hz, Question.forced, ho, newRow, grownCap]
    · simp [Builtin.append_, run_underlying ht, run_underlying ht', sizeOf, typeInfo, zeroValue, asInt, asIntOf, hi, hiz, hw, hl0, hl1, hn1, h63', h48', hz, hzc, Question.forced, ho, newRow, grownCap]
      congr 2
      apply Array.ext'
      simp [List.append_assoc]
  · subst hm
    have hw0 : IntKind.i64.wrap 0 = 0 := by simp [IntKind.wrap, IntKind.bits, IntKind.signed]
    simp [Builtin.append_, run_underlying ht, run_underlying ht', sizeOf, typeInfo, asInt, asIntOf, hi, hw0]
  · subst hm
    have hw0 : IntKind.i64.wrap 0 = 0 := by simp [IntKind.wrap, IntKind.bits, IntKind.signed]
    simp [Builtin.append_, run_underlying ht, run_underlying ht', sizeOf, typeInfo, asInt, asIntOf, hi, hw0, storeCells]
theorem room_ok {es m len c' b' off N : Nat} {news us : List Value} {T : TypeId} {fz : Nat × Nat} {el : TypeId} {i : TypeInfo} {z : Value} (hes : i.size = es) (hS : ASrc P t t' ty el i z u2 m news w)
    (hB : BlkF w b' us T fz) (hlen : us.length = N) (hN : off + c' * es ≤ N) (hroom : len + m ≤ c') :
    ∃ w', (Builtin.append_ #[t, t'] ty #[.slice (some ⟨b', off, none⟩) len c', u2]).run P w = .ok (.slice (some ⟨b', off, none⟩) (len + m) c') w' ∧ BlkF w' b' (splice us (off + len * es) news) T fz ∧ Kp (fun k => k = b') w w' := by
  have hnl := hS.newsLen
  rw [hes] at hnl
  have h1 : (len + m) * es ≤ c' * es := Nat.mul_le_mul_right _ hroom
  rw [Nat.add_mul] at h1
  have hfit : off + len * es + news.length ≤ us.length := by omega
  obtain ⟨w', hr, hB', hk⟩ := run_storeCells_blkF (P := P) (off + len * es) news 0 us w hB (by omega) hS.one
  simp only [Nat.add_zero] at hB'
  refine ⟨w', ?_, hB', hk⟩
  have hc : ∀ j, j < news.length → (w.cell? ⟨b', off + len * es + j, none⟩).isSome = true := fun j hj => by
    rw [hB.cell, List.getElem?_eq_getElem (by omega)]; rfl
  have hf : ∀ j, j < news.length → w.frozen? ⟨b', off + len * es + j, none⟩ = false := fun j hj => hB.blk.free (by omega)
  have hst := run_storeCells_cells (P := P) b' (off + len * es) news 0 w (by simpa using hc) (by simpa using hf) hS.one
  simp only [Nat.add_zero] at hst
  rw [hst] at hr
  cases hr
  subst hes
  exact hS.room b' off len c' hroom hc hf

theorem append_first {es len c' b' off : Nat} {olds : List Value} (hl : olds.length = len * es) (hc : ∀ j u, olds[j]? = some u → w.cell? ⟨b', off + j, none⟩ = some u) : (Builtin.firstCells es len (.slice (some ⟨b', off, none⟩) len c')).run P w.drew = .ok olds.toArray w.drew := by
  have := (elm_slice (P := P) (c := c') hl hc).first len w.drew (Nat.le_refl _) rfl
  rwa [List.take_of_length_le (by rw [hl]; exact Nat.le_refl _)] at this

theorem appC_ok {el m : Nat} {i : TypeInfo} {z : Value} {l : List V} {news : List Value} (r : Rel G φ h w) (hc1 : CV φ v1 u1) (ht : P.underlying t = some (.slice el)) (h0 : 0 < tsz P el) (hby : tbytes P el ≤ 65536) (his : i.size = tsz P el) (hib : i.bytes = tbytes P el) (hzs : z.cells.size = tsz P el)
    (hcn : CVs φ l news) (hA : ASrc P t t' ty el i z u2 m news w) : BOk P G φ h w (Builtin.append_ #[t, t'] ty #[u1, u2]) (appC P h el (tsz P el) v1 m l) := by
  have hnl : news.length = m * tsz P el := by rw [← his]; exact hA.newsLen
  have hll : l.length = m * tsz P el := by rw [← hcn.len]; exact hnl
  have fitb : ∀ {need old : Nat}, old < need → need ≤ 1073741824 → Builtin.nextslicecap need old * i.bytes ≤ 281474976710656 := fun {need old} h1 h2 => growslice_fits h1 (by
    rw [hib]
    have := Nat.mul_le_mul h2 hby
    omega)
  unfold appC
  refine BOk.cnd' fun ho => ?_
  split <;> try exact trivial
  · -- a nil slice
    cases hc1
    refine BOk.cnd (fun hm => ?_) fun hm => BOk.cnd' fun hb => ?_
    · have hm := Nat.eq_of_beq_eq_true hm
      subst hm
      refine BOk.pure r ?_ .nsl
      exact hA.nil rfl
    · have hm : 0 < m := by
        rcases Nat.eq_zero_or_pos m with e0 | e0
        · rw [e0] at hm; cases hm
        · exact e0
      have hb := Nat.le_of_ble_eq_true hb
      have hr := hA.grow none 0 0 [] (by simp [Builtin.firstCells]) (by omega) (by omega) (fitb (by omega) (by omega))
      simp only [Nat.zero_add, List.nil_append] at hr
      exact grow_ok r hcn hll hzs hr
  · -- an empty one
    rename_i b es'
    cases hc1 with
    | @es _ _ b' a N off c' hp hN =>
    refine BOk.cnd' fun hh => ?_
    simp only [Bool.and_eq_true] at hh
    have hes := Nat.eq_of_beq_eq_true hh.1
    have hb := Nat.le_of_ble_eq_true hh.2
    subst hes
    refine BOk.cnd (fun hm => ?_) fun hm => ?_
    · have hm := Nat.eq_of_beq_eq_true hm
      subst hm
      refine BOk.pure r ?_ (.es hp hN)
      exact hA.es rfl _ _ _
    · have hm : 0 < m := by
        rcases Nat.eq_zero_or_pos m with e0 | e0
        · rw [e0] at hm; cases hm
        · exact e0
      split <;> try exact trivial
      rename_i n0 d0 t0 ty0 st0 hb0
      obtain ⟨hN0, us, T, fz, hB, hlen, hT, hst⟩ := r.cells hb0 hp
      simp only at hN0 hB hlen hT
      refine BOk.cnd' fun hte => ?_
      have hte := Nat.eq_of_beq_eq_true hte
      rw [hSet_eq]
      by_cases hroom : 0 + m ≤ c'
      · obtain ⟨w', hr, hB', hk⟩ := room_ok (len := 0) his hA hB hlen hN hroom
        simp only [Nat.zero_add, Nat.zero_mul, Nat.add_zero] at hr hB'
        unfold grow
        refine BOk.cnd' fun ho' => ?_
        rw [newCells_eq]
        have hmc : m * tsz P el ≤ c' * tsz P el := Nat.mul_le_mul_right _ (by omega)
        refine ⟨_, w', _, hr, r.renew (a := off) (N := N) hb0 rfl hp hk ⟨by simp only [hll]; omega, _, T, fz, hB', by rw [splice_len _ _ _ (by omega)]; exact hlen, TrR.new (hcn.mono (addPh_sb r _)) off (us.take off) (us.drop (off + news.length)) (by simp; omega), hst.1.trans hte, fun hh => by cases hh⟩, ?_⟩
        · exact .sl (a := off) (addPh_same _ _ _) (Nat.le_refl _) (by omega) (fun hh => by cases hh) (by simpa using hN)
      · have hr := hA.grow (some ⟨b', off, none⟩) 0 c' [] (by simp [Builtin.firstCells, loadCells, loadCellsFrom]) (by omega) (by omega) (fitb (by omega) (by omega))
        simp only [Nat.zero_add, List.nil_append] at hr
        exact BOk.after (r.del b) (grow_ok (r.del b).rel hcn hll hzs hr)
  · -- a slice
    rename_i b o len kc es' op
    cases hc1 with
    | @sl _ _ _ _ _ _ b' a N c' hp q1 q2 q3 q4 =>
    split <;> try exact trivial
    rename_i n0 d0 t0 ty0 st0 hb0
    obtain ⟨hN0, us, T, fz, hB, hlen, hT, hst⟩ := r.cells hb0 hp
    simp only at hN0 hB hlen hT
    rw [fN_eq]
    refine BOk.cnd' fun hh => ?_
    simp only [Bool.and_eq_true] at hh
    have hes := Nat.eq_of_beq_eq_true hh.1
    have hold : o + len * tsz P el ≤ n0 := Nat.le_of_ble_eq_true hh.2
    subst hes
    have hnd : (Nat.add len m) = len + m := rfl
    rw [hnd]
    refine BOk.cnd (fun hroom => BOk.cnd' fun hfit => ?_) fun hroom => BOk.cnd' fun hbig => ?_
    · have hroom := Nat.le_of_ble_eq_true hroom
      have hfit : o + (len + m) * tsz P el ≤ n0 := Nat.le_of_ble_eq_true hfit
      rw [Nat.add_mul] at hfit
      obtain ⟨w', hr, hB', hk⟩ := room_ok (len := len) his hA hB hlen q4 (by omega)
      rw [wrK_eq, hSet_eq]
      have hw := hT.wr hcn (o := o + len * tsz P el) (by omega) (by omega)
      rw [← Nat.add_assoc] at hw
      refine ⟨_, w', φ, hr, r.upd hb0 rfl hp hk ⟨hN0, _, T, fz, hB', by rw [splice_len _ _ _ (by omega)]; exact hlen, hw, hst⟩, .sl hp hroom q2 q3 q4⟩
    · have hroom : kc < len + m := Nat.lt_of_not_le fun hle => by rw [Nat.ble_eq_true_of_le hle] at hroom; cases hroom
      have hbig := Nat.le_of_ble_eq_true hbig
      rw [rdK_eq]
      have hco := hT.read hold
      have holds := hB.blk.cells (i := a + o) (n := len * tsz P el) rfl
      have hol : ((us.drop (a + o)).take (len * tsz P el)).length = len * tsz P el := by rw [hco.len]; simp
      have hfirst := append_first (P := P) (c' := c') hol holds
      rw [← his] at hfirst
      have hca := hco.append hcn
      have hla : ((List.range' o (len * tsz P el)).map (fun i => vGet d0 i t0) ++ l).length = (len + m) * tsz P el := by
        rw [List.length_append, hll, Nat.add_mul]; simp
      have hgrow : c' < len + m → (Builtin.append_ #[t, t'] ty #[.slice (some ⟨b', a + o, none⟩) len c', u2]).run P w = .ok (.slice (some ⟨w.heap.size, 0, none⟩) (len + m) (grownCap w (len + m) c' el))
          (w.drew.alloc (.cells ((((us.drop (a + o)).take (len * tsz P el)) ++ news).toArray ++ Builtin.zeroCells z.cells (grownCap w (len + m) c' el - (len + m))) el)) := fun hlt => by
        rw [← his]
        exact hA.grow (some ⟨b', a + o, none⟩) len c' _ hfirst hlt (by omega) (fitb hlt hbig)
      refine BOk.cnd (fun hop => ?_) fun hop => ?_
      · refine BOk.cnd' fun hte => ?_
        have hte := Nat.eq_of_beq_eq_true hte
        rw [hSet_eq]
        by_cases hr' : len + m ≤ c'
        · obtain ⟨w', hr, hB', hk⟩ := room_ok (len := len) his hA hB hlen q4 hr'
          unfold grow
          refine BOk.cnd' fun ho' => ?_
          rw [newCells_eq]
          have hmc : (len + m) * tsz P el ≤ c' * tsz P el := Nat.mul_le_mul_right _ hr'
          have hmc' := hmc
          rw [Nat.add_mul] at hmc'
          have hfit' : a + o + len * tsz P el + news.length ≤ us.length := by rw [hnl, hlen]; omega
          have hsp : splice us (a + o + len * tsz P el) news = us.take (a + o) ++ ((us.drop (a + o)).take (len * tsz P el) ++ news) ++ us.drop (a + o + len * tsz P el + news.length) := by
            unfold splice
            rw [List.take_add]
            simp [List.append_assoc]
          refine ⟨_, w', _, hr, r.renew (a := a + o) (N := N) hb0 rfl hp hk ⟨Nat.le_trans (Nat.add_le_add_left (Nat.le_of_eq hla) (a + o)) (show (a + o) + (len + m) * tsz P el ≤ N by omega), _, T, fz, hB', by rw [splice_len _ _ _ hfit']; exact hlen, ?_, hst.1.trans hte, fun hh => by cases hh⟩, ?_⟩
          · rw [hsp]
            exact TrR.new (hca.mono (addPh_sb r _)) (a + o) (us.take (a + o)) _ (by simp; omega)
          · exact .sl (a := a + o) (addPh_same _ _ _) (Nat.le_refl _) hr' (fun hh => by cases hh) (by simpa using q4)
        · exact BOk.after (r.del b) (grow_ok (r.del b).rel hca hla hzs (hgrow (by omega)))
      · have := q3 hop
        exact grow_ok r hca hla hzs (hgrow (by omega))
theorem appV_ok (r : Rel G φ h w) (hc1 : CV φ v1 u1) (hc2 : CV φ v2 u2) : BOk P G φ h w (Builtin.append_ #[t, t'] ty #[u1, u2]) (appV P h t t' v1 v2) := by
  unfold appV
  split <;> try exact trivial
  rename_i el ht
  rw [fN_eq]
  refine BOk.cnd' fun hh => ?_
  simp only [Bool.and_eq_true] at hh
  obtain ⟨⟨h0, hby⟩, hz, hso⟩ := hh
  have h0 : 0 < tsz P el := by simpa using h0
  have hby := Nat.le_of_ble_eq_true hby
  obtain ⟨i, z, hi, hiz, his, hib, hzs⟩ := zOk_spec hz
  rcases elems_eq (P := P) (es := tsz P el) r hc2 (fun m new => appC P h el (tsz P el) v1 m new) (.bad 89) with he | ⟨m, l, news, he, hcn, hE⟩
  · rw [he]; exact trivial
  · rw [he]
    by_cases ho : ones l = true
    · have hS := hE.src hso (cvs_one' hcn ho)
      have hS' : Src P i.size t' u2 m news w := by rw [his]; exact hS
      exact appC_ok r hc1 ht h0 hby his hib hzs hcn (Src.asrc ht hi hiz hS')
    · unfold appC
      rw [show ones l = false by simpa using ho]
      exact trivial
theorem appN_ok {k : IntKind} {n : Nat} (r : Rel G φ h w) (hc1 : CV φ v1 u1) : BOk P G φ h w (Builtin.append_ #[t, t'] ty #[u1, .int k (n : Int)]) (appN P h t t' v1 n) := by
  unfold appN
  split <;> try exact trivial
  rename_i el k' ht ht'
  split <;> try exact trivial
  rename_i zl hz
  rw [fN_eq]
  refine BOk.cnd' fun hh => ?_
  simp only [Bool.and_eq_true] at hh
  obtain ⟨⟨h0, hby⟩, ⟨hzl, hz0⟩, hn⟩ := hh
  have h0 : 0 < tsz P el := by simpa using h0
  have hby := Nat.le_of_ble_eq_true hby
  have hn := Nat.le_of_ble_eq_true hn
  obtain ⟨i, z, hi, hiz, his, hib, hzs⟩ := zOk_spec (show zOk P el (tsz P el) = true by unfold zOk; rw [hz]; exact hzl)
  have hzl' : zl = zeroB z := by
    unfold tzero at hz
    rw [hi] at hz
    simp only [hiz, Option.map_some, Option.some.injEq] at hz
    exact hz.symm
  rw [fL_eq]
  have hz1 : ones (zeroB z) = true := by rw [← hzl']; exact hz0
  have hzc := cvs_zero (φ := φ) hz1
  have hrc := repl_cvs hzc n
  rw [← hzl'] at hrc
  exact appC_ok r hc1 ht h0 hby his hib hzs hrc (asrc_zeros (P := P) (w := w) (ty := ty) (k := k) (n := n) ht ht' hi hiz (by rw [hzs, his]) (by rw [his]; exact h0) (cvs_one' hzc hz1) hn (by rw [hib]; exact hby))

theorem copyV_ok (r : Rel G φ h w) (hc1 : CV φ v1 u1) (hc2 : CV φ v2 u2) : BOk P G φ h w (Builtin.copy_ #[t, t'] ty #[u1, u2]) (copyV P h t v1 v2) := by
  unfold copyV
  split <;> try exact trivial
  rename_i el ht
  split <;> try exact trivial
  · cases hc1
    refine BOk.cnd' fun h0 => ?_
    have hs := run_sz' (show 0 < tsz P el by simpa using h0) w
    rcases elems_eq (P := P) (es := tsz P el) r hc2 _ _ with he | ⟨m, l, news, he, hcn, hE⟩
    · rw [he]; exact trivial
    · rw [he]
      refine BOk.pure r (u := I 0) ?_ .int
      have hf := hE.first 0 w (Nat.zero_le _) rfl
      simp only [Nat.zero_mul, List.take_zero] at hf
      simp [Builtin.copy_, run_underlying ht, hE.len, hs, hf, goInt]
  · rename_i b es
    cases hc1 with
    | @es _ _ b' a N off c' hp hN =>
    refine BOk.cnd' fun h0 => ?_
    have hs := run_sz' (show 0 < tsz P el by simpa using h0) w
    rcases elems_eq (P := P) (es := tsz P el) r hc2 _ _ with he | ⟨m, l, news, he, hcn, hE⟩
    · rw [he]; exact trivial
    · rw [he]
      refine BOk.pure r (u := I 0) ?_ .int
      have hf := hE.first 0 w (Nat.zero_le _) rfl
      simp only [Nat.zero_mul, List.take_zero] at hf
      simp [Builtin.copy_, run_underlying ht, hE.len, hs, hf, goInt, storeCells]
  · rename_i b o len kc es op
    cases hc1 with
    | @sl _ _ _ _ _ _ b' a N c' hp q1 q2 q3 q4 =>
    refine BOk.cnd' fun hh => ?_
    simp only [Bool.and_eq_true] at hh
    have h0 : 0 < es := by simpa using hh.1
    have hes := Nat.eq_of_beq_eq_true hh.2
    have hs := run_sz' (show 0 < tsz P el by omega) w
    rcases elems_eq (P := P) (es := es) r hc2 _ _ with he | ⟨m, l, news, he, hcn, hE⟩
    · rw [he]; exact trivial
    · rw [he]
      split <;> try exact trivial
      rename_i n0 d0 t0 ty0 st0 hb0
      obtain ⟨hN0, us, T, fz, hB, hlen, hT, hst⟩ := r.cells hb0 hp
      simp only at hN0 hB hlen hT
      refine BOk.cnd' fun hh => ?_
      simp only [Bool.and_eq_true] at hh
      have ho := hh.1
      have hfit : o + len * es ≤ n0 := Nat.le_of_ble_eq_true hh.2
      rw [fL_eq, wrK_eq, hSet_eq, rInt_eq]
      have hk1 : Nat.min m len ≤ m := Nat.min_le_left _ _
      have hk2 : Nat.min m len * es ≤ len * es := Nat.mul_le_mul_right _ (Nat.min_le_right _ _)
      have hnl := hE.newsLen
      have hk3 : Nat.min m len * es ≤ m * es := Nat.mul_le_mul_right _ hk1
      have hct := CVs.take (Nat.min m len * es) hcn
      have htl : (news.take (Nat.min m len * es)).length = Nat.min m len * es := by rw [List.length_take, Nat.min_eq_left (by omega)]
      obtain ⟨w', hr, hB', hk⟩ := run_storeCells_blkF (P := P) (a + o) (news.take (Nat.min m len * es)) 0 us w hB (by rw [htl]; omega) (fun u hu => cvs_one' hcn ho u (List.mem_of_mem_take hu))
      simp only [Nat.add_zero] at hB'
      have hw := hT.wr hct (o := o) (by rw [← hct.len, htl]; omega) (by omega)
      refine ⟨I ((Nat.min m len : Nat) : Int), w', φ, ?_, r.upd hb0 rfl hp hk ⟨hN0, _, T, fz, hB', by rw [splice_len _ _ _ (by rw [htl]; omega)]; exact hlen, hw, hst⟩, .int⟩
      have hf := hE.first (Nat.min m len) w hk1 rfl
      subst hes
      simp [Builtin.copy_, run_underlying ht, hE.len, hs, goInt]
      have hmm : m.min len = min m len := rfl
      rw [hmm] at hf hr
      simp [hf, hr]

theorem lenV_ok (r : Rel G φ h w) (hc : CV φ v u) : QB P φ h w (Builtin.len_ #[t] ty #[u]) (lenV P h t v) := by
  unfold lenV
  split <;> try exact trivial
  · rename_i ht
    split <;> try exact trivial
    rename_i n s
    cases hc with
    | str hs =>
    rw [rInt_eq]
    have hsz : (ByteArray.mk (unp n s).toArray).size = n := by rw [size_S]; simp
    exact QB.pure (u := I (n : Int)) (by simp [Builtin.len_, run_underlying ht, goInt, hsz]) .int
  · rename_i ht
    split <;> try exact trivial
    · rename_i b o len kc es op
      cases hc with
      | @sl _ _ _ _ _ _ b' a N c' hp q1 q2 q3 q4 =>
      rw [rInt_eq]
      exact QB.pure (u := I (len : Int)) (by simp [Builtin.len_, run_underlying ht, goInt]) .int
    · cases hc with
      | @es _ _ b' a N off c' hp hN => exact QB.pure (u := I 0) (by simp [Builtin.len_, run_underlying ht, goInt]) .int
    · cases hc
      exact QB.pure (u := I 0) (by simp [Builtin.len_, run_underlying ht, goInt]) .int
  · rename_i ht
    split <;> try exact trivial
    · cases hc
      exact QB.pure (u := I 0) (by simp [Builtin.len_, run_underlying ht, goInt]) .int
    · rename_i b
      cases hc with
      | @map _ b' a N hp =>
      split <;> try exact trivial
      rename_i es cl hb
      obtain ⟨q, hq, arr, hm, hM⟩ := r.blk _ _ hb
      rw [hp] at hq; cases hq
      rw [rInt_eq]
      have hl : arr.size = es.length := by rw [← Array.length_toList]; exact MR.len hM
      have hg : (getObj b').run P w = .ok (.map arr cl) w := by simp [getObj, Sem.run, hm]
      refine QB.pure (u := I (es.length : Int)) ?_ .int
      simp [Builtin.len_, run_underlying ht, goInt, hg, hl]
  · rename_i n el ht
    rw [rInt_eq]
    exact QB.pure (u := I (n : Int)) (by simp [Builtin.len_, run_underlying ht, goInt]) .int
  · rename_i ar ht
    split <;> try exact trivial
    rename_i n el ht'
    rw [rInt_eq]
    exact QB.pure (u := I (n : Int)) (by simp [Builtin.len_, run_underlying ht, run_underlying ht', goInt]) .int
theorem capV_ok (r : Rel G φ h w) (hc : CV φ v u) : QB P φ h w (Builtin.cap_ #[t] ty #[u]) (capV P h t v) := by
  unfold capV
  split <;> try exact trivial
  rename_i ht
  split <;> try exact trivial
  · rename_i b o len kc es
    cases hc with
    | @sl _ _ _ _ _ _ b' a N c' hp q1 q2 q3 q4 =>
    have := q3 rfl
    subst this
    rw [rInt_eq]
    exact QB.pure (u := I (c' : Int)) (by simp [Builtin.cap_, run_underlying ht, goInt]) .int
  · cases hc
    exact QB.pure (u := I 0) (by simp [Builtin.cap_, run_underlying ht, goInt]) .int
end
end Go.Proofs.YtkgiammeeckfbaaGreat
