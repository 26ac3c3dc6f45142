/- Texts EvH, EvI, EvJ, EvKa, EvPa, EvPk, one behind the other (what the statement JournalWhole does not use is left out). -/
import Derived.Test.YtkhkebcflaokpaaWh3
import Derived.Lib.Builder
import Derived.Lib.UnsafeStr
namespace Go.Proofs.Ytkhkebcflaokpaa
open Go Go.RowKit
set_option linter.all false

section
variable {P : Program} {G : Nat} {φ : Ph} {h : H} {w : World} {e : Env} {d : Option Nat} {ty t t' : TypeId} {pos : String} {aft : Array Edge} {g : Option (Nat × Bool)} {x y : Operand} {v v1 v2 : V} {u u1 u2 : Value} {ρ : Operand → V}

theorem cvs_one' {l : List V} {us : List Value} (hc : CVs φ l us) (ho : ones l = true) : ∀ u ∈ us, u.oneCell' = true := fun u hu => oneV_one (cvs_one hc ho u hu)

theorem MR.len : ∀ {l : List (V × V × Nat)} {es : List MapEntry}, MR φ l es → es.length = l.length
  | _, _, .nil => rfl
  | _, _, .cons _ _ _ k => by simp [MR.len k]
/-- What append does with such a source: m elements, these cells. -/
structure ASrc (P : Program) (t t' ty el : TypeId) (i : TypeInfo) (z : Value) (u2 : Value) (m : Nat) (news : List Value) (w : World) : Prop where
  one : ∀ u ∈ news, u.oneCell' = true
  newsLen : news.length = m * i.size
  room : ∀ b off sLen sCap, sLen + m ≤ sCap → (∀ j, j < news.length → (w.cell? ⟨b, off + sLen * i.size + j, none⟩).isSome = true) → (∀ j, j < news.length → w.frozen? ⟨b, off + sLen * i.size + j, none⟩ = false) →
    (Builtin.append_ #[t, t'] ty #[.slice (some ⟨b, off, none⟩) sLen sCap, u2]).run P w = .ok (.slice (some ⟨b, off, none⟩) (sLen + m) sCap) (w.setCells b (off + sLen * i.size) news)
  growE : ∀ (base : Option Addr) sLen sCap (olds : List Value), (Builtin.firstCells i.size sLen (.slice base sLen sCap)).run P w.drew = .ok olds.toArray w.drew → sCap < sLen + m → ((sLen + m : Nat) : Int) ≤ 9223372036854775807 → Builtin.nextslicecap (sLen + m) sCap * i.bytes ≤ 281474976710656 →
    (Builtin.append_ #[t, t'] ty #[.slice base sLen sCap, u2]).run P w = .ok (.slice (some ⟨w.heap.size, 0, none⟩) (sLen + m) (grownCap w (sLen + m) sCap el)) (w.drew.alloc (.cells ((olds ++ news).toArray ++ Builtin.zeroCells z.cells (grownCap w (sLen + m) sCap el - (sLen + m))) el))
  nil : m = 0 → (Builtin.append_ #[t, t'] ty #[.slice none 0 0, u2]).run P w = .ok (.slice none 0 0) w
  es : m = 0 → ∀ b off c', (Builtin.append_ #[t, t'] ty #[.slice (some ⟨b, off, none⟩) 0 c', u2]).run P w = .ok (.slice (some ⟨b, off, none⟩) 0 c') w
theorem Src.asrc {t t' ty el : TypeId} {i : TypeInfo} {z : Value} {u2 : Value} {m : Nat} {news : List Value} (ht : P.underlying t = some (.slice el)) (hi : P.info? el = some i) (hiz : i.zero = some z) (hS : Src P i.size t' u2 m news w) : ASrc P t t' ty el i z u2 m news w :=
  ⟨hS.one, hS.newsLen, fun b off sLen sCap hr hc hf => run_append_room_src (P := P) w t t' ty el i ht hi b off sLen sCap u2 m news hS hr hc hf,
   fun base sLen sCap olds ho hg h63 hf => run_append_grow_src (P := P) w t t' ty el i z ht hi hiz base sLen sCap olds ho u2 m news hS hg h63 hf,
   fun hm => by
    subst hm
    have hn : news = [] := List.eq_nil_of_length_eq_zero (by simpa using hS.newsLen)
    subst hn
    rcases hS.kind with ⟨e', hk⟩ | hk <;> simp [Builtin.append_, run_underlying ht, run_underlying hk, sizeOf, typeInfo, hi, hS.len, hS.cells],
   fun hm b off c' => by
    subst hm
    have hn : news = [] := List.eq_nil_of_length_eq_zero (by simpa using hS.newsLen)
    subst hn
    rcases hS.kind with ⟨e', hk⟩ | hk <;> simp [Builtin.append_, run_underlying ht, run_underlying hk, sizeOf, typeInfo, hi, hS.len, hS.cells, storeCells]⟩
/-- Zeros. -/
theorem asrc_zeros {t t' ty el : TypeId} {i : TypeInfo} {z : Value} {k k' : IntKind} {n : Nat} (ht : P.underlying t = some (.slice el)) (ht' : P.underlying t' = some (.int k')) (hi : P.info? el = some i) (hiz : i.zero = some z) (hzs : z.cells.size = i.size) (h0 : 0 < i.size) (h1 : ∀ u ∈ z.cells.toList, u.oneCell' = true) (hn : n ≤ 1073741824) (hb : i.bytes ≤ 65536) :
    ASrc P t t' ty el i z (.int k (n : Int)) n (List.replicate n z.cells.toList).flatten w := by
  have hw : IntKind.i64.wrap (n : Int) = n := by simp [IntKind.wrap, IntKind.bits, IntKind.signed]; omega
  have hbb : n * i.bytes ≤ 1073741824 * 65536 := Nat.mul_le_mul hn hb
  have hl0 : ¬ ((n : Int) < 0) := by omega
  have hl1 : ¬ ((281474976710656 : Int) < (n : Int) * (i.bytes : Int)) := by
    have : (n : Int) * (i.bytes : Int) = ((n * i.bytes : Nat) : Int) := by simp
    rw [this]; omega
  have hlen : ((List.replicate n z.cells.toList).flatten).length = n * i.size := by simp [hzs]
  have hone : ∀ u ∈ (List.replicate n z.cells.toList).flatten, u.oneCell' = true := fun u hu => by
    obtain ⟨l, hl, hu⟩ := List.mem_flatten.1 hu
    rw [List.mem_replicate] at hl
    exact h1 u (hl.2 ▸ hu)
  have hzc : Builtin.zeroCells z.cells n = ((List.replicate n z.cells.toList).flatten).toArray := by
    unfold Builtin.zeroCells; exact range_rep _ _
  have hnz : n * i.size = 0 → (List.replicate n z.cells.toList).flatten = [] := fun e => List.eq_nil_of_length_eq_zero (by rw [hlen]; exact e)
  refine ⟨hone, hlen, fun b off sLen sCap hr hc hf => ?_, fun base sLen sCap olds ho hg h63 hf => ?_, fun hm => ?_, fun hm b off c' => ?_⟩
  · have hst := run_storeCells_cells (P := P) b (off + sLen * i.size) ((List.replicate n z.cells.toList).flatten) 0 w (by simpa using hc) (by simpa using hf) hone
    simp only [Nat.add_zero] at hst
    by_cases hz : n * i.size = 0
    · have e := hnz hz
      rw [e] at hst ⊢
      simp [Builtin.append_, run_underlying ht, run_underlying ht', sizeOf, typeInfo, asInt, asIntOf, hi, hw, hl0, hl1, hr, hz, Addr.add_lit, hst]
    · simp [Builtin.append_, run_underlying ht, run_underlying ht', sizeOf, typeInfo, asInt, asIntOf, hi, hw, hl0, hl1, hr, hz, zeroValue, hiz, hzc, Addr.add_lit, hst]
  · have hn1 : ¬ (sLen + n ≤ sCap) := by omega
    have h63' : ¬ (9223372036854775807 < ((sLen : Int) + (n : Int))) := by omega
    have h48' : ¬ (281474976710656 < Builtin.nextslicecap (sLen + n) sCap * i.bytes) := by omega
    by_cases hz : n * i.size = 0
    · have e := hnz hz
      rw [e]
      simp [Builtin.append_, run_underlying ht, run_underlying ht', sizeOf, typeInfo, zeroValue, asInt, asIntOf, hi, hiz, hw, hl0, hl1, hn1, h63', h48', hz, Question.forced, ho, newRow, grownCap]
    · simp [Builtin.append_, run_underlying ht, run_underlying ht', sizeOf, typeInfo, zeroValue, asInt, asIntOf, hi, hiz, hw, hl0, hl1, hn1, h63', h48', hz, hzc, Question.forced, ho, newRow, grownCap]
      congr 2
      apply Array.ext'
      simp [List.append_assoc]
  · subst hm
    have hw0 : IntKind.i64.wrap 0 = 0 := by simp [IntKind.wrap, IntKind.bits, IntKind.signed]
    simp [Builtin.append_, run_underlying ht, run_underlying ht', sizeOf, typeInfo, asInt, asIntOf, hi, hw0]
  · subst hm
    have hw0 : IntKind.i64.wrap 0 = 0 := by simp [IntKind.wrap, IntKind.bits, IntKind.signed]
    simp [Builtin.append_, run_underlying ht, run_underlying ht', sizeOf, typeInfo, asInt, asIntOf, hi, hw0, storeCells]
theorem room_ok {es m len c' b' off N : Nat} {news us : List Value} {T : TypeId} {fz : Nat × Nat} {el : TypeId} {i : TypeInfo} {z : Value} (hes : i.size = es) (hS : ASrc P t t' ty el i z u2 m news w)
    (hB : BlkF w b' us T fz) (hlen : us.length = N) (hN : off + c' * es ≤ N) (hroom : len + m ≤ c') :
    ∃ w', (Builtin.append_ #[t, t'] ty #[.slice (some ⟨b', off, none⟩) len c', u2]).run P w = .ok (.slice (some ⟨b', off, none⟩) (len + m) c') w' ∧ BlkF w' b' (splice us (off + len * es) news) T fz ∧ Kp (fun k => k = b') w w' := by
  have hnl := hS.newsLen
  rw [hes] at hnl
  have h1 : (len + m) * es ≤ c' * es := Nat.mul_le_mul_right _ hroom
  rw [Nat.add_mul] at h1
  have hfit : off + len * es + news.length ≤ us.length := by omega
  obtain ⟨w', hr, hB', hk⟩ := run_storeCells_blkF (P := P) (off + len * es) news 0 us w hB (by omega) hS.one
  simp only [Nat.add_zero] at hB'
  refine ⟨w', ?_, hB', hk⟩
  have hc : ∀ j, j < news.length → (w.cell? ⟨b', off + len * es + j, none⟩).isSome = true := fun j hj => by
    rw [hB.cell, List.getElem?_eq_getElem (by omega)]; rfl
  have hf : ∀ j, j < news.length → w.frozen? ⟨b', off + len * es + j, none⟩ = false := fun j hj => hB.blk.free (by omega)
  have hst := run_storeCells_cells (P := P) b' (off + len * es) news 0 w (by simpa using hc) (by simpa using hf) hS.one
  simp only [Nat.add_zero] at hst
  rw [hst] at hr
  cases hr
  subst hes
  exact hS.room b' off len c' hroom hc hf

theorem append_first {es len c' b' off : Nat} {olds : List Value} (hl : olds.length = len * es) (hc : ∀ j u, olds[j]? = some u → w.cell? ⟨b', off + j, none⟩ = some u) : (Builtin.firstCells es len (.slice (some ⟨b', off, none⟩) len c')).run P w.drew = .ok olds.toArray w.drew := by
  have := (elm_slice (P := P) (c := c') hl hc).first len w.drew (Nat.le_refl _) rfl
  rwa [List.take_of_length_le (by rw [hl]; exact Nat.le_refl _)] at this

theorem appC_ok {el m : Nat} {i : TypeInfo} {z : Value} {l : List V} {news : List Value} (r : Rel G φ h w) (hc1 : CV φ v1 u1) (ht : P.underlying t = some (.slice el)) (h0 : 0 < tsz P el) (hby : tbytes P el ≤ 65536) (his : i.size = tsz P el) (hib : i.bytes = tbytes P el) (hzs : z.cells.size = tsz P el)
    (hcn : CVs φ l news) (hA : ASrc P t t' ty el i z u2 m news w) : BOk P G φ h w (Builtin.append_ #[t, t'] ty #[u1, u2]) (appC P h el (tsz P el) v1 m l) := by
  have hnl : news.length = m * tsz P el := by rw [← his]; exact hA.newsLen
  have hll : l.length = m * tsz P el := by rw [← hcn.len]; exact hnl
  have fitb : ∀ {need old : Nat}, old < need → need ≤ 1073741824 → Builtin.nextslicecap need old * i.bytes ≤ 281474976710656 := fun {need old} h1 h2 => growslice_fits h1 (by
    rw [hib]
    have := Nat.mul_le_mul h2 hby
    omega)
  unfold appC
  refine BOk.cnd' fun ho => ?_
  split <;> try exact trivial
  · -- a nil slice
    cases hc1
    refine BOk.cnd (fun hm => ?_) fun hm => BOk.cnd' fun hb => ?_
    · have hm := Nat.eq_of_beq_eq_true hm
      subst hm
      refine BOk.pure r ?_ .nsl
      exact hA.nil rfl
    · have hm : 0 < m := by
        rcases Nat.eq_zero_or_pos m with e0 | e0
        · rw [e0] at hm; cases hm
        · exact e0
      have hb := Nat.le_of_ble_eq_true hb
      have hr := hA.growE none 0 0 [] (by simp [Builtin.firstCells]) (by omega) (by omega) (fitb (by omega) (by omega))
      simp only [Nat.zero_add, List.nil_append] at hr
      exact grow_ok r hcn hll hzs hr
  · -- an empty one
    rename_i b es'
    cases hc1 with
    | @es _ _ b' a N off c' hp hN =>
    refine BOk.cnd' fun hh => ?_
    simp only [Bool.and_eq_true] at hh
    have hes := Nat.eq_of_beq_eq_true hh.1
    have hb := Nat.le_of_ble_eq_true hh.2
    subst hes
    refine BOk.cnd (fun hm => ?_) fun hm => ?_
    · have hm := Nat.eq_of_beq_eq_true hm
      subst hm
      refine BOk.pure r ?_ (.es hp hN)
      exact hA.es rfl _ _ _
    · have hm : 0 < m := by
        rcases Nat.eq_zero_or_pos m with e0 | e0
        · rw [e0] at hm; cases hm
        · exact e0
      split <;> try exact trivial
      rename_i n0 d0 t0 ty0 st0 hb0
      obtain ⟨hN0, us, T, fz, hB, hlen, hT, hst⟩ := r.cells hb0 hp
      simp only at hN0 hB hlen hT
      refine BOk.cnd' fun hte => ?_
      have hte := Nat.eq_of_beq_eq_true hte
      rw [hSet_eq]
      by_cases hroom : 0 + m ≤ c'
      · obtain ⟨w', hr, hB', hk⟩ := room_ok (len := 0) his hA hB hlen hN hroom
        simp only [Nat.zero_add, Nat.zero_mul, Nat.add_zero] at hr hB'
        unfold growE
        refine BOk.cnd' fun ho' => ?_
        rw [newCells_eq]
        have hmc : m * tsz P el ≤ c' * tsz P el := Nat.mul_le_mul_right _ (by omega)
        refine ⟨_, w', _, hr, r.renew (a := off) (N := N) hb0 rfl hp hk ⟨by simp only [hll]; omega, _, T, fz, hB', by rw [splice_len _ _ _ (by omega)]; exact hlen, TrR.new (hcn.mono (addPh_sb r _)) off (us.take off) (us.drop (off + news.length)) (by simp; omega), hst.1.trans hte, fun hh => by cases hh⟩, ?_⟩
        · exact .sl (a := off) (addPh_same _ _ _) (Nat.le_refl _) (by omega) (fun hh => by cases hh) (by simpa using hN)
      · have hr := hA.growE (some ⟨b', off, none⟩) 0 c' [] (by simp [Builtin.firstCells, loadCells, loadCellsFrom]) (by omega) (by omega) (fitb (by omega) (by omega))
        simp only [Nat.zero_add, List.nil_append] at hr
        exact BOk.after (r.del b) (grow_ok (r.del b).rel hcn hll hzs hr)
  · -- a slice
    rename_i b o len kc es' op
    cases hc1 with
    | @sl _ _ _ _ _ _ b' a N c' hp q1 q2 q3 q4 =>
    split <;> try exact trivial
    rename_i n0 d0 t0 ty0 st0 hb0
    obtain ⟨hN0, us, T, fz, hB, hlen, hT, hst⟩ := r.cells hb0 hp
    simp only at hN0 hB hlen hT
    rw [fN_eq]
    refine BOk.cnd' fun hh => ?_
    simp only [Bool.and_eq_true] at hh
    have hes := Nat.eq_of_beq_eq_true hh.1
    have hold : o + len * tsz P el ≤ n0 := Nat.le_of_ble_eq_true hh.2
    subst hes
    have hnd : (Nat.add len m) = len + m := rfl
    rw [hnd]
    refine BOk.cnd (fun hroom => BOk.cnd' fun hfit => ?_) fun hroom => BOk.cnd' fun hbig => ?_
    · have hroom := Nat.le_of_ble_eq_true hroom
      have hfit : o + (len + m) * tsz P el ≤ n0 := Nat.le_of_ble_eq_true hfit
      rw [Nat.add_mul] at hfit
      obtain ⟨w', hr, hB', hk⟩ := room_ok (len := len) his hA hB hlen q4 (by omega)
      rw [wrK_eq, hSet_eq]
      have hw := hT.wrE hcn (o := o + len * tsz P el) (by omega) (by omega)
      rw [← Nat.add_assoc] at hw
      refine ⟨_, w', φ, hr, r.updE hb0 rfl hp hk ⟨hN0, _, T, fz, hB', by rw [splice_len _ _ _ (by omega)]; exact hlen, hw, hst⟩, .sl hp hroom q2 q3 q4⟩
    · have hroom : kc < len + m := Nat.lt_of_not_le fun hle => by rw [Nat.ble_eq_true_of_le hle] at hroom; cases hroom
      have hbig := Nat.le_of_ble_eq_true hbig
      rw [rdK_eq]
      have hco := hT.read hold
      have holds := hB.blk.cells (i := a + o) (n := len * tsz P el) rfl
      have hol : ((us.drop (a + o)).take (len * tsz P el)).length = len * tsz P el := by rw [hco.len]; simp
      have hfirst := append_first (P := P) (c' := c') hol holds
      rw [← his] at hfirst
      have hca := hco.append hcn
      have hla : ((List.range' o (len * tsz P el)).map (fun i => vGet d0 i t0) ++ l).length = (len + m) * tsz P el := by
        rw [List.length_append, hll, Nat.add_mul]; simp
      have hgrow : c' < len + m → (Builtin.append_ #[t, t'] ty #[.slice (some ⟨b', a + o, none⟩) len c', u2]).run P w = .ok (.slice (some ⟨w.heap.size, 0, none⟩) (len + m) (grownCap w (len + m) c' el))
          (w.drew.alloc (.cells ((((us.drop (a + o)).take (len * tsz P el)) ++ news).toArray ++ Builtin.zeroCells z.cells (grownCap w (len + m) c' el - (len + m))) el)) := fun hlt => by
        rw [← his]
        exact hA.growE (some ⟨b', a + o, none⟩) len c' _ hfirst hlt (by omega) (fitb hlt hbig)
      refine BOk.cnd (fun hop => ?_) fun hop => ?_
      · refine BOk.cnd' fun hte => ?_
        have hte := Nat.eq_of_beq_eq_true hte
        rw [hSet_eq]
        by_cases hr' : len + m ≤ c'
        · obtain ⟨w', hr, hB', hk⟩ := room_ok (len := len) his hA hB hlen q4 hr'
          unfold growE
          refine BOk.cnd' fun ho' => ?_
          rw [newCells_eq]
          have hmc : (len + m) * tsz P el ≤ c' * tsz P el := Nat.mul_le_mul_right _ hr'
          have hmc' := hmc
          rw [Nat.add_mul] at hmc'
          have hfit' : a + o + len * tsz P el + news.length ≤ us.length := by rw [hnl, hlen]; omega
          have hsp : splice us (a + o + len * tsz P el) news = us.take (a + o) ++ ((us.drop (a + o)).take (len * tsz P el) ++ news) ++ us.drop (a + o + len * tsz P el + news.length) := by
            unfold splice
            rw [List.take_add]
            simp [List.append_assoc]
          refine ⟨_, w', _, hr, r.renew (a := a + o) (N := N) hb0 rfl hp hk ⟨Nat.le_trans (Nat.add_le_add_left (Nat.le_of_eq hla) (a + o)) (show (a + o) + (len + m) * tsz P el ≤ N by omega), _, T, fz, hB', by rw [splice_len _ _ _ hfit']; exact hlen, ?_, hst.1.trans hte, fun hh => by cases hh⟩, ?_⟩
          · rw [hsp]
            exact TrR.new (hca.mono (addPh_sb r _)) (a + o) (us.take (a + o)) _ (by simp; omega)
          · exact .sl (a := a + o) (addPh_same _ _ _) (Nat.le_refl _) hr' (fun hh => by cases hh) (by simpa using q4)
        · exact BOk.after (r.del b) (grow_ok (r.del b).rel hca hla hzs (hgrow (by omega)))
      · have := q3 hop
        exact grow_ok r hca hla hzs (hgrow (by omega))
theorem appV_ok (r : Rel G φ h w) (hc1 : CV φ v1 u1) (hc2 : CV φ v2 u2) : BOk P G φ h w (Builtin.append_ #[t, t'] ty #[u1, u2]) (appV P h t t' v1 v2) := by
  unfold appV
  split <;> try exact trivial
  rename_i el ht
  rw [fN_eq]
  refine BOk.cnd' fun hh => ?_
  simp only [Bool.and_eq_true] at hh
  obtain ⟨⟨h0, hby⟩, hz, hso⟩ := hh
  have h0 : 0 < tsz P el := by simpa using h0
  have hby := Nat.le_of_ble_eq_true hby
  obtain ⟨i, z, hi, hiz, his, hib, hzs⟩ := zOk_spec hz
  rcases elems_eq (P := P) (es := tsz P el) r hc2 (fun m new => appC P h el (tsz P el) v1 m new) (.bad 89) with he | ⟨m, l, news, he, hcn, hE⟩
  · rw [he]; exact trivial
  · rw [he]
    by_cases ho : ones l = true
    · have hS := hE.src hso (cvs_one' hcn ho)
      have hS' : Src P i.size t' u2 m news w := by rw [his]; exact hS
      exact appC_ok r hc1 ht h0 hby his hib hzs hcn (Src.asrc ht hi hiz hS')
    · unfold appC
      rw [show ones l = false by simpa using ho]
      exact trivial
theorem appN_ok {k : IntKind} {n : Nat} (r : Rel G φ h w) (hc1 : CV φ v1 u1) : BOk P G φ h w (Builtin.append_ #[t, t'] ty #[u1, .int k (n : Int)]) (appN P h t t' v1 n) := by
  unfold appN
  split <;> try exact trivial
  rename_i el k' ht ht'
  split <;> try exact trivial
  rename_i zl hz
  rw [fN_eq]
  refine BOk.cnd' fun hh => ?_
  simp only [Bool.and_eq_true] at hh
  obtain ⟨⟨h0, hby⟩, ⟨hzl, hz0⟩, hn⟩ := hh
  have h0 : 0 < tsz P el := by simpa using h0
  have hby := Nat.le_of_ble_eq_true hby
  have hn := Nat.le_of_ble_eq_true hn
  obtain ⟨i, z, hi, hiz, his, hib, hzs⟩ := zOk_spec (show zOk P el (tsz P el) = true by unfold zOk; rw [hz]; exact hzl)
  have hzl' : zl = zeroB z := by
    unfold tzero at hz
    rw [hi] at hz
    simp only [hiz, Option.map_some, Option.some.injEq] at hz
    exact hz.symm
  rw [fL_eq]
  have hz1 : ones (zeroB z) = true := by rw [← hzl']; exact hz0
  have hzc := cvs_zero (φ := φ) hz1
  have hrc := repl_cvs hzc n
  rw [← hzl'] at hrc
  exact appC_ok r hc1 ht h0 hby his hib hzs hrc (asrc_zeros (P := P) (w := w) (ty := ty) (k := k) (n := n) ht ht' hi hiz (by rw [hzs, his]) (by rw [his]; exact h0) (cvs_one' hzc hz1) hn (by rw [hib]; exact hby))

theorem copyV_ok (r : Rel G φ h w) (hc1 : CV φ v1 u1) (hc2 : CV φ v2 u2) : BOk P G φ h w (Builtin.copy_ #[t, t'] ty #[u1, u2]) (copyV P h t v1 v2) := by
  unfold copyV
  split <;> try exact trivial
  rename_i el ht
  split <;> try exact trivial
  · cases hc1
    refine BOk.cnd' fun h0 => ?_
    have hs := run_sz' (show 0 < tsz P el by simpa using h0) w
    rcases elems_eq (P := P) (es := tsz P el) r hc2 _ _ with he | ⟨m, l, news, he, hcn, hE⟩
    · rw [he]; exact trivial
    · rw [he]
      refine BOk.pure r (u := I 0) ?_ .int
      have hf := hE.first 0 w (Nat.zero_le _) rfl
      simp only [Nat.zero_mul, List.take_zero] at hf
      simp [Builtin.copy_, run_underlying ht, hE.len, hs, hf, goInt]
  · rename_i b es
    cases hc1 with
    | @es _ _ b' a N off c' hp hN =>
    refine BOk.cnd' fun h0 => ?_
    have hs := run_sz' (show 0 < tsz P el by simpa using h0) w
    rcases elems_eq (P := P) (es := tsz P el) r hc2 _ _ with he | ⟨m, l, news, he, hcn, hE⟩
    · rw [he]; exact trivial
    · rw [he]
      refine BOk.pure r (u := I 0) ?_ .int
      have hf := hE.first 0 w (Nat.zero_le _) rfl
      simp only [Nat.zero_mul, List.take_zero] at hf
      simp [Builtin.copy_, run_underlying ht, hE.len, hs, hf, goInt, storeCells]
  · rename_i b o len kc es op
    cases hc1 with
    | @sl _ _ _ _ _ _ b' a N c' hp q1 q2 q3 q4 =>
    refine BOk.cnd' fun hh => ?_
    simp only [Bool.and_eq_true] at hh
    have h0 : 0 < es := by simpa using hh.1
    have hes := Nat.eq_of_beq_eq_true hh.2
    have hs := run_sz' (show 0 < tsz P el by omega) w
    rcases elems_eq (P := P) (es := es) r hc2 _ _ with he | ⟨m, l, news, he, hcn, hE⟩
    · rw [he]; exact trivial
    · rw [he]
      split <;> try exact trivial
      rename_i n0 d0 t0 ty0 st0 hb0
      obtain ⟨hN0, us, T, fz, hB, hlen, hT, hst⟩ := r.cells hb0 hp
      simp only at hN0 hB hlen hT
      refine BOk.cnd' fun hh => ?_
      simp only [Bool.and_eq_true] at hh
      have ho := hh.1
      have hfit : o + len * es ≤ n0 := Nat.le_of_ble_eq_true hh.2
      rw [fL_eq, wrK_eq, hSet_eq, rInt_eq]
      have hk1 : Nat.min m len ≤ m := Nat.min_le_left _ _
      have hk2 : Nat.min m len * es ≤ len * es := Nat.mul_le_mul_right _ (Nat.min_le_right _ _)
      have hnl := hE.newsLen
      have hk3 : Nat.min m len * es ≤ m * es := Nat.mul_le_mul_right _ hk1
      have hct := CVs.take (Nat.min m len * es) hcn
      have htl : (news.take (Nat.min m len * es)).length = Nat.min m len * es := by rw [List.length_take, Nat.min_eq_left (by omega)]
      obtain ⟨w', hr, hB', hk⟩ := run_storeCells_blkF (P := P) (a + o) (news.take (Nat.min m len * es)) 0 us w hB (by rw [htl]; omega) (fun u hu => cvs_one' hcn ho u (List.mem_of_mem_take hu))
      simp only [Nat.add_zero] at hB'
      have hw := hT.wrE hct (o := o) (by rw [← hct.len, htl]; omega) (by omega)
      refine ⟨I ((Nat.min m len : Nat) : Int), w', φ, ?_, r.updE hb0 rfl hp hk ⟨hN0, _, T, fz, hB', by rw [splice_len _ _ _ (by rw [htl]; omega)]; exact hlen, hw, hst⟩, .int⟩
      have hf := hE.first (Nat.min m len) w hk1 rfl
      subst hes
      simp [Builtin.copy_, run_underlying ht, hE.len, hs, goInt]
      have hmm : m.min len = min m len := rfl
      rw [hmm] at hf hr
      simp [hf, hr]

theorem lenV_ok (r : Rel G φ h w) (hc : CV φ v u) : QB P φ h w (Builtin.len_ #[t] ty #[u]) (lenV P h t v) := by
  unfold lenV
  split <;> try exact trivial
  · rename_i ht
    split <;> try exact trivial
    rename_i n s
    cases hc with
    | str hs =>
    rw [rInt_eq]
    have hsz : (ByteArray.mk (unp n s).toArray).size = n := by rw [size_S]; simp
    exact QB.pure (u := I (n : Int)) (by simp [Builtin.len_, run_underlying ht, goInt, hsz]) .int
  · rename_i ht
    split <;> try exact trivial
    · rename_i b o len kc es op
      cases hc with
      | @sl _ _ _ _ _ _ b' a N c' hp q1 q2 q3 q4 =>
      rw [rInt_eq]
      exact QB.pure (u := I (len : Int)) (by simp [Builtin.len_, run_underlying ht, goInt]) .int
    · cases hc with
      | @es _ _ b' a N off c' hp hN => exact QB.pure (u := I 0) (by simp [Builtin.len_, run_underlying ht, goInt]) .int
    · cases hc
      exact QB.pure (u := I 0) (by simp [Builtin.len_, run_underlying ht, goInt]) .int
  · rename_i ht
    split <;> try exact trivial
    · cases hc
      exact QB.pure (u := I 0) (by simp [Builtin.len_, run_underlying ht, goInt]) .int
    · rename_i b
      cases hc with
      | @map _ b' a N hp =>
      split <;> try exact trivial
      rename_i es cl hb
      obtain ⟨q, hq, arr, hm, hM⟩ := r.blk _ _ hb
      rw [hp] at hq; cases hq
      rw [rInt_eq]
      have hl : arr.size = es.length := by rw [← Array.length_toList]; exact MR.len hM
      have hg : (getObj b').run P w = .ok (.map arr cl) w := by simp [getObj, Sem.run, hm]
      refine QB.pure (u := I (es.length : Int)) ?_ .int
      simp [Builtin.len_, run_underlying ht, goInt, hg, hl]
  · rename_i n el ht
    rw [rInt_eq]
    exact QB.pure (u := I (n : Int)) (by simp [Builtin.len_, run_underlying ht, goInt]) .int
  · rename_i ar ht
    split <;> try exact trivial
    rename_i n el ht'
    rw [rInt_eq]
    exact QB.pure (u := I (n : Int)) (by simp [Builtin.len_, run_underlying ht, run_underlying ht', goInt]) .int
theorem capV_ok (r : Rel G φ h w) (hc : CV φ v u) : QB P φ h w (Builtin.cap_ #[t] ty #[u]) (capV P h t v) := by
  unfold capV
  split <;> try exact trivial
  rename_i ht
  split <;> try exact trivial
  · rename_i b o len kc es
    cases hc with
    | @sl _ _ _ _ _ _ b' a N c' hp q1 q2 q3 q4 =>
    have := q3 rfl
    subst this
    rw [rInt_eq]
    exact QB.pure (u := I (c' : Int)) (by simp [Builtin.cap_, run_underlying ht, goInt]) .int
  · cases hc
    exact QB.pure (u := I 0) (by simp [Builtin.cap_, run_underlying ht, goInt]) .int
end
end Go.Proofs.Ytkhkebcflaokpaa
namespace Go.Proofs.Ytkhkebcflaokpaa
open Go Go.RowKit
set_option linter.all false

section
variable {P : Program} {G : Nat} {φ : Ph} {h : H} {w : World} {e : Env} {d : Option Nat} {ty t t' : TypeId} {pos : String} {aft : Array Edge} {g : Option (Nat × Bool)} {x y : Operand} {v v1 v2 : V} {u u1 u2 : Value} {ρ : Operand → V}

/-! ### Keys -/
def KTd (td : TypeDesc) (k : V) : Prop := (∃ kk kd n, td = .int kk ∧ k = .int kd n) ∨ (td = .string ∧ ∃ n s, k = .str n s)
theorem keyOk_spec {kt : TypeId} {k : V} (h : keyOk P kt k = true) : ∃ td, P.underlying kt = some td ∧ KTd td k := by
  unfold keyOk at h
  split at h
  · rename_i kk kd n hu; exact ⟨_, hu, .inl ⟨kk, kd, n, rfl, rfl⟩⟩
  · rename_i n s hu; exact ⟨_, hu, .inr ⟨rfl, n, s, rfl⟩⟩
  · cases h
theorem strEq {n s m t : Nat} (hs : s < 256 ^ n) (ht : t < 256 ^ m) : (and (Nat.beq n m) (Nat.beq s t)) = decide (unp n s = unp m t) := by
  rw [Bool.eq_iff_iff]
  simp only [Bool.and_eq_true, Nat.beq_eq, decide_eq_true_eq]
  constructor
  · rintro ⟨rfl, rfl⟩; rfl
  · intro he
    have hl : n = m := by have := congrArg List.length he; simpa using this
    subst hl
    exact ⟨rfl, unp_inj n s t hs ht he⟩
theorem keyNow {td : TypeDesc} {a b : V} {ua ub : Value} {r : Bool} (hk : KTd td a) (ha : CV φ a ua) (hb : CV φ b ub) (he : keyEq a b = some r) : Instr.sameNow td ua ub = some r ∧ (r = true → a = b ∧ ua = ub) := by
  rcases hk with ⟨kk, kd, n, rfl, rfl⟩ | ⟨rfl, n, s, rfl⟩
  · cases ha
    cases hb <;> simp only [keyEq] at he <;> try cases he
    rename_i k' m
    cases hq : keq kd k' with
    | false => rw [hq] at he; cases he
    | true =>
      rw [hq] at he
      have := keq_eq.1 hq
      subst this
      simp only [cond_true, Option.some.injEq, ieq_eq] at he
      subst he
      have : (n == m) = decide (n = m) := by by_cases h : n = m <;> simp [h]
      refine ⟨by simp [Instr.sameNow, this], fun h => ?_⟩
      have h := of_decide_eq_true h
      subst h; exact ⟨rfl, rfl⟩
  · cases ha with
    | str hs =>
    cases hb <;> simp only [keyEq] at he <;> try cases he
    rename_i m t ht
    rw [strEq hs ht]
    refine ⟨by simp [Instr.sameNow, S, beqS], fun h => ?_⟩
    have h1 := of_decide_eq_true h
    have hl : n = m := by have := congrArg List.length h1; simpa using this
    subst hl
    have := unp_inj n s t hs ht h1
    subst this
    exact ⟨rfl, rfl⟩
theorem key_check {kt : TypeId} {td : TypeDesc} {k : V} (hu : P.underlying kt = some td) (hk : KTd td k) (hc : CV φ k u) (e : Bool) (n : Nat) : (Instr.checkKey e (n + 1) kt u).run P w = .ok () w := by
  rcases hk with ⟨kk, kd, n, rfl, rfl⟩ | ⟨rfl, n, s, rfl⟩
  · cases hc; simp [Instr.checkKey, run_underlying hu]
  · cases hc; simp [Instr.checkKey, run_underlying hu]
theorem key_bits {td : TypeDesc} {k : V} (hk : KTd td k) (hc : CV φ k u) : Instr.sameBits 10000 u u = true := by
  rcases hk with ⟨kk, kd, n, rfl, rfl⟩ | ⟨rfl, n, s, rfl⟩
  · cases hc; simp [Instr.sameBits]
  · cases hc; simp [Instr.sameBits, S, beqS]
theorem key_known {td : TypeDesc} {k : V} (hk : KTd td k) : k ≠ .und := by
  rcases hk with ⟨kk, kd, n, rfl, rfl⟩ | ⟨rfl, n, s, rfl⟩ <;> simp

theorem mFind_eq {β : Type} {td : TypeDesc} {k : V} (hk : KTd td k) (hc : CV φ k u) (yes : Nat → V → β) (no bad : β) : ∀ {es : List (V × V × Nat)} {ents : List MapEntry} (i : Nat), MR φ es ents →
    mFindI k es yes no bad i = bad ∨
    (∃ j v n e, mFindI k es yes no bad i = yes (i + j) v ∧ es[j]? = some (k, v, n) ∧ ents[j]? = some e ∧ e.key = u ∧ CV φ v e.val ∧ e.born = n ∧ Instr.findNow td u ents i = some (some (i + j, e.val))) ∨
    (mFindI k es yes no bad i = no ∧ Instr.findNow td u ents i = some none)
  | _, _, i, .nil => .inr (.inr ⟨rfl, rfl⟩)
  | _, _, i, .cons (k := a) (v := v) (n := n) (e := e) (l := l) (es := es) h1 h2 h3 hM => by
    have hstep : mFindI k ((a, v, n) :: l) yes no bad i = match keyEq k a with
      | some true => yes i v
      | some false => mFindI k l yes no bad (i + 1)
      | none => bad := rfl
    rw [hstep]
    cases hq : keyEq k a with
    | none => exact .inl rfl
    | some r =>
      obtain ⟨q1, q2⟩ := keyNow hk hc h1 hq
      cases r with
      | true =>
        obtain ⟨rfl, rfl⟩ := q2 rfl
        refine .inr (.inl ⟨0, v, n, e, rfl, rfl, rfl, rfl, h2, h3, ?_⟩)
        simp [Instr.findNow, q1]
      | false =>
        simp only [Instr.findNow, q1]
        rcases mFind_eq hk hc yes no bad (i + 1) hM with h4 | ⟨j, v', n', e', h4, h5, h6, h7, h8, h9, h10⟩ | ⟨h4, h5⟩
        · exact .inl h4
        · refine .inr (.inl ⟨j + 1, v', n', e', ?_, by simpa using h5, by simpa using h6, h7, h8, h9, ?_⟩)
          · rw [h4]; congr 1; omega
          · rw [h10]; congr 3; omega
        · exact .inr (.inr ⟨h4, h5⟩)

theorem MR.set {l : List (V × V × Nat)} {es : List MapEntry} (hM : MR φ l es) {j n : Nat} {k v0 v : V} {ku uv : Value} (hj : l[j]? = some (k, v0, n)) (hk : CV φ k ku) (hv : CV φ v uv) : MR φ (mSet l j v) (es.modify j fun e => { e with key := ku, val := uv }) := by
  induction hM generalizing j with
  | nil => simp at hj
  | cons h1 h2 h3 hM ih =>
    cases j with
    | zero =>
      simp at hj
      obtain ⟨rfl, rfl, rfl⟩ := hj
      simp only [mSet, List.modify_zero_cons]
      exact .cons hk hv h3 hM
    | succ j =>
      simp only [mSet, List.modify_succ_cons]
      exact .cons h1 h2 h3 (ih (by simpa using hj))
theorem MR.setv {l : List (V × V × Nat)} {es : List MapEntry} (hM : MR φ l es) {j : Nat} {v : V} {uv : Value} (hj : j < l.length) (hv : CV φ v uv) : MR φ (mSet l j v) (es.modify j fun e => { e with val := uv }) := by
  induction hM generalizing j with
  | nil => simp at hj
  | cons h1 h2 h3 hM ih =>
    cases j with
    | zero =>
      simp only [mSet, List.modify_zero_cons]
      exact .cons h1 hv h3 hM
    | succ j =>
      simp only [mSet, List.modify_succ_cons]
      exact .cons h1 h2 h3 (ih (by simpa using hj))
theorem MR.push {l : List (V × V × Nat)} {es : List MapEntry} (hM : MR φ l es) {n : Nat} {k v : V} {ku uv : Value} (hk : CV φ k ku) (hv : CV φ v uv) : MR φ (l ++ [(k, v, n)]) (es ++ [{ key := ku, val := uv, born := n }]) := by
  induction hM with
  | nil => exact .cons hk hv rfl .nil
  | cons h1 h2 h3 hM ih => exact .cons h1 h2 h3 ih
theorem MR.del {l : List (V × V × Nat)} {es : List MapEntry} (hM : MR φ l es) (j : Nat) : MR φ (mDel l j) (es.eraseIdx j) := by
  induction hM generalizing j with
  | nil => exact .nil
  | cons h1 h2 h3 hM ih =>
    cases j with
    | zero => simpa [mDel] using hM
    | succ j => simpa [mDel] using MR.cons h1 h2 h3 (ih j)

theorem tzv_of {zv : V} {el : TypeId} (h : tzv P el = some zv) (ho : ones (cellsOf zv) = true) : ∃ z, TI P el z (tsz P el) (tbytes P el) ∧ ∀ φ, CV φ zv z := by
  unfold tzv at h
  cases hi : P.info? el with
  | none => rw [hi] at h; cases h
  | some i =>
    rw [hi] at h
    simp only at h
    cases hz : i.zero with
    | none => rw [hz] at h; cases h
    | some z =>
      rw [hz] at h
      simp at h
      refine ⟨z, ⟨i, hi, hz, by simp [tsz, hi], by simp [tbytes, hi]⟩, fun φ => ?_⟩
      subst h
      unfold zV at ho ⊢
      split at ho
      · exact .agg (cvs_ofV ho)
      · refine cv_ofV fun e => ?_
        rw [e] at ho; cases ho
noncomputable def uGet (k : V) (l : List (V × V)) : Option (Option V) := uFindI k l (fun v => some (some v)) (some none) none
theorem uGet_cons (k : V) (x : V × V) (l : List (V × V)) : uGet k (x :: l) = match keyEq k x.1 with
  | some true => some (some x.2)
  | some false => uGet k l
  | none => none := rfl
theorem uFind_get {β : Type} (k : V) (yes : V → β) (no bad : β) : ∀ (l : List (V × V)), uFindI k l yes no bad = (match uGet k l with
    | none => bad
    | some none => no
    | some (some v) => yes v)
  | [] => rfl
  | x :: l => by
    have hstep : uFindI k (x :: l) yes no bad = match keyEq k x.1 with
      | some true => yes x.2
      | some false => uFindI k l yes no bad
      | none => bad := rfl
    rw [hstep, uGet_cons]
    cases keyEq k x.1 with
    | none => rfl
    | some b =>
      cases b with
      | true => rfl
      | false => exact uFind_get k yes no bad l
theorem mFind_get (k : V) : ∀ (l : List (V × V × Nat)) (i : Nat), mFindI k l (fun _ v => some (some v)) (some none) none i = uGet k (l.map fun e => (e.1, e.2.1))
  | [], _ => rfl
  | x :: l, i => by
    have hstep : mFindI k (x :: l) (fun _ v => some (some v)) (some none) none i = match keyEq k x.1 with
      | some true => some (some x.2.1)
      | some false => mFindI k l (fun _ v => some (some v)) (some none) none (i + 1)
      | none => none := rfl
    rw [hstep, List.map_cons, uGet_cons]
    cases keyEq k x.1 with
    | none => rfl
    | some b =>
      cases b with
      | true => rfl
      | false => exact mFind_get k l (i + 1)
theorem uGet_perm {k : V} {kk : IntKind} {l m : List (V × V)} (h : l.Perm m) : (∀ e ∈ l, ∃ n, e.1 = .int kk n) → l.Pairwise (fun a b => a.1 ≠ b.1) → uGet k l = uGet k m := by
  induction h with
  | nil => intro _ _; rfl
  | cons x h ih =>
    intro h1 h2
    rw [uGet_cons, uGet_cons, ih (fun e he => h1 e (List.mem_cons_of_mem _ he)) (List.pairwise_cons.1 h2).2]
  | swap x y l =>
    intro h1 h2
    obtain ⟨nx, hx⟩ := h1 x (by simp)
    obtain ⟨ny, hy⟩ := h1 y (by simp)
    have hne : y.1 ≠ x.1 := (List.pairwise_cons.1 h2).1 x (by simp)
    simp only [uGet_cons, hx, hy]
    rw [hx, hy] at hne
    cases k with
    | int k' n =>
      simp only [keyEq]
      cases hq : keq k' kk with
      | false => rfl
      | true =>
        simp only [cond_true, ieq_eq]
        by_cases e1 : n = nx
        · by_cases e2 : n = ny
          · exact absurd (by rw [← e1, ← e2]) hne
          · simp [e1, e2]
            rw [← e1]; simp [e2]
        · by_cases e2 : n = ny
          · simp [e2]
            rw [← e2]; simp [e1]
          · simp [e1, e2]
    | _ => rfl
  | trans h1 h2 ih1 ih2 =>
    intro k1 k2
    rw [ih1 k1 k2, ih2 (fun e he => k1 e (h1.mem_iff.2 he)) ((h1.pairwise_iff fun h => Ne.symm h).1 k2)]
theorem uFind_eq {β : Type} {td : TypeDesc} {k : V} {u : Value} (hk : KTd td k) (hc : CV φ k u) (yes : V → β) (no bad : β) {es : List (V × V)} {arr : List MapEntry} (hU : UR φ es arr) :
    uFindI k es yes no bad = bad ∨ (∃ j v e, uFindI k es yes no bad = yes v ∧ arr[j]? = some e ∧ CV φ v e.val ∧ Instr.findNow td u arr 0 = some (some (j, e.val))) ∨ (uFindI k es yes no bad = no ∧ Instr.findNow td u arr 0 = some none) := by
  obtain ⟨es', hM, hp, ⟨kk, hkk⟩, hd⟩ := hU
  have e1 : uGet k es = mFindI k es' (fun _ v => some (some v)) (some none) none 0 := by
    rw [mFind_get]
    exact (uGet_perm hp (fun e he => hkk e (hp.mem_iff.1 he)) ((hp.pairwise_iff fun h => Ne.symm h).2 hd)).symm
  rw [uFind_get, e1]
  rcases mFind_eq hk hc (fun _ v => some (some v)) (some none) none 0 hM with h4 | ⟨j, v, n, e, h4, h5, h6, h7, h8, h9, h10⟩ | ⟨h4, h5⟩
  · rw [h4]; exact .inl rfl
  · rw [h4]; exact .inr (.inl ⟨j, v, e, rfl, h6, h8, by simpa using h10⟩)
  · rw [h4]; exact .inr (.inr ⟨rfl, h5⟩)
theorem Rel.mapAt (r : Rel G φ h w) {b cl : Nat} {es : List (V × V × Nat)} (hb : hGet h b = some (.map es cl)) {p : Nat × Nat × Nat} (hp : φ b = some p) : ∃ arr : Array MapEntry, w.heap[p.1]? = some (.map arr cl) ∧ MR φ es arr.toList := by
  obtain ⟨q, hq, hbr⟩ := r.blk _ _ hb
  rw [hp] at hq; cases hq
  exact hbr
theorem run_getMap {b : Nat} {arr : Array MapEntry} {cl : Nat} (h : w.heap[b]? = some (.map arr cl)) : (getObj b).run P w = .ok (.map arr cl) w := by simp [getObj, Sem.run, h]
theorem run_setMap {b : Nat} {arr : Array MapEntry} {cl : Nat} (h : w.heap[b]? = some (.map arr cl)) (o : Obj) : (setObj b o).run P w = .ok () (w.putObj b o) := by simp [setObj, Sem.run, h, World.putObj]
/-- A map is written. -/
theorem Rel.putMap (r : Rel G φ h w) {b cl : Nat} {es : List (V × V × Nat)} (hb : hGet h b = some (.map es cl)) {p : Nat × Nat × Nat} (hp : φ b = some p) {arr : Array MapEntry} (hm : w.heap[p.1]? = some (.map arr cl))
    {es' : List (V × V × Nat)} {cl' : Nat} {arr' : Array MapEntry} (hM : MR φ es' arr'.toList) : Post G φ h w φ ⟨trPut HD b h.t (some (.map es' cl')), h.next⟩ (w.putObj p.1 (.map arr' cl')) :=
  r.updE hb rfl hp (kp_putObj w p.1 _) ⟨arr', World.putObj_heap_same (lt_of_heap hm), hM⟩

/-- A map is written with what it holds. -/
theorem Rel.ext_put (r : Rel G φ h w) {b cl : Nat} {es : List (V × V × Nat)} (hb : hGet h b = some (.map es cl)) {p : Nat × Nat × Nat} (hp : φ b = some p) {arr arr' : Array MapEntry} (hm : w.heap[p.1]? = some (.map arr cl))
    (hM : MR φ es arr'.toList) : Post G φ h w φ h (w.putObj p.1 (.map arr' cl)) := by
  refine ⟨Sb.refl φ, ⟨r.inj, fun c y hc => ?_, r.fresh, r.glob⟩, (kp_putObj w p.1 _).mono' fun i hi => ⟨b, _, p, hb, rfl, hp, hi.symm⟩, fun _ h => .inl h, Hp.refl φ h⟩
  by_cases h1 : c = b
  · subst h1
    rw [hb] at hc; cases hc
    exact ⟨p, hp, arr', World.putObj_heap_same (lt_of_heap hm), hM⟩
  · obtain ⟨q, hq, hbr⟩ := r.blk _ _ hc
    refine ⟨q, hq, hbr.kp (Sb.refl φ) (kp_putObj w p.1 _) fun e => h1 ?_⟩
    exact r.inj _ _ _ _ _ _ hc hb hq hp e
theorem lkV_ok {ok : Bool} (r : Rel G φ h w) (hx : Kn φ e x v1) (hy : Kn φ e y v2) : QOk P φ h w e ⟨d, .lookup t x y ok, ty, pos, aft, g⟩ (lkV P h t v1 v2 ok) := by
  unfold lkV
  split <;> try exact trivial
  rename_i kt el ht
  split <;> try exact trivial
  rename_i zv hzv
  refine cond_q' fun hh => ?_
  simp only [Bool.and_eq_true] at hh
  obtain ⟨td, hu, hk⟩ := keyOk_spec hh.1
  obtain ⟨z, hz, hzc⟩ := tzv_of hzv hh.2
  obtain ⟨u2, hy, hc2⟩ := hy (key_known hk)
  have hck := fun b => key_check (P := P) (w := w) hu hk hc2 b 9999
  have hzr := hz.zero (w := w)
  -- the answer when there is no such entry
  have hno : ∀ (m : Option Nat) (arr : Array MapEntry), look e x = some (.map m) → ((m = none ∧ arr = #[]) ∨ ∃ b cl, m = some b ∧ w.heap[b]? = some (.map arr cl)) → Instr.findNow td u2 arr.toList 0 = some none →
      QOk P φ h w e ⟨d, .lookup t x y ok, ty, pos, aft, g⟩ (cond ok (.v (.tup [zv, .bool false]) h) (fV zv fun v => .v v h)) := fun m arr hx hm hf => by
    have hfk : (Instr.findKey kt u2 arr.toList).run P w = .ok none w := by simp [Instr.findKey, run_underlying hu, hf]
    cases ok with
    | true =>
      refine QOk.pure (u := .tuple [z, .bool false].toArray) (fun ρ hρ => ?_) (.tup (.cons (hzc φ) (.cons .bool .nil)))
      rcases hm with ⟨rfl, rfl⟩ | ⟨b, cl, rfl, hm⟩
      · simp [execOp, hρ _ _ hx, hρ _ _ hy, Instr.lookup, run_underlying ht, hck, hzr]
        simp at hfk
        simp [hfk, hzr]
      · simp [execOp, hρ _ _ hx, hρ _ _ hy, Instr.lookup, run_underlying ht, run_getMap hm, hck, hfk, hzr]
    | false =>
      simp only [cond_false, fV_eq]
      refine QOk.pure (u := z) (fun ρ hρ => ?_) (hzc φ)
      rcases hm with ⟨rfl, rfl⟩ | ⟨b, cl, rfl, hm⟩
      · simp [execOp, hρ _ _ hx, hρ _ _ hy, Instr.lookup, run_underlying ht, hck, hzr]
        simp at hfk
        simp [hfk, hzr]
      · simp [execOp, hρ _ _ hx, hρ _ _ hy, Instr.lookup, run_underlying ht, run_getMap hm, hck, hfk, hzr]
  split <;> try exact trivial
  · obtain ⟨u1, hx, hc1⟩ := hx (by simp)
    cases hc1
    exact hno none #[] hx (.inl ⟨rfl, rfl⟩) rfl
  · obtain ⟨u1, hx, hc1⟩ := hx (by simp)
    cases hc1 with
    | @map b b' a N hp =>
    split <;> try exact trivial
    · rename_i es cl hb
      obtain ⟨arr, hm, hM⟩ := r.mapAt hb hp
      rcases mFind_eq hk hc2 _ _ _ 0 hM with he | ⟨j, v, n, ent, he, h5, h6, h7, h8, h9, h10⟩ | ⟨he, hf⟩
      · rw [he]; exact trivial
      · rw [he]
        have hfk : (Instr.findKey kt u2 arr.toList).run P w = .ok (some (0 + j, ent.val)) w := by simp [Instr.findKey, run_underlying hu, h10]
        cases ok with
        | true =>
          refine QOk.pure (u := .tuple [ent.val, .bool true].toArray) (fun ρ hρ => ?_) (.tup (.cons h8 (.cons .bool .nil)))
          simp [execOp, hρ _ _ hx, hρ _ _ hy, Instr.lookup, run_underlying ht, run_getMap hm, hck, hfk]
        | false =>
          refine rV_q fun _ => ⟨ent.val, fun ρ hρ => ?_, h8⟩
          simp [execOp, hρ _ _ hx, hρ _ _ hy, Instr.lookup, run_underlying ht, run_getMap hm, hck, hfk]
      · rw [he]
        exact hno _ arr hx (.inr ⟨b', cl, rfl, hm⟩) hf
    · rename_i es hb
      obtain ⟨q, hq, arr, cl, hm, hU⟩ := r.blk _ _ hb
      rw [hp] at hq; cases hq
      rcases uFind_eq hk hc2 _ _ _ hU with he | ⟨j, v, ent, he, h6, h8, h10⟩ | ⟨he, hf⟩
      · rw [he]; exact trivial
      · rw [he]
        have hfk : (Instr.findKey kt u2 arr.toList).run P w = .ok (some (j, ent.val)) w := by simp [Instr.findKey, run_underlying hu, h10]
        cases ok with
        | true =>
          refine QOk.pure (u := .tuple [ent.val, .bool true].toArray) (fun ρ hρ => ?_) (.tup (.cons h8 (.cons .bool .nil)))
          simp [execOp, hρ _ _ hx, hρ _ _ hy, Instr.lookup, run_underlying ht, run_getMap hm, hck, hfk]
        | false =>
          refine rV_q fun _ => ⟨ent.val, fun ρ hρ => ?_, h8⟩
          simp [execOp, hρ _ _ hx, hρ _ _ hy, Instr.lookup, run_underlying ht, run_getMap hm, hck, hfk]
      · rw [he]
        exact hno _ arr hx (.inr ⟨b', cl, rfl, hm⟩) hf

/-- What a store into a map asks. -/
def MuZ (P : Program) (e : Env) (o : Oper) (t : TypeId) (x y z : Operand) : Prop := ∀ ρ, (execOp ρ o) = (do Instr.mapUpdate t (ρ x) (ρ y) (ρ z); pure .skip)
theorem muV_ok {z : Operand} {o : Oper} {v3 : V} (ho : MuZ P e o t x y z) (r : Rel G φ h w) (hx : Kn φ e x v1) (hy : Kn φ e y v2) (hz : Kn φ e z v3) : ROk P G φ h w e o (muV P h t v1 v2 v3) := by
  unfold muV
  split <;> try exact trivial
  rename_i kt el ht
  refine cond_ok' fun hh => ?_
  obtain ⟨td, hu, hk⟩ := keyOk_spec hh
  obtain ⟨u2, hy, hc2⟩ := hy (key_known hk)
  have hck := fun b => key_check (P := P) (w := w) hu hk hc2 b 9999
  split <;> try exact trivial
  obtain ⟨u1, hx, hc1⟩ := hx (by simp)
  cases hc1 with
  | @map b b' a N hp =>
  split <;> try exact trivial
  rename_i hnu
  obtain ⟨u3, hz, hc3⟩ := hz hnu
  split <;> try exact trivial
  rename_i es cl hb
  obtain ⟨arr, hm, hM⟩ := r.mapAt hb hp
  rcases mFind_eq hk hc2 _ _ _ 0 hM with he | ⟨j, v, n, ent, he, h5, h6, h7, h8, h9, h10⟩ | ⟨he, hf⟩
  · rw [he]; exact trivial
  · rw [he, fL_eq, hSet_eq]
    have hfk : (Instr.findKey kt u2 arr.toList).run P w = .ok (some (0 + j, ent.val)) w := by simp [Instr.findKey, run_underlying hu, h10]
    simp only [Nat.zero_add] at hfk ⊢
    have hMs := MR.set hM h5 hc2 hc3
    rw [← Array.toList_modify] at hMs
    refine ⟨_, φ, fun ρ hρ => ?_, r.putMap hb hp hm hMs⟩
    rw [Array.getElem?_toList] at h6
    have hb1 := key_bits hk hc2
    rw [ho]
    simp [hρ _ _ hx, hρ _ _ hy, hρ _ _ hz, Instr.mapUpdate, run_underlying ht, run_getMap hm, hck, hfk, h6, h7, Instr.keyThatStays, hb1, run_setMap hm]
  · rw [he, fL_eq, fN_eq, hSet_eq]
    have hfk : (Instr.findKey kt u2 arr.toList).run P w = .ok none w := by simp [Instr.findKey, run_underlying hu, hf]
    have hMs : MR φ (es ++ [(v2, v3, cl)]) (arr.push { key := u2, val := u3, born := cl }).toList := by rw [Array.toList_push]; exact MR.push hM (n := cl) hc2 hc3
    refine ⟨_, φ, fun ρ hρ => ?_, r.putMap hb hp hm hMs⟩
    rw [ho]
    simp [hρ _ _ hx, hρ _ _ hy, hρ _ _ hz, Instr.mapUpdate, run_underlying ht, run_getMap hm, hck, hfk, run_setMap hm]
theorem meV_ok (r : Rel G φ h w) (hx : Kn φ e x v1) (hy : Kn φ e y v2) : ROk P G φ h w e ⟨d, .mapEntry t x y, ty, pos, aft, g⟩ (meV P h t v1 v2) := by
  unfold meV
  split <;> try exact trivial
  rename_i kt el ht
  split <;> try exact trivial
  rename_i zv hzv
  refine cond_ok' fun hh => ?_
  simp only [Bool.and_eq_true] at hh
  obtain ⟨td, hu, hk⟩ := keyOk_spec hh.1
  obtain ⟨z, hz, hzc⟩ := tzv_of hzv hh.2
  obtain ⟨u2, hy, hc2⟩ := hy (key_known hk)
  have hck := fun b => key_check (P := P) (w := w) hu hk hc2 b 9999
  have hzr := hz.zero (w := w)
  split <;> try exact trivial
  obtain ⟨u1, hx, hc1⟩ := hx (by simp)
  cases hc1 with
  | @map b b' a N hp =>
  split <;> try exact trivial
  rename_i es cl hb
  obtain ⟨arr, hm, hM⟩ := r.mapAt hb hp
  rcases mFind_eq hk hc2 _ _ _ 0 hM with he | ⟨j, v, n, ent, he, h5, h6, h7, h8, h9, h10⟩ | ⟨he, hf⟩
  · rw [he]; exact trivial
  · rw [he]
    simp only [Nat.zero_add] at h10 ⊢
    rw [h5]
    simp only [fN_eq]
    have hfk : (Instr.findKey kt u2 arr.toList).run P w = .ok (some (j, ent.val)) w := by simp [Instr.findKey, run_underlying hu, h10]
    rw [Array.getElem?_toList] at h6
    have hb1 := key_bits hk hc2
    have hMs : MR φ es (arr.modify j fun e => { e with key := u2 }).toList := by
      have : (arr.modify j fun e => { e with key := u2 }) = arr := by
        apply Array.ext_getElem?
        intro i
        rw [Array.getElem?_modify]
        split
        · rename_i hij
          subst hij
          rw [h6, ← h7]; rfl
        · rfl
      rw [this]; exact hM
    refine ⟨.tuple [ent.val, I (n : Int)].toArray, _, φ, fun ρ hρ => ?_, r.ext_put hb hp hm hMs, .tup (.cons h8 (.cons .int .nil))⟩
    simp [execOp, hρ _ _ hx, hρ _ _ hy, Instr.mapEntry, run_underlying ht, run_getMap hm, hck, hfk, h6, h7, Instr.keyThatStays, hb1, run_setMap hm, goInt, h9]
  · rw [he, fL_eq, fN_eq, hSet_eq]
    have hfk : (Instr.findKey kt u2 arr.toList).run P w = .ok none w := by simp [Instr.findKey, run_underlying hu, hf]
    have hMs : MR φ (es ++ [(v2, zv, cl)]) (arr.push { key := u2, val := z, born := cl }).toList := by rw [Array.toList_push]; exact MR.push hM (n := cl) hc2 (hzc φ)
    refine ⟨.tuple [z, I (cl : Int)].toArray, _, φ, fun ρ hρ => ?_, r.putMap hb hp hm hMs, .tup (.cons (hzc φ) (.cons .int .nil))⟩
    simp [execOp, hρ _ _ hx, hρ _ _ hy, Instr.mapEntry, run_underlying ht, run_getMap hm, hck, hfk, hzr, run_setMap hm, goInt]
theorem mBorn_spec {n : Nat} : ∀ {es : List (V × V × Nat)} {ents : List MapEntry} {i : Nat}, MR φ es ents → mBorn es n = some i → i < es.length ∧ ents.findIdx? (fun e => (e.born : Int) == (n : Int)) = some i
  | _, _, _, .nil, h => by simp [mBorn] at h
  | _, _, i, .cons (n := b) (e := e) h1 h2 h3 hM, h => by
    simp only [mBorn, List.findIdx?_cons] at h ⊢
    have hq : ((e.born : Int) == (n : Int)) = Nat.beq b n := by
      rw [h3, Bool.eq_iff_iff]; simp; omega
    rw [hq]
    cases hb : Nat.beq b n with
    | true =>
      rw [hb] at h
      simp at h
      subst h; simp
    | false =>
      rw [hb] at h
      simp only [Bool.false_eq_true, if_false, Option.map_eq_some_iff] at h ⊢
      obtain ⟨j, hj, rfl⟩ := h
      obtain ⟨q1, q2⟩ := mBorn_spec hM hj
      exact ⟨by simp; omega, j, q2, rfl⟩
theorem esV_ok {z : Operand} {v3 : V} (r : Rel G φ h w) (hx : Kn φ e x v1) (hy : Kn φ e y v2) (hz : Kn φ e z v3) : ROk P G φ h w e ⟨d, .entryStore t x y z, ty, pos, aft, g⟩ (esV h v1 v2 v3) := by
  unfold esV
  split <;> try exact trivial
  rename_i b kk n
  obtain ⟨u1, hx, hc1⟩ := hx (by simp)
  obtain ⟨u2, hy, hc2⟩ := hy (by simp)
  cases hc2
  cases hc1 with
  | @map _ b' a N hp =>
  rw [nat?_eq]
  split <;> try exact trivial
  rename_i hn
  obtain ⟨n, rfl⟩ : ∃ m : Nat, n = m := ⟨n.toNat, (Int.toNat_of_nonneg hn).symm⟩
  simp only [Int.toNat_natCast]
  split <;> try exact trivial
  rename_i hnu
  obtain ⟨u3, hz, hc3⟩ := hz hnu
  split <;> try exact trivial
  rename_i es cl hb
  obtain ⟨arr, hm, hM⟩ := r.mapAt hb hp
  split <;> try exact trivial
  rename_i i hi
  rw [fL_eq, hSet_eq]
  obtain ⟨q1, q2⟩ := mBorn_spec hM hi
  have hMs := MR.setv hM q1 hc3
  rw [← Array.toList_modify] at hMs
  refine ⟨_, φ, fun ρ hρ => ?_, r.putMap hb hp hm hMs⟩
  have q3 : arr.findIdx? (fun e => (e.born : Int) == (n : Int)) = some i := by rw [← Array.toArray_toList (xs := arr), List.findIdx?_toArray]; exact q2
  simp [execOp, hρ _ _ hx, hρ _ _ hy, hρ _ _ hz, Instr.entryStore, asInt, asIntOf, run_getMap hm, q3, run_setMap hm]
theorem delV_ok (r : Rel G φ h w) (hc1 : CV φ v1 u1) (hc2 : CV φ v2 u2) : BOk P G φ h w (Builtin.delete_ #[t, t'] ty #[u1, u2]) (delV P h t v1 v2) := by
  unfold delV
  split <;> try exact trivial
  rename_i kt el ht
  refine BOk.cnd' fun hh => ?_
  obtain ⟨td, hu, hk⟩ := keyOk_spec hh
  have hck := fun b => key_check (P := P) (w := w) hu hk hc2 b 9999
  split <;> try exact trivial
  · cases hc1
    exact BOk.pure r (u := .tuple [].toArray) (by simp [Builtin.delete_, run_underlying ht, hck]) (.tup .nil)
  · cases hc1 with
    | @map b b' a N hp =>
    split <;> try exact trivial
    rename_i es cl hb
    obtain ⟨arr, hm, hM⟩ := r.mapAt hb hp
    rcases mFind_eq hk hc2 _ _ _ 0 hM with he | ⟨j, v, n, ent, he, h5, h6, h7, h8, h9, h10⟩ | ⟨he, hf⟩
    · rw [he]; exact trivial
    · rw [he, fL_eq, hSet_eq]
      simp only [Nat.zero_add] at h10 ⊢
      have hfk : (Instr.findKey kt u2 arr.toList).run P w = .ok (some (j, ent.val)) w := by simp [Instr.findKey, run_underlying hu, h10]
      have hMs := MR.del hM j
      rw [← Array.toList_eraseIdxIfInBounds] at hMs
      refine ⟨.tuple [].toArray, _, φ, ?_, r.putMap hb hp hm hMs, .tup .nil⟩
      simp [Builtin.delete_, run_underlying ht, run_getMap hm, hck, hfk, run_setMap hm]
    · rw [he]
      have hfk : (Instr.findKey kt u2 arr.toList).run P w = .ok none w := by simp [Instr.findKey, run_underlying hu, hf]
      refine ⟨.tuple [].toArray, _, φ, ?_, r.ext_put hb hp hm hM, .tup .nil⟩
      simp [Builtin.delete_, run_underlying ht, run_getMap hm, hck, hfk, run_setMap hm]
theorem clearV_ok (r : Rel G φ h w) (hc : CV φ v u) : BOk P G φ h w (Builtin.clear_ #[t] ty #[u]) (clearV P h t v) := by
  unfold clearV
  split <;> try exact trivial
  · rename_i el ht
    split <;> try exact trivial
    · cases hc
      exact BOk.pure r (u := .tuple [].toArray) (by simp [Builtin.clear_, run_underlying ht]) (.tup .nil)
    · cases hc
      exact BOk.pure r (u := .tuple [].toArray) (by simp [Builtin.clear_, run_underlying ht]) (.tup .nil)
    · rename_i b o len kc es op
      cases hc with
      | @sl _ _ _ _ _ _ b' a N c' hp q1 q2 q3 q4 =>
      split <;> try exact trivial
      rename_i z hz
      split <;> try exact trivial
      rename_i n0 d0 t0 ty0 st0 hb0
      obtain ⟨hN0, us, T, fz, hB, hlen, hT, hst⟩ := r.cells hb0 hp
      simp only at hN0 hB hlen hT
      refine BOk.cnd (fun hh => ?_) fun _ => BOk.cnd' fun h0 => ?_
      · simp only [Bool.and_eq_true] at hh
        obtain ⟨⟨hes, ho⟩, hfit, h0⟩ := hh
        have hes := Nat.eq_of_beq_eq_true hes
        have hfit : o + len * es ≤ n0 := Nat.le_of_ble_eq_true hfit
        have h0 : 0 < len := by simpa using h0
        obtain ⟨zv, hzt, rfl⟩ := ti_of hz
        have hzr := hzt.zero (w := w)
        have hzc := cvs_zero (φ := φ) ho
        have hrc := repl_cvs hzc len
        have hnl : ((List.replicate len zv.cells.toList).flatten).length = len * es := by rw [hrc.len, repl_len, hes]
        have hro : ∀ u ∈ (List.replicate len zv.cells.toList).flatten, u.oneCell' = true := fun u hu => by
          obtain ⟨l, hl, hu⟩ := List.mem_flatten.1 hu
          rw [List.eq_of_mem_replicate hl] at hu
          exact cvs_one' hzc ho u hu
        rw [wrK_eq, hSet_eq]
        obtain ⟨w', hr, hB', hk⟩ := run_storeCells_blkF (P := P) (a + o) _ 0 us w hB (by rw [hnl]; omega) hro
        simp only [Nat.add_zero] at hB'
        have hw := hT.wrE hrc (o := o) (by rw [← hrc.len, hnl]; omega) (by omega)
        refine ⟨.tuple [].toArray, w', φ, ?_, r.updE hb0 rfl hp hk ⟨hN0, _, T, fz, hB', by rw [splice_len _ _ _ (by rw [hnl]; omega)]; exact hlen, hw, hst⟩, .tup .nil⟩
        obtain ⟨m, rfl⟩ : ∃ m, len = m + 1 := ⟨len - 1, by omega⟩
        have hcell : (Builtin.zeroCells zv.cells (m + 1)).toList = (List.replicate (m + 1) zv.cells.toList).flatten := by
          unfold Builtin.zeroCells
          rw [range_rep]
        simp only [Builtin.clear_, Sem.run_bind, run_underlying ht, Result.andThen_ok, List.getElem?_toArray, List.getElem?_cons_zero, hzr, hcell, hr, Sem.run_pure]
      · have h0 := Nat.eq_of_beq_eq_true h0
        subst h0
        exact BOk.pure r (u := .tuple [].toArray) (by simp [Builtin.clear_, run_underlying ht]) (.tup .nil)
  · rename_i kt el ht
    split <;> try exact trivial
    · cases hc
      exact BOk.pure r (u := .tuple [].toArray) (by simp [Builtin.clear_, run_underlying ht]) (.tup .nil)
    · cases hc with
      | @map b b' a N hp =>
      split <;> try exact trivial
      rename_i es cl hb
      obtain ⟨arr, hm, hM⟩ := r.mapAt hb hp
      rw [hSet_eq]
      refine ⟨.tuple [].toArray, _, φ, ?_, r.putMap (arr' := #[]) hb hp hm .nil, .tup .nil⟩
      simp [Builtin.clear_, run_underlying ht, run_getMap hm, run_setMap hm]
end
end Go.Proofs.Ytkhkebcflaokpaa
namespace Go.Proofs.Ytkhkebcflaokpaa
open Go Go.RowKit
set_option linter.all false

section
variable {P : Program} {G : Nat} {φ : Ph} {h : H} {w : World} {e : Env} {d : Option Nat} {ty t t' : TypeId} {pos : String} {aft : Array Edge} {g : Option (Nat × Bool)} {x y : Operand} {v v1 v2 : V} {u u1 u2 : Value} {ρ : Operand → V}

theorem beqI (a b : Int) : (a == b) = decide (a = b) := by by_cases h : a = b <;> simp [h]

theorem noStr {b' : Nat} {us : List Value} {T : TypeId} (hB : BlkF w b' us T (0, 0)) (off : Nat) : (stringish ⟨b', off, none⟩).run P w = .ok false w := by
  have hs : w.shape? b' = some (T, us.length) := by simp [World.shape?, hB.1]
  have hf : ∀ i, w.frozen? ⟨b', i, none⟩ = false := fun i => by simp [World.frozen?, hB.1]
  simp [stringish, frozen, shape, Sem.run, hf, hs]

section
variable {n : Nat}
theorem eqn_bool {p q : Bool} (ht : P.underlying t = some .bool) : (Op.equalIn (n + 1) t (.bool p) (.bool q)).run P w = .ok (p == q) w := by
  simp only [Op.equalIn, Sem.run_bind, run_underlying ht, Result.andThen_ok, Sem.run_pure]
theorem eqn_int {k kk : IntKind} {p q : Int} (ht : P.underlying t = some (.int kk)) : (Op.equalIn (n + 1) t (.int k p) (.int k q)).run P w = .ok (decide (p = q)) w := by
  simp only [Op.equalIn, Sem.run_bind, run_underlying ht, Result.andThen_ok, Sem.run_pure, if_true, beqI]
theorem eqn_str {p q : List UInt8} (ht : P.underlying t = some .string) : (Op.equalIn (n + 1) t (S p) (S q)).run P w = .ok (decide (p = q)) w := by
  simp only [Op.equalIn, Sem.run_bind, run_underlying ht, Result.andThen_ok, Sem.run_pure, S, beqS]
theorem eqn_pnl {el : TypeId} {p : Option Addr} (ht : P.underlying t = some (.pointer el)) : (Op.equalIn (n + 1) t (.pointer none) (.pointer p)).run P w = .ok p.isNone w := by
  simp only [Op.equalIn, Sem.run_bind, run_underlying ht, Result.andThen_ok, Sem.run_pure]
theorem eqn_pnr {el : TypeId} {p : Addr} (ht : P.underlying t = some (.pointer el)) : (Op.equalIn (n + 1) t (.pointer (some p)) (.pointer none)).run P w = .ok false w := by
  simp only [Op.equalIn, Sem.run_bind, run_underlying ht, Result.andThen_ok, Sem.run_pure]
theorem eqn_pp {el : TypeId} {p q : Addr} (ht : P.underlying t = some (.pointer el)) (hs : 0 < tsz P el) : (Op.equalIn (n + 1) t (.pointer (some p)) (.pointer (some q))).run P w = (sameAddr p q).run P w := by
  have h0 : tsz P el ≠ 0 := by omega
  simp only [Op.equalIn, Sem.run_bind, run_underlying ht, Result.andThen_ok, run_sz' hs w, ne_eq, h0, not_false_eq_true, if_true]
theorem eqn_snl {el : TypeId} {p : Option Addr} {l c l' c' : Nat} (ht : P.underlying t = some (.slice el)) : (Op.equalIn (n + 1) t (.slice none l c) (.slice p l' c')).run P w = .ok p.isNone w := by
  simp only [Op.equalIn, Sem.run_bind, run_underlying ht, Result.andThen_ok, Sem.run_pure]
theorem eqn_snr {el : TypeId} {p : Addr} {l c l' c' : Nat} (ht : P.underlying t = some (.slice el)) : (Op.equalIn (n + 1) t (.slice (some p) l c) (.slice none l' c')).run P w = .ok false w := by
  simp only [Op.equalIn, Sem.run_bind, run_underlying ht, Result.andThen_ok, Sem.run_pure]
theorem eqn_mnl {kt el : TypeId} {p : Option Nat} (ht : P.underlying t = some (.map kt el)) : (Op.equalIn (n + 1) t (.map none) (.map p)).run P w = .ok p.isNone w := by
  simp only [Op.equalIn, Sem.run_bind, run_underlying ht, Result.andThen_ok, Sem.run_pure]
theorem eqn_mnr {kt el : TypeId} {p : Nat} (ht : P.underlying t = some (.map kt el)) : (Op.equalIn (n + 1) t (.map (some p)) (.map none)).run P w = .ok false w := by
  simp only [Op.equalIn, Sem.run_bind, run_underlying ht, Result.andThen_ok, Sem.run_pure]
theorem eqn_fnn {a b : Array TypeId} {c : Bool} (ht : P.underlying t = some (.func a b c)) : (Op.equalIn (n + 1) t .nilFunc .nilFunc).run P w = .ok true w := by
  simp only [Op.equalIn, Sem.run_bind, run_underlying ht, Result.andThen_ok, Sem.run_pure]
theorem eqn_fnl {a b : Array TypeId} {c : Bool} {f : Fn} {p q : Array Value} (ht : P.underlying t = some (.func a b c)) : (Op.equalIn (n + 1) t .nilFunc (.func f p q)).run P w = .ok false w := by
  simp only [Op.equalIn, Sem.run_bind, run_underlying ht, Result.andThen_ok, Sem.run_pure]
theorem eqn_fnr {a b : Array TypeId} {c : Bool} {f : Fn} {p q : Array Value} (ht : P.underlying t = some (.func a b c)) : (Op.equalIn (n + 1) t (.func f p q) .nilFunc).run P w = .ok false w := by
  simp only [Op.equalIn, Sem.run_bind, run_underlying ht, Result.andThen_ok, Sem.run_pure]
theorem eqn_inn {ms : Array (String × TypeId)} (ht : P.underlying t = some (.interface ms)) : (Op.equalIn (n + 1) t .nilIface .nilIface).run P w = .ok true w := by
  simp [Op.equalIn, run_underlying ht]
theorem eqg_nil {op : BinOp} {x y : Operand} {ms : Array (String × TypeId)} (ht : P.underlying t = some (.interface ms)) (hm : ms.isEmpty = true) : (eqGuard op t x y .nilIface .nilIface).run P w = .ok () w := by
  have hA : ∀ n, (Op.eqGuardIn (n + 1) t .nilIface .nilIface).run P w = .ok false w := fun n => by
    simp only [Op.eqGuardIn, Sem.run_bind, run_underlying ht, Result.andThen_ok, Sem.run_pure, hm, Bool.not_true]
  have hG : (Op.eqGuardIn Op.maxDepth t .nilIface .nilIface).run P w = .ok false w := hA 9999
  cases op <;> first
    | rfl
    | (cases x <;> cases y <;> first | rfl | (unfold eqGuard; simp only [Sem.run_bind, hG, Result.andThen_ok, Bool.not_true, Bool.false_eq_true, if_false, Bool.or_self, Sem.run_pure]; done) | (unfold eqGuard; simp only [Sem.run_bind, hG, Result.andThen_ok, Bool.not_true, Bool.false_eq_true, if_false, Bool.or_self, Sem.run_pure]; rfl))
theorem eqn_inl {ms : Array (String × TypeId)} {tx : TypeId} {v : Value} (ht : P.underlying t = some (.interface ms)) : (Op.equalIn (n + 1) t .nilIface (.iface tx v)).run P w = .ok false w := by
  simp only [Op.equalIn, Sem.run_bind, run_underlying ht, Result.andThen_ok, Sem.run_pure]
theorem eqn_inr {ms : Array (String × TypeId)} {tx : TypeId} {v : Value} (ht : P.underlying t = some (.interface ms)) : (Op.equalIn (n + 1) t (.iface tx v) .nilIface).run P w = .ok false w := by
  simp only [Op.equalIn, Sem.run_bind, run_underlying ht, Result.andThen_ok, Sem.run_pure]

theorem same_ptr (r : Rel G φ h w) {b o b2 o2 n0 d0 n1 d1 : Nat} {t0 : Tr V d0} {t1 : Tr V d1} {ty0 ty1 : TypeId} {b' a N b2' a2 N2 : Nat} (hp : φ b = some (b', a, N)) (hp2 : φ b2 = some (b2', a2, N2))
    (hg1 : hGet h b = some (.cells n0 d0 t0 ty0 false)) (hg2 : hGet h b2 = some (.cells n1 d1 t1 ty1 false)) : (sameAddr ⟨b', a + o, none⟩ ⟨b2', a2 + o2, none⟩).run P w = .ok (and (Nat.beq b b2) (Nat.beq o o2)) w := by
  obtain ⟨hN, us, T, fz, hB, hlen, hT, hst⟩ := r.cells hg1 hp
  obtain ⟨hN2, us2, T2, fz2, hB2, hlen2, hT2, hst2⟩ := r.cells hg2 hp2
  have e1 := (hst.2 rfl).1
  have e2 := (hst2.2 rfl).1
  subst e1; subst e2
  by_cases hbb : b = b2
  · subst hbb
    rw [hp] at hp2
    cases hp2
    have h1 : ((⟨b', a + o, none⟩ : Addr) == ⟨b', a + o2, none⟩) = (and (Nat.beq b b) (Nat.beq o o2)) := by
      rw [Bool.eq_iff_iff]
      simp
    have h2 : (b' == b') = true := by simp
    unfold sameAddr
    simp only [h2, if_true, h1]
    rfl
  · have hne : (b' == b2') = false := by
      rw [Bool.eq_false_iff]
      intro hh
      have hh : b' = b2' := by simpa using hh
      exact hbb (r.inj _ _ _ _ _ _ hg1 hg2 hp hp2 hh)
    have hq : (and (Nat.beq b b2) (Nat.beq o o2)) = false := by
      rw [Bool.and_eq_false_iff]
      left
      rw [Bool.eq_false_iff]
      intro hh; exact hbb (Nat.eq_of_beq_eq_true hh)
    rw [hq]
    have s1 := noStr (P := P) hB (a + o)
    have s2 := noStr (P := P) hB2 (a2 + o2)
    have hf : (frozen ⟨b', a + o, none⟩).run P w = .ok false w := by simp [frozen, Sem.run, World.frozen?, hB.1]
    have hf2 : (frozen ⟨b2', a2 + o2, none⟩).run P w = .ok false w := by simp [frozen, Sem.run, World.frozen?, hB2.1]
    have hsh1 : (shape b').run P w = .ok (some (T, us.length)) w := by simp [shape, Sem.run, World.shape?, hB.1]
    have hsh2 : (shape b2').run P w = .ok (some (T2, us2.length)) w := by simp [shape, Sem.run, World.shape?, hB2.1]
    have hv1 : (noView ⟨b', a + o, none⟩).run P w = .ok () w := by
      simp [noView, viewAt, hsh1]
    have hv2 : (noView ⟨b2', a2 + o2, none⟩).run P w = .ok () w := by
      simp [noView, viewAt, hsh2]
    have hm : (mayBeOne ⟨b', a + o, none⟩ ⟨b2', a2 + o2, none⟩).run P w = .ok false w := by
      simp [mayBeOne, s1, s2, hsh1, hsh2]
    unfold sameAddr
    simp [hne, hf, hf2, hv1, hv2, hm]
end

theorem eq1_ok (r : Rel G φ h w) {a b : V} {ua ub : Value} {q : Bool} (ha : CV φ a ua) (hb : CV φ b ub) (he : eq1 P h t a b = some q) (n : Nat) : (Op.equalIn (n + 1) t ua ub).run P w = .ok q w := by
  unfold eq1 at he
  split at he
  · rename_i ht
    split at he <;> simp at he
    cases ha; cases hb
    subst he
    rw [beqB_eq]; exact eqn_bool ht
  · rename_i ht
    split at he <;> try cases he
    rename_i k a k' b
    cases ha; cases hb
    cases hq : keq k k' with
    | false => rw [hq] at he; cases he
    | true =>
      rw [hq] at he
      have := keq_eq.1 hq
      subst this
      simp only [cond_true, Option.some.injEq, ieq_eq] at he
      subst he
      exact eqn_int ht
  · rename_i ht
    split at he <;> try cases he
    rename_i n s m t0
    cases ha with
    | str hs =>
    cases hb with
    | str ht0 =>
    rw [strEq hs ht0]
    exact eqn_str ht
  · rename_i el ht
    split at he <;> try cases he
    · cases ha; cases hb; exact eqn_pnl ht
    · cases ha; cases hb; exact eqn_pnl ht
    · cases ha; cases hb; exact eqn_pnr ht
    · rename_i b o b2 o2
      cases ha with
      | @ptr _ _ b' a N hp =>
      cases hb with
      | @ptr _ _ b2' a2 N2 hp2 =>
      split at he <;> try cases he
      rename_i hg1 hg2
      cases hz : Nat.blt 0 (tsz P el) with
      | false => rw [hz] at he; cases he
      | true =>
        rw [hz] at he
        simp only [cond_true, Option.some.injEq] at he
        rw [eqn_pp ht (by simpa using hz), ← he]
        exact same_ptr r hp hp2 hg1 hg2
  · rename_i el ht
    split at he <;> try cases he
    · cases ha; cases hb; exact eqn_snl ht
    · cases ha; cases hb; exact eqn_snl ht
    · cases ha; cases hb; exact eqn_snl ht
    · cases ha; cases hb; exact eqn_snr ht
    · cases ha; cases hb; exact eqn_snr ht
  · rename_i kt el ht
    split at he <;> try cases he
    · cases ha; cases hb; exact eqn_mnl ht
    · cases ha; cases hb; exact eqn_mnl ht
    · cases ha; cases hb; exact eqn_mnr ht
  · rename_i ht
    split at he <;> try cases he
    · cases ha; cases hb; exact eqn_fnn ht
    · cases ha; cases hb; exact eqn_fnl ht
    · cases ha; cases hb; exact eqn_fnl ht
    · cases ha; cases hb; exact eqn_fnr ht
    · cases ha; cases hb; exact eqn_fnr ht
  · rename_i ms ht
    split at he <;> try cases he
    · cases ha; cases hb
      cases hm : ms.isEmpty with
      | false => rw [hm] at he; cases he
      | true =>
        rw [hm] at he
        cases he
        exact eqn_inn ht
    · cases ha; cases hb; exact eqn_inl ht
    · cases ha; cases hb; exact eqn_inr ht
  · cases he

/-! ### Structs -/
theorem partV_ok {f : Field} {l : List V} {us : List Value} {v : V} (hc : CVs φ l us) (hv : partV P f l = some v) : ∃ u, (part f.type us.toArray f.offset).run P w = .ok u w ∧ CV φ v u := by
  unfold partV at hv
  split at hv <;> try cases hv
  · rename_i ha
    obtain ⟨td, hu, ha⟩ := tagg_some ha
    refine ⟨.agg ((us.drop f.offset).take (tsz P f.type)).toArray, ?_, .agg ((hc.drop _).take _)⟩
    simp [part, run_isAgg hu, ha, run_sz hu w]
  · rename_i ha
    obtain ⟨td, hu, ha⟩ := tagg_some ha
    obtain ⟨u, e1, e2⟩ := hc.get hv
    exact ⟨u, by simp [part, run_isAgg hu, ha, e1], e2⟩

theorem eqT_succ (n : Nat) (t : TypeId) (a b : V) : eqT P h (n + 1) t a b = match a, b with
      | .agg l, .agg m => match P.underlying t with
        | some (.struct fs) => cond (P.stoodInHeld t) none
          (List.rec (motive := fun _ => Option Bool) (some true) (fun f _ rest => cond (f.name == "_") rest (match partV P f l, partV P f m with
            | some x, some y => match eqT P h n f.type x y with
              | some true => rest
              | some false => some false
              | none => none
            | _, _ => none)) fs.toList)
        | _ => none
      | a, b => eq1 P h t a b := rfl
theorem eqT_ok (r : Rel G φ h w) : ∀ (n : Nat) {t : TypeId} {a b : V} {ua ub : Value} {q : Bool}, CV φ a ua → CV φ b ub → eqT P h n t a b = some q → ∀ m, n ≤ m → (Op.equalIn m t ua ub).run P w = .ok q w
  | 0, t, a, b, ua, ub, q, _, _, he, _, _ => by cases he
  | n + 1, t, a, b, ua, ub, q, ha, hb, he, m, hm => by
    obtain ⟨m, rfl⟩ : ∃ m', m = m' + 1 := ⟨m - 1, by omega⟩
    rw [eqT_succ] at he
    split at he
    · rename_i l1 l2
      cases ha with
      | @agg _ us1 h1 =>
      cases hb with
      | @agg _ us2 h2 =>
      split at he <;> try cases he
      rename_i fs ht
      cases hsi : P.stoodInHeld t with
      | true => rw [hsi] at he; cases he
      | false =>
      rw [hsi] at he
      simp only [cond_false] at he
      have hfo : P.fieldsOf t = fs := by simp [Program.fieldsOf, ht]
      rw [run_equalIn_struct w m t _ _ (by rw [hfo]; exact ht) hsi, hfo]
      revert he
      generalize fs.toList = l
      intro he
      induction l with
      | nil =>
        simp only [Option.some.injEq] at he
        subst he
        simp [Op.eqFields]
      | cons f l ih =>
        simp only at he
        by_cases hn : f.name = "_"
        · have hb : (f.name == "_") = true := by simp [hn]
          rw [hb] at he
          simp only [cond_true] at he
          simp only [Op.eqFields, hn, ne_eq, not_true_eq_false, if_false]
          exact ih he
        · have hb : (f.name == "_") = false := by simp [hn]
          rw [hb] at he
          simp only [cond_false] at he
          split at he <;> try cases he
          rename_i x1 x2 hx1 hx2
          obtain ⟨w1, e1, c1⟩ := partV_ok (w := w) h1 hx1
          obtain ⟨w2, e2, c2⟩ := partV_ok (w := w) h2 hx2
          split at he <;> try cases he
          · rename_i hq
            have e3 := eqT_ok r n c1 c2 hq m (by omega)
            simp only [Op.eqFields, ne_eq, hn, not_false_eq_true, if_true, Sem.run_bind, e1, e2, e3, Result.andThen_ok, Bool.not_true, Bool.false_eq_true, if_false]
            exact ih he
          · rename_i hq
            have e3 := eqT_ok r n c1 c2 hq m (by omega)
            simp only [Op.eqFields, ne_eq, hn, not_false_eq_true, if_true, Sem.run_bind, e1, e2, e3, Result.andThen_ok, Bool.not_false, Sem.run_pure]
    · exact eq1_ok r ha hb he m

/-- Two values of which at most one is a struct .. the guard ahead of '=='. -/
theorem guard_ok {op : BinOp} {a b : V} {ua ub : Value} {n : Nat} {q : Bool} (ha : CV φ a ua) (hb : CV φ b ub) (hg : gOk P t a = true) (he : eqT P h (n + 1) t a b = some q) (x y : Operand) : (eqGuard op t x y ua ub).run P w = .ok () w := by
  by_cases hagg : ∃ l, a = .agg l
  · obtain ⟨l, rfl⟩ := hagg
    cases ha with
    | agg h1 =>
    have hg' : P.eqGuardType P.depth t = false := by
      have : (!P.eqGuardType P.depth t) = true := hg
      simpa using this
    by_cases hbg : ∃ m, b = .agg m
    · obtain ⟨m, rfl⟩ := hbg
      cases hb with
      | agg h2 => exact run_eqGuard_agg w op t x y _ _ hg'
    · refine eqg_run (fun p q _ e => ?_) (fun e => by cases e) x y
      subst e
      cases hb with
      | agg h2 => exact hbg ⟨_, rfl⟩
      | und =>
        have : eqT P h (n + 1) t (.agg l) .und = eq1 P h t (.agg l) .und := rfl
        rw [this] at he
        unfold eq1 at he
        split at he <;> first | cases he | (split at he <;> cases he)
  · by_cases hnn : ua = .nilIface ∧ ub = .nilIface
    · obtain ⟨rfl, rfl⟩ := hnn
      have h1 : eqT P h (n + 1) t a b = eq1 P h t a b := by
        cases a <;> first | rfl | exact (hagg ⟨_, rfl⟩).elim
      rw [h1] at he
      unfold eq1 at he
      cases ha with
      | nifc =>
        cases hb with
        | nifc =>
          split at he <;> try cases he
          rename_i ms ht
          cases hm : ms.isEmpty with
          | false => simp [hm] at he
          | true => exact eqg_nil ht hm
        | und => split at he <;> cases he
      | und => split at he <;> first | cases he | (split at he <;> cases he)
    refine eqg_run (fun p q e _ => ?_) (fun e1 e2 => hnn ⟨e1, e2⟩) x y
    · subst e
      cases ha with
      | agg h1 => exact hagg ⟨_, rfl⟩
      | und =>
        have : eqT P h (n + 1) t .und b = eq1 P h t .und b := by cases b <;> rfl
        rw [this] at he
        unfold eq1 at he
        split at he <;> first | cases he | (split at he <;> cases he)

theorem binOp_eql (hni : ∀ k a k' b, u1 = .int k a → u2 = .int k' b → False) (hns : ∀ a b, u1 = .string a → u2 = .string b → False) (hf : ∀ k b, u1 ≠ .float k b) (hx : ∀ k b c, u1 ≠ .complex k b c) :
    binOp .eql t u1 u2 = (do pure (.bool (← Op.equal t u1 u2))) := by
  cases u1 <;> first
    | rfl
    | exact absurd rfl (hf _ _)
    | exact absurd rfl (hx _ _ _)
    | (cases u2 <;> first | rfl | exact (hni _ _ _ _ rfl rfl).elim | exact (hns _ _ rfl rfl).elim)
theorem binOp_neq (hni : ∀ k a k' b, u1 = .int k a → u2 = .int k' b → False) (hns : ∀ a b, u1 = .string a → u2 = .string b → False) (hf : ∀ k b, u1 ≠ .float k b) (hx : ∀ k b c, u1 ≠ .complex k b c) :
    binOp .neq t u1 u2 = (do pure (.bool (!(← Op.equal t u1 u2)))) := by
  cases u1 <;> first
    | rfl
    | exact absurd rfl (hf _ _)
    | exact absurd rfl (hx _ _ _)
    | (cases u2 <;> first | rfl | exact (hni _ _ _ _ rfl rfl).elim | exact (hns _ _ rfl rfl).elim)
theorem cv_nofloat (hc : CV φ v u) (hv : v ≠ .und) : (∀ k b, u ≠ .float k b) ∧ (∀ k b c, u ≠ .complex k b c) := by
  cases hc <;> first | exact absurd rfl hv | exact ⟨(fun _ _ e => by cases e), (fun _ _ _ e => by cases e)⟩
theorem eqr_ok {op : BinOp} {q : Bool} {ub : Bool} (r : Rel G φ h w) (hx : look e x = some u1) (hy : look e y = some u2) (hc1 : CV φ v1 u1) (hc2 : CV φ v2 u2) (hk1 : v1 ≠ .und) (hg : gOk P t v1 = true) (he : eqT P h 8 t v1 v2 = some q)
    (hni : ∀ k a k' b, u1 = .int k a → u2 = .int k' b → False) (hns : ∀ a b, u1 = .string a → u2 = .string b → False) (hop : (op = .eql ∧ ub = q) ∨ (op = .neq ∧ ub = !q)) :
    QOk P φ h w e ⟨d, .binOp op t x y t', ty, pos, aft, g⟩ (.v (.bool ub) h) := by
  have hq := eqT_ok r 8 hc1 hc2 he 10000 (by omega)
  obtain ⟨hf, hxx⟩ := cv_nofloat hc1 hk1
  refine QOk.pure (Y.bin hx hy (fun x y => guard_ok hc1 hc2 hg he x y) ?_) .bool
  have heq : (Op.equal t u1 u2).run P w = .ok q w := hq
  rcases hop with ⟨rfl, rfl⟩ | ⟨rfl, rfl⟩
  · rw [binOp_eql hni hns hf hxx]; simp [heq]
  · rw [binOp_neq hni hns hf hxx]; simp [heq]
theorem eqT_known {q : Bool} (he : eqT P h 8 t v1 v2 = some q) : v1 ≠ .und ∧ v2 ≠ .und := by
  constructor
  · rintro rfl
    have : eqT P h 8 t .und v2 = eq1 P h t .und v2 := by cases v2 <;> rfl
    rw [this] at he
    unfold eq1 at he
    split at he <;> first | cases he | (split at he <;> cases he)
  · rintro rfl
    have : eqT P h 8 t v1 .und = eq1 P h t v1 .und := by cases v1 <;> rfl
    rw [this] at he
    unfold eq1 at he
    split at he <;> first | cases he | (cases v1 <;> first | cases he | (simp at he; done))
theorem bin_ok {op : BinOp} (r : Rel G φ h w) (hx : Kn φ e x v1) (hy : Kn φ e y v2) : QOk P φ h w e ⟨d, .binOp op t x y t', ty, pos, aft, g⟩ (bin P h op t v1 v2) := by
  unfold bin
  split
  · rename_i k a k' b
    obtain ⟨u1, hx, hc1⟩ := hx (by simp)
    obtain ⟨u2, hy, hc2⟩ := hy (by simp)
    cases hc1; cases hc2
    have hg : ∀ x y, (eqGuard op t x y (.int k a) (.int k' b)).run P w = .ok () w := fun x y => eqg_run (fun p q e _ => by cases e) (fun e => by cases e) x y
    split
    · exact PV.q (shInt_pv .shl k k' a b (.inl rfl)) fun u e1 => Y.bin hx hy hg e1
    · exact PV.q (shInt_pv .shr k k' a b (.inr rfl)) fun u e1 => Y.bin hx hy hg e1
    · rename_i h1 h2
      refine cond_q' fun hk => ?_
      have := keq_eq.1 hk
      subst this
      exact PV.q (binInt_pv op k a b ⟨fun e => h1 e, fun e => h2 e⟩) fun u e1 => Y.bin hx hy hg e1
  · rename_i n s m t0
    obtain ⟨u1, hx, hc1⟩ := hx (by simp)
    obtain ⟨u2, hy, hc2⟩ := hy (by simp)
    cases hc1 with
    | str hs =>
    cases hc2 with
    | str ht0 =>
    have hg : ∀ x y, (eqGuard op t x y (S (unp n s)) (S (unp m t0))).run P w = .ok () w := fun x y => eqg_run (fun p q e _ => by cases e) (fun e => by cases e) x y
    exact PV.q (binStr_pv op hs ht0) fun u e1 => Y.bin hx hy hg e1
  · rename_i hi hs
    have hni : ∀ {u1 u2 : Value}, CV φ v1 u1 → CV φ v2 u2 → v1 ≠ .und → v2 ≠ .und → (∀ k a k' b, u1 = .int k a → u2 = .int k' b → False) ∧ (∀ a b, u1 = .string a → u2 = .string b → False) := fun {u1 u2} c1 c2 k1 k2 => by
      constructor
      · intro k a k' b e1 e2
        subst e1; subst e2
        cases c1 with
        | und => exact k1 rfl
        | int =>
        cases c2 with
        | und => exact k2 rfl
        | int => exact hi _ _ _ _ rfl rfl
      · intro a b e1 e2
        subst e1; subst e2
        cases c1 with
        | und => exact k1 rfl
        | str _ =>
        cases c2 with
        | und => exact k2 rfl
        | str _ => exact hs _ _ _ _ rfl rfl
    split <;> try exact trivial
    · refine cond_q' fun hg => ?_
      cases he : eqT P h 8 t v1 v2 with
      | none => exact trivial
      | some q =>
        obtain ⟨k1, k2⟩ := eqT_known he
        obtain ⟨u1, hx, hc1⟩ := hx k1
        obtain ⟨u2, hy, hc2⟩ := hy k2
        obtain ⟨n1, n2⟩ := hni hc1 hc2 k1 k2
        simp only [rOB, rBool_eq]
        exact eqr_ok r hx hy hc1 hc2 k1 hg he n1 n2 (.inl ⟨rfl, rfl⟩)
    · refine cond_q' fun hg => ?_
      cases he : eqT P h 8 t v1 v2 with
      | none => exact trivial
      | some q =>
        obtain ⟨k1, k2⟩ := eqT_known he
        obtain ⟨u1, hx, hc1⟩ := hx k1
        obtain ⟨u2, hy, hc2⟩ := hy k2
        obtain ⟨n1, n2⟩ := hni hc1 hc2 k1 k2
        simp only [Option.map_some, rOB, rBool_eq]
        exact eqr_ok r hx hy hc1 hc2 k1 hg he n1 n2 (.inr ⟨rfl, rfl⟩)

theorem un_ok {op : UnOp} (r : Rel G φ h w) (hx : Kn φ e x v1) : QOk P φ h w e ⟨d, .unOp op t x, ty, pos, aft, g⟩ (un h op v1) := by
  unfold un
  split <;> try exact trivial
  · obtain ⟨u1, hx, hc1⟩ := hx (by simp)
    cases hc1
    rw [rBool_eq]
    exact QOk.pure (ynt hx) .bool
  · rename_i k n
    obtain ⟨u1, hx, hc1⟩ := hx (by simp)
    cases hc1
    rw [rInt_eq, wrp_eq]
    refine QOk.pure (u := .int k (k.wrap (0 - n))) (fun ρ hρ => ?_) ?_
    · simp [execOp, hρ _ _ hx, Op.unary, Op.intArith]
    · have : (0 - n : Int) = Int.neg n := by show 0 - n = -n; omega
      rw [this]; exact .int
  · rename_i k n
    obtain ⟨u1, hx, hc1⟩ := hx (by simp)
    cases hc1
    cases hs : k.signed with
    | true => exact trivial
    | false =>
    simp only [cond_false]
    rw [nat?_eq]
    split <;> try exact trivial
    rename_i hn
    refine cond_q' fun hr => ?_
    rw [rInt_eq]
    have hm := natLt hn hr
    obtain ⟨n, rfl⟩ : ∃ m : Nat, n = m := ⟨n.toNat, (Int.toNat_of_nonneg hn).symm⟩
    simp only [Int.toNat_natCast] at hm ⊢
    exact QOk.pure (ycoU' hx hs hm) .int

theorem mi_ok (r : Rel G φ h w) (hx : Kn φ e x v1) : QOk P φ h w e ⟨d, .makeInterface t x, ty, pos, aft, g⟩ (mi P h t v1) := by
  unfold mi
  split <;> try exact trivial
  rename_i hnu
  obtain ⟨u1, hx, hc1⟩ := hx hnu
  split <;> try exact trivial
  rename_i td hni ht
  refine QOk.pure (u := .iface t u1) (fun ρ hρ => ?_) (.ifc hc1)
  simp only [execOp, hρ _ _ hx, Instr.makeInterface, Sem.run_bind, run_underlying ht, Result.andThen_ok]
  cases td <;> first | rfl | exact (hni _ rfl).elim
theorem ta_ok {ok : Bool} (r : Rel G φ h w) (hx : Kn φ e x v1) : QOk P φ h w e ⟨d, .typeAssert x t' t ok, ty, pos, aft, g⟩ (ta P h v1 t ok) := by
  unfold ta
  split <;> try exact trivial
  rename_i u v
  obtain ⟨u1, hx, hc1⟩ := hx (by simp)
  cases hc1 with
  | @ifc _ _ uv hc =>
  split <;> try exact trivial
  rename_i td hni ht
  refine cond_q' fun htu => ?_
  have := Nat.eq_of_beq_eq_true htu
  subst this
  cases ok with
  | true =>
    refine QOk.pure (u := .tuple [uv, .bool true].toArray) (fun ρ hρ => ?_) (.tup (.cons hc (.cons .bool .nil)))
    simp only [execOp, hρ _ _ hx, Instr.typeAssert, Sem.run_bind, run_underlying ht, Result.andThen_ok]
    cases td <;> first | (simp; done) | exact (hni _ rfl).elim
  | false =>
    refine rV_q fun _ => ⟨uv, fun ρ hρ => ?_, hc⟩
    simp only [execOp, hρ _ _ hx, Instr.typeAssert, Sem.run_bind, run_underlying ht, Result.andThen_ok]
    cases td <;> first | (simp; done) | exact (hni _ rfl).elim
end
end Go.Proofs.Ytkhkebcflaokpaa
namespace Go.Proofs.Ytkhkebcflaokpaa
open Go Go.RowKit
set_option linter.all false

section
variable {P : Program} {G : Nat} {φ : Ph} {h : H} {w : World} {e : Env} {d : Option Nat} {ty t t' : TypeId} {pos : String} {aft : Array Edge} {g : Option (Nat × Bool)} {x y : Operand} {v v1 v2 : V} {u u1 u2 : Value} {ρ : Operand → V}

noncomputable def pkF {β : Type} (no : β) (c : Nat → β) (v : V) (s : Nat) : β := match v with
  | .int .u8 z => nat? z (fun n => cond (Nat.blt n 256) (fN (Nat.add n (Nat.mul 256 s)) c) no) no
  | _ => no
theorem packK_cons {β : Type} (no : β) (v : V) (l : List V) (c : Nat → β) : packK (v :: l) c no = packK l (pkF no c v) no := rfl
theorem packK_eq {β : Type} (no : β) : ∀ (l : List V) (c : Nat → β), packK l c no = no ∨ ∃ bs : List UInt8, packK l c no = c (pak bs) ∧ bs.length = l.length ∧ ∀ φ us, CVs φ l us → us = bs.map u8v
  | [], c => .inr ⟨[], rfl, rfl, fun φ us h => by cases h; rfl⟩
  | v :: l, c => by
    rw [packK_cons]
    rcases packK_eq no l (pkF no c v) with h1 | ⟨bs, h1, h2, h3⟩
    · exact .inl h1
    · rw [h1]
      unfold pkF
      split
      · rename_i z
        rw [nat?_eq]
        split
        · rename_i hz
          cases hb : Nat.blt z.toNat 256 with
          | false => exact .inl rfl
          | true =>
            right
            have hb : z.toNat < 256 := by simpa using hb
            simp only [cond_true, fN_eq]
            have h8 : (UInt8.ofNat z.toNat).toNat = z.toNat := by simp; omega
            refine ⟨UInt8.ofNat z.toNat :: bs, ?_, by simp [h2], fun φ us h => ?_⟩
            · show _ = c ((UInt8.ofNat z.toNat).toNat + 256 * pak bs)
              rw [h8]; rfl
            · cases h with
              | cons k1 k2 =>
              cases k1
              rw [h3 φ _ k2, List.map_cons]
              congr 1
              simp only [u8v, h8, Int.toNat_of_nonneg hz]
        · exact .inl rfl
      · exact .inl rfl

theorem shape_of {b : Nat} {us : List Value} {T : TypeId} {fz : Nat × Nat} (h : BlkF w b us T fz) : w.shape? b = some (T, us.length) := by
  unfold World.shape?; rw [h.1]; simp
theorem info_of_tsz {t : TypeId} (h : 0 < tsz P t) : ∃ j, P.info? t = some j ∧ j.size ≠ 0 := by
  unfold tsz at h
  cases hi : P.info? t with
  | none => rw [hi] at h; simp at h
  | some i => rw [hi] at h; exact ⟨i, rfl, Nat.pos_iff_ne_zero.1 h⟩
theorem cvU_q (r : Rel G φ h w) (hx : Kn φ e x v) : QOk P φ h w e ⟨d, .convert t t' x, ty, pos, aft, g⟩ (cvU P h t t' v) := by
  unfold cvU
  split <;> try exact trivial
  · rename_i a hs hd
    split <;> try exact trivial
    · obtain ⟨u, hx, hc⟩ := hx (by simp)
      cases hc
      refine QOk.pure (u := .pointer none) (fun ρ hρ => ?_) .nptr
      simp [execOp, hρ _ _ hx, convert, run_underlying hs, run_underlying hd, Conv.unsafePointer]
    · rename_i b o
      obtain ⟨u, hx, hc⟩ := hx (by simp)
      cases hc with
      | @ptr _ _ b' a' N hp =>
      split <;> try exact trivial
      rename_i n0 d0 t0 ty0 hb0
      obtain ⟨hN0, us, T, fz, hB, hlen, hT, hst⟩ := r.cells hb0 hp
      simp only at hN0 hB hlen hT
      refine cond_q' fun hh => ?_
      simp only [Bool.and_eq_true] at hh
      have h1 : o < n0 := by simpa using hh.1
      obtain ⟨j, hj, hj0⟩ := info_of_tsz (show 0 < tsz P a by simpa using hh.2)
      refine QOk.pure (fun ρ hρ => ?_) (.ptr hp)
      have hr := Lib.run_to_unsafe (P := P) (w := w) ⟨b', a' + o, none⟩ hs hd hj hj0 (shape_of hB) (by simp only; omega)
      simp only [execOp, hρ _ _ hx, Sem.run_bind, hr, Result.andThen_ok, Sem.run_pure]
  · rename_i u' hs hd
    split <;> try exact trivial
    · obtain ⟨u, hx, hc⟩ := hx (by simp)
      cases hc
      refine QOk.pure (u := .pointer none) (fun ρ hρ => ?_) .nptr
      simp [execOp, hρ _ _ hx, convert, run_underlying hs, run_underlying hd, Conv.unsafePointer]
    · rename_i b o
      obtain ⟨u, hx, hc⟩ := hx (by simp)
      cases hc with
      | @ptr _ _ b' a' N hp =>
      split <;> try exact trivial
      rename_i n0 d0 t0 ty0 hb0
      obtain ⟨hN0, us, T, fz, hB, hlen, hT, hT2, hst⟩ := r.cells hb0 hp
      obtain ⟨-, ha, hn⟩ := hst rfl
      simp only at hN0 hB hlen hT ha hn
      refine cond_q' fun hh => ?_
      simp only [Bool.and_eq_true] at hh
      obtain ⟨j, hj, hj0⟩ := info_of_tsz (show 0 < tsz P u' by simpa using hh.1)
      refine QOk.pure (fun ρ hρ => ?_) (.ptr hp)
      have hr := Lib.run_from_unsafe (P := P) (w := w) ⟨b', a' + o, none⟩ hs hd hj (shape_of hB) (by rw [hT2, hlen, ← hn, ha, Nat.zero_add]; exact hh.2)
      simp only [execOp, hρ _ _ hx, Sem.run_bind, hr, Result.andThen_ok, Sem.run_pure]
theorem conv_ok (r : Rel G φ h w) (hx : Kn φ e x v) : ROk P G φ h w e ⟨d, .convert t t' x, ty, pos, aft, g⟩ (conv P h t t' v) := by
  unfold conv
  split <;> try exact trivial
  · rename_i td k k' z hs hd
    obtain ⟨u, hx, hc⟩ := hx (by simp)
    cases hc
    rw [rInt_eq, wrp_eq]
    refine ROk.pure r (fun ρ hρ => ?_) .int
    simp only [execOp, hρ _ _ hx, convert, Sem.run_bind, run_underlying hs, run_underlying hd, Result.andThen_ok]
    cases td <;> simp [Conv.intToInt]
  · rename_i td n s hs hd
    obtain ⟨u, hx, hc⟩ := hx (by simp)
    cases hc with
    | str hs' =>
    refine ROk.pure r (fun ρ hρ => ?_) (.str hs')
    simp only [execOp, hρ _ _ hx, convert, Sem.run_bind, run_underlying hs, run_underlying hd, Result.andThen_ok]
    cases td <;> simp
  · rename_i el n s hs hd
    obtain ⟨u, hx, hc⟩ := hx (by simp)
    cases hc with
    | str hs' =>
    split <;> try exact trivial
    rename_i he
    rw [fL_eq, newCells_eq]
    have hr := run_bytes_of_string (P := P) w t t' el ⟨(unp n s).toArray⟩ hs hd he
    have hsz : (ByteArray.mk (unp n s).toArray).size = n := by rw [size_S]; simp
    rw [hsz] at hr
    have hge := grownCap_ge w n 0 el
    have hrow : bytesRow ⟨(unp n s).toArray⟩ (grownCap w n 0 el) = ((unp n s).map u8v).toArray ++ Array.replicate (grownCap w n 0 el - n) (Value.int .u8 0) := by
      apply Array.toList_inj.1
      simp [bytesRow, hsz, u8v]
    have hsize : (bytesRow ⟨(unp n s).toArray⟩ (grownCap w n 0 el)).size = ((unp n s).map u8v).length + (Array.replicate (grownCap w n 0 el - n) (Value.int .u8 0)).size := by rw [hrow]; simp
    refine ⟨.slice (some ⟨w.heap.size, 0, none⟩) n (grownCap w n 0 el), w.drew.alloc (.cells (bytesRow ⟨(unp n s).toArray⟩ (grownCap w n 0 el)) el ((bytesRow ⟨(unp n s).toArray⟩ (grownCap w n 0 el)).size, (bytesRow ⟨(unp n s).toArray⟩ (grownCap w n 0 el)).size + 1)), _, fun ρ hρ => ?_,
      by
        have := r.grown (u8_cvs (φ := φ) (unp n s)) (Array.replicate (grownCap w n 0 el - n) (Value.int .u8 0)) el true ((bytesRow ⟨(unp n s).toArray⟩ (grownCap w n 0 el)).size, (bytesRow ⟨(unp n s).toArray⟩ (grownCap w n 0 el)).size + 1) (fun i hi hh => by rw [hsize] at hh; simp only at hh; omega) (fun hh => by cases hh)
        rw [← hrow] at this
        exact this, ?_⟩
    · simp only [execOp, hρ _ _ hx, Sem.run_bind, hr, Result.andThen_ok, Sem.run_pure]
    · refine .sl (a := 0) (addPh_same _ _ _) (Nat.le_refl _) hge (fun hh => by cases hh) ?_
      simp; omega
  · rename_i el hs hd
    obtain ⟨u, hx, hc⟩ := hx (by simp)
    cases hc
    split <;> try exact trivial
    rename_i he
    refine ROk.pure r (u := S []) (fun ρ hρ => ?_) (CV.str (φ := φ) (n := 0) (s := 0) (by simp))
    simp only [execOp, hρ _ _ hx, convert, Sem.run_bind, run_underlying hs, run_underlying hd, run_underlying he, Result.andThen_ok, Conv.bytesToString, Sem.run_pure]
    rfl
  · rename_i el b es hs hd
    obtain ⟨u, hx, hc⟩ := hx (by simp)
    cases hc with
    | @es _ _ b' a N off c' hp hN =>
    split <;> try exact trivial
    rename_i he
    refine ROk.pure r (u := S []) (fun ρ hρ => ?_) (CV.str (φ := φ) (n := 0) (s := 0) (by simp))
    have hr := run_convert_bytes_back (P := P) w t t' el ⟨b', off, none⟩ c' [] hs he hd (fun j hj => by simp at hj)
    simp only [List.length_nil] at hr
    simp only [execOp, hρ _ _ hx, Sem.run_bind, hr, Result.andThen_ok, Sem.run_pure]
  · rename_i el b o len kc es op hs hd
    obtain ⟨u, hx, hc⟩ := hx (by simp)
    cases hc with
    | @sl _ _ _ _ _ _ b' a N c' hp q1 q2 q3 q4 =>
    split <;> try exact trivial
    rename_i n0 d0 t0 ty0 st0 he hb0
    obtain ⟨hN0, us, T, fz, hB, hlen, hT, hst⟩ := r.cells hb0 hp
    simp only at hN0 hB hlen hT
    refine cond_ok' fun hh => ?_
    simp only [Bool.and_eq_true] at hh
    have hfit : o + len ≤ n0 := Nat.le_of_ble_eq_true hh.2
    rw [rdK_eq]
    have hcv := hT.read hfit
    rcases packK_eq (R.bad 100) _ (fun s => R.v (.str len s) h) with h1 | ⟨bs, h1, h2, h3⟩
    · rw [h1]; exact trivial
    · rw [h1]
      have hus := h3 φ _ hcv
      have hbl : bs.length = len := by rw [h2]; simp
      refine ROk.pure r (u := S bs) (fun ρ hρ => ?_) (by have := cv_str (φ := φ) bs; rwa [hbl] at this)
      have hcells := hB.blk.cells (i := a + o) (n := len) hus
      have hr := run_convert_bytes_back (P := P) w t t' el ⟨b', a + o, none⟩ c' bs hs he hd (fun j hj => by rw [add_off]; exact hcells j _ (by simp [hj, u8v]))
      rw [hbl] at hr
      simp only [execOp, hρ _ _ hx, Sem.run_bind, hr, Result.andThen_ok, Sem.run_pure]
  · exact (cvU_q r hx).rok r

theorem conv_q (r : Rel G φ h w) (hns : ∀ el, P.underlying t' ≠ some (.slice el)) (hx : Kn φ e x v) : QOk P φ h w e ⟨d, .convert t t' x, ty, pos, aft, g⟩ (conv P h t t' v) := by
  unfold conv
  split <;> try exact trivial
  · rename_i td k k' z hs hd
    obtain ⟨u, hx, hc⟩ := hx (by simp)
    cases hc
    rw [rInt_eq, wrp_eq]
    refine QOk.pure (fun ρ hρ => ?_) .int
    simp only [execOp, hρ _ _ hx, convert, Sem.run_bind, run_underlying hs, run_underlying hd, Result.andThen_ok]
    cases td <;> simp [Conv.intToInt]
  · rename_i td n s hs hd
    obtain ⟨u, hx, hc⟩ := hx (by simp)
    cases hc with
    | str hs' =>
    refine QOk.pure (fun ρ hρ => ?_) (.str hs')
    simp only [execOp, hρ _ _ hx, convert, Sem.run_bind, run_underlying hs, run_underlying hd, Result.andThen_ok]
    cases td <;> simp
  · rename_i el n s hs hd
    exact absurd hd (hns el)
  · rename_i el hs hd
    obtain ⟨u, hx, hc⟩ := hx (by simp)
    cases hc
    split <;> try exact trivial
    rename_i he
    refine QOk.pure (u := S []) (fun ρ hρ => ?_) (CV.str (φ := φ) (n := 0) (s := 0) (by simp))
    simp only [execOp, hρ _ _ hx, convert, Sem.run_bind, run_underlying hs, run_underlying hd, run_underlying he, Result.andThen_ok, Conv.bytesToString, Sem.run_pure]
    rfl
  · rename_i el b es hs hd
    obtain ⟨u, hx, hc⟩ := hx (by simp)
    cases hc with
    | @es _ _ b' a N off c' hp hN =>
    split <;> try exact trivial
    rename_i he
    refine QOk.pure (u := S []) (fun ρ hρ => ?_) (CV.str (φ := φ) (n := 0) (s := 0) (by simp))
    have hr := run_convert_bytes_back (P := P) w t t' el ⟨b', off, none⟩ c' [] hs he hd (fun j hj => by simp at hj)
    simp only [List.length_nil] at hr
    simp only [execOp, hρ _ _ hx, Sem.run_bind, hr, Result.andThen_ok, Sem.run_pure]
  · rename_i el b o len kc es op hs hd
    obtain ⟨u, hx, hc⟩ := hx (by simp)
    cases hc with
    | @sl _ _ _ _ _ _ b' a N c' hp q1 q2 q3 q4 =>
    split <;> try exact trivial
    rename_i n0 d0 t0 ty0 st0 he hb0
    obtain ⟨hN0, us, T, fz, hB, hlen, hT, hst⟩ := r.cells hb0 hp
    simp only at hN0 hB hlen hT
    refine cond_q' fun hh => ?_
    simp only [Bool.and_eq_true] at hh
    have hfit : o + len ≤ n0 := Nat.le_of_ble_eq_true hh.2
    rw [rdK_eq]
    have hcv := hT.read hfit
    rcases packK_eq (R.bad 100) _ (fun s => R.v (.str len s) h) with h1 | ⟨bs, h1, h2, h3⟩
    · rw [h1]; exact trivial
    · rw [h1]
      have hus := h3 φ _ hcv
      have hbl : bs.length = len := by rw [h2]; simp
      refine QOk.pure (u := S bs) (fun ρ hρ => ?_) (by have := cv_str (φ := φ) bs; rwa [hbl] at this)
      have hcells := hB.blk.cells (i := a + o) (n := len) hus
      have hr := run_convert_bytes_back (P := P) w t t' el ⟨b', a + o, none⟩ c' bs hs he hd (fun j hj => by rw [add_off]; exact hcells j _ (by simp [hj, u8v]))
      rw [hbl] at hr
      simp only [execOp, hρ _ _ hx, Sem.run_bind, hr, Result.andThen_ok, Sem.run_pure]
  · exact cvU_q r hx

/-! ### Builtins and calls -/
theorem liesAt_bytes' {e : TypeId} (hc : P.cellsOf e = 1) (count off n : Nat) (hn : off + n ≤ count) : liesAt P P.depth e count off e n = true := by
  have hd : P.depth = (2 * (P.types.size + Made.depth) + 1) + 1 := rfl
  rw [hd]
  simp only [liesAt, Bool.or_eq_true]
  left
  rw [hd]
  simp [rowAt, hc, hn, sameLayout, Nat.mod_one]
theorem run_unsafeString_at (pt it ty e : TypeId) (hp : P.underlying pt = some (.pointer e)) (hc : P.cellsOf e = 1) (g off cells : Nat) (hsh : w.shape? g = some (e, cells)) (l : List UInt8) (h0 : l ≠ []) (hn : off + l.length ≤ cells) (h63 : l.length ≤ 9223372036854775807)
    (hcell : ∀ j x, l[j]? = some x → w.cell? ((⟨g, off, none⟩ : Addr).add j) = some (.int .u8 x.toNat)) :
    (Builtin.unsafeString_ #[pt, it] ty #[.pointer (some ⟨g, off, none⟩), .int .i64 l.length]).run P w = .ok (.string ⟨l.toArray⟩) (w.freeze ⟨g, off, none⟩ l.length) := by
  have hl : l.length ≠ 0 := by simpa using h0
  have hlb := Lib.run_loadBytes (P := P) w l ⟨g, off, none⟩ .empty hcell
  have hlies := liesAt_bytes' (P := P) hc (cells / P.cellsOf e) off l.length (by rw [hc]; simpa using hn)
  have h63' : ¬ (9223372036854775807 : Int) < (l.length : Int) := by omega
  have hdef : Builtin.unsafeString_ #[pt, it] ty #[.pointer (some ⟨g, off, none⟩), .int .i64 l.length] =
      (do
        let n ← asInt (.int .i64 l.length)
        if n < 0 then runtimePanic (.error "unsafe.String: len out of range")
        if n > IntKind.i64.max then unsupported (.unsafePointer "String: a length above the largest int")
        if n = 0 then pure (.string .empty)
        else if ← variablesAt ⟨g, off, none⟩ (← elemOf pt) n.toNat then do
          let s ← loadBytes ⟨g, off, none⟩ .empty n.toNat
          freeze ⟨g, off, none⟩ n.toNat
          pure (.string s)
        else unsupported (.unsafePointer "String: not so many bytes at ptr")) := rfl
  rw [hdef]
  have hmax : IntKind.i64.max = 9223372036854775807 := rfl
  have hneg : ¬ (l.length : Int) < 0 := by omega
  simp [asInt, asIntOf, hmax, h63', hneg, hl, variablesAt, hsh, elemOf, run_underlying hp, hlies, hlb]
theorem kp_freeze (w : World) (a : Addr) (n : Nat) : Kp (fun k => k = a.block) w (w.freeze a n) := by
  unfold World.freeze
  split
  · exact Kp.refl _ w
  · exact ⟨rfl, rfl, rfl, by simp, fun k _ hn => by
      simp only [Array.getElem?_modify]
      rw [if_neg (fun h => hn h.symm)]⟩
theorem sdV_ok {ts : Array TypeId} (hc : CV φ v u) : QB P φ h w (Builtin.unsafeSliceData_ ts ty #[u]) (sdV h v) := by
  unfold sdV
  split <;> try exact trivial
  · cases hc
    exact QB.pure (u := .pointer none) rfl .nptr
  · rename_i b o len kc es op
    cases hc with
    | @sl _ _ _ _ _ _ b' a N c' hp q1 q2 q3 q4 =>
    refine QB.cnd' fun hh => ?_
    have hk : 0 < kc := by simpa using hh
    exact QB.pure (Lib.run_unsafeSliceData_row (P := P) w ts ty ⟨b', a + o, none⟩ len c' (by omega)) (.ptr hp)
theorem usV_ok {it : TypeId} (r : Rel G φ h w) (hc1 : CV φ v1 u1) (hc2 : CV φ v2 u2) : BOk P G φ h w (Builtin.unsafeString_ #[t, it] ty #[u1, u2]) (usV P h t v1 v2) := by
  have hs0 : CV φ (.str 0 0) (.string .empty) := CV.str (φ := φ) (n := 0) (s := 0) (by simp)
  unfold usV
  split <;> try exact trivial
  · cases hc1; cases hc2
    refine BOk.cnd' fun hh => ?_
    rw [ieq_eq] at hh
    have hz := of_decide_eq_true hh
    subst hz
    exact BOk.pure r (Lib.run_unsafeString_none (P := P) w t it ty none) hs0
  · rename_i b o z
    cases hc2
    cases hc1 with
    | @ptr _ _ b' a N hp =>
    rw [nat?_eq]
    split <;> try exact trivial
    rename_i hz0
    obtain ⟨n, rfl⟩ : ∃ m : Nat, z = m := ⟨z.toNat, (Int.toNat_of_nonneg hz0).symm⟩
    simp only [Int.toNat_natCast]
    cases n with
    | zero => exact BOk.pure r (Lib.run_unsafeString_none (P := P) w t it ty _) hs0
    | succ n =>
      show BOk P G φ h w _ (match hGet h b, P.underlying t with
        | some (.cells n0 d tr ty _), some (.pointer e) => cond (and (and (Nat.beq ty e) (Nat.beq (P.cellsOf e) 1)) (and (Nat.ble (Nat.add o (n + 1)) n0) (Nat.ble (n + 1) 9223372036854775807)))
          (rdK (n + 1) d tr o fun l => packK l (fun s => hSet h b none fun h => .v (.str (n + 1) s) h) (.bad 254)) (.bad 255)
        | _, _ => .bad 256)
      split <;> try exact trivial
      rename_i n0 d0 t0 ty0 st0 e0 hb0 ht
      obtain ⟨hN0, us, T, fz, hB, hlen, hT, hT2, hst⟩ := r.cells hb0 hp
      simp only at hN0 hB hlen hT
      refine BOk.cnd' fun hh => ?_
      simp only [Bool.and_eq_true] at hh
      obtain ⟨⟨hte, hce⟩, hfit, h63⟩ := hh
      have hte := Nat.eq_of_beq_eq_true hte
      have hce := Nat.eq_of_beq_eq_true hce
      have hfit : o + (n + 1) ≤ n0 := Nat.le_of_ble_eq_true hfit
      have h63 := Nat.le_of_ble_eq_true h63
      subst hte
      rw [rdK_eq]
      have hcv := hT.read hfit
      rcases packK_eq (R.bad 254) _ (fun s => hSet h b none fun h => R.v (.str (n + 1) s) h) with h1 | ⟨bs, h1, h2, h3⟩
      · rw [h1]; exact trivial
      · rw [h1, hSet_eq]
        have hus := h3 φ _ hcv
        have hbl : bs.length = n + 1 := by rw [h2]; simp
        have hcells := hB.blk.cells (i := a + o) (n := n + 1) hus
        have hr := run_unsafeString_at (P := P) (w := w) t it ty ty0 ht hce b' (a + o) us.length (by rw [shape_of hB, hT2]) bs (by intro e; rw [e] at hbl; simp at hbl) (by rw [hbl]; omega) (by omega) (fun j x hj => by rw [add_off]; exact hcells j _ (by simp [hj, u8v]))
        rw [hbl] at hr
        refine ⟨_, _, φ, hr, ?_, ?_⟩
        · by_cases hro : True
          · exact r.delw hb0 rfl hp (kp_freeze w ⟨b', a + o, none⟩ (n + 1))
          · exact absurd trivial hro
        · have := cv_str (φ := φ) bs
          rwa [hbl] at this
theorem lo_eq (a b : Int) : lo a b = if b < a then b else a := by
  unfold lo
  rw [ile_eq]
  by_cases hh : a ≤ b
  · rw [if_neg (by omega)]; simp [hh]
  · rw [if_pos (by omega)]; simp [hh]
theorem hi_eq (a b : Int) : hi a b = if a < b then b else a := by
  unfold hi
  rw [ile_eq]
  by_cases hh : b ≤ a
  · rw [if_neg (by omega)]; simp [hh]
  · rw [if_pos (by omega)]; simp [hh]
theorem mm_ok {ts : Array TypeId} {l : List V} {us : List Value} (mn : Bool) (hc : CVs φ l us) : QB P φ h w (cond mn (Builtin.min_ ts ty us.toArray) (Builtin.max_ ts ty us.toArray)) (mm h mn l) := by
  unfold mm
  split <;> try exact trivial
  · rename_i k a k' b k'' c
    cases hc with
    | cons h1 hc =>
    cases hc with
    | cons h2 hc =>
    cases hc with
    | cons h3 hc =>
    cases hc
    cases h1; cases h2; cases h3
    refine QB.cnd' fun hk => ?_
    simp only [Bool.and_eq_true] at hk
    have e1 := keq_eq.1 hk.1
    have e2 := keq_eq.1 hk.2
    subst e1; subst e2
    rw [rInt_eq]
    cases mn with
    | true =>
      refine QB.pure (u := .int k (lo (lo a b) c)) ?_ .int
      simp only [cond_true, lo_eq]
      simp [Builtin.min_, Builtin.min2]
    | false =>
      refine QB.pure (u := .int k (hi (hi a b) c)) ?_ .int
      simp only [cond_false, hi_eq]
      simp [Builtin.max_, Builtin.max2]
  rename_i k a k' b
  cases hc with
  | cons h1 hc =>
  cases hc with
  | cons h2 hc =>
  cases hc
  cases h1; cases h2
  refine QB.cnd' fun hk => ?_
  have := keq_eq.1 hk
  subst this
  rw [rInt_eq]
  simp only [ile_eq]
  cases mn with
  | true =>
    simp only [cond_true]
    have : (cond (decide (a ≤ b)) a b) = if b < a then b else a := by
      by_cases hh : a ≤ b
      · rw [if_neg (by omega)]; simp [hh]
      · rw [if_pos (by omega)]; simp [hh]
    rw [this]
    exact QB.pure (u := .int k (if b < a then b else a)) (by simp [Builtin.min_, Builtin.min2]) .int
  | false =>
    simp only [cond_false]
    have : (cond (decide (b ≤ a)) a b) = if a < b then b else a := by
      by_cases hh : b ≤ a
      · rw [if_neg (by omega)]; simp [hh]
      · rw [if_pos (by omega)]; simp [hh]
    rw [this]
    exact QB.pure (u := .int k (if a < b then b else a)) (by simp [Builtin.max_, Builtin.max2]) .int
end
end Go.Proofs.Ytkhkebcflaokpaa
namespace Go.Proofs.Ytkhkebcflaokpaa
open Go Go.RowKit
set_option linter.all false

/-! ### Digits -/
theorem shr8 (s o : Nat) : Nat.shiftRight s (Nat.mul 8 o) = s / 256 ^ o := by
  show s >>> (8 * o) = _
  rw [Nat.shiftRight_eq_div_pow, Nat.pow_mul]
theorem shl8 (s o : Nat) : Nat.shiftLeft s (Nat.mul 8 o) = s * 256 ^ o := by
  show s <<< (8 * o) = _
  rw [Nat.shiftLeft_eq, Nat.pow_mul]
/-- A byte. -/
def dg (s i : Nat) : Nat := s / 256 ^ i % 256
theorem byA_eq (s o : Nat) : byA s o = dg s o := by
  show Nat.shiftRight s (Nat.mul 8 o) % 256 = _
  rw [shr8]; rfl
theorem dg_lt (s i : Nat) : dg s i < 256 := Nat.mod_lt _ (by omega)
theorem dg_shift (s o i : Nat) : dg (s / 256 ^ o) i = dg s (o + i) := by unfold dg; rw [Nat.div_div_eq_div_mul, ← Nat.pow_add]
theorem dg_mod (s n i : Nat) (h : i < n) : dg (s % 256 ^ n) i = dg s i := by
  unfold dg
  obtain ⟨k, rfl⟩ : ∃ k, n = i + (k + 1) := ⟨n - i - 1, by omega⟩
  rw [Nat.pow_add, Nat.mod_mul_right_div_self, pow256, Nat.mod_mul_right_mod]
theorem dg_app (s n x i : Nat) (hs : s < 256 ^ n) : dg (s + x * 256 ^ n) i = if i < n then dg s i else dg x (i - n) := by
  split
  · rename_i h
    rw [← dg_mod (s + x * 256 ^ n) n i h, Nat.add_mul_mod_self_right, Nat.mod_eq_of_lt hs]
  · rename_i h
    obtain ⟨k, rfl⟩ : ∃ k, i = n + k := ⟨i - n, by omega⟩
    rw [← dg_shift, Nat.add_mul_div_right _ _ (Nat.pow_pos (by omega)), Nat.div_eq_of_lt hs, Nat.zero_add, Nat.add_sub_cancel_left]
theorem byS_eq (s o n : Nat) : byS s o n = s / 256 ^ o % 256 ^ n := by
  show Nat.shiftRight s (Nat.mul 8 o) % 256 ^ n = _
  rw [shr8]
theorem byS_lt (s o n : Nat) : byS s o n < 256 ^ n := by rw [byS_eq]; exact Nat.mod_lt _ (Nat.pow_pos (by omega))
theorem dg_byS (s o n i : Nat) (h : i < n) : dg (byS s o n) i = dg s (o + i) := by rw [byS_eq, dg_mod _ _ _ h, dg_shift]
theorem byC_eq (s n x : Nat) : byC s n x = s + x * 256 ^ n := by
  show s + Nat.shiftLeft x (Nat.mul 8 n) = _
  rw [shl8]
theorem byP_eq (s o n x : Nat) : byP s o n x = s % 256 ^ o + (x + s / 256 ^ (o + n) * 256 ^ n) * 256 ^ o := by
  have h0 : byP s o n x = s - byS s o n * 256 ^ o + x * 256 ^ o := by
    show (s - Nat.shiftLeft (byS s o n) (Nat.mul 8 o)) + Nat.shiftLeft x (Nat.mul 8 o) = _
    rw [shl8, shl8]
  have h1 : s = s % 256 ^ o + 256 ^ o * (s / 256 ^ o) := by rw [Nat.add_comm]; exact (Nat.div_add_mod s _).symm
  have h2 : s / 256 ^ o = byS s o n + 256 ^ n * (s / 256 ^ (o + n)) := by
    rw [byS_eq, Nat.pow_add, ← Nat.div_div_eq_div_mul, Nat.add_comm]; exact (Nat.div_add_mod _ _).symm
  rw [h0]
  have h3 : s = s % 256 ^ o + (byS s o n * 256 ^ o + s / 256 ^ (o + n) * 256 ^ n * 256 ^ o) := by
    rw [h2, Nat.mul_add] at h1
    rw [Nat.mul_comm (256 ^ o), Nat.mul_comm (256 ^ o), Nat.mul_comm (256 ^ n)] at h1
    exact h1
  rw [Nat.add_mul]
  omega
theorem dg_byP (s o n x i : Nat) (hx : x < 256 ^ n) : dg (byP s o n x) i = if o ≤ i ∧ i < o + n then dg x (i - o) else dg s i := by
  rw [byP_eq, dg_app _ _ _ _ (Nat.mod_lt _ (Nat.pow_pos (by omega)))]
  by_cases h1 : i < o
  · rw [if_pos h1, if_neg (by omega), dg_mod _ _ _ h1]
  · rw [if_neg h1, dg_app _ _ _ _ hx]
    by_cases h2 : i - o < n
    · rw [if_pos h2, if_pos (by omega)]
    · rw [if_neg h2, if_neg (by omega), dg_shift]
      congr 1; omega
/-! ### Trees -/
theorem get_put_inR {α : Type} (z : α) : ∀ (d i : Nat) (t : Tr α d) (v : α), i < 16 ^ d → trGet z d i (trPut d i t v) = v
  | 0, i, t, v, h => by
    have : i = 0 := by simpa using h
    subst this
    rw [trGet_zero, if_pos rfl]; rfl
  | d + 1, i, t, v, h => by
    rw [trGet_succ, trPut_succ, sel_upd (Nat.mod_lt _ (by omega)) (Nat.mod_lt _ (by omega)), if_pos rfl]
    exact get_put_inR z d _ _ _ (by rw [Nat.pow_succ] at h; omega)
/-- A place is there or not, whatever stands in it. -/
theorem get_put_two {α : Type} (z : α) : ∀ (d i : Nat), (∀ (t : Tr α d) (v : α), trGet z d i (trPut d i t v) = v) ∨ (∀ (t : Tr α d), trGet z d i t = z)
  | 0, i => by
    by_cases h : i = 0
    · subst h; exact .inl fun t v => by rw [trGet_zero, if_pos rfl]; rfl
    · exact .inr fun t => by rw [trGet_zero, if_neg h]
  | d + 1, i => by
    rcases get_put_two z d (i / 16) with h | h
    · exact .inl fun t v => by
        rw [trGet_succ, trPut_succ, sel_upd (Nat.mod_lt _ (by omega)) (Nat.mod_lt _ (by omega)), if_pos rfl]
        exact h _ _
    · exact .inr fun t => by rw [trGet_succ]; exact h _
theorem wr_in (d : Nat) : ∀ (l : List V) (t : Tr V d) (o i : Nat), i < 16 ^ d → vGet d i (wrE d l t o) = if o ≤ i ∧ i < o + l.length then l.getD (i - o) .und else vGet d i t
  | [], t, o, i, _ => by rw [if_neg (by simp only [List.length_nil]; omega)]; rfl
  | v :: l, t, o, i, h => by
    simp only [wrE]
    rw [wr_in d l _ (o + 1) i h]
    by_cases hi : i = o
    · subst hi
      rw [if_neg (by omega), if_pos (by simp)]
      show trGet _ d i (trPut d i t v) = _
      rw [get_put_inR _ _ _ _ _ h]; simp
    · by_cases hr : o + 1 ≤ i ∧ i < o + 1 + l.length
      · rw [if_pos hr, if_pos (by simp only [List.length_cons]; omega)]
        have : i - o = (i - (o + 1)) + 1 := by omega
        rw [this]; simp
      · rw [if_neg hr, if_neg (by simp only [List.length_cons]; omega)]
        exact get_put_ne _ _ _ _ _ _ hi
theorem lvls_ok {n : Nat} (h : n ≤ 1048576) : n ≤ 16 ^ lvls n := by
  unfold lvls
  repeat' (rw [show ∀ {α} (b : Bool) (x y : α), cond b x y = if b = true then x else y from fun b x y => by cases b <;> rfl])
  split
  · rename_i h; have := Nat.le_of_ble_eq_true h; simpa using this
  split
  · rename_i h; have := Nat.le_of_ble_eq_true h; simpa using this
  split
  · rename_i h; have := Nat.le_of_ble_eq_true h; simpa using this
  split
  · rename_i h; have := Nat.le_of_ble_eq_true h; simpa using this
  split
  · rename_i h; have := Nat.le_of_ble_eq_true h; simpa using this
  · simpa using h

/-! ### Blocks that mean the same -/
def bv (s i : Nat) : V := .int .u8 (.ofNat (dg s i))
def BEq (x y : B) : Prop := ∀ φ p w, BR φ x p w ↔ BR φ y p w
theorem beq_byt {n d s : Nat} {t : Tr V d} {ty : TypeId} {st : Bool} (h : ∀ i, i < n → vGet d i t = bv s i) : BEq (.cells n d t ty st) (.byt n s ty st) := fun φ p w => by
  constructor
  · rintro ⟨h1, us, T, fz, h2, h3, h4, h5⟩
    refine ⟨h1, us, T, fz, h2, h3, fun i hi => ?_, h5⟩
    obtain ⟨u, e, c⟩ := h4 i hi
    rw [h i hi] at c
    cases c
    exact e
  · rintro ⟨h1, us, T, fz, h2, h3, h4, h5⟩
    refine ⟨h1, us, T, fz, h2, h3, fun i hi => ⟨_, h4 i hi, ?_⟩, h5⟩
    rw [h i hi]
    exact .int
/-- The bytes as cells. -/
noncomputable def byL (n s : Nat) : List V := (List.range n).map (bv s)
theorem byL_len (n s : Nat) : (byL n s).length = n := by simp [byL]
noncomputable def exT (n s : Nat) : Tr V n := wrE n (byL n s) (trNew .und n) 0
theorem lt_pow16 (n : Nat) : n < 16 ^ n := Nat.lt_pow_self (by omega)
theorem exT_get (n s i : Nat) (h : i < n) : vGet n i (exT n s) = bv s i := by
  unfold exT
  rw [wr_in _ _ _ _ _ (Nat.lt_trans h (lt_pow16 n)), if_pos (by rw [byL_len]; omega)]
  simp [byL, h, List.getD]
noncomputable def ex : B → B
  | .byt n s ty st => .cells n n (exT n s) ty st
  | x => x
theorem ex_eq (x : B) : BEq x (ex x) := by
  cases x with
  | byt n s ty st => exact fun φ p w => (beq_byt (exT_get n s) φ p w).symm
  | _ => exact fun _ _ _ => Iff.rfl
theorem ex_ro (x : B) : isRo (ex x) = isRo x := by cases x <;> rfl

/-- Memories that mean the same. -/
structure HEq (h g : H) : Prop where
  next : h.next = g.next
  b : ∀ b, hGet h b = hGet g b ∨ ∃ x y, hGet h b = some x ∧ hGet g b = some y ∧ BEq x y ∧ isRo x = false ∧ isRo y = false
theorem HEq.refl (h : H) : HEq h h := ⟨rfl, fun _ => .inl rfl⟩
theorem HEq.symm {h g : H} (k : HEq h g) : HEq g h := ⟨k.next.symm, fun b => (k.b b).elim (fun e => .inl e.symm) fun ⟨x, y, h1, h2, h3, h4, h5⟩ => .inr ⟨y, x, h2, h1, fun φ p w => (h3 φ p w).symm, h5, h4⟩⟩
theorem HEq.someE {h g : H} (k : HEq h g) {b : Nat} {y : B} (hy : hGet g b = some y) : ∃ x, hGet h b = some x ∧ (∀ φ p w, BR φ x p w ↔ BR φ y p w) ∧ isRo x = isRo y ∧ (isRo y = true → x = y) := by
  rcases k.b b with e | ⟨x, y', h1, h2, h3, h4, h5⟩
  · exact ⟨y, by rw [e]; exact hy, fun _ _ _ => Iff.rfl, rfl, fun _ => rfl⟩
  · rw [hy] at h2
    have := Option.some.inj h2
    subst this
    exact ⟨x, h1, h3, by rw [h4, h5], fun e => by rw [h5] at e; cases e⟩
theorem HEq.noneE {h g : H} (k : HEq h g) {b : Nat} (hy : hGet g b = none) : hGet h b = none := by
  rcases k.b b with e | ⟨x, y', h1, h2, h3, h4, h5⟩
  · rw [e]; exact hy
  · rw [hy] at h2; cases h2
section
variable {G : Nat} {φ φ' : Ph} {h g h' g' : H} {w w' : World}
theorem Rel.heq (r : Rel G φ h w) (k : HEq h g) : Rel G φ g w :=
  ⟨fun a b x y p q ha hb hp hq e => by
    obtain ⟨x', h1, -⟩ := k.someE ha
    obtain ⟨y', h2, -⟩ := k.someE hb
    exact r.inj a b x' y' p q h1 h2 hp hq e, fun b x hb => by
    obtain ⟨x', h1, h2, -⟩ := k.someE hb
    obtain ⟨p, h3, h4⟩ := r.blk b x' h1
    exact ⟨p, h3, (h2 _ _ _).1 h4⟩, fun b hb => r.fresh b (by rw [k.next]; exact hb), r.glob⟩
theorem foot_heq (k : HEq h g) (i : Nat) : foot φ g i → foot φ h i := by
  rintro ⟨b, x, p, h1, h2, h3, h4⟩
  obtain ⟨x', e1, -, e2, -⟩ := k.someE h1
  exact ⟨b, x', p, e1, by rw [e2]; exact h2, h3, h4⟩
theorem Post.heq (q : Post G φ h w φ' h' w') (k : HEq h g) (k' : HEq h' g') : Post G φ g w φ' g' w' :=
  ⟨q.sb, q.rel.heq k', q.kp.mono' fun i hi => foot_heq k.symm i hi, fun i hi => (q.ft i (foot_heq k' i hi)).imp (foot_heq k.symm i) id,
    ⟨fun b hb => q.hp.dm b (by rw [k.next]; exact hb), by rw [← k.next, ← k'.next]; exact q.hp.nx, fun b hb e => k'.symm.noneE (q.hp.od b (by rw [k.next]; exact hb) (k.noneE e)), fun b l e => by
      obtain ⟨x, h1, -, h2, h3⟩ := k'.someE e
      have := h3 rfl
      subst this
      have h4 := q.hp.ro b l h1
      obtain ⟨y, e1, -, e2, e3⟩ := k.symm.someE h4
      have := e3 rfl
      subst this
      exact e1⟩⟩
end

/-- What is answered means the same. -/
def REq : R → R → Prop
  | _, .bad _ => True
  | .v x g, r => ∃ h, r = .v x h ∧ HEq g h
  | .eff g, r => ∃ h, r = .eff h ∧ HEq g h
  | r, r' => r = r'
theorem REq.v {x : V} {g h : H} (k : HEq g h) : REq (.v x g) (.v x h) := ⟨h, rfl, k⟩
theorem REq.eff {g h : H} (k : HEq g h) : REq (.eff g) (.eff h) := ⟨h, rfl, k⟩
theorem REq.bad (r : R) (n : Nat) : REq r (.bad n) := by cases r <;> exact trivial
section
variable {P : Program} {G : Nat} {φ : Ph} {h g : H} {w : World} {e : Env} {o : Oper} {s : Sem Value} {r r' : R}
theorem ROk.heq (q : ROk P G φ g w e o r) (k : HEq g h) (kr : REq r r') : ROk P G φ h w e o r' := by
  cases r' with
  | bad n => exact trivial
  | v x h' =>
    cases r with
    | v y g' =>
      obtain ⟨h2, e, kk⟩ := kr
      cases e
      obtain ⟨u, w', φ', h1, h2, h3⟩ := q
      exact ⟨u, w', φ', h1, h2.heq k kk, h3⟩
    | eff g' => obtain ⟨h2, e, kk⟩ := kr; cases e
    | _ => cases kr
  | eff h' =>
    cases r with
    | v y g' => obtain ⟨h2, e, kk⟩ := kr; cases e
    | eff g' =>
      obtain ⟨h2, e, kk⟩ := kr
      cases e
      obtain ⟨w', φ', h1, h2⟩ := q
      exact ⟨w', φ', h1, h2.heq k kk⟩
    | _ => cases kr
  | call f args =>
    cases r with
    | v y g' => obtain ⟨h2, e, kk⟩ := kr; cases e
    | eff g' => obtain ⟨h2, e, kk⟩ := kr; cases e
    | _ => cases kr <;> exact q
  | yld l args =>
    cases r with
    | v y g' => obtain ⟨h2, e, kk⟩ := kr; cases e
    | eff g' => obtain ⟨h2, e, kk⟩ := kr; cases e
    | _ => cases kr <;> exact q
  | dfr f c args =>
    cases r with
    | v y g' => obtain ⟨h2, e, kk⟩ := kr; cases e
    | eff g' => obtain ⟨h2, e, kk⟩ := kr; cases e
    | _ => cases kr <;> exact q
theorem BOk.heq (q : BOk P G φ g w s r) (k : HEq g h) (kr : REq r r') : BOk P G φ h w s r' := by
  cases r' with
  | bad n => exact trivial
  | v x h' =>
    cases r with
    | v y g' =>
      obtain ⟨h2, e, kk⟩ := kr
      cases e
      obtain ⟨u, w', φ', h1, h2, h3⟩ := q
      exact ⟨u, w', φ', h1, h2.heq k kk, h3⟩
    | eff g' => obtain ⟨h2, e, kk⟩ := kr; cases e
    | _ => cases kr
  | eff h' =>
    cases r with
    | v y g' => obtain ⟨h2, e, kk⟩ := kr; cases e
    | eff g' => exact q.elim
    | _ => cases kr
  | call f args =>
    cases r with
    | v y g' => obtain ⟨h2, e, kk⟩ := kr; cases e
    | eff g' => obtain ⟨h2, e, kk⟩ := kr; cases e
    | _ => cases kr <;> exact q
  | yld l args =>
    cases r with
    | v y g' => obtain ⟨h2, e, kk⟩ := kr; cases e
    | eff g' => obtain ⟨h2, e, kk⟩ := kr; cases e
    | _ => cases kr <;> exact q
  | dfr f c args =>
    cases r with
    | v y g' => obtain ⟨h2, e, kk⟩ := kr; cases e
    | eff g' => obtain ⟨h2, e, kk⟩ := kr; cases e
    | _ => cases kr <;> exact q
end

/-! ### All bytes as cells -/
noncomputable def trMap {α : Type} (f : α → α) : (d : Nat) → Tr α d → Tr α d
  | 0, t => f t
  | d + 1, t => Nd.rec (motive := fun _ => Nd (Tr α d)) (fun a0 a1 a2 a3 a4 a5 a6 a7 a8 a9 a10 a11 a12 a13 a14 a15 => ⟨trMap f d a0, trMap f d a1, trMap f d a2, trMap f d a3, trMap f d a4, trMap f d a5, trMap f d a6, trMap f d a7, trMap f d a8, trMap f d a9, trMap f d a10, trMap f d a11, trMap f d a12, trMap f d a13, trMap f d a14, trMap f d a15⟩) t
theorem trMap_get {α : Type} (f : α → α) (z : α) (hz : f z = z) : ∀ (d i : Nat) (t : Tr α d), trGet z d i (trMap f d t) = f (trGet z d i t)
  | 0, i, t => by
    rw [trGet_zero, trGet_zero]
    split
    · rfl
    · exact hz.symm
  | d + 1, i, t => by
    rw [trGet_succ, trGet_succ, ← trMap_get f z hz d]
    congr 1
    obtain ⟨x0, x1, x2, x3, x4, x5, x6, x7, x8, x9, x10, x11, x12, x13, x14, x15⟩ := t
    rcases lt16 (Nat.mod_lt i (show 0 < 16 by omega)) with e | e | e | e | e | e | e | e | e | e | e | e | e | e | e | e <;> rw [e] <;> rfl
noncomputable def exH (h : H) : H := ⟨trMap (Option.map ex) HD h.t, h.next⟩
theorem exH_get (h : H) (b : Nat) : hGet (exH h) b = (hGet h b).map ex := trMap_get _ _ rfl _ _ _
theorem exH_eq (h : H) : HEq (exH h) h := ⟨rfl, fun b => by
  rw [exH_get]
  cases hb : hGet h b with
  | none => exact .inl rfl
  | some x =>
    by_cases hr : isRo x = true
    · left; cases x <;> first | rfl | cases hr
    · exact .inr ⟨ex x, x, rfl, rfl, fun φ p w => (ex_eq x φ p w).symm, by rw [ex_ro]; simpa using hr, by simpa using hr⟩⟩
/-- One block of each is written with what means the same. -/
theorem HEq.put {h g : H} (k : HEq h g) (b : Nat) {x y : B} (e : BEq x y) (hx : isRo x = false) (hy : isRo y = false) : HEq ⟨trPut HD b h.t (some x), h.next⟩ ⟨trPut HD b g.t (some y), g.next⟩ := ⟨k.next, fun c => by
  by_cases hc : c = b
  · subst hc
    rcases get_put_two (none : Option B) HD c with h1 | h1
    · exact .inr ⟨x, y, h1 _ _, h1 _ _, e, hx, hy⟩
    · exact .inl ((h1 _).trans (h1 _).symm)
  · rw [hGet_put_ne hc, hGet_put_ne hc]
    exact k.b c⟩
theorem HEq.new {h g : H} (k : HEq h g) {x y : B} (e : BEq x y) (hx : isRo x = false) (hy : isRo y = false) : HEq ⟨trPut HD h.next h.t (some x), h.next + 1⟩ ⟨trPut HD g.next g.t (some y), g.next + 1⟩ := ⟨by show h.next + 1 = g.next + 1; rw [k.next], fun c => by
  have := (k.put g.next e hx hy).b c
  rw [k.next]; exact this⟩
theorem HEq.del {h g : H} (k : HEq h g) (b : Nat) : HEq ⟨trPut HD b h.t none, h.next⟩ ⟨trPut HD b g.t none, g.next⟩ := ⟨k.next, fun c => by
  by_cases hc : c = b
  · subst hc
    left
    rcases get_put_two (none : Option B) HD c with h1 | h1
    · exact (h1 _ _).trans (h1 _ _).symm
    · exact (h1 _).trans (h1 _).symm
  · rw [hGet_put_ne hc, hGet_put_ne hc]
    exact k.b c⟩
end Go.Proofs.Ytkhkebcflaokpaa
namespace Go.Proofs.Ytkhkebcflaokpaa
open Go Go.RowKit
set_option linter.all false

theorem byL_succ (n s : Nat) : byL (n + 1) s = bv s 0 :: byL n (s / 256) := by
  unfold byL
  rw [List.range_succ_eq_map, List.map_cons, List.map_map]
  congr 1
  apply List.map_congr_left
  intro i _
  show bv s (i + 1) = bv (s / 256) i
  unfold bv
  have := dg_shift s 1 i
  rw [Nat.pow_one] at this
  rw [this, Nat.add_comm]
theorem byL_get (n s i : Nat) (h : i < n) : (byL n s)[i]? = some (bv s i) := by simp [byL, h]
theorem byL_unp (n s : Nat) : (unp n s).map (fun b => V.int .u8 (.ofNat b.toNat)) = byL n s := by
  induction n generalizing s with
  | zero => rfl
  | succ n ih =>
    rw [unp_succ, byL_succ, List.map_cons, ih]
    congr 2
    simp [dg]
theorem byL_ones (n s : Nat) : ones (byL n s) = true := by
  induction n generalizing s with
  | zero => rfl
  | succ n ih => rw [byL_succ]; show (one (bv s 0) && ones (byL n (s / 256))) = true; rw [ih]; rfl
theorem byL_app (n m s t : Nat) (hs : s < 256 ^ n) : byL n s ++ byL m t = byL (n + m) (byC s n t) := by
  apply List.ext_getElem?
  intro i
  rw [byC_eq]
  by_cases h1 : i < n
  · rw [List.getElem?_append_left (by rw [byL_len]; exact h1), byL_get _ _ _ h1, byL_get _ _ _ (by omega)]
    unfold bv; rw [dg_app _ _ _ _ hs, if_pos h1]
  · rw [List.getElem?_append_right (by rw [byL_len]; omega), byL_len]
    by_cases h2 : i < n + m
    · rw [byL_get _ _ _ (by omega), byL_get _ _ _ h2]
      unfold bv; rw [dg_app _ _ _ _ hs, if_neg h1]
    · rw [List.getElem?_eq_none (by rw [byL_len]; omega), List.getElem?_eq_none (by rw [byL_len]; omega)]
theorem byL_take (n k s : Nat) (h : k ≤ n) : (byL n s).take k = byL k (s % 256 ^ k) := by
  apply List.ext_getElem?
  intro i
  rw [List.getElem?_take]
  by_cases h1 : i < k
  · rw [if_pos h1, byL_get _ _ _ (by omega), byL_get _ _ _ h1]
    unfold bv; rw [dg_mod _ _ _ h1]
  · rw [if_neg h1, List.getElem?_eq_none (by rw [byL_len]; omega)]
theorem byL_rd {n d s : Nat} {t : Tr V d} (h : ∀ i, i < n → vGet d i t = bv s i) (o len : Nat) (hl : o + len ≤ n) : (List.range' o len).map (fun i => vGet d i t) = byL len (byS s o len) := by
  apply List.ext_getElem?
  intro i
  by_cases h1 : i < len
  · rw [byL_get _ _ _ h1, List.getElem?_map, List.getElem?_range' h1]
    simp only [Option.map_some, Nat.one_mul]
    rw [h _ (by omega)]
    unfold bv; rw [dg_byS _ _ _ _ h1]
  · rw [List.getElem?_eq_none (by simp; omega), List.getElem?_eq_none (by rw [byL_len]; omega)]
theorem wr_bytes {n d s o k x : Nat} {t : Tr V d} (hd : n ≤ 16 ^ d) (h : ∀ i, i < n → vGet d i t = bv s i) (hx : x < 256 ^ k) : ∀ i, i < n → vGet d i (wrE d (byL k x) t o) = bv (byP s o k x) i := fun i hi => by
  rw [wr_in _ _ _ _ _ (by omega), byL_len]
  unfold bv
  rw [dg_byP _ _ _ _ _ hx]
  split
  · rename_i h1
    rw [List.getD, byL_get _ _ _ (by omega)]; rfl
  · exact h i hi
theorem beq_new {n s : Nat} {ty : TypeId} {st : Bool} (h : n ≤ 1048576) : BEq (.cells n (lvls n) (wrE (lvls n) (byL n s) (trNew .und (lvls n)) 0) ty st) (.byt n s ty st) := beq_byt fun i hi => by
  rw [wr_in _ _ _ _ _ (by have := lvls_ok h; omega), if_pos (by rw [byL_len]; omega), List.getD, Nat.sub_zero, byL_get _ _ _ hi]; rfl
theorem beq_new2 {n s l : Nat} {ty : TypeId} {st : Bool} (hl : l = n) (h : n ≤ 1048576) : BEq (.cells n (lvls l) (wrE (lvls l) (byL n s) (trNew .und (lvls l)) 0) ty st) (.byt n s ty st) := by subst hl; exact beq_new h
theorem byL_zeros (n : Nat) : repl [V.int .u8 0] n = byL n 0 := by
  induction n with
  | zero => rfl
  | succ n ih =>
    rw [byL_succ]
    show [V.int .u8 0] ++ repl [V.int .u8 0] n = _
    rw [ih]; rfl
theorem byL_cons (n x s : Nat) (h : x < 256) : V.int .u8 (.ofNat x) :: byL n s = byL (n + 1) (x + 256 * s) := by
  rw [byL_succ]
  have h1 : dg (x + 256 * s) 0 = x := by simp [dg]; omega
  have h2 : (x + 256 * s) / 256 = s := by omega
  rw [h2]; unfold bv; rw [h1]
theorem packK_byL {β : Type} (no : β) : ∀ (l : List V) (c : Nat → β), packK l c no = no ∨ ∃ s, s < 256 ^ l.length ∧ packK l c no = c s ∧ l = byL l.length s
  | [], c => .inr ⟨0, by simp, rfl, rfl⟩
  | v :: l, c => by
    rw [packK_cons]
    rcases packK_byL no l (pkF no c v) with h1 | ⟨s, h0, h1, h2⟩
    · exact .inl h1
    · rw [h1]
      unfold pkF
      split
      · rename_i z
        cases z with
        | negSucc z => exact .inl rfl
        | ofNat z =>
          show cond (Nat.blt z 256) (fN (Nat.add z (Nat.mul 256 s)) c) no = no ∨ _
          cases hb : Nat.blt z 256 with
          | false => exact .inl rfl
          | true =>
            right
            have hz : z < 256 := by simpa using hb
            refine ⟨z + 256 * s, by rw [List.length_cons, pow256]; omega, by show cond (Nat.blt z 256) (fN (Nat.add z (Nat.mul 256 s)) c) no = _; rw [hb, cond_true, fN_eq]; rfl, ?_⟩
            rw [List.length_cons, ← byL_cons _ _ _ hz, ← h2]
      · exact .inl rfl
theorem packK_of {β : Type} (no : β) : ∀ (n s : Nat) (c : Nat → β), s < 256 ^ n → packK (byL n s) c no = c s
  | 0, s, c, h => by have h0 : s = 0 := (by simpa using h); subst h0; rfl
  | n + 1, s, c, h => by
    rw [pow256] at h
    rw [byL_succ, packK_cons, packK_of no n (s / 256) _ (by omega)]
    show cond (Nat.blt (dg s 0) 256) (fN (Nat.add (dg s 0) (Nat.mul 256 (s / 256))) c) no = _
    have h1 : Nat.blt (dg s 0) 256 = true := by simp [dg_lt]
    have h2 : dg s 0 + 256 * (s / 256) = s := by simp [dg]; omega
    rw [h1, cond_true, fN_eq]
    show c (dg s 0 + 256 * (s / 256)) = _
    rw [h2]
theorem isU8_spec {P : Program} {e : TypeId} (h : isU8 P e = true) : P.underlying e = some (.int .u8) ∧ tzero P e = some [V.int .u8 0] ∧ tsz P e = 1 ∧ tbytes P e ≤ 65536 := by
  unfold isU8 at h
  split at h
  · rename_i h1
    split at h
    · rename_i z h2
      simp only [Bool.and_eq_true, ieq_eq, decide_eq_true_eq] at h
      exact ⟨h1, by rw [h2, h.1], Nat.eq_of_beq_eq_true h.2.1, Nat.le_of_ble_eq_true h.2.2⟩
    · cases h
  · cases h
theorem exH_byt {h : H} {b n s : Nat} {ty : TypeId} {st : Bool} (hb : hGet h b = some (.byt n s ty st)) : hGet (exH h) b = some (.cells n n (exT n s) ty st) := by rw [exH_get, hb]; rfl
theorem exH_cells {h : H} {b n d : Nat} {t : Tr V d} {ty : TypeId} {st : Bool} (hb : hGet h b = some (.cells n d t ty st)) : hGet (exH h) b = some (.cells n d t ty st) := by rw [exH_get, hb]; rfl

section
variable {P : Program} {G : Nat} {φ : Ph} {h : H} {w : World} {e : Env} {d : Option Nat} {ty t t' : TypeId} {pos : String} {aft : Array Edge} {g : Option (Nat × Bool)} {x y : Operand} {v v1 v2 : V} {u u1 u2 : Value} {ρ : Operand → V}

theorem loadB_ok (r : Rel G φ h w) (hx : Kn φ e x v) : QOk P φ h w e ⟨d, .load t x, ty, pos, aft, g⟩ (loadB P h t v) := by
  unfold loadB
  split
  · rename_i b o
    split
    · rename_i n s ty' st hb
      have q := loadV_ok (P := P) (d := d) (ty := ty) (pos := pos) (aft := aft) (g := g) (t := t) (r.heq (exH_eq h).symm) hx
      unfold loadV at q
      simp only [exH_byt hb] at q
      unfold loadY
      split
      · rename_i ht
        rw [ht] at q
        refine cond_q' fun hc => ?_
        have ho : o < n := by simpa using hc
        simp only [hc, cond_true] at q
        rw [exT_get _ _ _ ho, rV_some (by unfold bv; simp)] at q
        obtain ⟨-, u, h1, h2⟩ := q
        rw [fN_eq, byA_eq]
        exact QOk.pure h1 h2
      · exact trivial
    · exact loadV_ok r hx
  · exact loadV_ok r hx

theorem storeB_ok (r : Rel G φ h w) (hx : Kn φ e x v1) (hy : Kn φ e y v2) : ROk P G φ h w e ⟨d, .store t x y, ty, pos, aft, g⟩ (storeB P h t v1 v2) := by
  unfold storeB
  split
  · rename_i b o
    split
    · rename_i n s ty' st hb
      refine (storeV_ok (P := P) (d := d) (ty := ty) (pos := pos) (aft := aft) (g := g) (t := t) (r.heq (exH_eq h).symm) hx hy).heq (exH_eq h) ?_
      unfold storeY
      split
      · rename_i z
        cases hc : and (Nat.beq (tsz P t) 1) (and (Nat.blt z 256) (Nat.blt o n)) with
        | false => exact REq.bad _ _
        | true =>
          simp only [Bool.and_eq_true] at hc
          obtain ⟨h1, h2, h3⟩ := hc
          have h1 := Nat.eq_of_beq_eq_true h1
          have h2 : z < 256 := by simpa using h2
          have h3 : o < n := by simpa using h3
          unfold storeV
          simp only [exH_byt hb, fL_eq, h1, cond_true, fN_eq]
          have e1 : cellsOf (V.int .u8 (.ofNat z)) = byL 1 z := by
            rw [← Nat.add_zero z, show (0 : Nat) = 256 * 0 from rfl, ← byL_cons 0 z 0 h2]; rfl
          have e2 : (and (Nat.blt 0 1) (and (and (Nat.beq (cellsOf (V.int .u8 (.ofNat z))).length 1) (ones (cellsOf (V.int .u8 (.ofNat z))))) (Nat.ble (Nat.add o (cellsOf (V.int .u8 (.ofNat z))).length) n))) = true := by
            rw [e1, byL_len, byL_ones]
            simp only [Bool.and_eq_true]
            exact ⟨rfl, ⟨rfl, trivial⟩, Nat.ble_eq_true_of_le (by show o + 1 ≤ n; omega)⟩
          rw [e2, cond_true, wrK_eq, hSet_eq, hSet_eq, e1]
          exact REq.eff ((exH_eq h).put b (beq_byt (wr_bytes (Nat.le_of_lt (lt_pow16 n)) (exT_get n s) (by omega))) rfl rfl)
      · exact REq.bad _ _
    · exact storeV_ok r hx hy
  · exact storeV_ok r hx hy

theorem NwOk.beq {o : Oper} {X Z : B} {mk : Nat → V} (q : NwOk P φ w e o (some (X, mk))) (k : BEq X Z) (hr : isRo Z = false) : NwOk P φ w e o (some (Z, mk)) := by
  obtain ⟨obj, u, N, h1, h2, h3, h4⟩ := q
  exact ⟨obj, u, N, h1, hr, fun φ' hs => (k _ _ _).1 (h3 φ' hs), h4⟩
theorem makeSlB_ok (hx : Kn φ e x v1) (hy : Kn φ e y v2) : NwOk P φ w e ⟨d, .makeSlice t x y, ty, pos, aft, g⟩ (makeSlB P t v1 v2) := by
  unfold makeSlB
  split
  · rename_i el ht
    cases hu : isU8 P el with
    | false => exact makeSlN_ok hx hy
    | true =>
      obtain ⟨h1, h2, h3, h4⟩ := isU8_spec hu
      simp only [cond_true]
      split
      · rename_i k l k' c
        refine NwOk.cnd fun hc => ?_
        simp only [Bool.and_eq_true] at hc
        have c1 := Nat.le_of_ble_eq_true hc.1
        have c2 := Nat.le_of_ble_eq_true hc.2
        have q := makeSlN_ok (P := P) (w := w) (d := d) (ty := ty) (pos := pos) (aft := aft) (g := g) (t := t) hx hy
        unfold makeSlN at q
        have e1 : (and (Nat.beq [V.int .u8 0].length 1) (and (Nat.ble l c) (and (Nat.ble c 1073741824) (Nat.ble (Nat.mul (tbytes P el) c) 281474976710656)))) = true := by
          have := Nat.mul_le_mul h4 c2
          simp only [Bool.and_eq_true]
          exact ⟨rfl, Nat.ble_eq_true_of_le c1, Nat.ble_eq_true_of_le (by omega), Nat.ble_eq_true_of_le (by show tbytes P el * c ≤ _; omega)⟩
        simp only [nat?, ht, h2, h3] at q
        rw [e1] at q
        simp only [cond_true, fL_eq, byL_zeros, byL_ones, newB_eq, fN_eq, byL_len] at q
        simp only [fN_eq]
        exact q.beq (beq_new2 (byL_len _ _) c2) rfl
      · exact trivial
  · exact trivial
theorem buildSlB_ok {n : Nat} {ps : List (Nat × V)} {pu : List (Nat × Value)} {pp : List (Nat × Operand)} (q : NwOk P φ w e ⟨d, .buildSlice t n pp.toArray, ty, pos, aft, g⟩ (buildSlN P t n ps)) : NwOk P φ w e ⟨d, .buildSlice t n pp.toArray, ty, pos, aft, g⟩ (buildSlB P t n ps) := by
  unfold buildSlB
  split
  · rename_i el ht
    cases hu : and (isU8 P el) (Nat.ble n 1048576) with
    | false => exact q
    | true =>
      simp only [Bool.and_eq_true] at hu
      obtain ⟨h1, h2, h3, h4⟩ := isU8_spec hu.1
      have hn := Nat.le_of_ble_eq_true hu.2
      simp only [cond_true]
      split
      · rename_i l hl
        rcases packK_byL (none : Nw) l (fun s => cond (Nat.beq l.length n) (some (.byt n s el false, fun b => .sl b 0 n n 1 false)) none) with h5 | ⟨s, h5, h6, h7⟩
        · rw [h5]; exact trivial
        · rw [h6]
          refine NwOk.cnd fun hc => ?_
          have hln := Nat.eq_of_beq_eq_true hc
          unfold buildSlN at q
          have e1 : (and (ones [V.int .u8 0]) (and (Nat.beq [V.int .u8 0].length 1) (Nat.ble (Nat.mul n 1) 16777216))) = true := by
            simp only [Bool.and_eq_true]
            exact ⟨rfl, rfl, Nat.ble_eq_true_of_le (by show n * 1 ≤ _; omega)⟩
          have hl' : fillV (fun i => some (i * tsz P el, tsz P el)) (repl [V.int .u8 0] n) ps = some (byL n s) := by rw [hl]; congr 1; rw [← hln]; exact h7
          simp only [h3] at hl'
          simp only [ht, h2, h3] at q
          rw [e1] at q
          simp only [cond_true, hl', fL_eq, byL_ones, newB_eq, byL_len, fN_eq] at q
          exact q.beq (beq_new2 (byL_len _ _) hn) rfl
      · exact trivial
  · exact trivial

theorem growY_eq {gm : H} (k : HEq gm h) (n s el : Nat) : REq (growE gm (byL n s) n 1 el) (growY h n s el) := by
  unfold growY
  cases hc : Nat.ble n 1048576 with
  | false => exact REq.bad _ _
  | true =>
    have hn := Nat.le_of_ble_eq_true hc
    unfold growE
    rw [byL_ones, newCells_eq, byL_len]
    simp only [cond_true, fN_eq]
    rw [hNew_eq, k.next]
    have := k.new (beq_new (s := s) (ty := el) (st := true) hn) rfl rfl
    rw [k.next] at this
    exact REq.v this

theorem convB_ok (r : Rel G φ h w) (hx : Kn φ e x v) : ROk P G φ h w e ⟨d, .convert t t' x, ty, pos, aft, g⟩ (convB P h t t' v) := by
  unfold convB
  split
  · rename_i n s
    split
    · rename_i el h1 h2
      cases hu : isU8 P el with
      | false => exact conv_ok r hx
      | true =>
        obtain ⟨h3, -⟩ := isU8_spec hu
        refine (conv_ok (P := P) (t := t) (t' := t') (d := d) (ty := ty) (pos := pos) (aft := aft) (g := g) r hx).heq (HEq.refl h) ?_
        have e1 : conv P h t t' (.str n s) = growE h (byL n s) n 1 el := by
          unfold conv growE
          simp only [h1, h2, h3, fL_eq, byL_unp, byL_ones, cond_true]
        rw [e1]
        exact growY_eq (HEq.refl h) n s el
    · exact conv_ok r hx
  · rename_i b o len kc es op
    split
    · rename_i n s ty' st hb
      split
      · rename_i el h1 h2
        split
        · rename_i h3
          cases hc : and (Nat.beq es 1) (Nat.ble (Nat.add o len) n) with
          | false => exact trivial
          | true =>
            refine (conv_ok (P := P) (t := t) (t' := t') (d := d) (ty := ty) (pos := pos) (aft := aft) (g := g) (r.heq (exH_eq h).symm) hx).heq (exH_eq h) ?_
            have hc' := hc
            simp only [Bool.and_eq_true] at hc
            have h5 : o + len ≤ n := Nat.le_of_ble_eq_true hc.2
            unfold conv
            simp only [h1, h2, h3, exH_byt hb, hc', cond_true, rdK_eq, byL_rd (exT_get n s) o len h5, packK_of _ _ _ _ (byS_lt s o len), fN_eq]
            exact REq.v (exH_eq h)
        · exact trivial
      · exact trivial
    · exact conv_ok r hx
  · exact conv_ok r hx
end
end Go.Proofs.Ytkhkebcflaokpaa
