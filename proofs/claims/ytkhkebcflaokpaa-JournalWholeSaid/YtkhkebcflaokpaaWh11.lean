/- Texts JnS, JnO, JnT, one behind the other (what the statement JournalWhole does not use is left out). -/
import Derived.Test.YtkhkebcflaokpaaWh10
namespace Go.Proofs.Ytkhkebcflaokpaa
open Go Go.RowKit
set_option linter.all false
set_option maxRecDepth 100000

section
variable {P : Program} {e : Env} {d : Option Nat} {ty t t' : TypeId} {pos : String} {aft : Array Edge} {gd : Option (Nat × Bool)} {x y : Operand} {w : World}
theorem ysb32 {m n : Nat} (hx : look e x = some (.int .u32 (m : Int))) (hy : look e y = some (.int .u32 (n : Int))) (h : n ≤ m) (hm : m < 4294967296) : Y P e ⟨d, .binOp .sub t x y t', ty, pos, aft, gd⟩ (.int .u32 ((m - n : Nat) : Int)) w w := fun ρ hρ => by
  have h1 : (m : Int) - (n : Int) = ((m - n : Nat) : Int) := by omega
  have h2 := wrapU (k := .u32) rfl (show m - n < 2 ^ IntKind.u32.bits by simp only [IntKind.bits]; omega)
  simp [execOp, go_sem, hρ _ _ hx, hρ _ _ hy, h1, h2]
end
/-- How many blocks a descriptor says. -/
def cntB (s : Bytes) : Nat := numB (sub s 12 4)
/-- A block that may be the next transaction's descriptor. -/
structure HdOk (g : Geo) (num left : Nat) (s : Bytes) : Prop where
  mark : sub s 0 4 = dsB
  num : numB (sub s 4 8) = num
  one : 1 ≤ cntB s
  most : cntB s ≤ g.most
  left : cntB s + 2 ≤ left
/-- The first n blocks from a place on. -/
def ringL (g : Geo) (f : Cont) (at' n : Nat) : List Bytes := (List.range n).map fun j => f (g.place (at' + j))
@[simp] theorem ringL_length (g : Geo) (f : Cont) (at' n : Nat) : (ringL g f at' n).length = n := by simp [ringL]
theorem ringL_succ (g : Geo) (f : Cont) (at' n : Nat) : ringL g f at' (n + 1) = ringL g f at' n ++ [f (g.place (at' + n))] := by simp [ringL, List.range_succ]
theorem ringL_get (g : Geo) (f : Cont) (at' n j : Nat) (h : j < n) : (ringL g f at' n)[j]? = some (f (g.place (at' + j))) := by simp [ringL, h]

theorem hdOk_tx {g : Geo} {f : Cont} {i num left : Nat} {t : Tx} (hg : g.Ok) (h : TxAt g f i num t) (ht : TxOk g t) (hne : t ≠ []) (hl : t.length + 2 ≤ left) (hn : num < 18446744073709551616) : HdOk g num left (f (g.place i)) ∧ cntB (f (g.place i)) = t.length := by
  have hlen : t.length < 4294967296 := by
    have := ht.most
    have := hg.hN
    unfold Geo.most mostN Geo.size at *
    omega
  have hc : cntB (f (g.place i)) = t.length := by
    unfold cntB
    rw [h.desc, desc_len, numB_fixB, Nat.mod_eq_of_lt (by simpa using hlen)]
  have h1 : 1 ≤ t.length := by
    rcases Nat.eq_zero_or_pos t.length with h0 | h0
    · exact absurd (List.eq_nil_of_length_eq_zero h0) hne
    · exact h0
  exact ⟨⟨by rw [h.desc]; exact desc_mark .., by rw [h.desc, desc_number, numB_fixB, Nat.mod_eq_of_lt (by simpa using hn)], by rw [hc]; exact h1, by rw [hc]; exact ht.most, by rw [hc]; exact hl⟩, hc⟩
/-- The writes that a descriptor and the blocks behind it tell. -/
def rdTx (g : Geo) (f : Cont) (at' k : Nat) : Tx := (List.range k).map fun j => unlB (numB (sub (f (g.place at')) (16 + 4 * j) 4)) (f (g.place (at' + 1 + j)))
@[simp] theorem rdTx_length (g : Geo) (f : Cont) (at' k : Nat) : (rdTx g f at' k).length = k := by simp [rdTx]
theorem rdTx_succ (g : Geo) (f : Cont) (at' k : Nat) : rdTx g f at' (k + 1) = rdTx g f at' k ++ [unlB (numB (sub (f (g.place at')) (16 + 4 * k) 4)) (f (g.place (at' + 1 + k)))] := by simp [rdTx, List.range_succ]
theorem tx_last {g : Geo} {f : Cont} {i num : Nat} {t : Tx} (h : TxAt g f i num t) : sub (f (g.place (i + 1 + t.length))) 0 4 = rcB ∧ sub (f (g.place (i + 1 + t.length))) 4 8 = fixB num 8 := by
  have hr := h.rcd
  constructor
  · have : sub (sub (f (g.place (i + 1 + t.length))) 0 512) 0 4 = sub (sub (recT g num t) 0 512) 0 4 := by rw [hr]
    rw [sub_sub (by omega), sub_sub (by omega)] at this
    rw [this]; exact rec_mark ..
  · have : sub (sub (f (g.place (i + 1 + t.length))) 0 512) 4 8 = sub (sub (recT g num t) 0 512) 4 8 := by rw [hr]
    rw [sub_sub (by omega), sub_sub (by omega)] at this
    rw [this]; exact rec_number ..
theorem ringL_flat {g : Geo} {f : Cont} (hl : ∀ i, (f (g.place i)).length = g.size) (i : Nat) : ∀ k, (ringL g f i k).flatten.length = k * g.size
  | 0 => by simp [ringL]
  | k + 1 => by rw [ringL_succ, List.flatten_append, List.length_append, ringL_flat hl i k, Nat.succ_mul]; simp [hl]
theorem ringL_laid {g : Geo} {f : Cont} {i num : Nat} {t : Tx} (h : TxAt g f i num t) : (ringL g f (i + 1) t.length).flatten = laidAll t := by
  have e : ringL g f (i + 1) t.length = t.map fun x => laidB x.2 := by
    apply List.ext_getElem
    · simp
    · intro j h1 h2
      have hj : j < t.length := by simpa using h2
      simp only [ringL, List.getElem_map, List.getElem_range]
      exact h.data j _ (List.getElem?_eq_getElem hj)
  rw [e]
  unfold laidAll
  rw [List.flatMap_def]
theorem unlB_len {n : Nat} {s : Bytes} (h : 2 ≤ s.length) : (unlB n s).2.length = s.length := by
  unfold unlB
  split
  · simp [mkB]; omega
  · rfl
theorem unlB_rng {n : Nat} {s : Bytes} (h : n < 4294967296) : 0 ≤ (unlB n s).1 ∧ (unlB n s).1 < 2147483648 := by
  unfold unlB
  split <;> exact ⟨by simp only; omega, by simp only; omega⟩
theorem rdTx_tx {g : Geo} {f : Cont} {i num : Nat} {t : Tx} (hg : g.Ok) (h : TxAt g f i num t) (ht : TxOk g t) : rdTx g f i t.length = t := by
  apply List.ext_getElem
  · simp
  · intro j h1 h2
    have hx : t[j]? = some t[j] := List.getElem?_eq_getElem h2
    have ho := (ht.out t[j] (List.getElem_mem h2)).1
    have hB := hg.hB
    unfold Geo.out at ho
    simp only [rdTx, List.getElem_map, List.getElem_range]
    rw [h.desc, desc_at _ _ _ j _ hx, numB_fixB, h.data j _ hx, Nat.mod_eq_of_lt (by have := flg_lt t[j] ho.1 (by omega); simpa using this)]
    exact unl_laid _ ho.1 (by omega)
theorem rdTx_mem {g : Geo} {f : Cont} {i k : Nat} {x : Int × Bytes} (hl : ∀ i, (f (g.place i)).length = g.size) (h2 : 2 ≤ g.size) (hk : 16 + 4 * k ≤ g.size) (hx : x ∈ rdTx g f i k) : x.2.length = g.size ∧ 0 ≤ x.1 ∧ x.1 < 2147483648 := by
  obtain ⟨j, hj, rfl⟩ := List.mem_map.1 hx
  have hj' : j < k := by simpa using hj
  have hn := numB_lt (sub (f (g.place i)) (16 + 4 * j) 4)
  rw [sub_length (by rw [hl]; omega)] at hn
  exact ⟨by rw [unlB_len (by rw [hl]; exact h2)]; exact hl _, unlB_rng hn⟩
section
variable {w : World} {p q : Nat} {D : Dev} {F : Nat → Prop} {g : Geo} {J : Jn}
set_option maxHeartbeats 4000000 in
theorem stands_ret {base : Cont} {C : List (Int × Bytes)} {c : Nat} (at' left : Nat) (hg : g.Ok) (hgs : g.s ≤ 1000) (hJ : JnM w q p g J) (hJn : J.number < 18446744073709551616) (hA : DevA w p D F) (hU : Up D g base C) (hC : ∀ x ∈ C, g.out x.1) (hq : ¬ F q) (hsm : D.Small c) (hc : c ≤ 800000)
    (hat : at' ≤ 100000) (hl : left ≤ g.L) (hcase : (∃ t, TxAt g base at' J.number t ∧ TxOk g t ∧ t ≠ [] ∧ t.length + 2 ≤ left) ∨ NoRec g base J.number) :
    Ret Try.prog 37 [ptr q 0, I (at' : Int), I (left : Int)] w fun v w' => (∃ r, r ≤ g.L + 2 ∧ DevQ w p q F (D.rds r) w') ∧ JnM w' q p g J ∧
      ((∃ t tv, TxAt g base at' J.number t ∧ TxOk g t ∧ t ≠ [] ∧ t.length + 2 ≤ left ∧ v = .tuple #[tv, .bool true, I 0] ∧ Sl w' tv 54 2 t.length (wrs t) ∧ (∀ i, tv.ownBlock = some i → w.heap.size ≤ i)) ∨
       (NoRec g base J.number ∧ v = .tuple #[.slice none 0 0, .bool false, I 0])) := by
  have hml : maxLen = 9223372036854775807 := rfl
  have hgB := hg.hB
  have hgN := hg.hN
  have hgL := hg.hL
  have hql := hJ.lt
  have hFl := hA.lt
  have hJ0 := hJ
  have hnow : ∀ i, nowOf base C (g.place i) = base (g.place i) := fun i => nowOf_same fun x hx e => place_out hg (hC x hx) e.symm
  have hlen : ∀ i, (base (g.place i)).length = g.size := fun i => hU.len _
  have hsz4 : g.size ≤ 4096 := by unfold Geo.size; omega
  unfold JnM at hJ
  refine ret_of_run (e := [(0, _), (1, _), (2, _)]) Try.func37 rfl Try.ntmps37 rfl rfl ?_; refine run_seq ?_; refine run_reg rfl ?_; refine rValP rfl rfl (pbx rfl rfl) ?_
  rintro _ w1 ⟨b3, rfl, hb3, hx1, hB3⟩
  refine rValP rfl rfl (pbx rfl rfl) ?_
  rintro _ w2 ⟨b5, rfl, hb5, hx2, hB5⟩
  refine rValP rfl rfl (pal (cs := [_]) ti38 rfl) ?_
  rintro _ w3 ⟨b6, rfl, hb6, hx3, hB6⟩
  refine rValP rfl rfl (pal (cs := [_]) ti4 rfl) ?_
  rintro _ w4 ⟨b7, rfl, hb7, hx4, hB7⟩
  refine rValP rfl rfl (pal (cs := [_]) ti27 rfl) ?_
  rintro _ w5 ⟨b8, rfl, hb8, hx5, hB8⟩
  have l3 := hB3.lt
  have l5 := hB5.lt
  have l6 := hB6.lt
  have l7 := hB7.lt
  have l8 := hB8.lt
  have s1 := hx1.size
  have s2 := hx2.size
  have s3 := hx3.size
  have s4 := hx4.size
  have s5 := hx5.size
  have hB35 := hx5.blk (hx4.blk (hx3.blk (hx2.blk hB3)))
  have hJ5 := hx5.blk (hx4.blk (hx3.blk (hx2.blk (hx1.blk hJ))))
  have hA5 := ((((hA.ext hx1).ext hx2).ext hx3).ext hx4).ext hx5
  refine rEnd ?_; refine run_seq ?_; refine run_reg rfl ?_; refine rVal rfl rfl (yld Try.underlying34 rfl rfl hB35 rfl) ?_; refine rVal rfl rfl ((by first | exact ync rfl | exact yncf rfl)) ?_; refine rVal rfl rfl (yfa fl82_0 rfl) ?_; refine rVal rfl rfl (yfa fl68_0 rfl) ?_; refine rVal rfl rfl (yld Try.underlying26 rfl rfl hJ5 rfl) ?_; refine rCall rfl rfl (yc (args := [.tmp 26]) cf20 rfl) (sizeA_ret hA5) ?_
  rintro _ w6 ⟨rfl, rfl⟩
  rw [hU.hN]
  refine rValP rfl rfl (pal (cs := [_]) ti3 rfl) ?_
  rintro _ w7 ⟨b9, rfl, hb9, hx7, hB9⟩
  refine rEffP rfl (zst ti3 rfl rfl rfl hB9 (by simp)) ?_
  rintro w8 ⟨hB98, hk8⟩
  replace hB98 : Blk w8 b9 [I (g.size : Int)] 3 := hB98
  have hx8 : Ext w6 w8 := hx7.trans_new hk8 (fun i hi => by omega)
  have s8 := hx8.size
  refine rEnd ?_; refine run_seq ?_; refine run_reg rfl ?_; refine rValP rfl rfl (pal (cs := [_]) ti42 rfl) ?_
  rintro _ w9 ⟨b10, rfl, hb10, hx9, hB10⟩
  have s9 := hx9.size
  have l9 := hB98.lt
  have l10 := hB10.lt
  refine rEnd ?_; refine run_seq ?_; refine run_seq ?_; refine run_reg rfl ?_; refine rVal rfl rfl (yld Try.underlying34 rfl rfl (hx9.blk (hx8.blk hB35)) rfl) ?_; refine rVal rfl rfl ((by first | exact ync rfl | exact yncf rfl)) ?_; refine rVal rfl rfl (yfa fl82_0 rfl) ?_; refine rVal rfl rfl (yldA Try.underlying68 rfl ti68 rfl (Blk.cells (n := 3) (hx9.blk (hx8.blk hJ5)) (news := [_, _, _]) rfl) rfl) ?_; refine rVal rfl rfl (ymv rfl) ?_; refine rCall rfl rfl (yc (args := [.tmp 31, .tmp 32]) cf42 rfl) (places_ret p g at' _) ?_
  rintro _ wa ⟨br, ba, rfl, hBr, hBa, hbr, hba, hbne, hxa⟩
  refine rEnd ?_; refine run_block ?_
  have sa := hxa.size
  have hx6a : Ext w6 wa := (hx8.trans hx9).trans hxa
  have hB3a := hx6a.blk hB35
  have hJa := hx6a.blk hJ5
  have hAa := hA5.ext hx6a
  have hB5a := hx6a.blk (hx5.blk (hx4.blk (hx3.blk hB5)))
  have hB6a := hx6a.blk (hx5.blk (hx4.blk hB6))
  have hB7a := hx6a.blk (hx5.blk hB7)
  have hB8a := hx6a.blk hB8
  have hB9a := hxa.blk (hx9.blk hB98)
  have hB10a := hxa.blk hB10
  have hbal := hBa.lt
  have hbrl := hBr.lt
  refine run_rangeFunc (ps := [34]) (p := []) (q := [_, _]) rfl cf65 ?_
  rintro l wl hxl hll hsz hD Rc hRc hrec
  have hll6 := rc_lt hRc hrec
  have sl := hxl.size
  let Gd : Nat → World → (Nat → Prop) → Prop := fun i w' Fi => DevA w' p (D.rds i) Fi ∧ (∀ k, Fi k → F k ∨ wl.heap.size ≤ k) ∧ Kp (fun k => F k ∨ k = l ∨ k = b10 ∨ k = ba ∨ k = b6 ∨ k = b7 ∨ k = b8) wl w'
  refine Ret.mono (placesGo_ret l p br ba g hg hgs at' left (by omega)
    (fun i w' => Rc .ready none w' ∧ ∃ Fi bv, Gd i w' Fi ∧ Blk w' b10 [bv] 42 ∧ Sl w' bv 9 1 i ((ringL g base at' i).map S) ∧ (∀ k, bv.ownBlock = some k → wl.heap.size ≤ k ∧ ¬ Fi k) ∧ Blk w' b6 [.slice none 0 0] 38 ∧ Blk w' b7 [.bool false] 4 ∧ Blk w' b8 [I 0] 27 ∧ (0 < i → HdOk g J.number left (base (g.place at')) ∧ i < cntB (base (g.place at')) + 2))
    (fun w' => (Rc .done (some .ret) w' ∧ ∃ i Fi, i ≤ left ∧ Gd (i + 1) w' Fi ∧ Blk w' b6 [.slice none 0 0] 38 ∧ Blk w' b7 [.bool false] 4 ∧ Blk w' b8 [I 0] 27 ∧ ¬ HdOk g J.number left (base (g.place at'))) ∨
      (Rc .done (some (.exit 0)) w' ∧ ∃ Fi bv, Gd (cntB (base (g.place at')) + 2) w' Fi ∧ Blk w' b10 [bv] 42 ∧ Sl w' bv 9 1 (cntB (base (g.place at')) + 2) ((ringL g base at' (cntB (base (g.place at')) + 2)).map S) ∧ (∀ k, bv.ownBlock = some k → wl.heap.size ≤ k ∧ ¬ Fi k) ∧ Blk w' b6 [.slice none 0 0] 38 ∧ Blk w' b7 [.bool false] 4 ∧ Blk w' b8 [I 0] 27 ∧ HdOk g J.number left (base (g.place at'))))
    wl hbne ?_ ?_ ?_ (hxl.blk hBr) (hxl.blk hBa) ⟨hrec, F, .slice none 0 0, ⟨by rw [rds_zero]; exact hAa.ext hxl, fun k hk => .inl hk, Kp.refl _ _⟩, hxl.blk hB10a, ⟨rfl, .inl ⟨rfl, rfl⟩⟩, (fun k hk => by cases hk), hxl.blk hB6a, hxl.blk hB7a, hxl.blk hB8a, fun h => absurd h (by omega)⟩) ?_
  · rintro i w0 hi ⟨hq1, Fi, bv, ⟨hAi, hFi, hki⟩, hB10i, hSi, hoi, hB6i, hB7i, hB8i, hHd⟩ hBri hBai
    obtain ⟨fa, fc, rfl, -⟩ := hSi.rd.shape
    have s0 := hki.size
    have hUi := hU.rds i
    have hon := place_on hg (at' + i)
    have hlt_old : ∀ k, k < wl.heap.size → k ≠ l → k ≠ b10 → k ≠ ba → k ≠ b6 → k ≠ b7 → k ≠ b8 → ¬ F k → ¬ (F k ∨ k = l ∨ k = b10 ∨ k = ba ∨ k = b6 ∨ k = b7 ∨ k = b8) := fun k _ h1 h2 h3 h4 h5 h6 h7 h => by
      rcases h with h | h | h | h | h | h | h
      · exact h7 h
      all_goals exact absurd h (by assumption)
    have nF : ∀ k, w.heap.size ≤ k → ¬ F k := fun k hk hf => by have := hFl k hf; omega
    have nFi : ∀ k, w.heap.size ≤ k → k < wl.heap.size → ¬ Fi k := fun k hk hk2 hf => (hFi k hf).elim (nF k hk) (fun h => by omega)
    have hB3i := hki.blk (hxl.blk hB3a) (hlt_old b3 (by omega) (by omega) (by omega) (by omega) (by omega) (by omega) (by omega) (nF _ (by omega)))
    have hB5i := hki.blk (hxl.blk hB5a) (hlt_old b5 (by omega) (by omega) (by omega) (by omega) (by omega) (by omega) (by omega) (nF _ (by omega)))
    have hB9i := hki.blk (hxl.blk hB9a) (hlt_old b9 (by omega) (by omega) (by omega) (by omega) (by omega) (by omega) (by omega) (nF _ (by omega)))
    have hJi := hki.blk (hxl.blk hJa) (hlt_old q (by omega) (by omega) (by omega) (by omega) (by omega) (by omega) (by omega) hq)
    have hqi : ¬ Fi q := fun hf => (hFi q hf).elim hq (fun h => by omega)
    refine retY_of_run hRc hq1 rfl rfl ?_; refine run_reg rfl ?_; refine rVal rfl rfl (yas rfl) ?_; refine rEnd ?_; refine run_beginRound rfl hRc hq1 ?_
    rintro wb hb hkb
    have hB3b := hkb.blk hB3i (by omega)
    have hJb := hkb.blk hJi (by omega)
    have hAb := hAi.kp hkb (fun k hk he => by subst he; exact nFi _ (by omega) hll6 hk)
    refine run_block ?_; refine run_seq ?_; refine run_reg rfl ?_; refine rVal rfl rfl (yld Try.underlying34 rfl rfl hB3b rfl) ?_; refine rVal rfl rfl ((by first | exact ync rfl | exact yncf rfl)) ?_; refine rVal rfl rfl (yfa fl82_0 rfl) ?_; refine rVal rfl rfl (yfa fl68_0 rfl) ?_; refine rVal rfl rfl (yld Try.underlying26 rfl rfl hJb rfl) ?_; refine rVal rfl rfl (ymv rfl) ?_; refine rCall rfl rfl (yc (args := [.tmp 40, .tmp 41]) cf34 rfl) (readA_ret (g.place (at' + i)) hAb (hsm.rds i) (by omega)) ?_
    rintro _ wc ⟨rfl, Fc, hAc, huc⟩
    rw [hUi.read hon, hnow, rds_rds] at hAc ⊢
    dsimp only at hAc ⊢
    have zb := hkb.size
    have zc := huc.1.size
    have nFc : ∀ k, w.heap.size ≤ k → k < wl.heap.size → ¬ Fc k := fun k h1 h2 hf => (huc.2 k hf).elim (nFi k h1 h2) (fun h => by omega)
    have hqc : ¬ Fc q := fun hf => (huc.2 q hf).elim hqi (fun h => by omega)
    have hbc : Rc .busy none wc := huc.1.rc hRc hb (nFi _ (by omega) hll6)
    have hB3c := huc.1.blk hB3b (nFi _ (by omega) (by omega))
    have hJc := huc.1.blk hJb hqi
    have hB10c := huc.1.blk (hkb.blk hB10i (by omega)) (nFi _ (by omega) (by omega))
    have hB6c := huc.1.blk (hkb.blk hB6i (by omega)) (nFi _ (by omega) (by omega))
    have hB7c := huc.1.blk (hkb.blk hB7i (by omega)) (nFi _ (by omega) (by omega))
    have hB8c := huc.1.blk (hkb.blk hB8i (by omega)) (nFi _ (by omega) (by omega))
    have hB5c := huc.1.blk (hkb.blk hB5i (by omega)) (nFi _ (by omega) (by omega))
    have hB9c := huc.1.blk (hkb.blk hB9i (by omega)) (nFi _ (by omega) (by omega))
    have hSc := (hSi.kp hkb (fun k hk he => by have := (hoi k hk).1; omega)).kp huc.1 (fun k hk hf => (hoi k hk).2 hf)
    have hFc : ∀ k, Fc k → F k ∨ wl.heap.size ≤ k := fun k hk => (huc.2 k hk).elim (hFi k) (fun h => .inr (by omega))
    refine rVal rfl rfl (ymv rfl) ?_; refine rVal rfl rfl (yex rfl rfl) ?_; refine rVal rfl rfl (yex rfl rfl) ?_; refine rVal rfl rfl (yas rfl) ?_; refine rVal rfl rfl (yas rfl) ?_; refine rEnd ?_; refine Run.sub (e := [(3, _), (5, _), (6, _), (7, _), (8, _), (9, _), (10, _), (12, _)]) ?_ (by repeat (first | exact Sub.nil | refine Sub.cons rfl ?_))
    refine run_seq ?_; refine run_reg rfl ?_; refine rVal rfl rfl (yld Try.underlying42 rfl rfl hB10c rfl) ?_; refine rVal rfl rfl (ymv rfl) ?_; refine rValP rfl rfl (pbs (parts := [(0, .tmp 46)]) (cs := [_]) (zs := [Value.string ⟨#[]⟩]) Try.underlying42 ti9 rfl (by kernel_rfl) rfl rfl rfl (by decide)) ?_
    rintro _ wd ⟨b47, rfl, ⟨hb47, hxd, hBd⟩, hS47⟩
    refine rValP rfl rfl (pap Try.underlying42 ti9 rfl (by decide) rfl rfl (hSc.ext hxd) hS47.rd (by intro c hc; simp at hc; subst hc; rfl) (by omega) (by omega)) ?_
    rintro bv' we ⟨hSe, hke, howne, -⟩
    have zd := hxd.size
    have ze := hke.size
    have hSe' : Sl we bv' 9 1 (i + 1) ((ringL g base at' (i + 1)).map S) := by
      rw [ringL_succ, List.map_append]; exact hSe
    have howe : ∀ k, bv'.ownBlock = some k → wl.heap.size ≤ k ∧ ¬ Fc k := fun k hk => by
      rcases howne k hk with h | h
      · have := hoi k h
        exact ⟨this.1, fun hf => (huc.2 k hf).elim this.2 (fun h' => by have := hSi.lt h; omega)⟩
      · exact ⟨by omega, fun hf => by have := hAc.lt k hf; omega⟩
    have hown0 : ∀ k, (Value.slice fa i fc).ownBlock = some k → wl.heap.size ≤ k := fun k hk => (hoi k hk).1
    have hone : oneV bv' = true := sl_one hSe'
    have hB10e := hke.blk (hxd.blk hB10c) (fun hk => by have := hown0 _ hk; omega)
    refine rEffP rfl (zst ti42 rfl rfl hone hB10e (by simp)) ?_
    rintro wf ⟨hB10f, hkf⟩
    replace hB10f : Blk wf b10 [bv'] 42 := hB10f
    have hkcf : Kp (fun k => k = b10 ∨ (Value.slice fa i fc).ownBlock = some k) wc wf := (hxd.kp.trans (hke.mono' fun k h => .inr h)).trans (hkf.mono' fun k h => .inl h)
    have zcf := hkcf.size
    have hScf : ∀ k, w.heap.size ≤ k → k < wl.heap.size → k ≠ b10 → ¬ (k = b10 ∨ (Value.slice fa i fc).ownBlock = some k) := fun k h1 h2 h3 h => h.elim h3 (fun h => by have := hown0 _ h; omega)
    have hSf := hSe'.kp hkf (fun k hk he => by have := (howe k hk).1; omega)
    rcases hSf.shape with ⟨-, hz⟩ | ⟨gb, gc, hbv, hgc⟩
    · omega
    subst hbv
    have hc0 : wf.cell? ⟨gb, 0 + 0 * 1, none⟩ = some (S (base (g.place at'))) := by
      rcases hSf.rd.2 with ⟨cc, -, hz⟩ | ⟨b', off', cap', hv, hcell⟩
      · omega
      cases hv
      exact hcell 0 _ (by rw [List.getElem?_map, ringL_get _ _ _ _ _ (by omega)]; rfl)
    have hs0len : (base (g.place at')).length = g.size := hlen at'
    have hsz28 : 28 ≤ g.size := by unfold Geo.size; omega
    have hcnt : numB (((base (g.place at')).drop 12).take 4) = cntB (base (g.place at')) := rfl
    have hclt : cntB (base (g.place at')) < 4294967296 := by
      have := numB_lt (sub (base (g.place at')) 12 4)
      rw [sub_length (by omega)] at this; exact this
    refine rEnd ?_; refine run_seq ?_; refine run_reg rfl ?_; refine rVal rfl rfl (yld Try.underlying42 rfl rfl hB10f rfl) ?_; refine rVal rfl rfl (yis Try.underlying42 ti9 rfl rfl (by omega)) ?_; refine rVal rfl rfl (yldc Try.underlying9 rfl rfl hc0) ?_; refine rVal rfl rfl (yslSf Try.underlying9 rfl rfl (by omega)) ?_; refine rCall rfl rfl (yc (args := [.tmp 52]) cf62 rfl) (u32_ret ((base (g.place at')).drop 12) _ (by simp; omega)) ?_
    rintro _ wg ⟨rfl, hxg⟩
    rw [hcnt]
    refine rVal rfl rfl (ycvSi64 rfl Try.underlying108 Try.underlying3 (by omega)) ?_; refine rVal rfl rfl (yas rfl) ?_; refine rEnd ?_; refine run_seq ?_; refine run_seq ?_
    have zg := hxg.size
    have hcS : ∀ w', Ext wf w' → w'.cell? ⟨gb, 0 + 0 * 1, none⟩ = some (S (base (g.place at'))) := fun w' hx => by
      rcases (hSf.ext hx).rd.2 with ⟨cc, -, hz⟩ | ⟨b', off', cap', hv, hcell⟩
      · omega
      cases hv
      exact hcell 0 _ (by rw [List.getElem?_map, ringL_get _ _ _ _ _ (by omega)]; rfl)
    have hB3g := hxg.blk (hkcf.blk hB3c (hScf _ (by omega) (by omega) (by omega)))
    have hB5g := hxg.blk (hkcf.blk hB5c (hScf _ (by omega) (by omega) (by omega)))
    have hB9g := hxg.blk (hkcf.blk hB9c (hScf _ (by omega) (by omega) (by omega)))
    have hJg := hxg.blk (hkcf.blk hJc (fun h => h.elim (fun h => by omega) (fun h => by have := hown0 _ h; omega)))
    have hB10g := hxg.blk hB10f
    have h0g := Ext.drew0 wg
    have hs4 : (base (g.place at')).take 4 = sub (base (g.place at')) 0 4 := by simp [sub]
    refine run_cut (fun e' w' => ∃ bb : Bool, e' = [(6, ptr b6 0), (7, ptr b7 0), (8, ptr b8 0), (10, ptr b10 0), (14, I (cntB (base (g.place at')) : Int)), (93, .bool bb)] ∧ (bb = false ↔ HdOk g J.number left (base (g.place at'))) ∧ Ext wg w') ?hk (fun hk => ?hmain)
    case hk =>
      rintro _ wh ⟨bb, rfl, hbb, hxh⟩
      have zh := hxh.size
      have hbh : Rc .busy none wh := hxh.rc hRc (hxg.rc hRc (hkcf.rc hRc hbc (hScf _ (by omega) hll6 (by omega))) id) id
      have hkch : Kp (fun k => k = b10 ∨ (Value.slice fa i fc).ownBlock = some k) wc wh := hkcf.trans ((hxg.trans hxh).mono' fun k h => h.elim)
      have hB6h := hkch.blk hB6c (hScf _ (by omega) (by omega) (by omega))
      have hB7h := hkch.blk hB7c (hScf _ (by omega) (by omega) (by omega))
      have hB8h := hkch.blk hB8c (hScf _ (by omega) (by omega) (by omega))
      have hB10h := hxh.blk hB10g
      have hSh := (hSf.ext hxg).ext hxh
      have hAh : DevA wh p (D.rds (i + 1)) Fc := hAc.kp hkch (fun k hk h => h.elim (fun h => nFc k (by omega) (by omega) hk) (fun h => (huc.2 k hk).elim (hoi k h).2 (fun h' => by have := hSi.lt h; omega)))
      have hk0hB : ∀ (bb : Nat) {cs : List Value} {T : TypeId}, Blk w0 bb cs T → w.heap.size ≤ bb → bb < wl.heap.size → (bb ≠ l ∧ bb ≠ b10) → Blk wh bb cs T := fun bb _ _ hB h1 h2 h3 => hkch.blk (huc.1.blk (hkb.blk hB (by omega)) (nFi _ h1 h2)) (hScf _ h1 h2 h3.2)
      have hk0h : Kp (fun k => F k ∨ k = l ∨ k = b10 ∨ k = ba ∨ k = b6 ∨ k = b7 ∨ k = b8) wl wh := by
        refine hki.trans_new (((hkb.mono' fun k h => .inl h).trans (huc.1.mono' fun k h => .inr (.inl h))).trans (hkch.mono' fun k h => .inr (.inr h)) : Kp (fun k => k = l ∨ Fi k ∨ (k = b10 ∨ (Value.slice fa i fc).ownBlock = some k)) w0 wh) (fun k hk => ?_)
        rcases hk with h | h | h | h
        · exact .inr (.inr (.inl h))
        · exact (hFi k h).elim (fun h => .inr (.inl h)) .inl
        · exact .inr (.inr (.inr (.inl h)))
        · exact .inl (hown0 k h)
      refine run_cond rfl (fun hcc => ?_) (fun hcc => ?_)
      · skip
        have hnot : ¬ HdOk g J.number left (base (g.place at')) := fun h => by rw [hbb.2 h] at hcc; cases hcc
        refine run_seq ?_; refine run_reg rfl ?_; refine rEffP rfl (zst ti38 rfl rfl rfl hB6h (by simp)) ?_
        rintro wm1 ⟨hB61, hkm1⟩
        have hB71 := hkm1.blk hB7h (by omega)
        have hB81 := hkm1.blk hB8h (by omega)
        refine rEffP rfl (zst ti4 rfl rfl rfl hB71 (by simp)) ?_
        rintro wm2 ⟨hB72, hkm2⟩
        have hB82 := hkm2.blk hB81 (by omega)
        refine rEffP rfl (zst ti27 rfl rfl rfl hB82 (by simp)) ?_
        rintro wm3 ⟨hB83, hkm3⟩
        refine rEnd ?_
        have hkm : Kp (fun k => k = b6 ∨ k = b7 ∨ k = b8) wh wm3 := ((hkm1.mono' fun k h => .inl h).trans (hkm2.mono' fun k h => .inr (.inl h))).trans (hkm3.mono' fun k h => .inr (.inr h))
        have hbm : Rc .busy none wm3 := hkm.rc hRc hbh (by omega)
        refine run_roundRet hRc hbm ?_
        intro wn hn hkn
        have hkmn : Kp (fun k => k = l ∨ k = b6 ∨ k = b7 ∨ k = b8) wh wn := (hkm.mono' fun k h => .inr h).trans (hkn.mono' fun k h => .inl h)
        have nl : ∀ k, w.heap.size ≤ k → k < wl.heap.size → ¬ Fc k := nFc
        have hAn := hAh.kp hkmn (fun k hk h => by
          rcases h with h | h | h | h
          · exact nl k (by omega) (by omega) hk
          · exact nl k (by omega) (by omega) hk
          · exact nl k (by omega) (by omega) hk
          · exact nl k (by omega) (by omega) hk)
        have hk0n : Kp (fun k => F k ∨ k = l ∨ k = b10 ∨ k = ba ∨ k = b6 ∨ k = b7 ∨ k = b8) wl wn := hk0h.trans (hkmn.mono' fun k h => by
          rcases h with h | h | h | h
          · exact .inr (.inl h)
          · exact .inr (.inr (.inr (.inr (.inl h))))
          · exact .inr (.inr (.inr (.inr (.inr (.inl h)))))
          · exact .inr (.inr (.inr (.inr (.inr (.inr h))))))
        have hBrn := hkmn.blk (hk0hB br hBri (by omega) (by omega) ⟨by omega, by omega⟩) (by omega)
        have hBan := hkmn.blk (hk0hB ba hBai (by omega) (by omega) ⟨by omega, by omega⟩) (by omega)
        refine ⟨⟨hBrn, hBan⟩, .inr ⟨rfl, .inl ⟨hn, i, Fc, hi, ⟨hAn, hFc, hk0n⟩, ?_, ?_, ?_, hnot⟩⟩⟩
        · exact hkn.blk (hkm3.blk (hkm2.blk hB61 (by omega)) (by omega)) (by omega)
        · exact hkn.blk (hkm3.blk hB72 (by omega)) (by omega)
        · exact hkn.blk hB83 (by omega)
      · skip
        have hHD : HdOk g J.number left (base (g.place at')) := hbb.1 (by simpa using hcc)
        have hHl := hHD.left
        refine run_skip ?_; refine run_seq ?_; refine run_reg rfl ?_; refine rVal rfl rfl (yld Try.underlying42 rfl rfl hB10h rfl) ?_; refine rVal rfl rfl (yln Try.underlying42 rfl) ?_; refine rVal rfl rfl (ymv rfl) ?_; refine rVal rfl rfl (yad rfl rfl (by omega)) ?_; refine rVal rfl rfl (yeq rfl rfl) ?_; refine rEnd ?_
        have hkl : ∀ wn, Kp (fun k => k = l) wh wn → DevA wn p (D.rds (i + 1)) Fc ∧ Kp (fun k => F k ∨ k = l ∨ k = b10 ∨ k = ba ∨ k = b6 ∨ k = b7 ∨ k = b8) wl wn ∧ Blk wn b10 [.slice (some ⟨gb, 0, none⟩) (i + 1) gc] 42 ∧ Sl wn (.slice (some ⟨gb, 0, none⟩) (i + 1) gc) 9 1 (i + 1) ((ringL g base at' (i + 1)).map S) ∧ Blk wn b6 [.slice none 0 0] 38 ∧ Blk wn b7 [.bool false] 4 ∧ Blk wn b8 [I 0] 27 ∧ Blk wn br (regCs p g) 68 ∧ Blk wn ba [I ((at' + i : Nat) : Int)] 3 := fun wn hkn =>
          ⟨hAh.kp hkn (fun k hk h => nFc k (by omega) (by omega) hk), hk0h.trans (hkn.mono' fun k h => .inr (.inl h)), hkn.blk hB10h (by omega), hSh.kp hkn (fun k hk h => by have := (howe k hk).1; omega), hkn.blk hB6h (by omega), hkn.blk hB7h (by omega), hkn.blk hB8h (by omega), hkn.blk (hk0hB br hBri (by omega) (by omega) ⟨by omega, by omega⟩) (by omega), hkn.blk (hk0hB ba hBai (by omega) (by omega) ⟨by omega, by omega⟩) (by omega)⟩
        refine run_if rfl (fun heq => ?_) (fun heq => ?_)
        · skip
          refine run_roundExit rfl hRc hbh ?_
          intro wn hn hkn
          obtain ⟨e1, e2, e3, e4, e5, e6, e7, e8, e9⟩ := hkl wn hkn
          have ei : i + 1 = cntB (base (g.place at')) + 2 := by omega
          rw [ei] at e1 e3 e4
          rw [ei] at howe
          exact ⟨⟨e8, e9⟩, .inr ⟨rfl, .inr ⟨hn, Fc, _, ⟨e1, hFc, e2⟩, e3, e4, howe, e5, e6, e7, hHD⟩⟩⟩
        · skip
          refine run_skip ?_; refine run_inBlock ?_; refine run_roundEnd hRc hbh ?_
          intro wn hn hkn
          obtain ⟨e1, e2, e3, e4, e5, e6, e7, e8, e9⟩ := hkl wn hkn
          have hlt : i + 1 < cntB (base (g.place at')) + 2 := by
            rcases Nat.eq_zero_or_pos i with h0 | h0
            · omega
            · have := (hHd h0).2; omega
          exact ⟨⟨e8, e9⟩, .inl ⟨rfl, by omega, hn, Fc, _, ⟨e1, hFc, e2⟩, e3, e4, howe, e5, e6, e7, fun _ => ⟨hHD, hlt⟩⟩⟩
    case hmain =>
      refine run_draw (fun w' => Ext wg w') (by kernel_rfl) rfl ?_; refine hTake (i := 0) rfl (by kernel_rfl) rfl rfl (fun _ hS => (by first | exact yld Try.underlying42 rfl rfl (hS.blk hB10g) rfl | exact yld Try.underlying42 rfl rfl (hS.blk hB3g) rfl | exact yld Try.underlying42 rfl rfl (hS.blk hB5g) rfl | exact yld Try.underlying42 rfl rfl (hS.blk hB9g) rfl)) (h0g) ?_; refine hTake (i := 1) rfl (by kernel_rfl) rfl rfl (fun _ hS => yis Try.underlying42 ti9 rfl rfl (by omega)) (h0g) ?_
      refine hTake (i := 2) rfl (by kernel_rfl) rfl rfl (fun _ hS => yldc Try.underlying9 rfl rfl (hcS _ (hxg.trans hS))) (h0g) ?_; refine hTake (i := 3) rfl (by kernel_rfl) rfl rfl (fun _ hS => yslSt Try.underlying9 rfl rfl (by omega)) (h0g) ?_; refine hTake (i := 4) rfl (by kernel_rfl) rfl rfl (fun _ hS => yneS rfl rfl) (h0g) ?_; refine rh_if (fun c1 => ?_) (fun c1 => ?_)
      · skip
        refine hTake (i := 5) rfl (by kernel_rfl) rfl rfl (fun _ hS => ymv rfl) (h0g) ?_; refine hSkip (i := 6) rfl (by kernel_rfl) rfl rfl (h0g) ?_; refine hSkip (i := 7) rfl (by kernel_rfl) rfl rfl (h0g) ?_; refine hSkip (i := 8) rfl (by kernel_rfl) rfl rfl (h0g) ?_; refine hSkip (i := 9) rfl (by kernel_rfl) rfl rfl (h0g) ?_; refine hSkip (i := 10) rfl (by kernel_rfl) rfl rfl (h0g) ?_; refine hSkip (i := 11) rfl (by kernel_rfl) rfl rfl (h0g) ?_; refine hSkip (i := 12) rfl (by kernel_rfl) rfl rfl (h0g) ?_; refine hSkip (i := 13) rfl (by kernel_rfl) rfl rfl (h0g) ?_
        refine hSkip (i := 14) rfl (by kernel_rfl) rfl rfl (h0g) ?_; refine hSkip (i := 15) rfl (by kernel_rfl) rfl rfl (h0g) ?_; refine hSkip (i := 16) rfl (by kernel_rfl) rfl rfl (h0g) ?_; refine hTake (i := 17) rfl (by kernel_rfl) rfl rfl (fun _ hS => ypT rfl rfl) (h0g) ?_; refine hTake (i := 18) rfl (by kernel_rfl) rfl rfl (fun _ hS => ymv rfl) (h0g) ?_; refine hSkip (i := 19) rfl (by kernel_rfl) rfl rfl (h0g) ?_; refine hSkip (i := 20) rfl (by kernel_rfl) rfl rfl (h0g) ?_; refine hTake (i := 21) rfl (by kernel_rfl) rfl rfl (fun _ hS => ypT rfl rfl) (h0g) ?_
        refine hTake (i := 22) rfl (by kernel_rfl) rfl rfl (fun _ hS => ymv rfl) (h0g) ?_; refine hSkip (i := 23) rfl (by kernel_rfl) rfl rfl (h0g) ?_; refine hSkip (i := 24) rfl (by kernel_rfl) rfl rfl (h0g) ?_; refine hSkip (i := 25) rfl (by kernel_rfl) rfl rfl (h0g) ?_; refine hSkip (i := 26) rfl (by kernel_rfl) rfl rfl (h0g) ?_; refine hSkip (i := 27) rfl (by kernel_rfl) rfl rfl (h0g) ?_; refine hSkip (i := 28) rfl (by kernel_rfl) rfl rfl (h0g) ?_; refine hSkip (i := 29) rfl (by kernel_rfl) rfl rfl (h0g) ?_; refine hSkip (i := 30) rfl (by kernel_rfl) rfl rfl (h0g) ?_
        refine hSkip (i := 31) rfl (by kernel_rfl) rfl rfl (h0g) ?_; refine hTake (i := 32) rfl (by kernel_rfl) rfl rfl (fun _ hS => ypT rfl rfl) (h0g) ?_; refine hTake (i := 33) rfl (by kernel_rfl) rfl rfl (fun _ hS => ymv rfl) (h0g) ?_; refine hSkip (i := 34) rfl (by kernel_rfl) rfl rfl (h0g) ?_; refine hSkip (i := 35) rfl (by kernel_rfl) rfl rfl (h0g) ?_; refine hSkip (i := 36) rfl (by kernel_rfl) rfl rfl (h0g) ?_; refine hSkip (i := 37) rfl (by kernel_rfl) rfl rfl (h0g) ?_; refine hTake (i := 38) rfl (by kernel_rfl) rfl rfl (fun _ hS => ypT rfl rfl) (h0g) ?_; refine hEnd (by kernel_rfl) ?_
        refine Run.sub (e := [(6, _), (7, _), (8, _), (10, _), (14, _), (93, _)]) ?_ (by repeat (first | exact Sub.nil | refine Sub.cons rfl ?_))
        exact (hk _ _ ⟨true, rfl, ⟨fun h => (by cases h), fun h => absurd (by rw [hs4]; exact h.mark) c1⟩, h0g⟩).sub (by repeat (first | exact Sub.nil | refine Sub.cons rfl ?_))
      · skip
        have c1' : sub (base (g.place at')) 0 4 = dsB := by rw [← hs4]; exact Classical.not_not.1 c1
        refine hTake (i := 5) rfl (by kernel_rfl) rfl rfl (fun _ hS => ymv rfl) (h0g) ?_; refine hTake (i := 6) rfl (by kernel_rfl) rfl rfl (fun _ hS => (by first | exact yld Try.underlying42 rfl rfl (hS.blk hB10g) rfl | exact yld Try.underlying42 rfl rfl (hS.blk hB3g) rfl | exact yld Try.underlying42 rfl rfl (hS.blk hB5g) rfl | exact yld Try.underlying42 rfl rfl (hS.blk hB9g) rfl)) (h0g) ?_; refine hTake (i := 7) rfl (by kernel_rfl) rfl rfl (fun _ hS => yis Try.underlying42 ti9 rfl rfl (by omega)) (h0g) ?_
        refine hTake (i := 11) rfl (by kernel_rfl) rfl rfl (fun _ hS => (by first | exact yld Try.underlying34 rfl rfl (hS.blk hB10g) rfl | exact yld Try.underlying34 rfl rfl (hS.blk hB3g) rfl | exact yld Try.underlying34 rfl rfl (hS.blk hB5g) rfl | exact yld Try.underlying34 rfl rfl (hS.blk hB9g) rfl)) (h0g) ?_; refine hTake (i := 12) rfl (by kernel_rfl) rfl rfl (fun _ hS => (by first | exact ync rfl | exact yncf rfl)) (h0g) ?_; refine hTake (i := 13) rfl (by kernel_rfl) rfl rfl (fun _ hS => yfa fl82_1 rfl) (h0g) ?_
        refine hTake (i := 14) rfl (by kernel_rfl) rfl rfl (fun _ hS => yfa fl76_2 rfl) (h0g) ?_; refine hTake (i := 8) rfl (by kernel_rfl) rfl rfl (fun _ hS => yldc Try.underlying9 rfl rfl (hcS _ (hxg.trans hS))) (h0g) ?_; refine hTake (i := 9) rfl (by kernel_rfl) rfl rfl (fun _ hS => yslSf Try.underlying9 rfl rfl (by omega)) (h0g) ?_
        refine hTake (i := 15) rfl (by kernel_rfl) rfl rfl (fun _ hS => (by first | exact yld Try.underlying58 rfl rfl (hS.blk hJg) rfl | exact yld Try.underlying58 rfl rfl (hS.blk hB9g) rfl | exact yld Try.underlying58 rfl rfl (hS.blk hB5g) rfl | exact yld Try.underlying58 rfl rfl (hS.blk hB3g) rfl)) (h0g) ?_; refine hOne (i := 10) (by kernel_rfl) ?_; refine nCall (i := 10) rfl rfl rfl (yc (args := [.tmp 64]) cf63 rfl) (u64_ret ((base (g.place at')).drop 4) _ (by simp; omega)) ?_
        rintro _ wj ⟨rfl, hxj⟩
        refine ⟨h0g.trans hxj, ?_⟩
        have hgj := h0g.trans hxj
        have hnm : numB (((base (g.place at')).drop 4).take 8) = numB (sub (base (g.place at')) 4 8) := rfl
        rw [hnm]
        refine hTake (i := 16) rfl (by kernel_rfl) rfl rfl (fun _ hS => yne rfl rfl) (h0g.trans hxj) ?_; refine rh_if (fun c2 => ?_) (fun c2 => ?_)
        · skip
          refine hTake (i := 17) rfl (by kernel_rfl) rfl rfl (fun _ hS => ypF rfl rfl) (h0g.trans hxj) ?_; refine hTake (i := 18) rfl (by kernel_rfl) rfl rfl (fun _ hS => ymv rfl) (h0g.trans hxj) ?_; refine hSkip (i := 19) rfl (by kernel_rfl) rfl rfl (h0g.trans hxj) ?_; refine hSkip (i := 20) rfl (by kernel_rfl) rfl rfl (h0g.trans hxj) ?_; refine hTake (i := 21) rfl (by kernel_rfl) rfl rfl (fun _ hS => ypT rfl rfl) (h0g.trans hxj) ?_; refine hTake (i := 22) rfl (by kernel_rfl) rfl rfl (fun _ hS => ymv rfl) (h0g.trans hxj) ?_; refine hSkip (i := 23) rfl (by kernel_rfl) rfl rfl (h0g.trans hxj) ?_
          refine hSkip (i := 24) rfl (by kernel_rfl) rfl rfl (h0g.trans hxj) ?_; refine hSkip (i := 25) rfl (by kernel_rfl) rfl rfl (h0g.trans hxj) ?_; refine hSkip (i := 26) rfl (by kernel_rfl) rfl rfl (h0g.trans hxj) ?_; refine hSkip (i := 27) rfl (by kernel_rfl) rfl rfl (h0g.trans hxj) ?_; refine hSkip (i := 28) rfl (by kernel_rfl) rfl rfl (h0g.trans hxj) ?_; refine hSkip (i := 29) rfl (by kernel_rfl) rfl rfl (h0g.trans hxj) ?_; refine hSkip (i := 30) rfl (by kernel_rfl) rfl rfl (h0g.trans hxj) ?_; refine hSkip (i := 31) rfl (by kernel_rfl) rfl rfl (h0g.trans hxj) ?_
          refine hTake (i := 32) rfl (by kernel_rfl) rfl rfl (fun _ hS => ypT rfl rfl) (h0g.trans hxj) ?_; refine hTake (i := 33) rfl (by kernel_rfl) rfl rfl (fun _ hS => ymv rfl) (h0g.trans hxj) ?_; refine hSkip (i := 34) rfl (by kernel_rfl) rfl rfl (h0g.trans hxj) ?_; refine hSkip (i := 35) rfl (by kernel_rfl) rfl rfl (h0g.trans hxj) ?_; refine hSkip (i := 36) rfl (by kernel_rfl) rfl rfl (h0g.trans hxj) ?_; refine hSkip (i := 37) rfl (by kernel_rfl) rfl rfl (h0g.trans hxj) ?_; refine hTake (i := 38) rfl (by kernel_rfl) rfl rfl (fun _ hS => ypT rfl rfl) (h0g.trans hxj) ?_
          refine hEnd (by kernel_rfl) ?_; refine Run.sub (e := [(6, _), (7, _), (8, _), (10, _), (14, _), (93, _)]) ?_ (by repeat (first | exact Sub.nil | refine Sub.cons rfl ?_))
          exact (hk _ _ ⟨true, rfl, ⟨fun h => (by cases h), fun h => absurd (by rw [h.num]) c2⟩, hgj⟩).sub (by repeat (first | exact Sub.nil | refine Sub.cons rfl ?_))
        · skip
          refine hTake (i := 17) rfl (by kernel_rfl) rfl rfl (fun _ hS => ypF rfl rfl) (h0g.trans hxj) ?_; refine hTake (i := 18) rfl (by kernel_rfl) rfl rfl (fun _ hS => ymv rfl) (h0g.trans hxj) ?_; refine hTake (i := 19) rfl (by kernel_rfl) rfl rfl (fun _ hS => ymv rfl) (h0g.trans hxj) ?_; refine hTake (i := 20) rfl (by kernel_rfl) rfl rfl (fun _ hS => ylt rfl rfl) (h0g.trans hxj) ?_; refine rh_if (fun c3 => ?_) (fun c3 => ?_)
          · skip
            refine hTake (i := 21) rfl (by kernel_rfl) rfl rfl (fun _ hS => ypF rfl rfl) (h0g.trans hxj) ?_; refine hTake (i := 22) rfl (by kernel_rfl) rfl rfl (fun _ hS => ymv rfl) (h0g.trans hxj) ?_; refine hSkip (i := 23) rfl (by kernel_rfl) rfl rfl (h0g.trans hxj) ?_; refine hSkip (i := 24) rfl (by kernel_rfl) rfl rfl (h0g.trans hxj) ?_; refine hSkip (i := 25) rfl (by kernel_rfl) rfl rfl (h0g.trans hxj) ?_; refine hSkip (i := 26) rfl (by kernel_rfl) rfl rfl (h0g.trans hxj) ?_; refine hSkip (i := 27) rfl (by kernel_rfl) rfl rfl (h0g.trans hxj) ?_
            refine hSkip (i := 28) rfl (by kernel_rfl) rfl rfl (h0g.trans hxj) ?_; refine hSkip (i := 29) rfl (by kernel_rfl) rfl rfl (h0g.trans hxj) ?_; refine hSkip (i := 30) rfl (by kernel_rfl) rfl rfl (h0g.trans hxj) ?_; refine hSkip (i := 31) rfl (by kernel_rfl) rfl rfl (h0g.trans hxj) ?_; refine hTake (i := 32) rfl (by kernel_rfl) rfl rfl (fun _ hS => ypT rfl rfl) (h0g.trans hxj) ?_; refine hTake (i := 33) rfl (by kernel_rfl) rfl rfl (fun _ hS => ymv rfl) (h0g.trans hxj) ?_; refine hSkip (i := 34) rfl (by kernel_rfl) rfl rfl (h0g.trans hxj) ?_
            refine hSkip (i := 35) rfl (by kernel_rfl) rfl rfl (h0g.trans hxj) ?_; refine hSkip (i := 36) rfl (by kernel_rfl) rfl rfl (h0g.trans hxj) ?_; refine hSkip (i := 37) rfl (by kernel_rfl) rfl rfl (h0g.trans hxj) ?_; refine hTake (i := 38) rfl (by kernel_rfl) rfl rfl (fun _ hS => ypT rfl rfl) (h0g.trans hxj) ?_; refine hEnd (by kernel_rfl) ?_; refine Run.sub (e := [(6, _), (7, _), (8, _), (10, _), (14, _), (93, _)]) ?_ (by repeat (first | exact Sub.nil | refine Sub.cons rfl ?_))
            exact (hk _ _ ⟨true, rfl, ⟨fun h => (by cases h), fun h => absurd h.one (by omega)⟩, hgj⟩).sub (by repeat (first | exact Sub.nil | refine Sub.cons rfl ?_))
          · skip
            refine hTake (i := 21) rfl (by kernel_rfl) rfl rfl (fun _ hS => ypF rfl rfl) (h0g.trans hxj) ?_; refine hTake (i := 22) rfl (by kernel_rfl) rfl rfl (fun _ hS => ymv rfl) (h0g.trans hxj) ?_; refine hTake (i := 23) rfl (by kernel_rfl) rfl rfl (fun _ hS => ymv rfl) (h0g.trans hxj) ?_
            refine hTake (i := 24) rfl (by kernel_rfl) rfl rfl (fun _ hS => (by first | exact yld Try.underlying34 rfl rfl (hS.blk hJg) rfl | exact yld Try.underlying34 rfl rfl (hS.blk hB9g) rfl | exact yld Try.underlying34 rfl rfl (hS.blk hB5g) rfl | exact yld Try.underlying34 rfl rfl (hS.blk hB3g) rfl)) (h0g.trans hxj) ?_; refine hTake (i := 25) rfl (by kernel_rfl) rfl rfl (fun _ hS => (by first | exact ync rfl | exact yncf rfl)) (h0g.trans hxj) ?_; refine hTake (i := 26) rfl (by kernel_rfl) rfl rfl (fun _ hS => yfa fl82_0 rfl) (h0g.trans hxj) ?_
            refine hTake (i := 27) rfl (by kernel_rfl) rfl rfl (fun _ hS => (by first | exact yldA Try.underlying68 rfl ti68 rfl (Blk.cells (n := 3) (hS.blk hJg) (news := [_, _, _]) rfl) rfl | exact yldA Try.underlying68 rfl ti68 rfl (Blk.cells (n := 3) (hS.blk hB9g) (news := [_, _, _]) rfl) rfl | exact yldA Try.underlying68 rfl ti68 rfl (Blk.cells (n := 3) (hS.blk hB5g) (news := [_, _, _]) rfl) rfl | exact yldA Try.underlying68 rfl ti68 rfl (Blk.cells (n := 3) (hS.blk hB3g) (news := [_, _, _]) rfl) rfl)) (h0g.trans hxj) ?_
            refine hTake (i := 29) rfl (by kernel_rfl) rfl rfl (fun _ hS => (by first | exact yld Try.underlying3 rfl rfl (hS.blk hJg) rfl | exact yld Try.underlying3 rfl rfl (hS.blk hB9g) rfl | exact yld Try.underlying3 rfl rfl (hS.blk hB5g) rfl | exact yld Try.underlying3 rfl rfl (hS.blk hB3g) rfl)) (h0g.trans hxj) ?_; refine hOne (i := 28) (by kernel_rfl) ?_; refine nCall (i := 28) rfl rfl rfl (yc (args := [.tmp 82]) cf36 rfl) (ring_ret p g hg _) ?_
            rintro _ wk ⟨rfl, hxk⟩
            refine ⟨hgj.trans hxk, ?_⟩
            have hgk := hgj.trans hxk
            refine hOne (i := 30) (by kernel_rfl) ?_; refine nCall (i := 30) rfl rfl rfl (yc (args := [.tmp 83, .tmp 84]) cf53 rfl) (most_ret g.L g.size _ (by omega) (by omega) (by omega) (by unfold Geo.size; omega)) ?_
            rintro _ wk2 ⟨rfl, rfl⟩
            refine ⟨hgk, ?_⟩
            refine hTake (i := 31) rfl (by kernel_rfl) rfl rfl (fun _ hS => ygt rfl rfl) (hgk) ?_; refine rh_if (fun c4 => ?_) (fun c4 => ?_)
            · skip
              refine hTake (i := 32) rfl (by kernel_rfl) rfl rfl (fun _ hS => ypF rfl rfl) (hgk) ?_; refine hTake (i := 33) rfl (by kernel_rfl) rfl rfl (fun _ hS => ymv rfl) (hgk) ?_; refine hSkip (i := 34) rfl (by kernel_rfl) rfl rfl (hgk) ?_; refine hSkip (i := 35) rfl (by kernel_rfl) rfl rfl (hgk) ?_; refine hSkip (i := 36) rfl (by kernel_rfl) rfl rfl (hgk) ?_; refine hSkip (i := 37) rfl (by kernel_rfl) rfl rfl (hgk) ?_; refine hTake (i := 38) rfl (by kernel_rfl) rfl rfl (fun _ hS => ypT rfl rfl) (hgk) ?_; refine hEnd (by kernel_rfl) ?_
              refine Run.sub (e := [(6, _), (7, _), (8, _), (10, _), (14, _), (93, _)]) ?_ (by repeat (first | exact Sub.nil | refine Sub.cons rfl ?_))
              exact (hk _ _ ⟨true, rfl, ⟨fun h => (by cases h), fun h => absurd h.most (by unfold Geo.most; omega)⟩, hgk⟩).sub (by repeat (first | exact Sub.nil | refine Sub.cons rfl ?_))
            · skip
              refine hTake (i := 32) rfl (by kernel_rfl) rfl rfl (fun _ hS => ypF rfl rfl) (hgk) ?_; refine hTake (i := 33) rfl (by kernel_rfl) rfl rfl (fun _ hS => ymv rfl) (hgk) ?_; refine hTake (i := 34) rfl (by kernel_rfl) rfl rfl (fun _ hS => ymv rfl) (hgk) ?_; refine hTake (i := 35) rfl (by kernel_rfl) rfl rfl (fun _ hS => yad rfl rfl (by omega)) (hgk) ?_
              refine hTake (i := 36) rfl (by kernel_rfl) rfl rfl (fun _ hS => (by first | exact yld Try.underlying3 rfl rfl (hS.blk hJg) rfl | exact yld Try.underlying3 rfl rfl (hS.blk hB9g) rfl | exact yld Try.underlying3 rfl rfl (hS.blk hB5g) rfl | exact yld Try.underlying3 rfl rfl (hS.blk hB3g) rfl)) (hgk) ?_; refine hTake (i := 37) rfl (by kernel_rfl) rfl rfl (fun _ hS => ygt rfl rfl) (hgk) ?_; refine rh_if (fun c5 => ?_) (fun c5 => ?_)
              · skip
                refine hTake (i := 38) rfl (by kernel_rfl) rfl rfl (fun _ hS => ypF rfl rfl) (hgk) ?_; refine hEnd (by kernel_rfl) ?_; refine Run.sub (e := [(6, _), (7, _), (8, _), (10, _), (14, _), (93, _)]) ?_ (by repeat (first | exact Sub.nil | refine Sub.cons rfl ?_))
                exact (hk _ _ ⟨true, rfl, ⟨fun h => (by cases h), fun h => absurd h.left (by omega)⟩, hgk⟩).sub (by repeat (first | exact Sub.nil | refine Sub.cons rfl ?_))
              · skip
                refine hTake (i := 38) rfl (by kernel_rfl) rfl rfl (fun _ hS => ypF rfl rfl) (hgk) ?_; refine hEnd (by kernel_rfl) ?_; refine Run.sub (e := [(6, _), (7, _), (8, _), (10, _), (14, _), (93, _)]) ?_ (by repeat (first | exact Sub.nil | refine Sub.cons rfl ?_))
                exact (hk _ _ ⟨false, rfl, ⟨fun _ => ⟨c1', by omega, by omega, by unfold Geo.most; omega, by omega⟩, fun _ => rfl⟩, hgk⟩).sub (by repeat (first | exact Sub.nil | refine Sub.cons rfl ?_))
  · rintro i wx wy ⟨hq1, Fi, bv, ⟨hAi, hFi, hki⟩, hB10i, hSi, hoi, hB6i, hB7i, hB8i, hHd⟩ hkab
    have nFa : ¬ Fi ba := fun hf => (hFi ba hf).elim (fun h => by have := hFl _ h; omega) (fun h => by omega)
    exact ⟨hkab.rc hRc hq1 (by omega), Fi, bv, ⟨hAi.kp hkab (fun k hk he => nFa (he ▸ hk)), hFi, hki.trans (hkab.mono' fun k hk => .inr (.inr (.inr (.inl hk))))⟩, hkab.blk hB10i (by omega), hSi.kp hkab (fun k hk hkl => by have := (hoi k hk).1; omega), hoi, hkab.blk hB6i (by omega), hkab.blk hB7i (by omega), hkab.blk hB8i (by omega), hHd⟩
  · rintro wx wy hj hxy
    rcases hj with ⟨hq1, i, Fi, hi, ⟨hAi, hFi, hki⟩, h6, h7, h8, hn⟩ | ⟨hq1, Fi, bv, ⟨hAi, hFi, hki⟩, h10, hS, ho, h6, h7, h8, hn⟩
    · exact .inl ⟨hxy.rc hRc hq1 id, i, Fi, hi, ⟨hAi.ext hxy, hFi, hki.trans hxy.kp⟩, hxy.blk h6, hxy.blk h7, hxy.blk h8, hn⟩
    · exact .inr ⟨hxy.rc hRc hq1 id, Fi, bv, ⟨hAi.ext hxy, hFi, hki.trans hxy.kp⟩, hxy.blk h10, hS.ext hxy, ho, hxy.blk h6, hxy.blk h7, hxy.blk h8, hn⟩
  · rintro v wz ⟨rfl, hz⟩
    rcases hz with ⟨hq1, i, Fi, hi, ⟨hAi, hFi, hki⟩, h6, h7, h8, hn⟩ | ⟨hq1, Fi, bv, ⟨hAi, hFi, hki⟩, h10, hS, ho, h6, h7, h8, hn⟩
    · skip
      refine ⟨_, _, hq1, by simp, fun wy hky => ?_⟩
      have sz := hki.size
      have sy := hky.size
      have nF : ∀ k, w.heap.size ≤ k → ¬ F k := fun k hk hf => by have := hFl k hf; omega
      have nFi : ∀ k, w.heap.size ≤ k → k < wl.heap.size → ¬ Fi k := fun k hk hk2 hf => (hFi k hf).elim (nF k hk) (fun h => by omega)
      have hDy := hky.heap (hki.heap hD (fun h => by
        rcases h with h | h | h | h | h | h | h
        · exact nF _ (by omega) h
        all_goals omega)) (by omega)
      have hkf := kp_putObj wy wa.heap.size (.deferred none)
      have h6' := hkf.blk (hky.blk h6 (by omega)) (by omega)
      have h7' := hkf.blk (hky.blk h7 (by omega)) (by omega)
      have h8' := hkf.blk (hky.blk h8 (by omega)) (by omega)
      refine run_retRM (by simp) (marked1 hDy) Try.func37 (.cell1 Try.underlying38 rfl rfl ((h6').cell _) (.cell1 Try.underlying4 rfl rfl ((h7').cell _) (.cell1 Try.underlying27 rfl rfl ((h8').cell _) .nil))) ?_
      have hxwl : Ext w wl := (((((hx1.trans hx2).trans hx3).trans hx4).trans hx5).trans hx6a).trans hxl
      have hkall : Kp (fun k => F k ∨ k = q) w (wy.putObj wa.heap.size (.deferred none)) := by
        refine ((hxwl.kp.trans_new hki (fun k hk => ?_) : Kp (fun k => F k ∨ k = q) w wz).trans_new hky (fun k hk => .inl (by omega))).trans_new hkf (fun k hk => .inl (by omega))
        rcases hk with h | h | h | h | h | h | h
        · exact .inr (.inl h)
        all_goals exact .inl (by omega)
      refine ⟨_, rfl, ⟨i + 1, by omega, Fi, (hAi.kp hky (fun k hk h => nFi k (by omega) (by omega) hk)).kp hkf (fun k hk h => nFi k (by omega) (by omega) hk), hkall, fun k hk => (hFi k hk).imp id (fun h => by have := hxwl.size; omega)⟩, ?_, .inr ⟨?_, rfl⟩⟩
      · have hqw : Blk wl q (jnCs p g J) 82 := hxl.blk hJa
        exact hkf.blk (hky.blk (hki.blk hqw (fun h => by
          rcases h with h | h | h | h | h | h | h
          · exact hq h
          all_goals omega)) (by omega)) (by omega)
      · rcases hcase with ⟨t, ht1, ht2, ht3, ht4⟩ | hnr
        · exact absurd (hdOk_tx hg ht1 ht2 ht3 ht4 hJn).1 hn
        · exact hnr
    · skip
      refine ⟨_, _, hq1, by simp, fun wy hky => ?_⟩
      obtain ⟨k, hk⟩ : ∃ k, cntB (base (g.place at')) = k := ⟨_, rfl⟩
      rw [hk] at hAi hS
      have hk1 := hn.one
      have hk2 := hn.most
      have hk3 := hn.left
      rw [hk] at hk1 hk2 hk3
      have hxw : Ext w wl := (((((hx1.trans hx2).trans hx3).trans hx4).trans hx5).trans hx6a).trans hxl
      have hkm : 20 + 4 * k ≤ g.size := by unfold Geo.most mostN at hk2; unfold Geo.size at *; omega
      have sz := hki.size
      have sy := hky.size
      have nF : ∀ k, w.heap.size ≤ k → ¬ F k := fun k hk hf => by have := hFl k hf; omega
      have nFi : ∀ k, w.heap.size ≤ k → k < wl.heap.size → ¬ Fi k := fun k hk hk2 hf => (hFi k hf).elim (nF k hk) (fun h => by omega)
      have hDy := hky.heap (hki.heap hD (fun h => by
        rcases h with h | h | h | h | h | h | h
        · exact nF _ (by omega) h
        all_goals omega)) (by omega)
      have h6' := hky.blk h6 (by omega)
      have h7' := hky.blk h7 (by omega)
      have h8' := hky.blk h8 (by omega)
      have h10' := hky.blk h10 (by omega)
      have hSy := hS.kp hky (fun k hk he => by have := (ho k hk).1; omega)
      have hAy := hAi.kp hky (fun k hk h => nFi k (by omega) (by omega) hk)
      rcases hSy.shape with ⟨-, hz⟩ | ⟨gb, gc, hbv, hgc⟩
      · omega
      subst hbv
      have hcell : ∀ (j : Nat) (w' : World), j < k + 2 → Ext wy w' → w'.cell? ⟨gb, 0 + j, none⟩ = some (S (base (g.place (at' + j)))) := fun j w' hj hx => by
        rcases (hSy.ext hx).rd.2 with ⟨cc, -, hz⟩ | ⟨b', off', cap', hv, hcell⟩
        · omega
        cases hv
        exact hcell j _ (by rw [List.getElem?_map, ringL_get _ _ _ _ _ hj]; rfl)
      refine run_exit rfl ?_
      have h0y := Ext.drew0 wy
      refine run_seq ?_; refine run_draw (fun w' => Ext wy w') (by kernel_rfl) rfl ?_; refine hTake (i := 0) rfl (by kernel_rfl) rfl rfl (fun _ hS => yld Try.underlying42 rfl rfl (hS.blk h10') rfl) (h0y) ?_; refine hTake (i := 1) rfl (by kernel_rfl) rfl rfl (fun _ hS => yis Try.underlying42 ti9 rfl rfl (by omega)) (h0y) ?_; refine hTake (i := 3) rfl (by kernel_rfl) rfl rfl (fun _ hS => yld Try.underlying42 rfl rfl (hS.blk h10') rfl) (h0y) ?_; refine hTake (i := 4) rfl (by kernel_rfl) rfl rfl (fun _ hS => yld Try.underlying42 rfl rfl (hS.blk h10') rfl) (h0y) ?_
      refine hTake (i := 5) rfl (by kernel_rfl) rfl rfl (fun _ hS => yln Try.underlying42 rfl) (h0y) ?_; refine hTake (i := 6) rfl (by kernel_rfl) rfl rfl (fun _ hS => ysb rfl rfl (by omega)) (h0y) ?_; refine hTake (i := 8) rfl (by kernel_rfl) rfl rfl (fun _ hS => yld Try.underlying42 rfl rfl (hS.blk h10') rfl) (h0y) ?_; refine hTake (i := 9) rfl (by kernel_rfl) rfl rfl (fun _ hS => yld Try.underlying42 rfl rfl (hS.blk h10') rfl) (h0y) ?_; refine hTake (i := 10) rfl (by kernel_rfl) rfl rfl (fun _ hS => yln Try.underlying42 rfl) (h0y) ?_
      refine hTake (i := 11) rfl (by kernel_rfl) rfl rfl (fun _ hS => ysb rfl rfl (by omega)) (h0y) ?_; refine hTake (i := 2) rfl (by kernel_rfl) rfl rfl (fun _ hS => yldc Try.underlying9 rfl rfl (hcell 0 _ (by omega) hS)) (h0y) ?_; refine hTake (i := 14) rfl (by kernel_rfl) rfl rfl (fun _ hS => yas rfl) (h0y) ?_
      rw [show (((k + 2 : Nat) : Int) - 1) = ((k + 1 : Nat) : Int) from by omega]
      refine hTake (i := 7) rfl (by kernel_rfl) rfl rfl (fun _ hS => yslV (i := 1) (j := k + 1) Try.underlying42 ti9 rfl rfl rfl (by omega) (by omega)) (h0y) ?_
      rw [show k + 1 - 1 = k by omega]
      refine hTake (i := 12) rfl (by kernel_rfl) rfl rfl (fun _ hS => yis Try.underlying42 ti9 rfl rfl (by omega)) (h0y) ?_; refine hTake (i := 15) rfl (by kernel_rfl) rfl rfl (fun _ hS => yas rfl) (h0y) ?_; refine hTake (i := 13) rfl (by kernel_rfl) rfl rfl (fun _ hS => yldc Try.underlying9 rfl rfl (by have := hcell (k + 1) _ (by omega) hS; simpa using this)) (h0y) ?_
      rw [show at' + 0 = at' from rfl]
      refine hTake (i := 16) rfl (by kernel_rfl) rfl rfl (fun _ hS => yas rfl) (h0y) ?_; refine hEnd (by kernel_rfl) ?_; refine Run.sub (e := [(3, _), (6, _), (7, _), (8, _), (9, _), (15, _), (16, _), (17, _)]) ?_ (by repeat (first | exact Sub.nil | refine Sub.cons rfl ?_))
      refine run_seq ?_; refine run_reg rfl ?_; refine rVal rfl rfl (yas rfl) ?_; refine rEnd ?_; refine run_seq ?_; refine run_seq ?_; refine run_reg rfl ?_; refine rVal rfl rfl (ymv rfl) ?_; refine rVal rfl rfl (yln Try.underlying42 rfl) ?_; refine rVal rfl rfl (ymv rfl) ?_; refine rEnd ?_; refine run_block ?_
      refine run_loop (α := Nat × Value) ((0, .slice none 0 0)) (fun x => [(3, ptr b3 0), (6, ptr b6 0), (7, ptr b7 0), (8, ptr b8 0), (9, ptr b9 0), (15, S (base (g.place at'))), (16, .slice (some ⟨gb, 0 + 1 * 1, none⟩) k (gc - 1)), (17, S (base (g.place (at' + (k + 1))))), (18, x.2), (113, .slice (some ⟨gb, 0 + 1 * 1, none⟩) k (gc - 1)), (114, I (k : Int)), (115, I (x.1 : Int))]) (fun x w' => x.1 ≤ k ∧ Ext wy w' ∧ Sl w' x.2 54 2 x.1 (wrs (rdTx g base at' x.1)) ∧ (∀ i, x.2.ownBlock = some i → wy.heap.size ≤ i)) (fun x => k - x.1) (by repeat (first | exact Sub.nil | refine Sub.cons rfl ?_)) ?hI ?hround
      case hI => exact ⟨Nat.zero_le _, h0y, ⟨rfl, .inl ⟨rfl, rfl⟩⟩, fun i hi => by cases hi⟩
      case hround =>
        rintro ⟨i, tv⟩ wi ⟨hi, hxi, hST, hoT⟩ ih
        dsimp only at hi hST hoT
        obtain ⟨ta, tc, rfl, -⟩ := hST.rd.shape
        have hs0len : (base (g.place at')).length = g.size := hlen at'
        try dsimp only
        refine run_seq ?_; refine run_reg rfl ?_; refine rVal rfl rfl (ylt rfl rfl) ?_; refine rEnd ?_; refine run_seq ?_; refine run_if rfl (fun hlt => ?_) (fun hlt => ?_)
        · skip
          have hik : i < k := by omega
          have hci := hcell (i + 1) wi (by omega) hxi
          rw [show 0 + (i + 1) = 0 + 1 * 1 + i * 1 by omega, show at' + (i + 1) = at' + 1 + i by omega] at hci
          refine run_skip ?_; refine run_seq ?_; refine run_block ?_; refine run_seq ?_; refine run_reg rfl ?_; refine rVal rfl rfl (ymv rfl) ?_; refine rVal rfl rfl (yis Try.underlying42 ti9 rfl rfl (by omega)) ?_; refine rVal rfl rfl (yldc Try.underlying9 rfl rfl hci) ?_
          have hdl : 16 + 4 * i + 4 ≤ (base (g.place at')).length := by rw [hs0len]; omega
          refine rVal rfl rfl (yas rfl) ?_; refine rVal rfl rfl (yas rfl) ?_; refine rEnd ?_; refine run_seq ?_; refine run_reg rfl ?_; refine rVal rfl rfl (ymv rfl) ?_; refine rVal rfl rfl (ymv rfl) ?_; refine rVal rfl rfl (yml rfl rfl (by omega)) ?_; refine rVal rfl rfl (yad rfl rfl (by omega)) ?_; refine rVal rfl rfl (yslSf Try.underlying9 rfl rfl (by omega)) ?_; refine rCall rfl rfl (yc (args := [.tmp 124]) cf62 rfl) (u32_ret ((base (g.place at')).drop (16 + 4 * i)) _ (by simp; omega)) ?_
          rintro _ w2 ⟨rfl, hx2⟩
          obtain ⟨n, hnn⟩ : ∃ n, numB (sub (base (g.place at')) (16 + 4 * i) 4) = n := ⟨_, rfl⟩
          obtain ⟨s, hss⟩ : ∃ s, base (g.place (at' + 1 + i)) = s := ⟨_, rfl⟩
          have hnlt : n < 4294967296 := by
            have := numB_lt (sub (base (g.place at')) (16 + 4 * i) 4)
            rw [sub_length (by omega), hnn] at this; exact this
          have hslen : s.length = g.size := by rw [← hss]; exact hlen _
          rw [show numB (((base (g.place at')).drop (16 + 4 * i)).take 4) = n from hnn, hss]
          refine rVal rfl rfl (yas rfl) ?_; refine rEnd ?_; refine run_seq ?_; refine run_seq ?_; refine run_reg rfl ?_; refine rVal rfl rfl (ymv rfl) ?_; refine rVal rfl rfl (yge rfl rfl) ?_; refine rEnd ?_
          refine run_cut (fun e' w' => ∃ (n' : Nat) (s' : Bytes), e' = [(3, ptr b3 0), (6, ptr b6 0), (7, ptr b7 0), (8, ptr b8 0), (9, ptr b9 0), (15, S (base (g.place at'))), (16, .slice (some ⟨gb, 0 + 1 * 1, none⟩) k (gc - 1)), (17, S (base (g.place (at' + (k + 1))))), (18, .slice ta i tc), (20, S s'), (21, U n'), (113, .slice (some ⟨gb, 0 + 1 * 1, none⟩) k (gc - 1)), (114, I (k : Int)), (115, I (i : Int))] ∧ unlB n s = ((n' : Int), s') ∧ n' < 2147483648 ∧ w' = w2) ?hk (fun hk => ?hmain)
          case hk =>
            rintro _ w3 ⟨n', s', rfl, hun, hn', rfl⟩
            refine run_reg rfl ?_; refine rVal rfl rfl (ymv rfl) ?_; refine rVal rfl rfl (ymv rfl) ?_; refine rVal rfl rfl (ycvSi64 rfl Try.underlying108 Try.underlying3 (by omega)) ?_; refine rVal rfl rfl (ymv rfl) ?_; refine rVal rfl rfl (ybd (parts := [(0, .tmp 135), (1, .tmp 136)]) (cs := [_, _]) ti54 rfl sp54 rfl rfl) ?_; refine rValP rfl rfl (pbs (parts := [(0, .tmp 137)]) (cs := [_, _]) (zs := [Value.int .i64 0, Value.string ⟨#[]⟩]) Try.underlying38 ti54 rfl (by kernel_rfl) rfl rfl rfl (by decide)) ?_
            rintro _ w4 ⟨b138, rfl, ⟨hb138, hx4, hB138⟩, hS138⟩
            refine rValP rfl rfl (pap Try.underlying38 ti54 rfl (by decide) rfl rfl ((hST.ext hx2).ext hx4) hS138.rd (by intro c hc; simp at hc; rcases hc with rfl | rfl <;> rfl) (by omega) (by omega)) ?_
            rintro tv' w5 ⟨hS5, hk5, hown5, -⟩
            have y2 := hx2.size
            have y4 := hx4.size
            have yi := hxi.size
            refine rVal rfl rfl (yas rfl) ?_; refine rEnd ?_; refine run_inBlock ?_; refine run_reg rfl ?_; refine rVal rfl rfl (yad rfl rfl (by omega)) ?_; refine rVal rfl rfl (ymv rfl) ?_; refine rEnd ?_; refine (ih (i + 1, tv') w5 ⟨hik, ((hxi.trans hx2).trans hx4).trans_new hk5 (fun j hj => hoT j hj), ?_, fun j hj => ?_⟩ (by dsimp only; omega)).sub (by repeat (first | exact Sub.nil | refine Sub.cons rfl ?_))
            · dsimp only
              rw [rdTx_succ, hnn, hss, hun]
              simpa [wrs, wr] using hS5
            · rcases hown5 j hj with h | h
              · exact hoT j h
              · omega
          case hmain =>
            refine run_if rfl (fun h31 => ?_) (fun h31 => ?_)
            · skip
              refine run_seq ?_; refine run_reg rfl ?_; refine rVal rfl rfl (ymv rfl) ?_; refine rVal rfl rfl (ysb32 (n := 2147483648) rfl rfl (by omega) hnlt) ?_; refine rVal rfl rfl (yas rfl) ?_; refine rEnd ?_; refine run_reg rfl ?_; refine rVal rfl rfl (ymv rfl) ?_; refine rVal rfl rfl (yslSf Try.underlying9 rfl rfl (by omega)) ?_; refine rVal rfl rfl (ycatS rfl rfl (by first | omega | (simp; done) | (simp; omega))) ?_
              refine rVal rfl rfl (yas rfl) ?_; refine rEnd ?_
              exact (hk _ _ ⟨n - 2147483648, mkB ++ s.drop 2, rfl, by unfold unlB; rw [if_pos (by omega)], by omega, rfl⟩).sub (by repeat (first | exact Sub.nil | refine Sub.cons rfl ?_))
            · skip
              refine run_skip ?_
              exact (hk _ _ ⟨n, s, rfl, by unfold unlB; rw [if_neg (by omega)], by omega, rfl⟩).sub (by repeat (first | exact Sub.nil | refine Sub.cons rfl ?_))
        · skip
          have hik : k = i := by omega
          subst hik
          have notall : ∀ k', w.heap.size ≤ k' → k' < wl.heap.size → k' ≠ l → k' ≠ b10 → k' ≠ ba → k' ≠ b6 → k' ≠ b7 → k' ≠ b8 → ¬ (F k' ∨ k' = l ∨ k' = b10 ∨ k' = ba ∨ k' = b6 ∨ k' = b7 ∨ k' = b8) := fun k' h1 _ h2 h3 h4 h5 h6 h7 h => by
            rcases h with h | h | h | h | h | h | h
            · exact nF k' h1 h
            all_goals exact absurd h (by assumption)
          have hJw : Blk wi q (jnCs p g J) 82 := hxi.blk (hky.blk (hki.blk (hxl.blk hJa) (fun h => by
            rcases h with h | h | h | h | h | h | h
            · exact hq h
            all_goals omega)) (by omega))
          have hB3w := hxi.blk (hky.blk (hki.blk (hxl.blk hB3a) (notall b3 (by omega) (by omega) (by omega) (by omega) (by omega) (by omega) (by omega) (by omega))) (by omega))
          have hB9w := hxi.blk (hky.blk (hki.blk (hxl.blk hB9a) (notall b9 (by omega) (by omega) (by omega) (by omega) (by omega) (by omega) (by omega) (by omega))) (by omega))
          have hAw := hAy.ext hxi
          have hrl : ∀ x ∈ rdTx g base at' k, x.2.length = g.size ∧ 0 ≤ x.1 ∧ x.1 < 2147483648 := fun x hx => rdTx_mem hlen (by omega) (by omega) hx
          have h0w := Ext.drew0 wi
          have hlst := hlen (at' + (k + 1))
          have hsz16 : 16 ≤ g.size := by unfold Geo.size; omega
          have hTx : ∀ t, TxAt g base at' J.number t → TxOk g t → t ≠ [] → t.length + 2 ≤ left → rdTx g base at' k = t := fun t ht1 ht2 ht3 ht4 => by
            have := (hdOk_tx hg ht1 ht2 ht3 ht4 hJn).2
            rw [hk] at this
            rw [this]; exact rdTx_tx hg ht1 ht2
          have hDB : (D.rds (k + 2)).B = g.B := hU.hB
          have hDN : (D.rds (k + 2)).N = g.N := hU.hN
          refine run_exit rfl ?_; refine run_seq ?_; refine run_seq ?_; refine run_cut (fun e' w' => ∃ bb : Bool, e' = [(3, ptr b3 0), (6, ptr b6 0), (7, ptr b7 0), (8, ptr b8 0), (9, ptr b9 0), (15, S (base (g.place at'))), (16, .slice (some ⟨gb, 0 + 1 * 1, none⟩) k (gc - 1)), (17, S (base (g.place (at' + (k + 1))))), (18, .slice ta k tc), (172, .bool bb)] ∧ (bb = true → NoRec g base J.number) ∧ (bb = false → ∃ t, TxAt g base at' J.number t ∧ TxOk g t ∧ t ≠ [] ∧ t.length + 2 ≤ left ∧ rdTx g base at' k = t) ∧ Ext wi w') ?hk (fun hk => ?hmain)
          case hk =>
            rintro _ w2 ⟨bb, rfl, hb1, hb2, hx2⟩
            have h62 := hx2.blk (hxi.blk h6')
            have h72 := hx2.blk (hxi.blk h7')
            have h82 := hx2.blk (hxi.blk h8')
            have z2 := hx2.size
            have zi := hxi.size
            have hfin : ∀ wv, Kp (fun k => k = b6 ∨ k = b7 ∨ k = b8) w2 wv → (∃ r, r ≤ g.L + 2 ∧ DevQ w p q F (D.rds r) (wv.putObj wa.heap.size (.deferred none))) ∧ JnM (wv.putObj wa.heap.size (.deferred none)) q p g J ∧ wv.heap[wa.heap.size]? = some (.deferred (some [])) := fun wv hkv => by
              have hkf := kp_putObj wv wa.heap.size (.deferred none)
              have hA2 : DevA w2 p (D.rds (k + 2)) Fi := (hAw.ext hx2)
              have hAv := (hA2.kp hkv (fun k' hk' h => by
                rcases h with h | h | h
                · exact nFi k' (by omega) (by omega) hk'
                · exact nFi k' (by omega) (by omega) hk'
                · exact nFi k' (by omega) (by omega) hk')).kp hkf (fun k' hk' h => nFi k' (by omega) (by omega) hk')
              refine ⟨⟨k + 2, by omega, Fi, hAv, ?_, fun k' hk' => (hFi k' hk').imp id (fun h => by omega)⟩, ?_, ?_⟩
              · refine ((((hxw.kp.trans_new hki (fun k' hk' => ?_) : Kp (fun k => F k ∨ k = q) w wz).trans_new hky (fun k' hk' => .inl (by omega))).trans ((hxi.trans hx2).mono' fun k' h => h.elim)).trans_new hkv (fun k' hk' => .inl (by omega))).trans_new hkf (fun k' hk' => .inl (by omega))
                rcases hk' with h | h | h | h | h | h | h
                · exact .inr (.inl h)
                all_goals exact .inl (by omega)
              · exact hkf.blk (hkv.blk (hx2.blk hJw) (by omega)) (by omega)
              · exact hkv.heap (hx2.heap (hxi.heap hDy id) id) (by omega)
            refine run_cond rfl (fun hcc => ?_) (fun hcc => ?_)
            · skip
              refine run_seq ?_; refine run_reg rfl ?_; refine rEffP rfl (zst ti38 rfl rfl rfl h62 (by simp)) ?_
              rintro wm1 ⟨hm61, hkm1⟩
              have hm71 := hkm1.blk h72 (by omega)
              have hm81 := hkm1.blk h82 (by omega)
              refine rEffP rfl (zst ti4 rfl rfl rfl hm71 (by simp)) ?_
              rintro wm2 ⟨hm72, hkm2⟩
              have hm82 := hkm2.blk hm81 (by omega)
              refine rEffP rfl (zst ti27 rfl rfl rfl hm82 (by simp)) ?_
              rintro wm3 ⟨hm83, hkm3⟩
              refine rEnd ?_
              have hkm' : Kp (fun k => k = b6 ∨ k = b7 ∨ k = b8) w2 wm3 := ((hkm1.mono' fun k h => .inl h).trans (hkm2.mono' fun k h => .inr (.inl h))).trans (hkm3.mono' fun k h => .inr (.inr h))
              obtain ⟨hf1, hf2, hf3⟩ := hfin wm3 hkm'
              have hkf := kp_putObj wm3 wa.heap.size (.deferred none)
              have g6 := hkf.blk (hkm3.blk (hkm2.blk hm61 (by omega)) (by omega)) (by omega)
              have g7 := hkf.blk (hkm3.blk hm72 (by omega)) (by omega)
              have g8 := hkf.blk hm83 (by omega)
              refine run_retRM (by simp) (marked1 hf3) Try.func37 (.cell1 Try.underlying38 rfl rfl ((g6).cell _) (.cell1 Try.underlying4 rfl rfl ((g7).cell _) (.cell1 Try.underlying27 rfl rfl ((g8).cell _) .nil))) ?_
              exact ⟨_, rfl, hf1, hf2, .inr ⟨hb1 hcc, rfl⟩⟩
            · skip
              obtain ⟨t, ht1, ht2, ht3, ht4, ht5⟩ := hb2 (by simpa using hcc)
              have htk : t.length = k := by rw [← ht5, rdTx_length]
              have hJ2 := hx2.blk hJw
              have hB92 := hx2.blk hB9w
              have hB32 := hx2.blk hB3w
              have hsz512 : 512 ≤ g.size := by unfold Geo.size; omega
              have hflat := ringL_flat hlen (at' + 1) k
              have hfl2 : k * g.size ≤ 1023 * 4096 := Nat.mul_le_mul (by omega) hsz4
              have hrdJ : ∀ w', Ext w2 w' → Rd w' (.slice (some ⟨gb, 0 + 1 * 1, none⟩) k (gc - 1)) 1 (ringL g base (at' + 1) k).length ((ringL g base (at' + 1) k).map S) := fun w' hx => by
                refine ⟨by simp, .inr ⟨gb, 0 + 1 * 1, gc - 1, by rw [ringL_length], fun j u hj => ?_⟩⟩
                rw [List.getElem?_map] at hj
                have hjk : j < k := by
                  rcases Nat.lt_or_ge j k with h | h
                  · exact h
                  · rw [List.getElem?_eq_none (by simpa using h)] at hj; cases hj
                rw [ringL_get _ _ _ _ _ hjk] at hj
                have hu := hcell (1 + j) w' (by omega) ((hxi.trans hx2).trans hx)
                rw [show at' + (1 + j) = at' + 1 + j by omega, show 0 + (1 + j) = 0 + 1 * 1 + j by omega] at hu
                rw [hu]; exact hj
              have h02 := Ext.drew0 w2
              have hgbl : ∀ w', Ext w2 w' → gb < w'.heap.size := fun w' hx => by have := hSy.lt (g := gb) rfl; have := hxi.size; have := hx2.size; have := hx.size; omega
              refine run_skip ?_; refine run_seq ?_; refine run_seq ?_; refine run_draw (fun w' => Ext w2 w') (by kernel_rfl) rfl ?_; refine hTake (i := 0) rfl (by kernel_rfl) rfl rfl (fun _ hS => ymv rfl) (h02) ?_; refine hTake (i := 1) rfl (by kernel_rfl) rfl rfl (fun _ hS => yslSt Try.underlying9 rfl rfl (by omega)) (h02) ?_; refine hTake (i := 2) rfl (by kernel_rfl) rfl rfl (fun _ hS => (by first | exact yld Try.underlying34 rfl rfl (hS.blk hB32) rfl | exact yld Try.underlying34 rfl rfl (hS.blk hJ2) rfl | exact yld Try.underlying34 rfl rfl (hS.blk hB92) rfl)) (h02) ?_
              refine hTake (i := 3) rfl (by kernel_rfl) rfl rfl (fun _ hS => (by first | exact ync rfl | exact yncf rfl)) (h02) ?_; refine hTake (i := 4) rfl (by kernel_rfl) rfl rfl (fun _ hS => yfa fl82_1 rfl) (h02) ?_; refine hTake (i := 5) rfl (by kernel_rfl) rfl rfl (fun _ hS => yfa fl76_2 rfl) (h02) ?_; refine hTake (i := 6) rfl (by kernel_rfl) rfl rfl (fun _ hS => (by first | exact yld Try.underlying58 rfl rfl (hS.blk hB32) rfl | exact yld Try.underlying58 rfl rfl (hS.blk hJ2) rfl | exact yld Try.underlying58 rfl rfl (hS.blk hB92) rfl)) (h02) ?_
              refine hTake (i := 7) rfl (by kernel_rfl) rfl rfl (fun _ hS => ymv rfl) (h02) ?_; refine hTake (i := 8) rfl (by kernel_rfl) rfl rfl (fun _ hS => ymv rfl) (h02) ?_; refine hTake (i := 11) rfl (by kernel_rfl) rfl rfl (fun _ hS => (by first | exact yld Try.underlying3 rfl rfl (hS.blk hB32) rfl | exact yld Try.underlying3 rfl rfl (hS.blk hJ2) rfl | exact yld Try.underlying3 rfl rfl (hS.blk hB92) rfl)) (h02) ?_; refine hOne (i := 9) (by kernel_rfl) ?_
              refine nCall (i := 9) rfl rfl rfl (yc (args := [.tmp 181, .const (Value.string (⟨#[]⟩))]) cf47 rfl) (joinS_ret _ (ringL g base (at' + 1) k) _ (hrdJ _ h02) ⟨gb, 0 + 1 * 1, gc - 1, by rw [ringL_length], by rw [ringL_length]; omega, hgbl _ h02⟩ (by rw [ringL_length]; omega) (by rw [hflat]; omega)) ?_
              rintro _ w3 ⟨rfl, hx3⟩
              refine ⟨h02.trans hx3, ?_⟩
              have hx23 := h02.trans hx3
              refine hTake (i := 10) rfl (by kernel_rfl) rfl rfl (fun _ hS => ycatS rfl rfl (by first | omega | (simp; done) | (simp; omega))) (h02.trans hx3) ?_
              refine hOne (i := 12) (by kernel_rfl) ?_; refine nCall (i := 12) rfl rfl rfl (yc (args := [.tmp 179, .tmp 183, .tmp 184]) cf46 rfl) (record_ret J.number (base (g.place at') ++ (ringL g base (at' + 1) k).flatten) g.size _ hJn (by rw [List.length_append, hflat, hs0len]; omega) (by omega) (by omega)) ?_
              rintro _ w4 ⟨rfl, hx4⟩
              refine ⟨hx23.trans hx4, ?_⟩
              have hx24 := hx23.trans hx4
              have hreq : base (g.place at') ++ (ringL g base (at' + 1) k).flatten = allB g J.number t := by
                rw [← htk, ringL_laid ht1, ht1.desc]; rfl
              have hrl5 : (recB J.number (base (g.place at') ++ (ringL g base (at' + 1) k).flatten) g.size).length = g.size := recB_length (by omega)
              refine hTake (i := 13) rfl (by kernel_rfl) rfl rfl (fun _ hS => yslSt Try.underlying9 rfl rfl (by omega)) (hx23.trans hx4) ?_; refine hTake (i := 14) rfl (by kernel_rfl) rfl rfl (fun _ hS => yneS rfl rfl) (hx23.trans hx4) ?_
              rw [decide_eq_false (by
                rw [hreq]
                have := ht1.rcd
                rw [htk, show at' + 1 + k = at' + (k + 1) by omega] at this
                simp only [sub, List.drop_zero] at this
                exact fun hne => hne this)]
              refine hEnd (by kernel_rfl) ?_; refine Run.sub (e := [(6, _), (7, _), (8, _), (18, _), (187, _)]) ?_ (by repeat (first | exact Sub.nil | refine Sub.cons rfl ?_))
              refine run_false rfl ?_; refine run_skip ?_; refine run_seq ?_; refine run_reg rfl ?_; refine rVal rfl rfl (ymv rfl) ?_
              have hTl : Sl w4 (.slice ta k tc) 54 2 t.length (wrs t) := by
                rw [htk, ← ht5]; exact hST.ext (hx2.trans hx24)
              have p6 := hx24.blk h62
              refine rEffP rfl (zst ti38 rfl rfl rfl p6 (by simp)) ?_
              rintro wm1 ⟨hm61, hkm1⟩
              have hm71 := hkm1.blk (hx24.blk h72) (by omega)
              have hm81 := hkm1.blk (hx24.blk h82) (by omega)
              refine rEffP rfl (zst ti4 rfl rfl rfl hm71 (by simp)) ?_
              rintro wm2 ⟨hm72, hkm2⟩
              have hm82 := hkm2.blk hm81 (by omega)
              refine rEffP rfl (zst ti27 rfl rfl rfl hm82 (by simp)) ?_
              rintro wm3 ⟨hm83, hkm3⟩
              refine rEnd ?_
              have hkm0 : Kp (fun k => k = b6 ∨ k = b7 ∨ k = b8) w4 wm3 := ((hkm1.mono' fun k h => .inl h).trans (hkm2.mono' fun k h => .inr (.inl h))).trans (hkm3.mono' fun k h => .inr (.inr h))
              have hkm' : Kp (fun k => k = b6 ∨ k = b7 ∨ k = b8) w2 wm3 := (hx24.mono' fun k h => h.elim).trans hkm0
              obtain ⟨hf1, hf2, hf3⟩ := hfin wm3 hkm'
              have hkf := kp_putObj wm3 wa.heap.size (.deferred none)
              have g6 := hkf.blk (hkm3.blk (hkm2.blk hm61 (by omega)) (by omega)) (by omega)
              have g7 := hkf.blk (hkm3.blk hm72 (by omega)) (by omega)
              have g8 := hkf.blk hm83 (by omega)
              refine run_retRM (by simp) (marked1 hf3) Try.func37 (.cell1 Try.underlying38 rfl rfl ((g6).cell _) (.cell1 Try.underlying4 rfl rfl ((g7).cell _) (.cell1 Try.underlying27 rfl rfl ((g8).cell _) .nil))) ?_; refine ⟨_, rfl, hf1, hf2, .inl ⟨t, _, ht1, ht2, ht3, ht4, rfl, (hTl.kp hkm0 (fun j hj h => ?_)).kp hkf (fun j hj h => ?_), fun j hj => ?_⟩⟩
              · have := hoT j hj; omega
              · have := hoT j hj; omega
              · have := hoT j hj; omega
          case hmain =>
            refine run_draw (fun w' => Ext wi w') (by kernel_rfl) rfl ?_; refine hTake (i := 0) rfl (by kernel_rfl) rfl rfl (fun _ hS => yld Try.underlying34 rfl rfl (hS.blk hB3w) rfl) (h0w) ?_; refine hTake (i := 1) rfl (by kernel_rfl) rfl rfl (fun _ hS => ymv rfl) (h0w) ?_; refine hOne (i := 2) (by kernel_rfl) ?_
            refine nCall (i := 2) rfl rfl rfl (yc (args := [.tmp 141, .tmp 142]) cf40 rfl) (check_retJ (rdTx g base at' k) _ hg (by rw [rdTx_length]; exact (hST.ext h0w).rd) (by rw [rdTx_length]; omega) (fun x hx => by have := (hrl x hx).1; omega) (JnM.ext (p := p) (g := g) hJw h0w) (hAw.ext h0w) hDB hDN) ?_
            rintro _ w2 ⟨e, rfl, he1, he2, hx2⟩
            refine ⟨h0w.trans hx2, ?_⟩
            have hx02 := h0w.trans hx2
            refine hTake (i := 3) rfl (by kernel_rfl) rfl rfl (fun _ hS => yne rfl rfl) (h0w.trans hx2) ?_; refine rh_if (fun c1 => ?_) (fun c1 => ?_)
            · skip
              refine hTake (i := 4) rfl (by kernel_rfl) rfl rfl (fun _ hS => ymv rfl) (h0w.trans hx2) ?_; refine hSkip (i := 5) rfl (by kernel_rfl) rfl rfl (h0w.trans hx2) ?_; refine hSkip (i := 6) rfl (by kernel_rfl) rfl rfl (h0w.trans hx2) ?_; refine hSkip (i := 7) rfl (by kernel_rfl) rfl rfl (h0w.trans hx2) ?_; refine hSkip (i := 8) rfl (by kernel_rfl) rfl rfl (h0w.trans hx2) ?_; refine hSkip (i := 9) rfl (by kernel_rfl) rfl rfl (h0w.trans hx2) ?_; refine hSkip (i := 10) rfl (by kernel_rfl) rfl rfl (h0w.trans hx2) ?_; refine hSkip (i := 11) rfl (by kernel_rfl) rfl rfl (h0w.trans hx2) ?_
              refine hSkip (i := 12) rfl (by kernel_rfl) rfl rfl (h0w.trans hx2) ?_; refine hSkip (i := 13) rfl (by kernel_rfl) rfl rfl (h0w.trans hx2) ?_; refine hSkip (i := 14) rfl (by kernel_rfl) rfl rfl (h0w.trans hx2) ?_; refine hTake (i := 15) rfl (by kernel_rfl) rfl rfl (fun _ hS => ypT rfl rfl) (h0w.trans hx2) ?_; refine hTake (i := 16) rfl (by kernel_rfl) rfl rfl (fun _ hS => ymv rfl) (h0w.trans hx2) ?_; refine hSkip (i := 17) rfl (by kernel_rfl) rfl rfl (h0w.trans hx2) ?_; refine hSkip (i := 18) rfl (by kernel_rfl) rfl rfl (h0w.trans hx2) ?_
              refine hSkip (i := 19) rfl (by kernel_rfl) rfl rfl (h0w.trans hx2) ?_; refine hTake (i := 20) rfl (by kernel_rfl) rfl rfl (fun _ hS => ypT rfl rfl) (h0w.trans hx2) ?_; refine hTake (i := 21) rfl (by kernel_rfl) rfl rfl (fun _ hS => ymv rfl) (h0w.trans hx2) ?_; refine hSkip (i := 22) rfl (by kernel_rfl) rfl rfl (h0w.trans hx2) ?_; refine hSkip (i := 23) rfl (by kernel_rfl) rfl rfl (h0w.trans hx2) ?_; refine hSkip (i := 24) rfl (by kernel_rfl) rfl rfl (h0w.trans hx2) ?_; refine hSkip (i := 25) rfl (by kernel_rfl) rfl rfl (h0w.trans hx2) ?_
              refine hSkip (i := 26) rfl (by kernel_rfl) rfl rfl (h0w.trans hx2) ?_; refine hSkip (i := 27) rfl (by kernel_rfl) rfl rfl (h0w.trans hx2) ?_; refine hSkip (i := 28) rfl (by kernel_rfl) rfl rfl (h0w.trans hx2) ?_; refine hSkip (i := 29) rfl (by kernel_rfl) rfl rfl (h0w.trans hx2) ?_; refine hSkip (i := 30) rfl (by kernel_rfl) rfl rfl (h0w.trans hx2) ?_; refine hTake (i := 31) rfl (by kernel_rfl) rfl rfl (fun _ hS => ypT rfl rfl) (h0w.trans hx2) ?_; refine hEnd (by kernel_rfl) ?_
              refine Run.sub (e := [(3, _), (6, _), (7, _), (8, _), (9, _), (15, _), (16, _), (17, _), (18, _), (172, _)]) ?_ (by repeat (first | exact Sub.nil | refine Sub.cons rfl ?_))
              refine (hk _ _ ⟨true, rfl, fun _ => ?_, fun h => (by cases h), hx02⟩).sub (by repeat (first | exact Sub.nil | refine Sub.cons rfl ?_))
              rcases hcase with ⟨t, ht1, ht2, ht3, ht4⟩ | hnr
              · exact absurd (he1 (by rw [hTx t ht1 ht2 ht3 ht4]; exact ht2)) (by omega)
              · exact hnr
            · skip
              refine hTake (i := 4) rfl (by kernel_rfl) rfl rfl (fun _ hS => ymv rfl) (h0w.trans hx2) ?_; refine hTake (i := 5) rfl (by kernel_rfl) rfl rfl (fun _ hS => (by first | exact yld Try.underlying34 rfl rfl (hS.blk hB3w) rfl | exact yld Try.underlying34 rfl rfl (hS.blk hJw) rfl | exact yld Try.underlying34 rfl rfl (hS.blk hB9w) rfl)) (h0w.trans hx2) ?_; refine hTake (i := 6) rfl (by kernel_rfl) rfl rfl (fun _ hS => (by first | exact ync rfl | exact yncf rfl)) (h0w.trans hx2) ?_; refine hTake (i := 7) rfl (by kernel_rfl) rfl rfl (fun _ hS => yfa fl82_1 rfl) (h0w.trans hx2) ?_
              refine hTake (i := 8) rfl (by kernel_rfl) rfl rfl (fun _ hS => yfa fl76_2 rfl) (h0w.trans hx2) ?_; refine hTake (i := 9) rfl (by kernel_rfl) rfl rfl (fun _ hS => (by first | exact yld Try.underlying58 rfl rfl (hS.blk hB3w) rfl | exact yld Try.underlying58 rfl rfl (hS.blk hJw) rfl | exact yld Try.underlying58 rfl rfl (hS.blk hB9w) rfl)) (h0w.trans hx2) ?_; refine hTake (i := 10) rfl (by kernel_rfl) rfl rfl (fun _ hS => ymv rfl) (h0w.trans hx2) ?_
              refine hTake (i := 11) rfl (by kernel_rfl) rfl rfl (fun _ hS => (by first | exact yld Try.underlying3 rfl rfl (hS.blk hB3w) rfl | exact yld Try.underlying3 rfl rfl (hS.blk hJw) rfl | exact yld Try.underlying3 rfl rfl (hS.blk hB9w) rfl)) (h0w.trans hx2) ?_; refine hTake (i := 13) rfl (by kernel_rfl) rfl rfl (fun _ hS => ymv rfl) (h0w.trans hx2) ?_; refine hOne (i := 12) (by kernel_rfl) ?_
              refine nCall (i := 12) rfl rfl rfl (yc (args := [.tmp 150, .tmp 151, .tmp 152]) cf44 rfl) (descriptor_ret J.number (rdTx g base at' k) g.size _ _ (by rw [rdTx_length]; exact (hST.ext hx02).rd) (fun x hx => ⟨(hrl x hx).2.1, (hrl x hx).2.2, by have := (hrl x hx).1; omega⟩) (by rw [rdTx_length]; exact hkm) (by omega) hJn) ?_
              rintro _ w3 ⟨rfl, hx3⟩
              refine ⟨hx02.trans hx3, ?_⟩
              have hx03 := hx02.trans hx3
              refine hTake (i := 14) rfl (by kernel_rfl) rfl rfl (fun _ hS => yneS rfl rfl) (hx02.trans hx3) ?_; refine rh_if (fun c2 => ?_) (fun c2 => ?_)
              · skip
                refine hTake (i := 15) rfl (by kernel_rfl) rfl rfl (fun _ hS => ypF rfl rfl) (hx02.trans hx3) ?_; refine hTake (i := 16) rfl (by kernel_rfl) rfl rfl (fun _ hS => ymv rfl) (hx02.trans hx3) ?_; refine hSkip (i := 17) rfl (by kernel_rfl) rfl rfl (hx02.trans hx3) ?_; refine hSkip (i := 18) rfl (by kernel_rfl) rfl rfl (hx02.trans hx3) ?_; refine hSkip (i := 19) rfl (by kernel_rfl) rfl rfl (hx02.trans hx3) ?_; refine hTake (i := 20) rfl (by kernel_rfl) rfl rfl (fun _ hS => ypT rfl rfl) (hx02.trans hx3) ?_
                refine hTake (i := 21) rfl (by kernel_rfl) rfl rfl (fun _ hS => ymv rfl) (hx02.trans hx3) ?_; refine hSkip (i := 22) rfl (by kernel_rfl) rfl rfl (hx02.trans hx3) ?_; refine hSkip (i := 23) rfl (by kernel_rfl) rfl rfl (hx02.trans hx3) ?_; refine hSkip (i := 24) rfl (by kernel_rfl) rfl rfl (hx02.trans hx3) ?_; refine hSkip (i := 25) rfl (by kernel_rfl) rfl rfl (hx02.trans hx3) ?_; refine hSkip (i := 26) rfl (by kernel_rfl) rfl rfl (hx02.trans hx3) ?_; refine hSkip (i := 27) rfl (by kernel_rfl) rfl rfl (hx02.trans hx3) ?_
                refine hSkip (i := 28) rfl (by kernel_rfl) rfl rfl (hx02.trans hx3) ?_; refine hSkip (i := 29) rfl (by kernel_rfl) rfl rfl (hx02.trans hx3) ?_; refine hSkip (i := 30) rfl (by kernel_rfl) rfl rfl (hx02.trans hx3) ?_; refine hTake (i := 31) rfl (by kernel_rfl) rfl rfl (fun _ hS => ypT rfl rfl) (hx02.trans hx3) ?_; refine hEnd (by kernel_rfl) ?_; refine Run.sub (e := [(3, _), (6, _), (7, _), (8, _), (9, _), (15, _), (16, _), (17, _), (18, _), (172, _)]) ?_ (by repeat (first | exact Sub.nil | refine Sub.cons rfl ?_))
                refine (hk _ _ ⟨true, rfl, fun _ => ?_, fun h => (by cases h), hx03⟩).sub (by repeat (first | exact Sub.nil | refine Sub.cons rfl ?_))
                rcases hcase with ⟨t, ht1, ht2, ht3, ht4⟩ | hnr
                · exact absurd (by rw [hTx t ht1 ht2 ht3 ht4, ht1.desc]) c2
                · exact hnr
              · skip
                have c2' := Classical.not_not.1 c2
                refine hTake (i := 15) rfl (by kernel_rfl) rfl rfl (fun _ hS => ypF rfl rfl) (hx02.trans hx3) ?_; refine hTake (i := 16) rfl (by kernel_rfl) rfl rfl (fun _ hS => ymv rfl) (hx02.trans hx3) ?_; refine hTake (i := 17) rfl (by kernel_rfl) rfl rfl (fun _ hS => ymv rfl) (hx02.trans hx3) ?_; refine hTake (i := 18) rfl (by kernel_rfl) rfl rfl (fun _ hS => yslSt Try.underlying9 rfl rfl (by omega)) (hx02.trans hx3) ?_; refine hTake (i := 19) rfl (by kernel_rfl) rfl rfl (fun _ hS => yneS rfl rfl) (hx02.trans hx3) ?_; refine rh_if (fun c3 => ?_) (fun c3 => ?_)
                · skip
                  refine hTake (i := 20) rfl (by kernel_rfl) rfl rfl (fun _ hS => ypF rfl rfl) (hx02.trans hx3) ?_; refine hTake (i := 21) rfl (by kernel_rfl) rfl rfl (fun _ hS => ymv rfl) (hx02.trans hx3) ?_; refine hSkip (i := 22) rfl (by kernel_rfl) rfl rfl (hx02.trans hx3) ?_; refine hSkip (i := 23) rfl (by kernel_rfl) rfl rfl (hx02.trans hx3) ?_; refine hSkip (i := 24) rfl (by kernel_rfl) rfl rfl (hx02.trans hx3) ?_; refine hSkip (i := 25) rfl (by kernel_rfl) rfl rfl (hx02.trans hx3) ?_; refine hSkip (i := 26) rfl (by kernel_rfl) rfl rfl (hx02.trans hx3) ?_
                  refine hSkip (i := 27) rfl (by kernel_rfl) rfl rfl (hx02.trans hx3) ?_; refine hSkip (i := 28) rfl (by kernel_rfl) rfl rfl (hx02.trans hx3) ?_; refine hSkip (i := 29) rfl (by kernel_rfl) rfl rfl (hx02.trans hx3) ?_; refine hSkip (i := 30) rfl (by kernel_rfl) rfl rfl (hx02.trans hx3) ?_; refine hTake (i := 31) rfl (by kernel_rfl) rfl rfl (fun _ hS => ypT rfl rfl) (hx02.trans hx3) ?_; refine hEnd (by kernel_rfl) ?_
                  refine Run.sub (e := [(3, _), (6, _), (7, _), (8, _), (9, _), (15, _), (16, _), (17, _), (18, _), (172, _)]) ?_ (by repeat (first | exact Sub.nil | refine Sub.cons rfl ?_))
                  refine (hk _ _ ⟨true, rfl, fun _ => ?_, fun h => (by cases h), hx03⟩).sub (by repeat (first | exact Sub.nil | refine Sub.cons rfl ?_))
                  rcases hcase with ⟨t, ht1, ht2, ht3, ht4⟩ | hnr
                  · have hl1 := hTx t ht1 ht2 ht3 ht4
                    have hl2 : t.length = k := by rw [← hl1, rdTx_length]
                    have := (tx_last ht1).1
                    rw [hl2, show at' + 1 + k = at' + (k + 1) by omega] at this
                    exact absurd (by rw [show (base (g.place (at' + (k + 1)))).take 4 = sub (base (g.place (at' + (k + 1)))) 0 4 from by simp [sub]]; exact this) c3
                  · exact hnr
                · skip
                  have c3' := Classical.not_not.1 c3
                  have c3'' : sub (base (g.place (at' + (k + 1)))) 0 4 = rcB := by rw [show sub (base (g.place (at' + (k + 1)))) 0 4 = (base (g.place (at' + (k + 1)))).take 4 from by simp [sub]]; exact c3'
                  refine hTake (i := 20) rfl (by kernel_rfl) rfl rfl (fun _ hS => ypF rfl rfl) (hx02.trans hx3) ?_; refine hTake (i := 21) rfl (by kernel_rfl) rfl rfl (fun _ hS => ymv rfl) (hx02.trans hx3) ?_; refine hTake (i := 22) rfl (by kernel_rfl) rfl rfl (fun _ hS => ymv rfl) (hx02.trans hx3) ?_; refine hTake (i := 23) rfl (by kernel_rfl) rfl rfl (fun _ hS => yslSf Try.underlying9 rfl rfl (by omega)) (hx02.trans hx3) ?_
                  refine hTake (i := 25) rfl (by kernel_rfl) rfl rfl (fun _ hS => (by first | exact yld Try.underlying34 rfl rfl (hS.blk hB3w) rfl | exact yld Try.underlying34 rfl rfl (hS.blk hJw) rfl | exact yld Try.underlying34 rfl rfl (hS.blk hB9w) rfl)) (hx02.trans hx3) ?_; refine hTake (i := 26) rfl (by kernel_rfl) rfl rfl (fun _ hS => (by first | exact ync rfl | exact yncf rfl)) (hx02.trans hx3) ?_; refine hTake (i := 27) rfl (by kernel_rfl) rfl rfl (fun _ hS => yfa fl82_1 rfl) (hx02.trans hx3) ?_
                  refine hTake (i := 28) rfl (by kernel_rfl) rfl rfl (fun _ hS => yfa fl76_2 rfl) (hx02.trans hx3) ?_; refine hTake (i := 29) rfl (by kernel_rfl) rfl rfl (fun _ hS => (by first | exact yld Try.underlying58 rfl rfl (hS.blk hB3w) rfl | exact yld Try.underlying58 rfl rfl (hS.blk hJw) rfl | exact yld Try.underlying58 rfl rfl (hS.blk hB9w) rfl)) (hx02.trans hx3) ?_; refine hOne (i := 24) (by kernel_rfl) ?_; refine nCall (i := 24) rfl rfl rfl (yc (args := [.tmp 164]) cf63 rfl) (u64_ret ((base (g.place (at' + (k + 1)))).drop 4) _ (by simp; omega)) ?_
                  rintro _ w4 ⟨rfl, hx4⟩
                  refine ⟨hx03.trans hx4, ?_⟩
                  have hx04 := hx03.trans hx4
                  rw [show numB (((base (g.place (at' + (k + 1)))).drop 4).take 8) = numB (sub (base (g.place (at' + (k + 1)))) 4 8) from rfl]
                  refine hTake (i := 30) rfl (by kernel_rfl) rfl rfl (fun _ hS => yne rfl rfl) (hx03.trans hx4) ?_; refine rh_if (fun c4 => ?_) (fun c4 => ?_)
                  · skip
                    refine hTake (i := 31) rfl (by kernel_rfl) rfl rfl (fun _ hS => ypF rfl rfl) (hx03.trans hx4) ?_; refine hEnd (by kernel_rfl) ?_; refine Run.sub (e := [(3, _), (6, _), (7, _), (8, _), (9, _), (15, _), (16, _), (17, _), (18, _), (172, _)]) ?_ (by repeat (first | exact Sub.nil | refine Sub.cons rfl ?_))
                    refine (hk _ _ ⟨true, rfl, fun _ => ?_, fun h => (by cases h), hx04⟩).sub (by repeat (first | exact Sub.nil | refine Sub.cons rfl ?_))
                    rcases hcase with ⟨t, ht1, ht2, ht3, ht4⟩ | hnr
                    · have hl1 := hTx t ht1 ht2 ht3 ht4
                      have hl2 : t.length = k := by rw [← hl1, rdTx_length]
                      have := (tx_last ht1).2
                      rw [hl2, show at' + 1 + k = at' + (k + 1) by omega] at this
                      exact absurd (by rw [this, numB_fixB, Nat.mod_eq_of_lt (by simpa using hJn)]) c4
                    · exact hnr
                  · skip
                    have c4' : numB (sub (base (g.place (at' + (k + 1)))) 4 8) = J.number := by omega
                    refine hTake (i := 31) rfl (by kernel_rfl) rfl rfl (fun _ hS => ypF rfl rfl) (hx03.trans hx4) ?_; refine hEnd (by kernel_rfl) ?_; refine Run.sub (e := [(3, _), (6, _), (7, _), (8, _), (9, _), (15, _), (16, _), (17, _), (18, _), (172, _)]) ?_ (by repeat (first | exact Sub.nil | refine Sub.cons rfl ?_))
                    refine (hk _ _ ⟨false, rfl, fun h => (by cases h), fun _ => ?_, hx04⟩).sub (by repeat (first | exact Sub.nil | refine Sub.cons rfl ?_))
                    rcases hcase with ⟨t, ht1, ht2, ht3, ht4⟩ | hnr
                    · exact ⟨t, ht1, ht2, ht3, ht4, hTx t ht1 ht2 ht3 ht4⟩
                    · have hsl : (sub (base (g.place (at' + (k + 1)))) 4 8).length = 8 := sub_length (by omega)
                      have := hnr (at' + (k + 1)) J.number hJn (front_of c3'' (sub_self_eq (n := 0) rfl c4' hsl))
                      omega
end
end Go.Proofs.Ytkhkebcflaokpaa
namespace Go.Proofs.Ytkhkebcflaokpaa
open Go Go.RowKit
set_option linter.all false
set_option maxRecDepth 100000

/-- A journal opened: nothing is in the ring, nothing is written and not safe. -/
def Fresh (g : Geo) (D : Dev) (J : Jn) (was : Cont) (K : Nat) : Prop := ∃ base h a, Up D g base [] ∧ Good g base h a [] ∧ (∀ n, g.out n → base n = was n) ∧ J = ⟨h.own, h.tail, h.number, a, 0, false⟩ ∧ h.own ≤ K ∧ h.number ≤ K
theorem Fresh.live {g : Geo} {D : Dev} {J : Jn} {was : Cont} {K : Nat} (h : Fresh g D J was K) : LiveJ g D J was K := by
  obtain ⟨base, h, a, U, G, hw, e, k1, k2⟩ := h
  exact ⟨base, [], h, a, [], U, ⟨G, fun x hx => (by cases hx), fun n hn => by rw [List.flatten_nil, nowOf_nil]; exact hw n hn⟩, fun n hn => by rw [nowOf_nil]; exact hw n hn, by rw [e]; rfl, k1, k2⟩

theorem tx_rec {g : Geo} {f : Cont} {i num : Nat} {t : Tx} (h : TxAt g f i num t) (hn : num < 18446744073709551616) : ¬ NoRec g f num := fun hr => by
  have h1 := tx_last h
  have := hr _ num hn (front_of h1.1 h1.2)
  omega
theorem tx_uniq {g : Geo} {f : Cont} {i num : Nat} {t t' : Tx} (hg : g.Ok) (hn : num < 18446744073709551616) (h : TxAt g f i num t) (ht : TxOk g t) (hne : t ≠ []) (h' : TxAt g f i num t') (ht' : TxOk g t') (hne' : t' ≠ []) : t = t' := by
  have e1 := (hdOk_tx hg h ht hne (Nat.le_refl _) hn).2
  have e2 := (hdOk_tx hg h' ht' hne' (Nat.le_refl _) hn).2
  have e : t.length = t'.length := by rw [← e1, e2]
  rw [← rdTx_tx hg h ht, ← rdTx_tx hg h' ht', e]
section
variable {w : World} {p : Nat} {D : Dev} {F : Nat → Prop} {g : Geo}
set_option maxHeartbeats 4000000 in
theorem open_ret {f was : Cont} {h : Hd} {a K c : Nat} {T : List Tx} (hg : g.Ok) (hgs : g.s ≤ 1000) (hL100 : g.L ≤ 100) (hA : DevA w p D F) (hU : Up D g f []) (G : Good g f h a T) (hw : ∀ n, g.out n → nowOf f T.flatten n = was n) (hK : K ≤ 10000000) (hk1 : h.own ≤ K) (hk2 : h.number + T.length ≤ K) (hsm : D.Small c) (hc : c ≤ 780000) :
    Ret Try.prog 9 [ptr p 0, I (g.s : Int), I ((g.L + 2 : Nat) : Int)] w fun v w' =>
      (∃ q, v = .tuple #[ptr q 0, I (T.length : Int), I 0] ∧ w.heap.size ≤ q ∧ ∃ D' J' F', JnM w' q p g J' ∧ DevA w' p D' F' ∧ Kp F w w' ∧ (∀ i, F' i → (F i ∨ w.heap.size ≤ i) ∧ i ≠ q) ∧ Fresh g D' J' was (K + 1) ∧ D'.Small (c + (60 * g.L + 300)) ∧ (D.due = 0 → D'.due = 0)) ∨
      (v = .tuple #[.pointer none, I 0, I 8] ∧ ∃ D' f' F', DevA w' p D' F' ∧ Kp F w w' ∧ (∀ i, F' i → F i ∨ w.heap.size ≤ i) ∧ Fell D' g f' ∧ Dsk g f' (K + 1) was ∧ D'.Small (c + (60 * g.L + 300)) ∧ D.due ≠ 0 ∧ T ≠ []) := by
  have hml : maxLen = 9223372036854775807 := rfl
  have hgB := hg.hB
  have hgN := hg.hN
  have hgL := hg.hL
  have hFl := hA.lt
  have htl := G.tail
  have hr0 := G.room
  refine ret_of_run (e := [(0, _), (1, _), (2, _)]) Try.func9 rfl Try.ntmps9 rfl rfl ?_; refine run_seq ?_; refine run_reg rfl ?_; refine rVal rfl rfl (yas rfl) ?_; refine rVal rfl rfl (yas rfl) ?_; refine rVal rfl rfl (yas rfl) ?_; refine rEnd ?_; refine run_seq ?_; refine run_reg rfl ?_; refine rVal rfl rfl (ymv rfl) ?_; refine rVal rfl rfl (ymv rfl) ?_; refine rVal rfl rfl (ymv rfl) ?_; refine rVal rfl rfl (ybd (parts := [(0, .tmp 19), (1, .tmp 20), (2, .tmp 21)]) (cs := [_, _, _]) ti68 rfl sp68 rfl rfl) ?_
  refine rVal rfl rfl (ybd (parts := [(0, .tmp 22)]) (cs := [_, _, _, _, _, _, _, _, _]) ti82 rfl sp82 rfl rfl) ?_; refine rValP rfl rfl (pbx rfl (cs := jl p g 0 0 0 0 0 false) rfl) ?_
  rintro _ w1 ⟨q, rfl, hq1, hx1, hB1⟩
  have hs1 := hx1.size
  have hA1 := hA.ext hx1
  have hqF : ¬ F q := fun hf => by have := hFl q hf; omega
  have hJ1 : JnM w1 q p g ⟨0, 0, 0, 0, 0, false⟩ := hB1
  refine rVal rfl rfl (yas rfl) ?_; refine rEnd ?_; refine run_seq ?_; refine run_seq ?_; refine run_reg rfl ?_; refine rVal rfl rfl (ymv rfl) ?_; refine rVal rfl rfl ((by first | exact ync rfl | exact yncf rfl)) ?_; refine rVal rfl rfl (yfa fl82_0 rfl) ?_; refine rVal rfl rfl (yldA Try.underlying68 rfl ti68 rfl (Blk.cells (n := 3) hB1 (news := [_, _, _]) rfl) rfl) ?_; refine rCall rfl rfl (yc (args := [.tmp 28]) cf27 rfl) (readyJ_ret hA1 hU.hB hg) ?_
  rintro _ w2 ⟨rfl, hx2⟩
  rw [hU.down]
  refine rVal rfl rfl (yas rfl) ?_; refine rEnd ?_; refine run_seq ?_; refine run_reg rfl ?_; refine rVal rfl rfl (ymv rfl) ?_; refine rVal rfl rfl (yne rfl rfl) ?_; refine rEnd ?_; refine run_false rfl ?_; refine run_skip ?_; refine run_seq ?_; refine run_seq ?_; refine run_reg rfl ?_; refine rVal rfl rfl (ymv rfl) ?_; refine rCall rfl rfl (yc (args := [.tmp 33]) cf35 rfl) (find_ret (C := []) hg hgs (hJ1.ext hx2) (hA1.ext hx2) hU G hqF hsm (by omega)) ?_
  rintro _ w3 ⟨rfl, hJ3, F3, hA3, hk3, hF3⟩
  have hGk := G.hok
  have hs2 := hx2.size
  have hs3 := hk3.size
  refine rVal rfl rfl ((by first | exact yntd rfl | exact ynt rfl)) ?_; refine rEnd ?_; refine run_false rfl ?_
  have hB3 : Blk w3 q (jl p g h.own h.tail h.number a 0 false) 82 := hJ3
  refine run_skip ?_; refine run_seq ?_; refine run_draw (fun w' => Ext w3 w') (by kernel_rfl) rfl ?_; refine hTake (i := 0) rfl (by kernel_rfl) rfl rfl (fun _ hS => ymv rfl) (Ext.drew0 w3) ?_; refine hTake (i := 1) rfl (by kernel_rfl) rfl rfl (fun _ hS => (by first | exact ync rfl | exact yncf rfl)) (Ext.drew0 w3) ?_; refine hTake (i := 2) rfl (by kernel_rfl) rfl rfl (fun _ hS => yfa fl82_1 rfl) (Ext.drew0 w3) ?_; refine hTake (i := 3) rfl (by kernel_rfl) rfl rfl (fun _ hS => yfa fl76_1 rfl) (Ext.drew0 w3) ?_
  refine hTake (i := 4) rfl (by kernel_rfl) rfl rfl (fun _ hS => yld Try.underlying3 rfl rfl (hS.blk hB3) rfl) (Ext.drew0 w3) ?_; refine hTake (i := 5) rfl (by kernel_rfl) rfl rfl (fun _ hS => yas rfl) (Ext.drew0 w3) ?_; refine hTake (i := 6) rfl (by kernel_rfl) rfl rfl (fun _ hS => yas rfl) (Ext.drew0 w3) ?_; refine hEnd (by kernel_rfl) ?_; refine Run.sub (e := [(6, _), (7, _), (8, _), (9, _), (11, _), (12, _)]) ?_ (by repeat (first | exact Sub.nil | refine Sub.cons rfl ?_))
  refine run_seq ?_; refine run_seq ?_; refine run_reg rfl ?_; refine rVal rfl rfl (ymv rfl) ?_; refine rVal rfl rfl ((by first | exact ync rfl | exact yncf rfl)) ?_; refine rVal rfl rfl (yfa fl82_0 rfl) ?_; refine rVal rfl rfl (yldA Try.underlying68 rfl ti68 rfl (Blk.cells (n := 3) ((Ext.drew0 w3).blk hB3) (news := [_, _, _]) rfl) rfl) ?_; refine rCall rfl rfl (yc (args := [.tmp 44]) cf36 rfl) (ring_ret p g hg _) ?_
  rintro _ w4 ⟨rfl, hx4⟩
  have hx34 := (Ext.drew0 w3).trans hx4
  have hs34 := hx34.size
  have hF4 : ∀ i, F3 i → (F i ∨ w1.heap.size ≤ i) ∧ i ≠ q := fun i hi => by
    rcases hF3 i hi with h | h
    · exact ⟨.inl h, fun e => by subst e; exact hqF h⟩
    · exact ⟨.inr (by omega), fun e => by have := hB1.lt; omega⟩
  refine rVal rfl rfl (yas rfl) ?_; refine rEnd ?_; refine run_block ?_; refine run_cut2 (fun e' w' => e' = [(9, ptr q 0), (11, I (T.length : Int)), (12, I ((h.tail + room T : Nat) : Int))] ∧ ∃ D' Fi, JnM w' q p g ⟨h.own, h.tail, h.number + T.length, a, 0, false⟩ ∧ DevA w' p D' Fi ∧ (∀ i, Fi i → (F i ∨ w1.heap.size ≤ i) ∧ i ≠ q) ∧ Kp (fun k => F k ∨ k = q) w1 w' ∧ Up D' g f T.flatten ∧ D'.Small (c + (60 * g.L + 200)) ∧ (D.due = 0 → D'.due = 0)) ?hk (fun hk => ?hmain)
  case hk =>
    rintro _ wc ⟨rfl, D1, Fc, hJc, hAc, hFc, hkc, hUc, hsc, hdc⟩
    have hS1 : Safe g f T.flatten h a T was := ⟨G, fun x hx => ⟨x, hx, rfl⟩, hw⟩
    have hqc : ¬ Fc q := fun hf => (hFc q hf).2 rfl
    have hlT := len_room T
    refine run_seq ?_; refine run_seq ?_; refine run_reg rfl ?_; refine rVal rfl rfl (ymv rfl) ?_; refine rVal rfl rfl (ygt rfl rfl) ?_; refine rEnd ?_; refine run_if rfl (fun hd => ?_) (fun hd => ?_)
    · skip
      refine run_seq ?_; refine run_reg rfl ?_; refine rVal rfl rfl (ymv rfl) ?_; refine rVal rfl rfl (ymv rfl) ?_
      have hga := G.ha
      have hJo : Jn.Ok ⟨h.own, h.tail, h.number + T.length, a, 0, false⟩ := ⟨by show h.own < _; omega, by show h.tail < _; omega, by show h.number + T.length < _; omega, hga, by show 0 < _; omega⟩
      refine rCall rfl rfl (yc (args := [.tmp 91, .tmp 92]) cf39 rfl) (turn_ret (h.tail + room T) (by omega) hg hgs hJc hJo hAc hUc.hN hqc hsc (by omega)) ?_
      rintro v8 w8 ⟨hv8, hJ8, hQ8⟩
      replace hv8 : v8 = I (runS D1 (turnS g h a T)).2 := hv8
      have hok : (h.next g T).Ok := ⟨by show h.own + 1 < _; omega, by show (h.tail + room T) % g.L < _; have := Nat.mod_lt (h.tail + room T) (show 0 < g.L by omega); omega, by show h.number + T.length < _; omega⟩
      have hS8 := small_runS (turnS g h a T) hsc
      rw [turnS_len] at hS8
      obtain ⟨F8, hA8, hk8, hF8⟩ := hQ8
      have hs8 := hkc.size
      have hs9 := hx1.size
      have hk08 : Kp F w w8 := hx1.kp.trans_new (hkc.trans_new hk8 (fun i hi => by
        rcases hi with h' | h'
        · rcases (hFc i h').1 with h'' | h''
          · exact .inr (.inl h'')
          · exact .inl h''
        · exact .inr (.inr h'))) (fun i hi => by
        rcases hi with h' | h'
        · exact .inr h'
        · exact .inl (by omega))
      have hF08 : ∀ i, F8 i → (F i ∨ w.heap.size ≤ i) ∧ i ≠ q := fun i hi => by
        rcases hF8 i hi with h' | h'
        · refine ⟨(hFc i h').1.imp id (fun h'' => by omega), (hFc i h').2⟩
        · exact ⟨.inr (by omega), fun e => by have := hJc.lt; omega⟩
      rcases runS_turn hg hUc hS1 hw hok (K := K + 1) (by omega) (by omega) with ⟨D', base', er, U, G', w', hdu⟩ | ⟨D', f', er, hdu, hFe, hR⟩
      · change DevA w8 p (runS D1 (turnS g h a T)).1 F8 at hA8
        rw [er] at hA8 hS8 hv8
        subst hv8
        refine rVal rfl rfl (yas rfl) ?_; refine rEnd ?_; refine run_seq ?_; refine run_reg rfl ?_; refine rVal rfl rfl (ymv rfl) ?_; refine rVal rfl rfl (yne rfl rfl) ?_; refine rEnd ?_; refine run_false rfl ?_; refine run_skip ?_; refine run_seq ?_; refine run_reg rfl ?_; refine rVal rfl rfl (ymv rfl) ?_; refine rVal rfl rfl (ymv rfl) ?_; refine rVal rfl rfl (yas rfl) ?_; refine rVal rfl rfl (yas rfl) ?_; refine rVal rfl rfl (yas rfl) ?_; refine rEnd ?_; refine run_ret Try.func9 rfl ?_
        exact ⟨_, rfl, .inl ⟨q, rfl, by omega, D', _, F8, hJ8, hA8, hk08, hF08, ⟨base', h.next g T, 1 - a, U, G', w', rfl, by show h.own + 1 ≤ _; omega, by show h.number + T.length ≤ _; omega⟩, hS8.mono (by omega), fun e => hdu (hdc e)⟩⟩
      · change DevA w8 p (runS D1 (turnS g h a T)).1 F8 at hA8
        rw [er] at hA8 hS8 hv8
        subst hv8
        refine rVal rfl rfl (yas rfl) ?_; refine rEnd ?_; refine run_seq ?_; refine run_reg rfl ?_; refine rVal rfl rfl (ymv rfl) ?_; refine rVal rfl rfl (yne rfl rfl) ?_; refine rEnd ?_; refine run_true rfl ?_; refine run_seq ?_; refine run_reg rfl ?_; refine rVal rfl rfl (ymv rfl) ?_; refine rVal rfl rfl (yas rfl) ?_; refine rVal rfl rfl (yas rfl) ?_; refine rVal rfl rfl (yas rfl) ?_; refine rEnd ?_; refine run_ret Try.func9 rfl ?_
        exact ⟨_, rfl, .inr ⟨rfl, D', f', F8, hA8, hk08, (fun i hi => (hF08 i hi).1), hFe, hR, hS8.mono (by omega), (fun e => hdu (hdc e)), (fun e => by subst e; simp at hd)⟩⟩
    · skip
      refine run_skip ?_; refine run_seq ?_; refine run_reg rfl ?_; refine rVal rfl rfl (ymv rfl) ?_; refine rVal rfl rfl (ymv rfl) ?_; refine rVal rfl rfl (yas rfl) ?_; refine rVal rfl rfl (yas rfl) ?_; refine rVal rfl rfl (yas rfl) ?_; refine rEnd ?_; refine run_ret Try.func9 rfl ?_
      have hT0 : T = [] := by
        cases T with
        | nil => rfl
        | cons t' r' => exact absurd (by simp only [List.length_cons]; omega) hd
      subst hT0
      exact ⟨_, rfl, .inl ⟨q, rfl, by omega, D1, _, Fc, hJc, hAc, hx1.kp.trans_new hkc (fun i hi => by
        rcases hi with h' | h'
        · exact .inr h'
        · exact .inl (by omega)), (fun i hi => ⟨(hFc i hi).1.imp id (fun h'' => by omega), (hFc i hi).2⟩), ⟨f, h, a, hUc, G, (fun n hn => by have := hw n hn; rwa [List.flatten_nil, nowOf_nil] at this), rfl, by omega, by omega⟩, hsc.mono (by omega), hdc⟩⟩
  case hmain =>
    refine run_loop (α := List Tx × Dev) (([], D.rds 2)) (fun x => [(9, ptr q 0), (11, I (x.1.length : Int)), (12, I ((h.tail + room x.1 : Nat) : Int)), (13, I ((g.L - room x.1 : Nat) : Int))]) (fun x w' => ∃ T2 Fi, T = x.1 ++ T2 ∧ JnM w' q p g ⟨h.own, h.tail, h.number + x.1.length, a, 0, false⟩ ∧ DevA w' p x.2 Fi ∧ (∀ i, Fi i → (F i ∨ w1.heap.size ≤ i) ∧ i ≠ q) ∧ Kp (fun k => F k ∨ k = q) w1 w' ∧ Up x.2 g f x.1.flatten ∧ x.2.Small (c + 2 + x.1.length * 110 + room x.1) ∧ (D.due = 0 → x.2.due = 0)) (fun x => T.length - x.1.length) (by repeat (first | exact Sub.nil | refine Sub.cons rfl ?_)) ?hI ?hround
    case hI => exact ⟨T, F3, rfl, hJ3.ext hx34, hA3.ext hx34, hF4, ((hx2.kp.trans hk3).trans hx34.kp), hU.rds 2, (hsm.rds 2).mono (by simp [room]), id⟩
    case hround =>
      rintro ⟨T1, Dk⟩ wi ⟨T2, Fi, hT, hJi, hAi, hFi, hki, hUi, hsi, hdi⟩ ih
      dsimp only at hT hJi hAi hUi hsi hdi
      have hrT : room T = room T1 + room T2 := by rw [hT, room_app]
      have hlT : T.length = T1.length + T2.length := by rw [hT]; simp
      have hqi : ¬ Fi q := fun hf => (hFi q hf).2 rfl
      try dsimp only
      refine run_seq ?_; refine run_seq ?_; refine run_reg rfl ?_; refine rVal rfl rfl (ymv rfl) ?_; refine rVal rfl rfl (ygt rfl rfl) ?_; refine rEnd ?_; refine run_if rfl (fun hlt => ?_) (fun hlt => ?_)
      · skip
        have hlen1 := len_room T1
        have hsmi : (Dk.Small (c + (60 * g.L + 100))) := hsi.mono (by omega)
        have hnum : h.number + T1.length < 18446744073709551616 := by omega
        have hCo : ∀ x ∈ T1.flatten, g.out x.1 := fun x hx => (G.outs x (by rw [hT]; simp only [List.flatten_append, List.mem_append]; exact .inl hx)).1
        have hcase : (∃ t, TxAt g f (h.tail + room T1) (h.number + T1.length) t ∧ TxOk g t ∧ t ≠ [] ∧ t.length + 2 ≤ g.L - room T1) ∨ NoRec g f (h.number + T1.length) := by
          have htx := G.txs
          rw [hT, txsAt_app] at htx
          cases T2 with
          | nil =>
            right
            have := G.norec
            rw [hlT] at this
            simpa using this
          | cons t r =>
            left
            have ho := G.ok t (by rw [hT]; simp)
            refine ⟨t, htx.2.1, ho.1, ho.2, ?_⟩
            simp only [room] at hrT
            omega
        refine run_skip ?_; refine run_seq ?_; refine run_block ?_; refine run_seq ?_; refine run_reg rfl ?_; refine rVal rfl rfl (ymv rfl) ?_; refine rVal rfl rfl (ymv rfl) ?_; refine rVal rfl rfl (ymv rfl) ?_; refine rCall rfl rfl (yc (args := [.tmp 51, .tmp 52, .tmp 53]) cf37 rfl) (stands_ret (h.tail + room T1) (g.L - room T1) hg hgs hJi hnum hAi hUi hCo hqi hsmi (by omega) (by omega) (by omega) hcase) ?_
        rintro _ w5 ⟨⟨r, hrr, F5, hA5, hk5, hF5⟩, hJ5, hres⟩
        clear hcase
        have hs5 := hk5.size
        have hsi1 := hki.size
        have hF5' : ∀ i, F5 i → (F i ∨ w1.heap.size ≤ i) ∧ i ≠ q := fun i hi => by
          rcases hF5 i hi with h' | h'
          · exact hFi i h'
          · exact ⟨.inr (by omega), fun e => by have := hJi.lt; omega⟩
        have hk15 : Kp (fun k => F k ∨ k = q) w1 w5 := hki.trans_new hk5 (fun i hi => by
          rcases hi with h' | h'
          · rcases (hFi i h').1 with h'' | h''
            · exact .inr (.inl h'')
            · exact .inl h''
          · exact .inr (.inr h'))
        rcases hres with ⟨t, tv, ht1, ht2, ht3, ht4, rfl, hSt, hot⟩ | ⟨hnr, rfl⟩
        · skip
          have hT2 : T2 = t :: T2.tail := by
            cases T2 with
            | nil =>
              have hn := G.norec
              rw [hlT] at hn
              exact absurd (by simpa using hn) (tx_rec ht1 hnum)
            | cons t' r' =>
              have htx := G.txs
              rw [hT, txsAt_app] at htx
              have ho := G.ok t' (by rw [hT]; simp)
              rw [tx_uniq hg hnum ht1 ht2 ht3 htx.2.1 ho.1 ho.2]; rfl
          have hT3 : T = T1 ++ t :: T2.tail := hT.trans (congrArg (T1 ++ ·) hT2)
          have hrt : room T2 = t.length + 2 + room T2.tail := congrArg room hT2
          have hln2 : T2.length = T2.tail.length + 1 := congrArg List.length hT2
          have hdom : ∀ x ∈ T1.flatten ++ t, domT T x.1 := fun x hx => ⟨x, by
            rw [hT3]
            simp only [List.flatten_append, List.flatten_cons, List.mem_append] at hx ⊢
            rcases hx with h' | h'
            · exact .inl h'
            · exact .inr (.inl h'), rfl⟩
          have hUr := hUi.rds r
          have hsr : (Dk.rds r).Small (c + 2 + T1.length * 110 + room T1 + 104) := (hsi.rds r).mono (by omega)
          have htl' : t.length + 2 ≤ 100 := by omega
          obtain ⟨va, vc, rfl, -⟩ := hSt.rd.shape
          refine rVal rfl rfl (ymv rfl) ?_; refine rVal rfl rfl (yex rfl rfl) ?_; refine rVal rfl rfl (yex rfl rfl) ?_; refine rVal rfl rfl (yex rfl rfl) ?_; refine rVal rfl rfl (yas rfl) ?_; refine rVal rfl rfl (yas rfl) ?_; refine rVal rfl rfl (yas rfl) ?_; refine rEnd ?_; refine run_seq ?_; refine run_seq ?_; refine run_reg rfl ?_; refine rVal rfl rfl (ymv rfl) ?_; refine rVal rfl rfl (yne rfl rfl) ?_; refine rEnd ?_; refine run_false rfl ?_; refine run_skip ?_; refine run_seq ?_; refine run_seq ?_; refine run_reg rfl ?_; refine rVal rfl rfl (ymv rfl) ?_
          refine rVal rfl rfl ((by first | exact yntd rfl | exact ynt rfl)) ?_; refine rEnd ?_; refine run_false rfl ?_; refine run_skip ?_; refine run_seq ?_; refine run_seq ?_; refine run_reg rfl ?_; refine rVal rfl rfl (ymv rfl) ?_; refine rVal rfl rfl (ymv rfl) ?_; refine rCall rfl rfl (yc (args := [.tmp 63, .tmp 64]) cf38 rfl) (home_ret t _ hSt.rd (by omega) hJ5) ?_
          rintro sv w6 ⟨hL6, hx6⟩
          refine rCall rfl rfl (yc (args := [.tmp 65]) cf32 rfl) (runL_ret hL6 (hA5.ext hx6) (fun i hi => hA5.lt i hi) hsr (by rw [puts_length]; omega)) ?_
          rintro _ w7 ⟨rfl, F7, hA7, hu7⟩
          have hrun := runS_puts t hUr (fun x hx => ⟨out_on (ht2.out x hx).1, (ht2.out x hx).2⟩) []
          rw [List.append_nil] at hrun
          have hsrun := small_runS (puts t) hsr
          rw [puts_length] at hsrun
          have hs6 := hx6.size
          have hs7 := hu7.1.size
          have hq5 : ¬ F5 q := fun hf => (hF5' q hf).2 rfl
          have hJ7 : JnM w7 q p g ⟨h.own, h.tail, h.number + T1.length, a, 0, false⟩ := (hJ5.ext hx6).kp hu7.1 hq5
          have hF7 : ∀ i, F7 i → (F i ∨ w1.heap.size ≤ i) ∧ i ≠ q := fun i hi => by
            rcases hu7.2 i hi with h' | h'
            · exact hF5' i h'
            · exact ⟨.inr (by omega), fun e => by have := hJ5.lt; omega⟩
          have hk17 : Kp (fun k => F k ∨ k = q) w1 w7 := (hk15.trans (hx6.mono' fun k h => h.elim)).trans_new hu7.1 (fun i hi => by
            rcases (hF5' i hi).1 with h'' | h''
            · exact .inr (.inl h'')
            · exact .inl h'')
          rcases hrun with ⟨D', er, U', du'⟩ | ⟨D', f', er, du', F', P'⟩
          · rw [er, runS_nil] at hA7 hsrun ⊢
            refine rVal rfl rfl (yas rfl) ?_; refine rEnd ?_; refine run_seq ?_; refine run_reg rfl ?_; refine rVal rfl rfl (ymv rfl) ?_; refine rVal rfl rfl (yne rfl rfl) ?_; refine rEnd ?_; refine run_false rfl ?_
            have hB7 : Blk w7 q (jl p g h.own h.tail (h.number + T1.length) a 0 false) 82 := hJ7
            refine run_skip ?_; refine run_seq ?_; refine run_reg rfl ?_; refine rVal rfl rfl (ymv rfl) ?_; refine rVal rfl rfl (ymv rfl) ?_; refine rVal rfl rfl (yln Try.underlying38 rfl) ?_; refine rVal rfl rfl (yad rfl rfl (by omega)) ?_; refine rVal rfl rfl (yad rfl rfl (by omega)) ?_; refine rVal rfl rfl (yas rfl) ?_; refine rEnd ?_; refine run_seq ?_; refine run_reg rfl ?_; refine rVal rfl rfl (ymv rfl) ?_; refine rVal rfl rfl (ymv rfl) ?_; refine rVal rfl rfl (yln Try.underlying38 rfl) ?_; refine rVal rfl rfl (yad rfl rfl (by omega)) ?_; refine rVal rfl rfl (ysb rfl rfl (by omega)) ?_
            refine rVal rfl rfl (yas rfl) ?_; refine rEnd ?_; refine run_reg rfl ?_; refine rVal rfl rfl (ymv rfl) ?_; refine rVal rfl rfl ((by first | exact ync rfl | exact yncf rfl)) ?_; refine rVal rfl rfl (yfa fl82_1 rfl) ?_; refine rVal rfl rfl (yfa fl76_2 rfl) ?_; refine rVal rfl rfl (yld Try.underlying58 rfl rfl hB7 rfl) ?_; refine rVal rfl rfl (yad64 rfl rfl) ?_; refine rVal rfl rfl ((by first | exact ync rfl | exact yncf rfl)) ?_; refine rVal rfl rfl (yfa fl82_1 rfl) ?_; refine rVal rfl rfl (yfa fl76_2 rfl) ?_
            rw [Nat.mod_eq_of_lt (show h.number + T1.length + 1 < 18446744073709551616 by omega)]
            refine rEffP rfl (zst ti58 rfl rfl rfl hB7 (by simp)) ?_
            rintro w8 ⟨hB8, hk8⟩
            refine rEnd ?_; refine run_inBlock ?_; refine run_reg rfl ?_; refine rVal rfl rfl (ymv rfl) ?_; refine rVal rfl rfl (yad rfl rfl (by omega)) ?_; refine rVal rfl rfl (yas rfl) ?_; refine rEnd ?_
            have e1 : (T1 ++ [t]).length = T1.length + 1 := by simp
            have e2 : (T1 ++ [t]).flatten = T1.flatten ++ t := by simp
            have e3 : room (T1 ++ [t]) = room T1 + (t.length + 2) := by rw [room_app]; simp [room]
            have hJ8 : JnM w8 q p g ⟨h.own, h.tail, h.number + (T1 ++ [t]).length, a, 0, false⟩ := by rw [e1]; exact hB8
            have hq7 : ¬ F7 q := fun hf => (hF7 q hf).2 rfl
            have hS8 : D'.Small (c + 2 + (T1 ++ [t]).length * 110 + room (T1 ++ [t])) := hsrun.mono (by rw [e1, e3]; omega)
            have hU8 : Up D' g f (T1 ++ [t]).flatten := by rw [e2]; exact U'
            rw [show ((T1.length : Int) + 1) = (((T1 ++ [t]).length : Nat) : Int) by rw [e1]; omega, show (((g.L - room T1 : Nat) : Int) - ((t.length : Int) + 2)) = ((g.L - room (T1 ++ [t]) : Nat) : Int) by rw [e3]; omega, show (((h.tail + room T1 : Nat) : Int) + ((t.length : Int) + 2)) = ((h.tail + room (T1 ++ [t]) : Nat) : Int) by rw [e3]; omega]
            have hT8 : T = (T1 ++ [t]) ++ T2.tail := by rw [List.append_assoc]; exact hT3
            refine (ih (T1 ++ [t], D') w8 ⟨T2.tail, F7, hT8, hJ8, hA7.kp hk8 (fun i hi e => hq7 (e ▸ hi)), hF7, hk17.trans (hk8.mono' fun i e => .inr e), hU8, hS8, fun e => du' (hdi e)⟩ (by dsimp only; rw [e1]; omega)).sub (by repeat (first | exact Sub.nil | refine Sub.cons rfl ?_))
          · rw [er] at hA7 hsrun ⊢
            refine rVal rfl rfl (yas rfl) ?_; refine rEnd ?_; refine run_seq ?_; refine run_reg rfl ?_; refine rVal rfl rfl (ymv rfl) ?_; refine rVal rfl rfl (yne rfl rfl) ?_; refine rEnd ?_; refine run_true rfl ?_; refine run_seq ?_; refine run_reg rfl ?_; refine rVal rfl rfl (ymv rfl) ?_; refine rVal rfl rfl (yas rfl) ?_; refine rVal rfl rfl (yas rfl) ?_; refine rVal rfl rfl (yas rfl) ?_; refine rEnd ?_; refine run_ret Try.func9 rfl ?_
            exact ⟨_, rfl, .inr ⟨rfl, D', f', F7, hA7, hx1.kp.trans_new hk17 (fun i hi => by
              rcases hi with h' | h'
              · exact .inr h'
              · exact .inl (by omega)), (fun i hi => by
              rcases (hF7 i hi).1 with h' | h'
              · exact .inl h'
              · exact .inr (by omega)), F', (Safe.dsk hg ⟨G, hdom, hw⟩ P' hk1 hk2).mono (by omega), hsrun.mono (by omega), (fun e => du' (hdi e)), (fun e => by rw [hT3] at e; simp at e)⟩⟩
        · skip
          refine rVal rfl rfl (ymv rfl) ?_; refine rVal rfl rfl (yex rfl rfl) ?_; refine rVal rfl rfl (yex rfl rfl) ?_; refine rVal rfl rfl (yex rfl rfl) ?_; refine rVal rfl rfl (yas rfl) ?_; refine rVal rfl rfl (yas rfl) ?_; refine rVal rfl rfl (yas rfl) ?_; refine rEnd ?_; refine run_seq ?_; refine run_seq ?_; refine run_reg rfl ?_; refine rVal rfl rfl (ymv rfl) ?_; refine rVal rfl rfl (yne rfl rfl) ?_; refine rEnd ?_; refine run_false rfl ?_; refine run_skip ?_; refine run_seq ?_; refine run_seq ?_; refine run_reg rfl ?_; refine rVal rfl rfl (ymv rfl) ?_
          refine rVal rfl rfl ((by first | exact yntd rfl | exact ynt rfl)) ?_; refine rEnd ?_; refine run_true rfl ?_; refine run_exit rfl ?_
          have hT2 : T2 = [] := by
            cases T2 with
            | nil => rfl
            | cons t' r' =>
              have htx := G.txs
              rw [hT, txsAt_app] at htx
              exact absurd hnr (tx_rec htx.2.1 hnum)
          have hTe : T1 = T := by rw [hT, hT2, List.append_nil]
          subst hTe
          exact (hk _ _ ⟨rfl, Dk.rds r, F5, hJ5, hA5, hF5', hk15, hUi.rds r, (hsi.rds r).mono (by omega), hdi⟩).sub (by repeat (first | exact Sub.nil | refine Sub.cons rfl ?_))
      · skip
        refine run_exit rfl ?_
        have hT2 : T2 = [] := by
          cases T2 with
          | nil => rfl
          | cons t' r' => simp only [room] at hrT; omega
        have hTe : T1 = T := by rw [hT, hT2, List.append_nil]
        subst hTe
        exact (hk _ _ ⟨rfl, Dk, Fi, hJi, hAi, hFi, hki, hUi, hsi.mono (by have := len_room T1; omega), hdi⟩).sub (by repeat (first | exact Sub.nil | refine Sub.cons rfl ?_))
end
end Go.Proofs.Ytkhkebcflaokpaa
namespace Go.Proofs.Ytkhkebcflaokpaa
open Go Go.RowKit
set_option linter.all false
set_option maxRecDepth 100000

/-- A plan laid on a device that is up. -/
theorem Up.plan {D : Dev} {g : Geo} {f : Cont} {C : List (Int × Bytes)} (h : Up D g f C) {z : Int} (hz : 0 ≤ z ∧ z ≤ 9223372036854775807) (l : List Int) (tn : Int) (mk : UInt8) :
    D.plan z l tn mk = ({ D with due := z, keep := l, torn := tn, mask := mk }, 0) ∧ Up { D with due := z, keep := l, torn := tn, mask := mk } g f C := by
  refine ⟨?_, ⟨⟨h.ok.hB, h.ok.hN, hz, h.ok.sf, h.ok.cache, h.ok.len, h.ok.reads⟩, h.down, h.kept, h.cache, h.hB, h.hN⟩⟩
  unfold Dev.plan
  rw [h.down]
  simp only [Bool.false_eq_true, if_false]
  rw [if_neg (by omega)]
/-- A crash as the program's. -/
theorem crash_ret {w : World} (cv : Value) (l : List Int) (tn : Int) (mk : UInt8) (hl : l.length ≤ 17592186044415) (hr : Rd w cv 1 l.length (l.map I)) :
    Ret Try.prog 15 [.agg #[cv, I tn, u8v mk]] w fun v w' => ∃ sv, v = .agg #[sv, I tn, u8v mk] ∧ Sl w' sv 3 1 l.length (l.map I) ∧ Ext w w' ∧ (∀ i, sv.ownBlock = some i → w.heap.size ≤ i) := by
  have hml : maxLen = 9223372036854775807 := rfl
  obtain ⟨ac, capc, rfl, hac⟩ := hr.shape
  refine ret_of_run (e := [(0, _)]) Try.func15 rfl Try.ntmps15 rfl rfl ?_; refine run_seq ?_; refine run_reg rfl ?_; refine rValP rfl rfl (pbx rfl rfl) ?_
  rintro _ w1 ⟨b1, rfl, hb1, hx1, hB1⟩
  refine rValP rfl rfl (pal (cs := [_, _, _]) ti45 rfl) ?_
  rintro _ w2 ⟨b2, rfl, hb2, hx2, hB2⟩
  have hlt0 := hB1.lt
  replace hB1 := hx2.blk hB1
  have hx12 := hx1.trans hx2
  replace hr := hr.ext hx12
  have hlt1 := hB1.lt
  have hlt2 := hB2.lt
  have hs12 := hx12.size
  have hs1 := hx1.size
  refine rEnd ?_; refine run_seq ?_; refine run_draw (fun w' => Blk w' b1 [.slice ac l.length capc, I tn, u8v mk] 25) (by kernel_rfl) rfl ?_; refine hTake (i := 1) rfl (by kernel_rfl) rfl rfl (fun _ hS => yfa fl25_0 rfl) ((Ext.drew0 w2).blk hB1) ?_; refine hTake (i := 2) rfl (by kernel_rfl) rfl rfl (fun _ hS => yld Try.underlying23 rfl rfl hS rfl) ((Ext.drew0 w2).blk hB1) ?_; refine hTake (i := 4) rfl (by kernel_rfl) rfl rfl (fun _ hS => yfa fl25_1 rfl) ((Ext.drew0 w2).blk hB1) ?_
  refine hTake (i := 5) rfl (by kernel_rfl) rfl rfl (fun _ hS => yld Try.underlying3 rfl rfl hS rfl) ((Ext.drew0 w2).blk hB1) ?_; refine hTake (i := 6) rfl (by kernel_rfl) rfl rfl (fun _ hS => yfa fl25_2 rfl) ((Ext.drew0 w2).blk hB1) ?_; refine hTake (i := 7) rfl (by kernel_rfl) rfl rfl (fun _ hS => yld Try.underlying5 rfl rfl hS rfl) ((Ext.drew0 w2).blk hB1) ?_; refine hOne (i := 0) (by kernel_rfl) ?_; refine nValP (i := 0) rfl rfl rfl (pbs (parts := []) (cs := []) (zs := []) Try.underlying23 ti3 rfl (by kernel_rfl) rfl rfl rfl (by decide)) ?_
  rintro _ wa ⟨ba, rfl, ⟨hba, hxa, hBa⟩, hSa⟩
  refine ⟨((Ext.drew0 w2).trans hxa).blk hB1, ?_⟩
  have hX : Ext w2 wa := (Ext.drew0 w2).trans hxa
  have hba' : w2.heap.size ≤ ba := by have := hba; simp at this; omega
  refine hOne (i := 3) (by kernel_rfl) ?_; refine nValP (i := 3) rfl rfl rfl (pap Try.underlying23 ti3 rfl (by decide) rfl rfl (hSa) (hr.ext hX) (fun c hc => by obtain ⟨z, _, rfl⟩ := List.mem_map.1 hc; rfl) (by omega) (by omega)) ?_
  rintro v3 wc ⟨hS3, hkc, hownc, -⟩
  refine ⟨(hX.trans_new hkc (fun i hi => by have h' : ba = i := Option.some.inj hi; omega)).blk hB1, ?_⟩
  have hXc : Ext w2 wc := hX.trans_new hkc (fun i hi => by have h' : ba = i := Option.some.inj hi; omega)
  have hszc := hXc.size
  have hszx := hX.size
  have hg3 : ∀ g, v3.ownBlock = some g → w2.heap.size ≤ g := fun g hg => by
    rcases hownc g hg with h' | h'
    · have h'' : ba = g := Option.some.inj h'
      omega
    · omega
  simp only [Nat.zero_add, List.nil_append] at hS3
  obtain ⟨va, vc, rfl, -⟩ := hS3.rd.shape
  refine hTake (i := 8) rfl (by kernel_rfl) rfl rfl (fun _ hS => ybd (parts := [(0, .tmp 6), (1, .tmp 8), (2, .tmp 10)]) (cs := [_, _, _]) ti45 rfl sp45 rfl rfl) ((hX.trans_new hkc (fun i hi => by have h' : ba = i := Option.some.inj hi; omega)).blk hB1) ?_
  refine hOne (i := 9) (by kernel_rfl) ?_; refine nEffP (i := 9) rfl rfl (zstA (news := [.slice va l.length vc, I tn, u8v mk]) ti45 rfl rfl rfl rfl (hXc.blk hB2) (by simp)) ?_
  rintro w6 ⟨hB6, hk6⟩
  refine ⟨hk6.blk (hXc.blk hB1) (by omega), ?_⟩
  refine hEnd (by kernel_rfl) ?_; refine run_retR Try.func15 (.cell Try.underlying45 rfl ti45 rfl (Blk.cells (n := 3) hB6 (news := [_, _, _]) rfl) rfl .nil) ?_
  exact ⟨_, rfl, .slice va l.length vc, rfl, hS3.kp hk6 (fun g' hg' => by have := hg3 g' hg'; omega), (hx12.trans hXc).trans_new hk6 (fun i hi => by omega), fun i hi => by have := hg3 i hi; omega⟩
end Go.Proofs.Ytkhkebcflaokpaa
