/- The device's functions walked: what a block has now; the loop over the cache from its end. -/
import Derived.Test.YtdapkfppcaaohaaDevA
namespace Go.Proofs.Ytdapkfppcaaohaa
open Go Go.RowKit
set_option linter.all false
set_option maxRecDepth 100000

theorem wrs_get (xs : List (Int × Bytes)) (j : Nat) (h : j < xs.length) : ((wrs xs).drop (j * 2)).take 2 = wr xs[j] := by
  induction xs generalizing j with
  | nil => simp at h
  | cons x r ih =>
    cases j with
    | zero => simp [wrs, wr, List.flatMap_cons]
    | succ j =>
      have e : (wrs (x :: r)) = I x.1 :: S x.2 :: wrs r := by simp [wrs, wr, List.flatMap_cons]
      rw [e, show (j + 1) * 2 = (j * 2) + 1 + 1 by omega]
      simpa using ih j (by simpa using h)

theorem backwardMk_ret (a : Option Addr) (n cap : Nat) (w : World) : Ret Try.prog 82 [.slice a n cap] w fun v w' => ∃ b, v = .func (.func 90) #[] #[ptr b 0] ∧ NewB w b [.slice a n cap] 106 w' := by
  refine ret_of_run (e := [(0, _)]) Try.func82 rfl Try.ntmps82 rfl rfl ?_
  refine run_seq ?_
  refine run_reg rfl ?_
  refine rValP rfl rfl (pbx rfl rfl) ?_
  rintro _ w1 ⟨b1, rfl, hN⟩
  refine rVal rfl rfl (yas rfl) ?_
  refine rEnd ?_
  refine run_seq ?_
  refine run_reg rfl ?_
  refine rVal rfl rfl (ymf (first := []) (caps := [.tmp 1]) rfl rfl) ?_
  refine rVal rfl rfl (yas rfl) ?_
  refine rEnd ?_
  refine run_ret Try.func82 rfl ?_
  exact ⟨_, rfl, _, rfl, hN⟩

theorem backward_ret (l bx : Nat) (ca : Value) (xs : List (Int × Bytes)) (J : Nat → World → Prop) (Jx : World → Prop) (w : World) (hn : xs.length < 4611686018427387904)
    (hJ : ∀ i w, J i w → (∃ T, Blk w bx [ca] T) ∧ Sl w ca 114 2 xs.length (wrs xs))
    (hround : ∀ i w x, xs.reverse[i]? = some x → J i w → RetY Try.prog l [I ((xs.length : Int) - 1 - i), .agg (wr x).toArray] w fun v w' => (v = .bool true ∧ J (i + 1) w') ∨ (v = .bool false ∧ Jx w')) (h0 : J 0 w) :
    Ret Try.prog 90 [.func (.yield l) #[] #[], ptr bx 0] w fun v w' => v = .tuple #[] ∧ (J xs.length w' ∨ Jx w') := by
  obtain ⟨⟨T, hM⟩, hS⟩ := hJ 0 w h0
  obtain ⟨a, cap, rfl, ha⟩ := hS.rd.shape
  refine ret_of_run (e := [(0, _), (1, _)]) Try.func90 rfl Try.ntmps90 rfl rfl ?_
  refine run_seq ?_
  refine run_reg rfl ?_
  refine rVal rfl rfl (yld Try.underlying106 rfl rfl hM rfl) ?_
  refine rVal rfl rfl (yln Try.underlying106 rfl) ?_
  refine rVal rfl rfl (ysb rfl rfl (by omega)) ?_
  refine rVal rfl rfl (yas rfl) ?_
  refine rEnd ?_
  refine run_block ?_
  rw [show (xs.length : Int) - 1 = (xs.length : Int) - 1 - ((0 : Nat) : Int) by omega]
  refine run_loop (α := Nat) (0) (fun i => [(0, .func (.yield l) #[] #[]), (1, ptr bx 0), (3, I ((xs.length : Int) - 1 - i))]) (fun i w => i ≤ xs.length ∧ J i w) (fun i => xs.length - i) (by repeat (first | exact Sub.nil | refine Sub.cons rfl ?_)) ?hI ?hround
  case hI => exact ⟨by omega, h0⟩
  case hround =>
    rintro i w1 ⟨hi, hj⟩ ih
    dsimp only
    obtain ⟨⟨T1, hM1⟩, hS1⟩ := hJ i w1 hj
    refine run_seq ?_
    refine run_seq ?_
    refine run_reg rfl ?_
    refine rVal rfl rfl (ymv rfl) ?_
    refine rVal rfl rfl (yge rfl rfl) ?_
    refine rEnd ?_
    refine run_if rfl (fun hge => ?_) (fun hge => ?_)
    · skip
      have hlt : i < xs.length := by omega
      have hsh := hS1.shape
      rcases hsh with ⟨-, h⟩ | ⟨gb, cap', hva, hcap⟩
      · omega
      cases hva
      obtain ⟨x, hx⟩ : ∃ x, xs.reverse[i]? = some x := ⟨_, List.getElem?_eq_getElem (by simpa using hlt)⟩
      have hcs : ((wrs xs).drop ((xs.length - 1 - i) * 2)).take 2 = wr x := by
        rw [wrs_get xs _ (by omega)]
        congr 1
        rw [List.getElem?_reverse hlt, List.getElem?_eq_getElem (by omega)] at hx
        exact Option.some.inj hx
      have hz : ((xs.length : Int) - 1 - i) = ((xs.length - 1 - i : Nat) : Int) := by omega
      have hy := hround i w1 x hx hj
      rw [hz] at hy ⊢
      refine run_skip ?_
      refine run_seq ?_
      refine run_block ?_
      refine run_seq ?_
      refine run_reg rfl ?_
      refine rVal rfl rfl (ymv rfl) ?_
      refine rVal rfl rfl (ymv rfl) ?_
      refine rVal rfl rfl (yld Try.underlying106 rfl rfl hM1 rfl) ?_
      refine rVal rfl rfl (ymv rfl) ?_
      refine rVal rfl rfl (yis Try.underlying106 ti114 rfl rfl (by omega)) ?_
      refine rVal rfl rfl (yldA Try.underlying114 rfl ti114 rfl (hS1.part hcs) rfl) ?_
      refine rYield rfl rfl (yy (args := [.tmp 12, .tmp 16]) rfl rfl) (hy) ?_
      rintro v w2 hv
      rcases hv with ⟨rfl, hj2⟩ | ⟨rfl, hx2⟩
      · skip
        refine rVal rfl rfl ((by first | exact yntd rfl | exact ynt rfl)) ?_
        refine rEnd ?_
        refine run_false rfl ?_
        refine run_skip ?_
        refine run_inBlock ?_
        refine run_reg rfl ?_
        refine rVal rfl rfl (ymv rfl) ?_
        refine rVal rfl rfl (ysb rfl rfl (by omega)) ?_
        refine rVal rfl rfl (yas rfl) ?_
        refine rEnd ?_
        rw [show ((xs.length - 1 - i : Nat) : Int) - 1 = (xs.length : Int) - 1 - ((i + 1 : Nat) : Int) by omega]
        exact (ih (i + 1) w2 ⟨by omega, hj2⟩ (by omega)).sub (by repeat (first | exact Sub.nil | refine Sub.cons rfl ?_))
      · skip
        refine rVal rfl rfl ((by first | exact yntd rfl | exact ynt rfl)) ?_
        refine rEnd ?_
        refine run_true rfl ?_
        refine run_ret Try.func90 rfl ?_
        exact ⟨_, rfl, rfl, .inr hx2⟩
    · skip
      refine run_exit rfl ?_
      refine run_end Try.func90 rfl ?_
      have : i = xs.length := by omega
      subst this
      exact ⟨_, rfl, rfl, .inl hj⟩

theorem lastW_step (xs : List (Int × Bytes)) (n : Int) (i : Nat) : (∀ j x, j < i → xs.reverse[j]? = some x → x.1 ≠ n) → ∀ x, xs.reverse[i]? = some x → x.1 = n → lastW xs n = some x.2 := by
  intro hno x hx he
  have hlt : i < xs.reverse.length := by
    rcases Nat.lt_or_ge i xs.reverse.length with h | h
    · exact h
    · rw [List.getElem?_eq_none h] at hx; cases hx
  have : xs.reverse.find? (fun x => x.1 == n) = some x := by
    rw [List.find?_eq_some_iff_getElem]
    refine ⟨by simp [he], i, hlt, ?_, fun j hj => ?_⟩
    · rw [List.getElem?_eq_getElem hlt] at hx; exact Option.some.inj hx
    · have := hno j _ hj (List.getElem?_eq_getElem (by omega))
      simpa using this
  simp [lastW, this]
theorem lastW_none (xs : List (Int × Bytes)) (n : Int) : (∀ j x, j < xs.length → xs.reverse[j]? = some x → x.1 ≠ n) → lastW xs n = none := by
  intro hno
  have : xs.reverse.find? (fun x => x.1 == n) = none := by
    rw [List.find?_eq_none]
    intro x hx
    obtain ⟨j, hj, rfl⟩ := List.getElem_of_mem hx
    have := hno j _ (by simpa using hj) (List.getElem?_eq_getElem hj)
    simpa using this
  simp [lastW, this]

theorem now_ret {w : World} {p m : Nat} {kp ca : Value} {D : Dev} (n : Int) (h : DevM w p m kp ca D) (hc : D.cache.length < 1000000000000) :
    Ret Try.prog 63 [ptr p 0, I n] w fun v w' => v = S (D.now n) ∧ Ext w w' := by
  have hM := h.blk
  have hlen := h.ok.len
  have hc2 := hc
  obtain ⟨a, cap, rfl, ha⟩ := h.cache.rd.shape
  refine ret_of_run (e := [(0, _), (1, _)]) Try.func63 rfl Try.ntmps63 rfl rfl ?_
  refine run_seq ?_
  refine run_reg rfl ?_
  refine rValP rfl rfl (pbx rfl rfl) ?_
  rintro _ w1 ⟨b3, rfl, hb3, hx1, hB3⟩
  refine rValP rfl rfl (pal (cs := [_]) ti9 rfl) ?_
  rintro _ w2 ⟨b4, rfl, hb4, hx2, hB4⟩
  replace h := (h.ext hx1).ext hx2
  have hM2 := h.blk
  refine rEnd ?_
  refine run_seq ?_
  refine run_seq ?_
  refine run_reg rfl ?_
  refine rVal rfl rfl (ymv rfl) ?_
  refine rVal rfl rfl ((by first | exact ync rfl | exact yncf rfl)) ?_
  refine rVal rfl rfl (yfa fl108_3 rfl) ?_
  refine rVal rfl rfl (yld Try.underlying106 rfl rfl hM2 rfl) ?_
  refine rCall rfl rfl (yc (args := [.tmp 10]) cf82 rfl) (backwardMk_ret a D.cache.length cap _) ?_
  rintro _ w3 ⟨bx, rfl, hbx, hx3, hBx⟩
  replace h := h.ext hx3
  replace hB3 := hx3.blk (hx2.blk hB3)
  replace hB4 := hx3.blk hB4
  refine rEnd ?_
  refine run_block ?_
  refine run_rangeFunc (ps := [12, 13]) (p := []) (q := [_]) rfl cf90 ?_
  rintro l w4 hx4 hl hsz hD Rc hRc hrec
  have hl4 := rc_lt hRc hrec
  have h3 := h
  replace h := h.ext hx4
  replace hB3 := hx4.blk hB3
  replace hB4 := hx4.blk hB4
  have hlt3 := hBx.lt
  have hl3 := hB3.lt
  have hs1 := hx1.size
  have hs2 := hx2.size
  have hs3 := hx3.size
  have hltx : bx < w3.heap.size := hBx.lt
  replace hBx := hx4.blk hBx
  refine Ret.mono (backward_ret l bx (.slice a D.cache.length cap) D.cache
    (fun i w' => Rc .ready none w' ∧ Kp (fun k => k = l) w4 w' ∧ ∀ j x, j < i → D.cache.reverse[j]? = some x → x.1 ≠ n)
    (fun w' => Rc .done (some .ret) w' ∧ Kp (fun k => k = l ∨ k = b4) w4 w' ∧ Blk w' b4 [S (D.now n)] 9) w4 (by omega) ?_ ?_ ⟨hrec, Kp.refl _ _, by omega⟩) ?_
  · rintro i w' ⟨h1, h2, -⟩
    refine ⟨⟨_, h2.blk hBx (by omega)⟩, h.cache.kp h2 fun g hg hgl => ?_⟩
    have := h3.cache.lt hg
    omega
  · rintro i w' x hx ⟨h1, h2, hno⟩
    refine retY_of_run hRc h1 rfl rfl ?_
    have hsz2 := h2.size
    refine run_reg rfl ?_
    refine rValP rfl rfl (pal (cs := [_, _]) ti114 rfl) ?_
    rintro _ w5 ⟨b6, rfl, hb6, hx5, hB6⟩
    refine rEffP rfl (zstA ti114 rfl rfl rfl rfl hB6 (by simp)) ?_
    rintro w6 ⟨hB6', hk6⟩
    have hx6 := hx5.trans_new hk6 (fun i hi => by omega)
    replace h1 := hx6.rc hRc h1 id
    replace h2 := h2.trans hx6.kp
    have hs6 := hx5.size
    have hlt6 := hB6'.lt
    refine rEnd ?_
    refine run_beginRound rfl hRc h1 ?_
    rintro w7 h7 hk7
    have hB7 := hk7.blk hB6' (by omega)
    have hB3' := (h2.trans hk7).blk hB3 (by omega)
    refine run_block ?_
    refine run_seq ?_
    refine run_reg rfl ?_
    refine rVal rfl rfl (yfa fl114_0 rfl) ?_
    refine rVal rfl rfl ((by first | exact yld Try.underlying3 rfl rfl hB7 rfl | exact yld Try.underlying3 rfl rfl hB3' rfl)) ?_
    refine rVal rfl rfl ((by first | exact yld Try.underlying3 rfl rfl hB7 rfl | exact yld Try.underlying3 rfl rfl hB3' rfl)) ?_
    refine rVal rfl rfl (yeq rfl rfl) ?_
    refine rEnd ?_
    refine run_if rfl (fun heq => ?_) (fun heq => ?_)
    · skip
      have hB4' := (h2.trans hk7).blk hB4 (by omega)
      refine run_seq ?_
      refine run_reg rfl ?_
      refine rVal rfl rfl (yfa fl114_1 rfl) ?_
      refine rVal rfl rfl ((by first | exact yld Try.underlying9 rfl rfl hB7 rfl | exact yld Try.underlying9 rfl rfl hB3' rfl)) ?_
      refine rEffP rfl (zst ti9 rfl rfl rfl hB4' (by simp)) ?_
      rintro w8 ⟨hB8, hk8⟩
      refine rEnd ?_
      refine run_roundRet hRc (hk8.rc hRc h7 (by omega)) ?_
      intro w9 h9 hk9
      refine .inr ⟨rfl, h9, ((h2.trans hk7).mono' fun _ h => .inl h).trans ((hk8.mono' fun _ h => .inr h).trans (hk9.mono' fun _ h => .inl h)), ?_⟩
      have hnow : D.now n = x.2 := by
        unfold Dev.now
        rw [lastW_step D.cache n i hno x hx heq]
        rfl
      rw [hnow]
      exact hk9.blk hB8 (by omega)
    · skip
      refine run_skip ?_
      refine run_inBlock ?_
      refine run_roundEnd hRc h7 ?_
      intro w9 h9 hk9
      refine .inl ⟨rfl, h9, (h2.trans hk7).trans hk9, fun j y hj hy => ?_⟩
      rcases Nat.lt_or_ge j i with hji | hji
      · exact hno j y hji hy
      · have : j = i := by omega
        subst this
        rw [hx] at hy
        cases hy
        exact heq
  · rintro v w' ⟨rfl, ⟨h1, h2, hno⟩ | ⟨h1, h2, hB⟩⟩
    · skip
      refine ⟨_, _, h1, by simp, fun w5 h5 => ?_⟩
      have hk5 := h2.trans h5
      have hx5 : Ext w3 w5 := hx4.trans_new hk5 (fun i hi => by omega)
      replace h3 := h3.ext hx5
      have hB3' := hk5.blk hB3 (by omega)
      have hB4' := hk5.blk hB4 (by omega)
      have hD5 := hk5.heap hD (by omega)
      refine run_inBlock ?_
      refine run_seq ?_
      refine run_reg rfl ?_
      refine rVal rfl rfl (ymv rfl) ?_
      refine rVal rfl rfl (yld Try.underlying3 rfl rfl hB3' rfl) ?_
      refine rCall rfl rfl (yc (args := [.tmp 20, .tmp 21]) cf69 rfl) (kept_ret n h3) ?_
      rintro _ w6 ⟨rfl, hx6⟩
      replace hB4' := hx6.blk hB4'
      replace hD5 := hx6.heap hD5 id
      refine rEffP rfl (zst ti9 rfl rfl rfl hB4' (by simp)) ?_
      rintro w7 ⟨hB7, hk7⟩
      replace hD5 := hk7.heap hD5 (by omega)
      have hB8 := (kp_putObj w7 w3.heap.size (.deferred none)).blk hB7 (by omega)
      refine rEnd ?_
      refine run_retRM (by simp) (marked1 hD5) Try.func63 (.cell1 Try.underlying9 rfl rfl ((hB8).cell _) .nil) ?_
      refine ⟨_, rfl, ?_, ?_⟩
      · simp [Dev.now, lastW_none D.cache n hno, resVal]
      · exact ((((hx1.trans (hx2.trans hx3)).trans hx5).trans hx6).trans_new hk7 (fun i hi => by omega)).trans_new (kp_putObj w7 w3.heap.size (.deferred none)) (fun i hi => by omega)
    · refine ⟨_, _, h1, by simp, fun w5 h5 => ?_⟩
      have hD5 := (h2.trans (h5.mono' fun _ h => .inl h)).heap hD (by omega)
      have hB5 := h5.blk hB (by omega)
      have hB8 := (kp_putObj w5 w3.heap.size (.deferred none)).blk hB5 (by omega)
      refine run_retRM (by simp) (marked1 hD5) Try.func63 (.cell1 Try.underlying9 rfl rfl ((hB8).cell _) .nil) ?_
      refine ⟨_, rfl, rfl, ?_⟩
      exact (((hx1.trans (hx2.trans (hx3.trans hx4))).trans_new h2 (fun i hi => by omega)).trans_new h5 (fun i hi => by omega)).trans_new (kp_putObj w5 w3.heap.size (.deferred none)) (fun i hi => by omega)
end Go.Proofs.Ytdapkfppcaaohaa
