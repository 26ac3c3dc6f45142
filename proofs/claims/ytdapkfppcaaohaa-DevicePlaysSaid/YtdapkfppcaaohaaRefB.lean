/- The document's device (wattleref04): has, Now, Read walked. -/
import Derived.Test.YtdapkfppcaaohaaRefA
namespace Go.Proofs.Ytdapkfppcaaohaa
open Go Go.RowKit
set_option linter.all false
set_option maxRecDepth 100000

theorem rhas_ret (v : Value) (l : List Int) (x : Int) (w : World) (hl : l.length ≤ 17592186044416) (hr : Rd w v 1 l.length (l.map I)) :
    Ret Try.prog 91 [v, I x] w fun u w' => u = .bool (decide (x ∈ l)) ∧ w' = w := by
  obtain ⟨a, cap, rfl, ha⟩ := hr.shape
  refine ret_of_run (e := [(0, _), (1, _)]) Try.func91 rfl Try.ntmps91 rfl rfl ?_
  refine run_seq ?_
  refine run_reg rfl ?_
  refine rVal rfl rfl (yas rfl) ?_
  refine rEnd ?_
  refine run_seq ?_
  refine run_seq ?_
  refine run_reg rfl ?_
  refine rVal rfl rfl (yas rfl) ?_
  refine rEnd ?_
  refine run_block ?_
  refine run_loop (α := Nat) (0) (fun i => [(0, .slice a l.length cap), (1, I x), (5, I (i : Int))]) (fun i w' => w' = w ∧ i ≤ l.length ∧ ∀ j, j < i → l[j]? ≠ some x) (fun i => l.length - i) (by repeat (first | exact Sub.nil | refine Sub.cons rfl ?_)) ?hI ?hround
  case hI => exact ⟨rfl, by omega, by omega⟩
  case hround =>
    rintro i _ ⟨rfl, hi, hno⟩ ih
    dsimp only
    refine run_seq ?_
    refine run_seq ?_
    refine run_reg rfl ?_
    refine rVal rfl rfl (ymv rfl) ?_
    refine rVal rfl rfl (ymv rfl) ?_
    refine rVal rfl rfl (yln Try.underlying43 rfl) ?_
    refine rVal rfl rfl (ylt rfl rfl) ?_
    refine rEnd ?_
    refine run_if rfl (fun hlt => ?_) (fun hlt => ?_)
    · skip
      have hlt' : i < l.length := by omega
      rcases hr.2 with ⟨c, -, h⟩ | ⟨b, off, cap', hva, hcell⟩
      · omega
      cases hva
      refine run_skip ?_
      refine run_seq ?_
      refine run_block ?_
      refine run_seq ?_
      refine run_reg rfl ?_
      refine rVal rfl rfl (ymv rfl) ?_
      refine rVal rfl rfl (ymv rfl) ?_
      refine rVal rfl rfl (yis Try.underlying43 ti3 rfl rfl (by omega)) ?_
      refine rVal rfl rfl (yldc Try.underlying3 rfl rfl (hcell (i * 1) (I l[i]) (by simp [hlt']))) ?_
      refine rVal rfl rfl (ymv rfl) ?_
      refine rVal rfl rfl (yeq rfl rfl) ?_
      refine rEnd ?_
      refine run_if rfl (fun heq => ?_) (fun heq => ?_)
      · skip
        refine run_seq ?_
        refine run_reg rfl ?_
        refine rVal rfl rfl (yas rfl) ?_
        refine rEnd ?_
        refine run_ret Try.func91 rfl ?_
        refine ⟨_, rfl, ?_, rfl⟩
        have : x ∈ l := heq ▸ List.getElem_mem hlt'
        simp [resVal, this]
      · skip
        refine run_skip ?_
        refine run_inBlock ?_
        refine run_reg rfl ?_
        refine rVal rfl rfl (ymv rfl) ?_
        refine rVal rfl rfl (yad rfl rfl (by omega)) ?_
        refine rVal rfl rfl (yas rfl) ?_
        refine rEnd ?_
        exact (ih (i + 1) _ ⟨rfl, by omega, fun j hj => by
          rcases Nat.lt_or_ge j i with h | h
          · exact hno j h
          · have : j = i := by omega
            subst this
            rw [List.getElem?_eq_getElem hlt']
            exact fun h => heq (Option.some.inj h)⟩ (by omega)).sub (by repeat (first | exact Sub.nil | refine Sub.cons rfl ?_))
    · skip
      refine run_exit rfl ?_
      refine run_seq ?_
      refine run_reg rfl ?_
      refine rVal rfl rfl (yas rfl) ?_
      refine rEnd ?_
      refine run_ret Try.func91 rfl ?_
      refine ⟨_, rfl, ?_, rfl⟩
      have : ¬ x ∈ l := fun h => by
        obtain ⟨j, hj, e⟩ := List.getElem_of_mem h
        exact absurd (by rw [List.getElem?_eq_getElem hj, e]) (hno j (by omega))
      simp [resVal, this]

/-- What a block has when the first i writes of the cache have been looked at. -/
def Dev.nowTo (D : Dev) (n : Int) (i : Nat) : Bytes := (lastW (D.cache.take i) n).getD (D.kept n)
theorem lastW_snoc (l : List (Int × Bytes)) (x : Int × Bytes) (n : Int) : lastW (l ++ [x]) n = if x.1 = n then some x.2 else lastW l n := by
  unfold lastW
  rw [List.reverse_append, List.reverse_singleton, List.singleton_append, List.find?_cons]
  by_cases h : x.1 = n
  · simp [h]
  · have hb : (x.1 == n) = false := by simpa using h
    simp [hb, h]
theorem nowTo_succ {D : Dev} {n : Int} {i : Nat} {x : Int × Bytes} (hx : D.cache[i]? = some x) : D.nowTo n (i + 1) = if x.1 = n then x.2 else D.nowTo n i := by
  have hi : i < D.cache.length := by
    rcases Nat.lt_or_ge i D.cache.length with h | h
    · exact h
    · rw [List.getElem?_eq_none h] at hx; cases hx
  have he : D.cache[i] = x := by rw [List.getElem?_eq_getElem hi] at hx; exact Option.some.inj hx
  unfold Dev.nowTo
  rw [List.take_succ_eq_append_getElem hi, he, lastW_snoc]
  split <;> rfl
theorem wrs_at (l : List (Int × Bytes)) (i : Nat) (x : Int × Bytes) (hx : l[i]? = some x) : (wrs l)[i * 2]? = some (I x.1) ∧ (wrs l)[i * 2 + 1]? = some (S x.2) := by
  have hi : i < l.length := by
    rcases Nat.lt_or_ge i l.length with h | h
    · exact h
    · rw [List.getElem?_eq_none h] at hx; cases hx
  have he : l[i] = x := by rw [List.getElem?_eq_getElem hi] at hx; exact Option.some.inj hx
  have h := wrs_get l i hi
  rw [he] at h
  have h0 := congrArg (·[0]?) h
  have h1 := congrArg (·[1]?) h
  simp [wr, List.getElem?_take, List.getElem?_drop] at h0 h1
  exact ⟨h0, h1⟩

section
variable {w : World} {q : Nat} {sv ca kp : Value} {l : List Int} {tn : Int} {mk : UInt8} {D : Dev}
theorem rnow_ret (n : Nat) (h : RefM w q sv ca kp l tn mk D) (hn : n < D.B) (hc : D.cache.length < 1000000000000) :
    Ret Try.prog 87 [ptr q 0, I (n : Int)] w fun v w' => v = S (D.now (n : Int)) ∧ w' = w := by
  have hM := h.blk
  obtain ⟨a, cap, rfl, ha⟩ := h.cache.rd.shape
  have hB := h.ok.hB
  rcases h.safe.rd.2 with ⟨c, -, hb⟩ | ⟨gs, offs, caps, rfl, hcs⟩
  · omega
  refine ret_of_run (e := [(0, _), (1, _)]) Try.func87 rfl Try.ntmps87 rfl rfl ?_
  refine run_seq ?_
  refine run_reg rfl ?_
  refine rVal rfl rfl (yas rfl) ?_
  refine rEnd ?_
  refine run_seq ?_
  refine run_reg rfl ?_
  refine rVal rfl rfl (ymv rfl) ?_
  refine rVal rfl rfl ((by first | exact ync rfl | exact yncf rfl)) ?_
  refine rVal rfl rfl (yfa fl86_1 rfl) ?_
  refine rVal rfl rfl (yld Try.underlying47 rfl rfl hM rfl) ?_
  refine rVal rfl rfl (ymv rfl) ?_
  refine rVal rfl rfl (yis Try.underlying47 ti9 rfl rfl (by omega)) ?_
  refine rVal rfl rfl (yldc Try.underlying9 rfl rfl (hcs (n * 1) (S (D.kept n)) (by simp [safes_get D n hn]))) ?_
  refine rVal rfl rfl (yas rfl) ?_
  refine rEnd ?_
  refine run_seq ?_
  refine run_seq ?_
  refine run_reg rfl ?_
  refine rVal rfl rfl (yas rfl) ?_
  refine rEnd ?_
  refine run_block ?_
  rw [show D.kept (n : Int) = D.nowTo (n : Int) 0 from rfl]
  refine run_loop (α := Nat) (0) (fun i => [(0, ptr q 0), (1, I (n : Int)), (5, S (D.nowTo (n : Int) i)), (6, I (i : Int))]) (fun i w' => w' = w ∧ i ≤ D.cache.length) (fun i => D.cache.length - i) (by repeat (first | exact Sub.nil | refine Sub.cons rfl ?_)) ?hI ?hround
  case hI => exact ⟨rfl, by omega⟩
  case hround =>
    rintro i _ ⟨rfl, hi⟩ ih
    dsimp only
    refine run_seq ?_
    refine run_seq ?_
    refine run_reg rfl ?_
    refine rVal rfl rfl (ymv rfl) ?_
    refine rVal rfl rfl (ymv rfl) ?_
    refine rVal rfl rfl ((by first | exact ync rfl | exact yncf rfl)) ?_
    refine rVal rfl rfl (yfa fl86_2 rfl) ?_
    refine rVal rfl rfl (yld Try.underlying84 rfl rfl hM rfl) ?_
    refine rVal rfl rfl (yln Try.underlying84 rfl) ?_
    refine rVal rfl rfl (ylt rfl rfl) ?_
    refine rEnd ?_
    refine run_if rfl (fun hlt => ?_) (fun hlt => ?_)
    · skip
      have hlt' : i < D.cache.length := by omega
      obtain ⟨x, hx⟩ : ∃ x, D.cache[i]? = some x := ⟨_, List.getElem?_eq_getElem hlt'⟩
      obtain ⟨hx1, hx2⟩ := wrs_at D.cache i x hx
      rcases h.cache.rd.2 with ⟨c, -, hz⟩ | ⟨gc, offc, capc, hva, hcc⟩
      · omega
      cases hva
      refine run_skip ?_
      refine run_seq ?_
      refine run_block ?_
      refine run_seq ?_
      refine run_reg rfl ?_
      refine rVal rfl rfl (ymv rfl) ?_
      refine rVal rfl rfl ((by first | exact ync rfl | exact yncf rfl)) ?_
      refine rVal rfl rfl (yfa fl86_2 rfl) ?_
      refine rVal rfl rfl (yld Try.underlying84 rfl rfl hM rfl) ?_
      refine rVal rfl rfl (ymv rfl) ?_
      refine rVal rfl rfl (yis Try.underlying84 ti128 rfl rfl (by omega)) ?_
      refine rVal rfl rfl (yfa fl128_0 rfl) ?_
      refine rVal rfl rfl (yldc Try.underlying3 rfl rfl (hcc (i * 2) (I x.1) hx1)) ?_
      refine rVal rfl rfl (ymv rfl) ?_
      refine rVal rfl rfl (yeq rfl rfl) ?_
      refine rEnd ?_
      refine run_if rfl (fun heq => ?_) (fun heq => ?_)
      · skip
        refine run_reg rfl ?_
        refine rVal rfl rfl (ymv rfl) ?_
        refine rVal rfl rfl ((by first | exact ync rfl | exact yncf rfl)) ?_
        refine rVal rfl rfl (yfa fl86_2 rfl) ?_
        refine rVal rfl rfl (yld Try.underlying84 rfl rfl hM rfl) ?_
        refine rVal rfl rfl (ymv rfl) ?_
        refine rVal rfl rfl (yis Try.underlying84 ti128 rfl rfl (by omega)) ?_
        refine rVal rfl rfl (yfa fl128_1 rfl) ?_
        refine rVal rfl rfl (yldc Try.underlying9 rfl rfl (hcc (i * 2 + 1) (S x.2) hx2)) ?_
        refine rVal rfl rfl (yas rfl) ?_
        refine rEnd ?_
        refine run_inBlock ?_
        refine run_reg rfl ?_
        refine rVal rfl rfl (ymv rfl) ?_
        refine rVal rfl rfl (yad rfl rfl (by omega)) ?_
        refine rVal rfl rfl (yas rfl) ?_
        refine rEnd ?_
        have e : D.nowTo (n : Int) (i + 1) = x.2 := by rw [nowTo_succ hx, if_pos heq]
        rw [← e]
        exact (ih (i + 1) _ ⟨rfl, by omega⟩ (by omega)).sub (by repeat (first | exact Sub.nil | refine Sub.cons rfl ?_))
      · skip
        refine run_skip ?_
        refine run_inBlock ?_
        refine run_reg rfl ?_
        refine rVal rfl rfl (ymv rfl) ?_
        refine rVal rfl rfl (yad rfl rfl (by omega)) ?_
        refine rVal rfl rfl (yas rfl) ?_
        refine rEnd ?_
        have e : D.nowTo (n : Int) (i + 1) = D.nowTo (n : Int) i := by rw [nowTo_succ hx, if_neg heq]
        rw [← e]
        exact (ih (i + 1) _ ⟨rfl, by omega⟩ (by omega)).sub (by repeat (first | exact Sub.nil | refine Sub.cons rfl ?_))
    · skip
      have hin : i = D.cache.length := by omega
      subst hin
      refine run_exit rfl ?_
      refine run_seq ?_
      refine run_reg rfl ?_
      refine rVal rfl rfl (ymv rfl) ?_
      refine rVal rfl rfl (yas rfl) ?_
      refine rEnd ?_
      refine run_ret Try.func87 rfl ?_
      refine ⟨_, rfl, ?_, rfl⟩
      simp [Dev.nowTo, Dev.now, resVal]

/-- The document's device at q has turned into D'. -/
def RefR (w : World) (q : Nat) (sv ca kp : Value) (D' : Dev) (w' : World) : Prop := ∃ sv' ca' kp' l tn mk, RefM w' q sv' ca' kp' l tn mk D' ∧ Upd (fpR q sv ca kp) (fpR q sv' ca' kp') w w'
theorem RefR.same {w' : World} (h : RefM w' q sv ca kp l tn mk D) (k : Ext w w') : RefR w q sv ca kp D w' := ⟨sv, ca, kp, l, tn, mk, h, k.upd⟩
theorem RefR.own {w' : World} (h : RefM w' q sv ca kp l tn mk D) (k : Kp (fun i => i = q) w w') : RefR w q sv ca kp D w' := ⟨sv, ca, kp, l, tn, mk, h, k.mono' fun _ h => .inl h, fun _ h => .inl h⟩
theorem RefR.trans {w1 w2 : World} {sv1 ca1 kp1 : Value} {D' : Dev} (k : Upd (fpR q sv ca kp) (fpR q sv1 ca1 kp1) w w1) (h : RefR w1 q sv1 ca1 kp1 D' w2) : RefR w q sv ca kp D' w2 := by
  obtain ⟨a, b, c, d, e, f, h1, h2⟩ := h
  exact ⟨a, b, c, d, e, f, h1, k.trans h2⟩

theorem rread_ret (n : Int) (h : RefM w q sv ca kp l tn mk D) (hc : D.Bd) :
    Ret Try.prog 73 [ptr q 0, I n] w fun v w' => v = .tuple #[S (D.read n).2.1, I (D.read n).2.2] ∧ RefR w q sv ca kp (D.read n).1 w' := by
  have hM := h.blk
  have hrd := h.ok.reads
  have hc3 := hc.2.2
  have hB := h.ok.hB
  refine ret_of_run (e := [(0, _), (1, _)]) Try.func73 rfl Try.ntmps73 rfl rfl ?_
  refine run_seq ?_
  refine run_reg rfl ?_
  refine rVal rfl rfl (yas rfl) ?_
  refine rVal rfl rfl (yas rfl) ?_
  refine rEnd ?_
  refine run_seq ?_
  refine run_seq ?_
  refine run_reg rfl ?_
  refine rVal rfl rfl (ymv rfl) ?_
  refine rVal rfl rfl ((by first | exact ync rfl | exact yncf rfl)) ?_
  refine rVal rfl rfl (yfa fl86_5 rfl) ?_
  refine rVal rfl rfl (yld Try.underlying4 rfl rfl hM rfl) ?_
  refine rEnd ?_
  cases hd : D.down with
  | true =>
    refine run_true rfl ?_
    refine run_seq ?_
    refine run_reg rfl ?_
    refine rVal rfl rfl (yas rfl) ?_
    refine rVal rfl rfl (yas rfl) ?_
    refine rEnd ?_
    refine run_ret Try.func73 rfl ?_
    have e : D.read n = (D, [], 8) := by simp [Dev.read, hd]
    rw [e]
    exact ⟨_, rfl, rfl, RefR.same h (Ext.refl _)⟩
  | false =>
    refine run_false rfl ?_
    refine run_skip ?_
    refine run_seq ?_
    refine run_seq ?_
    refine run_reg rfl ?_
    refine rVal rfl rfl (ymv rfl) ?_
    refine rVal rfl rfl (ylt rfl rfl) ?_
    refine rVal_if (fun h1 => ?_) (fun h1 => ?_)
    · skip
      refine rVal rfl rfl (ymv rfl) ?_
      refine rSkip rfl rfl ?_
      refine rSkip rfl rfl ?_
      refine rSkip rfl rfl ?_
      refine rSkip rfl rfl ?_
      refine rSkip rfl rfl ?_
      refine rSkip rfl rfl ?_
      refine rSkip rfl rfl ?_
      refine rVal rfl rfl (ypT rfl rfl) ?_
      refine rEnd ?_
      refine run_true rfl ?_
      refine run_seq ?_
      refine run_reg rfl ?_
      refine rVal rfl rfl (yas rfl) ?_
      refine rVal rfl rfl (yas rfl) ?_
      refine rEnd ?_
      refine run_ret Try.func73 rfl ?_
      have e : D.read n = (D, [], 1) := by
        have : D.has n = false := by simp [Dev.has]; omega
        simp [Dev.read, hd, this]
      rw [e]
      exact ⟨_, rfl, rfl, RefR.same h (Ext.refl _)⟩
    · skip
      refine rVal rfl rfl (ymv rfl) ?_
      refine rVal rfl rfl (ymv rfl) ?_
      refine rVal rfl rfl (ymv rfl) ?_
      refine rVal rfl rfl ((by first | exact ync rfl | exact yncf rfl)) ?_
      refine rVal rfl rfl (yfa fl86_0 rfl) ?_
      refine rVal rfl rfl (yfa fl74_0 rfl) ?_
      refine rVal rfl rfl (yld Try.underlying3 rfl rfl hM rfl) ?_
      refine rVal rfl rfl (yge rfl rfl) ?_
      refine rVal rfl rfl (ypF rfl rfl) ?_
      refine rEnd ?_
      refine run_if rfl (fun h2 => ?_) (fun h2 => ?_)
      · skip
        refine run_seq ?_
        refine run_reg rfl ?_
        refine rVal rfl rfl (yas rfl) ?_
        refine rVal rfl rfl (yas rfl) ?_
        refine rEnd ?_
        refine run_ret Try.func73 rfl ?_
        have e : D.read n = (D, [], 1) := by
          have : D.has n = false := by simp [Dev.has]; omega
          simp [Dev.read, hd, this]
        rw [e]
        exact ⟨_, rfl, rfl, RefR.same h (Ext.refl _)⟩
      · skip
        refine run_skip ?_
        refine run_seq ?_
        refine run_reg rfl ?_
        refine rVal rfl rfl (ymv rfl) ?_
        refine rVal rfl rfl ((by first | exact ync rfl | exact yncf rfl)) ?_
        refine rVal rfl rfl (yfa fl86_7 rfl) ?_
        refine rVal rfl rfl (yld Try.underlying3 rfl rfl hM rfl) ?_
        refine rVal rfl rfl (yad rfl rfl (by omega)) ?_
        refine rVal rfl rfl ((by first | exact ync rfl | exact yncf rfl)) ?_
        refine rVal rfl rfl (yfa fl86_7 rfl) ?_
        refine rEffP rfl (zst ti3 rfl rfl rfl hM (by simp)) ?_
        rintro w3 ⟨hM3, hk3⟩
        have h3 := h.turn (D' := { D with reads := D.reads + 1 }) hM3 hk3 rfl rfl rfl rfl h.crash ⟨h.ok.hB, h.ok.hN, h.ok.due, h.ok.sf, h.ok.cache, h.ok.len, by show 0 ≤ D.reads + 1; omega⟩
        obtain ⟨m, rfl⟩ : ∃ m : Nat, n = m := ⟨n.toNat, by omega⟩
        refine rEnd ?_
        refine Run.sub (e := [(0, _), (1, _), (4, _), (5, _)]) ?_ (by repeat (first | exact Sub.nil | refine Sub.cons rfl ?_))
        refine run_seq ?_
        refine run_reg rfl ?_
        refine rVal rfl rfl (ymv rfl) ?_
        refine rVal rfl rfl (ymv rfl) ?_
        refine rCall rfl rfl (yc (args := [.tmp 28, .tmp 29]) cf87 rfl) (rnow_ret m h3 (by show m < D.B; omega) hc.2.1) ?_
        rintro _ w4 ⟨rfl, rfl⟩
        refine rVal rfl rfl (yas rfl) ?_
        refine rVal rfl rfl (yas rfl) ?_
        refine rEnd ?_
        refine run_ret Try.func73 rfl ?_
        have e : D.read (m : Int) = ({ D with reads := D.reads + 1 }, D.now (m : Int), 0) := by
          have : D.has (m : Int) = true := by simp [Dev.has]; omega
          simp [Dev.read, hd, this]
        rw [e]
        exact ⟨_, rfl, rfl, RefR.own h3 hk3⟩
end
end Go.Proofs.Ytdapkfppcaaohaa
