/- The device's functions walked: Flush, Image, Twin. -/
import Derived.Test.YtdapkfppcaaohaaDevE
namespace Go.Proofs.Ytdapkfppcaaohaa
open Go Go.RowKit
set_option linter.all false
set_option maxRecDepth 100000

/-- What is safe when the first i writes of the cache have been flushed. -/
def Dev.flushTo (D : Dev) : Nat → (Int → Option Bytes)
  | 0 => D.sf
  | i + 1 => match D.cache[i]? with
    | none => D.flushTo i
    | some x => upd (D.flushTo i) x.1 x.2
def Dev.flush (D : Dev) : Dev × Int :=
  if D.down then (D, 8) else if D.due = 1 then (D.count.drop', 8) else ({ D.count with sf := D.flushTo D.cache.length, cache := [] }, 0)

theorem flushTo_at {D : Dev} {i : Nat} {x : Int × Bytes} (hx : D.cache[i]? = some x) : D.flushTo (i + 1) = upd (D.flushTo i) x.1 x.2 := by
  simp only [Dev.flushTo, hx]

section
variable {w : World} {p m : Nat} {kp ca : Value} {D : Dev}

theorem flush_ret (h : DevM w p m kp ca D) (hc : D.Bd) (hk : D.keep.length ≤ 17592186044416) :
    Ret Try.prog 39 [ptr p 0] w fun v w' => v = I D.flush.2 ∧ DevR w p m kp ca D.flush.1 w' := by
  obtain ⟨hc1, hc2, hc3⟩ := hc
  have hcal := h.ok.len
  refine ret_of_run (e := [(0, _)]) Try.func39 rfl Try.ntmps39 rfl rfl ?_
  refine run_seq ?_
  refine run_reg rfl ?_
  refine rVal rfl rfl (yas rfl) ?_
  refine rEnd ?_
  refine run_seq ?_
  refine run_seq ?_
  refine run_reg rfl ?_
  refine rVal rfl rfl (ymv rfl) ?_
  refine rCall rfl rfl (yc (args := [.tmp 6]) cf61 rfl) (ready_ret h) ?_
  rintro _ w1 ⟨rfl, rfl⟩
  cases hd : D.down with
  | true =>
    refine rVal rfl rfl (yas rfl) ?_
    refine rEnd ?_
    refine run_seq ?_
    refine run_reg rfl ?_
    refine rVal rfl rfl (ymv rfl) ?_
    refine rVal rfl rfl (yne rfl rfl) ?_
    refine rEnd ?_
    refine run_if rfl (fun hz => ?_) (fun hz => ?_)
    · skip
      refine run_seq ?_
      refine run_reg rfl ?_
      refine rVal rfl rfl (ymv rfl) ?_
      refine rVal rfl rfl (yas rfl) ?_
      refine rEnd ?_
      refine run_ret Try.func39 rfl ?_
      have e : D.flush = (D, 8) := by simp [Dev.flush, hd]
      rw [e]
      exact ⟨_, rfl, rfl, DevR.same h (Ext.refl _)⟩
    · skip
      exact absurd (by decide) hz
  | false =>
    refine rVal rfl rfl (yas rfl) ?_
    refine rEnd ?_
    refine run_seq ?_
    refine run_reg rfl ?_
    refine rVal rfl rfl (ymv rfl) ?_
    refine rVal rfl rfl (yne rfl rfl) ?_
    refine rEnd ?_
    refine run_if rfl (fun hz => ?_) (fun hz => ?_)
    · skip
      exact absurd hz (by decide)
    · skip
      refine run_skip ?_
      refine run_seq ?_
      refine run_seq ?_
      refine run_reg rfl ?_
      refine rVal rfl rfl (ymv rfl) ?_
      refine rCall rfl rfl (yc (args := [.tmp 11]) cf70 rfl) (counted_ret h hc1) ?_
      rintro _ w2 ⟨rfl, h2, hk2⟩
      have hM2 := h2.blk
      refine rEnd ?_
      refine run_if rfl (fun hdue => ?_) (fun hdue => ?_)
      · skip
        refine run_seq ?_
        refine run_reg rfl ?_
        refine rVal rfl rfl (ymv rfl) ?_
        refine rVal rfl rfl (ymv rfl) ?_
        refine rVal rfl rfl ((by first | exact ync rfl | exact yncf rfl)) ?_
        refine rVal rfl rfl (yfa fl108_0 rfl) ?_
        refine rVal rfl rfl (yfa fl104_1 rfl) ?_
        refine rVal rfl rfl (yldA Try.underlying51 rfl ti51 rfl (Blk.cells (n := 3) hM2 (news := [_, _, _]) rfl) rfl) ?_
        refine rCall rfl rfl (yc (args := [.tmp 13, .tmp 18]) cf62 rfl) (fall_ret h2 D.keep D.torn D.mask hk h2.keep.rd (by show D.cache.length < _; omega)) ?_
        rintro _ w3 ⟨rfl, h3, hk3⟩
        refine rEnd ?_
        refine run_seq ?_
        refine run_reg rfl ?_
        refine rVal rfl rfl (yas rfl) ?_
        refine rEnd ?_
        refine run_ret Try.func39 rfl ?_
        have e : D.flush = (D.count.drop', 8) := by simp [Dev.flush, hd, hdue]
        rw [e]
        exact ⟨_, rfl, rfl, _, _, h3, (show Upd (fpD p m kp ca) (fpD p m kp ca) w1 w2 from ⟨hk2.mono' fun _ h => .inl h, fun _ h => .inl h⟩).trans (upd_fall hk3)⟩
      · skip
        have hmw := h2.lt m (.inr (.inl rfl))
        obtain ⟨a, cap, rfl, ha⟩ := h2.cache.rd.shape
        refine run_skip ?_
        refine run_seq ?_
        refine run_seq ?_
        refine run_reg rfl ?_
        refine rVal rfl rfl (ymv rfl) ?_
        refine rVal rfl rfl ((by first | exact ync rfl | exact yncf rfl)) ?_
        refine rVal rfl rfl (yfa fl108_3 rfl) ?_
        refine rVal rfl rfl (yld Try.underlying106 rfl rfl hM2 rfl) ?_
        refine rVal rfl rfl (yln Try.underlying106 rfl) ?_
        refine rVal rfl rfl (ymv rfl) ?_
        refine rEnd ?_
        refine run_block ?_
        refine run_loop (α := Nat) (0) (fun i => [(0, ptr p 0), (23, .slice a D.cache.length cap), (24, I (D.cache.length : Int)), (25, I (i : Int))]) (fun i wi => i ≤ D.cache.length ∧ DevM wi p m kp (.slice a D.cache.length cap) { D.count with sf := D.flushTo i } ∧ Kp (fun k => k = m) w2 wi) (fun i => D.cache.length - i) (by repeat (first | exact Sub.nil | refine Sub.cons rfl ?_)) ?hI ?hround
        case hI => exact ⟨by omega, h2, Kp.refl _ _⟩
        case hround =>
          rintro i wi ⟨hi, hd', hki⟩ ih
          dsimp only
          have hszi := hki.size
          refine run_seq ?_
          refine run_reg rfl ?_
          refine rVal rfl rfl (ylt rfl rfl) ?_
          refine rEnd ?_
          refine run_seq ?_
          refine run_if rfl (fun hlt => ?_) (fun hlt => ?_)
          · skip
            have hlt' : i < D.cache.length := by omega
            have hcache := hd'.cache
            rcases hcache.shape with ⟨-, h⟩ | ⟨gb, cap', hva, hcap⟩
            · exact absurd h (by show ¬ D.cache.length = 0; omega)
            cases hva
            obtain ⟨x, hx⟩ : ∃ x, D.cache[i]? = some x := ⟨_, List.getElem?_eq_getElem hlt'⟩
            have hxe : D.cache[i] = x := by rw [List.getElem?_eq_getElem hlt'] at hx; exact Option.some.inj hx
            have hcs : ((wrs D.cache).drop (i * 2)).take 2 = wr x := by rw [wrs_get _ _ hlt', hxe]
            have hxok := hd'.ok.cache x (List.mem_of_getElem? hx)
            have hcp := hcache.part hcs
            refine run_skip ?_
            refine run_seq ?_
            refine run_block ?_
            refine run_seq ?_
            refine run_reg rfl ?_
            refine rVal rfl rfl (yis Try.underlying106 ti114 rfl rfl (by omega)) ?_
            refine rVal rfl rfl (yldA Try.underlying114 rfl ti114 rfl hcp rfl) ?_
            refine rValP rfl rfl (pal (cs := [_, _]) ti114 rfl) ?_
            rintro _ w3 ⟨b5, rfl, hb5, hx3, hB5⟩
            refine rEffP rfl (zstA ti114 rfl rfl rfl rfl hB5 (by simp)) ?_
            rintro w4 ⟨hB5', hk4⟩
            replace hB5' : Blk w4 b5 [I x.1, S x.2] 114 := hB5'
            have hx4 : Ext wi w4 := hx3.trans_new hk4 (fun j hj => by omega)
            have hd4 := hd'.ext hx4
            have hM4 := hd4.blk
            obtain ⟨kv, hkv, hsf⟩ := hd4.map
            refine rEnd ?_
            refine run_draw (fun w' => Kp (fun k => k = m) w4 w') (by kernel_rfl) rfl ?_
            refine hTake (i := 0) rfl (by kernel_rfl) rfl rfl (fun _ hS => ymv rfl) ((Kp.refl _ w4).drew) ?_
            refine hTake (i := 1) rfl (by kernel_rfl) rfl rfl (fun _ hS => (by first | exact ync rfl | exact yncf rfl)) ((Kp.refl _ w4).drew) ?_
            refine hTake (i := 2) rfl (by kernel_rfl) rfl rfl (fun _ hS => yfa fl108_2 rfl) ((Kp.refl _ w4).drew) ?_
            refine hTake (i := 3) rfl (by kernel_rfl) rfl rfl (fun _ hS => (by first | exact yld Try.underlying105 rfl rfl (hS.blk hM4 hd4.pm) rfl | exact yld Try.underlying105 rfl rfl (hS.blk hB5' (by omega)) rfl)) ((Kp.refl _ w4).drew) ?_
            refine hTake (i := 4) rfl (by kernel_rfl) rfl rfl (fun _ hS => yfa fl114_0 rfl) ((Kp.refl _ w4).drew) ?_
            refine hTake (i := 5) rfl (by kernel_rfl) rfl rfl (fun _ hS => (by first | exact yld Try.underlying3 rfl rfl (hS.blk hM4 hd4.pm) rfl | exact yld Try.underlying3 rfl rfl (hS.blk hB5' (by omega)) rfl)) ((Kp.refl _ w4).drew) ?_
            refine hTake (i := 6) rfl (by kernel_rfl) rfl rfl (fun _ hS => yfa fl114_1 rfl) ((Kp.refl _ w4).drew) ?_
            refine hTake (i := 7) rfl (by kernel_rfl) rfl rfl (fun _ hS => (by first | exact yld Try.underlying9 rfl rfl (hS.blk hM4 hd4.pm) rfl | exact yld Try.underlying9 rfl rfl (hS.blk hB5' (by omega)) rfl)) ((Kp.refl _ w4).drew) ?_
            refine hOne (i := 8) (by kernel_rfl) ?_
            refine nEffP (i := 8) rfl rfl (zmu (k := x.1) (K := KI) Try.underlying105 (ky_int Try.underlying3) rfl rfl rfl (Ext.map (Ext.drew0 w4) hkv)) ?_
            rintro w7 ⟨hm7, hk7⟩
            refine ⟨(Kp.refl _ w4).drew.trans hk7, ?_⟩
            have hk7' := (Kp.refl (fun i => i = m) w4).drew.trans hk7
            have hd7 := hd4.put hsf hm7 hk7' (hd4.ok.put ⟨hxok.1, hxok.2.1⟩ hxok.2.2)
            have ef : upd (D.flushTo i) x.1 x.2 = D.flushTo (i + 1) := (flushTo_at hx).symm
            simp only [ef] at hd7
            refine hEnd (by kernel_rfl) ?_
            refine run_inBlock ?_
            refine run_reg rfl ?_
            refine rVal rfl rfl (yad rfl rfl (by omega)) ?_
            refine rVal rfl rfl (ymv rfl) ?_
            refine rEnd ?_
            exact (ih (i + 1) w7 ⟨by omega, hd7, hki.trans (hx4.kp.trans hk7')⟩ (by omega)).sub (by repeat (first | exact Sub.nil | refine Sub.cons rfl ?_))
          · skip
            have hin : i = D.cache.length := by omega
            subst hin
            have hMx := hd'.blk
            refine run_exit rfl ?_
            refine run_seq ?_
            refine run_reg rfl ?_
            refine rVal rfl rfl (ymv rfl) ?_
            refine rVal rfl rfl ((by first | exact ync rfl | exact yncf rfl)) ?_
            refine rVal rfl rfl (yfa fl108_3 rfl) ?_
            refine rEffP rfl (zst ti106 rfl rfl rfl hMx (by simp)) ?_
            rintro w5 ⟨hB5, hk5⟩
            refine rEnd ?_
            refine run_seq ?_
            refine run_reg rfl ?_
            refine rVal rfl rfl (yas rfl) ?_
            refine rEnd ?_
            refine run_ret Try.func39 rfl ?_
            have e : D.flush = ({ D.count with sf := D.flushTo D.cache.length, cache := [] }, 0) := by simp [Dev.flush, hd, hdue]
            rw [e]
            obtain ⟨kv, hkv, hsf⟩ := hd'.map
            refine ⟨_, rfl, rfl, kp, .slice none 0 0, ⟨hB5, ⟨kv, hk5.map hkv fun e => hd'.pm e.symm, hsf⟩, Sl.nil w5 _ _, hd'.keep.kp hk5 fun g hg => (hd'.sepk hg).1, ?_⟩, ?_⟩
            · exact ⟨hd'.ok.hB, hd'.ok.hN, hd'.ok.due, hd'.ok.sf, fun x hx => by simp at hx, hd'.ok.len, hd'.ok.reads⟩
            · refine ⟨(hk2.mono' fun _ h => .inl h).trans ((hki.mono' fun _ h => .inr (.inl h)).trans (hk5.mono' fun _ h => .inl h)), fun i hi => ?_⟩
              rcases hi with h' | h' | h' | h'
              · exact .inl (.inl h')
              · exact .inl (.inr (.inl h'))
              · cases h'
              · exact .inl (.inr (.inr (.inr h')))

def Dev.imageTo (D : Dev) (n : Nat) : List Bytes := (List.range n).map fun j : Nat => D.now (j : Int)
def Dev.image (D : Dev) : List Bytes := D.imageTo D.B
theorem imageTo_succ (D : Dev) (n : Nat) : D.imageTo (n + 1) = D.imageTo n ++ [D.now (n : Int)] := by simp [Dev.imageTo, List.range_succ]
@[simp] theorem imageTo_length (D : Dev) (n : Nat) : (D.imageTo n).length = n := by simp [Dev.imageTo]

theorem image_ret (h : DevM w p m kp ca D) (hc : D.cache.length < 1000000000000) :
    Ret Try.prog 28 [ptr p 0] w fun v w' => Sl w' v 9 1 D.B (D.image.map S) ∧ Ext w w' ∧ ∀ g, v.ownBlock = some g → w.heap.size ≤ g := by
  have hml : maxLen = 9223372036854775807 := rfl
  have hM := h.blk
  have hB := h.ok.hB
  have hfl := h.lt
  refine ret_of_run (e := [(0, _)]) Try.func28 rfl Try.ntmps28 rfl rfl ?_
  refine run_seq ?_
  refine run_reg rfl ?_
  refine rVal rfl rfl (yas rfl) ?_
  refine rEnd ?_
  refine run_seq ?_
  refine run_seq ?_
  refine run_reg rfl ?_
  refine rVal rfl rfl (ymv rfl) ?_
  refine rVal rfl rfl (yeqpN Try.underlying46 rfl rfl) ?_
  refine rEnd ?_
  refine run_false rfl ?_
  refine run_skip ?_
  refine run_seq ?_
  refine run_reg rfl ?_
  refine rVal rfl rfl (ymv rfl) ?_
  refine rVal rfl rfl ((by first | exact ync rfl | exact yncf rfl)) ?_
  refine rVal rfl rfl (yfa fl108_1 rfl) ?_
  refine rVal rfl rfl (yfa fl68_0 rfl) ?_
  refine rVal rfl rfl (yld Try.underlying3 rfl rfl hM rfl) ?_
  refine rValP rfl rfl (pmk (c := D.B) (n := 0) Try.underlying47 ti9 rfl rfl rfl (by omega) (by omega) (by omega)) ?_
  rintro _ w1 ⟨b1, rfl, ⟨hb1, hx1, hB1⟩, hS1⟩
  replace h := h.ext hx1
  have hM1 := h.blk
  refine rVal rfl rfl (yas rfl) ?_
  refine rEnd ?_
  refine run_seq ?_
  refine run_seq ?_
  refine run_reg rfl ?_
  refine rVal rfl rfl (ymv rfl) ?_
  refine rVal rfl rfl ((by first | exact ync rfl | exact yncf rfl)) ?_
  refine rVal rfl rfl (yfa fl108_1 rfl) ?_
  refine rVal rfl rfl (yfa fl68_0 rfl) ?_
  refine rVal rfl rfl (yld Try.underlying3 rfl rfl hM1 rfl) ?_
  refine rVal rfl rfl (ymv rfl) ?_
  refine rEnd ?_
  refine run_block ?_
  refine run_loop (α := Nat × Value) ((0, .slice (some ⟨b1, 0, none⟩) 0 D.B)) (fun i => [(0, ptr p 0), (3, i.2), (17, I (D.B : Int)), (18, I (i.1 : Int))]) (fun i wi => i.1 ≤ D.B ∧ DevM wi p m kp ca D ∧ Sl wi i.2 9 1 i.1 ((D.imageTo i.1).map S) ∧ Ext w wi ∧ ∀ g, i.2.ownBlock = some g → w.heap.size ≤ g) (fun i => D.B - i.1) (by repeat (first | exact Sub.nil | refine Sub.cons rfl ?_)) ?hI ?hround
  case hI => exact ⟨by simp, h, hS1, hx1, fun g hg => by have hg' : b1 = g := Option.some.inj hg; omega⟩
  case hround =>
    rintro ⟨i, u⟩ wi ⟨hi, hd, hSi, hxi, hgi⟩ ih
    dsimp only
    refine run_seq ?_
    refine run_reg rfl ?_
    refine rVal rfl rfl (ylt rfl rfl) ?_
    refine rEnd ?_
    refine run_seq ?_
    refine run_if rfl (fun hlt => ?_) (fun hlt => ?_)
    · skip
      simp only at hi hSi hgi
      refine run_skip ?_
      refine run_seq ?_
      refine run_block ?_
      refine run_seq ?_
      refine run_reg rfl ?_
      refine rVal rfl rfl (ymv rfl) ?_
      refine rVal rfl rfl (yas rfl) ?_
      refine rEnd ?_
      refine run_reg rfl ?_
      refine rVal rfl rfl (ymv rfl) ?_
      refine rVal rfl rfl (ymv rfl) ?_
      refine rVal rfl rfl (ymv rfl) ?_
      refine rCall rfl rfl (yc (args := [.tmp 22, .tmp 23]) cf63 rfl) (now_ret (i : Int) hd hc) ?_
      rintro _ w2 ⟨rfl, hx2⟩
      refine rValP rfl rfl (pbs (parts := [(0, .tmp 24)]) (cs := [_]) (zs := [Value.string ⟨#[]⟩]) Try.underlying47 ti9 rfl (by kernel_rfl) rfl rfl rfl (by decide)) ?_
      rintro _ w3 ⟨b3, rfl, ⟨hb3, hx3, hB3⟩, hS3⟩
      have hx23 := hx2.trans hx3
      refine rValP rfl rfl (pap Try.underlying47 ti9 rfl (by decide) rfl rfl (hSi.ext hx23) hS3.rd (by intro c hc; simp at hc; subst hc; rfl) (by omega) (by omega)) ?_
      rintro v' w4 ⟨hS4, hk4, hown4, -⟩
      have hgo : ∀ g, u.ownBlock = some g → ¬ fpD p m kp ca g := fun g hg hf => by
        have := hgi g hg
        have := hfl g hf
        omega
      have hd4 := (hd.ext hx23).kp hk4 fun k hk hu => hgo k hu hk
      refine rVal rfl rfl (yas rfl) ?_
      refine rEnd ?_
      refine run_inBlock ?_
      refine run_reg rfl ?_
      refine rVal rfl rfl (yad rfl rfl (by omega)) ?_
      refine rVal rfl rfl (ymv rfl) ?_
      refine rEnd ?_
      refine (ih (i + 1, v') w4 ⟨by show i + 1 ≤ D.B; omega, hd4, ?_, (hxi.trans hx23).trans_new hk4 (fun k hk => hgi k hk), fun g hg => ?_⟩ (by show D.B - (i + 1) < D.B - i; omega)).sub (by repeat (first | exact Sub.nil | refine Sub.cons rfl ?_))
      · rw [imageTo_succ, List.map_append]; exact hS4
      · rcases hown4 g hg with h' | h'
        · exact hgi g h'
        · have := hxi.size; have := hx23.size; omega
    · skip
      simp only at hi hSi hgi
      have hin : i = D.B := by omega
      subst hin
      refine run_exit rfl ?_
      refine run_seq ?_
      refine run_reg rfl ?_
      refine rVal rfl rfl (ymv rfl) ?_
      refine rVal rfl rfl (yas rfl) ?_
      refine rEnd ?_
      refine run_ret Try.func28 rfl ?_
      exact ⟨_, rfl, hSi, hxi, hgi⟩

theorem sl_cap {w : World} {v : Value} {e size n : Nat} {cs : List Value} (h : Sl w v e size n cs) : v = .slice none 0 0 ∨ ∃ a cap, v = .slice (some a) n cap := by
  rcases h.shape with ⟨rfl, -⟩ | ⟨g, cap, rfl, -⟩
  · exact .inl rfl
  · exact .inr ⟨_, _, rfl⟩
theorem sl_one {w : World} {v : Value} {e size n : Nat} {cs : List Value} (h : Sl w v e size n cs) : oneV v = true := by
  rcases h.shape with ⟨rfl, -⟩ | ⟨g, cap, rfl, -⟩ <;> rfl

theorem twin_ret (h : DevM w p m kp ca D) (hk : D.keep.length ≤ 17592186044416) (hc : D.cache.length ≤ 1000000000) :
    Ret Try.prog 29 [ptr p 0] w fun v w' => ∃ p' m' kp' ca', v = ptr p' 0 ∧ DevM w' p' m' kp' ca' D ∧ Ext w w' ∧ ∀ i, fpD p' m' kp' ca' i → w.heap.size ≤ i := by
  have h0 := h
  have hpw := h.lt p (.inl rfl)
  have hM := h.blk
  have hko := sl_one h.keep
  have hco := sl_one h.cache
  refine ret_of_run (e := [(0, _)]) Try.func29 rfl Try.ntmps29 rfl rfl ?_
  refine run_seq ?_
  refine run_reg rfl ?_
  refine rVal rfl rfl (yas rfl) ?_
  refine rEnd ?_
  refine run_seq ?_
  refine run_seq ?_
  refine run_reg rfl ?_
  refine rVal rfl rfl (ymv rfl) ?_
  refine rVal rfl rfl (yeqpN Try.underlying46 rfl rfl) ?_
  refine rEnd ?_
  refine run_false rfl ?_
  refine run_skip ?_
  refine run_seq ?_
  refine run_reg rfl ?_
  refine rVal rfl rfl (ymv rfl) ?_
  refine rVal rfl rfl ((by first | exact ync rfl | exact yncf rfl)) ?_
  refine rVal rfl rfl (yldA Try.underlying108 rfl ti108 rfl (Blk.cells (n := 11) hM (news := [_, _, _, _, _, _, _, _, _, _, _]) rfl) rfl) ?_
  refine rValP rfl rfl (pal (cs := [_, _, _, _, _, _, _, _, _, _, _]) ti108 rfl) ?_
  rintro _ w1 ⟨p', rfl, hp', hx1, hB1⟩
  refine rEffP rfl (zstA (news := devCs kp ca m D) ti108 rfl rfl (by simp only [devCs, List.all_cons, hko, hco, List.all_nil, Bool.and_true, Bool.true_and]; rfl) rfl hB1 (by simp)) ?_
  rintro w2 ⟨hB2, hk2⟩
  replace hB2 : Blk w2 p' (devCs kp ca m D) 108 := hB2
  have hx2 : Ext w w2 := hx1.trans_new hk2 (fun i hi => by omega)
  have hlt := hB2.lt
  replace h := h.ext hx2
  have hM2 := h.blk
  refine rEnd ?_
  refine run_seq ?_
  refine run_reg rfl ?_
  refine rVal rfl rfl (ymv rfl) ?_
  refine rVal rfl rfl ((by first | exact ync rfl | exact yncf rfl)) ?_
  refine rVal rfl rfl (yfa fl108_0 rfl) ?_
  refine rVal rfl rfl (yfa fl104_1 rfl) ?_
  refine rVal rfl rfl (yldA Try.underlying51 rfl ti51 rfl (Blk.cells (n := 3) hM2 (news := [_, _, _]) rfl) rfl) ?_
  refine rCall rfl rfl (yc (args := [.tmp 13]) cf64 rfl) (own_ret kp D.keep D.torn D.mask hk h.keep.rd (sl_cap h.keep)) ?_
  rintro _ w3 ⟨kp', rfl, hS3, hx3, hg3⟩
  have hB3 := hx3.blk hB2
  have hs2 := hx2.size
  have hs3 := hx3.size
  refine rVal rfl rfl (yfa fl108_0 rfl) ?_
  refine rVal rfl rfl (yfa fl104_1 rfl) ?_
  refine rEffP rfl (zstA (news := [kp', I D.torn, u8v D.mask]) ti51 rfl rfl (by simp only [List.all_cons, sl_one hS3, List.all_nil, Bool.and_true, Bool.true_and]; rfl) rfl hB3 (by simp)) ?_
  rintro w4 ⟨hB4, hk4⟩
  replace hB4 : Blk w4 p' (devCs kp' ca m D) 108 := hB4
  have hx4 : Ext w w4 := (hx2.trans hx3).trans_new hk4 (fun i hi => by omega)
  have hpne : ¬ p = p' := by omega
  have h4 := h0.ext hx4
  have hM4 := h4.blk
  obtain ⟨kv, hkv, hsf⟩ := h4.map
  have hS4 : Sl w4 kp' 3 1 D.keep.length (D.keep.map I) := hS3.kp hk4 fun g hg => by have := hg3 g hg; omega
  refine rEnd ?_
  refine run_seq ?_
  refine run_reg rfl ?_
  refine rVal rfl rfl (ymv rfl) ?_
  refine rVal rfl rfl ((by first | exact ync rfl | exact yncf rfl)) ?_
  refine rVal rfl rfl (yfa fl108_2 rfl) ?_
  refine rVal rfl rfl (yld Try.underlying105 rfl rfl hM4 rfl) ?_
  refine rCall rfl rfl (yc (args := [.tmp 20]) cf65 rfl) (cloneM_ret m kv hkv) ?_
  rintro _ w5 ⟨m', rfl, hm5, hx5, hm'⟩
  have hB5 := hx5.blk hB4
  have hs4 := hx4.size
  have hs34 := hk4.size
  have hlm := hm5.lt
  refine rVal rfl rfl (yfa fl108_2 rfl) ?_
  refine rEffP rfl (zst ti105 rfl rfl rfl hB5 (by simp)) ?_
  rintro w6 ⟨hB6, hk6⟩
  replace hB6 : Blk w6 p' (devCs kp' ca m' D) 108 := hB6
  have hx6 : Ext w w6 := (hx4.trans hx5).trans_new hk6 (fun i hi => by omega)
  have h6 := h0.ext hx6
  have hM6 := h6.blk
  have hm6 := hk6.map hm5 (by omega)
  have hS6 := (hS4.ext hx5).kp hk6 fun g hg => by have := hg3 g hg; omega
  refine rEnd ?_
  refine run_seq ?_
  refine run_reg rfl ?_
  refine rVal rfl rfl (ymv rfl) ?_
  refine rVal rfl rfl ((by first | exact ync rfl | exact yncf rfl)) ?_
  refine rVal rfl rfl (yfa fl108_3 rfl) ?_
  refine rVal rfl rfl (yld Try.underlying106 rfl rfl hM6 rfl) ?_
  refine rCall rfl rfl (yc (args := [.tmp 26]) cf66 rfl) (cloneW_ret ca D.cache hc h6.cache.rd (sl_cap h6.cache)) ?_
  rintro ca' w7 ⟨hS7, hx7, hg7⟩
  have hB7 := hx7.blk hB6
  have hs5 := hx5.size
  have hs6 := hk6.size
  refine rVal rfl rfl (yfa fl108_3 rfl) ?_
  refine rEffP rfl (zst ti106 rfl rfl (sl_one hS7) hB7 (by simp)) ?_
  rintro w8 ⟨hB8, hk8⟩
  replace hB8 : Blk w8 p' (devCs kp' ca' m' D) 108 := hB8
  refine rEnd ?_
  refine Run.sub (e := [(2, _), (3, _)]) ?_ (by repeat (first | exact Sub.nil | refine Sub.cons rfl ?_))
  refine run_seq ?_
  refine run_reg rfl ?_
  refine rVal rfl rfl (yas rfl) ?_
  refine rEnd ?_
  refine run_ret Try.func29 rfl ?_
  refine ⟨_, rfl, p', m', kp', ca', rfl, ⟨hB8, ⟨kv, hk8.map (hx7.map hm6) (by omega), hsf⟩, hS7.kp hk8 fun g hg => by have := hg7 g hg; omega, (hS6.ext hx7).kp hk8 fun g hg => by have := hg3 g hg; omega, h0.ok⟩, (hx6.trans hx7).trans_new hk8 (fun i hi => by omega), fun i hi => ?_⟩
  rcases hi with h' | h' | h' | h'
  · omega
  · omega
  · have := hg7 i h'; omega
  · have := hg3 i h'; omega
end
end Go.Proofs.Ytdapkfppcaaohaa
