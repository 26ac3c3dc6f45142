/- Texts JnH, JnI, ShJ, JnJ, JnK, JnL, JnM, one behind the other (what the statement JournalWhole does not use is left out). -/
import Derived.Test.YtkhkebcflaokpaaWh9
import Derived.Shelf.Strings.OnBuilder
import Derived.Test.YtkhkebcflaokpaaProg
namespace Go.Proofs.Ytkhkebcflaokpaa
open Go Go.RowKit
set_option linter.all false
set_option maxRecDepth 100000

/-- The device at p is D' now; nothing was changed but it and the journal at q. -/
def DevQ (w : World) (p q : Nat) (F : Nat → Prop) (D' : Dev) (w' : World) : Prop := ∃ F', DevA w' p D' F' ∧ Kp (fun k => F k ∨ k = q) w w' ∧ ∀ i, F' i → F i ∨ w.heap.size ≤ i

section
variable {w : World} {p q : Nat} {D : Dev} {F : Nat → Prop} {g : Geo} {J : Jn}
theorem home_ret (t : Tx) (wv : Value) (hr : Rd w wv 2 t.length (wrs t)) (ht : t.length ≤ 100000) (hJ : JnM w q p g J) : Ret Try.prog 38 [ptr q 0, wv] w fun v w' => StL w w' p v (puts t) ∧ Ext w w' := by
  have hml : maxLen = 9223372036854775807 := rfl
  obtain ⟨aw, cw, rfl, -⟩ := hr.shape
  unfold JnM at hJ
  refine ret_of_run (e := [(0, _), (1, _)]) Try.func38 rfl Try.ntmps38 rfl rfl ?_; refine run_seq ?_; refine run_reg rfl ?_; refine rVal rfl rfl (yas rfl) ?_; refine rEnd ?_; refine run_seq ?_; refine run_reg rfl ?_; refine rVal rfl rfl (yas rfl) ?_; refine rEnd ?_; refine run_seq ?_; refine run_seq ?_; refine run_reg rfl ?_; refine rVal rfl rfl (ymv rfl) ?_; refine rVal rfl rfl (yln Try.underlying38 rfl) ?_; refine rVal rfl rfl (ymv rfl) ?_; refine rEnd ?_; refine run_block ?_
  refine run_loop (α := Nat × Value) ((0, .slice none 0 0)) (fun x => [(0, ptr q 0), (5, x.2), (8, .slice aw t.length cw), (9, I (t.length : Int)), (10, I (x.1 : Int))]) (fun x w' => x.1 ≤ t.length ∧ Ext w w' ∧ StL w w' p x.2 (puts (t.take x.1))) (fun x => t.length - x.1) (by repeat (first | exact Sub.nil | refine Sub.cons rfl ?_)) ?hI ?hround
  case hI => exact ⟨Nat.zero_le _, Ext.refl _, stl_nil _ _ _⟩
  case hround =>
    rintro ⟨k, sv⟩ wi ⟨hk, hxi, hL⟩ ih
    dsimp only at hk hL
    have hri := hr.ext hxi
    have hJi := hxi.blk hJ
    obtain ⟨vs, G, hS, hM, hG, ho⟩ := hL
    have hlen := hM.len
    rw [puts_length, List.length_take, Nat.min_eq_left hk] at hlen
    have hsl := fun i hi => hS.lt (g := i) hi
    have hs0i := hxi.size
    have hqi := hJ.lt
    obtain ⟨sa, sc, rfl, -⟩ := hS.rd.shape
    try dsimp only
    refine run_seq ?_; refine run_reg rfl ?_; refine rVal rfl rfl (ylt rfl rfl) ?_; refine rEnd ?_; refine run_seq ?_; refine run_if rfl (fun hlt => ?_) (fun hlt => ?_)
    · skip
      have hkl : k < t.length := by omega
      obtain ⟨b, off, cap, x, hva, hxg⟩ := rd_get hri hkl
      cases hva
      have hel := rd_el hri hkl hxg
      refine run_skip ?_; refine run_seq ?_; refine run_block ?_; refine run_seq ?_; refine run_reg rfl ?_; refine rVal rfl rfl (yis Try.underlying38 ti54 rfl rfl (by omega)) ?_; refine rVal rfl rfl (yldA Try.underlying54 rfl ti54 rfl hel rfl) ?_; refine rValP rfl rfl (pal (cs := [_, _]) ti54 rfl) ?_
      rintro _ w3 ⟨b7, rfl, hb7, hx3, hB7⟩
      refine rEffP rfl (zstA ti54 rfl rfl rfl rfl hB7 (by simp)) ?_
      rintro w4 ⟨hB4, hk4⟩
      replace hB4 : Blk w4 b7 [I x.1, S x.2] 54 := hB4
      have hx4 : Ext wi w4 := hx3.trans_new hk4 (fun i hi => by omega)
      have hs4 := hx4.size
      have hJ4 := hx4.blk hJi
      refine rEnd ?_; refine run_draw (fun w' => Kp (fun k => (Value.slice sa vs.length sc).ownBlock = some k) w4 w') (by kernel_rfl) rfl ?_; refine hTake (i := 0) rfl (by kernel_rfl) rfl rfl (fun _ hS => ymv rfl) ((Ext.drew0 w4).kp) ?_; refine hTake (i := 1) rfl (by kernel_rfl) rfl rfl (fun _ hS => ymv rfl) ((Ext.drew0 w4).kp) ?_; refine hTake (i := 2) rfl (by kernel_rfl) rfl rfl (fun _ hS => (by first | exact ync rfl | exact yncf rfl)) ((Ext.drew0 w4).kp) ?_; refine hTake (i := 3) rfl (by kernel_rfl) rfl rfl (fun _ hS => yfa fl82_0 rfl) ((Ext.drew0 w4).kp) ?_
      refine hTake (i := 4) rfl (by kernel_rfl) rfl rfl (fun _ hS => (by first | exact yldA Try.underlying68 rfl ti68 rfl (Blk.cells (n := 3) (hS.blk hJ4 (fun hi => by have := (ho _ hi).1; omega)) (news := [_, _, _]) rfl) rfl | exact yldA Try.underlying68 rfl ti68 rfl (Blk.cells (n := 3) (hS.blk hB4 (fun hi => by have := hsl _ hi; omega)) (news := [_, _, _]) rfl) rfl)) ((Ext.drew0 w4).kp) ?_
      refine hTake (i := 5) rfl (by kernel_rfl) rfl rfl (fun _ hS => yfa fl54_0 rfl) ((Ext.drew0 w4).kp) ?_; refine hTake (i := 6) rfl (by kernel_rfl) rfl rfl (fun _ hS => (by first | exact yld Try.underlying3 rfl rfl (hS.blk hJ4 (fun hi => by have := (ho _ hi).1; omega)) rfl | exact yld Try.underlying3 rfl rfl (hS.blk hB4 (fun hi => by have := hsl _ hi; omega)) rfl)) ((Ext.drew0 w4).kp) ?_
      refine hTake (i := 7) rfl (by kernel_rfl) rfl rfl (fun _ hS => yfa fl54_1 rfl) ((Ext.drew0 w4).kp) ?_; refine hTake (i := 8) rfl (by kernel_rfl) rfl rfl (fun _ hS => (by first | exact yld Try.underlying9 rfl rfl (hS.blk hJ4 (fun hi => by have := (ho _ hi).1; omega)) rfl | exact yld Try.underlying9 rfl rfl (hS.blk hB4 (fun hi => by have := hsl _ hi; omega)) rfl)) ((Ext.drew0 w4).kp) ?_
      refine hOne (i := 9) (by kernel_rfl) ?_; refine nCall (i := 9) rfl rfl rfl (yc (args := [.tmp 18, .tmp 20, .tmp 22]) cf28 rfl) (put_ret p g x.1 x.2 _) ?_
      rintro _ w5 ⟨u, rfl, hC5, hx5⟩
      refine ⟨((Ext.drew0 w4).trans hx5).kp, ?_⟩
      have hx45 := (Ext.drew0 w4).trans hx5
      have hs45 := (Ext.drew0 w4).size
      refine hOne (i := 10) (by kernel_rfl) ?_; refine nValP (i := 10) rfl rfl rfl (pbs (parts := [(0, .tmp 23)]) (cs := [_]) (zs := [Value.nilFunc]) Try.underlying69 ti71 rfl (by kernel_rfl) rfl rfl rfl (by decide)) ?_
      rintro _ w7 ⟨b33, rfl, ⟨hb33, hx7, hB33⟩, hS33⟩
      refine ⟨(hx45.trans hx7).kp, ?_⟩
      refine hOne (i := 11) (by kernel_rfl) ?_; refine nValP (i := 11) rfl rfl rfl (pap Try.underlying69 ti71 rfl (by decide) rfl rfl (hS.ext (hx4.trans (hx45.trans hx7))) hS33.rd (by intro c hc; simp at hc; subst hc; exact oneV_one hC5.one) (by omega) (by omega)) ?_
      rintro v' w8 ⟨hS8, hk8, hown8, -⟩
      refine ⟨(hx45.trans hx7).kp.trans hk8, ?_⟩
      refine hTake (i := 12) rfl (by kernel_rfl) rfl rfl (fun _ hS => yas rfl) ((hx45.trans hx7).kp.trans hk8) ?_; refine hEnd (by kernel_rfl) ?_; refine run_inBlock ?_; refine run_reg rfl ?_; refine rVal rfl rfl (yad rfl rfl (by omega)) ?_; refine rVal rfl rfl (ymv rfl) ?_; refine rEnd ?_
      have hx2i := hxi.trans (hx4.trans (hx45.trans hx7))
      have hx8 : Ext w w8 := hx2i.trans_new hk8 (fun i hi => (ho i hi).1)
      refine (ih (k + 1, v') w8 ⟨hkl, hx8, ?_⟩ (by dsimp only; omega)).sub (by repeat (first | exact Sub.nil | refine Sub.cons rfl ?_))
      have hbl : puts (t.take (k + 1)) = puts (t.take k) ++ [.put x.1 x.2] := by
        have e : t[k] = x := by rw [List.getElem?_eq_getElem hkl] at hxg; exact Option.some.inj hxg
        rw [List.take_succ_eq_append_getElem hkl, e]; simp
      rw [hbl]
      exact stl_app (w1 := wi) (w2 := w5) (w3 := w7) (us := [u]) hM hG ho hsl hs0i (hx4.trans hx45) ⟨hC5.mono (fun i _ hi => by omega), trivial⟩ hx7 hS8 rfl hk8 hown8
    · skip
      have hkk : k = t.length := by omega
      subst hkk
      rw [List.take_length] at hM
      refine run_exit rfl ?_; refine run_seq ?_; refine run_reg rfl ?_; refine rVal rfl rfl (ymv rfl) ?_; refine rVal rfl rfl (yas rfl) ?_; refine rEnd ?_; refine run_ret Try.func38 rfl ?_
      exact ⟨_, rfl, ⟨vs, G, hS, hM, hG, ho⟩, hxi⟩

set_option maxHeartbeats 1000000 in
theorem turn_ret (tl : Nat) (htl : tl ≤ 1000000) (hg : g.Ok) (hgs : g.s ≤ 1000) (hJ : JnM w q p g J) (hJo : J.Ok) (hA : DevA w p D F) (hN : D.N = g.N) (hq : ¬ F q) {c : Nat} (hsm : D.Small c) (hc : c ≤ 900000) :
    Ret Try.prog 39 [ptr q 0, I (tl : Int)] w fun v w' =>
      v = I (runS D [.flush, .put (g.hd (1 - J.a)) ((⟨J.own + 1, tl % g.L, J.number⟩ : Hd).block g.size), .flush]).2 ∧ JnM w' q p g { J with own := J.own + 1, a := 1 - J.a, tail := tl % g.L, used := 0 } ∧
      DevQ w p q F (runS D [.flush, .put (g.hd (1 - J.a)) ((⟨J.own + 1, tl % g.L, J.number⟩ : Hd).block g.size), .flush]).1 w' := by
  have hml : maxLen = 9223372036854775807 := rfl
  have hgN := hg.hN
  have hgB := hg.hB
  have hgL := hg.hL
  have hqlt := hJ.lt
  obtain ⟨jo, jt, jn, ja, ju, jd⟩ := J
  have j1 : jo < 1000000000 := hJo.own
  have j2 : jn < 1000000000 := hJo.number
  have j3 : ja ≤ 1 := hJo.a
  have hmod : tl % g.L < g.L := Nat.mod_lt _ (by omega)
  change Blk w q (jl p g jo jt jn ja ju jd) _ at hJ
  dsimp only
  refine ret_of_run (e := [(0, _), (1, _)]) Try.func39 rfl Try.ntmps39 rfl rfl ?_; refine run_seq ?_; refine run_reg rfl ?_; refine rVal rfl rfl (yas rfl) ?_; refine rEnd ?_; refine run_seq ?_; refine run_reg rfl ?_; refine rVal rfl rfl (ymv rfl) ?_; refine rVal rfl rfl ((by first | exact ync rfl | exact yncf rfl)) ?_; refine rVal rfl rfl (yfa fl82_1 rfl) ?_; refine rVal rfl rfl (yfa fl76_0 rfl) ?_; refine rVal rfl rfl (yld Try.underlying58 rfl rfl hJ rfl) ?_; refine rVal rfl rfl (yad64 rfl rfl) ?_; refine rVal rfl rfl ((by first | exact ync rfl | exact yncf rfl)) ?_
  refine rVal rfl rfl (yfa fl82_1 rfl) ?_; refine rVal rfl rfl (yfa fl76_0 rfl) ?_
  rw [Nat.mod_eq_of_lt (show jo + 1 < 18446744073709551616 by omega)]
  refine rEffP rfl (zst ti58 rfl rfl rfl hJ (by simp)) ?_
  rintro w1 ⟨hJ1, hk1⟩
  replace hJ1 : Blk w1 q (jl p g (jo + 1) jt jn ja ju jd) 82 := hJ1
  refine rEnd ?_; refine run_seq ?_; refine run_reg rfl ?_; refine rVal rfl rfl (ymv rfl) ?_; refine rVal rfl rfl (ymv rfl) ?_; refine rVal rfl rfl ((by first | exact ync rfl | exact yncf rfl)) ?_; refine rVal rfl rfl (yfa fl82_2 rfl) ?_; refine rVal rfl rfl (yld Try.underlying3 rfl rfl hJ1 rfl) ?_; refine rVal rfl rfl (ysb rfl rfl (by omega)) ?_; refine rVal rfl rfl ((by first | exact ync rfl | exact yncf rfl)) ?_; refine rVal rfl rfl (yfa fl82_2 rfl) ?_
  rw [show (1 : Int) - (ja : Int) = ((1 - ja : Nat) : Int) from by omega]
  refine rEffP rfl (zst ti3 rfl rfl rfl hJ1 (by simp)) ?_
  rintro w2 ⟨hJ2, hk2⟩
  replace hJ2 : Blk w2 q (jl p g (jo + 1) jt jn (1 - ja) ju jd) 82 := hJ2
  refine rEnd ?_; refine run_seq ?_; refine run_reg rfl ?_; refine rVal rfl rfl (ymv rfl) ?_; refine rVal rfl rfl (ymv rfl) ?_; refine rVal rfl rfl (ymv rfl) ?_; refine rVal rfl rfl ((by first | exact ync rfl | exact yncf rfl)) ?_; refine rVal rfl rfl (yfa fl82_0 rfl) ?_; refine rVal rfl rfl (yldA Try.underlying68 rfl ti68 rfl (Blk.cells (n := 3) hJ2 (news := [_, _, _]) rfl) rfl) ?_; refine rCall rfl rfl (yc (args := [.tmp 27]) cf36 rfl) (ring_ret p g hg _) ?_
  rintro _ w3 ⟨rfl, hx3⟩
  refine rVal rfl rfl (yre rfl rfl (by omega)) ?_; refine rVal rfl rfl ((by first | exact ync rfl | exact yncf rfl)) ?_; refine rVal rfl rfl (yfa fl82_1 rfl) ?_; refine rVal rfl rfl (yfa fl76_1 rfl) ?_
  rw [show (tl : Int) % (g.L : Int) = ((tl % g.L : Nat) : Int) from by simp]
  refine rEffP rfl (zst ti3 rfl rfl rfl (hx3.blk hJ2) (by simp)) ?_
  rintro w4 ⟨hJ4, hk4⟩
  replace hJ4 : Blk w4 q (jl p g (jo + 1) (tl % g.L) jn (1 - ja) ju jd) 82 := hJ4
  refine rEnd ?_; refine Run.sub (e := [(0, _), (4, _)]) ?_ (by repeat (first | exact Sub.nil | refine Sub.cons rfl ?_))
  refine run_seq ?_; refine run_reg rfl ?_; refine rVal rfl rfl (ymv rfl) ?_; refine rVal rfl rfl ((by first | exact ync rfl | exact yncf rfl)) ?_; refine rVal rfl rfl (yfa fl82_3 rfl) ?_; refine rEffP rfl (zst ti3 rfl rfl rfl hJ4 (by simp)) ?_
  rintro w5 ⟨hJ5, hk5⟩
  replace hJ5 : Blk w5 q (jl p g (jo + 1) (tl % g.L) jn (1 - ja) 0 jd) 82 := hJ5
  have hkq : Kp (fun k => k = q) w w5 := ((hk1.trans hk2).trans hx3.kp).trans (hk4.trans hk5)
  have hA5 := hA.kp hkq (fun i hi he => hq (he ▸ hi))
  have hFl := hA.lt
  have hs5 := hkq.size
  refine rEnd ?_; refine run_seq ?_; refine run_draw (fun w' => Kp F w5 w') (by kernel_rfl) rfl ?_; refine hTake (i := 0) rfl (by kernel_rfl) rfl rfl (fun _ hS => ymv rfl) ((Ext.drew0 w5).kp) ?_; refine hTake (i := 1) rfl (by kernel_rfl) rfl rfl (fun _ hS => (by first | exact ync rfl | exact yncf rfl)) ((Ext.drew0 w5).kp) ?_; refine hTake (i := 2) rfl (by kernel_rfl) rfl rfl (fun _ hS => yfa fl82_0 rfl) ((Ext.drew0 w5).kp) ?_
  refine hTake (i := 3) rfl (by kernel_rfl) rfl rfl (fun _ hS => yldA Try.underlying68 rfl ti68 rfl (Blk.cells (n := 3) (hS.blk hJ5 hq) (news := [_, _, _]) rfl) rfl) ((Ext.drew0 w5).kp) ?_; refine hTake (i := 5) rfl (by kernel_rfl) rfl rfl (fun _ hS => ymv rfl) ((Ext.drew0 w5).kp) ?_; refine hTake (i := 6) rfl (by kernel_rfl) rfl rfl (fun _ hS => (by first | exact ync rfl | exact yncf rfl)) ((Ext.drew0 w5).kp) ?_; refine hTake (i := 7) rfl (by kernel_rfl) rfl rfl (fun _ hS => yfa fl82_0 rfl) ((Ext.drew0 w5).kp) ?_
  refine hTake (i := 8) rfl (by kernel_rfl) rfl rfl (fun _ hS => yldA Try.underlying68 rfl ti68 rfl (Blk.cells (n := 3) (hS.blk hJ5 hq) (news := [_, _, _]) rfl) rfl) ((Ext.drew0 w5).kp) ?_; refine hTake (i := 9) rfl (by kernel_rfl) rfl rfl (fun _ hS => ymv rfl) ((Ext.drew0 w5).kp) ?_; refine hTake (i := 10) rfl (by kernel_rfl) rfl rfl (fun _ hS => (by first | exact ync rfl | exact yncf rfl)) ((Ext.drew0 w5).kp) ?_; refine hTake (i := 11) rfl (by kernel_rfl) rfl rfl (fun _ hS => yfa fl82_0 rfl) ((Ext.drew0 w5).kp) ?_
  refine hTake (i := 12) rfl (by kernel_rfl) rfl rfl (fun _ hS => yfa fl68_1 rfl) ((Ext.drew0 w5).kp) ?_; refine hTake (i := 13) rfl (by kernel_rfl) rfl rfl (fun _ hS => yld Try.underlying3 rfl rfl (hS.blk hJ5 hq) rfl) ((Ext.drew0 w5).kp) ?_; refine hTake (i := 14) rfl (by kernel_rfl) rfl rfl (fun _ hS => ymv rfl) ((Ext.drew0 w5).kp) ?_; refine hTake (i := 15) rfl (by kernel_rfl) rfl rfl (fun _ hS => (by first | exact ync rfl | exact yncf rfl)) ((Ext.drew0 w5).kp) ?_; refine hTake (i := 16) rfl (by kernel_rfl) rfl rfl (fun _ hS => yfa fl82_2 rfl) ((Ext.drew0 w5).kp) ?_
  refine hTake (i := 17) rfl (by kernel_rfl) rfl rfl (fun _ hS => yld Try.underlying3 rfl rfl (hS.blk hJ5 hq) rfl) ((Ext.drew0 w5).kp) ?_; refine hTake (i := 18) rfl (by kernel_rfl) rfl rfl (fun _ hS => yad rfl rfl (by omega)) ((Ext.drew0 w5).kp) ?_; refine hTake (i := 19) rfl (by kernel_rfl) rfl rfl (fun _ hS => ymv rfl) ((Ext.drew0 w5).kp) ?_; refine hTake (i := 20) rfl (by kernel_rfl) rfl rfl (fun _ hS => (by first | exact ync rfl | exact yncf rfl)) ((Ext.drew0 w5).kp) ?_; refine hTake (i := 21) rfl (by kernel_rfl) rfl rfl (fun _ hS => yfa fl82_1 rfl) ((Ext.drew0 w5).kp) ?_
  refine hTake (i := 22) rfl (by kernel_rfl) rfl rfl (fun _ hS => yldA Try.underlying76 rfl ti76 rfl (Blk.cells (n := 3) (hS.blk hJ5 hq) (news := [_, _, _]) rfl) rfl) ((Ext.drew0 w5).kp) ?_; refine hTake (i := 23) rfl (by kernel_rfl) rfl rfl (fun _ hS => ymv rfl) ((Ext.drew0 w5).kp) ?_; refine hTake (i := 24) rfl (by kernel_rfl) rfl rfl (fun _ hS => (by first | exact ync rfl | exact yncf rfl)) ((Ext.drew0 w5).kp) ?_; refine hTake (i := 25) rfl (by kernel_rfl) rfl rfl (fun _ hS => yfa fl82_0 rfl) ((Ext.drew0 w5).kp) ?_
  refine hTake (i := 26) rfl (by kernel_rfl) rfl rfl (fun _ hS => yfa fl68_0 rfl) ((Ext.drew0 w5).kp) ?_; refine hTake (i := 27) rfl (by kernel_rfl) rfl rfl (fun _ hS => yld Try.underlying26 rfl rfl (hS.blk hJ5 hq) rfl) ((Ext.drew0 w5).kp) ?_; refine hTake (i := 31) rfl (by kernel_rfl) rfl rfl (fun _ hS => ymv rfl) ((Ext.drew0 w5).kp) ?_; refine hTake (i := 32) rfl (by kernel_rfl) rfl rfl (fun _ hS => (by first | exact ync rfl | exact yncf rfl)) ((Ext.drew0 w5).kp) ?_; refine hTake (i := 33) rfl (by kernel_rfl) rfl rfl (fun _ hS => yfa fl82_0 rfl) ((Ext.drew0 w5).kp) ?_
  refine hTake (i := 34) rfl (by kernel_rfl) rfl rfl (fun _ hS => yldA Try.underlying68 rfl ti68 rfl (Blk.cells (n := 3) (hS.blk hJ5 hq) (news := [_, _, _]) rfl) rfl) ((Ext.drew0 w5).kp) ?_
  have h0 := Ext.drew0 w5
  refine hOne (i := 4) (by kernel_rfl) ?_; refine nCall (i := 4) rfl rfl rfl (yc (args := [.tmp 39]) cf30 rfl) (flushJ_ret p g _) ?_
  rintro _ w6 ⟨x1, rfl, hC6, hx6⟩
  refine ⟨(h0.trans hx6).kp, ?_⟩
  refine hOne (i := 28) (by kernel_rfl) ?_; refine nCall (i := 28) rfl rfl rfl (yc (args := [.tmp 63]) cf20 rfl) (sizeA_ret (hA5.ext (h0.trans hx6))) ?_
  rintro _ w7 ⟨rfl, rfl⟩
  refine ⟨(h0.trans hx6).kp, ?_⟩
  rw [hN]
  refine hOne (i := 29) (by kernel_rfl) ?_; refine nCall (i := 29) rfl rfl rfl (yc (args := [.tmp 58, .tmp 64]) cf31 rfl) (hdblock_ret ⟨jo + 1, tl % g.L, jn⟩ ⟨by show jo + 1 < _; omega, by show tl % g.L < _; omega, by show jn < _; omega⟩ g.size _ (by unfold Geo.size; omega) (by unfold Geo.size; omega)) ?_
  rintro _ w8 ⟨rfl, hx8⟩
  refine ⟨((h0.trans hx6).trans hx8).kp, ?_⟩
  rw [show (g.s : Int) + ((1 - ja : Nat) : Int) = g.hd (1 - ja) from by unfold Geo.hd; omega]
  refine hOne (i := 30) (by kernel_rfl) ?_; refine nCall (i := 30) rfl rfl rfl (yc (args := [.tmp 44, .tmp 54, .tmp 65]) cf28 rfl) (put_ret p g (g.hd (1 - ja)) ((⟨jo + 1, tl % g.L, jn⟩ : Hd).block g.size) _) ?_
  rintro _ w9 ⟨x2, rfl, hC9, hx9⟩
  refine ⟨(((h0.trans hx6).trans hx8).trans hx9).kp, ?_⟩
  refine hOne (i := 35) (by kernel_rfl) ?_; refine nCall (i := 35) rfl rfl rfl (yc (args := [.tmp 70]) cf30 rfl) (flushJ_ret p g _) ?_
  rintro _ w10 ⟨x3, rfl, hC10, hx10⟩
  refine ⟨((((h0.trans hx6).trans hx8).trans hx9).trans hx10).kp, ?_⟩
  have hx := (((h0.trans hx6).trans hx8).trans hx9).trans hx10
  have z0 := h0.size
  have z6 := hx6.size
  have z8 := hx8.size
  have z9 := hx9.size
  have hN3 : StpsM w10 p (fun i => w5.heap.size ≤ i) [x1, x2, x3] [.flush, .put (g.hd (1 - ja)) ((⟨jo + 1, tl % g.L, jn⟩ : Hd).block g.size), .flush] := by
    refine ⟨?_, ?_, ?_, trivial⟩
    · exact ((hC6.mono (G' := fun i => w5.heap.size ≤ i) (fun i _ hi => Nat.le_trans z0 hi)).kp ((hx8.trans hx9).trans hx10) (fun _ h => h.elim))
    · exact ((hC9.mono (G' := fun i => w5.heap.size ≤ i) (fun i _ hi => by omega)).kp hx10 (fun _ h => h.elim))
    · exact hC10.mono (fun i _ hi => by omega)
  refine hOne (i := 36) (by kernel_rfl) ?_; refine nValP (i := 36) rfl rfl rfl (pbs (parts := [(0, .tmp 40), (1, .tmp 66), (2, .tmp 71)]) (cs := [_, _, _]) (zs := [Value.nilFunc, Value.nilFunc, Value.nilFunc]) Try.underlying69 ti71 rfl (by kernel_rfl) rfl rfl rfl (by decide)) ?_
  rintro _ w11 ⟨b48, rfl, ⟨hb48, hx11, hB48⟩, hS48⟩
  refine ⟨(hx.trans hx11).kp, ?_⟩
  have hL : StL w5 w11 p (.slice (some ⟨b48, 0, none⟩) 3 3) [.flush, .put (g.hd (1 - ja)) ((⟨jo + 1, tl % g.L, jn⟩ : Hd).block g.size), .flush] := by
    have zx := hx.size
    refine ⟨[x1, x2, x3], fun i => w5.heap.size ≤ i ∧ i < w10.heap.size, hS48, (StpsM.mono (fun i h1 h2 => ⟨h2, h1⟩) hN3).ext hx11, fun i hi => ⟨hi.1, Nat.lt_of_lt_of_le hi.2 hx11.size⟩, fun i hi => ?_⟩
    have e : b48 = i := Option.some.inj hi
    subst e
    exact ⟨by omega, fun h => by omega⟩
  have hA11 := hA5.ext (hx.trans hx11)
  refine hOne (i := 37) (by kernel_rfl) ?_; refine nCall (i := 37) rfl rfl rfl (yc (args := [.tmp 72]) cf32 rfl) (runL_ret hL hA11 (fun i hi => Nat.lt_of_lt_of_le (hFl i hi) hs5) hsm (by simp; omega)) ?_
  rintro _ w12 ⟨rfl, F', hA12, hu12⟩
  refine ⟨(hx.trans hx11).kp.trans hu12.1, ?_⟩
  refine hTake (i := 38) rfl (by kernel_rfl) rfl rfl (fun _ hS => yas rfl) ((hx.trans hx11).kp.trans hu12.1) ?_; refine hEnd (by kernel_rfl) ?_; refine Run.sub (e := [(4, _)]) ?_ (by repeat (first | exact Sub.nil | refine Sub.cons rfl ?_))
  refine run_ret Try.func39 rfl ?_
  have hk12 := (hx.trans hx11).kp.trans hu12.1
  exact ⟨_, rfl, rfl, hk12.blk hJ5 hq, F', hA12, (hkq.mono' (fun i hi => .inr hi)).trans (hk12.mono' (fun i hi => .inl hi)), fun i hi => (hu12.2 i hi).imp id (fun h => Nat.le_trans hs5 (Nat.le_trans (hx.trans hx11).size h))⟩
end
end Go.Proofs.Ytkhkebcflaokpaa
namespace Go.Proofs.Ytkhkebcflaokpaa
open Go Go.RowKit
set_option linter.all false
set_option maxRecDepth 100000

section
variable {w : World} {p q : Nat} {D : Dev} {F : Nat → Prop} {g : Geo} {J : Jn}
set_option maxHeartbeats 1000000 in
theorem check_retJ (t : Tx) (wv : Value) (hg : g.Ok) (hr : Rd w wv 2 t.length (wrs t)) (ht : t.length ≤ 100000) (hd : ∀ x ∈ t, x.2.length ≤ 100000) (hJ : JnM w q p g J) (hA : DevA w p D F) (hB : D.B = g.B) (hN : D.N = g.N) :
    Ret Try.prog 40 [ptr q 0, wv] w fun v w' => ∃ e : Int, v = I e ∧ (TxOk g t → e = 0) ∧ (e = 0 ∨ e = 1 ∨ e = 12) ∧ Ext w w' := by
  have hml : maxLen = 9223372036854775807 := rfl
  have hgN := hg.hN
  obtain ⟨aw, cw, rfl, -⟩ := hr.shape
  have hJ0 := hJ
  unfold JnM at hJ
  refine ret_of_run (e := [(0, _), (1, _)]) Try.func40 rfl Try.ntmps40 rfl rfl ?_; refine run_seq ?_; refine run_reg rfl ?_; refine rVal rfl rfl (yas rfl) ?_; refine rEnd ?_; refine run_seq ?_; refine run_reg rfl ?_; refine rValP rfl rfl (pmm) ?_
  rintro _ w1 ⟨m, rfl, hm, hx1, hM1⟩
  refine rVal rfl rfl (yas rfl) ?_; refine rEnd ?_; refine run_seq ?_; refine run_seq ?_; refine run_reg rfl ?_; refine rVal rfl rfl (ymv rfl) ?_; refine rVal rfl rfl (yln Try.underlying38 rfl) ?_; refine rVal rfl rfl (ymv rfl) ?_; refine rEnd ?_; refine run_block ?_
  have hM1' : MapL KI w1 m ([] : List (Int × Value)) := ⟨⟨_, _, hM1, rfl⟩, List.nodup_nil⟩
  refine run_loop (α := Nat × List (Int × Value)) ((0, [])) (fun x => [(0, ptr q 0), (1, .slice aw t.length cw), (5, .map (some m)), (9, .slice aw t.length cw), (10, I (t.length : Int)), (11, I (x.1 : Int))]) (fun x w' => x.1 ≤ t.length ∧ Ext w w' ∧ MapL KI w' m x.2 ∧ (∀ n, getL x.2 n = if n ∈ (t.take x.1).map (·.1) then some (I 1) else none)) (fun x => t.length - x.1) (by repeat (first | exact Sub.nil | refine Sub.cons rfl ?_)) ?hI ?hround
  case hI => exact ⟨Nat.zero_le _, hx1, hM1', fun n => by simp [getL]⟩
  case hround =>
    rintro ⟨k, kv⟩ wi ⟨hk, hxi, hMi, hkv⟩ ih
    dsimp only at hk hMi hkv
    have hri := hr.ext hxi
    have hJi := hxi.blk hJ
    have hs0 := hxi.size
    have hmlt := hMi.lt
    try dsimp only
    refine run_seq ?_; refine run_reg rfl ?_; refine rVal rfl rfl (ylt rfl rfl) ?_; refine rEnd ?_; refine run_seq ?_; refine run_if rfl (fun hlt => ?_) (fun hlt => ?_)
    · skip
      have hkl : k < t.length := by omega
      obtain ⟨b, off, cap, x, hva, hxg⟩ := rd_get hri hkl
      cases hva
      have hel := rd_el hri hkl hxg
      have hxm := List.mem_of_getElem? hxg
      have hxl := hd x hxm
      have htk : t.take (k + 1) = t.take k ++ [x] := by
        have e : t[k] = x := by rw [List.getElem?_eq_getElem hkl] at hxg; exact Option.some.inj hxg
        rw [List.take_succ_eq_append_getElem hkl, e]
      have hnd : TxOk g t → x.1 ∉ (t.take k).map (·.1) := fun h hmem => by
        have h1 := h.nd
        have h2 : ((t.take (k + 1)).map (·.1)).Nodup := by
          rw [List.map_take]; exact h1.sublist (List.take_sublist _ _)
        rw [htk, List.map_append, List.nodup_append] at h2
        exact h2.2.2 _ hmem _ (by simp) rfl
      refine run_skip ?_; refine run_seq ?_; refine run_block ?_; refine run_seq ?_; refine run_reg rfl ?_; refine rVal rfl rfl (yis Try.underlying38 ti54 rfl rfl (by omega)) ?_; refine rVal rfl rfl (yldA Try.underlying54 rfl ti54 rfl hel rfl) ?_; refine rValP rfl rfl (pal (cs := [_, _]) ti54 rfl) ?_
      rintro _ w3 ⟨b7, rfl, hb7, hx3, hB7⟩
      refine rEffP rfl (zstA ti54 rfl rfl rfl rfl hB7 (by simp)) ?_
      rintro w4 ⟨hB4, hk4⟩
      replace hB4 : Blk w4 b7 [I x.1, S x.2] 54 := hB4
      have hx4 : Ext wi w4 := hx3.trans_new hk4 (fun i hi => by omega)
      have hJ4 := hx4.blk hJi
      have hA4 := hA.ext (hxi.trans hx4)
      have hM4 := hx4.map hMi
      have h0 := Ext.drew0 w4
      refine rEnd ?_; refine run_seq ?_; refine run_seq ?_; refine run_cut (fun e' w' => ∃ bb : Bool, e' = [(0, ptr q 0), (1, .slice (some ⟨b, off, none⟩) t.length cw), (5, .map (some m)), (7, ptr b7 0), (9, .slice (some ⟨b, off, none⟩) t.length cw), (10, I (t.length : Int)), (11, I (k : Int)), (41, .bool bb)] ∧ (bb = true → ¬ TxOk g t) ∧ (bb = false → x.1 ∉ (t.take k).map (·.1)) ∧ Ext w4 w') ?hk (fun hk => ?hmain)
      case hk =>
        rintro _ w5 ⟨bb, rfl, hb1, hb2, hx5⟩
        refine run_cond rfl (fun hbb => ?_) (fun hbb => ?_)
        · skip
          refine run_seq ?_; refine run_reg rfl ?_; refine rVal rfl rfl (yas rfl) ?_; refine rEnd ?_; refine run_ret Try.func40 rfl ?_
          exact ⟨_, rfl, 1, rfl, fun h => absurd h (hb1 hbb), .inr (.inl rfl), hxi.trans (hx4.trans hx5)⟩
        · skip
          have hnm := hb2 (by simpa using hbb)
          have hM5 := hx5.map hM4
          refine run_skip ?_; refine run_reg rfl ?_; refine rVal rfl rfl (ymv rfl) ?_; refine rVal rfl rfl (yfa fl54_0 rfl) ?_; refine rVal rfl rfl (yld Try.underlying3 rfl rfl (hx5.blk hB4) rfl) ?_; refine rVal rfl rfl (ylk (k := x.1) (K := KI) Try.underlying111 (ky_int Try.underlying3) ti3 rfl rfl hM5) ?_
          rw [hkv, if_neg hnm, Option.getD_none]
          refine rVal rfl rfl (yad rfl rfl (by omega)) ?_; refine rEffP rfl (zmu (k := x.1) (K := KI) Try.underlying111 (ky_int Try.underlying3) rfl rfl rfl hM5) ?_
          rintro w6 ⟨hM6, hk6⟩
          refine rEnd ?_; refine run_inBlock ?_; refine run_reg rfl ?_; refine rVal rfl rfl (yad rfl rfl (by omega)) ?_; refine rVal rfl rfl (ymv rfl) ?_; refine rEnd ?_; refine (ih (k + 1, putL kv x.1 (I (0 + 1))) w6 ⟨hkl, (hxi.trans (hx4.trans hx5)).trans_new hk6 (fun i hi => by have := hx1.size; omega), hM6, fun n => ?_⟩ (by dsimp only; omega)).sub (by repeat (first | exact Sub.nil | refine Sub.cons rfl ?_))
          dsimp only
          rw [getL_put, hkv, htk, List.map_append]
          by_cases hn : n = x.1
          · subst hn; simp
          · rw [if_neg hn]
            simp [hn]
      case hmain =>
        refine run_draw (fun w' => Ext w4 w') (by kernel_rfl) rfl ?_; refine hTake (i := 0) rfl (by kernel_rfl) rfl rfl (fun _ hS => ymv rfl) (h0) ?_; refine hTake (i := 1) rfl (by kernel_rfl) rfl rfl (fun _ hS => (by first | exact ync rfl | exact yncf rfl)) (h0) ?_; refine hTake (i := 2) rfl (by kernel_rfl) rfl rfl (fun _ hS => yfa fl82_0 rfl) (h0) ?_
        refine hTake (i := 3) rfl (by kernel_rfl) rfl rfl (fun _ hS => (by first | exact yldA Try.underlying68 rfl ti68 rfl (Blk.cells (n := 3) (hS.blk hJ4) (news := [_, _, _]) rfl) rfl | exact yldA Try.underlying68 rfl ti68 rfl (Blk.cells (n := 3) (hS.blk hB4) (news := [_, _, _]) rfl) rfl)) (h0) ?_; refine hTake (i := 4) rfl (by kernel_rfl) rfl rfl (fun _ hS => yfa fl54_0 rfl) (h0) ?_; refine hTake (i := 5) rfl (by kernel_rfl) rfl rfl (fun _ hS => (by first | exact yld Try.underlying3 rfl rfl (hS.blk hJ4) rfl | exact yld Try.underlying3 rfl rfl (hS.blk hB4) rfl)) (h0) ?_
        refine hOne (i := 6) (by kernel_rfl) ?_; refine nCall (i := 6) rfl rfl rfl (yc (args := [.tmp 18, .tmp 20]) cf64 rfl) (outside_ret (hA4.ext h0) hB hg x.1) ?_
        rintro _ w5 ⟨rfl, hx5⟩
        refine ⟨h0.trans hx5, ?_⟩
        have hx45 := h0.trans hx5
        by_cases c1 : g.out x.1
        · rw [decide_eq_true c1]
          refine hTake (i := 7) rfl (by kernel_rfl) rfl rfl (fun _ hS => (by first | exact yntd rfl | exact ynt rfl)) (h0.trans hx5) ?_; refine hTake (i := 8) rfl (by kernel_rfl) rfl rfl (fun _ hS => ymv rfl) (h0.trans hx5) ?_; refine hTake (i := 9) rfl (by kernel_rfl) rfl rfl (fun _ hS => yfa fl54_1 rfl) (h0.trans hx5) ?_; refine hTake (i := 10) rfl (by kernel_rfl) rfl rfl (fun _ hS => (by first | exact yld Try.underlying9 rfl rfl (hS.blk hJ4) rfl | exact yld Try.underlying9 rfl rfl (hS.blk hB4) rfl)) (h0.trans hx5) ?_
          refine hTake (i := 11) rfl (by kernel_rfl) rfl rfl (fun _ hS => ylnS Try.underlying9 rfl) (h0.trans hx5) ?_; refine hTake (i := 12) rfl (by kernel_rfl) rfl rfl (fun _ hS => ymv rfl) (h0.trans hx5) ?_; refine hTake (i := 13) rfl (by kernel_rfl) rfl rfl (fun _ hS => (by first | exact ync rfl | exact yncf rfl)) (h0.trans hx5) ?_; refine hTake (i := 14) rfl (by kernel_rfl) rfl rfl (fun _ hS => yfa fl82_0 rfl) (h0.trans hx5) ?_; refine hTake (i := 15) rfl (by kernel_rfl) rfl rfl (fun _ hS => yfa fl68_0 rfl) (h0.trans hx5) ?_
          refine hTake (i := 16) rfl (by kernel_rfl) rfl rfl (fun _ hS => (by first | exact yld Try.underlying26 rfl rfl (hS.blk hJ4) rfl | exact yld Try.underlying26 rfl rfl (hS.blk hB4) rfl)) (h0.trans hx5) ?_; refine hOne (i := 17) (by kernel_rfl) ?_; refine nCall (i := 17) rfl rfl rfl (yc (args := [.tmp 31]) cf20 rfl) (sizeA_ret (hA4.ext hx45)) ?_
          rintro _ w6 ⟨rfl, rfl⟩
          refine ⟨hx45, ?_⟩
          rw [hN]
          refine hTake (i := 18) rfl (by kernel_rfl) rfl rfl (fun _ hS => yne rfl rfl) (hx45) ?_; refine rh_if (fun c2 => ?_) (fun c2 => ?_)
          · skip
            refine hTake (i := 19) rfl (by kernel_rfl) rfl rfl (fun _ hS => ypF rfl rfl) (hx45) ?_; refine hTake (i := 20) rfl (by kernel_rfl) rfl rfl (fun _ hS => ymv rfl) (hx45) ?_; refine hSkip (i := 21) rfl (by kernel_rfl) rfl rfl (hx45) ?_; refine hSkip (i := 22) rfl (by kernel_rfl) rfl rfl (hx45) ?_; refine hSkip (i := 23) rfl (by kernel_rfl) rfl rfl (hx45) ?_; refine hSkip (i := 24) rfl (by kernel_rfl) rfl rfl (hx45) ?_; refine hSkip (i := 25) rfl (by kernel_rfl) rfl rfl (hx45) ?_; refine hTake (i := 26) rfl (by kernel_rfl) rfl rfl (fun _ hS => ypT rfl rfl) (hx45) ?_
            refine hEnd (by kernel_rfl) ?_
            exact (hk _ _ ⟨true, rfl, fun _ h => (by have e2 := (h.out x hxm).2; unfold Geo.size at e2; omega), fun h => (by cases h), hx45⟩).sub (by repeat (first | exact Sub.nil | refine Sub.cons rfl ?_))
          · skip
            refine hTake (i := 19) rfl (by kernel_rfl) rfl rfl (fun _ hS => ypF rfl rfl) (hx45) ?_; refine hTake (i := 20) rfl (by kernel_rfl) rfl rfl (fun _ hS => ymv rfl) (hx45) ?_; refine hTake (i := 21) rfl (by kernel_rfl) rfl rfl (fun _ hS => ymv rfl) (hx45) ?_; refine hTake (i := 22) rfl (by kernel_rfl) rfl rfl (fun _ hS => yfa fl54_0 rfl) (hx45) ?_; refine hTake (i := 23) rfl (by kernel_rfl) rfl rfl (fun _ hS => (by first | exact yld Try.underlying3 rfl rfl (hS.blk hJ4) rfl | exact yld Try.underlying3 rfl rfl (hS.blk hB4) rfl)) (hx45) ?_
            refine hTake (i := 24) rfl (by kernel_rfl) rfl rfl (fun _ hS => ylk (k := x.1) (K := KI) Try.underlying111 (ky_int Try.underlying3) ti3 rfl rfl (hS.map hM4)) (hx45) ?_
            rw [hkv]
            by_cases c3 : x.1 ∈ (t.take k).map (·.1)
            · rw [if_pos c3, Option.getD_some]
              refine hTake (i := 25) rfl (by kernel_rfl) rfl rfl (fun _ hS => ygt rfl rfl) (hx45) ?_; refine hTake (i := 26) rfl (by kernel_rfl) rfl rfl (fun _ hS => ypF rfl rfl) (hx45) ?_; refine hEnd (by kernel_rfl) ?_
              exact (hk _ _ ⟨true, rfl, fun _ h => hnd h c3, fun h => (by cases h), hx45⟩).sub (by repeat (first | exact Sub.nil | refine Sub.cons rfl ?_))
            · rw [if_neg c3, Option.getD_none]
              refine hTake (i := 25) rfl (by kernel_rfl) rfl rfl (fun _ hS => ygt rfl rfl) (hx45) ?_; refine hTake (i := 26) rfl (by kernel_rfl) rfl rfl (fun _ hS => ypF rfl rfl) (hx45) ?_; refine hEnd (by kernel_rfl) ?_
              exact (hk _ _ ⟨false, rfl, fun h => (by cases h), fun _ => c3, hx45⟩).sub (by repeat (first | exact Sub.nil | refine Sub.cons rfl ?_))
        · skip
          rw [decide_eq_false c1]
          refine hTake (i := 7) rfl (by kernel_rfl) rfl rfl (fun _ hS => (by first | exact yntd rfl | exact ynt rfl)) (h0.trans hx5) ?_; refine hTake (i := 8) rfl (by kernel_rfl) rfl rfl (fun _ hS => ymv rfl) (h0.trans hx5) ?_; refine hSkip (i := 9) rfl (by kernel_rfl) rfl rfl (h0.trans hx5) ?_; refine hSkip (i := 10) rfl (by kernel_rfl) rfl rfl (h0.trans hx5) ?_; refine hSkip (i := 11) rfl (by kernel_rfl) rfl rfl (h0.trans hx5) ?_; refine hSkip (i := 12) rfl (by kernel_rfl) rfl rfl (h0.trans hx5) ?_; refine hSkip (i := 13) rfl (by kernel_rfl) rfl rfl (h0.trans hx5) ?_
          refine hSkip (i := 14) rfl (by kernel_rfl) rfl rfl (h0.trans hx5) ?_; refine hSkip (i := 15) rfl (by kernel_rfl) rfl rfl (h0.trans hx5) ?_; refine hSkip (i := 16) rfl (by kernel_rfl) rfl rfl (h0.trans hx5) ?_; refine hSkip (i := 17) rfl (by kernel_rfl) rfl rfl (h0.trans hx5) ?_; refine hSkip (i := 18) rfl (by kernel_rfl) rfl rfl (h0.trans hx5) ?_; refine hTake (i := 19) rfl (by kernel_rfl) rfl rfl (fun _ hS => ypT rfl rfl) (h0.trans hx5) ?_; refine hTake (i := 20) rfl (by kernel_rfl) rfl rfl (fun _ hS => ymv rfl) (h0.trans hx5) ?_
          refine hSkip (i := 21) rfl (by kernel_rfl) rfl rfl (h0.trans hx5) ?_; refine hSkip (i := 22) rfl (by kernel_rfl) rfl rfl (h0.trans hx5) ?_; refine hSkip (i := 23) rfl (by kernel_rfl) rfl rfl (h0.trans hx5) ?_; refine hSkip (i := 24) rfl (by kernel_rfl) rfl rfl (h0.trans hx5) ?_; refine hSkip (i := 25) rfl (by kernel_rfl) rfl rfl (h0.trans hx5) ?_; refine hTake (i := 26) rfl (by kernel_rfl) rfl rfl (fun _ hS => ypT rfl rfl) (h0.trans hx5) ?_; refine hEnd (by kernel_rfl) ?_
          exact (hk _ _ ⟨true, rfl, fun _ h => c1 (h.out x hxm).1, fun h => (by cases h), hx45⟩).sub (by repeat (first | exact Sub.nil | refine Sub.cons rfl ?_))
    · skip
      have hkk : k = t.length := by omega
      subst hkk
      refine run_exit rfl ?_; refine run_seq ?_; refine run_seq ?_; refine run_reg rfl ?_; refine rVal rfl rfl (ymv rfl) ?_; refine rVal rfl rfl (yln Try.underlying38 rfl) ?_; refine rVal rfl rfl (ymv rfl) ?_; refine rCall rfl rfl (yc (args := [.tmp 50]) cf23 rfl) (mostJ_ret (hJ0.ext hxi) (hA.ext hxi) hN hg) ?_
      rintro _ w3 ⟨rfl, hx3⟩
      refine rVal rfl rfl (ygt rfl rfl) ?_; refine rEnd ?_; refine run_if rfl (fun hmo => ?_) (fun hmo => ?_)
      · skip
        refine run_seq ?_; refine run_reg rfl ?_; refine rVal rfl rfl (yas rfl) ?_; refine rEnd ?_; refine run_ret Try.func40 rfl ?_
        exact ⟨_, rfl, 12, rfl, fun h => by have := h.most; omega, .inr (.inr rfl), hxi.trans hx3⟩
      · skip
        refine run_skip ?_; refine run_seq ?_; refine run_reg rfl ?_; refine rVal rfl rfl (yas rfl) ?_; refine rEnd ?_; refine run_ret Try.func40 rfl ?_
        exact ⟨_, rfl, 0, rfl, fun _ => rfl, .inl rfl, hxi.trans hx3⟩
end
end Go.Proofs.Ytkhkebcflaokpaa
namespace Go.Proofs.Ytkhkebcflaokpaa
open Go Go.Proofs Go.Shelf
set_option linter.all false
def joinA_ren : Go.Shelf.Ren := ⟨fun | 156 => 47 | 165 => 68 | 166 => 69 | 169 => 70 | 240 => 79 | 241 => 80 | 276 => 84 | 277 => 85 | n => n, fun | 31 => 42 | 9 => 9 | 3 => 3 | 4 => 4 | 0 => 0 | 20 => 20 | 72 => 115 | 76 => 119 | 70 => 113 | 37 => 103 | 75 => 118 | 127 => 128 | 164 => 134 | 5 => 5 | 80 => 121 | n => n, fun | n => n⟩
theorem joinA : Go.Proofs.Lays.n156 Try.prog joinA_ren := {
  mixed := by kernel_rfl
  f156 := Try.func47.trans (congrArg some (by kernel_rfl))
  f165 := Try.func68.trans (congrArg some (by kernel_rfl))
  f166 := Try.func69.trans (congrArg some (by kernel_rfl))
  f169 := Try.func70.trans (congrArg some (by kernel_rfl))
  f240 := Try.func79.trans (congrArg some (by kernel_rfl))
  f241 := Try.func80.trans (congrArg some (by kernel_rfl))
  f276 := Try.func84.trans (congrArg some (by kernel_rfl))
  f277 := Try.func85.trans (congrArg some (by kernel_rfl))
  t0 := Try.underlying0
  a0 := Try.isAgg0
  z0 := Try.sizeOf0
  v0 := Try.zeroValue0
  t3 := Try.underlying3
  a3 := Try.isAgg3
  z3 := Try.sizeOf3
  v3 := Try.zeroValue3
  t4 := Try.underlying4
  a4 := Try.isAgg4
  z4 := Try.sizeOf4
  v4 := Try.zeroValue4
  t9 := Try.underlying9
  a9 := Try.isAgg9
  z9 := Try.sizeOf9
  v9 := Try.zeroValue9
  t20 := Try.underlying20
  a20 := Try.isAgg20
  z20 := Try.sizeOf20
  v20 := Try.zeroValue20
  t31 := Try.underlying42
  a31 := Try.isAgg42
  z31 := Try.sizeOf42
  v31 := Try.zeroValue42
  t37 := Try.underlying103
  a37 := Try.isAgg103
  z37 := Try.sizeOf103
  v37 := Try.zeroValue103
  t70 := Try.underlying113
  a70 := Try.isAgg113
  z70 := Try.sizeOf113
  v70 := Try.zeroValue113
  t72 := Try.underlying115
  a72 := Try.isAgg115
  z72 := Try.sizeOf115
  v72 := Try.zeroValue115
  t75 := Try.underlying118
  a75 := Try.isAgg118
  z75 := Try.sizeOf118
  v75 := Try.zeroValue118
  t76 := Try.underlying119
  a76 := Try.isAgg119
  z76 := Try.sizeOf119
  v76 := Try.zeroValue119
  t127 := Try.underlying128
  a127 := Try.isAgg128
  z127 := Try.sizeOf128
  v127 := Try.zeroValue128
  t164 := Try.underlying134
  a164 := Try.isAgg134
  z164 := Try.sizeOf134
  v164 := Try.zeroValue134 }
end Go.Proofs.Ytkhkebcflaokpaa
namespace Go.Proofs.Ytkhkebcflaokpaa
open Go Go.Proofs Go.RowKit
set_option linter.all false
set_option maxRecDepth 100000

theorem joinX : Builder.Extra Try.prog joinA_ren where
  sizeBuilder := by kernel_rfl
  liesBuilder := by kernel_rfl
  t5 := by kernel_rfl
  a5 := fun _ => by kernel_rfl
  z5 := fun _ => by kernel_rfl
  v5 := fun w => TI.zero (w := w) ti5
  infoByte := by kernel_rfl
  cellsByte := by kernel_rfl
  sizeByte := by kernel_rfl
  neB5 := by decide

theorem join_nil : ∀ (ls : List Bytes), Lib.join ls [] = ls.flatten
  | [] => rfl
  | [x] => by simp [Lib.join]
  | x :: y :: r => by
    have := join_nil (y :: r)
    simp only [Lib.join] at this ⊢
    simp
    simpa using this
/-- strings.Join of a slice of the call's own, with nothing between. -/
theorem joinS_ret (v : Value) (ls : List Bytes) (w : World) (hr : Rd w v 1 ls.length (ls.map S)) (hcap : ∃ b off cap, v = .slice (some ⟨b, off, none⟩) ls.length cap ∧ ls.length ≤ cap ∧ b < w.heap.size) (hn : ls.length ≤ 100000) (hl : ls.flatten.length ≤ 100000000) :
    Ret Try.prog 47 [v, S []] w fun u w' => u = S ls.flatten ∧ Ext w w' := by
  obtain ⟨b, off, cap, rfl, hc, hb⟩ := hcap
  have hcells : ∀ (j : Nat) x, (ls.map fun l => (⟨l.toArray⟩ : ByteArray))[j]? = some x → w.cell? ⟨b, off + j, none⟩ = some (.string x) := fun j x hj => by
    rw [List.getElem?_map] at hj
    cases hlj : ls[j]? with
    | none => rw [hlj] at hj; cases hj
    | some l =>
      rw [hlj] at hj
      have hx : (⟨l.toArray⟩ : ByteArray) = x := Option.some.inj hj
      rcases hr.2 with ⟨cc, -, hz⟩ | ⟨b', off', cap', hv, hcell⟩
      · have : j < ls.length := by
          rcases Nat.lt_or_ge j ls.length with h | h
          · exact h
          · rw [List.getElem?_eq_none h] at hlj; cases hlj
        omega
      · cases hv
        rw [← hx]
        exact hcell j (S l) (by rw [List.getElem?_map, hlj]; rfl)
  have hmm : ((ls.map fun l => (⟨l.toArray⟩ : ByteArray)).map (·.data.toList)) = ls := by rw [List.map_map]; exact (List.map_congr_left (fun l _ => by simp)).trans (List.map_id ls)
  have := Any.strings_Join joinA joinX b off cap (ls.map fun l => (⟨l.toArray⟩ : ByteArray)) ⟨#[]⟩ w hcells hb (by simp; omega) (by simpa using hc) (by rw [hmm]; rw [show (ByteArray.mk #[]).data.toList = [] from rfl, join_nil]; omega)
  rw [hmm, show (ByteArray.mk #[]).data.toList = [] from rfl, join_nil, List.length_map] at this
  exact Calls.mono this fun _ _ ⟨he, hw⟩ => ⟨_, he, rfl, ⟨hw.os, hw.tape, hw.output, hw.size, fun k hk _ => hw.block k hk⟩⟩

/-! ### Places -/
theorem places_ret (p : Nat) (g : Geo) (i : Nat) (w : World) : Ret Try.prog 42 [regV p g, I (i : Int)] w fun v w' => ∃ br ba, v = .func (.func 65) #[] #[ptr br 0, ptr ba 0] ∧ Blk w' br (regCs p g) 68 ∧ Blk w' ba [I (i : Int)] 3 ∧ w.heap.size ≤ br ∧ w.heap.size ≤ ba ∧ br ≠ ba ∧ Ext w w' := by
  refine ret_of_run (e := [(0, _), (1, _)]) Try.func42 rfl Try.ntmps42 rfl rfl ?_; refine run_seq ?_; refine run_reg rfl ?_; refine rValP rfl rfl (pbx rfl (cs := regCs p g) rfl) ?_
  rintro _ w1 ⟨b1, rfl, hb1, hx1, hB1⟩
  refine rValP rfl rfl (pbx rfl rfl) ?_
  rintro _ w2 ⟨b2, rfl, hb2, hx2, hB2⟩
  refine rVal rfl rfl (yas rfl) ?_; refine rEnd ?_; refine run_seq ?_; refine run_reg rfl ?_; refine rVal rfl rfl (ymf (first := []) (caps := [.tmp 2, .tmp 3]) rfl rfl) ?_; refine rVal rfl rfl (yas rfl) ?_; refine rEnd ?_; refine run_ret Try.func42 rfl ?_
  have hs1 := hx1.size
  have := hB1.lt
  exact ⟨_, rfl, b1, b2, rfl, hx2.blk hB1, hB2, by omega, by omega, by omega, hx1.trans hx2⟩

/-- The ring's places are gone through, until the loop is left: at most N rounds. -/
theorem placesGo_ret (l p br ba : Nat) (g : Geo) (hg : g.Ok) (hgs : g.s ≤ 1000) (at' N : Nat) (hat : at' + N ≤ 1000000) (Q : Nat → World → Prop) (Jx : World → Prop) (w : World) (hne : br ≠ ba)
    (hround : ∀ i w, i ≤ N → Q i w → Blk w br (regCs p g) 68 → Blk w ba [I ((at' + i : Nat) : Int)] 3 → RetY Try.prog l [I (g.place (at' + i))] w fun v w' =>
      (Blk w' br (regCs p g) 68 ∧ Blk w' ba [I ((at' + i : Nat) : Int)] 3) ∧ ((v = .bool true ∧ i < N ∧ Q (i + 1) w') ∨ (v = .bool false ∧ Jx w')))
    (hQ : ∀ i w w', Q i w → Kp (fun k => k = ba) w w' → Q i w') (hJ : ∀ w w', Jx w → Ext w w' → Jx w') (hbr : Blk w br (regCs p g) 68) (hba : Blk w ba [I (at' : Int)] 3) (h0 : Q 0 w) :
    Ret Try.prog 65 [.func (.yield l) #[] #[], ptr br 0, ptr ba 0] w fun v w' => v = .tuple #[] ∧ Jx w' := by
  have hgB := hg.hB
  have hgL := hg.hL
  refine ret_of_run (e := [(0, _), (1, _), (2, _)]) Try.func65 rfl Try.ntmps65 rfl rfl ?_; refine run_block ?_; refine run_loop (α := Nat) (0) (fun i => [(0, .func (.yield l) #[] #[]), (1, ptr br 0), (2, ptr ba 0)]) (fun i w' => i ≤ N ∧ Q i w' ∧ Blk w' br (regCs p g) 68 ∧ Blk w' ba [I ((at' + i : Nat) : Int)] 3) (fun i => N - i) (by repeat (first | exact Sub.nil | refine Sub.cons rfl ?_)) ?hI ?hround
  case hI => exact ⟨Nat.zero_le _, h0, hbr, hba⟩
  case hround =>
    rintro i w1 ⟨hi, hq, hr1, ha1⟩ ih
    have hm1 := Int.emod_lt_of_pos ((at' + i : Nat) : Int) (show (0 : Int) < (g.L : Int) by omega)
    have hm2 := Int.emod_nonneg ((at' + i : Nat) : Int) (show (g.L : Int) ≠ 0 by omega)
    try dsimp only
    refine run_seq ?_; refine run_seq ?_; refine run_draw (fun w' => Blk w' br (regCs p g) 68 ∧ Blk w' ba [I ((at' + i : Nat) : Int)] 3) (by kernel_rfl) rfl ?_; refine hTake (i := 0) rfl (by kernel_rfl) rfl rfl (fun _ hS => ymv rfl) (⟨(Ext.drew0 w1).blk hr1, (Ext.drew0 w1).blk ha1⟩) ?_; refine hTake (i := 1) rfl (by kernel_rfl) rfl rfl (fun _ hS => yfa fl68_1 rfl) (⟨(Ext.drew0 w1).blk hr1, (Ext.drew0 w1).blk ha1⟩) ?_
    refine hTake (i := 2) rfl (by kernel_rfl) rfl rfl (fun _ hS => (by first | exact yld Try.underlying3 rfl rfl (hS.1) rfl | exact yld Try.underlying3 rfl rfl (hS.2) rfl)) (⟨(Ext.drew0 w1).blk hr1, (Ext.drew0 w1).blk ha1⟩) ?_; refine hTake (i := 3) rfl (by kernel_rfl) rfl rfl (fun _ hS => yad rfl rfl (by omega)) (⟨(Ext.drew0 w1).blk hr1, (Ext.drew0 w1).blk ha1⟩) ?_; refine hTake (i := 4) rfl (by kernel_rfl) rfl rfl (fun _ hS => (by first | exact yld Try.underlying3 rfl rfl (hS.1) rfl | exact yld Try.underlying3 rfl rfl (hS.2) rfl)) (⟨(Ext.drew0 w1).blk hr1, (Ext.drew0 w1).blk ha1⟩) ?_
    refine hTake (i := 5) rfl (by kernel_rfl) rfl rfl (fun _ hS => (by first | exact yldA Try.underlying68 rfl ti68 rfl (Blk.cells (n := 3) (hS.1) (news := [_, _, _]) rfl) rfl | exact yldA Try.underlying68 rfl ti68 rfl (Blk.cells (n := 3) (hS.2) (news := [_, _, _]) rfl) rfl)) (⟨(Ext.drew0 w1).blk hr1, (Ext.drew0 w1).blk ha1⟩) ?_; refine hOne (i := 6) (by kernel_rfl) ?_; refine nCall (i := 6) rfl rfl rfl (yc (args := [.tmp 9]) cf36 rfl) (ring_ret p g hg _) ?_
    rintro _ w2 ⟨rfl, hx2⟩
    refine ⟨⟨hx2.blk ((Ext.drew0 w1).blk hr1), hx2.blk ((Ext.drew0 w1).blk ha1)⟩, ?_⟩
    have hx12 := (Ext.drew0 w1).trans hx2
    refine hTake (i := 7) rfl (by kernel_rfl) rfl rfl (fun _ hS => yre rfl rfl (by omega)) (⟨hx2.blk ((Ext.drew0 w1).blk hr1), hx2.blk ((Ext.drew0 w1).blk ha1)⟩) ?_; refine hTake (i := 8) rfl (by kernel_rfl) rfl rfl (fun _ hS => yad rfl rfl (by omega)) (⟨hx2.blk ((Ext.drew0 w1).blk hr1), hx2.blk ((Ext.drew0 w1).blk ha1)⟩) ?_
    rw [show (g.s : Int) + 2 + ((at' + i : Nat) : Int) % (g.L : Int) = g.place (at' + i) from by simp [Geo.place]]
    refine hOne (i := 9) (by kernel_rfl) ?_; refine nYield (i := 9) rfl rfl rfl (yy (args := [.tmp 12]) rfl rfl) (hround i w2 hi (hQ i _ _ hq (hx12.kp)) (hx12.blk hr1) (hx12.blk ha1)) ?_
    rintro v w3 ⟨hbb, hv⟩
    refine ⟨hbb, ?_⟩
    rcases hv with ⟨rfl, hlt, hq3⟩ | ⟨rfl, hj⟩
    · skip
      refine hEnd (by kernel_rfl) ?_; refine run_true rfl ?_; refine run_skip ?_; refine run_seq ?_; refine run_block ?_; refine run_skip ?_; refine run_inBlock ?_; refine run_reg rfl ?_; refine rVal rfl rfl (yld Try.underlying3 rfl rfl (hbb.2) rfl) ?_; refine rVal rfl rfl (yad rfl rfl (by omega)) ?_; refine rEffP rfl (zst ti3 rfl rfl rfl (hbb.2) (by simp)) ?_
      rintro w4 ⟨hB4, hk4⟩
      refine rEnd ?_
      rw [show ((at' + i : Nat) : Int) + 1 = ((at' + (i + 1) : Nat) : Int) from by omega] at hB4
      exact (ih (i + 1) w4 ⟨by omega, hQ _ _ _ hq3 hk4, hk4.blk hbb.1 hne, hB4⟩ (by omega)).sub (by repeat (first | exact Sub.nil | refine Sub.cons rfl ?_))
    · skip
      refine hEnd (by kernel_rfl) ?_; refine run_false rfl ?_; refine run_exit rfl ?_; refine run_end Try.func65 rfl ?_
      exact ⟨_, rfl, rfl, hj⟩
end Go.Proofs.Ytkhkebcflaokpaa
namespace Go.Proofs.Ytkhkebcflaokpaa
open Go Go.RowKit
set_option linter.all false
set_option maxRecDepth 100000

/-- A journal that works, on its device: what the blocks outside have; no number is greater than K. -/
structure Live (g : Geo) (D : Dev) (J : Jn) (was : Cont) (K : Nat) (base : Cont) (C : List (Int × Bytes)) (h : Hd) (a : Nat) (T : List Tx) : Prop where
  up : Up D g base C
  safe : Safe g base C h a T was
  now : ∀ n, g.out n → nowOf base C n = was n
  eq : J = ⟨h.own, h.tail, h.number + T.length, a, room T, false⟩
  k1 : h.own ≤ K
  k2 : h.number + T.length ≤ K
def LiveJ (g : Geo) (D : Dev) (J : Jn) (was : Cont) (K : Nat) : Prop := ∃ base C h a T, Live g D J was K base C h a T
theorem LiveJ.mono {g : Geo} {D : Dev} {J : Jn} {was : Cont} {K K' : Nat} (h : LiveJ g D J was K) (hk : K ≤ K') : LiveJ g D J was K' := by
  obtain ⟨base, C, h, a, T, L⟩ := h
  exact ⟨base, C, h, a, T, ⟨L.up, L.safe, L.now, L.eq, Nat.le_trans L.k1 hk, Nat.le_trans L.k2 hk⟩⟩
/-- It went well. -/
def OkO (g : Geo) (w : World) (p q : Nat) (F : Nat → Prop) (D : Dev) (was : Cont) (K c : Nat) (R : Jn → Prop) (w' : World) : Prop :=
  ∃ D' J', JnM w' q p g J' ∧ DevQ w p q F D' w' ∧ LiveJ g D' J' was K ∧ D'.Small c ∧ (D.due = 0 → D'.due = 0) ∧ R J'
/-- The device went down. -/
def FellO (g : Geo) (w : World) (p q : Nat) (F : Nat → Prop) (D : Dev) (P : Cont → Prop) (c : Nat) (w' : World) : Prop :=
  ∃ D' J' f, JnM w' q p g J' ∧ J'.dead = true ∧ DevQ w p q F D' w' ∧ Fell D' g f ∧ P f ∧ D'.Small c ∧ D.due ≠ 0
section
variable {w : World} {p q : Nat} {D : Dev} {F : Nat → Prop} {g : Geo} {J : Jn}
theorem turnS_len (g : Geo) (h : Hd) (a : Nat) (T : List Tx) : (turnS g h a T).length = 3 := rfl

theorem DevQ.then {w0 w1 w2 w3 : World} {D' : Dev} (h : DevQ w1 p q F D' w2) (h01 : Ext w0 w1) (hk : Kp (fun k => k = q) w2 w3) (hq : ¬ F q) (hql : q < w0.heap.size) : DevQ w0 p q F D' w3 := by
  obtain ⟨F', hA, hk2, hF⟩ := h
  have hs := h01.size
  refine ⟨F', hA.kp hk (fun i hi he => ?_), (h01.kp.trans hk2).trans (hk.mono' fun i hi => .inr hi), fun i hi => (hF i hi).imp id (Nat.le_trans hs)⟩
  subst he
  rcases hF _ hi with h | h
  · exact hq h
  · omega
theorem turn_fin {was : Cont} {K c : Nat} {base : Cont} {C : List (Int × Bytes)} {h : Hd} {a : Nat} {T : List Tx} (hg : g.Ok) (L : Live g D J was K base C h a T) (hK : K ≤ 100000000) (hsm : D.Small c) {w0 w1 w2 w3 : World} (h01 : Ext w0 w1) (hq : ¬ F q) (hql : q < w0.heap.size)
    (hQ : DevQ w1 p q F (runS D (turnS g h a T)).1 w2) (hk : Kp (fun k => k = q) w2 w3) (hJ : JnM w3 q p g ⟨h.own + 1, (h.tail + room T) % g.L, h.number + T.length, 1 - a, 0, false || decide ((runS D (turnS g h a T)).2 = 8)⟩) :
    ((runS D (turnS g h a T)).2 = 0 ∧ OkO g w0 p q F D was (K + 1) (c + 3) (fun J' => J'.used = 0 ∧ J'.number = h.number + T.length) w3) ∨ ((runS D (turnS g h a T)).2 = 8 ∧ FellO g w0 p q F D (fun f => Dsk g f (K + 1) was) (c + 3) w3) := by
  have hm : (h.tail + room T) % g.L < g.L := Nat.mod_lt _ (by have := hg.hL; omega)
  have hgB := hg.hB
  have hok : (h.next g T).Ok := ⟨by show h.own + 1 < _; have := L.k1; omega, by show (h.tail + room T) % g.L < _; omega, by show h.number + T.length < _; have := L.k2; omega⟩
  have hQ' := hQ.then h01 hk hq hql
  have hS := small_runS (turnS g h a T) hsm
  have hE : ∀ z : Int, z = 0 ∨ z = 8 → True := fun _ _ => trivial
  rcases runS_turn hg L.up L.safe L.now hok (K := K + 1) (by have := L.k1; omega) (by have := L.k2; omega) with ⟨D', base', e, U, G, w', hdu⟩ | ⟨D', f, e, hdu, hF, hR⟩
  · rw [e] at hQ' hJ hS ⊢
    have hG0 : nowOf base' [] = base' := nowOf_nil base'
    refine .inl ⟨rfl, D', _, hJ, hQ', ⟨base', [], h.next g T, 1 - a, [], U, ⟨G, fun x hx => (by cases hx), fun n hn => by rw [List.flatten_nil, hG0]; exact w' n hn⟩, fun n hn => by rw [hG0]; exact w' n hn, rfl, by show h.own + 1 ≤ _; have := L.k1; omega, by show h.number + T.length + 0 ≤ _; have := L.k2; omega⟩, hS, hdu, rfl, rfl⟩
  · rw [e] at hQ' hJ hS ⊢
    exact .inr ⟨rfl, D', _, f, hJ, rfl, hQ', hF, hR, hS, hdu⟩

set_option maxHeartbeats 1000000 in
theorem checkpoint_ret {was : Cont} {K c : Nat} (hg : g.Ok) (hgs : g.s ≤ 1000) (hJ : JnM w q p g J) (hA : DevA w p D F) (hq : ¬ F q) (hL : LiveJ g D J was K) (hK : K ≤ 100000000) (hsm : D.Small c) (hc : c ≤ 800000) :
    Ret Try.prog 19 [ptr q 0] w fun v w' => (v = I 0 ∧ OkO g w p q F D was (K + 1) (c + 3) (fun J' => J'.used = 0 ∧ J'.number = J.number) w') ∨ (v = I 8 ∧ FellO g w p q F D (fun f => Dsk g f (K + 1) was) (c + 3) w') := by
  have hL0 := hL
  have hJ0 := hJ
  obtain ⟨base, C, h, a, T, L⟩ := hL
  have e := L.eq
  subst e
  have hgB := hg.hB
  have hgL := hg.hL
  have ht := L.safe.good.tail
  have hr := L.safe.good.room
  have ha := L.safe.good.ha
  have k1 := L.k1
  have k2 := L.k2
  have hd := L.up.down
  change Blk w q (jl p g h.own h.tail (h.number + T.length) a (room T) false) _ at hJ
  refine ret_of_run (e := [(0, _)]) Try.func19 rfl Try.ntmps19 rfl rfl ?_; refine run_seq ?_; refine run_reg rfl ?_; refine rVal rfl rfl (yas rfl) ?_; refine rEnd ?_; refine run_seq ?_; refine run_block ?_; refine run_seq ?_; refine run_reg rfl ?_; refine rVal rfl rfl (ymv rfl) ?_; refine rVal rfl rfl (yeqpN Try.underlying34 rfl rfl) ?_; refine rVal rfl rfl (yas rfl) ?_; refine rEnd ?_; refine run_false rfl ?_; refine run_seq ?_; refine run_reg rfl ?_; refine rVal rfl rfl (ymv rfl) ?_; refine rVal rfl rfl ((by first | exact ync rfl | exact yncf rfl)) ?_; refine rVal rfl rfl (yfa fl82_4 rfl) ?_
  refine rVal rfl rfl (yld Try.underlying4 rfl rfl hJ rfl) ?_; refine rVal rfl rfl (yas rfl) ?_; refine rEnd ?_; refine run_false rfl ?_; refine run_seq ?_; refine run_reg rfl ?_; refine rVal rfl rfl (ymv rfl) ?_; refine rVal rfl rfl ((by first | exact ync rfl | exact yncf rfl)) ?_; refine rVal rfl rfl (yfa fl82_0 rfl) ?_; refine rVal rfl rfl (yfa fl68_0 rfl) ?_; refine rVal rfl rfl (yld Try.underlying26 rfl rfl hJ rfl) ?_; refine rCall rfl rfl (yc (args := [.tmp 16]) cf16 rfl) (downA_ret hA) ?_
  rintro _ w1 ⟨rfl, rfl⟩
  rw [hd]
  refine rVal rfl rfl (yas rfl) ?_; refine rEnd ?_; refine run_false rfl ?_; refine run_seq ?_; refine run_reg rfl ?_; refine rVal rfl rfl (ymv rfl) ?_; refine rVal rfl rfl ((by first | exact ync rfl | exact yncf rfl)) ?_; refine rVal rfl rfl (yfa fl82_3 rfl) ?_; refine rVal rfl rfl (yld Try.underlying3 rfl rfl hJ rfl) ?_; refine rVal rfl rfl (yeq rfl rfl) ?_; refine rVal rfl rfl (yas rfl) ?_; refine rEnd ?_; refine run_if rfl (fun h0 => ?_) (fun h0 => ?_)
  · skip
    refine run_seq ?_; refine run_reg rfl ?_; refine rVal rfl rfl (yas rfl) ?_; refine rEnd ?_; refine run_ret Try.func19 rfl ?_
    exact ⟨_, rfl, .inl ⟨rfl, D, _, hJ0, ⟨F, hA, Kp.refl _ _, fun i hi => .inl hi⟩, hL0.mono (by omega), hsm.mono (by omega), id, by show room T = 0; omega, rfl⟩⟩
  · skip
    have hJo : Jn.Ok ⟨h.own, h.tail, h.number + T.length, a, room T, false⟩ := ⟨by show h.own < _; omega, by show h.tail < _; omega, by show h.number + T.length < _; omega, ha, by show room T < _; omega⟩
    have hNN := L.up.hN
    refine run_skip ?_; refine run_inBlock ?_; refine run_seq ?_; refine run_cut (fun e' w' => ∃ z : Int, e' = [(2, I z)] ∧ ((z = 0 ∧ OkO g w1 p q F D was (K + 1) (c + 3) (fun J' => J'.used = 0 ∧ J'.number = h.number + T.length) w') ∨ (z = 8 ∧ FellO g w1 p q F D (fun f => Dsk g f (K + 1) was) (c + 3) w'))) ?hk (fun hk => ?hmain)
    case hk =>
      rintro _ w2 ⟨z, rfl, hz⟩
      refine run_ret Try.func19 rfl ?_; refine ⟨_, rfl, ?_⟩
      rcases hz with ⟨rfl, hz⟩ | ⟨rfl, hz⟩
      · exact .inl ⟨rfl, hz⟩
      · exact .inr ⟨rfl, hz⟩
    case hmain =>
      refine run_draw (fun _ => True) (by kernel_rfl) rfl ?_; refine hTake (i := 0) rfl (by kernel_rfl) rfl rfl (fun _ hS => ymv rfl) (trivial) ?_; refine hTake (i := 1) rfl (by kernel_rfl) rfl rfl (fun _ hS => ymv rfl) (trivial) ?_; refine hTake (i := 2) rfl (by kernel_rfl) rfl rfl (fun _ hS => ymv rfl) (trivial) ?_; refine hTake (i := 3) rfl (by kernel_rfl) rfl rfl (fun _ hS => (by first | exact ync rfl | exact yncf rfl)) (trivial) ?_; refine hTake (i := 4) rfl (by kernel_rfl) rfl rfl (fun _ hS => yfa fl82_1 rfl) (trivial) ?_
      refine hTake (i := 5) rfl (by kernel_rfl) rfl rfl (fun _ hS => yfa fl76_1 rfl) (trivial) ?_; refine hTake (i := 7) rfl (by kernel_rfl) rfl rfl (fun _ hS => ymv rfl) (trivial) ?_; refine hTake (i := 8) rfl (by kernel_rfl) rfl rfl (fun _ hS => (by first | exact ync rfl | exact yncf rfl)) (trivial) ?_; refine hTake (i := 9) rfl (by kernel_rfl) rfl rfl (fun _ hS => yfa fl82_3 rfl) (trivial) ?_; refine hTwo (i := 6) (j := 10) (by kernel_rfl) ?_ ?_
      · skip
        refine nVal (i := 6) rfl rfl rfl (yld Try.underlying3 rfl rfl ((Ext.drew0 w1).blk hJ) rfl) (trivial) ?_; refine hOne (i := 10) (by kernel_rfl) ?_; refine nVal (i := 10) rfl rfl rfl (yld Try.underlying3 rfl rfl ((Ext.drew0 w1).blk hJ) rfl) (trivial) ?_; refine hTake (i := 11) rfl (by kernel_rfl) rfl rfl (fun _ hS => yad rfl rfl (by omega)) (trivial) ?_
        have h0' : Ext w1 w1.drew := Ext.drew0 w1
        have hql := hJ.lt
        rw [show (h.tail : Int) + (room T : Int) = ((h.tail + room T : Nat) : Int) from by omega]
        refine hOne (i := 12) (by kernel_rfl) ?_; refine nCall (i := 12) rfl rfl rfl (yc (args := [.tmp 27, .tmp 37]) cf39 rfl) (turn_ret (h.tail + room T) (by omega) hg hgs (hJ0.ext h0') hJo (hA.ext h0') hNN hq hsm (by omega)) ?_
        rintro _ w4 ⟨rfl, hJ4, hQ4⟩
        refine ⟨trivial, ?_⟩
        refine hOne (i := 13) (by kernel_rfl) ?_; refine nCall (i := 13) rfl rfl rfl (yc (args := [.tmp 26, .tmp 38]) cf41 rfl) (downJ_ret (runS D (turnS g h a T)).2 hJ4) ?_
        rintro _ w5 ⟨rfl, hJ5, hk5⟩
        refine ⟨trivial, ?_⟩
        refine hTake (i := 14) rfl (by kernel_rfl) rfl rfl (fun _ hS => yas rfl) (trivial) ?_; refine hEnd (by kernel_rfl) ?_; refine Run.sub (e := [(2, _)]) ?_ (by repeat (first | exact Sub.nil | refine Sub.cons rfl ?_))
        exact (hk _ _ ⟨_, rfl, turn_fin hg L hK hsm h0' hq hql hQ4 hk5 hJ5⟩).sub (by repeat (first | exact Sub.nil | refine Sub.cons rfl ?_))
      · skip
        refine nVal (i := 10) rfl rfl rfl (yld Try.underlying3 rfl rfl ((Ext.drew0 w1).blk hJ) rfl) (trivial) ?_; refine hOne (i := 6) (by kernel_rfl) ?_; refine nVal (i := 6) rfl rfl rfl (yld Try.underlying3 rfl rfl ((Ext.drew0 w1).blk hJ) rfl) (trivial) ?_; refine hTake (i := 11) rfl (by kernel_rfl) rfl rfl (fun _ hS => yad rfl rfl (by omega)) (trivial) ?_
        have h0' : Ext w1 w1.drew := Ext.drew0 w1
        have hql := hJ.lt
        rw [show (h.tail : Int) + (room T : Int) = ((h.tail + room T : Nat) : Int) from by omega]
        refine hOne (i := 12) (by kernel_rfl) ?_; refine nCall (i := 12) rfl rfl rfl (yc (args := [.tmp 27, .tmp 37]) cf39 rfl) (turn_ret (h.tail + room T) (by omega) hg hgs (hJ0.ext h0') hJo (hA.ext h0') hNN hq hsm (by omega)) ?_
        rintro _ w4 ⟨rfl, hJ4, hQ4⟩
        refine ⟨trivial, ?_⟩
        refine hOne (i := 13) (by kernel_rfl) ?_; refine nCall (i := 13) rfl rfl rfl (yc (args := [.tmp 26, .tmp 38]) cf41 rfl) (downJ_ret (runS D (turnS g h a T)).2 hJ4) ?_
        rintro _ w5 ⟨rfl, hJ5, hk5⟩
        refine ⟨trivial, ?_⟩
        refine hTake (i := 14) rfl (by kernel_rfl) rfl rfl (fun _ hS => yas rfl) (trivial) ?_; refine hEnd (by kernel_rfl) ?_; refine Run.sub (e := [(2, _)]) ?_ (by repeat (first | exact Sub.nil | refine Sub.cons rfl ?_))
        exact (hk _ _ ⟨_, rfl, turn_fin hg L hK hsm h0' hq hql hQ4 hk5 hJ5⟩).sub (by repeat (first | exact Sub.nil | refine Sub.cons rfl ?_))
end
end Go.Proofs.Ytkhkebcflaokpaa
namespace Go.Proofs.Ytkhkebcflaokpaa
open Go Go.RowKit
set_option linter.all false
set_option maxRecDepth 100000

section
variable {P : Program} {e : Env} {d : Option Nat} {ty t el : TypeId} {pos : String} {aft : Array Edge} {gd : Option (Nat × Bool)} {x y : Operand} {w : World}
/-- 'a[n:]' at the very end of what there is room for: the address stays. -/
theorem yslVe {z : Value} {size bytes b m n i : Nat} {k : IntKind} {za : Int} [hza : NatC za i] (ht : P.underlying t = some (.slice el)) (hs : TI P el z size bytes) (hx : look e x = some (.slice (some ⟨b, m, none⟩) n i))
    (hy : look e y = some (.int k za)) (h : i = n) :
    Y P e ⟨d, .slice t x (some y) none none, ty, pos, aft, gd⟩ (.slice (some ⟨b, m, none⟩) 0 0) w w := fun ρ hρ => by
  obtain ⟨rfl⟩ := hza
  subst h
  have hsz := hs.size (w := w)
  have h2 : ∀ w, (Instr.sliceBound (.int k (i : Int)) i .sliceB).run P w = .ok i w := fun w => by rw [run_sliceBound _ _ _ _ _ (by omega) (by omega)]; simp
  simp [execOp, hρ _ _ hx, hρ _ _ hy, Instr.sliceAt, run_underlying ht, Instr.slice, Instr.sliceBounds, h2, hsz]
end

/-- The variable at b7 holds a list of numbers, in a block below m. -/
def FreeM (w : World) (b7 m : Nat) (ls : List Int) : Prop := ∃ gb off cap, Blk w b7 [.slice (some ⟨gb, off, none⟩) ls.length cap] 23 ∧ ls.length ≤ cap ∧ (∀ (j : Nat) (z : Int), ls[j]? = some z → w.cell? ⟨gb, off + j, none⟩ = some (I z)) ∧ gb ≠ b7 ∧ gb < m ∧ b7 < m ∧ m ≤ w.heap.size
theorem FreeM.kp {S : Nat → Prop} {w w' : World} {b7 m : Nat} {ls : List Int} (h : FreeM w b7 m ls) (k : Kp S w w') (hn : ∀ i, S i → m ≤ i) : FreeM w' b7 m ls := by
  obtain ⟨gb, off, cap, h1, h2, h3, h4, h5, h6, h7⟩ := h
  refine ⟨gb, off, cap, k.blk h1 (fun hs => by have := hn _ hs; omega), h2, fun j z hz => ?_, h4, h5, h6, Nat.le_trans h7 k.size⟩
  rw [← h3 j z hz]
  simp only [World.cell?, k.block gb (by omega) (fun hs => by have := hn _ hs; omega)]
theorem FreeM.ext {w w' : World} {b7 m : Nat} {ls : List Int} (h : FreeM w b7 m ls) (k : Ext w w') : FreeM w' b7 m ls := FreeM.kp (S := fun _ => False) h k (fun i hi => hi.elim)
section
variable {w : World} {p q : Nat} {D : Dev} {F : Nat → Prop} {g : Geo} {J : Jn}
theorem flushJ_ret0 (p : Nat) (g : Geo) (w : World) : Ret Try.prog 30 [regV p g] w fun v w' => ∃ x, v = .agg #[x] ∧ StpC w' p (fun _ => False) x .flush ∧ Ext w w' := by
  refine ret_of_run (e := [(0, _)]) Try.func30 rfl Try.ntmps30 rfl rfl ?_; refine run_seq ?_; refine run_reg rfl ?_; refine rValP rfl rfl (pbx rfl (cs := regCs p g) rfl) ?_
  rintro _ w1 ⟨b1, rfl, hb1, hx1, hB1⟩
  refine rValP rfl rfl (pal (cs := [_]) ti71 rfl) ?_
  rintro _ w2 ⟨b2, rfl, hb2, hx2, hB2⟩
  refine rEnd ?_; refine run_seq ?_; refine run_reg rfl ?_; refine rVal rfl rfl (yfa fl68_0 rfl) ?_; refine rVal rfl rfl (yld Try.underlying26 rfl rfl (hx2.blk hB1) rfl) ?_; refine rVal rfl rfl (ymf (first := [.tmp 4]) (caps := []) rfl rfl) ?_; refine rVal rfl rfl (ybd (parts := [(0, .tmp 5)]) (cs := [_]) ti71 rfl sp71 rfl rfl) ?_; refine rEffP rfl (zstA ti71 rfl rfl rfl rfl hB2 (by simp)) ?_
  rintro w3 ⟨hB3, hk3⟩
  have hs1 := hx1.size
  refine rEnd ?_; refine run_retR Try.func30 (.cell Try.underlying71 rfl ti71 rfl (Blk.cells (n := 1) hB3 (news := [_]) rfl) rfl .nil) ?_
  exact ⟨_, rfl, _, rfl, ⟨_, [ptr p 0], [], rfl, cf12, fun w' k D F c hD hS hc => flushA_ret hD hS hc⟩, hx1.trans (hx2.trans_new hk3 (fun i hi => by omega))⟩
theorem pop_ret {b7 m : Nat} {z : Int} {r : List Int} (h : FreeM w b7 m (z :: r)) (hl : r.length ≤ 1000000) : Ret Try.prog 43 [ptr b7 0] w fun v w' => v = I z ∧ FreeM w' b7 m r ∧ Kp (fun k => k = b7) w w' := by
  obtain ⟨gb, off, cap, h1, h2, h3, h4, h5, h6, h7⟩ := h
  have hz := h3 0 z rfl
  have hlen : (z :: r).length = r.length + 1 := rfl
  rw [hlen] at h1 h2
  have hfin : ∀ w2, Kp (fun k => k = b7) w w2 → ∀ off' cap', Blk w2 b7 [.slice (some ⟨gb, off', none⟩) r.length cap'] 23 → r.length ≤ cap' → (r = [] ∨ off' = off + 1) → FreeM w2 b7 m r := fun w2 hk off' cap' hB hc ho => by
    refine ⟨gb, off', cap', hB, hc, fun j u hu => ?_, h4, h5, h6, Nat.le_trans h7 hk.size⟩
    rcases ho with ho | ho
    · subst ho; simp at hu
    · subst ho
      have := h3 (j + 1) u (by simpa using hu)
      rw [show off + 1 + j = off + (j + 1) by omega, ← this]
      simp only [World.cell?, hk.block gb (by omega) (fun he => h4 he)]
  refine ret_of_run (e := [(0, _)]) Try.func43 rfl Try.ntmps43 rfl rfl ?_; refine run_seq ?_; refine run_reg rfl ?_; refine rVal rfl rfl (yas rfl) ?_; refine rEnd ?_; refine run_seq ?_; refine run_reg rfl ?_; refine rVal rfl rfl (yld Try.underlying23 rfl rfl h1 rfl) ?_; refine rVal rfl rfl (yis Try.underlying23 ti3 rfl rfl (by omega)) ?_; refine rVal rfl rfl (yldc Try.underlying3 rfl rfl (by simpa using hz)) ?_; refine rVal rfl rfl (yas rfl) ?_; refine rEnd ?_; refine run_seq ?_; refine run_reg rfl ?_; refine rVal rfl rfl (yld Try.underlying23 rfl rfl h1 rfl) ?_
  by_cases hcc : cap = 1
  · subst hcc
    have hr0 : r = [] := List.eq_nil_of_length_eq_zero (by omega)
    subst hr0
    refine rVal rfl rfl (yslVe (i := 1) Try.underlying23 ti3 rfl rfl rfl) ?_; refine rEffP rfl (zst ti23 rfl rfl rfl h1 (by simp)) ?_
    rintro w2 ⟨hB2, hk2⟩
    refine rEnd ?_; refine run_seq ?_; refine run_reg rfl ?_; refine rVal rfl rfl (ymv rfl) ?_; refine rVal rfl rfl (yas rfl) ?_; refine rEnd ?_; refine run_ret Try.func43 rfl ?_
    exact ⟨_, rfl, rfl, hfin _ hk2 off 0 hB2 (Nat.le_refl _) (.inl rfl), hk2⟩
  · skip
    refine rVal rfl rfl (yslVf (i := 1) Try.underlying23 ti3 rfl rfl (by omega) (by omega)) ?_; refine rEffP rfl (zst ti23 rfl rfl rfl h1 (by simp)) ?_
    rintro w2 ⟨hB2, hk2⟩
    refine rEnd ?_; refine run_seq ?_; refine run_reg rfl ?_; refine rVal rfl rfl (ymv rfl) ?_; refine rVal rfl rfl (yas rfl) ?_; refine rEnd ?_; refine run_ret Try.func43 rfl ?_
    exact ⟨_, rfl, rfl, hfin _ hk2 (off + 1) (cap - 1) hB2 (by omega) (.inr rfl), hk2⟩
end
/-- A list of steps, none of whose blocks is one of X. -/
def StLX (w0 w : World) (p : Nat) (sv : Value) (ss : List Stp) (X : Nat → Prop) : Prop := ∃ (vs : List Value) (G : Nat → Prop), Sl w sv 71 1 vs.length vs ∧ StpsM w p G vs ss ∧ (∀ i, G i → w0.heap.size ≤ i ∧ i < w.heap.size) ∧ (∀ i, sv.ownBlock = some i → w0.heap.size ≤ i ∧ ¬ G i) ∧ ∀ i, X i → ¬ G i ∧ sv.ownBlock ≠ some i
theorem StLX.kp {S X : Nat → Prop} {w0 w w' : World} {p : Nat} {sv : Value} {ss : List Stp} (h : StLX w0 w p sv ss X) (k : Kp S w w') (hn : ∀ i, S i → X i ∨ i < w0.heap.size) : StLX w0 w' p sv ss X := by
  obtain ⟨vs, G, h1, h2, h3, h4, h5⟩ := h
  refine ⟨vs, G, h1.kp k (fun i hi hs => ?_), StpsM.kp k (fun i hs hg => ?_) h2, fun i hi => ⟨(h3 i hi).1, Nat.lt_of_lt_of_le (h3 i hi).2 k.size⟩, h4, h5⟩
  · rcases hn i hs with h | h
    · exact (h5 i h).2 hi
    · have := (h4 i hi).1; omega
  · rcases hn i hs with h | h
    · exact (h5 i h).1 hg
    · have := (h3 i hg).1; omega
theorem StLX.other {X X' : Nat → Prop} {w0 w : World} {p : Nat} {sv : Value} {ss : List Stp} (h : StLX w0 w p sv ss X) (hX : ∀ i, X' i → X i ∨ w.heap.size ≤ i) : StLX w0 w p sv ss X' := by
  obtain ⟨vs, G, h1, h2, h3, h4, h5⟩ := h
  refine ⟨vs, G, h1, h2, h3, h4, fun i hi => ?_⟩
  rcases hX i hi with h | h
  · exact h5 i h
  · exact ⟨fun hg => by have := (h3 i hg).2; omega, fun hs => by have := h1.lt hs; omega⟩
theorem stlx_app {X : Nat → Prop} {w0 w1 w2 w3 w4 : World} {p : Nat} {sv v' : Value} {ss ts : List Stp} {vs us : List Value} {G : Nat → Prop} (hSl : Sl w1 sv 71 1 vs.length vs) (hM : StpsM w1 p G vs ss) (hG : ∀ i, G i → w0.heap.size ≤ i ∧ i < w1.heap.size) (ho : ∀ i, sv.ownBlock = some i → w0.heap.size ≤ i ∧ ¬ G i)
    (hX : ∀ i, X i → ¬ G i ∧ sv.ownBlock ≠ some i) (hXl : ∀ i, X i → i < w1.heap.size)
    (h01 : w0.heap.size ≤ w1.heap.size) (hx : Ext w1 w2) (hN : StpsM w2 p (fun i => w1.heap.size ≤ i) us ts) (hx3 : Ext w2 w3) {n : Nat} (hS : Sl w4 v' 71 1 n (vs ++ us)) (hn : n = vs.length + us.length) (hk : Kp (fun k => sv.ownBlock = some k) w3 w4) (hown : ∀ g, v'.ownBlock = some g → sv.ownBlock = some g ∨ w3.heap.size ≤ g) : StLX w0 w4 p v' (ss ++ ts) X := by
  have hs2 := hx.size
  have hs3 := hx3.size
  have hs4 := hk.size
  have hsv : ∀ i, sv.ownBlock = some i → i < w1.heap.size := fun i hi => hSl.lt hi
  refine ⟨vs ++ us, fun i => G i ∨ (w1.heap.size ≤ i ∧ i < w2.heap.size), by rw [List.length_append, ← hn]; exact hS, ?_, fun i hi => ?_, fun i hi => ?_, fun i hi => ⟨fun h => ?_, fun h => ?_⟩⟩
  · have hd : ∀ i, sv.ownBlock = some i → ¬ (G i ∨ (w1.heap.size ≤ i ∧ i < w2.heap.size)) := fun i hi h => by
      rcases h with h | h
      · exact (ho i hi).2 h
      · have := hsv i hi; omega
    refine StpsM.app ?_ ?_
    · exact StpsM.kp hk hd (((StpsM.mono (fun i _ h => .inl h) hM).ext hx).ext hx3)
    · exact StpsM.kp hk hd ((StpsM.mono (fun i hi h => .inr ⟨h, hi⟩) hN).ext hx3)
  · rcases hi with hi | hi
    · have := hG i hi; omega
    · omega
  · rcases hown i hi with h | h
    · refine ⟨(ho i h).1, fun h' => ?_⟩
      rcases h' with h' | h'
      · exact (ho i h).2 h'
      · have := hsv i h; omega
    · refine ⟨by omega, fun h' => ?_⟩
      rcases h' with h' | h'
      · have := (hG i h').2; omega
      · omega
  · rcases h with h | h
    · exact (hX i hi).1 h
    · have := hXl i hi; omega
  · rcases hown i h with h | h
    · exact (hX i hi).2 h
    · have := hXl i hi; omega
theorem StLX.toL {X : Nat → Prop} {w0 w : World} {p : Nat} {sv : Value} {ss : List Stp} (h : StLX w0 w p sv ss X) : StL w0 w p sv ss := by
  obtain ⟨vs, G, h1, h2, h3, h4, -⟩ := h
  exact ⟨vs, G, h1, h2, h3, h4⟩
end Go.Proofs.Ytkhkebcflaokpaa
namespace Go.Proofs.Ytkhkebcflaokpaa
open Go Go.RowKit
set_option linter.all false
set_option maxRecDepth 100000

/-- The first n places from e on. -/
def places (g : Geo) (e n : Nat) : List Int := (List.range n).map fun j => g.place (e + j)
@[simp] theorem places_length (g : Geo) (e n : Nat) : (places g e n).length = n := by simp [places]
theorem places_succ (g : Geo) (e n : Nat) : places g e (n + 1) = places g e n ++ [g.place (e + n)] := by simp [places, List.range_succ]
theorem places_cons (g : Geo) (e n : Nat) : places g e (n + 1) = g.place e :: places g (e + 1) n := by
  simp only [places, List.range_succ_eq_map, List.map_cons, List.map_map, Nat.add_zero]
  congr 1
  apply List.map_congr_left
  intro j _
  simp only [Function.comp]
  congr 1; omega

section
variable {w : World} {p q : Nat} {D : Dev} {F : Nat → Prop} {g : Geo} {J : Jn}
theorem commit_dead (wv : Value) (hone : oneV wv = true) (hJ : JnM w q p g J) (hd : J.dead = true) : Ret Try.prog 10 [ptr q 0, wv] w fun v w' => v = I 16 ∧ Ext w w' := by
  unfold JnM at hJ
  refine ret_of_run (e := [(0, _), (1, _)]) Try.func10 rfl Try.ntmps10 rfl rfl ?_; refine run_seq ?_; refine run_reg rfl ?_; refine rValP rfl rfl (pbx rfl (cs := [wv]) (oneV_cells hone)) ?_
  rintro _ w1 ⟨b3, rfl, hb3, hx1, hB3⟩
  refine rVal rfl rfl (yas rfl) ?_; refine rEnd ?_; refine run_seq ?_; refine run_block ?_; refine run_seq ?_; refine run_reg rfl ?_; refine rVal rfl rfl (ymv rfl) ?_; refine rVal rfl rfl (yeqpN Try.underlying34 rfl rfl) ?_; refine rVal rfl rfl (yas rfl) ?_; refine rEnd ?_; refine run_false rfl ?_; refine run_seq ?_; refine run_reg rfl ?_; refine rVal rfl rfl (ymv rfl) ?_; refine rVal rfl rfl ((by first | exact ync rfl | exact yncf rfl)) ?_; refine rVal rfl rfl (yfa fl82_4 rfl) ?_; refine rVal rfl rfl (yld Try.underlying4 rfl rfl (hx1.blk hJ) rfl) ?_; refine rVal rfl rfl (yas rfl) ?_
  refine rEnd ?_
  rw [hd]
  refine run_true rfl ?_; refine run_seq ?_; refine run_reg rfl ?_; refine rVal rfl rfl (yas rfl) ?_; refine rEnd ?_; refine run_ret Try.func10 rfl ?_
  exact ⟨_, rfl, rfl, hx1⟩

/-- What stands ready when the ring has room for a transaction. -/
structure Room (g : Geo) (w0 w : World) (p q : Nat) (F : Nat → Prop) (D : Dev) (was : Cont) (K c n : Nat) (num : Nat) (D1 : Dev) (J1 : Jn) (F1 : Nat → Prop) : Prop where
  jn : JnM w q p g J1
  dev : DevA w p D1 F1
  kp : Kp (fun k => F k ∨ k = q) w0 w
  new : ∀ i, F1 i → F i ∨ w0.heap.size ≤ i
  live : LiveJ g D1 J1 was K
  small : D1.Small c
  due : D.due = 0 → D1.due = 0
  num : J1.number = num
  room : J1.used + n + 2 ≤ g.L

set_option maxHeartbeats 4000000 in
theorem commit_ret {was : Cont} {K c : Nat} (t : Tx) (wv : Value) (hg : g.Ok) (hgs : g.s ≤ 1000) (hJ : JnM w q p g J) (hA : DevA w p D F) (hq : ¬ F q) (hL : LiveJ g D J was K) (hK : K ≤ 10000000) (hsm : D.Small c) (hc : c ≤ 800000)
    (ht : TxOk g t) (hr : Rd w wv 2 t.length (wrs t)) (hwv : ∀ i, wv.ownBlock = some i → i < w.heap.size ∧ ¬ F i ∧ i ≠ q) :
    Ret Try.prog 10 [ptr q 0, wv] w fun v w' => (v = I 0 ∧ OkO g w p q F D (nowOf was t) (K + 2) (c + 2 * g.L + 10) (fun J' => J'.used ≤ g.L ∧ J'.number = J.number + min t.length 1) w') ∨
      (v = I 8 ∧ FellO g w p q F D (fun f => Dsk g f (K + 2) was ∨ Dsk g f (K + 2) (nowOf was t)) (c + 2 * g.L + 10) w') := by
  have hml : maxLen = 9223372036854775807 := rfl
  have hgB := hg.hB
  have hgN := hg.hN
  have hgL := hg.hL
  obtain ⟨hm1, hm2⟩ := most_le hg ht
  obtain ⟨aw, cw, rfl, -⟩ := hr.shape
  have hlw := fun x hx => (ht.out x hx).2
  have hdl : ∀ x ∈ t, x.2.length ≤ 100000 := fun x hx => by have := hlw x hx; unfold Geo.size at this; omega
  have hL0 := hL
  have hJ0 := hJ
  obtain ⟨base, C, h, a, T, L⟩ := hL
  have eJ := L.eq
  subst eJ
  have hdn := L.up.down
  have hr0 := L.safe.good.room
  have hql := hJ.lt
  have hFl := hA.lt
  change Blk w q (jl p g h.own h.tail (h.number + T.length) a (room T) false) _ at hJ
  refine ret_of_run (e := [(0, _), (1, _)]) Try.func10 rfl Try.ntmps10 rfl rfl ?_; refine run_seq ?_; refine run_reg rfl ?_; refine rValP rfl rfl (pbx rfl (cs := [.slice aw t.length cw]) rfl) ?_
  rintro _ w1 ⟨b3, rfl, hb3, hx1, hB3⟩
  have hJ1 := hx1.blk hJ
  have hJ01 := hJ0.ext hx1
  have hA1 := hA.ext hx1
  have hr1 := hr.ext hx1
  refine rVal rfl rfl (yas rfl) ?_; refine rEnd ?_; refine run_seq ?_; refine run_block ?_; refine run_seq ?_; refine run_reg rfl ?_; refine rVal rfl rfl (ymv rfl) ?_; refine rVal rfl rfl (yeqpN Try.underlying34 rfl rfl) ?_; refine rVal rfl rfl (yas rfl) ?_; refine rEnd ?_; refine run_false rfl ?_; refine run_seq ?_; refine run_reg rfl ?_; refine rVal rfl rfl (ymv rfl) ?_; refine rVal rfl rfl ((by first | exact ync rfl | exact yncf rfl)) ?_; refine rVal rfl rfl (yfa fl82_4 rfl) ?_; refine rVal rfl rfl (yld Try.underlying4 rfl rfl hJ1 rfl) ?_; refine rVal rfl rfl (yas rfl) ?_; refine rEnd ?_
  refine run_false rfl ?_; refine run_skip ?_; refine run_inBlock ?_; refine run_seq ?_; refine run_seq ?_; refine run_reg rfl ?_; refine rVal rfl rfl (ymv rfl) ?_; refine rVal rfl rfl (yld Try.underlying38 rfl rfl hB3 rfl) ?_; refine rCall rfl rfl (yc (args := [.tmp 25, .tmp 26]) cf40 rfl) (check_retJ t _ hg hr1 (by omega) hdl hJ01 hA1 L.up.hB L.up.hN) ?_
  rintro _ w2 ⟨e, rfl, he, -, hx2⟩
  have e0 := he ht
  subst e0
  have hJ2 := hx2.blk hJ1
  have hJ02 := hJ01.ext hx2
  have hA2 := hA1.ext hx2
  have hB32 := hx2.blk hB3
  have hx02 := hx1.trans hx2
  refine rVal rfl rfl (yas rfl) ?_; refine rEnd ?_; refine run_seq ?_; refine run_reg rfl ?_; refine rVal rfl rfl (ymv rfl) ?_; refine rVal rfl rfl (yne rfl rfl) ?_; refine rEnd ?_; refine run_false rfl ?_; refine run_skip ?_; refine run_seq ?_; refine run_cut (fun e' w' => e' = [(0, ptr q 0), (3, ptr b3 0)] ∧ t ≠ [] ∧ ∃ D1 J1 F1, Room g w2 w' p q F D was (K + 1) (c + 3) t.length (h.number + T.length) D1 J1 F1) ?hk (fun hk => ?hmain)
  case hk =>
    rintro _ w3 ⟨rfl, hne, D1, J1, F1, R⟩
    obtain ⟨hJ3, hA3, hk3, hF3, hL3, hs3, hdu3, hn3, hroom3⟩ := R
    obtain ⟨base1, C1, h1, a1, T1, L1⟩ := hL3
    have e1 := L1.eq
    subst e1
    dsimp only at hn3 hroom3
    have ht1 := L1.safe.good.tail
    have hkk1 := L1.k1
    have hkk2 := L1.k2
    have hs02 := hx02.size
    have hs23 := hk3.size
    have hq3 : ¬ F1 q := fun hf => (hF3 q hf).elim hq (fun h => by omega)
    have hb3l := hB32.lt
    have hb30 : w.heap.size ≤ b3 := by omega
    have hB33 := hk3.blk hB32 (fun h => by rcases h with h | h; have := hFl _ h; omega; omega)
    have hr3 : Rd w3 (.slice aw t.length cw) 2 t.length (wrs t) := (hr.ext hx02).kp hk3 (fun i hi h => by rcases h with h | h; exact (hwv i hi).2.1 h; exact (hwv i hi).2.2 h)
    have hJ03 := hJ3
    change Blk w3 q (jl p g h1.own h1.tail (h1.number + T1.length) a1 (room T1) false) _ at hJ3
    refine run_seq ?_; refine run_reg rfl ?_; refine rValP rfl rfl (pal (cs := [_]) ti23 rfl) ?_
    rintro _ w4 ⟨b7, rfl, hb7, hx4, hB7⟩
    have hJ4 := hx4.blk hJ3
    refine rEnd ?_; refine run_seq ?_; refine run_seq ?_; refine run_draw (fun w' => Ext w4 w') (by kernel_rfl) rfl ?_; refine hTake (i := 0) rfl (by kernel_rfl) rfl rfl (fun _ hS => ymv rfl) (Ext.drew0 w4) ?_; refine hTake (i := 1) rfl (by kernel_rfl) rfl rfl (fun _ hS => (by first | exact ync rfl | exact yncf rfl)) (Ext.drew0 w4) ?_; refine hTake (i := 2) rfl (by kernel_rfl) rfl rfl (fun _ hS => yfa fl82_0 rfl) (Ext.drew0 w4) ?_
    refine hTake (i := 3) rfl (by kernel_rfl) rfl rfl (fun _ hS => yldA Try.underlying68 rfl ti68 rfl (Blk.cells (n := 3) (hS.blk hJ4) (news := [_, _, _]) rfl) rfl) (Ext.drew0 w4) ?_; refine hTake (i := 4) rfl (by kernel_rfl) rfl rfl (fun _ hS => ymv rfl) (Ext.drew0 w4) ?_; refine hTake (i := 5) rfl (by kernel_rfl) rfl rfl (fun _ hS => (by first | exact ync rfl | exact yncf rfl)) (Ext.drew0 w4) ?_; refine hTake (i := 6) rfl (by kernel_rfl) rfl rfl (fun _ hS => yfa fl82_1 rfl) (Ext.drew0 w4) ?_; refine hTake (i := 7) rfl (by kernel_rfl) rfl rfl (fun _ hS => yfa fl76_1 rfl) (Ext.drew0 w4) ?_
    refine hTake (i := 8) rfl (by kernel_rfl) rfl rfl (fun _ hS => yld Try.underlying3 rfl rfl (hS.blk hJ4) rfl) (Ext.drew0 w4) ?_; refine hTake (i := 9) rfl (by kernel_rfl) rfl rfl (fun _ hS => ymv rfl) (Ext.drew0 w4) ?_; refine hTake (i := 10) rfl (by kernel_rfl) rfl rfl (fun _ hS => (by first | exact ync rfl | exact yncf rfl)) (Ext.drew0 w4) ?_; refine hTake (i := 11) rfl (by kernel_rfl) rfl rfl (fun _ hS => yfa fl82_3 rfl) (Ext.drew0 w4) ?_; refine hTake (i := 12) rfl (by kernel_rfl) rfl rfl (fun _ hS => yld Try.underlying3 rfl rfl (hS.blk hJ4) rfl) (Ext.drew0 w4) ?_
    refine hTake (i := 13) rfl (by kernel_rfl) rfl rfl (fun _ hS => yad rfl rfl (by omega)) (Ext.drew0 w4) ?_
    rw [show (h1.tail : Int) + (room T1 : Int) = ((h1.tail + room T1 : Nat) : Int) from by omega]
    refine hOne (i := 14) (by kernel_rfl) ?_; refine nCall (i := 14) rfl rfl rfl (yc (args := [.tmp 67, .tmp 77]) cf42 rfl) (places_ret p g (h1.tail + room T1) _) ?_
    rintro _ w5 ⟨br, ba, rfl, hBr, hBa, hbr, hba, hbne, hx5⟩
    refine ⟨(Ext.drew0 w4).trans hx5, ?_⟩
    have hx45 := (Ext.drew0 w4).trans hx5
    have hs34 := hx4.size
    have hs45 := (Ext.drew0 w4).size
    have hb7l := hB7.lt
    have hbrl := hBr.lt
    have hbal := hBa.lt
    have hB75 := hx45.blk hB7
    have hB35 := (hx4.trans hx45).blk hB33
    refine hEnd (by kernel_rfl) ?_; refine run_block ?_; refine run_rangeFunc (ps := [79]) (p := []) (q := [_, _]) rfl cf65 ?_
    rintro l w6 hx6 hl hsz hD Rc hRc hrec
    have hB76 := hx6.blk hB75
    have hB36 := hx6.blk hB35
    have hs56 := hx6.size
    have hl6 := rc_lt hRc hrec
    have hlen0 : (Value.slice none 0 0).ownBlock = none := rfl
    refine Ret.mono (placesGo_ret l p br ba g hg hgs (h1.tail + room T1) (t.length + 2) (by omega)
      (fun i w' => Rc .ready none w' ∧ ∃ fv, Blk w' b7 [fv] 23 ∧ Sl w' fv 3 1 i ((places g (h1.tail + room T1) i).map I) ∧ (∀ k, fv.ownBlock = some k → w6.heap.size ≤ k) ∧ Kp (fun k => k = l ∨ k = b7 ∨ k = ba) w6 w')
      (fun w' => Rc .done (some (.exit 2)) w' ∧ ∃ fv, Blk w' b7 [fv] 23 ∧ Sl w' fv 3 1 (t.length + 2) ((places g (h1.tail + room T1) (t.length + 2)).map I) ∧ (∀ k, fv.ownBlock = some k → w6.heap.size ≤ k) ∧ Kp (fun k => k = l ∨ k = b7 ∨ k = ba) w6 w')
      w6 hbne ?_ ?_ ?_ (hx6.blk hBr) (hx6.blk hBa) ⟨hrec, _, hB76, ⟨rfl, .inl ⟨rfl, rfl⟩⟩, (fun k hk => by cases hk), Kp.refl _ _⟩) ?_
    · rintro i w7 hi ⟨hq1, fv, hB7i, hSi, hoi, hki⟩ hBri hBai
      obtain ⟨fa, fc, rfl, -⟩ := hSi.rd.shape
      have hs67 := hki.size
      refine retY_of_run hRc hq1 rfl rfl ?_; refine run_reg rfl ?_; refine rVal rfl rfl (yas rfl) ?_; refine rEnd ?_; refine run_beginRound rfl hRc hq1 ?_
      rintro w8 h8 hk8
      have hB78 := hk8.blk hB7i (by omega)
      have hB38 := hk8.blk (hki.blk hB36 (by omega)) (by omega)
      have hS8 := hSi.kp hk8 (fun k hk hkl => by have := hoi k hk; omega)
      refine run_block ?_; refine run_seq ?_; refine run_seq ?_; refine run_reg rfl ?_; refine rVal rfl rfl ((by first | exact yld Try.underlying23 rfl rfl hB78 rfl | exact yld Try.underlying23 rfl rfl hB38 rfl)) ?_; refine rVal rfl rfl (yln Try.underlying23 rfl) ?_; refine rVal rfl rfl ((by first | exact yld Try.underlying38 rfl rfl hB78 rfl | exact yld Try.underlying38 rfl rfl hB38 rfl)) ?_; refine rVal rfl rfl (yln Try.underlying38 rfl) ?_; refine rVal rfl rfl (yad rfl rfl (by omega)) ?_; refine rVal rfl rfl (yeq rfl rfl) ?_; refine rEnd ?_
      refine Run.sub (e := [(7, _), (8, _), (85, _)]) ?_ (by repeat (first | exact Sub.nil | refine Sub.cons rfl ?_))
      refine run_if rfl (fun heq => ?_) (fun heq => ?_)
      · skip
        refine run_roundExit rfl hRc h8 ?_
        intro w9 h9 hk9
        have hi2 : i = t.length + 2 := by omega
        subst hi2
        have hk89 := hk8.trans hk9
        refine ⟨⟨hk89.blk hBri (by omega), hk89.blk hBai (by omega)⟩, .inr ⟨rfl, h9, _, hk89.blk hB7i (by omega), hSi.kp hk89 (fun k hk hkl => by have := hoi k hk; omega), hoi, hki.trans (hk89.mono' fun k hk => .inl hk)⟩⟩
      · skip
        refine run_skip ?_; refine run_reg rfl ?_; refine rVal rfl rfl ((by first | exact yld Try.underlying23 rfl rfl hB78 rfl | exact yld Try.underlying23 rfl rfl hB38 rfl)) ?_; refine rVal rfl rfl (ymv rfl) ?_; refine rValP rfl rfl (pbs (parts := [(0, .tmp 87)]) (cs := [_]) (zs := [Value.int .i64 0]) Try.underlying23 ti3 rfl (by kernel_rfl) rfl rfl rfl (by decide)) ?_
        rintro _ w9 ⟨b88, rfl, ⟨hb88, hx9, hB88⟩, hS88⟩
        refine rValP rfl rfl (pap Try.underlying23 ti3 rfl (by decide) rfl rfl (hS8.ext hx9) hS88.rd (by intro c hc; simp at hc; subst hc; rfl) (by omega) (by omega)) ?_
        rintro v' w10 ⟨hS10, hk10, hown10, -⟩
        have hone10 : oneV v' = true := sl_one hS10
        have hS10' : Sl w10 v' 3 1 (i + 1) ((places g (h1.tail + room T1) (i + 1)).map I) := by
          rw [places_succ, List.map_append]; exact hS10
        have hB710 := hk10.blk (hx9.blk hB78) (fun hk => by have := hoi _ hk; omega)
        refine rEffP rfl (zst ti23 rfl rfl hone10 hB710 (by simp)) ?_
        rintro w11 ⟨hB711, hk11⟩
        refine rEnd ?_; refine run_inBlock ?_
        have hx89 := hx9.size
        have hs8 := hk8.size
        have hs10 := hk10.size
        have hown' : ∀ k, v'.ownBlock = some k → w6.heap.size ≤ k := fun k hk => by
          rcases hown10 k hk with h | h
          · exact hoi k h
          · omega
        have h11 := hk11.rc hRc (hk10.rc hRc (hx9.rc hRc h8 id) (fun hk => by have := hoi _ hk; omega)) (by omega)
        refine run_roundEnd hRc h11 ?_
        intro w12 h12 hk12
        have hkall : Kp (fun k => k = l ∨ k = b7 ∨ w6.heap.size ≤ k) w7 w12 := ((((hk8.mono' fun k h => .inl h).trans hx9.kp).trans (hk10.mono' fun k h => .inr (.inr (hoi k h)))).trans (hk11.mono' fun k h => .inr (.inl h))).trans (hk12.mono' fun k h => .inl h)
        refine ⟨⟨hkall.blk hBri (by omega), hkall.blk hBai (by omega)⟩, .inl ⟨rfl, by omega, h12, v', hk12.blk hB711 (by omega), (hS10'.kp hk11 (fun k hk hkl => by have := hown' k hk; omega)).kp hk12 (fun k hk hkl => by have := hown' k hk; omega), hown', hki.trans_new hkall (fun k hk => ?_)⟩⟩
        rcases hk with h | h | h
        · exact .inr (.inl h)
        · exact .inr (.inr (.inl h))
        · exact .inl h
    · rintro i wa wb ⟨hq1, fv, hB7i, hSi, hoi, hki⟩ hkab
      exact ⟨hkab.rc hRc hq1 (by omega), fv, hkab.blk hB7i (by omega), hSi.kp hkab (fun k hk hkl => by have := hoi k hk; omega), hoi, hki.trans (hkab.mono' fun k hk => .inr (.inr hk))⟩
    · rintro wa wb ⟨hq1, fv, hB7i, hSi, hoi, hki⟩ hxab
      exact ⟨hxab.rc hRc hq1 id, fv, hxab.blk hB7i, hSi.ext hxab, hoi, hki.trans hxab.kp⟩
    · rintro v w7 ⟨rfl, hq1, fv, hB77, hS7, ho7, hk7⟩
      refine ⟨_, _, hq1, by simp, fun w8 hk8 => ?_⟩
      have hs67 := hk7.size
      have hs78 := hk8.size
      have hx38 : Ext w3 w8 := (hx4.trans (hx45.trans hx6)).trans_new (hk7.trans (hk8.mono' fun k hk => .inl hk)) (fun i hi => by rcases hi with h | h | h <;> omega)
      have hD8 := hk8.heap (hk7.heap hD (by omega)) (by omega)
      have hB78 := hk8.blk hB77 (by omega)
      have hS8 := hS7.kp hk8 (fun k hk hkl => by have := ho7 k hk; omega)
      have hFr : FreeM w8 b7 w8.heap.size (places g (h1.tail + room T1) (t.length + 2)) := by
        rcases hS8.shape with ⟨-, hz⟩ | ⟨gb, cap, hva, hcap⟩
        · omega
        subst hva
        have hgl := hS8.lt (g := gb) rfl
        have hgb := ho7 gb rfl
        refine ⟨gb, 0, cap, by rw [places_length]; exact hB78, by rw [places_length]; omega, fun j z hz => ?_, by omega, hgl, hB78.lt, Nat.le_refl _⟩
        rcases hS8.rd.2 with ⟨cc, hc1, hz0⟩ | ⟨b', off', cap', hv, hcell⟩
        · omega
        cases hv
        exact hcell j (I z) (by rw [List.getElem?_map, hz]; rfl)
      have hJ8 := hx38.blk hJ3
      have hB38 := hx38.blk hB33
      have hr8 := hr3.ext hx38
      have hA8 := hA3.ext hx38
      have hNN := L1.up.hN
      have hFl1 := hA3.lt
      have hs38 := hx38.size
      have hq38 : q < w3.heap.size := hJ3.lt
      have hb3l3 : b3 < w3.heap.size := hB33.lt
      have hdb : ∀ x ∈ t, 0 ≤ x.1 ∧ x.1 < 2147483648 ∧ x.2.length ≤ 100000 := fun x hx => by have := (ht.out x hx).1; unfold Geo.out at this; have := hdl x hx; omega
      have hpl2 : places g (h1.tail + room T1) (t.length + 2) = g.place (h1.tail + room T1) :: places g (h1.tail + room T1 + 1) (t.length + 1) := places_cons g _ _
      rw [hpl2] at hFr
      refine run_exit rfl ?_; refine run_seq ?_; refine run_reg rfl ?_; refine rVal rfl rfl (ymf (first := []) (caps := [.tmp 7]) rfl rfl) ?_; refine rVal rfl rfl (yas rfl) ?_; refine rEnd ?_; refine run_seq ?_; refine run_draw (fun w' => Ext w8 w') (by kernel_rfl) rfl ?_; refine hTake (i := 0) rfl (by kernel_rfl) rfl rfl (fun _ hS => ymv rfl) (Ext.drew0 w8) ?_; refine hTake (i := 1) rfl (by kernel_rfl) rfl rfl (fun _ hS => (by first | exact ync rfl | exact yncf rfl)) (Ext.drew0 w8) ?_; refine hTake (i := 2) rfl (by kernel_rfl) rfl rfl (fun _ hS => yfa fl82_1 rfl) (Ext.drew0 w8) ?_
      refine hTake (i := 3) rfl (by kernel_rfl) rfl rfl (fun _ hS => yfa fl76_2 rfl) (Ext.drew0 w8) ?_; refine hTake (i := 4) rfl (by kernel_rfl) rfl rfl (fun _ hS => (by first | exact yld Try.underlying58 rfl rfl (hS.blk hJ8) rfl | exact yld Try.underlying58 rfl rfl (hS.blk hB38) rfl)) (Ext.drew0 w8) ?_; refine hTake (i := 5) rfl (by kernel_rfl) rfl rfl (fun _ hS => (by first | exact yld Try.underlying38 rfl rfl (hS.blk hJ8) rfl | exact yld Try.underlying38 rfl rfl (hS.blk hB38) rfl)) (Ext.drew0 w8) ?_; refine hTake (i := 6) rfl (by kernel_rfl) rfl rfl (fun _ hS => ymv rfl) (Ext.drew0 w8) ?_
      refine hTake (i := 7) rfl (by kernel_rfl) rfl rfl (fun _ hS => (by first | exact ync rfl | exact yncf rfl)) (Ext.drew0 w8) ?_; refine hTake (i := 8) rfl (by kernel_rfl) rfl rfl (fun _ hS => yfa fl82_0 rfl) (Ext.drew0 w8) ?_; refine hTake (i := 9) rfl (by kernel_rfl) rfl rfl (fun _ hS => yfa fl68_0 rfl) (Ext.drew0 w8) ?_; refine hTake (i := 10) rfl (by kernel_rfl) rfl rfl (fun _ hS => (by first | exact yld Try.underlying26 rfl rfl (hS.blk hJ8) rfl | exact yld Try.underlying26 rfl rfl (hS.blk hB38) rfl)) (Ext.drew0 w8) ?_; refine hOne (i := 11) (by kernel_rfl) ?_
      refine nCall (i := 11) rfl rfl rfl (yc (args := [.tmp 101]) cf20 rfl) (sizeA_ret (hA8.ext (Ext.drew0 w8))) ?_
      rintro _ w9 ⟨rfl, rfl⟩
      refine ⟨Ext.drew0 w8, ?_⟩
      rw [hNN]
      refine hOne (i := 12) (by kernel_rfl) ?_; refine nCall (i := 12) rfl rfl rfl (yc (args := [.tmp 95, .tmp 96, .tmp 102]) cf44 rfl) (descriptor_ret (h1.number + T1.length) t g.size _ _ (hr8.ext (Ext.drew0 w8)) hdb hm2 (by unfold Geo.size; omega) (by omega)) ?_
      rintro _ w10 ⟨rfl, hx10⟩
      refine ⟨(Ext.drew0 w8).trans hx10, ?_⟩
      have hx810 := (Ext.drew0 w8).trans hx10
      obtain ⟨desc, hdesc⟩ : ∃ desc, descB (h1.number + T1.length) t g.size = desc := ⟨_, rfl⟩
      have hdeslen : desc.length = g.size := by rw [← hdesc]; exact descB_length hm2
      rw [hdesc]
      refine hTake (i := 13) rfl (by kernel_rfl) rfl rfl (fun _ hS => yas rfl) ((Ext.drew0 w8).trans hx10) ?_; refine hEnd (by kernel_rfl) ?_; refine Run.sub (e := [(0, _), (3, _), (9, _), (10, _)]) ?_ (by repeat (first | exact Sub.nil | refine Sub.cons rfl ?_))
      refine run_seq ?_; refine run_reg rfl ?_; refine rVal rfl rfl (ymv rfl) ?_; refine rValP rfl rfl (pbs (parts := [(0, .tmp 104)]) (cs := [_]) (zs := [Value.string ⟨#[]⟩]) Try.underlying42 ti9 rfl (by kernel_rfl) rfl rfl rfl (by decide)) ?_
      rintro _ w11 ⟨bs, rfl, ⟨hbs, hx11, hBs⟩, hSs⟩
      have hx811 := hx810.trans hx11
      have hs811 := hx811.size
      have hs810 := hx810.size
      refine rVal rfl rfl (yas rfl) ?_; refine rEnd ?_; refine run_seq ?_; refine run_draw (fun w' => Kp (fun k => k = b7) w11 w') (by kernel_rfl) rfl ?_; refine hTake (i := 0) rfl (by kernel_rfl) rfl rfl (fun _ hS => ymv rfl) ((Ext.drew0 w11).kp) ?_; refine hTake (i := 1) rfl (by kernel_rfl) rfl rfl (fun _ hS => (by first | exact ync rfl | exact yncf rfl)) ((Ext.drew0 w11).kp) ?_; refine hTake (i := 2) rfl (by kernel_rfl) rfl rfl (fun _ hS => yfa fl82_0 rfl) ((Ext.drew0 w11).kp) ?_
      refine hTake (i := 3) rfl (by kernel_rfl) rfl rfl (fun _ hS => yldA Try.underlying68 rfl ti68 rfl (Blk.cells (n := 3) (hS.blk (hx811.blk hJ8) (by omega)) (news := [_, _, _]) rfl) rfl) ((Ext.drew0 w11).kp) ?_; refine hTake (i := 4) rfl (by kernel_rfl) rfl rfl (fun _ hS => ymv rfl) ((Ext.drew0 w11).kp) ?_; refine hTake (i := 6) rfl (by kernel_rfl) rfl rfl (fun _ hS => ymv rfl) ((Ext.drew0 w11).kp) ?_; refine hOne (i := 5) (by kernel_rfl) ?_; refine nCall (i := 5) rfl rfl rfl (ycv' (args := []) cf43 rfl rfl) (pop_ret ((hFr.ext hx811).ext (Ext.drew0 w11)) (by rw [places_length]; omega)) ?_
      rintro _ w12 ⟨rfl, hFr12, hk12⟩
      refine ⟨(Ext.drew0 w11).kp.trans hk12, ?_⟩
      have hk112 := (Ext.drew0 w11).kp.trans hk12
      refine hOne (i := 7) (by kernel_rfl) ?_; refine nCall (i := 7) rfl rfl rfl (yc (args := [.tmp 109, .tmp 111, .tmp 112]) cf28 rfl) (put_ret p g (g.place (h1.tail + room T1)) desc _) ?_
      rintro _ w13 ⟨u0, rfl, hC13, hx13⟩
      refine ⟨hk112.trans hx13.kp, ?_⟩
      refine hOne (i := 8) (by kernel_rfl) ?_; refine nValP (i := 8) rfl rfl rfl (pbs (parts := [(0, .tmp 113)]) (cs := [_]) (zs := [Value.nilFunc]) Try.underlying69 ti71 rfl (by kernel_rfl) rfl rfl rfl (by decide)) ?_
      rintro _ w14 ⟨b114, rfl, ⟨hb114, hx14, hB114⟩, hS114⟩
      refine ⟨(hk112.trans hx13.kp).trans hx14.kp, ?_⟩
      have z11 := (Ext.drew0 w11).size
      have z12 := hk12.size
      have z13 := hx13.size
      have z14 := hx14.size
      have hbsl := hBs.lt
      have hx814 : Ext w3 w14 := (((hx38.trans hx811).trans_new hk112 (fun i hi => by omega)).trans hx13).trans hx14
      have hD14 := hx14.heap (hx13.heap (hk112.heap (hx811.heap hD8 id) (by omega)) id) id
      have hFr14 := (hFr12.ext hx13).ext hx14
      have hSs14 : Sl w14 (.slice (some ⟨bs, 0, none⟩) 1 1) 9 1 1 [S desc] := ((hSs.kp hk112 (fun k hk hkl => by have h' : bs = k := Option.some.inj hk; omega)).ext hx13).ext hx14
      have hSt14 : StLX w8 w14 p (.slice (some ⟨b114, 0, none⟩) 1 1) [.put (g.place (h1.tail + room T1)) desc] (fun i => (Value.slice (some ⟨bs, 0, none⟩) 1 1).ownBlock = some i) := by
        refine ⟨[u0], fun i => w12.heap.size ≤ i ∧ i < w13.heap.size, hS114, ⟨(hC13.mono (fun i h h' => ⟨h', h⟩)).kp hx14 (fun _ h => h.elim), trivial⟩, fun i hi => ⟨by omega, by omega⟩, fun i hi => ?_, fun i hi => ?_⟩
        · have h' : b114 = i := Option.some.inj hi
          exact ⟨by omega, fun h => by omega⟩
        · have h' : bs = i := Option.some.inj hi
          exact ⟨fun h => by omega, fun h => by have h'' : b114 = i := Option.some.inj h; omega⟩
      refine hTake (i := 9) rfl (by kernel_rfl) rfl rfl (fun _ hS => yas rfl) ((hk112.trans hx13.kp).trans hx14.kp) ?_; refine hEnd (by kernel_rfl) ?_; refine run_seq ?_; refine run_seq ?_; refine run_reg rfl ?_; refine rVal rfl rfl (yld Try.underlying38 rfl rfl (hx814.blk hB33) rfl) ?_; refine rVal rfl rfl (yln Try.underlying38 rfl) ?_; refine rVal rfl rfl (ymv rfl) ?_; refine rEnd ?_; refine run_block ?_
      refine run_loop (α := Nat × Value × Value) ((0, .slice (some ⟨bs, 0, none⟩) 1 1, .slice (some ⟨b114, 0, none⟩) 1 1)) (fun x => [(0, ptr q 0), (3, ptr b3 0), (9, .func (.func 43) #[] #[ptr b7 0]), (11, x.2.1), (12, x.2.2), (115, .slice aw t.length cw), (116, I (t.length : Int)), (117, I (x.1 : Int))]) (fun x w' => x.1 ≤ t.length ∧ Ext w3 w' ∧ w8.heap.size ≤ w'.heap.size ∧ w'.heap[w5.heap.size]? = some (.deferred (some [])) ∧ FreeM w' b7 w8.heap.size (places g (h1.tail + room T1 + 1 + x.1) (t.length + 1 - x.1)) ∧ Sl w' x.2.1 9 1 (x.1 + 1) ((desc :: (t.take x.1).map (fun x => laidB x.2)).map S) ∧ (∀ i, x.2.1.ownBlock = some i → w8.heap.size ≤ i) ∧ StLX w8 w' p x.2.2 (.put (g.place (h1.tail + room T1)) desc :: puts (dataW g (h1.tail + room T1 + 1) (t.take x.1))) (fun i => x.2.1.ownBlock = some i)) (fun x => t.length - x.1) (by repeat (first | exact Sub.nil | refine Sub.cons rfl ?_)) ?hI ?hround
      case hI => exact ⟨by dsimp only; omega, hx814, by omega, hD14, hFr14, hSs14, fun i hi => by have h' : bs = i := Option.some.inj hi; omega, hSt14⟩
      case hround =>
        rintro ⟨k, su, sv⟩ wi ⟨hk, hxi, hszi, hDi, hFri, hSu, hou, hSt⟩ ih
        dsimp only at hk hFri hSu hou hSt
        obtain ⟨ua, uc, rfl, -⟩ := hSu.rd.shape
        have hul := fun i hi => hSu.lt (g := i) hi
        have hri := hr3.ext hxi
        have hJi := hxi.blk hJ3
        try dsimp only
        refine run_seq ?_; refine run_reg rfl ?_; refine rVal rfl rfl (ylt rfl rfl) ?_; refine rEnd ?_; refine run_seq ?_; refine run_if rfl (fun hlt => ?_) (fun hlt => ?_)
        · skip
          have hkl : k < t.length := by omega
          obtain ⟨b, off, cap, x, hva, hxg⟩ := rd_get hri hkl
          cases hva
          have hel := rd_el hri hkl hxg
          have hxm := List.mem_of_getElem? hxg
          have htk : t.take (k + 1) = t.take k ++ [x] := by
            have e : t[k] = x := by rw [List.getElem?_eq_getElem hkl] at hxg; exact Option.some.inj hxg
            rw [List.take_succ_eq_append_getElem hkl, e]
          refine run_skip ?_; refine run_seq ?_; refine run_block ?_; refine run_seq ?_; refine run_reg rfl ?_; refine rVal rfl rfl (yis Try.underlying38 ti54 rfl rfl (by omega)) ?_; refine rVal rfl rfl (yldA Try.underlying54 rfl ti54 rfl hel rfl) ?_; refine rValP rfl rfl (pal (cs := [_, _]) ti54 rfl) ?_
          rintro _ wa ⟨b14, rfl, hb14, hxa, hBa14⟩
          refine rEffP rfl (zstA ti54 rfl rfl rfl rfl hBa14 (by simp)) ?_
          rintro wb ⟨hBb, hkb⟩
          replace hBb : Blk wb b14 [I x.1, S x.2] 54 := hBb
          have hxb : Ext wi wb := hxa.trans_new hkb (fun i hi => by omega)
          refine rEnd ?_; refine run_seq ?_; refine run_reg rfl ?_; refine rVal rfl rfl (yfa fl54_1 rfl) ?_; refine rVal rfl rfl (yld Try.underlying9 rfl rfl hBb rfl) ?_; refine rCall rfl rfl (yc (args := [.tmp 122]) cf45 rfl) (laidJ_ret x.2 _ (by have := hdl x hxm; omega)) ?_
          rintro _ wc ⟨rfl, rfl⟩
          have hlx : (laidB x.2).length ≤ 100000 := by rw [laidB_length]; exact hdl x hxm
          refine rVal rfl rfl (yas rfl) ?_; refine rEnd ?_; refine run_seq ?_; refine run_reg rfl ?_; refine rVal rfl rfl (ymv rfl) ?_; refine rVal rfl rfl (ymv rfl) ?_; refine rValP rfl rfl (pbs (parts := [(0, .tmp 125)]) (cs := [_]) (zs := [Value.string ⟨#[]⟩]) Try.underlying42 ti9 rfl (by kernel_rfl) rfl rfl rfl (by decide)) ?_
          rintro _ wd ⟨b126, rfl, ⟨hb126, hxd, hBd⟩, hS126⟩
          have hxid := hxb.trans hxd
          refine rValP rfl rfl (pap Try.underlying42 ti9 rfl (by decide) rfl rfl (hSu.ext hxid) hS126.rd (by intro c hc; simp at hc; subst hc; rfl) (by omega) (by omega)) ?_
          rintro su' we ⟨hSe, hke, howne, -⟩
          obtain ⟨ua', uc', rfl, -⟩ := hSe.rd.shape
          have zid := hxid.size
          have ze := hke.size
          have howne' : ∀ i, (Value.slice ua' (k + 1 + 1) uc').ownBlock = some i → w8.heap.size ≤ i := fun i hi => by
            rcases howne i hi with h | h
            · exact hou i h
            · omega
          have hSte : StLX w8 we p sv (.put (g.place (h1.tail + room T1)) desc :: puts (dataW g (h1.tail + room T1 + 1) (t.take k))) (fun i => (Value.slice ua' (k + 1 + 1) uc').ownBlock = some i) := by
            refine (((hSt.kp (S := fun _ => False) hxid (fun i hi => hi.elim)).other (X' := fun i => (Value.slice ua (k + 1) uc).ownBlock = some i ∨ (Value.slice ua' (k + 1 + 1) uc').ownBlock = some i) (fun i hi => ?_)).kp hke (fun i hi => .inl (.inl hi))).other (fun i hi => .inl (.inr hi))
            rcases hi with h | h
            · exact .inl h
            · rcases howne i h with h' | h'
              · exact .inl h'
              · exact .inr h'
          have hFre := (hFri.ext hxid).kp hke (fun i hi => hou i hi)
          have hxie : Ext w3 we := (hxi.trans hxid).trans_new hke (fun i hi => by have := hou i hi; omega)
          have hDe := hke.heap (hxid.heap hDi id) (fun hi => by have := hou _ hi; omega)
          obtain ⟨vs, G, hSv, hM, hG, ho, hXX⟩ := hSte
          have hMl := hM.len
          rw [List.length_cons, puts_length, dataW_length, List.length_take, Nat.min_eq_left hk] at hMl
          obtain ⟨va, vc, rfl, -⟩ := hSv.rd.shape
          refine rVal rfl rfl (yas rfl) ?_; refine rEnd ?_; refine run_draw (fun w' => Kp (fun k' => k' = b7 ∨ (Value.slice va vs.length vc).ownBlock = some k') we w') (by kernel_rfl) rfl ?_; refine hTake (i := 0) rfl (by kernel_rfl) rfl rfl (fun _ hS => ymv rfl) ((Ext.drew0 we).kp) ?_; refine hTake (i := 1) rfl (by kernel_rfl) rfl rfl (fun _ hS => ymv rfl) ((Ext.drew0 we).kp) ?_; refine hTake (i := 2) rfl (by kernel_rfl) rfl rfl (fun _ hS => (by first | exact ync rfl | exact yncf rfl)) ((Ext.drew0 we).kp) ?_
          refine hTake (i := 3) rfl (by kernel_rfl) rfl rfl (fun _ hS => yfa fl82_0 rfl) ((Ext.drew0 we).kp) ?_; refine hTake (i := 4) rfl (by kernel_rfl) rfl rfl (fun _ hS => yldA Try.underlying68 rfl ti68 rfl (Blk.cells (n := 3) (hS.blk (hxie.blk hJ3) (fun h => h.elim (fun h => by omega) (fun h => by have := (ho _ h).1; omega))) (news := [_, _, _]) rfl) rfl) ((Ext.drew0 we).kp) ?_
          refine hTake (i := 5) rfl (by kernel_rfl) rfl rfl (fun _ hS => ymv rfl) ((Ext.drew0 we).kp) ?_; refine hTake (i := 7) rfl (by kernel_rfl) rfl rfl (fun _ hS => ymv rfl) ((Ext.drew0 we).kp) ?_
          rw [show t.length + 1 - k = (t.length - k) + 1 by omega, places_cons] at hFre
          refine hOne (i := 6) (by kernel_rfl) ?_; refine nCall (i := 6) rfl rfl rfl (ycv' (args := []) cf43 rfl rfl) (pop_ret (hFre.ext (Ext.drew0 we)) (by rw [places_length]; omega)) ?_
          rintro _ wf ⟨rfl, hFrf, hkf⟩
          refine ⟨(Ext.drew0 we).kp.trans (hkf.mono' fun i h => .inl h), ?_⟩
          have hkef : Kp (fun k' => k' = b7) we wf := (Ext.drew0 we).kp.trans hkf
          have zf := hkef.size
          refine hOne (i := 8) (by kernel_rfl) ?_; refine nCall (i := 8) rfl rfl rfl (yc (args := [.tmp 132, .tmp 134, .tmp 135]) cf28 rfl) (put_ret p g (g.place (h1.tail + room T1 + 1 + k)) (laidB x.2) _) ?_
          rintro _ wg ⟨u, rfl, hCg, hxg⟩
          refine ⟨(hkef.mono' fun i h => .inl h).trans hxg.kp, ?_⟩
          refine hOne (i := 9) (by kernel_rfl) ?_; refine nValP (i := 9) rfl rfl rfl (pbs (parts := [(0, .tmp 136)]) (cs := [_]) (zs := [Value.nilFunc]) Try.underlying69 ti71 rfl (by kernel_rfl) rfl rfl rfl (by decide)) ?_
          rintro _ wh ⟨b137, rfl, ⟨hb137, hxh, hBh⟩, hS137⟩
          refine ⟨((hkef.mono' fun i h => .inl h).trans hxg.kp).trans hxh.kp, ?_⟩
          have hSvf := hSv.kp hkef (fun i hi hb => by have := (ho i hi).1; omega)
          have hMf := StpsM.kp hkef (fun i hb hg => by have := (hG i hg).1; omega) hM
          refine hOne (i := 10) (by kernel_rfl) ?_; refine nValP (i := 10) rfl rfl rfl (pap Try.underlying69 ti71 rfl (by decide) rfl rfl (hSvf.ext (hxg.trans hxh)) hS137.rd (by intro c hc; simp at hc; subst hc; exact oneV_one hCg.one) (by omega) (by omega)) ?_
          rintro sv' wj ⟨hSj, hkj, hownj, -⟩
          refine ⟨(((hkef.mono' fun i h => .inl h).trans hxg.kp).trans hxh.kp).trans (hkj.mono' fun i h => .inr h), ?_⟩
          have zg := hxg.size
          have zh := hxh.size
          have zj := hkj.size
          have hsul : ∀ i, (Value.slice ua' (k + 1 + 1) uc').ownBlock = some i → i < we.heap.size := fun i hi => hSe.lt hi
          have hStj := stlx_app (w0 := w8) (w1 := wf) (w2 := wg) (w3 := wh) (us := [u]) (ts := [.put (g.place (h1.tail + room T1 + 1 + k)) (laidB x.2)]) hSvf hMf (fun i hi => ⟨(hG i hi).1, Nat.lt_of_lt_of_le (hG i hi).2 zf⟩) ho hXX (fun i hi => Nat.lt_of_lt_of_le (hsul i hi) zf) (by omega) hxg ⟨hCg.mono (fun i _ hi => hi), trivial⟩ hxh hSj rfl hkj hownj
          refine hTake (i := 11) rfl (by kernel_rfl) rfl rfl (fun _ hS => yas rfl) ((((hkef.mono' fun i h => .inl h).trans hxg.kp).trans hxh.kp).trans (hkj.mono' fun i h => .inr h)) ?_; refine hEnd (by kernel_rfl) ?_; refine run_inBlock ?_; refine run_reg rfl ?_; refine rVal rfl rfl (yad rfl rfl (by omega)) ?_; refine rVal rfl rfl (ymv rfl) ?_; refine rEnd ?_
          have hxej : Ext we wj → True := fun _ => trivial
          have hx3j : Ext w3 wj := ((hxie.trans_new hkef (fun i hi => by omega)).trans (hxg.trans hxh)).trans_new hkj (fun i hi => by have := (ho i hi).1; omega)
          have hDj := hkj.heap ((hxg.trans hxh).heap (hkef.heap hDe (by omega)) id) (fun hi => by have := (ho _ hi).1; omega)
          have hFrj := (hFrf.ext (hxg.trans hxh)).kp hkj (fun i hi => (ho i hi).1)
          have hSuj := ((hSe.kp hkef (fun i hi hb => by have := howne' i hi; omega)).ext (hxg.trans hxh)).kp hkj (fun i hi hv => (hXX i hi).2 hv)
          refine (ih (k + 1, .slice ua' (k + 1 + 1) uc', sv') wj ⟨hkl, hx3j, by omega, hDj, ?_, ?_, howne', ?_⟩ (by dsimp only; omega)).sub (by repeat (first | exact Sub.nil | refine Sub.cons rfl ?_))
          · dsimp only
            rw [show h1.tail + room T1 + 1 + (k + 1) = h1.tail + room T1 + 1 + k + 1 by omega, show t.length + 1 - (k + 1) = t.length - k by omega]
            exact hFrj
          · dsimp only
            rw [htk]
            simpa using hSuj
          · dsimp only
            rw [htk, dataW_app, puts_app]
            have hd1 : puts (dataW g (h1.tail + room T1 + 1 + (t.take k).length) [x]) = [.put (g.place (h1.tail + room T1 + 1 + k)) (laidB x.2)] := by
              rw [List.length_take, Nat.min_eq_left hk]; rfl
            rw [hd1]
            exact hStj
        · skip
          have hkk : k = t.length := by omega
          subst hkk
          rw [List.take_length] at hSu hSt
          have hsumlen : (desc :: t.map (fun x => laidB x.2)).length = t.length + 1 := by simp
          have hflat : (desc :: t.map (fun x => laidB x.2)).flatten = allB g (h1.number + T1.length) t := by
            rw [List.flatten_cons, ← hdesc]
            unfold allB laidAll
            rw [List.flatMap_def]
          have hallen : (allB g (h1.number + T1.length) t).length ≤ 10000000 := by
            unfold allB laidAll
            rw [List.length_append, hdesc, hdeslen]
            have hfl : ∀ (l : Tx), (∀ x ∈ l, x.2.length = g.size) → (l.flatMap fun x => laidB x.2).length = l.length * g.size := by
              intro l
              induction l with
              | nil => intro _; simp
              | cons y r ihr =>
                intro hl
                rw [List.flatMap_cons, List.length_append, laidB_length, hl y (List.mem_cons_self ..), ihr (fun z hz => hl z (List.mem_cons_of_mem _ hz)), List.length_cons, Nat.succ_mul]; omega
            rw [hfl t hlw]
            have hsz4 : g.size ≤ 4096 := by unfold Geo.size; omega
            have hmm := ht.most
            unfold Geo.most mostN at hmm
            have h1t : t.length ≤ 1023 := by unfold Geo.size at hmm; omega
            have : t.length * g.size ≤ 1023 * 4096 := Nat.mul_le_mul h1t (by unfold Geo.size; omega)
            omega
          refine run_exit rfl ?_; refine run_seq ?_
          obtain ⟨vs, G, hSv, hM, hG, ho, hXX⟩ := hSt
          have hMl := hM.len
          rw [List.length_cons, puts_length, dataW_length] at hMl
          obtain ⟨va, vc, rfl, -⟩ := hSv.rd.shape
          rw [show t.length + 1 - t.length = 0 + 1 by omega, places_cons] at hFri
          have hBi3 := hxi.blk hB33
          have h0i := Ext.drew0 wi
          refine run_draw (fun w' => Kp (fun k' => k' = b7 ∨ (Value.slice va vs.length vc).ownBlock = some k') wi w') (by kernel_rfl) rfl ?_; refine hTake (i := 0) rfl (by kernel_rfl) rfl rfl (fun _ hS => ymv rfl) (h0i.kp) ?_; refine hTake (i := 1) rfl (by kernel_rfl) rfl rfl (fun _ hS => ymv rfl) (h0i.kp) ?_; refine hTake (i := 2) rfl (by kernel_rfl) rfl rfl (fun _ hS => (by first | exact ync rfl | exact yncf rfl)) (h0i.kp) ?_; refine hTake (i := 3) rfl (by kernel_rfl) rfl rfl (fun _ hS => yfa fl82_0 rfl) (h0i.kp) ?_
          refine hTake (i := 4) rfl (by kernel_rfl) rfl rfl (fun _ hS => yldA Try.underlying68 rfl ti68 rfl (Blk.cells (n := 3) (hS.blk hJi (fun h => h.elim (fun h => by omega) (fun h => by have := (ho _ h).1; omega))) (news := [_, _, _]) rfl) rfl) (h0i.kp) ?_
          refine hTake (i := 6) rfl (by kernel_rfl) rfl rfl (fun _ hS => ymv rfl) (h0i.kp) ?_; refine hTake (i := 7) rfl (by kernel_rfl) rfl rfl (fun _ hS => (by first | exact ync rfl | exact yncf rfl)) (h0i.kp) ?_; refine hTake (i := 8) rfl (by kernel_rfl) rfl rfl (fun _ hS => yfa fl82_0 rfl) (h0i.kp) ?_; refine hTake (i := 9) rfl (by kernel_rfl) rfl rfl (fun _ hS => yldA Try.underlying68 rfl ti68 rfl (Blk.cells (n := 3) (hS.blk hJi (fun h => h.elim (fun h => by omega) (fun h => by have := (ho _ h).1; omega))) (news := [_, _, _]) rfl) rfl) (h0i.kp) ?_
          refine hTake (i := 10) rfl (by kernel_rfl) rfl rfl (fun _ hS => ymv rfl) (h0i.kp) ?_; refine hTake (i := 12) rfl (by kernel_rfl) rfl rfl (fun _ hS => ymv rfl) (h0i.kp) ?_; refine hTake (i := 13) rfl (by kernel_rfl) rfl rfl (fun _ hS => (by first | exact ync rfl | exact yncf rfl)) (h0i.kp) ?_; refine hTake (i := 14) rfl (by kernel_rfl) rfl rfl (fun _ hS => yfa fl82_1 rfl) (h0i.kp) ?_; refine hTake (i := 15) rfl (by kernel_rfl) rfl rfl (fun _ hS => yfa fl76_2 rfl) (h0i.kp) ?_
          refine hTake (i := 16) rfl (by kernel_rfl) rfl rfl (fun _ hS => yld Try.underlying58 rfl rfl (hS.blk hJi (fun h => h.elim (fun h => by omega) (fun h => by have := (ho _ h).1; omega))) rfl) (h0i.kp) ?_
          refine hTake (i := 17) rfl (by kernel_rfl) rfl rfl (fun _ hS => ymv rfl) (h0i.kp) ?_; refine hTake (i := 19) rfl (by kernel_rfl) rfl rfl (fun _ hS => ymv rfl) (h0i.kp) ?_; refine hTake (i := 20) rfl (by kernel_rfl) rfl rfl (fun _ hS => (by first | exact ync rfl | exact yncf rfl)) (h0i.kp) ?_; refine hTake (i := 21) rfl (by kernel_rfl) rfl rfl (fun _ hS => yfa fl82_0 rfl) (h0i.kp) ?_; refine hTake (i := 22) rfl (by kernel_rfl) rfl rfl (fun _ hS => yfa fl68_0 rfl) (h0i.kp) ?_
          refine hTake (i := 23) rfl (by kernel_rfl) rfl rfl (fun _ hS => yld Try.underlying26 rfl rfl (hS.blk hJi (fun h => h.elim (fun h => by omega) (fun h => by have := (ho _ h).1; omega))) rfl) (h0i.kp) ?_
          refine hTake (i := 27) rfl (by kernel_rfl) rfl rfl (fun _ hS => ymv rfl) (h0i.kp) ?_; refine hTake (i := 28) rfl (by kernel_rfl) rfl rfl (fun _ hS => (by first | exact ync rfl | exact yncf rfl)) (h0i.kp) ?_; refine hTake (i := 29) rfl (by kernel_rfl) rfl rfl (fun _ hS => yfa fl82_0 rfl) (h0i.kp) ?_; refine hTake (i := 30) rfl (by kernel_rfl) rfl rfl (fun _ hS => yldA Try.underlying68 rfl ti68 rfl (Blk.cells (n := 3) (hS.blk hJi (fun h => h.elim (fun h => by omega) (fun h => by have := (ho _ h).1; omega))) (news := [_, _, _]) rfl) rfl) (h0i.kp) ?_
          refine hOne (i := 5) (by kernel_rfl) ?_; refine nCall (i := 5) rfl rfl rfl (yc (args := [.tmp 144]) cf30 rfl) (flushJ_ret0 p g _) ?_
          rintro _ wa ⟨u1, rfl, hCa, hxa⟩
          refine ⟨(h0i.trans hxa).kp, ?_⟩
          have hx1a := h0i.trans hxa
          refine hOne (i := 11) (by kernel_rfl) ?_; refine nCall (i := 11) rfl rfl rfl (ycv' (args := []) cf43 rfl rfl) (pop_ret (hFri.ext hx1a) (by rw [places_length]; omega)) ?_
          rintro _ wb ⟨rfl, hFrb, hkb⟩
          refine ⟨hx1a.kp.trans (hkb.mono' fun i h => .inl h), ?_⟩
          have hkib : Kp (fun k' => k' = b7) wi wb := hx1a.kp.trans hkb
          have zib := hkib.size
          have hSub := hSu.kp hkib (fun i hi hb => by have := hou i hi; omega)
          have hjoin : ∃ b off cap, (Value.slice ua (t.length + 1) uc) = .slice (some ⟨b, off, none⟩) (desc :: t.map (fun x => laidB x.2)).length cap ∧ (desc :: t.map (fun x => laidB x.2)).length ≤ cap ∧ b < wb.heap.size := by
            rcases hSub.shape with ⟨-, hz⟩ | ⟨gb, cap, hva, hcap⟩
            · omega
            · have hgl : gb < wb.heap.size := hSub.lt (by rw [hva]; rfl)
              exact ⟨gb, 0, cap, by rw [hsumlen]; exact hva, by rw [hsumlen]; exact hcap, hgl⟩
          refine hOne (i := 18) (by kernel_rfl) ?_; refine nCall (i := 18) rfl rfl rfl (yc (args := [.tmp 157, .const (Value.string (⟨#[]⟩))]) cf47 rfl) (joinS_ret _ (desc :: t.map (fun x => laidB x.2)) _ (by rw [hsumlen]; exact hSub.rd) hjoin (by rw [hsumlen]; omega) (by rw [hflat]; omega)) ?_
          rintro _ wc ⟨rfl, hxc⟩
          refine ⟨(hkib.mono' fun i h => .inl h).trans hxc.kp, ?_⟩
          rw [hflat]
          have hx3c : Ext w3 wc := (hxi.trans_new hkib (fun i hi => by omega)).trans hxc
          have zbc := hxc.size
          refine hOne (i := 24) (by kernel_rfl) ?_; refine nCall (i := 24) rfl rfl rfl (yc (args := [.tmp 163]) cf20 rfl) (sizeA_ret (hA3.ext hx3c)) ?_
          rintro _ wd ⟨rfl, rfl⟩
          refine ⟨(hkib.mono' fun i h => .inl h).trans hxc.kp, ?_⟩
          rw [hNN]
          refine hOne (i := 25) (by kernel_rfl) ?_; refine nCall (i := 25) rfl rfl rfl (yc (args := [.tmp 156, .tmp 158, .tmp 164]) cf46 rfl) (record_ret (h1.number + T1.length) (allB g (h1.number + T1.length) t) g.size _ (by omega) hallen (by omega) (by unfold Geo.size; omega)) ?_
          rintro _ we ⟨rfl, hxe⟩
          refine ⟨((hkib.mono' fun i h => .inl h).trans hxc.kp).trans hxe.kp, ?_⟩
          rw [show recB (h1.number + T1.length) (allB g (h1.number + T1.length) t) g.size = recT g (h1.number + T1.length) t from rfl]
          refine hOne (i := 26) (by kernel_rfl) ?_; refine nCall (i := 26) rfl rfl rfl (yc (args := [.tmp 149, .tmp 151, .tmp 165]) cf28 rfl) (put_ret p g (g.place (h1.tail + room T1 + 1 + t.length)) (recT g (h1.number + T1.length) t) _) ?_
          rintro _ wf ⟨u2, rfl, hCf, hxf⟩
          refine ⟨(((hkib.mono' fun i h => .inl h).trans hxc.kp).trans hxe.kp).trans hxf.kp, ?_⟩
          refine hOne (i := 31) (by kernel_rfl) ?_; refine nCall (i := 31) rfl rfl rfl (yc (args := [.tmp 170]) cf30 rfl) (flushJ_ret0 p g _) ?_
          rintro _ wg ⟨u3, rfl, hCg, hxg⟩
          refine ⟨((((hkib.mono' fun i h => .inl h).trans hxc.kp).trans hxe.kp).trans hxf.kp).trans hxg.kp, ?_⟩
          have hxbg : Ext wb wg := ((hxc.trans hxe).trans hxf).trans hxg
          have zbg := hxbg.size
          have zce := hxe.size
          have hN3 : StpsM wg p (fun i => wb.heap.size ≤ i) [u1, u2, u3] [.flush, .put (g.place (h1.tail + room T1 + 1 + t.length)) (recT g (h1.number + T1.length) t), .flush] := by
            refine ⟨?_, ?_, ?_, trivial⟩
            · exact (((hCa.kp hkb (fun _ _ h => h)).kp hxbg (fun _ h => h.elim)).mono (fun i _ hi => hi.elim))
            · exact (hCf.mono (G' := fun i => wb.heap.size ≤ i) (fun i _ hi => by omega)).kp hxg (fun _ h => h.elim)
            · exact hCg.mono (fun i _ hi => hi.elim)
          have hSvb := hSv.kp hkib (fun i hi hb => by have := (ho i hi).1; omega)
          have hMb := StpsM.kp hkib (fun i hb hg => by have := (hG i hg).1; omega) hM
          refine hOne (i := 32) (by kernel_rfl) ?_; refine nValP (i := 32) rfl rfl rfl (pbs (parts := [(0, .tmp 145), (1, .tmp 166), (2, .tmp 171)]) (cs := [_, _, _]) (zs := [Value.nilFunc, Value.nilFunc, Value.nilFunc]) Try.underlying69 ti71 rfl (by kernel_rfl) rfl rfl rfl (by decide)) ?_
          rintro _ wh ⟨b172, rfl, ⟨hb172, hxh, hBh⟩, hS172⟩
          refine ⟨((hkib.mono' fun i h => .inl h).trans hxbg.kp).trans hxh.kp, ?_⟩
          refine hOne (i := 33) (by kernel_rfl) ?_; refine nValP (i := 33) rfl rfl rfl (pap Try.underlying69 ti71 rfl (by decide) rfl rfl (hSvb.ext (hxbg.trans hxh)) hS172.rd (by intro c hc; simp at hc; rcases hc with rfl | rfl | rfl; exact oneV_one hCa.one; exact oneV_one hCf.one; exact oneV_one hCg.one) (by omega) (by omega)) ?_
          rintro sv2 wj ⟨hSj, hkj, hownj, -⟩
          refine ⟨(((hkib.mono' fun i h => .inl h).trans hxbg.kp).trans hxh.kp).trans (hkj.mono' fun i h => .inr h), ?_⟩
          have zh := hxh.size
          have zj := hkj.size
          have hStj := stlx_app (w0 := w8) (w1 := wb) (w2 := wg) (w3 := wh) (us := [u1, u2, u3]) (ts := [.flush, .put (g.place (h1.tail + room T1 + 1 + t.length)) (recT g (h1.number + T1.length) t), .flush]) hSvb hMb (fun i hi => ⟨(hG i hi).1, Nat.lt_of_lt_of_le (hG i hi).2 zib⟩) ho (X := fun _ => False) (fun i hi => hi.elim) (fun i hi => hi.elim) (by omega) hxbg hN3 hxh hSj rfl hkj hownj
          have hx3j : Ext w3 wj := ((hxi.trans_new hkib (fun i hi => by omega)).trans (hxbg.trans hxh)).trans_new hkj (fun i hi => by have := (ho i hi).1; omega)
          have hDj := hkj.heap ((hxbg.trans hxh).heap (hkib.heap hDi (by omega)) id) (fun hi => by have := (ho _ hi).1; omega)
          obtain ⟨vs2, G2, hSv2, hM2, hG2, ho2, -⟩ := hStj
          have hMl2 := hM2.len
          simp only [List.length_cons, List.length_append, puts_length, dataW_length, List.length_nil] at hMl2
          obtain ⟨va2, vc2, rfl, -⟩ := hSv2.rd.shape
          refine hTake (i := 34) rfl (by kernel_rfl) rfl rfl (fun _ hS => yas rfl) ((((hkib.mono' fun i h => .inl h).trans hxbg.kp).trans hxh.kp).trans (hkj.mono' fun i h => .inr h)) ?_; refine hEnd (by kernel_rfl) ?_; refine Run.sub (e := [(0, _), (3, _), (12, _)]) ?_ (by repeat (first | exact Sub.nil | refine Sub.cons rfl ?_))
          refine run_seq ?_; refine run_seq ?_; refine run_reg rfl ?_; refine rVal rfl rfl (ymv rfl) ?_; refine rVal rfl rfl (ymv rfl) ?_; refine rVal rfl rfl (yld Try.underlying38 rfl rfl (hx3j.blk hB33) rfl) ?_; refine rCall rfl rfl (yc (args := [.tmp 175, .tmp 176]) cf38 rfl) (home_ret t _ (hr3.ext hx3j) (by omega) (hJ03.ext hx3j)) ?_
          rintro hv wk ⟨hLk, hxk⟩
          obtain ⟨vs3, G3, hSv3, hM3, hG3, ho3⟩ := hLk
          have hMl3 := hM3.len
          rw [puts_length] at hMl3
          obtain ⟨va3, vc3, rfl, -⟩ := hSv3.rd.shape
          refine rValP rfl rfl (pap Try.underlying69 ti71 rfl (by decide) rfl rfl (hSv2.ext hxk) hSv3.rd (StpsM.one hM3) (by omega) (by omega)) ?_
          rintro sv4 wl ⟨hSl, hkl', hownl, -⟩
          have hStl := stlx_app (w0 := w8) (w1 := wj) (w2 := wk) (w3 := wk) (us := vs3) (ts := puts t) hSv2 hM2 hG2 ho2 (X := fun _ => False) (fun i hi => hi.elim) (fun i hi => hi.elim) (by omega) hxk (StpsM.mono (fun i _ hi => (hG3 i hi).1) hM3) (Ext.refl wk) hSl rfl hkl' hownl
          have hx3l : Ext w3 wl := (hx3j.trans hxk).trans_new hkl' (fun i hi => by have := (ho2 i hi).1; omega)
          have hDl := hkl'.heap (hxk.heap hDj id) (fun hi => by have := (ho2 _ hi).1; omega)
          have hst : (((Stp.put (g.place (h1.tail + room T1)) desc :: puts (dataW g (h1.tail + room T1 + 1) t)) ++ [.flush, .put (g.place (h1.tail + room T1 + 1 + t.length)) (recT g (h1.number + T1.length) t), .flush]) ++ puts t) = commitS g (h1.tail + room T1) (h1.number + T1.length) t := by
            simp [commitS, ringW, hdesc]
          rw [hst] at hStl
          have hAl := hA3.ext hx3l
          have hclen : (commitS g (h1.tail + room T1) (h1.number + T1.length) t).length = 2 * t.length + 4 := by
            rw [← hst]; simp; omega
          refine rCall rfl rfl (yc (args := [.tmp 178]) cf32 rfl) (runL_ret hStl.toL hAl (fun i hi => Nat.lt_of_lt_of_le (hFl1 i hi) hs38) hs3 (by rw [hclen]; omega)) ?_
          rintro _ wm ⟨rfl, F4, hA4, hu4⟩
          refine rVal rfl rfl (yas rfl) ?_; refine rEnd ?_; refine run_seq ?_; refine run_reg rfl ?_; refine rVal rfl rfl (ymv rfl) ?_; refine rVal rfl rfl (yne rfl rfl) ?_; refine rEnd ?_
          have zl := hx3l.size
          have zk := hxk.size
          have zkl := hkl'.size
          have zm := hu4.1.size
          have hqm : ¬ F1 q := hq3
          have hJm := hu4.1.blk (hx3l.blk hJ3) hqm
          have hDm := hu4.1.heap hDl (fun hf => by have := hFl1 _ hf; omega)
          have hB3m := hu4.1.blk (hx3l.blk hB33) (fun hf => (hF3 _ hf).elim (fun h => by have := hFl _ h; omega) (fun h => by omega))
          have hF4 : ∀ i, F4 i → F i ∨ w.heap.size ≤ i := fun i hi => (hu4.2 i hi).elim (fun h => (hF3 i h).imp id (fun h => by omega)) (fun h => .inr (by omega))
          have hF4n : ∀ i, F4 i → i ≠ w5.heap.size ∧ i ≠ q := fun i hi => by
            refine ⟨fun he => ?_, fun he => ?_⟩
            · rcases hu4.2 i hi with h | h
              · have := hFl1 i h; omega
              · omega
            · subst he
              rcases hu4.2 _ hi with h | h
              · exact hq3 h
              · omega
          have hkm : Kp (fun k => F k ∨ k = q) w wm := ((hx02.kp.trans hk3).trans hx3l.kp).trans_new hu4.1 (fun i hi => (hF3 i hi).elim (fun h => .inr (.inl h)) (fun h => .inl (by omega)))
          have hsmr := small_runS (commitS g (h1.tail + room T1) (h1.number + T1.length) t) hs3
          rw [hclen] at hsmr
          rcases runS_commit hg L1.up L1.safe L1.now ht hne (by omega) (K := K + 2) (by omega) (by omega) (by omega) with ⟨D', base', e, U', S', n', due'⟩ | ⟨D', f, e, due', hf, hR⟩
          · rw [e] at hA4 hsmr ⊢
            refine run_false rfl ?_; refine run_skip ?_; refine run_seq ?_
            have h0m := Ext.drew0 wm
            refine run_draw (fun w' => Blk w' b3 [.slice aw t.length cw] 38) (by kernel_rfl) rfl ?_; refine hTake (i := 0) rfl (by kernel_rfl) rfl rfl (fun _ hS => ymv rfl) (h0m.blk hB3m) ?_; refine hTake (i := 1) rfl (by kernel_rfl) rfl rfl (fun _ hS => (by first | exact ync rfl | exact yncf rfl)) (h0m.blk hB3m) ?_; refine hTake (i := 2) rfl (by kernel_rfl) rfl rfl (fun _ hS => yfa fl82_3 rfl) (h0m.blk hB3m) ?_; refine hTake (i := 4) rfl (by kernel_rfl) rfl rfl (fun _ hS => yld Try.underlying38 rfl rfl (hS) rfl) (h0m.blk hB3m) ?_
            refine hTake (i := 5) rfl (by kernel_rfl) rfl rfl (fun _ hS => yln Try.underlying38 rfl) (h0m.blk hB3m) ?_; refine hTake (i := 6) rfl (by kernel_rfl) rfl rfl (fun _ hS => yad rfl rfl (by omega)) (h0m.blk hB3m) ?_; refine hOne (i := 3) (by kernel_rfl) ?_; refine nVal (i := 3) rfl rfl rfl (yld Try.underlying3 rfl rfl (h0m.blk hJm) rfl) (h0m.blk hB3m) ?_; refine hTake (i := 7) rfl (by kernel_rfl) rfl rfl (fun _ hS => yad rfl rfl (by omega)) (h0m.blk hB3m) ?_; refine hTake (i := 8) rfl (by kernel_rfl) rfl rfl (fun _ hS => (by first | exact ync rfl | exact yncf rfl)) (h0m.blk hB3m) ?_
            refine hTake (i := 9) rfl (by kernel_rfl) rfl rfl (fun _ hS => yfa fl82_3 rfl) (h0m.blk hB3m) ?_; refine hOne (i := 10) (by kernel_rfl) ?_; refine nEffP (i := 10) rfl rfl (zst ti3 rfl rfl rfl (h0m.blk hJm) (by simp)) ?_
            rintro wn ⟨hJn, hkn⟩
            refine ⟨(h0m.kp.trans hkn).blk hB3m (by omega), ?_⟩
            rw [show (room T1 : Int) + ((t.length : Int) + 2) = ((room T1 + (t.length + 2) : Nat) : Int) from by omega] at hJn
            replace hJn : Blk wn q (jl p g h1.own h1.tail (h1.number + T1.length) a1 (room T1 + (t.length + 2)) false) 82 := hJn
            refine hEnd (by kernel_rfl) ?_; refine run_seq ?_; refine run_reg rfl ?_; refine rVal rfl rfl (ymv rfl) ?_; refine rVal rfl rfl ((by first | exact ync rfl | exact yncf rfl)) ?_; refine rVal rfl rfl (yfa fl82_1 rfl) ?_; refine rVal rfl rfl (yfa fl76_2 rfl) ?_; refine rVal rfl rfl (yld Try.underlying58 rfl rfl hJn rfl) ?_; refine rVal rfl rfl (yad64 rfl rfl) ?_; refine rVal rfl rfl ((by first | exact ync rfl | exact yncf rfl)) ?_; refine rVal rfl rfl (yfa fl82_1 rfl) ?_; refine rVal rfl rfl (yfa fl76_2 rfl) ?_
            rw [Nat.mod_eq_of_lt (show h1.number + T1.length + 1 < 18446744073709551616 by omega)]
            refine rEffP rfl (zst ti58 rfl rfl rfl hJn (by simp)) ?_
            rintro wo ⟨hJo, hko⟩
            replace hJo : Blk wo q (jl p g h1.own h1.tail (h1.number + T1.length + 1) a1 (room T1 + (t.length + 2)) false) 82 := hJo
            refine rEnd ?_; refine Run.sub (e := []) ?_ (by repeat (first | exact Sub.nil | refine Sub.cons rfl ?_))
            refine run_seq ?_; refine run_reg rfl ?_; refine rVal rfl rfl (yas rfl) ?_; refine rEnd ?_
            have hkmo : Kp (fun k => k = q) wm wo := (h0m.kp.trans hkn).trans hko
            have hDo := hkmo.heap hDm (by omega)
            refine run_retM (by simp) (marked1 hDo) Try.func10 rfl ?_
            have hkf := kp_putObj wo w5.heap.size (.deferred none)
            have hJf : JnM (wo.putObj w5.heap.size (.deferred none)) q p g ⟨h1.own, h1.tail, h1.number + T1.length + 1, a1, room T1 + (t.length + 2), false⟩ := hkf.blk hJo (by omega)
            have hAf : DevA (wo.putObj w5.heap.size (.deferred none)) p D' F4 := (hA4.kp hkmo (fun i hi he => (hF4n i hi).2 he)).kp hkf (fun i hi he => (hF4n i hi).1 he)
            have hkff : Kp (fun k => F k ∨ k = q) w (wo.putObj w5.heap.size (.deferred none)) := (hkm.trans (hkmo.mono' fun i hi => .inr hi)).trans_new hkf (fun i hi => .inl (by omega))
            refine ⟨_, rfl, .inl ⟨rfl, D', _, hJf, ⟨F4, hAf, hkff, hF4⟩, ⟨base', t, h1, a1, T1 ++ [t], U', S', n', ?_, by omega, by simp; omega⟩, hsmr.mono (by omega), fun h0 => due' (hdu3 h0), ?_, ?_⟩⟩
            · rw [room_app]
              simp [room, Nat.add_assoc]
            · show room T1 + (t.length + 2) ≤ g.L; omega
            · show h1.number + T1.length + 1 = _
              have : 1 ≤ t.length := by
                rcases Nat.eq_zero_or_pos t.length with h0 | h0
                · exact absurd (List.eq_nil_of_length_eq_zero h0) hne
                · exact h0
              rw [hn3, Nat.min_eq_right this]
          · rw [e] at hA4 hsmr ⊢
            refine run_true rfl ?_; refine run_seq ?_; refine run_reg rfl ?_; refine rVal rfl rfl (ymv rfl) ?_; refine rVal rfl rfl (ymv rfl) ?_
            have hJ0m : JnM wm q p g ⟨h1.own, h1.tail, h1.number + T1.length, a1, room T1, false⟩ := hJm
            refine rCall rfl rfl (yc (args := [.tmp 182, .tmp 183]) cf41 rfl) (downJ_ret 8 hJ0m) ?_
            rintro _ wn ⟨rfl, hJn, hkn⟩
            refine rVal rfl rfl (yas rfl) ?_; refine rEnd ?_
            have hDn := hkn.heap hDm (by omega)
            refine run_retM (by simp) (marked1 hDn) Try.func10 rfl ?_
            have hkf := kp_putObj wn w5.heap.size (.deferred none)
            have hJf : JnM (wn.putObj w5.heap.size (.deferred none)) q p g ⟨h1.own, h1.tail, h1.number + T1.length, a1, room T1, true⟩ := hkf.blk hJn (by omega)
            have hAf : DevA (wn.putObj w5.heap.size (.deferred none)) p D' F4 := (hA4.kp hkn (fun i hi he => (hF4n i hi).2 he)).kp hkf (fun i hi he => (hF4n i hi).1 he)
            have hkff : Kp (fun k => F k ∨ k = q) w (wn.putObj w5.heap.size (.deferred none)) := (hkm.trans (hkn.mono' fun i hi => .inr hi)).trans_new hkf (fun i hi => .inl (by omega))
            exact ⟨_, rfl, .inr ⟨rfl, D', _, f, hJf, rfl, ⟨F4, hAf, hkff, hF4⟩, hf, hR, hsmr.mono (by omega), fun h0 => due' (hdu3 h0)⟩⟩
  case hmain =>
    refine run_block ?_; refine run_seq ?_; refine run_reg rfl ?_; refine rVal rfl rfl (ymv rfl) ?_; refine rVal rfl rfl ((by first | exact ync rfl | exact yncf rfl)) ?_; refine rVal rfl rfl (yfa fl82_0 rfl) ?_; refine rVal rfl rfl (yfa fl68_0 rfl) ?_; refine rVal rfl rfl (yld Try.underlying26 rfl rfl hJ2 rfl) ?_; refine rCall rfl rfl (yc (args := [.tmp 36]) cf16 rfl) (downA_ret hA2) ?_
    rintro _ w3 ⟨rfl, rfl⟩
    rw [hdn]
    refine rVal rfl rfl (yas rfl) ?_; refine rEnd ?_; refine Run.sub (e := [(0, _), (3, _), (4, _), (31, _)]) ?_ (by repeat (first | exact Sub.nil | refine Sub.cons rfl ?_))
    refine run_false rfl ?_; refine run_seq ?_; refine run_reg rfl ?_; refine rVal rfl rfl (yld Try.underlying38 rfl rfl hB32 rfl) ?_; refine rVal rfl rfl (yln Try.underlying38 rfl) ?_; refine rVal rfl rfl (yeq rfl rfl) ?_; refine rVal rfl rfl (yas rfl) ?_; refine rEnd ?_; refine run_if rfl (fun hz => ?_) (fun hz => ?_)
    · skip
      refine run_seq ?_; refine run_reg rfl ?_; refine rVal rfl rfl (yas rfl) ?_; refine rEnd ?_; refine run_ret Try.func10 rfl ?_
      have ht0 : t = [] := List.eq_nil_of_length_eq_zero (by omega)
      subst ht0
      rw [nowOf_nil]
      exact ⟨_, rfl, .inl ⟨rfl, D, _, hJ02, ⟨F, hA2, hx02.kp, fun i hi => .inl hi⟩, hL0.mono (by omega), hsm.mono (by omega), id, hr0, by simp⟩⟩
    · skip
      have hne : t ≠ [] := fun h => hz (by rw [h]; rfl)
      refine run_seq ?_; refine run_draw (fun w' => Ext w3 w') (by kernel_rfl) rfl ?_; refine hTake (i := 0) rfl (by kernel_rfl) rfl rfl (fun _ hS => ymv rfl) (Ext.drew0 w3) ?_; refine hTake (i := 1) rfl (by kernel_rfl) rfl rfl (fun _ hS => (by first | exact ync rfl | exact yncf rfl)) (Ext.drew0 w3) ?_; refine hTake (i := 2) rfl (by kernel_rfl) rfl rfl (fun _ hS => yfa fl82_0 rfl) (Ext.drew0 w3) ?_
      refine hTake (i := 3) rfl (by kernel_rfl) rfl rfl (fun _ hS => (by first | exact yldA Try.underlying68 rfl ti68 rfl (Blk.cells (n := 3) (hS.blk hJ2) (news := [_, _, _]) rfl) rfl | exact yldA Try.underlying68 rfl ti68 rfl (Blk.cells (n := 3) (hS.blk hB32) (news := [_, _, _]) rfl) rfl)) (Ext.drew0 w3) ?_; refine hTake (i := 5) rfl (by kernel_rfl) rfl rfl (fun _ hS => ymv rfl) (Ext.drew0 w3) ?_; refine hTake (i := 6) rfl (by kernel_rfl) rfl rfl (fun _ hS => (by first | exact ync rfl | exact yncf rfl)) (Ext.drew0 w3) ?_
      refine hTake (i := 7) rfl (by kernel_rfl) rfl rfl (fun _ hS => yfa fl82_3 rfl) (Ext.drew0 w3) ?_; refine hTake (i := 8) rfl (by kernel_rfl) rfl rfl (fun _ hS => (by first | exact yld Try.underlying3 rfl rfl (hS.blk hJ2) rfl | exact yld Try.underlying3 rfl rfl (hS.blk hB32) rfl)) (Ext.drew0 w3) ?_; refine hTake (i := 10) rfl (by kernel_rfl) rfl rfl (fun _ hS => (by first | exact yld Try.underlying38 rfl rfl (hS.blk hJ2) rfl | exact yld Try.underlying38 rfl rfl (hS.blk hB32) rfl)) (Ext.drew0 w3) ?_
      refine hTake (i := 11) rfl (by kernel_rfl) rfl rfl (fun _ hS => yln Try.underlying38 rfl) (Ext.drew0 w3) ?_; refine hTake (i := 12) rfl (by kernel_rfl) rfl rfl (fun _ hS => yad rfl rfl (by omega)) (Ext.drew0 w3) ?_; refine hOne (i := 4) (by kernel_rfl) ?_; refine nCall (i := 4) rfl rfl rfl (yc (args := [.tmp 48]) cf36 rfl) (ring_ret p g hg _) ?_
      rintro _ w4 ⟨rfl, hx4⟩
      refine ⟨(Ext.drew0 w3).trans hx4, ?_⟩
      have hx34 := (Ext.drew0 w3).trans hx4
      refine hTake (i := 9) rfl (by kernel_rfl) rfl rfl (fun _ hS => ysb rfl rfl (by omega)) ((Ext.drew0 w3).trans hx4) ?_; refine hTake (i := 13) rfl (by kernel_rfl) rfl rfl (fun _ hS => ylt rfl rfl) ((Ext.drew0 w3).trans hx4) ?_; refine hTake (i := 14) rfl (by kernel_rfl) rfl rfl (fun _ hS => yas rfl) ((Ext.drew0 w3).trans hx4) ?_; refine hEnd (by kernel_rfl) ?_; refine run_if rfl (fun hroom => ?_) (fun hroom => ?_)
      · skip
        refine run_seq ?_; refine run_reg rfl ?_; refine rVal rfl rfl (ymv rfl) ?_; refine rCall rfl rfl (yc (args := [.tmp 59]) cf19 rfl) (checkpoint_ret hg hgs (hJ02.ext hx34) (hA2.ext hx34) hq hL0 (by omega) hsm (by omega)) ?_
        rintro _ w5 hcp
        rcases hcp with ⟨rfl, D1, J1, hJ5, ⟨F1, hA5, hk5, hF5⟩, hL5, hs5, hdu5, hu5, hn5⟩ | ⟨rfl, D1, J1, f, hJ5, hdd5, ⟨F1, hA5, hk5, hF5⟩, hf5, hR5, hs5, hdu5⟩
        · skip
          refine rVal rfl rfl (yas rfl) ?_; refine rEnd ?_; refine Run.sub (e := [(0, _), (3, _), (4, _), (6, _)]) ?_ (by repeat (first | exact Sub.nil | refine Sub.cons rfl ?_))
          refine run_seq ?_; refine run_reg rfl ?_; refine rVal rfl rfl (ymv rfl) ?_; refine rVal rfl rfl (yne rfl rfl) ?_; refine rEnd ?_; refine run_false rfl ?_; refine run_skip ?_; refine run_inBlock ?_
          exact (hk _ _ ⟨rfl, hne, D1, J1, F1, hJ5, hA5, hx34.kp.trans hk5, fun i hi => (hF5 i hi).imp id (Nat.le_trans hx34.size), hL5, hs5, hdu5, hn5, by rw [hu5]; omega⟩).sub (by repeat (first | exact Sub.nil | refine Sub.cons rfl ?_))
        · skip
          refine rVal rfl rfl (yas rfl) ?_; refine rEnd ?_; refine Run.sub (e := [(0, _), (3, _), (4, _), (6, _)]) ?_ (by repeat (first | exact Sub.nil | refine Sub.cons rfl ?_))
          refine run_seq ?_; refine run_reg rfl ?_; refine rVal rfl rfl (ymv rfl) ?_; refine rVal rfl rfl (yne rfl rfl) ?_; refine rEnd ?_; refine run_true rfl ?_; refine run_seq ?_; refine run_reg rfl ?_; refine rVal rfl rfl (ymv rfl) ?_; refine rVal rfl rfl (yas rfl) ?_; refine rEnd ?_; refine run_ret Try.func10 rfl ?_
          exact ⟨_, rfl, .inr ⟨rfl, D1, J1, f, hJ5, hdd5, ⟨F1, hA5, (hx02.trans hx34).kp.trans hk5, fun i hi => (hF5 i hi).imp id (Nat.le_trans (hx02.trans hx34).size)⟩, hf5, .inl (hR5.mono (by omega)), hs5.mono (by omega), hdu5⟩⟩
      · skip
        refine run_skip ?_; refine run_inBlock ?_
        exact (hk _ _ ⟨rfl, hne, D, _, F, hJ02.ext hx34, hA2.ext hx34, hx34.kp, fun i hi => .inl hi, hL0.mono (by omega), hsm.mono (by omega), id, rfl, by show room T + t.length + 2 ≤ g.L; omega⟩).sub (by repeat (first | exact Sub.nil | refine Sub.cons rfl ?_))
end
end Go.Proofs.Ytkhkebcflaokpaa
