/- The helpers of the statements on devices walked: does. -/
import Derived.Test.YtdapkfppcaaohaaDvF
namespace Go.Proofs.Ytdapkfppcaaohaa
open Go Go.RowKit
set_option linter.all false
set_option maxRecDepth 100000

set_option maxHeartbeats 4000000 in
theorem does_ret {w : World} {p q : Nat} {D : Dev} {F G : Nat → Prop} (kv : Value) (o : POp) (ho : o.Ok) (hP : PairS w p q D D F G) {k : Nat} (hs : D.Small k) (hk6 : k ≤ 100000) (hr : Rd w kv 1 o.keep.length (o.keep.map I)) (hkv : 0 < o.keep.length → ∀ g, kv.ownBlock = some g → ¬ (F g ∨ G g)) :
    Ret Try.prog 44 [ptr p 0, ptr q 0, o.val kv] w fun v w' => v = .bool true ∧ ∃ F' G', PairS w' p q (D.op o).1 (D.op o).1 F' G' ∧ Pass F G F' G' w w' := by
  have hso := small_op ho hs
  obtain ⟨oc1, oc2, oc3⟩ := ho
  obtain ⟨kind, who, n, at', data, keep, torn, mask⟩ := o
  simp only at oc1 oc2 oc3 hr
  have hok : D.Ok := by obtain ⟨_, _, _, h, -⟩ := hP.d; exact h.ok
  have hN := hok.hN
  obtain ⟨ac, capc, rfl, hac⟩ := hr.shape
  rw [show POp.val ⟨kind, who, n, at', data, keep, torn, mask⟩ (.slice ac keep.length capc) = .agg #[I kind, I who, I n, I at', S data, .slice ac keep.length capc, I torn, u8v mask] from rfl]
  obtain ⟨po, hpo⟩ : ∃ po : POp, po = ⟨kind, who, n, at', data, keep, torn, mask⟩ := ⟨_, rfl⟩
  rw [← hpo] at hso ⊢
  refine ret_of_run (e := [(0, _), (1, _), (2, _)]) Try.func44 rfl Try.ntmps44 rfl rfl ?_
  refine run_seq ?_
  refine run_reg rfl ?_
  refine rValP rfl rfl (pbx rfl (cs := [I kind, I who, I n, I at', S data, .slice ac keep.length capc, I torn, u8v mask]) rfl) ?_
  rintro _ w1 ⟨b5, rfl, hb5, hx1, hB5⟩
  have hr1 := hr.ext hx1
  refine rVal rfl rfl (yas rfl) ?_
  refine rEnd ?_
  refine run_seq ?_
  refine run_reg rfl ?_
  refine rVal rfl rfl (yfa fl64_5 rfl) ?_
  refine rVal rfl rfl (yldA Try.underlying45 rfl ti45 rfl (Blk.cells (n := 3) hB5 (news := [_, _, _]) rfl) rfl) ?_
  refine rCall rfl rfl (yc (args := [.tmp 16]) cf26 rfl) (in_ret (.slice ac keep.length capc) keep torn mask oc1 hr1) ?_
  rintro _ w2 ⟨g, cap, rfl, hI2, hx2, hg2⟩
  have hB52 := hx2.blk hB5
  have hl5 := hB5.lt
  refine rValP rfl rfl (pal (cs := [_, _, _]) ti51 rfl) ?_
  rintro _ w3 ⟨b7, rfl, hb7, hx3, hB7⟩
  refine rEffP rfl (zstA (news := [.slice (some ⟨g, 0, none⟩) keep.length cap, I torn, u8v mask]) ti51 rfl rfl rfl rfl hB7 (by simp)) ?_
  rintro w4 ⟨hB74, hk4⟩
  replace hB74 : Blk w4 b7 [.slice (some ⟨g, 0, none⟩) keep.length cap, I torn, u8v mask] 51 := hB74
  have hl7 := hB7.lt
  have hs1 := hx1.size
  have hs2 := hx2.size
  have hs3 := hx3.size
  have hg2l : g < w2.heap.size := Sl.lt hI2 rfl
  have hx14 : Ext w1 w4 := (hx2.trans hx3).trans_new hk4 (fun i hi => by omega)
  have hx04 : Ext w w4 := hx1.trans hx14
  have hI4 : InC w4 g cap keep := Sl.kp (Sl.ext hI2 hx3) hk4 (fun i hi e => by have : g = i := Option.some.inj hi; omega)
  have hB54 := hx14.blk hB5
  have hr4 := hr.ext hx04
  have hP4 := hP.ext hx04
  have hlt := hP.lt
  have n5 : ¬ (F b5 ∨ G b5) := fun h => by have := hlt b5 h; omega
  have n7 : ¬ (F b7 ∨ G b7) := fun h => by have := hlt b7 h; omega
  have ng : ¬ (F g ∨ G g) := fun h => by have := hlt g h; omega
  have hkn : 0 < keep.length → ∀ i, (Value.slice ac keep.length capc).ownBlock = some i → ¬ G i := fun h0 i hi h => hkv h0 i hi (.inr h)
  have hsz4 := hk4.size
  refine rEnd ?_
  refine run_seq ?_
  refine run_reg rfl ?_
  refine rVal rfl rfl (yas rfl) ?_
  refine rEnd ?_
  refine run_seq ?_
  refine run_seq ?_
  refine run_reg rfl ?_
  refine rVal rfl rfl (yfa fl64_0 rfl) ?_
  refine rVal rfl rfl (yld Try.underlying3 rfl rfl hB54 rfl) ?_
  refine rEnd ?_
  refine run_block ?_
  refine run_seq ?_
  refine run_reg rfl ?_
  refine rVal rfl rfl (yeq rfl rfl) ?_
  refine rVal rfl rfl (yas rfl) ?_
  refine rEnd ?_
  refine run_cut (fun e' w' => e' = [(0, ptr p 0), (1, ptr q 0), (5, ptr b5 0), (7, ptr b7 0), (8, .bool true)] ∧ ∃ F' G', PairS w' p q (D.op po).1 (D.op po).1 F' G' ∧ Pass F G F' G' w4 w') ?hk (fun hk => ?hmain)
  case hk =>
    rintro _ w5 ⟨rfl, F5, G5, hP5, hp5⟩
    have hB55 := hp5.kp.blk hB54 n5
    have hB75 := hp5.kp.blk hB74 n7
    have hI5 : InC w5 g cap keep := Sl.kp hI4 hp5.kp (fun i hi h => by have e : g = i := Option.some.inj hi; exact ng (e ▸ h))
    have hr5 : Rd w5 (.slice ac keep.length capc) 1 keep.length (keep.map I) := hr4.kp0 hp5.kp (fun h0 i hi h => hkv h0 i hi h)
    have hsz5 := hp5.kp.size
    have hF5 : ∀ i, F5 i ∨ G5 i → F i ∨ G i ∨ w4.heap.size ≤ i := fun i hi => hi.elim (fun h => (hp5.f i h).elim .inl fun h => .inr (.inr h)) (fun h => (hp5.g i h).elim (fun h => .inr (.inl h)) fun h => .inr (.inr h))
    refine run_inBlock ?_
    refine run_seq ?_
    refine run_seq ?_
    refine run_reg rfl ?_
    refine rVal rfl rfl (ymv rfl) ?_
    refine rVal rfl rfl ((by first | exact yntd rfl | exact ynt rfl)) ?_
    refine rVal rfl rfl (ymv rfl) ?_
    refine rVal rfl rfl ((by first | exact yldA Try.underlying51 rfl ti51 rfl (Blk.cells (n := 3) hB75 (news := [_, _, _]) rfl) rfl | exact yldA Try.underlying51 rfl ti51 rfl (Blk.cells (n := 3) hB55 (news := [_, _, _]) rfl) rfl)) ?_
    refine rVal rfl rfl (yfa fl64_5 rfl) ?_
    refine rVal rfl rfl ((by first | exact yldA Try.underlying45 rfl ti45 rfl (Blk.cells (n := 3) hB75 (news := [_, _, _]) rfl) rfl | exact yldA Try.underlying45 rfl ti45 rfl (Blk.cells (n := 3) hB55 (news := [_, _, _]) rfl) rfl)) ?_
    refine rCall rfl rfl (yc (args := [.tmp 137, .tmp 139]) cf78 rfl) (kept_ret' (.slice ac keep.length capc) torn torn mask mask oc1 hI5 hr5) ?_
    rintro _ w6 ⟨rfl, hx6⟩
    refine rVal rfl rfl ((by first | exact yntd rfl | exact ynt rfl)) ?_
    refine rVal rfl rfl (ypF rfl rfl) ?_
    refine rEnd ?_
    refine run_false rfl ?_
    have hP6 := hP5.ext hx6
    have hB76 := hx6.blk hB75
    have hI6 : InC w6 g cap keep := Sl.ext hI5 hx6
    have hcapc := hI6.cap
    refine run_skip ?_
    refine run_seq ?_
    refine run_seq ?_
    refine run_reg rfl ?_
    refine rVal rfl rfl (yas rfl) ?_
    refine rEnd ?_
    refine run_block ?_
    refine run_cut2 (fun e' w' => e' = [(0, ptr p 0), (1, ptr q 0)] ∧ PairS w' p q (D.op po).1 (D.op po).1 F5 G5 ∧ Pass F G F5 G5 w w') ?hkz (fun hkz => ?hmainz)
    case hkz =>
      rintro _ w7 ⟨rfl, hP7, hp7⟩
      obtain ⟨sa, sn, sc, ca, cc, kp, tn', mk', hBq⟩ := hP7.r.cells
      refine run_seq ?_
      refine run_draw (fun w' => Ext w7 w') (by kernel_rfl) rfl ?_
      refine hTake (i := 0) rfl (by kernel_rfl) rfl rfl (fun _ hS => ymv rfl) (Ext.drew0 w7) ?_
      refine hTake (i := 2) rfl (by kernel_rfl) rfl rfl (fun _ hS => ymv rfl) (Ext.drew0 w7) ?_
      refine hTake (i := 3) rfl (by kernel_rfl) rfl rfl (fun _ hS => (by first | exact ync rfl | exact yncf rfl)) (Ext.drew0 w7) ?_
      refine hTake (i := 4) rfl (by kernel_rfl) rfl rfl (fun _ hS => yfa fl86_5 rfl) (Ext.drew0 w7) ?_
      refine hTake (i := 5) rfl (by kernel_rfl) rfl rfl (fun _ hS => yld Try.underlying4 rfl rfl (Ext.blk hS hBq) rfl) (Ext.drew0 w7) ?_
      refine hOne (i := 1) (by kernel_rfl) ?_
      refine nCall (i := 1) rfl rfl rfl (yc (args := [.tmp 154]) cf34 rfl) (downA_ret (hP7.d.ext (Ext.drew0 w7))) ?_
      rintro _ w8 ⟨rfl, rfl⟩
      refine ⟨Ext.drew0 w7, ?_⟩
      refine hTake (i := 6) rfl (by kernel_rfl) rfl rfl (fun _ hS => yeqb rfl rfl Try.underlying4) (Ext.drew0 w7) ?_
      rw [show ((D.op po).1.down == (D.op po).1.down) = true by simp]
      refine hTake (i := 7) rfl (by kernel_rfl) rfl rfl (fun _ hS => ymv rfl) (Ext.drew0 w7) ?_
      refine hTake (i := 8) rfl (by kernel_rfl) rfl rfl (fun _ hS => ymv rfl) (Ext.drew0 w7) ?_
      refine hTake (i := 10) rfl (by kernel_rfl) rfl rfl (fun _ hS => ymv rfl) (Ext.drew0 w7) ?_
      refine hTake (i := 11) rfl (by kernel_rfl) rfl rfl (fun _ hS => (by first | exact ync rfl | exact yncf rfl)) (Ext.drew0 w7) ?_
      refine hTake (i := 12) rfl (by kernel_rfl) rfl rfl (fun _ hS => yfa fl86_6 rfl) (Ext.drew0 w7) ?_
      refine hTake (i := 13) rfl (by kernel_rfl) rfl rfl (fun _ hS => yld Try.underlying3 rfl rfl (Ext.blk hS hBq) rfl) (Ext.drew0 w7) ?_
      refine hOne (i := 9) (by kernel_rfl) ?_
      refine nCall (i := 9) rfl rfl rfl (yc (args := [.tmp 162]) cf35 rfl) (callsA_ret (hP7.d.ext (Ext.drew0 w7))) ?_
      rintro _ w9 ⟨rfl, rfl⟩
      refine ⟨Ext.drew0 w7, ?_⟩
      refine hTake (i := 14) rfl (by kernel_rfl) rfl rfl (fun _ hS => yeq rfl rfl) (Ext.drew0 w7) ?_
      refine hTrue (by (first | rfl | assumption | omega | decide)) ?_
      refine hTake (i := 15) rfl (by kernel_rfl) rfl rfl (fun _ hS => ypT rfl rfl) (Ext.drew0 w7) ?_
      refine hTake (i := 16) rfl (by kernel_rfl) rfl rfl (fun _ hS => ymv rfl) (Ext.drew0 w7) ?_
      refine hTake (i := 17) rfl (by kernel_rfl) rfl rfl (fun _ hS => ymv rfl) (Ext.drew0 w7) ?_
      refine hTake (i := 19) rfl (by kernel_rfl) rfl rfl (fun _ hS => ymv rfl) (Ext.drew0 w7) ?_
      refine hTake (i := 20) rfl (by kernel_rfl) rfl rfl (fun _ hS => (by first | exact ync rfl | exact yncf rfl)) (Ext.drew0 w7) ?_
      refine hTake (i := 21) rfl (by kernel_rfl) rfl rfl (fun _ hS => yfa fl86_7 rfl) (Ext.drew0 w7) ?_
      refine hTake (i := 22) rfl (by kernel_rfl) rfl rfl (fun _ hS => yld Try.underlying3 rfl rfl (Ext.blk hS hBq) rfl) (Ext.drew0 w7) ?_
      refine hOne (i := 18) (by kernel_rfl) ?_
      refine nCall (i := 18) rfl rfl rfl (yc (args := [.tmp 171]) cf51 rfl) (readsA_ret (hP7.d.ext (Ext.drew0 w7))) ?_
      rintro _ w9 ⟨rfl, rfl⟩
      refine ⟨Ext.drew0 w7, ?_⟩
      refine hTake (i := 23) rfl (by kernel_rfl) rfl rfl (fun _ hS => yeq rfl rfl) (Ext.drew0 w7) ?_
      refine hTrue (by (first | rfl | assumption | omega | decide)) ?_
      refine hTake (i := 24) rfl (by kernel_rfl) rfl rfl (fun _ hS => ypT rfl rfl) (Ext.drew0 w7) ?_
      refine hTake (i := 25) rfl (by kernel_rfl) rfl rfl (fun _ hS => ymv rfl) (Ext.drew0 w7) ?_
      refine hTake (i := 26) rfl (by kernel_rfl) rfl rfl (fun _ hS => ymv rfl) (Ext.drew0 w7) ?_
      refine hTake (i := 28) rfl (by kernel_rfl) rfl rfl (fun _ hS => ymv rfl) (Ext.drew0 w7) ?_
      refine hTake (i := 29) rfl (by kernel_rfl) rfl rfl (fun _ hS => (by first | exact ync rfl | exact yncf rfl)) (Ext.drew0 w7) ?_
      refine hTake (i := 30) rfl (by kernel_rfl) rfl rfl (fun _ hS => yfa fl86_2 rfl) (Ext.drew0 w7) ?_
      refine hTake (i := 31) rfl (by kernel_rfl) rfl rfl (fun _ hS => yld Try.underlying84 rfl rfl (Ext.blk hS hBq) rfl) (Ext.drew0 w7) ?_
      refine hTake (i := 32) rfl (by kernel_rfl) rfl rfl (fun _ hS => yln Try.underlying84 rfl) (Ext.drew0 w7) ?_
      refine hOne (i := 27) (by kernel_rfl) ?_
      refine nCall (i := 27) rfl rfl rfl (yc (args := [.tmp 180]) cf30 rfl) (unflushedA_ret (hP7.d.ext (Ext.drew0 w7))) ?_
      rintro _ w9 ⟨rfl, rfl⟩
      refine ⟨Ext.drew0 w7, ?_⟩
      refine hTake (i := 33) rfl (by kernel_rfl) rfl rfl (fun _ hS => yeq rfl rfl) (Ext.drew0 w7) ?_
      refine hTrue (by (first | rfl | assumption | omega | decide)) ?_
      refine hTake (i := 34) rfl (by kernel_rfl) rfl rfl (fun _ hS => ypT rfl rfl) (Ext.drew0 w7) ?_
      refine hTake (i := 35) rfl (by kernel_rfl) rfl rfl (fun _ hS => yas rfl) (Ext.drew0 w7) ?_
      refine hEnd (by kernel_rfl) ?_
      refine Run.sub (e := [(6, _)]) ?_ (by repeat (first | exact Sub.nil | refine Sub.cons rfl ?_))
      refine run_ret Try.func44 rfl ?_
      exact ⟨_, rfl, rfl, F5, G5, hP7.ext (Ext.drew0 w7), hp7.trans (Ext.drew0 w7).pass⟩
    case hmainz =>
      have hl56 : ∀ i, F5 i ∨ G5 i → ¬ i = g := fun i hi e => by
        rcases hF5 i hi with h | h | h
        · exact ng (e ▸ .inl h)
        · exact ng (e ▸ .inr h)
        · omega
      have hp06 : Pass F G F5 G5 w w6 := hx04.pass.trans (hp5.trans hx6.pass)
      refine run_loop (α := Nat × List Value) ((0, keep.map I ++ [I 987])) (fun i => [(0, ptr p 0), (1, ptr q 0), (7, ptr b7 0), (14, I (i.1 : Int))]) (fun i wi => i.1 ≤ keep.length ∧ Kp (fun k => k = g) w6 wi ∧ Sl wi (.slice (some ⟨g, 0, none⟩) (keep.length + 1) cap) 3 1 (keep.length + 1) i.2) (fun i => keep.length - i.1) (by repeat (first | exact Sub.nil | refine Sub.cons rfl ?_)) ?hI ?hround
      case hI => exact ⟨by simp, Kp.refl _ _, hI6⟩
      case hround =>
        rintro ⟨i, cs⟩ wi ⟨hi, hki, hSi⟩ ih
        simp only at hi hSi
        have hB7i := hki.blk hB76 (by omega)
        have hcsl := hSi.len
        dsimp only
        refine run_seq ?_
        refine run_seq ?_
        refine run_reg rfl ?_
        refine rVal rfl rfl (ymv rfl) ?_
        refine rVal rfl rfl (yfa fl51_0 rfl) ?_
        refine rVal rfl rfl (yld Try.underlying43 rfl rfl hB7i rfl) ?_
        refine rVal rfl rfl (yln Try.underlying43 rfl) ?_
        refine rVal rfl rfl (ylt rfl rfl) ?_
        refine rEnd ?_
        refine run_if rfl (fun hlt2 => ?_) (fun hlt2 => ?_)
        · skip
          refine run_skip ?_
          refine run_seq ?_
          refine run_block ?_
          refine run_reg rfl ?_
          refine rVal rfl rfl (yfa fl51_0 rfl) ?_
          refine rVal rfl rfl (yld Try.underlying43 rfl rfl hB7i rfl) ?_
          refine rVal rfl rfl (ymv rfl) ?_
          refine rVal rfl rfl (yis Try.underlying43 ti3 rfl rfl (by omega)) ?_
          refine rEffP rfl (zstSl ti3 rfl rfl rfl hSi (by omega)) ?_
          rintro w9 ⟨hS9, hk9⟩
          refine rEnd ?_
          refine run_inBlock ?_
          refine run_reg rfl ?_
          refine rVal rfl rfl (ymv rfl) ?_
          refine rVal rfl rfl (yad rfl rfl (by omega)) ?_
          refine rVal rfl rfl (yas rfl) ?_
          refine rEnd ?_
          exact (ih (i + 1, cs.set (0 + i * 1) (I (-1))) w9 ⟨by show i + 1 ≤ _; omega, hki.trans hk9, hS9⟩ (by show keep.length - (i + 1) < keep.length - i; omega)).sub (by repeat (first | exact Sub.nil | refine Sub.cons rfl ?_))
        · skip
          refine run_exit rfl ?_
          refine (hkz _ _ ⟨rfl, hP6.kp hki hl56, ?_⟩).sub (by repeat (first | exact Sub.nil | refine Sub.cons rfl ?_))
          refine ⟨hp06.kp.trans_new hki (fun j hj => .inl (by omega)), fun j hj => hp06.f j hj, fun j hj => hp06.g j hj⟩
  case hmain =>
    have hP4d := hP4.ext (Ext.drew0 w4)
    have hS0 : Blk w4.drew b5 [I kind, I who, I n, I at', S data, .slice ac keep.length capc, I torn, u8v mask] 64 ∧ Blk w4.drew b7 [.slice (some ⟨g, 0, none⟩) keep.length cap, I torn, u8v mask] 51 := ⟨(Ext.drew0 w4).blk hB54, (Ext.drew0 w4).blk hB74⟩
    have hT : ∀ {w5 : World} {D' : Dev}, DevT w4.drew p F D' w5 → Blk w5 b5 [I kind, I who, I n, I at', S data, .slice ac keep.length capc, I torn, u8v mask] 64 ∧ Blk w5 b7 [.slice (some ⟨g, 0, none⟩) keep.length cap, I torn, u8v mask] 51 := fun h => ⟨h.kpF'.blk hS0.1 fun h => n5 (.inl h), h.kpF'.blk hS0.2 fun h => n7 (.inl h)⟩
    have hT2 : ∀ {w5 w6 : World} {D' : Dev}, (Blk w5 b5 [I kind, I who, I n, I at', S data, .slice ac keep.length capc, I torn, u8v mask] 64 ∧ Blk w5 b7 [.slice (some ⟨g, 0, none⟩) keep.length cap, I torn, u8v mask] 51) → RefT w5 q G D' w6 → Blk w6 b5 [I kind, I who, I n, I at', S data, .slice ac keep.length capc, I torn, u8v mask] 64 ∧ Blk w6 b7 [.slice (some ⟨g, 0, none⟩) keep.length cap, I torn, u8v mask] 51 := fun h k => ⟨k.kpG.blk h.1 fun h => n5 (.inr h), k.kpG.blk h.2 fun h => n7 (.inr h)⟩
    have hdp : Pass F G F G w4 w4.drew := (Ext.drew0 w4).pass
    refine run_if rfl (fun k0 => ?_) (fun k0 => ?_)
    · skip
      refine run_seq ?_
      refine run_draw (fun w' => Blk w' b5 [I kind, I who, I n, I at', S data, .slice ac keep.length capc, I torn, u8v mask] 64 ∧ Blk w' b7 [.slice (some ⟨g, 0, none⟩) keep.length cap, I torn, u8v mask] 51) (by kernel_rfl) rfl ?_
      refine hTake (i := 0) rfl (by kernel_rfl) rfl rfl (fun _ hS => yfa fl64_4 rfl) (hS0) ?_
      refine hTake (i := 1) rfl (by kernel_rfl) rfl rfl (fun _ hS => (by first | exact yld Try.underlying9 rfl rfl hS.1 rfl | exact yld Try.underlying9 rfl rfl hS.2 rfl)) (hS0) ?_
      refine hTake (i := 2) rfl (by kernel_rfl) rfl rfl (fun _ hS => ymv rfl) (hS0) ?_
      refine hOne (i := 3) (by kernel_rfl) ?_
      refine nCall (i := 3) rfl rfl rfl (yc (args := [.tmp 24]) cf47 rfl) (rsizeA_ret hP4d.r) ?_
      rintro _ w5 ⟨rfl, rfl⟩
      refine ⟨hS0, ?_⟩
      refine hOne (i := 4) (by kernel_rfl) ?_
      refine nCall (i := 4) rfl rfl rfl (yc (args := [.tmp 23, .tmp 25]) cf38 rfl) (fill_ret data (512 * D.N) _ (by omega) (by omega)) ?_
      rintro _ w5 ⟨rfl, rfl⟩
      refine ⟨hS0, ?_⟩
      refine hTake (i := 5) rfl (by kernel_rfl) rfl rfl (fun _ hS => yas rfl) (hS0) ?_
      refine hEnd (by kernel_rfl) ?_
      replace hP4d := hP4d.ext (Ext.drew0 w4.drew)
      have hdp' : Pass F G F G w4 w4.drew.drew := hdp.trans (Ext.drew0 w4.drew).pass
      have hS0' := And.intro ((Ext.drew0 w4.drew).blk hS0.1) ((Ext.drew0 w4.drew).blk hS0.2)
      refine run_draw (fun w' => Blk w' b5 [I kind, I who, I n, I at', S data, .slice ac keep.length capc, I torn, u8v mask] 64 ∧ Blk w' b7 [.slice (some ⟨g, 0, none⟩) keep.length cap, I torn, u8v mask] 51) (by kernel_rfl) rfl ?_
      refine hTake (i := 0) rfl (by kernel_rfl) rfl rfl (fun _ hS => ymv rfl) (hS0') ?_
      refine hTake (i := 1) rfl (by kernel_rfl) rfl rfl (fun _ hS => yfa fl64_2 rfl) (hS0') ?_
      refine hTake (i := 2) rfl (by kernel_rfl) rfl rfl (fun _ hS => (by first | exact yld Try.underlying3 rfl rfl hS.1 rfl | exact yld Try.underlying3 rfl rfl hS.2 rfl)) (hS0') ?_
      refine hTake (i := 3) rfl (by kernel_rfl) rfl rfl (fun _ hS => ymv rfl) (hS0') ?_
      refine hTake (i := 5) rfl (by kernel_rfl) rfl rfl (fun _ hS => ymv rfl) (hS0') ?_
      refine hTake (i := 6) rfl (by kernel_rfl) rfl rfl (fun _ hS => yfa fl64_2 rfl) (hS0') ?_
      refine hTake (i := 7) rfl (by kernel_rfl) rfl rfl (fun _ hS => (by first | exact yld Try.underlying3 rfl rfl hS.1 rfl | exact yld Try.underlying3 rfl rfl hS.2 rfl)) (hS0') ?_
      refine hTake (i := 8) rfl (by kernel_rfl) rfl rfl (fun _ hS => ymv rfl) (hS0') ?_
      refine hOne (i := 4) (by kernel_rfl) ?_
      refine nCall (i := 4) rfl rfl rfl (yc (args := [.tmp 27, .tmp 29, .tmp 30]) cf37 rfl) (writeA_ret n (fill data (512 * D.N)) hP4d.d hs (by omega)) ?_
      rintro _ w5 ⟨rfl, h5⟩
      refine ⟨⟨h5.kpF'.blk hS0'.1 fun h => n5 (.inl h), h5.kpF'.blk hS0'.2 fun h => n7 (.inl h)⟩, ?_⟩
      have hT5 := And.intro (h5.kpF'.blk hS0'.1 fun h => n5 (.inl h)) (h5.kpF'.blk hS0'.2 fun h => n7 (.inl h))
      obtain ⟨F5, hP5, hp5⟩ := hP4d.stepD h5
      refine hOne (i := 9) (by kernel_rfl) ?_
      refine nCall (i := 9) rfl rfl rfl (yc (args := [.tmp 32, .tmp 34, .tmp 35]) cf71 rfl) (rwriteA_ret n (fill data (512 * D.N)) hP5.r hs (by omega)) ?_
      rintro _ w6 ⟨rfl, h6⟩
      refine ⟨hT2 hT5 h6, ?_⟩
      refine hTake (i := 10) rfl (by kernel_rfl) rfl rfl (fun _ hS => yeq rfl rfl) (hT2 hT5 h6) ?_
      refine hTrue (by (first | rfl | assumption | omega | decide)) ?_
      refine hTake (i := 11) rfl (by kernel_rfl) rfl rfl (fun _ hS => yas rfl) (hT2 hT5 h6) ?_
      refine hEnd (by kernel_rfl) ?_
      refine Run.sub (e := [(0, _), (1, _), (5, _), (6, _), (7, _), (8, _)]) ?_ (by repeat (first | exact Sub.nil | refine Sub.cons rfl ?_))
      obtain ⟨G6, hP6, hp6⟩ := hP5.stepR h6
      have eo : (D.op po).1 = (D.write n (fill data (512 * D.N))).1 := by rw [hpo, op0 k0]
      exact (hk _ _ ⟨rfl, F5, G6, by rw [eo]; exact hP6, hdp'.trans (hp5.trans hp6)⟩).sub (by repeat (first | exact Sub.nil | refine Sub.cons rfl ?_))
    · skip
      refine run_seq ?_
      refine run_reg rfl ?_
      refine rVal rfl rfl (yeq rfl rfl) ?_
      refine rVal rfl rfl (yas rfl) ?_
      refine rEnd ?_
      refine run_if rfl (fun k1 => ?_) (fun k1 => ?_)
      · skip
        refine run_draw (fun w' => Blk w' b5 [I kind, I who, I n, I at', S data, .slice ac keep.length capc, I torn, u8v mask] 64 ∧ Blk w' b7 [.slice (some ⟨g, 0, none⟩) keep.length cap, I torn, u8v mask] 51) (by kernel_rfl) rfl ?_
        refine hTake (i := 0) rfl (by kernel_rfl) rfl rfl (fun _ hS => ymv rfl) (hS0) ?_
        refine hTake (i := 1) rfl (by kernel_rfl) rfl rfl (fun _ hS => yfa fl64_2 rfl) (hS0) ?_
        refine hTake (i := 2) rfl (by kernel_rfl) rfl rfl (fun _ hS => (by first | exact yld Try.underlying3 rfl rfl hS.1 rfl | exact yld Try.underlying3 rfl rfl hS.2 rfl)) (hS0) ?_
        refine hTake (i := 3) rfl (by kernel_rfl) rfl rfl (fun _ hS => yfa fl64_4 rfl) (hS0) ?_
        refine hTake (i := 4) rfl (by kernel_rfl) rfl rfl (fun _ hS => (by first | exact yld Try.underlying9 rfl rfl hS.1 rfl | exact yld Try.underlying9 rfl rfl hS.2 rfl)) (hS0) ?_
        refine hTake (i := 6) rfl (by kernel_rfl) rfl rfl (fun _ hS => ymv rfl) (hS0) ?_
        refine hTake (i := 7) rfl (by kernel_rfl) rfl rfl (fun _ hS => yfa fl64_2 rfl) (hS0) ?_
        refine hTake (i := 8) rfl (by kernel_rfl) rfl rfl (fun _ hS => (by first | exact yld Try.underlying3 rfl rfl hS.1 rfl | exact yld Try.underlying3 rfl rfl hS.2 rfl)) (hS0) ?_
        refine hTake (i := 9) rfl (by kernel_rfl) rfl rfl (fun _ hS => yfa fl64_4 rfl) (hS0) ?_
        refine hTake (i := 10) rfl (by kernel_rfl) rfl rfl (fun _ hS => (by first | exact yld Try.underlying9 rfl rfl hS.1 rfl | exact yld Try.underlying9 rfl rfl hS.2 rfl)) (hS0) ?_
        refine hOne (i := 5) (by kernel_rfl) ?_
        refine nCall (i := 5) rfl rfl rfl (yc (args := [.tmp 40, .tmp 42, .tmp 44]) cf37 rfl) (writeA_ret n data hP4d.d hs (by omega)) ?_
        rintro _ w5 ⟨rfl, h5⟩
        refine ⟨hT h5, ?_⟩
        have hT5 := hT h5
        obtain ⟨F5, hP5, hp5⟩ := hP4d.stepD h5
        have hr5 : Rd w5 (.slice ac keep.length capc) 1 keep.length (keep.map I) := (hr4.ext (Ext.drew0 w4)).kp0 h5.kpF' (fun h0 i hi h => hkv h0 i hi (.inl h))
        refine hOne (i := 11) (by kernel_rfl) ?_
        refine nCall (i := 11) rfl rfl rfl (yc (args := [.tmp 46, .tmp 48, .tmp 50]) cf71 rfl) (rwriteA_ret n data hP5.r hs (by omega)) ?_
        rintro _ w6 ⟨rfl, h6⟩
        refine ⟨hT2 hT5 h6, ?_⟩
        refine hTake (i := 12) rfl (by kernel_rfl) rfl rfl (fun _ hS => yeq rfl rfl) (hT2 hT5 h6) ?_
        refine hTrue (by (first | rfl | assumption | omega | decide)) ?_
        refine hTake (i := 13) rfl (by kernel_rfl) rfl rfl (fun _ hS => yas rfl) (hT2 hT5 h6) ?_
        refine hEnd (by kernel_rfl) ?_
        refine Run.sub (e := [(0, _), (1, _), (5, _), (6, _), (7, _), (8, _)]) ?_ (by repeat (first | exact Sub.nil | refine Sub.cons rfl ?_))
        obtain ⟨G6, hP6, hp6⟩ := hP5.stepR h6
        have eo : (D.op po).1 = (D.write n data).1 := by rw [hpo, op1 k0 k1]
        exact (hk _ _ ⟨rfl, F5, G6, by rw [eo]; exact hP6, hdp.trans (hp5.trans hp6)⟩).sub (by repeat (first | exact Sub.nil | refine Sub.cons rfl ?_))
      · skip
        refine run_seq ?_
        refine run_reg rfl ?_
        refine rVal rfl rfl (yeq rfl rfl) ?_
        refine rVal rfl rfl (yas rfl) ?_
        refine rEnd ?_
        refine run_if rfl (fun k2 => ?_) (fun k2 => ?_)
        · skip
          refine run_reg rfl ?_
          refine rVal rfl rfl (ymv rfl) ?_
          refine rCall rfl rfl (yc (args := [.tmp 55]) cf39 rfl) (flushA_ret hP4.d hs (by omega)) ?_
          rintro _ w5 ⟨rfl, h5⟩
          obtain ⟨F5, hP5, hp5⟩ := hP4.stepD h5
          have hB55 := hp5.kp.blk hB54 n5
          refine rVal rfl rfl (ymv rfl) ?_
          refine rCall rfl rfl (yc (args := [.tmp 57]) cf72 rfl) (rflushA_ret hP5.r hs (by omega)) ?_
          rintro _ w6 ⟨rfl, h6⟩
          refine rVal rfl rfl (yeq rfl rfl) ?_
          refine rTrue (by (first | rfl | assumption | omega | decide)) ?_
          refine rVal rfl rfl (yas rfl) ?_
          refine rEnd ?_
          obtain ⟨G6, hP6, hp6⟩ := hP5.stepR h6
          have eo : (D.op po).1 = D.flush.1 := by rw [hpo, op2 k0 k1 k2]
          exact (hk _ _ ⟨rfl, F5, G6, by rw [eo]; exact hP6, (Pass.refl F G w4).trans (hp5.trans hp6)⟩).sub (by repeat (first | exact Sub.nil | refine Sub.cons rfl ?_))
        · skip
          refine run_seq ?_
          refine run_reg rfl ?_
          refine rVal rfl rfl (yeq rfl rfl) ?_
          refine rVal rfl rfl (yas rfl) ?_
          refine rEnd ?_
          refine run_if rfl (fun k3 => ?_) (fun k3 => ?_)
          · skip
            refine run_seq ?_
            refine run_reg rfl ?_
            refine rVal rfl rfl (ymv rfl) ?_
            refine rVal rfl rfl (yfa fl64_2 rfl) ?_
            refine rVal rfl rfl (yld Try.underlying3 rfl rfl hB54 rfl) ?_
            refine rCall rfl rfl (yc (args := [.tmp 63, .tmp 65]) cf49 rfl) (readA_ret n hP4.d hs (by omega)) ?_
            rintro _ w5 ⟨rfl, h5⟩
            obtain ⟨F5, hP5, hp5⟩ := hP4.stepD h5
            have hB55 := hp5.kp.blk hB54 n5
            refine rVal rfl rfl (ymv rfl) ?_
            refine rVal rfl rfl (yex rfl rfl) ?_
            refine rVal rfl rfl (yex rfl rfl) ?_
            refine rVal rfl rfl (yas rfl) ?_
            refine rVal rfl rfl (yas rfl) ?_
            refine rEnd ?_
            refine Run.sub (e := [(0, _), (1, _), (5, _), (6, _), (7, _), (8, _), (10, _), (11, _)]) ?_ (by repeat (first | exact Sub.nil | refine Sub.cons rfl ?_))
            refine run_seq ?_
            refine run_reg rfl ?_
            refine rVal rfl rfl (ymv rfl) ?_
            refine rVal rfl rfl (yfa fl64_2 rfl) ?_
            refine rVal rfl rfl (yld Try.underlying3 rfl rfl hB55 rfl) ?_
            refine rCall rfl rfl (yc (args := [.tmp 70, .tmp 72]) cf73 rfl) (rreadA_ret n hP5.r hs (by omega)) ?_
            rintro _ w6 ⟨rfl, h6⟩
            refine rVal rfl rfl (ymv rfl) ?_
            refine rVal rfl rfl (yex rfl rfl) ?_
            refine rVal rfl rfl (yex rfl rfl) ?_
            refine rVal rfl rfl (yas rfl) ?_
            refine rVal rfl rfl (yas rfl) ?_
            refine rEnd ?_
            refine run_reg rfl ?_
            refine rVal rfl rfl (ymv rfl) ?_
            refine rVal rfl rfl (ymv rfl) ?_
            refine rVal rfl rfl (yeqS rfl rfl) ?_
            refine rTrue (by (first | rfl | assumption | omega | decide)) ?_
            refine rVal rfl rfl (ymv rfl) ?_
            refine rVal rfl rfl (ymv rfl) ?_
            refine rVal rfl rfl (ymv rfl) ?_
            refine rVal rfl rfl (yeq rfl rfl) ?_
            refine rTrue (by (first | rfl | assumption | omega | decide)) ?_
            refine rVal rfl rfl (ypT rfl rfl) ?_
            refine rVal rfl rfl (yas rfl) ?_
            refine rEnd ?_
            refine Run.sub (e := [(0, _), (1, _), (5, _), (6, _), (7, _), (8, _)]) ?_ (by repeat (first | exact Sub.nil | refine Sub.cons rfl ?_))
            obtain ⟨G6, hP6, hp6⟩ := hP5.stepR h6
            have eo : (D.op po).1 = (D.read n).1 := by rw [hpo, op3 k0 k1 k2 k3]
            exact (hk _ _ ⟨rfl, F5, G6, by rw [eo]; exact hP6, (Pass.refl F G w4).trans (hp5.trans hp6)⟩).sub (by repeat (first | exact Sub.nil | refine Sub.cons rfl ?_))
          · skip
            refine run_seq ?_
            refine run_reg rfl ?_
            refine rVal rfl rfl (yeq rfl rfl) ?_
            refine rVal rfl rfl (yas rfl) ?_
            refine rEnd ?_
            refine run_if rfl (fun k4 => ?_) (fun k4 => ?_)
            · skip
              refine run_draw (fun w' => Blk w' b5 [I kind, I who, I n, I at', S data, .slice ac keep.length capc, I torn, u8v mask] 64 ∧ Blk w' b7 [.slice (some ⟨g, 0, none⟩) keep.length cap, I torn, u8v mask] 51) (by kernel_rfl) rfl ?_
              refine hTake (i := 0) rfl (by kernel_rfl) rfl rfl (fun _ hS => ymv rfl) (hS0) ?_
              refine hTake (i := 1) rfl (by kernel_rfl) rfl rfl (fun _ hS => yfa fl64_3 rfl) (hS0) ?_
              refine hTake (i := 2) rfl (by kernel_rfl) rfl rfl (fun _ hS => (by first | exact yld Try.underlying3 rfl rfl hS.1 rfl | exact yld Try.underlying3 rfl rfl hS.2 rfl)) (hS0) ?_
              refine hTake (i := 3) rfl (by kernel_rfl) rfl rfl (fun _ hS => (by first | exact yldA Try.underlying51 rfl ti51 rfl (Blk.cells (n := 3) hS.1 (news := [_, _, _]) rfl) rfl | exact yldA Try.underlying51 rfl ti51 rfl (Blk.cells (n := 3) hS.2 (news := [_, _, _]) rfl) rfl)) (hS0) ?_
              refine hTake (i := 5) rfl (by kernel_rfl) rfl rfl (fun _ hS => ymv rfl) (hS0) ?_
              refine hTake (i := 6) rfl (by kernel_rfl) rfl rfl (fun _ hS => yfa fl64_3 rfl) (hS0) ?_
              refine hTake (i := 7) rfl (by kernel_rfl) rfl rfl (fun _ hS => (by first | exact yld Try.underlying3 rfl rfl hS.1 rfl | exact yld Try.underlying3 rfl rfl hS.2 rfl)) (hS0) ?_
              refine hTake (i := 8) rfl (by kernel_rfl) rfl rfl (fun _ hS => yfa fl64_5 rfl) (hS0) ?_
              refine hTake (i := 9) rfl (by kernel_rfl) rfl rfl (fun _ hS => (by first | exact yldA Try.underlying45 rfl ti45 rfl (Blk.cells (n := 3) hS.1 (news := [_, _, _]) rfl) rfl | exact yldA Try.underlying45 rfl ti45 rfl (Blk.cells (n := 3) hS.2 (news := [_, _, _]) rfl) rfl)) (hS0) ?_
              refine hOne (i := 4) (by kernel_rfl) ?_
              refine nCall (i := 4) rfl rfl rfl (yc (args := [.tmp 86, .tmp 88, .tmp 89]) cf50 rfl) (planA_ret at' (.slice (some ⟨g, 0, none⟩) keep.length cap) keep torn mask hP4d.d (by omega) (InC.rd (Sl.ext hI4 (Ext.drew0 w4))) (.inr ⟨_, _, rfl⟩) oc3) ?_
              rintro _ w5 ⟨rfl, h5⟩
              refine ⟨hT h5, ?_⟩
              have hT5 := hT h5
              obtain ⟨F5, hP5, hp5⟩ := hP4d.stepD h5
              have hr5 : Rd w5 (.slice ac keep.length capc) 1 keep.length (keep.map I) := (hr4.ext (Ext.drew0 w4)).kp0 h5.kpF' (fun h0 i hi h => hkv h0 i hi (.inl h))
              refine hOne (i := 10) (by kernel_rfl) ?_
              refine nCall (i := 10) rfl rfl rfl (yc (args := [.tmp 91, .tmp 93, .tmp 95]) cf74 rfl) (rplanA_ret at' (.slice ac keep.length capc) keep torn mask hP5.r (by omega) hr5 hkn oc3) ?_
              rintro _ w6 ⟨rfl, h6⟩
              refine ⟨hT2 hT5 h6, ?_⟩
              refine hTake (i := 11) rfl (by kernel_rfl) rfl rfl (fun _ hS => yeq rfl rfl) (hT2 hT5 h6) ?_
              refine hTrue (by (first | rfl | assumption | omega | decide)) ?_
              refine hTake (i := 12) rfl (by kernel_rfl) rfl rfl (fun _ hS => yas rfl) (hT2 hT5 h6) ?_
              refine hEnd (by kernel_rfl) ?_
              refine Run.sub (e := [(0, _), (1, _), (5, _), (6, _), (7, _), (8, _)]) ?_ (by repeat (first | exact Sub.nil | refine Sub.cons rfl ?_))
              obtain ⟨G6, hP6, hp6⟩ := hP5.stepR h6
              have eo : (D.op po).1 = (D.plan at' keep torn mask).1 := by rw [hpo, op4 k0 k1 k2 k3 k4]
              exact (hk _ _ ⟨rfl, F5, G6, by rw [eo]; exact hP6, hdp.trans (hp5.trans hp6)⟩).sub (by repeat (first | exact Sub.nil | refine Sub.cons rfl ?_))
            · skip
              refine run_seq ?_
              refine run_reg rfl ?_
              refine rVal rfl rfl (yeq rfl rfl) ?_
              refine rVal rfl rfl (yas rfl) ?_
              refine rEnd ?_
              refine run_if rfl (fun k5 => ?_) (fun k5 => ?_)
              · skip
                refine run_draw (fun w' => Blk w' b5 [I kind, I who, I n, I at', S data, .slice ac keep.length capc, I torn, u8v mask] 64 ∧ Blk w' b7 [.slice (some ⟨g, 0, none⟩) keep.length cap, I torn, u8v mask] 51) (by kernel_rfl) rfl ?_
                refine hTake (i := 0) rfl (by kernel_rfl) rfl rfl (fun _ hS => ymv rfl) (hS0) ?_
                refine hTake (i := 1) rfl (by kernel_rfl) rfl rfl (fun _ hS => (by first | exact yldA Try.underlying51 rfl ti51 rfl (Blk.cells (n := 3) hS.1 (news := [_, _, _]) rfl) rfl | exact yldA Try.underlying51 rfl ti51 rfl (Blk.cells (n := 3) hS.2 (news := [_, _, _]) rfl) rfl)) (hS0) ?_
                refine hTake (i := 3) rfl (by kernel_rfl) rfl rfl (fun _ hS => ymv rfl) (hS0) ?_
                refine hTake (i := 4) rfl (by kernel_rfl) rfl rfl (fun _ hS => yfa fl64_5 rfl) (hS0) ?_
                refine hTake (i := 5) rfl (by kernel_rfl) rfl rfl (fun _ hS => (by first | exact yldA Try.underlying45 rfl ti45 rfl (Blk.cells (n := 3) hS.1 (news := [_, _, _]) rfl) rfl | exact yldA Try.underlying45 rfl ti45 rfl (Blk.cells (n := 3) hS.2 (news := [_, _, _]) rfl) rfl)) (hS0) ?_
                refine hOne (i := 2) (by kernel_rfl) ?_
                refine nCall (i := 2) rfl rfl rfl (yc (args := [.tmp 100, .tmp 101]) cf25 rfl) (pullA_ret (.slice (some ⟨g, 0, none⟩) keep.length cap) keep torn mask hP4d.d hs (by omega) (by omega) (InC.rd (Sl.ext hI4 (Ext.drew0 w4)))) ?_
                rintro _ w5 ⟨rfl, h5⟩
                refine ⟨hT h5, ?_⟩
                have hT5 := hT h5
                obtain ⟨F5, hP5, hp5⟩ := hP4d.stepD h5
                have hr5 : Rd w5 (.slice ac keep.length capc) 1 keep.length (keep.map I) := (hr4.ext (Ext.drew0 w4)).kp0 h5.kpF' (fun h0 i hi h => hkv h0 i hi (.inl h))
                refine hOne (i := 6) (by kernel_rfl) ?_
                refine nCall (i := 6) rfl rfl rfl (yc (args := [.tmp 103, .tmp 105]) cf75 rfl) (rpullA_ret (.slice ac keep.length capc) keep torn mask hP5.r hs (by omega) (by omega) hr5 hkn) ?_
                rintro _ w6 ⟨rfl, h6⟩
                refine ⟨hT2 hT5 h6, ?_⟩
                refine hTake (i := 7) rfl (by kernel_rfl) rfl rfl (fun _ hS => yeq rfl rfl) (hT2 hT5 h6) ?_
                refine hTrue (by (first | rfl | assumption | omega | decide)) ?_
                refine hTake (i := 8) rfl (by kernel_rfl) rfl rfl (fun _ hS => yas rfl) (hT2 hT5 h6) ?_
                refine hEnd (by kernel_rfl) ?_
                refine Run.sub (e := [(0, _), (1, _), (5, _), (6, _), (7, _), (8, _)]) ?_ (by repeat (first | exact Sub.nil | refine Sub.cons rfl ?_))
                obtain ⟨G6, hP6, hp6⟩ := hP5.stepR h6
                have eo : (D.op po).1 = (if D.down then D else D.fall keep torn mask) := by rw [hpo, op5 k0 k1 k2 k3 k4 k5]
                exact (hk _ _ ⟨rfl, F5, G6, by rw [eo]; exact hP6, hdp.trans (hp5.trans hp6)⟩).sub (by repeat (first | exact Sub.nil | refine Sub.cons rfl ?_))
              · skip
                refine run_seq ?_
                refine run_reg rfl ?_
                refine rVal rfl rfl (yeq rfl rfl) ?_
                refine rVal rfl rfl (yas rfl) ?_
                refine rEnd ?_
                refine Run.sub (e := [(0, _), (1, _), (5, _), (6, _), (7, _), (8, _), (19, _), (108, _)]) ?_ (by repeat (first | exact Sub.nil | refine Sub.cons rfl ?_))
                refine run_if rfl (fun k6 => ?_) (fun k6 => ?_)
                · skip
                  refine run_reg rfl ?_
                  refine rVal rfl rfl (ymv rfl) ?_
                  refine rCall rfl rfl (yc (args := [.tmp 110]) cf27 rfl) (restartA_ret hP4.d) ?_
                  rintro _ w5 ⟨rfl, h5⟩
                  obtain ⟨F5, hP5, hp5⟩ := hP4.stepD h5
                  have hB55 := hp5.kp.blk hB54 n5
                  refine rVal rfl rfl (ymv rfl) ?_
                  refine rCall rfl rfl (yc (args := [.tmp 112]) cf76 rfl) (rrestartA_ret hP5.r) ?_
                  rintro _ w6 ⟨rfl, h6⟩
                  refine rVal rfl rfl (yeq rfl rfl) ?_
                  refine rTrue (by (first | rfl | assumption | omega | decide)) ?_
                  refine rVal rfl rfl (yas rfl) ?_
                  refine rEnd ?_
                  obtain ⟨G6, hP6, hp6⟩ := hP5.stepR h6
                  have eo : (D.op po).1 = { D with down := false } := by rw [hpo, op6 k0 k1 k2 k3 k4 k5 k6]
                  exact (hk _ _ ⟨rfl, F5, G6, by rw [eo]; exact hP6, (Pass.refl F G w4).trans (hp5.trans hp6)⟩).sub (by repeat (first | exact Sub.nil | refine Sub.cons rfl ?_))
                · skip
                  refine run_seq ?_
                  refine run_reg rfl ?_
                  refine rVal rfl rfl (yeq rfl rfl) ?_
                  refine rVal rfl rfl (yas rfl) ?_
                  refine rEnd ?_
                  refine run_if rfl (fun k7 => ?_) (fun k7 => ?_)
                  · skip
                    refine run_draw (fun w' => Blk w' b5 [I kind, I who, I n, I at', S data, .slice ac keep.length capc, I torn, u8v mask] 64 ∧ Blk w' b7 [.slice (some ⟨g, 0, none⟩) keep.length cap, I torn, u8v mask] 51) (by kernel_rfl) rfl ?_
                    refine hTake (i := 0) rfl (by kernel_rfl) rfl rfl (fun _ hS => ymv rfl) (hS0) ?_
                    refine hTake (i := 1) rfl (by kernel_rfl) rfl rfl (fun _ hS => yfa fl64_2 rfl) (hS0) ?_
                    refine hTake (i := 2) rfl (by kernel_rfl) rfl rfl (fun _ hS => (by first | exact yld Try.underlying3 rfl rfl hS.1 rfl | exact yld Try.underlying3 rfl rfl hS.2 rfl)) (hS0) ?_
                    refine hTake (i := 3) rfl (by kernel_rfl) rfl rfl (fun _ hS => yfa fl64_3 rfl) (hS0) ?_
                    refine hTake (i := 4) rfl (by kernel_rfl) rfl rfl (fun _ hS => (by first | exact yld Try.underlying3 rfl rfl hS.1 rfl | exact yld Try.underlying3 rfl rfl hS.2 rfl)) (hS0) ?_
                    refine hTake (i := 5) rfl (by kernel_rfl) rfl rfl (fun _ hS => yfa fl64_4 rfl) (hS0) ?_
                    refine hTake (i := 6) rfl (by kernel_rfl) rfl rfl (fun _ hS => (by first | exact yld Try.underlying9 rfl rfl hS.1 rfl | exact yld Try.underlying9 rfl rfl hS.2 rfl)) (hS0) ?_
                    refine hTake (i := 8) rfl (by kernel_rfl) rfl rfl (fun _ hS => ymv rfl) (hS0) ?_
                    refine hTake (i := 9) rfl (by kernel_rfl) rfl rfl (fun _ hS => yfa fl64_2 rfl) (hS0) ?_
                    refine hTake (i := 10) rfl (by kernel_rfl) rfl rfl (fun _ hS => (by first | exact yld Try.underlying3 rfl rfl hS.1 rfl | exact yld Try.underlying3 rfl rfl hS.2 rfl)) (hS0) ?_
                    refine hTake (i := 11) rfl (by kernel_rfl) rfl rfl (fun _ hS => yfa fl64_3 rfl) (hS0) ?_
                    refine hTake (i := 12) rfl (by kernel_rfl) rfl rfl (fun _ hS => (by first | exact yld Try.underlying3 rfl rfl hS.1 rfl | exact yld Try.underlying3 rfl rfl hS.2 rfl)) (hS0) ?_
                    refine hTake (i := 13) rfl (by kernel_rfl) rfl rfl (fun _ hS => yfa fl64_4 rfl) (hS0) ?_
                    refine hTake (i := 14) rfl (by kernel_rfl) rfl rfl (fun _ hS => (by first | exact yld Try.underlying9 rfl rfl hS.1 rfl | exact yld Try.underlying9 rfl rfl hS.2 rfl)) (hS0) ?_
                    refine hOne (i := 7) (by kernel_rfl) ?_
                    refine nCall (i := 7) rfl rfl rfl (yc (args := [.tmp 117, .tmp 119, .tmp 121, .tmp 123]) cf36 rfl) (corruptA_ret n at' data hP4d.d hs (by omega) oc3 (by omega)) ?_
                    rintro _ w5 ⟨rfl, h5⟩
                    refine ⟨hT h5, ?_⟩
                    have hT5 := hT h5
                    obtain ⟨F5, hP5, hp5⟩ := hP4d.stepD h5
                    have hr5 : Rd w5 (.slice ac keep.length capc) 1 keep.length (keep.map I) := (hr4.ext (Ext.drew0 w4)).kp0 h5.kpF' (fun h0 i hi h => hkv h0 i hi (.inl h))
                    refine hOne (i := 15) (by kernel_rfl) ?_
                    refine nCall (i := 15) rfl rfl rfl (yc (args := [.tmp 125, .tmp 127, .tmp 129, .tmp 131]) cf77 rfl) (rcorruptA_ret n at' data hP5.r hs (by omega) oc3 (by omega)) ?_
                    rintro _ w6 ⟨rfl, h6⟩
                    refine ⟨hT2 hT5 h6, ?_⟩
                    refine hTake (i := 16) rfl (by kernel_rfl) rfl rfl (fun _ hS => yeq rfl rfl) (hT2 hT5 h6) ?_
                    refine hTrue (by (first | rfl | assumption | omega | decide)) ?_
                    refine hTake (i := 17) rfl (by kernel_rfl) rfl rfl (fun _ hS => yas rfl) (hT2 hT5 h6) ?_
                    refine hEnd (by kernel_rfl) ?_
                    refine Run.sub (e := [(0, _), (1, _), (5, _), (6, _), (7, _), (8, _)]) ?_ (by repeat (first | exact Sub.nil | refine Sub.cons rfl ?_))
                    obtain ⟨G6, hP6, hp6⟩ := hP5.stepR h6
                    have eo : (D.op po).1 = (D.corrupt n at' data).1 := by rw [hpo, op7 k0 k1 k2 k3 k4 k5 k6 k7]
                    exact (hk _ _ ⟨rfl, F5, G6, by rw [eo]; exact hP6, hdp.trans (hp5.trans hp6)⟩).sub (by repeat (first | exact Sub.nil | refine Sub.cons rfl ?_))
                  · skip
                    refine run_skip ?_
                    have eo : (D.op po).1 = D := by rw [hpo, op8 k0 k1 k2 k3 k4 k5 k6 k7]
                    exact (hk _ _ ⟨rfl, F, G, by rw [eo]; exact hP4, Pass.refl F G w4⟩).sub (by repeat (first | exact Sub.nil | refine Sub.cons rfl ?_))
end Go.Proofs.Ytdapkfppcaaohaa
