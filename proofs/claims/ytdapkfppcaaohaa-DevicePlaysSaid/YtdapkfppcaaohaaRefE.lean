/- The document's device (wattleref04): over, Corrupt, Image walked. -/
import Derived.Test.YtdapkfppcaaohaaRefD
namespace Go.Proofs.Ytdapkfppcaaohaa
open Go Go.RowKit
set_option linter.all false
set_option maxRecDepth 100000

theorem rover_ret (s d : Bytes) (at' : Nat) (w : World) (h : at' + d.length ≤ s.length) (hs : s.length ≤ 1000000000) :
    Ret Try.prog 88 [S s, I (at' : Int), S d] w fun v w' => v = S (over s at' d) ∧ Ext w w' := by
  refine ret_of_run (e := [(0, _), (1, _), (2, _)]) Try.func88 rfl Try.ntmps88 rfl rfl ?_
  refine run_seq ?_
  refine run_reg rfl ?_
  refine rVal rfl rfl (yas rfl) ?_
  refine rEnd ?_
  refine run_seq ?_
  refine run_draw (fun w' => Ext w w') (by kernel_rfl) rfl ?_
  refine hTake (i := 0) rfl (by kernel_rfl) rfl rfl (fun _ hS => ymv rfl) (Ext.drew0 w) ?_
  refine hTake (i := 1) rfl (by kernel_rfl) rfl rfl (fun _ hS => ymv rfl) (Ext.drew0 w) ?_
  refine hTake (i := 2) rfl (by kernel_rfl) rfl rfl (fun _ hS => yslSt Try.underlying9 rfl rfl (by omega)) (Ext.drew0 w) ?_
  refine hTake (i := 3) rfl (by kernel_rfl) rfl rfl (fun _ hS => ymv rfl) (Ext.drew0 w) ?_
  refine hTake (i := 4) rfl (by kernel_rfl) rfl rfl (fun _ hS => ycatS rfl rfl (by first | omega | (simp; done) | (simp; omega))) (Ext.drew0 w) ?_
  refine hTake (i := 5) rfl (by kernel_rfl) rfl rfl (fun _ hS => ymv rfl) (Ext.drew0 w) ?_
  refine hTake (i := 6) rfl (by kernel_rfl) rfl rfl (fun _ hS => ymv rfl) (Ext.drew0 w) ?_
  refine hTake (i := 7) rfl (by kernel_rfl) rfl rfl (fun _ hS => ymv rfl) (Ext.drew0 w) ?_
  refine hTake (i := 8) rfl (by kernel_rfl) rfl rfl (fun _ hS => ylnS Try.underlying9 rfl) (Ext.drew0 w) ?_
  refine hTake (i := 9) rfl (by kernel_rfl) rfl rfl (fun _ hS => yad rfl rfl (by omega)) (Ext.drew0 w) ?_
  refine hTake (i := 10) rfl (by kernel_rfl) rfl rfl (fun _ hS => yslSf Try.underlying9 rfl rfl (by omega)) (Ext.drew0 w) ?_
  refine hTake (i := 11) rfl (by kernel_rfl) rfl rfl (fun _ hS => ycatS rfl rfl (by first | omega | (simp; done) | (simp; omega))) (Ext.drew0 w) ?_
  refine hTake (i := 12) rfl (by kernel_rfl) rfl rfl (fun _ hS => yas rfl) (Ext.drew0 w) ?_
  refine hEnd (by kernel_rfl) ?_
  refine run_ret Try.func88 rfl ?_
  exact ⟨_, rfl, rfl, Ext.drew0 w⟩

theorem RefM.cachePut {w w' : World} {q gb cap : Nat} {sv kp : Value} {l : List Int} {tn : Int} {mk : UInt8} {D : Dev} {cs : List (Int × Bytes)} (h : RefM w q sv (.slice (some ⟨gb, 0, none⟩) D.cache.length cap) kp l tn mk D) (hlen : cs.length = D.cache.length)
    (hS : Sl w' (.slice (some ⟨gb, 0, none⟩) D.cache.length cap) 128 2 D.cache.length (wrs cs)) (k : Kp (fun i => i = gb) w w') (hok : Dev.Ok { D with cache := cs }) : RefM w' q sv (.slice (some ⟨gb, 0, none⟩) D.cache.length cap) kp l tn mk { D with cache := cs } := by
  obtain ⟨g1, g2, g3⟩ := h.gone (g := gb) rfl
  refine ⟨k.blk h.blk (fun e => g1 e.symm), h.safe.kp k (fun g hg e => g2 (by rw [hg, e])), ?_, h.keep.kp k (fun g hg e => g3 (by rw [hg, e])), h.crash, hok, h.len⟩
  simp only [hlen]; exact hS

theorem rcorrupt_ret {w : World} {q : Nat} {sv ca kp : Value} {l : List Int} {tn : Int} {mk : UInt8} {D : Dev} (n at' : Int) (d : Bytes) (h : RefM w q sv ca kp l tn mk D) (hc : D.cache.length < 1000000000000) (hat : at' ≤ 9223372036854775807) (hd : d.length ≤ 9223372036854775807) :
    Ret Try.prog 77 [ptr q 0, I n, I at', S d] w fun v w' => v = I (D.corrupt n at' d).2 ∧ RefR w q sv ca kp (D.corrupt n at' d).1 w' := by
  have hN := h.ok.hN
  have hB := h.ok.hB
  have hM := h.blk
  refine ret_of_run (e := [(0, _), (1, _), (2, _), (3, _)]) Try.func77 rfl Try.ntmps77 rfl rfl ?_
  refine run_seq ?_
  refine run_reg rfl ?_
  refine rVal rfl rfl (yas rfl) ?_
  refine rEnd ?_
  refine run_seq ?_
  refine run_seq ?_
  refine run_reg rfl ?_
  refine rVal rfl rfl (ymv rfl) ?_
  refine rVal rfl rfl (ylt rfl rfl) ?_
  refine rVal_if (fun h1 => ?_) (fun h1 => ?_)
  · skip
    refine rVal rfl rfl (ymv rfl) ?_
    refine rSkip rfl rfl ?_
    refine rSkip rfl rfl ?_
    refine rSkip rfl rfl ?_
    refine rSkip rfl rfl ?_
    refine rSkip rfl rfl ?_
    refine rSkip rfl rfl ?_
    refine rSkip rfl rfl ?_
    refine rVal rfl rfl (ypT rfl rfl) ?_
    refine rVal rfl rfl (ymv rfl) ?_
    refine rSkip rfl rfl ?_
    refine rSkip rfl rfl ?_
    refine rVal rfl rfl (ypT rfl rfl) ?_
    refine rVal rfl rfl (ymv rfl) ?_
    refine rSkip rfl rfl ?_
    refine rSkip rfl rfl ?_
    refine rSkip rfl rfl ?_
    refine rSkip rfl rfl ?_
    refine rVal rfl rfl (ypT rfl rfl) ?_
    refine rVal rfl rfl (ymv rfl) ?_
    refine rSkip rfl rfl ?_
    refine rSkip rfl rfl ?_
    refine rSkip rfl rfl ?_
    refine rSkip rfl rfl ?_
    refine rSkip rfl rfl ?_
    refine rSkip rfl rfl ?_
    refine rSkip rfl rfl ?_
    refine rVal rfl rfl (ypT rfl rfl) ?_
    refine rEnd ?_
    refine Run.sub (e := [(0, _), (1, _), (2, _), (3, _), (8, _), (39, _)]) ?_ (by repeat (first | exact Sub.nil | refine Sub.cons rfl ?_))
    refine run_true rfl ?_
    refine run_seq ?_
    refine run_reg rfl ?_
    refine rVal rfl rfl (yas rfl) ?_
    refine rEnd ?_
    refine run_ret Try.func77 rfl ?_
    have e : D.corrupt n at' d = (D, 1) := if_neg fun h => by have := h.1; simp [Dev.has] at this; omega
    rw [e]
    exact ⟨_, rfl, rfl, RefR.same h (Ext.refl _)⟩
  · skip
    refine rVal rfl rfl (ymv rfl) ?_
    refine rVal rfl rfl (ymv rfl) ?_
    refine rVal rfl rfl (ymv rfl) ?_
    refine rVal rfl rfl ((by first | exact ync rfl | exact yncf rfl)) ?_
    refine rVal rfl rfl (yfa fl86_0 rfl) ?_
    refine rVal rfl rfl (yfa fl74_0 rfl) ?_
    refine rVal rfl rfl (yld Try.underlying3 rfl rfl hM rfl) ?_
    refine rVal rfl rfl (yge rfl rfl) ?_
    refine rVal_if (fun h2 => ?_) (fun h2 => ?_)
    · skip
      refine rVal rfl rfl (ypF rfl rfl) ?_
      refine rVal rfl rfl (ymv rfl) ?_
      refine rSkip rfl rfl ?_
      refine rSkip rfl rfl ?_
      refine rVal rfl rfl (ypT rfl rfl) ?_
      refine rVal rfl rfl (ymv rfl) ?_
      refine rSkip rfl rfl ?_
      refine rSkip rfl rfl ?_
      refine rSkip rfl rfl ?_
      refine rSkip rfl rfl ?_
      refine rVal rfl rfl (ypT rfl rfl) ?_
      refine rVal rfl rfl (ymv rfl) ?_
      refine rSkip rfl rfl ?_
      refine rSkip rfl rfl ?_
      refine rSkip rfl rfl ?_
      refine rSkip rfl rfl ?_
      refine rSkip rfl rfl ?_
      refine rSkip rfl rfl ?_
      refine rSkip rfl rfl ?_
      refine rVal rfl rfl (ypT rfl rfl) ?_
      refine rEnd ?_
      refine Run.sub (e := [(0, _), (1, _), (2, _), (3, _), (8, _), (39, _)]) ?_ (by repeat (first | exact Sub.nil | refine Sub.cons rfl ?_))
      refine run_true rfl ?_
      refine run_seq ?_
      refine run_reg rfl ?_
      refine rVal rfl rfl (yas rfl) ?_
      refine rEnd ?_
      refine run_ret Try.func77 rfl ?_
      have e : D.corrupt n at' d = (D, 1) := if_neg fun h => by have := h.1; simp [Dev.has] at this; omega
      rw [e]
      exact ⟨_, rfl, rfl, RefR.same h (Ext.refl _)⟩
    · skip
      refine rVal rfl rfl (ypF rfl rfl) ?_
      refine rVal rfl rfl (ymv rfl) ?_
      refine rVal rfl rfl (ymv rfl) ?_
      refine rVal rfl rfl (ylt rfl rfl) ?_
      refine rVal_if (fun h3 => ?_) (fun h3 => ?_)
      · skip
        refine rVal rfl rfl (ypF rfl rfl) ?_
        refine rVal rfl rfl (ymv rfl) ?_
        refine rSkip rfl rfl ?_
        refine rSkip rfl rfl ?_
        refine rSkip rfl rfl ?_
        refine rSkip rfl rfl ?_
        refine rVal rfl rfl (ypT rfl rfl) ?_
        refine rVal rfl rfl (ymv rfl) ?_
        refine rSkip rfl rfl ?_
        refine rSkip rfl rfl ?_
        refine rSkip rfl rfl ?_
        refine rSkip rfl rfl ?_
        refine rSkip rfl rfl ?_
        refine rSkip rfl rfl ?_
        refine rSkip rfl rfl ?_
        refine rVal rfl rfl (ypT rfl rfl) ?_
        refine rEnd ?_
        refine Run.sub (e := [(0, _), (1, _), (2, _), (3, _), (8, _), (39, _)]) ?_ (by repeat (first | exact Sub.nil | refine Sub.cons rfl ?_))
        refine run_true rfl ?_
        refine run_seq ?_
        refine run_reg rfl ?_
        refine rVal rfl rfl (yas rfl) ?_
        refine rEnd ?_
        refine run_ret Try.func77 rfl ?_
        have e : D.corrupt n at' d = (D, 1) := if_neg fun h => by have := h.2.1; omega
        rw [e]
        exact ⟨_, rfl, rfl, RefR.same h (Ext.refl _)⟩
      · skip
        refine rVal rfl rfl (ypF rfl rfl) ?_
        refine rVal rfl rfl (ymv rfl) ?_
        refine rVal rfl rfl (ymv rfl) ?_
        refine rVal rfl rfl (ymv rfl) ?_
        refine rCall rfl rfl (yc (args := [.tmp 27]) cf47 rfl) (rsize_ret h) ?_
        rintro _ w2 ⟨rfl, rfl⟩
        refine rVal rfl rfl (ygt rfl rfl) ?_
        refine rVal_if (fun h4 => ?_) (fun h4 => ?_)
        · skip
          refine rVal rfl rfl (ypF rfl rfl) ?_
          refine rVal rfl rfl (ymv rfl) ?_
          refine rSkip rfl rfl ?_
          refine rSkip rfl rfl ?_
          refine rSkip rfl rfl ?_
          refine rSkip rfl rfl ?_
          refine rSkip rfl rfl ?_
          refine rSkip rfl rfl ?_
          refine rSkip rfl rfl ?_
          refine rVal rfl rfl (ypT rfl rfl) ?_
          refine rEnd ?_
          refine Run.sub (e := [(0, _), (1, _), (2, _), (3, _), (8, _), (39, _)]) ?_ (by repeat (first | exact Sub.nil | refine Sub.cons rfl ?_))
          refine run_true rfl ?_
          refine run_seq ?_
          refine run_reg rfl ?_
          refine rVal rfl rfl (yas rfl) ?_
          refine rEnd ?_
          refine run_ret Try.func77 rfl ?_
          have e : D.corrupt n at' d = (D, 1) := if_neg fun h => by have := h.2.2; omega
          rw [e]
          exact ⟨_, rfl, rfl, RefR.same h (Ext.refl _)⟩
        · skip
          refine rVal rfl rfl (ypF rfl rfl) ?_
          refine rVal rfl rfl (ymv rfl) ?_
          refine rVal rfl rfl (ymv rfl) ?_
          refine rVal rfl rfl (ylnS Try.underlying9 rfl) ?_
          refine rVal rfl rfl (ymv rfl) ?_
          refine rCall rfl rfl (yc (args := [.tmp 34]) cf47 rfl) (rsize_ret h) ?_
          rintro _ w3 ⟨rfl, rfl⟩
          refine rVal rfl rfl (ymv rfl) ?_
          refine rVal rfl rfl (ysb rfl rfl (by omega)) ?_
          refine rVal rfl rfl (ygt rfl rfl) ?_
          refine rVal rfl rfl (ypF rfl rfl) ?_
          refine rEnd ?_
          refine Run.sub (e := [(0, _), (1, _), (2, _), (3, _), (8, _), (39, _)]) ?_ (by repeat (first | exact Sub.nil | refine Sub.cons rfl ?_))
          refine run_if rfl (fun hlong => ?_) (fun hlong => ?_)
          · skip
            refine run_seq ?_
            refine run_reg rfl ?_
            refine rVal rfl rfl (yas rfl) ?_
            refine rEnd ?_
            refine run_ret Try.func77 rfl ?_
            have e : D.corrupt n at' d = (D, 1) := if_neg fun h => by have := h.2.2; omega
            rw [e]
            exact ⟨_, rfl, rfl, RefR.same h (Ext.refl _)⟩
          · skip
            have hok : D.corOk n at' d := ⟨by simp [Dev.has]; omega, by omega, by omega⟩
            obtain ⟨a', rfl⟩ : ∃ a' : Nat, at' = (a' : Int) := ⟨at'.toNat, by omega⟩
            obtain ⟨m, rfl⟩ : ∃ m : Nat, n = (m : Int) := ⟨n.toNat, by omega⟩
            have hmB : m < D.B := by omega
            obtain ⟨gs, caps, rfl⟩ := h.svE
            obtain ⟨d1, d2, d3⟩ := RefM.sepS h
            have hkl := h.ok.kept (m : Int)
            refine run_skip ?_
            refine run_seq ?_
            refine run_draw (fun w' => Kp (fun k => k = gs) w3 w') (by kernel_rfl) rfl ?_
            refine hTake (i := 0) rfl (by kernel_rfl) rfl rfl (fun _ hS => ymv rfl) ((Kp.refl _ w3).drew) ?_
            refine hTake (i := 1) rfl (by kernel_rfl) rfl rfl (fun _ hS => (by first | exact ync rfl | exact yncf rfl)) ((Kp.refl _ w3).drew) ?_
            refine hTake (i := 2) rfl (by kernel_rfl) rfl rfl (fun _ hS => yfa fl86_1 rfl) ((Kp.refl _ w3).drew) ?_
            refine hTake (i := 3) rfl (by kernel_rfl) rfl rfl (fun _ hS => yld Try.underlying47 rfl rfl (hS.blk hM d1) rfl) ((Kp.refl _ w3).drew) ?_
            refine hTake (i := 4) rfl (by kernel_rfl) rfl rfl (fun _ hS => ymv rfl) ((Kp.refl _ w3).drew) ?_
            refine hTake (i := 5) rfl (by kernel_rfl) rfl rfl (fun _ hS => ymv rfl) ((Kp.refl _ w3).drew) ?_
            refine hTake (i := 6) rfl (by kernel_rfl) rfl rfl (fun _ hS => (by first | exact ync rfl | exact yncf rfl)) ((Kp.refl _ w3).drew) ?_
            refine hTake (i := 7) rfl (by kernel_rfl) rfl rfl (fun _ hS => yfa fl86_1 rfl) ((Kp.refl _ w3).drew) ?_
            refine hTake (i := 8) rfl (by kernel_rfl) rfl rfl (fun _ hS => yld Try.underlying47 rfl rfl (hS.blk hM d1) rfl) ((Kp.refl _ w3).drew) ?_
            refine hTake (i := 9) rfl (by kernel_rfl) rfl rfl (fun _ hS => ymv rfl) ((Kp.refl _ w3).drew) ?_
            refine hTake (i := 10) rfl (by kernel_rfl) rfl rfl (fun _ hS => yis Try.underlying47 ti9 rfl rfl (by omega)) ((Kp.refl _ w3).drew) ?_
            refine hTake (i := 12) rfl (by kernel_rfl) rfl rfl (fun _ hS => ymv rfl) ((Kp.refl _ w3).drew) ?_
            refine hTake (i := 13) rfl (by kernel_rfl) rfl rfl (fun _ hS => ymv rfl) ((Kp.refl _ w3).drew) ?_
            refine hOne (i := 11) (by kernel_rfl) ?_
            refine nVal (i := 11) rfl rfl rfl (yldc Try.underlying9 rfl rfl (sl_cell1 (h.safe.ext (Ext.drew0 w3)) (u := S (D.kept (m : Int))) (by rw [List.getElem?_map, safes_get D m hmB]; rfl))) ((Kp.refl _ w3).drew) ?_
            refine hOne (i := 14) (by kernel_rfl) ?_
            refine nCall (i := 14) rfl rfl rfl (yc (args := [.tmp 51, .tmp 52, .tmp 53]) cf88 rfl) (rover_ret (D.kept (m : Int)) d a' _ (by omega) (by omega)) ?_
            rintro _ w5 ⟨rfl, hx5⟩
            refine ⟨((Kp.refl _ w3).drew).trans hx5.kp, ?_⟩
            refine hTake (i := 15) rfl (by kernel_rfl) rfl rfl (fun _ hS => yis Try.underlying47 ti9 rfl rfl (by omega)) (((Kp.refl _ w3).drew).trans hx5.kp) ?_
            have hx35 := (Ext.drew0 w3).trans hx5
            refine hOne (i := 16) (by kernel_rfl) ?_
            refine nEffP (i := 16) rfl rfl (zstSl ti9 rfl rfl rfl (h.safe.ext hx35) (by simp; omega)) ?_
            rintro w7 ⟨hS7, hk7⟩
            refine ⟨(((Kp.refl _ w3).drew).trans hx5.kp).trans hk7, ?_⟩
            have hk37 := (((Kp.refl (fun i => i = gs) w3).drew).trans hx5.kp).trans hk7
            have hd7 := RefM.put (n := m) (s := over (D.kept (m : Int)) a' d) h (by simpa using hS7) hk37 hmB (by rw [over_length _ _ _ (by omega)]; exact hkl)
            obtain ⟨ca0, capc, rfl, hca⟩ := h.cache.rd.shape
            refine hEnd (by kernel_rfl) ?_
            refine run_seq ?_
            refine run_seq ?_
            refine run_reg rfl ?_
            refine rVal rfl rfl (yas rfl) ?_
            refine rEnd ?_
            refine run_block ?_
            refine run_loop (α := Nat) (0) (fun i => [(0, ptr q 0), (1, I (m : Int)), (2, I (a' : Int)), (3, S d), (9, I (i : Int))]) (fun i wi => i ≤ D.cache.length ∧ RefM wi q (.slice (some ⟨gs, 0, none⟩) D.B caps) (.slice ca0 D.cache.length capc) kp l tn mk { D with sf := upd D.sf (m : Int) (over (D.kept (m : Int)) a' d), cache := corTo (m : Int) a' d D.cache i } ∧ Kp (fun k => (Value.slice ca0 D.cache.length capc).ownBlock = some k) w7 wi) (fun i => D.cache.length - i) (by repeat (first | exact Sub.nil | refine Sub.cons rfl ?_)) ?hI ?hround
            case hI => exact ⟨by omega, by rw [corTo_zero]; exact hd7, Kp.refl _ _⟩
            case hround =>
              rintro i wi ⟨hi, hdi, hki⟩ ih
              dsimp only
              have hMi := hdi.blk
              refine run_seq ?_
              refine run_seq ?_
              refine run_reg rfl ?_
              refine rVal rfl rfl (ymv rfl) ?_
              refine rVal rfl rfl (ymv rfl) ?_
              refine rVal rfl rfl ((by first | exact ync rfl | exact yncf rfl)) ?_
              refine rVal rfl rfl (yfa fl86_2 rfl) ?_
              refine rVal rfl rfl (yld Try.underlying84 rfl rfl hMi rfl) ?_
              refine rVal rfl rfl (yln Try.underlying84 rfl) ?_
              refine rVal rfl rfl (ylt rfl rfl) ?_
              refine rEnd ?_
              refine run_if rfl (fun hlt => ?_) (fun hlt => ?_)
              · skip
                have hlt' : i < D.cache.length := by omega
                obtain ⟨gb, rfl⟩ : ∃ gb, ca0 = some ⟨gb, 0, none⟩ := by
                  rcases hdi.cache.shape with ⟨-, h⟩ | ⟨gb, cap', hva, hcap⟩
                  · have h' : (corTo (m : Int) a' d D.cache i).length = 0 := h
                    rw [corTo_length] at h'; omega
                  · simp at hva; exact ⟨gb, hva.1⟩
                obtain ⟨x, hxe⟩ : ∃ x, D.cache[i] = x := ⟨_, rfl⟩
                have hxg := corTo_get (m : Int) a' d D.cache i hlt'
                rw [hxe] at hxg
                have hSc := hdi.cache
                simp only [corTo_length] at hSc
                obtain ⟨hx1, hx2⟩ := wrs_at _ i x hxg
                have hxok := hdi.ok.cache x (List.mem_of_getElem? hxg)
                have hxl : x.2.length = 512 * D.N := hxok.2.2
                refine run_skip ?_
                refine run_seq ?_
                refine run_block ?_
                refine run_seq ?_
                refine run_reg rfl ?_
                refine rVal rfl rfl (ymv rfl) ?_
                refine rVal rfl rfl ((by first | exact ync rfl | exact yncf rfl)) ?_
                refine rVal rfl rfl (yfa fl86_2 rfl) ?_
                refine rVal rfl rfl (yld Try.underlying84 rfl rfl hMi rfl) ?_
                refine rVal rfl rfl (ymv rfl) ?_
                refine rVal rfl rfl (yis Try.underlying84 ti128 rfl rfl (by omega)) ?_
                refine rVal rfl rfl (yfa fl128_0 rfl) ?_
                refine rVal rfl rfl (yldc Try.underlying3 rfl rfl (sl_cellN hSc hx1)) ?_
                refine rVal rfl rfl (ymv rfl) ?_
                refine rVal rfl rfl (yeq rfl rfl) ?_
                refine rEnd ?_
                refine run_if rfl (fun heq => ?_) (fun heq => ?_)
                · skip
                  have hdi' : RefM wi q (.slice (some ⟨gs, 0, none⟩) D.B caps) (.slice (some ⟨gb, 0, none⟩) (corTo (m : Int) a' d D.cache i).length capc) kp l tn mk { D with sf := upd D.sf (m : Int) (over (D.kept (m : Int)) a' d), cache := corTo (m : Int) a' d D.cache i } := by simp only [corTo_length]; exact hdi
                  obtain ⟨g1, g2, g3⟩ := hdi'.gone (g := gb) rfl
                  refine run_draw (fun w' => Kp (fun k => k = gb) wi w') (by kernel_rfl) rfl ?_
                  refine hTake (i := 0) rfl (by kernel_rfl) rfl rfl (fun _ hS => ymv rfl) ((Kp.refl _ wi).drew) ?_
                  refine hTake (i := 1) rfl (by kernel_rfl) rfl rfl (fun _ hS => (by first | exact ync rfl | exact yncf rfl)) ((Kp.refl _ wi).drew) ?_
                  refine hTake (i := 2) rfl (by kernel_rfl) rfl rfl (fun _ hS => yfa fl86_2 rfl) ((Kp.refl _ wi).drew) ?_
                  refine hTake (i := 3) rfl (by kernel_rfl) rfl rfl (fun _ hS => yld Try.underlying84 rfl rfl (hS.blk hMi (fun h => g1 h.symm)) rfl) ((Kp.refl _ wi).drew) ?_
                  refine hTake (i := 4) rfl (by kernel_rfl) rfl rfl (fun _ hS => ymv rfl) ((Kp.refl _ wi).drew) ?_
                  refine hTake (i := 5) rfl (by kernel_rfl) rfl rfl (fun _ hS => ymv rfl) ((Kp.refl _ wi).drew) ?_
                  refine hTake (i := 6) rfl (by kernel_rfl) rfl rfl (fun _ hS => (by first | exact ync rfl | exact yncf rfl)) ((Kp.refl _ wi).drew) ?_
                  refine hTake (i := 7) rfl (by kernel_rfl) rfl rfl (fun _ hS => yfa fl86_2 rfl) ((Kp.refl _ wi).drew) ?_
                  refine hTake (i := 8) rfl (by kernel_rfl) rfl rfl (fun _ hS => yld Try.underlying84 rfl rfl (hS.blk hMi (fun h => g1 h.symm)) rfl) ((Kp.refl _ wi).drew) ?_
                  refine hTake (i := 9) rfl (by kernel_rfl) rfl rfl (fun _ hS => ymv rfl) ((Kp.refl _ wi).drew) ?_
                  refine hTake (i := 10) rfl (by kernel_rfl) rfl rfl (fun _ hS => yis Try.underlying84 ti128 rfl rfl (by omega)) ((Kp.refl _ wi).drew) ?_
                  refine hTake (i := 11) rfl (by kernel_rfl) rfl rfl (fun _ hS => yfa fl128_1 rfl) ((Kp.refl _ wi).drew) ?_
                  refine hTake (i := 13) rfl (by kernel_rfl) rfl rfl (fun _ hS => ymv rfl) ((Kp.refl _ wi).drew) ?_
                  refine hTake (i := 14) rfl (by kernel_rfl) rfl rfl (fun _ hS => ymv rfl) ((Kp.refl _ wi).drew) ?_
                  refine hOne (i := 12) (by kernel_rfl) ?_
                  refine nVal (i := 12) rfl rfl rfl (yldc Try.underlying9 rfl rfl (sl_cellN (hSc.ext (Ext.drew0 wi)) hx2)) ((Kp.refl _ wi).drew) ?_
                  refine hOne (i := 15) (by kernel_rfl) ?_
                  refine nCall (i := 15) rfl rfl rfl (yc (args := [.tmp 87, .tmp 88, .tmp 89]) cf88 rfl) (rover_ret x.2 d a' _ (by omega) (by omega)) ?_
                  rintro _ w8 ⟨rfl, hx8⟩
                  refine ⟨((Kp.refl _ wi).drew).trans hx8.kp, ?_⟩
                  have hx8' := (Ext.drew0 wi).trans hx8
                  refine hTake (i := 16) rfl (by kernel_rfl) rfl rfl (fun _ hS => yis Try.underlying84 ti128 rfl rfl (by omega)) (((Kp.refl _ wi).drew).trans hx8.kp) ?_
                  refine hTake (i := 17) rfl (by kernel_rfl) rfl rfl (fun _ hS => yfa fl128_1 rfl) (((Kp.refl _ wi).drew).trans hx8.kp) ?_
                  refine hOne (i := 18) (by kernel_rfl) ?_
                  refine nEffP (i := 18) rfl rfl (zstSl ti9 rfl rfl rfl (hSc.ext hx8') (by simp; omega)) ?_
                  rintro w9 ⟨hS9, hk9⟩
                  refine ⟨(((Kp.refl _ wi).drew).trans hx8.kp).trans hk9, ?_⟩
                  have es : wrs (corTo (m : Int) a' d D.cache (i + 1)) = (wrs (corTo (m : Int) a' d D.cache i)).set (0 + i * 2 + 1) (S (over x.2 a' d)) := by
                    rw [corTo_succ _ _ _ _ _ hlt', hxe, show 0 + i * 2 + 1 = i * 2 + 1 by omega, wrs_set _ _ _ _ hxg]
                    simp [corW, heq]
                  rw [← es] at hS9
                  have hd9 := RefM.cachePut (D := { D with sf := upd D.sf (m : Int) (over (D.kept (m : Int)) a' d), cache := corTo (m : Int) a' d D.cache i }) (cs := corTo (m : Int) a' d D.cache (i + 1)) (hdi'.ext hx8') (by simp) (by simp only [corTo_length]; exact hS9) hk9 (by
                    refine ⟨hdi.ok.hB, hdi.ok.hN, hdi.ok.due, hdi.ok.sf, fun y hy => ?_, hdi.ok.len, hdi.ok.reads⟩
                    simp only at hy
                    rw [corTo_succ _ _ _ _ _ hlt', hxe] at hy
                    rcases List.mem_or_eq_of_mem_set hy with hy | rfl
                    · exact hdi.ok.cache y hy
                    · simp only [corW, heq, if_true]
                      exact ⟨heq ▸ hxok.1, heq ▸ hxok.2.1, by rw [over_length _ _ _ (by omega)]; exact hxl⟩)
                  simp only [corTo_length] at hd9
                  refine hEnd (by kernel_rfl) ?_
                  refine run_inBlock ?_
                  refine run_reg rfl ?_
                  refine rVal rfl rfl (ymv rfl) ?_
                  refine rVal rfl rfl (yad rfl rfl (by omega)) ?_
                  refine rVal rfl rfl (yas rfl) ?_
                  refine rEnd ?_
                  exact (ih (i + 1) w9 ⟨by omega, hd9, hki.trans (hx8'.kp.trans (hk9.mono' fun k hk => by rw [hk]; rfl))⟩ (by omega)).sub (by repeat (first | exact Sub.nil | refine Sub.cons rfl ?_))
                · skip
                  have es : corTo (m : Int) a' d D.cache (i + 1) = corTo (m : Int) a' d D.cache i := by
                    rw [corTo_succ _ _ _ _ _ hlt', hxe, show corW (m : Int) a' d x = x by simp [corW, heq]]
                    apply List.ext_getElem?
                    intro j
                    rw [List.getElem?_set]
                    split
                    · rename_i hj
                      subst hj
                      rw [hxg]
                      simp [hlt']
                    · rfl
                  refine run_skip ?_
                  refine run_inBlock ?_
                  refine run_reg rfl ?_
                  refine rVal rfl rfl (ymv rfl) ?_
                  refine rVal rfl rfl (yad rfl rfl (by omega)) ?_
                  refine rVal rfl rfl (yas rfl) ?_
                  refine rEnd ?_
                  rw [← es] at hdi
                  exact (ih (i + 1) wi ⟨by omega, hdi, hki⟩ (by omega)).sub (by repeat (first | exact Sub.nil | refine Sub.cons rfl ?_))
              · skip
                have hin : i = D.cache.length := by omega
                subst hin
                refine run_exit rfl ?_
                refine run_seq ?_
                refine run_reg rfl ?_
                refine rVal rfl rfl (yas rfl) ?_
                refine rEnd ?_
                refine run_ret Try.func77 rfl ?_
                have e : D.corrupt (m : Int) (a' : Int) d = ({ D with sf := upd D.sf (m : Int) (over (D.kept (m : Int)) a' d), cache := D.cache.map (corW (m : Int) a' d) }, 0) := if_pos hok
                rw [e]
                rw [corTo_all] at hdi
                exact ⟨_, rfl, rfl, _, _, kp, l, tn, mk, hdi, (hk37.mono' fun i hi => .inr (.inl (by rw [hi]; rfl))).trans (hki.mono' fun i hi => .inr (.inr (.inl hi))), fun i hi => .inl hi⟩

theorem rimage_ret {w : World} {q : Nat} {sv ca kp : Value} {l : List Int} {tn : Int} {mk : UInt8} {D : Dev} (h : RefM w q sv ca kp l tn mk D) (hc : D.cache.length < 1000000000000) :
    Ret Try.prog 79 [ptr q 0] w fun v w' => Sl w' v 9 1 D.B (D.image.map S) ∧ Ext w w' ∧ ∀ g, v.ownBlock = some g → w.heap.size ≤ g := by
  have hml : maxLen = 9223372036854775807 := rfl
  have hB := h.ok.hB
  have hfl := h.lt
  refine ret_of_run (e := [(0, _)]) Try.func79 rfl Try.ntmps79 rfl rfl ?_
  refine run_seq ?_
  refine run_reg rfl ?_
  refine rVal rfl rfl (yas rfl) ?_
  refine rEnd ?_
  refine run_seq ?_
  refine run_reg rfl ?_
  refine rVal rfl rfl (yas rfl) ?_
  refine rEnd ?_
  refine run_seq ?_
  refine run_seq ?_
  refine run_reg rfl ?_
  refine rVal rfl rfl (yas rfl) ?_
  refine rEnd ?_
  refine run_block ?_
  refine run_loop (α := Nat × Value) ((0, .slice none 0 0)) (fun i => [(0, ptr q 0), (3, i.2), (4, I (i.1 : Int))]) (fun i wi => i.1 ≤ D.B ∧ RefM wi q sv ca kp l tn mk D ∧ Sl wi i.2 9 1 i.1 ((D.imageTo i.1).map S) ∧ Ext w wi ∧ ∀ g, i.2.ownBlock = some g → w.heap.size ≤ g) (fun i => D.B - i.1) (by repeat (first | exact Sub.nil | refine Sub.cons rfl ?_)) ?hI ?hround
  case hI => exact ⟨by simp, h, Sl.nil w _ _, Ext.refl w, fun g hg => by cases hg⟩
  case hround =>
    rintro ⟨i, u⟩ wi ⟨hi, hd, hSi, hxi, hgi⟩ ih
    dsimp only
    have hM := hd.blk
    refine run_seq ?_
    refine run_seq ?_
    refine run_reg rfl ?_
    refine rVal rfl rfl (ymv rfl) ?_
    refine rVal rfl rfl (ymv rfl) ?_
    refine rVal rfl rfl ((by first | exact ync rfl | exact yncf rfl)) ?_
    refine rVal rfl rfl (yfa fl86_0 rfl) ?_
    refine rVal rfl rfl (yfa fl74_0 rfl) ?_
    refine rVal rfl rfl (yld Try.underlying3 rfl rfl hM rfl) ?_
    refine rVal rfl rfl (ylt rfl rfl) ?_
    refine rEnd ?_
    refine run_if rfl (fun hlt => ?_) (fun hlt => ?_)
    · skip
      simp only at hi hSi hgi
      refine run_skip ?_
      refine run_seq ?_
      refine run_block ?_
      refine run_reg rfl ?_
      refine rVal rfl rfl (ymv rfl) ?_
      refine rVal rfl rfl (ymv rfl) ?_
      refine rVal rfl rfl (ymv rfl) ?_
      refine rCall rfl rfl (yc (args := [.tmp 15, .tmp 16]) cf87 rfl) (rnow_ret i hd (by omega) hc) ?_
      rintro _ w2 ⟨rfl, rfl⟩
      refine rValP rfl rfl (pbs (parts := [(0, .tmp 17)]) (cs := [_]) (zs := [Value.string ⟨#[]⟩]) Try.underlying47 ti9 rfl (by kernel_rfl) rfl rfl rfl (by decide)) ?_
      rintro _ w3 ⟨b3, rfl, ⟨hb3, hx3, hB3⟩, hS3⟩
      refine rValP rfl rfl (pap Try.underlying47 ti9 rfl (by decide) rfl rfl (hSi.ext hx3) hS3.rd (by intro c hc; simp at hc; subst hc; rfl) (by omega) (by omega)) ?_
      rintro v' w4 ⟨hS4, hk4, hown4, -⟩
      have hgo : ∀ g, u.ownBlock = some g → ¬ fpR q sv ca kp g := fun g hg hf => by
        have := hgi g hg
        have := hfl g hf
        omega
      have hd4 := (hd.ext hx3).carry hk4 fun k hk hu => hgo k hu hk
      refine rVal rfl rfl (yas rfl) ?_
      refine rEnd ?_
      refine run_inBlock ?_
      refine run_reg rfl ?_
      refine rVal rfl rfl (ymv rfl) ?_
      refine rVal rfl rfl (yad rfl rfl (by omega)) ?_
      refine rVal rfl rfl (yas rfl) ?_
      refine rEnd ?_
      refine (ih (i + 1, v') w4 ⟨by show i + 1 ≤ D.B; omega, hd4, ?_, (hxi.trans hx3).trans_new hk4 (fun k hk => hgi k hk), fun g hg => ?_⟩ (by show D.B - (i + 1) < D.B - i; omega)).sub (by repeat (first | exact Sub.nil | refine Sub.cons rfl ?_))
      · rw [imageTo_succ, List.map_append]; exact hS4
      · rcases hown4 g hg with h' | h'
        · exact hgi g h'
        · have := hxi.size; have := hx3.size; omega
    · skip
      simp only at hi hSi hgi
      have hin : i = D.B := by omega
      subst hin
      refine run_exit rfl ?_
      refine run_seq ?_
      refine run_reg rfl ?_
      refine rVal rfl rfl (ymv rfl) ?_
      refine rVal rfl rfl (yas rfl) ?_
      refine rEnd ?_
      refine run_ret Try.func79 rfl ?_
      exact ⟨_, rfl, hSi, hxi, hgi⟩
end Go.Proofs.Ytdapkfppcaaohaa
