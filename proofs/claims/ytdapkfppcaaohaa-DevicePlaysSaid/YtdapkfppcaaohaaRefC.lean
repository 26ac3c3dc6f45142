/- The document's device (wattleref04): the fall walked. -/
import Derived.Test.YtdapkfppcaaohaaRefB
namespace Go.Proofs.Ytdapkfppcaaohaa
open Go Go.RowKit
set_option linter.all false
set_option maxRecDepth 100000

/-- One block is safe with other bytes. -/
theorem safes_put (D : Dev) (n : Nat) (s : Bytes) (h : n < D.B) : Dev.safes { D with sf := upd D.sf (n : Int) s } = D.safes.set n s := by
  apply List.ext_getElem?
  intro j
  rw [List.getElem?_set]
  simp only [safes_length, Dev.safes, List.getElem?_map, List.getElem?_range']
  by_cases hj : j < D.B
  · by_cases hn : n = j
    · subst hn
      simp [hj, Dev.kept, upd]
    · have hne : ¬ ((j : Int) = (n : Int)) := by omega
      simp [hj, hn, Dev.kept, upd, hne]
  · by_cases hn : n = j
    · omega
    · simp [hj, hn]

/-- What reads as a slice reads on, if its cells stay (an empty one has none). -/
theorem Rd.kp0 {S : Nat → Prop} {w w' : World} {v : Value} {size n : Nat} {cs : List Value} (h : Rd w v size n cs) (k : Kp S w w') (hn : 0 < n → ∀ g, v.ownBlock = some g → ¬ S g) : Rd w' v size n cs := by
  rcases Nat.eq_zero_or_pos n with h0 | h0
  · subst h0
    refine ⟨h.1, ?_⟩
    have hl : cs = [] := List.eq_nil_of_length_eq_zero (by have := h.1; omega)
    rcases h.2 with h2 | ⟨b, off, cap, e, -⟩
    · exact .inl h2
    · exact .inr ⟨b, off, cap, e, fun j u hj => by rw [hl] at hj; simp at hj⟩
  · exact h.kp k (hn h0)
theorem Rd.lt0 {w : World} {v : Value} {size n g : Nat} {cs : List Value} (h : Rd w v size n cs) (hs : 0 < size) (hn : 0 < n) (hg : v.ownBlock = some g) : g < w.heap.size := by
  rcases h.2 with ⟨c, -, h2⟩ | ⟨b, off, cap, e, hc⟩
  · omega
  · rw [e] at hg
    have e2 : b = g := Option.some.inj hg
    subst e2
    have hl : 0 < cs.length := by rw [h.1]; exact Nat.mul_pos hn hs
    exact World.block_lt_of_cell? w _ (hc 0 cs[0] (List.getElem?_eq_getElem hl))

section
variable {w w' : World} {q gs caps : Nat} {ca kp : Value} {l : List Int} {tn : Int} {mk : UInt8} {D : Dev}
theorem RefM.sepS (h : RefM w q (.slice (some ⟨gs, 0, none⟩) D.B caps) ca kp l tn mk D) : ¬ q = gs ∧ ca.ownBlock ≠ some gs ∧ kp.ownBlock ≠ some gs := by
  obtain ⟨xs, fz', hx⟩ := sl_block h.safe (b := gs) rfl
  refine ⟨fun e => h.sep.1 (by rw [e]; rfl), fun e => ?_, fun e => ?_⟩
  · obtain ⟨ys, fy, hy⟩ := sl_block h.cache e
    rw [hx] at hy
    exact absurd (Obj.cells.inj (Option.some.inj hy)).2.1 (by decide)
  · obtain ⟨ys, fy, hy⟩ := sl_block h.keep e
    rw [hx] at hy
    exact absurd (Obj.cells.inj (Option.some.inj hy)).2.1 (by decide)
/-- A block has been made safe with other bytes. -/
theorem RefM.put {n : Nat} {s : Bytes} (h : RefM w q (.slice (some ⟨gs, 0, none⟩) D.B caps) ca kp l tn mk D) (hS : Sl w' (.slice (some ⟨gs, 0, none⟩) D.B caps) 9 1 D.B ((D.safes.map S).set n (S s))) (k : Kp (fun i => i = gs) w w') (hn : n < D.B) (hs : s.length = 512 * D.N) :
    RefM w' q (.slice (some ⟨gs, 0, none⟩) D.B caps) ca kp l tn mk { D with sf := upd D.sf (n : Int) s } := by
  obtain ⟨s1, s2, s3⟩ := h.sepS
  refine ⟨k.blk h.blk s1, ?_, h.cache.kp k (fun g hg e => s2 (by rw [hg, e])), h.keep.kp k (fun g hg e => s3 (by rw [hg, e])), h.crash, h.ok.put ⟨by omega, by omega⟩ hs, h.len⟩
  rw [safes_put D n s hn, List.map_set]
  exact hS

theorem sl_cell1 {w : World} {g n cap e j : Nat} {cs : List Value} {u : Value} (h : Sl w (.slice (some ⟨g, 0, none⟩) n cap) e 1 n cs) (hu : cs[j]? = some u) : w.cell? ⟨g, 0 + j * 1, none⟩ = some u := by
  obtain ⟨-, ⟨hz, -⟩ | ⟨g1, cap1, cur, hv1, hb, hg, hn, hm, hsz, htk⟩⟩ := h
  · cases hz
  · cases hv1
    have h1 : cur.toList[j]? = some u := by
      rw [← htk, List.getElem?_take] at hu
      split at hu
      · exact hu
      · cases hu
    simp [World.cell?, hg]
    simpa using h1
set_option maxHeartbeats 1000000 in
theorem rfall_ret {w : World} {q gs caps : Nat} {ca kp cv : Value} {l' : List Int} {tn' : Int} {mk' : UInt8} {D : Dev} (h : RefM w q (.slice (some ⟨gs, 0, none⟩) D.B caps) ca kp l' tn' mk' D) (l : List Int) (tn : Int) (mk : UInt8) (hl : l.length ≤ 17592186044416) (hr : Rd w cv 1 l.length (l.map I)) (hg : 0 < l.length → cv.ownBlock ≠ some gs) (hc2 : D.cache.length < 2000000000000) :
    Ret Try.prog 86 [ptr q 0, .agg #[cv, I tn, u8v mk]] w fun v w' => v = .tuple #[] ∧ RefM w' q (.slice (some ⟨gs, 0, none⟩) D.B caps) (.slice none 0 0) kp l' tn' mk' (D.fall l tn mk) ∧ Kp (fun k => k = q ∨ k = gs) w w' := by
  have hlen := h.ok.len
  have hN := h.ok.hN
  have hB := h.ok.hB
  have hmk := mk.toNat_lt
  have hgw := h.lt gs (.inr (.inl rfl))
  have hqg := h.sepS.1
  obtain ⟨a, cap, rfl, ha⟩ := h.cache.rd.shape
  obtain ⟨ac, capc, rfl, hac⟩ := hr.shape
  refine ret_of_run (e := [(0, _), (1, _)]) Try.func86 rfl Try.ntmps86 rfl rfl ?_
  refine run_seq ?_
  refine run_reg rfl ?_
  refine rValP rfl rfl (pbx rfl rfl) ?_
  rintro _ w1 ⟨b3, rfl, hb3, hx1, hB3⟩
  have h0 := h.ext hx1
  have hs1 := hx1.size
  replace hr := hr.ext hx1
  have hlt3 := hB3.lt
  refine rEnd ?_
  refine run_seq ?_
  refine run_seq ?_
  refine run_reg rfl ?_
  refine rVal rfl rfl (yas rfl) ?_
  refine rEnd ?_
  refine run_block ?_
  refine run_loop (α := Nat) (0) (fun i => [(0, ptr q 0), (3, ptr b3 0), (4, I (i : Int))]) (fun i wi => i ≤ D.cache.length ∧ RefM wi q (.slice (some ⟨gs, 0, none⟩) D.B caps) (.slice a D.cache.length cap) kp l' tn' mk' { D with sf := D.fallTo l tn mk i } ∧ Rd wi (.slice ac l.length capc) 1 l.length (l.map I) ∧ Blk wi b3 [.slice ac l.length capc, I tn, u8v mk] 45 ∧ Kp (fun k => k = gs) w1 wi) (fun i => D.cache.length - i) (by repeat (first | exact Sub.nil | refine Sub.cons rfl ?_)) ?hI ?hround
  case hI => exact ⟨by omega, h0, hr, hB3, Kp.refl _ _⟩
  case hround =>
    rintro i wi ⟨hi, hd, hri, hB3i, hki⟩ ih
    dsimp only
    have hszi := hki.size
    have hMi := hd.blk
    refine run_seq ?_
    refine run_seq ?_
    refine run_reg rfl ?_
    refine rVal rfl rfl (ymv rfl) ?_
    refine rVal rfl rfl (ymv rfl) ?_
    refine rVal rfl rfl ((by first | exact ync rfl | exact yncf rfl)) ?_
    refine rVal rfl rfl (yfa fl86_2 rfl) ?_
    refine rVal rfl rfl (yld Try.underlying84 rfl rfl hMi rfl) ?_
    refine rVal rfl rfl (yln Try.underlying84 rfl) ?_
    refine rVal rfl rfl (ylt rfl rfl) ?_
    refine rEnd ?_
    refine run_if rfl (fun hlt => ?_) (fun hlt => ?_)
    · skip
      have hlt' : i < D.cache.length := by omega
      have hcache := hd.cache
      rcases hcache.shape with ⟨-, h⟩ | ⟨gb, cap', hva, hcap⟩
      · exact absurd h (by show ¬ D.cache.length = 0; omega)
      cases hva
      obtain ⟨x, hx⟩ : ∃ x, D.cache[i]? = some x := ⟨_, List.getElem?_eq_getElem hlt'⟩
      have hxe : D.cache[i] = x := by rw [List.getElem?_eq_getElem hlt'] at hx; exact Option.some.inj hx
      have hcs : ((wrs D.cache).drop (i * 2)).take 2 = wr x := by rw [wrs_get _ _ hlt', hxe]
      have hxok := hd.ok.cache x (List.mem_of_getElem? hx)
      obtain ⟨xn, xd⟩ := x
      simp only at hxok
      obtain ⟨m, rfl⟩ : ∃ m : Nat, xn = m := ⟨xn.toNat, by omega⟩
      have hmB : m < D.B := by omega
      have hcp := hcache.part hcs
      refine run_skip ?_
      refine run_seq ?_
      refine run_block ?_
      refine run_seq ?_
      refine run_reg rfl ?_
      refine rVal rfl rfl (ymv rfl) ?_
      refine rVal rfl rfl ((by first | exact ync rfl | exact yncf rfl)) ?_
      refine rVal rfl rfl (yfa fl86_2 rfl) ?_
      refine rVal rfl rfl (yld Try.underlying84 rfl rfl hMi rfl) ?_
      refine rVal rfl rfl (ymv rfl) ?_
      refine rVal rfl rfl (yis Try.underlying84 ti128 rfl rfl (by omega)) ?_
      refine rVal rfl rfl (yldA Try.underlying128 rfl ti128 rfl hcp rfl) ?_
      refine rValP rfl rfl (pal (cs := [_, _]) ti128 rfl) ?_
      rintro _ w2 ⟨b5, rfl, hb5, hx2, hB5⟩
      refine rEffP rfl (zstA ti128 rfl rfl rfl rfl hB5 (by simp)) ?_
      rintro w3 ⟨hB5', hk3⟩
      replace hB5' : Blk w3 b5 [I (m : Int), S xd] 128 := hB5'
      have hx3 : Ext wi w3 := hx2.trans_new hk3 (fun j hj => by omega)
      have hlt5 := hB5'.lt
      replace hd := hd.ext hx3
      replace hri := hri.ext hx3
      replace hB3i := hx3.blk hB3i
      have hl3 := hB3i.lt
      have hk03 : Kp (fun k => k = gs) w1 w3 := hki.trans hx3.kp
      have hsz3 := hx3.size
      have hne35 : ¬ b3 = b5 := by have := hx2.size; have := hB3i; omega
      have hMd := hd.blk
      have hfl := hd.lt
      obtain ⟨d1, d2, d3⟩ := RefM.sepS (D := { D with sf := D.fallTo l tn mk i }) hd
      refine rEnd ?_
      refine run_seq ?_
      refine run_reg rfl ?_
      refine rVal rfl rfl (ymv rfl) ?_
      refine rVal rfl rfl (yfa fl45_1 rfl) ?_
      refine rVal rfl rfl ((by first | exact yld Try.underlying3 rfl rfl hB3i rfl | exact yld Try.underlying3 rfl rfl hB5' rfl)) ?_
      refine rVal rfl rfl (yeq rfl rfl) ?_
      refine rEnd ?_
      refine run_if rfl (fun htn => ?_) (fun htn => ?_)
      · skip
        refine run_seq ?_
        obtain ⟨k0, hk0⟩ : ∃ k0, Dev.kept { D with sf := D.fallTo l tn mk i } (m : Int) = k0 := ⟨_, rfl⟩
        have hk0l : k0.length = 512 * D.N := by rw [← hk0]; exact hd.ok.kept (m : Int)
        refine run_draw (fun w' => Ext w3 w') (by kernel_rfl) rfl ?_
        refine hTake (i := 0) rfl (by kernel_rfl) rfl rfl (fun _ hS => ymv rfl) (Ext.drew0 w3) ?_
        refine hTake (i := 1) rfl (by kernel_rfl) rfl rfl (fun _ hS => (by first | exact ync rfl | exact yncf rfl)) (Ext.drew0 w3) ?_
        refine hTake (i := 2) rfl (by kernel_rfl) rfl rfl (fun _ hS => yfa fl86_1 rfl) (Ext.drew0 w3) ?_
        refine hTake (i := 3) rfl (by kernel_rfl) rfl rfl (fun _ hS => (by first | exact yld Try.underlying47 rfl rfl (hS.blk hMd) rfl | exact yld Try.underlying47 rfl rfl (hS.blk hB5') rfl)) (Ext.drew0 w3) ?_
        refine hTake (i := 4) rfl (by kernel_rfl) rfl rfl (fun _ hS => yfa fl128_0 rfl) (Ext.drew0 w3) ?_
        refine hTake (i := 5) rfl (by kernel_rfl) rfl rfl (fun _ hS => (by first | exact yld Try.underlying3 rfl rfl (hS.blk hMd) rfl | exact yld Try.underlying3 rfl rfl (hS.blk hB5') rfl)) (Ext.drew0 w3) ?_
        refine hTake (i := 6) rfl (by kernel_rfl) rfl rfl (fun _ hS => yis Try.underlying47 ti9 rfl rfl (by omega)) (Ext.drew0 w3) ?_
        refine hTake (i := 7) rfl (by kernel_rfl) rfl rfl (fun _ hS => yldc Try.underlying9 rfl rfl (sl_cell1 (hd.safe.ext hS) (u := S k0) (by rw [← hk0, List.getElem?_map, safes_get { D with sf := D.fallTo l tn mk i } m hmB]; rfl))) (Ext.drew0 w3) ?_
        refine hOne (i := 8) (by kernel_rfl) ?_
        refine nValP (i := 8) rfl rfl rfl (pS2B Try.underlying9 Try.underlying30 Try.underlying5 rfl) ?_
        rintro _ w5 ⟨bb, capb, rest, rfl, ⟨hbb, hx5, hBb⟩, hcapb⟩
        refine ⟨(Ext.drew0 w3).trans hx5, ?_⟩
        have hx35 : Ext w3 w5 := (Ext.drew0 w3).trans hx5
        have hd5 := hd.ext hx35
        have hri5 := hri.ext hx35
        have hB35 := hx35.blk hB3i
        have hB55 := hx35.blk hB5'
        have hltb := hBb.lt
        have hM5 := hd5.blk
        have hsz35 := hx35.size
        have hltq := hd.blk.lt
        have hbbw : w3.heap.size ≤ bb := by have := hbb; simp at this; omega
        refine hTake (i := 9) rfl (by kernel_rfl) rfl rfl (fun _ hS => yas rfl) ((Ext.drew0 w3).trans hx5) ?_
        refine hEnd (by kernel_rfl) ?_
        refine run_seq ?_
        refine run_seq ?_
        refine run_reg rfl ?_
        refine rVal rfl rfl (yas rfl) ?_
        refine rEnd ?_
        refine run_block ?_
        refine run_loop (α := Nat) (0) (fun s => [(0, ptr q 0), (3, ptr b3 0), (4, I (i : Int)), (5, ptr b5 0), (6, .slice (some ⟨bb, 0, none⟩) k0.length capb), (7, I (s : Int))]) (fun s ws => s ≤ D.N ∧ Blk ws bb ((mixN mk k0 xd s).map u8v ++ rest) 5 ∧ Kp (fun k => k = bb) w5 ws) (fun s => D.N - s) (by repeat (first | exact Sub.nil | refine Sub.cons rfl ?_)) ?hI ?hround
        case hI => exact ⟨by omega, hBb, Kp.refl _ _⟩
        case hround =>
          rintro s ws ⟨hs, hBs, hks⟩ ihs
          dsimp only
          have hB3s := hks.blk hB35 (by omega)
          have hB5s := hks.blk hB55 (by omega)
          have hMs := hks.blk hM5 (by omega)
          have hml := mixN_length mk k0 xd D.N hk0l hxok.2.2 s hs
          refine run_seq ?_
          refine run_seq ?_
          refine run_reg rfl ?_
          refine rVal rfl rfl (ymv rfl) ?_
          refine rVal rfl rfl (ymv rfl) ?_
          refine rVal rfl rfl ((by first | exact ync rfl | exact yncf rfl)) ?_
          refine rVal rfl rfl (yfa fl86_0 rfl) ?_
          refine rVal rfl rfl (yfa fl74_1 rfl) ?_
          refine rVal rfl rfl ((by first | exact yld Try.underlying3 rfl rfl hB3s rfl | exact yld Try.underlying3 rfl rfl hMs rfl)) ?_
          refine rVal rfl rfl (ylt rfl rfl) ?_
          refine rEnd ?_
          refine run_if rfl (fun hls => ?_) (fun hls => ?_)
          · skip
            have hls' : s < D.N := by have h : (s : Int) < (D.N : Int) := hls; omega
            obtain ⟨z, hz⟩ : ∃ z, mk.toNat / 2 ^ s = z := ⟨_, rfl⟩
            have hzm : z < 256 := by rw [← hz]; exact Nat.lt_of_le_of_lt (Nat.div_le_self _ _) hmk
            refine run_skip ?_
            refine run_seq ?_
            refine run_block ?_
            refine run_seq ?_
            refine run_reg rfl ?_
            refine rVal rfl rfl (yfa fl45_2 rfl) ?_
            refine rVal rfl rfl ((by first | exact yld Try.underlying5 rfl rfl hB3s rfl | exact yld Try.underlying5 rfl rfl hMs rfl)) ?_
            refine rVal rfl rfl (ymv rfl) ?_
            refine rVal rfl rfl (ysrN s (2 ^ s) rfl rfl (by simp only [IntKind.bits]; omega) rfl) ?_
            rw [hz]
            refine rVal rfl rfl (yreU rfl rfl (by omega)) ?_
            refine rVal rfl rfl (yeq rfl rfl) ?_
            refine rEnd ?_
            refine run_if rfl (fun hbit => ?_) (fun hbit => ?_)
            · skip
              have hbit' : z % 2 = 1 := by omega
              refine run_draw (fun w' => Kp (fun k => k = bb) ws w') (by kernel_rfl) rfl ?_
              refine hTake (i := 0) rfl (by kernel_rfl) rfl rfl (fun _ hS => ymv rfl) ((Kp.refl _ ws).drew) ?_
              refine hTake (i := 1) rfl (by kernel_rfl) rfl rfl (fun _ hS => ymv rfl) ((Kp.refl _ ws).drew) ?_
              refine hTake (i := 2) rfl (by kernel_rfl) rfl rfl (fun _ hS => yml rfl rfl (by omega)) ((Kp.refl _ ws).drew) ?_
              refine hTake (i := 3) rfl (by kernel_rfl) rfl rfl (fun _ hS => ymv rfl) ((Kp.refl _ ws).drew) ?_
              refine hTake (i := 4) rfl (by kernel_rfl) rfl rfl (fun _ hS => yml rfl rfl (by omega)) ((Kp.refl _ ws).drew) ?_
              refine hTake (i := 5) rfl (by kernel_rfl) rfl rfl (fun _ hS => yad rfl rfl (by omega)) ((Kp.refl _ ws).drew) ?_
              refine hTake (i := 7) rfl (by kernel_rfl) rfl rfl (fun _ hS => yfa fl128_1 rfl) ((Kp.refl _ ws).drew) ?_
              refine hTake (i := 8) rfl (by kernel_rfl) rfl rfl (fun _ hS => yld Try.underlying9 rfl rfl (hS.blk hB5s (by omega)) rfl) ((Kp.refl _ ws).drew) ?_
              refine hTake (i := 9) rfl (by kernel_rfl) rfl rfl (fun _ hS => ymv rfl) ((Kp.refl _ ws).drew) ?_
              refine hTake (i := 10) rfl (by kernel_rfl) rfl rfl (fun _ hS => yml rfl rfl (by omega)) ((Kp.refl _ ws).drew) ?_
              refine hTake (i := 11) rfl (by kernel_rfl) rfl rfl (fun _ hS => ymv rfl) ((Kp.refl _ ws).drew) ?_
              refine hTake (i := 12) rfl (by kernel_rfl) rfl rfl (fun _ hS => yml rfl rfl (by omega)) ((Kp.refl _ ws).drew) ?_
              refine hTake (i := 13) rfl (by kernel_rfl) rfl rfl (fun _ hS => yad rfl rfl (by omega)) ((Kp.refl _ ws).drew) ?_
              refine hTake (i := 14) rfl (by kernel_rfl) rfl rfl (fun _ hS => yslS Try.underlying9 rfl rfl rfl (by omega)) ((Kp.refl _ ws).drew) ?_
              refine hTake (i := 6) rfl (by kernel_rfl) rfl rfl (fun _ hS => yslV (i := 512 * s) (j := 512 * s + 512) Try.underlying30 ti5 rfl rfl rfl (by omega) (by omega)) ((Kp.refl _ ws).drew) ?_
              refine hOne (i := 15) (by kernel_rfl) ?_
              refine nValP (i := 15) rfl rfl rfl (pcpS Try.underlying30 ti5 rfl rfl ((Ext.drew0 ws).blk hBs) (by simp [hml]; omega)) ?_
              rintro _ w6 ⟨rfl, hB6, hk6⟩
              refine ⟨(Kp.refl _ ws).drew.trans hk6, ?_⟩
              have e6 : (((xd.drop (512 * s)).take (512 * s + 512 - 512 * s)).take (512 * s + 512 - 512 * s)).map u8v = ((xd.drop (512 * s)).take 512).map u8v := by
                rw [show 512 * s + 512 - 512 * s = 512 by omega, List.take_take, Nat.min_self]
              rw [e6, show 0 + 512 * s * 1 = 512 * s by omega, splice_map _ _ _ _ (by simp [hml, hxok.2.2]; omega)] at hB6
              have em : mixN mk k0 xd (s + 1) = splB (mixN mk k0 xd s) (512 * s) ((xd.drop (512 * s)).take 512) := by
                simp only [mixN, hz, hbit', if_true]
              rw [← em] at hB6
              refine hEnd (by kernel_rfl) ?_
              refine run_inBlock ?_
              refine run_reg rfl ?_
              refine rVal rfl rfl (ymv rfl) ?_
              refine rVal rfl rfl (yad rfl rfl (by omega)) ?_
              refine rVal rfl rfl (yas rfl) ?_
              refine rEnd ?_
              exact (ihs (s + 1) w6 ⟨by omega, hB6, hks.trans ((Kp.refl _ ws).drew.trans hk6)⟩ (by omega)).sub (by repeat (first | exact Sub.nil | refine Sub.cons rfl ?_))
            · skip
              have hbit' : ¬ z % 2 = 1 := by omega
              have em : mixN mk k0 xd (s + 1) = mixN mk k0 xd s := by simp only [mixN, hz, hbit', if_false]
              rw [← em] at hBs
              refine run_skip ?_
              refine run_inBlock ?_
              refine run_reg rfl ?_
              refine rVal rfl rfl (ymv rfl) ?_
              refine rVal rfl rfl (yad rfl rfl (by omega)) ?_
              refine rVal rfl rfl (yas rfl) ?_
              refine rEnd ?_
              exact (ihs (s + 1) ws ⟨by omega, hBs, hks⟩ (by omega)).sub (by repeat (first | exact Sub.nil | refine Sub.cons rfl ?_))
          · skip
            have hsN : s = D.N := by have h : ¬ (s : Int) < (D.N : Int) := hls; omega
            subst hsN
            have hxs : Ext w3 ws := hx35.trans_new hks (fun j hj => by omega)
            have hds := hd.ext hxs
            have hMs2 := hds.blk
            have hris := hri.ext hxs
            refine run_exit rfl ?_
            refine run_draw (fun w' => Kp (fun k => k = gs) ws w') (by kernel_rfl) rfl ?_
            refine hTake (i := 0) rfl (by kernel_rfl) rfl rfl (fun _ hS => ymv rfl) ((Kp.refl _ ws).drew) ?_
            refine hTake (i := 1) rfl (by kernel_rfl) rfl rfl (fun _ hS => (by first | exact ync rfl | exact yncf rfl)) ((Kp.refl _ ws).drew) ?_
            refine hTake (i := 2) rfl (by kernel_rfl) rfl rfl (fun _ hS => yfa fl86_1 rfl) ((Kp.refl _ ws).drew) ?_
            refine hTake (i := 3) rfl (by kernel_rfl) rfl rfl (fun _ hS => (by first | exact yld Try.underlying47 rfl rfl (hS.blk hMs2 d1) rfl | exact yld Try.underlying47 rfl rfl (hS.blk hB5s (by omega)) rfl)) ((Kp.refl _ ws).drew) ?_
            refine hTake (i := 4) rfl (by kernel_rfl) rfl rfl (fun _ hS => yfa fl128_0 rfl) ((Kp.refl _ ws).drew) ?_
            refine hTake (i := 5) rfl (by kernel_rfl) rfl rfl (fun _ hS => (by first | exact yld Try.underlying3 rfl rfl (hS.blk hMs2 d1) rfl | exact yld Try.underlying3 rfl rfl (hS.blk hB5s (by omega)) rfl)) ((Kp.refl _ ws).drew) ?_
            refine hTake (i := 6) rfl (by kernel_rfl) rfl rfl (fun _ hS => ymv rfl) ((Kp.refl _ ws).drew) ?_
            refine hTake (i := 7) rfl (by kernel_rfl) rfl rfl (fun _ hS => yB2S (l := mixN mk k0 xd D.N) Try.underlying30 Try.underlying5 Try.underlying9 rfl (hS.blk hBs (by omega)) (bytes_whole _ _ _ (by omega)) (by omega)) ((Kp.refl _ ws).drew) ?_
            refine hTake (i := 8) rfl (by kernel_rfl) rfl rfl (fun _ hS => yis Try.underlying47 ti9 rfl rfl (by omega)) ((Kp.refl _ ws).drew) ?_
            refine hOne (i := 9) (by kernel_rfl) ?_
            refine nEffP (i := 9) rfl rfl (zstSl ti9 rfl rfl rfl (hds.safe.ext (Ext.drew0 ws)) (by simp; omega)) ?_
            rintro w7 ⟨hS7, hk7⟩
            refine ⟨(Kp.refl _ ws).drew.trans hk7, ?_⟩
            have hk7' := (Kp.refl (fun i => i = gs) ws).drew.trans hk7
            have hd7 := RefM.put (D := { D with sf := D.fallTo l tn mk i }) (n := m) (s := mixN mk k0 xd D.N) hds (by simpa using hS7) hk7' hmB (mixN_length mk k0 xd D.N hk0l hxok.2.2 D.N (Nat.le_refl _))
            have ef : upd (D.fallTo l tn mk i) (m : Int) (mixN mk k0 xd D.N) = D.fallTo l tn mk (i + 1) := by
              rw [fallTo_at hx, if_pos htn, ← hk0]; rfl
            simp only [ef] at hd7
            refine hEnd (by kernel_rfl) ?_
            refine run_inBlock ?_
            refine run_reg rfl ?_
            refine rVal rfl rfl (ymv rfl) ?_
            refine rVal rfl rfl (yad rfl rfl (by omega)) ?_
            refine rVal rfl rfl (yas rfl) ?_
            refine rEnd ?_
            exact (ih (i + 1) w7 ⟨by omega, hd7, hris.kp0 hk7' (fun h0 g hg' e => hg h0 (by rw [hg', e])), hk7'.blk hB3s (by omega), hk03.trans (hxs.kp.trans hk7')⟩ (by omega)).sub (by repeat (first | exact Sub.nil | refine Sub.cons rfl ?_))
      · skip
        refine run_seq ?_
        refine run_reg rfl ?_
        refine rVal rfl rfl (yfa fl45_0 rfl) ?_
        refine rVal rfl rfl ((by first | exact yld Try.underlying43 rfl rfl hB3i rfl | exact yld Try.underlying43 rfl rfl hB5' rfl)) ?_
        refine rVal rfl rfl (ymv rfl) ?_
        refine rCall rfl rfl (yc (args := [.tmp 78, .tmp 79]) cf91 rfl) (rhas_ret (.slice ac l.length capc) l (i : Int) w3 hl hri) ?_
        rintro _ w4 ⟨rfl, rfl⟩
        refine rEnd ?_
        refine run_if rfl (fun hin => ?_) (fun hin => ?_)
        · skip
          refine run_draw (fun w' => Kp (fun k => k = gs) w4 w') (by kernel_rfl) rfl ?_
          refine hTake (i := 0) rfl (by kernel_rfl) rfl rfl (fun _ hS => ymv rfl) ((Kp.refl _ w4).drew) ?_
          refine hTake (i := 1) rfl (by kernel_rfl) rfl rfl (fun _ hS => (by first | exact ync rfl | exact yncf rfl)) ((Kp.refl _ w4).drew) ?_
          refine hTake (i := 2) rfl (by kernel_rfl) rfl rfl (fun _ hS => yfa fl86_1 rfl) ((Kp.refl _ w4).drew) ?_
          refine hTake (i := 3) rfl (by kernel_rfl) rfl rfl (fun _ hS => (by first | exact yld Try.underlying47 rfl rfl (hS.blk hMd d1) rfl | exact yld Try.underlying47 rfl rfl (hS.blk hB5' (by omega)) rfl)) ((Kp.refl _ w4).drew) ?_
          refine hTake (i := 4) rfl (by kernel_rfl) rfl rfl (fun _ hS => yfa fl128_0 rfl) ((Kp.refl _ w4).drew) ?_
          refine hTake (i := 5) rfl (by kernel_rfl) rfl rfl (fun _ hS => (by first | exact yld Try.underlying3 rfl rfl (hS.blk hMd d1) rfl | exact yld Try.underlying3 rfl rfl (hS.blk hB5' (by omega)) rfl)) ((Kp.refl _ w4).drew) ?_
          refine hTake (i := 6) rfl (by kernel_rfl) rfl rfl (fun _ hS => yfa fl128_1 rfl) ((Kp.refl _ w4).drew) ?_
          refine hTake (i := 7) rfl (by kernel_rfl) rfl rfl (fun _ hS => (by first | exact yld Try.underlying9 rfl rfl (hS.blk hMd d1) rfl | exact yld Try.underlying9 rfl rfl (hS.blk hB5' (by omega)) rfl)) ((Kp.refl _ w4).drew) ?_
          refine hTake (i := 8) rfl (by kernel_rfl) rfl rfl (fun _ hS => yis Try.underlying47 ti9 rfl rfl (by omega)) ((Kp.refl _ w4).drew) ?_
          refine hOne (i := 9) (by kernel_rfl) ?_
          refine nEffP (i := 9) rfl rfl (zstSl ti9 rfl rfl rfl (hd.safe.ext (Ext.drew0 w4)) (by simp; omega)) ?_
          rintro w7 ⟨hS7, hk7⟩
          refine ⟨(Kp.refl _ w4).drew.trans hk7, ?_⟩
          have hk7' := (Kp.refl (fun i => i = gs) w4).drew.trans hk7
          have hd7 := RefM.put (D := { D with sf := D.fallTo l tn mk i }) (n := m) (s := xd) hd (by simpa using hS7) hk7' hmB hxok.2.2
          have ef : upd (D.fallTo l tn mk i) (m : Int) xd = D.fallTo l tn mk (i + 1) := by
            rw [fallTo_at hx, if_neg htn, if_pos hin]
          simp only [ef] at hd7
          refine hEnd (by kernel_rfl) ?_
          refine run_inBlock ?_
          refine run_reg rfl ?_
          refine rVal rfl rfl (ymv rfl) ?_
          refine rVal rfl rfl (yad rfl rfl (by omega)) ?_
          refine rVal rfl rfl (yas rfl) ?_
          refine rEnd ?_
          exact (ih (i + 1) w7 ⟨by omega, hd7, hri.kp0 hk7' (fun h0 g hg' e => hg h0 (by rw [hg', e])), hk7'.blk hB3i (by omega), hk03.trans hk7'⟩ (by omega)).sub (by repeat (first | exact Sub.nil | refine Sub.cons rfl ?_))
        · skip
          have ef : D.fallTo l tn mk i = D.fallTo l tn mk (i + 1) := by
            rw [fallTo_at hx, if_neg htn, if_neg hin]
          rw [ef] at hd
          refine run_skip ?_
          refine run_inBlock ?_
          refine run_reg rfl ?_
          refine rVal rfl rfl (ymv rfl) ?_
          refine rVal rfl rfl (yad rfl rfl (by omega)) ?_
          refine rVal rfl rfl (yas rfl) ?_
          refine rEnd ?_
          exact (ih (i + 1) w4 ⟨by omega, hd, hri, hB3i, hk03⟩ (by omega)).sub (by repeat (first | exact Sub.nil | refine Sub.cons rfl ?_))
    · skip
      have hin : i = D.cache.length := by omega
      subst hin
      refine run_exit rfl ?_
      refine run_seq ?_
      refine run_reg rfl ?_
      refine rVal rfl rfl (ymv rfl) ?_
      refine rVal rfl rfl ((by first | exact ync rfl | exact yncf rfl)) ?_
      refine rVal rfl rfl (yfa fl86_2 rfl) ?_
      refine rEffP rfl (zst ti84 rfl rfl rfl hMi (by simp)) ?_
      rintro w5 ⟨hB5, hk5⟩
      refine rEnd ?_
      refine run_seq ?_
      refine run_reg rfl ?_
      refine rVal rfl rfl (ymv rfl) ?_
      refine rVal rfl rfl ((by first | exact ync rfl | exact yncf rfl)) ?_
      refine rVal rfl rfl (yfa fl86_3 rfl) ?_
      refine rEffP rfl (zst ti3 rfl rfl rfl hB5 (by simp)) ?_
      rintro w6 ⟨hB6, hk6⟩
      refine rEnd ?_
      refine run_reg rfl ?_
      refine rVal rfl rfl (ymv rfl) ?_
      refine rVal rfl rfl ((by first | exact ync rfl | exact yncf rfl)) ?_
      refine rVal rfl rfl (yfa fl86_5 rfl) ?_
      refine rEffP rfl (zst ti4 rfl rfl rfl hB6 (by simp)) ?_
      rintro w7 ⟨hB7, hk7⟩
      refine rEnd ?_
      refine run_end Try.func86 rfl ?_
      have hk57 := (hk5.trans hk6).trans hk7
      obtain ⟨s1, s2, s3⟩ := hd.sep
      refine ⟨_, rfl, rfl, ⟨hB7, hd.safe.kp hk57 (fun g hg e => s1 (by rw [hg, e])), Sl.nil w7 _ _, hd.keep.kp hk57 (fun g hg e => s3 (by rw [hg, e])), fun hh => absurd rfl hh, ?_, hd.len⟩, ?_⟩
      · exact ⟨hd.ok.hB, hd.ok.hN, by simp [Dev.fall], hd.ok.sf, fun x hx => by simp [Dev.fall] at hx, by have := hlen; simp [Dev.fall]; omega, hd.ok.reads⟩
      · exact ((Ext.kp hx1).trans (hki.mono' fun _ h => .inr h)).trans (hk57.mono' fun _ h => .inl h)
end
end Go.Proofs.Ytdapkfppcaaohaa
