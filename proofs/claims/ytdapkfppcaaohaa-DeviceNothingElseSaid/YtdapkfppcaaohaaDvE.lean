/- The helpers of the statements on devices walked: written. -/
import Derived.Test.YtdapkfppcaaohaaDvD
namespace Go.Proofs.Ytdapkfppcaaohaa
open Go Go.RowKit
set_option linter.all false
set_option maxRecDepth 100000

theorem DevT.kpF {w w' : World} {p : Nat} {F : Nat → Prop} {D' : Dev} (h : DevT w p F D' w') : Kp F w w' := by
  obtain ⟨F', -, hu⟩ := h
  exact hu.1
def nrm (z b : Int) : Int := (z.tmod b + b).tmod b
theorem tmod_range (z b : Int) (hb : 0 < b) : -b < z.tmod b ∧ z.tmod b < b := by
  have h2 := Int.tmod_lt_of_pos z hb
  refine ⟨?_, h2⟩
  have h3 := Int.tmod_lt_of_pos (-z) hb
  rw [Int.neg_tmod] at h3
  omega
theorem nrm_range (z b : Int) (hb : 0 < b) : 0 ≤ nrm z b ∧ nrm z b < b := by
  obtain ⟨h1, h2⟩ := tmod_range z b hb
  unfold nrm
  exact ⟨Int.tmod_nonneg _ (by omega), Int.tmod_lt_of_pos _ hb⟩

theorem write_ok {D : Dev} {n : Int} {s : Bytes} (hd : D.down = false) (h0 : D.due = 0) (hn : 0 ≤ n ∧ n < (D.B : Int)) (hs : s.length = 512 * D.N) : D.write n s = ((D.push n s).count, 0) := by
  have hh : D.has n = true := by simp [Dev.has]; omega
  unfold Dev.write
  rw [if_neg (by simp [hd]), if_neg (by simp [hh, hs]), if_neg (by omega)]
theorem flush_ok {D : Dev} (hd : D.down = false) (h0 : D.due = 0) : D.flush = ({ D.count with sf := D.flushTo D.cache.length, cache := [] }, 0) := by
  unfold Dev.flush
  rw [if_neg (by simp [hd]), if_neg (by omega)]
/-- A device that is up, with no crash to come. -/
def Dev.Calm (D : Dev) (B N : Nat) : Prop := D.down = false ∧ D.due = 0 ∧ D.B = B ∧ D.N = N
theorem calm_push {D : Dev} {B N : Nat} (h : D.Calm B N) (n : Int) (s : Bytes) : (D.push n s).count.Calm B N := ⟨h.1, by simp [Dev.count, Dev.push, h.2.1], h.2.2.1, h.2.2.2⟩

/-- Writes read from memory. -/
structure PutsM (w : World) (v : Value) (l : List (Int × Bytes)) : Prop where
  rd : Rd w v 2 l.length (wrs l)
  len : l.length ≤ 140737488355328
  data : ∀ x ∈ l, x.2.length ≤ 140737488355328
theorem PutsM.ext {w w' : World} {v : Value} {l : List (Int × Bytes)} (h : PutsM w v l) (k : Ext w w') : PutsM w' v l := ⟨h.rd.ext k, h.len, h.data⟩
theorem rd_low {w0 w w' : World} {v : Value} {size n : Nat} {cs : List Value} {F : Nat → Prop} (h : Rd w0 v size n cs) (hx : Ext w0 w) (k : Kp F w w') (hF : ∀ i, F i → w0.heap.size ≤ i) : Rd w' v size n cs :=
  h.ext (hx.trans_new k hF)
theorem rd_get {w : World} {v : Value} {l : List (Int × Bytes)} {i : Nat} (h : Rd w v 2 l.length (wrs l)) (hi : i < l.length) : ∃ b off cap x, v = .slice (some ⟨b, off, none⟩) l.length cap ∧ l[i]? = some x := by
  rcases h.2 with ⟨c, -, hz⟩ | ⟨b, off, cap, hv, -⟩
  · omega
  · exact ⟨b, off, cap, l[i], hv, List.getElem?_eq_getElem hi⟩
theorem rd_at {w : World} {b off n cap : Nat} {l : List (Int × Bytes)} {i : Nat} {x : Int × Bytes} (h : Rd w (.slice (some ⟨b, off, none⟩) n cap) 2 n (wrs l)) (hi : i < n) (hx : l[i]? = some x) : w.cell? ⟨b, off + i * 2, none⟩ = some (I x.1) ∧ w.cell? ⟨b, off + i * 2 + 1, none⟩ = some (S x.2) := by
  rcases h.2 with ⟨c, -, hz⟩ | ⟨b', off', cap', hv, hc⟩
  · omega
  · cases hv
    obtain ⟨h1, h2⟩ := wrs_at l i x hx
    exact ⟨hc _ _ h1, by rw [Nat.add_assoc]; exact hc _ _ h2⟩

/-- What written leaves. -/
structure WrittenM (w0 w : World) (v : Value) (B N : Nat) : Prop where
  ex : ∃ (p : Nat) (D : Dev) (F : Nat → Prop) (u x : Value), v = .tuple #[ptr p 0, u, x] ∧ DevA w p D F ∧ D.Calm B N ∧ D.Small 121 ∧ Sl w u 9 1 B (D.safes.map S) ∧ Sl w x 56 2 D.cache.length (wrs D.cache) ∧ D.cache.length ≤ 60 ∧
    (∀ i, F i → w0.heap.size ≤ i ∧ u.ownBlock ≠ some i ∧ x.ownBlock ≠ some i) ∧ (∀ i, u.ownBlock = some i → w0.heap.size ≤ i ∧ x.ownBlock ≠ some i) ∧ (∀ i, x.ownBlock = some i → w0.heap.size ≤ i)
  ext : Ext w0 w
  hB : 16 ≤ B ∧ B ≤ 23
  hN : 1 ≤ N ∧ N ≤ 8

set_option maxHeartbeats 4000000 in
theorem written_ret (blocks sectors : Int) (v2 v3 : Value) (safe more : List (Int × Bytes)) (w : World) (hbl : -9223372036854775808 ≤ blocks ∧ blocks ≤ 9223372036854775807) (hse : -9223372036854775808 ≤ sectors ∧ sectors ≤ 9223372036854775807) (h2 : PutsM w v2 safe) (h3 : PutsM w v3 more) :
    Ret Try.prog 23 [I blocks, I sectors, v2, v3] w fun v w' => ∃ B N, WrittenM w w' v B N := by
  have hml : maxLen = 9223372036854775807 := rfl
  obtain ⟨a2, c2, rfl, -⟩ := h2.rd.shape
  obtain ⟨a3, c3, rfl, -⟩ := h3.rd.shape
  have hl2 := h2.len
  have hl3 := h3.len
  have r1 := tmod_range blocks 8 (by decide)
  have r2 := tmod_range sectors 8 (by decide)
  have r3 := nrm_range blocks 8 (by decide)
  have r4 := nrm_range sectors 8 (by decide)
  obtain ⟨B, hB⟩ : ∃ B : Nat, 16 + nrm blocks 8 = (B : Int) := ⟨(16 + nrm blocks 8).toNat, by omega⟩
  obtain ⟨N, hN⟩ : ∃ N : Nat, 1 + nrm sectors 8 = (N : Int) := ⟨(1 + nrm sectors 8).toNat, by omega⟩
  refine ret_of_run (e := [(0, _), (1, _), (2, _), (3, _)]) Try.func23 rfl Try.ntmps23 rfl rfl ?_
  refine run_seq ?_
  refine run_reg rfl ?_
  refine rVal rfl rfl (yas rfl) ?_
  refine rVal rfl rfl (yas rfl) ?_
  refine rVal rfl rfl (yas rfl) ?_
  refine rEnd ?_
  refine run_seq ?_
  refine run_reg rfl ?_
  refine rVal rfl rfl (ymv rfl) ?_
  refine rVal rfl rfl (yrt rfl rfl (by decide)) ?_
  refine rVal rfl rfl (yad rfl rfl (by omega)) ?_
  refine rVal rfl rfl (yrt rfl rfl (by decide)) ?_
  rw [show (blocks.tmod 8 + 8).tmod 8 = nrm blocks 8 from rfl]
  refine rVal rfl rfl (yad rfl rfl (by omega)) ?_
  refine rVal rfl rfl (ymv rfl) ?_
  refine rVal rfl rfl (yrt rfl rfl (by decide)) ?_
  refine rVal rfl rfl (yad rfl rfl (by omega)) ?_
  refine rVal rfl rfl (yrt rfl rfl (by decide)) ?_
  rw [show (sectors.tmod 8 + 8).tmod 8 = nrm sectors 8 from rfl]
  refine rVal rfl rfl (yad rfl rfl (by omega)) ?_
  refine rVal rfl rfl (ybd (parts := [(0, .tmp 23), (1, .tmp 28)]) (cs := [_, _]) ti68 rfl sp68 rfl rfl) ?_
  rw [hB, hN]
  refine rValP rfl rfl (pal (cs := [_, _]) ti68 rfl) ?_
  rintro _ w1 ⟨b11, rfl, hb11, hx1, hB11⟩
  refine rEffP rfl (zstA ti68 rfl rfl rfl rfl hB11 (by simp)) ?_
  rintro w2 ⟨hB11', hk2⟩
  replace hB11' : Blk w2 b11 [I (B : Int), I (N : Int)] 68 := hB11'
  have hx2 : Ext w w2 := hx1.trans_new hk2 (fun i hi => by omega)
  refine rEnd ?_
  refine run_seq ?_
  refine run_reg rfl ?_
  refine rVal rfl rfl (yldA Try.underlying68 rfl ti68 rfl (Blk.cells (n := 2) hB11' (news := [_, _]) rfl) rfl) ?_
  refine rCall rfl rfl (yc (args := [.tmp 31]) cf32 rfl) (newA_ok B N w2 ⟨by omega, by omega, by omega, by omega⟩) ?_
  rintro _ w3 ⟨p, F3, rfl, hA3, hx3, hF3⟩
  refine rVal rfl rfl (ymv rfl) ?_
  refine rVal rfl rfl (yex rfl rfl) ?_
  refine rVal rfl rfl (yex rfl rfl) ?_
  refine rVal rfl rfl (yas rfl) ?_
  refine rVal rfl rfl (yas rfl) ?_
  refine rEnd ?_
  refine Run.sub (e := [(2, _), (3, _), (8, _), (9, _), (10, _), (11, _), (12, _), (13, _)]) ?_ (by repeat (first | exact Sub.nil | refine Sub.cons rfl ?_))
  refine run_seq ?_
  refine run_seq ?_
  refine run_reg rfl ?_
  refine rVal rfl rfl (ymv rfl) ?_
  refine rVal rfl rfl (yne rfl rfl) ?_
  refine rEnd ?_
  refine run_false rfl ?_
  have hx03 : Ext w w3 := hx2.trans hx3
  have h2' := h2.ext hx03
  have h3' := h3.ext hx03
  have hb11l := hB11'.lt
  have hrg : 0 < (B : Int) := by omega
  refine run_skip ?_
  refine run_seq ?_
  refine run_seq ?_
  refine run_reg rfl ?_
  refine rVal rfl rfl (yas rfl) ?_
  refine rEnd ?_
  refine run_block ?_
  refine run_cut2 (fun e' w' => e' = [(3, .slice a3 more.length c3), (11, ptr b11 0), (12, ptr p 0)] ∧ ∃ D F, Ext w2 w' ∧ DevA w' p D F ∧ D.Calm B N ∧ D.Small 60 ∧ ∀ k, F k → w2.heap.size ≤ k) ?hk (fun hk => ?hmain)
  case hk =>
    rintro _ w5 ⟨rfl, D5, F5, hx5, hA5, hC5, hS5, hF5⟩
    refine run_seq ?_
    refine run_seq ?_
    refine run_reg rfl ?_
    refine rVal rfl rfl (ymv rfl) ?_
    refine rCall rfl rfl (yc (args := [.tmp 72]) cf39 rfl) (flushA_ret hA5 hS5 (by omega)) ?_
    rintro _ w6 ⟨rfl, h6⟩
    rw [flush_ok hC5.1 hC5.2.1] at h6 ⊢
    obtain ⟨F6, hA6, hu6⟩ := h6
    have hx6 := hu6.ext hx5 hF5
    have hF6 := hu6.low hx5.size hF5
    obtain ⟨D6, hD6⟩ : ∃ D6, { D5.count with sf := D5.flushTo D5.cache.length, cache := [] } = D6 := ⟨_, rfl⟩
    have hC6 : D6.Calm B N := by rw [← hD6]; exact ⟨hC5.1, by simp [Dev.count, hC5.2.1], hC5.2.2.1, hC5.2.2.2⟩
    have hS6 : D6.Small 61 := by rw [← hD6]; have := small_count hS5; exact ⟨this.1, by simp, this.2.2.1, this.2.2.2⟩
    have hc6 : D6.cache = [] := by rw [← hD6]
    rw [hD6] at hA6
    refine rVal rfl rfl (yne rfl rfl) ?_
    refine rEnd ?_
    refine run_false rfl ?_
    refine run_skip ?_
    refine run_seq ?_
    refine run_reg rfl ?_
    refine rVal rfl rfl (ymv rfl) ?_
    refine rCall rfl rfl (yc (args := [.tmp 75]) cf28 rfl) (imageA_ret hA6 hS6 (by omega)) ?_
    rintro u w7 ⟨hU7, hx7, hg7⟩
    have hA7 := hA6.ext hx7
    have him : D6.image = D6.safes := by
      simp [Dev.image, Dev.imageTo, Dev.safes, Dev.now, lastW, hc6]
    rw [him, hC6.2.2.1] at hU7
    have hx27 : Ext w2 w7 := hx6.trans hx7
    have hu7 : ∀ i, F6 i → u.ownBlock ≠ some i := fun i hi hu => by have := hg7 i hu; have := hA6.lt i hi; omega
    have hu7l : ∀ i, u.ownBlock = some i → w2.heap.size ≤ i := fun i hi => Nat.le_trans hx6.size (hg7 i hi)
    obtain ⟨ua, uc, rfl, -⟩ := hU7.rd.shape
    refine rVal rfl rfl (yas rfl) ?_
    refine rEnd ?_
    refine run_seq ?_
    refine run_reg rfl ?_
    refine rVal rfl rfl (yas rfl) ?_
    refine rEnd ?_
    refine run_seq ?_
    refine run_seq ?_
    refine run_reg rfl ?_
    refine rVal rfl rfl (yas rfl) ?_
    refine rEnd ?_
    refine run_block ?_
    refine run_cut2 (fun e' w' => ∃ D F x, e' = [(12, ptr p 0), (15, .slice ua B uc), (16, x)] ∧ Ext w2 w' ∧ DevA w' p D F ∧ D.Calm B N ∧ D.Small 121 ∧ D.sf = D6.sf ∧ Sl w' (.slice ua B uc) 9 1 B (D6.safes.map S) ∧ Sl w' x 56 2 D.cache.length (wrs D.cache) ∧ D.cache.length ≤ 60 ∧ (∀ i, F i → w2.heap.size ≤ i ∧ (Value.slice ua B uc).ownBlock ≠ some i ∧ x.ownBlock ≠ some i) ∧ (∀ i, (Value.slice ua B uc).ownBlock = some i → x.ownBlock ≠ some i) ∧ (∀ i, x.ownBlock = some i → w2.heap.size ≤ i)) ?hkb (fun hkb => ?hmainb)
    case hkb =>
      rintro _ w8 ⟨D8, F8, x8, rfl, hx8, hA8, hC8, hS8, hsf8, hU8, hL8, hl60, hd1, hd2, hd3⟩
      refine run_seq ?_
      refine run_reg rfl ?_
      refine rVal rfl rfl (ymv rfl) ?_
      refine rVal rfl rfl (ymv rfl) ?_
      refine rVal rfl rfl (ymv rfl) ?_
      refine rVal rfl rfl (yas rfl) ?_
      refine rVal rfl rfl (yas rfl) ?_
      refine rVal rfl rfl (yas rfl) ?_
      refine rEnd ?_
      refine run_ret Try.func23 rfl ?_
      have hsz := hx2.size
      have hsafe : D8.safes = D6.safes := by
        have e1 := hC8.2.2.1
        have e2 := hC6.2.2.1
        have e3 := hC8.2.2.2
        have e4 := hC6.2.2.2
        simp only [Dev.safes, Dev.kept, hsf8, e1, e2, e3, e4]
      refine ⟨_, rfl, B, N, ⟨⟨p, D8, F8, _, x8, rfl, hA8, hC8, hS8, by rw [hsafe]; exact hU8, hL8, hl60, fun i hi => ⟨Nat.le_trans hsz (hd1 i hi).1, (hd1 i hi).2⟩, fun i hi => ⟨Nat.le_trans hsz (hu7l i hi), hd2 i hi⟩, fun i hi => Nat.le_trans hsz (hd3 i hi)⟩, hx2.trans hx8, by omega, by omega⟩⟩
    case hmainb =>
      refine run_loop (α := Nat × Dev × Value) ((0, D6, .slice none 0 0)) (fun i => [(3, .slice a3 more.length c3), (11, ptr b11 0), (12, ptr p 0), (15, .slice ua B uc), (16, i.2.2), (17, I (i.1 : Int))]) (fun i wi => i.1 ≤ 60 ∧ ∃ F, Ext w2 wi ∧ DevA wi p i.2.1 F ∧ i.2.1.Calm B N ∧ i.2.1.Small (61 + i.1) ∧ i.2.1.sf = D6.sf ∧ Sl wi (.slice ua B uc) 9 1 B (D6.safes.map S) ∧ Sl wi i.2.2 56 2 i.2.1.cache.length (wrs i.2.1.cache) ∧ i.2.1.cache.length ≤ i.1 ∧ (∀ j, F j → w2.heap.size ≤ j ∧ (Value.slice ua B uc).ownBlock ≠ some j ∧ i.2.2.ownBlock ≠ some j) ∧ (∀ j, (Value.slice ua B uc).ownBlock = some j → i.2.2.ownBlock ≠ some j) ∧ (∀ j, i.2.2.ownBlock = some j → w2.heap.size ≤ j)) (fun i => 60 - i.1) (by repeat (first | exact Sub.nil | refine Sub.cons rfl ?_)) ?hI ?hround
      case hI => exact ⟨by simp, F6, hx27, hA7, hC6, hS6, rfl, hU7, by rw [hc6]; exact Sl.nil _ _ _, by rw [hc6]; simp, fun j hj => ⟨hF6 j hj, hu7 j hj, by simp [Value.ownBlock]⟩, by simp [Value.ownBlock], by simp [Value.ownBlock]⟩
      case hround =>
        rintro ⟨i, D, lv⟩ wi ⟨hi, F, hxi, hA, hC, hS, hsf, hU, hL, hll, hd1, hd2, hd3⟩ ih
        simp only at hi hA hC hS hsf hU hL hll hd1 hd2 hd3
        have hout : (∃ D F x, [(12, ptr p 0), (15, Value.slice ua B uc), (16, lv)] = [(12, ptr p 0), (15, Value.slice ua B uc), (16, x)] ∧ Ext w2 wi ∧ DevA wi p D F ∧ D.Calm B N ∧ D.Small 121 ∧ D.sf = D6.sf ∧ Sl wi (.slice ua B uc) 9 1 B (D6.safes.map S) ∧ Sl wi x 56 2 D.cache.length (wrs D.cache) ∧ D.cache.length ≤ 60 ∧ (∀ i, F i → w2.heap.size ≤ i ∧ (Value.slice ua B uc).ownBlock ≠ some i ∧ x.ownBlock ≠ some i) ∧ (∀ i, (Value.slice ua B uc).ownBlock = some i → x.ownBlock ≠ some i) ∧ (∀ i, x.ownBlock = some i → w2.heap.size ≤ i)) := ⟨D, F, lv, rfl, hxi, hA, hC, hS.mono (by omega), hsf, hU, hL, by omega, hd1, hd2, hd3⟩
        dsimp only
        refine run_seq ?_
        refine run_seq ?_
        refine run_reg rfl ?_
        refine rVal rfl rfl (ymv rfl) ?_
        refine rVal rfl rfl (ymv rfl) ?_
        refine rVal rfl rfl (yln Try.underlying42 rfl) ?_
        refine rVal rfl rfl (ylt rfl rfl) ?_
        refine rVal_if (fun hlt => ?_) (fun hlt => ?_)
        · skip
          have hlt' : i < more.length := by omega
          refine rVal rfl rfl (ymv rfl) ?_
          refine rVal rfl rfl (ymv rfl) ?_
          refine rVal rfl rfl (ylt rfl rfl) ?_
          refine rVal_if (fun h60 => ?_) (fun h60 => ?_)
          · skip
            have hri := (h3.ext (hx2.trans hxi)).rd
            obtain ⟨b, off, cap, x, hva, hxg⟩ := rd_get hri hlt'
            cases hva
            obtain ⟨cx1, cx2⟩ := rd_at hri hlt' hxg
            have hxd := h3.data x (List.mem_of_getElem? hxg)
            have hbi := hxi.blk hB11'
            have t1 := tmod_range x.1 (B : Int) hrg
            have t2 := nrm_range x.1 (B : Int) hrg
            have hNN := hC.2.2.2
            have hBB := hC.2.2.1
            obtain ⟨la, lc, rfl, -⟩ := hL.rd.shape
            refine rVal rfl rfl (ypT rfl rfl) ?_
            refine rEnd ?_
            refine run_true rfl ?_
            refine run_skip ?_
            refine run_seq ?_
            refine run_block ?_
            refine run_seq ?_
            refine run_cut (fun e' w' => ∃ bx, e' = [(3, .slice (some ⟨b, off, none⟩) more.length c3), (11, ptr b11 0), (12, ptr p 0), (15, .slice ua B uc), (16, .slice la D.cache.length lc), (17, I (i : Int)), (18, ptr bx 0)] ∧ Ext wi w' ∧ wi.heap.size ≤ bx ∧ Blk w' bx [I (nrm x.1 B), S (fill x.2 (512 * N))] 56) ?hkc (fun hkc => ?hmainc)
            case hkc =>
              rintro _ w9 ⟨bx, rfl, hx9, hbx, hBx⟩
              have hA9 := hA.ext hx9
              have hbl := hBx.lt
              refine run_seq ?_
              refine run_seq ?_
              refine run_reg rfl ?_
              refine rVal rfl rfl (ymv rfl) ?_
              refine rVal rfl rfl (yfa fl56_0 rfl) ?_
              refine rVal rfl rfl (yld Try.underlying3 rfl rfl hBx rfl) ?_
              refine rVal rfl rfl (yfa fl56_1 rfl) ?_
              refine rVal rfl rfl (yld Try.underlying9 rfl rfl hBx rfl) ?_
              refine rCall rfl rfl (yc (args := [.tmp 110, .tmp 112, .tmp 114]) cf37 rfl) (writeA_ret (nrm x.1 B) (fill x.2 (512 * N)) hA9 hS (by omega)) ?_
              rintro _ w10 ⟨rfl, h10⟩
              rw [write_ok hC.1 hC.2.1 (by omega) (by rw [fill_length, hNN])] at h10 ⊢
              obtain ⟨F10, hA10, hu10⟩ := h10
              refine rVal rfl rfl (yne rfl rfl) ?_
              refine rEnd ?_
              refine run_false rfl ?_
              have hFx : ∀ j, F j → ¬ j = bx := fun j hj => by have := hA.lt j hj; omega
              have hBx10 := hu10.1.blk hBx (fun h => hFx bx h rfl)
              have hL10 := (hL.ext hx9).kp hu10.1 (fun g hg hf => (hd1 g hf).2.2 hg)
              have hU10 := (hU.ext hx9).kp hu10.1 (fun g hg hf => (hd1 g hf).2.1 hg)
              have hx210 : Ext w2 w10 := hu10.ext (hxi.trans hx9) (fun j hj => (hd1 j hj).1)
              have hls : ∀ j, (Value.slice la D.cache.length lc).ownBlock = some j → j < wi.heap.size := fun j hj => hL.lt hj
              have hus : ∀ j, (Value.slice ua B uc).ownBlock = some j → j < wi.heap.size := fun j hj => hU.lt hj
              have hs9 := hx9.size
              have hs10 := hu10.1.size
              have hdU : ∀ j, F10 j → (Value.slice ua B uc).ownBlock ≠ some j := hu10.dis (G := fun j => (Value.slice ua B uc).ownBlock = some j) (fun j hj => by have := hus j hj; omega) (fun j hj => (hd1 j hj).2.1)
              have hdL : ∀ j, F10 j → (Value.slice la D.cache.length lc).ownBlock ≠ some j := hu10.dis (G := fun j => (Value.slice la D.cache.length lc).ownBlock = some j) (fun j hj => by have := hls j hj; omega) (fun j hj => (hd1 j hj).2.2)
              have hlow10 := hu10.low (hxi.trans hx9).size (fun j hj => (hd1 j hj).1)
              refine run_skip ?_
              refine run_reg rfl ?_
              refine rVal rfl rfl (ymv rfl) ?_
              refine rVal rfl rfl (yldA Try.underlying56 rfl ti56 rfl (Blk.cells (n := 2) hBx10 (news := [_, _]) rfl) rfl) ?_
              refine rValP rfl rfl (pbs (parts := [(0, .tmp 118)]) (cs := [_, _]) (zs := [Value.int .i64 0, Value.string ⟨#[]⟩]) Try.underlying42 ti56 rfl (by kernel_rfl) rfl rfl rfl (by decide)) ?_
              rintro _ w11 ⟨b11', rfl, ⟨hb11', hx11, hB11''⟩, hS11⟩
              refine rValP rfl rfl (pap Try.underlying42 ti56 rfl (by decide) rfl rfl (hL10.ext hx11) hS11.rd (by intro c hc; simp at hc; rcases hc with rfl | rfl <;> rfl) (by omega) (by omega)) ?_
              rintro v' w12 ⟨hS12, hk12, hown12, -⟩
              have hs11 := hx11.size
              have hs12 := hk12.size
              have hA12 := (hA10.ext hx11).kp hk12 (fun j hj h => hdL j hj h)
              have hU12 := (hU10.ext hx11).kp hk12 (fun g hg h => hd2 g hg h)
              have hx212 : Ext w2 w12 := (hx210.trans hx11).trans_new hk12 hd3
              have hF10 := hA10.lt
              have hnew : ∀ j, v'.ownBlock = some j → (Value.slice la D.cache.length lc).ownBlock = some j ∨ w10.heap.size ≤ j := fun j hj => (hown12 j hj).imp id fun h => Nat.le_trans hs11 h
              refine rVal rfl rfl (yas rfl) ?_
              refine rEnd ?_
              refine run_inBlock ?_
              refine run_reg rfl ?_
              refine rVal rfl rfl (ymv rfl) ?_
              refine rVal rfl rfl (yad rfl rfl (by omega)) ?_
              refine rVal rfl rfl (yas rfl) ?_
              refine rEnd ?_
              refine (ih (i + 1, (D.push (nrm x.1 B) (fill x.2 (512 * N))).count, v') w12 ⟨by show i + 1 ≤ 60; omega, F10, hx212, hA12, calm_push hC _ _, ?_, hsf, hU12, ?_, ?_, fun j hj => ⟨hlow10 j hj, hdU j hj, fun h => ?_⟩, fun j hj h => ?_, fun j h => ?_⟩ (by show 60 - (i + 1) < 60 - i; omega)).sub (by repeat (first | exact Sub.nil | refine Sub.cons rfl ?_))
              · have := small_write hS (nrm x.1 B) (fill x.2 (512 * N))
                rw [write_ok hC.1 hC.2.1 (by omega) (by rw [fill_length, hNN])] at this
                exact this.mono (by show 61 + i + 1 ≤ 61 + (i + 1); omega)
              · have e : wrs (D.push (nrm x.1 B) (fill x.2 (512 * N))).count.cache = wrs D.cache ++ [I (nrm x.1 B), S (fill x.2 (512 * N))] := by simp [Dev.push, Dev.count, wrs, wr]
                have e2 : (D.push (nrm x.1 B) (fill x.2 (512 * N))).count.cache.length = D.cache.length + 1 := by simp [Dev.push, Dev.count]
                show Sl w12 v' _ 2 (D.push (nrm x.1 B) (fill x.2 (512 * N))).count.cache.length (wrs (D.push (nrm x.1 B) (fill x.2 (512 * N))).count.cache)
                rw [e, e2]; exact hS12
              · show (D.cache ++ [(nrm x.1 B, fill x.2 (512 * N))]).length ≤ i + 1
                simp; omega
              · rcases hnew j h with h' | h'
                · exact hdL j hj h'
                · have := hF10 j hj; omega
              · rcases hnew j h with h' | h'
                · exact hd2 j hj h'
                · have := hus j hj; omega
              · rcases hnew j h with h' | h'
                · exact hd3 j h'
                · exact Nat.le_trans hx210.size h'
            case hmainc =>
              have hcx : ∀ w', Ext wi w' → w'.cell? ⟨b, off + i * 2, none⟩ = some (I x.1) ∧ w'.cell? ⟨b, off + i * 2 + 1, none⟩ = some (S x.2) := fun w' hS => rd_at (hri.ext hS) hlt' hxg
              refine run_draw (fun w' => Ext wi w') (by kernel_rfl) rfl ?_
              refine hTake (i := 0) rfl (by kernel_rfl) rfl rfl (fun _ hS => ymv rfl) (Ext.drew0 wi) ?_
              refine hTake (i := 1) rfl (by kernel_rfl) rfl rfl (fun _ hS => ymv rfl) (Ext.drew0 wi) ?_
              refine hTake (i := 2) rfl (by kernel_rfl) rfl rfl (fun _ hS => yis Try.underlying42 ti56 rfl rfl (by omega)) (Ext.drew0 wi) ?_
              refine hTake (i := 3) rfl (by kernel_rfl) rfl rfl (fun _ hS => yfa fl56_0 rfl) (Ext.drew0 wi) ?_
              refine hTake (i := 5) rfl (by kernel_rfl) rfl rfl (fun _ hS => yfa fl68_0 rfl) (Ext.drew0 wi) ?_
              refine hTake (i := 6) rfl (by kernel_rfl) rfl rfl (fun _ hS => yld Try.underlying3 rfl rfl (Ext.blk hS hbi) rfl) (Ext.drew0 wi) ?_
              refine hTake (i := 8) rfl (by kernel_rfl) rfl rfl (fun _ hS => yfa fl68_0 rfl) (Ext.drew0 wi) ?_
              refine hTake (i := 9) rfl (by kernel_rfl) rfl rfl (fun _ hS => yld Try.underlying3 rfl rfl (Ext.blk hS hbi) rfl) (Ext.drew0 wi) ?_
              refine hTake (i := 11) rfl (by kernel_rfl) rfl rfl (fun _ hS => yfa fl68_0 rfl) (Ext.drew0 wi) ?_
              refine hTake (i := 12) rfl (by kernel_rfl) rfl rfl (fun _ hS => yld Try.underlying3 rfl rfl (Ext.blk hS hbi) rfl) (Ext.drew0 wi) ?_
              refine hTake (i := 14) rfl (by kernel_rfl) rfl rfl (fun _ hS => ymv rfl) (Ext.drew0 wi) ?_
              refine hTake (i := 15) rfl (by kernel_rfl) rfl rfl (fun _ hS => ymv rfl) (Ext.drew0 wi) ?_
              refine hTake (i := 16) rfl (by kernel_rfl) rfl rfl (fun _ hS => yis Try.underlying42 ti56 rfl rfl (by omega)) (Ext.drew0 wi) ?_
              refine hTake (i := 17) rfl (by kernel_rfl) rfl rfl (fun _ hS => yfa fl56_1 rfl) (Ext.drew0 wi) ?_
              refine hTake (i := 19) rfl (by kernel_rfl) rfl rfl (fun _ hS => ymv rfl) (Ext.drew0 wi) ?_
              refine hTake (i := 4) rfl (by kernel_rfl) rfl rfl (fun _ hS => yldc Try.underlying3 rfl rfl (hcx _ hS).1) (Ext.drew0 wi) ?_
              refine hTake (i := 7) rfl (by kernel_rfl) rfl rfl (fun _ hS => yrt rfl rfl (by omega)) (Ext.drew0 wi) ?_
              refine hTake (i := 10) rfl (by kernel_rfl) rfl rfl (fun _ hS => yad rfl rfl (by omega)) (Ext.drew0 wi) ?_
              refine hTake (i := 13) rfl (by kernel_rfl) rfl rfl (fun _ hS => yrt rfl rfl (by omega)) (Ext.drew0 wi) ?_
              rw [show (x.1.tmod (B : Int) + (B : Int)).tmod (B : Int) = nrm x.1 B from rfl]
              refine hTake (i := 18) rfl (by kernel_rfl) rfl rfl (fun _ hS => yldc Try.underlying9 rfl rfl (hcx _ hS).2) (Ext.drew0 wi) ?_
              refine hTwo (i := 20) (j := 23) (by kernel_rfl) ?_ ?_
              · skip
                refine nCall (i := 20) rfl rfl rfl (yc (args := [.tmp 106]) cf46 rfl) (sizeA_ret (hA.ext (Ext.drew0 wi))) ?_
                rintro _ ws ⟨rfl, rfl⟩
                refine ⟨Ext.drew0 wi, ?_⟩
                rw [hNN]
                refine hTwo (i := 21) (j := 23) (by kernel_rfl) ?_ ?_
                · skip
                  refine nCall (i := 21) rfl rfl rfl (yc (args := [.tmp 105, .tmp 107]) cf38 rfl) (fill_ret x.2 (512 * N) _ (by omega) (by omega)) ?_
                  rintro _ wf ⟨rfl, rfl⟩
                  refine ⟨Ext.drew0 wi, ?_⟩
                  refine hTake (i := 22) rfl (by kernel_rfl) rfl rfl (fun _ hS => ybd (parts := [(0, .tmp 100), (1, .tmp 108)]) (cs := [_, _]) ti56 rfl sp56 rfl rfl) (Ext.drew0 wi) ?_
                  refine hOne (i := 23) (by kernel_rfl) ?_
                  refine nValP (i := 23) rfl rfl rfl (pal (z := .agg #[.int .i64 0, .string ⟨#[]⟩]) (cs := [.int .i64 0, .string ⟨#[]⟩]) ti56 rfl) ?_
                  rintro _ wa ⟨bx, rfl, hbx, hxa, hBa⟩
                  refine ⟨(Ext.drew0 wi).trans hxa, ?_⟩
                  have hXe : Ext wi _ := (Ext.drew0 wi).trans hxa
                  have hbn : wi.heap.size ≤ bx := by have := hbx; simp at this; omega
                  refine hOne (i := 24) (by kernel_rfl) ?_
                  refine nEffP (i := 24) rfl rfl (zstA (news := [I (nrm x.1 B), S (fill x.2 (512 * N))]) ti56 rfl rfl rfl rfl hBa (by simp)) ?_
                  rintro we ⟨hBe, hke⟩
                  refine ⟨hXe.trans_new hke (fun j hj => by omega), ?_⟩
                  refine hEnd (by kernel_rfl) ?_
                  exact (hkc _ _ ⟨bx, rfl, hXe.trans_new hke (fun j hj => by omega), hbn, hBe⟩).sub (by repeat (first | exact Sub.nil | refine Sub.cons rfl ?_))
                · skip
                  refine nValP (i := 23) rfl rfl rfl (pal (z := .agg #[.int .i64 0, .string ⟨#[]⟩]) (cs := [.int .i64 0, .string ⟨#[]⟩]) ti56 rfl) ?_
                  rintro _ wa ⟨bx, rfl, hbx, hxa, hBa⟩
                  refine ⟨(Ext.drew0 wi).trans hxa, ?_⟩
                  refine hOne (i := 21) (by kernel_rfl) ?_
                  refine nCall (i := 21) rfl rfl rfl (yc (args := [.tmp 105, .tmp 107]) cf38 rfl) (fill_ret x.2 (512 * N) _ (by omega) (by omega)) ?_
                  rintro _ wf ⟨rfl, rfl⟩
                  refine ⟨(Ext.drew0 wi).trans hxa, ?_⟩
                  refine hTake (i := 22) rfl (by kernel_rfl) rfl rfl (fun _ hS => ybd (parts := [(0, .tmp 100), (1, .tmp 108)]) (cs := [_, _]) ti56 rfl sp56 rfl rfl) ((Ext.drew0 wi).trans hxa) ?_
                  have hXe : Ext wi _ := (Ext.drew0 wi).trans hxa
                  have hbn : wi.heap.size ≤ bx := by have := hbx; simp at this; omega
                  refine hOne (i := 24) (by kernel_rfl) ?_
                  refine nEffP (i := 24) rfl rfl (zstA (news := [I (nrm x.1 B), S (fill x.2 (512 * N))]) ti56 rfl rfl rfl rfl hBa (by simp)) ?_
                  rintro we ⟨hBe, hke⟩
                  refine ⟨hXe.trans_new hke (fun j hj => by omega), ?_⟩
                  refine hEnd (by kernel_rfl) ?_
                  exact (hkc _ _ ⟨bx, rfl, hXe.trans_new hke (fun j hj => by omega), hbn, hBe⟩).sub (by repeat (first | exact Sub.nil | refine Sub.cons rfl ?_))
              · skip
                refine nValP (i := 23) rfl rfl rfl (pal (z := .agg #[.int .i64 0, .string ⟨#[]⟩]) (cs := [.int .i64 0, .string ⟨#[]⟩]) ti56 rfl) ?_
                rintro _ wa ⟨bx, rfl, hbx, hxa, hBa⟩
                refine ⟨(Ext.drew0 wi).trans hxa, ?_⟩
                refine hOne (i := 20) (by kernel_rfl) ?_
                refine nCall (i := 20) rfl rfl rfl (yc (args := [.tmp 106]) cf46 rfl) (sizeA_ret (hA.ext ((Ext.drew0 wi).trans hxa))) ?_
                rintro _ ws ⟨rfl, rfl⟩
                refine ⟨(Ext.drew0 wi).trans hxa, ?_⟩
                rw [hNN]
                refine hOne (i := 21) (by kernel_rfl) ?_
                refine nCall (i := 21) rfl rfl rfl (yc (args := [.tmp 105, .tmp 107]) cf38 rfl) (fill_ret x.2 (512 * N) _ (by omega) (by omega)) ?_
                rintro _ wf ⟨rfl, rfl⟩
                refine ⟨(Ext.drew0 wi).trans hxa, ?_⟩
                refine hTake (i := 22) rfl (by kernel_rfl) rfl rfl (fun _ hS => ybd (parts := [(0, .tmp 100), (1, .tmp 108)]) (cs := [_, _]) ti56 rfl sp56 rfl rfl) ((Ext.drew0 wi).trans hxa) ?_
                have hXe : Ext wi _ := (Ext.drew0 wi).trans hxa
                have hbn : wi.heap.size ≤ bx := by have := hbx; simp at this; omega
                refine hOne (i := 24) (by kernel_rfl) ?_
                refine nEffP (i := 24) rfl rfl (zstA (news := [I (nrm x.1 B), S (fill x.2 (512 * N))]) ti56 rfl rfl rfl rfl hBa (by simp)) ?_
                rintro we ⟨hBe, hke⟩
                refine ⟨hXe.trans_new hke (fun j hj => by omega), ?_⟩
                refine hEnd (by kernel_rfl) ?_
                exact (hkc _ _ ⟨bx, rfl, hXe.trans_new hke (fun j hj => by omega), hbn, hBe⟩).sub (by repeat (first | exact Sub.nil | refine Sub.cons rfl ?_))
          · skip
            refine rVal rfl rfl (ypT rfl rfl) ?_
            refine rEnd ?_
            refine run_false rfl ?_
            refine run_exit rfl ?_
            exact (hkb _ _ hout).sub (by repeat (first | exact Sub.nil | refine Sub.cons rfl ?_))
        · skip
          refine rVal rfl rfl (ymv rfl) ?_
          refine rSkip rfl rfl ?_
          refine rSkip rfl rfl ?_
          refine rVal rfl rfl (ypF rfl rfl) ?_
          refine rEnd ?_
          refine run_false rfl ?_
          refine run_exit rfl ?_
          exact (hkb _ _ hout).sub (by repeat (first | exact Sub.nil | refine Sub.cons rfl ?_))
  case hmain =>
    refine run_loop (α := Nat) (0) (fun i => [(2, .slice a2 safe.length c2), (3, .slice a3 more.length c3), (11, ptr b11 0), (12, ptr p 0), (14, I (i : Int))]) (fun i wi => i ≤ 60 ∧ ∃ D F, Ext w2 wi ∧ DevA wi p D F ∧ D.Calm B N ∧ D.Small i ∧ ∀ k, F k → w2.heap.size ≤ k) (fun i => 60 - i) (by repeat (first | exact Sub.nil | refine Sub.cons rfl ?_)) ?hI ?hround
    case hI => exact ⟨by omega, Dev.fresh B N, F3, hx3, hA3, ⟨rfl, rfl, rfl, rfl⟩, small_fresh B N, hF3⟩
    case hround =>
      rintro i wi ⟨hi, D, F, hxi, hA, hC, hS, hF⟩ ih
      dsimp only
      refine run_seq ?_
      refine run_seq ?_
      refine run_reg rfl ?_
      refine rVal rfl rfl (ymv rfl) ?_
      refine rVal rfl rfl (ymv rfl) ?_
      refine rVal rfl rfl (yln Try.underlying42 rfl) ?_
      refine rVal rfl rfl (ylt rfl rfl) ?_
      refine rVal_if (fun hlt => ?_) (fun hlt => ?_)
      · skip
        have hlt' : i < safe.length := by omega
        refine rVal rfl rfl (ymv rfl) ?_
        refine rVal rfl rfl (ymv rfl) ?_
        refine rVal rfl rfl (ylt rfl rfl) ?_
        refine rVal_if (fun h60 => ?_) (fun h60 => ?_)
        · skip
          have hri := (h2.ext (hx2.trans hxi)).rd
          obtain ⟨b, off, cap, x, hva, hxg⟩ := rd_get hri hlt'
          cases hva
          have hxd := h2.data x (List.mem_of_getElem? hxg)
          have t1 := tmod_range x.1 (B : Int) hrg
          have t2 := nrm_range x.1 (B : Int) hrg
          have hNN := hC.2.2.2
          have hBB := hC.2.2.1
          have hcx : ∀ w', Kp F wi w' → w'.cell? ⟨b, off + i * 2, none⟩ = some (I x.1) ∧ w'.cell? ⟨b, off + i * 2 + 1, none⟩ = some (S x.2) := fun w' hS => rd_at ((h2.ext hx2).rd.ext (hxi.trans_new hS hF)) hlt' hxg
          refine rVal rfl rfl (ypT rfl rfl) ?_
          refine rEnd ?_
          refine run_true rfl ?_
          refine run_skip ?_
          refine run_seq ?_
          refine run_block ?_
          refine run_seq ?_
          refine run_draw (fun w' => Kp F wi w') (by kernel_rfl) rfl ?_
          refine hTake (i := 0) rfl (by kernel_rfl) rfl rfl (fun _ hS => ymv rfl) ((Kp.refl _ wi).drew) ?_
          refine hTake (i := 1) rfl (by kernel_rfl) rfl rfl (fun _ hS => ymv rfl) ((Kp.refl _ wi).drew) ?_
          refine hTake (i := 2) rfl (by kernel_rfl) rfl rfl (fun _ hS => ymv rfl) ((Kp.refl _ wi).drew) ?_
          refine hTake (i := 3) rfl (by kernel_rfl) rfl rfl (fun _ hS => yis Try.underlying42 ti56 rfl rfl (by omega)) ((Kp.refl _ wi).drew) ?_
          refine hTake (i := 4) rfl (by kernel_rfl) rfl rfl (fun _ hS => yfa fl56_0 rfl) ((Kp.refl _ wi).drew) ?_
          refine hTake (i := 6) rfl (by kernel_rfl) rfl rfl (fun _ hS => yfa fl68_0 rfl) ((Kp.refl _ wi).drew) ?_
          refine hTake (i := 7) rfl (by kernel_rfl) rfl rfl (fun _ hS => yld Try.underlying3 rfl rfl ((hxi.trans_new hS hF).blk hB11') rfl) ((Kp.refl _ wi).drew) ?_
          refine hTake (i := 9) rfl (by kernel_rfl) rfl rfl (fun _ hS => yfa fl68_0 rfl) ((Kp.refl _ wi).drew) ?_
          refine hTake (i := 10) rfl (by kernel_rfl) rfl rfl (fun _ hS => yld Try.underlying3 rfl rfl ((hxi.trans_new hS hF).blk hB11') rfl) ((Kp.refl _ wi).drew) ?_
          refine hTake (i := 12) rfl (by kernel_rfl) rfl rfl (fun _ hS => yfa fl68_0 rfl) ((Kp.refl _ wi).drew) ?_
          refine hTake (i := 13) rfl (by kernel_rfl) rfl rfl (fun _ hS => yld Try.underlying3 rfl rfl ((hxi.trans_new hS hF).blk hB11') rfl) ((Kp.refl _ wi).drew) ?_
          refine hTake (i := 15) rfl (by kernel_rfl) rfl rfl (fun _ hS => ymv rfl) ((Kp.refl _ wi).drew) ?_
          refine hTake (i := 16) rfl (by kernel_rfl) rfl rfl (fun _ hS => ymv rfl) ((Kp.refl _ wi).drew) ?_
          refine hTake (i := 17) rfl (by kernel_rfl) rfl rfl (fun _ hS => yis Try.underlying42 ti56 rfl rfl (by omega)) ((Kp.refl _ wi).drew) ?_
          refine hTake (i := 18) rfl (by kernel_rfl) rfl rfl (fun _ hS => yfa fl56_1 rfl) ((Kp.refl _ wi).drew) ?_
          refine hTake (i := 20) rfl (by kernel_rfl) rfl rfl (fun _ hS => ymv rfl) ((Kp.refl _ wi).drew) ?_
          refine hTake (i := 5) rfl (by kernel_rfl) rfl rfl (fun _ hS => yldc Try.underlying3 rfl rfl (hcx _ hS).1) ((Kp.refl _ wi).drew) ?_
          refine hTake (i := 8) rfl (by kernel_rfl) rfl rfl (fun _ hS => yrt rfl rfl (by omega)) ((Kp.refl _ wi).drew) ?_
          refine hTake (i := 11) rfl (by kernel_rfl) rfl rfl (fun _ hS => yad rfl rfl (by omega)) ((Kp.refl _ wi).drew) ?_
          refine hTake (i := 14) rfl (by kernel_rfl) rfl rfl (fun _ hS => yrt rfl rfl (by omega)) ((Kp.refl _ wi).drew) ?_
          rw [show (x.1.tmod (B : Int) + (B : Int)).tmod (B : Int) = nrm x.1 B from rfl]
          refine hTake (i := 19) rfl (by kernel_rfl) rfl rfl (fun _ hS => yldc Try.underlying9 rfl rfl (hcx _ hS).2) ((Kp.refl _ wi).drew) ?_
          have hA0 := hA.ext (Ext.drew0 wi)
          refine hOne (i := 21) (by kernel_rfl) ?_
          refine nCall (i := 21) rfl rfl rfl (yc (args := [.tmp 67]) cf46 rfl) (sizeA_ret hA0) ?_
          rintro _ w7 ⟨rfl, rfl⟩
          refine ⟨(Kp.refl _ wi).drew, ?_⟩
          rw [hNN]
          refine hOne (i := 22) (by kernel_rfl) ?_
          refine nCall (i := 22) rfl rfl rfl (yc (args := [.tmp 66, .tmp 68]) cf38 rfl) (fill_ret x.2 (512 * N) _ (by omega) (by omega)) ?_
          rintro _ w8 ⟨rfl, rfl⟩
          refine ⟨(Kp.refl _ wi).drew, ?_⟩
          refine hOne (i := 23) (by kernel_rfl) ?_
          refine nCall (i := 23) rfl rfl rfl (yc (args := [.tmp 47, .tmp 61, .tmp 69]) cf37 rfl) (writeA_ret (nrm x.1 B) (fill x.2 (512 * N)) hA0 hS (by omega)) ?_
          rintro _ w9 ⟨rfl, h9⟩
          refine ⟨((Kp.refl _ wi).drew).trans h9.kpF, ?_⟩
          have hSw := small_write hS (nrm x.1 B) (fill x.2 (512 * N))
          rw [write_ok hC.1 hC.2.1 (by omega) (by rw [fill_length, hNN])] at h9 hSw ⊢
          refine hTake (i := 24) rfl (by kernel_rfl) rfl rfl (fun _ hS => yne rfl rfl) (((Kp.refl _ wi).drew).trans h9.kpF) ?_
          refine hEnd (by kernel_rfl) ?_
          obtain ⟨F9, hA9, hu9⟩ := h9
          refine run_false rfl ?_
          refine run_skip ?_
          refine run_inBlock ?_
          refine run_reg rfl ?_
          refine rVal rfl rfl (ymv rfl) ?_
          refine rVal rfl rfl (yad rfl rfl (by omega)) ?_
          refine rVal rfl rfl (yas rfl) ?_
          refine rEnd ?_
          exact (ih (i + 1) w9 ⟨by omega, _, F9, (Upd.ext hu9 (hxi.trans (Ext.drew0 wi)) hF), hA9, calm_push hC _ _, hSw, hu9.low hxi.size hF⟩ (by omega)).sub (by repeat (first | exact Sub.nil | refine Sub.cons rfl ?_))
        · skip
          refine rVal rfl rfl (ypT rfl rfl) ?_
          refine rEnd ?_
          refine run_false rfl ?_
          refine run_exit rfl ?_
          exact (hk _ _ ⟨rfl, D, F, hxi, hA, hC, hS.mono (by omega), hF⟩).sub (by repeat (first | exact Sub.nil | refine Sub.cons rfl ?_))
      · skip
        refine rVal rfl rfl (ymv rfl) ?_
        refine rSkip rfl rfl ?_
        refine rSkip rfl rfl ?_
        refine rVal rfl rfl (ypF rfl rfl) ?_
        refine rEnd ?_
        refine run_false rfl ?_
        refine run_exit rfl ?_
        exact (hk _ _ ⟨rfl, D, F, hxi, hA, hC, hS.mono (by omega), hF⟩).sub (by repeat (first | exact Sub.nil | refine Sub.cons rfl ?_))
end Go.Proofs.Ytdapkfppcaaohaa
