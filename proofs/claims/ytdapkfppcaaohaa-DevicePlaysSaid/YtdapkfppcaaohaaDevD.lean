/- The device's functions walked: the fall. -/
import Derived.Test.YtdapkfppcaaohaaDevC
namespace Go.Proofs.Ytdapkfppcaaohaa
open Go Go.RowKit
set_option linter.all false
set_option maxRecDepth 100000

theorem index_ret (v : Value) (l : List Int) (x : Int) (w : World) (hl : l.length ≤ 17592186044416) (hr : Rd w v 1 l.length (l.map I)) :
    Ret Try.prog 89 [v, I x] w fun u w' => (∃ k, u = I k ∧ (0 ≤ k ↔ x ∈ l)) ∧ w' = w := by
  obtain ⟨a, cap, rfl, ha⟩ := hr.shape
  refine ret_of_run (e := [(0, _), (1, _)]) Try.func89 rfl Try.ntmps89 rfl rfl ?_
  refine run_seq ?_
  refine run_reg rfl ?_
  refine rVal rfl rfl (yas rfl) ?_
  refine rEnd ?_
  refine run_seq ?_
  refine run_seq ?_
  refine run_reg rfl ?_
  refine rVal rfl rfl (ymv rfl) ?_
  refine rVal rfl rfl (yln Try.underlying43 rfl) ?_
  refine rVal rfl rfl (ymv rfl) ?_
  refine rEnd ?_
  refine run_block ?_
  refine run_loop (α := Nat) (0) (fun i => [(0, .slice a l.length cap), (1, I x), (7, I (l.length : Int)), (8, I (i : Int))]) (fun i w' => w' = w ∧ i ≤ l.length ∧ ∀ j, j < i → l[j]? ≠ some x) (fun i => l.length - i) (by repeat (first | exact Sub.nil | refine Sub.cons rfl ?_)) ?hI ?hround
  case hI => exact ⟨rfl, by omega, by omega⟩
  case hround =>
    rintro i _ ⟨rfl, hi, hno⟩ ih
    dsimp only
    refine run_seq ?_
    refine run_reg rfl ?_
    refine rVal rfl rfl (ylt rfl rfl) ?_
    refine rEnd ?_
    refine run_seq ?_
    refine run_if rfl (fun hlt => ?_) (fun hlt => ?_)
    · skip
      have hlt' : i < l.length := by omega
      rcases hr.2 with ⟨c, -, h⟩ | ⟨b, off, cap', hva, hcell⟩
      · omega
      cases hva
      refine run_skip ?_
      refine run_seq ?_
      refine run_block ?_
      refine run_seq ?_
      refine run_reg rfl ?_
      refine rVal rfl rfl (ymv rfl) ?_
      refine rVal rfl rfl (yas rfl) ?_
      refine rEnd ?_
      refine run_seq ?_
      refine run_reg rfl ?_
      refine rVal rfl rfl (ymv rfl) ?_
      refine rVal rfl rfl (ymv rfl) ?_
      refine rVal rfl rfl (ymv rfl) ?_
      refine rVal rfl rfl (yis Try.underlying43 ti3 rfl rfl (by omega)) ?_
      refine rVal rfl rfl (yldc Try.underlying3 rfl rfl (hcell (i * 1) (I l[i]) (by simp [hlt']))) ?_
      refine rVal rfl rfl (yeq rfl rfl) ?_
      refine rEnd ?_
      refine run_if rfl (fun heq => ?_) (fun heq => ?_)
      · skip
        refine run_seq ?_
        refine run_reg rfl ?_
        refine rVal rfl rfl (ymv rfl) ?_
        refine rVal rfl rfl (yas rfl) ?_
        refine rEnd ?_
        refine run_ret Try.func89 rfl ?_
        refine ⟨_, rfl, ⟨(i : Int), rfl, ?_⟩, rfl⟩
        constructor
        · intro _; rw [heq]; exact List.getElem_mem hlt'
        · intro _; omega
      · skip
        refine run_skip ?_
        refine run_inBlock ?_
        refine run_reg rfl ?_
        refine rVal rfl rfl (yad rfl rfl (by omega)) ?_
        refine rVal rfl rfl (ymv rfl) ?_
        refine rEnd ?_
        exact (ih (i + 1) _ ⟨rfl, by omega, fun j hj => by
          rcases Nat.lt_or_ge j i with h | h
          · exact hno j h
          · have : j = i := by omega
            subst this
            rw [List.getElem?_eq_getElem hlt']
            exact fun h => heq (Option.some.inj h).symm⟩ (by omega)).sub (by repeat (first | exact Sub.nil | refine Sub.cons rfl ?_))
    · skip
      refine run_exit rfl ?_
      refine run_seq ?_
      refine run_reg rfl ?_
      refine rVal rfl rfl (yas rfl) ?_
      refine rEnd ?_
      refine run_ret Try.func89 rfl ?_
      refine ⟨_, rfl, ⟨-1, rfl, ?_⟩, rfl⟩
      constructor
      · intro h; omega
      · intro h
        obtain ⟨j, hj, e⟩ := List.getElem_of_mem h
        exact absurd (by rw [List.getElem?_eq_getElem hj, e]) (hno j (by omega))

theorem contains_ret (v : Value) (l : List Int) (x : Int) (w : World) (hl : l.length ≤ 17592186044416) (hr : Rd w v 1 l.length (l.map I)) :
    Ret Try.prog 81 [v, I x] w fun u w' => u = .bool (decide (x ∈ l)) ∧ w' = w := by
  refine ret_of_run (e := [(0, _), (1, _)]) Try.func81 rfl Try.ntmps81 rfl rfl ?_
  refine run_seq ?_
  refine run_reg rfl ?_
  refine rVal rfl rfl (yas rfl) ?_
  refine rEnd ?_
  refine run_seq ?_
  refine run_reg rfl ?_
  refine rVal rfl rfl (ymv rfl) ?_
  refine rVal rfl rfl (ymv rfl) ?_
  refine rCall rfl rfl (yc (args := [.tmp 5, .tmp 6]) cf89 rfl) (index_ret v l x w hl hr) ?_
  rintro _ w1 ⟨⟨k, rfl, hk⟩, rfl⟩
  refine rVal rfl rfl (yge rfl rfl) ?_
  refine rVal rfl rfl (yas rfl) ?_
  refine rEnd ?_
  refine run_ret Try.func81 rfl ?_
  refine ⟨_, rfl, ?_, rfl⟩
  simp only [resVal, hk]

theorem splice_map (c x : Bytes) (rest : List Value) (i : Nat) (h : i + x.length ≤ c.length) : splice (c.map u8v ++ rest) i (x.map u8v) = (splB c i x).map u8v ++ rest := by
  unfold splice splB
  rw [List.take_append_of_le_length (by simp; omega), List.drop_append_of_le_length (by simp; omega)]
  simp

theorem fallTo_at {D : Dev} {l : List Int} {tn : Int} {mk : UInt8} {i : Nat} {x : Int × Bytes} (hx : D.cache[i]? = some x) : D.fallTo l tn mk (i + 1) =
    if (i : Int) = tn then upd (D.fallTo l tn mk i) x.1 (mixN mk (((D.fallTo l tn mk i) x.1).getD (zeros (512 * D.N))) x.2 D.N)
      else if (i : Int) ∈ l then upd (D.fallTo l tn mk i) x.1 x.2 else D.fallTo l tn mk i := by
  simp only [Dev.fallTo, hx]

set_option maxHeartbeats 1000000 in
theorem fall_ret {w : World} {p m : Nat} {kp ca cv : Value} {D : Dev} (h : DevM w p m kp ca D) (l : List Int) (tn : Int) (mk : UInt8) (hl : l.length ≤ 17592186044416) (hr : Rd w cv 1 l.length (l.map I)) (hc2 : D.cache.length < 2000000000000) :
    Ret Try.prog 62 [ptr p 0, .agg #[cv, I tn, u8v mk]] w fun v w' => v = .tuple #[] ∧ DevM w' p m (.slice none 0 0) (.slice none 0 0) (D.fall l tn mk) ∧ Kp (fun k => k = p ∨ k = m) w w' := by
  have hlen := h.ok.len
  have hN := h.ok.hN
  have hmk := mk.toNat_lt
  have hpm := h.pm
  have hmw := h.lt m (.inr (.inl rfl))
  have hsz1w : ∀ {w' : World}, Ext w w' → w.heap.size ≤ w'.heap.size := fun h => h.size
  obtain ⟨a, cap, rfl, ha⟩ := h.cache.rd.shape
  obtain ⟨ac, capc, rfl, hac⟩ := hr.shape
  refine ret_of_run (e := [(0, _), (1, _)]) Try.func62 rfl Try.ntmps62 rfl rfl ?_
  refine run_seq ?_
  refine run_reg rfl ?_
  refine rValP rfl rfl (pbx rfl rfl) ?_
  rintro _ w1 ⟨b3, rfl, hb3, hx1, hB3⟩
  have h0 := h.ext hx1
  have hs1 := hx1.size
  replace hr := hr.ext hx1
  have hlt3 := hB3.lt
  have hM := h0.blk
  refine rEnd ?_
  refine run_seq ?_
  refine run_seq ?_
  refine run_reg rfl ?_
  refine rVal rfl rfl (ymv rfl) ?_
  refine rVal rfl rfl ((by first | exact ync rfl | exact yncf rfl)) ?_
  refine rVal rfl rfl (yfa fl108_3 rfl) ?_
  refine rVal rfl rfl (yld Try.underlying106 rfl rfl hM rfl) ?_
  refine rVal rfl rfl (yln Try.underlying106 rfl) ?_
  refine rVal rfl rfl (ymv rfl) ?_
  refine rEnd ?_
  refine run_block ?_
  refine run_loop (α := Nat) (0) (fun i => [(0, ptr p 0), (3, ptr b3 0), (11, .slice a D.cache.length cap), (12, I (D.cache.length : Int)), (13, I (i : Int))]) (fun i wi => i ≤ D.cache.length ∧ DevM wi p m kp (.slice a D.cache.length cap) { D with sf := D.fallTo l tn mk i } ∧ Rd wi (.slice ac l.length capc) 1 l.length (l.map I) ∧ Blk wi b3 [.slice ac l.length capc, I tn, u8v mk] 51 ∧ Kp (fun k => k = m) w1 wi) (fun i => D.cache.length - i) (by repeat (first | exact Sub.nil | refine Sub.cons rfl ?_)) ?hI ?hround
  case hI => exact ⟨by omega, h0, hr, hB3, Kp.refl _ _⟩
  case hround =>
    rintro i wi ⟨hi, hd, hri, hB3i, hki⟩ ih
    dsimp only
    have hszi := hki.size
    refine run_seq ?_
    refine run_reg rfl ?_
    refine rVal rfl rfl (ylt rfl rfl) ?_
    refine rEnd ?_
    refine run_seq ?_
    refine run_if rfl (fun hlt => ?_) (fun hlt => ?_)
    · skip
      have hlt' : i < D.cache.length := by omega
      have hcache := hd.cache
      rcases hcache.shape with ⟨-, h⟩ | ⟨gb, cap', hva, hcap⟩
      · exact absurd h (by show ¬ D.cache.length = 0; omega)
      cases hva
      obtain ⟨x, hx⟩ : ∃ x, D.cache[i]? = some x := ⟨_, List.getElem?_eq_getElem hlt'⟩
      have hxe : D.cache[i] = x := by rw [List.getElem?_eq_getElem hlt'] at hx; exact Option.some.inj hx
      have hcs : ((wrs D.cache).drop (i * 2)).take 2 = wr x := by rw [wrs_get _ _ hlt', hxe]
      have hxok := hd.ok.cache x (List.mem_of_getElem? hx)
      simp only at hxok
      have hcp := hcache.part hcs
      refine run_skip ?_
      refine run_seq ?_
      refine run_block ?_
      refine run_seq ?_
      refine run_reg rfl ?_
      refine rVal rfl rfl (ymv rfl) ?_
      refine rVal rfl rfl (yis Try.underlying106 ti114 rfl rfl (by omega)) ?_
      refine rVal rfl rfl (yldA Try.underlying114 rfl ti114 rfl hcp rfl) ?_
      refine rValP rfl rfl (pal (cs := [_, _]) ti114 rfl) ?_
      rintro _ w2 ⟨b5, rfl, hb5, hx2, hB5⟩
      refine rVal rfl rfl (yas rfl) ?_
      refine rEffP rfl (zstA ti114 rfl rfl rfl rfl hB5 (by simp)) ?_
      rintro w3 ⟨hB5', hk3⟩
      replace hB5' : Blk w3 b5 [I x.1, S x.2] 114 := hB5'
      have hx3 : Ext wi w3 := hx2.trans_new hk3 (fun j hj => by omega)
      have hlt5 := hB5'.lt
      replace hd := hd.ext hx3
      have hfl := hd.lt
      replace hri := hri.ext hx3
      have hri3 := hri
      replace hB3i := hx3.blk hB3i
      have hl3 := hB3i.lt
      have hk03 : Kp (fun k => k = m) w1 w3 := hki.trans hx3.kp
      have hsz3 := hx3.size
      have hne35 : ¬ b3 = b5 := by have := hx2.size; have := hB3i; omega
      refine rEnd ?_
      refine run_block ?_
      refine run_seq ?_
      refine run_reg rfl ?_
      refine rVal rfl rfl (ymv rfl) ?_
      refine rVal rfl rfl (yfa fl51_1 rfl) ?_
      refine rVal rfl rfl ((by first | exact yld Try.underlying3 rfl rfl hB3i rfl | exact yld Try.underlying3 rfl rfl hB5' rfl)) ?_
      refine rVal rfl rfl (yeq rfl rfl) ?_
      refine rVal rfl rfl (yas rfl) ?_
      refine rEnd ?_
      refine run_if rfl (fun htn => ?_) (fun htn => ?_)
      · skip
        refine run_seq ?_
        refine run_reg rfl ?_
        refine rVal rfl rfl (ymv rfl) ?_
        refine rVal rfl rfl (yfa fl114_0 rfl) ?_
        refine rVal rfl rfl ((by first | exact yld Try.underlying3 rfl rfl hB3i rfl | exact yld Try.underlying3 rfl rfl hB5' rfl)) ?_
        refine rCall rfl rfl (yc (args := [.tmp 23, .tmp 25]) cf69 rfl) (kept_ret x.1 hd) ?_
        rintro _ w4 ⟨rfl, hx4⟩
        obtain ⟨k0, hk0⟩ : ∃ k0, Dev.kept { D with sf := D.fallTo l tn mk i } x.1 = k0 := ⟨_, rfl⟩
        have hk0l : k0.length = 512 * D.N := by rw [← hk0]; exact hd.ok.kept x.1
        rw [hk0]
        refine rValP rfl rfl (pS2B Try.underlying9 Try.underlying30 Try.underlying5 rfl) ?_
        rintro _ w5 ⟨bb, capb, rest, rfl, ⟨hbb, hx5, hBb⟩, hcapb⟩
        have hx45 := hx4.trans hx5
        replace hd := hd.ext hx45
        replace hri := hri.ext hx45
        replace hB3i := hx45.blk hB3i
        replace hB5' := hx45.blk hB5'
        have hltb := hBb.lt
        have hM5 := hd.blk
        have hsz45 := hx45.size
        have hsz4 := hx4.size
        have hltp := hd.blk.lt
        refine rVal rfl rfl (yas rfl) ?_
        refine rEnd ?_
        refine run_seq ?_
        refine run_seq ?_
        refine run_reg rfl ?_
        refine rVal rfl rfl (ymv rfl) ?_
        refine rVal rfl rfl ((by first | exact ync rfl | exact yncf rfl)) ?_
        refine rVal rfl rfl (yfa fl108_1 rfl) ?_
        refine rVal rfl rfl (yfa fl68_1 rfl) ?_
        refine rVal rfl rfl (yld Try.underlying3 rfl rfl hM5 rfl) ?_
        refine rVal rfl rfl (ymv rfl) ?_
        refine rEnd ?_
        refine run_block ?_
        refine run_loop (α := Nat) (0) (fun s => [(0, ptr p 0), (3, ptr b3 0), (5, ptr b5 0), (6, .slice (some ⟨bb, 0, none⟩) k0.length capb), (11, .slice (some ⟨gb, 0, none⟩) D.cache.length cap), (12, I (D.cache.length : Int)), (13, I (i : Int)), (32, I (D.N : Int)), (33, I (s : Int))]) (fun s ws => s ≤ D.N ∧ Blk ws bb ((mixN mk k0 x.2 s).map u8v ++ rest) 5 ∧ Kp (fun k => k = bb) w5 ws) (fun s => D.N - s) (by repeat (first | exact Sub.nil | refine Sub.cons rfl ?_)) ?hI ?hround
        case hI => exact ⟨by omega, hBb, Kp.refl _ _⟩
        case hround =>
          rintro s ws ⟨hs, hBs, hks⟩ ihs
          dsimp only
          have hB3s := hks.blk hB3i (by omega)
          have hB5s := hks.blk hB5' (by omega)
          have hml := mixN_length mk k0 x.2 D.N hk0l hxok.2.2 s hs
          refine run_seq ?_
          refine run_reg rfl ?_
          refine rVal rfl rfl (ylt rfl rfl) ?_
          refine rEnd ?_
          refine run_seq ?_
          refine run_if rfl (fun hls => ?_) (fun hls => ?_)
          · skip
            have hls' : s < D.N := by omega
            obtain ⟨q, hq⟩ : ∃ q, mk.toNat / 2 ^ s = q := ⟨_, rfl⟩
            have hqm : q < 256 := by rw [← hq]; exact Nat.lt_of_le_of_lt (Nat.div_le_self _ _) hmk
            refine run_skip ?_
            refine run_seq ?_
            refine run_block ?_
            refine run_seq ?_
            refine run_reg rfl ?_
            refine rVal rfl rfl (ymv rfl) ?_
            refine rVal rfl rfl (yas rfl) ?_
            refine rEnd ?_
            refine run_seq ?_
            refine run_reg rfl ?_
            refine rVal rfl rfl (yfa fl51_2 rfl) ?_
            refine rVal rfl rfl (yld Try.underlying5 rfl rfl hB3s rfl) ?_
            refine rVal rfl rfl (ymv rfl) ?_
            refine rVal rfl rfl (ysrN s (2 ^ s) rfl rfl (by simp only [IntKind.bits]; omega) rfl) ?_
            rw [hq]
            refine rVal rfl rfl (yan8 rfl rfl (by omega) (by omega)) ?_
            rw [Nat.and_one_is_mod]
            refine rVal rfl rfl (yeq rfl rfl) ?_
            refine rEnd ?_
            refine run_if rfl (fun hbit => ?_) (fun hbit => ?_)
            · skip
              have hbit' : q % 2 = 1 := by omega
              refine run_draw (fun w' => Kp (fun k => k = bb) ws w') (by kernel_rfl) rfl ?_
              refine hTake (i := 0) rfl (by kernel_rfl) rfl rfl (fun _ hS => ymv rfl) ((Kp.refl _ ws).drew) ?_
              refine hTake (i := 1) rfl (by kernel_rfl) rfl rfl (fun _ hS => ymv rfl) ((Kp.refl _ ws).drew) ?_
              refine hTake (i := 2) rfl (by kernel_rfl) rfl rfl (fun _ hS => yml rfl rfl (by omega)) ((Kp.refl _ ws).drew) ?_
              refine hTake (i := 3) rfl (by kernel_rfl) rfl rfl (fun _ hS => ymv rfl) ((Kp.refl _ ws).drew) ?_
              refine hTake (i := 4) rfl (by kernel_rfl) rfl rfl (fun _ hS => yad rfl rfl (by omega)) ((Kp.refl _ ws).drew) ?_
              refine hTake (i := 5) rfl (by kernel_rfl) rfl rfl (fun _ hS => yml rfl rfl (by omega)) ((Kp.refl _ ws).drew) ?_
              refine hTake (i := 7) rfl (by kernel_rfl) rfl rfl (fun _ hS => yfa fl114_1 rfl) ((Kp.refl _ ws).drew) ?_
              refine hTake (i := 8) rfl (by kernel_rfl) rfl rfl (fun _ hS => yld Try.underlying9 rfl rfl (hS.blk hB5s (by omega)) rfl) ((Kp.refl _ ws).drew) ?_
              refine hTake (i := 9) rfl (by kernel_rfl) rfl rfl (fun _ hS => ymv rfl) ((Kp.refl _ ws).drew) ?_
              refine hTake (i := 10) rfl (by kernel_rfl) rfl rfl (fun _ hS => yml rfl rfl (by omega)) ((Kp.refl _ ws).drew) ?_
              refine hTake (i := 11) rfl (by kernel_rfl) rfl rfl (fun _ hS => yslSf Try.underlying9 rfl rfl (by omega)) ((Kp.refl _ ws).drew) ?_
              refine hTake (i := 6) rfl (by kernel_rfl) rfl rfl (fun _ hS => yslV (i := s * 512) (j := (s + 1) * 512) Try.underlying30 ti5 rfl rfl rfl (by omega) (by omega)) ((Kp.refl _ ws).drew) ?_
              refine hOne (i := 12) (by kernel_rfl) ?_
              refine nValP (i := 12) rfl rfl rfl (pcpS Try.underlying30 ti5 rfl rfl ((Ext.drew0 ws).blk hBs) (by simp [hml]; omega)) ?_
              rintro _ w6 ⟨rfl, hB6, hk6⟩
              refine ⟨(Kp.refl _ ws).drew.trans hk6, ?_⟩
              have e6 : ((x.2.drop (s * 512)).take ((s + 1) * 512 - s * 512)).map u8v = ((x.2.drop (512 * s)).take 512).map u8v := by
                rw [show (s + 1) * 512 - s * 512 = 512 by omega, Nat.mul_comm]
              rw [e6, show 0 + s * 512 * 1 = 512 * s by omega, splice_map _ _ _ _ (by simp [hml, hxok.2.2]; omega)] at hB6
              have em : mixN mk k0 x.2 (s + 1) = splB (mixN mk k0 x.2 s) (512 * s) ((x.2.drop (512 * s)).take 512) := by
                simp only [mixN, hq, hbit', if_true]
              rw [← em] at hB6
              refine hEnd (by kernel_rfl) ?_
              refine run_inBlock ?_
              refine run_reg rfl ?_
              refine rVal rfl rfl (yad rfl rfl (by omega)) ?_
              refine rVal rfl rfl (ymv rfl) ?_
              refine rEnd ?_
              exact (ihs (s + 1) w6 ⟨by omega, hB6, hks.trans ((Kp.refl _ ws).drew.trans hk6)⟩ (by omega)).sub (by repeat (first | exact Sub.nil | refine Sub.cons rfl ?_))
            · skip
              have hbit' : ¬ q % 2 = 1 := by omega
              have em : mixN mk k0 x.2 (s + 1) = mixN mk k0 x.2 s := by simp only [mixN, hq, hbit', if_false]
              rw [← em] at hBs
              refine run_skip ?_
              refine run_inBlock ?_
              refine run_reg rfl ?_
              refine rVal rfl rfl (yad rfl rfl (by omega)) ?_
              refine rVal rfl rfl (ymv rfl) ?_
              refine rEnd ?_
              exact (ihs (s + 1) ws ⟨by omega, hBs, hks⟩ (by omega)).sub (by repeat (first | exact Sub.nil | refine Sub.cons rfl ?_))
          · skip
            have hsN : s = D.N := by omega
            subst hsN
            have hds := hd.kp hks fun k hk hkb => by have := hfl k hk; omega
            obtain ⟨kv, hkv, hsf⟩ := hds.map
            have hMs := hds.blk
            have hxs : Ext w3 ws := hx45.trans_new hks (fun j hj => by omega)
            have hris := hri3.ext hxs
            refine run_exit rfl ?_
            refine run_draw (fun w' => Kp (fun k => k = m) ws w') (by kernel_rfl) rfl ?_
            refine hTake (i := 0) rfl (by kernel_rfl) rfl rfl (fun _ hS => ymv rfl) ((Kp.refl _ ws).drew) ?_
            refine hTake (i := 1) rfl (by kernel_rfl) rfl rfl (fun _ hS => (by first | exact ync rfl | exact yncf rfl)) ((Kp.refl _ ws).drew) ?_
            refine hTake (i := 2) rfl (by kernel_rfl) rfl rfl (fun _ hS => yfa fl108_2 rfl) ((Kp.refl _ ws).drew) ?_
            refine hTake (i := 3) rfl (by kernel_rfl) rfl rfl (fun _ hS => (by first | exact yld Try.underlying105 rfl rfl (hS.blk hMs hds.pm) rfl | exact yld Try.underlying105 rfl rfl (hS.blk hB5s (by omega)) rfl)) ((Kp.refl _ ws).drew) ?_
            refine hTake (i := 4) rfl (by kernel_rfl) rfl rfl (fun _ hS => yfa fl114_0 rfl) ((Kp.refl _ ws).drew) ?_
            refine hTake (i := 5) rfl (by kernel_rfl) rfl rfl (fun _ hS => (by first | exact yld Try.underlying3 rfl rfl (hS.blk hMs hds.pm) rfl | exact yld Try.underlying3 rfl rfl (hS.blk hB5s (by omega)) rfl)) ((Kp.refl _ ws).drew) ?_
            refine hTake (i := 6) rfl (by kernel_rfl) rfl rfl (fun _ hS => ymv rfl) ((Kp.refl _ ws).drew) ?_
            refine hTake (i := 7) rfl (by kernel_rfl) rfl rfl (fun _ hS => yB2S (l := mixN mk k0 x.2 D.N) Try.underlying30 Try.underlying5 Try.underlying9 rfl (hS.blk hBs (by omega)) (bytes_whole _ _ _ (by omega)) (by omega)) ((Kp.refl _ ws).drew) ?_
            refine hOne (i := 8) (by kernel_rfl) ?_
            refine nEffP (i := 8) rfl rfl (zmu (k := x.1) (K := KI) Try.underlying105 (ky_int Try.underlying3) rfl rfl rfl (Ext.map (Ext.drew0 ws) hkv)) ?_
            rintro w7 ⟨hm7, hk7⟩
            refine ⟨(Kp.refl _ ws).drew.trans hk7, ?_⟩
            have hk7' := (Kp.refl (fun i => i = m) ws).drew.trans hk7
            have hd7 := hds.put hsf hm7 hk7' (hds.ok.put ⟨hxok.1, hxok.2.1⟩ (mixN_length mk k0 x.2 D.N hk0l hxok.2.2 D.N (Nat.le_refl _)))
            have ef : upd (D.fallTo l tn mk i) x.1 (mixN mk k0 x.2 D.N) = D.fallTo l tn mk (i + 1) := by
              rw [fallTo_at hx, if_pos htn, ← hk0]; rfl
            simp only [ef] at hd7
            refine hEnd (by kernel_rfl) ?_
            refine run_inBlock ?_
            refine run_inBlock ?_
            refine run_reg rfl ?_
            refine rVal rfl rfl (yad rfl rfl (by omega)) ?_
            refine rVal rfl rfl (ymv rfl) ?_
            refine rEnd ?_
            exact (ih (i + 1) w7 ⟨by omega, hd7, hris.kpm hkv hk7', hk7'.blk hB3s (by omega), hk03.trans (hxs.kp.trans hk7')⟩ (by omega)).sub (by repeat (first | exact Sub.nil | refine Sub.cons rfl ?_))
      · skip
        have hMx := hd.blk
        refine run_seq ?_
        refine run_reg rfl ?_
        refine rVal rfl rfl (yfa fl51_0 rfl) ?_
        refine rVal rfl rfl ((by first | exact yld Try.underlying43 rfl rfl hB3i rfl | exact yld Try.underlying43 rfl rfl hB5' rfl)) ?_
        refine rVal rfl rfl (ymv rfl) ?_
        refine rCall rfl rfl (yc (args := [.tmp 66, .tmp 67]) cf81 rfl) (contains_ret (.slice ac l.length capc) l (i : Int) w3 hl hri3) ?_
        rintro _ w4 ⟨rfl, rfl⟩
        refine rVal rfl rfl (yas rfl) ?_
        refine rEnd ?_
        refine run_if rfl (fun hin => ?_) (fun hin => ?_)
        · skip
          obtain ⟨kv, hkv, hsf⟩ := hd.map
          refine run_draw (fun w' => Kp (fun k => k = m) w4 w') (by kernel_rfl) rfl ?_
          refine hTake (i := 0) rfl (by kernel_rfl) rfl rfl (fun _ hS => ymv rfl) ((Kp.refl _ w4).drew) ?_
          refine hTake (i := 1) rfl (by kernel_rfl) rfl rfl (fun _ hS => (by first | exact ync rfl | exact yncf rfl)) ((Kp.refl _ w4).drew) ?_
          refine hTake (i := 2) rfl (by kernel_rfl) rfl rfl (fun _ hS => yfa fl108_2 rfl) ((Kp.refl _ w4).drew) ?_
          refine hTake (i := 3) rfl (by kernel_rfl) rfl rfl (fun _ hS => (by first | exact yld Try.underlying105 rfl rfl (hS.blk hMx hd.pm) rfl | exact yld Try.underlying105 rfl rfl (hS.blk hB5' (by omega)) rfl)) ((Kp.refl _ w4).drew) ?_
          refine hTake (i := 4) rfl (by kernel_rfl) rfl rfl (fun _ hS => yfa fl114_0 rfl) ((Kp.refl _ w4).drew) ?_
          refine hTake (i := 5) rfl (by kernel_rfl) rfl rfl (fun _ hS => (by first | exact yld Try.underlying3 rfl rfl (hS.blk hMx hd.pm) rfl | exact yld Try.underlying3 rfl rfl (hS.blk hB5' (by omega)) rfl)) ((Kp.refl _ w4).drew) ?_
          refine hTake (i := 6) rfl (by kernel_rfl) rfl rfl (fun _ hS => yfa fl114_1 rfl) ((Kp.refl _ w4).drew) ?_
          refine hTake (i := 7) rfl (by kernel_rfl) rfl rfl (fun _ hS => (by first | exact yld Try.underlying9 rfl rfl (hS.blk hMx hd.pm) rfl | exact yld Try.underlying9 rfl rfl (hS.blk hB5' (by omega)) rfl)) ((Kp.refl _ w4).drew) ?_
          refine hOne (i := 8) (by kernel_rfl) ?_
          refine nEffP (i := 8) rfl rfl (zmu (k := x.1) (K := KI) Try.underlying105 (ky_int Try.underlying3) rfl rfl rfl (Ext.map (Ext.drew0 w4) hkv)) ?_
          rintro w7 ⟨hm7, hk7⟩
          refine ⟨(Kp.refl _ w4).drew.trans hk7, ?_⟩
          have hk7' := (Kp.refl (fun i => i = m) w4).drew.trans hk7
          have hd7 := hd.put hsf hm7 hk7' (hd.ok.put ⟨hxok.1, hxok.2.1⟩ hxok.2.2)
          have ef : upd (D.fallTo l tn mk i) x.1 x.2 = D.fallTo l tn mk (i + 1) := by
            rw [fallTo_at hx, if_neg htn, if_pos hin]
          simp only [ef] at hd7
          refine hEnd (by kernel_rfl) ?_
          refine run_inBlock ?_
          refine run_inBlock ?_
          refine run_reg rfl ?_
          refine rVal rfl rfl (yad rfl rfl (by omega)) ?_
          refine rVal rfl rfl (ymv rfl) ?_
          refine rEnd ?_
          exact (ih (i + 1) w7 ⟨by omega, hd7, hri3.kpm hkv hk7', hk7'.blk hB3i (by omega), hk03.trans hk7'⟩ (by omega)).sub (by repeat (first | exact Sub.nil | refine Sub.cons rfl ?_))
        · skip
          have ef : D.fallTo l tn mk i = D.fallTo l tn mk (i + 1) := by
            rw [fallTo_at hx, if_neg htn, if_neg hin]
          rw [ef] at hd
          refine run_skip ?_
          refine run_inBlock ?_
          refine run_inBlock ?_
          refine run_reg rfl ?_
          refine rVal rfl rfl (yad rfl rfl (by omega)) ?_
          refine rVal rfl rfl (ymv rfl) ?_
          refine rEnd ?_
          exact (ih (i + 1) w4 ⟨by omega, hd, hri3, hB3i, hk03⟩ (by omega)).sub (by repeat (first | exact Sub.nil | refine Sub.cons rfl ?_))
    · skip
      have hin : i = D.cache.length := by omega
      subst hin
      have hMx := hd.blk
      refine run_exit rfl ?_
      refine run_seq ?_
      refine run_reg rfl ?_
      refine rVal rfl rfl (ymv rfl) ?_
      refine rVal rfl rfl ((by first | exact ync rfl | exact yncf rfl)) ?_
      refine rVal rfl rfl (yfa fl108_3 rfl) ?_
      refine rEffP rfl (zst ti106 rfl rfl rfl hMx (by simp)) ?_
      rintro w5 ⟨hB5, hk5⟩
      refine rEnd ?_
      refine run_seq ?_
      refine run_reg rfl ?_
      refine rVal rfl rfl (ymv rfl) ?_
      refine rVal rfl rfl (ybd (parts := []) (cs := [_, _, _, _]) ti104 rfl sp104 rfl rfl) ?_
      refine rVal rfl rfl ((by first | exact ync rfl | exact yncf rfl)) ?_
      refine rVal rfl rfl (yfa fl108_0 rfl) ?_
      refine rEffP rfl (zstA ti104 rfl rfl rfl rfl hB5 (by simp)) ?_
      rintro w6 ⟨hB6, hk6⟩
      replace hB6 : Blk w6 p [I 0, .slice none 0 0, I 0, u8v 0, I (D.B : Int), I (D.N : Int), .map (some m), .slice none 0 0, .bool D.down, I D.calls, I D.reads] 108 := hB6
      refine rEnd ?_
      refine run_reg rfl ?_
      refine rVal rfl rfl (ymv rfl) ?_
      refine rVal rfl rfl ((by first | exact ync rfl | exact yncf rfl)) ?_
      refine rVal rfl rfl (yfa fl108_4 rfl) ?_
      refine rEffP rfl (zst ti4 rfl rfl rfl hB6 (by simp)) ?_
      rintro w7 ⟨hB7, hk7⟩
      refine rEnd ?_
      refine run_end Try.func62 rfl ?_
      have hk57 := (hk5.trans hk6).trans hk7
      obtain ⟨kv, hkv, hsf⟩ := hd.map
      refine ⟨_, rfl, rfl, ⟨hB7, ⟨kv, hk57.map hkv fun e => hd.pm e.symm, hsf⟩, Sl.nil w7 _ _, Sl.nil w7 _ _, ?_⟩, ?_⟩
      · exact ⟨hd.ok.hB, hd.ok.hN, by simp [Dev.fall], hd.ok.sf, fun x hx => by simp [Dev.fall] at hx, by have := hlen; simp [Dev.fall]; omega, hd.ok.reads⟩
      · exact ((Ext.kp hx1).trans (hki.mono' fun _ h => .inr h)).trans (hk57.mono' fun _ h => .inl h)
end Go.Proofs.Ytdapkfppcaaohaa
