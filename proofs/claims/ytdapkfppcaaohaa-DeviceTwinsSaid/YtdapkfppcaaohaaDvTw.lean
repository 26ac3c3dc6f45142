/- The statement's function DeviceTwins walked: it answers true on every argument. -/
import Derived.Test.YtdapkfppcaaohaaDvD
namespace Go.Proofs.Ytdapkfppcaaohaa
open Go Go.RowKit
set_option linter.all false
set_option maxRecDepth 100000

/-- A device and its twin. -/
def PairM (w0 w : World) (p q : Nat) (D T : Dev) (k : Nat) : Prop := Ext w0 w ∧ D.Small k ∧ T.Small k ∧ ∃ F G, DevA w p D F ∧ DevA w q T G ∧ (∀ i, F i → w0.heap.size ≤ i ∧ ¬ G i) ∧ (∀ i, G i → w0.heap.size ≤ i)
theorem PairM.swap {w0 w : World} {p q : Nat} {D T : Dev} {k : Nat} (h : PairM w0 w p q D T k) : PairM w0 w q p T D k := by
  obtain ⟨hx, s1, s2, F, G, hF, hG, h1, h2⟩ := h
  exact ⟨hx, s2, s1, G, F, hG, hF, fun i hi => ⟨h2 i hi, fun hf => (h1 i hf).2 hi⟩, fun i hi => (h1 i hi).1⟩
theorem pair_step {w0 w w' : World} {p q : Nat} {D D' T : Dev} {k k' : Nat} {F G : Nat → Prop} (hx : Ext w0 w) (hF : DevA w p D F) (hG : DevA w q T G) (h1 : ∀ i, F i → w0.heap.size ≤ i ∧ ¬ G i) (h2 : ∀ i, G i → w0.heap.size ≤ i) (hs : D'.Small k') (ht : T.Small k) (hkk : k ≤ k') (h : DevT w p F D' w') : PairM w0 w' p q D' T k' := by
  obtain ⟨F', h', hu⟩ := h
  have hl := hu.low hx.size (fun i hi => (h1 i hi).1)
  have hd := hu.dis hG.lt (fun i hi => (h1 i hi).2)
  exact ⟨hu.ext hx (fun i hi => (h1 i hi).1), hs, ht.mono hkk, F', G, h', hG.kp hu.1 (fun i hg hf => (h1 i hf).2 hg), fun i hi => ⟨hl i hi, hd i hi⟩, h2⟩

set_option maxHeartbeats 4000000 in
theorem deviceTwins_ret (v0 v1 kv : Value) (l more : List POp) (other : POp) (w : World) (h0 : OpsM w v0 l) (h1 : OpsM w v1 more) (ho : other.Ok) (hr : Rd w kv 1 other.keep.length (other.keep.map I)) :
    Ret Try.prog 9 [v0, v1, other.val kv] w fun v w' => v = .bool true ∧ Ext w w' := by
  obtain ⟨a0, c0, rfl⟩ := h0.shape
  obtain ⟨a1, c1, rfl⟩ := h1.shape
  obtain ⟨kind, who, n, at', data, keep, torn, mask⟩ := other
  obtain ⟨ak, ck, rfl, hak⟩ := hr.shape
  rw [show POp.val ⟨kind, who, n, at', data, keep, torn, mask⟩ (.slice ak keep.length ck) = .agg #[I kind, I who, I n, I at', S data, .slice ak keep.length ck, I torn, u8v mask] from rfl]
  refine ret_of_run (e := [(0, _), (1, _), (2, _)]) Try.func9 rfl Try.ntmps9 rfl rfl ?_
  refine run_seq ?_
  refine run_reg rfl ?_
  refine rValP rfl rfl (pbx rfl rfl) ?_
  rintro _ w1 ⟨b5, rfl, hb5, hx1, hB5⟩
  have h0 := h0.ext hx1
  have h1 := h1.ext hx1
  have hr := hr.ext hx1
  refine rVal rfl rfl (yas rfl) ?_
  refine rEnd ?_
  refine run_seq ?_
  refine run_reg rfl ?_
  refine rVal rfl rfl (ybd (parts := [(0, .const (Value.int .i64 16)), (1, .const (Value.int .i64 2))]) (cs := [_, _]) ti68 rfl sp68 rfl rfl) ?_
  refine rCall rfl rfl (yc (args := [.tmp 18]) cf32 rfl) (newA_ok 16 2 w1 (by decide)) ?_
  rintro _ w2 ⟨p, F0, rfl, hA2, hx2, hF2⟩
  refine rVal rfl rfl (ymv rfl) ?_
  refine rVal rfl rfl (yex rfl rfl) ?_
  refine rVal rfl rfl (yex rfl rfl) ?_
  refine rVal rfl rfl (yas rfl) ?_
  refine rVal rfl rfl (yas rfl) ?_
  refine rEnd ?_
  refine run_seq ?_
  refine run_seq ?_
  refine run_reg rfl ?_
  refine rVal rfl rfl (ymv rfl) ?_
  refine rVal rfl rfl (yne rfl rfl) ?_
  refine rFalse (by (first | exact fun h => h rfl | assumption | omega)) ?_
  refine rVal rfl rfl (ymv rfl) ?_
  refine rVal rfl rfl (ymv rfl) ?_
  refine rVal rfl rfl (yeqpN Try.underlying46 rfl rfl) ?_
  refine rVal rfl rfl (ypF rfl rfl) ?_
  refine rVal rfl rfl (ymv rfl) ?_
  refine rCall rfl rfl (yc (args := []) cf24 rfl) (awake_ret w2) ?_
  rintro _ w3 ⟨rfl, hx3⟩
  refine rVal rfl rfl ((by first | exact yntd rfl | exact ynt rfl)) ?_
  refine rVal rfl rfl (ypF rfl rfl) ?_
  refine rEnd ?_
  refine run_false rfl ?_
  refine run_skip ?_
  refine run_seq ?_
  refine run_seq ?_
  refine run_reg rfl ?_
  refine rVal rfl rfl (yas rfl) ?_
  refine rEnd ?_
  refine run_block ?_
  -- the first calls
  refine run_cut2 (fun e' w' => e' = [(1, .slice a1 more.length c1), (5, ptr b5 0), (7, ptr p 0)] ∧ Ext w1 w' ∧ ∃ D F, DevA w' p D F ∧ D.Small 60 ∧ ∀ k, F k → w1.heap.size ≤ k) ?hk (fun hk => ?hmain)
  case hk =>
    rintro _ w5 ⟨rfl, hx5, D5, F5, hA5, hS5, hF5⟩
    refine run_seq ?_
    refine run_reg rfl ?_
    refine rVal rfl rfl (ymv rfl) ?_
    refine rCall rfl rfl (yc (args := [.tmp 48]) cf29 rfl) (twinA_ret hA5 hS5 (by omega)) ?_
    rintro _ w6 ⟨q, G6, rfl, hG6, hx6, hlG6⟩
    refine rVal rfl rfl (yas rfl) ?_
    refine rEnd ?_
    refine run_seq ?_
    refine run_seq ?_
    refine run_reg rfl ?_
    refine rVal rfl rfl (yas rfl) ?_
    refine rEnd ?_
    refine run_block ?_
    have hP6 : PairM w1 w6 p q D5 D5 60 := ⟨hx5.trans hx6, hS5, hS5, F5, G6, hA5.ext hx6, hG6, fun i hi => ⟨hF5 i hi, fun hg => by have := hA5.lt i hi; have := hlG6 i hg; omega⟩, fun i hi => Nat.le_trans hx5.size (hlG6 i hi)⟩
    refine run_cut2 (fun e' w' => e' = [(5, ptr b5 0), (7, ptr p 0), (10, ptr q 0)] ∧ ∃ D, PairM w1 w' p q D D 120) ?hkb (fun hkb => ?hmainb)
    case hkb =>
      rintro _ w8 ⟨rfl, D8, hx8, hS8, -, F8, G8, hA8, hG8, hd8, hl8⟩
      refine run_seq ?_
      refine run_reg rfl ?_
      refine rVal rfl rfl (ymv rfl) ?_
      refine rCall rfl rfl (yc (args := [.tmp 107]) cf28 rfl) (imageA_ret hA8 hS8 (by omega)) ?_
      rintro v9 w9 ⟨hI9, hx9, hg9⟩
      have hA9 := hA8.ext hx9
      have hG9 := hG8.ext hx9
      obtain ⟨va, vc, rfl, -⟩ := hI9.rd.shape
      refine rVal rfl rfl (yas rfl) ?_
      refine rEnd ?_
      refine run_seq ?_
      refine run_seq ?_
      refine run_reg rfl ?_
      refine rVal rfl rfl (ymv rfl) ?_
      refine rVal rfl rfl (ymv rfl) ?_
      refine rCall rfl rfl (yc (args := [.tmp 110]) cf28 rfl) (imageA_ret hG9 hS8 (by omega)) ?_
      rintro v10 w10 ⟨hI10, hx10, hg10⟩
      have hB8 := hA8
      have him : D8.image.length = D8.B := by simp [Dev.image]
      have hBB : D8.B ≤ 4096 := by obtain ⟨m, kp, ca, h, -⟩ := hA8; exact h.ok.hB.2
      have hI9' : Sl w10 (.slice va D8.B vc) 9 1 D8.image.length (D8.image.map S) := by rw [him]; exact hI9.ext hx10
      have hI10' : Sl w10 v10 9 1 D8.image.length (D8.image.map S) := by rw [him]; exact hI10
      refine rCall rfl rfl (yc (args := [.tmp 109, .tmp 111]) cf31 rfl) (same_ret (.slice va D8.B vc) v10 D8.image D8.image w10 hI9'.rd hI10'.rd (by omega) (by omega)) ?_
      rintro _ w11 ⟨rfl, hx11⟩
      rw [show decide (D8.image = D8.image) = true from decide_eq_true rfl]
      refine rVal rfl rfl ((by first | exact yntd rfl | exact ynt rfl)) ?_
      refine rEnd ?_
      refine run_false rfl ?_
      have hx811 := (hx9.trans hx10).trans hx11
      have hx111 := hx8.trans hx811
      have hA11 := hA8.ext hx811
      have hG11 := hG8.ext hx811
      have hI11 := hI9.ext (hx10.trans hx11)
      -- what is not the twin's: the device and its image
      obtain ⟨O, hO⟩ : ∃ O : Nat → Prop, O = fun i => F8 i ∨ (Value.slice va D8.B vc).ownBlock = some i := ⟨_, rfl⟩
      have hOl : ∀ i, O i → i < w11.heap.size := by
        intro i hi
        rw [hO] at hi
        rcases hi with h | h
        · exact hA11.lt i h
        · exact hI11.lt h
      have hOd : ∀ i, G8 i → ¬ O i := by
        intro i hg hi
        rw [hO] at hi
        rcases hi with h | h
        · exact (hd8 i h).2 hg
        · have := hg9 i h; have := hG8.lt i hg; omega
      obtain ⟨hok1, hok2, hok3⟩ := ho
      have hB511 := hx111.blk hB5
      have hr11 := hr.ext hx111
      have hG8l := hl8
      refine run_skip ?_
      refine run_seq ?_
      refine run_reg rfl ?_
      refine rVal rfl rfl (ymv rfl) ?_
      refine rVal rfl rfl (yldA Try.underlying64 rfl ti64 rfl (Blk.cells (n := 8) hB511 (news := [_, _, _, _, _, _, _, _]) rfl) rfl) ?_
      refine rCall rfl rfl (yc (args := [.tmp 114, .tmp 115]) cf33 rfl) (runA_ret ⟨kind, who, n, at', data, keep, torn, mask⟩ ⟨hok1, hok2, hok3⟩ hG11 hS8 (by omega) hr11) ?_
      rintro _ w12 ⟨rfl, h12⟩
      obtain ⟨G12, hG12, hu12⟩ := h12
      have hS12 := small_op (o := ⟨kind, who, n, at', data, keep, torn, mask⟩) ⟨hok1, hok2, hok3⟩ hS8
      obtain ⟨T12, hT12⟩ : ∃ T, (D8.op ⟨kind, who, n, at', data, keep, torn, mask⟩).1 = T := ⟨_, rfl⟩
      rw [hT12] at hG12 hS12
      have hO12 := hu12.dis hOl hOd
      have hK12 : Kp (fun i => w1.heap.size ≤ i ∧ ¬ O i) w11 w12 := hu12.1.mono' fun i hi => ⟨hl8 i hi, hOd i hi⟩
      have hl12 := hu12.low hx111.size hl8
      have hOl12 : ∀ i, O i → i < w12.heap.size := fun i hi => Nat.lt_of_lt_of_le (hOl i hi) hu12.1.size
      have hx112 := hu12.ext hx111 hl8
      refine rEnd ?_
      refine run_seq ?_
      refine run_reg rfl ?_
      refine rVal rfl rfl (ymv rfl) ?_
      refine rCall rfl rfl (yc (args := [.tmp 117]) cf27 rfl) (restartA_ret hG12) ?_
      rintro _ w13 ⟨rfl, h13⟩
      obtain ⟨G13, hG13, hu13⟩ := h13
      have hS13 : Dev.Small { T12 with down := false } 121 := hS12
      have hO13 := hu13.dis hOl12 hO12
      have hK13 : Kp (fun i => w1.heap.size ≤ i ∧ ¬ O i) w12 w13 := hu13.1.mono' fun i hi => ⟨hl12 i hi, hO12 i hi⟩
      have hl13 := hu13.low hx112.size hl12
      have hOl13 : ∀ i, O i → i < w13.heap.size := fun i hi => Nat.lt_of_lt_of_le (hOl12 i hi) hu13.1.size
      have hx113 := hu13.ext hx112 hl12
      refine rEnd ?_
      refine run_seq ?_
      refine run_reg rfl ?_
      refine rVal rfl rfl (ymv rfl) ?_
      refine rCall rfl rfl (yc (args := [.tmp 119, .const (Value.int .i64 0), .const (Value.int .i64 0), .const (Value.string (⟨#[115, 101, 101, 110, 63]⟩))]) cf36 rfl) (corruptA_ret 0 0 [115, 101, 101, 110, 63] hG13 hS13 (by omega) (by omega) (by decide)) ?_
      rintro _ w14 ⟨rfl, h14⟩
      obtain ⟨G14, hG14, hu14⟩ := h14
      have hS14 := small_op (o := ⟨7, 0, 0, 0, [115, 101, 101, 110, 63], [], 0, 0⟩) ⟨by decide, by decide, by decide⟩ hS13
      obtain ⟨T14, hT14⟩ : ∃ T, (Dev.corrupt { T12 with down := false } 0 0 [115, 101, 101, 110, 63]).1 = T := ⟨_, rfl⟩
      rw [show (Dev.op { T12 with down := false } ⟨7, 0, 0, 0, [115, 101, 101, 110, 63], [], 0, 0⟩).1 = T14 from hT14] at hS14
      rw [hT14] at hG14
      have hO14 := hu14.dis hOl13 hO13
      have hK14 : Kp (fun i => w1.heap.size ≤ i ∧ ¬ O i) w13 w14 := hu14.1.mono' fun i hi => ⟨hl13 i hi, hO13 i hi⟩
      have hl14 := hu14.low hx113.size hl13
      have hOl14 : ∀ i, O i → i < w14.heap.size := fun i hi => Nat.lt_of_lt_of_le (hOl13 i hi) hu14.1.size
      have hx114 := hu14.ext hx113 hl13
      refine rEnd ?_
      refine run_seq ?_
      refine run_reg rfl ?_
      refine rVal rfl rfl (ymv rfl) ?_
      refine rCall rfl rfl (yc (args := [.const (Value.string (⟨#[115, 101, 101, 110, 63]⟩)), .const (Value.int .i64 1024)]) cf38 rfl) (fill_ret [115, 101, 101, 110, 63] 1024 w14 (by decide) (by decide)) ?_
      rintro _ w15 ⟨rfl, rfl⟩
      refine rCall rfl rfl (yc (args := [.tmp 121, .const (Value.int .i64 1), .tmp 122]) cf37 rfl) (writeA_ret 1 (fill [115, 101, 101, 110, 63] 1024) hG14 hS14 (by omega)) ?_
      rintro _ w16 ⟨rfl, h16⟩
      obtain ⟨G16, hG16, hu16⟩ := h16
      have hS16 := small_write hS14 1 (fill [115, 101, 101, 110, 63] 1024)
      have hO16 := hu16.dis hOl14 hO14
      have hK16 : Kp (fun i => w1.heap.size ≤ i ∧ ¬ O i) w15 w16 := hu16.1.mono' fun i hi => ⟨hl14 i hi, hO14 i hi⟩
      have hl16 := hu16.low hx114.size hl14
      have hx116 := hu16.ext hx114 hl14
      refine rEnd ?_
      refine run_seq ?_
      refine run_reg rfl ?_
      refine rVal rfl rfl (ymv rfl) ?_
      refine rCall rfl rfl (yc (args := [.tmp 124]) cf39 rfl) (flushA_ret hG16 hS16 (by omega)) ?_
      rintro _ w17 ⟨rfl, h17⟩
      obtain ⟨G17, hG17, hu17⟩ := h17
      have hK17 : Kp (fun i => w1.heap.size ≤ i ∧ ¬ O i) w16 w17 := hu17.1.mono' fun i hi => ⟨hl16 i hi, hO16 i hi⟩
      have hx117 := hu17.ext hx116 hl16
      have hK := (((hK12.trans hK13).trans hK14).trans hK16).trans hK17
      have hA17 := hA11.kp hK fun i hi h => h.2 (by rw [hO]; exact .inl hi)
      have hI17 := hI11.kp hK fun i hi h => h.2 (by rw [hO]; exact .inr hi)
      refine rEnd ?_
      refine run_seq ?_
      refine run_reg rfl ?_
      refine rVal rfl rfl (ymv rfl) ?_
      refine rVal rfl rfl (ymv rfl) ?_
      refine rCall rfl rfl (yc (args := [.tmp 127]) cf28 rfl) (imageA_ret hA17 hS8 (by omega)) ?_
      rintro v18 w18 ⟨hI18, hx18, hg18⟩
      have hI17' : Sl w18 (.slice va D8.B vc) 9 1 D8.image.length (D8.image.map S) := by rw [him]; exact hI17.ext hx18
      have hI18' : Sl w18 v18 9 1 D8.image.length (D8.image.map S) := by rw [him]; exact hI18
      refine rCall rfl rfl (yc (args := [.tmp 126, .tmp 128]) cf31 rfl) (same_ret (.slice va D8.B vc) v18 D8.image D8.image w18 hI17'.rd hI18'.rd (by omega) (by omega)) ?_
      rintro _ w19 ⟨rfl, hx19⟩
      rw [show decide (D8.image = D8.image) = true from decide_eq_true rfl]
      refine rVal rfl rfl (yas rfl) ?_
      refine rEnd ?_
      refine Run.sub (e := [(6, _)]) ?_ (by repeat (first | exact Sub.nil | refine Sub.cons rfl ?_))
      refine run_ret Try.func9 rfl ?_
      exact ⟨_, rfl, rfl, ((hx1.trans hx117).trans hx18).trans hx19⟩
    case hmainb =>
      refine run_loop (α := Nat) (0) (fun i => [(1, .slice a1 more.length c1), (5, ptr b5 0), (7, ptr p 0), (10, ptr q 0), (11, I (i : Int))]) (fun i wi => i ≤ 60 ∧ ∃ D, PairM w1 wi p q D D (60 + i)) (fun i => 60 - i) (by repeat (first | exact Sub.nil | refine Sub.cons rfl ?_)) ?hI ?hround
      case hI => exact ⟨by omega, D5, hP6⟩
      case hround =>
        rintro i wi ⟨hi, D, hP⟩ ih
        have hP0 := hP
        obtain ⟨hxi, hS, -, F, G, hA, hG, hd1, hd2⟩ := hP
        have hPe : PairM w1 wi p q D D 120 := ⟨hxi, hS.mono (by omega), hS.mono (by omega), F, G, hA, hG, hd1, hd2⟩
        dsimp only
        refine run_seq ?_
        refine run_seq ?_
        refine run_reg rfl ?_
        refine rVal rfl rfl (ymv rfl) ?_
        refine rVal rfl rfl (ymv rfl) ?_
        refine rVal rfl rfl (yln Try.underlying62 rfl) ?_
        refine rVal rfl rfl (ylt rfl rfl) ?_
        refine rVal_if (fun hlt => ?_) (fun hlt => ?_)
        · skip
          have hlt' : i < more.length := by omega
          refine rVal rfl rfl (ymv rfl) ?_
          refine rVal rfl rfl (ymv rfl) ?_
          refine rVal rfl rfl (ylt rfl rfl) ?_
          refine rVal_if (fun h60 => ?_) (fun h60 => ?_)
          · skip
            obtain ⟨b, off, o, ov, rfl, hoi, hcell, hro, hok⟩ := (h1.ext hxi).get hlt'
            refine rVal rfl rfl (ypT rfl rfl) ?_
            refine rEnd ?_
            refine run_true rfl ?_
            refine run_skip ?_
            refine run_seq ?_
            refine run_block ?_
            refine run_seq ?_
            refine run_reg rfl ?_
            refine rVal rfl rfl (ymv rfl) ?_
            refine rVal rfl rfl (ymv rfl) ?_
            refine rVal rfl rfl (ymv rfl) ?_
            refine rVal rfl rfl (yis Try.underlying62 ti64 rfl rfl (by omega)) ?_
            refine rVal rfl rfl (yldA Try.underlying64 rfl ti64 rfl hcell rfl) ?_
            refine rCall rfl rfl (yc (args := [.tmp 61, .tmp 65]) cf33 rfl) (runA_ret o hok hA hS (by omega) hro) ?_
            rintro _ w7 ⟨rfl, h7⟩
            refine rVal rfl rfl (ymv rfl) ?_
            refine rVal rfl rfl (yex rfl rfl) ?_
            refine rVal rfl rfl (yex rfl rfl) ?_
            refine rVal rfl rfl (yas rfl) ?_
            refine rVal rfl rfl (yas rfl) ?_
            refine rEnd ?_
            refine run_seq ?_
            refine run_reg rfl ?_
            refine rVal rfl rfl (ymv rfl) ?_
            refine rVal rfl rfl (ymv rfl) ?_
            refine rVal rfl rfl (ymv rfl) ?_
            refine rVal rfl rfl (yis Try.underlying62 ti64 rfl rfl (by omega)) ?_
            have hP7 := pair_step hxi hA hG hd1 hd2 (small_op hok hS) hS (by omega) h7
            obtain ⟨hx7, hS7, hT7, F7, G7, hA7, hG7, hd7, hl7⟩ := hP7.swap
            obtain ⟨b', off', o', ov', hbe, hoi', hcell', hro', hok'⟩ := (h1.ext hx7).get hlt'
            cases hbe
            have hoo : o' = o := by rw [hoi] at hoi'; exact (Option.some.inj hoi').symm
            subst hoo
            refine rVal rfl rfl (yldA Try.underlying64 rfl ti64 rfl hcell' rfl) ?_
            refine rCall rfl rfl (yc (args := [.tmp 70, .tmp 74]) cf33 rfl) (runA_ret o' hok' hA7 hS (by omega) hro') ?_
            rintro _ w8 ⟨rfl, h8⟩
            have hP8 := (pair_step hx7 hA7 hG7 hd7 hl7 (small_op hok' hS) (small_op hok' hS) (by omega) h8).swap
            have hP8' := hP8
            obtain ⟨hx8, hS8, hT8, F8, G8, hA8, hG8, hd8, hl8⟩ := hP8
            refine rVal rfl rfl (ymv rfl) ?_
            refine rVal rfl rfl (yex rfl rfl) ?_
            refine rVal rfl rfl (yex rfl rfl) ?_
            refine rVal rfl rfl (yas rfl) ?_
            refine rVal rfl rfl (yas rfl) ?_
            refine rEnd ?_
            refine run_seq ?_
            refine run_reg rfl ?_
            refine rVal rfl rfl (ymv rfl) ?_
            refine rVal rfl rfl (ymv rfl) ?_
            refine rVal rfl rfl (yneS rfl rfl) ?_
            refine rFalse (by (first | exact fun h => h rfl | assumption | omega)) ?_
            refine rVal rfl rfl (ymv rfl) ?_
            refine rVal rfl rfl (ymv rfl) ?_
            refine rVal rfl rfl (ymv rfl) ?_
            refine rVal rfl rfl (yne rfl rfl) ?_
            refine rFalse (by (first | exact fun h => h rfl | assumption | omega)) ?_
            refine rVal rfl rfl (ypF rfl rfl) ?_
            refine rVal rfl rfl (ymv rfl) ?_
            refine rVal rfl rfl (ymv rfl) ?_
            refine rCall rfl rfl (yc (args := [.tmp 87]) cf34 rfl) (downA_ret hA8) ?_
            rintro _ w9 ⟨rfl, rfl⟩
            refine rVal rfl rfl (ymv rfl) ?_
            refine rCall rfl rfl (yc (args := [.tmp 89]) cf34 rfl) (downA_ret hG8) ?_
            rintro _ w9 ⟨rfl, rfl⟩
            refine rVal rfl rfl (yneb rfl rfl Try.underlying4) ?_
            rw [show (!((D.op o').1.down == (D.op o').1.down)) = false by simp]
            refine rVal rfl rfl (ypF rfl rfl) ?_
            refine rVal rfl rfl (ymv rfl) ?_
            refine rVal rfl rfl (ymv rfl) ?_
            refine rCall rfl rfl (yc (args := [.tmp 94]) cf35 rfl) (callsA_ret hA8) ?_
            rintro _ w9 ⟨rfl, rfl⟩
            refine rVal rfl rfl (ymv rfl) ?_
            refine rCall rfl rfl (yc (args := [.tmp 96]) cf35 rfl) (callsA_ret hG8) ?_
            rintro _ w9 ⟨rfl, rfl⟩
            refine rVal rfl rfl (yne rfl rfl) ?_
            refine rFalse (by (first | exact fun h => h rfl | assumption | omega)) ?_
            refine rVal rfl rfl (ypF rfl rfl) ?_
            refine rVal rfl rfl (ymv rfl) ?_
            refine rVal rfl rfl (ymv rfl) ?_
            refine rCall rfl rfl (yc (args := [.tmp 101]) cf30 rfl) (unflushedA_ret hA8) ?_
            rintro _ w9 ⟨rfl, rfl⟩
            refine rVal rfl rfl (ymv rfl) ?_
            refine rCall rfl rfl (yc (args := [.tmp 103]) cf30 rfl) (unflushedA_ret hG8) ?_
            rintro _ w9 ⟨rfl, rfl⟩
            refine rVal rfl rfl (yne rfl rfl) ?_
            refine rFalse (by (first | exact fun h => h rfl | assumption | omega)) ?_
            refine rVal rfl rfl (ypF rfl rfl) ?_
            refine rEnd ?_
            refine run_false rfl ?_
            refine run_skip ?_
            refine run_inBlock ?_
            refine run_reg rfl ?_
            refine rVal rfl rfl (ymv rfl) ?_
            refine rVal rfl rfl (yad rfl rfl (by omega)) ?_
            refine rVal rfl rfl (yas rfl) ?_
            refine rEnd ?_
            exact (ih (i + 1) _ ⟨by omega, _, hP8'⟩ (by omega)).sub (by repeat (first | exact Sub.nil | refine Sub.cons rfl ?_))
          · skip
            refine rVal rfl rfl (ypT rfl rfl) ?_
            refine rEnd ?_
            refine run_false rfl ?_
            refine run_exit rfl ?_
            exact (hkb _ _ ⟨rfl, D, hPe⟩).sub (by repeat (first | exact Sub.nil | refine Sub.cons rfl ?_))
        · skip
          refine rVal rfl rfl (ymv rfl) ?_
          refine rSkip rfl rfl ?_
          refine rSkip rfl rfl ?_
          refine rVal rfl rfl (ypF rfl rfl) ?_
          refine rEnd ?_
          refine run_false rfl ?_
          refine run_exit rfl ?_
          exact (hkb _ _ ⟨rfl, D, hPe⟩).sub (by repeat (first | exact Sub.nil | refine Sub.cons rfl ?_))
  case hmain =>
    refine run_loop (α := Nat) (0) (fun i => [(0, .slice a0 l.length c0), (1, .slice a1 more.length c1), (5, ptr b5 0), (7, ptr p 0), (9, I (i : Int))]) (fun i wi => i ≤ 60 ∧ Ext w1 wi ∧ ∃ D F, DevA wi p D F ∧ D.Small i ∧ ∀ k, F k → w1.heap.size ≤ k) (fun i => 60 - i) (by repeat (first | exact Sub.nil | refine Sub.cons rfl ?_)) ?hI ?hround
    case hI => exact ⟨by omega, hx2.trans hx3, _, _, hA2.ext hx3, small_fresh 16 2, hF2⟩
    case hround =>
      rintro i wi ⟨hi, hxi, D, F, hA, hS, hF⟩ ih
      dsimp only
      refine run_seq ?_
      refine run_seq ?_
      refine run_reg rfl ?_
      refine rVal rfl rfl (ymv rfl) ?_
      refine rVal rfl rfl (ymv rfl) ?_
      refine rVal rfl rfl (yln Try.underlying62 rfl) ?_
      refine rVal rfl rfl (ylt rfl rfl) ?_
      refine rVal_if (fun hlt => ?_) (fun hlt => ?_)
      · skip
        have hlt' : i < l.length := by omega
        refine rVal rfl rfl (ymv rfl) ?_
        refine rVal rfl rfl (ymv rfl) ?_
        refine rVal rfl rfl (ylt rfl rfl) ?_
        refine rVal_if (fun h60 => ?_) (fun h60 => ?_)
        · skip
          obtain ⟨b, off, o, ov, rfl, hoi, hcell, hro, hok⟩ := (h0.ext hxi).get hlt'
          refine rVal rfl rfl (ypT rfl rfl) ?_
          refine rEnd ?_
          refine run_true rfl ?_
          refine run_skip ?_
          refine run_seq ?_
          refine run_block ?_
          refine run_reg rfl ?_
          refine rVal rfl rfl (ymv rfl) ?_
          refine rVal rfl rfl (ymv rfl) ?_
          refine rVal rfl rfl (ymv rfl) ?_
          refine rVal rfl rfl (yis Try.underlying62 ti64 rfl rfl (by omega)) ?_
          refine rVal rfl rfl (yldA Try.underlying64 rfl ti64 rfl hcell rfl) ?_
          refine rCall rfl rfl (yc (args := [.tmp 42, .tmp 46]) cf33 rfl) (runA_ret o hok hA hS (by omega) hro) ?_
          rintro _ w4 ⟨rfl, h4⟩
          obtain ⟨F', hA', hu⟩ := h4
          refine rEnd ?_
          refine run_inBlock ?_
          refine run_reg rfl ?_
          refine rVal rfl rfl (ymv rfl) ?_
          refine rVal rfl rfl (yad rfl rfl (by omega)) ?_
          refine rVal rfl rfl (yas rfl) ?_
          refine rEnd ?_
          exact (ih (i + 1) w4 ⟨by omega, hu.ext hxi hF, _, F', hA', small_op hok hS, hu.low hxi.size hF⟩ (by omega)).sub (by repeat (first | exact Sub.nil | refine Sub.cons rfl ?_))
        · skip
          refine rVal rfl rfl (ypT rfl rfl) ?_
          refine rEnd ?_
          refine run_false rfl ?_
          refine run_exit rfl ?_
          exact (hk _ _ ⟨rfl, hxi, D, F, hA, hS.mono (by omega), hF⟩).sub (by repeat (first | exact Sub.nil | refine Sub.cons rfl ?_))
      · skip
        refine rVal rfl rfl (ymv rfl) ?_
        refine rSkip rfl rfl ?_
        refine rSkip rfl rfl ?_
        refine rVal rfl rfl (ypF rfl rfl) ?_
        refine rEnd ?_
        refine run_false rfl ?_
        refine run_exit rfl ?_
        exact (hk _ _ ⟨rfl, hxi, D, F, hA, hS.mono (by omega), hF⟩).sub (by repeat (first | exact Sub.nil | refine Sub.cons rfl ?_))
end Go.Proofs.Ytdapkfppcaaohaa
