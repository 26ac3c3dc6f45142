/- Texts PgC, TrLd, R8A, R8C, R8B, R8D, R8E, TrKe, TrDl, LwA, LwB, LwP, one behind the other (what the statement TreeStores does not use is left out). -/
import Derived.Test.YtocnhaoilnojmaaGreatTQp1
import Derived.Test.YtocnhaoilnojmaaGreatTQp5
import Derived.Test.YtocnhaoilnojmaaGreatTQp4
import Derived.Test.YtocnhaoilnojmaaGreatTQp3
import Derived.Test.YtocnhaoilnojmaaGreatTQp6
namespace Go.Proofs.YtocnhaoilnojmaaGreat
open Go Go.RowKit
set_option linter.all false
set_option maxRecDepth 100000
structure DcS (w : World) (b4 b5 b6 : Nat) (r : Bytes) (bad : Bool) : Prop where
 r : Blk w b4 [S r] 9
 b : Blk w b5 [.bool bad] 4
 f : Blk w b6 [.func (.func 81) #[] #[ptr b5 0, ptr b4 0]] 122
 n1 : b4 ≠ b5
 n2 : b6 ≠ b4 ∧ b6 ≠ b5
theorem DcS.kp {S : Nat → Prop} {w w' : World} {b4 b5 b6 : Nat} {r : Bytes} {bad : Bool} (h : DcS w b4 b5 b6 r bad) (k : Kp S w w') (h1 : ¬ S b4) (h2 : ¬ S b5) (h3 : ¬ S b6) : DcS w' b4 b5 b6 r bad := ⟨k.blk h.r h1, k.blk h.b h2, k.blk h.f h3, h.n1, h.n2⟩
theorem DcS.ext {w w' : World} {b4 b5 b6 : Nat} {r : Bytes} {bad : Bool} (h : DcS w b4 b5 b6 r bad) (k : Ext w w') : DcS w' b4 b5 b6 r bad := h.kp k id id id
theorem text_ret {w : World} {b4 b5 b6 : Nat} {r r' t : Bytes} {bad bad' : Bool} (h : DcS w b4 b5 b6 r bad) (n : Nat) (hn : n ≤ 1000000) (hr : r.length ≤ 1000000) (e : tx n r bad = (t, r', bad')) :
  Ret Tryz.prog 81 [I (n : Int), ptr b5 0, ptr b4 0] w fun v w' => v = S t ∧ DcS w' b4 b5 b6 r' bad' ∧ Kp (fun k => k = b4 ∨ k = b5) w w' := by
 have pj := h.r
 have jh := h.b
 have aT := h.n1
 have bA : ∀ w1, Blk w1 b5 [.bool true] 4 → Kp (fun k => k = b5) w w1 → DcS w1 b4 b5 b6 r true ∧ Kp (fun k => k = b4 ∨ k = b5) w w1 := fun w1 aj aC => ⟨⟨aC.blk h.r aT, aj, aC.blk h.f h.n2.2, h.n1, h.n2⟩, aC.mono' (fun k e => .inr e)⟩
 refine ret_of_run (e := [(0, _), (1, _), (2, _)]) Tryz.func81 rfl Tryz.ntmps81 rfl rfl (qN rfl (zqa rfl (rEnd (run_seq (qN rfl (qV ((by first | exact yld U4 rfl rfl pj rfl | exact yld U4 rfl rfl jh rfl)) ?_))))))
 refine zqm rfl (rVal_bool (fun cu => ?_) (fun cu => ?_))
 ·rw [tx_bad (.inl cu)] at e; cases e; refine qS (qS (qS (qS (qV (ypT rfl rfl) (rEffP rfl (zst ti4 rfl rfl rfl jh (by simp)) ?_))))); rintro w1 ⟨aj, aC⟩; refine qM rfl (qV (yld U4 rfl rfl aj rfl) (rEnd (run_true rfl (qN rfl (zqa rfl (rEnd (run_ret Tryz.func81 rfl ?_))))))); exact ⟨_, rfl, rfl, bA w1 aj aC⟩
 ·subst cu; refine zqm rfl (qV ((by first | exact yld U9 rfl rfl pj rfl | exact yld U9 rfl rfl jh rfl)) ?_); refine qV (ylnS U9 rfl) (qV (ygt rfl rfl) (rVal_if (fun h1 => ?_) (fun h1 => ?_)))
  ·rw [tx_bad (.inr (by omega))] at e; cases e; refine qV (ypF rfl rfl) (rEffP rfl (zst ti4 rfl rfl rfl jh (by simp)) ?_); rintro w1 ⟨aj, aC⟩; refine qM rfl (qV (yld U4 rfl rfl aj rfl) (rEnd (run_true rfl (qN rfl (zqa rfl (rEnd (run_ret Tryz.func81 rfl ?_))))))); exact ⟨_, rfl, rfl, bA w1 aj aC⟩
  ·rw [tx_ok (by omega)] at e; cases e; refine qV (ypF rfl rfl) (rEffP rfl (zst ti4 rfl rfl rfl jh (by simp)) ?_); rintro w1 ⟨aj, aC⟩; have qB := aC.blk pj aT; refine qM rfl (qV ((by first | exact yld U4 rfl rfl aj rfl | exact yld U4 rfl rfl qB rfl)) ?_); refine rEnd (run_false rfl (run_skip (qN rfl (qV ((by first | exact yld U9 rfl rfl aj rfl | exact yld U9 rfl rfl qB rfl)) ?_)))); refine zqm rfl (qV (yslSt U9 rfl rfl (by omega)) (zqa rfl (qM rfl (qV ((by first | exact yld U9 rfl rfl aj rfl | exact yld U9 rfl rfl qB rfl)) ?_)))); refine zqm rfl (qV (yslSf U9 rfl rfl (by omega)) (rEffP rfl (zst ti9 rfl rfl rfl qB (by simp)) ?_)); rintro w2 ⟨ay, am⟩; refine qM rfl (zqm rfl (zqa rfl (rEnd (run_ret Tryz.func81 rfl ?_)))); exact ⟨_, rfl, rfl, ⟨ay, am.blk aj (Ne.symm aT), am.blk (aC.blk h.f h.n2.2) h.n2.1, h.n1, h.n2⟩, (aC.mono' (fun k e => .inr e)).trans (am.mono' (fun k e => .inl e))⟩
theorem or_byte (a : Nat) (b : UInt8) : a * 256 ||| b.toNat = 256 * a + b.toNat := by
 have := Nat.two_pow_add_eq_or_of_lt (i := 8) (b := b.toNat) b.toNat_lt a
 rw [Nat.mul_comm a 256]
 exact this.symm
theorem number_ret {w : World} {b4 b5 b6 : Nat} {r r' t : Bytes} {bad bad' : Bool} (h : DcS w b4 b5 b6 r bad) (k : Nat) (hk : k ≤ 4) (hr : r.length ≤ 1000000) (e : tx k r bad = (t, r', bad')) :
  Ret Tryz.prog 82 [I (k : Int), ptr b6 0] w fun v w' => v = I ((valB t : Nat) : Int) ∧ DcS w' b4 b5 b6 r' bad' ∧ Kp (fun k => k = b4 ∨ k = b5) w w' := by
 have rq := h.f
 have wQ := tx_le e
 refine ret_of_run (e := [(0, _), (1, _)]) Tryz.func82 rfl Tryz.ntmps82 rfl rfl (qN rfl (zqa rfl (rEnd (run_seq (qN rfl (qV (yld U122 rfl rfl rq rfl) (zqm rfl (rCall rfl rfl (ycv' (args := [.tmp 7]) cf81 rfl rfl) (text_ret h k (by omega) hr e) ?_))))))))
 rintro _ w1 ⟨rfl, h1, aC⟩
 refine rValP rfl rfl (pS2B U9 U123 U5 rfl) ?_
 rintro _ w2 ⟨b9, cap, rest, rfl, ⟨tF, ad, dg⟩, iL⟩
 refine qV (yln U123 rfl) (zqm rfl (rEnd (run_block (zqu (α := Nat) (0) (fun i => [(3, I ((valB (t.take i) : Nat) : Int)), (9, .slice (some ⟨b9, 0, none⟩) t.length cap), (10, I (t.length : Int)), (11, I (i : Int))]) (fun i w' => w' = w2 ∧ i ≤ t.length) (fun i => t.length - i) ?hI ?hround))))
 case hI => exact ⟨rfl, Nat.zero_le _⟩
 case hround =>
  rintro i w3 ⟨rfl, hi⟩ ih; have Ao := valB_lt (t.take i); have IE : 256 ^ (t.take i).length ≤ 256 ^ 4 := Nat.pow_le_pow_right (by omega) (by rw [List.length_take]; omega); have H5 : valB (t.take i) < 4294967296 := by omega
  try dsimp only
  refine qN rfl (qV (ylt rfl rfl) (rEnd (run_seq (run_if rfl (fun ah => ?_) (fun ah => ?_)))))
  ·have af : i < t.length := by omega
   have H6 := List.getElem?_eq_getElem af
   have gZ : (t.map u8v ++ rest)[0 + i * 1]? = some (u8v t[i]) := by
    rw [Nat.zero_add, Nat.mul_one, List.getElem?_append_left (by simpa using af), List.getElem?_map, H6]; rfl
   have IF := t[i].toNat_lt; refine run_skip (run_seq (run_block (qN rfl (qV (yis U123 ti5 rfl rfl (by omega)) (qV (yld U5 rfl rfl dg gZ) ?_))))); unfold u8v; refine zqa rfl (rEnd (run_reg rfl (zqm rfl (qV (ysl 8 256 rfl rfl (by decide) rfl (by omega)) (zqm rfl (qV ((by first | exact ycvB rfl U5 U3 (by decide) | exact ycvSi64 rfl U5 U3 (by omega))) ?_)))))); refine qV (yor64 rfl rfl (by omega) (by omega)) (zqa rfl (rEnd (run_inBlock (run_reg rfl (zqd rfl rfl (zqm rfl (rEnd ?_))))))); rw [or_byte, ← valB_snoc, ← List.take_succ_eq_append_getElem af]; exact (ih (i + 1) _ ⟨rfl, by omega⟩ (by omega)).qb
  ·have : i = t.length := by omega
   subst this; rw [List.take_length]; refine run_exit rfl (qN rfl (zqm rfl (zqa rfl (rEnd (run_ret Tryz.func82 rfl ?_))))); exact ⟨_, rfl, rfl, h1.ext ad, aC.trans ad.kp⟩
structure DcN (w0 w : World) (b4 b5 b6 b9 : Nat) (lf : Bool) (ks vs : List Bytes) (cs : List Nat) (kv vv cv : Value) : Prop where
 blk : Blk w b9 [.bool lf, kv, vv, cv] 84
 k : Sl w kv 9 1 ks.length (ks.map S)
 v : Sl w vv 9 1 vs.length (vs.map S)
 c : Sl w cv 89 1 cs.length (cs.map u32v)
 low : ∀ g, kv.ownBlock = some g ∨ vv.ownBlock = some g ∨ cv.ownBlock = some g → w0.heap.size ≤ g ∧ g ≠ b4 ∧ g ≠ b5 ∧ g ≠ b6 ∧ g ≠ b9
 d2 : ∀ g, kv.ownBlock = some g → vv.ownBlock ≠ some g ∧ cv.ownBlock ≠ some g
 d3 : ∀ g, vv.ownBlock = some g → cv.ownBlock ≠ some g
 n9 : w0.heap.size ≤ b9 ∧ b9 ≠ b4 ∧ b9 ≠ b5 ∧ b9 ≠ b6
 n4 : b4 < w.heap.size ∧ b5 < w.heap.size ∧ b6 < w.heap.size
section
variable {w0 w w' w1 w2 w3 w4 : World} {b4 b5 b6 b9 : Nat} {lf : Bool} {ks vs : List Bytes} {cs : List Nat} {kv vv cv kv2 : Value}
theorem DcN.kp {S : Nat → Prop} (h : DcN w0 w b4 b5 b6 b9 lf ks vs cs kv vv cv) (k : Kp S w w') (hs : ∀ g, S g → g = b4 ∨ g = b5) : DcN w0 w' b4 b5 b6 b9 lf ks vs cs kv vv cv := by
 have hz := k.size
 refine ⟨k.blk h.blk (fun e => (hs _ e).elim h.n9.2.1 h.n9.2.2.1), h.k.kp k (fun g hg e => ?_), h.v.kp k (fun g hg e => ?_), h.c.kp k (fun g hg e => ?_), h.low, h.d2, h.d3, h.n9, by have := h.n4; omega⟩
 ·have := h.low g (.inl hg); exact (hs g e).elim this.2.1 this.2.2.1
 ·have := h.low g (.inr (.inl hg)); exact (hs g e).elim this.2.1 this.2.2.1
 ·have := h.low g (.inr (.inr hg)); exact (hs g e).elim this.2.1 this.2.2.1
theorem DcN.ext (h : DcN w0 w b4 b5 b6 b9 lf ks vs cs kv vv cv) (k : Ext w w') : DcN w0 w' b4 b5 b6 b9 lf ks vs cs kv vv cv := h.kp k (fun _ e => e.elim)
theorem DcN.pushK (h0 : w0.heap.size ≤ w1.heap.size) (h : DcN w0 w1 b4 b5 b6 b9 lf ks vs cs kv vv cv) {x : Bytes} {u : Value} (hx : Ext w1 w2) (hs : Sl w3 u 9 1 (ks ++ [x]).length ((ks ++ [x]).map S)) (hk : Kp (fun g => kv.ownBlock = some g) w2 w3) (ho : ∀ g, u.ownBlock = some g → kv.ownBlock = some g ∨ w2.heap.size ≤ g) (hl : Blk w4 b9 [.bool lf, u, vv, cv] 84) (ax : Kp (fun g => g = b9) w3 w4) :
  DcN w0 w4 b4 b5 b6 b9 lf (ks ++ [x]) vs cs u vv cv ∧ Kp (fun g => g = b9 ∨ kv.ownBlock = some g) w1 w4 := by
 have ae : Kp (fun g => g = b9 ∨ kv.ownBlock = some g) w1 w4 := (hx.kp.trans (hk.mono' (fun g e => .inr e))).trans (ax.mono' (fun g e => .inl e))
 have hz := hx.size
 have dH := ae.size
 have tF := h.blk.lt
 have mE := h.n4
 have wT := h.n9
 have hu : ∀ g, u.ownBlock = some g → w0.heap.size ≤ g ∧ g ≠ b4 ∧ g ≠ b5 ∧ g ≠ b6 ∧ g ≠ b9 := fun g hg => by
  rcases ho g hg with e | e
  ·exact h.low g (.inl e)
  ·exact ⟨by omega, by omega, by omega, by omega, by omega⟩
 refine ⟨⟨hl, hs.kp ax (fun g hg e => (hu g hg).2.2.2.2 e), h.v.kp ae (fun g hg e => e.elim (h.low g (.inr (.inl hg))).2.2.2.2 (fun e => (h.d2 g e).1 hg)), h.c.kp ae (fun g hg e => e.elim (h.low g (.inr (.inr hg))).2.2.2.2 (fun e => (h.d2 g e).2 hg)), ?_, ?_, ?_, h.n9, by omega⟩, ae⟩
 ·exact fun g hg => by
   rcases hg with hg | hg | hg
   ·exact hu g hg
   ·exact h.low g (.inr (.inl hg))
   ·exact h.low g (.inr (.inr hg))
 ·exact fun g hg => by
   rcases ho g hg with e | e
   ·exact h.d2 g e
   ·exact ⟨fun hg => by have := h.v.lt hg; omega, fun hg => by have := h.c.lt hg; omega⟩
 ·exact h.d3
theorem DcN.pushV (h0 : w0.heap.size ≤ w1.heap.size) (h : DcN w0 w1 b4 b5 b6 b9 lf ks vs cs kv vv cv) {x : Bytes} {u : Value} (hx : Ext w1 w2) (hs : Sl w3 u 9 1 (vs ++ [x]).length ((vs ++ [x]).map S)) (hk : Kp (fun g => vv.ownBlock = some g) w2 w3) (ho : ∀ g, u.ownBlock = some g → vv.ownBlock = some g ∨ w2.heap.size ≤ g) (hl : Blk w4 b9 [.bool lf, kv, u, cv] 84) (ax : Kp (fun g => g = b9) w3 w4) :
  DcN w0 w4 b4 b5 b6 b9 lf ks (vs ++ [x]) cs kv u cv ∧ Kp (fun g => g = b9 ∨ vv.ownBlock = some g) w1 w4 := by
 have ae : Kp (fun g => g = b9 ∨ vv.ownBlock = some g) w1 w4 := (hx.kp.trans (hk.mono' (fun g e => .inr e))).trans (ax.mono' (fun g e => .inl e))
 have hz := hx.size
 have dH := ae.size
 have tF := h.blk.lt
 have mE := h.n4
 have wT := h.n9
 have hu : ∀ g, u.ownBlock = some g → w0.heap.size ≤ g ∧ g ≠ b4 ∧ g ≠ b5 ∧ g ≠ b6 ∧ g ≠ b9 := fun g hg => by
  rcases ho g hg with e | e
  ·exact h.low g (.inr (.inl e))
  ·exact ⟨by omega, by omega, by omega, by omega, by omega⟩
 refine ⟨⟨hl, h.k.kp ae (fun g hg e => e.elim (h.low g (.inl hg)).2.2.2.2 (fun e => (h.d2 g hg).1 e)), hs.kp ax (fun g hg e => (hu g hg).2.2.2.2 e), h.c.kp ae (fun g hg e => e.elim (h.low g (.inr (.inr hg))).2.2.2.2 (fun e => h.d3 g e hg)), ?_, ?_, ?_, h.n9, by omega⟩, ae⟩
 ·exact fun g hg => by
   rcases hg with hg | hg | hg
   ·exact h.low g (.inl hg)
   ·exact hu g hg
   ·exact h.low g (.inr (.inr hg))
 ·exact fun g hg => ⟨fun a8 => by
   rcases ho g a8 with e | e
   ·exact (h.d2 g hg).1 e
   ·have := h.k.lt hg; omega, (h.d2 g hg).2⟩
 ·exact fun g hg => by
   rcases ho g hg with e | e
   ·exact h.d3 g e
   ·exact fun hg => by have := h.c.lt hg; omega
theorem DcN.pushC (h0 : w0.heap.size ≤ w1.heap.size) (h : DcN w0 w1 b4 b5 b6 b9 lf ks vs cs kv vv cv) {x : Nat} {u : Value} (hx : Ext w1 w2) (hs : Sl w3 u 89 1 (cs ++ [x]).length ((cs ++ [x]).map u32v)) (hk : Kp (fun g => cv.ownBlock = some g) w2 w3) (ho : ∀ g, u.ownBlock = some g → cv.ownBlock = some g ∨ w2.heap.size ≤ g) (hl : Blk w4 b9 [.bool lf, kv, vv, u] 84) (ax : Kp (fun g => g = b9) w3 w4) :
  DcN w0 w4 b4 b5 b6 b9 lf ks vs (cs ++ [x]) kv vv u ∧ Kp (fun g => g = b9 ∨ cv.ownBlock = some g) w1 w4 := by
 have ae : Kp (fun g => g = b9 ∨ cv.ownBlock = some g) w1 w4 := (hx.kp.trans (hk.mono' (fun g e => .inr e))).trans (ax.mono' (fun g e => .inl e))
 have hz := hx.size
 have dH := ae.size
 have tF := h.blk.lt
 have mE := h.n4
 have wT := h.n9
 have hu : ∀ g, u.ownBlock = some g → w0.heap.size ≤ g ∧ g ≠ b4 ∧ g ≠ b5 ∧ g ≠ b6 ∧ g ≠ b9 := fun g hg => by
  rcases ho g hg with e | e
  ·exact h.low g (.inr (.inr e))
  ·exact ⟨by omega, by omega, by omega, by omega, by omega⟩
 refine ⟨⟨hl, h.k.kp ae (fun g hg e => e.elim (h.low g (.inl hg)).2.2.2.2 (fun e => (h.d2 g hg).2 e)), h.v.kp ae (fun g hg e => e.elim (h.low g (.inr (.inl hg))).2.2.2.2 (fun e => h.d3 g hg e)), hs.kp ax (fun g hg e => (hu g hg).2.2.2.2 e), ?_, ?_, ?_, h.n9, by omega⟩, ae⟩
 ·exact fun g hg => by
   rcases hg with hg | hg | hg
   ·exact h.low g (.inl hg)
   ·exact h.low g (.inr (.inl hg))
   ·exact hu g hg
 ·exact fun g hg => ⟨(h.d2 g hg).1, fun a8 => by
   rcases ho g a8 with e | e
   ·exact (h.d2 g hg).2 e
   ·have := h.k.lt hg; omega⟩
 ·exact fun g hg a8 => by
   rcases ho g a8 with e | e
   ·exact h.d3 g hg e
   ·have := h.v.lt hg; omega
end
set_option maxHeartbeats 4000000 in
theorem decode_ret (s : Bytes) (l9 : s.length ≤ 140737488355328) (w : World) : Ret Tryz.prog 51 [S s] w fun v w' => Ext w w' ∧ ((∃ n kv vv cv, dec s = some n ∧ v = .tuple #[ndv n kv vv cv, I 0] ∧ NdP w' n kv vv cv ∧ ∀ g, kv.ownBlock = some g ∨ vv.ownBlock = some g ∨ cv.ownBlock = some g → w.heap.size ≤ g) ∨ (dec s = none ∧ v = .tuple #[.agg #[.bool false, .slice none 0 0, .slice none 0 0, .slice none 0 0], I 4])) := by
 refine ret_of_run (e := [(0, _)]) Tryz.func51 rfl Tryz.ntmps51 rfl rfl (qN rfl (rValP rfl rfl (pal (cs := [_, _, _, _]) ti84 rfl) ?_))
 rintro _ w1 ⟨b2, rfl, cz, aa, ay⟩
 refine zqa rfl (rEnd (run_seq (qN rfl (zqm rfl (qV (ylnS U9 rfl) (zqc [.tmp 16] cf64 rfl (size_ret _ w1) ?_))))))
 rintro _ w1 ⟨rfl, rfl⟩
 by_cases hz : sizeOk (s.length : Int)
 ·obtain ⟨z1, z2, -⟩ := id hz; rw [if_pos hz]; refine qV (yne rfl rfl) (rEnd (run_if rfl (fun h0 => ?_) (fun h0 => ?_)))
  ·exact absurd rfl h0
  ·refine run_skip (qN rfl (zqm rfl (rValP rfl rfl (pal (cs := [_]) ti9 rfl) ?_))); rintro _ w2 ⟨b4, rfl, zT, ad, bs⟩; refine rValP rfl rfl (pal (cs := [_]) ti4 rfl) ?_; rintro _ w3 ⟨b5, rfl, pI, ai, bu⟩; have dH := ad.size; have eV := aa.size; have px := bs.lt; have n45 : b4 ≠ b5 := by omega
   refine rEffP rfl (zst ti9 rfl rfl rfl (ai.blk bs) (by simp)) ?_; rintro w4 ⟨uk, ax⟩; have Cr := ax.blk bu n45.symm; refine rEffP rfl (zst ti4 rfl rfl rfl Cr (by simp)) ?_; rintro w5 ⟨f3, aY⟩; have qC := aY.blk uk n45; have gY : Ext w1 w5 := ((ad.trans ai).trans_new ax (fun i hi => by omega)).trans_new aY (fun i hi => by omega); have lg := gY.size; have H7 := qC.lt; have H8 := f3.lt; refine qM rfl (qV (ymf (first := []) (caps := [.tmp 5, .tmp 4]) rfl rfl) (rValP rfl rfl (pal (cs := [_]) ti122 rfl) ?_)); rintro _ w6 ⟨b6, rfl, sQ, bq, bT⟩; refine rEffP rfl (zst ti122 rfl rfl rfl bT (by simp)) ?_; rintro w7 ⟨dy, aW⟩; have h7 : DcS w7 b4 b5 b6 s false := ⟨aW.blk (bq.blk qC) (by omega), aW.blk (bq.blk f3) (by omega), dy, n45, by omega, by omega⟩; have oK : Ext w1 w7 := (gY.trans bq).trans_new aW (fun i hi => by omega); have H9 : b2 < b4 ∧ b2 < b5 ∧ b2 < b6 := by have := ay.lt; omega
   obtain ⟨t1, r1, c1, e1⟩ := tx_ex 1 s false; refine qM rfl (qV (ymf (first := []) (caps := [.tmp 6]) rfl rfl) (zqa rfl (qM rfl (zqm rfl (rCall rfl rfl (ycv' (args := [.const (Value.int .i64 1)]) cf82 rfl rfl) (number_ret h7 1 (by omega) (by omega) e1) ?_))))); rintro _ w8 ⟨rfl, h8, aU⟩; have xH : Ext w1 w8 := oK.trans_new aU (fun i hi => by omega); refine zqa rfl (qM rfl (zqm rfl (qV (yeq rfl rfl) (qV (ybd (parts := [(0, .tmp 26)]) (cs := [_, _, _, _]) ti84 rfl sp84 rfl rfl) ?_)))); obtain ⟨lf, gB⟩ : ∃ lf, decide (((valB t1 : Nat) : Int) = 1) = lf := ⟨_, rfl⟩; rw [gB]; refine rValP rfl rfl (pal (cs := [_, _, _, _]) ti84 rfl) ?_; rintro _ w9 ⟨b9, rfl, tF, iw, dg⟩; refine rEffP rfl (zstA ti84 rfl rfl rfl rfl dg (by simp)) ?_; rintro w10 ⟨bG, aA⟩; replace bG : Blk w10 b9 [.bool lf, .slice none 0 0, .slice none 0 0, .slice none 0 0] 84 := bG; have mA := xH.size; have Ah := h8.f.lt; have Ha := h8.r.lt; have Hb := h8.b.lt; have mS : DcS w10 b4 b5 b6 r1 c1 := (h8.ext iw).kp aA (by omega) (by omega) (by omega); have oL : Ext w1 w10 := (xH.trans iw).trans_new aA (fun i hi => by omega); have il : w9.heap.size ≤ w10.heap.size := aA.size; have pJ := iw.size; have um : DcN w1 w10 b4 b5 b6 b9 lf [] [] [] (.slice none 0 0) (.slice none 0 0) (.slice none 0 0) := ⟨bG, Sl.nil _ _ _, Sl.nil _ _ _, Sl.nil _ _ _, fun g hg => by simp [Value.ownBlock] at hg, fun g hg => by simp [Value.ownBlock] at hg, fun g hg => by simp [Value.ownBlock] at hg, ⟨by omega, by omega, by omega, by omega⟩, by omega⟩; have iM := tx_le e1; obtain ⟨t2, r2, c2, e2⟩ := tx_ex 2 r1 c1; obtain ⟨t3, r3, c3, e3⟩ := tx_ex 4 r2 c2; have jV := tx_le e2; have dU := tx_le e3; obtain ⟨Hc, Hd⟩ := lg_init hz e1 e2 e3; refine qM rfl (zqm rfl (rCall rfl rfl (ycv' (args := [.const (Value.int .i64 2)]) cf82 rfl rfl) (number_ret mS 2 (by omega) (by omega) e2) ?_)); rintro _ w11 ⟨rfl, xI, gq⟩; have m8 := um.kp gq (fun g e => e); have oM : Ext w1 w11 := oL.trans_new gq (fun i hi => by omega); have oN := m8.blk
   have Ep : valB t2 < 65536 := Nat.lt_of_lt_of_le (valB_lt t2) (by
    have : 256 ^ t2.length ≤ 256 ^ 2 := Nat.pow_le_pow_right (by omega) jV.1
    omega)
   have eP : maxLen = 9223372036854775807 := rfl; refine zqa rfl (rEnd (run_seq (qN rfl (qV (yfa fl84_0 rfl) (qV (yld U4 rfl rfl oN rfl) (qV ((by first | exact yntd rfl | exact ynt rfl)) ?_)))))); refine rEnd (Run.qb (e := [(0, _), (2, _), (3, _), (5, _), (6, _), (7, _), (9, _), (10, _), (32, _)]) ?_); refine run_cut (fun e' w' => ∃ cs cv r bad, e' = [(0, S s), (2, ptr b2 0), (3, I 0), (5, ptr b5 0), (6, ptr b6 0), (7, .func (.func 82) #[] #[ptr b6 0]), (9, ptr b9 0), (10, I ((valB t2 : Nat) : Int))] ∧ DcN w1 w' b4 b5 b6 b9 lf [] [] cs (.slice none 0 0) (.slice none 0 0) cv ∧ DcS w' b4 b5 b6 r bad ∧ Lg s.length s lf [] [] cs (valB t2) r bad ∧ Ext w1 w' ∧ (∀ c ∈ cs, c < 4294967296) ∧ cs.length ≤ 1 ∧ r.length ≤ s.length) ?hk (fun hk => ?dG)
   case hk =>
    rintro e' w12 ⟨cs0, cv0, r0, bad0, rfl, He, Cs, Cn, Ee, Ct, Cu, Cv⟩; refine run_seq (run_block (run_cut2 (fun e' w' => ∃ c ks vs cs kv vv cv r bad, e' = [(0, S s), (2, ptr b2 0), (3, I 0), (5, ptr b5 0), (9, ptr b9 0)] ∧ DcN w1 w' b4 b5 b6 b9 lf ks vs cs kv vv cv ∧ DcS w' b4 b5 b6 r bad ∧ Lg s.length s lf ks vs cs c r bad ∧ (c = 0 ∨ bad = true) ∧ Ext w1 w' ∧ Nd.Bd ⟨lf, ks, vs, cs⟩) ?Cw (fun Cw => ?CD)))
    case Cw =>
     rintro e' w13 ⟨c, ks, vs, cs, kv, vv, cv, r, bad, rfl, hN, mI, hL, Cy, au, bA⟩; obtain ⟨ka, kac, uj, -⟩ := hN.k.rd.shape; obtain ⟨va, vac, Cz, -⟩ := hN.v.rd.shape; obtain ⟨ca, cac, CA, -⟩ := hN.c.rd.shape; subst uj; subst Cz; subst CA; have aq := hN.blk; have hR : NdR w13 ⟨lf, ks, vs, cs⟩ (.slice ka ks.length kac) (.slice va vs.length vac) (.slice ca cs.length cac) := ⟨hN.k.rd, hN.v.rd, hN.c.rd⟩; refine qN rfl (qV (yldA U84 rfl ti84 rfl (Blk.cells (n := 4) aq (news := [_, _, _, _]) rfl) rfl) (zqm rfl (qV (ylnS U9 rfl) (zqc [.tmp 82, .tmp 84] cf83 rfl (encode_ret (n := ⟨lf, ks, vs, cs⟩) hR bA hz) ?_)))); rintro vE w14 ⟨ar, CB⟩; have oO := au.trans ar; have xJ := ar.blk aq; have xK := ar.blk mI.b; have un := hN.ext ar
     obtain ⟨tE, eE, rfl, Eq⟩ : ∃ tE eE, vE = .tuple #[S tE, I eE] ∧ ((NdOk s.length ⟨lf, ks, vs, cs⟩ ∧ tE = enc s.length ⟨lf, ks, vs, cs⟩ ∧ eE = 0) ∨ (¬ NdOk s.length ⟨lf, ks, vs, cs⟩ ∧ eE = 1)) := by
      rcases CB with ⟨h, rfl⟩ | ⟨h, rfl⟩
      ·exact ⟨_, _, rfl, .inl ⟨h, rfl, rfl⟩⟩
      ·exact ⟨_, _, rfl, .inr ⟨h, rfl⟩⟩
     have cw : (bad = true ∨ eE ≠ 0 ∨ tE ≠ s) → dec s = none := fun h => by
      cases e : dec s with
      | none => rfl
      | some n =>
        obtain ⟨g1, g2⟩ := lg_end rfl hL Cy e; obtain ⟨-, g3, g4⟩ := dec_some.1 e; subst g2; rcases Eq with ⟨h1, h2, h3⟩ | ⟨h1, -⟩
        ·rcases h with h | h | h
         ·rw [g1] at h; cases h
         ·exact absurd h3 h
         ·rw [h2] at h; exact absurd g4 h
        ·exact absurd g3.ok h1
     refine zqm rfl (qV (yex rfl rfl) (qV (yex rfl rfl) (zqa rfl (zqa rfl (rEnd (run_seq (run_seq (run_cut (fun e' w' => ∃ q : Bool, e' = [(2, ptr b2 0), (9, ptr b9 0), (3, I 0), (97, .bool q)] ∧ w' = w14 ∧ (q = true → dec s = none) ∧ (q = false → bad = false ∧ eE = 0 ∧ tE = s)) ?Ap (fun Ap => ?CC)))))))))
     case Ap =>
      rintro e' w15 ⟨q, rfl, rfl, dM, mR⟩; have xL := oO.blk ay; refine run_cond rfl (fun hq => ?_) (fun hq => ?_)
      ·refine qN rfl (qV (ybd (parts := []) (cs := [_, _, _, _]) ti84 rfl sp84 rfl rfl) (rEffP rfl (zstA ti84 rfl rfl rfl rfl xL (by simp)) ?_)); rintro w16 ⟨cS, m9⟩; refine zqa rfl (rEnd (run_retR Tryz.func51 (.cell U84 rfl ti84 rfl (Blk.cells (n := 4) cS (news := [_, _, _, _]) rfl) rfl (.tmp rfl .nil)) ?_)); exact ⟨_, rfl, (aa.trans oO).trans_new m9 (fun i hi => by omega), .inr ⟨dM hq, rfl⟩⟩
      ·obtain ⟨g1, g2, g3⟩ := mR hq; refine run_skip (qN rfl (qV (yldA U84 rfl ti84 rfl (Blk.cells (n := 4) xJ (news := [_, _, _, _]) rfl) rfl) (rEffP rfl (zstA ti84 rfl rfl rfl rfl xL (by simp)) ?_))); rintro w16 ⟨cS, m9⟩; refine zqa rfl (rEnd (run_retR Tryz.func51 (.cell U84 rfl ti84 rfl (Blk.cells (n := 4) cS (news := [_, _, _, _]) rfl) rfl (.tmp rfl .nil)) ?_))
       have oP : dec s = some ⟨lf, ks, vs, cs⟩ := by
        rcases Eq with ⟨h1, h2, h3⟩ | ⟨h1, h3⟩
        ·exact dec_some.2 ⟨hz, ⟨h1, bA.cs⟩, by rw [← h2]; exact g3⟩
        ·omega
       have bX : ∀ g, (Value.slice ka ks.length kac).ownBlock = some g ∨ (Value.slice va vs.length vac).ownBlock = some g ∨ (Value.slice ca cs.length cac).ownBlock = some g → w.heap.size ≤ g ∧ g ≠ b2 := fun g hg => by
        have := hN.low g hg; have := ay.lt; omega
       refine ⟨_, rfl, (aa.trans oO).trans_new m9 (fun i hi => by omega), .inl ⟨_, _, _, _, oP, rfl, ⟨un.k.kp m9 (fun g hg => (bX g (.inl hg)).2), un.v.kp m9 (fun g hg => (bX g (.inr (.inl hg))).2), un.c.kp m9 (fun g hg => (bX g (.inr (.inr hg))).2), bA, hN.d2, hN.d3⟩, fun g hg => (bX g hg).1⟩⟩
     case CC =>
      refine run_reg rfl (qV (yld U4 rfl rfl xK rfl) (zqm rfl (rVal_bool (fun dL => ?_) (fun dL => ?_))))
      ·refine qS (qS (qV (ypT rfl rfl) (zqm rfl (qS (qS (qS (qV (ypT rfl rfl) (rEnd ?_)))))))); exact (Ap _ _ ⟨true, rfl, rfl, fun _ => cw (.inl dL), fun h => Bool.noConfusion h⟩).qb
      ·refine zqm rfl (qV (yne rfl rfl) (rVal_if (fun xM => ?_) (fun xM => ?_)))
       ·refine qV (ypF rfl rfl) (zqm rfl (qS (qS (qS (qV (ypT rfl rfl) (rEnd ?_)))))); exact (Ap _ _ ⟨true, rfl, rfl, fun _ => cw (.inr (.inl xM)), fun h => Bool.noConfusion h⟩).qb
       ·refine qV (ypF rfl rfl) (zqm rfl (zqm rfl (zqm rfl (qV (yneS rfl rfl) (qV (ypF rfl rfl) (rEnd ((Ap _ _ ⟨_, rfl, rfl, ?_, ?_⟩).qb)))))))
        ·intro h; exact cw (.inr (.inr (by simpa using h)))
        ·intro h; exact ⟨dL, by omega, by simpa using h⟩
    case CD =>
     refine zqu (α := Nat) (valB t2) (fun c => [(0, S s), (2, ptr b2 0), (3, I 0), (5, ptr b5 0), (6, ptr b6 0), (7, .func (.func 82) #[] #[ptr b6 0]), (9, ptr b9 0), (10, I (c : Int))]) (fun c w' => c < 65536 ∧ ∃ ks vs cs kv vv cv r bad, DcN w1 w' b4 b5 b6 b9 lf ks vs cs kv vv cv ∧ DcS w' b4 b5 b6 r bad ∧ Lg s.length s lf ks vs cs c r bad ∧ Ext w1 w' ∧ (∀ c ∈ cs, c < 4294967296) ∧ (∀ k ∈ ks, k.length ≤ 4096) ∧ (∀ k ∈ vs, k.length ≤ 4096) ∧ ks.length + c < 65536 ∧ vs.length ≤ ks.length ∧ cs.length ≤ ks.length + 1 ∧ r.length ≤ s.length) (fun c => c) ?hI ?hround
     case hI => exact ⟨Ep, [], [], cs0, _, _, cv0, r0, bad0, He, Cs, Cn, Ee, Ct, by simp, by simp, by simpa using Ep, by simp, by simpa using Cu, Cv⟩
     case hround =>
      rintro c wi ⟨hc, ks, vs, cs, kv, vv, cv, r, bad, hN, mI, hL, qD, CE, rB, Ao, cy, eQ, cG, o7⟩ ih; have xN : Nd.Bd ⟨lf, ks, vs, cs⟩ := ⟨by dsimp only; omega, by dsimp only; omega, by dsimp only; omega, fun k hk => by have := rB k hk; omega, fun k hk => by have := Ao k hk; omega, CE⟩; have jh := mI.b; have aq := hN.blk; have vp := qD.size
      try dsimp only
      refine run_seq (qN rfl (zqm rfl (qV (ygt rfl rfl) (zqm rfl (rVal_if (fun ix => ?_) (fun ix => ?_))))))
      ·obtain ⟨c, rfl⟩ : ∃ c', c = c' + 1 := ⟨c - 1, by omega⟩; refine qV ((by first | exact yld U4 rfl rfl jh rfl | exact yld U4 rfl rfl aq rfl)) ?_; refine qV ((by first | exact yntd rfl | exact ynt rfl)) ?_; refine qV (ypT rfl rfl) (rEnd (run_cond rfl (fun bA => ?_) (fun bA => ?_)))
       ·have Ac : bad = false := by simpa using bA
        subst Ac; obtain ⟨ta, ra, ca, ea⟩ := tx_ex 1 r false; have Hf := tx_le ea
        have DU : valB ta < 65536 := Nat.lt_of_lt_of_le (valB_lt ta) (by
         have : 256 ^ ta.length ≤ 256 ^ 1 := Nat.pow_le_pow_right (by omega) Hf.1
         omega)
        refine run_skip (run_seq (run_block (qN rfl (zqm rfl (rCall rfl rfl (ycv' (args := [.const (Value.int .i64 1)]) cf82 rfl rfl) (number_ret mI 1 (by omega) (by omega) ea) ?_))))); rintro _ w20 ⟨rfl, oQ, gT⟩; have mc := hN.kp gT (fun g e => e); have oR : Ext w1 w20 := qD.trans_new gT (fun i hi => by omega); have Hg := oR.size; have xO := mc.blk; refine zqa rfl (zqa rfl (rEnd (run_seq (qN rfl (qV (yfa fl84_0 rfl) (qV (yld U4 rfl rfl xO rfl) ?_))))))
        cases lf with
        | true =>
          refine rEnd (run_true rfl (run_reg rfl (zqm rfl ?_))); obtain ⟨tb, rb, cb, eb⟩ := tx_ex 2 ra ca; have Er := tx_le eb
          have Hh : valB tb < 65536 := Nat.lt_of_lt_of_le (valB_lt tb) (by
           have : 256 ^ tb.length ≤ 256 ^ 2 := Nat.pow_le_pow_right (by omega) Er.1
           omega)
          obtain ⟨tc, rc, cc, ec⟩ := tx_ex (valB ta) rb cb; have Et := tx_le ec; obtain ⟨td, rd, cd, ed⟩ := tx_ex (valB tb) rc cc; have IG := tx_le ed; refine rCall rfl rfl (ycv' (args := [.const (Value.int .i64 2)]) cf82 rfl rfl) (number_ret oQ 2 (by omega) (by omega) eb) ?_; rintro _ w21 ⟨rfl, qF, xP⟩; have qG := mc.kp xP (fun g e => e); have rG : Ext w1 w21 := oR.trans_new xP (fun i hi => by omega); have Hi := rG.size; refine zqa rfl (rEnd (run_seq ?_)); have jy := Ext.drew0 w21; have i4 : Kp (fun k => k = b4 ∨ k = b5) w21 w21.drew := jy.kp; have rH := qG.blk; have rI := qF.f; have rJ : ¬ (b9 = b4 ∨ b9 = b5) := fun e => e.elim qG.n9.2.1 qG.n9.2.2.1; have rK : ¬ (b6 = b4 ∨ b6 = b5) := fun e => e.elim qF.n2.1 qF.n2.2; refine run_drawL [6,8] (fun w' => Kp (fun k => k = b4 ∨ k = b5) w21 w') (by kernel_rfl) rfl (qL [1, 6, 7, 8] 0 rfl (fun _ h=>yfa fl84_1 rfl) i4 (qL [6, 7, 8] 1 rfl (fun _ h=>(by first | exact yld U23 rfl rfl (h.blk rH rJ) rfl | exact yld U23 rfl rfl (h.blk rI rK) rfl)) i4 ?_)); refine qL [4, 5, 6, 7, 8] 2 rfl (fun _ h=>(by first | exact yld U122 rfl rfl (h.blk rH rJ) rfl | exact yld U122 rfl rfl (h.blk rI rK) rfl)) i4 ?_; refine qL [4, 5, 6, 7, 8] 3 rfl (fun _ h=>ymv rfl) i4 (hOneL (i := 4) (by kernel_rfl) (nCallL (i := 4) rfl rfl rfl (ycv' (args := [.tmp 58]) cf81 rfl rfl) (text_ret (qF.ext jy) (valB ta) (by omega) (by omega) ec) ?_)); rintro _ w30 ⟨rfl, CG, oS⟩; refine ⟨i4.trans oS, ?_⟩; have fG := (qG.ext jy).kp oS (fun g e => e); refine hOneL (i := 5) (by kernel_rfl) (nValPL (i := 5) rfl rfl rfl (pbs (parts := [(0, .tmp 59)]) (cs := [_]) (zs := [Value.string ⟨#[]⟩]) U23 ti9 rfl (by kernel_rfl) rfl rfl rfl (by decide)) ?_); rintro _ w31 ⟨bq30, rfl, ⟨Eu, lr, Ew⟩, xQ⟩; refine ⟨(i4.trans oS).trans lr.kp, ?_⟩; refine hLate [6] (by kernel_rfl) (by kernel_rfl) (qO 6 (nValP (i := 6) rfl rfl rfl (pap U23 ti9 rfl (by decide) rfl rfl (fG.k.ext lr) xQ.rd (by intro c hc; simp at hc; subst hc; rfl) (by omega) (by omega)) ?_)); rintro u30 w32 ⟨rL, rM, xR, -⟩; refine ⟨trivial, ?_⟩; have xS := rM.blk (lr.blk fG.blk) (fun e => (fG.low _ (.inl e)).2.2.2.2 rfl); refine zqt 7 rfl (yfa fl84_1 rfl) trivial (qO 8 (nEffP (i := 8) rfl rfl (zst ti23 rfl rfl (oneV_sl rL) xS (by simp)) ?_)); rintro w33 ⟨xT, xU⟩; refine ⟨trivial, ?_⟩; have xV : w1.heap.size ≤ w30.heap.size := by have := jy.size; have := oS.size; omega
          obtain ⟨jA, rN⟩ := DcN.pushK xV fG lr (by rw [List.length_append, List.map_append]; exact rL) rM xR xT xU; have ls := CG.kp rN (fun e => e.elim (fun e => fG.n9.2.1 e.symm) (fun e => (fG.low _ (.inl e)).2.1 rfl)) (fun e => e.elim (fun e => fG.n9.2.2.1 e.symm) (fun e => (fG.low _ (.inl e)).2.2.1 rfl)) (fun e => e.elim (fun e => fG.n9.2.2.2 e.symm) (fun e => (fG.low _ (.inl e)).2.2.2.1 rfl)); have rO : Ext w1 w33 := ((rG.trans jy).trans_new oS (fun i hi => by omega)).trans_new rN (fun i hi => hi.elim (fun e => by have := fG.n9.1; omega) (fun e => (fG.low i (.inl e)).1))

          have Hj := rO.size; have xW := jA.blk; refine qE (qN rfl (qV (yfa fl84_0 rfl) (qV (yld U4 rfl rfl xW rfl) (rEnd (run_true rfl ?_))))); have xX := rO; have jB := Ext.drew0 w33; have i5 : Kp (fun k => k = b4 ∨ k = b5) w33 w33.drew := jB.kp; have rP := jA.blk; have rQ := ls.f; have rR : ¬ (b9 = b4 ∨ b9 = b5) := fun e => e.elim jA.n9.2.1 jA.n9.2.2.1; have rS : ¬ (b6 = b4 ∨ b6 = b5) := fun e => e.elim ls.n2.1 ls.n2.2; refine run_drawL [6,8] (fun w' => Kp (fun k => k = b4 ∨ k = b5) w33 w') (by kernel_rfl) rfl (qL [1, 6, 7, 8] 0 rfl (fun _ h=>yfa fl84_2 rfl) i5 (qL [6, 7, 8] 1 rfl (fun _ h=>(by first | exact yld U23 rfl rfl (h.blk rP rR) rfl | exact yld U23 rfl rfl (h.blk rQ rS) rfl)) i5 ?_)); refine qL [4, 5, 6, 7, 8] 2 rfl (fun _ h=>(by first | exact yld U122 rfl rfl (h.blk rP rR) rfl | exact yld U122 rfl rfl (h.blk rQ rS) rfl)) i5 ?_; refine qL [4, 5, 6, 7, 8] 3 rfl (fun _ h=>ymv rfl) i5 (hOneL (i := 4) (by kernel_rfl) (nCallL (i := 4) rfl rfl rfl (ycv' (args := [.tmp 68]) cf81 rfl rfl) (text_ret (ls.ext jB) (valB tb) (by omega) (by omega) ed) ?_)); rintro _ w40 ⟨rfl, CH, oT⟩; refine ⟨i5.trans oT, ?_⟩; have fH := (jA.ext jB).kp oT (fun g e => e); refine hOneL (i := 5) (by kernel_rfl) (nValPL (i := 5) rfl rfl rfl (pbs (parts := [(0, .tmp 69)]) (cs := [_]) (zs := [Value.string ⟨#[]⟩]) U23 ti9 rfl (by kernel_rfl) rfl rfl rfl (by decide)) ?_); rintro _ w41 ⟨bq40, rfl, ⟨Ex, lu, Ey⟩, xY⟩; refine ⟨(i5.trans oT).trans lu.kp, ?_⟩; refine hLate [6] (by kernel_rfl) (by kernel_rfl) (qO 6 (nValP (i := 6) rfl rfl rfl (pap U23 ti9 rfl (by decide) rfl rfl (fH.v.ext lu) xY.rd (by intro c hc; simp at hc; subst hc; rfl) (by omega) (by omega)) ?_)); rintro u40 w42 ⟨rT, rU, xZ, -⟩; refine ⟨trivial, ?_⟩; have y6 := rU.blk (lu.blk fH.blk) (fun e => (fH.low _ (.inr (.inl e))).2.2.2.2 rfl); refine zqt 7 rfl (yfa fl84_2 rfl) trivial (qO 8 (nEffP (i := 8) rfl rfl (zst ti23 rfl rfl (oneV_sl rT) y6 (by simp)) ?_)); rintro w43 ⟨y7, y8⟩; refine ⟨trivial, ?_⟩; have y9 : w1.heap.size ≤ w40.heap.size := by have := jB.size; have := oT.size; omega
          obtain ⟨yd, rV⟩ := DcN.pushV y9 fH lu (by rw [List.length_append, List.map_append]; exact rT) rU xZ y7 y8; have ye := CH.kp rV (fun e => e.elim (fun e => fH.n9.2.1 e.symm) (fun e => (fH.low _ (.inr (.inl e))).2.1 rfl)) (fun e => e.elim (fun e => fH.n9.2.2.1 e.symm) (fun e => (fH.low _ (.inr (.inl e))).2.2.1 rfl)) (fun e => e.elim (fun e => fH.n9.2.2.2 e.symm) (fun e => (fH.low _ (.inr (.inl e))).2.2.2.1 rfl)); have yf : Ext w1 w43 := ((xX.trans jB).trans_new oT (fun i hi => by omega)).trans_new rV (fun i hi => hi.elim (fun e => by have := fH.n9.1; omega) (fun e => (fH.low i (.inr (.inl e))).1))

          refine qE (run_inBlock (run_reg rfl (zqm rfl (qV (ysb rfl rfl (by omega)) (zqa rfl (rEnd ?_)))))); rw [show (((c + 1 : Nat) : Int) - 1) = (c : Int) by omega]; refine (ih c w43 ⟨by omega, _, _, _, _, _, _, _, _, yd, ye, lg_leaf hz hL ea eb ec ed, yf, CE, fun k hk => ?_, fun k hk => ?_, ?_, ?_, ?_, by omega⟩ (by omega)).qb
          ·rcases List.mem_append.1 hk with hk | hk
           ·exact rB k hk
           ·simp at hk; subst hk; omega
          ·rcases List.mem_append.1 hk with hk | hk
           ·exact Ao k hk
           ·simp at hk; subst hk; omega
          ·simp; omega
          ·simp; omega
          ·simp; omega
        | false =>
          obtain ⟨tb, rb, cb, eb⟩ := tx_ex (valB ta) ra ca; have Er := tx_le eb; obtain ⟨tc, rc, cc, ec⟩ := tx_ex 4 rb cb; have Et := tx_le ec
          have uN : valB tc < 4294967296 := Nat.lt_of_lt_of_le (valB_lt tc) (by
           have : 256 ^ tc.length ≤ 256 ^ 4 := Nat.pow_le_pow_right (by omega) Et.1
           omega)
          refine rEnd (run_false rfl (run_skip (run_seq ?_))); have jC := Ext.drew0 w20; have i6 : Kp (fun k => k = b4 ∨ k = b5) w20 w20.drew := jC.kp; have rW := mc.blk; have rX := oQ.f; have rY : ¬ (b9 = b4 ∨ b9 = b5) := fun e => e.elim mc.n9.2.1 mc.n9.2.2.1; have rZ : ¬ (b6 = b4 ∨ b6 = b5) := fun e => e.elim oQ.n2.1 oQ.n2.2; refine run_drawL [6,8] (fun w' => Kp (fun k => k = b4 ∨ k = b5) w20 w') (by kernel_rfl) rfl (qL [1, 6, 7, 8] 0 rfl (fun _ h=>yfa fl84_1 rfl) i6 (qL [6, 7, 8] 1 rfl (fun _ h=>(by first | exact yld U23 rfl rfl (h.blk rW rY) rfl | exact yld U23 rfl rfl (h.blk rX rZ) rfl)) i6 ?_)); refine qL [4, 5, 6, 7, 8] 2 rfl (fun _ h=>(by first | exact yld U122 rfl rfl (h.blk rW rY) rfl | exact yld U122 rfl rfl (h.blk rX rZ) rfl)) i6 ?_; refine qL [4, 5, 6, 7, 8] 3 rfl (fun _ h=>ymv rfl) i6 (hOneL (i := 4) (by kernel_rfl) (nCallL (i := 4) rfl rfl rfl (ycv' (args := [.tmp 58]) cf81 rfl rfl) (text_ret (oQ.ext jC) (valB ta) (by omega) (by omega) eb) ?_)); rintro _ w50 ⟨rfl, CI, oU⟩; refine ⟨i6.trans oU, ?_⟩; have fI := (mc.ext jC).kp oU (fun g e => e); refine hOneL (i := 5) (by kernel_rfl) (nValPL (i := 5) rfl rfl rfl (pbs (parts := [(0, .tmp 59)]) (cs := [_]) (zs := [Value.string ⟨#[]⟩]) U23 ti9 rfl (by kernel_rfl) rfl rfl rfl (by decide)) ?_); rintro _ w51 ⟨bq50, rfl, ⟨Ez, lw, EA⟩, yg⟩; refine ⟨(i6.trans oU).trans lw.kp, ?_⟩; refine hLate [6] (by kernel_rfl) (by kernel_rfl) (qO 6 (nValP (i := 6) rfl rfl rfl (pap U23 ti9 rfl (by decide) rfl rfl (fI.k.ext lw) yg.rd (by intro c hc; simp at hc; subst hc; rfl) (by omega) (by omega)) ?_)); rintro u50 w52 ⟨s3, s4, yh, -⟩; refine ⟨trivial, ?_⟩; have yi := s4.blk (lw.blk fI.blk) (fun e => (fI.low _ (.inl e)).2.2.2.2 rfl); refine zqt 7 rfl (yfa fl84_1 rfl) trivial (qO 8 (nEffP (i := 8) rfl rfl (zst ti23 rfl rfl (oneV_sl s3) yi (by simp)) ?_)); rintro w53 ⟨yj, yl⟩; refine ⟨trivial, ?_⟩; have ym : w1.heap.size ≤ w50.heap.size := by have := jC.size; have := oU.size; omega
          obtain ⟨jD, s6⟩ := DcN.pushK ym fI lw (by rw [List.length_append, List.map_append]; exact s3) s4 yh yj yl; have lx := CI.kp s6 (fun e => e.elim (fun e => fI.n9.2.1 e.symm) (fun e => (fI.low _ (.inl e)).2.1 rfl)) (fun e => e.elim (fun e => fI.n9.2.2.1 e.symm) (fun e => (fI.low _ (.inl e)).2.2.1 rfl)) (fun e => e.elim (fun e => fI.n9.2.2.2 e.symm) (fun e => (fI.low _ (.inl e)).2.2.2.1 rfl)); have s7 : Ext w1 w53 := ((oR.trans jC).trans_new oU (fun i hi => by omega)).trans_new s6 (fun i hi => hi.elim (fun e => by have := fI.n9.1; omega) (fun e => (fI.low i (.inl e)).1))

          have Hk := s7.size; have yn := jD.blk; refine qE (qN rfl (qV (yfa fl84_0 rfl) (qV (yld U4 rfl rfl yn rfl) (rEnd (run_false rfl ?_))))); have yo := s7; have jE := Ext.drew0 w53; have i7 : Kp (fun k => k = b4 ∨ k = b5) w53 w53.drew := jE.kp; have yp := jD.blk; have yr := lx.f; have oV : ¬ (b9 = b4 ∨ b9 = b5) := fun e => e.elim jD.n9.2.1 jD.n9.2.2.1; have oW : ¬ (b6 = b4 ∨ b6 = b5) := fun e => e.elim lx.n2.1 lx.n2.2; refine run_drawL [6,8] (fun w' => Kp (fun k => k = b4 ∨ k = b5) w53 w') (by kernel_rfl) rfl (qL [1, 6, 7, 8] 0 rfl (fun _ h=>yfa fl84_3 rfl) i7 (qL [6, 7, 8] 1 rfl (fun _ h=>(by first | exact yld U82 rfl rfl (h.blk yp oV) rfl | exact yld U82 rfl rfl (h.blk yr oW) rfl)) i7 ?_)); refine qL [3, 4, 5, 6, 7, 8] 2 rfl (fun _ h=>ymv rfl) i7 (hOneL (i := 3) (by kernel_rfl) (nCallL (i := 3) rfl rfl rfl (ycv' (args := [.const (Value.int .i64 4)]) cf82 rfl rfl) (number_ret (lx.ext jE) 4 (by omega) (by omega) ec) ?_)); rintro _ w60 ⟨rfl, CJ, md⟩; refine ⟨i7.trans md, ?_⟩; have fJ := (jD.ext jE).kp md (fun g e => e); refine qL [5, 6, 7, 8] 4 rfl (fun _ h=>ycv32 rfl U3 U89) (i7.trans md) ?_; rw [Nat.mod_eq_of_lt uN]; refine hOneL (i := 5) (by kernel_rfl) (nValPL (i := 5) rfl rfl rfl (pbs (parts := [(0, .tmp 77)]) (cs := [_]) (zs := [Value.int .u32 0]) U82 ti89 rfl (by kernel_rfl) rfl rfl rfl (by decide)) ?_); rintro _ w61 ⟨bq60, rfl, ⟨EB, ly, EC⟩, ys⟩; refine ⟨(i7.trans md).trans ly.kp, ?_⟩; refine hLate [6] (by kernel_rfl) (by kernel_rfl) (qO 6 (nValP (i := 6) rfl rfl rfl (pap U82 ti89 rfl (by decide) rfl rfl (fJ.c.ext ly) ys.rd (by intro c hc; simp at hc; subst hc; rfl) (by omega) (by omega)) ?_)); rintro u60 w62 ⟨s8, s9, yt, -⟩; refine ⟨trivial, ?_⟩; have yu := s9.blk (ly.blk fJ.blk) (fun e => (fJ.low _ (.inr (.inr e))).2.2.2.2 rfl); refine zqt 7 rfl (yfa fl84_3 rfl) trivial (qO 8 (nEffP (i := 8) rfl rfl (zst ti82 rfl rfl (oneV_sl s8) yu (by simp)) ?_)); rintro w63 ⟨yw, yx⟩; refine ⟨trivial, ?_⟩; have yy : w1.heap.size ≤ w60.heap.size := by have := jE.size; have := md.size; omega
          obtain ⟨yz, sd⟩ := DcN.pushC yy fJ ly (by rw [List.length_append, List.map_append]; exact s8) s9 yt yw yx; have yA := CJ.kp sd (fun e => e.elim (fun e => fJ.n9.2.1 e.symm) (fun e => (fJ.low _ (.inr (.inr e))).2.1 rfl)) (fun e => e.elim (fun e => fJ.n9.2.2.1 e.symm) (fun e => (fJ.low _ (.inr (.inr e))).2.2.1 rfl)) (fun e => e.elim (fun e => fJ.n9.2.2.2 e.symm) (fun e => (fJ.low _ (.inr (.inr e))).2.2.2.1 rfl)); have yB : Ext w1 w63 := ((yo.trans jE).trans_new md (fun i hi => by omega)).trans_new sd (fun i hi => hi.elim (fun e => by have := fJ.n9.1; omega) (fun e => (fJ.low i (.inr (.inr e))).1))

          refine qE (run_inBlock (run_reg rfl (zqm rfl (qV (ysb rfl rfl (by omega)) (zqa rfl (rEnd ?_)))))); rw [show (((c + 1 : Nat) : Int) - 1) = (c : Int) by omega]; refine (ih c w63 ⟨by omega, _, _, _, _, _, _, _, _, yz, yA, lg_inn hz hL ea eb ec, yB, fun k hk => ?_, fun k hk => ?_, Ao, ?_, ?_, ?_, by omega⟩ (by omega)).qb
          ·rcases List.mem_append.1 hk with hk | hk
           ·exact CE k hk
           ·simp at hk; subst hk; omega
          ·rcases List.mem_append.1 hk with hk | hk
           ·exact rB k hk
           ·simp at hk; subst hk; omega
          ·simp; omega
          ·simp; omega
          ·simp; omega
       ·have Ac : bad = true := by simpa using bA
        refine run_exit rfl ?_; exact (Cw _ _ ⟨_, _, _, _, _, _, _, _, _, rfl, hN, mI, hL, .inr Ac, qD, xN⟩).qb
      ·have : c = 0 := by omega
       subst this; refine qS (qS (qV (ypF rfl rfl) (rEnd (run_false rfl (run_exit rfl ?_))))); exact (Cw _ _ ⟨_, _, _, _, _, _, _, _, _, rfl, hN, mI, hL, .inl rfl, qD, xN⟩).qb
   case dG =>
    cases lf with
    | true =>
      have iG : valB t1 = 1 := by have := of_decide_eq_true gB; omega
      refine run_false rfl (run_skip ?_)
      exact (hk _ _ ⟨[], _, r2, c2, rfl, m8, xI, Hc iG, oM, by simp, by simp, by omega⟩).qb
    | false =>
      have iG : valB t1 ≠ 1 := fun e => of_decide_eq_false gB (by omega); refine run_true rfl ?_
      have uN : valB t3 < 4294967296 := Nat.lt_of_lt_of_le (valB_lt t3) (by
       have : 256 ^ t3.length ≤ 256 ^ 4 := Nat.pow_le_pow_right (by omega) dU.1
       omega)
      have Hl := oM.size; have vx : ([] : List Nat).length = 0 := rfl; have yC := oM; have jF := Ext.drew0 w11; have i8 : Kp (fun k => k = b4 ∨ k = b5) w11 w11.drew := jF.kp; have yD := m8.blk; have yE := xI.f; have oV : ¬ (b9 = b4 ∨ b9 = b5) := fun e => e.elim m8.n9.2.1 m8.n9.2.2.1; have oW : ¬ (b6 = b4 ∨ b6 = b5) := fun e => e.elim xI.n2.1 xI.n2.2; refine run_drawL [6,8] (fun w' => Kp (fun k => k = b4 ∨ k = b5) w11 w') (by kernel_rfl) rfl (qL [1, 6, 7, 8] 0 rfl (fun _ h=>yfa fl84_3 rfl) i8 (qL [6, 7, 8] 1 rfl (fun _ h=>(by first | exact yld U82 rfl rfl (h.blk yD oV) rfl | exact yld U82 rfl rfl (h.blk yE oW) rfl)) i8 ?_)); refine qL [3, 4, 5, 6, 7, 8] 2 rfl (fun _ h=>ymv rfl) i8 (hOneL (i := 3) (by kernel_rfl) (nCallL (i := 3) rfl rfl rfl (ycv' (args := [.const (Value.int .i64 4)]) cf82 rfl rfl) (number_ret (xI.ext jF) 4 (by omega) (by omega) e3) ?_)); rintro _ w70 ⟨rfl, CK, me⟩; refine ⟨i8.trans me, ?_⟩; have fK := (m8.ext jF).kp me (fun g e => e); refine qL [5, 6, 7, 8] 4 rfl (fun _ h=>ycv32 rfl U3 U89) (i8.trans me) ?_; rw [Nat.mod_eq_of_lt uN]; refine hOneL (i := 5) (by kernel_rfl) (nValPL (i := 5) rfl rfl rfl (pbs (parts := [(0, .tmp 37)]) (cs := [_]) (zs := [Value.int .u32 0]) U82 ti89 rfl (by kernel_rfl) rfl rfl rfl (by decide)) ?_); rintro _ w71 ⟨bq70, rfl, ⟨ED, lz, EE⟩, yF⟩; refine ⟨(i8.trans me).trans lz.kp, ?_⟩; refine hLate [6] (by kernel_rfl) (by kernel_rfl) (qO 6 (nValP (i := 6) rfl rfl rfl (pap U82 ti89 rfl (by decide) rfl rfl (fK.c.ext lz) yF.rd (by intro c hc; simp at hc; subst hc; rfl) (by omega) (by omega)) ?_)); rintro u70 w72 ⟨se, sf, yG, -⟩; refine ⟨trivial, ?_⟩; have yH := sf.blk (lz.blk fK.blk) (fun e => (fK.low _ (.inr (.inr e))).2.2.2.2 rfl); refine zqt 7 rfl (yfa fl84_3 rfl) trivial (qO 8 (nEffP (i := 8) rfl rfl (zst ti82 rfl rfl (oneV_sl se) yH (by simp)) ?_)); rintro w73 ⟨yI, yJ⟩; refine ⟨trivial, ?_⟩; have yK : w1.heap.size ≤ w70.heap.size := by have := jF.size; have := me.size; omega
      obtain ⟨yL, sg⟩ := DcN.pushC yK fK lz (by rw [List.length_append, List.map_append]; exact se) sf yG yI yJ; have yM := CK.kp sg (fun e => e.elim (fun e => fK.n9.2.1 e.symm) (fun e => (fK.low _ (.inr (.inr e))).2.1 rfl)) (fun e => e.elim (fun e => fK.n9.2.2.1 e.symm) (fun e => (fK.low _ (.inr (.inr e))).2.2.1 rfl)) (fun e => e.elim (fun e => fK.n9.2.2.2 e.symm) (fun e => (fK.low _ (.inr (.inr e))).2.2.2.1 rfl)); have yN : Ext w1 w73 := ((yC.trans jF).trans_new me (fun i hi => by omega)).trans_new sg (fun i hi => hi.elim (fun e => by have := fK.n9.1; omega) (fun e => (fK.low i (.inr (.inr e))).1)); refine qE ?_; exact (hk _ _ ⟨_, _, r3, c3, rfl, yL, yM, Hd iG, yN, by simpa using uN, by simp, by omega⟩).qb
 ·rw [if_neg hz]; refine qV (yne rfl rfl) (rEnd (run_if rfl (fun h0 => ?_) (fun h0 => ?_)))
  ·refine qN rfl (qV (ybd (parts := []) (cs := [_, _, _, _]) ti84 rfl sp84 rfl rfl) (rEffP rfl (zstA ti84 rfl rfl rfl rfl ay (by simp)) ?_)); rintro w2 ⟨aN, am⟩; refine zqa rfl (rEnd (run_retR Tryz.func51 (.cell U84 rfl ti84 rfl (Blk.cells (n := 4) aN (news := [_, _, _, _]) rfl) rfl (.tmp rfl .nil)) ?_)); exact ⟨_, rfl, aa.trans_new am (fun i hi => by omega), .inr ⟨dec_none.2 (fun n h1 _ _ => hz h1), rfl⟩⟩
  ·exact absurd (by decide) h0
theorem sub_of_len {a b : List Int} (ha : a.Nodup) (dY : ∀ x ∈ a, x ∈ b) (hl : b.length ≤ a.length) : ∀ x ∈ b, x ∈ a := fun x hx => by
 by_cases h : x ∈ a
 ·exact h
 ·have := List.Nodup.length_le_of_subset (List.nodup_cons.2 ⟨h, ha⟩) (l₂ := b) (fun y hy => by
   rcases List.mem_cons.1 hy with rfl | hy
   ·exact hx
   ·exact dY y hy)
  rw [List.length_cons] at this; omega
theorem kn_len {T : Tr} {nb : Int → Nat} {kn : List (Int × Value)} {pg : List Int} (hg : ∀ no, getL kn no = (T.nodes no).map fun _ => ptr (nb no) 0) (bj : (kn.map (·.1)).Nodup) (Aq : pg.Nodup) (pq : ∀ x, T.nodes x ≠ none ↔ x ∈ pg) : kn.length = pg.length := by
 have : (kn.map (·.1)).Perm pg := (List.perm_ext_iff_of_nodup bj Aq).2 fun x => by rw [keys_iff hg x, pq x]
 simpa using this.length_eq
section
variable {w : World} {p : Nat} {T : Tr} {nb : Int → Nat} {F : Nat → Prop}
set_option maxHeartbeats 4000000 in
theorem whole_ret (h : TreeA w p T nb F) (bi : ∀ x n, T.nodes x = some n → NdOk T.size n) {pg : List Int} (Aq : pg.Nodup) (pq : ∀ x, T.nodes x ≠ none ↔ x ∈ pg) (dl : pg.length ≤ 1000000) (jk : T.count = 0) :
  Ret Tryz.prog 52 [ptr p 0] w fun v w' => Kp F w w' ∧ ((T.root = 0 ∧ v = .bool (decide (pg = [])) ∧ TreeA w' p T nb F) ∨ (T.root ≠ 0 ∧ ((∃ H ns es, Sub1 T.size T.nodes [] true T.root [] none H ns es ∧ ns.length = pg.length ∧ v = .bool true ∧ TreeA w' p { T with count := es.length } nb F) ∨ (v = .bool false ∧ ∀ H ns es, Sub1 T.size T.nodes [] true T.root [] none H ns es → ns.length ≠ pg.length)))) := by
 have hz : sizeOk (T.size : Int) := size_ok h
 obtain ⟨mN, mC, mO, gv, kn, kc, ko, O⟩ := h.opn
 have ah := h.lt
 have CL := kn_len O.ng O.nm.nd Aq pq
 refine ret_of_run (e := [(0, _)]) Tryz.func52 rfl Tryz.ntmps52 rfl rfl (qN rfl (rValP rfl rfl (pbx rfl rfl) ?_))
 rintro _ w1 ⟨bt, rfl, Ab, aa, aj⟩
 have gX := aa.blk O.blk
 have eV := aa.size
 have l1 := aj.lt
 refine zqa rfl (rEnd (run_seq (qN rfl (qV ((by first | exact yld U24 rfl rfl aj rfl | exact yld U24 rfl rfl gX rfl)) ?_))))
 refine qV (ynk rfl) (qV (yfa fl74_1 rfl) (qV ((by first | exact yld U3 rfl rfl aj rfl | exact yld U3 rfl rfl gX rfl)) ?_))
 refine qV (yeq rfl rfl) (rEnd (run_if rfl (fun hr => ?_) (fun hr => ?_)))
 ·refine qN rfl (qV ((by first | exact yld U24 rfl rfl aj rfl | exact yld U24 rfl rfl gX rfl)) ?_); refine qV (ynk rfl) (qV (yfa fl74_5 rfl) (qV ((by first | exact yld U71 rfl rfl aj rfl | exact yld U71 rfl rfl gX rfl)) ?_)); refine qV (ylenM U71 rfl (O.nm.ext aa).l) (qV (yeq rfl rfl) (zqa rfl (rEnd (run_ret Tryz.func52 rfl (⟨_, rfl, aa.kp, .inl ⟨hr, ?_, h.ext aa⟩⟩))))); simp only [resVal]
  congr 1
  rw [decide_eq_decide]; constructor
  ·intro e; exact List.eq_nil_of_length_eq_zero (by omega)
  ·intro e; rw [CL, e]; rfl
 ·refine run_skip (qN rfl (rValP rfl rfl (pmm) ?_)); rintro _ w2 ⟨mm, rfl, kq, ad, rC⟩; have lm : mm < w2.heap.size := (MapB.new (K := KZ) rC).lt; refine rValP rfl rfl (pal (cs := [_]) ti72 rfl) ?_; rintro _ w3 ⟨bm, rfl, lE, ai, aN⟩; refine rEffP rfl (zst ti72 rfl rfl rfl aN (by simp)) ?_; rintro w4 ⟨bs, ax⟩; refine qM rfl (rValP rfl rfl (pal (cs := [_]) ti126 rfl) ?_); rintro _ w5 ⟨bw, rfl, IH, aF, bu⟩; refine qM rfl (qV (ymf (first := []) (caps := [.tmp 1, .tmp 3, .tmp 4]) rfl rfl) (rEffP rfl (zst ti126 rfl rfl rfl bu (by simp)) ?_)); rintro w6 ⟨bT, bP⟩; have dH := ad.size; have jS := ai.size; have jT := ax.size; have lg := aF.size; have l3 := aN.lt; have l4 := bs.lt; have l5 := bu.lt; have hp := ah p O.fp.1; have ar : Ext w1 w4 := ((ad.trans ai).trans_new ax (fun i hi => by omega)); have ag : Ext w1 w6 := (ar.trans aF).trans_new bP (fun i hi => by omega); have lU := aa.trans ag; have qi : WhC w6 p bt bm bw mm := ⟨ag.blk aj, bP.blk (aF.blk bs) (by omega), bT, ⟨by omega, by omega, by omega, by omega, by omega, by omega, by omega⟩⟩; have Cj : MetM w6 mm [] := ⟨[], ((((MapB.new (K := KZ) rC).ext ai).kp ax (by omega)).ext aF).kp bP (by omega), rfl, fun x => by simp [getL]⟩; have h6 := h.ext lU; have uo := ag.blk gX; have aL := Ext.drew0 w6; have sh : ¬ F bt ∧ ¬ F bm ∧ ¬ F bw ∧ ¬ F mm := ⟨fun e => by have := ah _ e; omega, fun e => by have := ah _ e; omega, fun e => by have := ah _ e; omega, fun e => by have := ah _ e; omega⟩; have uq := qi.f; have gP := qi.t; refine rEnd (run_seq (run_drawL [6] (fun w' => Ext w6 w') (by kernel_rfl) rfl (qL [6, 7, 8, 9, 10, 11, 12, 13, 14, 15, 16, 17, 18] 0 rfl (fun _ h=>(by first | exact yld U126 rfl rfl (h.blk uq) rfl | exact yld U126 rfl rfl (h.blk gP) rfl | exact yld U126 rfl rfl (h.blk uo) rfl)) aL ?_))); refine qL [2, 3, 4, 6, 7, 8, 9, 10, 11, 12, 13, 14, 15, 16, 17, 18] 1 rfl (fun _ h=>(by first | exact yld U24 rfl rfl (h.blk uq) rfl | exact yld U24 rfl rfl (h.blk gP) rfl | exact yld U24 rfl rfl (h.blk uo) rfl)) aL ?_; refine qL [3, 4, 6, 7, 8, 9, 10, 11, 12, 13, 14, 15, 16, 17, 18] 2 rfl (fun _ h=>ynk rfl) aL (qL [4, 6, 7, 8, 9, 10, 11, 12, 13, 14, 15, 16, 17, 18] 3 rfl (fun _ h=>yfa fl74_1 rfl) aL (qL [6, 7, 8, 9, 10, 11, 12, 13, 14, 15, 16, 17, 18] 4 rfl (fun _ h=>(by first | exact yld U3 rfl rfl (h.blk uq) rfl | exact yld U3 rfl rfl (h.blk gP) rfl | exact yld U3 rfl rfl (h.blk uo) rfl)) aL ?_)); refine qL [6, 7, 8, 9, 10, 11, 12, 13, 14, 15, 16, 17, 18] 5 rfl (fun _ h=>ybd (parts := []) (cs := [_, _, _]) ti128 rfl sp128 rfl rfl) aL (hLate [6] (by kernel_rfl) (by kernel_rfl) (qO 6 (nCall (i := 6) rfl rfl rfl (ycv' (args := [.tmp 22, .tmp 23]) cf84 rfl rfl) (whAt_all p bt bm bw mm pg.length _ T nb F T.root [] none [] [] pg (h6.ext aL) (qi.ext aL) sh bi (fun x hx => (pq x).1 hx) dl (Cj.kp aL id) (by simp) (by simp) (by omega) (by simp) (fun u hu => by cases hu) (.inl ⟨rfl, rfl⟩)) ?_))); rintro v7 w7 ⟨aW, Ad⟩; refine ⟨trivial, ?_⟩; have dP : Kp (fun k => k = mm ∨ k = p) w6 w7 := aL.kp.trans aW; have jn : Kp F w w7 := lU.kp.trans_new (dP) (fun i hi => hi.elim (fun e => .inl (by omega)) (fun e => .inr (by rw [e]; exact O.fp.1)))
  rw [show decide (([] : List Int) = []) = true from rfl] at Ad; rcases Ad with ⟨H, ns, es, rfl, s, h7, Hm, -⟩ | ⟨rfl, cw⟩
  ·have ib := s.bn.pos; rw [jk, Nat.zero_add] at h7; obtain ⟨mN7, mC7, mO7, gv7, kn7, kc7, ko7, O7⟩ := h7.opn; obtain ⟨kv7, eK, eg, -⟩ := Hm; rw [List.append_nil] at eg; have Hn : kn7.length = pg.length := kn_len (T := { T with count := es.length }) O7.ng O7.nm.nd Aq pq; have jX := qi.kp dP; have ur := jX.m; have eC := jX.t; have gU := O7.blk
   have ao : ∀ b, b = decide ((kv7.length : Int) = (kn7.length : Int)) → ∃ v, (Ending.returned (Value.bool b)) = .returned v ∧ Kp F w w7 ∧ ((T.root = 0 ∧ v = .bool (decide (pg = [])) ∧ TreeA w7 p T nb F) ∨ (T.root ≠ 0 ∧ ((∃ H ns es, Sub1 T.size T.nodes [] true T.root [] none H ns es ∧ ns.length = pg.length ∧ v = .bool true ∧ TreeA w7 p { T with count := es.length } nb F) ∨ (v = .bool false ∧ ∀ H ns es, Sub1 T.size T.nodes [] true T.root [] none H ns es → ns.length ≠ pg.length)))) := fun b hb => by
    refine ⟨_, rfl, jn, .inr ⟨hr, ?_⟩⟩; by_cases e : ns.length = pg.length
    ·exact .inl ⟨H, ns, es, s, e, by rw [hb, decide_eq_true (by omega)], h7⟩
    ·refine .inr ⟨by rw [hb, decide_eq_false (by omega)], fun H' ns' es' s' => ?_⟩; rw [(bn_det hz s'.bn s.bn).2.1]; exact e
   refine zqt 7 rfl (ygt rfl rfl) trivial (rh_if (fun CM => ?_) (fun CM => ?_))
   ·refine zqt 8 rfl (ymv rfl) trivial (hTwo (i := 9) (j := 11) (by kernel_rfl) ?_ ?_)
    ·refine nVal (i := 9) rfl rfl rfl (yld U72 rfl rfl ur rfl) (trivial) (hTwo (i := 10) (j := 11) (by kernel_rfl) ?_ ?_)
     ·refine nVal (i := 10) rfl rfl rfl (ylenM U72 rfl eK.l) (trivial) (qO 11 (nVal (i := 11) rfl rfl rfl (yld U24 rfl rfl eC rfl) (trivial) (zqt 12 rfl (ynk rfl) trivial (zqt 13 rfl (yfa fl74_5 rfl) trivial (qO 14 (nVal (i := 14) rfl rfl rfl (yld U71 rfl rfl gU rfl) (trivial) (qO 15 (nVal (i := 15) rfl rfl rfl (ylenM U71 rfl O7.nm.l) (trivial) (zqt 16 rfl (yeq rfl rfl) trivial (zqt 17 rfl (ypT rfl rfl) trivial (zqt 18 rfl (yas rfl) trivial (qE (Run.qb (e := [(2, _)]) ?_))))))))))))); refine run_ret Tryz.func52 rfl ?_; exact ao _ rfl
     ·refine nVal (i := 11) rfl rfl rfl (yld U24 rfl rfl eC rfl) (trivial) (zqt 12 rfl (ynk rfl) trivial (zqt 13 rfl (yfa fl74_5 rfl) trivial (hTwo (i := 10) (j := 14) (by kernel_rfl) ?_ ?_)))
      ·refine nVal (i := 10) rfl rfl rfl (ylenM U72 rfl eK.l) (trivial) (qO 14 (nVal (i := 14) rfl rfl rfl (yld U71 rfl rfl gU rfl) (trivial) (qO 15 (nVal (i := 15) rfl rfl rfl (ylenM U71 rfl O7.nm.l) (trivial) (zqt 16 rfl (yeq rfl rfl) trivial (zqt 17 rfl (ypT rfl rfl) trivial (zqt 18 rfl (yas rfl) trivial (qE (Run.qb (e := [(2, _)]) ?_))))))))); refine run_ret Tryz.func52 rfl ?_; exact ao _ rfl
      ·refine nVal (i := 14) rfl rfl rfl (yld U71 rfl rfl gU rfl) (trivial) (qO 10 (nVal (i := 10) rfl rfl rfl (ylenM U72 rfl eK.l) (trivial) (qO 15 (nVal (i := 15) rfl rfl rfl (ylenM U71 rfl O7.nm.l) (trivial) (zqt 16 rfl (yeq rfl rfl) trivial (zqt 17 rfl (ypT rfl rfl) trivial (zqt 18 rfl (yas rfl) trivial (qE (Run.qb (e := [(2, _)]) ?_))))))))); refine run_ret Tryz.func52 rfl ?_; exact ao _ rfl
    ·refine nVal (i := 11) rfl rfl rfl (yld U24 rfl rfl eC rfl) (trivial) (zqt 12 rfl (ynk rfl) trivial (zqt 13 rfl (yfa fl74_5 rfl) trivial (hTwo (i := 9) (j := 14) (by kernel_rfl) ?_ ?_)))
     ·refine nVal (i := 9) rfl rfl rfl (yld U72 rfl rfl ur rfl) (trivial) (hTwo (i := 10) (j := 14) (by kernel_rfl) ?_ ?_)
      ·refine nVal (i := 10) rfl rfl rfl (ylenM U72 rfl eK.l) (trivial) (qO 14 (nVal (i := 14) rfl rfl rfl (yld U71 rfl rfl gU rfl) (trivial) (qO 15 (nVal (i := 15) rfl rfl rfl (ylenM U71 rfl O7.nm.l) (trivial) (zqt 16 rfl (yeq rfl rfl) trivial (zqt 17 rfl (ypT rfl rfl) trivial (zqt 18 rfl (yas rfl) trivial (qE (Run.qb (e := [(2, _)]) ?_))))))))); refine run_ret Tryz.func52 rfl ?_; exact ao _ rfl
      ·refine nVal (i := 14) rfl rfl rfl (yld U71 rfl rfl gU rfl) (trivial) (qO 10 (nVal (i := 10) rfl rfl rfl (ylenM U72 rfl eK.l) (trivial) (qO 15 (nVal (i := 15) rfl rfl rfl (ylenM U71 rfl O7.nm.l) (trivial) (zqt 16 rfl (yeq rfl rfl) trivial (zqt 17 rfl (ypT rfl rfl) trivial (zqt 18 rfl (yas rfl) trivial (qE (Run.qb (e := [(2, _)]) ?_))))))))); refine run_ret Tryz.func52 rfl ?_; exact ao _ rfl
     ·refine nVal (i := 14) rfl rfl rfl (yld U71 rfl rfl gU rfl) (trivial) (qO 9 (nVal (i := 9) rfl rfl rfl (yld U72 rfl rfl ur rfl) (trivial) (qO 10 (nVal (i := 10) rfl rfl rfl (ylenM U72 rfl eK.l) (trivial) (qO 15 (nVal (i := 15) rfl rfl rfl (ylenM U71 rfl O7.nm.l) (trivial) (zqt 16 rfl (yeq rfl rfl) trivial (zqt 17 rfl (ypT rfl rfl) trivial (zqt 18 rfl (yas rfl) trivial (qE (Run.qb (e := [(2, _)]) ?_))))))))))); refine run_ret Tryz.func52 rfl ?_; exact ao _ rfl
   ·omega
  ·refine zqt 7 rfl (ygt rfl rfl) trivial (rh_if (fun CM => ?_) (fun CM => ?_))
   ·omega
   ·refine zqt 8 rfl (ymv rfl) trivial (qJ 9 rfl (trivial) (qJ 10 rfl (trivial) (qJ 11 rfl (trivial) (qJ 12 rfl (trivial) (qJ 13 rfl (trivial) (qJ 14 rfl (trivial) (qJ 15 rfl (trivial) (qJ 16 rfl (trivial) (zqt 17 rfl (ypF rfl rfl) trivial (zqt 18 rfl (yas rfl) trivial (qE (Run.qb (e := [(2, _)]) ?_)))))))))))); refine run_ret Tryz.func52 rfl (⟨_, rfl, jn, .inr ⟨hr, .inr ⟨rfl, fun H ns es s => absurd s (cw H ns es)⟩⟩⟩)
end
/-! ### Pages that are handed in -/
noncomputable def ndOf (z : Nat) (t : Bytes) : Option Nd := if t.length = z then dec t else none
noncomputable def nodesOf (z : Nat) (l : Pgs) : Nodes := fun x => match l.find? (fun y => decide (y.1 = x)) with
 | some y => ndOf z y.2
 | none => none
theorem ndOf_ok {z : Nat} {t : Bytes} {n : Nd} (h : ndOf z t = some n) : NdZ z n ∧ enc z n = t ∧ t.length = z := by
 unfold ndOf at h
 split at h
 ·rename_i e
  obtain ⟨-, h2, h3⟩ := dec_some.1 h; rw [e] at h2 h3; exact ⟨h2, h3, e⟩
 ·cases h
theorem nodesOf_none {z : Nat} {l : Pgs} {x : Int} (h : x ∉ l.map (·.1)) : nodesOf z l x = none := by
 unfold nodesOf
 rw [List.find?_eq_none.2 (fun y hy => by
  simp only [decide_eq_true_eq]; intro e
  exact h (List.mem_map.2 ⟨y, hy, e⟩))]
theorem nodesOf_mem {z : Nat} : ∀ {l : Pgs} {y : Int × Bytes}, (l.map (·.1)).Nodup → y ∈ l → nodesOf z l y.1 = ndOf z y.2
 | a :: r, y, hn, hy => by
   rw [List.map_cons] at hn; obtain ⟨h1, h2⟩ := List.nodup_cons.1 hn; unfold nodesOf; rw [List.find?_cons]; rcases List.mem_cons.1 hy with rfl | hy
   ·rw [decide_eq_true rfl]
   ·have : a.1 ≠ y.1 := fun e => h1 (List.mem_map.2 ⟨y, hy, e.symm⟩); rw [decide_eq_false this]; exact nodesOf_mem h2 hy
theorem nodesOf_ok {z : Nat} {l : Pgs} {x : Int} {n : Nd} (h : nodesOf z l x = some n) : NdZ z n ∧ x ∈ l.map (·.1) := by
 by_cases hx : x ∈ l.map (·.1)
 ·refine ⟨?_, hx⟩; unfold nodesOf at h; split at h
  ·exact (ndOf_ok h).1
  ·cases h
 ·rw [nodesOf_none hx] at h; cases h
theorem nodesOf_take {z : Nat} {l : Pgs} {i : Nat} {y : Int × Bytes} (hn : (l.map (·.1)).Nodup) (hy : l[i]? = some y) : nodesOf z (l.take (i + 1)) = updI (nodesOf z (l.take i)) y.1 (ndOf z y.2) := by
 funext x
 have dj : ((l.take (i + 1)).map (·.1)).Nodup := hn.sublist ((List.take_sublist _ _).map _)
 have gx : ((l.take i).map (·.1)).Nodup := hn.sublist ((List.take_sublist _ _).map _)
 have hm : ∀ a, a ∈ l.take (i + 1) ↔ a ∈ l.take i ∨ a = y := fun a => mem_take_succ hy
 by_cases e : x = y.1
 ·subst e; rw [updI_same]; exact nodesOf_mem dj ((hm y).2 (.inr rfl))
 ·rw [updI_ne e]; by_cases hx : x ∈ (l.take i).map (·.1)
  ·obtain ⟨a, ha, rfl⟩ := List.mem_map.1 hx; rw [nodesOf_mem gx ha, nodesOf_mem dj ((hm a).2 (.inl ha))]
  ·rw [nodesOf_none hx, nodesOf_none (fun aZ => by
    obtain ⟨a, ha, e'⟩ := List.mem_map.1 aZ; rcases (hm a).1 ha with h | h
    ·exact hx (List.mem_map.2 ⟨a, h, e'⟩)
    ·subst h; exact e e'.symm)]
def numsOk (z root : Int) (l : Pgs) : Prop := sizeOk z ∧ (0 ≤ root ∧ root ≤ 2147483647) ∧ (l.map (·.1)).Nodup ∧ ∀ x ∈ l, 1 ≤ x.1 ∧ x.1 ≤ 2147483647
def LoadOk (z : Nat) (root : Int) (l : Pgs) (H : Nat) (ns : List Int) (es : Es) : Prop := (root = 0 ∧ l = [] ∧ H = 0 ∧ ns = [] ∧ es = []) ∨ (root ≠ 0 ∧ Sub1 z (nodesOf z l) [] true root [] none H ns es ∧ ns.length = l.length)
theorem LoadOk.mem {z : Nat} {root : Int} {l : Pgs} {H : Nat} {ns : List Int} {es : Es} (h : LoadOk z root l H ns es) : ∀ x, x ∈ ns ↔ x ∈ l.map (·.1) := by
 rcases h with ⟨-, rfl, -, rfl, -⟩ | ⟨-, s, hl⟩
 ·simp
 ·have h1 : ∀ x ∈ ns, x ∈ l.map (·.1) := fun x hx => by
   obtain ⟨n, hn⟩ := Option.ne_none_iff_exists'.1 (s.bn.some x hx); exact (nodesOf_ok hn).2
  exact fun x => ⟨h1 x, sub_of_len s.nd h1 (by simp; omega) x⟩
theorem LoadOk.all {z : Nat} {root : Int} {l : Pgs} {H : Nat} {ns : List Int} {es : Es} (h : LoadOk z root l H ns es) (hn : (l.map (·.1)).Nodup) : ∀ y ∈ l, ∃ n, ndOf z y.2 = some n := fun y hy => by
 have hm := (h.mem y.1).2 (List.mem_map.2 ⟨y, hy, rfl⟩)
 rcases h with ⟨-, rfl, -⟩ | ⟨-, s, hl⟩
 ·cases hy
 ·obtain ⟨n, fY⟩ := Option.ne_none_iff_exists'.1 (s.bn.some _ hm); rw [nodesOf_mem hn hy] at fY; exact ⟨n, fY⟩
noncomputable def TrL (z : Nat) (root : Int) (l : Pgs) (c : Nat) : Tr := ⟨z, root, c, nodesOf z l, [], fun _ => false, fun x => decide (x ∈ l.map (·.1))⟩
noncomputable def TrI (z : Nat) (l : Pgs) (i : Nat) : Tr := ⟨z, 0, 0, nodesOf z (l.take i), [], fun _ => false, fun x => decide (x ∈ (l.take i).map (·.1))⟩
theorem LoadOk.inv {z : Nat} {root : Int} {l : Pgs} {H : Nat} {ns : List Int} {es : Es} (h : LoadOk z root l H ns es) (hn : numsOk (z : Int) root l) : Inv (TrL z root l es.length) H ns es := by
 have hm := h.mem
 have hN : ∀ x, nodesOf z l x ≠ none → x ∈ l.map (·.1) := fun x hx => by
  obtain ⟨n, hn⟩ := Option.ne_none_iff_exists'.1 hx; exact (nodesOf_ok hn).2
 refine ⟨?_, fun x hx => (hm x).2 (hN x hx), rfl, fun x hx => ?_, fun x hx => absurd hx List.not_mem_nil, ⟨List.Pairwise.nil, fun x hx => absurd hx List.not_mem_nil⟩, fun x hx _ => decide_eq_true (hN x hx)⟩
 ·rcases h with ⟨h1, -, h2, h3, h4⟩ | ⟨h1, s, -⟩
  ·exact .inl ⟨h1, h2, h3, h4⟩
  ·exact .inr ⟨h1, s.bn.pos, s.bn, s.nd, fun n hn => by have := s.cnd n hn; simpa using this⟩
 ·obtain ⟨y, hy, rfl⟩ := List.mem_map.1 (hN x hx); exact hn.2.2.2 y hy
theorem rd_pg {w : World} {b off n cap : Nat} {l : Pgs} {i : Nat} {y : Int × Bytes} (h : Rd w (.slice (some ⟨b, off, none⟩) n cap) 2 n (pgC l)) (hi : i < n) (hy : l[i]? = some y) : ∀ (j : Nat) u, [I y.1, S y.2][j]? = some u → w.cell? ⟨b, off + i * 2 + j, none⟩ = some u := fun j u hj => by
 rcases h.2 with ⟨c, -, h0⟩ | ⟨b', off', cap', hv, hc⟩
 ·omega
 ·cases hv; obtain ⟨f1, f2⟩ := flat2 (fun x : Int × Bytes => I x.1) (fun x : Int × Bytes => S x.2) l i; rw [hy] at f1 f2
  match j, hj with
  | 0, hj =>
    have : u = I y.1 := by simpa using hj.symm
    subst this; have := hc (2 * i) (I y.1) f1; rw [show off + i * 2 + 0 = off + 2 * i by omega]
    exact this
  | 1, hj =>
    have : u = S y.2 := by simpa using hj.symm
    subst this; have := hc (2 * i + 1) (S y.2) f2; rw [show off + i * 2 + 1 = off + (2 * i + 1) by omega]; exact this
theorem rd_pgs {w : World} {a : Option Addr} {cap n : Nat} {l : Pgs} {i : Nat} (h : Rd w (.slice a n cap) 2 n (pgC l)) (hn : n = l.length) (hi : i < n) : ∃ b off y, a = some ⟨b, off, none⟩ ∧ l[i]? = some y := by
 rcases h.2 with ⟨c, -, h0⟩ | ⟨b', off', cap', hv, hc⟩
 ·omega
 ·cases hv; exact ⟨b', off', _, rfl, List.getElem?_eq_getElem (by omega)⟩
section
variable {w : World}
set_option maxHeartbeats 8000000 in
theorem load_ret (z root : Int) {lv : Value} {l : Pgs} (hR : Rd w lv 2 l.length (pgC l)) (hl : l.length ≤ 1000000) (ht : ∀ y ∈ l, y.2.length ≤ 140737488355328) :
  Ret Tryz.prog 17 [I z, I root, lv] w fun v w' => Ext w w' ∧ ((¬ numsOk z root l ∧ v = .tuple #[.pointer none, I 1]) ∨ (numsOk z root l ∧ (∀ H ns es, ¬ LoadOk z.toNat root l H ns es) ∧ v = .tuple #[.pointer none, I 4]) ∨ (numsOk z root l ∧ ∃ H ns es p nb F, LoadOk z.toNat root l H ns es ∧ v = .tuple #[ptr p 0, I 0] ∧ TreeA w' p (TrL z.toNat root l es.length) nb F ∧ ∀ k, F k → w.heap.size ≤ k)) := by
 obtain ⟨la, lc, rfl, -⟩ := hR.shape
 refine ret_of_run (e := [(0, _), (1, _), (2, _)]) Tryz.func17 rfl Tryz.ntmps17 rfl rfl (qN rfl (zqa rfl (zqa rfl (qM rfl (zqm rfl (zqc [.tmp 18] cf8 rfl (newT_ret z) ?_))))))
 rintro v1 w1 ⟨aa, iG⟩
 have eV := aa.size
 rcases iG with ⟨hz, p, F, rfl, h1, hY⟩ | ⟨hz, rfl⟩
 ·obtain ⟨k, rfl⟩ : ∃ k : Nat, z = (k : Int) := ⟨z.toNat, by have := hz.1; omega⟩; rw [Int.toNat_natCast] at h1 ⊢; obtain ⟨z1, z2, -⟩ := id hz; have mL := h1.lt; refine zqm rfl (qV (yex rfl rfl) (qV (yex rfl rfl) (zqa rfl (zqa rfl (rEnd (run_seq (qN rfl (zqm rfl (qV (yne rfl rfl) (zqm rfl (rVal_if (fun h0 => ?_) (fun h0 => ?_))))))))))))
  ·exact absurd rfl h0
  ·refine zqm rfl (qV (ylt rfl rfl) (qV (ypF rfl rfl) (zqm rfl (rVal_if (fun tW => ?_) (fun tW => ?_)))))
   ·refine qS (qS (qV (ypT rfl rfl) (rEnd (run_true rfl (qN rfl (zqa rfl (zqa rfl (rEnd (run_ret Tryz.func17 rfl ?_))))))))); exact ⟨_, rfl, aa, .inl ⟨fun h => by have := h.2.1; omega, rfl⟩⟩
   ·refine zqm rfl (qV (ygt rfl rfl) (rVal_if (fun uQ => ?_) (fun uQ => ?_)))
    ·refine qV (ypF rfl rfl) (rEnd (run_true rfl (qN rfl (zqa rfl (zqa rfl (rEnd (run_ret Tryz.func17 rfl ?_))))))); exact ⟨_, rfl, aa, .inl ⟨fun h => by have := h.2.1; omega, rfl⟩⟩
    ·refine qV (ypF rfl rfl) (rEnd (run_false rfl (run_skip (qN rfl (rValP rfl rfl (pmm) ?_))))); rintro _ w2 ⟨ms, rfl, GH, ad, rC⟩; have jV : ms < w2.heap.size := (MapB.new (K := KZ) rC).lt; have dH := ad.size; refine zqa rfl (rEnd (run_seq (qN rfl (zqm rfl (qV (yln U52 rfl) (zqm rfl (rEnd (Run.qb (e := [(0, _), (1, _), (2, _), (6, _), (7, _), (8, _), (10, _), (33, _), (34, _), (35, _)]) ?_)))))))); refine run_block (run_cut2 (fun e' w' => e' = [(0, I (k : Int)), (1, I root), (2, .slice la l.length lc), (8, ptr p 0)] ∧ Ext w1 w' ∧ numsOk (k : Int) root l) ?A3 (fun A3 => ?CT))
     case A3 =>
      rintro e' w3 ⟨rfl, ai, jG⟩; obtain ⟨-, -, yO, yP⟩ := id jG
      have Ho : TrI k l 0 = Tr0 k := by
       unfold TrI Tr0
       congr 1
      have au := aa.trans ai; have jS := ai.size; refine run_seq (qN rfl (zqm rfl (qV (yln U52 rfl) (zqm rfl (rEnd (run_block (zqu (α := Nat) (0) (fun i => [(0, I (k : Int)), (1, I root), (8, ptr p 0), (60, .slice la l.length lc), (61, I (l.length : Int)), (62, I (i : Int))]) (fun i w' => i ≤ l.length ∧ Ext w w' ∧ w3.heap.size ≤ w'.heap.size ∧ (∀ y ∈ l.take i, ∃ n, ndOf k y.2 = some n) ∧ ∃ nb F, TreeA w' p (TrI k l i) nb F ∧ ∀ k, F k → w.heap.size ≤ k) (fun i => l.length - i) ?hI ?hround)))))))
      case hI => exact ⟨Nat.zero_le _, au, Nat.le_refl _, by simp, _, F, by rw [Ho]; exact h1.ext ai, hY⟩
      case hround =>
       rintro i wi ⟨hi, cA, vp, bF, nbi, Fi, af, vt⟩ ih; have ut := af.lt
       try dsimp only
       refine qN rfl (qV (ylt rfl rfl) (rEnd (run_seq (run_if rfl (fun kT => ?_) (fun kT => ?_)))))
       ·have cF : i < l.length := by omega
        obtain ⟨lb, lo, y, rfl, hy⟩ := rd_pgs hR rfl cF; have sH := List.mem_of_getElem? hy
        have uu : y.1 ∉ (l.take i).map (·.1) := fun hb => by
         have oX : ((l.take (i + 1)).map (·.1)).Nodup := yO.sublist ((List.take_sublist _ _).map _); obtain ⟨uc, e2⟩ := List.getElem?_eq_some_iff.1 hy; rw [List.take_succ_eq_append_getElem uc, e2, List.map_append] at oX; exact (List.nodup_append.1 oX).2.2 _ hb y.1 (by simp) rfl
        have si : ndOf k y.2 = none → ∀ H ns es, ¬ LoadOk k root l H ns es := fun e H ns es hh => by
         obtain ⟨n, hn⟩ := hh.all yO y sH; rw [e] at hn; cases hn
        refine run_skip (run_seq (run_block (qN rfl (qV (yis U52 ti55 rfl rfl (by omega)) (qV (yldA U55 rfl ti55 rfl (rd_pg (hR.ext cA) cF hy) rfl) (rValP rfl rfl (pal (cs := [_, _]) ti55 rfl) ?_)))))); rintro _ w4 ⟨b14, rfl, Hp, aX, bs⟩; refine rEffP rfl (zstA ti55 rfl rfl rfl rfl bs (by simp)) ?_; rintro w5 ⟨bu, aY⟩; have f3 : Blk w5 b14 [I y.1, S y.2] 55 := bu; have uv : Ext wi w5 := aX.trans_new aY (fun j hj => by omega); have II := f3.lt; have lg := uv.size; refine qM rfl (qV (yfa fl55_1 rfl) (qV (yld U9 rfl rfl f3 rfl) (zqc [.tmp 68] cf51 rfl (decode_ret y.2 (ht y sH) w5) ?_))); rintro v6 w6 ⟨bq, m7⟩; have nh := bq.size; rcases m7 with ⟨n, kv, vv, cv, oP, rfl, hP, bB⟩ | ⟨oP, rfl⟩
        ·obtain ⟨ka, kac, uj, -⟩ := hP.keys.rd.shape; obtain ⟨va, vac, Cz, -⟩ := hP.vals.rd.shape; obtain ⟨ca, cac, CA, -⟩ := hP.kids.rd.shape; subst uj; subst Cz; subst CA; have bT := bq.blk f3; refine zqm rfl (qV (yex rfl rfl) (qV (yex rfl rfl) ?_)); unfold ndv; refine rValP rfl rfl (pal (cs := [_, _, _, _]) ti84 rfl) ?_; rintro _ w7 ⟨b15, rfl, pL, aR, dy⟩; refine rEffP rfl (zstA ti84 rfl rfl rfl rfl dy (by simp)) ?_; rintro w8 ⟨da, aU⟩; have yQ : Blk w8 b15 [.bool n.leaf, .slice ka n.keys.length kac, .slice va n.vals.length vac, .slice ca n.kids.length cac] 84 := da; have kj := aR.size; have eg := yQ.lt; have uw : Ext w6 w8 := aR.trans_new aU (fun j hj => by omega); have mf : Ext wi w8 := (uv.trans bq).trans uw; have gC := uw.blk bT; refine zqa rfl (rEnd (run_seq (qN rfl (zqm rfl (qV (yne rfl rfl) (rVal_if (fun yR => ?_) (fun yR => ?_)))))))
         ·exact absurd rfl yR
         ·refine zqm rfl (qV (yfa fl55_1 rfl) (qV (yld U9 rfl rfl gC rfl) (qV (ylnS U9 rfl) (zqm rfl (qV (yne rfl rfl) (rVal_if (fun aT => ?_) (fun aT => ?_)))))))
          ·refine qV (ypF rfl rfl) (rEnd (run_true rfl (qN rfl (zqa rfl (zqa rfl (rEnd (run_ret Tryz.func17 rfl (⟨_, rfl, cA.trans mf, .inr (.inl ⟨jG, si ?_, rfl⟩)⟩)))))))); unfold ndOf; rw [if_neg (by omega)]
          ·have aM : y.2.length = k := by omega
           have yS : ndOf k y.2 = some n := by unfold ndOf; rw [if_pos aM]; exact oP
           have h8 := af.ext mf; obtain ⟨mN1, mC1, mO1, gv1, kn1, kc1, ko1, O1⟩ := h8.opn; have cT := O1.ne; have uV := O1.ap; have mA := mf.size; have GP := ut mN1 O1.fp.2.1; have GO := ut mO1 O1.fp.2.2.2.1; refine qV (ypF rfl rfl) (rEnd (run_false rfl (run_skip ?_))); have a7 := Ext.drew0 w8; refine run_draw (fun w' => Kp (fun k => k = mN1 ∨ k = mO1) w8 w') (by kernel_rfl) rfl (zqt 0 rfl (ymv rfl) (a7.kp) (zqt 1 rfl (ynk rfl) (a7.kp) (zqt 2 rfl (yfa fl74_5 rfl) (a7.kp) (qT 3 rfl (fun _ hS => (by first | exact yld U71 rfl rfl (hS.blk O1.blk (fun h => h.elim (fun e => cT.1 e.symm) (fun e => cT.2.2.1 e.symm))) rfl | exact yld U71 rfl rfl (hS.blk gC (by omega)) rfl)) (a7.kp) ?_)))); refine zqt 4 rfl (yfa fl55_0 rfl) (a7.kp) (qT 5 rfl (fun _ hS => (by first | exact yld U3 rfl rfl (hS.blk O1.blk (fun h => h.elim (fun e => cT.1 e.symm) (fun e => cT.2.2.1 e.symm))) rfl | exact yld U3 rfl rfl (hS.blk gC (by omega)) rfl)) (a7.kp) ?_); refine zqt 6 rfl (ymv rfl) (a7.kp) (zqt 7 rfl (ynk rfl) (a7.kp) (zqt 8 rfl (yfa fl74_8 rfl) (a7.kp) (qT 9 rfl (fun _ hS => (by first | exact yld U72 rfl rfl (hS.blk O1.blk (fun h => h.elim (fun e => cT.1 e.symm) (fun e => cT.2.2.1 e.symm))) rfl | exact yld U72 rfl rfl (hS.blk gC (by omega)) rfl)) (a7.kp) ?_))); refine zqt 10 rfl (yfa fl55_0 rfl) (a7.kp) (qT 11 rfl (fun _ hS => (by first | exact yld U3 rfl rfl (hS.blk O1.blk (fun h => h.elim (fun e => cT.1 e.symm) (fun e => cT.2.2.1 e.symm))) rfl | exact yld U3 rfl rfl (hS.blk gC (by omega)) rfl)) (a7.kp) ?_); refine qO 12 (nValP (i := 12) rfl rfl rfl (pme (k := y.1) (K := KZ) U71 (ky_int U3) ti81 rfl rfl (O1.nm.kp a7 id)) ?_); rintro _ w9 ⟨be, rfl, Hq, aH⟩; refine ⟨(a7.kp).trans (aH.mono' (fun _ h => .inl h)), ?_⟩; refine zqt 13 rfl (yex rfl rfl) ((a7.kp).trans (aH.mono' (fun _ h => .inl h))) (qO 14 (nEffP (i := 14) rfl rfl (zes rfl rfl rfl Hq) ?_)); rintro w10 ⟨eG, aA⟩; refine ⟨((a7.kp).trans (aH.mono' (fun _ h => .inl h))).trans (aA.mono' (fun _ h => .inl h)), ?_⟩; have fx : Kp (fun k => k = mN1) w8 w10 := ((a7.kp).trans aH).trans aA; have B0 : ¬ ownP (.slice ka n.keys.length kac) (.slice va n.vals.length vac) (.slice ca n.kids.length cac) b15 := fun hk => by have := hP.lt hk; omega
           have Bh : NdM w8 n ⟨b15, .slice ka n.keys.length kac, .slice va n.vals.length vac, .slice ca n.kids.length cac⟩ := NdP.at (hP.kp uw (fun _ _ => id)) yQ B0
           have yT : ∀ j, Pl.fp ⟨b15, .slice ka n.keys.length kac, .slice va n.vals.length vac, .slice ca n.kids.length cac⟩ j → wi.heap.size ≤ j := fun j hj => by
            rcases hj with hj | hj | hj | hj
            ·dsimp only at hj; omega
            ·have := bB j (.inl hj); omega
            ·have := bB j (.inr (.inl hj)); omega
            ·have := bB j (.inr (.inr hj)); omega
           have sh : ∀ j, Pl.fp ⟨b15, .slice ka n.keys.length kac, .slice va n.vals.length vac, .slice ca n.kids.length cac⟩ j → ¬ Fi j := fun j hj hf => by
            have := yT j hj; have := ut j hf; omega
           have um := Bh.kp fx (fun j hj e => sh j hj (by rw [e]; exact O1.fp.2.1)); have nB : (TrI k l i).nodes y.1 = none := nodesOf_none uu
           obtain ⟨F2, mS, ce⟩ := O1.newN w10 _ y.1 n ⟨b15, .slice ka n.keys.length kac, .slice va n.vals.length vac, .slice ca n.kids.length cac⟩ um eG fx (fun x => by
            rw [getL_put, getL_put]
            by_cases e : x = y.1 <;> simp [e]) nB sh
           obtain ⟨mN2, mC2, mO2, gv2, kn2, kc2, ko2, O2⟩ := mS.opn; have bG := fx.blk O1.blk (fun e => cT.1 e.symm)
           obtain ⟨e1, e2⟩ : mO2 = mO1 ∧ mN2 = mN1 := by
            have := Blk.inj O2.blk bG; simp [trCs] at this; exact ⟨by omega, by omega⟩
           subst e1; subst e2; refine qO 15 (nValP (i := 15) rfl rfl rfl (pme (k := y.1) (K := KZ) U72 (ky_int U3) ti3 rfl rfl O2.om) ?_); rintro _ w11 ⟨be2, rfl, CN, gq⟩; refine ⟨(fx.mono' (fun _ h => .inl h)).trans (gq.mono' (fun _ h => .inr h)), ?_⟩; refine zqt 16 rfl (yex rfl rfl) ((fx.mono' (fun _ h => .inl h)).trans (gq.mono' (fun _ h => .inr h))) (qO 17 (nEffP (i := 17) rfl rfl (zes rfl rfl rfl CN) ?_)); rintro w12 ⟨qH, eX⟩; refine ⟨((fx.mono' (fun _ h => .inl h)).trans (gq.mono' (fun _ h => .inr h))).trans (eX.mono' (fun _ h => .inr h)), ?_⟩; refine qE (run_inBlock (run_reg rfl (zqd rfl rfl (zqm rfl (rEnd ?_))))); have gr : Kp (fun k => k = mO2) w10 w12 := gq.trans eX
           have EF := O2.setO w12 _ (updI (TrI k l i).old y.1 true) qH gr (fun x => by
            rw [getL_put, getL_put]; by_cases e : x = y.1
            ·subst e; simp [flag, updI]
            ·rw [if_neg e, if_neg e, O2.og]; simp [updI, e, Tr.setN])
           have CO : updI (TrI k l i).nodes y.1 (some n) = (TrI k l (i + 1)).nodes := by
            show updI (nodesOf k (l.take i)) y.1 (some n) = nodesOf k (l.take (i + 1)); rw [nodesOf_take yO hy, yS]
           have cH : updI (TrI k l i).old y.1 true = (TrI k l (i + 1)).old := by
            funext x
            show (if x = y.1 then true else decide (x ∈ (l.take i).map (·.1))) = decide (x ∈ (l.take (i + 1)).map (·.1)); rw [map_take_succ hy]; by_cases e : x = y.1
            ·rw [if_pos e]; simp [e]
            ·rw [if_neg e]; simp [e]
           have Hr : ({ (TrI k l i).setN y.1 n with old := updI (TrI k l i).old y.1 true } : Tr) = TrI k l (i + 1) := by
            show (⟨k, 0, 0, updI (TrI k l i).nodes y.1 (some n), [], fun _ => false, updI (TrI k l i).old y.1 true⟩ : Tr) = _; rw [CO, cH]; rfl
           rw [Hr] at EF; have yU : Ext w w12 := ((cA.trans mf).trans_new fx (fun j hj => by rw [hj]; exact vt _ O1.fp.2.1)).trans_new gr (fun j hj => by rw [hj]; exact vt _ O1.fp.2.2.2.1); have EG := fx.size; have CP := gr.size; refine (ih (i + 1) w12 ⟨by omega, yU, by omega, fun x hx => ?_, _, F2, EF, fun j hj => ?_⟩ (by omega)).qb
           ·rcases (mem_take_succ hy).1 hx with hx | rfl
            ·exact bF x hx
            ·exact ⟨n, yS⟩
           ·rcases ce j hj with e | e
            ·exact vt j e
            ·have := yT j e; have := cA.size; omega
        ·have bT := bq.blk f3; refine zqm rfl (qV (yex rfl rfl) (qV (yex rfl rfl) (rValP rfl rfl (pal (cs := [_, _, _, _]) ti84 rfl) ?_))); rintro _ w7 ⟨b15, rfl, pL, aR, dy⟩; refine rEffP rfl (zstA ti84 rfl rfl rfl rfl dy (by simp)) ?_; rintro w8 ⟨da, aU⟩; have mf : Ext wi w8 := ((uv.trans bq).trans aR).trans_new aU (fun j hj => by have := aR.size; omega); refine zqa rfl (rEnd (run_seq (qN rfl (zqm rfl (qV (yne rfl rfl) (rVal_if (fun yR => ?_) (fun yR => ?_)))))))
         ·refine zqm rfl (qS (qS (qS (qS (qS (qV (ypT rfl rfl) (rEnd (run_true rfl (qN rfl (zqa rfl (zqa rfl (rEnd (run_ret Tryz.func17 rfl ?_))))))))))))); refine ⟨_, rfl, cA.trans mf, .inr (.inl ⟨jG, si ?_, rfl⟩)⟩; unfold ndOf; split
          ·exact oP
          ·rfl
         ·exact absurd (by decide) yR
       ·have : i = l.length := by omega
        subst this; have Hs : TrI k l l.length = TrL k 0 l 0 := by unfold TrI TrL; rw [List.take_length]
        rw [Hs] at af; rw [List.take_length] at bF; obtain ⟨mN1, mC1, mO1, gv1, kn1, kc1, ko1, O1⟩ := af.opn; have e8 := O1.blk; refine run_exit rfl (qN rfl (zqm rfl (zqm rfl (qV (ynk rfl) (qV (yfa fl74_1 rfl) (rEffP rfl (zst ti3 rfl rfl rfl e8 (by simp [trCs])) ?_)))))); rintro w4 ⟨bs, ax⟩; have h4 : TreeA w4 p (TrL k root l 0) nbi Fi := O1.setB w4 root 0 (by simpa [trCs, TrL] using bs) ax; have CQ : ∀ x n, (TrL k root l 0).nodes x = some n → NdOk (TrL k root l 0).size n := fun x n hn => (nodesOf_ok hn).1.ok
        have CR : ∀ x, (TrL k root l 0).nodes x ≠ none ↔ x ∈ l.map (·.1) := fun x => by
         constructor
         ·intro hx; obtain ⟨n, hn⟩ := Option.ne_none_iff_exists'.1 hx; exact (nodesOf_ok hn).2
         ·intro hx; obtain ⟨y, hy, rfl⟩ := List.mem_map.1 hx; obtain ⟨n, hn⟩ := bF y hy; show nodesOf k l y.1 ≠ none; rw [nodesOf_mem yO hy, hn]; simp
        refine rEnd (run_seq (qN rfl (zqm rfl (zqc [.tmp 102] cf52 rfl (whole_ret h4 CQ yO CR (by simpa using hl) rfl) ?_)))); rintro v5 w5 ⟨aY, Ht⟩; have aF : Ext w w5 := (cA.trans_new ax (fun j hj => by rw [hj]; exact vt _ O1.fp.1)).trans_new aY (fun j hj => vt j hj)
        have CS : (∃ H ns es, LoadOk k root l H ns es ∧ v5 = .bool true ∧ TreeA w5 p (TrL k root l es.length) nbi Fi) ∨ ((∀ H ns es, ¬ LoadOk k root l H ns es) ∧ v5 = .bool false) := by
         rcases Ht with ⟨e0, e1, e2⟩ | ⟨e0, ⟨H, ns, es, s, e1, e2, e3⟩ | ⟨e1, e2⟩⟩
         ·by_cases Ar : l = []
          ·exact .inl ⟨0, [], [], .inl ⟨e0, Ar, rfl, rfl, rfl⟩, by rw [e1, Ar]; rfl, e2⟩
          ·refine .inr ⟨fun H ns es hh => ?_, by rw [e1, decide_eq_false (by simpa using Ar)]⟩; rcases hh with ⟨-, e, -⟩ | ⟨e, -⟩
           ·exact Ar e
           ·exact e e0
         ·exact .inl ⟨H, ns, es, .inr ⟨e0, s, by simpa using e1⟩, e2, e3⟩
         ·refine .inr ⟨fun H ns es hh => ?_, e1⟩; rcases hh with ⟨e, -⟩ | ⟨-, s, e⟩
          ·exact e0 e
          ·exact e2 H ns es s (by simpa using e)
        rcases CS with ⟨H, ns, es, hL, rfl, h5⟩ | ⟨cw, rfl⟩
        ·refine qV ((by first | exact yntd rfl | exact ynt rfl)) ?_; refine rEnd (run_false rfl (run_skip (qN rfl (zqm rfl (zqa rfl (zqa rfl (rEnd (run_ret Tryz.func17 rfl ?_)))))))); exact ⟨_, rfl, aF, .inr (.inr ⟨jG, H, ns, es, p, nbi, Fi, hL, rfl, h5, vt⟩)⟩
        ·refine qV ((by first | exact yntd rfl | exact ynt rfl)) ?_; refine rEnd (run_true rfl (qN rfl (zqa rfl (zqa rfl (rEnd (run_ret Tryz.func17 rfl ?_)))))); exact ⟨_, rfl, aF, .inr (.inl ⟨jG, cw, rfl⟩)⟩
     case CT =>
      refine zqu (α := Nat) (0) (fun i => [(0, I (k : Int)), (1, I root), (2, .slice la l.length lc), (8, ptr p 0), (10, .map (some ms)), (33, .slice la l.length lc), (34, I (l.length : Int)), (35, I (i : Int))]) (fun i w' => i ≤ l.length ∧ Ext w1 w' ∧ ((l.take i).map (·.1)).Nodup ∧ (∀ y ∈ l.take i, 1 ≤ y.1 ∧ y.1 ≤ 2147483647) ∧ ∃ kv, MapB KZ w' ms kv ∧ ∀ x, getL kv x = if x ∈ (l.take i).map (·.1) then some (I 1) else none) (fun i => l.length - i) ?hI ?hround
      case hI => exact ⟨Nat.zero_le _, ad, by simp, by simp, [], MapB.new rC, fun x => by simp [getL]⟩
      case hround =>
       rintro i wi ⟨hi, cA, bj, bF, kv, vn, fS⟩ ih; have vp := cA.size
       try dsimp only
       refine qN rfl (qV (ylt rfl rfl) (rEnd (run_seq (run_if rfl (fun kT => ?_) (fun kT => ?_)))))
       ·have cF : i < l.length := by omega
        obtain ⟨lb, lo, y, rfl, hy⟩ := rd_pgs hR rfl cF; have sH := List.mem_of_getElem? hy; refine run_skip (run_seq (run_block (qN rfl (qV (yis U52 ti55 rfl rfl (by omega)) (qV (yldA U55 rfl ti55 rfl (rd_pg ((hR.ext aa).ext cA) cF hy) rfl) (rValP rfl rfl (pal (cs := [_, _]) ti55 rfl) ?_)))))); rintro _ w4 ⟨b12, rfl, Hu, aX, bs⟩; refine rEffP rfl (zstA ti55 rfl rfl rfl rfl bs (by simp)) ?_; rintro w5 ⟨bu, aY⟩; have f3 : Blk w5 b12 [I y.1, S y.2] 55 := bu; have bZ : Ext w1 w5 := (cA.trans aX).trans_new aY (fun j hj => by omega); have yV := (vn.ext aX).kp aY (by have := vn.lt; omega); have jT := aX.size; have px := f3.lt; have Hv := vn.lt
        obtain ⟨q, hq, jW⟩ : ∃ q : Nat, (getL kv y.1).getD (I 0) = I (q : Int) ∧ ((q = 0 ∧ y.1 ∉ (l.take i).map (·.1)) ∨ (q = 1 ∧ y.1 ∈ (l.take i).map (·.1))) := by
         rw [fS y.1]; by_cases hm : y.1 ∈ (l.take i).map (·.1)
         ·exact ⟨1, by rw [if_pos hm]; rfl, .inr ⟨rfl, hm⟩⟩
         ·exact ⟨0, by rw [if_neg hm]; rfl, .inl ⟨rfl, hm⟩⟩
        refine qM rfl (zqm rfl (qV (yfa fl55_0 rfl) (qV (yld U3 rfl rfl f3 rfl) (qV (ylk (k := y.1) (K := KZ) U72 (ky_int U3) ti3 rfl rfl yV.l) ?_)))); rw [hq]; refine zqd rfl rfl (rEffP rfl (zmuB U72 (ky_int U3) rfl rfl rfl yV (k := y.1)) ?_); rintro w6 ⟨gm, bP⟩; have ag : Ext w1 w6 := bZ.trans_new bP (fun j hj => by omega); have bT := bP.blk f3 (by omega); have jw : (getL (putL kv y.1 (I ((q : Int) + 1))) y.1).getD (I 0) = I ((q : Int) + 1) := by rw [getL_put, if_pos rfl]; rfl
        have cu : (¬ (1 ≤ y.1 ∧ y.1 ≤ 2147483647) ∨ y.1 ∈ (l.take i).map (·.1)) → ¬ numsOk (k : Int) root l := fun hb bi => by
         obtain ⟨-, -, g1, g2⟩ := bi; rcases hb with hb | hb
         ·exact hb (g2 y sH)
         ·have := mem_take_succ (x := y) hy; have oX : ((l.take (i + 1)).map (·.1)).Nodup := g1.sublist ((List.take_sublist _ _).map _); obtain ⟨uc, e2⟩ := List.getElem?_eq_some_iff.1 hy; rw [List.take_succ_eq_append_getElem uc, e2, List.map_append] at oX; exact (List.nodup_append.1 oX).2.2 _ hb y.1 (by simp) rfl
        refine qM rfl (qV (yfa fl55_0 rfl) (qV (yld U3 rfl rfl bT rfl) (qV (ylt rfl rfl) (rVal_if (fun cJ => ?_) (fun cJ => ?_)))))
        ·refine zqm rfl (qS (qS (qS (qV (ypT rfl rfl) (zqm rfl (qS (qS (qS (qS (qS (qV (ypT rfl rfl) (rEnd (run_true rfl ?_))))))))))))); refine qN rfl (zqa rfl (zqa rfl (rEnd (run_ret Tryz.func17 rfl ?_)))); exact ⟨_, rfl, aa.trans ag, .inl ⟨cu (.inl (by omega)), rfl⟩⟩
        ·refine zqm rfl (qV (yfa fl55_0 rfl) (qV (yld U3 rfl rfl bT rfl) (qV (ygt rfl rfl) (rVal_if (fun dE => ?_) (fun dE => ?_)))))
         ·refine qV (ypF rfl rfl) (zqm rfl (qS (qS (qS (qS (qS (qV (ypT rfl rfl) (rEnd (run_true rfl (qN rfl (zqa rfl (zqa rfl (rEnd ?_))))))))))))); refine run_ret Tryz.func17 rfl ?_; exact ⟨_, rfl, aa.trans ag, .inl ⟨cu (.inl (by omega)), rfl⟩⟩
         ·refine qV (ypF rfl rfl) (zqm rfl (zqm rfl (qV (yfa fl55_0 rfl) (qV (yld U3 rfl rfl bT rfl) (qV (ylk (k := y.1) (K := KZ) U72 (ky_int U3) ti3 rfl rfl gm.l) ?_))))); rw [jw]; refine qV (ygt rfl rfl) (rVal_if (fun pi => ?_) (fun pi => ?_))
          ·refine qV (ypF rfl rfl) (rEnd (run_true rfl (qN rfl (zqa rfl (zqa rfl (rEnd (run_ret Tryz.func17 rfl ?_))))))); exact ⟨_, rfl, aa.trans ag, .inl ⟨cu (.inr (jW.elim (fun e => by have := e.1; omega) (fun e => e.2))), rfl⟩⟩
          ·obtain ⟨rD, rfl⟩ : y.1 ∉ (l.take i).map (·.1) ∧ q = 0 := jW.elim (fun e => ⟨e.2, e.1⟩) (fun e => by have := e.1; omega); refine qV (ypF rfl rfl) (rEnd (run_false rfl (run_skip (run_inBlock (run_reg rfl (zqd rfl rfl (zqm rfl (rEnd ?_)))))))); have sj : (l.take (i + 1)).map (·.1) = (l.take i).map (·.1) ++ [y.1] := map_take_succ hy; refine (ih (i + 1) w6 ⟨by omega, ag, ?_, fun x hx => ?_, _, gm, fun x => ?_⟩ (by omega)).qb
           ·rw [sj]; exact List.nodup_append.2 ⟨bj, by simp, fun a ha b hb e => by simp at hb; subst hb; subst e; exact rD ha⟩
           ·rcases (mem_take_succ hy).1 hx with hx | rfl
            ·exact bF x hx
            ·omega
           ·rw [getL_put, fS x, sj]; simp only [List.mem_append, List.mem_singleton]; by_cases qt : x = y.1
            ·rw [if_pos qt, if_pos (.inr qt)]; rfl
            ·rw [if_neg qt]; by_cases mu : x ∈ (l.take i).map (·.1)
             ·rw [if_pos mu, if_pos (.inl mu)]
             ·rw [if_neg mu, if_neg (fun hh => hh.elim mu qt)]
       ·have : i = l.length := by omega
        subst this; rw [List.take_length] at bj bF; refine run_exit rfl ?_; exact (A3 _ _ ⟨rfl, cA, hz, ⟨by omega, by omega⟩, bj, bF⟩).qb
 ·refine zqm rfl (qV (yex rfl rfl) (qV (yex rfl rfl) (zqa rfl (zqa rfl (rEnd (run_seq (qN rfl (zqm rfl (qV (yne rfl rfl) (zqm rfl (rVal_if (fun h0 => ?_) (fun h0 => ?_))))))))))))
  ·refine qS (qS (qV (ypT rfl rfl) (zqm rfl (qS (qS (qV (ypT rfl rfl) (rEnd (run_true rfl (qN rfl (zqa rfl (zqa rfl (rEnd (run_ret Tryz.func17 rfl ?_))))))))))))); exact ⟨_, rfl, aa, .inl ⟨fun h => hz h.1, rfl⟩⟩
  ·exact absurd (by decide) h0
end
section
variable {P : Program} {e : Env} {d : Option Nat} {ty t t' kt el : TypeId} {pos : String} {aft : Array Edge} {g : Option (Nat × Bool)} {x y u u2 : Operand} {w : World}
theorem yslT {z v : Value} {size bytes n cap j : Nat} {a : Option Addr} {k : IntKind} {zb : Int} [Av : NatC zb j] (ht : P.underlying t = some (.slice el)) (hs : TI P el z size bytes) (hx : look e x = some (.slice a n cap))
  (hu : look e u = some (.int k zb)) (h : j ≤ cap) (hv : Value.slice (if cap = 0 then a else a.map (·.add (0 * size))) j cap = v) :
  Y P e ⟨d, .slice t x none (some u) none, ty, pos, aft, g⟩ v w w := fun ρ hρ => by
 obtain ⟨rfl⟩ := Av
 have dJ := hs.size (w := w)
 have h1 : ∀ w, (Instr.sliceBound (.int k (j : Int)) cap .sliceAcap).run P w = .ok j w := fun w => by rw [run_sliceBound _ _ _ _ _ (by omega) (by omega)]; simp
 subst hv
 simp [execOp, hρ _ _ hx, hρ _ _ hu, Instr.sliceAt, run_underlying ht, Instr.slice, Instr.sliceBounds, h1, dJ]
theorem yslF {z v : Value} {size bytes n cap i : Nat} {a : Option Addr} {k : IntKind} {za : Int} [hza : NatC za i] (ht : P.underlying t = some (.slice el)) (hs : TI P el z size bytes) (hx : look e x = some (.slice a n cap))
  (hy : look e y = some (.int k za)) (h : i ≤ n) (hc : n ≤ cap) (hv : Value.slice (if cap = i then a else a.map (·.add (i * size))) (n - i) (cap - i) = v) :
  Y P e ⟨d, .slice t x (some y) none none, ty, pos, aft, g⟩ v w w := hv ▸ yslE ht hs hx hy h hc
end
theorem Rd.cap {w : World} {a : Option Addr} {n cap size : Nat} {cs : List Value} (h : Rd w (.slice a n cap) size n cs) (h0 : n = 0 ∨ n ≤ cap) : n ≤ cap := by omega
theorem rd_pre {w : World} {a : Option Addr} {n cap size j : Nat} {cs : List Value} (h : Rd w (.slice a n cap) size n cs) (hj : j ≤ n) : ∃ v, Value.slice (if cap = 0 then a else a.map (·.add (0 * size))) j cap = v ∧ Rd w v size j (cs.take (j * size)) := by
 refine ⟨_, rfl, by rw [List.length_take, h.1]; exact Nat.min_eq_left (Nat.mul_le_mul_right _ hj), ?_⟩
 rcases h.2 with ⟨c, hv, h0⟩ | ⟨b, off, cap2, hv, hc⟩
 ·have : j = 0 := by omega
  subst this; exact .inl ⟨⟨_, _⟩, rfl, rfl⟩
 ·cases hv; refine .inr ⟨b, off, cap, by split <;> simp [Addr.add], fun j u hj => ?_⟩; rw [List.getElem?_take] at hj; split at hj
  ·exact hc _ _ hj
  ·cases hj
theorem rd_suf {w : World} {a : Option Addr} {n cap size i : Nat} {cs : List Value} (h : Rd w (.slice a n cap) size n cs) (hi : i ≤ n) (de : n ≤ cap) : ∃ v, Value.slice (if cap = i then a else a.map (·.add (i * size))) (n - i) (cap - i) = v ∧ Rd w v size (n - i) (cs.drop (i * size)) := by
 refine ⟨_, rfl, by rw [List.length_drop, h.1, Nat.sub_mul], ?_⟩
 rcases Nat.lt_or_ge i n with cx | cx
 ·rcases h.2 with ⟨c, hv, h0⟩ | ⟨b, off, cap2, hv, hc⟩
  ·omega
  ·cases hv; refine .inr ⟨b, off + i * size, cap - i, by rw [if_neg (by omega)]; simp [Addr.add], fun j u hj => ?_⟩; rw [List.getElem?_drop] at hj; rw [Nat.add_assoc]; exact hc _ _ hj
 ·have : n - i = 0 := by omega
  rw [this]; exact .inl ⟨⟨_, _⟩, rfl, rfl⟩
theorem esC_len (es : Es) : (esC es).length = es.length * 2 := by induction es with
 | nil => rfl
 | cons x r ih => rw [show esC (x :: r) = [S x.1, S x.2] ++ esC r from rfl, List.length_append, ih]; simp; omega
theorem esC_take (es : Es) (i : Nat) : (esC es).take (i * 2) = esC (es.take i) := by
 rcases Nat.lt_or_ge es.length i with h | h
 ·rw [List.take_of_length_le (by rw [esC_len]; omega), List.take_of_length_le (by omega)]
 ·have : (esC (es.take i)).length = i * 2 := by rw [esC_len, List.length_take, Nat.min_eq_left h]
  conv => lhs; rw [← List.take_append_drop i es, esC_app, ← this, List.take_left']
theorem esC_drop (es : Es) (i : Nat) : (esC es).drop (i * 2) = esC (es.drop i) := by
 rcases Nat.lt_or_ge es.length i with h | h
 ·rw [List.drop_of_length_le (by rw [esC_len]; omega), List.drop_of_length_le (by omega)]; rfl
 ·have : (esC (es.take i)).length = i * 2 := by rw [esC_len, List.length_take, Nat.min_eq_left h]
  conv => lhs; rw [← List.take_append_drop i es, esC_app, ← this, List.drop_left']
theorem rd_en0 {w : World} {b off n cap : Nat} {l : Es} {i : Nat} {y : Bytes × Bytes} (h : Rd w (.slice (some ⟨b, off, none⟩) n cap) 2 n (esC l)) (hi : i < n) (hy : l[i]? = some y) : w.cell? ⟨b, off + i * 2, none⟩ = some (S y.1) := by
 rcases h.2 with ⟨c, -, h0⟩ | ⟨b', off', cap', hv, hc⟩
 ·omega
 ·cases hv; obtain ⟨f1, f2⟩ := flat2 (fun x : Bytes × Bytes => S x.1) (fun x : Bytes × Bytes => S x.2) l i; rw [hy] at f1; have := hc (2 * i) (S y.1) f1; rw [show off + i * 2 = off + 2 * i by omega]; exact this
theorem rd_en1 {w : World} {b off n cap : Nat} {l : Es} {i : Nat} {y : Bytes × Bytes} (h : Rd w (.slice (some ⟨b, off, none⟩) n cap) 2 n (esC l)) (hi : i < n) (hy : l[i]? = some y) : w.cell? ⟨b, off + i * 2 + 1, none⟩ = some (S y.2) := by
 rcases h.2 with ⟨c, -, h0⟩ | ⟨b', off', cap', hv, hc⟩
 ·omega
 ·cases hv; obtain ⟨f1, f2⟩ := flat2 (fun x : Bytes × Bytes => S x.1) (fun x : Bytes × Bytes => S x.2) l i; rw [hy] at f2; have := hc (2 * i + 1) (S y.2) f2; rw [show off + i * 2 + 1 = off + (2 * i + 1) by omega]; exact this
theorem rd_ens {w : World} {a : Option Addr} {cap n : Nat} {l : Es} {i : Nat} (h : Rd w (.slice a n cap) 2 n (esC l)) (hn : n = l.length) (hi : i < n) : ∃ b off y, a = some ⟨b, off, none⟩ ∧ l[i]? = some y := by
 rcases h.2 with ⟨c, -, h0⟩ | ⟨b', off', cap', hv, hc⟩
 ·omega
 ·cases hv; exact ⟨b', off', _, rfl, List.getElem?_eq_getElem (by omega)⟩
theorem pos_at {l : List Bytes} {t : Bytes} {x : Bytes} (h : l[pos l t]? = some x) : lt x t = false := by
 unfold pos at h
 induction l with
 | nil => simp at h
 | cons a r ih =>
   simp only [List.takeWhile_cons] at h
   cases ha : lt a t with
   | true =>
     rw [ha] at h
     exact ih (by simpa using h)
   | false =>
     rw [ha] at h; have : a = x := by simpa using h
     rw [← this]; exact ha
theorem posE_step {es : Es} {k : Bytes} {i : Nat} {y : Bytes × Bytes} (hi : i ≤ posE es k) (hy : es[i]? = some y) : (lt y.1 k = true → i + 1 ≤ posE es k) ∧ (lt y.1 k = false → i = posE es k) := by
 have hm : (es.map (·.1))[i]? = some y.1 := by rw [List.getElem?_map, hy]; rfl
 constructor
 ·intro h; rcases Nat.lt_or_eq_of_le hi with h' | h'
  ·exact h'
  ·rw [h'] at hm; have := pos_at hm; rw [this] at h; cases h
 ·intro h; rcases Nat.lt_or_eq_of_le hi with h' | h'
  ·have := pos_lt (l := es.map (·.1)) (t := k) y.1 (by
    have : ((es.map (·.1)).take (pos (es.map (·.1)) k))[i]? = some y.1 := by rw [List.getElem?_take, if_pos (show i < pos (es.map (·.1)) k from h')]; exact hm
    exact List.mem_of_getElem? this)
   rw [h] at this; cases this
  ·exact h'
theorem hasE_at {es : Es} {k : Bytes} {y : Bytes × Bytes} (hy : es[posE es k]? = some y) : hasE es k ↔ y.1 = k := by
 unfold hasE
 rw [List.getElem?_map, hy]
 simp
theorem hasE_no {es : Es} {k : Bytes} (h : posE es k = es.length) : ¬ hasE es k := by
 unfold hasE
 rw [h, List.getElem?_eq_none (by simp)]
 simp
structure MpM (w : World) (q : Nat) (mv : Value) (es : Es) : Prop where
 blk : Blk w q [mv] 32
 sl : Sl w mv 41 2 es.length (esC es)
 ne : mv.ownBlock ≠ some q
 le : es.length ≤ 1000000
theorem MpM.ext {w w' : World} {q : Nat} {mv : Value} {es : Es} (h : MpM w q mv es) (k : Ext w w') : MpM w' q mv es := ⟨k.blk h.blk, h.sl.ext k, h.ne, h.le⟩
theorem MpM.kp {w w' : World} {q : Nat} {mv : Value} {es : Es} {F : Nat → Prop} (h : MpM w q mv es) (k : Kp F w w') (h1 : ¬ F q) (h2 : ∀ g, mv.ownBlock = some g → ¬ F g) : MpM w' q mv es := ⟨k.blk h.blk h1, h.sl.kp k h2, h.ne, h.le⟩
section
variable {w : World} {q : Nat} {mv : Value} {es : Es}
theorem at_ret (h : MpM w q mv es) (k : Bytes) : Ret Tryz.prog 41 [ptr q 0, S k] w fun v w' => v = I ((posE es k : Nat) : Int) ∧ w' = w := by
 obtain ⟨a, c, rfl, -⟩ := h.sl.rd.shape
 have hB := h.blk
 have hR := h.sl.rd
 have dl := posE_le es k
 have dr := h.le
 refine ret_of_run (e := [(0, _), (1, _)]) Tryz.func41 rfl Tryz.ntmps41 rfl rfl (qN rfl (zqa rfl (qM rfl (zqa rfl (rEnd (run_seq (run_block (zqu (α := Nat) (0) (fun i => [(0, ptr q 0), (1, S k), (5, I (i : Int))]) (fun i w' => w' = w ∧ i ≤ posE es k) (fun i => es.length - i) ?hI ?hround))))))))
 case hI => exact ⟨rfl, Nat.zero_le _⟩
 case hround =>
  rintro i w1 ⟨rfl, hi⟩ ih
  try dsimp only
  refine run_seq (qN rfl (zqm rfl (zqm rfl (qV (ynk rfl) (qV (yfa fl32_0 rfl) (qV (yld U30 rfl rfl hB rfl) (qV (yln U30 rfl) (qV (ylt rfl rfl) (zqm rfl (rVal_if (fun h1 => ?_) (fun h1 => ?_)))))))))))
  ·have af : i < es.length := by omega
   obtain ⟨lb, lo, y, rfl, hy⟩ := rd_ens hR rfl af; have mg := posE_step hi hy; refine zqm rfl (qV (ynk rfl) (qV (yfa fl32_0 rfl) (qV (yld U30 rfl rfl hB rfl) (zqm rfl (qV (yis U30 ti41 rfl rfl (by omega)) (qV (yfa fl41_0 rfl) (qV (yldc U9 rfl rfl (rd_en0 hR af hy)) (zqm rfl (qV (yltS rfl rfl) (qV (ypT rfl rfl) (rEnd (run_cond rfl (fun h2 => ?_) (fun h2 => ?_)))))))))))))
   ·refine run_skip (run_block (run_reg rfl (zqm rfl (zqd rfl rfl (zqa rfl (rEnd (run_inBlock ?_))))))); exact (ih (i + 1) _ ⟨rfl, mg.1 h2⟩ (by omega)).qb
   ·refine run_exit rfl (qN rfl (zqm rfl (zqa rfl (rEnd (run_ret Tryz.func41 rfl ?_))))); exact ⟨_, rfl, by rw [← mg.2 h2]; rfl, rfl⟩
  ·refine qS (qS (qS (qS (qS (qS (qS (qS (qS (qS (qV (ypF rfl rfl) (rEnd (run_false rfl (run_exit rfl ?_))))))))))))); refine qN rfl (zqm rfl (zqa rfl (rEnd (run_ret Tryz.func41 rfl ?_)))); have : i = posE es k := by omega
   exact ⟨_, rfl, by rw [← this]; rfl, rfl⟩
theorem getM_ret (h : MpM w q mv es) (k : Bytes) : Ret Tryz.prog 10 [ptr q 0, S k] w fun v w' => v = .tuple #[S (getR es k).1, I (getR es k).2] ∧ w' = w := by
 have ux := at_ret h k
 obtain ⟨a, c, rfl, -⟩ := h.sl.rd.shape
 have hB := h.blk
 have hR := h.sl.rd
 have dl := posE_le es k
 have dr := h.le
 refine ret_of_run (e := [(0, _), (1, _)]) Tryz.func10 rfl Tryz.ntmps10 rfl rfl (qN rfl (zqa rfl (zqa rfl (rEnd (run_seq (qN rfl (zqm rfl (zqc [.tmp 7] cf40 rfl (rkey_ret k _) ?_))))))))
 rintro _ w1 ⟨rfl, rfl⟩
 refine qV ((by first | exact yntd rfl | exact ynt rfl)) ?_
 refine rEnd (run_cond rfl (fun hk => ?_) (fun hk => ?_))
 ·refine qN rfl (zqa rfl (zqa rfl (rEnd (run_ret Tryz.func10 rfl ?_)))); have aS : ¬ keyOk k := of_decide_eq_true hk; refine ⟨_, rfl, ?_, rfl⟩; unfold getR; rw [if_neg aS]; rfl
 ·have aS : keyOk k := Decidable.not_not.1 (of_decide_eq_false hk); refine run_skip (qN rfl (zqm rfl (zqm rfl (zqc [.tmp 10, .tmp 11] cf41 rfl (ux) ?_)))); rintro _ w1 ⟨rfl, rfl⟩; refine zqa rfl (rEnd (run_seq (qN rfl (zqm rfl (zqm rfl (qV (ynk rfl) (qV (yfa fl32_0 rfl) (qV (yld U30 rfl rfl hB rfl) (qV (yln U30 rfl) (qV (yeq rfl rfl) (zqm rfl (rVal_if (fun h1 => ?_) (fun h1 => ?_)))))))))))))
  ·refine qS (qS (qS (qS (qS (qS (qS (qS (qS (qS (qV (ypT rfl rfl) (rEnd (Run.qb (e := [(0, _), (4, _), (5, _), (6, _), (31, _)]) ?_)))))))))))); refine run_true rfl (qN rfl (zqa rfl (zqa rfl (rEnd (run_ret Tryz.func10 rfl (⟨_, rfl, ?_, rfl⟩)))))); unfold getR; rw [if_pos aS, getE_none (hasE_no (by omega))]; rfl
  ·have af : posE es k < es.length := by omega
   obtain ⟨lb, lo, y, rfl, hy⟩ := rd_ens hR rfl af; have mg := hasE_at hy; refine zqm rfl (qV (ynk rfl) (qV (yfa fl32_0 rfl) (qV (yld U30 rfl rfl hB rfl) (zqm rfl (qV (yis U30 ti41 rfl rfl (by omega)) (qV (yfa fl41_0 rfl) (qV (yldc U9 rfl rfl (rd_en0 hR af hy)) (zqm rfl (qV (yneS rfl rfl) (qV (ypF rfl rfl) (rEnd (Run.qb (e := [(0, _), (4, _), (5, _), (6, _), (31, _)]) ?_)))))))))))); refine run_cond rfl (fun h2 => ?_) (fun h2 => ?_)
   ·refine qN rfl (zqa rfl (zqa rfl (rEnd (run_ret Tryz.func10 rfl ?_)))); have ll : ¬ y.1 = k := by simpa using h2
    refine ⟨_, rfl, ?_, rfl⟩; unfold getR; rw [if_pos aS, getE_none (fun hh => ll (mg.1 hh))]; rfl
   ·have ll : y.1 = k := by simpa using h2
    refine run_skip (qN rfl (zqm rfl (qV (ynk rfl) (qV (yfa fl32_0 rfl) (qV (yld U30 rfl rfl hB rfl) (zqm rfl (qV (yis U30 ti41 rfl rfl (by omega)) (qV (yfa fl41_1 rfl) (qV (yldc U9 rfl rfl (rd_en1 hR af hy)) (zqa rfl (zqa rfl (rEnd (run_ret Tryz.func10 rfl ?_))))))))))))); refine ⟨_, rfl, ?_, rfl⟩; unfold getR; rw [if_pos aS, getE_some (mg.2 ll) (v := y.2) (by rw [List.getElem?_map, hy]; rfl)]; rfl
theorem may8_ret (z : Nat) (hz : sizeOk (z : Int)) (k v : Bytes) (hk : k.length ≤ 140737488355328) (hv : v.length ≤ 140737488355328) (w : World) : Ret Tryz.prog 36 [I (z : Int), S k, S v] w fun u w' => u = .bool (decide (may z k v)) ∧ w' = w := by
 refine ret_of_run (e := [(0, _), (1, _), (2, _)]) Tryz.func36 rfl Tryz.ntmps36 rfl rfl (qN rfl (zqa rfl (qM rfl (zqm rfl (zqc [.tmp 10] cf65 rfl (rmost_ok hz _) ?_)))))
 rintro _ w1 ⟨rfl, rfl⟩
 refine zqm rfl (qV (yex rfl rfl) (qV (yex rfl rfl) (zqa rfl (zqa rfl (qM rfl (zqm rfl (qV (yeq rfl rfl) (zqm rfl (rVal_if (fun h0 => ?_) (fun h0 => ?_))))))))))
 ·refine zqm rfl (zqc [.tmp 17] cf40 rfl (rkey_ret k _) ?_); rintro _ w1 ⟨rfl, rfl⟩; refine qV (ypT rfl rfl) (zqm rfl ?_); by_cases fj : keyOk k
  ·have hd : decide (1 ≤ k.length ∧ k.length ≤ 64) = true := decide_eq_true fj; rw [hd]; refine zqm rfl (qV (ylnS U9 rfl) (zqd rfl rfl (zqm rfl (qV (ylnS U9 rfl) (zqd rfl rfl (zqm rfl (qV (yle rfl rfl) (qV (ypT rfl rfl) (zqa rfl (rEnd (Run.qb (e := [(6, _)]) ?_))))))))))); refine run_ret Tryz.func36 rfl (⟨_, rfl, ?_, rfl⟩); show Value.bool _ = _
   congr 1
   rw [decide_eq_decide]; unfold may; constructor
   ·intro h; exact ⟨fj, by omega⟩
   ·intro h; have := h.2; omega
  ·have hd : decide (1 ≤ k.length ∧ k.length ≤ 64) = false := decide_eq_false fj; rw [hd]; refine qS (qS (qS (qS (qS (qS (qS (qS (qV (ypF rfl rfl) (zqa rfl (rEnd (Run.qb (e := [(6, _)]) ?_))))))))))); refine run_ret Tryz.func36 rfl (⟨_, rfl, ?_, rfl⟩); rw [decide_eq_false (fun h => fj h.1)]; rfl
 ·exact absurd rfl h0
end
theorem rd_pg0 {w : World} {b off n cap : Nat} {l : Pgs} {i : Nat} {y : Int × Bytes} (h : Rd w (.slice (some ⟨b, off, none⟩) n cap) 2 n (pgC l)) (hi : i < n) (hy : l[i]? = some y) : w.cell? ⟨b, off + i * 2, none⟩ = some (I y.1) := rd_pg h hi hy 0 _ rfl
theorem rd_pg1 {w : World} {b off n cap : Nat} {l : Pgs} {i : Nat} {y : Int × Bytes} (h : Rd w (.slice (some ⟨b, off, none⟩) n cap) 2 n (pgC l)) (hi : i < n) (hy : l[i]? = some y) : w.cell? ⟨b, off + i * 2 + 1, none⟩ = some (S y.2) := rd_pg h hi hy 1 _ rfl
section
variable {w : World}
end
def MpS (q : Nat) (w w' : World) (es' : Es) : Prop := ∃ mv', MpM w' q mv' es' ∧ Kp (fun k => k = q) w w' ∧ ∀ g, mv'.ownBlock = some g → w.heap.size ≤ g
theorem esC_one1 (es : Es) : ∀ c ∈ esC es, c.oneCell' = true := fun c hc => by
 obtain ⟨x, -, hx⟩ := List.mem_flatMap.1 hc
 simp at hx
 rcases hx with rfl | rfl <;> rfl
section
variable {w : World} {q : Nat} {mv : Value} {es : Es}
set_option maxHeartbeats 4000000 in
theorem putM_ret (h : MpM w q mv es) (hl : es.length + 1 ≤ 1000000) (k v : Bytes) : Ret Tryz.prog 39 [ptr q 0, S k, S v] w fun u w' => u = .tuple #[] ∧ MpS q w w' (insE es k v) := by
 have ux := at_ret h k
 have cF := insE_len es k v
 obtain ⟨a, c, rfl, -⟩ := h.sl.rd.shape
 have hB := h.blk
 have hR := h.sl.rd
 have dl := posE_le es k
 have Hw := hB.lt
 have dr := h.le
 have de : es.length ≤ c := by
  rcases h.sl.shape with ⟨e, e0⟩ | ⟨g, cap, e, e1⟩
  ·omega
  ·cases e; exact e1
 have eP : maxLen = 9223372036854775807 := rfl
 obtain ⟨pv, uy, mh⟩ := rd_pre hR dl
 rw [esC_take] at mh
 refine ret_of_run (e := [(0, _), (1, _), (2, _)]) Tryz.func39 rfl Tryz.ntmps39 rfl rfl (qN rfl (zqm rfl (zqm rfl (zqc [.tmp 7, .tmp 8] cf41 rfl (ux) ?_))))
 rintro _ w1 ⟨rfl, rfl⟩
 refine zqa rfl (rEnd (run_seq (run_seq (run_cut (fun e' w' => ∃ f : Bool, e' = [(0, ptr q 0), (1, S k), (2, S v), (6, I ((posE es k : Nat) : Int)), (28, .bool f)] ∧ w' = w1 ∧ (f = true ↔ hasE es k)) ?uT (fun uT => ?CU)))))
 case uT =>
  rintro e' w1 ⟨f, rfl, rfl, hf⟩; have hg := Ext.drew0 w1; refine run_cond rfl (fun lq => ?_) (fun lq => ?_)
  ·have bc := hf.1 lq; have ah := hasE_lt bc; obtain ⟨sv, mo, kU⟩ := rd_suf (i := posE es k + 1) hR (by omega) de; rw [esC_drop] at kU; refine run_seq (run_drawL [24] (fun w' => Ext w1 w') (by kernel_rfl) rfl (qL [22, 23, 24] 0 rfl (fun _ h=>ymv rfl) hg (qL [3, 4, 5, 7, 8, 13, 21, 22, 23, 24] 2 rfl (fun _ h=>ymv rfl) hg (qL [4, 5, 7, 8, 13, 21, 22, 23, 24] 3 rfl (fun _ h=>ynk rfl) hg (qL [5, 7, 8, 13, 21, 22, 23, 24] 4 rfl (fun _ h=>yfa fl32_0 rfl) hg (qL [7, 8, 13, 21, 22, 23, 24] 5 rfl (fun _ h=>yld U30 rfl rfl (h.blk hB) rfl) hg (qL [7, 8, 13, 21, 22, 23, 24] 6 rfl (fun _ h=>ymv rfl) hg (qL [11, 12, 13, 21, 22, 23, 24] 9 rfl (fun _ h=>ymv rfl) hg (qL [11, 12, 13, 21, 22, 23, 24] 10 rfl (fun _ h=>ymv rfl) hg (qL [12, 13, 21, 22, 23, 24] 11 rfl (fun _ h=>ybd (parts := [(0, .tmp 38), (1, .tmp 39)]) (cs := [_, _]) ti41 rfl sp41 rfl rfl) hg (qL [15, 16, 17, 20, 21, 22, 23, 24] 14 rfl (fun _ h=>ymv rfl) hg (qL [16, 17, 20, 21, 22, 23, 24] 15 rfl (fun _ h=>ynk rfl) hg (qL [17, 20, 21, 22, 23, 24] 16 rfl (fun _ h=>yfa fl32_0 rfl) hg ?_))))))))))))); refine qL [20, 21, 22, 23, 24] 17 rfl (fun _ h=>yld U30 rfl rfl (h.blk hB) rfl) hg (qL [19, 20, 21, 22, 23, 24] 18 rfl (fun _ h=>ymv rfl) hg (qL [20, 21, 22, 23, 24] 19 rfl (fun _ h=>yad rfl rfl (by omega)) hg (qL [8, 13, 21, 22, 23, 24] 7 rfl (fun _ h=>yslT U30 ti41 rfl rfl (by omega) uy) hg (qL [21, 22, 23, 24] 20 rfl (fun _ h=>yslF U30 ti41 rfl rfl (by omega) de mo) hg (hTwoL (i := 1) (j := 12) (by kernel_rfl) ?_ ?_)))))
   ·refine nValPL (i := 1) rfl rfl rfl (pbs (parts := []) (cs := []) (zs := []) U30 ti41 rfl (by kernel_rfl) rfl rfl rfl (by decide)) ?_; rintro _ w2 ⟨b2, rfl, ⟨cz, ad, ay⟩, aV⟩; refine ⟨hg.trans ad, ?_⟩; have jV : w1.heap.size ≤ b2 := by have := hg.size; omega
    have fg := ay.lt; have hg := hg.trans ad
    try have bU := bU.ext ad
    refine hTwoL (i := 8) (j := 12) (by kernel_rfl) ?_ ?_
    ·refine nValPL (i := 8) rfl rfl rfl (pap U30 ti41 rfl (by decide) rfl rfl aV (mh.ext hg) (esC_one1 _) (by omega) (by omega)) ?_; rintro v3 w3 ⟨aJ, ak, du, -⟩; refine ⟨hg.trans_new ak (fun i hi => by have e : b2 = i := oinj hi; omega), ?_⟩
     have dU : ∀ g, v3.ownBlock = some g → w1.heap.size ≤ g := fun g aw => by
      have := hg.size; rcases du g aw with e | e
      ·have e : b2 = g := oinj e; omega
      ·omega
     try have bU := bU.kp ak (fun g aw e => by have e : b2 = g := oinj e; have e' : b5 = g := oinj aw; omega)
     have hg := hg.trans_new ak (fun i hi => by have e : b2 = i := oinj hi; omega); rw [List.nil_append, Nat.zero_add] at aJ; refine hOneL (i := 12) (by kernel_rfl) (nValPL (i := 12) rfl rfl rfl (pbs (parts := [(0, .tmp 40)]) (cs := [_, _]) (zs := [Value.string ⟨#[]⟩, Value.string ⟨#[]⟩]) U30 ti41 rfl (by kernel_rfl) rfl rfl rfl (by decide)) ?_); rintro _ w5 ⟨b5, rfl, ⟨pI, aF, bu⟩, bU⟩; refine ⟨hg.trans aF, ?_⟩; have hg := hg.trans aF; have jm := bu.lt
     try have aV := aV.ext aF
     try have aJ := aJ.ext aF
     refine hOneL (i := 13) (by kernel_rfl) (nValPL (i := 13) rfl rfl rfl (pap U30 ti41 rfl (by decide) rfl rfl aJ bU.rd (by intro c hc; simp at hc; rcases hc with rfl | rfl <;> rfl) (by omega) (by omega)) ?_); rintro v6 w6 ⟨ft, bP, mi, -⟩; refine ⟨hg.trans_new bP (fun i hi => dU i hi), ?_⟩
     have gt : ∀ g, v6.ownBlock = some g → w1.heap.size ≤ g := fun g aw => by
      have := hg.size; rcases mi g aw with e | e
      ·exact dU g e
      ·omega
     have hg := hg.trans_new bP (fun i hi => dU i hi); refine hOneL (i := 21) (by kernel_rfl) (nValPL (i := 21) rfl rfl rfl (pap U30 ti41 rfl (by decide) rfl rfl ft (kU.ext hg) (esC_one1 _) (by omega) (by omega)) ?_); rintro v7 w7 ⟨cP, aW, kV, -⟩; refine ⟨hg.trans_new aW (fun i hi => gt i hi), ?_⟩
     have eg : ∀ g, v7.ownBlock = some g → w1.heap.size ≤ g := fun g aw => by
      have := hg.size; rcases kV g aw with e | e
      ·exact gt g e
      ·omega
     have hg := hg.trans_new aW (fun i hi => gt i hi); refine qL [23, 24] 22 rfl (fun _ h=>ynk rfl) hg (qL [24] 23 rfl (fun _ h=>yfa fl32_0 rfl) hg (hLate [24] (by kernel_rfl) (by kernel_rfl) (qO 24 (nEffP (i := 24) rfl rfl (zst ti30 rfl rfl (oneV_sl cP) (hg.blk hB) (by simp)) ?_)))); rintro w8 ⟨da, aU⟩; refine ⟨trivial, ?_⟩; refine qE (Run.qb (e := [(0, _), (1, _), (2, _), (6, _)]) ?_); have fh : Kp (fun k => k = q) w1 w8 := hg.kp.trans aU
     have jZ : MpM w8 q v7 (insE es k v) := ⟨da, by
      have := cP.kp aU (fun g aw e => by have := eg g aw; omega); rw [show insE es k v = es.take (posE es k) ++ [(k, v)] ++ es.drop (posE es k + 1) by unfold insE; rw [if_pos bc]; simp]; rw [esC_app, esC_app, esC_one, List.length_append, List.length_append, List.length_take, List.length_drop, Nat.min_eq_left dl]
      exact this, fun e => by have := eg q e; omega, by rw [cF]; split <;> omega⟩
     refine run_ret Tryz.func39 rfl ?_; exact ⟨_, rfl, rfl, ⟨_, jZ, fh, eg⟩⟩
    ·refine nValPL (i := 12) rfl rfl rfl (pbs (parts := [(0, .tmp 40)]) (cs := [_, _]) (zs := [Value.string ⟨#[]⟩, Value.string ⟨#[]⟩]) U30 ti41 rfl (by kernel_rfl) rfl rfl rfl (by decide)) ?_; rintro _ w5 ⟨b5, rfl, ⟨pI, aF, bu⟩, bU⟩; refine ⟨hg.trans aF, ?_⟩; have hg := hg.trans aF; have jm := bu.lt
     try have aV := aV.ext aF
     try have aJ := aJ.ext aF
     refine hOneL (i := 8) (by kernel_rfl) (nValPL (i := 8) rfl rfl rfl (pap U30 ti41 rfl (by decide) rfl rfl aV (mh.ext hg) (esC_one1 _) (by omega) (by omega)) ?_); rintro v3 w3 ⟨aJ, ak, du, -⟩; refine ⟨hg.trans_new ak (fun i hi => by have e : b2 = i := oinj hi; omega), ?_⟩
     have dU : ∀ g, v3.ownBlock = some g → w1.heap.size ≤ g := fun g aw => by
      have := hg.size; rcases du g aw with e | e
      ·have e : b2 = g := oinj e; omega
      ·omega
     try have bU := bU.kp ak (fun g aw e => by have e : b2 = g := oinj e; have e' : b5 = g := oinj aw; omega)
     have hg := hg.trans_new ak (fun i hi => by have e : b2 = i := oinj hi; omega); rw [List.nil_append, Nat.zero_add] at aJ; refine hOneL (i := 13) (by kernel_rfl) (nValPL (i := 13) rfl rfl rfl (pap U30 ti41 rfl (by decide) rfl rfl aJ bU.rd (by intro c hc; simp at hc; rcases hc with rfl | rfl <;> rfl) (by omega) (by omega)) ?_); rintro v6 w6 ⟨ft, bP, mi, -⟩; refine ⟨hg.trans_new bP (fun i hi => dU i hi), ?_⟩
     have gt : ∀ g, v6.ownBlock = some g → w1.heap.size ≤ g := fun g aw => by
      have := hg.size; rcases mi g aw with e | e
      ·exact dU g e
      ·omega
     have hg := hg.trans_new bP (fun i hi => dU i hi); refine hOneL (i := 21) (by kernel_rfl) (nValPL (i := 21) rfl rfl rfl (pap U30 ti41 rfl (by decide) rfl rfl ft (kU.ext hg) (esC_one1 _) (by omega) (by omega)) ?_); rintro v7 w7 ⟨cP, aW, kV, -⟩; refine ⟨hg.trans_new aW (fun i hi => gt i hi), ?_⟩
     have eg : ∀ g, v7.ownBlock = some g → w1.heap.size ≤ g := fun g aw => by
      have := hg.size; rcases kV g aw with e | e
      ·exact gt g e
      ·omega
     have hg := hg.trans_new aW (fun i hi => gt i hi); refine qL [23, 24] 22 rfl (fun _ h=>ynk rfl) hg (qL [24] 23 rfl (fun _ h=>yfa fl32_0 rfl) hg (hLate [24] (by kernel_rfl) (by kernel_rfl) (qO 24 (nEffP (i := 24) rfl rfl (zst ti30 rfl rfl (oneV_sl cP) (hg.blk hB) (by simp)) ?_)))); rintro w8 ⟨da, aU⟩; refine ⟨trivial, ?_⟩; refine qE (Run.qb (e := [(0, _), (1, _), (2, _), (6, _)]) ?_); have fh : Kp (fun k => k = q) w1 w8 := hg.kp.trans aU
     have jZ : MpM w8 q v7 (insE es k v) := ⟨da, by
      have := cP.kp aU (fun g aw e => by have := eg g aw; omega); rw [show insE es k v = es.take (posE es k) ++ [(k, v)] ++ es.drop (posE es k + 1) by unfold insE; rw [if_pos bc]; simp]; rw [esC_app, esC_app, esC_one, List.length_append, List.length_append, List.length_take, List.length_drop, Nat.min_eq_left dl]
      exact this, fun e => by have := eg q e; omega, by rw [cF]; split <;> omega⟩
     refine run_ret Tryz.func39 rfl ?_; exact ⟨_, rfl, rfl, ⟨_, jZ, fh, eg⟩⟩
   ·refine nValPL (i := 12) rfl rfl rfl (pbs (parts := [(0, .tmp 40)]) (cs := [_, _]) (zs := [Value.string ⟨#[]⟩, Value.string ⟨#[]⟩]) U30 ti41 rfl (by kernel_rfl) rfl rfl rfl (by decide)) ?_; rintro _ w5 ⟨b5, rfl, ⟨pI, aF, bu⟩, bU⟩; refine ⟨hg.trans aF, ?_⟩; have hg := hg.trans aF; have jm := bu.lt
    try have aV := aV.ext aF
    try have aJ := aJ.ext aF
    refine hOneL (i := 1) (by kernel_rfl) (nValPL (i := 1) rfl rfl rfl (pbs (parts := []) (cs := []) (zs := []) U30 ti41 rfl (by kernel_rfl) rfl rfl rfl (by decide)) ?_); rintro _ w2 ⟨b2, rfl, ⟨cz, ad, ay⟩, aV⟩; refine ⟨hg.trans ad, ?_⟩; have jV : w1.heap.size ≤ b2 := by have := hg.size; omega
    have fg := ay.lt; have hg := hg.trans ad
    try have bU := bU.ext ad
    refine hOneL (i := 8) (by kernel_rfl) (nValPL (i := 8) rfl rfl rfl (pap U30 ti41 rfl (by decide) rfl rfl aV (mh.ext hg) (esC_one1 _) (by omega) (by omega)) ?_); rintro v3 w3 ⟨aJ, ak, du, -⟩; refine ⟨hg.trans_new ak (fun i hi => by have e : b2 = i := oinj hi; omega), ?_⟩
    have dU : ∀ g, v3.ownBlock = some g → w1.heap.size ≤ g := fun g aw => by
     have := hg.size; rcases du g aw with e | e
     ·have e : b2 = g := oinj e; omega
     ·omega
    try have bU := bU.kp ak (fun g aw e => by have e : b2 = g := oinj e; have e' : b5 = g := oinj aw; omega)
    have hg := hg.trans_new ak (fun i hi => by have e : b2 = i := oinj hi; omega); rw [List.nil_append, Nat.zero_add] at aJ; refine hOneL (i := 13) (by kernel_rfl) (nValPL (i := 13) rfl rfl rfl (pap U30 ti41 rfl (by decide) rfl rfl aJ bU.rd (by intro c hc; simp at hc; rcases hc with rfl | rfl <;> rfl) (by omega) (by omega)) ?_); rintro v6 w6 ⟨ft, bP, mi, -⟩; refine ⟨hg.trans_new bP (fun i hi => dU i hi), ?_⟩
    have gt : ∀ g, v6.ownBlock = some g → w1.heap.size ≤ g := fun g aw => by
     have := hg.size; rcases mi g aw with e | e
     ·exact dU g e
     ·omega
    have hg := hg.trans_new bP (fun i hi => dU i hi); refine hOneL (i := 21) (by kernel_rfl) (nValPL (i := 21) rfl rfl rfl (pap U30 ti41 rfl (by decide) rfl rfl ft (kU.ext hg) (esC_one1 _) (by omega) (by omega)) ?_); rintro v7 w7 ⟨cP, aW, kV, -⟩; refine ⟨hg.trans_new aW (fun i hi => gt i hi), ?_⟩
    have eg : ∀ g, v7.ownBlock = some g → w1.heap.size ≤ g := fun g aw => by
     have := hg.size; rcases kV g aw with e | e
     ·exact gt g e
     ·omega
    have hg := hg.trans_new aW (fun i hi => gt i hi); refine qL [23, 24] 22 rfl (fun _ h=>ynk rfl) hg (qL [24] 23 rfl (fun _ h=>yfa fl32_0 rfl) hg (hLate [24] (by kernel_rfl) (by kernel_rfl) (qO 24 (nEffP (i := 24) rfl rfl (zst ti30 rfl rfl (oneV_sl cP) (hg.blk hB) (by simp)) ?_)))); rintro w8 ⟨da, aU⟩; refine ⟨trivial, ?_⟩; refine qE (Run.qb (e := [(0, _), (1, _), (2, _), (6, _)]) ?_); have fh : Kp (fun k => k = q) w1 w8 := hg.kp.trans aU
    have jZ : MpM w8 q v7 (insE es k v) := ⟨da, by
     have := cP.kp aU (fun g aw e => by have := eg g aw; omega); rw [show insE es k v = es.take (posE es k) ++ [(k, v)] ++ es.drop (posE es k + 1) by unfold insE; rw [if_pos bc]; simp]; rw [esC_app, esC_app, esC_one, List.length_append, List.length_append, List.length_take, List.length_drop, Nat.min_eq_left dl]
     exact this, fun e => by have := eg q e; omega, by rw [cF]; split <;> omega⟩
    refine run_ret Tryz.func39 rfl ?_; exact ⟨_, rfl, rfl, ⟨_, jZ, fh, eg⟩⟩
  ·have bc : ¬ hasE es k := fun e => by rw [hf.2 e] at lq; cases lq
   obtain ⟨sv, mo, kU⟩ := rd_suf (i := posE es k) hR (by omega) de; rw [esC_drop] at kU; refine run_skip (run_drawL [23] (fun w' => Ext w1 w') (by kernel_rfl) rfl (qL [21, 22, 23] 0 rfl (fun _ h=>ymv rfl) hg (qL [3, 4, 5, 7, 8, 13, 20, 21, 22, 23] 2 rfl (fun _ h=>ymv rfl) hg (qL [4, 5, 7, 8, 13, 20, 21, 22, 23] 3 rfl (fun _ h=>ynk rfl) hg (qL [5, 7, 8, 13, 20, 21, 22, 23] 4 rfl (fun _ h=>yfa fl32_0 rfl) hg (qL [7, 8, 13, 20, 21, 22, 23] 5 rfl (fun _ h=>yld U30 rfl rfl (h.blk hB) rfl) hg (qL [7, 8, 13, 20, 21, 22, 23] 6 rfl (fun _ h=>ymv rfl) hg (qL [11, 12, 13, 20, 21, 22, 23] 9 rfl (fun _ h=>ymv rfl) hg (qL [11, 12, 13, 20, 21, 22, 23] 10 rfl (fun _ h=>ymv rfl) hg (qL [12, 13, 20, 21, 22, 23] 11 rfl (fun _ h=>ybd (parts := [(0, .tmp 62), (1, .tmp 63)]) (cs := [_, _]) ti41 rfl sp41 rfl rfl) hg (qL [15, 16, 17, 19, 20, 21, 22, 23] 14 rfl (fun _ h=>ymv rfl) hg (qL [16, 17, 19, 20, 21, 22, 23] 15 rfl (fun _ h=>ynk rfl) hg (qL [17, 19, 20, 21, 22, 23] 16 rfl (fun _ h=>yfa fl32_0 rfl) hg ?_))))))))))))); refine qL [19, 20, 21, 22, 23] 17 rfl (fun _ h=>yld U30 rfl rfl (h.blk hB) rfl) hg (qL [19, 20, 21, 22, 23] 18 rfl (fun _ h=>ymv rfl) hg (qL [8, 13, 20, 21, 22, 23] 7 rfl (fun _ h=>yslT U30 ti41 rfl rfl (by omega) uy) hg (qL [20, 21, 22, 23] 19 rfl (fun _ h=>yslF U30 ti41 rfl rfl (by omega) de mo) hg (hTwoL (i := 1) (j := 12) (by kernel_rfl) ?_ ?_))))
   ·refine nValPL (i := 1) rfl rfl rfl (pbs (parts := []) (cs := []) (zs := []) U30 ti41 rfl (by kernel_rfl) rfl rfl rfl (by decide)) ?_; rintro _ w2 ⟨b2, rfl, ⟨cz, ad, ay⟩, aV⟩; refine ⟨hg.trans ad, ?_⟩; have jV : w1.heap.size ≤ b2 := by have := hg.size; omega
    have fg := ay.lt; have hg := hg.trans ad
    try have bU := bU.ext ad
    refine hTwoL (i := 8) (j := 12) (by kernel_rfl) ?_ ?_
    ·refine nValPL (i := 8) rfl rfl rfl (pap U30 ti41 rfl (by decide) rfl rfl aV (mh.ext hg) (esC_one1 _) (by omega) (by omega)) ?_; rintro v3 w3 ⟨aJ, ak, du, -⟩; refine ⟨hg.trans_new ak (fun i hi => by have e : b2 = i := oinj hi; omega), ?_⟩
     have dU : ∀ g, v3.ownBlock = some g → w1.heap.size ≤ g := fun g aw => by
      have := hg.size; rcases du g aw with e | e
      ·have e : b2 = g := oinj e; omega
      ·omega
     try have bU := bU.kp ak (fun g aw e => by have e : b2 = g := oinj e; have e' : b5 = g := oinj aw; omega)
     have hg := hg.trans_new ak (fun i hi => by have e : b2 = i := oinj hi; omega); rw [List.nil_append, Nat.zero_add] at aJ; refine hOneL (i := 12) (by kernel_rfl) (nValPL (i := 12) rfl rfl rfl (pbs (parts := [(0, .tmp 64)]) (cs := [_, _]) (zs := [Value.string ⟨#[]⟩, Value.string ⟨#[]⟩]) U30 ti41 rfl (by kernel_rfl) rfl rfl rfl (by decide)) ?_); rintro _ w5 ⟨b5, rfl, ⟨pI, aF, bu⟩, bU⟩; refine ⟨hg.trans aF, ?_⟩; have hg := hg.trans aF; have jm := bu.lt
     try have aV := aV.ext aF
     try have aJ := aJ.ext aF
     refine hOneL (i := 13) (by kernel_rfl) (nValPL (i := 13) rfl rfl rfl (pap U30 ti41 rfl (by decide) rfl rfl aJ bU.rd (by intro c hc; simp at hc; rcases hc with rfl | rfl <;> rfl) (by omega) (by omega)) ?_); rintro v6 w6 ⟨ft, bP, mi, -⟩; refine ⟨hg.trans_new bP (fun i hi => dU i hi), ?_⟩
     have gt : ∀ g, v6.ownBlock = some g → w1.heap.size ≤ g := fun g aw => by
      have := hg.size; rcases mi g aw with e | e
      ·exact dU g e
      ·omega
     have hg := hg.trans_new bP (fun i hi => dU i hi); refine hOneL (i := 20) (by kernel_rfl) (nValPL (i := 20) rfl rfl rfl (pap U30 ti41 rfl (by decide) rfl rfl ft (kU.ext hg) (esC_one1 _) (by omega) (by omega)) ?_); rintro v7 w7 ⟨cP, aW, kV, -⟩; refine ⟨hg.trans_new aW (fun i hi => gt i hi), ?_⟩
     have eg : ∀ g, v7.ownBlock = some g → w1.heap.size ≤ g := fun g aw => by
      have := hg.size; rcases kV g aw with e | e
      ·exact gt g e
      ·omega
     have hg := hg.trans_new aW (fun i hi => gt i hi); refine qL [22, 23] 21 rfl (fun _ h=>ynk rfl) hg (qL [23] 22 rfl (fun _ h=>yfa fl32_0 rfl) hg (hLate [23] (by kernel_rfl) (by kernel_rfl) (qO 23 (nEffP (i := 23) rfl rfl (zst ti30 rfl rfl (oneV_sl cP) (hg.blk hB) (by simp)) ?_)))); rintro w8 ⟨da, aU⟩; refine ⟨trivial, ?_⟩; refine qE (Run.qb (e := []) ?_); have fh : Kp (fun k => k = q) w1 w8 := hg.kp.trans aU
     have jZ : MpM w8 q v7 (insE es k v) := ⟨da, by
      have := cP.kp aU (fun g aw e => by have := eg g aw; omega); rw [show insE es k v = es.take (posE es k) ++ [(k, v)] ++ es.drop (posE es k) by unfold insE; rw [if_neg bc]; simp]; rw [esC_app, esC_app, esC_one, List.length_append, List.length_append, List.length_take, List.length_drop, Nat.min_eq_left dl]
      exact this, fun e => by have := eg q e; omega, by rw [cF]; split <;> omega⟩
     refine run_end Tryz.func39 rfl ?_; exact ⟨_, rfl, rfl, ⟨_, jZ, fh, eg⟩⟩
    ·refine nValPL (i := 12) rfl rfl rfl (pbs (parts := [(0, .tmp 64)]) (cs := [_, _]) (zs := [Value.string ⟨#[]⟩, Value.string ⟨#[]⟩]) U30 ti41 rfl (by kernel_rfl) rfl rfl rfl (by decide)) ?_; rintro _ w5 ⟨b5, rfl, ⟨pI, aF, bu⟩, bU⟩; refine ⟨hg.trans aF, ?_⟩; have hg := hg.trans aF; have jm := bu.lt
     try have aV := aV.ext aF
     try have aJ := aJ.ext aF
     refine hOneL (i := 8) (by kernel_rfl) (nValPL (i := 8) rfl rfl rfl (pap U30 ti41 rfl (by decide) rfl rfl aV (mh.ext hg) (esC_one1 _) (by omega) (by omega)) ?_); rintro v3 w3 ⟨aJ, ak, du, -⟩; refine ⟨hg.trans_new ak (fun i hi => by have e : b2 = i := oinj hi; omega), ?_⟩
     have dU : ∀ g, v3.ownBlock = some g → w1.heap.size ≤ g := fun g aw => by
      have := hg.size; rcases du g aw with e | e
      ·have e : b2 = g := oinj e; omega
      ·omega
     try have bU := bU.kp ak (fun g aw e => by have e : b2 = g := oinj e; have e' : b5 = g := oinj aw; omega)
     have hg := hg.trans_new ak (fun i hi => by have e : b2 = i := oinj hi; omega); rw [List.nil_append, Nat.zero_add] at aJ; refine hOneL (i := 13) (by kernel_rfl) (nValPL (i := 13) rfl rfl rfl (pap U30 ti41 rfl (by decide) rfl rfl aJ bU.rd (by intro c hc; simp at hc; rcases hc with rfl | rfl <;> rfl) (by omega) (by omega)) ?_); rintro v6 w6 ⟨ft, bP, mi, -⟩; refine ⟨hg.trans_new bP (fun i hi => dU i hi), ?_⟩
     have gt : ∀ g, v6.ownBlock = some g → w1.heap.size ≤ g := fun g aw => by
      have := hg.size; rcases mi g aw with e | e
      ·exact dU g e
      ·omega
     have hg := hg.trans_new bP (fun i hi => dU i hi); refine hOneL (i := 20) (by kernel_rfl) (nValPL (i := 20) rfl rfl rfl (pap U30 ti41 rfl (by decide) rfl rfl ft (kU.ext hg) (esC_one1 _) (by omega) (by omega)) ?_); rintro v7 w7 ⟨cP, aW, kV, -⟩; refine ⟨hg.trans_new aW (fun i hi => gt i hi), ?_⟩
     have eg : ∀ g, v7.ownBlock = some g → w1.heap.size ≤ g := fun g aw => by
      have := hg.size; rcases kV g aw with e | e
      ·exact gt g e
      ·omega
     have hg := hg.trans_new aW (fun i hi => gt i hi); refine qL [22, 23] 21 rfl (fun _ h=>ynk rfl) hg (qL [23] 22 rfl (fun _ h=>yfa fl32_0 rfl) hg (hLate [23] (by kernel_rfl) (by kernel_rfl) (qO 23 (nEffP (i := 23) rfl rfl (zst ti30 rfl rfl (oneV_sl cP) (hg.blk hB) (by simp)) ?_)))); rintro w8 ⟨da, aU⟩; refine ⟨trivial, ?_⟩; refine qE (Run.qb (e := []) ?_); have fh : Kp (fun k => k = q) w1 w8 := hg.kp.trans aU
     have jZ : MpM w8 q v7 (insE es k v) := ⟨da, by
      have := cP.kp aU (fun g aw e => by have := eg g aw; omega); rw [show insE es k v = es.take (posE es k) ++ [(k, v)] ++ es.drop (posE es k) by unfold insE; rw [if_neg bc]; simp]; rw [esC_app, esC_app, esC_one, List.length_append, List.length_append, List.length_take, List.length_drop, Nat.min_eq_left dl]
      exact this, fun e => by have := eg q e; omega, by rw [cF]; split <;> omega⟩
     refine run_end Tryz.func39 rfl ?_; exact ⟨_, rfl, rfl, ⟨_, jZ, fh, eg⟩⟩
   ·refine nValPL (i := 12) rfl rfl rfl (pbs (parts := [(0, .tmp 64)]) (cs := [_, _]) (zs := [Value.string ⟨#[]⟩, Value.string ⟨#[]⟩]) U30 ti41 rfl (by kernel_rfl) rfl rfl rfl (by decide)) ?_; rintro _ w5 ⟨b5, rfl, ⟨pI, aF, bu⟩, bU⟩; refine ⟨hg.trans aF, ?_⟩; have hg := hg.trans aF; have jm := bu.lt
    try have aV := aV.ext aF
    try have aJ := aJ.ext aF
    refine hOneL (i := 1) (by kernel_rfl) (nValPL (i := 1) rfl rfl rfl (pbs (parts := []) (cs := []) (zs := []) U30 ti41 rfl (by kernel_rfl) rfl rfl rfl (by decide)) ?_); rintro _ w2 ⟨b2, rfl, ⟨cz, ad, ay⟩, aV⟩; refine ⟨hg.trans ad, ?_⟩; have jV : w1.heap.size ≤ b2 := by have := hg.size; omega
    have fg := ay.lt; have hg := hg.trans ad
    try have bU := bU.ext ad
    refine hOneL (i := 8) (by kernel_rfl) (nValPL (i := 8) rfl rfl rfl (pap U30 ti41 rfl (by decide) rfl rfl aV (mh.ext hg) (esC_one1 _) (by omega) (by omega)) ?_); rintro v3 w3 ⟨aJ, ak, du, -⟩; refine ⟨hg.trans_new ak (fun i hi => by have e : b2 = i := oinj hi; omega), ?_⟩
    have dU : ∀ g, v3.ownBlock = some g → w1.heap.size ≤ g := fun g aw => by
     have := hg.size; rcases du g aw with e | e
     ·have e : b2 = g := oinj e; omega
     ·omega
    try have bU := bU.kp ak (fun g aw e => by have e : b2 = g := oinj e; have e' : b5 = g := oinj aw; omega)
    have hg := hg.trans_new ak (fun i hi => by have e : b2 = i := oinj hi; omega); rw [List.nil_append, Nat.zero_add] at aJ; refine hOneL (i := 13) (by kernel_rfl) (nValPL (i := 13) rfl rfl rfl (pap U30 ti41 rfl (by decide) rfl rfl aJ bU.rd (by intro c hc; simp at hc; rcases hc with rfl | rfl <;> rfl) (by omega) (by omega)) ?_); rintro v6 w6 ⟨ft, bP, mi, -⟩; refine ⟨hg.trans_new bP (fun i hi => dU i hi), ?_⟩
    have gt : ∀ g, v6.ownBlock = some g → w1.heap.size ≤ g := fun g aw => by
     have := hg.size; rcases mi g aw with e | e
     ·exact dU g e
     ·omega
    have hg := hg.trans_new bP (fun i hi => dU i hi); refine hOneL (i := 20) (by kernel_rfl) (nValPL (i := 20) rfl rfl rfl (pap U30 ti41 rfl (by decide) rfl rfl ft (kU.ext hg) (esC_one1 _) (by omega) (by omega)) ?_); rintro v7 w7 ⟨cP, aW, kV, -⟩; refine ⟨hg.trans_new aW (fun i hi => gt i hi), ?_⟩
    have eg : ∀ g, v7.ownBlock = some g → w1.heap.size ≤ g := fun g aw => by
     have := hg.size; rcases kV g aw with e | e
     ·exact gt g e
     ·omega
    have hg := hg.trans_new aW (fun i hi => gt i hi); refine qL [22, 23] 21 rfl (fun _ h=>ynk rfl) hg (qL [23] 22 rfl (fun _ h=>yfa fl32_0 rfl) hg (hLate [23] (by kernel_rfl) (by kernel_rfl) (qO 23 (nEffP (i := 23) rfl rfl (zst ti30 rfl rfl (oneV_sl cP) (hg.blk hB) (by simp)) ?_)))); rintro w8 ⟨da, aU⟩; refine ⟨trivial, ?_⟩; refine qE (Run.qb (e := []) ?_); have fh : Kp (fun k => k = q) w1 w8 := hg.kp.trans aU
    have jZ : MpM w8 q v7 (insE es k v) := ⟨da, by
     have := cP.kp aU (fun g aw e => by have := eg g aw; omega); rw [show insE es k v = es.take (posE es k) ++ [(k, v)] ++ es.drop (posE es k) by unfold insE; rw [if_neg bc]; simp]; rw [esC_app, esC_app, esC_one, List.length_append, List.length_append, List.length_take, List.length_drop, Nat.min_eq_left dl]
     exact this, fun e => by have := eg q e; omega, by rw [cF]; split <;> omega⟩
    refine run_end Tryz.func39 rfl ?_; exact ⟨_, rfl, rfl, ⟨_, jZ, fh, eg⟩⟩
 case CU =>
  refine run_reg rfl (zqm rfl (zqm rfl (qV (ynk rfl) (qV (yfa fl32_0 rfl) (qV (yld U30 rfl rfl hB rfl) (qV (yln U30 rfl) (qV (ylt rfl rfl) (zqm rfl (rVal_if (fun h1 => ?_) (fun h1 => ?_))))))))))
  ·have af : posE es k < es.length := by omega
   obtain ⟨lb, lo, y, rfl, hy⟩ := rd_ens hR rfl af; have mg := hasE_at hy; refine zqm rfl (qV (ynk rfl) (qV (yfa fl32_0 rfl) (qV (yld U30 rfl rfl hB rfl) (zqm rfl (qV (yis U30 ti41 rfl rfl (by omega)) (qV (yfa fl41_0 rfl) (qV (yldc U9 rfl rfl (rd_en0 hR af hy)) (zqm rfl (qV (yeqS rfl rfl) (qV (ypT rfl rfl) (rEnd (Run.qb (e := [(0, _), (1, _), (2, _), (6, _), (28, _)]) ?_)))))))))))); refine (uT _ _ ⟨_, rfl, rfl, ?_⟩).qb; rw [mg]; simp
  ·refine qS (qS (qS (qS (qS (qS (qS (qS (qS (qS (qV (ypF rfl rfl) (rEnd (Run.qb (e := [(0, _), (1, _), (2, _), (6, _), (28, _)]) ?_)))))))))))); exact (uT _ _ ⟨false, rfl, rfl, ⟨fun h => Bool.noConfusion h, fun hh => absurd hh (hasE_no (by omega))⟩⟩).qb
set_option maxHeartbeats 4000000 in
theorem delM_ret (h : MpM w q mv es) (k : Bytes) : Ret Tryz.prog 12 [ptr q 0, S k] w fun u w' => u = I (getR es k).2 ∧ (if (getR es k).2 = 0 then MpS q w w' (delE es k) else w' = w) := by
 have ux := at_ret h k
 have CV := getM_ret h k
 obtain ⟨a, c, rfl, -⟩ := h.sl.rd.shape
 have hB := h.blk
 have hR := h.sl.rd
 have dl := posE_le es k
 have Hw := hB.lt
 have dr := h.le
 have de : es.length ≤ c := by
  rcases h.sl.shape with ⟨e, e0⟩ | ⟨g, cap, e, e1⟩
  ·omega
  ·cases e; exact e1
 have eP : maxLen = 9223372036854775807 := rfl
 obtain ⟨pv, uy, mh⟩ := rd_pre hR dl
 rw [esC_take] at mh
 refine ret_of_run (e := [(0, _), (1, _)]) Tryz.func12 rfl Tryz.ntmps12 rfl rfl (qN rfl (zqa rfl (qM rfl (zqm rfl (zqm rfl (zqc [.tmp 9, .tmp 10] cf10 rfl (CV) ?_))))))
 rintro _ w1 ⟨rfl, rfl⟩
 refine zqm rfl (qV (yex rfl rfl) (qV (yex rfl rfl) (zqa rfl (zqa rfl (rEnd (run_seq (qN rfl (zqm rfl (qV (yne rfl rfl) (rEnd (run_if rfl (fun h1 => ?_) (fun h1 => ?_))))))))))))
 ·refine qN rfl (zqm rfl (zqa rfl (rEnd (run_ret Tryz.func12 rfl ?_)))); exact ⟨_, rfl, rfl, by rw [if_neg h1]⟩
 ·have h0 : (getR es k).2 = 0 := Decidable.not_not.1 h1
  have bc : hasE es k := by
   by_cases hh : hasE es k
   ·exact hh
   ·unfold getR at h0; rw [getE_none hh] at h0; split at h0 <;> cases h0
  have ah := hasE_lt bc; have mq := delE_len bc; refine run_skip (qN rfl (zqm rfl (zqm rfl (zqc [.tmp 17, .tmp 18] cf41 rfl (ux) ?_)))); rintro _ w1 ⟨rfl, rfl⟩; obtain ⟨sv, mo, kU⟩ := rd_suf (i := posE es k + 1) hR (by omega) de; rw [esC_drop] at kU; have hg := Ext.drew0 w1; refine zqa rfl (rEnd (run_seq (run_drawL [19] (fun w' => Ext w1 w') (by kernel_rfl) rfl (qL [17, 18, 19] 0 rfl (fun _ h=>ymv rfl) hg (qL [3, 4, 5, 7, 8, 16, 17, 18, 19] 2 rfl (fun _ h=>ymv rfl) hg (qL [4, 5, 7, 8, 16, 17, 18, 19] 3 rfl (fun _ h=>ynk rfl) hg (qL [5, 7, 8, 16, 17, 18, 19] 4 rfl (fun _ h=>yfa fl32_0 rfl) hg (qL [7, 8, 16, 17, 18, 19] 5 rfl (fun _ h=>yld U30 rfl rfl (h.blk hB) rfl) hg (qL [7, 8, 16, 17, 18, 19] 6 rfl (fun _ h=>ymv rfl) hg (qL [10, 11, 12, 15, 16, 17, 18, 19] 9 rfl (fun _ h=>ymv rfl) hg (qL [11, 12, 15, 16, 17, 18, 19] 10 rfl (fun _ h=>ynk rfl) hg (qL [12, 15, 16, 17, 18, 19] 11 rfl (fun _ h=>yfa fl32_0 rfl) hg (qL [15, 16, 17, 18, 19] 12 rfl (fun _ h=>yld U30 rfl rfl (h.blk hB) rfl) hg ?_))))))))))))); refine qL [14, 15, 16, 17, 18, 19] 13 rfl (fun _ h=>ymv rfl) hg (qL [15, 16, 17, 18, 19] 14 rfl (fun _ h=>yad rfl rfl (by omega)) hg (qL [8, 16, 17, 18, 19] 7 rfl (fun _ h=>yslT U30 ti41 rfl rfl (by omega) uy) hg (qL [16, 17, 18, 19] 15 rfl (fun _ h=>yslF U30 ti41 rfl rfl (by omega) de mo) hg (hOneL (i := 1) (by kernel_rfl) (nValPL (i := 1) rfl rfl rfl (pbs (parts := []) (cs := []) (zs := []) U30 ti41 rfl (by kernel_rfl) rfl rfl rfl (by decide)) ?_))))); rintro _ w2 ⟨b2, rfl, ⟨cz, ad, ay⟩, aV⟩; refine ⟨hg.trans ad, ?_⟩; have jV : w1.heap.size ≤ b2 := by have := hg.size; omega
  have fg := ay.lt; have hg := hg.trans ad
  try have bU := bU.ext ad
  refine hOneL (i := 8) (by kernel_rfl) (nValPL (i := 8) rfl rfl rfl (pap U30 ti41 rfl (by decide) rfl rfl aV (mh.ext hg) (esC_one1 _) (by omega) (by omega)) ?_); rintro v3 w3 ⟨aJ, ak, du, -⟩; refine ⟨hg.trans_new ak (fun i hi => by have e : b2 = i := oinj hi; omega), ?_⟩
  have dU : ∀ g, v3.ownBlock = some g → w1.heap.size ≤ g := fun g aw => by
   have := hg.size; rcases du g aw with e | e
   ·have e : b2 = g := oinj e; omega
   ·omega
  try have bU := bU.kp ak (fun g aw e => by have e : b2 = g := oinj e; have e' : b5 = g := oinj aw; omega)
  have hg := hg.trans_new ak (fun i hi => by have e : b2 = i := oinj hi; omega); rw [List.nil_append, Nat.zero_add] at aJ; refine hOneL (i := 16) (by kernel_rfl) (nValPL (i := 16) rfl rfl rfl (pap U30 ti41 rfl (by decide) rfl rfl aJ (kU.ext hg) (esC_one1 _) (by omega) (by omega)) ?_); rintro v7 w7 ⟨cP, aW, kV, -⟩; refine ⟨hg.trans_new aW (fun i hi => dU i hi), ?_⟩
  have eg : ∀ g, v7.ownBlock = some g → w1.heap.size ≤ g := fun g aw => by
   have := hg.size; rcases kV g aw with e | e
   ·exact dU g e
   ·omega
  have hg := hg.trans_new aW (fun i hi => dU i hi); refine qL [18, 19] 17 rfl (fun _ h=>ynk rfl) hg (qL [19] 18 rfl (fun _ h=>yfa fl32_0 rfl) hg (hLate [19] (by kernel_rfl) (by kernel_rfl) (qO 19 (nEffP (i := 19) rfl rfl (zst ti30 rfl rfl (oneV_sl cP) (hg.blk hB) (by simp)) ?_)))); rintro w8 ⟨da, aU⟩; refine ⟨trivial, ?_⟩; refine qE (Run.qb (e := [(4, _)]) ?_); refine qN rfl (zqa rfl (rEnd ?_)); have fh : Kp (fun k => k = q) w1 w8 := hg.kp.trans aU
  have jZ : MpM w8 q v7 (delE es k) := ⟨da, by
   have := cP.kp aU (fun g aw e => by have := eg g aw; omega); rw [show delE es k = es.take (posE es k) ++ es.drop (posE es k + 1) by unfold delE; rw [if_pos bc]]; rw [esC_app, List.length_append, List.length_take, List.length_drop, Nat.min_eq_left dl]
   exact this, fun e => by have := eg q e; omega, by omega⟩
  refine run_ret Tryz.func12 rfl ?_; exact ⟨_, rfl, by rw [h0]; rfl, by rw [if_pos h0]; exact ⟨_, jZ, fh, eg⟩⟩
theorem rangeM_ret (h : MpM w q mv es) (k : Bytes) (n : Int) : Ret Tryz.prog 60 [ptr q 0, S k, I n] w fun u w' => Ext w w' ∧ ((n < 0 ∧ u = .tuple #[.slice none 0 0, I 1]) ∨ (0 ≤ n ∧ ∃ rv, u = .tuple #[rv, I 0] ∧ Rd w' rv 2 ((es.drop (posE es k)).take n.toNat).length (esC ((es.drop (posE es k)).take n.toNat)) ∧ ∀ g, rv.ownBlock = some g → mv.ownBlock = some g)) := by
 have ux := fun (w' : World) (hx : Ext w w') => at_ret (h.ext hx) k
 obtain ⟨a, c, rfl, -⟩ := h.sl.rd.shape
 have hB := h.blk
 have hR := h.sl.rd
 have dl := posE_le es k
 have dr := h.le
 have de : es.length ≤ c := by
  rcases h.sl.shape with ⟨e, e0⟩ | ⟨g, cap, e, e1⟩
  ·omega
  ·cases e; exact e1
 obtain ⟨sv, mo, kU⟩ := rd_suf (i := posE es k) hR dl de
 rw [esC_drop] at kU
 obtain ⟨sa, CW⟩ : ∃ sa, (if c = posE es k then a else a.map (·.add (posE es k * 2))) = sa := ⟨_, rfl⟩
 rw [CW] at mo
 subst mo
 have CX : ∀ g m d, (Value.slice sa m d).ownBlock = some g → (Value.slice a es.length c).ownBlock = some g := fun g m d hg => by
  rw [← CW] at hg; split at hg <;> cases a <;> simp [Value.ownBlock, Addr.add] at hg ⊢ <;> (try split at hg) <;> first | exact hg | assumption
 refine ret_of_run (e := [(0, _), (1, _), (2, _)]) Tryz.func60 rfl Tryz.ntmps60 rfl rfl (qN rfl (zqa rfl (zqa rfl (rEnd (run_seq (qN rfl (zqm rfl (qV (ylt rfl rfl) (rEnd (run_if rfl (fun h0 => ?_) (fun h0 => ?_)))))))))))
 ·refine qN rfl (zqa rfl (zqa rfl (rEnd (run_ret Tryz.func60 rfl ?_)))); exact ⟨_, rfl, Ext.refl _, .inl ⟨h0, rfl⟩⟩
 ·have hg := Ext.drew0 w; refine run_skip (run_seq (run_draw (fun w' => Ext w w') (by kernel_rfl) rfl (zqt 0 rfl (ymv rfl) hg (zqt 1 rfl (ynk rfl) hg (zqt 2 rfl (yfa fl32_0 rfl) hg (qT 3 rfl (fun _ h=>yld U30 rfl rfl (h.blk hB) rfl) hg (zqt 4 rfl (ymv rfl) hg (zqt 5 rfl (ymv rfl) hg (zqo 6 [.tmp 15, .tmp 16] rfl cf41 rfl (ux _ hg) ?_))))))))); rintro _ w2 ⟨rfl, ku⟩; refine ⟨(by rw [ku]; exact hg), ?_⟩; have a8 : Ext w w2 := by rw [ku]; exact hg
  refine zqt 7 rfl (yslF U30 ti41 rfl rfl dl de (by rw [CW])) ((by rw [ku]; exact hg)) ?_; refine zqt 8 rfl (yas rfl) ((by rw [ku]; exact hg)) ?_; refine qE (qN rfl (zqm rfl (zqm rfl (zqm rfl (qV (yln U30 rfl) (qV (ymi rfl rfl) ?_)))))); rw [show min n ((es.length - posE es k : Nat) : Int) = ((min n.toNat (es.length - posE es k) : Nat) : Int) by omega]; obtain ⟨pv, uy, mh⟩ := rd_pre (j := min n.toNat (es.length - posE es k)) (kU.ext a8) (by omega); rw [esC_take] at mh; refine qV (yslT U30 ti41 rfl rfl (by omega) uy) (zqa rfl (zqa rfl (rEnd (run_ret Tryz.func60 rfl (⟨_, rfl, a8, .inr ⟨by omega, pv, rfl, ?_, fun g aw => ?_⟩⟩)))))
  ·have e1 : (es.drop (posE es k)).take n.toNat = (es.drop (posE es k)).take (min n.toNat (es.length - posE es k)) := by
    rw [← List.length_drop]; rcases Nat.le_total n.toNat (es.drop (posE es k)).length with h | h
    ·rw [Nat.min_eq_left h]
    ·rw [Nat.min_eq_right h, List.take_of_length_le h, List.take_length]
   rw [e1]; have e2 : ((es.drop (posE es k)).take (min n.toNat (es.length - posE es k))).length = min n.toNat (es.length - posE es k) := by rw [List.length_take, List.length_drop]; omega
   rw [e2]; exact mh
  ·refine CX g (es.length - posE es k) (c - posE es k) ?_; rw [← uy] at aw; split at aw <;> cases sa <;> simpa [Value.ownBlock, Addr.add] using aw
end
def metC (l : Pgs) (V : List Int) : List Value := l.map fun y => I (if y.1 ∈ V then 1 else 0)
structure WkC (w : World) (q mb z : Nat) (lv : Value) (l : Pgs) : Prop where
 blk : Blk w q [I (z : Int), lv, .slice (some ⟨mb, 0, none⟩) l.length l.length] 97
 rd : Rd w lv 2 l.length (pgC l)
 n1 : q ≠ mb
 n2 : 0 < l.length → lv.ownBlock ≠ some mb
theorem WkC.kp {w w' : World} {q mb z : Nat} {lv : Value} {l : Pgs} (h : WkC w q mb z lv l) (k : Kp (fun k => k = mb) w w') : WkC w' q mb z lv l :=
 ⟨k.blk h.blk h.n1, Rd.kpz h.rd k (fun h0 g hg e => h.n2 h0 (by rw [hg, e])), h.n1, h.n2⟩
theorem WkC.ext {w w' : World} {q mb z : Nat} {lv : Value} {l : Pgs} (h : WkC w q mb z lv l) (k : Ext w w') : WkC w' q mb z lv l := h.kp k.kp
def WkAt (q mb z : Nat) (lv : Value) (l : Pgs) (k : Nat) : Prop := ∀ (w : World) (no : Int) (lo : Bytes) (hi : Option Bytes) (tb : Bytes) (V : List Int) (rt : Bool),
 WkC w q mb z lv l → Blk w mb (metC l V) 3 → V.Nodup → (∀ x ∈ V, x ∈ l.map (·.1)) → l.length ≤ V.length + k → spanOk hi tb →
 Ret Tryz.prog 54 [ptr q 0, I no, .agg (spanC lo hi tb).toArray, .bool rt] w fun v w' => Kp (fun k => k = mb) w w' ∧
  ((∃ (h : Nat) (ns : List Int) (es : Es) (ov : Value), v = .tuple #[ov, I (h : Int), .bool true] ∧ Sub1 z (nodesOf z l) V rt no lo hi h ns es ∧ Sl w' ov 41 2 es.length (esC es) ∧ (∀ g, ov.ownBlock = some g → w.heap.size ≤ g) ∧ Blk w' mb (metC l (ns ++ V)) 3 ∧ es.length ≤ ns.length * 100000) ∨ (v = .tuple #[.slice none 0 0, I 0, .bool false] ∧ NoSub z (nodesOf z l) V rt no lo hi))
section
variable {w : World}
end
structure DelC (w : World) (F : Nat → Prop) (p : Nat) (k : Bytes) (bt bk bp : Nat) : Prop where
 t : Blk w bt [ptr p 0] 24
 k : Blk w bk [S k] 9
 f : Blk w bp [.func (.func 43) #[] #[ptr bt 0, ptr bk 0, ptr bp 0]] 80
 n : ¬ F bt ∧ ¬ F bk ∧ ¬ F bp
theorem DelC.kp {w w' : World} {F F' : Nat → Prop} {p : Nat} {k : Bytes} {bt bk bp : Nat} (h : DelC w F p k bt bk bp) (hk : Kp F w w') (hF : ∀ i, F' i → F i ∨ w.heap.size ≤ i) : DelC w' F' p k bt bk bp := by
 obtain ⟨n1, n2, n4⟩ := h.n
 have h1 := h.t.lt
 have h2 := h.k.lt
 have h4 := h.f.lt
 exact ⟨hk.blk h.t n1, hk.blk h.k n2, hk.blk h.f n4, fun e => (hF _ e).elim n1 (by omega), fun e => (hF _ e).elim n2 (by omega), fun e => (hF _ e).elim n4 (by omega)⟩
structure DelPost (T : Tr) (h : Nat) (no : Int) (lo : Bytes) (hi : Option Bytes) (ns : List Int) (es : Es) (k : Bytes) (T' : Tr) : Prop where
 cnt : T'.count = T.count
 evo : Evo T T' 0
 one : One T.size h T.nodes T'.nodes no lo hi ns (delE es k)
 keys : (∀ m, T.nodes no = some m → ¬ m.low T.size) → ∀ m, T'.nodes no = some m → m.keys ≠ []
def DelAt (p : Nat) (k : Bytes) (bt bk bp : Nat) (H : Nat) : Prop := ∀ (w : World) (T : Tr) (nb : Int → Nat) (F : Nat → Prop) (no : Int) (lo : Bytes) (hi : Option Bytes) (ns : List Int) (es : Es),
 TreeA w p T nb F → DelC w F p k bt bk bp → Bn T.size T.nodes H no lo hi ns es → ns.Nodup → inB lo hi k → hasE es k → GivS T → (∀ x ∈ T.given, 1 ≤ x ∧ x ≤ 2147483647) → (∀ x, T.nodes x ≠ none → 1 ≤ x ∧ x ≤ 2147483647) → (∀ c ps, T.nodes no = some (innNd c ps) → ps ≠ []) →
 Ret Tryz.prog 43 [I no, ptr bt 0, ptr bk 0, ptr bp 0] w fun val w' => val = .tuple #[] ∧ ∃ T' F', TreeA w' p T' nb F' ∧ DelPost T H no lo hi ns es k T' ∧ Kp F w w' ∧ ∀ i, F' i → F i ∨ w.heap.size ≤ i
theorem full_two {z : Nat} {E : Es} (hz : sizeOk (z : Int)) (hE : EsOk z E) (hl : ¬ (leafNd E).low z) : 2 ≤ E.length := by
 obtain ⟨z1, z2, z3⟩ := hz
 match E, hE, hl with
 | [], _, hl => exact absurd (by rw [leafNd_low]; simp [entB]; omega) hl
 | [x], hE, hl =>
   have h1 := (hE.one x (by simp)); exfalso; apply hl; rw [leafNd_low]; have : mostE z = (z - 3) / 4 := rfl; simp [entB] at h1 ⊢
   omega
 | _ :: _ :: _, _, _ => simp
section
variable {w : World}
set_option maxHeartbeats 4000000 in
theorem delAt_leaf {p : Nat} {k : Bytes} {bt bk bp : Nat} : DelAt p k bt bk bp 1 := by
 intro w T nb F no lo hi ns E h hc hB bj cx bc hg mG po aT
 have hz : sizeOk (T.size : Int) := size_ok h
 obtain ⟨z1, z2, -⟩ := id hz
 obtain ⟨hn, iq, bi, Bx, tz⟩ := hB.leaf (by omega)
 obtain ⟨hD, Hx⟩ := del_leaf (k := k) hz hB
 have Gt := entB_len bi
 have jH : delE E k = E.take (posE E k) ++ E.drop (posE E k + 1) := by unfold delE; rw [if_pos bc]
 have bE : (delE E k).Sublist E := by
  rw [jH]
  conv => rhs; rw [← List.take_append_drop (posE E k) E]
  exact (List.Sublist.refl _).append (by rw [← List.drop_drop]; exact List.drop_sublist _ _)
 have gE : EsOk T.size (delE E k) := bi.sub bE
 obtain ⟨-, -, -, Hy, -⟩ := hD.leaf (by omega)
 have lV := leaf_bd hz gE (by omega)
 obtain ⟨mN, mC, mO, gv, kn, kc, ko, O⟩ := h.opn
 obtain ⟨q, hq, hM, eY, cG⟩ := h.nodeF hn
 obtain ⟨qb, qk, qv, qc⟩ := q
 dsimp only at hq
 subst hq
 have aq := hM.blk
 have hK := hM.keys
 have hV := hM.vals
 have hC := hM.kids
 have cM := hM.d1
 have df := hM.d2
 have lW := hM.d3
 dsimp only at aq hK hV hC cM df lW
 have eQ : (leafNd E).vals.length = E.length := by simp [leafNd]
 have cy : (leafNd E).keys.length = E.length := by simp [leafNd]
 rw [eQ] at hV
 rw [cy] at hK
 have bN := hc.t
 have eM := hc.k
 have hp : pos (leafNd E).keys k = posE E k := rfl
 have ah := hasE_lt bc
 have eW := h.lt
 refine ret_of_run (e := [(0, _), (1, _), (2, _), (3, _)]) Tryz.func43 rfl Tryz.ntmps43 rfl rfl (qN rfl (qV ((by first | exact yld U24 rfl rfl bN rfl | exact yld U24 rfl rfl O.blk rfl | exact yld U24 rfl rfl aq rfl)) ?_))
 refine qV (ynk rfl) (qV (yfa fl74_5 rfl) (qV ((by first | exact yld U71 rfl rfl bN rfl | exact yld U71 rfl rfl O.blk rfl | exact yld U71 rfl rfl aq rfl)) ?_))
 refine zqm rfl (qV (ylk (k := no) (K := KZ) U71 (ky_int U3) ti81 rfl rfl O.nm.l) ?_)
 rw [show (getL kn no).getD (.pointer none) = ptr (nb no) 0 by rw [O.ng no, hn]; rfl]
 refine zqa rfl (rEnd (run_seq (qN rfl (zqm rfl (qV (ynk rfl) (qV (yfa fl84_0 rfl) (qV ((by first | exact yld U4 rfl rfl bN rfl | exact yld U4 rfl rfl O.blk rfl | exact yld U4 rfl rfl aq rfl)) ?_)))))))
 refine rEnd (run_true rfl (run_seq ?_))
 have a7 := Ext.drew0 w
 refine run_draw (fun w' => Ext w w') (by kernel_rfl) rfl (zqt 0 rfl (ymv rfl) a7 (zqt 1 rfl (ynk rfl) a7 (zqt 2 rfl (yfa fl84_1 rfl) a7 (qT 3 rfl (fun _ h=>(by first | exact yld U23 rfl rfl (h.blk aq) rfl | exact yld U23 rfl rfl (h.blk eM) rfl)) a7 ?_))))
 refine qT 4 rfl (fun _ h=>(by first | exact yld U9 rfl rfl (h.blk aq) rfl | exact yld U9 rfl rfl (h.blk eM) rfl)) a7 ?_
 refine zqo 5 [.tmp 23, .tmp 24] rfl cf44 rfl (bsearch_ret (leafNd E).keys k qk _ ((hM.keys.ext a7).rd) (by rw [cy]; omega) bi.rise) ?_
 rintro _ w1 ⟨rfl, rfl⟩
 refine ⟨a7, ?_⟩
 rw [hp]
 refine zqt 6 rfl (ymv rfl) a7 (zqt 7 rfl (yex rfl rfl) a7 (zqt 8 rfl (yex rfl rfl) a7 (zqt 9 rfl (yas rfl) a7 (zqt 10 rfl (yas rfl) a7 (qE (Run.qb (e := [(0, _), (1, _), (2, _), (3, _), (5, _), (6, _)]) ?_))))))
 refine run_seq ?_
 have cr : ∀ {l : List Bytes}, ∀ c' ∈ l.map S, c'.oneCell' = true := fun c' hc => by obtain ⟨z, -, rfl⟩ := List.mem_map.1 hc; rfl
 obtain ⟨Q, hQ⟩ : ∃ Q : Nat → Prop, Q = fun g => qk.ownBlock = some g ∨ qv.ownBlock = some g := ⟨_, rfl⟩
 have dt : ∀ g, Q g → F g := fun g hg => by
  rw [hQ] at hg; exact (eY g (hg.elim (fun e => .inr (.inl e)) (fun e => .inr (.inr (.inl e))))).1
 have e7 : ¬ Q (nb no) := fun e => by
  rw [hQ] at e; exact e.elim cM.1 cM.2.1
 have aQ : ∀ g, qk.ownBlock = some g → Q g := fun g hg => by rw [hQ]; exact .inl hg
 have cU : ∀ g, qv.ownBlock = some g → Q g := fun g hg => by rw [hQ]; exact .inr hg
 have dw : ∀ g, Q g → g < w.heap.size := fun g hg => eW g (dt g hg)
 refine run_cut (fun e' w2 => ∃ kv' vv', e' = [(0, I no), (1, ptr bt 0), (2, ptr bk 0), (3, ptr bp 0), (5, ptr (nb no) 0)] ∧ NdM w2 (leafNd (delE E k)) ⟨nb no, kv', vv', qc⟩ ∧ (∀ g, Pl.fp ⟨nb no, kv', vv', qc⟩ g → Pl.fp ⟨nb no, qk, qv, qc⟩ g ∨ w.heap.size ≤ g) ∧ Kp (Pl.fp ⟨nb no, qk, qv, qc⟩) w w2) ?eR (fun eR => ?iu)
 case eR =>
  rintro e' w23 ⟨kv9, vv17, rfl, ic, dF, am⟩; obtain ⟨F', h', i0⟩ := cG w23 _ ⟨nb no, kv9, vv17, qc⟩ rfl ic am (fun g hg => (dF g hg).imp id (fun e hh => by have := eW g hh; omega))
  have ce : ∀ g, F' g → F g ∨ w.heap.size ≤ g := fun g hg => by
   rcases i0 g hg with e | e
   ·exact .inl e
   ·exact (dF g e).imp (fun e => (eY g e).1) id
  have ow : Kp F w w23 := am.mono' (fun g hg => (eY g hg).1); have dE := hc.kp ow ce; have cD := dE.t; obtain ⟨mN2, mC2, mO2, gv2, kn2, kc2, ko2, O2⟩ := h'.opn; refine qN rfl (qV ((by first | exact yld U24 rfl rfl cD rfl | exact yld U24 rfl rfl O2.blk rfl)) ?_); refine qV (ynk rfl) (qV (yfa fl74_7 rfl) (qV ((by first | exact yld U72 rfl rfl cD rfl | exact yld U72 rfl rfl O2.blk rfl)) ?_)); refine zqm rfl (rEffP rfl (zmuB (k := no) (K := KZ) U72 (ky_int U3) rfl rfl rfl O2.cm) ?_); rintro w3 ⟨ef, ak⟩
  have h3 := O2.setC w3 _ (updI (T.setN no (leafNd (delE E k))).changed no true) ef ak (fun x => by
   rw [getL_put]; by_cases e : x = no
   ·subst e; simp [flag, updI]
   ·rw [if_neg e, O2.cg]; simp [updI, e])
  have bH : Kp F' w23 w3 := ak.mono' (fun k hk => by rw [hk]; exact O2.fp.2.2.1); refine rEnd (run_ret Tryz.func43 rfl (⟨_, rfl, rfl, (T.setN no (leafNd (delE E k))).mark no, F', h3, ⟨rfl, Evo.set hg hn, ⟨_, hD, Hx⟩, fun bL m hm => ?_⟩, ow.trans_new bH (fun i hi => (ce i hi).symm), ce⟩)); have h2 := full_two hz bi (bL _ hn); have mM : updI T.nodes no (some (leafNd (delE E k))) no = some m := hm; rw [updI_same] at mM; cases mM; intro e; have e' : (delE E k).length = 0 := by have := congrArg List.length e; simpa [leafNd] using this
  rw [jH, List.length_append, List.length_take, List.length_drop] at e'; omega
 case iu =>
  have eL := a7.trans (Ext.drew0 w.drew); have ab : Kp Q w w.drew.drew := eL.kp; have eD := hK.ext eL; have gn := hV.ext eL; refine run_drawL [20,23] (fun w' => Kp Q w w') (by kernel_rfl) rfl (qL [18, 19, 20, 21, 22, 23] 0 rfl (fun _ h=>ymv rfl) ab (hTakeU (i := 1) rfl (by kernel_rfl) rfl rfl (fun _ => ymv rfl) (ab) (qL [3, 4, 5, 9, 17, 18, 19, 20, 21, 22, 23] 2 rfl (fun _ h=>ymv rfl) ab (qL [4, 5, 9, 17, 18, 19, 20, 21, 22, 23] 3 rfl (fun _ h=>ynk rfl) ab (qL [5, 9, 17, 18, 19, 20, 21, 22, 23] 4 rfl (fun _ h=>yfa fl84_1 rfl) ab (qL [9, 17, 18, 19, 20, 21, 22, 23] 5 rfl (fun _ h=>yld U23 rfl rfl (h.blk aq e7) rfl) ab (qL [9, 17, 18, 19, 20, 21, 22, 23] 6 rfl (fun _ h=>ymv rfl) ab (qL [8, 9, 17, 18, 19, 20, 21, 22, 23] 7 rfl (fun _ h=>ymv rfl) ab (qL [9, 17, 18, 19, 20, 21, 22, 23] 8 rfl (fun _ h=>yad rfl rfl (by omega)) ab (qL [11, 12, 13, 17, 18, 19, 20, 21, 22, 23] 10 rfl (fun _ h=>ymv rfl) ab (qL [12, 13, 17, 18, 19, 20, 21, 22, 23] 11 rfl (fun _ h=>ynk rfl) ab (qL [13, 17, 18, 19, 20, 21, 22, 23] 12 rfl (fun _ h=>yfa fl84_2 rfl) ab (qL [17, 18, 19, 20, 21, 22, 23] 13 rfl (fun _ h=>yld U23 rfl rfl (h.blk aq e7) rfl) ab ?_))))))))))))); refine qL [17, 18, 19, 20, 21, 22, 23] 14 rfl (fun _ h=>ymv rfl) ab (qL [16, 17, 18, 19, 20, 21, 22, 23] 15 rfl (fun _ h=>ymv rfl) ab (qL [17, 18, 19, 20, 21, 22, 23] 16 rfl (fun _ h=>yad rfl rfl (by omega)) ab (hOneL (i := 9) (by kernel_rfl) (nCallL (i := 9) rfl rfl rfl (yc (args := [.tmp 33, .tmp 34, .tmp 36]) cf45 rfl) (delS_ret (i := posE E k) eD cr ah (by omega)) ?_)))); rintro kv9 w9 ⟨bS, aH, cN⟩; refine ⟨ab.trans (aH.mono' aQ), ?_⟩; have ab := ab.trans (aH.mono' aQ); have gn := gn.kp aH (fun g hg e => (df g e).1 hg); refine hOneL (i := 17) (by kernel_rfl) (nCallL (i := 17) rfl rfl rfl (yc (args := [.tmp 41, .tmp 42, .tmp 44]) cf45 rfl) (delS_ret (i := posE E k) gn cr ah (by omega)) ?_); rintro vv17 w17 ⟨dQ, aP, ct⟩; refine ⟨ab.trans (aP.mono' cU), ?_⟩; have ab := ab.trans (aP.mono' cU); have bS := bS.kp aP (fun g hg e => (df g (cN g hg)).1 e); refine qL [19, 20, 21, 22, 23] 18 rfl (fun _ h=>ynk rfl) ab (qL [20, 21, 22, 23] 19 rfl (fun _ h=>yfa fl84_1 rfl) ab (hLate [20] (by kernel_rfl) (by kernel_rfl) (qO 20 (nEffP (i := 20) rfl rfl (zst ti23 rfl rfl (oneV_sl bS) (ab.blk aq e7) (by simp)) ?_)))); rintro w20 ⟨kL, gT⟩; refine ⟨trivial, ?_⟩; refine zqt 21 rfl (ynk rfl) trivial (zqt 22 rfl (yfa fl84_2 rfl) trivial (qO 23 (nEffP (i := 23) rfl rfl (zst ti23 rfl rfl (oneV_sl dQ) kL (by simp)) ?_))); rintro w23 ⟨kM, bH⟩; refine ⟨trivial, ?_⟩; refine qE (Run.qb (e := [(0, _), (1, _), (2, _), (3, _), (5, _)]) ?_); have bg := gT.trans bH
  have ld : ∀ g, kv9.ownBlock = some g → g ≠ nb no := fun g hg e => by
   have h := cN g hg; rw [e] at h; exact cM.1 h
  have pm : ∀ g, vv17.ownBlock = some g → g ≠ nb no := fun g hg e => by
   have h := ct g hg; rw [e] at h; exact cM.2.1 h
  obtain ⟨ic, dF⟩ := hM.re (w' := w23) (n' := leafNd (delE E k)) (kv' := kv9) (vv' := vv17) (cv' := qc) kM (by
    have e : (leafNd (delE E k)).keys = (leafNd E).keys.take (posE E k) ++ (leafNd E).keys.drop (posE E k + 1) := by rw [jH]; simp [leafNd]
    rw [e]; have := bS.kp bg ld; simp only [List.map_append, List.map_take, List.map_drop, List.length_append, List.length_take, List.length_drop, cy]; rw [show min (posE E k) E.length + (E.length - (posE E k + 1)) = E.length - 1 by omega]
    exact this) (by
    have e : (leafNd (delE E k)).vals = (leafNd E).vals.take (posE E k) ++ (leafNd E).vals.drop (posE E k + 1) := by rw [jH]; simp [leafNd]
    rw [e]; have := dQ.kp bg pm; simp only [List.map_append, List.map_take, List.map_drop, List.length_append, List.length_take, List.length_drop, eQ]; rw [show min (posE E k) E.length + (E.length - (posE E k + 1)) = E.length - 1 by omega]
    exact this) (by
    have e : (leafNd (delE E k)).kids = (leafNd E).kids := rfl; rw [e]
    exact (hC.kp ab (fun g hg e => by
     rw [hQ] at e; rcases e with e | e
     ·exact (df g e).2 hg
     ·exact lW g e hg)).kp bg (fun g hg e => cM.2.2 (by rw [← e]; exact hg))) lV (fun g hg => .inl (cN g hg)) (fun g hg => .inl (ct g hg)) (fun g hg => .inl hg) (fun g hg => ⟨fun e => absurd (hM.lt g (.inr (.inl (cN g e)))) (by omega), fun e => absurd (hM.lt g (.inr (.inr (.inl (ct g e))))) (by omega)⟩)
  have am : Kp (Pl.fp ⟨nb no, qk, qv, qc⟩) w w23 := (ab.mono' (fun g hg => by
   rw [hQ] at hg
   exact hg.elim (fun e => .inr (.inl e)) (fun e => .inr (.inr (.inl e))))).trans (bg.mono' (fun g hg => .inl hg))
  exact (eR _ _ ⟨kv9, vv17, rfl, ic, dF, am⟩).qb
set_option maxHeartbeats 4000000 in
theorem delAt_inner {p : Nat} {k : Bytes} {bt bk bp h0 : Nat} (ih : DelAt p k bt bk bp (h0 + 1)) : DelAt p k bt bk bp (h0 + 2) := by
 intro w T nb F no lo hi ns es h hc hB bj cx bc hg mG po aT
 have hz : sizeOk (T.size : Int) := size_ok h
 obtain ⟨z1, z2, -⟩ := id hz
 have A6 : orderE T.size ≤ 1000 ∧ 8 ≤ orderE T.size := by unfold orderE; omega
 obtain ⟨c, ps, ns', hn, iq, fj, bX, lR, aO, a, lo', af, nm, em, e1, e2, ha, kD, nZ, o4, ry, bE, gM, iP, fP, cr, -⟩ := inner_step hz hB bj cx
 obtain ⟨i, ii⟩ : ∃ i, wayI (ps.map (·.1)) k = i := ⟨_, rfl⟩
 rw [ii] at ha
 have m0 : i ≤ ps.length := by have := wayI_le (ps.map (·.1)) k; rw [ii, List.length_map] at this; exact this
 have yW : hasE em k := by rw [gM] at bc; exact (hasE_mid iP fP).1 bc
 have jH : delE es k = e1 ++ (delE em k ++ e2) := by rw [gM]; exact delE_mid iP fP
 obtain ⟨mN, mC, mO, gv, kn, kc, ko, O⟩ := h.opn
 obtain ⟨q, hq, hM, eY, -⟩ := h.nodeF hn
 obtain ⟨qb, qk, qv, qc⟩ := q
 dsimp only at hq
 subst hq
 have aq := hM.blk
 have hC := hM.kids
 dsimp only at aq hC
 have kcl : (innNd c ps).kids.length = ps.length + 1 := by simp [innNd]
 rw [kcl] at hC
 obtain ⟨gc, cc, rfl⟩ := some_of hC (by omega)
 have ve := hM.bd.cs a (List.mem_of_getElem? (show (innNd c ps).kids[_]? = some a from ha))
 have jo : a ∈ c :: ps.map (·.2) := List.mem_of_getElem? ha
 have bN := hc.t
 have eM := hc.k
 have lN := hc.f
 have a7 := Ext.drew0 w
 refine ret_of_run (e := [(0, _), (1, _), (2, _), (3, _)]) Tryz.func43 rfl Tryz.ntmps43 rfl rfl (qN rfl (qV ((by first | exact yld U24 rfl rfl bN rfl | exact yld U24 rfl rfl O.blk rfl | exact yld U24 rfl rfl aq rfl | exact yld U24 rfl rfl eM rfl)) ?_))
 refine qV (ynk rfl) (qV (yfa fl74_5 rfl) (qV ((by first | exact yld U71 rfl rfl bN rfl | exact yld U71 rfl rfl O.blk rfl | exact yld U71 rfl rfl aq rfl | exact yld U71 rfl rfl eM rfl)) ?_))
 refine zqm rfl (qV (ylk (k := no) (K := KZ) U71 (ky_int U3) ti81 rfl rfl O.nm.l) ?_)
 rw [show (getL kn no).getD (.pointer none) = ptr (nb no) 0 by rw [O.ng no, hn]; rfl]
 refine zqa rfl (rEnd (run_seq (qN rfl (zqm rfl (qV (ynk rfl) (qV (yfa fl84_0 rfl) (qV ((by first | exact yld U4 rfl rfl bN rfl | exact yld U4 rfl rfl O.blk rfl | exact yld U4 rfl rfl aq rfl | exact yld U4 rfl rfl eM rfl)) ?_)))))))
 refine rEnd (run_false rfl (run_skip (qN rfl (zqm rfl (qV ((by first | exact yld U9 rfl rfl bN rfl | exact yld U9 rfl rfl O.blk rfl | exact yld U9 rfl rfl aq rfl | exact yld U9 rfl rfl eM rfl)) ?_)))))
 refine zqc [.tmp 55, .tmp 56] cf46 rfl (way_ret k aq hM.r hM.bd fj.2) ?_
 rintro _ w ⟨rfl, rfl⟩
 rw [show wayI (innNd c ps).keys k = i from ii]
 refine zqa rfl (rEnd (run_seq (run_drawL [9] (fun w' => Ext w w') (by kernel_rfl) rfl (qL [9] 0 rfl (fun _ h=>(by first | exact yld U80 rfl rfl (h.blk aq) rfl | exact yld U80 rfl rfl (h.blk lN) rfl)) a7 ?_))))
 refine qL [2, 3, 4, 6, 7, 8, 9] 1 rfl (fun _ h=>ymv rfl) a7 (qL [3, 4, 6, 7, 8, 9] 2 rfl (fun _ h=>ynk rfl) a7 (qL [4, 6, 7, 8, 9] 3 rfl (fun _ h=>yfa fl84_3 rfl) a7 (qL [6, 7, 8, 9] 4 rfl (fun _ h=>(by first | exact yld U82 rfl rfl (h.blk aq) rfl | exact yld U82 rfl rfl (h.blk lN) rfl)) a7 ?_)))
 refine qL [6, 7, 8, 9] 5 rfl (fun _ h=>ymv rfl) a7 (qL [7, 8, 9] 6 rfl (fun _ h=>yis U82 ti89 rfl rfl (by omega)) a7 (qL [8, 9] 7 rfl (fun _ hS => yldc U89 rfl rfl (rd_u32 ((hC.ext hS).rd) (by omega) ha)) a7 (qL [9] 8 rfl (fun _ h=>ycvSi64 rfl U89 U3 (by omega)) a7 (hLate [9] (by kernel_rfl) (by kernel_rfl) (qO 9 (nCall (i := 9) rfl rfl rfl (ycv' (args := [.tmp 66]) cf43 rfl rfl) (ih _ T nb F (a : Int) lo' af nm em (h.ext a7) (hc.kp a7.kp (fun i hi => .inl hi)) kD nZ o4 yW hg mG po (fun c' ps' fY e => by have := full_inn (aO a jo) hz fY; rw [e] at this; simp at this)) ?_))))))
 rintro v1 w1 ⟨rfl, T1, F1, h1, ⟨kN, fb, ⟨nm', tQ, ox⟩, fw⟩, aC, hY⟩
 refine ⟨trivial, ?_⟩
 have dJ : T1.size = T.size := fb.size
 have ql : ∀ x ∈ T1.given, 1 ≤ x ∧ x ≤ 2147483647 := fun x hx => (fb.giv x hx).elim (mG x) (fun e => po x e.1)
 have lK : T1.given.length ≤ 2147483647 := by have := rise_len fb.srt.rise ql; omega
 have fd : Kp F w w1 := a7.kp.trans aC
 have ni := a7.size
 have fe : ∀ i, F1 i → F i ∨ w.heap.size ≤ i := fun i hi => (hY i hi).imp id (fun e => by omega)
 have cJ : DelC w1 F1 p k bt bk bp := hc.kp fd fe
 have jp := cJ.t
 obtain ⟨ns1, M, kO⟩ := cr T1.nodes nm' _ tQ ox
 have M1 : Mid T1.size h0 T1.nodes no lo hi c ps ns1 (e1 ++ (delE em k ++ e2)) a := by rw [dJ]; exact M
 refine qE (Run.qb (e := [(0, _), (1, _), (8, _)]) ?_)
 refine run_reg rfl (qV (yld U24 rfl rfl jp rfl) (zqm rfl (zqm rfl (zqc [.tmp 68, .tmp 69, .tmp 70] cf47 rfl (even_all h1 M1 (aT c ps hn) m0 ha (fw (aO a jo)) fb.srt (by omega)) ?_))))
 rintro _ w2 ⟨rfl, T2, F2, ns2, h2, b1, b2, b3, b4, ⟨ps', dZ, tT⟩, am, ce⟩
 rw [dJ] at b1
 refine rEnd (run_end Tryz.func43 rfl (⟨_, rfl, rfl, T2, F2, h2, ⟨by rw [b4, kN], (fb.trans b3).mono (by omega), ⟨ns2, by rw [jH]; exact b1, kO.trans b2⟩, fun bL m hm => ?_⟩, fd.trans_new am (fun i hi => (fe i hi).symm), fun i hi => ?_⟩))
 ·rw [dZ] at hm; cases hm; have := bL _ hn; rw [innNd_low] at this; intro e; have : ps' = [] := by simpa [innNd] using e
  subst this; simp at tT; omega
 ·have := fd.size; rcases ce i hi with e | e
  ·exact fe i e
  ·exact .inr (by omega)
theorem delAt_all {p : Nat} {k : Bytes} {bt bk bp : Nat} : ∀ H, DelAt p k bt bk bp (H + 1)
 | 0 => delAt_leaf
 | h + 1 => delAt_inner (delAt_all h)
end
theorem getR_ok {es : Es} {k : Bytes} (h : (getR es k).2 = 0) : keyOk k ∧ hasE es k := by
 unfold getR at h
 by_cases hk : keyOk k
 ·rw [if_pos hk] at h; by_cases hh : hasE es k
  ·exact ⟨hk, hh⟩
  ·rw [getE_none hh] at h; simp at h
 ·rw [if_neg hk] at h; simp at h
section
variable {w : World} {p : Nat} {T : Tr} {nb : Int → Nat} {F : Nat → Prop}
set_option maxHeartbeats 4000000 in
theorem deleteT_ret (h : TreeA w p T nb F) {H : Nat} {ns : List Int} {es : Es} (hI : Inv T H ns es) (gM : es.length ≤ 900000) (k : Bytes) :
  Ret Tryz.prog 11 [ptr p 0, S k] w fun val w' => (val = I (getR es k).2 ∧ (getR es k).2 ≠ 0 ∧ Ext w w') ∨ (val = I 0 ∧ (getR es k).2 = 0 ∧ ∃ T' H' ns', TreeS p F w w' T' H' ns' (delE es k) ∧ EvoR T T' 0) := by
 have hz : sizeOk (T.size : Int) := size_ok h
 obtain ⟨z1, z2, -⟩ := id hz
 have d8 := hI.gl
 have ah := h.lt
 refine ret_of_run (e := [(0, _), (1, _)]) Tryz.func11 rfl Tryz.ntmps11 rfl rfl (qN rfl (rValP rfl rfl (pbx rfl rfl) ?_))
 rintro _ w1 ⟨bt, rfl, Ab, aa, aj⟩
 refine rValP rfl rfl (pbx rfl rfl) ?_
 rintro _ w2 ⟨bk, rfl, r6, ad, ay⟩
 have eV := aa.size
 have dH := ad.size
 have cD := ad.blk aj
 have bo : Ext w w2 := aa.trans ad
 have oE : ¬ F bt := fun e => by have := ah _ e; omega
 have pP : ¬ F bk := fun e => by have := ah _ e; omega
 refine zqa rfl (rEnd (run_seq (qN rfl (qV ((by first | exact yld U24 rfl rfl cD rfl | exact yld U24 rfl rfl ay rfl)) ?_))))
 refine qV ((by first | exact yld U9 rfl rfl cD rfl | exact yld U9 rfl rfl ay rfl)) ?_
 refine zqc [.tmp 9, .tmp 10] cf42 rfl (get_ret (h.ext bo) hI k) ?_
 rintro _ w3 ⟨rfl, ai⟩
 have gO := bo.trans ai
 refine zqm rfl (qV (yex rfl rfl) (qV (yex rfl rfl) (zqa rfl (zqa rfl (qM rfl (zqm rfl (qV (yne rfl rfl) (rEnd (run_if rfl (fun he => ?_) (fun he => ?_))))))))))
 ·refine qN rfl (zqm rfl (zqa rfl (rEnd (run_ret Tryz.func11 rfl ?_)))); exact ⟨_, rfl, .inl ⟨rfl, he, gO⟩⟩
 ·have EH : (getR es k).2 = 0 := by omega
  obtain ⟨hk, bc⟩ := getR_ok EH; have dC := ai.blk cD; have CY := ai.blk ay; have jS := ai.size; refine run_skip (qN rfl (rValP rfl rfl (pal (cs := [_]) ti80 rfl) ?_)); rintro _ w4 ⟨bp, rfl, A0, aX, bs⟩; refine qM rfl (qV (ymf (first := []) (caps := [.tmp 2, .tmp 3, .tmp 7]) rfl rfl) (rEffP rfl (zst ti80 rfl rfl rfl bs (by simp)) ?_)); rintro w5 ⟨bu, aY⟩; have jI : Ext w3 w5 := aX.trans_new aY (fun i hi => by omega); have gY := gO.trans jI; have h5 := h.ext gY; have tZ : ¬ F bp := fun e => by have := ah _ e; omega
  have vq : DelC w5 F p k bt bk bp := ⟨jI.blk dC, jI.blk CY, bu, oE, pP, tZ⟩; have ac := Ext.drew0 w5
  have hr : T.root ≠ 0 := fun e => by
   rcases hI.std with ⟨-, -, -, e'⟩ | ⟨e', -⟩
   ·rw [e'] at bc; have := hasE_lt bc; simp at this
   ·exact e' e
  have hP := hI.toP hr
  have jH : Ret Tryz.prog 43 [I T.root, ptr bt 0, ptr bk 0, ptr bp 0] w5.drew fun val w' => val = .tuple #[] ∧ ∃ T' F', TreeA w' p T' nb F' ∧ DelPost T H T.root [] none ns es k T' ∧ Kp F w5.drew w' ∧ ∀ i, F' i → F i ∨ w5.drew.heap.size ≤ i := by
   obtain ⟨h0, rfl⟩ : ∃ h0, H = h0 + 1 := ⟨H - 1, by have := hP.bn.pos; omega⟩; refine delAt_all h0 _ T nb F T.root [] none ns es (h5.ext ac) (vq.kp ac.kp (fun i hi => .inl hi)) hP.bn hP.nd (inB_top k) bc hI.giv hI.gnum hI.num (fun c ps hn => ?_); rcases hI.std with ⟨e, -⟩ | ⟨-, -, -, -, aS⟩
   ·exact absurd e hr
   ·have := aS _ hn; intro e; rw [e] at this; exact this rfl
  obtain ⟨mN5, mC5, mO5, gv5, kn5, kc5, ko5, O5⟩ := h5.opn; have uz := O5.blk; have kQ := vq.t; refine rEnd (run_seq (run_drawL [5] (fun w' => Ext w5 w') (by kernel_rfl) rfl (qL [5] 0 rfl (fun _ h=>(by first | exact yld U80 rfl rfl (h.blk bu) rfl | exact yld U80 rfl rfl (h.blk kQ) rfl | exact yld U80 rfl rfl (h.blk uz) rfl)) ac ?_))); refine qL [2, 3, 4, 5] 1 rfl (fun _ h=>(by first | exact yld U24 rfl rfl (h.blk bu) rfl | exact yld U24 rfl rfl (h.blk kQ) rfl | exact yld U24 rfl rfl (h.blk uz) rfl)) ac ?_; refine qL [3, 4, 5] 2 rfl (fun _ h=>ynk rfl) ac (qL [4, 5] 3 rfl (fun _ h=>yfa fl74_1 rfl) ac (qL [5] 4 rfl (fun _ h=>(by first | exact yld U3 rfl rfl (h.blk bu) rfl | exact yld U3 rfl rfl (h.blk kQ) rfl | exact yld U3 rfl rfl (h.blk uz) rfl)) ac ?_)); refine hLate [5] (by kernel_rfl) (by kernel_rfl) (qO 5 (nCall (i := 5) rfl rfl rfl (ycv' (args := [.tmp 22]) cf43 rfl rfl) (jH) ?_)); rintro _ w8 ⟨rfl, T2, F2, h2, ⟨u0, gV, cr, -⟩, am, ce⟩; refine ⟨trivial, ?_⟩; have yX : Kp F w w8 := (gY.trans ac).kp.trans am; have lg := ac.size; have CZ := gY.size; have fF : ∀ g, F2 g → F g ∨ w.heap.size ≤ g := fun g hg => (ce g hg).imp id (fun e => by omega); have js := (ac.kp.trans am).blk kQ oE; obtain ⟨mN8, mC8, mO8, gv8, kn8, kc8, ko8, O8⟩ := h2.opn; have m6 := O8.blk; have oH : ¬ F2 bt := fun e => (ce _ e).elim oE (by have := kQ.lt; omega); obtain ⟨nsx, cz, kO⟩ := cr; have mq := delE_len bc; have IJ : T.count = es.length := hI.cnt; refine qE (qN rfl (qV ((by first | exact yld U24 rfl rfl js rfl | exact yld U24 rfl rfl m6 rfl)) ?_)); refine qV (ynk rfl) (qV (yfa fl74_4 rfl) (qV ((by first | exact yld U3 rfl rfl js rfl | exact yld U3 rfl rfl m6 rfl)) ?_)); refine qV (ysb rfl rfl (by omega)) (qV (ynk rfl) (qV (yfa fl74_4 rfl) (rEffP rfl (zst ti3 rfl rfl rfl m6 (by simp [trCs])) ?_))); rintro w9 ⟨dg, aH⟩; have e9 : (T2.count : Int) - 1 = ((T.count - 1 : Nat) : Int) := by rw [u0]; omega
  rw [e9] at dg; have h9 := O8.setB w9 T2.root (T.count - 1) (by simpa [trCs] using dg) aH; have mF : Evo T { T2 with root := T2.root, count := T.count - 1 } 0 := ⟨gV.size, gV.old, gV.root, gV.len, gV.giv, gV.nod, ⟨gV.srt.rise, gV.srt.free⟩, gV.chg⟩; have xo : InvP { T2 with root := T2.root, count := T.count - 1 } H nsx (delE es k) := hP.step mF cz kO (by show T.count - 1 = _; omega); have D0 := aH.blk js (fun e => oH (by rw [e]; exact O8.fp.1)); refine rEnd (Run.qb (e := [(2, _), (4, _)]) ?_); refine qN rfl (qV (yld U24 rfl rfl D0 rfl) (zqc [.tmp 31] cf48 rfl (settle_ret h9 xo) ?_)); rintro _ w10 ⟨rfl, T3, H3, ns3, F3, h3, jY, GE, wd, aA, nG⟩; refine qM rfl (zqa rfl (rEnd (run_ret Tryz.func11 rfl ?_))); have D1 : Kp F2 w8 w9 := aH.mono' (fun i hi => by rw [hi]; exact O8.fp.1); have mA := yX.size; have pJ := aH.size; refine ⟨_, rfl, .inr ⟨rfl, EH, T3, H3, ns3, ⟨_, F3, h3, jY, (yX.trans_new (D1.trans aA) (fun i hi => (fF i hi).symm)), fun g hg => ?_⟩, mF.toR.trans wd⟩⟩; rcases nG g hg with e | e
  ·exact fF g e
  ·exact .inr (by omega)
end
theorem Inv.pos {T : Tr} {H : Nat} {ns : List Int} {es : Es} (h : Inv T H ns es) (hz : sizeOk (T.size : Int)) : (T.root = 0 ↔ es = []) ∧ (es ≠ [] → 1 ≤ H) := by
 rcases h.std with ⟨h0, -, -, rfl⟩ | ⟨h0, h1, h2, -, h3⟩
 ·exact ⟨⟨fun _ => rfl, fun _ => h0⟩, fun e => absurd rfl e⟩
 ·refine ⟨⟨fun e => absurd e h0, fun e => ?_⟩, fun _ => h1⟩; have := (bn_cnts hz h2 h3).1; rw [e] at this; simp at this
section
variable {w : World}
set_option maxHeartbeats 1000000 in
theorem awake_ret (w : World) : Ret Tryz.prog 16 [] w fun v w' => v = .bool true ∧ Ext w w' := by
 have hz : sizeOk ((512 : Nat) : Int) := by unfold sizeOk; decide
 refine ret_of_run (e := []) Tryz.func16 rfl Tryz.ntmps16 rfl rfl (qN rfl (zqa rfl (qM rfl (zqc [.const (Value.int .i64 512)] cf8 rfl (newT_ret 512) ?_))))
 rintro v1 w1 ⟨aa, iG⟩
 obtain ⟨p, F, rfl, h1, hF⟩ : ∃ p F, v1 = .tuple #[ptr p 0, I 0] ∧ TreeA w1 p (Tr0 512) (fun _ => 0) F ∧ ∀ k, F k → w.heap.size ≤ k := by
  rcases iG with ⟨-, h⟩ | ⟨h, -⟩
  ·exact h
  ·exact absurd hz h
 refine zqm rfl (qV (yex rfl rfl) (qV (yex rfl rfl) (zqa rfl (zqa rfl (qM rfl (zqm rfl (rValP rfl rfl (pbs (parts := [(0, .const (Value.int .i64 9)), (1, .const (Value.int .i64 7))]) (cs := [_, _]) (zs := [Value.int .i64 0, Value.int .i64 0]) U34 ti3 rfl (by kernel_rfl) rfl rfl rfl (by decide)) ?_)))))))
 rintro _ w2 ⟨b2, rfl, ⟨cz, ad, ay⟩, aV⟩
 have bi : giveOk (Tr0 512) [9, 7] := ⟨by decide, fun x hx => ⟨by simp at hx; omega, rfl, rfl, List.not_mem_nil⟩⟩
 have eV := aa.size
 have dH := ad.size
 refine zqc [.tmp 11, .tmp 12] cf50 rfl (give_ret (h1.ext ad) (inv0 512) (l := [9, 7]) aV.rd (by decide)) ?_
 rintro v3 w3 iI
 obtain ⟨rfl, ak, F3, h3, nG⟩ : v3 = I 0 ∧ Kp F w2 w3 ∧ ∃ F', TreeA w3 p { Tr0 512 with given := sortZ ((Tr0 512).given ++ [9, 7]) } (fun _ => 0) F' ∧ ∀ k, F' k → F k ∨ w2.heap.size ≤ k := by
  rcases iI with ⟨h, -, h', kG⟩ | ⟨-, h, -⟩
  ·exact ⟨h, h', kG⟩
  ·exact absurd bi h
 have jY := (inv0 512).give bi
 refine zqa rfl (qM rfl (zqm rfl (rCall rfl rfl (yc (args := [.tmp 14, .const (Value.string (⟨#[97]⟩)), .const (Value.string (⟨#[120]⟩))]) cf38 rfl) (putT_ret h3 jY (by simp) _ _ (by decide) (by decide)) ?_)))
 rintro v4 w4 D2
 obtain ⟨rfl, T4, H4, ns4, nb4, F4, h4, ua, ax, Ej, gz⟩ : v4 = I 0 ∧ ∃ T4 H4 ns4 nb4 F4, TreeA w4 p T4 nb4 F4 ∧ Inv T4 H4 ns4 [([97], [120])] ∧ Kp F3 w3 w4 ∧ (∀ k, F4 k → F3 k ∨ w3.heap.size ≤ k) ∧ EvoR _ T4 (0 + 3) := by
  rcases D2 with ⟨-, h, -⟩ | ⟨-, -, h, -⟩ | ⟨h, -, -, T4, H4, ns4, ⟨nb4, F4, h1, h2, h3, h4⟩, h5⟩
  ·exact absurd (by unfold may keyOk mostE Tr0; decide) h
  ·rw [show (sortZ ((Tr0 512).given ++ [9, 7])).length = 2 by rw [sortZ_len]; rfl] at h; omega
  ·exact ⟨h, T4, H4, ns4, nb4, F4, h1, h2, h3, h4, h5⟩
 refine zqa rfl (qM rfl (zqm rfl (rCall rfl rfl (yc (args := [.tmp 17, .const (Value.string (⟨#[97]⟩))]) cf42 rfl) (get_ret h4 ua _) ?_)))
 rintro _ w5 ⟨rfl, aF⟩
 have jT : sizeOk (T4.size : Int) := by rw [(show Evo _ _ _ from gz).size]; exact hz
 have Hz := (Inv.cnts jT ua).2
 have IK := (ua.pos jT).2 (by simp)
 have hH : H4 = 1 := by simp at Hz; omega
 have qs : T4.count = 1 := by rw [ua.cnt]; rfl
 have h5 := h4.ext aF
 rw [show getR [([97], [120])] [97] = ([120], 0) by rfl]
 refine zqm rfl (qV (yex rfl rfl) (qV (yex rfl rfl) (zqa rfl (zqa rfl (qM rfl (zqm rfl (qV (yeq rfl rfl) (rTrue (by (first | rfl | assumption | omega | decide)) ?_))))))))
 refine zqm rfl (zqm rfl (qV (yeq rfl rfl) (rTrue (by (first | rfl | assumption | omega | decide)) ?_)))
 refine qV (ypT rfl rfl) (zqm rfl (zqm rfl (qV (yeq rfl rfl) (rTrue (by (first | rfl | assumption | omega | decide)) ?_))))
 refine qV (ypT rfl rfl) (zqm rfl (zqm rfl (qV (yeq rfl rfl) (rTrue (by (first | rfl | assumption | omega | decide)) ?_))))
 refine qV (ypT rfl rfl) (zqm rfl (zqm rfl (qV (yeqS rfl rfl) (rTrue (by (first | rfl | assumption | omega | decide)) ?_))))
 refine qV (ypT rfl rfl) (zqm rfl (zqm rfl (zqc [.tmp 40] cf14 rfl (lenT_ret h5) ?_)))
 rintro _ w6 ⟨rfl, rfl⟩
 rw [qs]
 refine qV (yeq rfl rfl) (rTrue (by (first | rfl | assumption | omega | decide)) ?_)
 refine qV (ypT rfl rfl) (zqm rfl (zqm rfl (zqc [.tmp 45] cf20 rfl (depth_ret h5 ua (by omega)) ?_)))
 rintro _ w6 ⟨rfl, rfl⟩
 rw [hH]
 refine qV (yeq rfl rfl) (rTrue (by (first | rfl | assumption | omega | decide)) ?_)
 refine qV (ypT rfl rfl) (zqa rfl (rEnd (Run.qb (e := [(0, _)]) ?_)))
 refine run_ret Tryz.func16 rfl (⟨_, rfl, rfl, ?_⟩)
 have t6 : ∀ k, F3 k → w.heap.size ≤ k := fun k hk => (nG k hk).elim (hF k) (fun e => by omega)
 exact (((aa.trans ad).trans_new ak (fun i hi => hF i hi)).trans_new ax (fun i hi => t6 i hi)).trans aF
theorem has_ret {lv : Value} {l : List Int} (hR : Rd w lv 1 l.length (l.map I)) (hl : l.length ≤ 17592186044416) (no : Int) : Ret Tryz.prog 33 [lv, I no] w fun v w' => v = .bool (decide (no ∈ l)) ∧ w' = w := by
 obtain ⟨a, c, rfl, -⟩ := hR.shape
 refine ret_of_run (e := [(0, _), (1, _)]) Tryz.func33 rfl Tryz.ntmps33 rfl rfl (qN rfl (zqa rfl (rEnd (run_seq (qN rfl (zqa rfl (rEnd (run_block (zqu (α := Nat) (0) (fun i => [(0, .slice a l.length c), (1, I no), (5, I (i : Int))]) (fun i w' => w' = w ∧ i ≤ l.length ∧ no ∉ l.take i) (fun i => l.length - i) ?hI ?hround)))))))))
 case hI => exact ⟨rfl, Nat.zero_le _, by simp⟩
 case hround =>
  rintro i w1 ⟨rfl, hi, bF⟩ ih
  try dsimp only
  refine run_seq (qN rfl (zqm rfl (zqm rfl (qV (yln U34 rfl) (qV (ylt rfl rfl) (rEnd (run_if rfl (fun ah => ?_) (fun ah => ?_))))))))
  ·have af : i < l.length := by omega
   obtain ⟨lb, lo, y, rfl, hy⟩ := rd_getI hR af; refine run_skip (run_seq (run_block (qN rfl (zqm rfl (zqm rfl (qV (yis U34 ti3 rfl rfl (by omega)) (qV (yldc U3 rfl rfl (rd_intT hR af hy)) (zqm rfl (qV (yeq rfl rfl) (rEnd (run_if rfl (fun he => ?_) (fun he => ?_))))))))))))
   ·refine qN rfl (zqa rfl (rEnd (run_ret Tryz.func33 rfl ?_))); exact ⟨_, rfl, by rw [decide_eq_true (by rw [← he]; exact List.mem_of_getElem? hy)]; rfl, rfl⟩
   ·refine run_skip (run_inBlock (run_reg rfl (zqm rfl (zqd rfl rfl (zqa rfl (rEnd ((ih (i + 1) _ ⟨rfl, by omega, fun hh => ?_⟩ (by omega)).qb))))))); rcases (mem_take_succ hy).1 hh with hx | hx
    ·exact bF hx
    ·exact he hx.symm
  ·rw [List.take_of_length_le (by omega)] at bF; refine run_exit rfl (qN rfl (zqa rfl (rEnd (run_ret Tryz.func33 rfl ?_)))); exact ⟨_, rfl, by rw [decide_eq_false bF]; rfl, rfl⟩
theorem page_ret {lv : Value} {l : Pgs} (hR : Rd w lv 2 l.length (pgC l)) (hl : l.length ≤ 17592186044416) (no : Int) : Ret Tryz.prog 32 [lv, I no] w fun v w' => v = .bool (decide (no ∈ l.map (·.1))) ∧ w' = w := by
 obtain ⟨a, c, rfl, -⟩ := hR.shape
 refine ret_of_run (e := [(0, _), (1, _)]) Tryz.func32 rfl Tryz.ntmps32 rfl rfl (qN rfl (zqa rfl (rEnd (run_seq (qN rfl (zqa rfl (rEnd (run_block (zqu (α := Nat) (0) (fun i => [(0, .slice a l.length c), (1, I no), (5, I (i : Int))]) (fun i w' => w' = w ∧ i ≤ l.length ∧ no ∉ (l.take i).map (·.1)) (fun i => l.length - i) ?hI ?hround)))))))))
 case hI => exact ⟨rfl, Nat.zero_le _, by simp⟩
 case hround =>
  rintro i w1 ⟨rfl, hi, bF⟩ ih
  try dsimp only
  refine run_seq (qN rfl (zqm rfl (zqm rfl (qV (yln U33 rfl) (qV (ylt rfl rfl) (rEnd (run_if rfl (fun ah => ?_) (fun ah => ?_))))))))
  ·have af : i < l.length := by omega
   obtain ⟨lb, lo, y, rfl, hy⟩ := rd_pgs hR rfl af; refine run_skip (run_seq (run_block (qN rfl (zqm rfl (zqm rfl (qV (yis U33 ti54 rfl rfl (by omega)) (qV (yfa fl54_0 rfl) (qV (yldc U3 rfl rfl (rd_pg0 hR af hy)) (zqm rfl (qV (yeq rfl rfl) (rEnd (run_if rfl (fun he => ?_) (fun he => ?_)))))))))))))
   ·refine qN rfl (zqa rfl (rEnd (run_ret Tryz.func32 rfl ?_))); exact ⟨_, rfl, by rw [decide_eq_true (List.mem_map.2 ⟨y, List.mem_of_getElem? hy, he⟩)]; rfl, rfl⟩
   ·refine run_skip (run_inBlock (run_reg rfl (zqm rfl (zqd rfl rfl (zqa rfl (rEnd ((ih (i + 1) _ ⟨rfl, by omega, fun hh => ?_⟩ (by omega)).qb))))))); obtain ⟨x, hx, e⟩ := List.mem_map.1 hh; rcases (mem_take_succ hy).1 hx with hx | rfl
    ·exact bF (List.mem_map.2 ⟨x, hx, e⟩)
    ·exact he e
  ·rw [List.take_of_length_le (by omega)] at bF; refine run_exit rfl (qN rfl (zqa rfl (rEnd (run_ret Tryz.func32 rfl ?_)))); exact ⟨_, rfl, by rw [decide_eq_false bF]; rfl, rfl⟩
theorem pagesL_ret {lv : Value} {l : Pgs} (hR : Rd w lv 2 l.length (pgC l)) (hl : l.length ≤ 1000000) : Ret Tryz.prog 29 [lv] w fun v w' => Ext w w' ∧ Sl w' v 54 2 l.length (pgC l) ∧ ∀ g, v.ownBlock = some g → w.heap.size ≤ g := by
 obtain ⟨a, c, rfl, -⟩ := hR.shape
 have eP : maxLen = 9223372036854775807 := rfl
 refine ret_of_run (e := [(0, _)]) Tryz.func29 rfl Tryz.ntmps29 rfl rfl (qN rfl (zqa rfl (qM rfl (zqa rfl (rEnd (run_seq (qN rfl (zqa rfl (rEnd (run_block (zqu (α := Nat × Value) ((0, .slice none 0 0)) (fun x => [(0, .slice a l.length c), (3, x.2), (4, I (x.1 : Int))]) (fun x w' => x.1 ≤ l.length ∧ Ext w w' ∧ Sl w' x.2 54 2 (l.take x.1).length (pgC (l.take x.1)) ∧ ∀ g, x.2.ownBlock = some g → w.heap.size ≤ g) (fun x => l.length - x.1) ?hI ?hround)))))))))))
 case hI => exact ⟨Nat.zero_le _, Ext.refl _, Sl.nil _ _ _, fun g hg => by simp [Value.ownBlock] at hg⟩
 case hround =>
  rintro ⟨j, ov⟩ w1 ⟨hj, aa, eI, dK⟩ ih; dsimp only at hj eI dK; have wQ : (l.take j).length = j := by rw [List.length_take]; omega
  try dsimp only
  refine run_seq (qN rfl (zqm rfl (zqm rfl (qV (yln U52 rfl) (qV (ylt rfl rfl) (rEnd (run_if rfl (fun ah => ?_) (fun ah => ?_))))))))
  ·have iD : j < l.length := by omega
   obtain ⟨lb, lo, y, rfl, hy⟩ := rd_pgs hR rfl iD; have hg : Ext w w1.drew := aa.trans (Ext.drew0 w1); have eV := aa.size; refine run_skip (run_seq (run_block (run_draw (fun w' => Ext w w') (by kernel_rfl) rfl (zqt 0 rfl (ymv rfl) hg (zqt 1 rfl (ymv rfl) hg (zqt 2 rfl (ymv rfl) hg (zqt 3 rfl (yis U52 ti55 rfl rfl (by omega)) hg (zqt 4 rfl (yfa fl55_0 rfl) hg (zqt 6 rfl (ymv rfl) hg (zqt 7 rfl (ymv rfl) hg (zqt 8 rfl (yis U52 ti55 rfl rfl (by omega)) hg (zqt 9 rfl (yfa fl55_1 rfl) hg (qT 5 rfl (fun _ h=>yldc U3 rfl rfl (rd_pg0 (hR.ext h) iD hy)) hg ?_))))))))))))); refine qT 10 rfl (fun _ h=>yldc U9 rfl rfl (rd_pg1 (hR.ext h) iD hy)) hg (zqt 11 rfl (ybd (parts := [(0, .tmp 16), (1, .tmp 21)]) (cs := [_, _]) ti54 rfl sp54 rfl rfl) hg (qO 12 (nValP (i := 12) rfl rfl rfl (pbs (parts := [(0, .tmp 22)]) (cs := [_, _]) (zs := [Value.int .i64 0, Value.string ⟨#[]⟩]) U33 ti54 rfl (by kernel_rfl) rfl rfl rfl (by decide)) ?_))); rintro _ w2 ⟨b2, rfl, ⟨cz, ad, ay⟩, aV⟩; refine ⟨hg.trans ad, ?_⟩; have HA := (hg.trans ad).size; refine qO 13 (nValP (i := 13) rfl rfl rfl (pap U33 ti54 rfl (by decide) rfl rfl (eI.ext ((Ext.drew0 w1).trans ad)) aV.rd (by intro c hc; simp at hc; rcases hc with rfl | rfl <;> rfl) (by omega) (by omega)) ?_); rintro ov2 w3 ⟨aJ, ak, du, -⟩; refine ⟨(hg.trans ad).trans_new ak (fun i hi => dK i hi), ?_⟩; refine zqt 14 rfl (yas rfl) ((hg.trans ad).trans_new ak (fun i hi => dK i hi)) (qE (run_inBlock (run_reg rfl (zqm rfl (zqd rfl rfl (zqa rfl (rEnd ((ih (j + 1, ov2) w3 ⟨by dsimp only; omega, (hg.trans ad).trans_new ak (fun i hi => dK i hi), ?_, fun g aw => ?_⟩ (by dsimp only; omega)).qb))))))))
   ·obtain ⟨h1, h2⟩ := List.getElem?_eq_some_iff.1 hy; dsimp only; rw [List.take_succ_eq_append_getElem h1, h2, pgC_app, List.length_append]; exact aJ
   ·rcases du g aw with e | e
    ·exact dK g e
    ·omega
  ·have HB : j = l.length := by omega
   subst HB; rw [List.take_length] at eI; refine run_exit rfl (qN rfl (zqm rfl (zqa rfl (rEnd (run_ret Tryz.func29 rfl ?_))))); exact ⟨_, rfl, aa, eI, dK⟩
end
theorem LoadOk.det {z : Nat} {root : Int} {l : Pgs} {H H' : Nat} {ns ns' : List Int} {es es' : Es} (hz : sizeOk (z : Int)) (h : LoadOk z root l H ns es) (h' : LoadOk z root l H' ns' es') : H = H' ∧ ns = ns' ∧ es = es' := by
 rcases h with ⟨h1, rfl, rfl, rfl, rfl⟩ | ⟨h0, s, hl⟩
 ·rcases h' with ⟨-, -, rfl, rfl, rfl⟩ | ⟨h0, -⟩
  ·exact ⟨rfl, rfl, rfl⟩
  ·exact absurd h1 h0
 ·rcases h' with ⟨h1, -⟩ | ⟨-, s', -⟩
  ·exact absurd h1 h0
  ·exact bn_det hz s.bn s'.bn
section
variable {w : World}
end
def Kids32 (N : Nodes) : Prop := ∀ x n, N x = some n → ∀ c ∈ n.kids, c < 4294967296
theorem TreeA.kids32 {w : World} {p : Nat} {T : Tr} {nb : Int → Nat} {F : Nat → Prop} (h : TreeA w p T nb F) : Kids32 T.nodes := fun x n hn => by
 obtain ⟨q, -, hM, -⟩ := h.node hn
 exact hM.bd.cs
theorem nodup_rev {α : Type} {l : List α} (h : l.Nodup) : l.reverse.Nodup := by
 unfold List.Nodup at h ⊢
 rw [List.pairwise_reverse]
 exact h.imp fun h => h.symm
structure OwnP (T : Tr) (ns : List Int) (l : Pgs) : Prop where
 nd : (l.map (·.1)).Nodup
 mem : ∀ x, x ∈ l.map (·.1) ↔ x ∈ ns
 txt : ∀ y ∈ l, y.2 = encAt T.size T.nodes y.1
 len : l.length = ns.length
theorem ownP_pgs {T : Tr} {ns : List Int} (hn : ns.Nodup) : OwnP T ns (pgs T.size T.nodes ns fun _ => true) :=
 ⟨(pgs_rise hn).nodup1, fun x => by rw [pgs_fst, List.mem_filter, sortZ_mem]; simp, fun y hy => (pgs_mem.1 hy).2.2, pgs_all_len⟩
theorem OwnP.rev {T : Tr} {ns : List Int} {l : Pgs} (h : OwnP T ns l) : OwnP T ns l.reverse :=
 ⟨by rw [List.map_reverse]; exact nodup_rev h.nd, fun x => by rw [List.map_reverse, List.mem_reverse]; exact h.mem x, fun y hy => h.txt y (List.mem_reverse.1 hy), by rw [List.length_reverse]; exact h.len⟩
section
variable {T : Tr} {H : Nat} {ns : List Int} {es : Es} {l : Pgs}
theorem OwnP.nodes (h : OwnP T ns l) (hI : Inv T H ns es) (hz : sizeOk (T.size : Int)) (hk : Kids32 T.nodes) : nodesOf T.size l = T.nodes := by
 funext x
 by_cases hx : x ∈ l.map (·.1)
 ·obtain ⟨y, hy, rfl⟩ := List.mem_map.1 hx; rw [nodesOf_mem h.nd hy]; obtain ⟨n, hn⟩ := Option.ne_none_iff_exists'.1 ((hI.mem y.1).2 ((h.mem y.1).1 hx)); have bi := hI.ok hz hn; rw [hn]; unfold ndOf; rw [h.txt y hy]; unfold encAt; rw [hn]; dsimp only; rw [if_pos (enc_length bi)]; exact dec_enc hz ⟨bi, hk _ n hn⟩
 ·rw [nodesOf_none hx]
  cases e : T.nodes x with
  | none => rfl
  | some n => exact absurd ((h.mem x).2 ((hI.mem x).1 (by rw [e]; simp))) hx
theorem OwnP.ok (h : OwnP T ns l) (hI : Inv T H ns es) (hz : sizeOk (T.size : Int)) (hk : Kids32 T.nodes) : LoadOk T.size T.root l H ns es := by
 have hN := h.nodes hI hz hk
 rcases hI.std with ⟨h0, h1, h2, h3⟩ | ⟨h0, h1, hB, bj, hr⟩
 ·refine .inl ⟨h0, ?_, h1, h2, h3⟩; exact List.eq_nil_of_length_eq_zero (by rw [h.len, h2]; rfl)
 ·refine .inr ⟨h0, ⟨by rw [hN]; exact hB, bj, by simp, fun n hn => ?_⟩, h.len.symm⟩; rw [hN] at hn
  simpa using hr n hn
theorem OwnP.nums (h : OwnP T ns l) (hI : Inv T H ns es) (hz : sizeOk (T.size : Int)) : numsOk (T.size : Int) T.root l := by
 refine ⟨hz, ?_, h.nd, fun x hx => hI.num x.1 ((hI.mem x.1).2 ((h.mem x.1).1 (List.mem_map.2 ⟨x, hx, rfl⟩)))⟩
 rcases hI.std with ⟨h0, -⟩ | ⟨h0, -, hB, -, -⟩
 ·omega
 ·have := hI.num T.root ((hI.mem T.root).2 hB.mem); omega
theorem OwnP.short (h : OwnP T ns l) (hI : Inv T H ns es) (hz : sizeOk (T.size : Int)) : ∀ y ∈ l, y.2.length ≤ 140737488355328 := fun y hy => by
 rw [h.txt y hy]
 unfold encAt
 cases e : T.nodes y.1 with
 | none => simp
 | some n =>
   dsimp only; rw [enc_length (hI.ok hz e)]; have := hz.2.1; omega
theorem Inv.rise (hI : Inv T H ns es) (hz : sizeOk (T.size : Int)) : Rise (es.map (·.1)) := by
 rcases hI.std with ⟨-, -, -, rfl⟩ | ⟨h0, h1, hB, bj, hr⟩
 ·exact List.Pairwise.nil
 ·exact hB.keys.2
end
end Go.Proofs.YtocnhaoilnojmaaGreat
