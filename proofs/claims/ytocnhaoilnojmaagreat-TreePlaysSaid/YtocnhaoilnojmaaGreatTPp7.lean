/- Texts PgC, TrLd, R8A, R8C, R8B, R8D, R8E, TrKe, TrDl, one behind the other (what the statement TreePlays does not use is left out). -/
import Derived.Test.YtocnhaoilnojmaaGreatTPp1
import Derived.Test.YtocnhaoilnojmaaGreatTPp5
import Derived.Test.YtocnhaoilnojmaaGreatTPp4
import Derived.Test.YtocnhaoilnojmaaGreatTPp3
import Derived.Test.YtocnhaoilnojmaaGreatTPp6
namespace Go.Proofs.YtocnhaoilnojmaaGreat
open Go Go.RowKit
set_option linter.all false
set_option maxRecDepth 100000
structure DcS (w : World) (b4 b5 b6 : Nat) (r : Bytes) (bad : Bool) : Prop where
 r : Blk w b4 [S r] 9
 b : Blk w b5 [.bool bad] 4
 f : Blk w b6 [.func (.func 81) #[] #[ptr b5 0, ptr b4 0]] 122
 n1 : b4 ≠ b5
 n2 : b6 ≠ b4 ∧ b6 ≠ b5
theorem DcS.kp {S : Nat → Prop} {w w' : World} {b4 b5 b6 : Nat} {r : Bytes} {bad : Bool} (h : DcS w b4 b5 b6 r bad) (k : Kp S w w') (h1 : ¬ S b4) (h2 : ¬ S b5) (h3 : ¬ S b6) : DcS w' b4 b5 b6 r bad := ⟨k.blk h.r h1, k.blk h.b h2, k.blk h.f h3, h.n1, h.n2⟩
theorem DcS.ext {w w' : World} {b4 b5 b6 : Nat} {r : Bytes} {bad : Bool} (h : DcS w b4 b5 b6 r bad) (k : Ext w w') : DcS w' b4 b5 b6 r bad := h.kp k id id id
theorem text_ret {w : World} {b4 b5 b6 : Nat} {r r' t : Bytes} {bad bad' : Bool} (h : DcS w b4 b5 b6 r bad) (n : Nat) (hn : n ≤ 1000000) (hr : r.length ≤ 1000000) (e : tx n r bad = (t, r', bad')) :
  Ret Tryz.prog 81 [I (n : Int), ptr b5 0, ptr b4 0] w fun v w' => v = S t ∧ DcS w' b4 b5 b6 r' bad' ∧ Kp (fun k => k = b4 ∨ k = b5) w w' := by
 have hBr := h.r
 have hBb := h.b
 have hne := h.n1
 have hbd : ∀ w1, Blk w1 b5 [.bool true] 4 → Kp (fun k => k = b5) w w1 → DcS w1 b4 b5 b6 r true ∧ Kp (fun k => k = b4 ∨ k = b5) w w1 := fun w1 hB1 hk1 => ⟨⟨hk1.blk h.r hne, hB1, hk1.blk h.f h.n2.2, h.n1, h.n2⟩, hk1.mono' (fun k e => .inr e)⟩
 refine ret_of_run (e := [(0, _), (1, _), (2, _)]) Tryz.func81 rfl Tryz.ntmps81 rfl rfl (qN rfl (qa rfl (rEnd (run_seq (qN rfl (qV ((by first | exact yld U4 rfl rfl hBr rfl | exact yld U4 rfl rfl hBb rfl)) ?_))))))
 refine qm rfl (rVal_bool (fun hbad => ?_) (fun hbad => ?_))
 ·rw [tx_bad (.inl hbad)] at e
  cases e
  refine qS (qS (qS (qS (qV (ypT rfl rfl) (rEffP rfl (zst ti4 rfl rfl rfl hBb (by simp)) ?_)))))
  rintro w1 ⟨hB1, hk1⟩
  refine qM rfl (qV (yld U4 rfl rfl hB1 rfl) (rEnd (run_true rfl (qN rfl (qa rfl (rEnd (run_ret Tryz.func81 rfl ?_)))))))
  exact ⟨_, rfl, rfl, hbd w1 hB1 hk1⟩
 ·subst hbad
  refine qm rfl (qV ((by first | exact yld U9 rfl rfl hBr rfl | exact yld U9 rfl rfl hBb rfl)) ?_)
  refine qV (ylnS U9 rfl) (qV (ygt rfl rfl) (rVal_if (fun h1 => ?_) (fun h1 => ?_)))
  ·rw [tx_bad (.inr (by omega))] at e
   cases e
   refine qV (ypF rfl rfl) (rEffP rfl (zst ti4 rfl rfl rfl hBb (by simp)) ?_)
   rintro w1 ⟨hB1, hk1⟩
   refine qM rfl (qV (yld U4 rfl rfl hB1 rfl) (rEnd (run_true rfl (qN rfl (qa rfl (rEnd (run_ret Tryz.func81 rfl ?_)))))))
   exact ⟨_, rfl, rfl, hbd w1 hB1 hk1⟩
  ·rw [tx_ok (by omega)] at e
   cases e
   refine qV (ypF rfl rfl) (rEffP rfl (zst ti4 rfl rfl rfl hBb (by simp)) ?_)
   rintro w1 ⟨hB1, hk1⟩
   have hBr1 := hk1.blk hBr hne
   refine qM rfl (qV ((by first | exact yld U4 rfl rfl hB1 rfl | exact yld U4 rfl rfl hBr1 rfl)) ?_)
   refine rEnd (run_false rfl (run_skip (qN rfl (qV ((by first | exact yld U9 rfl rfl hB1 rfl | exact yld U9 rfl rfl hBr1 rfl)) ?_))))
   refine qm rfl (qV (yslSt U9 rfl rfl (by omega)) (qa rfl (qM rfl (qV ((by first | exact yld U9 rfl rfl hB1 rfl | exact yld U9 rfl rfl hBr1 rfl)) ?_))))
   refine qm rfl (qV (yslSf U9 rfl rfl (by omega)) (rEffP rfl (zst ti9 rfl rfl rfl hBr1 (by simp)) ?_))
   rintro w2 ⟨hB2, hk2⟩
   refine qM rfl (qm rfl (qa rfl (rEnd (run_ret Tryz.func81 rfl ?_))))
   exact ⟨_, rfl, rfl, ⟨hB2, hk2.blk hB1 (Ne.symm hne), hk2.blk (hk1.blk h.f h.n2.2) h.n2.1, h.n1, h.n2⟩, (hk1.mono' (fun k e => .inr e)).trans (hk2.mono' (fun k e => .inl e))⟩
theorem or_byte (a : Nat) (b : UInt8) : a * 256 ||| b.toNat = 256 * a + b.toNat := by
 have := Nat.two_pow_add_eq_or_of_lt (i := 8) (b := b.toNat) b.toNat_lt a
 rw [Nat.mul_comm a 256]
 exact this.symm
theorem number_ret {w : World} {b4 b5 b6 : Nat} {r r' t : Bytes} {bad bad' : Bool} (h : DcS w b4 b5 b6 r bad) (k : Nat) (hk : k ≤ 4) (hr : r.length ≤ 1000000) (e : tx k r bad = (t, r', bad')) :
  Ret Tryz.prog 82 [I (k : Int), ptr b6 0] w fun v w' => v = I ((valB t : Nat) : Int) ∧ DcS w' b4 b5 b6 r' bad' ∧ Kp (fun k => k = b4 ∨ k = b5) w w' := by
 have hBf := h.f
 have htl := tx_le e
 refine ret_of_run (e := [(0, _), (1, _)]) Tryz.func82 rfl Tryz.ntmps82 rfl rfl (qN rfl (qa rfl (rEnd (run_seq (qN rfl (qV (yld U122 rfl rfl hBf rfl) (qm rfl (rCall rfl rfl (ycv' (args := [.tmp 7]) cf81 rfl rfl) (text_ret h k (by omega) hr e) ?_))))))))
 rintro _ w1 ⟨rfl, h1, hk1⟩
 refine rValP rfl rfl (pS2B U9 U123 U5 rfl) ?_
 rintro _ w2 ⟨b9, cap, rest, rfl, ⟨hb9, hx2, hB9⟩, hcap⟩
 refine qV (yln U123 rfl) (qm rfl (rEnd (run_block (run_loop (α := Nat) (0) (fun i => [(3, I ((valB (t.take i) : Nat) : Int)), (9, .slice (some ⟨b9, 0, none⟩) t.length cap), (10, I (t.length : Int)), (11, I (i : Int))]) (fun i w' => w' = w2 ∧ i ≤ t.length) (fun i => t.length - i) (by repeat (first | exact Sub.nil | refine Sub.cons rfl ?_)) ?hI ?hround))))
 case hI => exact ⟨rfl, Nat.zero_le _⟩
 case hround =>
  rintro i w3 ⟨rfl, hi⟩ ih
  have hvb := valB_lt (t.take i)
  have hvp : 256 ^ (t.take i).length ≤ 256 ^ 4 := Nat.pow_le_pow_right (by omega) (by rw [List.length_take]; omega)
  have hvb2 : valB (t.take i) < 4294967296 := by omega
  try dsimp only
  refine qN rfl (qV (ylt rfl rfl) (rEnd (run_seq (run_if rfl (fun hlt => ?_) (fun hlt => ?_)))))
  ·have hi' : i < t.length := by omega
   have hti := List.getElem?_eq_getElem hi'
   have hcell : (t.map u8v ++ rest)[0 + i * 1]? = some (u8v t[i]) := by
    rw [Nat.zero_add, Nat.mul_one, List.getElem?_append_left (by simpa using hi'), List.getElem?_map, hti]; rfl
   have hub := t[i].toNat_lt
   refine run_skip (run_seq (run_block (qN rfl (qV (yis U123 ti5 rfl rfl (by omega)) (qV (yld U5 rfl rfl hB9 hcell) ?_)))))
   unfold u8v
   refine qa rfl (rEnd (run_reg rfl (qm rfl (qV (ysl 8 256 rfl rfl (by decide) rfl (by omega)) (qm rfl (qV ((by first | exact ycvB rfl U5 U3 (by decide) | exact ycvSi64 rfl U5 U3 (by omega))) ?_))))))
   refine qV (yor64 rfl rfl (by omega) (by omega)) (qa rfl (rEnd (run_inBlock (run_reg rfl (qV (yad rfl rfl (by omega)) (qm rfl (rEnd ?_)))))))
   rw [or_byte, ← valB_snoc, ← List.take_succ_eq_append_getElem hi']
   exact (ih (i + 1) _ ⟨rfl, by omega⟩ (by omega)).qb
  ·have : i = t.length := by omega
   subst this
   rw [List.take_length]
   refine run_exit rfl (qN rfl (qm rfl (qa rfl (rEnd (run_ret Tryz.func82 rfl ?_)))))
   exact ⟨_, rfl, rfl, h1.ext hx2, hk1.trans hx2.kp⟩
structure DcN (w0 w : World) (b4 b5 b6 b9 : Nat) (lf : Bool) (ks vs : List Bytes) (cs : List Nat) (kv vv cv : Value) : Prop where
 blk : Blk w b9 [.bool lf, kv, vv, cv] 84
 k : Sl w kv 9 1 ks.length (ks.map S)
 v : Sl w vv 9 1 vs.length (vs.map S)
 c : Sl w cv 89 1 cs.length (cs.map u32v)
 low : ∀ g, kv.ownBlock = some g ∨ vv.ownBlock = some g ∨ cv.ownBlock = some g → w0.heap.size ≤ g ∧ g ≠ b4 ∧ g ≠ b5 ∧ g ≠ b6 ∧ g ≠ b9
 d2 : ∀ g, kv.ownBlock = some g → vv.ownBlock ≠ some g ∧ cv.ownBlock ≠ some g
 d3 : ∀ g, vv.ownBlock = some g → cv.ownBlock ≠ some g
 n9 : w0.heap.size ≤ b9 ∧ b9 ≠ b4 ∧ b9 ≠ b5 ∧ b9 ≠ b6
 n4 : b4 < w.heap.size ∧ b5 < w.heap.size ∧ b6 < w.heap.size
section
variable {w0 w w' w1 w2 w3 w4 : World} {b4 b5 b6 b9 : Nat} {lf : Bool} {ks vs : List Bytes} {cs : List Nat} {kv vv cv kv2 : Value}
theorem DcN.kp {S : Nat → Prop} (h : DcN w0 w b4 b5 b6 b9 lf ks vs cs kv vv cv) (k : Kp S w w') (hs : ∀ g, S g → g = b4 ∨ g = b5) : DcN w0 w' b4 b5 b6 b9 lf ks vs cs kv vv cv := by
 have hz := k.size
 refine ⟨k.blk h.blk (fun e => (hs _ e).elim h.n9.2.1 h.n9.2.2.1), h.k.kp k (fun g hg e => ?_), h.v.kp k (fun g hg e => ?_), h.c.kp k (fun g hg e => ?_), h.low, h.d2, h.d3, h.n9, by have := h.n4; omega⟩
 ·have := h.low g (.inl hg); exact (hs g e).elim this.2.1 this.2.2.1
 ·have := h.low g (.inr (.inl hg)); exact (hs g e).elim this.2.1 this.2.2.1
 ·have := h.low g (.inr (.inr hg)); exact (hs g e).elim this.2.1 this.2.2.1
theorem DcN.ext (h : DcN w0 w b4 b5 b6 b9 lf ks vs cs kv vv cv) (k : Ext w w') : DcN w0 w' b4 b5 b6 b9 lf ks vs cs kv vv cv := h.kp k (fun _ e => e.elim)
theorem DcN.pushK (h0 : w0.heap.size ≤ w1.heap.size) (h : DcN w0 w1 b4 b5 b6 b9 lf ks vs cs kv vv cv) {x : Bytes} {u : Value} (hx : Ext w1 w2) (hs : Sl w3 u 9 1 (ks ++ [x]).length ((ks ++ [x]).map S)) (hk : Kp (fun g => kv.ownBlock = some g) w2 w3) (ho : ∀ g, u.ownBlock = some g → kv.ownBlock = some g ∨ w2.heap.size ≤ g) (hl : Blk w4 b9 [.bool lf, u, vv, cv] 84) (hk4 : Kp (fun g => g = b9) w3 w4) :
  DcN w0 w4 b4 b5 b6 b9 lf (ks ++ [x]) vs cs u vv cv ∧ Kp (fun g => g = b9 ∨ kv.ownBlock = some g) w1 w4 := by
 have hk14 : Kp (fun g => g = b9 ∨ kv.ownBlock = some g) w1 w4 := (hx.kp.trans (hk.mono' (fun g e => .inr e))).trans (hk4.mono' (fun g e => .inl e))
 have hz := hx.size
 have hz2 := hk14.size
 have hb9 := h.blk.lt
 have hn4 := h.n4
 have hn9 := h.n9
 have hu : ∀ g, u.ownBlock = some g → w0.heap.size ≤ g ∧ g ≠ b4 ∧ g ≠ b5 ∧ g ≠ b6 ∧ g ≠ b9 := fun g hg => by
  rcases ho g hg with e | e
  ·exact h.low g (.inl e)
  ·exact ⟨by omega, by omega, by omega, by omega, by omega⟩
 refine ⟨⟨hl, hs.kp hk4 (fun g hg e => (hu g hg).2.2.2.2 e), h.v.kp hk14 (fun g hg e => e.elim (h.low g (.inr (.inl hg))).2.2.2.2 (fun e => (h.d2 g e).1 hg)), h.c.kp hk14 (fun g hg e => e.elim (h.low g (.inr (.inr hg))).2.2.2.2 (fun e => (h.d2 g e).2 hg)), ?_, ?_, ?_, h.n9, by omega⟩, hk14⟩
 ·exact fun g hg => by
   rcases hg with hg | hg | hg
   ·exact hu g hg
   ·exact h.low g (.inr (.inl hg))
   ·exact h.low g (.inr (.inr hg))
 ·exact fun g hg => by
   rcases ho g hg with e | e
   ·exact h.d2 g e
   ·exact ⟨fun hg => by have := h.v.lt hg; omega, fun hg => by have := h.c.lt hg; omega⟩
 ·exact h.d3
theorem DcN.pushV (h0 : w0.heap.size ≤ w1.heap.size) (h : DcN w0 w1 b4 b5 b6 b9 lf ks vs cs kv vv cv) {x : Bytes} {u : Value} (hx : Ext w1 w2) (hs : Sl w3 u 9 1 (vs ++ [x]).length ((vs ++ [x]).map S)) (hk : Kp (fun g => vv.ownBlock = some g) w2 w3) (ho : ∀ g, u.ownBlock = some g → vv.ownBlock = some g ∨ w2.heap.size ≤ g) (hl : Blk w4 b9 [.bool lf, kv, u, cv] 84) (hk4 : Kp (fun g => g = b9) w3 w4) :
  DcN w0 w4 b4 b5 b6 b9 lf ks (vs ++ [x]) cs kv u cv ∧ Kp (fun g => g = b9 ∨ vv.ownBlock = some g) w1 w4 := by
 have hk14 : Kp (fun g => g = b9 ∨ vv.ownBlock = some g) w1 w4 := (hx.kp.trans (hk.mono' (fun g e => .inr e))).trans (hk4.mono' (fun g e => .inl e))
 have hz := hx.size
 have hz2 := hk14.size
 have hb9 := h.blk.lt
 have hn4 := h.n4
 have hn9 := h.n9
 have hu : ∀ g, u.ownBlock = some g → w0.heap.size ≤ g ∧ g ≠ b4 ∧ g ≠ b5 ∧ g ≠ b6 ∧ g ≠ b9 := fun g hg => by
  rcases ho g hg with e | e
  ·exact h.low g (.inr (.inl e))
  ·exact ⟨by omega, by omega, by omega, by omega, by omega⟩
 refine ⟨⟨hl, h.k.kp hk14 (fun g hg e => e.elim (h.low g (.inl hg)).2.2.2.2 (fun e => (h.d2 g hg).1 e)), hs.kp hk4 (fun g hg e => (hu g hg).2.2.2.2 e), h.c.kp hk14 (fun g hg e => e.elim (h.low g (.inr (.inr hg))).2.2.2.2 (fun e => h.d3 g e hg)), ?_, ?_, ?_, h.n9, by omega⟩, hk14⟩
 ·exact fun g hg => by
   rcases hg with hg | hg | hg
   ·exact h.low g (.inl hg)
   ·exact hu g hg
   ·exact h.low g (.inr (.inr hg))
 ·exact fun g hg => ⟨fun hg2 => by
   rcases ho g hg2 with e | e
   ·exact (h.d2 g hg).1 e
   ·have := h.k.lt hg; omega, (h.d2 g hg).2⟩
 ·exact fun g hg => by
   rcases ho g hg with e | e
   ·exact h.d3 g e
   ·exact fun hg => by have := h.c.lt hg; omega
theorem DcN.pushC (h0 : w0.heap.size ≤ w1.heap.size) (h : DcN w0 w1 b4 b5 b6 b9 lf ks vs cs kv vv cv) {x : Nat} {u : Value} (hx : Ext w1 w2) (hs : Sl w3 u 89 1 (cs ++ [x]).length ((cs ++ [x]).map u32v)) (hk : Kp (fun g => cv.ownBlock = some g) w2 w3) (ho : ∀ g, u.ownBlock = some g → cv.ownBlock = some g ∨ w2.heap.size ≤ g) (hl : Blk w4 b9 [.bool lf, kv, vv, u] 84) (hk4 : Kp (fun g => g = b9) w3 w4) :
  DcN w0 w4 b4 b5 b6 b9 lf ks vs (cs ++ [x]) kv vv u ∧ Kp (fun g => g = b9 ∨ cv.ownBlock = some g) w1 w4 := by
 have hk14 : Kp (fun g => g = b9 ∨ cv.ownBlock = some g) w1 w4 := (hx.kp.trans (hk.mono' (fun g e => .inr e))).trans (hk4.mono' (fun g e => .inl e))
 have hz := hx.size
 have hz2 := hk14.size
 have hb9 := h.blk.lt
 have hn4 := h.n4
 have hn9 := h.n9
 have hu : ∀ g, u.ownBlock = some g → w0.heap.size ≤ g ∧ g ≠ b4 ∧ g ≠ b5 ∧ g ≠ b6 ∧ g ≠ b9 := fun g hg => by
  rcases ho g hg with e | e
  ·exact h.low g (.inr (.inr e))
  ·exact ⟨by omega, by omega, by omega, by omega, by omega⟩
 refine ⟨⟨hl, h.k.kp hk14 (fun g hg e => e.elim (h.low g (.inl hg)).2.2.2.2 (fun e => (h.d2 g hg).2 e)), h.v.kp hk14 (fun g hg e => e.elim (h.low g (.inr (.inl hg))).2.2.2.2 (fun e => h.d3 g hg e)), hs.kp hk4 (fun g hg e => (hu g hg).2.2.2.2 e), ?_, ?_, ?_, h.n9, by omega⟩, hk14⟩
 ·exact fun g hg => by
   rcases hg with hg | hg | hg
   ·exact h.low g (.inl hg)
   ·exact h.low g (.inr (.inl hg))
   ·exact hu g hg
 ·exact fun g hg => ⟨(h.d2 g hg).1, fun hg2 => by
   rcases ho g hg2 with e | e
   ·exact (h.d2 g hg).2 e
   ·have := h.k.lt hg; omega⟩
 ·exact fun g hg hg2 => by
   rcases ho g hg2 with e | e
   ·exact h.d3 g hg e
   ·have := h.v.lt hg; omega
end
set_option maxHeartbeats 4000000 in
theorem decode_ret (s : Bytes) (hsl : s.length ≤ 140737488355328) (w : World) : Ret Tryz.prog 51 [S s] w fun v w' => Ext w w' ∧ ((∃ n kv vv cv, dec s = some n ∧ v = .tuple #[ndv n kv vv cv, I 0] ∧ NdP w' n kv vv cv ∧ ∀ g, kv.ownBlock = some g ∨ vv.ownBlock = some g ∨ cv.ownBlock = some g → w.heap.size ≤ g) ∨ (dec s = none ∧ v = .tuple #[.agg #[.bool false, .slice none 0 0, .slice none 0 0, .slice none 0 0], I 4])) := by
 refine ret_of_run (e := [(0, _)]) Tryz.func51 rfl Tryz.ntmps51 rfl rfl (qN rfl (rValP rfl rfl (pal (cs := [_, _, _, _]) ti84 rfl) ?_))
 rintro _ w1 ⟨b2, rfl, hb2, hx1, hB2⟩
 refine qa rfl (rEnd (run_seq (qN rfl (qm rfl (qV (ylnS U9 rfl) (rCall rfl rfl (yc (args := [.tmp 16]) cf64 rfl) (size_ret _ w1) ?_))))))
 rintro _ w1 ⟨rfl, rfl⟩
 by_cases hz : sizeOk (s.length : Int)
 ·obtain ⟨z1, z2, -⟩ := id hz
  rw [if_pos hz]
  refine qV (yne rfl rfl) (rEnd (run_if rfl (fun h0 => ?_) (fun h0 => ?_)))
  ·exact absurd rfl h0
  ·refine run_skip (qN rfl (qm rfl (rValP rfl rfl (pal (cs := [_]) ti9 rfl) ?_)))
   rintro _ w2 ⟨b4, rfl, hb4, hx2, hB4⟩
   refine rValP rfl rfl (pal (cs := [_]) ti4 rfl) ?_
   rintro _ w3 ⟨b5, rfl, hb5, hx3, hB5⟩
   have hz2 := hx2.size
   have hz1 := hx1.size
   have hl4 := hB4.lt
   have n45 : b4 ≠ b5 := by omega
   refine rEffP rfl (zst ti9 rfl rfl rfl (hx3.blk hB4) (by simp)) ?_
   rintro w4 ⟨hB4', hk4⟩
   have hBb4 := hk4.blk hB5 n45.symm
   refine rEffP rfl (zst ti4 rfl rfl rfl hBb4 (by simp)) ?_
   rintro w5 ⟨hB5', hk5⟩
   have hB45 := hk5.blk hB4' n45
   have hx05 : Ext w1 w5 := ((hx2.trans hx3).trans_new hk4 (fun i hi => by omega)).trans_new hk5 (fun i hi => by omega)
   have hz5 := hx05.size
   have hl45 := hB45.lt
   have hl55 := hB5'.lt
   refine qM rfl (qV (ymf (first := []) (caps := [.tmp 5, .tmp 4]) rfl rfl) (rValP rfl rfl (pal (cs := [_]) ti122 rfl) ?_))
   rintro _ w6 ⟨b6, rfl, hb6, hx6, hB6⟩
   refine rEffP rfl (zst ti122 rfl rfl rfl hB6 (by simp)) ?_
   rintro w7 ⟨hB7, hk7⟩
   have h7 : DcS w7 b4 b5 b6 s false := ⟨hk7.blk (hx6.blk hB45) (by omega), hk7.blk (hx6.blk hB5') (by omega), hB7, n45, by omega, by omega⟩
   have hx07 : Ext w1 w7 := (hx05.trans hx6).trans_new hk7 (fun i hi => by omega)
   have hx17 : b2 < b4 ∧ b2 < b5 ∧ b2 < b6 := by have := hB2.lt; omega
   obtain ⟨t1, r1, c1, e1⟩ := tx_ex 1 s false
   refine qM rfl (qV (ymf (first := []) (caps := [.tmp 6]) rfl rfl) (qa rfl (qM rfl (qm rfl (rCall rfl rfl (ycv' (args := [.const (Value.int .i64 1)]) cf82 rfl rfl) (number_ret h7 1 (by omega) (by omega) e1) ?_)))))
   rintro _ w8 ⟨rfl, h8, hk8⟩
   have hx08 : Ext w1 w8 := hx07.trans_new hk8 (fun i hi => by omega)
   refine qa rfl (qM rfl (qm rfl (qV (yeq rfl rfl) (qV (ybd (parts := [(0, .tmp 26)]) (cs := [_, _, _, _]) ti84 rfl sp84 rfl rfl) ?_))))
   obtain ⟨lf, hlf⟩ : ∃ lf, decide (((valB t1 : Nat) : Int) = 1) = lf := ⟨_, rfl⟩
   rw [hlf]
   refine rValP rfl rfl (pal (cs := [_, _, _, _]) ti84 rfl) ?_
   rintro _ w9 ⟨b9, rfl, hb9, hx9, hB9⟩
   refine rEffP rfl (zstA ti84 rfl rfl rfl rfl hB9 (by simp)) ?_
   rintro w10 ⟨hB10, hk10⟩
   replace hB10 : Blk w10 b9 [.bool lf, .slice none 0 0, .slice none 0 0, .slice none 0 0] 84 := hB10
   have hz8 := hx08.size
   have hl8 := h8.f.lt
   have hl84 := h8.r.lt
   have hl85 := h8.b.lt
   have h10 : DcS w10 b4 b5 b6 r1 c1 := (h8.ext hx9).kp hk10 (by omega) (by omega) (by omega)
   have hx010 : Ext w1 w10 := (hx08.trans hx9).trans_new hk10 (fun i hi => by omega)
   have hz10 : w9.heap.size ≤ w10.heap.size := hk10.size
   have hz9 := hx9.size
   have hN10 : DcN w1 w10 b4 b5 b6 b9 lf [] [] [] (.slice none 0 0) (.slice none 0 0) (.slice none 0 0) := ⟨hB10, Sl.nil _ _ _, Sl.nil _ _ _, Sl.nil _ _ _, fun g hg => by simp [Value.ownBlock] at hg, fun g hg => by simp [Value.ownBlock] at hg, fun g hg => by simp [Value.ownBlock] at hg, ⟨by omega, by omega, by omega, by omega⟩, by omega⟩
   have hl1 := tx_le e1
   obtain ⟨t2, r2, c2, e2⟩ := tx_ex 2 r1 c1
   obtain ⟨t3, r3, c3, e3⟩ := tx_ex 4 r2 c2
   have hl2 := tx_le e2
   have hl3 := tx_le e3
   obtain ⟨hLt, hLf⟩ := lg_init hz e1 e2 e3
   refine qM rfl (qm rfl (rCall rfl rfl (ycv' (args := [.const (Value.int .i64 2)]) cf82 rfl rfl) (number_ret h10 2 (by omega) (by omega) e2) ?_))
   rintro _ w11 ⟨rfl, h11, hk11⟩
   have hN11 := hN10.kp hk11 (fun g e => e)
   have hx011 : Ext w1 w11 := hx010.trans_new hk11 (fun i hi => by omega)
   have hB11 := hN11.blk
   have hcv : valB t2 < 65536 := Nat.lt_of_lt_of_le (valB_lt t2) (by
    have : 256 ^ t2.length ≤ 256 ^ 2 := Nat.pow_le_pow_right (by omega) hl2.1
    omega)
   have hml : maxLen = 9223372036854775807 := rfl
   refine qa rfl (rEnd (run_seq (qN rfl (qV (yfa fl84_0 rfl) (qV (yld U4 rfl rfl hB11 rfl) (qV ((by first | exact yntd rfl | exact ynt rfl)) ?_))))))
   refine rEnd (Run.qb (e := [(0, _), (2, _), (3, _), (5, _), (6, _), (7, _), (9, _), (10, _), (32, _)]) ?_)
   refine run_cut (fun e' w' => ∃ cs cv r bad, e' = [(0, S s), (2, ptr b2 0), (3, I 0), (5, ptr b5 0), (6, ptr b6 0), (7, .func (.func 82) #[] #[ptr b6 0]), (9, ptr b9 0), (10, I ((valB t2 : Nat) : Int))] ∧ DcN w1 w' b4 b5 b6 b9 lf [] [] cs (.slice none 0 0) (.slice none 0 0) cv ∧ DcS w' b4 b5 b6 r bad ∧ Lg s.length s lf [] [] cs (valB t2) r bad ∧ Ext w1 w' ∧ (∀ c ∈ cs, c < 4294967296) ∧ cs.length ≤ 1 ∧ r.length ≤ s.length) ?hk (fun hk => ?hmain)
   case hk =>
    rintro e' w12 ⟨cs0, cv0, r0, bad0, rfl, hN0, hS0, hL0, hx0, hcb0, hcl0, hrl0⟩
    refine run_seq (run_block (run_cut2 (fun e' w' => ∃ c ks vs cs kv vv cv r bad, e' = [(0, S s), (2, ptr b2 0), (3, I 0), (5, ptr b5 0), (9, ptr b9 0)] ∧ DcN w1 w' b4 b5 b6 b9 lf ks vs cs kv vv cv ∧ DcS w' b4 b5 b6 r bad ∧ Lg s.length s lf ks vs cs c r bad ∧ (c = 0 ∨ bad = true) ∧ Ext w1 w' ∧ Nd.Bd ⟨lf, ks, vs, cs⟩) ?hkx (fun hkx => ?hmainx)))
    case hkx =>
     rintro e' w13 ⟨c, ks, vs, cs, kv, vv, cv, r, bad, rfl, hN, hSt, hL, hend, hx13, hbd⟩
     obtain ⟨ka, kac, hkq, -⟩ := hN.k.rd.shape
     obtain ⟨va, vac, hvq, -⟩ := hN.v.rd.shape
     obtain ⟨ca, cac, hcq, -⟩ := hN.c.rd.shape
     subst hkq
     subst hvq
     subst hcq
     have hBn := hN.blk
     have hR : NdR w13 ⟨lf, ks, vs, cs⟩ (.slice ka ks.length kac) (.slice va vs.length vac) (.slice ca cs.length cac) := ⟨hN.k.rd, hN.v.rd, hN.c.rd⟩
     refine qN rfl (qV (yldA U84 rfl ti84 rfl (Blk.cells (n := 4) hBn (news := [_, _, _, _]) rfl) rfl) (qm rfl (qV (ylnS U9 rfl) (rCall rfl rfl (yc (args := [.tmp 82, .tmp 84]) cf83 rfl) (encode_ret (n := ⟨lf, ks, vs, cs⟩) hR hbd hz) ?_))))
     rintro vE w14 ⟨hx14, hres⟩
     have hx014 := hx13.trans hx14
     have hBn14 := hx14.blk hBn
     have hBb14 := hx14.blk hSt.b
     have hN14 := hN.ext hx14
     obtain ⟨tE, eE, rfl, hEo⟩ : ∃ tE eE, vE = .tuple #[S tE, I eE] ∧ ((NdOk s.length ⟨lf, ks, vs, cs⟩ ∧ tE = enc s.length ⟨lf, ks, vs, cs⟩ ∧ eE = 0) ∨ (¬ NdOk s.length ⟨lf, ks, vs, cs⟩ ∧ eE = 1)) := by
      rcases hres with ⟨h, rfl⟩ | ⟨h, rfl⟩
      ·exact ⟨_, _, rfl, .inl ⟨h, rfl, rfl⟩⟩
      ·exact ⟨_, _, rfl, .inr ⟨h, rfl⟩⟩
     have hno : (bad = true ∨ eE ≠ 0 ∨ tE ≠ s) → dec s = none := fun h => by
      cases e : dec s with
      | none => rfl
      | some n =>
        obtain ⟨g1, g2⟩ := lg_end rfl hL hend e
        obtain ⟨-, g3, g4⟩ := dec_some.1 e
        subst g2
        rcases hEo with ⟨h1, h2, h3⟩ | ⟨h1, -⟩
        ·rcases h with h | h | h
         ·rw [g1] at h; cases h
         ·exact absurd h3 h
         ·rw [h2] at h; exact absurd g4 h
        ·exact absurd g3.ok h1
     refine qm rfl (qV (yex rfl rfl) (qV (yex rfl rfl) (qa rfl (qa rfl (rEnd (run_seq (run_seq (run_cut (fun e' w' => ∃ q : Bool, e' = [(2, ptr b2 0), (9, ptr b9 0), (3, I 0), (97, .bool q)] ∧ w' = w14 ∧ (q = true → dec s = none) ∧ (q = false → bad = false ∧ eE = 0 ∧ tE = s)) ?hky (fun hky => ?hmainy)))))))))
     case hky =>
      rintro e' w15 ⟨q, rfl, rfl, hq1, hq2⟩
      have hB2x := hx014.blk hB2
      refine run_cond rfl (fun hq => ?_) (fun hq => ?_)
      ·refine qN rfl (qV (ybd (parts := []) (cs := [_, _, _, _]) ti84 rfl sp84 rfl rfl) (rEffP rfl (zstA ti84 rfl rfl rfl rfl hB2x (by simp)) ?_))
       rintro w16 ⟨hB16, hk16⟩
       refine qa rfl (rEnd (run_retR Tryz.func51 (.cell U84 rfl ti84 rfl (Blk.cells (n := 4) hB16 (news := [_, _, _, _]) rfl) rfl (.tmp rfl .nil)) ?_))
       exact ⟨_, rfl, (hx1.trans hx014).trans_new hk16 (fun i hi => by omega), .inr ⟨hq1 hq, rfl⟩⟩
      ·obtain ⟨g1, g2, g3⟩ := hq2 hq
       refine run_skip (qN rfl (qV (yldA U84 rfl ti84 rfl (Blk.cells (n := 4) hBn14 (news := [_, _, _, _]) rfl) rfl) (rEffP rfl (zstA ti84 rfl rfl rfl rfl hB2x (by simp)) ?_)))
       rintro w16 ⟨hB16, hk16⟩
       refine qa rfl (rEnd (run_retR Tryz.func51 (.cell U84 rfl ti84 rfl (Blk.cells (n := 4) hB16 (news := [_, _, _, _]) rfl) rfl (.tmp rfl .nil)) ?_))
       have hdec : dec s = some ⟨lf, ks, vs, cs⟩ := by
        rcases hEo with ⟨h1, h2, h3⟩ | ⟨h1, h3⟩
        ·exact dec_some.2 ⟨hz, ⟨h1, hbd.cs⟩, by rw [← h2]; exact g3⟩
        ·omega
       have hlo : ∀ g, (Value.slice ka ks.length kac).ownBlock = some g ∨ (Value.slice va vs.length vac).ownBlock = some g ∨ (Value.slice ca cs.length cac).ownBlock = some g → w.heap.size ≤ g ∧ g ≠ b2 := fun g hg => by
        have := hN.low g hg
        have := hB2.lt
        omega
       refine ⟨_, rfl, (hx1.trans hx014).trans_new hk16 (fun i hi => by omega), .inl ⟨_, _, _, _, hdec, rfl, ⟨hN14.k.kp hk16 (fun g hg => (hlo g (.inl hg)).2), hN14.v.kp hk16 (fun g hg => (hlo g (.inr (.inl hg))).2), hN14.c.kp hk16 (fun g hg => (hlo g (.inr (.inr hg))).2), hbd, hN.d2, hN.d3⟩, fun g hg => (hlo g hg).1⟩⟩
     case hmainy =>
      refine run_reg rfl (qV (yld U4 rfl rfl hBb14 rfl) (qm rfl (rVal_bool (fun hb1 => ?_) (fun hb1 => ?_))))
      ·refine qS (qS (qV (ypT rfl rfl) (qm rfl (qS (qS (qS (qV (ypT rfl rfl) (rEnd ?_))))))))
       exact (hky _ _ ⟨true, rfl, rfl, fun _ => hno (.inl hb1), fun h => Bool.noConfusion h⟩).qb
      ·refine qm rfl (qV (yne rfl rfl) (rVal_if (fun hb2' => ?_) (fun hb2' => ?_)))
       ·refine qV (ypF rfl rfl) (qm rfl (qS (qS (qS (qV (ypT rfl rfl) (rEnd ?_))))))
        exact (hky _ _ ⟨true, rfl, rfl, fun _ => hno (.inr (.inl hb2')), fun h => Bool.noConfusion h⟩).qb
       ·refine qV (ypF rfl rfl) (qm rfl (qm rfl (qm rfl (qV (yneS rfl rfl) (qV (ypF rfl rfl) (rEnd ((hky _ _ ⟨_, rfl, rfl, ?_, ?_⟩).qb)))))))
        ·intro h; exact hno (.inr (.inr (by simpa using h)))
        ·intro h; exact ⟨hb1, by omega, by simpa using h⟩
    case hmainx =>
     refine run_loop (α := Nat) (valB t2) (fun c => [(0, S s), (2, ptr b2 0), (3, I 0), (5, ptr b5 0), (6, ptr b6 0), (7, .func (.func 82) #[] #[ptr b6 0]), (9, ptr b9 0), (10, I (c : Int))]) (fun c w' => c < 65536 ∧ ∃ ks vs cs kv vv cv r bad, DcN w1 w' b4 b5 b6 b9 lf ks vs cs kv vv cv ∧ DcS w' b4 b5 b6 r bad ∧ Lg s.length s lf ks vs cs c r bad ∧ Ext w1 w' ∧ (∀ c ∈ cs, c < 4294967296) ∧ (∀ k ∈ ks, k.length ≤ 4096) ∧ (∀ k ∈ vs, k.length ≤ 4096) ∧ ks.length + c < 65536 ∧ vs.length ≤ ks.length ∧ cs.length ≤ ks.length + 1 ∧ r.length ≤ s.length) (fun c => c) (by repeat (first | exact Sub.nil | refine Sub.cons rfl ?_)) ?hI ?hround
     case hI => exact ⟨hcv, [], [], cs0, _, _, cv0, r0, bad0, hN0, hS0, hL0, hx0, hcb0, by simp, by simp, by simpa using hcv, by simp, by simpa using hcl0, hrl0⟩
     case hround =>
      rintro c wi ⟨hc, ks, vs, cs, kv, vv, cv, r, bad, hN, hSt, hL, hxwi, hcb, hkb, hvb, hkl, hvl, hcl, hrl⟩ ih
      have hbdd : Nd.Bd ⟨lf, ks, vs, cs⟩ := ⟨by dsimp only; omega, by dsimp only; omega, by dsimp only; omega, fun k hk => by have := hkb k hk; omega, fun k hk => by have := hvb k hk; omega, hcb⟩
      have hBb := hSt.b
      have hBn := hN.blk
      have hzi := hxwi.size
      try dsimp only
      refine run_seq (qN rfl (qm rfl (qV (ygt rfl rfl) (qm rfl (rVal_if (fun hc0 => ?_) (fun hc0 => ?_))))))
      ·obtain ⟨c, rfl⟩ : ∃ c', c = c' + 1 := ⟨c - 1, by omega⟩
       refine qV ((by first | exact yld U4 rfl rfl hBb rfl | exact yld U4 rfl rfl hBn rfl)) ?_
       refine qV ((by first | exact yntd rfl | exact ynt rfl)) ?_
       refine qV (ypT rfl rfl) (rEnd (run_cond rfl (fun hbd => ?_) (fun hbd => ?_)))
       ·have hbf : bad = false := by simpa using hbd
        subst hbf
        obtain ⟨ta, ra, ca, ea⟩ := tx_ex 1 r false
        have hta := tx_le ea
        have hva : valB ta < 65536 := Nat.lt_of_lt_of_le (valB_lt ta) (by
         have : 256 ^ ta.length ≤ 256 ^ 1 := Nat.pow_le_pow_right (by omega) hta.1
         omega)
        refine run_skip (run_seq (run_block (qN rfl (qm rfl (rCall rfl rfl (ycv' (args := [.const (Value.int .i64 1)]) cf82 rfl rfl) (number_ret hSt 1 (by omega) (by omega) ea) ?_)))))
        rintro _ w20 ⟨rfl, hS20, hk20⟩
        have hN20 := hN.kp hk20 (fun g e => e)
        have hxw20 : Ext w1 w20 := hxwi.trans_new hk20 (fun i hi => by omega)
        have hz20 := hxw20.size
        have hBn20 := hN20.blk
        refine qa rfl (qa rfl (rEnd (run_seq (qN rfl (qV (yfa fl84_0 rfl) (qV (yld U4 rfl rfl hBn20 rfl) ?_))))))
        cases lf with
        | true =>
          refine rEnd (run_true rfl (run_reg rfl (qm rfl ?_)))
          obtain ⟨tb, rb, cb, eb⟩ := tx_ex 2 ra ca
          have htb := tx_le eb
          have hvb' : valB tb < 65536 := Nat.lt_of_lt_of_le (valB_lt tb) (by
           have : 256 ^ tb.length ≤ 256 ^ 2 := Nat.pow_le_pow_right (by omega) htb.1
           omega)
          obtain ⟨tc, rc, cc, ec⟩ := tx_ex (valB ta) rb cb
          have htc := tx_le ec
          obtain ⟨td, rd, cd, ed⟩ := tx_ex (valB tb) rc cc
          have htd := tx_le ed
          refine rCall rfl rfl (ycv' (args := [.const (Value.int .i64 2)]) cf82 rfl rfl) (number_ret hS20 2 (by omega) (by omega) eb) ?_
          rintro _ w21 ⟨rfl, hS21, hk21⟩
          have hN21 := hN20.kp hk21 (fun g e => e)
          have hxw21 : Ext w1 w21 := hxw20.trans_new hk21 (fun i hi => by omega)
          have hz21 := hxw21.size
          refine qa rfl (rEnd (run_seq ?_))
          have hgg30 : Ext w21 w21.drew := Ext.drew0 w21
          have hgk30 : Kp (fun k => k = b4 ∨ k = b5) w21 w21.drew := hgg30.kp
          have hBn30 := hN21.blk
          have hBf30 := hS21.f
          have hq930 : ¬ (b9 = b4 ∨ b9 = b5) := fun e => e.elim hN21.n9.2.1 hN21.n9.2.2.1
          have hq630 : ¬ (b6 = b4 ∨ b6 = b5) := fun e => e.elim hS21.n2.1 hS21.n2.2
          refine run_drawL [6,8] (fun w' => Kp (fun k => k = b4 ∨ k = b5) w21 w') (by kernel_rfl) rfl (qL [1, 6, 7, 8] 0 rfl (fun _ hS => yfa fl84_1 rfl) hgk30 (qL [6, 7, 8] 1 rfl (fun _ hS => (by first | exact yld U23 rfl rfl (hS.blk hBn30 hq930) rfl | exact yld U23 rfl rfl (hS.blk hBf30 hq630) rfl)) hgk30 ?_))
          refine qL [4, 5, 6, 7, 8] 2 rfl (fun _ hS => (by first | exact yld U122 rfl rfl (hS.blk hBn30 hq930) rfl | exact yld U122 rfl rfl (hS.blk hBf30 hq630) rfl)) hgk30 ?_
          refine qL [4, 5, 6, 7, 8] 3 rfl (fun _ hS => ymv rfl) hgk30 (hOneL (i := 4) (by kernel_rfl) (nCallL (i := 4) rfl rfl rfl (ycv' (args := [.tmp 58]) cf81 rfl rfl) (text_ret (hS21.ext hgg30) (valB ta) (by omega) (by omega) ec) ?_))
          rintro _ w30 ⟨rfl, hS30, hk30⟩
          refine ⟨hgk30.trans hk30, ?_⟩
          have hN30 := (hN21.ext hgg30).kp hk30 (fun g e => e)
          refine hOneL (i := 5) (by kernel_rfl) (nValPL (i := 5) rfl rfl rfl (pbs (parts := [(0, .tmp 59)]) (cs := [_]) (zs := [Value.string ⟨#[]⟩]) U23 ti9 rfl (by kernel_rfl) rfl rfl rfl (by decide)) ?_)
          rintro _ w31 ⟨bq30, rfl, ⟨hbq30, hxq30, hBq30⟩, hSq30⟩
          refine ⟨(hgk30.trans hk30).trans hxq30.kp, ?_⟩
          refine hLate [6] (by kernel_rfl) (by kernel_rfl) (qO 6 (nValP (i := 6) rfl rfl rfl (pap U23 ti9 rfl (by decide) rfl rfl (hN30.k.ext hxq30) hSq30.rd (by intro c hc; simp at hc; subst hc; rfl) (by omega) (by omega)) ?_))
          rintro u30 w32 ⟨hSu30, hku30, hou30, -⟩
          refine ⟨trivial, ?_⟩
          have hBu30 := hku30.blk (hxq30.blk hN30.blk) (fun e => (hN30.low _ (.inl e)).2.2.2.2 rfl)
          refine qt 7 rfl (yfa fl84_1 rfl) trivial (qO 8 (nEffP (i := 8) rfl rfl (zst ti23 rfl rfl (oneV_sl hSu30) hBu30 (by simp)) ?_))
          rintro w33 ⟨hBz30, hkz30⟩
          refine ⟨trivial, ?_⟩
          have hzz30 : w1.heap.size ≤ w30.heap.size := by have := hgg30.size; have := hk30.size; omega
          obtain ⟨hNz30, hkk30⟩ := DcN.pushK hzz30 hN30 hxq30 (by rw [List.length_append, List.map_append]; exact hSu30) hku30 hou30 hBz30 hkz30
          have hSz30 := hS30.kp hkk30 (fun e => e.elim (fun e => hN30.n9.2.1 e.symm) (fun e => (hN30.low _ (.inl e)).2.1 rfl)) (fun e => e.elim (fun e => hN30.n9.2.2.1 e.symm) (fun e => (hN30.low _ (.inl e)).2.2.1 rfl)) (fun e => e.elim (fun e => hN30.n9.2.2.2 e.symm) (fun e => (hN30.low _ (.inl e)).2.2.2.1 rfl))
          have hxz30 : Ext w1 w33 := ((hxw21.trans hgg30).trans_new hk30 (fun i hi => by omega)).trans_new hkk30 (fun i hi => hi.elim (fun e => by have := hN30.n9.1; omega) (fun e => (hN30.low i (.inl e)).1))

          have hz33 := hxz30.size
          have hBn33 := hNz30.blk
          refine qE (qN rfl (qV (yfa fl84_0 rfl) (qV (yld U4 rfl rfl hBn33 rfl) (rEnd (run_true rfl ?_)))))
          have hxw33 := hxz30
          have hgg40 : Ext w33 w33.drew := Ext.drew0 w33
          have hgk40 : Kp (fun k => k = b4 ∨ k = b5) w33 w33.drew := hgg40.kp
          have hBn40 := hNz30.blk
          have hBf40 := hSz30.f
          have hq940 : ¬ (b9 = b4 ∨ b9 = b5) := fun e => e.elim hNz30.n9.2.1 hNz30.n9.2.2.1
          have hq640 : ¬ (b6 = b4 ∨ b6 = b5) := fun e => e.elim hSz30.n2.1 hSz30.n2.2
          refine run_drawL [6,8] (fun w' => Kp (fun k => k = b4 ∨ k = b5) w33 w') (by kernel_rfl) rfl (qL [1, 6, 7, 8] 0 rfl (fun _ hS => yfa fl84_2 rfl) hgk40 (qL [6, 7, 8] 1 rfl (fun _ hS => (by first | exact yld U23 rfl rfl (hS.blk hBn40 hq940) rfl | exact yld U23 rfl rfl (hS.blk hBf40 hq640) rfl)) hgk40 ?_))
          refine qL [4, 5, 6, 7, 8] 2 rfl (fun _ hS => (by first | exact yld U122 rfl rfl (hS.blk hBn40 hq940) rfl | exact yld U122 rfl rfl (hS.blk hBf40 hq640) rfl)) hgk40 ?_
          refine qL [4, 5, 6, 7, 8] 3 rfl (fun _ hS => ymv rfl) hgk40 (hOneL (i := 4) (by kernel_rfl) (nCallL (i := 4) rfl rfl rfl (ycv' (args := [.tmp 68]) cf81 rfl rfl) (text_ret (hSz30.ext hgg40) (valB tb) (by omega) (by omega) ed) ?_))
          rintro _ w40 ⟨rfl, hS40, hk40⟩
          refine ⟨hgk40.trans hk40, ?_⟩
          have hN40 := (hNz30.ext hgg40).kp hk40 (fun g e => e)
          refine hOneL (i := 5) (by kernel_rfl) (nValPL (i := 5) rfl rfl rfl (pbs (parts := [(0, .tmp 69)]) (cs := [_]) (zs := [Value.string ⟨#[]⟩]) U23 ti9 rfl (by kernel_rfl) rfl rfl rfl (by decide)) ?_)
          rintro _ w41 ⟨bq40, rfl, ⟨hbq40, hxq40, hBq40⟩, hSq40⟩
          refine ⟨(hgk40.trans hk40).trans hxq40.kp, ?_⟩
          refine hLate [6] (by kernel_rfl) (by kernel_rfl) (qO 6 (nValP (i := 6) rfl rfl rfl (pap U23 ti9 rfl (by decide) rfl rfl (hN40.v.ext hxq40) hSq40.rd (by intro c hc; simp at hc; subst hc; rfl) (by omega) (by omega)) ?_))
          rintro u40 w42 ⟨hSu40, hku40, hou40, -⟩
          refine ⟨trivial, ?_⟩
          have hBu40 := hku40.blk (hxq40.blk hN40.blk) (fun e => (hN40.low _ (.inr (.inl e))).2.2.2.2 rfl)
          refine qt 7 rfl (yfa fl84_2 rfl) trivial (qO 8 (nEffP (i := 8) rfl rfl (zst ti23 rfl rfl (oneV_sl hSu40) hBu40 (by simp)) ?_))
          rintro w43 ⟨hBz40, hkz40⟩
          refine ⟨trivial, ?_⟩
          have hzz40 : w1.heap.size ≤ w40.heap.size := by have := hgg40.size; have := hk40.size; omega
          obtain ⟨hNz40, hkk40⟩ := DcN.pushV hzz40 hN40 hxq40 (by rw [List.length_append, List.map_append]; exact hSu40) hku40 hou40 hBz40 hkz40
          have hSz40 := hS40.kp hkk40 (fun e => e.elim (fun e => hN40.n9.2.1 e.symm) (fun e => (hN40.low _ (.inr (.inl e))).2.1 rfl)) (fun e => e.elim (fun e => hN40.n9.2.2.1 e.symm) (fun e => (hN40.low _ (.inr (.inl e))).2.2.1 rfl)) (fun e => e.elim (fun e => hN40.n9.2.2.2 e.symm) (fun e => (hN40.low _ (.inr (.inl e))).2.2.2.1 rfl))
          have hxz40 : Ext w1 w43 := ((hxw33.trans hgg40).trans_new hk40 (fun i hi => by omega)).trans_new hkk40 (fun i hi => hi.elim (fun e => by have := hN40.n9.1; omega) (fun e => (hN40.low i (.inr (.inl e))).1))

          refine qE (run_inBlock (run_reg rfl (qm rfl (qV (ysb rfl rfl (by omega)) (qa rfl (rEnd ?_))))))
          rw [show (((c + 1 : Nat) : Int) - 1) = (c : Int) by omega]
          refine (ih c w43 ⟨by omega, _, _, _, _, _, _, _, _, hNz40, hSz40, lg_leaf hz hL ea eb ec ed, hxz40, hcb, fun k hk => ?_, fun k hk => ?_, ?_, ?_, ?_, by omega⟩ (by omega)).qb
          ·rcases List.mem_append.1 hk with hk | hk
           ·exact hkb k hk
           ·simp at hk; subst hk; omega
          ·rcases List.mem_append.1 hk with hk | hk
           ·exact hvb k hk
           ·simp at hk; subst hk; omega
          ·simp; omega
          ·simp; omega
          ·simp; omega
        | false =>
          obtain ⟨tb, rb, cb, eb⟩ := tx_ex (valB ta) ra ca
          have htb := tx_le eb
          obtain ⟨tc, rc, cc, ec⟩ := tx_ex 4 rb cb
          have htc := tx_le ec
          have hvc : valB tc < 4294967296 := Nat.lt_of_lt_of_le (valB_lt tc) (by
           have : 256 ^ tc.length ≤ 256 ^ 4 := Nat.pow_le_pow_right (by omega) htc.1
           omega)
          refine rEnd (run_false rfl (run_skip (run_seq ?_)))
          have hgg50 : Ext w20 w20.drew := Ext.drew0 w20
          have hgk50 : Kp (fun k => k = b4 ∨ k = b5) w20 w20.drew := hgg50.kp
          have hBn50 := hN20.blk
          have hBf50 := hS20.f
          have hq950 : ¬ (b9 = b4 ∨ b9 = b5) := fun e => e.elim hN20.n9.2.1 hN20.n9.2.2.1
          have hq650 : ¬ (b6 = b4 ∨ b6 = b5) := fun e => e.elim hS20.n2.1 hS20.n2.2
          refine run_drawL [6,8] (fun w' => Kp (fun k => k = b4 ∨ k = b5) w20 w') (by kernel_rfl) rfl (qL [1, 6, 7, 8] 0 rfl (fun _ hS => yfa fl84_1 rfl) hgk50 (qL [6, 7, 8] 1 rfl (fun _ hS => (by first | exact yld U23 rfl rfl (hS.blk hBn50 hq950) rfl | exact yld U23 rfl rfl (hS.blk hBf50 hq650) rfl)) hgk50 ?_))
          refine qL [4, 5, 6, 7, 8] 2 rfl (fun _ hS => (by first | exact yld U122 rfl rfl (hS.blk hBn50 hq950) rfl | exact yld U122 rfl rfl (hS.blk hBf50 hq650) rfl)) hgk50 ?_
          refine qL [4, 5, 6, 7, 8] 3 rfl (fun _ hS => ymv rfl) hgk50 (hOneL (i := 4) (by kernel_rfl) (nCallL (i := 4) rfl rfl rfl (ycv' (args := [.tmp 58]) cf81 rfl rfl) (text_ret (hS20.ext hgg50) (valB ta) (by omega) (by omega) eb) ?_))
          rintro _ w50 ⟨rfl, hS50, hk50⟩
          refine ⟨hgk50.trans hk50, ?_⟩
          have hN50 := (hN20.ext hgg50).kp hk50 (fun g e => e)
          refine hOneL (i := 5) (by kernel_rfl) (nValPL (i := 5) rfl rfl rfl (pbs (parts := [(0, .tmp 59)]) (cs := [_]) (zs := [Value.string ⟨#[]⟩]) U23 ti9 rfl (by kernel_rfl) rfl rfl rfl (by decide)) ?_)
          rintro _ w51 ⟨bq50, rfl, ⟨hbq50, hxq50, hBq50⟩, hSq50⟩
          refine ⟨(hgk50.trans hk50).trans hxq50.kp, ?_⟩
          refine hLate [6] (by kernel_rfl) (by kernel_rfl) (qO 6 (nValP (i := 6) rfl rfl rfl (pap U23 ti9 rfl (by decide) rfl rfl (hN50.k.ext hxq50) hSq50.rd (by intro c hc; simp at hc; subst hc; rfl) (by omega) (by omega)) ?_))
          rintro u50 w52 ⟨hSu50, hku50, hou50, -⟩
          refine ⟨trivial, ?_⟩
          have hBu50 := hku50.blk (hxq50.blk hN50.blk) (fun e => (hN50.low _ (.inl e)).2.2.2.2 rfl)
          refine qt 7 rfl (yfa fl84_1 rfl) trivial (qO 8 (nEffP (i := 8) rfl rfl (zst ti23 rfl rfl (oneV_sl hSu50) hBu50 (by simp)) ?_))
          rintro w53 ⟨hBz50, hkz50⟩
          refine ⟨trivial, ?_⟩
          have hzz50 : w1.heap.size ≤ w50.heap.size := by have := hgg50.size; have := hk50.size; omega
          obtain ⟨hNz50, hkk50⟩ := DcN.pushK hzz50 hN50 hxq50 (by rw [List.length_append, List.map_append]; exact hSu50) hku50 hou50 hBz50 hkz50
          have hSz50 := hS50.kp hkk50 (fun e => e.elim (fun e => hN50.n9.2.1 e.symm) (fun e => (hN50.low _ (.inl e)).2.1 rfl)) (fun e => e.elim (fun e => hN50.n9.2.2.1 e.symm) (fun e => (hN50.low _ (.inl e)).2.2.1 rfl)) (fun e => e.elim (fun e => hN50.n9.2.2.2 e.symm) (fun e => (hN50.low _ (.inl e)).2.2.2.1 rfl))
          have hxz50 : Ext w1 w53 := ((hxw20.trans hgg50).trans_new hk50 (fun i hi => by omega)).trans_new hkk50 (fun i hi => hi.elim (fun e => by have := hN50.n9.1; omega) (fun e => (hN50.low i (.inl e)).1))

          have hz53 := hxz50.size
          have hBn53 := hNz50.blk
          refine qE (qN rfl (qV (yfa fl84_0 rfl) (qV (yld U4 rfl rfl hBn53 rfl) (rEnd (run_false rfl ?_)))))
          have hxw53 := hxz50
          have hgg60 : Ext w53 w53.drew := Ext.drew0 w53
          have hgk60 : Kp (fun k => k = b4 ∨ k = b5) w53 w53.drew := hgg60.kp
          have hBn60 := hNz50.blk
          have hBf60 := hSz50.f
          have hq960 : ¬ (b9 = b4 ∨ b9 = b5) := fun e => e.elim hNz50.n9.2.1 hNz50.n9.2.2.1
          have hq660 : ¬ (b6 = b4 ∨ b6 = b5) := fun e => e.elim hSz50.n2.1 hSz50.n2.2
          refine run_drawL [6,8] (fun w' => Kp (fun k => k = b4 ∨ k = b5) w53 w') (by kernel_rfl) rfl (qL [1, 6, 7, 8] 0 rfl (fun _ hS => yfa fl84_3 rfl) hgk60 (qL [6, 7, 8] 1 rfl (fun _ hS => (by first | exact yld U82 rfl rfl (hS.blk hBn60 hq960) rfl | exact yld U82 rfl rfl (hS.blk hBf60 hq660) rfl)) hgk60 ?_))
          refine qL [3, 4, 5, 6, 7, 8] 2 rfl (fun _ hS => ymv rfl) hgk60 (hOneL (i := 3) (by kernel_rfl) (nCallL (i := 3) rfl rfl rfl (ycv' (args := [.const (Value.int .i64 4)]) cf82 rfl rfl) (number_ret (hSz50.ext hgg60) 4 (by omega) (by omega) ec) ?_))
          rintro _ w60 ⟨rfl, hS60, hk60⟩
          refine ⟨hgk60.trans hk60, ?_⟩
          have hN60 := (hNz50.ext hgg60).kp hk60 (fun g e => e)
          refine qL [5, 6, 7, 8] 4 rfl (fun _ hS => ycv32 rfl U3 U89) (hgk60.trans hk60) ?_
          rw [Nat.mod_eq_of_lt hvc]
          refine hOneL (i := 5) (by kernel_rfl) (nValPL (i := 5) rfl rfl rfl (pbs (parts := [(0, .tmp 77)]) (cs := [_]) (zs := [Value.int .u32 0]) U82 ti89 rfl (by kernel_rfl) rfl rfl rfl (by decide)) ?_)
          rintro _ w61 ⟨bq60, rfl, ⟨hbq60, hxq60, hBq60⟩, hSq60⟩
          refine ⟨(hgk60.trans hk60).trans hxq60.kp, ?_⟩
          refine hLate [6] (by kernel_rfl) (by kernel_rfl) (qO 6 (nValP (i := 6) rfl rfl rfl (pap U82 ti89 rfl (by decide) rfl rfl (hN60.c.ext hxq60) hSq60.rd (by intro c hc; simp at hc; subst hc; rfl) (by omega) (by omega)) ?_))
          rintro u60 w62 ⟨hSu60, hku60, hou60, -⟩
          refine ⟨trivial, ?_⟩
          have hBu60 := hku60.blk (hxq60.blk hN60.blk) (fun e => (hN60.low _ (.inr (.inr e))).2.2.2.2 rfl)
          refine qt 7 rfl (yfa fl84_3 rfl) trivial (qO 8 (nEffP (i := 8) rfl rfl (zst ti82 rfl rfl (oneV_sl hSu60) hBu60 (by simp)) ?_))
          rintro w63 ⟨hBz60, hkz60⟩
          refine ⟨trivial, ?_⟩
          have hzz60 : w1.heap.size ≤ w60.heap.size := by have := hgg60.size; have := hk60.size; omega
          obtain ⟨hNz60, hkk60⟩ := DcN.pushC hzz60 hN60 hxq60 (by rw [List.length_append, List.map_append]; exact hSu60) hku60 hou60 hBz60 hkz60
          have hSz60 := hS60.kp hkk60 (fun e => e.elim (fun e => hN60.n9.2.1 e.symm) (fun e => (hN60.low _ (.inr (.inr e))).2.1 rfl)) (fun e => e.elim (fun e => hN60.n9.2.2.1 e.symm) (fun e => (hN60.low _ (.inr (.inr e))).2.2.1 rfl)) (fun e => e.elim (fun e => hN60.n9.2.2.2 e.symm) (fun e => (hN60.low _ (.inr (.inr e))).2.2.2.1 rfl))
          have hxz60 : Ext w1 w63 := ((hxw53.trans hgg60).trans_new hk60 (fun i hi => by omega)).trans_new hkk60 (fun i hi => hi.elim (fun e => by have := hN60.n9.1; omega) (fun e => (hN60.low i (.inr (.inr e))).1))

          refine qE (run_inBlock (run_reg rfl (qm rfl (qV (ysb rfl rfl (by omega)) (qa rfl (rEnd ?_))))))
          rw [show (((c + 1 : Nat) : Int) - 1) = (c : Int) by omega]
          refine (ih c w63 ⟨by omega, _, _, _, _, _, _, _, _, hNz60, hSz60, lg_inn hz hL ea eb ec, hxz60, fun k hk => ?_, fun k hk => ?_, hvb, ?_, ?_, ?_, by omega⟩ (by omega)).qb
          ·rcases List.mem_append.1 hk with hk | hk
           ·exact hcb k hk
           ·simp at hk; subst hk; omega
          ·rcases List.mem_append.1 hk with hk | hk
           ·exact hkb k hk
           ·simp at hk; subst hk; omega
          ·simp; omega
          ·simp; omega
          ·simp; omega
       ·have hbf : bad = true := by simpa using hbd
        refine run_exit rfl ?_
        exact (hkx _ _ ⟨_, _, _, _, _, _, _, _, _, rfl, hN, hSt, hL, .inr hbf, hxwi, hbdd⟩).qb
      ·have : c = 0 := by omega
       subst this
       refine qS (qS (qV (ypF rfl rfl) (rEnd (run_false rfl (run_exit rfl ?_)))))
       exact (hkx _ _ ⟨_, _, _, _, _, _, _, _, _, rfl, hN, hSt, hL, .inl rfl, hxwi, hbdd⟩).qb
   case hmain =>
    cases lf with
    | true =>
      have hv1 : valB t1 = 1 := by have := of_decide_eq_true hlf; omega
      refine run_false rfl (run_skip ?_)
      exact (hk _ _ ⟨[], _, r2, c2, rfl, hN11, h11, hLt hv1, hx011, by simp, by simp, by omega⟩).qb
    | false =>
      have hv1 : valB t1 ≠ 1 := fun e => of_decide_eq_false hlf (by omega)
      refine run_true rfl ?_
      have hvc : valB t3 < 4294967296 := Nat.lt_of_lt_of_le (valB_lt t3) (by
       have : 256 ^ t3.length ≤ 256 ^ 4 := Nat.pow_le_pow_right (by omega) hl3.1
       omega)
      have hz11 := hx011.size
      have hnil : ([] : List Nat).length = 0 := rfl
      have hxw11 := hx011
      have hgg70 : Ext w11 w11.drew := Ext.drew0 w11
      have hgk70 : Kp (fun k => k = b4 ∨ k = b5) w11 w11.drew := hgg70.kp
      have hBn70 := hN11.blk
      have hBf70 := h11.f
      have hq960 : ¬ (b9 = b4 ∨ b9 = b5) := fun e => e.elim hN11.n9.2.1 hN11.n9.2.2.1
      have hq660 : ¬ (b6 = b4 ∨ b6 = b5) := fun e => e.elim h11.n2.1 h11.n2.2
      refine run_drawL [6,8] (fun w' => Kp (fun k => k = b4 ∨ k = b5) w11 w') (by kernel_rfl) rfl (qL [1, 6, 7, 8] 0 rfl (fun _ hS => yfa fl84_3 rfl) hgk70 (qL [6, 7, 8] 1 rfl (fun _ hS => (by first | exact yld U82 rfl rfl (hS.blk hBn70 hq960) rfl | exact yld U82 rfl rfl (hS.blk hBf70 hq660) rfl)) hgk70 ?_))
      refine qL [3, 4, 5, 6, 7, 8] 2 rfl (fun _ hS => ymv rfl) hgk70 (hOneL (i := 3) (by kernel_rfl) (nCallL (i := 3) rfl rfl rfl (ycv' (args := [.const (Value.int .i64 4)]) cf82 rfl rfl) (number_ret (h11.ext hgg70) 4 (by omega) (by omega) e3) ?_))
      rintro _ w70 ⟨rfl, hS70, hk70⟩
      refine ⟨hgk70.trans hk70, ?_⟩
      have hN70 := (hN11.ext hgg70).kp hk70 (fun g e => e)
      refine qL [5, 6, 7, 8] 4 rfl (fun _ hS => ycv32 rfl U3 U89) (hgk70.trans hk70) ?_
      rw [Nat.mod_eq_of_lt hvc]
      refine hOneL (i := 5) (by kernel_rfl) (nValPL (i := 5) rfl rfl rfl (pbs (parts := [(0, .tmp 37)]) (cs := [_]) (zs := [Value.int .u32 0]) U82 ti89 rfl (by kernel_rfl) rfl rfl rfl (by decide)) ?_)
      rintro _ w71 ⟨bq70, rfl, ⟨hbq70, hxq70, hBq70⟩, hSq70⟩
      refine ⟨(hgk70.trans hk70).trans hxq70.kp, ?_⟩
      refine hLate [6] (by kernel_rfl) (by kernel_rfl) (qO 6 (nValP (i := 6) rfl rfl rfl (pap U82 ti89 rfl (by decide) rfl rfl (hN70.c.ext hxq70) hSq70.rd (by intro c hc; simp at hc; subst hc; rfl) (by omega) (by omega)) ?_))
      rintro u70 w72 ⟨hSu70, hku70, hou70, -⟩
      refine ⟨trivial, ?_⟩
      have hBu70 := hku70.blk (hxq70.blk hN70.blk) (fun e => (hN70.low _ (.inr (.inr e))).2.2.2.2 rfl)
      refine qt 7 rfl (yfa fl84_3 rfl) trivial (qO 8 (nEffP (i := 8) rfl rfl (zst ti82 rfl rfl (oneV_sl hSu70) hBu70 (by simp)) ?_))
      rintro w73 ⟨hBz70, hkz70⟩
      refine ⟨trivial, ?_⟩
      have hzz70 : w1.heap.size ≤ w70.heap.size := by have := hgg70.size; have := hk70.size; omega
      obtain ⟨hNz70, hkk70⟩ := DcN.pushC hzz70 hN70 hxq70 (by rw [List.length_append, List.map_append]; exact hSu70) hku70 hou70 hBz70 hkz70
      have hSz70 := hS70.kp hkk70 (fun e => e.elim (fun e => hN70.n9.2.1 e.symm) (fun e => (hN70.low _ (.inr (.inr e))).2.1 rfl)) (fun e => e.elim (fun e => hN70.n9.2.2.1 e.symm) (fun e => (hN70.low _ (.inr (.inr e))).2.2.1 rfl)) (fun e => e.elim (fun e => hN70.n9.2.2.2 e.symm) (fun e => (hN70.low _ (.inr (.inr e))).2.2.2.1 rfl))
      have hxz70 : Ext w1 w73 := ((hxw11.trans hgg70).trans_new hk70 (fun i hi => by omega)).trans_new hkk70 (fun i hi => hi.elim (fun e => by have := hN70.n9.1; omega) (fun e => (hN70.low i (.inr (.inr e))).1))
      refine qE ?_
      exact (hk _ _ ⟨_, _, r3, c3, rfl, hNz70, hSz70, hLf hv1, hxz70, by simpa using hvc, by simp, by omega⟩).qb
 ·rw [if_neg hz]
  refine qV (yne rfl rfl) (rEnd (run_if rfl (fun h0 => ?_) (fun h0 => ?_)))
  ·refine qN rfl (qV (ybd (parts := []) (cs := [_, _, _, _]) ti84 rfl sp84 rfl rfl) (rEffP rfl (zstA ti84 rfl rfl rfl rfl hB2 (by simp)) ?_))
   rintro w2 ⟨hB3, hk2⟩
   refine qa rfl (rEnd (run_retR Tryz.func51 (.cell U84 rfl ti84 rfl (Blk.cells (n := 4) hB3 (news := [_, _, _, _]) rfl) rfl (.tmp rfl .nil)) ?_))
   exact ⟨_, rfl, hx1.trans_new hk2 (fun i hi => by omega), .inr ⟨dec_none.2 (fun n h1 _ _ => hz h1), rfl⟩⟩
  ·exact absurd (by decide) h0
theorem sub_of_len {a b : List Int} (ha : a.Nodup) (hab : ∀ x ∈ a, x ∈ b) (hl : b.length ≤ a.length) : ∀ x ∈ b, x ∈ a := fun x hx => by
 by_cases h : x ∈ a
 ·exact h
 ·have := List.Nodup.length_le_of_subset (List.nodup_cons.2 ⟨h, ha⟩) (l₂ := b) (fun y hy => by
   rcases List.mem_cons.1 hy with rfl | hy
   ·exact hx
   ·exact hab y hy)
  rw [List.length_cons] at this
  omega
theorem kn_len {T : Tr} {nb : Int → Nat} {kn : List (Int × Value)} {pg : List Int} (hg : ∀ no, getL kn no = (T.nodes no).map fun _ => ptr (nb no) 0) (hnd : (kn.map (·.1)).Nodup) (hpn : pg.Nodup) (hpg : ∀ x, T.nodes x ≠ none ↔ x ∈ pg) : kn.length = pg.length := by
 have : (kn.map (·.1)).Perm pg := (List.perm_ext_iff_of_nodup hnd hpn).2 fun x => by rw [keys_iff hg x, hpg x]
 simpa using this.length_eq
section
variable {w : World} {p : Nat} {T : Tr} {nb : Int → Nat} {F : Nat → Prop}
set_option maxHeartbeats 4000000 in
theorem whole_ret (h : TreeA w p T nb F) (hok : ∀ x n, T.nodes x = some n → NdOk T.size n) {pg : List Int} (hpn : pg.Nodup) (hpg : ∀ x, T.nodes x ≠ none ↔ x ∈ pg) (hpl : pg.length ≤ 1000000) (hcnt : T.count = 0) :
  Ret Tryz.prog 52 [ptr p 0] w fun v w' => Kp F w w' ∧ ((T.root = 0 ∧ v = .bool (decide (pg = [])) ∧ TreeA w' p T nb F) ∨ (T.root ≠ 0 ∧ ((∃ H ns es, Sub1 T.size T.nodes [] true T.root [] none H ns es ∧ ns.length = pg.length ∧ v = .bool true ∧ TreeA w' p { T with count := es.length } nb F) ∨ (v = .bool false ∧ ∀ H ns es, Sub1 T.size T.nodes [] true T.root [] none H ns es → ns.length ≠ pg.length)))) := by
 have hz : sizeOk (T.size : Int) := size_ok h
 obtain ⟨mN, mC, mO, gv, kn, kc, ko, O⟩ := h.opn
 have hlt := h.lt
 have hknl := kn_len O.ng O.nm.nd hpn hpg
 refine ret_of_run (e := [(0, _)]) Tryz.func52 rfl Tryz.ntmps52 rfl rfl (qN rfl (rValP rfl rfl (pbx rfl rfl) ?_))
 rintro _ w1 ⟨bt, rfl, hbt, hx1, hB1⟩
 have hBO1 := hx1.blk O.blk
 have hz1 := hx1.size
 have l1 := hB1.lt
 refine qa rfl (rEnd (run_seq (qN rfl (qV ((by first | exact yld U24 rfl rfl hB1 rfl | exact yld U24 rfl rfl hBO1 rfl)) ?_))))
 refine qV (ynk rfl) (qV (yfa fl74_1 rfl) (qV ((by first | exact yld U3 rfl rfl hB1 rfl | exact yld U3 rfl rfl hBO1 rfl)) ?_))
 refine qV (yeq rfl rfl) (rEnd (run_if rfl (fun hr => ?_) (fun hr => ?_)))
 ·refine qN rfl (qV ((by first | exact yld U24 rfl rfl hB1 rfl | exact yld U24 rfl rfl hBO1 rfl)) ?_)
  refine qV (ynk rfl) (qV (yfa fl74_5 rfl) (qV ((by first | exact yld U71 rfl rfl hB1 rfl | exact yld U71 rfl rfl hBO1 rfl)) ?_))
  refine qV (ylenM U71 rfl (O.nm.ext hx1).l) (qV (yeq rfl rfl) (qa rfl (rEnd (run_ret Tryz.func52 rfl (⟨_, rfl, hx1.kp, .inl ⟨hr, ?_, h.ext hx1⟩⟩)))))
  simp only [resVal]
  congr 1
  rw [decide_eq_decide]
  constructor
  ·intro e
   exact List.eq_nil_of_length_eq_zero (by omega)
  ·intro e
   rw [hknl, e]; rfl
 ·refine run_skip (qN rfl (rValP rfl rfl (pmm) ?_))
  rintro _ w2 ⟨mm, rfl, hmm, hx2, hh2⟩
  have lm : mm < w2.heap.size := (MapB.new (K := KZ) hh2).lt
  refine rValP rfl rfl (pal (cs := [_]) ti72 rfl) ?_
  rintro _ w3 ⟨bm, rfl, hbm, hx3, hB3⟩
  refine rEffP rfl (zst ti72 rfl rfl rfl hB3 (by simp)) ?_
  rintro w4 ⟨hB4, hk4⟩
  refine qM rfl (rValP rfl rfl (pal (cs := [_]) ti126 rfl) ?_)
  rintro _ w5 ⟨bw, rfl, hbw, hx5, hB5⟩
  refine qM rfl (qV (ymf (first := []) (caps := [.tmp 1, .tmp 3, .tmp 4]) rfl rfl) (rEffP rfl (zst ti126 rfl rfl rfl hB5 (by simp)) ?_))
  rintro w6 ⟨hB6, hk6⟩
  have hz2 := hx2.size
  have hz3 := hx3.size
  have hz4 := hk4.size
  have hz5 := hx5.size
  have l3 := hB3.lt
  have l4 := hB4.lt
  have l5 := hB5.lt
  have hp := hlt p O.fp.1
  have hx14 : Ext w1 w4 := ((hx2.trans hx3).trans_new hk4 (fun i hi => by omega))
  have hx16 : Ext w1 w6 := (hx14.trans hx5).trans_new hk6 (fun i hi => by omega)
  have hx06 := hx1.trans hx16
  have hc6 : WhC w6 p bt bm bw mm := ⟨hx16.blk hB1, hk6.blk (hx5.blk hB4) (by omega), hB6, ⟨by omega, by omega, by omega, by omega, by omega, by omega, by omega⟩⟩
  have hm6 : MetM w6 mm [] := ⟨[], ((((MapB.new (K := KZ) hh2).ext hx3).kp hk4 (by omega)).ext hx5).kp hk6 (by omega), rfl, fun x => by simp [getL]⟩
  have h6 := h.ext hx06
  have hBO6 := hx16.blk hBO1
  have hg6 : Ext w6 w6.drew := Ext.drew0 w6
  have hFn : ¬ F bt ∧ ¬ F bm ∧ ¬ F bw ∧ ¬ F mm := ⟨fun e => by have := hlt _ e; omega, fun e => by have := hlt _ e; omega, fun e => by have := hlt _ e; omega, fun e => by have := hlt _ e; omega⟩
  have hBf6 := hc6.f
  have hBt6 := hc6.t
  refine rEnd (run_seq (run_drawL [6] (fun w' => Ext w6 w') (by kernel_rfl) rfl (qL [6, 7, 8, 9, 10, 11, 12, 13, 14, 15, 16, 17, 18] 0 rfl (fun _ hS => (by first | exact yld U126 rfl rfl (hS.blk hBf6) rfl | exact yld U126 rfl rfl (hS.blk hBt6) rfl | exact yld U126 rfl rfl (hS.blk hBO6) rfl)) hg6 ?_)))
  refine qL [2, 3, 4, 6, 7, 8, 9, 10, 11, 12, 13, 14, 15, 16, 17, 18] 1 rfl (fun _ hS => (by first | exact yld U24 rfl rfl (hS.blk hBf6) rfl | exact yld U24 rfl rfl (hS.blk hBt6) rfl | exact yld U24 rfl rfl (hS.blk hBO6) rfl)) hg6 ?_
  refine qL [3, 4, 6, 7, 8, 9, 10, 11, 12, 13, 14, 15, 16, 17, 18] 2 rfl (fun _ hS => ynk rfl) hg6 (qL [4, 6, 7, 8, 9, 10, 11, 12, 13, 14, 15, 16, 17, 18] 3 rfl (fun _ hS => yfa fl74_1 rfl) hg6 (qL [6, 7, 8, 9, 10, 11, 12, 13, 14, 15, 16, 17, 18] 4 rfl (fun _ hS => (by first | exact yld U3 rfl rfl (hS.blk hBf6) rfl | exact yld U3 rfl rfl (hS.blk hBt6) rfl | exact yld U3 rfl rfl (hS.blk hBO6) rfl)) hg6 ?_))
  refine qL [6, 7, 8, 9, 10, 11, 12, 13, 14, 15, 16, 17, 18] 5 rfl (fun _ hS => ybd (parts := []) (cs := [_, _, _]) ti128 rfl sp128 rfl rfl) hg6 (hLate [6] (by kernel_rfl) (by kernel_rfl) (qO 6 (nCall (i := 6) rfl rfl rfl (ycv' (args := [.tmp 22, .tmp 23]) cf84 rfl rfl) (whAt_all p bt bm bw mm pg.length _ T nb F T.root [] none [] [] pg (h6.ext hg6) (hc6.ext hg6) hFn hok (fun x hx => (hpg x).1 hx) hpl (hm6.kp hg6 id) (by simp) (by simp) (by omega) (by simp) (fun u hu => by cases hu) (.inl ⟨rfl, rfl⟩)) ?_)))
  rintro v7 w7 ⟨hk7, hv7⟩
  refine ⟨trivial, ?_⟩
  have hk67 : Kp (fun k => k = mm ∨ k = p) w6 w7 := hg6.kp.trans hk7
  have hk07 : Kp F w w7 := hx06.kp.trans_new (hk67) (fun i hi => hi.elim (fun e => .inl (by omega)) (fun e => .inr (by rw [e]; exact O.fp.1)))
  rw [show decide (([] : List Int) = []) = true from rfl] at hv7
  rcases hv7 with ⟨H, ns, es, rfl, s, h7, hm7, -⟩ | ⟨rfl, hno⟩
  ·have hpos := s.bn.pos
   rw [hcnt, Nat.zero_add] at h7
   obtain ⟨mN7, mC7, mO7, gv7, kn7, kc7, ko7, O7⟩ := h7.opn
   obtain ⟨kv7, hM7, hl7, -⟩ := hm7
   rw [List.append_nil] at hl7
   have hkn7 : kn7.length = pg.length := kn_len (T := { T with count := es.length }) O7.ng O7.nm.nd hpn hpg
   have hc7 := hc6.kp hk67
   have hBm7 := hc7.m
   have hBt7 := hc7.t
   have hBO7 := O7.blk
   have hfin : ∀ b, b = decide ((kv7.length : Int) = (kn7.length : Int)) → ∃ v, (Ending.returned (Value.bool b)) = .returned v ∧ Kp F w w7 ∧ ((T.root = 0 ∧ v = .bool (decide (pg = [])) ∧ TreeA w7 p T nb F) ∨ (T.root ≠ 0 ∧ ((∃ H ns es, Sub1 T.size T.nodes [] true T.root [] none H ns es ∧ ns.length = pg.length ∧ v = .bool true ∧ TreeA w7 p { T with count := es.length } nb F) ∨ (v = .bool false ∧ ∀ H ns es, Sub1 T.size T.nodes [] true T.root [] none H ns es → ns.length ≠ pg.length)))) := fun b hb => by
    refine ⟨_, rfl, hk07, .inr ⟨hr, ?_⟩⟩
    by_cases e : ns.length = pg.length
    ·exact .inl ⟨H, ns, es, s, e, by rw [hb, decide_eq_true (by omega)], h7⟩
    ·refine .inr ⟨by rw [hb, decide_eq_false (by omega)], fun H' ns' es' s' => ?_⟩
     rw [(bn_det hz s'.bn s.bn).2.1]; exact e
   refine qt 7 rfl (ygt rfl rfl) trivial (rh_if (fun hp0 => ?_) (fun hp0 => ?_))
   ·refine qt 8 rfl (ymv rfl) trivial (hTwo (i := 9) (j := 11) (by kernel_rfl) ?_ ?_)
    ·refine nVal (i := 9) rfl rfl rfl (yld U72 rfl rfl hBm7 rfl) (trivial) (hTwo (i := 10) (j := 11) (by kernel_rfl) ?_ ?_)
     ·refine nVal (i := 10) rfl rfl rfl (ylenM U72 rfl hM7.l) (trivial) (qO 11 (nVal (i := 11) rfl rfl rfl (yld U24 rfl rfl hBt7 rfl) (trivial) (qt 12 rfl (ynk rfl) trivial (qt 13 rfl (yfa fl74_5 rfl) trivial (qO 14 (nVal (i := 14) rfl rfl rfl (yld U71 rfl rfl hBO7 rfl) (trivial) (qO 15 (nVal (i := 15) rfl rfl rfl (ylenM U71 rfl O7.nm.l) (trivial) (qt 16 rfl (yeq rfl rfl) trivial (qt 17 rfl (ypT rfl rfl) trivial (qt 18 rfl (yas rfl) trivial (qE (Run.qb (e := [(2, _)]) ?_)))))))))))))
      refine run_ret Tryz.func52 rfl ?_
      exact hfin _ rfl
     ·refine nVal (i := 11) rfl rfl rfl (yld U24 rfl rfl hBt7 rfl) (trivial) (qt 12 rfl (ynk rfl) trivial (qt 13 rfl (yfa fl74_5 rfl) trivial (hTwo (i := 10) (j := 14) (by kernel_rfl) ?_ ?_)))
      ·refine nVal (i := 10) rfl rfl rfl (ylenM U72 rfl hM7.l) (trivial) (qO 14 (nVal (i := 14) rfl rfl rfl (yld U71 rfl rfl hBO7 rfl) (trivial) (qO 15 (nVal (i := 15) rfl rfl rfl (ylenM U71 rfl O7.nm.l) (trivial) (qt 16 rfl (yeq rfl rfl) trivial (qt 17 rfl (ypT rfl rfl) trivial (qt 18 rfl (yas rfl) trivial (qE (Run.qb (e := [(2, _)]) ?_)))))))))
       refine run_ret Tryz.func52 rfl ?_
       exact hfin _ rfl
      ·refine nVal (i := 14) rfl rfl rfl (yld U71 rfl rfl hBO7 rfl) (trivial) (qO 10 (nVal (i := 10) rfl rfl rfl (ylenM U72 rfl hM7.l) (trivial) (qO 15 (nVal (i := 15) rfl rfl rfl (ylenM U71 rfl O7.nm.l) (trivial) (qt 16 rfl (yeq rfl rfl) trivial (qt 17 rfl (ypT rfl rfl) trivial (qt 18 rfl (yas rfl) trivial (qE (Run.qb (e := [(2, _)]) ?_)))))))))
       refine run_ret Tryz.func52 rfl ?_
       exact hfin _ rfl
    ·refine nVal (i := 11) rfl rfl rfl (yld U24 rfl rfl hBt7 rfl) (trivial) (qt 12 rfl (ynk rfl) trivial (qt 13 rfl (yfa fl74_5 rfl) trivial (hTwo (i := 9) (j := 14) (by kernel_rfl) ?_ ?_)))
     ·refine nVal (i := 9) rfl rfl rfl (yld U72 rfl rfl hBm7 rfl) (trivial) (hTwo (i := 10) (j := 14) (by kernel_rfl) ?_ ?_)
      ·refine nVal (i := 10) rfl rfl rfl (ylenM U72 rfl hM7.l) (trivial) (qO 14 (nVal (i := 14) rfl rfl rfl (yld U71 rfl rfl hBO7 rfl) (trivial) (qO 15 (nVal (i := 15) rfl rfl rfl (ylenM U71 rfl O7.nm.l) (trivial) (qt 16 rfl (yeq rfl rfl) trivial (qt 17 rfl (ypT rfl rfl) trivial (qt 18 rfl (yas rfl) trivial (qE (Run.qb (e := [(2, _)]) ?_)))))))))
       refine run_ret Tryz.func52 rfl ?_
       exact hfin _ rfl
      ·refine nVal (i := 14) rfl rfl rfl (yld U71 rfl rfl hBO7 rfl) (trivial) (qO 10 (nVal (i := 10) rfl rfl rfl (ylenM U72 rfl hM7.l) (trivial) (qO 15 (nVal (i := 15) rfl rfl rfl (ylenM U71 rfl O7.nm.l) (trivial) (qt 16 rfl (yeq rfl rfl) trivial (qt 17 rfl (ypT rfl rfl) trivial (qt 18 rfl (yas rfl) trivial (qE (Run.qb (e := [(2, _)]) ?_)))))))))
       refine run_ret Tryz.func52 rfl ?_
       exact hfin _ rfl
     ·refine nVal (i := 14) rfl rfl rfl (yld U71 rfl rfl hBO7 rfl) (trivial) (qO 9 (nVal (i := 9) rfl rfl rfl (yld U72 rfl rfl hBm7 rfl) (trivial) (qO 10 (nVal (i := 10) rfl rfl rfl (ylenM U72 rfl hM7.l) (trivial) (qO 15 (nVal (i := 15) rfl rfl rfl (ylenM U71 rfl O7.nm.l) (trivial) (qt 16 rfl (yeq rfl rfl) trivial (qt 17 rfl (ypT rfl rfl) trivial (qt 18 rfl (yas rfl) trivial (qE (Run.qb (e := [(2, _)]) ?_)))))))))))
      refine run_ret Tryz.func52 rfl ?_
      exact hfin _ rfl
   ·omega
  ·refine qt 7 rfl (ygt rfl rfl) trivial (rh_if (fun hp0 => ?_) (fun hp0 => ?_))
   ·omega
   ·refine qt 8 rfl (ymv rfl) trivial (qJ 9 rfl (trivial) (qJ 10 rfl (trivial) (qJ 11 rfl (trivial) (qJ 12 rfl (trivial) (qJ 13 rfl (trivial) (qJ 14 rfl (trivial) (qJ 15 rfl (trivial) (qJ 16 rfl (trivial) (qt 17 rfl (ypF rfl rfl) trivial (qt 18 rfl (yas rfl) trivial (qE (Run.qb (e := [(2, _)]) ?_))))))))))))
    refine run_ret Tryz.func52 rfl (⟨_, rfl, hk07, .inr ⟨hr, .inr ⟨rfl, fun H ns es s => absurd s (hno H ns es)⟩⟩⟩)
end
/-! ### Pages that are handed in -/
noncomputable def ndOf (z : Nat) (t : Bytes) : Option Nd := if t.length = z then dec t else none
noncomputable def nodesOf (z : Nat) (l : Pgs) : Nodes := fun x => match l.find? (fun y => decide (y.1 = x)) with
 | some y => ndOf z y.2
 | none => none
theorem ndOf_ok {z : Nat} {t : Bytes} {n : Nd} (h : ndOf z t = some n) : NdZ z n ∧ enc z n = t ∧ t.length = z := by
 unfold ndOf at h
 split at h
 ·rename_i e
  obtain ⟨-, h2, h3⟩ := dec_some.1 h
  rw [e] at h2 h3
  exact ⟨h2, h3, e⟩
 ·cases h
theorem nodesOf_none {z : Nat} {l : Pgs} {x : Int} (h : x ∉ l.map (·.1)) : nodesOf z l x = none := by
 unfold nodesOf
 rw [List.find?_eq_none.2 (fun y hy => by
  simp only [decide_eq_true_eq]
  intro e
  exact h (List.mem_map.2 ⟨y, hy, e⟩))]
theorem nodesOf_mem {z : Nat} : ∀ {l : Pgs} {y : Int × Bytes}, (l.map (·.1)).Nodup → y ∈ l → nodesOf z l y.1 = ndOf z y.2
 | a :: r, y, hn, hy => by
   rw [List.map_cons] at hn
   obtain ⟨h1, h2⟩ := List.nodup_cons.1 hn
   unfold nodesOf
   rw [List.find?_cons]
   rcases List.mem_cons.1 hy with rfl | hy
   ·rw [decide_eq_true rfl]
   ·have : a.1 ≠ y.1 := fun e => h1 (List.mem_map.2 ⟨y, hy, e.symm⟩)
    rw [decide_eq_false this]
    exact nodesOf_mem h2 hy
theorem nodesOf_ok {z : Nat} {l : Pgs} {x : Int} {n : Nd} (h : nodesOf z l x = some n) : NdZ z n ∧ x ∈ l.map (·.1) := by
 by_cases hx : x ∈ l.map (·.1)
 ·refine ⟨?_, hx⟩
  unfold nodesOf at h
  split at h
  ·exact (ndOf_ok h).1
  ·cases h
 ·rw [nodesOf_none hx] at h; cases h
theorem nodesOf_take {z : Nat} {l : Pgs} {i : Nat} {y : Int × Bytes} (hn : (l.map (·.1)).Nodup) (hy : l[i]? = some y) : nodesOf z (l.take (i + 1)) = updI (nodesOf z (l.take i)) y.1 (ndOf z y.2) := by
 funext x
 have hn1 : ((l.take (i + 1)).map (·.1)).Nodup := hn.sublist ((List.take_sublist _ _).map _)
 have hn0 : ((l.take i).map (·.1)).Nodup := hn.sublist ((List.take_sublist _ _).map _)
 have hm : ∀ a, a ∈ l.take (i + 1) ↔ a ∈ l.take i ∨ a = y := fun a => mem_take_succ hy
 by_cases e : x = y.1
 ·subst e
  rw [updI_same]
  exact nodesOf_mem hn1 ((hm y).2 (.inr rfl))
 ·rw [updI_ne e]
  by_cases hx : x ∈ (l.take i).map (·.1)
  ·obtain ⟨a, ha, rfl⟩ := List.mem_map.1 hx
   rw [nodesOf_mem hn0 ha, nodesOf_mem hn1 ((hm a).2 (.inl ha))]
  ·rw [nodesOf_none hx, nodesOf_none (fun hx' => by
    obtain ⟨a, ha, e'⟩ := List.mem_map.1 hx'
    rcases (hm a).1 ha with h | h
    ·exact hx (List.mem_map.2 ⟨a, h, e'⟩)
    ·subst h; exact e e'.symm)]
def numsOk (z root : Int) (l : Pgs) : Prop := sizeOk z ∧ (0 ≤ root ∧ root ≤ 2147483647) ∧ (l.map (·.1)).Nodup ∧ ∀ x ∈ l, 1 ≤ x.1 ∧ x.1 ≤ 2147483647
def LoadOk (z : Nat) (root : Int) (l : Pgs) (H : Nat) (ns : List Int) (es : Es) : Prop := (root = 0 ∧ l = [] ∧ H = 0 ∧ ns = [] ∧ es = []) ∨ (root ≠ 0 ∧ Sub1 z (nodesOf z l) [] true root [] none H ns es ∧ ns.length = l.length)
theorem LoadOk.mem {z : Nat} {root : Int} {l : Pgs} {H : Nat} {ns : List Int} {es : Es} (h : LoadOk z root l H ns es) : ∀ x, x ∈ ns ↔ x ∈ l.map (·.1) := by
 rcases h with ⟨-, rfl, -, rfl, -⟩ | ⟨-, s, hl⟩
 ·simp
 ·have h1 : ∀ x ∈ ns, x ∈ l.map (·.1) := fun x hx => by
   obtain ⟨n, hn⟩ := Option.ne_none_iff_exists'.1 (s.bn.some x hx)
   exact (nodesOf_ok hn).2
  exact fun x => ⟨h1 x, sub_of_len s.nd h1 (by simp; omega) x⟩
theorem LoadOk.all {z : Nat} {root : Int} {l : Pgs} {H : Nat} {ns : List Int} {es : Es} (h : LoadOk z root l H ns es) (hn : (l.map (·.1)).Nodup) : ∀ y ∈ l, ∃ n, ndOf z y.2 = some n := fun y hy => by
 have hm := (h.mem y.1).2 (List.mem_map.2 ⟨y, hy, rfl⟩)
 rcases h with ⟨-, rfl, -⟩ | ⟨-, s, hl⟩
 ·cases hy
 ·obtain ⟨n, hn'⟩ := Option.ne_none_iff_exists'.1 (s.bn.some _ hm)
  rw [nodesOf_mem hn hy] at hn'
  exact ⟨n, hn'⟩
noncomputable def TrL (z : Nat) (root : Int) (l : Pgs) (c : Nat) : Tr := ⟨z, root, c, nodesOf z l, [], fun _ => false, fun x => decide (x ∈ l.map (·.1))⟩
noncomputable def TrI (z : Nat) (l : Pgs) (i : Nat) : Tr := ⟨z, 0, 0, nodesOf z (l.take i), [], fun _ => false, fun x => decide (x ∈ (l.take i).map (·.1))⟩
theorem LoadOk.inv {z : Nat} {root : Int} {l : Pgs} {H : Nat} {ns : List Int} {es : Es} (h : LoadOk z root l H ns es) (hn : numsOk (z : Int) root l) : Inv (TrL z root l es.length) H ns es := by
 have hm := h.mem
 have hN : ∀ x, nodesOf z l x ≠ none → x ∈ l.map (·.1) := fun x hx => by
  obtain ⟨n, hn⟩ := Option.ne_none_iff_exists'.1 hx
  exact (nodesOf_ok hn).2
 refine ⟨?_, fun x hx => (hm x).2 (hN x hx), rfl, fun x hx => ?_, fun x hx => absurd hx List.not_mem_nil, ⟨List.Pairwise.nil, fun x hx => absurd hx List.not_mem_nil⟩, fun x hx _ => decide_eq_true (hN x hx)⟩
 ·rcases h with ⟨h1, -, h2, h3, h4⟩ | ⟨h1, s, -⟩
  ·exact .inl ⟨h1, h2, h3, h4⟩
  ·exact .inr ⟨h1, s.bn.pos, s.bn, s.nd, fun n hn => by have := s.cnd n hn; simpa using this⟩
 ·obtain ⟨y, hy, rfl⟩ := List.mem_map.1 (hN x hx)
  exact hn.2.2.2 y hy
theorem rd_pg {w : World} {b off n cap : Nat} {l : Pgs} {i : Nat} {y : Int × Bytes} (h : Rd w (.slice (some ⟨b, off, none⟩) n cap) 2 n (pgC l)) (hi : i < n) (hy : l[i]? = some y) : ∀ (j : Nat) u, [I y.1, S y.2][j]? = some u → w.cell? ⟨b, off + i * 2 + j, none⟩ = some u := fun j u hj => by
 rcases h.2 with ⟨c, -, h0⟩ | ⟨b', off', cap', hv, hc⟩
 ·omega
 ·cases hv
  obtain ⟨f1, f2⟩ := flat2 (fun x : Int × Bytes => I x.1) (fun x : Int × Bytes => S x.2) l i
  rw [hy] at f1 f2
  match j, hj with
  | 0, hj =>
    have : u = I y.1 := by simpa using hj.symm
    subst this
    have := hc (2 * i) (I y.1) f1
    rw [show off + i * 2 + 0 = off + 2 * i by omega]
    exact this
  | 1, hj =>
    have : u = S y.2 := by simpa using hj.symm
    subst this
    have := hc (2 * i + 1) (S y.2) f2
    rw [show off + i * 2 + 1 = off + (2 * i + 1) by omega]
    exact this
theorem rd_pgs {w : World} {a : Option Addr} {cap n : Nat} {l : Pgs} {i : Nat} (h : Rd w (.slice a n cap) 2 n (pgC l)) (hn : n = l.length) (hi : i < n) : ∃ b off y, a = some ⟨b, off, none⟩ ∧ l[i]? = some y := by
 rcases h.2 with ⟨c, -, h0⟩ | ⟨b', off', cap', hv, hc⟩
 ·omega
 ·cases hv
  exact ⟨b', off', _, rfl, List.getElem?_eq_getElem (by omega)⟩
section
variable {w : World}
set_option maxHeartbeats 8000000 in
theorem load_ret (z root : Int) {lv : Value} {l : Pgs} (hR : Rd w lv 2 l.length (pgC l)) (hl : l.length ≤ 1000000) (ht : ∀ y ∈ l, y.2.length ≤ 140737488355328) :
  Ret Tryz.prog 17 [I z, I root, lv] w fun v w' => Ext w w' ∧ ((¬ numsOk z root l ∧ v = .tuple #[.pointer none, I 1]) ∨ (numsOk z root l ∧ (∀ H ns es, ¬ LoadOk z.toNat root l H ns es) ∧ v = .tuple #[.pointer none, I 4]) ∨ (numsOk z root l ∧ ∃ H ns es p nb F, LoadOk z.toNat root l H ns es ∧ v = .tuple #[ptr p 0, I 0] ∧ TreeA w' p (TrL z.toNat root l es.length) nb F ∧ ∀ k, F k → w.heap.size ≤ k)) := by
 obtain ⟨la, lc, rfl, -⟩ := hR.shape
 refine ret_of_run (e := [(0, _), (1, _), (2, _)]) Tryz.func17 rfl Tryz.ntmps17 rfl rfl (qN rfl (qa rfl (qa rfl (qM rfl (qm rfl (rCall rfl rfl (yc (args := [.tmp 18]) cf8 rfl) (newT_ret z) ?_))))))
 rintro v1 w1 ⟨hx1, hv1⟩
 have hz1 := hx1.size
 rcases hv1 with ⟨hz, p, F, rfl, h1, hF1⟩ | ⟨hz, rfl⟩
 ·obtain ⟨k, rfl⟩ : ∃ k : Nat, z = (k : Int) := ⟨z.toNat, by have := hz.1; omega⟩
  rw [Int.toNat_natCast] at h1 ⊢
  obtain ⟨z1, z2, -⟩ := id hz
  have hlt1 := h1.lt
  refine qm rfl (qV (yex rfl rfl) (qV (yex rfl rfl) (qa rfl (qa rfl (rEnd (run_seq (qN rfl (qm rfl (qV (yne rfl rfl) (qm rfl (rVal_if (fun h0 => ?_) (fun h0 => ?_))))))))))))
  ·exact absurd rfl h0
  ·refine qm rfl (qV (ylt rfl rfl) (qV (ypF rfl rfl) (qm rfl (rVal_if (fun hr0 => ?_) (fun hr0 => ?_)))))
   ·refine qS (qS (qV (ypT rfl rfl) (rEnd (run_true rfl (qN rfl (qa rfl (qa rfl (rEnd (run_ret Tryz.func17 rfl ?_)))))))))
    exact ⟨_, rfl, hx1, .inl ⟨fun h => by have := h.2.1; omega, rfl⟩⟩
   ·refine qm rfl (qV (ygt rfl rfl) (rVal_if (fun hr1 => ?_) (fun hr1 => ?_)))
    ·refine qV (ypF rfl rfl) (rEnd (run_true rfl (qN rfl (qa rfl (qa rfl (rEnd (run_ret Tryz.func17 rfl ?_)))))))
     exact ⟨_, rfl, hx1, .inl ⟨fun h => by have := h.2.1; omega, rfl⟩⟩
    ·refine qV (ypF rfl rfl) (rEnd (run_false rfl (run_skip (qN rfl (rValP rfl rfl (pmm) ?_)))))
     rintro _ w2 ⟨ms, rfl, hms, hx2, hh2⟩
     have hl2 : ms < w2.heap.size := (MapB.new (K := KZ) hh2).lt
     have hz2 := hx2.size
     refine qa rfl (rEnd (run_seq (qN rfl (qm rfl (qV (yln U52 rfl) (qm rfl (rEnd (Run.qb (e := [(0, _), (1, _), (2, _), (6, _), (7, _), (8, _), (10, _), (33, _), (34, _), (35, _)]) ?_))))))))
     refine run_block (run_cut2 (fun e' w' => e' = [(0, I (k : Int)), (1, I root), (2, .slice la l.length lc), (8, ptr p 0)] ∧ Ext w1 w' ∧ numsOk (k : Int) root l) ?hkp (fun hkp => ?hmainp))
     case hkp =>
      rintro e' w3 ⟨rfl, hx3, hnums⟩
      obtain ⟨-, -, hnn, hnum⟩ := id hnums
      have hT0 : TrI k l 0 = Tr0 k := by
       unfold TrI Tr0
       congr 1
      have hx13 := hx1.trans hx3
      have hz3 := hx3.size
      refine run_seq (qN rfl (qm rfl (qV (yln U52 rfl) (qm rfl (rEnd (run_block (run_loop (α := Nat) (0) (fun i => [(0, I (k : Int)), (1, I root), (8, ptr p 0), (60, .slice la l.length lc), (61, I (l.length : Int)), (62, I (i : Int))]) (fun i w' => i ≤ l.length ∧ Ext w w' ∧ w3.heap.size ≤ w'.heap.size ∧ (∀ y ∈ l.take i, ∃ n, ndOf k y.2 = some n) ∧ ∃ nb F, TreeA w' p (TrI k l i) nb F ∧ ∀ k, F k → w.heap.size ≤ k) (fun i => l.length - i) (by repeat (first | exact Sub.nil | refine Sub.cons rfl ?_)) ?hI ?hround)))))))
      case hI => exact ⟨Nat.zero_le _, hx13, Nat.le_refl _, by simp, _, F, by rw [hT0]; exact h1.ext hx3, hF1⟩
      case hround =>
       rintro i wi ⟨hi, hxi, hzi, hall, nbi, Fi, hi', hFi⟩ ih
       have hlti := hi'.lt
       try dsimp only
       refine qN rfl (qV (ylt rfl rfl) (rEnd (run_seq (run_if rfl (fun hlt' => ?_) (fun hlt' => ?_)))))
       ·have hil : i < l.length := by omega
        obtain ⟨lb, lo, y, rfl, hy⟩ := rd_pgs hR rfl hil
        have hym := List.mem_of_getElem? hy
        have hnotin : y.1 ∉ (l.take i).map (·.1) := fun hb => by
         have hnd1 : ((l.take (i + 1)).map (·.1)).Nodup := hnn.sublist ((List.take_sublist _ _).map _)
         obtain ⟨hi2, e2⟩ := List.getElem?_eq_some_iff.1 hy
         rw [List.take_succ_eq_append_getElem hi2, e2, List.map_append] at hnd1
         exact (List.nodup_append.1 hnd1).2.2 _ hb y.1 (by simp) rfl
        have hfail : ndOf k y.2 = none → ∀ H ns es, ¬ LoadOk k root l H ns es := fun e H ns es hh => by
         obtain ⟨n, hn⟩ := hh.all hnn y hym
         rw [e] at hn; cases hn
        refine run_skip (run_seq (run_block (qN rfl (qV (yis U52 ti55 rfl rfl (by omega)) (qV (yldA U55 rfl ti55 rfl (rd_pg (hR.ext hxi) hil hy) rfl) (rValP rfl rfl (pal (cs := [_, _]) ti55 rfl) ?_))))))
        rintro _ w4 ⟨b14, rfl, hb14, hx4, hB4⟩
        refine rEffP rfl (zstA ti55 rfl rfl rfl rfl hB4 (by simp)) ?_
        rintro w5 ⟨hB5, hk5⟩
        have hB5' : Blk w5 b14 [I y.1, S y.2] 55 := hB5
        have hxi5 : Ext wi w5 := hx4.trans_new hk5 (fun j hj => by omega)
        have hl5 := hB5'.lt
        have hz5 := hxi5.size
        refine qM rfl (qV (yfa fl55_1 rfl) (qV (yld U9 rfl rfl hB5' rfl) (rCall rfl rfl (yc (args := [.tmp 68]) cf51 rfl) (decode_ret y.2 (ht y hym) w5) ?_)))
        rintro v6 w6 ⟨hx6, hv6⟩
        have hz6 := hx6.size
        rcases hv6 with ⟨n, kv, vv, cv, hdec, rfl, hP, hown⟩ | ⟨hdec, rfl⟩
        ·obtain ⟨ka, kac, hkq, -⟩ := hP.keys.rd.shape
         obtain ⟨va, vac, hvq, -⟩ := hP.vals.rd.shape
         obtain ⟨ca, cac, hcq, -⟩ := hP.kids.rd.shape
         subst hkq
         subst hvq
         subst hcq
         have hB6 := hx6.blk hB5'
         refine qm rfl (qV (yex rfl rfl) (qV (yex rfl rfl) ?_))
         unfold ndv
         refine rValP rfl rfl (pal (cs := [_, _, _, _]) ti84 rfl) ?_
         rintro _ w7 ⟨b15, rfl, hb15, hx7, hB7⟩
         refine rEffP rfl (zstA ti84 rfl rfl rfl rfl hB7 (by simp)) ?_
         rintro w8 ⟨hB8, hk8⟩
         have hB8' : Blk w8 b15 [.bool n.leaf, .slice ka n.keys.length kac, .slice va n.vals.length vac, .slice ca n.kids.length cac] 84 := hB8
         have hz7 := hx7.size
         have hl7 := hB8'.lt
         have hx68 : Ext w6 w8 := hx7.trans_new hk8 (fun j hj => by omega)
         have hxi8 : Ext wi w8 := (hxi5.trans hx6).trans hx68
         have hB14 := hx68.blk hB6
         refine qa rfl (rEnd (run_seq (qN rfl (qm rfl (qV (yne rfl rfl) (rVal_if (fun hh0 => ?_) (fun hh0 => ?_)))))))
         ·exact absurd rfl hh0
         ·refine qm rfl (qV (yfa fl55_1 rfl) (qV (yld U9 rfl rfl hB14 rfl) (qV (ylnS U9 rfl) (qm rfl (qV (yne rfl rfl) (rVal_if (fun hne => ?_) (fun hne => ?_)))))))
          ·refine qV (ypF rfl rfl) (rEnd (run_true rfl (qN rfl (qa rfl (qa rfl (rEnd (run_ret Tryz.func17 rfl (⟨_, rfl, hxi.trans hxi8, .inr (.inl ⟨hnums, hfail ?_, rfl⟩)⟩))))))))
           unfold ndOf
           rw [if_neg (by omega)]
          ·have hlen : y.2.length = k := by omega
           have hndk : ndOf k y.2 = some n := by unfold ndOf; rw [if_pos hlen]; exact hdec
           have h8 := hi'.ext hxi8
           obtain ⟨mN1, mC1, mO1, gv1, kn1, kc1, ko1, O1⟩ := h8.opn
           have hne1 := O1.ne
           have hap := O1.ap
           have hz8 := hxi8.size
           have hlN := hlti mN1 O1.fp.2.1
           have hlO := hlti mO1 O1.fp.2.2.2.1
           refine qV (ypF rfl rfl) (rEnd (run_false rfl (run_skip ?_)))
           have hg0 : Ext w8 w8.drew := Ext.drew0 w8
           refine run_draw (fun w' => Kp (fun k => k = mN1 ∨ k = mO1) w8 w') (by kernel_rfl) rfl (qt 0 rfl (ymv rfl) (hg0.kp) (qt 1 rfl (ynk rfl) (hg0.kp) (qt 2 rfl (yfa fl74_5 rfl) (hg0.kp) (qT 3 rfl (fun _ hS => (by first | exact yld U71 rfl rfl (hS.blk O1.blk (fun h => h.elim (fun e => hne1.1 e.symm) (fun e => hne1.2.2.1 e.symm))) rfl | exact yld U71 rfl rfl (hS.blk hB14 (by omega)) rfl)) (hg0.kp) ?_))))
           refine qt 4 rfl (yfa fl55_0 rfl) (hg0.kp) (qT 5 rfl (fun _ hS => (by first | exact yld U3 rfl rfl (hS.blk O1.blk (fun h => h.elim (fun e => hne1.1 e.symm) (fun e => hne1.2.2.1 e.symm))) rfl | exact yld U3 rfl rfl (hS.blk hB14 (by omega)) rfl)) (hg0.kp) ?_)
           refine qt 6 rfl (ymv rfl) (hg0.kp) (qt 7 rfl (ynk rfl) (hg0.kp) (qt 8 rfl (yfa fl74_8 rfl) (hg0.kp) (qT 9 rfl (fun _ hS => (by first | exact yld U72 rfl rfl (hS.blk O1.blk (fun h => h.elim (fun e => hne1.1 e.symm) (fun e => hne1.2.2.1 e.symm))) rfl | exact yld U72 rfl rfl (hS.blk hB14 (by omega)) rfl)) (hg0.kp) ?_)))
           refine qt 10 rfl (yfa fl55_0 rfl) (hg0.kp) (qT 11 rfl (fun _ hS => (by first | exact yld U3 rfl rfl (hS.blk O1.blk (fun h => h.elim (fun e => hne1.1 e.symm) (fun e => hne1.2.2.1 e.symm))) rfl | exact yld U3 rfl rfl (hS.blk hB14 (by omega)) rfl)) (hg0.kp) ?_)
           refine qO 12 (nValP (i := 12) rfl rfl rfl (pme (k := y.1) (K := KZ) U71 (ky_int U3) ti81 rfl rfl (O1.nm.kp hg0 id)) ?_)
           rintro _ w9 ⟨be, rfl, hE9, hk9⟩
           refine ⟨(hg0.kp).trans (hk9.mono' (fun _ h => .inl h)), ?_⟩
           refine qt 13 rfl (yex rfl rfl) ((hg0.kp).trans (hk9.mono' (fun _ h => .inl h))) (qO 14 (nEffP (i := 14) rfl rfl (zes rfl rfl rfl hE9) ?_))
           rintro w10 ⟨hM10, hk10⟩
           refine ⟨((hg0.kp).trans (hk9.mono' (fun _ h => .inl h))).trans (hk10.mono' (fun _ h => .inl h)), ?_⟩
           have hk810 : Kp (fun k => k = mN1) w8 w10 := ((hg0.kp).trans hk9).trans hk10
           have hbo : ¬ ownP (.slice ka n.keys.length kac) (.slice va n.vals.length vac) (.slice ca n.kids.length cac) b15 := fun hk => by have := hP.lt hk; omega
           have hN8 : NdM w8 n ⟨b15, .slice ka n.keys.length kac, .slice va n.vals.length vac, .slice ca n.kids.length cac⟩ := NdP.at (hP.kp hx68 (fun _ _ => id)) hB8' hbo
           have hfpn : ∀ j, Pl.fp ⟨b15, .slice ka n.keys.length kac, .slice va n.vals.length vac, .slice ca n.kids.length cac⟩ j → wi.heap.size ≤ j := fun j hj => by
            rcases hj with hj | hj | hj | hj
            ·dsimp only at hj; omega
            ·have := hown j (.inl hj); omega
            ·have := hown j (.inr (.inl hj)); omega
            ·have := hown j (.inr (.inr hj)); omega
           have hFn : ∀ j, Pl.fp ⟨b15, .slice ka n.keys.length kac, .slice va n.vals.length vac, .slice ca n.kids.length cac⟩ j → ¬ Fi j := fun j hj hf => by
            have := hfpn j hj
            have := hlti j hf
            omega
           have hN10 := hN8.kp hk810 (fun j hj e => hFn j hj (by rw [e]; exact O1.fp.2.1))
           have hnone : (TrI k l i).nodes y.1 = none := nodesOf_none hnotin
           obtain ⟨F2, h10, hF2⟩ := O1.newN w10 _ y.1 n ⟨b15, .slice ka n.keys.length kac, .slice va n.vals.length vac, .slice ca n.kids.length cac⟩ hN10 hM10 hk810 (fun x => by
            rw [getL_put, getL_put]
            by_cases e : x = y.1 <;> simp [e]) hnone hFn
           obtain ⟨mN2, mC2, mO2, gv2, kn2, kc2, ko2, O2⟩ := h10.opn
           have hB10 := hk810.blk O1.blk (fun e => hne1.1 e.symm)
           obtain ⟨e1, e2⟩ : mO2 = mO1 ∧ mN2 = mN1 := by
            have := Blk.inj O2.blk hB10
            simp [trCs] at this
            exact ⟨by omega, by omega⟩
           subst e1
           subst e2
           refine qO 15 (nValP (i := 15) rfl rfl rfl (pme (k := y.1) (K := KZ) U72 (ky_int U3) ti3 rfl rfl O2.om) ?_)
           rintro _ w11 ⟨be2, rfl, hE11, hk11⟩
           refine ⟨(hk810.mono' (fun _ h => .inl h)).trans (hk11.mono' (fun _ h => .inr h)), ?_⟩
           refine qt 16 rfl (yex rfl rfl) ((hk810.mono' (fun _ h => .inl h)).trans (hk11.mono' (fun _ h => .inr h))) (qO 17 (nEffP (i := 17) rfl rfl (zes rfl rfl rfl hE11) ?_))
           rintro w12 ⟨hM12, hk12⟩
           refine ⟨((hk810.mono' (fun _ h => .inl h)).trans (hk11.mono' (fun _ h => .inr h))).trans (hk12.mono' (fun _ h => .inr h)), ?_⟩
           refine qE (run_inBlock (run_reg rfl (qV (yad rfl rfl (by omega)) (qm rfl (rEnd ?_)))))
           have hk1012 : Kp (fun k => k = mO2) w10 w12 := hk11.trans hk12
           have h12 := O2.setO w12 _ (updI (TrI k l i).old y.1 true) hM12 hk1012 (fun x => by
            rw [getL_put, getL_put]
            by_cases e : x = y.1
            ·subst e; simp [flag, updI]
            ·rw [if_neg e, if_neg e, O2.og]; simp [updI, e, Tr.setN])
           have hnod : updI (TrI k l i).nodes y.1 (some n) = (TrI k l (i + 1)).nodes := by
            show updI (nodesOf k (l.take i)) y.1 (some n) = nodesOf k (l.take (i + 1))
            rw [nodesOf_take hnn hy, hndk]
           have hold : updI (TrI k l i).old y.1 true = (TrI k l (i + 1)).old := by
            funext x
            show (if x = y.1 then true else decide (x ∈ (l.take i).map (·.1))) = decide (x ∈ (l.take (i + 1)).map (·.1))
            rw [map_take_succ hy]
            by_cases e : x = y.1
            ·rw [if_pos e]; simp [e]
            ·rw [if_neg e]; simp [e]
           have hTe : ({ (TrI k l i).setN y.1 n with old := updI (TrI k l i).old y.1 true } : Tr) = TrI k l (i + 1) := by
            show (⟨k, 0, 0, updI (TrI k l i).nodes y.1 (some n), [], fun _ => false, updI (TrI k l i).old y.1 true⟩ : Tr) = _
            rw [hnod, hold]; rfl
           rw [hTe] at h12
           have hxi12 : Ext w w12 := ((hxi.trans hxi8).trans_new hk810 (fun j hj => by rw [hj]; exact hFi _ O1.fp.2.1)).trans_new hk1012 (fun j hj => by rw [hj]; exact hFi _ O1.fp.2.2.2.1)
           have hz812 := hk810.size
           have hz1012 := hk1012.size
           refine (ih (i + 1) w12 ⟨by omega, hxi12, by omega, fun x hx => ?_, _, F2, h12, fun j hj => ?_⟩ (by omega)).qb
           ·rcases (mem_take_succ hy).1 hx with hx | rfl
            ·exact hall x hx
            ·exact ⟨n, hndk⟩
           ·rcases hF2 j hj with e | e
            ·exact hFi j e
            ·have := hfpn j e
             have := hxi.size
             omega
        ·have hB6 := hx6.blk hB5'
         refine qm rfl (qV (yex rfl rfl) (qV (yex rfl rfl) (rValP rfl rfl (pal (cs := [_, _, _, _]) ti84 rfl) ?_)))
         rintro _ w7 ⟨b15, rfl, hb15, hx7, hB7⟩
         refine rEffP rfl (zstA ti84 rfl rfl rfl rfl hB7 (by simp)) ?_
         rintro w8 ⟨hB8, hk8⟩
         have hxi8 : Ext wi w8 := ((hxi5.trans hx6).trans hx7).trans_new hk8 (fun j hj => by have := hx7.size; omega)
         refine qa rfl (rEnd (run_seq (qN rfl (qm rfl (qV (yne rfl rfl) (rVal_if (fun hh0 => ?_) (fun hh0 => ?_)))))))
         ·refine qm rfl (qS (qS (qS (qS (qS (qV (ypT rfl rfl) (rEnd (run_true rfl (qN rfl (qa rfl (qa rfl (rEnd (run_ret Tryz.func17 rfl ?_)))))))))))))
          refine ⟨_, rfl, hxi.trans hxi8, .inr (.inl ⟨hnums, hfail ?_, rfl⟩)⟩
          unfold ndOf
          split
          ·exact hdec
          ·rfl
         ·exact absurd (by decide) hh0
       ·have : i = l.length := by omega
        subst this
        have hTl : TrI k l l.length = TrL k 0 l 0 := by unfold TrI TrL; rw [List.take_length]
        rw [hTl] at hi'
        rw [List.take_length] at hall
        obtain ⟨mN1, mC1, mO1, gv1, kn1, kc1, ko1, O1⟩ := hi'.opn
        have hBO := O1.blk
        refine run_exit rfl (qN rfl (qm rfl (qm rfl (qV (ynk rfl) (qV (yfa fl74_1 rfl) (rEffP rfl (zst ti3 rfl rfl rfl hBO (by simp [trCs])) ?_))))))
        rintro w4 ⟨hB4, hk4⟩
        have h4 : TreeA w4 p (TrL k root l 0) nbi Fi := O1.setB w4 root 0 (by simpa [trCs, TrL] using hB4) hk4
        have hok4 : ∀ x n, (TrL k root l 0).nodes x = some n → NdOk (TrL k root l 0).size n := fun x n hn => (nodesOf_ok hn).1.ok
        have hpg4 : ∀ x, (TrL k root l 0).nodes x ≠ none ↔ x ∈ l.map (·.1) := fun x => by
         constructor
         ·intro hx
          obtain ⟨n, hn⟩ := Option.ne_none_iff_exists'.1 hx
          exact (nodesOf_ok hn).2
         ·intro hx
          obtain ⟨y, hy, rfl⟩ := List.mem_map.1 hx
          obtain ⟨n, hn⟩ := hall y hy
          show nodesOf k l y.1 ≠ none
          rw [nodesOf_mem hnn hy, hn]; simp
        refine rEnd (run_seq (qN rfl (qm rfl (rCall rfl rfl (yc (args := [.tmp 102]) cf52 rfl) (whole_ret h4 hok4 hnn hpg4 (by simpa using hl) rfl) ?_))))
        rintro v5 w5 ⟨hk5, hv5⟩
        have hx5 : Ext w w5 := (hxi.trans_new hk4 (fun j hj => by rw [hj]; exact hFi _ O1.fp.1)).trans_new hk5 (fun j hj => hFi j hj)
        have hv5' : (∃ H ns es, LoadOk k root l H ns es ∧ v5 = .bool true ∧ TreeA w5 p (TrL k root l es.length) nbi Fi) ∨ ((∀ H ns es, ¬ LoadOk k root l H ns es) ∧ v5 = .bool false) := by
         rcases hv5 with ⟨e0, e1, e2⟩ | ⟨e0, ⟨H, ns, es, s, e1, e2, e3⟩ | ⟨e1, e2⟩⟩
         ·by_cases hl0 : l = []
          ·exact .inl ⟨0, [], [], .inl ⟨e0, hl0, rfl, rfl, rfl⟩, by rw [e1, hl0]; rfl, e2⟩
          ·refine .inr ⟨fun H ns es hh => ?_, by rw [e1, decide_eq_false (by simpa using hl0)]⟩
           rcases hh with ⟨-, e, -⟩ | ⟨e, -⟩
           ·exact hl0 e
           ·exact e e0
         ·exact .inl ⟨H, ns, es, .inr ⟨e0, s, by simpa using e1⟩, e2, e3⟩
         ·refine .inr ⟨fun H ns es hh => ?_, e1⟩
          rcases hh with ⟨e, -⟩ | ⟨-, s, e⟩
          ·exact e0 e
          ·exact e2 H ns es s (by simpa using e)
        rcases hv5' with ⟨H, ns, es, hL, rfl, h5⟩ | ⟨hno, rfl⟩
        ·refine qV ((by first | exact yntd rfl | exact ynt rfl)) ?_
         refine rEnd (run_false rfl (run_skip (qN rfl (qm rfl (qa rfl (qa rfl (rEnd (run_ret Tryz.func17 rfl ?_))))))))
         exact ⟨_, rfl, hx5, .inr (.inr ⟨hnums, H, ns, es, p, nbi, Fi, hL, rfl, h5, hFi⟩)⟩
        ·refine qV ((by first | exact yntd rfl | exact ynt rfl)) ?_
         refine rEnd (run_true rfl (qN rfl (qa rfl (qa rfl (rEnd (run_ret Tryz.func17 rfl ?_))))))
         exact ⟨_, rfl, hx5, .inr (.inl ⟨hnums, hno, rfl⟩)⟩
     case hmainp =>
      refine run_loop (α := Nat) (0) (fun i => [(0, I (k : Int)), (1, I root), (2, .slice la l.length lc), (8, ptr p 0), (10, .map (some ms)), (33, .slice la l.length lc), (34, I (l.length : Int)), (35, I (i : Int))]) (fun i w' => i ≤ l.length ∧ Ext w1 w' ∧ ((l.take i).map (·.1)).Nodup ∧ (∀ y ∈ l.take i, 1 ≤ y.1 ∧ y.1 ≤ 2147483647) ∧ ∃ kv, MapB KZ w' ms kv ∧ ∀ x, getL kv x = if x ∈ (l.take i).map (·.1) then some (I 1) else none) (fun i => l.length - i) (by repeat (first | exact Sub.nil | refine Sub.cons rfl ?_)) ?hI ?hround
      case hI => exact ⟨Nat.zero_le _, hx2, by simp, by simp, [], MapB.new hh2, fun x => by simp [getL]⟩
      case hround =>
       rintro i wi ⟨hi, hxi, hnd, hall, kv, hMs, hkv⟩ ih
       have hzi := hxi.size
       try dsimp only
       refine qN rfl (qV (ylt rfl rfl) (rEnd (run_seq (run_if rfl (fun hlt' => ?_) (fun hlt' => ?_)))))
       ·have hil : i < l.length := by omega
        obtain ⟨lb, lo, y, rfl, hy⟩ := rd_pgs hR rfl hil
        have hym := List.mem_of_getElem? hy
        refine run_skip (run_seq (run_block (qN rfl (qV (yis U52 ti55 rfl rfl (by omega)) (qV (yldA U55 rfl ti55 rfl (rd_pg ((hR.ext hx1).ext hxi) hil hy) rfl) (rValP rfl rfl (pal (cs := [_, _]) ti55 rfl) ?_))))))
        rintro _ w4 ⟨b12, rfl, hb12, hx4, hB4⟩
        refine rEffP rfl (zstA ti55 rfl rfl rfl rfl hB4 (by simp)) ?_
        rintro w5 ⟨hB5, hk5⟩
        have hB5' : Blk w5 b12 [I y.1, S y.2] 55 := hB5
        have hx15 : Ext w1 w5 := (hxi.trans hx4).trans_new hk5 (fun j hj => by omega)
        have hMs5 := (hMs.ext hx4).kp hk5 (by have := hMs.lt; omega)
        have hz4 := hx4.size
        have hl4 := hB5'.lt
        have hlms := hMs.lt
        obtain ⟨q, hq, hq'⟩ : ∃ q : Nat, (getL kv y.1).getD (I 0) = I (q : Int) ∧ ((q = 0 ∧ y.1 ∉ (l.take i).map (·.1)) ∨ (q = 1 ∧ y.1 ∈ (l.take i).map (·.1))) := by
         rw [hkv y.1]
         by_cases hm : y.1 ∈ (l.take i).map (·.1)
         ·exact ⟨1, by rw [if_pos hm]; rfl, .inr ⟨rfl, hm⟩⟩
         ·exact ⟨0, by rw [if_neg hm]; rfl, .inl ⟨rfl, hm⟩⟩
        refine qM rfl (qm rfl (qV (yfa fl55_0 rfl) (qV (yld U3 rfl rfl hB5' rfl) (qV (ylk (k := y.1) (K := KZ) U72 (ky_int U3) ti3 rfl rfl hMs5.l) ?_))))
        rw [hq]
        refine qV (yad rfl rfl (by omega)) (rEffP rfl (zmuB U72 (ky_int U3) rfl rfl rfl hMs5 (k := y.1)) ?_)
        rintro w6 ⟨hM6, hk6⟩
        have hx16 : Ext w1 w6 := hx15.trans_new hk6 (fun j hj => by omega)
        have hB6 := hk6.blk hB5' (by omega)
        have hget2 : (getL (putL kv y.1 (I ((q : Int) + 1))) y.1).getD (I 0) = I ((q : Int) + 1) := by rw [getL_put, if_pos rfl]; rfl
        have hbad : (¬ (1 ≤ y.1 ∧ y.1 ≤ 2147483647) ∨ y.1 ∈ (l.take i).map (·.1)) → ¬ numsOk (k : Int) root l := fun hb hok => by
         obtain ⟨-, -, g1, g2⟩ := hok
         rcases hb with hb | hb
         ·exact hb (g2 y hym)
         ·have := mem_take_succ (x := y) hy
          have hnd1 : ((l.take (i + 1)).map (·.1)).Nodup := g1.sublist ((List.take_sublist _ _).map _)
          obtain ⟨hi2, e2⟩ := List.getElem?_eq_some_iff.1 hy
          rw [List.take_succ_eq_append_getElem hi2, e2, List.map_append] at hnd1
          exact (List.nodup_append.1 hnd1).2.2 _ hb y.1 (by simp) rfl
        refine qM rfl (qV (yfa fl55_0 rfl) (qV (yld U3 rfl rfl hB6 rfl) (qV (ylt rfl rfl) (rVal_if (fun hc1 => ?_) (fun hc1 => ?_)))))
        ·refine qm rfl (qS (qS (qS (qV (ypT rfl rfl) (qm rfl (qS (qS (qS (qS (qS (qV (ypT rfl rfl) (rEnd (run_true rfl ?_)))))))))))))
         refine qN rfl (qa rfl (qa rfl (rEnd (run_ret Tryz.func17 rfl ?_))))
         exact ⟨_, rfl, hx1.trans hx16, .inl ⟨hbad (.inl (by omega)), rfl⟩⟩
        ·refine qm rfl (qV (yfa fl55_0 rfl) (qV (yld U3 rfl rfl hB6 rfl) (qV (ygt rfl rfl) (rVal_if (fun hc2 => ?_) (fun hc2 => ?_)))))
         ·refine qV (ypF rfl rfl) (qm rfl (qS (qS (qS (qS (qS (qV (ypT rfl rfl) (rEnd (run_true rfl (qN rfl (qa rfl (qa rfl (rEnd ?_)))))))))))))
          refine run_ret Tryz.func17 rfl ?_
          exact ⟨_, rfl, hx1.trans hx16, .inl ⟨hbad (.inl (by omega)), rfl⟩⟩
         ·refine qV (ypF rfl rfl) (qm rfl (qm rfl (qV (yfa fl55_0 rfl) (qV (yld U3 rfl rfl hB6 rfl) (qV (ylk (k := y.1) (K := KZ) U72 (ky_int U3) ti3 rfl rfl hM6.l) ?_)))))
          rw [hget2]
          refine qV (ygt rfl rfl) (rVal_if (fun hc3 => ?_) (fun hc3 => ?_))
          ·refine qV (ypF rfl rfl) (rEnd (run_true rfl (qN rfl (qa rfl (qa rfl (rEnd (run_ret Tryz.func17 rfl ?_)))))))
           exact ⟨_, rfl, hx1.trans hx16, .inl ⟨hbad (.inr (hq'.elim (fun e => by have := e.1; omega) (fun e => e.2))), rfl⟩⟩
          ·obtain ⟨hnm, rfl⟩ : y.1 ∉ (l.take i).map (·.1) ∧ q = 0 := hq'.elim (fun e => ⟨e.2, e.1⟩) (fun e => by have := e.1; omega)
           refine qV (ypF rfl rfl) (rEnd (run_false rfl (run_skip (run_inBlock (run_reg rfl (qV (yad rfl rfl (by omega)) (qm rfl (rEnd ?_))))))))
           have hmt : (l.take (i + 1)).map (·.1) = (l.take i).map (·.1) ++ [y.1] := map_take_succ hy
           refine (ih (i + 1) w6 ⟨by omega, hx16, ?_, fun x hx => ?_, _, hM6, fun x => ?_⟩ (by omega)).qb
           ·rw [hmt]
            exact List.nodup_append.2 ⟨hnd, by simp, fun a ha b hb e => by simp at hb; subst hb; subst e; exact hnm ha⟩
           ·rcases (mem_take_succ hy).1 hx with hx | rfl
            ·exact hall x hx
            ·omega
           ·rw [getL_put, hkv x, hmt]
            simp only [List.mem_append, List.mem_singleton]
            by_cases hxs : x = y.1
            ·rw [if_pos hxs, if_pos (.inr hxs)]; rfl
            ·rw [if_neg hxs]
             by_cases hxm : x ∈ (l.take i).map (·.1)
             ·rw [if_pos hxm, if_pos (.inl hxm)]
             ·rw [if_neg hxm, if_neg (fun hh => hh.elim hxm hxs)]
       ·have : i = l.length := by omega
        subst this
        rw [List.take_length] at hnd hall
        refine run_exit rfl ?_
        exact (hkp _ _ ⟨rfl, hxi, hz, ⟨by omega, by omega⟩, hnd, hall⟩).qb
 ·refine qm rfl (qV (yex rfl rfl) (qV (yex rfl rfl) (qa rfl (qa rfl (rEnd (run_seq (qN rfl (qm rfl (qV (yne rfl rfl) (qm rfl (rVal_if (fun h0 => ?_) (fun h0 => ?_))))))))))))
  ·refine qS (qS (qV (ypT rfl rfl) (qm rfl (qS (qS (qV (ypT rfl rfl) (rEnd (run_true rfl (qN rfl (qa rfl (qa rfl (rEnd (run_ret Tryz.func17 rfl ?_)))))))))))))
   exact ⟨_, rfl, hx1, .inl ⟨fun h => hz h.1, rfl⟩⟩
  ·exact absurd (by decide) h0
end
section
variable {P : Program} {e : Env} {d : Option Nat} {ty t t' kt el : TypeId} {pos : String} {aft : Array Edge} {g : Option (Nat × Bool)} {x y u u2 : Operand} {w : World}
theorem yslT {z v : Value} {size bytes n cap j : Nat} {a : Option Addr} {k : IntKind} {zb : Int} [hzb : NatC zb j] (ht : P.underlying t = some (.slice el)) (hs : TI P el z size bytes) (hx : look e x = some (.slice a n cap))
  (hu : look e u = some (.int k zb)) (h : j ≤ cap) (hv : Value.slice (if cap = 0 then a else a.map (·.add (0 * size))) j cap = v) :
  Y P e ⟨d, .slice t x none (some u) none, ty, pos, aft, g⟩ v w w := fun ρ hρ => by
 obtain ⟨rfl⟩ := hzb
 have hsz := hs.size (w := w)
 have h1 : ∀ w, (Instr.sliceBound (.int k (j : Int)) cap .sliceAcap).run P w = .ok j w := fun w => by rw [run_sliceBound _ _ _ _ _ (by omega) (by omega)]; simp
 subst hv
 simp [execOp, hρ _ _ hx, hρ _ _ hu, Instr.sliceAt, run_underlying ht, Instr.slice, Instr.sliceBounds, h1, hsz]
theorem yslF {z v : Value} {size bytes n cap i : Nat} {a : Option Addr} {k : IntKind} {za : Int} [hza : NatC za i] (ht : P.underlying t = some (.slice el)) (hs : TI P el z size bytes) (hx : look e x = some (.slice a n cap))
  (hy : look e y = some (.int k za)) (h : i ≤ n) (hc : n ≤ cap) (hv : Value.slice (if cap = i then a else a.map (·.add (i * size))) (n - i) (cap - i) = v) :
  Y P e ⟨d, .slice t x (some y) none none, ty, pos, aft, g⟩ v w w := hv ▸ yslE ht hs hx hy h hc
end
theorem Rd.cap {w : World} {a : Option Addr} {n cap size : Nat} {cs : List Value} (h : Rd w (.slice a n cap) size n cs) (h0 : n = 0 ∨ n ≤ cap) : n ≤ cap := by omega
theorem rd_pre {w : World} {a : Option Addr} {n cap size j : Nat} {cs : List Value} (h : Rd w (.slice a n cap) size n cs) (hj : j ≤ n) : ∃ v, Value.slice (if cap = 0 then a else a.map (·.add (0 * size))) j cap = v ∧ Rd w v size j (cs.take (j * size)) := by
 refine ⟨_, rfl, by rw [List.length_take, h.1]; exact Nat.min_eq_left (Nat.mul_le_mul_right _ hj), ?_⟩
 rcases h.2 with ⟨c, hv, h0⟩ | ⟨b, off, cap2, hv, hc⟩
 ·have : j = 0 := by omega
  subst this
  exact .inl ⟨⟨_, _⟩, rfl, rfl⟩
 ·cases hv
  refine .inr ⟨b, off, cap, by split <;> simp [Addr.add], fun j u hj => ?_⟩
  rw [List.getElem?_take] at hj
  split at hj
  ·exact hc _ _ hj
  ·cases hj
theorem rd_suf {w : World} {a : Option Addr} {n cap size i : Nat} {cs : List Value} (h : Rd w (.slice a n cap) size n cs) (hi : i ≤ n) (hnc : n ≤ cap) : ∃ v, Value.slice (if cap = i then a else a.map (·.add (i * size))) (n - i) (cap - i) = v ∧ Rd w v size (n - i) (cs.drop (i * size)) := by
 refine ⟨_, rfl, by rw [List.length_drop, h.1, Nat.sub_mul], ?_⟩
 rcases Nat.lt_or_ge i n with hin | hin
 ·rcases h.2 with ⟨c, hv, h0⟩ | ⟨b, off, cap2, hv, hc⟩
  ·omega
  ·cases hv
   refine .inr ⟨b, off + i * size, cap - i, by rw [if_neg (by omega)]; simp [Addr.add], fun j u hj => ?_⟩
   rw [List.getElem?_drop] at hj
   rw [Nat.add_assoc]
   exact hc _ _ hj
 ·have : n - i = 0 := by omega
  rw [this]
  exact .inl ⟨⟨_, _⟩, rfl, rfl⟩
theorem esC_len (es : Es) : (esC es).length = es.length * 2 := by induction es with
 | nil => rfl
 | cons x r ih => rw [show esC (x :: r) = [S x.1, S x.2] ++ esC r from rfl, List.length_append, ih]; simp; omega
theorem esC_take (es : Es) (i : Nat) : (esC es).take (i * 2) = esC (es.take i) := by
 rcases Nat.lt_or_ge es.length i with h | h
 ·rw [List.take_of_length_le (by rw [esC_len]; omega), List.take_of_length_le (by omega)]
 ·have : (esC (es.take i)).length = i * 2 := by rw [esC_len, List.length_take, Nat.min_eq_left h]
  conv => lhs; rw [← List.take_append_drop i es, esC_app, ← this, List.take_left']
theorem esC_drop (es : Es) (i : Nat) : (esC es).drop (i * 2) = esC (es.drop i) := by
 rcases Nat.lt_or_ge es.length i with h | h
 ·rw [List.drop_of_length_le (by rw [esC_len]; omega), List.drop_of_length_le (by omega)]; rfl
 ·have : (esC (es.take i)).length = i * 2 := by rw [esC_len, List.length_take, Nat.min_eq_left h]
  conv => lhs; rw [← List.take_append_drop i es, esC_app, ← this, List.drop_left']
theorem rd_en0 {w : World} {b off n cap : Nat} {l : Es} {i : Nat} {y : Bytes × Bytes} (h : Rd w (.slice (some ⟨b, off, none⟩) n cap) 2 n (esC l)) (hi : i < n) (hy : l[i]? = some y) : w.cell? ⟨b, off + i * 2, none⟩ = some (S y.1) := by
 rcases h.2 with ⟨c, -, h0⟩ | ⟨b', off', cap', hv, hc⟩
 ·omega
 ·cases hv
  obtain ⟨f1, f2⟩ := flat2 (fun x : Bytes × Bytes => S x.1) (fun x : Bytes × Bytes => S x.2) l i
  rw [hy] at f1
  have := hc (2 * i) (S y.1) f1
  rw [show off + i * 2 = off + 2 * i by omega]; exact this
theorem rd_en1 {w : World} {b off n cap : Nat} {l : Es} {i : Nat} {y : Bytes × Bytes} (h : Rd w (.slice (some ⟨b, off, none⟩) n cap) 2 n (esC l)) (hi : i < n) (hy : l[i]? = some y) : w.cell? ⟨b, off + i * 2 + 1, none⟩ = some (S y.2) := by
 rcases h.2 with ⟨c, -, h0⟩ | ⟨b', off', cap', hv, hc⟩
 ·omega
 ·cases hv
  obtain ⟨f1, f2⟩ := flat2 (fun x : Bytes × Bytes => S x.1) (fun x : Bytes × Bytes => S x.2) l i
  rw [hy] at f2
  have := hc (2 * i + 1) (S y.2) f2
  rw [show off + i * 2 + 1 = off + (2 * i + 1) by omega]; exact this
theorem rd_ens {w : World} {a : Option Addr} {cap n : Nat} {l : Es} {i : Nat} (h : Rd w (.slice a n cap) 2 n (esC l)) (hn : n = l.length) (hi : i < n) : ∃ b off y, a = some ⟨b, off, none⟩ ∧ l[i]? = some y := by
 rcases h.2 with ⟨c, -, h0⟩ | ⟨b', off', cap', hv, hc⟩
 ·omega
 ·cases hv
  exact ⟨b', off', _, rfl, List.getElem?_eq_getElem (by omega)⟩
theorem pos_at {l : List Bytes} {t : Bytes} {x : Bytes} (h : l[pos l t]? = some x) : lt x t = false := by
 unfold pos at h
 induction l with
 | nil => simp at h
 | cons a r ih =>
   simp only [List.takeWhile_cons] at h
   cases ha : lt a t with
   | true =>
     rw [ha] at h
     exact ih (by simpa using h)
   | false =>
     rw [ha] at h
     have : a = x := by simpa using h
     rw [← this]; exact ha
theorem posE_step {es : Es} {k : Bytes} {i : Nat} {y : Bytes × Bytes} (hi : i ≤ posE es k) (hy : es[i]? = some y) : (lt y.1 k = true → i + 1 ≤ posE es k) ∧ (lt y.1 k = false → i = posE es k) := by
 have hm : (es.map (·.1))[i]? = some y.1 := by rw [List.getElem?_map, hy]; rfl
 constructor
 ·intro h
  rcases Nat.lt_or_eq_of_le hi with h' | h'
  ·exact h'
  ·rw [h'] at hm
   have := pos_at hm
   rw [this] at h; cases h
 ·intro h
  rcases Nat.lt_or_eq_of_le hi with h' | h'
  ·have := pos_lt (l := es.map (·.1)) (t := k) y.1 (by
    have : ((es.map (·.1)).take (pos (es.map (·.1)) k))[i]? = some y.1 := by rw [List.getElem?_take, if_pos (show i < pos (es.map (·.1)) k from h')]; exact hm
    exact List.mem_of_getElem? this)
   rw [h] at this; cases this
  ·exact h'
theorem hasE_at {es : Es} {k : Bytes} {y : Bytes × Bytes} (hy : es[posE es k]? = some y) : hasE es k ↔ y.1 = k := by
 unfold hasE
 rw [List.getElem?_map, hy]
 simp
theorem hasE_no {es : Es} {k : Bytes} (h : posE es k = es.length) : ¬ hasE es k := by
 unfold hasE
 rw [h, List.getElem?_eq_none (by simp)]
 simp
structure MpM (w : World) (q : Nat) (mv : Value) (es : Es) : Prop where
 blk : Blk w q [mv] 32
 sl : Sl w mv 41 2 es.length (esC es)
 ne : mv.ownBlock ≠ some q
 le : es.length ≤ 1000000
theorem MpM.ext {w w' : World} {q : Nat} {mv : Value} {es : Es} (h : MpM w q mv es) (k : Ext w w') : MpM w' q mv es := ⟨k.blk h.blk, h.sl.ext k, h.ne, h.le⟩
theorem MpM.kp {w w' : World} {q : Nat} {mv : Value} {es : Es} {F : Nat → Prop} (h : MpM w q mv es) (k : Kp F w w') (h1 : ¬ F q) (h2 : ∀ g, mv.ownBlock = some g → ¬ F g) : MpM w' q mv es := ⟨k.blk h.blk h1, h.sl.kp k h2, h.ne, h.le⟩
section
variable {w : World} {q : Nat} {mv : Value} {es : Es}
theorem at_ret (h : MpM w q mv es) (k : Bytes) : Ret Tryz.prog 41 [ptr q 0, S k] w fun v w' => v = I ((posE es k : Nat) : Int) ∧ w' = w := by
 obtain ⟨a, c, rfl, -⟩ := h.sl.rd.shape
 have hB := h.blk
 have hR := h.sl.rd
 have hpl := posE_le es k
 have hle := h.le
 refine ret_of_run (e := [(0, _), (1, _)]) Tryz.func41 rfl Tryz.ntmps41 rfl rfl (qN rfl (qa rfl (qM rfl (qa rfl (rEnd (run_seq (run_block (run_loop (α := Nat) (0) (fun i => [(0, ptr q 0), (1, S k), (5, I (i : Int))]) (fun i w' => w' = w ∧ i ≤ posE es k) (fun i => es.length - i) (by repeat (first | exact Sub.nil | refine Sub.cons rfl ?_)) ?hI ?hround))))))))
 case hI => exact ⟨rfl, Nat.zero_le _⟩
 case hround =>
  rintro i w1 ⟨rfl, hi⟩ ih
  try dsimp only
  refine run_seq (qN rfl (qm rfl (qm rfl (qV (ynk rfl) (qV (yfa fl32_0 rfl) (qV (yld U30 rfl rfl hB rfl) (qV (yln U30 rfl) (qV (ylt rfl rfl) (qm rfl (rVal_if (fun h1 => ?_) (fun h1 => ?_)))))))))))
  ·have hi' : i < es.length := by omega
   obtain ⟨lb, lo, y, rfl, hy⟩ := rd_ens hR rfl hi'
   have hst := posE_step hi hy
   refine qm rfl (qV (ynk rfl) (qV (yfa fl32_0 rfl) (qV (yld U30 rfl rfl hB rfl) (qm rfl (qV (yis U30 ti41 rfl rfl (by omega)) (qV (yfa fl41_0 rfl) (qV (yldc U9 rfl rfl (rd_en0 hR hi' hy)) (qm rfl (qV (yltS rfl rfl) (qV (ypT rfl rfl) (rEnd (run_cond rfl (fun h2 => ?_) (fun h2 => ?_)))))))))))))
   ·refine run_skip (run_block (run_reg rfl (qm rfl (qV (yad rfl rfl (by omega)) (qa rfl (rEnd (run_inBlock ?_)))))))
    exact (ih (i + 1) _ ⟨rfl, hst.1 h2⟩ (by omega)).qb
   ·refine run_exit rfl (qN rfl (qm rfl (qa rfl (rEnd (run_ret Tryz.func41 rfl ?_)))))
    exact ⟨_, rfl, by rw [← hst.2 h2]; rfl, rfl⟩
  ·refine qS (qS (qS (qS (qS (qS (qS (qS (qS (qS (qV (ypF rfl rfl) (rEnd (run_false rfl (run_exit rfl ?_)))))))))))))
   refine qN rfl (qm rfl (qa rfl (rEnd (run_ret Tryz.func41 rfl ?_))))
   have : i = posE es k := by omega
   exact ⟨_, rfl, by rw [← this]; rfl, rfl⟩
theorem getM_ret (h : MpM w q mv es) (k : Bytes) : Ret Tryz.prog 10 [ptr q 0, S k] w fun v w' => v = .tuple #[S (getR es k).1, I (getR es k).2] ∧ w' = w := by
 have hAt := at_ret h k
 obtain ⟨a, c, rfl, -⟩ := h.sl.rd.shape
 have hB := h.blk
 have hR := h.sl.rd
 have hpl := posE_le es k
 have hle := h.le
 refine ret_of_run (e := [(0, _), (1, _)]) Tryz.func10 rfl Tryz.ntmps10 rfl rfl (qN rfl (qa rfl (qa rfl (rEnd (run_seq (qN rfl (qm rfl (rCall rfl rfl (yc (args := [.tmp 7]) cf40 rfl) (rkey_ret k _) ?_))))))))
 rintro _ w1 ⟨rfl, rfl⟩
 refine qV ((by first | exact yntd rfl | exact ynt rfl)) ?_
 refine rEnd (run_cond rfl (fun hk => ?_) (fun hk => ?_))
 ·refine qN rfl (qa rfl (qa rfl (rEnd (run_ret Tryz.func10 rfl ?_))))
  have hk' : ¬ keyOk k := of_decide_eq_true hk
  refine ⟨_, rfl, ?_, rfl⟩
  unfold getR
  rw [if_neg hk']; rfl
 ·have hk' : keyOk k := Decidable.not_not.1 (of_decide_eq_false hk)
  refine run_skip (qN rfl (qm rfl (qm rfl (rCall rfl rfl (yc (args := [.tmp 10, .tmp 11]) cf41 rfl) (hAt) ?_))))
  rintro _ w1 ⟨rfl, rfl⟩
  refine qa rfl (rEnd (run_seq (qN rfl (qm rfl (qm rfl (qV (ynk rfl) (qV (yfa fl32_0 rfl) (qV (yld U30 rfl rfl hB rfl) (qV (yln U30 rfl) (qV (yeq rfl rfl) (qm rfl (rVal_if (fun h1 => ?_) (fun h1 => ?_)))))))))))))
  ·refine qS (qS (qS (qS (qS (qS (qS (qS (qS (qS (qV (ypT rfl rfl) (rEnd (Run.qb (e := [(0, _), (4, _), (5, _), (6, _), (31, _)]) ?_))))))))))))
   refine run_true rfl (qN rfl (qa rfl (qa rfl (rEnd (run_ret Tryz.func10 rfl (⟨_, rfl, ?_, rfl⟩))))))
   unfold getR
   rw [if_pos hk', getE_none (hasE_no (by omega))]; rfl
  ·have hi' : posE es k < es.length := by omega
   obtain ⟨lb, lo, y, rfl, hy⟩ := rd_ens hR rfl hi'
   have hst := hasE_at hy
   refine qm rfl (qV (ynk rfl) (qV (yfa fl32_0 rfl) (qV (yld U30 rfl rfl hB rfl) (qm rfl (qV (yis U30 ti41 rfl rfl (by omega)) (qV (yfa fl41_0 rfl) (qV (yldc U9 rfl rfl (rd_en0 hR hi' hy)) (qm rfl (qV (yneS rfl rfl) (qV (ypF rfl rfl) (rEnd (Run.qb (e := [(0, _), (4, _), (5, _), (6, _), (31, _)]) ?_))))))))))))
   refine run_cond rfl (fun h2 => ?_) (fun h2 => ?_)
   ·refine qN rfl (qa rfl (qa rfl (rEnd (run_ret Tryz.func10 rfl ?_))))
    have h2' : ¬ y.1 = k := by simpa using h2
    refine ⟨_, rfl, ?_, rfl⟩
    unfold getR
    rw [if_pos hk', getE_none (fun hh => h2' (hst.1 hh))]; rfl
   ·have h2' : y.1 = k := by simpa using h2
    refine run_skip (qN rfl (qm rfl (qV (ynk rfl) (qV (yfa fl32_0 rfl) (qV (yld U30 rfl rfl hB rfl) (qm rfl (qV (yis U30 ti41 rfl rfl (by omega)) (qV (yfa fl41_1 rfl) (qV (yldc U9 rfl rfl (rd_en1 hR hi' hy)) (qa rfl (qa rfl (rEnd (run_ret Tryz.func10 rfl ?_)))))))))))))
    refine ⟨_, rfl, ?_, rfl⟩
    unfold getR
    rw [if_pos hk', getE_some (hst.2 h2') (v := y.2) (by rw [List.getElem?_map, hy]; rfl)]; rfl
theorem may8_ret (z : Nat) (hz : sizeOk (z : Int)) (k v : Bytes) (hk : k.length ≤ 140737488355328) (hv : v.length ≤ 140737488355328) (w : World) : Ret Tryz.prog 36 [I (z : Int), S k, S v] w fun u w' => u = .bool (decide (may z k v)) ∧ w' = w := by
 refine ret_of_run (e := [(0, _), (1, _), (2, _)]) Tryz.func36 rfl Tryz.ntmps36 rfl rfl (qN rfl (qa rfl (qM rfl (qm rfl (rCall rfl rfl (yc (args := [.tmp 10]) cf65 rfl) (rmost_ok hz _) ?_)))))
 rintro _ w1 ⟨rfl, rfl⟩
 refine qm rfl (qV (yex rfl rfl) (qV (yex rfl rfl) (qa rfl (qa rfl (qM rfl (qm rfl (qV (yeq rfl rfl) (qm rfl (rVal_if (fun h0 => ?_) (fun h0 => ?_))))))))))
 ·refine qm rfl (rCall rfl rfl (yc (args := [.tmp 17]) cf40 rfl) (rkey_ret k _) ?_)
  rintro _ w1 ⟨rfl, rfl⟩
  refine qV (ypT rfl rfl) (qm rfl ?_)
  by_cases hko : keyOk k
  ·have hd : decide (1 ≤ k.length ∧ k.length ≤ 64) = true := decide_eq_true hko
   rw [hd]
   refine qm rfl (qV (ylnS U9 rfl) (qV (yad rfl rfl (by omega)) (qm rfl (qV (ylnS U9 rfl) (qV (yad rfl rfl (by omega)) (qm rfl (qV (yle rfl rfl) (qV (ypT rfl rfl) (qa rfl (rEnd (Run.qb (e := [(6, _)]) ?_)))))))))))
   refine run_ret Tryz.func36 rfl (⟨_, rfl, ?_, rfl⟩)
   show Value.bool _ = _
   congr 1
   rw [decide_eq_decide]
   unfold may
   constructor
   ·intro h; exact ⟨hko, by omega⟩
   ·intro h; have := h.2; omega
  ·have hd : decide (1 ≤ k.length ∧ k.length ≤ 64) = false := decide_eq_false hko
   rw [hd]
   refine qS (qS (qS (qS (qS (qS (qS (qS (qV (ypF rfl rfl) (qa rfl (rEnd (Run.qb (e := [(6, _)]) ?_)))))))))))
   refine run_ret Tryz.func36 rfl (⟨_, rfl, ?_, rfl⟩)
   rw [decide_eq_false (fun h => hko h.1)]; rfl
 ·exact absurd rfl h0
end
theorem rd_pg0 {w : World} {b off n cap : Nat} {l : Pgs} {i : Nat} {y : Int × Bytes} (h : Rd w (.slice (some ⟨b, off, none⟩) n cap) 2 n (pgC l)) (hi : i < n) (hy : l[i]? = some y) : w.cell? ⟨b, off + i * 2, none⟩ = some (I y.1) := rd_pg h hi hy 0 _ rfl
theorem rd_pg1 {w : World} {b off n cap : Nat} {l : Pgs} {i : Nat} {y : Int × Bytes} (h : Rd w (.slice (some ⟨b, off, none⟩) n cap) 2 n (pgC l)) (hi : i < n) (hy : l[i]? = some y) : w.cell? ⟨b, off + i * 2 + 1, none⟩ = some (S y.2) := rd_pg h hi hy 1 _ rfl
section
variable {w : World}
end
def MpS (q : Nat) (w w' : World) (es' : Es) : Prop := ∃ mv', MpM w' q mv' es' ∧ Kp (fun k => k = q) w w' ∧ ∀ g, mv'.ownBlock = some g → w.heap.size ≤ g
theorem esC_one1 (es : Es) : ∀ c ∈ esC es, c.oneCell' = true := fun c hc => by
 obtain ⟨x, -, hx⟩ := List.mem_flatMap.1 hc
 simp at hx
 rcases hx with rfl | rfl <;> rfl
section
variable {w : World} {q : Nat} {mv : Value} {es : Es}
set_option maxHeartbeats 4000000 in
theorem putM_ret (h : MpM w q mv es) (hl : es.length + 1 ≤ 1000000) (k v : Bytes) : Ret Tryz.prog 39 [ptr q 0, S k, S v] w fun u w' => u = .tuple #[] ∧ MpS q w w' (insE es k v) := by
 have hAt := at_ret h k
 have hil := insE_len es k v
 obtain ⟨a, c, rfl, -⟩ := h.sl.rd.shape
 have hB := h.blk
 have hR := h.sl.rd
 have hpl := posE_le es k
 have hlq := hB.lt
 have hle := h.le
 have hnc : es.length ≤ c := by
  rcases h.sl.shape with ⟨e, e0⟩ | ⟨g, cap, e, e1⟩
  ·omega
  ·cases e; exact e1
 have hml : maxLen = 9223372036854775807 := rfl
 obtain ⟨pv, hpv, hpr⟩ := rd_pre hR hpl
 rw [esC_take] at hpr
 refine ret_of_run (e := [(0, _), (1, _), (2, _)]) Tryz.func39 rfl Tryz.ntmps39 rfl rfl (qN rfl (qm rfl (qm rfl (rCall rfl rfl (yc (args := [.tmp 7, .tmp 8]) cf41 rfl) (hAt) ?_))))
 rintro _ w1 ⟨rfl, rfl⟩
 refine qa rfl (rEnd (run_seq (run_seq (run_cut (fun e' w' => ∃ f : Bool, e' = [(0, ptr q 0), (1, S k), (2, S v), (6, I ((posE es k : Nat) : Int)), (28, .bool f)] ∧ w' = w1 ∧ (f = true ↔ hasE es k)) ?hkf (fun hkf => ?hmainf)))))
 case hkf =>
  rintro e' w1 ⟨f, rfl, rfl, hf⟩
  have hg : Ext w1 w1.drew := Ext.drew0 w1
  refine run_cond rfl (fun hff => ?_) (fun hff => ?_)
  ·have hhas := hf.1 hff
   have hlt := hasE_lt hhas
   obtain ⟨sv, hsv, hsr⟩ := rd_suf (i := posE es k + 1) hR (by omega) hnc
   rw [esC_drop] at hsr
   refine run_seq (run_drawL [24] (fun w' => Ext w1 w') (by kernel_rfl) rfl (qL [22, 23, 24] 0 rfl (fun _ hS => ymv rfl) hg (qL [3, 4, 5, 7, 8, 13, 21, 22, 23, 24] 2 rfl (fun _ hS => ymv rfl) hg (qL [4, 5, 7, 8, 13, 21, 22, 23, 24] 3 rfl (fun _ hS => ynk rfl) hg (qL [5, 7, 8, 13, 21, 22, 23, 24] 4 rfl (fun _ hS => yfa fl32_0 rfl) hg (qL [7, 8, 13, 21, 22, 23, 24] 5 rfl (fun _ hS => yld U30 rfl rfl (hS.blk hB) rfl) hg (qL [7, 8, 13, 21, 22, 23, 24] 6 rfl (fun _ hS => ymv rfl) hg (qL [11, 12, 13, 21, 22, 23, 24] 9 rfl (fun _ hS => ymv rfl) hg (qL [11, 12, 13, 21, 22, 23, 24] 10 rfl (fun _ hS => ymv rfl) hg (qL [12, 13, 21, 22, 23, 24] 11 rfl (fun _ hS => ybd (parts := [(0, .tmp 38), (1, .tmp 39)]) (cs := [_, _]) ti41 rfl sp41 rfl rfl) hg (qL [15, 16, 17, 20, 21, 22, 23, 24] 14 rfl (fun _ hS => ymv rfl) hg (qL [16, 17, 20, 21, 22, 23, 24] 15 rfl (fun _ hS => ynk rfl) hg (qL [17, 20, 21, 22, 23, 24] 16 rfl (fun _ hS => yfa fl32_0 rfl) hg ?_)))))))))))))
   refine qL [20, 21, 22, 23, 24] 17 rfl (fun _ hS => yld U30 rfl rfl (hS.blk hB) rfl) hg (qL [19, 20, 21, 22, 23, 24] 18 rfl (fun _ hS => ymv rfl) hg (qL [20, 21, 22, 23, 24] 19 rfl (fun _ hS => yad rfl rfl (by omega)) hg (qL [8, 13, 21, 22, 23, 24] 7 rfl (fun _ hS => yslT U30 ti41 rfl rfl (by omega) hpv) hg (qL [21, 22, 23, 24] 20 rfl (fun _ hS => yslF U30 ti41 rfl rfl (by omega) hnc hsv) hg (hTwoL (i := 1) (j := 12) (by kernel_rfl) ?_ ?_)))))
   ·refine nValPL (i := 1) rfl rfl rfl (pbs (parts := []) (cs := []) (zs := []) U30 ti41 rfl (by kernel_rfl) rfl rfl rfl (by decide)) ?_
    rintro _ w2 ⟨b2, rfl, ⟨hb2, hx2, hB2⟩, hS2⟩
    refine ⟨hg.trans hx2, ?_⟩
    have hl2 : w1.heap.size ≤ b2 := by have := hg.size; omega
    have hlt2 := hB2.lt
    have hg := hg.trans hx2
    try have hS5 := hS5.ext hx2
    refine hTwoL (i := 8) (j := 12) (by kernel_rfl) ?_ ?_
    ·refine nValPL (i := 8) rfl rfl rfl (pap U30 ti41 rfl (by decide) rfl rfl hS2 (hpr.ext hg) (esC_one1 _) (by omega) (by omega)) ?_
     rintro v3 w3 ⟨hS3, hk3, ho3, -⟩
     refine ⟨hg.trans_new hk3 (fun i hi => by have e : b2 = i := Option.some.inj hi; omega), ?_⟩
     have hl3 : ∀ g, v3.ownBlock = some g → w1.heap.size ≤ g := fun g hg' => by
      have := hg.size
      rcases ho3 g hg' with e | e
      ·have e : b2 = g := Option.some.inj e; omega
      ·omega
     try have hS5 := hS5.kp hk3 (fun g hg' e => by have e : b2 = g := Option.some.inj e; have e' : b5 = g := Option.some.inj hg'; omega)
     have hg := hg.trans_new hk3 (fun i hi => by have e : b2 = i := Option.some.inj hi; omega)
     rw [List.nil_append, Nat.zero_add] at hS3
     refine hOneL (i := 12) (by kernel_rfl) (nValPL (i := 12) rfl rfl rfl (pbs (parts := [(0, .tmp 40)]) (cs := [_, _]) (zs := [Value.string ⟨#[]⟩, Value.string ⟨#[]⟩]) U30 ti41 rfl (by kernel_rfl) rfl rfl rfl (by decide)) ?_)
     rintro _ w5 ⟨b5, rfl, ⟨hb5, hx5, hB5⟩, hS5⟩
     refine ⟨hg.trans hx5, ?_⟩
     have hg := hg.trans hx5
     have hlt5 := hB5.lt
     try have hS2 := hS2.ext hx5
     try have hS3 := hS3.ext hx5
     refine hOneL (i := 13) (by kernel_rfl) (nValPL (i := 13) rfl rfl rfl (pap U30 ti41 rfl (by decide) rfl rfl hS3 hS5.rd (by intro c hc; simp at hc; rcases hc with rfl | rfl <;> rfl) (by omega) (by omega)) ?_)
     rintro v6 w6 ⟨hS6, hk6, ho6, -⟩
     refine ⟨hg.trans_new hk6 (fun i hi => hl3 i hi), ?_⟩
     have hl6 : ∀ g, v6.ownBlock = some g → w1.heap.size ≤ g := fun g hg' => by
      have := hg.size
      rcases ho6 g hg' with e | e
      ·exact hl3 g e
      ·omega
     have hg := hg.trans_new hk6 (fun i hi => hl3 i hi)
     refine hOneL (i := 21) (by kernel_rfl) (nValPL (i := 21) rfl rfl rfl (pap U30 ti41 rfl (by decide) rfl rfl hS6 (hsr.ext hg) (esC_one1 _) (by omega) (by omega)) ?_)
     rintro v7 w7 ⟨hS7, hk7, ho7, -⟩
     refine ⟨hg.trans_new hk7 (fun i hi => hl6 i hi), ?_⟩
     have hl7 : ∀ g, v7.ownBlock = some g → w1.heap.size ≤ g := fun g hg' => by
      have := hg.size
      rcases ho7 g hg' with e | e
      ·exact hl6 g e
      ·omega
     have hg := hg.trans_new hk7 (fun i hi => hl6 i hi)
     refine qL [23, 24] 22 rfl (fun _ hS => ynk rfl) hg (qL [24] 23 rfl (fun _ hS => yfa fl32_0 rfl) hg (hLate [24] (by kernel_rfl) (by kernel_rfl) (qO 24 (nEffP (i := 24) rfl rfl (zst ti30 rfl rfl (oneV_sl hS7) (hg.blk hB) (by simp)) ?_))))
     rintro w8 ⟨hB8, hk8⟩
     refine ⟨trivial, ?_⟩
     refine qE (Run.qb (e := [(0, _), (1, _), (2, _), (6, _)]) ?_)
     have hk18 : Kp (fun k => k = q) w1 w8 := hg.kp.trans hk8
     have hM8 : MpM w8 q v7 (insE es k v) := ⟨hB8, by
      have := hS7.kp hk8 (fun g hg' e => by have := hl7 g hg'; omega)
      rw [show insE es k v = es.take (posE es k) ++ [(k, v)] ++ es.drop (posE es k + 1) by unfold insE; rw [if_pos hhas]; simp]
      rw [esC_app, esC_app, esC_one, List.length_append, List.length_append, List.length_take, List.length_drop, Nat.min_eq_left hpl]
      exact this, fun e => by have := hl7 q e; omega, by rw [hil]; split <;> omega⟩
     refine run_ret Tryz.func39 rfl ?_
     exact ⟨_, rfl, rfl, ⟨_, hM8, hk18, hl7⟩⟩
    ·refine nValPL (i := 12) rfl rfl rfl (pbs (parts := [(0, .tmp 40)]) (cs := [_, _]) (zs := [Value.string ⟨#[]⟩, Value.string ⟨#[]⟩]) U30 ti41 rfl (by kernel_rfl) rfl rfl rfl (by decide)) ?_
     rintro _ w5 ⟨b5, rfl, ⟨hb5, hx5, hB5⟩, hS5⟩
     refine ⟨hg.trans hx5, ?_⟩
     have hg := hg.trans hx5
     have hlt5 := hB5.lt
     try have hS2 := hS2.ext hx5
     try have hS3 := hS3.ext hx5
     refine hOneL (i := 8) (by kernel_rfl) (nValPL (i := 8) rfl rfl rfl (pap U30 ti41 rfl (by decide) rfl rfl hS2 (hpr.ext hg) (esC_one1 _) (by omega) (by omega)) ?_)
     rintro v3 w3 ⟨hS3, hk3, ho3, -⟩
     refine ⟨hg.trans_new hk3 (fun i hi => by have e : b2 = i := Option.some.inj hi; omega), ?_⟩
     have hl3 : ∀ g, v3.ownBlock = some g → w1.heap.size ≤ g := fun g hg' => by
      have := hg.size
      rcases ho3 g hg' with e | e
      ·have e : b2 = g := Option.some.inj e; omega
      ·omega
     try have hS5 := hS5.kp hk3 (fun g hg' e => by have e : b2 = g := Option.some.inj e; have e' : b5 = g := Option.some.inj hg'; omega)
     have hg := hg.trans_new hk3 (fun i hi => by have e : b2 = i := Option.some.inj hi; omega)
     rw [List.nil_append, Nat.zero_add] at hS3
     refine hOneL (i := 13) (by kernel_rfl) (nValPL (i := 13) rfl rfl rfl (pap U30 ti41 rfl (by decide) rfl rfl hS3 hS5.rd (by intro c hc; simp at hc; rcases hc with rfl | rfl <;> rfl) (by omega) (by omega)) ?_)
     rintro v6 w6 ⟨hS6, hk6, ho6, -⟩
     refine ⟨hg.trans_new hk6 (fun i hi => hl3 i hi), ?_⟩
     have hl6 : ∀ g, v6.ownBlock = some g → w1.heap.size ≤ g := fun g hg' => by
      have := hg.size
      rcases ho6 g hg' with e | e
      ·exact hl3 g e
      ·omega
     have hg := hg.trans_new hk6 (fun i hi => hl3 i hi)
     refine hOneL (i := 21) (by kernel_rfl) (nValPL (i := 21) rfl rfl rfl (pap U30 ti41 rfl (by decide) rfl rfl hS6 (hsr.ext hg) (esC_one1 _) (by omega) (by omega)) ?_)
     rintro v7 w7 ⟨hS7, hk7, ho7, -⟩
     refine ⟨hg.trans_new hk7 (fun i hi => hl6 i hi), ?_⟩
     have hl7 : ∀ g, v7.ownBlock = some g → w1.heap.size ≤ g := fun g hg' => by
      have := hg.size
      rcases ho7 g hg' with e | e
      ·exact hl6 g e
      ·omega
     have hg := hg.trans_new hk7 (fun i hi => hl6 i hi)
     refine qL [23, 24] 22 rfl (fun _ hS => ynk rfl) hg (qL [24] 23 rfl (fun _ hS => yfa fl32_0 rfl) hg (hLate [24] (by kernel_rfl) (by kernel_rfl) (qO 24 (nEffP (i := 24) rfl rfl (zst ti30 rfl rfl (oneV_sl hS7) (hg.blk hB) (by simp)) ?_))))
     rintro w8 ⟨hB8, hk8⟩
     refine ⟨trivial, ?_⟩
     refine qE (Run.qb (e := [(0, _), (1, _), (2, _), (6, _)]) ?_)
     have hk18 : Kp (fun k => k = q) w1 w8 := hg.kp.trans hk8
     have hM8 : MpM w8 q v7 (insE es k v) := ⟨hB8, by
      have := hS7.kp hk8 (fun g hg' e => by have := hl7 g hg'; omega)
      rw [show insE es k v = es.take (posE es k) ++ [(k, v)] ++ es.drop (posE es k + 1) by unfold insE; rw [if_pos hhas]; simp]
      rw [esC_app, esC_app, esC_one, List.length_append, List.length_append, List.length_take, List.length_drop, Nat.min_eq_left hpl]
      exact this, fun e => by have := hl7 q e; omega, by rw [hil]; split <;> omega⟩
     refine run_ret Tryz.func39 rfl ?_
     exact ⟨_, rfl, rfl, ⟨_, hM8, hk18, hl7⟩⟩
   ·refine nValPL (i := 12) rfl rfl rfl (pbs (parts := [(0, .tmp 40)]) (cs := [_, _]) (zs := [Value.string ⟨#[]⟩, Value.string ⟨#[]⟩]) U30 ti41 rfl (by kernel_rfl) rfl rfl rfl (by decide)) ?_
    rintro _ w5 ⟨b5, rfl, ⟨hb5, hx5, hB5⟩, hS5⟩
    refine ⟨hg.trans hx5, ?_⟩
    have hg := hg.trans hx5
    have hlt5 := hB5.lt
    try have hS2 := hS2.ext hx5
    try have hS3 := hS3.ext hx5
    refine hOneL (i := 1) (by kernel_rfl) (nValPL (i := 1) rfl rfl rfl (pbs (parts := []) (cs := []) (zs := []) U30 ti41 rfl (by kernel_rfl) rfl rfl rfl (by decide)) ?_)
    rintro _ w2 ⟨b2, rfl, ⟨hb2, hx2, hB2⟩, hS2⟩
    refine ⟨hg.trans hx2, ?_⟩
    have hl2 : w1.heap.size ≤ b2 := by have := hg.size; omega
    have hlt2 := hB2.lt
    have hg := hg.trans hx2
    try have hS5 := hS5.ext hx2
    refine hOneL (i := 8) (by kernel_rfl) (nValPL (i := 8) rfl rfl rfl (pap U30 ti41 rfl (by decide) rfl rfl hS2 (hpr.ext hg) (esC_one1 _) (by omega) (by omega)) ?_)
    rintro v3 w3 ⟨hS3, hk3, ho3, -⟩
    refine ⟨hg.trans_new hk3 (fun i hi => by have e : b2 = i := Option.some.inj hi; omega), ?_⟩
    have hl3 : ∀ g, v3.ownBlock = some g → w1.heap.size ≤ g := fun g hg' => by
     have := hg.size
     rcases ho3 g hg' with e | e
     ·have e : b2 = g := Option.some.inj e; omega
     ·omega
    try have hS5 := hS5.kp hk3 (fun g hg' e => by have e : b2 = g := Option.some.inj e; have e' : b5 = g := Option.some.inj hg'; omega)
    have hg := hg.trans_new hk3 (fun i hi => by have e : b2 = i := Option.some.inj hi; omega)
    rw [List.nil_append, Nat.zero_add] at hS3
    refine hOneL (i := 13) (by kernel_rfl) (nValPL (i := 13) rfl rfl rfl (pap U30 ti41 rfl (by decide) rfl rfl hS3 hS5.rd (by intro c hc; simp at hc; rcases hc with rfl | rfl <;> rfl) (by omega) (by omega)) ?_)
    rintro v6 w6 ⟨hS6, hk6, ho6, -⟩
    refine ⟨hg.trans_new hk6 (fun i hi => hl3 i hi), ?_⟩
    have hl6 : ∀ g, v6.ownBlock = some g → w1.heap.size ≤ g := fun g hg' => by
     have := hg.size
     rcases ho6 g hg' with e | e
     ·exact hl3 g e
     ·omega
    have hg := hg.trans_new hk6 (fun i hi => hl3 i hi)
    refine hOneL (i := 21) (by kernel_rfl) (nValPL (i := 21) rfl rfl rfl (pap U30 ti41 rfl (by decide) rfl rfl hS6 (hsr.ext hg) (esC_one1 _) (by omega) (by omega)) ?_)
    rintro v7 w7 ⟨hS7, hk7, ho7, -⟩
    refine ⟨hg.trans_new hk7 (fun i hi => hl6 i hi), ?_⟩
    have hl7 : ∀ g, v7.ownBlock = some g → w1.heap.size ≤ g := fun g hg' => by
     have := hg.size
     rcases ho7 g hg' with e | e
     ·exact hl6 g e
     ·omega
    have hg := hg.trans_new hk7 (fun i hi => hl6 i hi)
    refine qL [23, 24] 22 rfl (fun _ hS => ynk rfl) hg (qL [24] 23 rfl (fun _ hS => yfa fl32_0 rfl) hg (hLate [24] (by kernel_rfl) (by kernel_rfl) (qO 24 (nEffP (i := 24) rfl rfl (zst ti30 rfl rfl (oneV_sl hS7) (hg.blk hB) (by simp)) ?_))))
    rintro w8 ⟨hB8, hk8⟩
    refine ⟨trivial, ?_⟩
    refine qE (Run.qb (e := [(0, _), (1, _), (2, _), (6, _)]) ?_)
    have hk18 : Kp (fun k => k = q) w1 w8 := hg.kp.trans hk8
    have hM8 : MpM w8 q v7 (insE es k v) := ⟨hB8, by
     have := hS7.kp hk8 (fun g hg' e => by have := hl7 g hg'; omega)
     rw [show insE es k v = es.take (posE es k) ++ [(k, v)] ++ es.drop (posE es k + 1) by unfold insE; rw [if_pos hhas]; simp]
     rw [esC_app, esC_app, esC_one, List.length_append, List.length_append, List.length_take, List.length_drop, Nat.min_eq_left hpl]
     exact this, fun e => by have := hl7 q e; omega, by rw [hil]; split <;> omega⟩
    refine run_ret Tryz.func39 rfl ?_
    exact ⟨_, rfl, rfl, ⟨_, hM8, hk18, hl7⟩⟩
  ·have hhas : ¬ hasE es k := fun e => by rw [hf.2 e] at hff; cases hff
   obtain ⟨sv, hsv, hsr⟩ := rd_suf (i := posE es k) hR (by omega) hnc
   rw [esC_drop] at hsr
   refine run_skip (run_drawL [23] (fun w' => Ext w1 w') (by kernel_rfl) rfl (qL [21, 22, 23] 0 rfl (fun _ hS => ymv rfl) hg (qL [3, 4, 5, 7, 8, 13, 20, 21, 22, 23] 2 rfl (fun _ hS => ymv rfl) hg (qL [4, 5, 7, 8, 13, 20, 21, 22, 23] 3 rfl (fun _ hS => ynk rfl) hg (qL [5, 7, 8, 13, 20, 21, 22, 23] 4 rfl (fun _ hS => yfa fl32_0 rfl) hg (qL [7, 8, 13, 20, 21, 22, 23] 5 rfl (fun _ hS => yld U30 rfl rfl (hS.blk hB) rfl) hg (qL [7, 8, 13, 20, 21, 22, 23] 6 rfl (fun _ hS => ymv rfl) hg (qL [11, 12, 13, 20, 21, 22, 23] 9 rfl (fun _ hS => ymv rfl) hg (qL [11, 12, 13, 20, 21, 22, 23] 10 rfl (fun _ hS => ymv rfl) hg (qL [12, 13, 20, 21, 22, 23] 11 rfl (fun _ hS => ybd (parts := [(0, .tmp 62), (1, .tmp 63)]) (cs := [_, _]) ti41 rfl sp41 rfl rfl) hg (qL [15, 16, 17, 19, 20, 21, 22, 23] 14 rfl (fun _ hS => ymv rfl) hg (qL [16, 17, 19, 20, 21, 22, 23] 15 rfl (fun _ hS => ynk rfl) hg (qL [17, 19, 20, 21, 22, 23] 16 rfl (fun _ hS => yfa fl32_0 rfl) hg ?_)))))))))))))
   refine qL [19, 20, 21, 22, 23] 17 rfl (fun _ hS => yld U30 rfl rfl (hS.blk hB) rfl) hg (qL [19, 20, 21, 22, 23] 18 rfl (fun _ hS => ymv rfl) hg (qL [8, 13, 20, 21, 22, 23] 7 rfl (fun _ hS => yslT U30 ti41 rfl rfl (by omega) hpv) hg (qL [20, 21, 22, 23] 19 rfl (fun _ hS => yslF U30 ti41 rfl rfl (by omega) hnc hsv) hg (hTwoL (i := 1) (j := 12) (by kernel_rfl) ?_ ?_))))
   ·refine nValPL (i := 1) rfl rfl rfl (pbs (parts := []) (cs := []) (zs := []) U30 ti41 rfl (by kernel_rfl) rfl rfl rfl (by decide)) ?_
    rintro _ w2 ⟨b2, rfl, ⟨hb2, hx2, hB2⟩, hS2⟩
    refine ⟨hg.trans hx2, ?_⟩
    have hl2 : w1.heap.size ≤ b2 := by have := hg.size; omega
    have hlt2 := hB2.lt
    have hg := hg.trans hx2
    try have hS5 := hS5.ext hx2
    refine hTwoL (i := 8) (j := 12) (by kernel_rfl) ?_ ?_
    ·refine nValPL (i := 8) rfl rfl rfl (pap U30 ti41 rfl (by decide) rfl rfl hS2 (hpr.ext hg) (esC_one1 _) (by omega) (by omega)) ?_
     rintro v3 w3 ⟨hS3, hk3, ho3, -⟩
     refine ⟨hg.trans_new hk3 (fun i hi => by have e : b2 = i := Option.some.inj hi; omega), ?_⟩
     have hl3 : ∀ g, v3.ownBlock = some g → w1.heap.size ≤ g := fun g hg' => by
      have := hg.size
      rcases ho3 g hg' with e | e
      ·have e : b2 = g := Option.some.inj e; omega
      ·omega
     try have hS5 := hS5.kp hk3 (fun g hg' e => by have e : b2 = g := Option.some.inj e; have e' : b5 = g := Option.some.inj hg'; omega)
     have hg := hg.trans_new hk3 (fun i hi => by have e : b2 = i := Option.some.inj hi; omega)
     rw [List.nil_append, Nat.zero_add] at hS3
     refine hOneL (i := 12) (by kernel_rfl) (nValPL (i := 12) rfl rfl rfl (pbs (parts := [(0, .tmp 64)]) (cs := [_, _]) (zs := [Value.string ⟨#[]⟩, Value.string ⟨#[]⟩]) U30 ti41 rfl (by kernel_rfl) rfl rfl rfl (by decide)) ?_)
     rintro _ w5 ⟨b5, rfl, ⟨hb5, hx5, hB5⟩, hS5⟩
     refine ⟨hg.trans hx5, ?_⟩
     have hg := hg.trans hx5
     have hlt5 := hB5.lt
     try have hS2 := hS2.ext hx5
     try have hS3 := hS3.ext hx5
     refine hOneL (i := 13) (by kernel_rfl) (nValPL (i := 13) rfl rfl rfl (pap U30 ti41 rfl (by decide) rfl rfl hS3 hS5.rd (by intro c hc; simp at hc; rcases hc with rfl | rfl <;> rfl) (by omega) (by omega)) ?_)
     rintro v6 w6 ⟨hS6, hk6, ho6, -⟩
     refine ⟨hg.trans_new hk6 (fun i hi => hl3 i hi), ?_⟩
     have hl6 : ∀ g, v6.ownBlock = some g → w1.heap.size ≤ g := fun g hg' => by
      have := hg.size
      rcases ho6 g hg' with e | e
      ·exact hl3 g e
      ·omega
     have hg := hg.trans_new hk6 (fun i hi => hl3 i hi)
     refine hOneL (i := 20) (by kernel_rfl) (nValPL (i := 20) rfl rfl rfl (pap U30 ti41 rfl (by decide) rfl rfl hS6 (hsr.ext hg) (esC_one1 _) (by omega) (by omega)) ?_)
     rintro v7 w7 ⟨hS7, hk7, ho7, -⟩
     refine ⟨hg.trans_new hk7 (fun i hi => hl6 i hi), ?_⟩
     have hl7 : ∀ g, v7.ownBlock = some g → w1.heap.size ≤ g := fun g hg' => by
      have := hg.size
      rcases ho7 g hg' with e | e
      ·exact hl6 g e
      ·omega
     have hg := hg.trans_new hk7 (fun i hi => hl6 i hi)
     refine qL [22, 23] 21 rfl (fun _ hS => ynk rfl) hg (qL [23] 22 rfl (fun _ hS => yfa fl32_0 rfl) hg (hLate [23] (by kernel_rfl) (by kernel_rfl) (qO 23 (nEffP (i := 23) rfl rfl (zst ti30 rfl rfl (oneV_sl hS7) (hg.blk hB) (by simp)) ?_))))
     rintro w8 ⟨hB8, hk8⟩
     refine ⟨trivial, ?_⟩
     refine qE (Run.qb (e := []) ?_)
     have hk18 : Kp (fun k => k = q) w1 w8 := hg.kp.trans hk8
     have hM8 : MpM w8 q v7 (insE es k v) := ⟨hB8, by
      have := hS7.kp hk8 (fun g hg' e => by have := hl7 g hg'; omega)
      rw [show insE es k v = es.take (posE es k) ++ [(k, v)] ++ es.drop (posE es k) by unfold insE; rw [if_neg hhas]; simp]
      rw [esC_app, esC_app, esC_one, List.length_append, List.length_append, List.length_take, List.length_drop, Nat.min_eq_left hpl]
      exact this, fun e => by have := hl7 q e; omega, by rw [hil]; split <;> omega⟩
     refine run_end Tryz.func39 rfl ?_
     exact ⟨_, rfl, rfl, ⟨_, hM8, hk18, hl7⟩⟩
    ·refine nValPL (i := 12) rfl rfl rfl (pbs (parts := [(0, .tmp 64)]) (cs := [_, _]) (zs := [Value.string ⟨#[]⟩, Value.string ⟨#[]⟩]) U30 ti41 rfl (by kernel_rfl) rfl rfl rfl (by decide)) ?_
     rintro _ w5 ⟨b5, rfl, ⟨hb5, hx5, hB5⟩, hS5⟩
     refine ⟨hg.trans hx5, ?_⟩
     have hg := hg.trans hx5
     have hlt5 := hB5.lt
     try have hS2 := hS2.ext hx5
     try have hS3 := hS3.ext hx5
     refine hOneL (i := 8) (by kernel_rfl) (nValPL (i := 8) rfl rfl rfl (pap U30 ti41 rfl (by decide) rfl rfl hS2 (hpr.ext hg) (esC_one1 _) (by omega) (by omega)) ?_)
     rintro v3 w3 ⟨hS3, hk3, ho3, -⟩
     refine ⟨hg.trans_new hk3 (fun i hi => by have e : b2 = i := Option.some.inj hi; omega), ?_⟩
     have hl3 : ∀ g, v3.ownBlock = some g → w1.heap.size ≤ g := fun g hg' => by
      have := hg.size
      rcases ho3 g hg' with e | e
      ·have e : b2 = g := Option.some.inj e; omega
      ·omega
     try have hS5 := hS5.kp hk3 (fun g hg' e => by have e : b2 = g := Option.some.inj e; have e' : b5 = g := Option.some.inj hg'; omega)
     have hg := hg.trans_new hk3 (fun i hi => by have e : b2 = i := Option.some.inj hi; omega)
     rw [List.nil_append, Nat.zero_add] at hS3
     refine hOneL (i := 13) (by kernel_rfl) (nValPL (i := 13) rfl rfl rfl (pap U30 ti41 rfl (by decide) rfl rfl hS3 hS5.rd (by intro c hc; simp at hc; rcases hc with rfl | rfl <;> rfl) (by omega) (by omega)) ?_)
     rintro v6 w6 ⟨hS6, hk6, ho6, -⟩
     refine ⟨hg.trans_new hk6 (fun i hi => hl3 i hi), ?_⟩
     have hl6 : ∀ g, v6.ownBlock = some g → w1.heap.size ≤ g := fun g hg' => by
      have := hg.size
      rcases ho6 g hg' with e | e
      ·exact hl3 g e
      ·omega
     have hg := hg.trans_new hk6 (fun i hi => hl3 i hi)
     refine hOneL (i := 20) (by kernel_rfl) (nValPL (i := 20) rfl rfl rfl (pap U30 ti41 rfl (by decide) rfl rfl hS6 (hsr.ext hg) (esC_one1 _) (by omega) (by omega)) ?_)
     rintro v7 w7 ⟨hS7, hk7, ho7, -⟩
     refine ⟨hg.trans_new hk7 (fun i hi => hl6 i hi), ?_⟩
     have hl7 : ∀ g, v7.ownBlock = some g → w1.heap.size ≤ g := fun g hg' => by
      have := hg.size
      rcases ho7 g hg' with e | e
      ·exact hl6 g e
      ·omega
     have hg := hg.trans_new hk7 (fun i hi => hl6 i hi)
     refine qL [22, 23] 21 rfl (fun _ hS => ynk rfl) hg (qL [23] 22 rfl (fun _ hS => yfa fl32_0 rfl) hg (hLate [23] (by kernel_rfl) (by kernel_rfl) (qO 23 (nEffP (i := 23) rfl rfl (zst ti30 rfl rfl (oneV_sl hS7) (hg.blk hB) (by simp)) ?_))))
     rintro w8 ⟨hB8, hk8⟩
     refine ⟨trivial, ?_⟩
     refine qE (Run.qb (e := []) ?_)
     have hk18 : Kp (fun k => k = q) w1 w8 := hg.kp.trans hk8
     have hM8 : MpM w8 q v7 (insE es k v) := ⟨hB8, by
      have := hS7.kp hk8 (fun g hg' e => by have := hl7 g hg'; omega)
      rw [show insE es k v = es.take (posE es k) ++ [(k, v)] ++ es.drop (posE es k) by unfold insE; rw [if_neg hhas]; simp]
      rw [esC_app, esC_app, esC_one, List.length_append, List.length_append, List.length_take, List.length_drop, Nat.min_eq_left hpl]
      exact this, fun e => by have := hl7 q e; omega, by rw [hil]; split <;> omega⟩
     refine run_end Tryz.func39 rfl ?_
     exact ⟨_, rfl, rfl, ⟨_, hM8, hk18, hl7⟩⟩
   ·refine nValPL (i := 12) rfl rfl rfl (pbs (parts := [(0, .tmp 64)]) (cs := [_, _]) (zs := [Value.string ⟨#[]⟩, Value.string ⟨#[]⟩]) U30 ti41 rfl (by kernel_rfl) rfl rfl rfl (by decide)) ?_
    rintro _ w5 ⟨b5, rfl, ⟨hb5, hx5, hB5⟩, hS5⟩
    refine ⟨hg.trans hx5, ?_⟩
    have hg := hg.trans hx5
    have hlt5 := hB5.lt
    try have hS2 := hS2.ext hx5
    try have hS3 := hS3.ext hx5
    refine hOneL (i := 1) (by kernel_rfl) (nValPL (i := 1) rfl rfl rfl (pbs (parts := []) (cs := []) (zs := []) U30 ti41 rfl (by kernel_rfl) rfl rfl rfl (by decide)) ?_)
    rintro _ w2 ⟨b2, rfl, ⟨hb2, hx2, hB2⟩, hS2⟩
    refine ⟨hg.trans hx2, ?_⟩
    have hl2 : w1.heap.size ≤ b2 := by have := hg.size; omega
    have hlt2 := hB2.lt
    have hg := hg.trans hx2
    try have hS5 := hS5.ext hx2
    refine hOneL (i := 8) (by kernel_rfl) (nValPL (i := 8) rfl rfl rfl (pap U30 ti41 rfl (by decide) rfl rfl hS2 (hpr.ext hg) (esC_one1 _) (by omega) (by omega)) ?_)
    rintro v3 w3 ⟨hS3, hk3, ho3, -⟩
    refine ⟨hg.trans_new hk3 (fun i hi => by have e : b2 = i := Option.some.inj hi; omega), ?_⟩
    have hl3 : ∀ g, v3.ownBlock = some g → w1.heap.size ≤ g := fun g hg' => by
     have := hg.size
     rcases ho3 g hg' with e | e
     ·have e : b2 = g := Option.some.inj e; omega
     ·omega
    try have hS5 := hS5.kp hk3 (fun g hg' e => by have e : b2 = g := Option.some.inj e; have e' : b5 = g := Option.some.inj hg'; omega)
    have hg := hg.trans_new hk3 (fun i hi => by have e : b2 = i := Option.some.inj hi; omega)
    rw [List.nil_append, Nat.zero_add] at hS3
    refine hOneL (i := 13) (by kernel_rfl) (nValPL (i := 13) rfl rfl rfl (pap U30 ti41 rfl (by decide) rfl rfl hS3 hS5.rd (by intro c hc; simp at hc; rcases hc with rfl | rfl <;> rfl) (by omega) (by omega)) ?_)
    rintro v6 w6 ⟨hS6, hk6, ho6, -⟩
    refine ⟨hg.trans_new hk6 (fun i hi => hl3 i hi), ?_⟩
    have hl6 : ∀ g, v6.ownBlock = some g → w1.heap.size ≤ g := fun g hg' => by
     have := hg.size
     rcases ho6 g hg' with e | e
     ·exact hl3 g e
     ·omega
    have hg := hg.trans_new hk6 (fun i hi => hl3 i hi)
    refine hOneL (i := 20) (by kernel_rfl) (nValPL (i := 20) rfl rfl rfl (pap U30 ti41 rfl (by decide) rfl rfl hS6 (hsr.ext hg) (esC_one1 _) (by omega) (by omega)) ?_)
    rintro v7 w7 ⟨hS7, hk7, ho7, -⟩
    refine ⟨hg.trans_new hk7 (fun i hi => hl6 i hi), ?_⟩
    have hl7 : ∀ g, v7.ownBlock = some g → w1.heap.size ≤ g := fun g hg' => by
     have := hg.size
     rcases ho7 g hg' with e | e
     ·exact hl6 g e
     ·omega
    have hg := hg.trans_new hk7 (fun i hi => hl6 i hi)
    refine qL [22, 23] 21 rfl (fun _ hS => ynk rfl) hg (qL [23] 22 rfl (fun _ hS => yfa fl32_0 rfl) hg (hLate [23] (by kernel_rfl) (by kernel_rfl) (qO 23 (nEffP (i := 23) rfl rfl (zst ti30 rfl rfl (oneV_sl hS7) (hg.blk hB) (by simp)) ?_))))
    rintro w8 ⟨hB8, hk8⟩
    refine ⟨trivial, ?_⟩
    refine qE (Run.qb (e := []) ?_)
    have hk18 : Kp (fun k => k = q) w1 w8 := hg.kp.trans hk8
    have hM8 : MpM w8 q v7 (insE es k v) := ⟨hB8, by
     have := hS7.kp hk8 (fun g hg' e => by have := hl7 g hg'; omega)
     rw [show insE es k v = es.take (posE es k) ++ [(k, v)] ++ es.drop (posE es k) by unfold insE; rw [if_neg hhas]; simp]
     rw [esC_app, esC_app, esC_one, List.length_append, List.length_append, List.length_take, List.length_drop, Nat.min_eq_left hpl]
     exact this, fun e => by have := hl7 q e; omega, by rw [hil]; split <;> omega⟩
    refine run_end Tryz.func39 rfl ?_
    exact ⟨_, rfl, rfl, ⟨_, hM8, hk18, hl7⟩⟩
 case hmainf =>
  refine run_reg rfl (qm rfl (qm rfl (qV (ynk rfl) (qV (yfa fl32_0 rfl) (qV (yld U30 rfl rfl hB rfl) (qV (yln U30 rfl) (qV (ylt rfl rfl) (qm rfl (rVal_if (fun h1 => ?_) (fun h1 => ?_))))))))))
  ·have hi' : posE es k < es.length := by omega
   obtain ⟨lb, lo, y, rfl, hy⟩ := rd_ens hR rfl hi'
   have hst := hasE_at hy
   refine qm rfl (qV (ynk rfl) (qV (yfa fl32_0 rfl) (qV (yld U30 rfl rfl hB rfl) (qm rfl (qV (yis U30 ti41 rfl rfl (by omega)) (qV (yfa fl41_0 rfl) (qV (yldc U9 rfl rfl (rd_en0 hR hi' hy)) (qm rfl (qV (yeqS rfl rfl) (qV (ypT rfl rfl) (rEnd (Run.qb (e := [(0, _), (1, _), (2, _), (6, _), (28, _)]) ?_))))))))))))
   refine (hkf _ _ ⟨_, rfl, rfl, ?_⟩).qb
   rw [hst]; simp
  ·refine qS (qS (qS (qS (qS (qS (qS (qS (qS (qS (qV (ypF rfl rfl) (rEnd (Run.qb (e := [(0, _), (1, _), (2, _), (6, _), (28, _)]) ?_))))))))))))
   exact (hkf _ _ ⟨false, rfl, rfl, ⟨fun h => Bool.noConfusion h, fun hh => absurd hh (hasE_no (by omega))⟩⟩).qb
set_option maxHeartbeats 4000000 in
theorem delM_ret (h : MpM w q mv es) (k : Bytes) : Ret Tryz.prog 12 [ptr q 0, S k] w fun u w' => u = I (getR es k).2 ∧ (if (getR es k).2 = 0 then MpS q w w' (delE es k) else w' = w) := by
 have hAt := at_ret h k
 have hGet := getM_ret h k
 obtain ⟨a, c, rfl, -⟩ := h.sl.rd.shape
 have hB := h.blk
 have hR := h.sl.rd
 have hpl := posE_le es k
 have hlq := hB.lt
 have hle := h.le
 have hnc : es.length ≤ c := by
  rcases h.sl.shape with ⟨e, e0⟩ | ⟨g, cap, e, e1⟩
  ·omega
  ·cases e; exact e1
 have hml : maxLen = 9223372036854775807 := rfl
 obtain ⟨pv, hpv, hpr⟩ := rd_pre hR hpl
 rw [esC_take] at hpr
 refine ret_of_run (e := [(0, _), (1, _)]) Tryz.func12 rfl Tryz.ntmps12 rfl rfl (qN rfl (qa rfl (qM rfl (qm rfl (qm rfl (rCall rfl rfl (yc (args := [.tmp 9, .tmp 10]) cf10 rfl) (hGet) ?_))))))
 rintro _ w1 ⟨rfl, rfl⟩
 refine qm rfl (qV (yex rfl rfl) (qV (yex rfl rfl) (qa rfl (qa rfl (rEnd (run_seq (qN rfl (qm rfl (qV (yne rfl rfl) (rEnd (run_if rfl (fun h1 => ?_) (fun h1 => ?_))))))))))))
 ·refine qN rfl (qm rfl (qa rfl (rEnd (run_ret Tryz.func12 rfl ?_))))
  exact ⟨_, rfl, rfl, by rw [if_neg h1]⟩
 ·have h0 : (getR es k).2 = 0 := Decidable.not_not.1 h1
  have hhas : hasE es k := by
   by_cases hh : hasE es k
   ·exact hh
   ·unfold getR at h0
    rw [getE_none hh] at h0
    split at h0 <;> cases h0
  have hlt := hasE_lt hhas
  have hdl := delE_len hhas
  refine run_skip (qN rfl (qm rfl (qm rfl (rCall rfl rfl (yc (args := [.tmp 17, .tmp 18]) cf41 rfl) (hAt) ?_))))
  rintro _ w1 ⟨rfl, rfl⟩
  obtain ⟨sv, hsv, hsr⟩ := rd_suf (i := posE es k + 1) hR (by omega) hnc
  rw [esC_drop] at hsr
  have hg : Ext w1 w1.drew := Ext.drew0 w1
  refine qa rfl (rEnd (run_seq (run_drawL [19] (fun w' => Ext w1 w') (by kernel_rfl) rfl (qL [17, 18, 19] 0 rfl (fun _ hS => ymv rfl) hg (qL [3, 4, 5, 7, 8, 16, 17, 18, 19] 2 rfl (fun _ hS => ymv rfl) hg (qL [4, 5, 7, 8, 16, 17, 18, 19] 3 rfl (fun _ hS => ynk rfl) hg (qL [5, 7, 8, 16, 17, 18, 19] 4 rfl (fun _ hS => yfa fl32_0 rfl) hg (qL [7, 8, 16, 17, 18, 19] 5 rfl (fun _ hS => yld U30 rfl rfl (hS.blk hB) rfl) hg (qL [7, 8, 16, 17, 18, 19] 6 rfl (fun _ hS => ymv rfl) hg (qL [10, 11, 12, 15, 16, 17, 18, 19] 9 rfl (fun _ hS => ymv rfl) hg (qL [11, 12, 15, 16, 17, 18, 19] 10 rfl (fun _ hS => ynk rfl) hg (qL [12, 15, 16, 17, 18, 19] 11 rfl (fun _ hS => yfa fl32_0 rfl) hg (qL [15, 16, 17, 18, 19] 12 rfl (fun _ hS => yld U30 rfl rfl (hS.blk hB) rfl) hg ?_)))))))))))))
  refine qL [14, 15, 16, 17, 18, 19] 13 rfl (fun _ hS => ymv rfl) hg (qL [15, 16, 17, 18, 19] 14 rfl (fun _ hS => yad rfl rfl (by omega)) hg (qL [8, 16, 17, 18, 19] 7 rfl (fun _ hS => yslT U30 ti41 rfl rfl (by omega) hpv) hg (qL [16, 17, 18, 19] 15 rfl (fun _ hS => yslF U30 ti41 rfl rfl (by omega) hnc hsv) hg (hOneL (i := 1) (by kernel_rfl) (nValPL (i := 1) rfl rfl rfl (pbs (parts := []) (cs := []) (zs := []) U30 ti41 rfl (by kernel_rfl) rfl rfl rfl (by decide)) ?_)))))
  rintro _ w2 ⟨b2, rfl, ⟨hb2, hx2, hB2⟩, hS2⟩
  refine ⟨hg.trans hx2, ?_⟩
  have hl2 : w1.heap.size ≤ b2 := by have := hg.size; omega
  have hlt2 := hB2.lt
  have hg := hg.trans hx2
  try have hS5 := hS5.ext hx2
  refine hOneL (i := 8) (by kernel_rfl) (nValPL (i := 8) rfl rfl rfl (pap U30 ti41 rfl (by decide) rfl rfl hS2 (hpr.ext hg) (esC_one1 _) (by omega) (by omega)) ?_)
  rintro v3 w3 ⟨hS3, hk3, ho3, -⟩
  refine ⟨hg.trans_new hk3 (fun i hi => by have e : b2 = i := Option.some.inj hi; omega), ?_⟩
  have hl3 : ∀ g, v3.ownBlock = some g → w1.heap.size ≤ g := fun g hg' => by
   have := hg.size
   rcases ho3 g hg' with e | e
   ·have e : b2 = g := Option.some.inj e; omega
   ·omega
  try have hS5 := hS5.kp hk3 (fun g hg' e => by have e : b2 = g := Option.some.inj e; have e' : b5 = g := Option.some.inj hg'; omega)
  have hg := hg.trans_new hk3 (fun i hi => by have e : b2 = i := Option.some.inj hi; omega)
  rw [List.nil_append, Nat.zero_add] at hS3
  refine hOneL (i := 16) (by kernel_rfl) (nValPL (i := 16) rfl rfl rfl (pap U30 ti41 rfl (by decide) rfl rfl hS3 (hsr.ext hg) (esC_one1 _) (by omega) (by omega)) ?_)
  rintro v7 w7 ⟨hS7, hk7, ho7, -⟩
  refine ⟨hg.trans_new hk7 (fun i hi => hl3 i hi), ?_⟩
  have hl7 : ∀ g, v7.ownBlock = some g → w1.heap.size ≤ g := fun g hg' => by
   have := hg.size
   rcases ho7 g hg' with e | e
   ·exact hl3 g e
   ·omega
  have hg := hg.trans_new hk7 (fun i hi => hl3 i hi)
  refine qL [18, 19] 17 rfl (fun _ hS => ynk rfl) hg (qL [19] 18 rfl (fun _ hS => yfa fl32_0 rfl) hg (hLate [19] (by kernel_rfl) (by kernel_rfl) (qO 19 (nEffP (i := 19) rfl rfl (zst ti30 rfl rfl (oneV_sl hS7) (hg.blk hB) (by simp)) ?_))))
  rintro w8 ⟨hB8, hk8⟩
  refine ⟨trivial, ?_⟩
  refine qE (Run.qb (e := [(4, _)]) ?_)
  refine qN rfl (qa rfl (rEnd ?_))
  have hk18 : Kp (fun k => k = q) w1 w8 := hg.kp.trans hk8
  have hM8 : MpM w8 q v7 (delE es k) := ⟨hB8, by
   have := hS7.kp hk8 (fun g hg' e => by have := hl7 g hg'; omega)
   rw [show delE es k = es.take (posE es k) ++ es.drop (posE es k + 1) by unfold delE; rw [if_pos hhas]]
   rw [esC_app, List.length_append, List.length_take, List.length_drop, Nat.min_eq_left hpl]
   exact this, fun e => by have := hl7 q e; omega, by omega⟩
  refine run_ret Tryz.func12 rfl ?_
  exact ⟨_, rfl, by rw [h0]; rfl, by rw [if_pos h0]; exact ⟨_, hM8, hk18, hl7⟩⟩
theorem rangeM_ret (h : MpM w q mv es) (k : Bytes) (n : Int) : Ret Tryz.prog 60 [ptr q 0, S k, I n] w fun u w' => Ext w w' ∧ ((n < 0 ∧ u = .tuple #[.slice none 0 0, I 1]) ∨ (0 ≤ n ∧ ∃ rv, u = .tuple #[rv, I 0] ∧ Rd w' rv 2 ((es.drop (posE es k)).take n.toNat).length (esC ((es.drop (posE es k)).take n.toNat)) ∧ ∀ g, rv.ownBlock = some g → mv.ownBlock = some g)) := by
 have hAt := fun (w' : World) (hx : Ext w w') => at_ret (h.ext hx) k
 obtain ⟨a, c, rfl, -⟩ := h.sl.rd.shape
 have hB := h.blk
 have hR := h.sl.rd
 have hpl := posE_le es k
 have hle := h.le
 have hnc : es.length ≤ c := by
  rcases h.sl.shape with ⟨e, e0⟩ | ⟨g, cap, e, e1⟩
  ·omega
  ·cases e; exact e1
 obtain ⟨sv, hsv, hsr⟩ := rd_suf (i := posE es k) hR hpl hnc
 rw [esC_drop] at hsr
 obtain ⟨sa, hsa⟩ : ∃ sa, (if c = posE es k then a else a.map (·.add (posE es k * 2))) = sa := ⟨_, rfl⟩
 rw [hsa] at hsv
 subst hsv
 have hsvo : ∀ g m d, (Value.slice sa m d).ownBlock = some g → (Value.slice a es.length c).ownBlock = some g := fun g m d hg => by
  rw [← hsa] at hg
  split at hg <;> cases a <;> simp [Value.ownBlock, Addr.add] at hg ⊢ <;> (try split at hg) <;> first | exact hg | assumption
 refine ret_of_run (e := [(0, _), (1, _), (2, _)]) Tryz.func60 rfl Tryz.ntmps60 rfl rfl (qN rfl (qa rfl (qa rfl (rEnd (run_seq (qN rfl (qm rfl (qV (ylt rfl rfl) (rEnd (run_if rfl (fun h0 => ?_) (fun h0 => ?_)))))))))))
 ·refine qN rfl (qa rfl (qa rfl (rEnd (run_ret Tryz.func60 rfl ?_))))
  exact ⟨_, rfl, Ext.refl _, .inl ⟨h0, rfl⟩⟩
 ·have hg : Ext w w.drew := Ext.drew0 w
  refine run_skip (run_seq (run_draw (fun w' => Ext w w') (by kernel_rfl) rfl (qt 0 rfl (ymv rfl) hg (qt 1 rfl (ynk rfl) hg (qt 2 rfl (yfa fl32_0 rfl) hg (qT 3 rfl (fun _ hS => yld U30 rfl rfl (hS.blk hB) rfl) hg (qt 4 rfl (ymv rfl) hg (qt 5 rfl (ymv rfl) hg (qO 6 (nCall (i := 6) rfl rfl rfl (yc (args := [.tmp 15, .tmp 16]) cf41 rfl) (hAt _ hg) ?_))))))))))
  rintro _ w2 ⟨rfl, hw2⟩
  refine ⟨(by rw [hw2]; exact hg), ?_⟩
  have hg2 : Ext w w2 := by rw [hw2]; exact hg
  refine qt 7 rfl (yslF U30 ti41 rfl rfl hpl hnc (by rw [hsa])) ((by rw [hw2]; exact hg)) ?_
  refine qt 8 rfl (yas rfl) ((by rw [hw2]; exact hg)) ?_
  refine qE (qN rfl (qm rfl (qm rfl (qm rfl (qV (yln U30 rfl) (qV (ymi rfl rfl) ?_))))))
  rw [show min n ((es.length - posE es k : Nat) : Int) = ((min n.toNat (es.length - posE es k) : Nat) : Int) by omega]
  obtain ⟨pv, hpv, hpr⟩ := rd_pre (j := min n.toNat (es.length - posE es k)) (hsr.ext hg2) (by omega)
  rw [esC_take] at hpr
  refine qV (yslT U30 ti41 rfl rfl (by omega) hpv) (qa rfl (qa rfl (rEnd (run_ret Tryz.func60 rfl (⟨_, rfl, hg2, .inr ⟨by omega, pv, rfl, ?_, fun g hg' => ?_⟩⟩)))))
  ·have e1 : (es.drop (posE es k)).take n.toNat = (es.drop (posE es k)).take (min n.toNat (es.length - posE es k)) := by
    rw [← List.length_drop]
    rcases Nat.le_total n.toNat (es.drop (posE es k)).length with h | h
    ·rw [Nat.min_eq_left h]
    ·rw [Nat.min_eq_right h, List.take_of_length_le h, List.take_length]
   rw [e1]
   have e2 : ((es.drop (posE es k)).take (min n.toNat (es.length - posE es k))).length = min n.toNat (es.length - posE es k) := by rw [List.length_take, List.length_drop]; omega
   rw [e2]
   exact hpr
  ·refine hsvo g (es.length - posE es k) (c - posE es k) ?_
   rw [← hpv] at hg'
   split at hg' <;> cases sa <;> simpa [Value.ownBlock, Addr.add] using hg'
end
def metC (l : Pgs) (V : List Int) : List Value := l.map fun y => I (if y.1 ∈ V then 1 else 0)
structure WkC (w : World) (q mb z : Nat) (lv : Value) (l : Pgs) : Prop where
 blk : Blk w q [I (z : Int), lv, .slice (some ⟨mb, 0, none⟩) l.length l.length] 97
 rd : Rd w lv 2 l.length (pgC l)
 n1 : q ≠ mb
 n2 : 0 < l.length → lv.ownBlock ≠ some mb
theorem WkC.kp {w w' : World} {q mb z : Nat} {lv : Value} {l : Pgs} (h : WkC w q mb z lv l) (k : Kp (fun k => k = mb) w w') : WkC w' q mb z lv l :=
 ⟨k.blk h.blk h.n1, Rd.kpz h.rd k (fun h0 g hg e => h.n2 h0 (by rw [hg, e])), h.n1, h.n2⟩
theorem WkC.ext {w w' : World} {q mb z : Nat} {lv : Value} {l : Pgs} (h : WkC w q mb z lv l) (k : Ext w w') : WkC w' q mb z lv l := h.kp k.kp
def WkAt (q mb z : Nat) (lv : Value) (l : Pgs) (k : Nat) : Prop := ∀ (w : World) (no : Int) (lo : Bytes) (hi : Option Bytes) (tb : Bytes) (V : List Int) (rt : Bool),
 WkC w q mb z lv l → Blk w mb (metC l V) 3 → V.Nodup → (∀ x ∈ V, x ∈ l.map (·.1)) → l.length ≤ V.length + k → spanOk hi tb →
 Ret Tryz.prog 54 [ptr q 0, I no, .agg (spanC lo hi tb).toArray, .bool rt] w fun v w' => Kp (fun k => k = mb) w w' ∧
  ((∃ (h : Nat) (ns : List Int) (es : Es) (ov : Value), v = .tuple #[ov, I (h : Int), .bool true] ∧ Sub1 z (nodesOf z l) V rt no lo hi h ns es ∧ Sl w' ov 41 2 es.length (esC es) ∧ (∀ g, ov.ownBlock = some g → w.heap.size ≤ g) ∧ Blk w' mb (metC l (ns ++ V)) 3 ∧ es.length ≤ ns.length * 100000) ∨ (v = .tuple #[.slice none 0 0, I 0, .bool false] ∧ NoSub z (nodesOf z l) V rt no lo hi))
section
variable {w : World}
end
structure DelC (w : World) (F : Nat → Prop) (p : Nat) (k : Bytes) (bt bk bp : Nat) : Prop where
 t : Blk w bt [ptr p 0] 24
 k : Blk w bk [S k] 9
 f : Blk w bp [.func (.func 43) #[] #[ptr bt 0, ptr bk 0, ptr bp 0]] 80
 n : ¬ F bt ∧ ¬ F bk ∧ ¬ F bp
theorem DelC.kp {w w' : World} {F F' : Nat → Prop} {p : Nat} {k : Bytes} {bt bk bp : Nat} (h : DelC w F p k bt bk bp) (hk : Kp F w w') (hF : ∀ i, F' i → F i ∨ w.heap.size ≤ i) : DelC w' F' p k bt bk bp := by
 obtain ⟨n1, n2, n4⟩ := h.n
 have h1 := h.t.lt
 have h2 := h.k.lt
 have h4 := h.f.lt
 exact ⟨hk.blk h.t n1, hk.blk h.k n2, hk.blk h.f n4, fun e => (hF _ e).elim n1 (by omega), fun e => (hF _ e).elim n2 (by omega), fun e => (hF _ e).elim n4 (by omega)⟩
structure DelPost (T : Tr) (h : Nat) (no : Int) (lo : Bytes) (hi : Option Bytes) (ns : List Int) (es : Es) (k : Bytes) (T' : Tr) : Prop where
 cnt : T'.count = T.count
 evo : Evo T T' 0
 one : One T.size h T.nodes T'.nodes no lo hi ns (delE es k)
 keys : (∀ m, T.nodes no = some m → ¬ m.low T.size) → ∀ m, T'.nodes no = some m → m.keys ≠ []
def DelAt (p : Nat) (k : Bytes) (bt bk bp : Nat) (H : Nat) : Prop := ∀ (w : World) (T : Tr) (nb : Int → Nat) (F : Nat → Prop) (no : Int) (lo : Bytes) (hi : Option Bytes) (ns : List Int) (es : Es),
 TreeA w p T nb F → DelC w F p k bt bk bp → Bn T.size T.nodes H no lo hi ns es → ns.Nodup → inB lo hi k → hasE es k → GivS T → (∀ x ∈ T.given, 1 ≤ x ∧ x ≤ 2147483647) → (∀ x, T.nodes x ≠ none → 1 ≤ x ∧ x ≤ 2147483647) → (∀ c ps, T.nodes no = some (innNd c ps) → ps ≠ []) →
 Ret Tryz.prog 43 [I no, ptr bt 0, ptr bk 0, ptr bp 0] w fun val w' => val = .tuple #[] ∧ ∃ T' F', TreeA w' p T' nb F' ∧ DelPost T H no lo hi ns es k T' ∧ Kp F w w' ∧ ∀ i, F' i → F i ∨ w.heap.size ≤ i
theorem full_two {z : Nat} {E : Es} (hz : sizeOk (z : Int)) (hE : EsOk z E) (hl : ¬ (leafNd E).low z) : 2 ≤ E.length := by
 obtain ⟨z1, z2, z3⟩ := hz
 match E, hE, hl with
 | [], _, hl => exact absurd (by rw [leafNd_low]; simp [entB]; omega) hl
 | [x], hE, hl =>
   have h1 := (hE.one x (by simp))
   exfalso; apply hl
   rw [leafNd_low]
   have : mostE z = (z - 3) / 4 := rfl
   simp [entB] at h1 ⊢
   omega
 | _ :: _ :: _, _, _ => simp
section
variable {w : World}
set_option maxHeartbeats 4000000 in
theorem delAt_leaf {p : Nat} {k : Bytes} {bt bk bp : Nat} : DelAt p k bt bk bp 1 := by
 intro w T nb F no lo hi ns E h hc hB hnd hin hhas hg hgr hnr hne
 have hz : sizeOk (T.size : Int) := size_ok h
 obtain ⟨z1, z2, -⟩ := id hz
 obtain ⟨hn, hns, hok, hbE, hinE⟩ := hB.leaf (by omega)
 obtain ⟨hD, hDv⟩ := del_leaf (k := k) hz hB
 have hlE := entB_len hok
 have hdel : delE E k = E.take (posE E k) ++ E.drop (posE E k + 1) := by unfold delE; rw [if_pos hhas]
 have hsub : (delE E k).Sublist E := by
  rw [hdel]
  conv => rhs; rw [← List.take_append_drop (posE E k) E]
  exact (List.Sublist.refl _).append (by rw [← List.drop_drop]; exact List.drop_sublist _ _)
 have hok' : EsOk T.size (delE E k) := hok.sub hsub
 obtain ⟨-, -, -, hbE', -⟩ := hD.leaf (by omega)
 have hbd' := leaf_bd hz hok' (by omega)
 obtain ⟨mN, mC, mO, gv, kn, kc, ko, O⟩ := h.opn
 obtain ⟨q, hq, hM, hqF, hcl⟩ := h.nodeF hn
 obtain ⟨qb, qk, qv, qc⟩ := q
 dsimp only at hq
 subst hq
 have hBn := hM.blk
 have hK := hM.keys
 have hV := hM.vals
 have hC := hM.kids
 have hd1 := hM.d1
 have hd2 := hM.d2
 have hd3 := hM.d3
 dsimp only at hBn hK hV hC hd1 hd2 hd3
 have hvl : (leafNd E).vals.length = E.length := by simp [leafNd]
 have hkl : (leafNd E).keys.length = E.length := by simp [leafNd]
 rw [hvl] at hV
 rw [hkl] at hK
 have hBt := hc.t
 have hBk := hc.k
 have hp : pos (leafNd E).keys k = posE E k := rfl
 have hlt := hasE_lt hhas
 have hFl := h.lt
 refine ret_of_run (e := [(0, _), (1, _), (2, _), (3, _)]) Tryz.func43 rfl Tryz.ntmps43 rfl rfl (qN rfl (qV ((by first | exact yld U24 rfl rfl hBt rfl | exact yld U24 rfl rfl O.blk rfl | exact yld U24 rfl rfl hBn rfl)) ?_))
 refine qV (ynk rfl) (qV (yfa fl74_5 rfl) (qV ((by first | exact yld U71 rfl rfl hBt rfl | exact yld U71 rfl rfl O.blk rfl | exact yld U71 rfl rfl hBn rfl)) ?_))
 refine qm rfl (qV (ylk (k := no) (K := KZ) U71 (ky_int U3) ti81 rfl rfl O.nm.l) ?_)
 rw [show (getL kn no).getD (.pointer none) = ptr (nb no) 0 by rw [O.ng no, hn]; rfl]
 refine qa rfl (rEnd (run_seq (qN rfl (qm rfl (qV (ynk rfl) (qV (yfa fl84_0 rfl) (qV ((by first | exact yld U4 rfl rfl hBt rfl | exact yld U4 rfl rfl O.blk rfl | exact yld U4 rfl rfl hBn rfl)) ?_)))))))
 refine rEnd (run_true rfl (run_seq ?_))
 have hg0 : Ext w w.drew := Ext.drew0 w
 refine run_draw (fun w' => Ext w w') (by kernel_rfl) rfl (qt 0 rfl (ymv rfl) hg0 (qt 1 rfl (ynk rfl) hg0 (qt 2 rfl (yfa fl84_1 rfl) hg0 (qT 3 rfl (fun _ hS => (by first | exact yld U23 rfl rfl (hS.blk hBn) rfl | exact yld U23 rfl rfl (hS.blk hBk) rfl)) hg0 ?_))))
 refine qT 4 rfl (fun _ hS => (by first | exact yld U9 rfl rfl (hS.blk hBn) rfl | exact yld U9 rfl rfl (hS.blk hBk) rfl)) hg0 ?_
 refine qO 5 (nCall (i := 5) rfl rfl rfl (yc (args := [.tmp 23, .tmp 24]) cf44 rfl) (bsearch_ret (leafNd E).keys k qk _ ((hM.keys.ext hg0).rd) (by rw [hkl]; omega) hok.rise) ?_)
 rintro _ w1 ⟨rfl, rfl⟩
 refine ⟨hg0, ?_⟩
 rw [hp]
 refine qt 6 rfl (ymv rfl) hg0 (qt 7 rfl (yex rfl rfl) hg0 (qt 8 rfl (yex rfl rfl) hg0 (qt 9 rfl (yas rfl) hg0 (qt 10 rfl (yas rfl) hg0 (qE (Run.qb (e := [(0, _), (1, _), (2, _), (3, _), (5, _), (6, _)]) ?_))))))
 refine run_seq ?_
 have hone : ∀ {l : List Bytes}, ∀ c' ∈ l.map S, c'.oneCell' = true := fun c' hc => by obtain ⟨z, -, rfl⟩ := List.mem_map.1 hc; rfl
 obtain ⟨Q, hQ⟩ : ∃ Q : Nat → Prop, Q = fun g => qk.ownBlock = some g ∨ qv.ownBlock = some g := ⟨_, rfl⟩
 have hQF : ∀ g, Q g → F g := fun g hg => by
  rw [hQ] at hg
  exact (hqF g (hg.elim (fun e => .inr (.inl e)) (fun e => .inr (.inr (.inl e))))).1
 have hQn : ¬ Q (nb no) := fun e => by
  rw [hQ] at e
  exact e.elim hd1.1 hd1.2.1
 have hQk : ∀ g, qk.ownBlock = some g → Q g := fun g hg => by rw [hQ]; exact .inl hg
 have hQv : ∀ g, qv.ownBlock = some g → Q g := fun g hg => by rw [hQ]; exact .inr hg
 have hQl : ∀ g, Q g → g < w.heap.size := fun g hg => hFl g (hQF g hg)
 refine run_cut (fun e' w2 => ∃ kv' vv', e' = [(0, I no), (1, ptr bt 0), (2, ptr bk 0), (3, ptr bp 0), (5, ptr (nb no) 0)] ∧ NdM w2 (leafNd (delE E k)) ⟨nb no, kv', vv', qc⟩ ∧ (∀ g, Pl.fp ⟨nb no, kv', vv', qc⟩ g → Pl.fp ⟨nb no, qk, qv, qc⟩ g ∨ w.heap.size ≤ g) ∧ Kp (Pl.fp ⟨nb no, qk, qv, qc⟩) w w2) ?hkn (fun hkn => ?hmainn)
 case hkn =>
  rintro e' w23 ⟨kv9, vv17, rfl, hM', hfp, hk2⟩
  obtain ⟨F', h', hF'⟩ := hcl w23 _ ⟨nb no, kv9, vv17, qc⟩ rfl hM' hk2 (fun g hg => (hfp g hg).imp id (fun e hh => by have := hFl g hh; omega))
  have hF2 : ∀ g, F' g → F g ∨ w.heap.size ≤ g := fun g hg => by
   rcases hF' g hg with e | e
   ·exact .inl e
   ·exact (hfp g e).imp (fun e => (hqF g e).1) id
  have hk2F : Kp F w w23 := hk2.mono' (fun g hg => (hqF g hg).1)
  have hc2 := hc.kp hk2F hF2
  have hBt2 := hc2.t
  obtain ⟨mN2, mC2, mO2, gv2, kn2, kc2, ko2, O2⟩ := h'.opn
  refine qN rfl (qV ((by first | exact yld U24 rfl rfl hBt2 rfl | exact yld U24 rfl rfl O2.blk rfl)) ?_)
  refine qV (ynk rfl) (qV (yfa fl74_7 rfl) (qV ((by first | exact yld U72 rfl rfl hBt2 rfl | exact yld U72 rfl rfl O2.blk rfl)) ?_))
  refine qm rfl (rEffP rfl (zmuB (k := no) (K := KZ) U72 (ky_int U3) rfl rfl rfl O2.cm) ?_)
  rintro w3 ⟨hM3, hk3⟩
  have h3 := O2.setC w3 _ (updI (T.setN no (leafNd (delE E k))).changed no true) hM3 hk3 (fun x => by
   rw [getL_put]
   by_cases e : x = no
   ·subst e; simp [flag, updI]
   ·rw [if_neg e, O2.cg]; simp [updI, e])
  have hk23 : Kp F' w23 w3 := hk3.mono' (fun k hk => by rw [hk]; exact O2.fp.2.2.1)
  refine rEnd (run_ret Tryz.func43 rfl (⟨_, rfl, rfl, (T.setN no (leafNd (delE E k))).mark no, F', h3, ⟨rfl, Evo.set hg hn, ⟨_, hD, hDv⟩, fun hlow m hm => ?_⟩, hk2F.trans_new hk23 (fun i hi => (hF2 i hi).symm), hF2⟩))
  have h2 := full_two hz hok (hlow _ hn)
  have hm' : updI T.nodes no (some (leafNd (delE E k))) no = some m := hm
  rw [updI_same] at hm'
  cases hm'
  intro e
  have e' : (delE E k).length = 0 := by have := congrArg List.length e; simpa [leafNd] using this
  rw [hdel, List.length_append, List.length_take, List.length_drop] at e'
  omega
 case hmainn =>
  have hgg := hg0.trans (Ext.drew0 w.drew)
  have hkc : Kp Q w w.drew.drew := hgg.kp
  have hK0 := hK.ext hgg
  have hV0 := hV.ext hgg
  refine run_drawL [20,23] (fun w' => Kp Q w w') (by kernel_rfl) rfl (qL [18, 19, 20, 21, 22, 23] 0 rfl (fun _ hS => ymv rfl) hkc (hTakeU (i := 1) rfl (by kernel_rfl) rfl rfl (fun _ => ymv rfl) (hkc) (qL [3, 4, 5, 9, 17, 18, 19, 20, 21, 22, 23] 2 rfl (fun _ hS => ymv rfl) hkc (qL [4, 5, 9, 17, 18, 19, 20, 21, 22, 23] 3 rfl (fun _ hS => ynk rfl) hkc (qL [5, 9, 17, 18, 19, 20, 21, 22, 23] 4 rfl (fun _ hS => yfa fl84_1 rfl) hkc (qL [9, 17, 18, 19, 20, 21, 22, 23] 5 rfl (fun _ hS => yld U23 rfl rfl (hS.blk hBn hQn) rfl) hkc (qL [9, 17, 18, 19, 20, 21, 22, 23] 6 rfl (fun _ hS => ymv rfl) hkc (qL [8, 9, 17, 18, 19, 20, 21, 22, 23] 7 rfl (fun _ hS => ymv rfl) hkc (qL [9, 17, 18, 19, 20, 21, 22, 23] 8 rfl (fun _ hS => yad rfl rfl (by omega)) hkc (qL [11, 12, 13, 17, 18, 19, 20, 21, 22, 23] 10 rfl (fun _ hS => ymv rfl) hkc (qL [12, 13, 17, 18, 19, 20, 21, 22, 23] 11 rfl (fun _ hS => ynk rfl) hkc (qL [13, 17, 18, 19, 20, 21, 22, 23] 12 rfl (fun _ hS => yfa fl84_2 rfl) hkc (qL [17, 18, 19, 20, 21, 22, 23] 13 rfl (fun _ hS => yld U23 rfl rfl (hS.blk hBn hQn) rfl) hkc ?_)))))))))))))
  refine qL [17, 18, 19, 20, 21, 22, 23] 14 rfl (fun _ hS => ymv rfl) hkc (qL [16, 17, 18, 19, 20, 21, 22, 23] 15 rfl (fun _ hS => ymv rfl) hkc (qL [17, 18, 19, 20, 21, 22, 23] 16 rfl (fun _ hS => yad rfl rfl (by omega)) hkc (hOneL (i := 9) (by kernel_rfl) (nCallL (i := 9) rfl rfl rfl (yc (args := [.tmp 33, .tmp 34, .tmp 36]) cf45 rfl) (delS_ret (i := posE E k) hK0 hone hlt (by omega)) ?_))))
  rintro kv9 w9 ⟨hS9, hk9, ho9⟩
  refine ⟨hkc.trans (hk9.mono' hQk), ?_⟩
  have hkc := hkc.trans (hk9.mono' hQk)
  have hV0 := hV0.kp hk9 (fun g hg e => (hd2 g e).1 hg)
  refine hOneL (i := 17) (by kernel_rfl) (nCallL (i := 17) rfl rfl rfl (yc (args := [.tmp 41, .tmp 42, .tmp 44]) cf45 rfl) (delS_ret (i := posE E k) hV0 hone hlt (by omega)) ?_)
  rintro vv17 w17 ⟨hS17, hk17, ho17⟩
  refine ⟨hkc.trans (hk17.mono' hQv), ?_⟩
  have hkc := hkc.trans (hk17.mono' hQv)
  have hS9 := hS9.kp hk17 (fun g hg e => (hd2 g (ho9 g hg)).1 e)
  refine qL [19, 20, 21, 22, 23] 18 rfl (fun _ hS => ynk rfl) hkc (qL [20, 21, 22, 23] 19 rfl (fun _ hS => yfa fl84_1 rfl) hkc (hLate [20] (by kernel_rfl) (by kernel_rfl) (qO 20 (nEffP (i := 20) rfl rfl (zst ti23 rfl rfl (oneV_sl hS9) (hkc.blk hBn hQn) (by simp)) ?_))))
  rintro w20 ⟨hB20, hk20⟩
  refine ⟨trivial, ?_⟩
  refine qt 21 rfl (ynk rfl) trivial (qt 22 rfl (yfa fl84_2 rfl) trivial (qO 23 (nEffP (i := 23) rfl rfl (zst ti23 rfl rfl (oneV_sl hS17) hB20 (by simp)) ?_)))
  rintro w23 ⟨hB23, hk23⟩
  refine ⟨trivial, ?_⟩
  refine qE (Run.qb (e := [(0, _), (1, _), (2, _), (3, _), (5, _)]) ?_)
  have hk1723 := hk20.trans hk23
  have hnk : ∀ g, kv9.ownBlock = some g → g ≠ nb no := fun g hg e => by
   have h := ho9 g hg; rw [e] at h; exact hd1.1 h
  have hnv : ∀ g, vv17.ownBlock = some g → g ≠ nb no := fun g hg e => by
   have h := ho17 g hg; rw [e] at h; exact hd1.2.1 h
  obtain ⟨hM', hfp⟩ := hM.re (w' := w23) (n' := leafNd (delE E k)) (kv' := kv9) (vv' := vv17) (cv' := qc) hB23 (by
    have e : (leafNd (delE E k)).keys = (leafNd E).keys.take (posE E k) ++ (leafNd E).keys.drop (posE E k + 1) := by rw [hdel]; simp [leafNd]
    rw [e]
    have := hS9.kp hk1723 hnk
    simp only [List.map_append, List.map_take, List.map_drop, List.length_append, List.length_take, List.length_drop, hkl]
    rw [show min (posE E k) E.length + (E.length - (posE E k + 1)) = E.length - 1 by omega]
    exact this) (by
    have e : (leafNd (delE E k)).vals = (leafNd E).vals.take (posE E k) ++ (leafNd E).vals.drop (posE E k + 1) := by rw [hdel]; simp [leafNd]
    rw [e]
    have := hS17.kp hk1723 hnv
    simp only [List.map_append, List.map_take, List.map_drop, List.length_append, List.length_take, List.length_drop, hvl]
    rw [show min (posE E k) E.length + (E.length - (posE E k + 1)) = E.length - 1 by omega]
    exact this) (by
    have e : (leafNd (delE E k)).kids = (leafNd E).kids := rfl
    rw [e]
    exact (hC.kp hkc (fun g hg e => by
     rw [hQ] at e
     rcases e with e | e
     ·exact (hd2 g e).2 hg
     ·exact hd3 g e hg)).kp hk1723 (fun g hg e => hd1.2.2 (by rw [← e]; exact hg))) hbd' (fun g hg => .inl (ho9 g hg)) (fun g hg => .inl (ho17 g hg)) (fun g hg => .inl hg) (fun g hg => ⟨fun e => absurd (hM.lt g (.inr (.inl (ho9 g e)))) (by omega), fun e => absurd (hM.lt g (.inr (.inr (.inl (ho17 g e))))) (by omega)⟩)
  have hk2 : Kp (Pl.fp ⟨nb no, qk, qv, qc⟩) w w23 := (hkc.mono' (fun g hg => by
   rw [hQ] at hg
   exact hg.elim (fun e => .inr (.inl e)) (fun e => .inr (.inr (.inl e))))).trans (hk1723.mono' (fun g hg => .inl hg))
  exact (hkn _ _ ⟨kv9, vv17, rfl, hM', hfp, hk2⟩).qb
set_option maxHeartbeats 4000000 in
theorem delAt_inner {p : Nat} {k : Bytes} {bt bk bp h0 : Nat} (ih : DelAt p k bt bk bp (h0 + 1)) : DelAt p k bt bk bp (h0 + 2) := by
 intro w T nb F no lo hi ns es h hc hB hnd hin hhas hg hgr hnr hne
 have hz : sizeOk (T.size : Int) := size_ok h
 obtain ⟨z1, z2, -⟩ := id hz
 have hor : orderE T.size ≤ 1000 ∧ 8 ≤ orderE T.size := by unfold orderE; omega
 obtain ⟨c, ps, ns', hn, hns, hko, hlo, hnz, hfull, a, lo', hi', nm, em, e1, e2, ha, hBa, hnda, hina, hnonm, hsub, hes, he1, he2, hone, -⟩ := inner_step hz hB hnd hin
 obtain ⟨i, hi0⟩ : ∃ i, wayI (ps.map (·.1)) k = i := ⟨_, rfl⟩
 rw [hi0] at ha
 have hile : i ≤ ps.length := by have := wayI_le (ps.map (·.1)) k; rw [hi0, List.length_map] at this; exact this
 have hhas' : hasE em k := by rw [hes] at hhas; exact (hasE_mid he1 he2).1 hhas
 have hdel : delE es k = e1 ++ (delE em k ++ e2) := by rw [hes]; exact delE_mid he1 he2
 obtain ⟨mN, mC, mO, gv, kn, kc, ko, O⟩ := h.opn
 obtain ⟨q, hq, hM, hqF, -⟩ := h.nodeF hn
 obtain ⟨qb, qk, qv, qc⟩ := q
 dsimp only at hq
 subst hq
 have hBn := hM.blk
 have hC := hM.kids
 dsimp only at hBn hC
 have kcl : (innNd c ps).kids.length = ps.length + 1 := by simp [innNd]
 rw [kcl] at hC
 obtain ⟨gc, cc, rfl⟩ := some_of hC (by omega)
 have hal := hM.bd.cs a (List.mem_of_getElem? (show (innNd c ps).kids[_]? = some a from ha))
 have hamem : a ∈ c :: ps.map (·.2) := List.mem_of_getElem? ha
 have hBt := hc.t
 have hBk := hc.k
 have hBp := hc.f
 have hg0 : Ext w w.drew := Ext.drew0 w
 refine ret_of_run (e := [(0, _), (1, _), (2, _), (3, _)]) Tryz.func43 rfl Tryz.ntmps43 rfl rfl (qN rfl (qV ((by first | exact yld U24 rfl rfl hBt rfl | exact yld U24 rfl rfl O.blk rfl | exact yld U24 rfl rfl hBn rfl | exact yld U24 rfl rfl hBk rfl)) ?_))
 refine qV (ynk rfl) (qV (yfa fl74_5 rfl) (qV ((by first | exact yld U71 rfl rfl hBt rfl | exact yld U71 rfl rfl O.blk rfl | exact yld U71 rfl rfl hBn rfl | exact yld U71 rfl rfl hBk rfl)) ?_))
 refine qm rfl (qV (ylk (k := no) (K := KZ) U71 (ky_int U3) ti81 rfl rfl O.nm.l) ?_)
 rw [show (getL kn no).getD (.pointer none) = ptr (nb no) 0 by rw [O.ng no, hn]; rfl]
 refine qa rfl (rEnd (run_seq (qN rfl (qm rfl (qV (ynk rfl) (qV (yfa fl84_0 rfl) (qV ((by first | exact yld U4 rfl rfl hBt rfl | exact yld U4 rfl rfl O.blk rfl | exact yld U4 rfl rfl hBn rfl | exact yld U4 rfl rfl hBk rfl)) ?_)))))))
 refine rEnd (run_false rfl (run_skip (qN rfl (qm rfl (qV ((by first | exact yld U9 rfl rfl hBt rfl | exact yld U9 rfl rfl O.blk rfl | exact yld U9 rfl rfl hBn rfl | exact yld U9 rfl rfl hBk rfl)) ?_)))))
 refine rCall rfl rfl (yc (args := [.tmp 55, .tmp 56]) cf46 rfl) (way_ret k hBn hM.r hM.bd hko.2) ?_
 rintro _ w ⟨rfl, rfl⟩
 rw [show wayI (innNd c ps).keys k = i from hi0]
 refine qa rfl (rEnd (run_seq (run_drawL [9] (fun w' => Ext w w') (by kernel_rfl) rfl (qL [9] 0 rfl (fun _ hS => (by first | exact yld U80 rfl rfl (hS.blk hBn) rfl | exact yld U80 rfl rfl (hS.blk hBp) rfl)) hg0 ?_))))
 refine qL [2, 3, 4, 6, 7, 8, 9] 1 rfl (fun _ hS => ymv rfl) hg0 (qL [3, 4, 6, 7, 8, 9] 2 rfl (fun _ hS => ynk rfl) hg0 (qL [4, 6, 7, 8, 9] 3 rfl (fun _ hS => yfa fl84_3 rfl) hg0 (qL [6, 7, 8, 9] 4 rfl (fun _ hS => (by first | exact yld U82 rfl rfl (hS.blk hBn) rfl | exact yld U82 rfl rfl (hS.blk hBp) rfl)) hg0 ?_)))
 refine qL [6, 7, 8, 9] 5 rfl (fun _ hS => ymv rfl) hg0 (qL [7, 8, 9] 6 rfl (fun _ hS => yis U82 ti89 rfl rfl (by omega)) hg0 (qL [8, 9] 7 rfl (fun _ hS => yldc U89 rfl rfl (rd_u32 ((hC.ext hS).rd) (by omega) ha)) hg0 (qL [9] 8 rfl (fun _ hS => ycvSi64 rfl U89 U3 (by omega)) hg0 (hLate [9] (by kernel_rfl) (by kernel_rfl) (qO 9 (nCall (i := 9) rfl rfl rfl (ycv' (args := [.tmp 66]) cf43 rfl rfl) (ih _ T nb F (a : Int) lo' hi' nm em (h.ext hg0) (hc.kp hg0.kp (fun i hi => .inl hi)) hBa hnda hina hhas' hg hgr hnr (fun c' ps' hn' e => by have := full_inn (hfull a hamem) hz hn'; rw [e] at this; simp at this)) ?_))))))
 rintro v1 w1 ⟨rfl, T1, F1, h1, ⟨hcn1, hE1, ⟨nm', hBa1, hev1⟩, hkeys⟩, hk1, hF1⟩
 refine ⟨trivial, ?_⟩
 have hsz : T1.size = T.size := hE1.size
 have hgr1 : ∀ x ∈ T1.given, 1 ≤ x ∧ x ≤ 2147483647 := fun x hx => (hE1.giv x hx).elim (hgr x) (fun e => hnr x e.1)
 have hgl1 : T1.given.length ≤ 2147483647 := by have := rise_len hE1.srt.rise hgr1; omega
 have hk01 : Kp F w w1 := hg0.kp.trans hk1
 have hz0 := hg0.size
 have hF01 : ∀ i, F1 i → F i ∨ w.heap.size ≤ i := fun i hi => (hF1 i hi).imp id (fun e => by omega)
 have hc1 : DelC w1 F1 p k bt bk bp := hc.kp hk01 hF01
 have hBt1 := hc1.t
 obtain ⟨ns1, M, hev2⟩ := hone T1.nodes nm' _ hBa1 hev1
 have M1 : Mid T1.size h0 T1.nodes no lo hi c ps ns1 (e1 ++ (delE em k ++ e2)) a := by rw [hsz]; exact M
 refine qE (Run.qb (e := [(0, _), (1, _), (8, _)]) ?_)
 refine run_reg rfl (qV (yld U24 rfl rfl hBt1 rfl) (qm rfl (qm rfl (rCall rfl rfl (yc (args := [.tmp 68, .tmp 69, .tmp 70]) cf47 rfl) (even_all h1 M1 (hne c ps hn) hile ha (hkeys (hfull a hamem)) hE1.srt (by omega)) ?_))))
 rintro _ w2 ⟨rfl, T2, F2, ns2, h2, b1, b2, b3, b4, ⟨ps', hn2, hps'⟩, hk2, hF2⟩
 rw [hsz] at b1
 refine rEnd (run_end Tryz.func43 rfl (⟨_, rfl, rfl, T2, F2, h2, ⟨by rw [b4, hcn1], (hE1.trans b3).mono (by omega), ⟨ns2, by rw [hdel]; exact b1, hev2.trans b2⟩, fun hlow m hm => ?_⟩, hk01.trans_new hk2 (fun i hi => (hF01 i hi).symm), fun i hi => ?_⟩))
 ·rw [hn2] at hm
  cases hm
  have := hlow _ hn
  rw [innNd_low] at this
  intro e
  have : ps' = [] := by simpa [innNd] using e
  subst this
  simp at hps'
  omega
 ·have := hk01.size
  rcases hF2 i hi with e | e
  ·exact hF01 i e
  ·exact .inr (by omega)
theorem delAt_all {p : Nat} {k : Bytes} {bt bk bp : Nat} : ∀ H, DelAt p k bt bk bp (H + 1)
 | 0 => delAt_leaf
 | h + 1 => delAt_inner (delAt_all h)
end
theorem getR_ok {es : Es} {k : Bytes} (h : (getR es k).2 = 0) : keyOk k ∧ hasE es k := by
 unfold getR at h
 by_cases hk : keyOk k
 ·rw [if_pos hk] at h
  by_cases hh : hasE es k
  ·exact ⟨hk, hh⟩
  ·rw [getE_none hh] at h
   simp at h
 ·rw [if_neg hk] at h
  simp at h
section
variable {w : World} {p : Nat} {T : Tr} {nb : Int → Nat} {F : Nat → Prop}
set_option maxHeartbeats 4000000 in
theorem deleteT_ret (h : TreeA w p T nb F) {H : Nat} {ns : List Int} {es : Es} (hI : Inv T H ns es) (hes : es.length ≤ 900000) (k : Bytes) :
  Ret Tryz.prog 11 [ptr p 0, S k] w fun val w' => (val = I (getR es k).2 ∧ (getR es k).2 ≠ 0 ∧ Ext w w') ∨ (val = I 0 ∧ (getR es k).2 = 0 ∧ ∃ T' H' ns', TreeS p F w w' T' H' ns' (delE es k) ∧ EvoR T T' 0) := by
 have hz : sizeOk (T.size : Int) := size_ok h
 obtain ⟨z1, z2, -⟩ := id hz
 have hgl := hI.gl
 have hlt := h.lt
 refine ret_of_run (e := [(0, _), (1, _)]) Tryz.func11 rfl Tryz.ntmps11 rfl rfl (qN rfl (rValP rfl rfl (pbx rfl rfl) ?_))
 rintro _ w1 ⟨bt, rfl, hbt, hx1, hB1⟩
 refine rValP rfl rfl (pbx rfl rfl) ?_
 rintro _ w2 ⟨bk, rfl, hbk, hx2, hB2⟩
 have hz1 := hx1.size
 have hz2 := hx2.size
 have hBt2 := hx2.blk hB1
 have hx02 : Ext w w2 := hx1.trans hx2
 have hFt : ¬ F bt := fun e => by have := hlt _ e; omega
 have hFk : ¬ F bk := fun e => by have := hlt _ e; omega
 refine qa rfl (rEnd (run_seq (qN rfl (qV ((by first | exact yld U24 rfl rfl hBt2 rfl | exact yld U24 rfl rfl hB2 rfl)) ?_))))
 refine qV ((by first | exact yld U9 rfl rfl hBt2 rfl | exact yld U9 rfl rfl hB2 rfl)) ?_
 refine rCall rfl rfl (yc (args := [.tmp 9, .tmp 10]) cf42 rfl) (get_ret (h.ext hx02) hI k) ?_
 rintro _ w3 ⟨rfl, hx3⟩
 have hx03 := hx02.trans hx3
 refine qm rfl (qV (yex rfl rfl) (qV (yex rfl rfl) (qa rfl (qa rfl (qM rfl (qm rfl (qV (yne rfl rfl) (rEnd (run_if rfl (fun he => ?_) (fun he => ?_))))))))))
 ·refine qN rfl (qm rfl (qa rfl (rEnd (run_ret Tryz.func11 rfl ?_))))
  exact ⟨_, rfl, .inl ⟨rfl, he, hx03⟩⟩
 ·have he' : (getR es k).2 = 0 := by omega
  obtain ⟨hk, hhas⟩ := getR_ok he'
  have hBt3 := hx3.blk hBt2
  have hBk3 := hx3.blk hB2
  have hz3 := hx3.size
  refine run_skip (qN rfl (rValP rfl rfl (pal (cs := [_]) ti80 rfl) ?_))
  rintro _ w4 ⟨bp, rfl, hbp, hx4, hB4⟩
  refine qM rfl (qV (ymf (first := []) (caps := [.tmp 2, .tmp 3, .tmp 7]) rfl rfl) (rEffP rfl (zst ti80 rfl rfl rfl hB4 (by simp)) ?_))
  rintro w5 ⟨hB5, hk5⟩
  have hx35 : Ext w3 w5 := hx4.trans_new hk5 (fun i hi => by omega)
  have hx05 := hx03.trans hx35
  have h5 := h.ext hx05
  have hFp : ¬ F bp := fun e => by have := hlt _ e; omega
  have hc5 : DelC w5 F p k bt bk bp := ⟨hx35.blk hBt3, hx35.blk hBk3, hB5, hFt, hFk, hFp⟩
  have hg5 : Ext w5 w5.drew := Ext.drew0 w5
  have hr : T.root ≠ 0 := fun e => by
   rcases hI.std with ⟨-, -, -, e'⟩ | ⟨e', -⟩
   ·rw [e'] at hhas
    have := hasE_lt hhas
    simp at this
   ·exact e' e
  have hP := hI.toP hr
  have hdel : Ret Tryz.prog 43 [I T.root, ptr bt 0, ptr bk 0, ptr bp 0] w5.drew fun val w' => val = .tuple #[] ∧ ∃ T' F', TreeA w' p T' nb F' ∧ DelPost T H T.root [] none ns es k T' ∧ Kp F w5.drew w' ∧ ∀ i, F' i → F i ∨ w5.drew.heap.size ≤ i := by
   obtain ⟨h0, rfl⟩ : ∃ h0, H = h0 + 1 := ⟨H - 1, by have := hP.bn.pos; omega⟩
   refine delAt_all h0 _ T nb F T.root [] none ns es (h5.ext hg5) (hc5.kp hg5.kp (fun i hi => .inl hi)) hP.bn hP.nd (inB_top k) hhas hI.giv hI.gnum hI.num (fun c ps hn => ?_)
   rcases hI.std with ⟨e, -⟩ | ⟨-, -, -, -, hk'⟩
   ·exact absurd e hr
   ·have := hk' _ hn
    intro e
    rw [e] at this
    exact this rfl
  obtain ⟨mN5, mC5, mO5, gv5, kn5, kc5, ko5, O5⟩ := h5.opn
  have hBO5 := O5.blk
  have hBt5 := hc5.t
  refine rEnd (run_seq (run_drawL [5] (fun w' => Ext w5 w') (by kernel_rfl) rfl (qL [5] 0 rfl (fun _ hS => (by first | exact yld U80 rfl rfl (hS.blk hB5) rfl | exact yld U80 rfl rfl (hS.blk hBt5) rfl | exact yld U80 rfl rfl (hS.blk hBO5) rfl)) hg5 ?_)))
  refine qL [2, 3, 4, 5] 1 rfl (fun _ hS => (by first | exact yld U24 rfl rfl (hS.blk hB5) rfl | exact yld U24 rfl rfl (hS.blk hBt5) rfl | exact yld U24 rfl rfl (hS.blk hBO5) rfl)) hg5 ?_
  refine qL [3, 4, 5] 2 rfl (fun _ hS => ynk rfl) hg5 (qL [4, 5] 3 rfl (fun _ hS => yfa fl74_1 rfl) hg5 (qL [5] 4 rfl (fun _ hS => (by first | exact yld U3 rfl rfl (hS.blk hB5) rfl | exact yld U3 rfl rfl (hS.blk hBt5) rfl | exact yld U3 rfl rfl (hS.blk hBO5) rfl)) hg5 ?_))
  refine hLate [5] (by kernel_rfl) (by kernel_rfl) (qO 5 (nCall (i := 5) rfl rfl rfl (ycv' (args := [.tmp 22]) cf43 rfl rfl) (hdel) ?_))
  rintro _ w8 ⟨rfl, T2, F2, h2, ⟨hcn2, hE2, hone, -⟩, hk2, hF2⟩
  refine ⟨trivial, ?_⟩
  have hk08 : Kp F w w8 := (hx05.trans hg5).kp.trans hk2
  have hz5 := hg5.size
  have hz05 := hx05.size
  have hF2' : ∀ g, F2 g → F g ∨ w.heap.size ≤ g := fun g hg => (hF2 g hg).imp id (fun e => by omega)
  have hBt8 := (hg5.kp.trans hk2).blk hBt5 hFt
  obtain ⟨mN8, mC8, mO8, gv8, kn8, kc8, ko8, O8⟩ := h2.opn
  have hBO8 := O8.blk
  have hF2t : ¬ F2 bt := fun e => (hF2 _ e).elim hFt (by have := hBt5.lt; omega)
  obtain ⟨nsx, hb2, hev2⟩ := hone
  have hdl := delE_len hhas
  have hcp : T.count = es.length := hI.cnt
  refine qE (qN rfl (qV ((by first | exact yld U24 rfl rfl hBt8 rfl | exact yld U24 rfl rfl hBO8 rfl)) ?_))
  refine qV (ynk rfl) (qV (yfa fl74_4 rfl) (qV ((by first | exact yld U3 rfl rfl hBt8 rfl | exact yld U3 rfl rfl hBO8 rfl)) ?_))
  refine qV (ysb rfl rfl (by omega)) (qV (ynk rfl) (qV (yfa fl74_4 rfl) (rEffP rfl (zst ti3 rfl rfl rfl hBO8 (by simp [trCs])) ?_)))
  rintro w9 ⟨hB9, hk9⟩
  have e9 : (T2.count : Int) - 1 = ((T.count - 1 : Nat) : Int) := by rw [hcn2]; omega
  rw [e9] at hB9
  have h9 := O8.setB w9 T2.root (T.count - 1) (by simpa [trCs] using hB9) hk9
  have hE3 : Evo T { T2 with root := T2.root, count := T.count - 1 } 0 := ⟨hE2.size, hE2.old, hE2.root, hE2.len, hE2.giv, hE2.nod, ⟨hE2.srt.rise, hE2.srt.free⟩, hE2.chg⟩
  have hI2 : InvP { T2 with root := T2.root, count := T.count - 1 } H nsx (delE es k) := hP.step hE3 hb2 hev2 (by show T.count - 1 = _; omega)
  have hBt9 := hk9.blk hBt8 (fun e => hF2t (by rw [e]; exact O8.fp.1))
  refine rEnd (Run.qb (e := [(2, _), (4, _)]) ?_)
  refine qN rfl (qV (yld U24 rfl rfl hBt9 rfl) (rCall rfl rfl (yc (args := [.tmp 31]) cf48 rfl) (settle_ret h9 hI2) ?_))
  rintro _ w10 ⟨rfl, T3, H3, ns3, F3, h3, hI3, hH3, hE4, hk10, hF3⟩
  refine qM rfl (qa rfl (rEnd (run_ret Tryz.func11 rfl ?_)))
  have hk9F : Kp F2 w8 w9 := hk9.mono' (fun i hi => by rw [hi]; exact O8.fp.1)
  have hz8 := hk08.size
  have hz9 := hk9.size
  refine ⟨_, rfl, .inr ⟨rfl, he', T3, H3, ns3, ⟨_, F3, h3, hI3, (hk08.trans_new (hk9F.trans hk10) (fun i hi => (hF2' i hi).symm)), fun g hg => ?_⟩, hE3.toR.trans hE4⟩⟩
  rcases hF3 g hg with e | e
  ·exact hF2' g e
  ·exact .inr (by omega)
end
end Go.Proofs.YtocnhaoilnojmaaGreat
