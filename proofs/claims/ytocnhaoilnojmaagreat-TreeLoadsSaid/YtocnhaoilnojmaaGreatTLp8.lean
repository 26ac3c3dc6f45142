/- Texts PgC, TrLd, R8A, R8C, R8B, R8D, one behind the other (what the statement TreeLoads does not use is left out). -/
import Derived.Test.YtocnhaoilnojmaaGreatTLp1
import Derived.Test.YtocnhaoilnojmaaGreatTLp5
import Derived.Test.YtocnhaoilnojmaaGreatTLp4
import Derived.Test.YtocnhaoilnojmaaGreatTLp3
import Derived.Test.YtocnhaoilnojmaaGreatTLp7
import Derived.Test.YtocnhaoilnojmaaGreatTLp6
namespace Go.Proofs.YtocnhaoilnojmaaGreat
open Go Go.RowKit
set_option linter.all false
set_option maxRecDepth 100000
/-- The variables of Decode: what is left, whether it is bad, the function that takes from it. -/
structure DcS (w : World) (b4 b5 b6 : Nat) (r : Bytes) (bad : Bool) : Prop where
 r : Blk w b4 [S r] 9
 b : Blk w b5 [.bool bad] 4
 f : Blk w b6 [.func (.func 81) #[] #[ptr b5 0, ptr b4 0]] 122
 n1 : b4 ≠ b5
 n2 : b6 ≠ b4 ∧ b6 ≠ b5
theorem DcS.kp {S : Nat → Prop} {w w' : World} {b4 b5 b6 : Nat} {r : Bytes} {bad : Bool} (h : DcS w b4 b5 b6 r bad) (k : Kp S w w') (h1 : ¬ S b4) (h2 : ¬ S b5) (h3 : ¬ S b6) : DcS w' b4 b5 b6 r bad := ⟨k.blk h.r h1, k.blk h.b h2, k.blk h.f h3, h.n1, h.n2⟩
theorem DcS.ext {w w' : World} {b4 b5 b6 : Nat} {r : Bytes} {bad : Bool} (h : DcS w b4 b5 b6 r bad) (k : Ext w w') : DcS w' b4 b5 b6 r bad := h.kp k id id id
theorem text_ret {w : World} {b4 b5 b6 : Nat} {r r' t : Bytes} {bad bad' : Bool} (h : DcS w b4 b5 b6 r bad) (n : Nat) (hn : n ≤ 1000000) (hr : r.length ≤ 1000000) (e : tx n r bad = (t, r', bad')) :
  Ret Tryz.prog 81 [I (n : Int), ptr b5 0, ptr b4 0] w fun v w' => v = S t ∧ DcS w' b4 b5 b6 r' bad' ∧ Kp (fun k => k = b4 ∨ k = b5) w w' := by
 have hBr := h.r
 have hBb := h.b
 have hne := h.n1
 have hbd : ∀ w1, Blk w1 b5 [.bool true] 4 → Kp (fun k => k = b5) w w1 → DcS w1 b4 b5 b6 r true ∧ Kp (fun k => k = b4 ∨ k = b5) w w1 := fun w1 hB1 hk1 => ⟨⟨hk1.blk h.r hne, hB1, hk1.blk h.f h.n2.2, h.n1, h.n2⟩, hk1.mono' (fun k e => .inr e)⟩
 refine ret_of_run (e := [(0, _), (1, _), (2, _)]) Tryz.func81 rfl Tryz.ntmps81 rfl rfl ?_; refine run_seq ?_; refine run_reg rfl ?_; refine qV (yas rfl) ?_; refine rEnd ?_; refine run_seq ?_; refine run_seq ?_; refine run_reg rfl ?_; refine qV ((by first | exact yld U4 rfl rfl hBr rfl | exact yld U4 rfl rfl hBb rfl)) ?_; refine qV (ymv rfl) ?_; refine rVal_bool (fun hbad => ?_) (fun hbad => ?_)
 ·skip
  rw [tx_bad (.inl hbad)] at e
  cases e
  refine qS ?_; refine qS ?_; refine qS ?_; refine qS ?_; refine qV (ypT rfl rfl) ?_; refine rEffP rfl (zst ti4 rfl rfl rfl hBb (by simp)) ?_
  rintro w1 ⟨hB1, hk1⟩
  refine rEnd ?_; refine run_seq ?_; refine run_reg rfl ?_; refine qV (yld U4 rfl rfl hB1 rfl) ?_; refine rEnd ?_; refine run_true rfl ?_; refine run_seq ?_; refine run_reg rfl ?_; refine qV (yas rfl) ?_; refine rEnd ?_; refine run_ret Tryz.func81 rfl ?_
  exact ⟨_, rfl, rfl, hbd w1 hB1 hk1⟩
 ·skip
  subst hbad
  refine qV (ymv rfl) ?_; refine qV ((by first | exact yld U9 rfl rfl hBr rfl | exact yld U9 rfl rfl hBb rfl)) ?_; refine qV (ylnS U9 rfl) ?_; refine qV (ygt rfl rfl) ?_; refine rVal_if (fun h1 => ?_) (fun h1 => ?_)
  ·skip
   rw [tx_bad (.inr (by omega))] at e
   cases e
   refine qV (ypF rfl rfl) ?_; refine rEffP rfl (zst ti4 rfl rfl rfl hBb (by simp)) ?_
   rintro w1 ⟨hB1, hk1⟩
   refine rEnd ?_; refine run_seq ?_; refine run_reg rfl ?_; refine qV (yld U4 rfl rfl hB1 rfl) ?_; refine rEnd ?_; refine run_true rfl ?_; refine run_seq ?_; refine run_reg rfl ?_; refine qV (yas rfl) ?_; refine rEnd ?_; refine run_ret Tryz.func81 rfl ?_
   exact ⟨_, rfl, rfl, hbd w1 hB1 hk1⟩
  ·skip
   rw [tx_ok (by omega)] at e
   cases e
   refine qV (ypF rfl rfl) ?_; refine rEffP rfl (zst ti4 rfl rfl rfl hBb (by simp)) ?_
   rintro w1 ⟨hB1, hk1⟩
   have hBr1 := hk1.blk hBr hne
   refine rEnd ?_; refine run_seq ?_; refine run_reg rfl ?_; refine qV ((by first | exact yld U4 rfl rfl hB1 rfl | exact yld U4 rfl rfl hBr1 rfl)) ?_; refine rEnd ?_; refine run_false rfl ?_; refine run_skip ?_; refine run_seq ?_; refine run_reg rfl ?_; refine qV ((by first | exact yld U9 rfl rfl hB1 rfl | exact yld U9 rfl rfl hBr1 rfl)) ?_; refine qV (ymv rfl) ?_; refine qV (yslSt U9 rfl rfl (by omega)) ?_; refine qV (yas rfl) ?_; refine rEnd ?_; refine run_seq ?_; refine run_reg rfl ?_; refine qV ((by first | exact yld U9 rfl rfl hB1 rfl | exact yld U9 rfl rfl hBr1 rfl)) ?_
   refine qV (ymv rfl) ?_; refine qV (yslSf U9 rfl rfl (by omega)) ?_; refine rEffP rfl (zst ti9 rfl rfl rfl hBr1 (by simp)) ?_
   rintro w2 ⟨hB2, hk2⟩
   refine rEnd ?_; refine run_seq ?_; refine run_reg rfl ?_; refine qV (ymv rfl) ?_; refine qV (yas rfl) ?_; refine rEnd ?_; refine run_ret Tryz.func81 rfl ?_
   exact ⟨_, rfl, rfl, ⟨hB2, hk2.blk hB1 (Ne.symm hne), hk2.blk (hk1.blk h.f h.n2.2) h.n2.1, h.n1, h.n2⟩, (hk1.mono' (fun k e => .inr e)).trans (hk2.mono' (fun k e => .inl e))⟩
theorem or_byte (a : Nat) (b : UInt8) : a * 256 ||| b.toNat = 256 * a + b.toNat := by
 have := Nat.two_pow_add_eq_or_of_lt (i := 8) (b := b.toNat) b.toNat_lt a
 rw [Nat.mul_comm a 256]
 exact this.symm
theorem number_ret {w : World} {b4 b5 b6 : Nat} {r r' t : Bytes} {bad bad' : Bool} (h : DcS w b4 b5 b6 r bad) (k : Nat) (hk : k ≤ 4) (hr : r.length ≤ 1000000) (e : tx k r bad = (t, r', bad')) :
  Ret Tryz.prog 82 [I (k : Int), ptr b6 0] w fun v w' => v = I ((valB t : Nat) : Int) ∧ DcS w' b4 b5 b6 r' bad' ∧ Kp (fun k => k = b4 ∨ k = b5) w w' := by
 have hBf := h.f
 have htl := tx_le e
 refine ret_of_run (e := [(0, _), (1, _)]) Tryz.func82 rfl Tryz.ntmps82 rfl rfl ?_; refine run_seq ?_; refine run_reg rfl ?_; refine qV (yas rfl) ?_; refine rEnd ?_; refine run_seq ?_; refine run_seq ?_; refine run_reg rfl ?_; refine qV (yld U122 rfl rfl hBf rfl) ?_; refine qV (ymv rfl) ?_; refine rCall rfl rfl (ycv' (args := [.tmp 7]) cf81 rfl rfl) (text_ret h k (by omega) hr e) ?_
 rintro _ w1 ⟨rfl, h1, hk1⟩
 refine rValP rfl rfl (pS2B U9 U123 U5 rfl) ?_
 rintro _ w2 ⟨b9, cap, rest, rfl, ⟨hb9, hx2, hB9⟩, hcap⟩
 refine qV (yln U123 rfl) ?_; refine qV (ymv rfl) ?_; refine rEnd ?_; refine run_block ?_; refine run_loop (α := Nat) (0) (fun i => [(3, I ((valB (t.take i) : Nat) : Int)), (9, .slice (some ⟨b9, 0, none⟩) t.length cap), (10, I (t.length : Int)), (11, I (i : Int))]) (fun i w' => w' = w2 ∧ i ≤ t.length) (fun i => t.length - i) (by repeat (first | exact Sub.nil | refine Sub.cons rfl ?_)) ?hI ?hround
 case hI => exact ⟨rfl, Nat.zero_le _⟩
 case hround =>
  rintro i w3 ⟨rfl, hi⟩ ih
  have hvb := valB_lt (t.take i)
  have hvp : 256 ^ (t.take i).length ≤ 256 ^ 4 := Nat.pow_le_pow_right (by omega) (by rw [List.length_take]; omega)
  have hvb2 : valB (t.take i) < 4294967296 := by omega
  try dsimp only
  refine run_seq ?_; refine run_reg rfl ?_; refine qV (ylt rfl rfl) ?_; refine rEnd ?_; refine run_seq ?_; refine run_if rfl (fun hlt => ?_) (fun hlt => ?_)
  ·skip
   have hi' : i < t.length := by omega
   have hti := List.getElem?_eq_getElem hi'
   have hcell : (t.map u8v ++ rest)[0 + i * 1]? = some (u8v t[i]) := by
    rw [Nat.zero_add, Nat.mul_one, List.getElem?_append_left (by simpa using hi'), List.getElem?_map, hti]; rfl
   have hub := t[i].toNat_lt
   refine run_skip ?_; refine run_seq ?_; refine run_block ?_; refine run_seq ?_; refine run_reg rfl ?_; refine qV (yis U123 ti5 rfl rfl (by omega)) ?_; refine qV (yld U5 rfl rfl hB9 hcell) ?_
   unfold u8v
   refine qV (yas rfl) ?_; refine rEnd ?_; refine run_reg rfl ?_; refine qV (ymv rfl) ?_; refine qV (ysl 8 256 rfl rfl (by decide) rfl (by omega)) ?_; refine qV (ymv rfl) ?_; refine qV ((by first | exact ycvB rfl U5 U3 (by decide) | exact ycvSi64 rfl U5 U3 (by omega))) ?_; refine qV (yor64 rfl rfl (by omega) (by omega)) ?_; refine qV (yas rfl) ?_; refine rEnd ?_; refine run_inBlock ?_; refine run_reg rfl ?_; refine qV (yad rfl rfl (by omega)) ?_; refine qV (ymv rfl) ?_; refine rEnd ?_
   rw [or_byte, ← valB_snoc, ← List.take_succ_eq_append_getElem hi']
   exact (ih (i + 1) _ ⟨rfl, by omega⟩ (by omega)).qb
  ·skip
   have : i = t.length := by omega
   subst this
   rw [List.take_length]
   refine run_exit rfl ?_; refine run_seq ?_; refine run_reg rfl ?_; refine qV (ymv rfl) ?_; refine qV (yas rfl) ?_; refine rEnd ?_; refine run_ret Tryz.func82 rfl ?_
   exact ⟨_, rfl, rfl, h1.ext hx2, hk1.trans hx2.kp⟩
/-- The node that Decode builds. -/
structure DcN (w0 w : World) (b4 b5 b6 b9 : Nat) (lf : Bool) (ks vs : List Bytes) (cs : List Nat) (kv vv cv : Value) : Prop where
 blk : Blk w b9 [.bool lf, kv, vv, cv] 84
 k : Sl w kv 9 1 ks.length (ks.map S)
 v : Sl w vv 9 1 vs.length (vs.map S)
 c : Sl w cv 89 1 cs.length (cs.map u32v)
 low : ∀ g, kv.ownBlock = some g ∨ vv.ownBlock = some g ∨ cv.ownBlock = some g → w0.heap.size ≤ g ∧ g ≠ b4 ∧ g ≠ b5 ∧ g ≠ b6 ∧ g ≠ b9
 d2 : ∀ g, kv.ownBlock = some g → vv.ownBlock ≠ some g ∧ cv.ownBlock ≠ some g
 d3 : ∀ g, vv.ownBlock = some g → cv.ownBlock ≠ some g
 n9 : w0.heap.size ≤ b9 ∧ b9 ≠ b4 ∧ b9 ≠ b5 ∧ b9 ≠ b6
 n4 : b4 < w.heap.size ∧ b5 < w.heap.size ∧ b6 < w.heap.size
section
variable {w0 w w' w1 w2 w3 w4 : World} {b4 b5 b6 b9 : Nat} {lf : Bool} {ks vs : List Bytes} {cs : List Nat} {kv vv cv kv2 : Value}
theorem DcN.kp {S : Nat → Prop} (h : DcN w0 w b4 b5 b6 b9 lf ks vs cs kv vv cv) (k : Kp S w w') (hs : ∀ g, S g → g = b4 ∨ g = b5) : DcN w0 w' b4 b5 b6 b9 lf ks vs cs kv vv cv := by
 have hz := k.size
 refine ⟨k.blk h.blk (fun e => (hs _ e).elim h.n9.2.1 h.n9.2.2.1), h.k.kp k (fun g hg e => ?_), h.v.kp k (fun g hg e => ?_), h.c.kp k (fun g hg e => ?_), h.low, h.d2, h.d3, h.n9, by have := h.n4; omega⟩
 ·have := h.low g (.inl hg); exact (hs g e).elim this.2.1 this.2.2.1
 ·have := h.low g (.inr (.inl hg)); exact (hs g e).elim this.2.1 this.2.2.1
 ·have := h.low g (.inr (.inr hg)); exact (hs g e).elim this.2.1 this.2.2.1
theorem DcN.ext (h : DcN w0 w b4 b5 b6 b9 lf ks vs cs kv vv cv) (k : Ext w w') : DcN w0 w' b4 b5 b6 b9 lf ks vs cs kv vv cv := h.kp k (fun _ e => e.elim)
theorem DcN.pushK (h0 : w0.heap.size ≤ w1.heap.size) (h : DcN w0 w1 b4 b5 b6 b9 lf ks vs cs kv vv cv) {x : Bytes} {u : Value} (hx : Ext w1 w2) (hs : Sl w3 u 9 1 (ks ++ [x]).length ((ks ++ [x]).map S)) (hk : Kp (fun g => kv.ownBlock = some g) w2 w3) (ho : ∀ g, u.ownBlock = some g → kv.ownBlock = some g ∨ w2.heap.size ≤ g) (hl : Blk w4 b9 [.bool lf, u, vv, cv] 84) (hk4 : Kp (fun g => g = b9) w3 w4) :
  DcN w0 w4 b4 b5 b6 b9 lf (ks ++ [x]) vs cs u vv cv ∧ Kp (fun g => g = b9 ∨ kv.ownBlock = some g) w1 w4 := by
 have hk14 : Kp (fun g => g = b9 ∨ kv.ownBlock = some g) w1 w4 := (hx.kp.trans (hk.mono' (fun g e => .inr e))).trans (hk4.mono' (fun g e => .inl e))
 have hz := hx.size
 have hz2 := hk14.size
 have hb9 := h.blk.lt
 have hn4 := h.n4
 have hn9 := h.n9
 have hu : ∀ g, u.ownBlock = some g → w0.heap.size ≤ g ∧ g ≠ b4 ∧ g ≠ b5 ∧ g ≠ b6 ∧ g ≠ b9 := fun g hg => by
  rcases ho g hg with e | e
  ·exact h.low g (.inl e)
  ·exact ⟨by omega, by omega, by omega, by omega, by omega⟩
 refine ⟨⟨hl, hs.kp hk4 (fun g hg e => (hu g hg).2.2.2.2 e), h.v.kp hk14 (fun g hg e => e.elim (h.low g (.inr (.inl hg))).2.2.2.2 (fun e => (h.d2 g e).1 hg)), h.c.kp hk14 (fun g hg e => e.elim (h.low g (.inr (.inr hg))).2.2.2.2 (fun e => (h.d2 g e).2 hg)), ?_, ?_, ?_, h.n9, by omega⟩, hk14⟩
 ·exact fun g hg => by
   rcases hg with hg | hg | hg
   ·exact hu g hg
   ·exact h.low g (.inr (.inl hg))
   ·exact h.low g (.inr (.inr hg))
 ·exact fun g hg => by
   rcases ho g hg with e | e
   ·exact h.d2 g e
   ·exact ⟨fun hg => by have := h.v.lt hg; omega, fun hg => by have := h.c.lt hg; omega⟩
 ·exact h.d3
theorem DcN.pushV (h0 : w0.heap.size ≤ w1.heap.size) (h : DcN w0 w1 b4 b5 b6 b9 lf ks vs cs kv vv cv) {x : Bytes} {u : Value} (hx : Ext w1 w2) (hs : Sl w3 u 9 1 (vs ++ [x]).length ((vs ++ [x]).map S)) (hk : Kp (fun g => vv.ownBlock = some g) w2 w3) (ho : ∀ g, u.ownBlock = some g → vv.ownBlock = some g ∨ w2.heap.size ≤ g) (hl : Blk w4 b9 [.bool lf, kv, u, cv] 84) (hk4 : Kp (fun g => g = b9) w3 w4) :
  DcN w0 w4 b4 b5 b6 b9 lf ks (vs ++ [x]) cs kv u cv ∧ Kp (fun g => g = b9 ∨ vv.ownBlock = some g) w1 w4 := by
 have hk14 : Kp (fun g => g = b9 ∨ vv.ownBlock = some g) w1 w4 := (hx.kp.trans (hk.mono' (fun g e => .inr e))).trans (hk4.mono' (fun g e => .inl e))
 have hz := hx.size
 have hz2 := hk14.size
 have hb9 := h.blk.lt
 have hn4 := h.n4
 have hn9 := h.n9
 have hu : ∀ g, u.ownBlock = some g → w0.heap.size ≤ g ∧ g ≠ b4 ∧ g ≠ b5 ∧ g ≠ b6 ∧ g ≠ b9 := fun g hg => by
  rcases ho g hg with e | e
  ·exact h.low g (.inr (.inl e))
  ·exact ⟨by omega, by omega, by omega, by omega, by omega⟩
 refine ⟨⟨hl, h.k.kp hk14 (fun g hg e => e.elim (h.low g (.inl hg)).2.2.2.2 (fun e => (h.d2 g hg).1 e)), hs.kp hk4 (fun g hg e => (hu g hg).2.2.2.2 e), h.c.kp hk14 (fun g hg e => e.elim (h.low g (.inr (.inr hg))).2.2.2.2 (fun e => h.d3 g e hg)), ?_, ?_, ?_, h.n9, by omega⟩, hk14⟩
 ·exact fun g hg => by
   rcases hg with hg | hg | hg
   ·exact h.low g (.inl hg)
   ·exact hu g hg
   ·exact h.low g (.inr (.inr hg))
 ·exact fun g hg => ⟨fun hg2 => by
   rcases ho g hg2 with e | e
   ·exact (h.d2 g hg).1 e
   ·have := h.k.lt hg; omega, (h.d2 g hg).2⟩
 ·exact fun g hg => by
   rcases ho g hg with e | e
   ·exact h.d3 g e
   ·exact fun hg => by have := h.c.lt hg; omega
theorem DcN.pushC (h0 : w0.heap.size ≤ w1.heap.size) (h : DcN w0 w1 b4 b5 b6 b9 lf ks vs cs kv vv cv) {x : Nat} {u : Value} (hx : Ext w1 w2) (hs : Sl w3 u 89 1 (cs ++ [x]).length ((cs ++ [x]).map u32v)) (hk : Kp (fun g => cv.ownBlock = some g) w2 w3) (ho : ∀ g, u.ownBlock = some g → cv.ownBlock = some g ∨ w2.heap.size ≤ g) (hl : Blk w4 b9 [.bool lf, kv, vv, u] 84) (hk4 : Kp (fun g => g = b9) w3 w4) :
  DcN w0 w4 b4 b5 b6 b9 lf ks vs (cs ++ [x]) kv vv u ∧ Kp (fun g => g = b9 ∨ cv.ownBlock = some g) w1 w4 := by
 have hk14 : Kp (fun g => g = b9 ∨ cv.ownBlock = some g) w1 w4 := (hx.kp.trans (hk.mono' (fun g e => .inr e))).trans (hk4.mono' (fun g e => .inl e))
 have hz := hx.size
 have hz2 := hk14.size
 have hb9 := h.blk.lt
 have hn4 := h.n4
 have hn9 := h.n9
 have hu : ∀ g, u.ownBlock = some g → w0.heap.size ≤ g ∧ g ≠ b4 ∧ g ≠ b5 ∧ g ≠ b6 ∧ g ≠ b9 := fun g hg => by
  rcases ho g hg with e | e
  ·exact h.low g (.inr (.inr e))
  ·exact ⟨by omega, by omega, by omega, by omega, by omega⟩
 refine ⟨⟨hl, h.k.kp hk14 (fun g hg e => e.elim (h.low g (.inl hg)).2.2.2.2 (fun e => (h.d2 g hg).2 e)), h.v.kp hk14 (fun g hg e => e.elim (h.low g (.inr (.inl hg))).2.2.2.2 (fun e => h.d3 g hg e)), hs.kp hk4 (fun g hg e => (hu g hg).2.2.2.2 e), ?_, ?_, ?_, h.n9, by omega⟩, hk14⟩
 ·exact fun g hg => by
   rcases hg with hg | hg | hg
   ·exact h.low g (.inl hg)
   ·exact h.low g (.inr (.inl hg))
   ·exact hu g hg
 ·exact fun g hg => ⟨(h.d2 g hg).1, fun hg2 => by
   rcases ho g hg2 with e | e
   ·exact (h.d2 g hg).2 e
   ·have := h.k.lt hg; omega⟩
 ·exact fun g hg hg2 => by
   rcases ho g hg2 with e | e
   ·exact h.d3 g hg e
   ·have := h.v.lt hg; omega
end
set_option maxHeartbeats 4000000 in
theorem decode_ret (s : Bytes) (hsl : s.length ≤ 140737488355328) (w : World) : Ret Tryz.prog 51 [S s] w fun v w' => Ext w w' ∧ ((∃ n kv vv cv, dec s = some n ∧ v = .tuple #[ndv n kv vv cv, I 0] ∧ NdP w' n kv vv cv ∧ ∀ g, kv.ownBlock = some g ∨ vv.ownBlock = some g ∨ cv.ownBlock = some g → w.heap.size ≤ g) ∨ (dec s = none ∧ v = .tuple #[.agg #[.bool false, .slice none 0 0, .slice none 0 0, .slice none 0 0], I 4])) := by
 refine ret_of_run (e := [(0, _)]) Tryz.func51 rfl Tryz.ntmps51 rfl rfl ?_; refine run_seq ?_; refine run_reg rfl ?_; refine rValP rfl rfl (pal (cs := [_, _, _, _]) ti84 rfl) ?_
 rintro _ w1 ⟨b2, rfl, hb2, hx1, hB2⟩
 refine qV (yas rfl) ?_; refine rEnd ?_; refine run_seq ?_; refine run_seq ?_; refine run_reg rfl ?_; refine qV (ymv rfl) ?_; refine qV (ylnS U9 rfl) ?_; refine rCall rfl rfl (yc (args := [.tmp 16]) cf64 rfl) (size_ret _ w1) ?_
 rintro _ w1 ⟨rfl, rfl⟩
 by_cases hz : sizeOk (s.length : Int)
 ·obtain ⟨z1, z2, -⟩ := id hz
  rw [if_pos hz]
  refine qV (yne rfl rfl) ?_; refine rEnd ?_; refine run_if rfl (fun h0 => ?_) (fun h0 => ?_)
  ·exact absurd rfl h0
  ·skip
   refine run_skip ?_; refine run_seq ?_; refine run_reg rfl ?_; refine qV (ymv rfl) ?_; refine rValP rfl rfl (pal (cs := [_]) ti9 rfl) ?_
   rintro _ w2 ⟨b4, rfl, hb4, hx2, hB4⟩
   refine rValP rfl rfl (pal (cs := [_]) ti4 rfl) ?_
   rintro _ w3 ⟨b5, rfl, hb5, hx3, hB5⟩
   have hz2 := hx2.size
   have hz1 := hx1.size
   have hl4 := hB4.lt
   have n45 : b4 ≠ b5 := by omega
   refine rEffP rfl (zst ti9 rfl rfl rfl (hx3.blk hB4) (by simp)) ?_
   rintro w4 ⟨hB4', hk4⟩
   have hBb4 := hk4.blk hB5 n45.symm
   refine rEffP rfl (zst ti4 rfl rfl rfl hBb4 (by simp)) ?_
   rintro w5 ⟨hB5', hk5⟩
   have hB45 := hk5.blk hB4' n45
   have hx05 : Ext w1 w5 := ((hx2.trans hx3).trans_new hk4 (fun i hi => by omega)).trans_new hk5 (fun i hi => by omega)
   have hz5 := hx05.size
   have hl45 := hB45.lt
   have hl55 := hB5'.lt
   refine rEnd ?_; refine run_seq ?_; refine run_reg rfl ?_; refine qV (ymf (first := []) (caps := [.tmp 5, .tmp 4]) rfl rfl) ?_; refine rValP rfl rfl (pal (cs := [_]) ti122 rfl) ?_
   rintro _ w6 ⟨b6, rfl, hb6, hx6, hB6⟩
   refine rEffP rfl (zst ti122 rfl rfl rfl hB6 (by simp)) ?_
   rintro w7 ⟨hB7, hk7⟩
   have h7 : DcS w7 b4 b5 b6 s false := ⟨hk7.blk (hx6.blk hB45) (by omega), hk7.blk (hx6.blk hB5') (by omega), hB7, n45, by omega, by omega⟩
   have hx07 : Ext w1 w7 := (hx05.trans hx6).trans_new hk7 (fun i hi => by omega)
   have hx17 : b2 < b4 ∧ b2 < b5 ∧ b2 < b6 := by have := hB2.lt; omega
   obtain ⟨t1, r1, c1, e1⟩ := tx_ex 1 s false
   refine rEnd ?_; refine run_seq ?_; refine run_reg rfl ?_; refine qV (ymf (first := []) (caps := [.tmp 6]) rfl rfl) ?_; refine qV (yas rfl) ?_; refine rEnd ?_; refine run_seq ?_; refine run_reg rfl ?_; refine qV (ymv rfl) ?_; refine rCall rfl rfl (ycv' (args := [.const (Value.int .i64 1)]) cf82 rfl rfl) (number_ret h7 1 (by omega) (by omega) e1) ?_
   rintro _ w8 ⟨rfl, h8, hk8⟩
   have hx08 : Ext w1 w8 := hx07.trans_new hk8 (fun i hi => by omega)
   refine qV (yas rfl) ?_; refine rEnd ?_; refine run_seq ?_; refine run_reg rfl ?_; refine qV (ymv rfl) ?_; refine qV (yeq rfl rfl) ?_; refine qV (ybd (parts := [(0, .tmp 26)]) (cs := [_, _, _, _]) ti84 rfl sp84 rfl rfl) ?_
   obtain ⟨lf, hlf⟩ : ∃ lf, decide (((valB t1 : Nat) : Int) = 1) = lf := ⟨_, rfl⟩
   rw [hlf]
   refine rValP rfl rfl (pal (cs := [_, _, _, _]) ti84 rfl) ?_
   rintro _ w9 ⟨b9, rfl, hb9, hx9, hB9⟩
   refine rEffP rfl (zstA ti84 rfl rfl rfl rfl hB9 (by simp)) ?_
   rintro w10 ⟨hB10, hk10⟩
   replace hB10 : Blk w10 b9 [.bool lf, .slice none 0 0, .slice none 0 0, .slice none 0 0] 84 := hB10
   have hz8 := hx08.size
   have hl8 := h8.f.lt
   have hl84 := h8.r.lt
   have hl85 := h8.b.lt
   have h10 : DcS w10 b4 b5 b6 r1 c1 := (h8.ext hx9).kp hk10 (by omega) (by omega) (by omega)
   have hx010 : Ext w1 w10 := (hx08.trans hx9).trans_new hk10 (fun i hi => by omega)
   have hz10 : w9.heap.size ≤ w10.heap.size := hk10.size
   have hz9 := hx9.size
   have hN10 : DcN w1 w10 b4 b5 b6 b9 lf [] [] [] (.slice none 0 0) (.slice none 0 0) (.slice none 0 0) := ⟨hB10, Sl.nil _ _ _, Sl.nil _ _ _, Sl.nil _ _ _, fun g hg => by simp [Value.ownBlock] at hg, fun g hg => by simp [Value.ownBlock] at hg, fun g hg => by simp [Value.ownBlock] at hg, ⟨by omega, by omega, by omega, by omega⟩, by omega⟩
   have hl1 := tx_le e1
   obtain ⟨t2, r2, c2, e2⟩ := tx_ex 2 r1 c1
   obtain ⟨t3, r3, c3, e3⟩ := tx_ex 4 r2 c2
   have hl2 := tx_le e2
   have hl3 := tx_le e3
   obtain ⟨hLt, hLf⟩ := lg_init hz e1 e2 e3
   refine rEnd ?_; refine run_seq ?_; refine run_reg rfl ?_; refine qV (ymv rfl) ?_; refine rCall rfl rfl (ycv' (args := [.const (Value.int .i64 2)]) cf82 rfl rfl) (number_ret h10 2 (by omega) (by omega) e2) ?_
   rintro _ w11 ⟨rfl, h11, hk11⟩
   have hN11 := hN10.kp hk11 (fun g e => e)
   have hx011 : Ext w1 w11 := hx010.trans_new hk11 (fun i hi => by omega)
   have hB11 := hN11.blk
   have hcv : valB t2 < 65536 := Nat.lt_of_lt_of_le (valB_lt t2) (by
    have : 256 ^ t2.length ≤ 256 ^ 2 := Nat.pow_le_pow_right (by omega) hl2.1
    omega)
   have hml : maxLen = 9223372036854775807 := rfl
   refine qV (yas rfl) ?_; refine rEnd ?_; refine run_seq ?_; refine run_seq ?_; refine run_reg rfl ?_; refine qV (yfa fl84_0 rfl) ?_; refine qV (yld U4 rfl rfl hB11 rfl) ?_; refine qV ((by first | exact yntd rfl | exact ynt rfl)) ?_; refine rEnd ?_; refine Run.qb (e := [(0, _), (2, _), (3, _), (5, _), (6, _), (7, _), (9, _), (10, _), (32, _)]) ?_
   refine run_cut (fun e' w' => ∃ cs cv r bad, e' = [(0, S s), (2, ptr b2 0), (3, I 0), (5, ptr b5 0), (6, ptr b6 0), (7, .func (.func 82) #[] #[ptr b6 0]), (9, ptr b9 0), (10, I ((valB t2 : Nat) : Int))] ∧ DcN w1 w' b4 b5 b6 b9 lf [] [] cs (.slice none 0 0) (.slice none 0 0) cv ∧ DcS w' b4 b5 b6 r bad ∧ Lg s.length s lf [] [] cs (valB t2) r bad ∧ Ext w1 w' ∧ (∀ c ∈ cs, c < 4294967296) ∧ cs.length ≤ 1 ∧ r.length ≤ s.length) ?hk (fun hk => ?hmain)
   case hk =>
    rintro e' w12 ⟨cs0, cv0, r0, bad0, rfl, hN0, hS0, hL0, hx0, hcb0, hcl0, hrl0⟩
    refine run_seq ?_; refine run_block ?_; refine run_cut2 (fun e' w' => ∃ c ks vs cs kv vv cv r bad, e' = [(0, S s), (2, ptr b2 0), (3, I 0), (5, ptr b5 0), (9, ptr b9 0)] ∧ DcN w1 w' b4 b5 b6 b9 lf ks vs cs kv vv cv ∧ DcS w' b4 b5 b6 r bad ∧ Lg s.length s lf ks vs cs c r bad ∧ (c = 0 ∨ bad = true) ∧ Ext w1 w' ∧ Nd.Bd ⟨lf, ks, vs, cs⟩) ?hkx (fun hkx => ?hmainx)
    case hkx =>
     rintro e' w13 ⟨c, ks, vs, cs, kv, vv, cv, r, bad, rfl, hN, hSt, hL, hend, hx13, hbd⟩
     obtain ⟨ka, kac, hkq, -⟩ := hN.k.rd.shape
     obtain ⟨va, vac, hvq, -⟩ := hN.v.rd.shape
     obtain ⟨ca, cac, hcq, -⟩ := hN.c.rd.shape
     subst hkq
     subst hvq
     subst hcq
     have hBn := hN.blk
     have hR : NdR w13 ⟨lf, ks, vs, cs⟩ (.slice ka ks.length kac) (.slice va vs.length vac) (.slice ca cs.length cac) := ⟨hN.k.rd, hN.v.rd, hN.c.rd⟩
     refine run_seq ?_; refine run_reg rfl ?_; refine qV (yldA U84 rfl ti84 rfl (Blk.cells (n := 4) hBn (news := [_, _, _, _]) rfl) rfl) ?_; refine qV (ymv rfl) ?_; refine qV (ylnS U9 rfl) ?_; refine rCall rfl rfl (yc (args := [.tmp 82, .tmp 84]) cf83 rfl) (encode_ret (n := ⟨lf, ks, vs, cs⟩) hR hbd hz) ?_
     rintro vE w14 ⟨hx14, hres⟩
     have hx014 := hx13.trans hx14
     have hBn14 := hx14.blk hBn
     have hBb14 := hx14.blk hSt.b
     have hN14 := hN.ext hx14
     obtain ⟨tE, eE, rfl, hEo⟩ : ∃ tE eE, vE = .tuple #[S tE, I eE] ∧ ((NdOk s.length ⟨lf, ks, vs, cs⟩ ∧ tE = enc s.length ⟨lf, ks, vs, cs⟩ ∧ eE = 0) ∨ (¬ NdOk s.length ⟨lf, ks, vs, cs⟩ ∧ eE = 1)) := by
      rcases hres with ⟨h, rfl⟩ | ⟨h, rfl⟩
      ·exact ⟨_, _, rfl, .inl ⟨h, rfl, rfl⟩⟩
      ·exact ⟨_, _, rfl, .inr ⟨h, rfl⟩⟩
     have hno : (bad = true ∨ eE ≠ 0 ∨ tE ≠ s) → dec s = none := fun h => by
      cases e : dec s with
      | none => rfl
      | some n =>
        obtain ⟨g1, g2⟩ := lg_end rfl hL hend e
        obtain ⟨-, g3, g4⟩ := dec_some.1 e
        subst g2
        rcases hEo with ⟨h1, h2, h3⟩ | ⟨h1, -⟩
        ·rcases h with h | h | h
         ·rw [g1] at h; cases h
         ·exact absurd h3 h
         ·rw [h2] at h; exact absurd g4 h
        ·exact absurd g3.ok h1
     refine qV (ymv rfl) ?_; refine qV (yex rfl rfl) ?_; refine qV (yex rfl rfl) ?_; refine qV (yas rfl) ?_; refine qV (yas rfl) ?_; refine rEnd ?_; refine run_seq ?_; refine run_seq ?_; refine run_cut (fun e' w' => ∃ q : Bool, e' = [(2, ptr b2 0), (9, ptr b9 0), (3, I 0), (97, .bool q)] ∧ w' = w14 ∧ (q = true → dec s = none) ∧ (q = false → bad = false ∧ eE = 0 ∧ tE = s)) ?hky (fun hky => ?hmainy)
     case hky =>
      rintro e' w15 ⟨q, rfl, rfl, hq1, hq2⟩
      have hB2x := hx014.blk hB2
      refine run_cond rfl (fun hq => ?_) (fun hq => ?_)
      ·skip
       refine run_seq ?_; refine run_reg rfl ?_; refine qV (ybd (parts := []) (cs := [_, _, _, _]) ti84 rfl sp84 rfl rfl) ?_; refine rEffP rfl (zstA ti84 rfl rfl rfl rfl hB2x (by simp)) ?_
       rintro w16 ⟨hB16, hk16⟩
       refine qV (yas rfl) ?_; refine rEnd ?_; refine run_retR Tryz.func51 (.cell U84 rfl ti84 rfl (Blk.cells (n := 4) hB16 (news := [_, _, _, _]) rfl) rfl (.tmp rfl .nil)) ?_
       exact ⟨_, rfl, (hx1.trans hx014).trans_new hk16 (fun i hi => by omega), .inr ⟨hq1 hq, rfl⟩⟩
      ·skip
       obtain ⟨g1, g2, g3⟩ := hq2 hq
       refine run_skip ?_; refine run_seq ?_; refine run_reg rfl ?_; refine qV (yldA U84 rfl ti84 rfl (Blk.cells (n := 4) hBn14 (news := [_, _, _, _]) rfl) rfl) ?_; refine rEffP rfl (zstA ti84 rfl rfl rfl rfl hB2x (by simp)) ?_
       rintro w16 ⟨hB16, hk16⟩
       refine qV (yas rfl) ?_; refine rEnd ?_; refine run_retR Tryz.func51 (.cell U84 rfl ti84 rfl (Blk.cells (n := 4) hB16 (news := [_, _, _, _]) rfl) rfl (.tmp rfl .nil)) ?_
       have hdec : dec s = some ⟨lf, ks, vs, cs⟩ := by
        rcases hEo with ⟨h1, h2, h3⟩ | ⟨h1, h3⟩
        ·exact dec_some.2 ⟨hz, ⟨h1, hbd.cs⟩, by rw [← h2]; exact g3⟩
        ·omega
       have hlo : ∀ g, (Value.slice ka ks.length kac).ownBlock = some g ∨ (Value.slice va vs.length vac).ownBlock = some g ∨ (Value.slice ca cs.length cac).ownBlock = some g → w.heap.size ≤ g ∧ g ≠ b2 := fun g hg => by
        have := hN.low g hg
        have := hB2.lt
        omega
       refine ⟨_, rfl, (hx1.trans hx014).trans_new hk16 (fun i hi => by omega), .inl ⟨_, _, _, _, hdec, rfl, ⟨hN14.k.kp hk16 (fun g hg => (hlo g (.inl hg)).2), hN14.v.kp hk16 (fun g hg => (hlo g (.inr (.inl hg))).2), hN14.c.kp hk16 (fun g hg => (hlo g (.inr (.inr hg))).2), hbd, hN.d2, hN.d3⟩, fun g hg => (hlo g hg).1⟩⟩
     case hmainy =>
      refine run_reg rfl ?_; refine qV (yld U4 rfl rfl hBb14 rfl) ?_; refine qV (ymv rfl) ?_; refine rVal_bool (fun hb1 => ?_) (fun hb1 => ?_)
      ·skip
       refine qS ?_; refine qS ?_; refine qV (ypT rfl rfl) ?_; refine qV (ymv rfl) ?_; refine qS ?_; refine qS ?_; refine qS ?_; refine qV (ypT rfl rfl) ?_; refine rEnd ?_
       exact (hky _ _ ⟨true, rfl, rfl, fun _ => hno (.inl hb1), fun h => Bool.noConfusion h⟩).qb
      ·skip
       refine qV (ymv rfl) ?_; refine qV (yne rfl rfl) ?_; refine rVal_if (fun hb2' => ?_) (fun hb2' => ?_)
       ·skip
        refine qV (ypF rfl rfl) ?_; refine qV (ymv rfl) ?_; refine qS ?_; refine qS ?_; refine qS ?_; refine qV (ypT rfl rfl) ?_; refine rEnd ?_
        exact (hky _ _ ⟨true, rfl, rfl, fun _ => hno (.inr (.inl hb2')), fun h => Bool.noConfusion h⟩).qb
       ·skip
        refine qV (ypF rfl rfl) ?_; refine qV (ymv rfl) ?_; refine qV (ymv rfl) ?_; refine qV (ymv rfl) ?_; refine qV (yneS rfl rfl) ?_; refine qV (ypF rfl rfl) ?_; refine rEnd ?_; refine (hky _ _ ⟨_, rfl, rfl, ?_, ?_⟩).qb
        ·intro h; exact hno (.inr (.inr (by simpa using h)))
        ·intro h; exact ⟨hb1, by omega, by simpa using h⟩
    case hmainx =>
     refine run_loop (α := Nat) (valB t2) (fun c => [(0, S s), (2, ptr b2 0), (3, I 0), (5, ptr b5 0), (6, ptr b6 0), (7, .func (.func 82) #[] #[ptr b6 0]), (9, ptr b9 0), (10, I (c : Int))]) (fun c w' => c < 65536 ∧ ∃ ks vs cs kv vv cv r bad, DcN w1 w' b4 b5 b6 b9 lf ks vs cs kv vv cv ∧ DcS w' b4 b5 b6 r bad ∧ Lg s.length s lf ks vs cs c r bad ∧ Ext w1 w' ∧ (∀ c ∈ cs, c < 4294967296) ∧ (∀ k ∈ ks, k.length ≤ 4096) ∧ (∀ k ∈ vs, k.length ≤ 4096) ∧ ks.length + c < 65536 ∧ vs.length ≤ ks.length ∧ cs.length ≤ ks.length + 1 ∧ r.length ≤ s.length) (fun c => c) (by repeat (first | exact Sub.nil | refine Sub.cons rfl ?_)) ?hI ?hround
     case hI => exact ⟨hcv, [], [], cs0, _, _, cv0, r0, bad0, hN0, hS0, hL0, hx0, hcb0, by simp, by simp, by simpa using hcv, by simp, by simpa using hcl0, hrl0⟩
     case hround =>
      rintro c wi ⟨hc, ks, vs, cs, kv, vv, cv, r, bad, hN, hSt, hL, hxwi, hcb, hkb, hvb, hkl, hvl, hcl, hrl⟩ ih
      have hbdd : Nd.Bd ⟨lf, ks, vs, cs⟩ := ⟨by dsimp only; omega, by dsimp only; omega, by dsimp only; omega, fun k hk => by have := hkb k hk; omega, fun k hk => by have := hvb k hk; omega, hcb⟩
      have hBb := hSt.b
      have hBn := hN.blk
      have hzi := hxwi.size
      try dsimp only
      refine run_seq ?_; refine run_seq ?_; refine run_reg rfl ?_; refine qV (ymv rfl) ?_; refine qV (ygt rfl rfl) ?_; refine qV (ymv rfl) ?_; refine rVal_if (fun hc0 => ?_) (fun hc0 => ?_)
      ·skip
       obtain ⟨c, rfl⟩ : ∃ c', c = c' + 1 := ⟨c - 1, by omega⟩
       refine qV ((by first | exact yld U4 rfl rfl hBb rfl | exact yld U4 rfl rfl hBn rfl)) ?_; refine qV ((by first | exact yntd rfl | exact ynt rfl)) ?_; refine qV (ypT rfl rfl) ?_; refine rEnd ?_; refine run_cond rfl (fun hbd => ?_) (fun hbd => ?_)
       ·skip
        have hbf : bad = false := by simpa using hbd
        subst hbf
        obtain ⟨ta, ra, ca, ea⟩ := tx_ex 1 r false
        have hta := tx_le ea
        have hva : valB ta < 65536 := Nat.lt_of_lt_of_le (valB_lt ta) (by
         have : 256 ^ ta.length ≤ 256 ^ 1 := Nat.pow_le_pow_right (by omega) hta.1
         omega)
        refine run_skip ?_; refine run_seq ?_; refine run_block ?_; refine run_seq ?_; refine run_reg rfl ?_; refine qV (ymv rfl) ?_; refine rCall rfl rfl (ycv' (args := [.const (Value.int .i64 1)]) cf82 rfl rfl) (number_ret hSt 1 (by omega) (by omega) ea) ?_
        rintro _ w20 ⟨rfl, hS20, hk20⟩
        have hN20 := hN.kp hk20 (fun g e => e)
        have hxw20 : Ext w1 w20 := hxwi.trans_new hk20 (fun i hi => by omega)
        have hz20 := hxw20.size
        have hBn20 := hN20.blk
        refine qV (yas rfl) ?_; refine qV (yas rfl) ?_; refine rEnd ?_; refine run_seq ?_; refine run_seq ?_; refine run_reg rfl ?_; refine qV (yfa fl84_0 rfl) ?_; refine qV (yld U4 rfl rfl hBn20 rfl) ?_
        cases lf with
        | true =>
          refine rEnd ?_; refine run_true rfl ?_; refine run_reg rfl ?_; refine qV (ymv rfl) ?_
          obtain ⟨tb, rb, cb, eb⟩ := tx_ex 2 ra ca
          have htb := tx_le eb
          have hvb' : valB tb < 65536 := Nat.lt_of_lt_of_le (valB_lt tb) (by
           have : 256 ^ tb.length ≤ 256 ^ 2 := Nat.pow_le_pow_right (by omega) htb.1
           omega)
          obtain ⟨tc, rc, cc, ec⟩ := tx_ex (valB ta) rb cb
          have htc := tx_le ec
          obtain ⟨td, rd, cd, ed⟩ := tx_ex (valB tb) rc cc
          have htd := tx_le ed
          refine rCall rfl rfl (ycv' (args := [.const (Value.int .i64 2)]) cf82 rfl rfl) (number_ret hS20 2 (by omega) (by omega) eb) ?_
          rintro _ w21 ⟨rfl, hS21, hk21⟩
          have hN21 := hN20.kp hk21 (fun g e => e)
          have hxw21 : Ext w1 w21 := hxw20.trans_new hk21 (fun i hi => by omega)
          have hz21 := hxw21.size
          refine qV (yas rfl) ?_; refine rEnd ?_; refine run_seq ?_
          have hgg30 : Ext w21 w21.drew := Ext.drew0 w21
          have hgk30 : Kp (fun k => k = b4 ∨ k = b5) w21 w21.drew := hgg30.kp
          have hBn30 := hN21.blk
          have hBf30 := hS21.f
          have hq930 : ¬ (b9 = b4 ∨ b9 = b5) := fun e => e.elim hN21.n9.2.1 hN21.n9.2.2.1
          have hq630 : ¬ (b6 = b4 ∨ b6 = b5) := fun e => e.elim hS21.n2.1 hS21.n2.2
          refine run_drawL [6,8] (fun w' => Kp (fun k => k = b4 ∨ k = b5) w21 w') (by kernel_rfl) rfl ?_; refine qL [1, 6, 7, 8] 0 rfl (fun _ hS => yfa fl84_1 rfl) (hgk30) ?_; refine qL [6, 7, 8] 1 rfl (fun _ hS => (by first | exact yld U23 rfl rfl (hS.blk hBn30 hq930) rfl | exact yld U23 rfl rfl (hS.blk hBf30 hq630) rfl)) (hgk30) ?_; refine qL [4, 5, 6, 7, 8] 2 rfl (fun _ hS => (by first | exact yld U122 rfl rfl (hS.blk hBn30 hq930) rfl | exact yld U122 rfl rfl (hS.blk hBf30 hq630) rfl)) (hgk30) ?_; refine qL [4, 5, 6, 7, 8] 3 rfl (fun _ hS => ymv rfl) (hgk30) ?_
          refine hOneL (i := 4) (by kernel_rfl) ?_; refine nCallL (i := 4) rfl rfl rfl (ycv' (args := [.tmp 58]) cf81 rfl rfl) (text_ret (hS21.ext hgg30) (valB ta) (by omega) (by omega) ec) ?_
          rintro _ w30 ⟨rfl, hS30, hk30⟩
          refine ⟨hgk30.trans hk30, ?_⟩
          have hN30 := (hN21.ext hgg30).kp hk30 (fun g e => e)
          refine hOneL (i := 5) (by kernel_rfl) ?_; refine nValPL (i := 5) rfl rfl rfl (pbs (parts := [(0, .tmp 59)]) (cs := [_]) (zs := [Value.string ⟨#[]⟩]) U23 ti9 rfl (by kernel_rfl) rfl rfl rfl (by decide)) ?_
          rintro _ w31 ⟨bq30, rfl, ⟨hbq30, hxq30, hBq30⟩, hSq30⟩
          refine ⟨(hgk30.trans hk30).trans hxq30.kp, ?_⟩
          refine hLate [6] (by kernel_rfl) (by kernel_rfl) ?_; refine qO 6 ?_; refine nValP (i := 6) rfl rfl rfl (pap U23 ti9 rfl (by decide) rfl rfl (hN30.k.ext hxq30) hSq30.rd (by intro c hc; simp at hc; subst hc; rfl) (by omega) (by omega)) ?_
          rintro u30 w32 ⟨hSu30, hku30, hou30, -⟩
          refine ⟨trivial, ?_⟩
          have hBu30 := hku30.blk (hxq30.blk hN30.blk) (fun e => (hN30.low _ (.inl e)).2.2.2.2 rfl)
          refine qT 7 rfl (fun _ hS => yfa fl84_1 rfl) (trivial) ?_; refine qO 8 ?_; refine nEffP (i := 8) rfl rfl (zst ti23 rfl rfl (oneV_sl hSu30) hBu30 (by simp)) ?_
          rintro w33 ⟨hBz30, hkz30⟩
          refine ⟨trivial, ?_⟩
          have hzz30 : w1.heap.size ≤ w30.heap.size := by have := hgg30.size; have := hk30.size; omega
          obtain ⟨hNz30, hkk30⟩ := DcN.pushK hzz30 hN30 hxq30 (by rw [List.length_append, List.map_append]; exact hSu30) hku30 hou30 hBz30 hkz30
          have hSz30 := hS30.kp hkk30 (fun e => e.elim (fun e => hN30.n9.2.1 e.symm) (fun e => (hN30.low _ (.inl e)).2.1 rfl)) (fun e => e.elim (fun e => hN30.n9.2.2.1 e.symm) (fun e => (hN30.low _ (.inl e)).2.2.1 rfl)) (fun e => e.elim (fun e => hN30.n9.2.2.2 e.symm) (fun e => (hN30.low _ (.inl e)).2.2.2.1 rfl))
          have hxz30 : Ext w1 w33 := ((hxw21.trans hgg30).trans_new hk30 (fun i hi => by omega)).trans_new hkk30 (fun i hi => hi.elim (fun e => by have := hN30.n9.1; omega) (fun e => (hN30.low i (.inl e)).1))

          have hz33 := hxz30.size
          have hBn33 := hNz30.blk
          refine qE ?_; refine run_seq ?_; refine run_reg rfl ?_; refine qV (yfa fl84_0 rfl) ?_; refine qV (yld U4 rfl rfl hBn33 rfl) ?_; refine rEnd ?_; refine run_true rfl ?_
          have hxw33 := hxz30
          have hgg40 : Ext w33 w33.drew := Ext.drew0 w33
          have hgk40 : Kp (fun k => k = b4 ∨ k = b5) w33 w33.drew := hgg40.kp
          have hBn40 := hNz30.blk
          have hBf40 := hSz30.f
          have hq940 : ¬ (b9 = b4 ∨ b9 = b5) := fun e => e.elim hNz30.n9.2.1 hNz30.n9.2.2.1
          have hq640 : ¬ (b6 = b4 ∨ b6 = b5) := fun e => e.elim hSz30.n2.1 hSz30.n2.2
          refine run_drawL [6,8] (fun w' => Kp (fun k => k = b4 ∨ k = b5) w33 w') (by kernel_rfl) rfl ?_; refine qL [1, 6, 7, 8] 0 rfl (fun _ hS => yfa fl84_2 rfl) (hgk40) ?_; refine qL [6, 7, 8] 1 rfl (fun _ hS => (by first | exact yld U23 rfl rfl (hS.blk hBn40 hq940) rfl | exact yld U23 rfl rfl (hS.blk hBf40 hq640) rfl)) (hgk40) ?_; refine qL [4, 5, 6, 7, 8] 2 rfl (fun _ hS => (by first | exact yld U122 rfl rfl (hS.blk hBn40 hq940) rfl | exact yld U122 rfl rfl (hS.blk hBf40 hq640) rfl)) (hgk40) ?_; refine qL [4, 5, 6, 7, 8] 3 rfl (fun _ hS => ymv rfl) (hgk40) ?_
          refine hOneL (i := 4) (by kernel_rfl) ?_; refine nCallL (i := 4) rfl rfl rfl (ycv' (args := [.tmp 68]) cf81 rfl rfl) (text_ret (hSz30.ext hgg40) (valB tb) (by omega) (by omega) ed) ?_
          rintro _ w40 ⟨rfl, hS40, hk40⟩
          refine ⟨hgk40.trans hk40, ?_⟩
          have hN40 := (hNz30.ext hgg40).kp hk40 (fun g e => e)
          refine hOneL (i := 5) (by kernel_rfl) ?_; refine nValPL (i := 5) rfl rfl rfl (pbs (parts := [(0, .tmp 69)]) (cs := [_]) (zs := [Value.string ⟨#[]⟩]) U23 ti9 rfl (by kernel_rfl) rfl rfl rfl (by decide)) ?_
          rintro _ w41 ⟨bq40, rfl, ⟨hbq40, hxq40, hBq40⟩, hSq40⟩
          refine ⟨(hgk40.trans hk40).trans hxq40.kp, ?_⟩
          refine hLate [6] (by kernel_rfl) (by kernel_rfl) ?_; refine qO 6 ?_; refine nValP (i := 6) rfl rfl rfl (pap U23 ti9 rfl (by decide) rfl rfl (hN40.v.ext hxq40) hSq40.rd (by intro c hc; simp at hc; subst hc; rfl) (by omega) (by omega)) ?_
          rintro u40 w42 ⟨hSu40, hku40, hou40, -⟩
          refine ⟨trivial, ?_⟩
          have hBu40 := hku40.blk (hxq40.blk hN40.blk) (fun e => (hN40.low _ (.inr (.inl e))).2.2.2.2 rfl)
          refine qT 7 rfl (fun _ hS => yfa fl84_2 rfl) (trivial) ?_; refine qO 8 ?_; refine nEffP (i := 8) rfl rfl (zst ti23 rfl rfl (oneV_sl hSu40) hBu40 (by simp)) ?_
          rintro w43 ⟨hBz40, hkz40⟩
          refine ⟨trivial, ?_⟩
          have hzz40 : w1.heap.size ≤ w40.heap.size := by have := hgg40.size; have := hk40.size; omega
          obtain ⟨hNz40, hkk40⟩ := DcN.pushV hzz40 hN40 hxq40 (by rw [List.length_append, List.map_append]; exact hSu40) hku40 hou40 hBz40 hkz40
          have hSz40 := hS40.kp hkk40 (fun e => e.elim (fun e => hN40.n9.2.1 e.symm) (fun e => (hN40.low _ (.inr (.inl e))).2.1 rfl)) (fun e => e.elim (fun e => hN40.n9.2.2.1 e.symm) (fun e => (hN40.low _ (.inr (.inl e))).2.2.1 rfl)) (fun e => e.elim (fun e => hN40.n9.2.2.2 e.symm) (fun e => (hN40.low _ (.inr (.inl e))).2.2.2.1 rfl))
          have hxz40 : Ext w1 w43 := ((hxw33.trans hgg40).trans_new hk40 (fun i hi => by omega)).trans_new hkk40 (fun i hi => hi.elim (fun e => by have := hN40.n9.1; omega) (fun e => (hN40.low i (.inr (.inl e))).1))

          refine qE ?_; refine run_inBlock ?_; refine run_reg rfl ?_; refine qV (ymv rfl) ?_; refine qV (ysb rfl rfl (by omega)) ?_; refine qV (yas rfl) ?_; refine rEnd ?_
          rw [show (((c + 1 : Nat) : Int) - 1) = (c : Int) by omega]
          refine (ih c w43 ⟨by omega, _, _, _, _, _, _, _, _, hNz40, hSz40, lg_leaf hz hL ea eb ec ed, hxz40, hcb, fun k hk => ?_, fun k hk => ?_, ?_, ?_, ?_, by omega⟩ (by omega)).qb
          ·rcases List.mem_append.1 hk with hk | hk
           ·exact hkb k hk
           ·simp at hk; subst hk; omega
          ·rcases List.mem_append.1 hk with hk | hk
           ·exact hvb k hk
           ·simp at hk; subst hk; omega
          ·simp; omega
          ·simp; omega
          ·simp; omega
        | false =>
          obtain ⟨tb, rb, cb, eb⟩ := tx_ex (valB ta) ra ca
          have htb := tx_le eb
          obtain ⟨tc, rc, cc, ec⟩ := tx_ex 4 rb cb
          have htc := tx_le ec
          have hvc : valB tc < 4294967296 := Nat.lt_of_lt_of_le (valB_lt tc) (by
           have : 256 ^ tc.length ≤ 256 ^ 4 := Nat.pow_le_pow_right (by omega) htc.1
           omega)
          refine rEnd ?_; refine run_false rfl ?_; refine run_skip ?_; refine run_seq ?_
          have hgg50 : Ext w20 w20.drew := Ext.drew0 w20
          have hgk50 : Kp (fun k => k = b4 ∨ k = b5) w20 w20.drew := hgg50.kp
          have hBn50 := hN20.blk
          have hBf50 := hS20.f
          have hq950 : ¬ (b9 = b4 ∨ b9 = b5) := fun e => e.elim hN20.n9.2.1 hN20.n9.2.2.1
          have hq650 : ¬ (b6 = b4 ∨ b6 = b5) := fun e => e.elim hS20.n2.1 hS20.n2.2
          refine run_drawL [6,8] (fun w' => Kp (fun k => k = b4 ∨ k = b5) w20 w') (by kernel_rfl) rfl ?_; refine qL [1, 6, 7, 8] 0 rfl (fun _ hS => yfa fl84_1 rfl) (hgk50) ?_; refine qL [6, 7, 8] 1 rfl (fun _ hS => (by first | exact yld U23 rfl rfl (hS.blk hBn50 hq950) rfl | exact yld U23 rfl rfl (hS.blk hBf50 hq650) rfl)) (hgk50) ?_; refine qL [4, 5, 6, 7, 8] 2 rfl (fun _ hS => (by first | exact yld U122 rfl rfl (hS.blk hBn50 hq950) rfl | exact yld U122 rfl rfl (hS.blk hBf50 hq650) rfl)) (hgk50) ?_; refine qL [4, 5, 6, 7, 8] 3 rfl (fun _ hS => ymv rfl) (hgk50) ?_
          refine hOneL (i := 4) (by kernel_rfl) ?_; refine nCallL (i := 4) rfl rfl rfl (ycv' (args := [.tmp 58]) cf81 rfl rfl) (text_ret (hS20.ext hgg50) (valB ta) (by omega) (by omega) eb) ?_
          rintro _ w50 ⟨rfl, hS50, hk50⟩
          refine ⟨hgk50.trans hk50, ?_⟩
          have hN50 := (hN20.ext hgg50).kp hk50 (fun g e => e)
          refine hOneL (i := 5) (by kernel_rfl) ?_; refine nValPL (i := 5) rfl rfl rfl (pbs (parts := [(0, .tmp 59)]) (cs := [_]) (zs := [Value.string ⟨#[]⟩]) U23 ti9 rfl (by kernel_rfl) rfl rfl rfl (by decide)) ?_
          rintro _ w51 ⟨bq50, rfl, ⟨hbq50, hxq50, hBq50⟩, hSq50⟩
          refine ⟨(hgk50.trans hk50).trans hxq50.kp, ?_⟩
          refine hLate [6] (by kernel_rfl) (by kernel_rfl) ?_; refine qO 6 ?_; refine nValP (i := 6) rfl rfl rfl (pap U23 ti9 rfl (by decide) rfl rfl (hN50.k.ext hxq50) hSq50.rd (by intro c hc; simp at hc; subst hc; rfl) (by omega) (by omega)) ?_
          rintro u50 w52 ⟨hSu50, hku50, hou50, -⟩
          refine ⟨trivial, ?_⟩
          have hBu50 := hku50.blk (hxq50.blk hN50.blk) (fun e => (hN50.low _ (.inl e)).2.2.2.2 rfl)
          refine qT 7 rfl (fun _ hS => yfa fl84_1 rfl) (trivial) ?_; refine qO 8 ?_; refine nEffP (i := 8) rfl rfl (zst ti23 rfl rfl (oneV_sl hSu50) hBu50 (by simp)) ?_
          rintro w53 ⟨hBz50, hkz50⟩
          refine ⟨trivial, ?_⟩
          have hzz50 : w1.heap.size ≤ w50.heap.size := by have := hgg50.size; have := hk50.size; omega
          obtain ⟨hNz50, hkk50⟩ := DcN.pushK hzz50 hN50 hxq50 (by rw [List.length_append, List.map_append]; exact hSu50) hku50 hou50 hBz50 hkz50
          have hSz50 := hS50.kp hkk50 (fun e => e.elim (fun e => hN50.n9.2.1 e.symm) (fun e => (hN50.low _ (.inl e)).2.1 rfl)) (fun e => e.elim (fun e => hN50.n9.2.2.1 e.symm) (fun e => (hN50.low _ (.inl e)).2.2.1 rfl)) (fun e => e.elim (fun e => hN50.n9.2.2.2 e.symm) (fun e => (hN50.low _ (.inl e)).2.2.2.1 rfl))
          have hxz50 : Ext w1 w53 := ((hxw20.trans hgg50).trans_new hk50 (fun i hi => by omega)).trans_new hkk50 (fun i hi => hi.elim (fun e => by have := hN50.n9.1; omega) (fun e => (hN50.low i (.inl e)).1))

          have hz53 := hxz50.size
          have hBn53 := hNz50.blk
          refine qE ?_; refine run_seq ?_; refine run_reg rfl ?_; refine qV (yfa fl84_0 rfl) ?_; refine qV (yld U4 rfl rfl hBn53 rfl) ?_; refine rEnd ?_; refine run_false rfl ?_
          have hxw53 := hxz50
          have hgg60 : Ext w53 w53.drew := Ext.drew0 w53
          have hgk60 : Kp (fun k => k = b4 ∨ k = b5) w53 w53.drew := hgg60.kp
          have hBn60 := hNz50.blk
          have hBf60 := hSz50.f
          have hq960 : ¬ (b9 = b4 ∨ b9 = b5) := fun e => e.elim hNz50.n9.2.1 hNz50.n9.2.2.1
          have hq660 : ¬ (b6 = b4 ∨ b6 = b5) := fun e => e.elim hSz50.n2.1 hSz50.n2.2
          refine run_drawL [6,8] (fun w' => Kp (fun k => k = b4 ∨ k = b5) w53 w') (by kernel_rfl) rfl ?_; refine qL [1, 6, 7, 8] 0 rfl (fun _ hS => yfa fl84_3 rfl) (hgk60) ?_; refine qL [6, 7, 8] 1 rfl (fun _ hS => (by first | exact yld U82 rfl rfl (hS.blk hBn60 hq960) rfl | exact yld U82 rfl rfl (hS.blk hBf60 hq660) rfl)) (hgk60) ?_; refine qL [3, 4, 5, 6, 7, 8] 2 rfl (fun _ hS => ymv rfl) (hgk60) ?_; refine hOneL (i := 3) (by kernel_rfl) ?_
          refine nCallL (i := 3) rfl rfl rfl (ycv' (args := [.const (Value.int .i64 4)]) cf82 rfl rfl) (number_ret (hSz50.ext hgg60) 4 (by omega) (by omega) ec) ?_
          rintro _ w60 ⟨rfl, hS60, hk60⟩
          refine ⟨hgk60.trans hk60, ?_⟩
          have hN60 := (hNz50.ext hgg60).kp hk60 (fun g e => e)
          refine qL [5, 6, 7, 8] 4 rfl (fun _ hS => ycv32 rfl U3 U89) (hgk60.trans hk60) ?_
          rw [Nat.mod_eq_of_lt hvc]
          refine hOneL (i := 5) (by kernel_rfl) ?_; refine nValPL (i := 5) rfl rfl rfl (pbs (parts := [(0, .tmp 77)]) (cs := [_]) (zs := [Value.int .u32 0]) U82 ti89 rfl (by kernel_rfl) rfl rfl rfl (by decide)) ?_
          rintro _ w61 ⟨bq60, rfl, ⟨hbq60, hxq60, hBq60⟩, hSq60⟩
          refine ⟨(hgk60.trans hk60).trans hxq60.kp, ?_⟩
          refine hLate [6] (by kernel_rfl) (by kernel_rfl) ?_; refine qO 6 ?_; refine nValP (i := 6) rfl rfl rfl (pap U82 ti89 rfl (by decide) rfl rfl (hN60.c.ext hxq60) hSq60.rd (by intro c hc; simp at hc; subst hc; rfl) (by omega) (by omega)) ?_
          rintro u60 w62 ⟨hSu60, hku60, hou60, -⟩
          refine ⟨trivial, ?_⟩
          have hBu60 := hku60.blk (hxq60.blk hN60.blk) (fun e => (hN60.low _ (.inr (.inr e))).2.2.2.2 rfl)
          refine qT 7 rfl (fun _ hS => yfa fl84_3 rfl) (trivial) ?_; refine qO 8 ?_; refine nEffP (i := 8) rfl rfl (zst ti82 rfl rfl (oneV_sl hSu60) hBu60 (by simp)) ?_
          rintro w63 ⟨hBz60, hkz60⟩
          refine ⟨trivial, ?_⟩
          have hzz60 : w1.heap.size ≤ w60.heap.size := by have := hgg60.size; have := hk60.size; omega
          obtain ⟨hNz60, hkk60⟩ := DcN.pushC hzz60 hN60 hxq60 (by rw [List.length_append, List.map_append]; exact hSu60) hku60 hou60 hBz60 hkz60
          have hSz60 := hS60.kp hkk60 (fun e => e.elim (fun e => hN60.n9.2.1 e.symm) (fun e => (hN60.low _ (.inr (.inr e))).2.1 rfl)) (fun e => e.elim (fun e => hN60.n9.2.2.1 e.symm) (fun e => (hN60.low _ (.inr (.inr e))).2.2.1 rfl)) (fun e => e.elim (fun e => hN60.n9.2.2.2 e.symm) (fun e => (hN60.low _ (.inr (.inr e))).2.2.2.1 rfl))
          have hxz60 : Ext w1 w63 := ((hxw53.trans hgg60).trans_new hk60 (fun i hi => by omega)).trans_new hkk60 (fun i hi => hi.elim (fun e => by have := hN60.n9.1; omega) (fun e => (hN60.low i (.inr (.inr e))).1))

          refine qE ?_; refine run_inBlock ?_; refine run_reg rfl ?_; refine qV (ymv rfl) ?_; refine qV (ysb rfl rfl (by omega)) ?_; refine qV (yas rfl) ?_; refine rEnd ?_
          rw [show (((c + 1 : Nat) : Int) - 1) = (c : Int) by omega]
          refine (ih c w63 ⟨by omega, _, _, _, _, _, _, _, _, hNz60, hSz60, lg_inn hz hL ea eb ec, hxz60, fun k hk => ?_, fun k hk => ?_, hvb, ?_, ?_, ?_, by omega⟩ (by omega)).qb
          ·rcases List.mem_append.1 hk with hk | hk
           ·exact hcb k hk
           ·simp at hk; subst hk; omega
          ·rcases List.mem_append.1 hk with hk | hk
           ·exact hkb k hk
           ·simp at hk; subst hk; omega
          ·simp; omega
          ·simp; omega
          ·simp; omega
       ·skip
        have hbf : bad = true := by simpa using hbd
        refine run_exit rfl ?_
        exact (hkx _ _ ⟨_, _, _, _, _, _, _, _, _, rfl, hN, hSt, hL, .inr hbf, hxwi, hbdd⟩).qb
      ·skip
       have : c = 0 := by omega
       subst this
       refine qS ?_; refine qS ?_; refine qV (ypF rfl rfl) ?_; refine rEnd ?_; refine run_false rfl ?_; refine run_exit rfl ?_
       exact (hkx _ _ ⟨_, _, _, _, _, _, _, _, _, rfl, hN, hSt, hL, .inl rfl, hxwi, hbdd⟩).qb
   case hmain =>
    cases lf with
    | true =>
      have hv1 : valB t1 = 1 := by have := of_decide_eq_true hlf; omega
      refine run_false rfl ?_; refine run_skip ?_
      exact (hk _ _ ⟨[], _, r2, c2, rfl, hN11, h11, hLt hv1, hx011, by simp, by simp, by omega⟩).qb
    | false =>
      have hv1 : valB t1 ≠ 1 := fun e => of_decide_eq_false hlf (by omega)
      refine run_true rfl ?_
      have hvc : valB t3 < 4294967296 := Nat.lt_of_lt_of_le (valB_lt t3) (by
       have : 256 ^ t3.length ≤ 256 ^ 4 := Nat.pow_le_pow_right (by omega) hl3.1
       omega)
      have hz11 := hx011.size
      have hnil : ([] : List Nat).length = 0 := rfl
      have hxw11 := hx011
      have hgg70 : Ext w11 w11.drew := Ext.drew0 w11
      have hgk70 : Kp (fun k => k = b4 ∨ k = b5) w11 w11.drew := hgg70.kp
      have hBn70 := hN11.blk
      have hBf70 := h11.f
      have hq960 : ¬ (b9 = b4 ∨ b9 = b5) := fun e => e.elim hN11.n9.2.1 hN11.n9.2.2.1
      have hq660 : ¬ (b6 = b4 ∨ b6 = b5) := fun e => e.elim h11.n2.1 h11.n2.2
      refine run_drawL [6,8] (fun w' => Kp (fun k => k = b4 ∨ k = b5) w11 w') (by kernel_rfl) rfl ?_; refine qL [1, 6, 7, 8] 0 rfl (fun _ hS => yfa fl84_3 rfl) (hgk70) ?_; refine qL [6, 7, 8] 1 rfl (fun _ hS => (by first | exact yld U82 rfl rfl (hS.blk hBn70 hq960) rfl | exact yld U82 rfl rfl (hS.blk hBf70 hq660) rfl)) (hgk70) ?_; refine qL [3, 4, 5, 6, 7, 8] 2 rfl (fun _ hS => ymv rfl) (hgk70) ?_; refine hOneL (i := 3) (by kernel_rfl) ?_; refine nCallL (i := 3) rfl rfl rfl (ycv' (args := [.const (Value.int .i64 4)]) cf82 rfl rfl) (number_ret (h11.ext hgg70) 4 (by omega) (by omega) e3) ?_
      rintro _ w70 ⟨rfl, hS70, hk70⟩
      refine ⟨hgk70.trans hk70, ?_⟩
      have hN70 := (hN11.ext hgg70).kp hk70 (fun g e => e)
      refine qL [5, 6, 7, 8] 4 rfl (fun _ hS => ycv32 rfl U3 U89) (hgk70.trans hk70) ?_
      rw [Nat.mod_eq_of_lt hvc]
      refine hOneL (i := 5) (by kernel_rfl) ?_; refine nValPL (i := 5) rfl rfl rfl (pbs (parts := [(0, .tmp 37)]) (cs := [_]) (zs := [Value.int .u32 0]) U82 ti89 rfl (by kernel_rfl) rfl rfl rfl (by decide)) ?_
      rintro _ w71 ⟨bq70, rfl, ⟨hbq70, hxq70, hBq70⟩, hSq70⟩
      refine ⟨(hgk70.trans hk70).trans hxq70.kp, ?_⟩
      refine hLate [6] (by kernel_rfl) (by kernel_rfl) ?_; refine qO 6 ?_; refine nValP (i := 6) rfl rfl rfl (pap U82 ti89 rfl (by decide) rfl rfl (hN70.c.ext hxq70) hSq70.rd (by intro c hc; simp at hc; subst hc; rfl) (by omega) (by omega)) ?_
      rintro u70 w72 ⟨hSu70, hku70, hou70, -⟩
      refine ⟨trivial, ?_⟩
      have hBu70 := hku70.blk (hxq70.blk hN70.blk) (fun e => (hN70.low _ (.inr (.inr e))).2.2.2.2 rfl)
      refine qT 7 rfl (fun _ hS => yfa fl84_3 rfl) (trivial) ?_; refine qO 8 ?_; refine nEffP (i := 8) rfl rfl (zst ti82 rfl rfl (oneV_sl hSu70) hBu70 (by simp)) ?_
      rintro w73 ⟨hBz70, hkz70⟩
      refine ⟨trivial, ?_⟩
      have hzz70 : w1.heap.size ≤ w70.heap.size := by have := hgg70.size; have := hk70.size; omega
      obtain ⟨hNz70, hkk70⟩ := DcN.pushC hzz70 hN70 hxq70 (by rw [List.length_append, List.map_append]; exact hSu70) hku70 hou70 hBz70 hkz70
      have hSz70 := hS70.kp hkk70 (fun e => e.elim (fun e => hN70.n9.2.1 e.symm) (fun e => (hN70.low _ (.inr (.inr e))).2.1 rfl)) (fun e => e.elim (fun e => hN70.n9.2.2.1 e.symm) (fun e => (hN70.low _ (.inr (.inr e))).2.2.1 rfl)) (fun e => e.elim (fun e => hN70.n9.2.2.2 e.symm) (fun e => (hN70.low _ (.inr (.inr e))).2.2.2.1 rfl))
      have hxz70 : Ext w1 w73 := ((hxw11.trans hgg70).trans_new hk70 (fun i hi => by omega)).trans_new hkk70 (fun i hi => hi.elim (fun e => by have := hN70.n9.1; omega) (fun e => (hN70.low i (.inr (.inr e))).1))
      refine qE ?_
      exact (hk _ _ ⟨_, _, r3, c3, rfl, hNz70, hSz70, hLf hv1, hxz70, by simpa using hvc, by simp, by omega⟩).qb
 ·skip
  rw [if_neg hz]
  refine qV (yne rfl rfl) ?_; refine rEnd ?_; refine run_if rfl (fun h0 => ?_) (fun h0 => ?_)
  ·skip
   refine run_seq ?_; refine run_reg rfl ?_; refine qV (ybd (parts := []) (cs := [_, _, _, _]) ti84 rfl sp84 rfl rfl) ?_; refine rEffP rfl (zstA ti84 rfl rfl rfl rfl hB2 (by simp)) ?_
   rintro w2 ⟨hB3, hk2⟩
   refine qV (yas rfl) ?_; refine rEnd ?_; refine run_retR Tryz.func51 (.cell U84 rfl ti84 rfl (Blk.cells (n := 4) hB3 (news := [_, _, _, _]) rfl) rfl (.tmp rfl .nil)) ?_
   exact ⟨_, rfl, hx1.trans_new hk2 (fun i hi => by omega), .inr ⟨dec_none.2 (fun n h1 _ _ => hz h1), rfl⟩⟩
  ·exact absurd (by decide) h0
end Go.Proofs.YtocnhaoilnojmaaGreat
namespace Go.Proofs.YtocnhaoilnojmaaGreat
open Go Go.RowKit
set_option linter.all false
set_option maxRecDepth 100000
theorem sub_of_len {a b : List Int} (ha : a.Nodup) (hab : ∀ x ∈ a, x ∈ b) (hl : b.length ≤ a.length) : ∀ x ∈ b, x ∈ a := fun x hx => by
 by_cases h : x ∈ a
 ·exact h
 ·have := List.Nodup.length_le_of_subset (List.nodup_cons.2 ⟨h, ha⟩) (l₂ := b) (fun y hy => by
   rcases List.mem_cons.1 hy with rfl | hy
   ·exact hx
   ·exact hab y hy)
  rw [List.length_cons] at this
  omega
theorem kn_len {T : Tr} {nb : Int → Nat} {kn : List (Int × Value)} {pg : List Int} (hg : ∀ no, getL kn no = (T.nodes no).map fun _ => ptr (nb no) 0) (hnd : (kn.map (·.1)).Nodup) (hpn : pg.Nodup) (hpg : ∀ x, T.nodes x ≠ none ↔ x ∈ pg) : kn.length = pg.length := by
 have : (kn.map (·.1)).Perm pg := (List.perm_ext_iff_of_nodup hnd hpn).2 fun x => by rw [keys_iff hg x, hpg x]
 simpa using this.length_eq
section
variable {w : World} {p : Nat} {T : Tr} {nb : Int → Nat} {F : Nat → Prop}
set_option maxHeartbeats 4000000 in
theorem whole_ret (h : TreeA w p T nb F) (hok : ∀ x n, T.nodes x = some n → NdOk T.size n) {pg : List Int} (hpn : pg.Nodup) (hpg : ∀ x, T.nodes x ≠ none ↔ x ∈ pg) (hpl : pg.length ≤ 1000000) (hcnt : T.count = 0) :
  Ret Tryz.prog 52 [ptr p 0] w fun v w' => Kp F w w' ∧ ((T.root = 0 ∧ v = .bool (decide (pg = [])) ∧ TreeA w' p T nb F) ∨ (T.root ≠ 0 ∧ ((∃ H ns es, Sub1 T.size T.nodes [] true T.root [] none H ns es ∧ ns.length = pg.length ∧ v = .bool true ∧ TreeA w' p { T with count := es.length } nb F) ∨ (v = .bool false ∧ ∀ H ns es, Sub1 T.size T.nodes [] true T.root [] none H ns es → ns.length ≠ pg.length)))) := by
 have hz : sizeOk (T.size : Int) := size_ok h
 obtain ⟨mN, mC, mO, gv, kn, kc, ko, O⟩ := h.opn
 have hlt := h.lt
 have hknl := kn_len O.ng O.nm.nd hpn hpg
 refine ret_of_run (e := [(0, _)]) Tryz.func52 rfl Tryz.ntmps52 rfl rfl ?_; refine run_seq ?_; refine run_reg rfl ?_; refine rValP rfl rfl (pbx rfl rfl) ?_
 rintro _ w1 ⟨bt, rfl, hbt, hx1, hB1⟩
 have hBO1 := hx1.blk O.blk
 have hz1 := hx1.size
 have l1 := hB1.lt
 refine qV (yas rfl) ?_; refine rEnd ?_; refine run_seq ?_; refine run_seq ?_; refine run_reg rfl ?_; refine qV ((by first | exact yld U24 rfl rfl hB1 rfl | exact yld U24 rfl rfl hBO1 rfl)) ?_; refine qV ((by first | exact ync rfl | exact yncf rfl)) ?_; refine qV (yfa fl74_1 rfl) ?_; refine qV ((by first | exact yld U3 rfl rfl hB1 rfl | exact yld U3 rfl rfl hBO1 rfl)) ?_; refine qV (yeq rfl rfl) ?_; refine rEnd ?_; refine run_if rfl (fun hr => ?_) (fun hr => ?_)
 ·skip
  refine run_seq ?_; refine run_reg rfl ?_; refine qV ((by first | exact yld U24 rfl rfl hB1 rfl | exact yld U24 rfl rfl hBO1 rfl)) ?_; refine qV ((by first | exact ync rfl | exact yncf rfl)) ?_; refine qV (yfa fl74_5 rfl) ?_; refine qV ((by first | exact yld U71 rfl rfl hB1 rfl | exact yld U71 rfl rfl hBO1 rfl)) ?_; refine qV (ylenM U71 rfl (O.nm.ext hx1).l) ?_; refine qV (yeq rfl rfl) ?_; refine qV (yas rfl) ?_; refine rEnd ?_; refine run_ret Tryz.func52 rfl ?_; refine ⟨_, rfl, hx1.kp, .inl ⟨hr, ?_, h.ext hx1⟩⟩
  simp only [resVal]
  congr 1
  rw [decide_eq_decide]
  constructor
  ·intro e
   exact List.eq_nil_of_length_eq_zero (by omega)
  ·intro e
   rw [hknl, e]; rfl
 ·skip
  refine run_skip ?_; refine run_seq ?_; refine run_reg rfl ?_; refine rValP rfl rfl (pmm) ?_
  rintro _ w2 ⟨mm, rfl, hmm, hx2, hh2⟩
  have lm : mm < w2.heap.size := (MapB.new (K := KZ) hh2).lt
  refine rValP rfl rfl (pal (cs := [_]) ti72 rfl) ?_
  rintro _ w3 ⟨bm, rfl, hbm, hx3, hB3⟩
  refine rEffP rfl (zst ti72 rfl rfl rfl hB3 (by simp)) ?_
  rintro w4 ⟨hB4, hk4⟩
  refine rEnd ?_; refine run_seq ?_; refine run_reg rfl ?_; refine rValP rfl rfl (pal (cs := [_]) ti126 rfl) ?_
  rintro _ w5 ⟨bw, rfl, hbw, hx5, hB5⟩
  refine rEnd ?_; refine run_seq ?_; refine run_reg rfl ?_; refine qV (ymf (first := []) (caps := [.tmp 1, .tmp 3, .tmp 4]) rfl rfl) ?_; refine rEffP rfl (zst ti126 rfl rfl rfl hB5 (by simp)) ?_
  rintro w6 ⟨hB6, hk6⟩
  have hz2 := hx2.size
  have hz3 := hx3.size
  have hz4 := hk4.size
  have hz5 := hx5.size
  have l3 := hB3.lt
  have l4 := hB4.lt
  have l5 := hB5.lt
  have hp := hlt p O.fp.1
  have hx14 : Ext w1 w4 := ((hx2.trans hx3).trans_new hk4 (fun i hi => by omega))
  have hx16 : Ext w1 w6 := (hx14.trans hx5).trans_new hk6 (fun i hi => by omega)
  have hx06 := hx1.trans hx16
  have hc6 : WhC w6 p bt bm bw mm := ⟨hx16.blk hB1, hk6.blk (hx5.blk hB4) (by omega), hB6, ⟨by omega, by omega, by omega, by omega, by omega, by omega, by omega⟩⟩
  have hm6 : MetM w6 mm [] := ⟨[], ((((MapB.new (K := KZ) hh2).ext hx3).kp hk4 (by omega)).ext hx5).kp hk6 (by omega), rfl, fun x => by simp [getL]⟩
  have h6 := h.ext hx06
  have hBO6 := hx16.blk hBO1
  have hg6 : Ext w6 w6.drew := Ext.drew0 w6
  have hFn : ¬ F bt ∧ ¬ F bm ∧ ¬ F bw ∧ ¬ F mm := ⟨fun e => by have := hlt _ e; omega, fun e => by have := hlt _ e; omega, fun e => by have := hlt _ e; omega, fun e => by have := hlt _ e; omega⟩
  have hBf6 := hc6.f
  have hBt6 := hc6.t
  refine rEnd ?_; refine run_seq ?_; refine run_drawL [6] (fun w' => Ext w6 w') (by kernel_rfl) rfl ?_; refine qL [6, 7, 8, 9, 10, 11, 12, 13, 14, 15, 16, 17, 18] 0 rfl (fun _ hS => (by first | exact yld U126 rfl rfl (hS.blk hBf6) rfl | exact yld U126 rfl rfl (hS.blk hBt6) rfl | exact yld U126 rfl rfl (hS.blk hBO6) rfl)) (hg6) ?_; refine qL [2, 3, 4, 6, 7, 8, 9, 10, 11, 12, 13, 14, 15, 16, 17, 18] 1 rfl (fun _ hS => (by first | exact yld U24 rfl rfl (hS.blk hBf6) rfl | exact yld U24 rfl rfl (hS.blk hBt6) rfl | exact yld U24 rfl rfl (hS.blk hBO6) rfl)) (hg6) ?_
  refine qL [3, 4, 6, 7, 8, 9, 10, 11, 12, 13, 14, 15, 16, 17, 18] 2 rfl (fun _ hS => (by first | exact ync rfl | exact yncf rfl)) (hg6) ?_; refine qL [4, 6, 7, 8, 9, 10, 11, 12, 13, 14, 15, 16, 17, 18] 3 rfl (fun _ hS => yfa fl74_1 rfl) (hg6) ?_; refine qL [6, 7, 8, 9, 10, 11, 12, 13, 14, 15, 16, 17, 18] 4 rfl (fun _ hS => (by first | exact yld U3 rfl rfl (hS.blk hBf6) rfl | exact yld U3 rfl rfl (hS.blk hBt6) rfl | exact yld U3 rfl rfl (hS.blk hBO6) rfl)) (hg6) ?_
  refine qL [6, 7, 8, 9, 10, 11, 12, 13, 14, 15, 16, 17, 18] 5 rfl (fun _ hS => ybd (parts := []) (cs := [_, _, _]) ti128 rfl sp128 rfl rfl) (hg6) ?_; refine hLate [6] (by kernel_rfl) (by kernel_rfl) ?_; refine qO 6 ?_; refine nCall (i := 6) rfl rfl rfl (ycv' (args := [.tmp 22, .tmp 23]) cf84 rfl rfl) (whAt_all p bt bm bw mm pg.length _ T nb F T.root [] none [] [] pg (h6.ext hg6) (hc6.ext hg6) hFn hok (fun x hx => (hpg x).1 hx) hpl (hm6.kp hg6 id) (by simp) (by simp) (by omega) (by simp) (fun u hu => by cases hu) (.inl ⟨rfl, rfl⟩)) ?_
  rintro v7 w7 ⟨hk7, hv7⟩
  refine ⟨trivial, ?_⟩
  have hk67 : Kp (fun k => k = mm ∨ k = p) w6 w7 := hg6.kp.trans hk7
  have hk07 : Kp F w w7 := hx06.kp.trans_new (hk67) (fun i hi => hi.elim (fun e => .inl (by omega)) (fun e => .inr (by rw [e]; exact O.fp.1)))
  rw [show decide (([] : List Int) = []) = true from rfl] at hv7
  rcases hv7 with ⟨H, ns, es, rfl, s, h7, hm7, -⟩ | ⟨rfl, hno⟩
  ·have hpos := s.bn.pos
   rw [hcnt, Nat.zero_add] at h7
   obtain ⟨mN7, mC7, mO7, gv7, kn7, kc7, ko7, O7⟩ := h7.opn
   obtain ⟨kv7, hM7, hl7, -⟩ := hm7
   rw [List.append_nil] at hl7
   have hkn7 : kn7.length = pg.length := kn_len (T := { T with count := es.length }) O7.ng O7.nm.nd hpn hpg
   have hc7 := hc6.kp hk67
   have hBm7 := hc7.m
   have hBt7 := hc7.t
   have hBO7 := O7.blk
   have hfin : ∀ b, b = decide ((kv7.length : Int) = (kn7.length : Int)) → ∃ v, (Ending.returned (Value.bool b)) = .returned v ∧ Kp F w w7 ∧ ((T.root = 0 ∧ v = .bool (decide (pg = [])) ∧ TreeA w7 p T nb F) ∨ (T.root ≠ 0 ∧ ((∃ H ns es, Sub1 T.size T.nodes [] true T.root [] none H ns es ∧ ns.length = pg.length ∧ v = .bool true ∧ TreeA w7 p { T with count := es.length } nb F) ∨ (v = .bool false ∧ ∀ H ns es, Sub1 T.size T.nodes [] true T.root [] none H ns es → ns.length ≠ pg.length)))) := fun b hb => by
    refine ⟨_, rfl, hk07, .inr ⟨hr, ?_⟩⟩
    by_cases e : ns.length = pg.length
    ·exact .inl ⟨H, ns, es, s, e, by rw [hb, decide_eq_true (by omega)], h7⟩
    ·refine .inr ⟨by rw [hb, decide_eq_false (by omega)], fun H' ns' es' s' => ?_⟩
     rw [(bn_det hz s'.bn s.bn).2.1]; exact e
   refine qT 7 rfl (fun _ hS => ygt rfl rfl) (trivial) ?_; refine rh_if (fun hp0 => ?_) (fun hp0 => ?_)
   ·skip
    refine qT 8 rfl (fun _ hS => ymv rfl) (trivial) ?_; refine hTwo (i := 9) (j := 11) (by kernel_rfl) ?_ ?_
    ·skip
     refine nVal (i := 9) rfl rfl rfl (yld U72 rfl rfl hBm7 rfl) (trivial) ?_; refine hTwo (i := 10) (j := 11) (by kernel_rfl) ?_ ?_
     ·skip
      refine nVal (i := 10) rfl rfl rfl (ylenM U72 rfl hM7.l) (trivial) ?_; refine qO 11 ?_; refine nVal (i := 11) rfl rfl rfl (yld U24 rfl rfl hBt7 rfl) (trivial) ?_; refine qT 12 rfl (fun _ hS => (by first | exact ync rfl | exact yncf rfl)) (trivial) ?_; refine qT 13 rfl (fun _ hS => yfa fl74_5 rfl) (trivial) ?_; refine qO 14 ?_; refine nVal (i := 14) rfl rfl rfl (yld U71 rfl rfl hBO7 rfl) (trivial) ?_; refine qO 15 ?_; refine nVal (i := 15) rfl rfl rfl (ylenM U71 rfl O7.nm.l) (trivial) ?_; refine qT 16 rfl (fun _ hS => yeq rfl rfl) (trivial) ?_
      refine qT 17 rfl (fun _ hS => ypT rfl rfl) (trivial) ?_; refine qT 18 rfl (fun _ hS => yas rfl) (trivial) ?_; refine qE ?_; refine Run.qb (e := [(2, _)]) ?_; refine run_ret Tryz.func52 rfl ?_
      exact hfin _ rfl
     ·skip
      refine nVal (i := 11) rfl rfl rfl (yld U24 rfl rfl hBt7 rfl) (trivial) ?_; refine qT 12 rfl (fun _ hS => (by first | exact ync rfl | exact yncf rfl)) (trivial) ?_; refine qT 13 rfl (fun _ hS => yfa fl74_5 rfl) (trivial) ?_; refine hTwo (i := 10) (j := 14) (by kernel_rfl) ?_ ?_
      ·skip
       refine nVal (i := 10) rfl rfl rfl (ylenM U72 rfl hM7.l) (trivial) ?_; refine qO 14 ?_; refine nVal (i := 14) rfl rfl rfl (yld U71 rfl rfl hBO7 rfl) (trivial) ?_; refine qO 15 ?_; refine nVal (i := 15) rfl rfl rfl (ylenM U71 rfl O7.nm.l) (trivial) ?_; refine qT 16 rfl (fun _ hS => yeq rfl rfl) (trivial) ?_; refine qT 17 rfl (fun _ hS => ypT rfl rfl) (trivial) ?_; refine qT 18 rfl (fun _ hS => yas rfl) (trivial) ?_; refine qE ?_; refine Run.qb (e := [(2, _)]) ?_; refine run_ret Tryz.func52 rfl ?_
       exact hfin _ rfl
      ·skip
       refine nVal (i := 14) rfl rfl rfl (yld U71 rfl rfl hBO7 rfl) (trivial) ?_; refine qO 10 ?_; refine nVal (i := 10) rfl rfl rfl (ylenM U72 rfl hM7.l) (trivial) ?_; refine qO 15 ?_; refine nVal (i := 15) rfl rfl rfl (ylenM U71 rfl O7.nm.l) (trivial) ?_; refine qT 16 rfl (fun _ hS => yeq rfl rfl) (trivial) ?_; refine qT 17 rfl (fun _ hS => ypT rfl rfl) (trivial) ?_; refine qT 18 rfl (fun _ hS => yas rfl) (trivial) ?_; refine qE ?_; refine Run.qb (e := [(2, _)]) ?_; refine run_ret Tryz.func52 rfl ?_
       exact hfin _ rfl
    ·skip
     refine nVal (i := 11) rfl rfl rfl (yld U24 rfl rfl hBt7 rfl) (trivial) ?_; refine qT 12 rfl (fun _ hS => (by first | exact ync rfl | exact yncf rfl)) (trivial) ?_; refine qT 13 rfl (fun _ hS => yfa fl74_5 rfl) (trivial) ?_; refine hTwo (i := 9) (j := 14) (by kernel_rfl) ?_ ?_
     ·skip
      refine nVal (i := 9) rfl rfl rfl (yld U72 rfl rfl hBm7 rfl) (trivial) ?_; refine hTwo (i := 10) (j := 14) (by kernel_rfl) ?_ ?_
      ·skip
       refine nVal (i := 10) rfl rfl rfl (ylenM U72 rfl hM7.l) (trivial) ?_; refine qO 14 ?_; refine nVal (i := 14) rfl rfl rfl (yld U71 rfl rfl hBO7 rfl) (trivial) ?_; refine qO 15 ?_; refine nVal (i := 15) rfl rfl rfl (ylenM U71 rfl O7.nm.l) (trivial) ?_; refine qT 16 rfl (fun _ hS => yeq rfl rfl) (trivial) ?_; refine qT 17 rfl (fun _ hS => ypT rfl rfl) (trivial) ?_; refine qT 18 rfl (fun _ hS => yas rfl) (trivial) ?_; refine qE ?_; refine Run.qb (e := [(2, _)]) ?_; refine run_ret Tryz.func52 rfl ?_
       exact hfin _ rfl
      ·skip
       refine nVal (i := 14) rfl rfl rfl (yld U71 rfl rfl hBO7 rfl) (trivial) ?_; refine qO 10 ?_; refine nVal (i := 10) rfl rfl rfl (ylenM U72 rfl hM7.l) (trivial) ?_; refine qO 15 ?_; refine nVal (i := 15) rfl rfl rfl (ylenM U71 rfl O7.nm.l) (trivial) ?_; refine qT 16 rfl (fun _ hS => yeq rfl rfl) (trivial) ?_; refine qT 17 rfl (fun _ hS => ypT rfl rfl) (trivial) ?_; refine qT 18 rfl (fun _ hS => yas rfl) (trivial) ?_; refine qE ?_; refine Run.qb (e := [(2, _)]) ?_; refine run_ret Tryz.func52 rfl ?_
       exact hfin _ rfl
     ·skip
      refine nVal (i := 14) rfl rfl rfl (yld U71 rfl rfl hBO7 rfl) (trivial) ?_; refine qO 9 ?_; refine nVal (i := 9) rfl rfl rfl (yld U72 rfl rfl hBm7 rfl) (trivial) ?_; refine qO 10 ?_; refine nVal (i := 10) rfl rfl rfl (ylenM U72 rfl hM7.l) (trivial) ?_; refine qO 15 ?_; refine nVal (i := 15) rfl rfl rfl (ylenM U71 rfl O7.nm.l) (trivial) ?_; refine qT 16 rfl (fun _ hS => yeq rfl rfl) (trivial) ?_; refine qT 17 rfl (fun _ hS => ypT rfl rfl) (trivial) ?_; refine qT 18 rfl (fun _ hS => yas rfl) (trivial) ?_; refine qE ?_; refine Run.qb (e := [(2, _)]) ?_; refine run_ret Tryz.func52 rfl ?_
      exact hfin _ rfl
   ·omega
  ·skip
   refine qT 7 rfl (fun _ hS => ygt rfl rfl) (trivial) ?_; refine rh_if (fun hp0 => ?_) (fun hp0 => ?_)
   ·omega
   ·skip
    refine qT 8 rfl (fun _ hS => ymv rfl) (trivial) ?_; refine qJ 9 rfl (trivial) ?_; refine qJ 10 rfl (trivial) ?_; refine qJ 11 rfl (trivial) ?_; refine qJ 12 rfl (trivial) ?_; refine qJ 13 rfl (trivial) ?_; refine qJ 14 rfl (trivial) ?_; refine qJ 15 rfl (trivial) ?_; refine qJ 16 rfl (trivial) ?_; refine qT 17 rfl (fun _ hS => ypF rfl rfl) (trivial) ?_; refine qT 18 rfl (fun _ hS => yas rfl) (trivial) ?_; refine qE ?_; refine Run.qb (e := [(2, _)]) ?_; refine run_ret Tryz.func52 rfl ?_; refine ⟨_, rfl, hk07, .inr ⟨hr, .inr ⟨rfl, fun H ns es s => absurd s (hno H ns es)⟩⟩⟩
end
/-! ### Pages that are handed in -/
noncomputable def ndOf (z : Nat) (t : Bytes) : Option Nd := if t.length = z then dec t else none
noncomputable def nodesOf (z : Nat) (l : Pgs) : Nodes := fun x => match l.find? (fun y => decide (y.1 = x)) with
 | some y => ndOf z y.2
 | none => none
theorem ndOf_ok {z : Nat} {t : Bytes} {n : Nd} (h : ndOf z t = some n) : NdZ z n ∧ enc z n = t ∧ t.length = z := by
 unfold ndOf at h
 split at h
 ·rename_i e
  obtain ⟨-, h2, h3⟩ := dec_some.1 h
  rw [e] at h2 h3
  exact ⟨h2, h3, e⟩
 ·cases h
theorem nodesOf_none {z : Nat} {l : Pgs} {x : Int} (h : x ∉ l.map (·.1)) : nodesOf z l x = none := by
 unfold nodesOf
 rw [List.find?_eq_none.2 (fun y hy => by
  simp only [decide_eq_true_eq]
  intro e
  exact h (List.mem_map.2 ⟨y, hy, e⟩))]
theorem nodesOf_mem {z : Nat} : ∀ {l : Pgs} {y : Int × Bytes}, (l.map (·.1)).Nodup → y ∈ l → nodesOf z l y.1 = ndOf z y.2
 | a :: r, y, hn, hy => by
   rw [List.map_cons] at hn
   obtain ⟨h1, h2⟩ := List.nodup_cons.1 hn
   unfold nodesOf
   rw [List.find?_cons]
   rcases List.mem_cons.1 hy with rfl | hy
   ·rw [decide_eq_true rfl]
   ·have : a.1 ≠ y.1 := fun e => h1 (List.mem_map.2 ⟨y, hy, e.symm⟩)
    rw [decide_eq_false this]
    exact nodesOf_mem h2 hy
theorem nodesOf_ok {z : Nat} {l : Pgs} {x : Int} {n : Nd} (h : nodesOf z l x = some n) : NdZ z n ∧ x ∈ l.map (·.1) := by
 by_cases hx : x ∈ l.map (·.1)
 ·refine ⟨?_, hx⟩
  unfold nodesOf at h
  split at h
  ·exact (ndOf_ok h).1
  ·cases h
 ·rw [nodesOf_none hx] at h; cases h
theorem nodesOf_take {z : Nat} {l : Pgs} {i : Nat} {y : Int × Bytes} (hn : (l.map (·.1)).Nodup) (hy : l[i]? = some y) : nodesOf z (l.take (i + 1)) = updI (nodesOf z (l.take i)) y.1 (ndOf z y.2) := by
 funext x
 have hn1 : ((l.take (i + 1)).map (·.1)).Nodup := hn.sublist ((List.take_sublist _ _).map _)
 have hn0 : ((l.take i).map (·.1)).Nodup := hn.sublist ((List.take_sublist _ _).map _)
 have hm : ∀ a, a ∈ l.take (i + 1) ↔ a ∈ l.take i ∨ a = y := fun a => mem_take_succ hy
 by_cases e : x = y.1
 ·subst e
  rw [updI_same]
  exact nodesOf_mem hn1 ((hm y).2 (.inr rfl))
 ·rw [updI_ne e]
  by_cases hx : x ∈ (l.take i).map (·.1)
  ·obtain ⟨a, ha, rfl⟩ := List.mem_map.1 hx
   rw [nodesOf_mem hn0 ha, nodesOf_mem hn1 ((hm a).2 (.inl ha))]
  ·rw [nodesOf_none hx, nodesOf_none (fun hx' => by
    obtain ⟨a, ha, e'⟩ := List.mem_map.1 hx'
    rcases (hm a).1 ha with h | h
    ·exact hx (List.mem_map.2 ⟨a, h, e'⟩)
    ·subst h; exact e e'.symm)]
/-- Numbers that may be. -/
def numsOk (z root : Int) (l : Pgs) : Prop := sizeOk z ∧ (0 ≤ root ∧ root ≤ 2147483647) ∧ (l.map (·.1)).Nodup ∧ ∀ x ∈ l, 1 ≤ x.1 ∧ x.1 ≤ 2147483647
/-- They are a tree. -/
def LoadOk (z : Nat) (root : Int) (l : Pgs) (H : Nat) (ns : List Int) (es : Es) : Prop := (root = 0 ∧ l = [] ∧ H = 0 ∧ ns = [] ∧ es = []) ∨ (root ≠ 0 ∧ Sub1 z (nodesOf z l) [] true root [] none H ns es ∧ ns.length = l.length)
theorem LoadOk.mem {z : Nat} {root : Int} {l : Pgs} {H : Nat} {ns : List Int} {es : Es} (h : LoadOk z root l H ns es) : ∀ x, x ∈ ns ↔ x ∈ l.map (·.1) := by
 rcases h with ⟨-, rfl, -, rfl, -⟩ | ⟨-, s, hl⟩
 ·simp
 ·have h1 : ∀ x ∈ ns, x ∈ l.map (·.1) := fun x hx => by
   obtain ⟨n, hn⟩ := Option.ne_none_iff_exists'.1 (s.bn.some x hx)
   exact (nodesOf_ok hn).2
  exact fun x => ⟨h1 x, sub_of_len s.nd h1 (by simp; omega) x⟩
theorem LoadOk.all {z : Nat} {root : Int} {l : Pgs} {H : Nat} {ns : List Int} {es : Es} (h : LoadOk z root l H ns es) (hn : (l.map (·.1)).Nodup) : ∀ y ∈ l, ∃ n, ndOf z y.2 = some n := fun y hy => by
 have hm := (h.mem y.1).2 (List.mem_map.2 ⟨y, hy, rfl⟩)
 rcases h with ⟨-, rfl, -⟩ | ⟨-, s, hl⟩
 ·cases hy
 ·obtain ⟨n, hn'⟩ := Option.ne_none_iff_exists'.1 (s.bn.some _ hm)
  rw [nodesOf_mem hn hy] at hn'
  exact ⟨n, hn'⟩
/-- The tree of the pages. -/
noncomputable def TrL (z : Nat) (root : Int) (l : Pgs) (c : Nat) : Tr := ⟨z, root, c, nodesOf z l, [], fun _ => false, fun x => decide (x ∈ l.map (·.1))⟩
/-- The tree of the first pages. -/
noncomputable def TrI (z : Nat) (l : Pgs) (i : Nat) : Tr := ⟨z, 0, 0, nodesOf z (l.take i), [], fun _ => false, fun x => decide (x ∈ (l.take i).map (·.1))⟩
theorem LoadOk.inv {z : Nat} {root : Int} {l : Pgs} {H : Nat} {ns : List Int} {es : Es} (h : LoadOk z root l H ns es) (hn : numsOk (z : Int) root l) : Inv (TrL z root l es.length) H ns es := by
 have hm := h.mem
 have hN : ∀ x, nodesOf z l x ≠ none → x ∈ l.map (·.1) := fun x hx => by
  obtain ⟨n, hn⟩ := Option.ne_none_iff_exists'.1 hx
  exact (nodesOf_ok hn).2
 refine ⟨?_, fun x hx => (hm x).2 (hN x hx), rfl, fun x hx => ?_, fun x hx => absurd hx List.not_mem_nil, ⟨List.Pairwise.nil, fun x hx => absurd hx List.not_mem_nil⟩, fun x hx _ => decide_eq_true (hN x hx)⟩
 ·rcases h with ⟨h1, -, h2, h3, h4⟩ | ⟨h1, s, -⟩
  ·exact .inl ⟨h1, h2, h3, h4⟩
  ·exact .inr ⟨h1, s.bn.pos, s.bn, s.nd, fun n hn => by have := s.cnd n hn; simpa using this⟩
 ·obtain ⟨y, hy, rfl⟩ := List.mem_map.1 (hN x hx)
  exact hn.2.2.2 y hy
theorem rd_pg {w : World} {b off n cap : Nat} {l : Pgs} {i : Nat} {y : Int × Bytes} (h : Rd w (.slice (some ⟨b, off, none⟩) n cap) 2 n (pgC l)) (hi : i < n) (hy : l[i]? = some y) : ∀ (j : Nat) u, [I y.1, S y.2][j]? = some u → w.cell? ⟨b, off + i * 2 + j, none⟩ = some u := fun j u hj => by
 rcases h.2 with ⟨c, -, h0⟩ | ⟨b', off', cap', hv, hc⟩
 ·omega
 ·cases hv
  obtain ⟨f1, f2⟩ := flat2 (fun x : Int × Bytes => I x.1) (fun x : Int × Bytes => S x.2) l i
  rw [hy] at f1 f2
  match j, hj with
  | 0, hj =>
    have : u = I y.1 := by simpa using hj.symm
    subst this
    have := hc (2 * i) (I y.1) f1
    rw [show off + i * 2 + 0 = off + 2 * i by omega]
    exact this
  | 1, hj =>
    have : u = S y.2 := by simpa using hj.symm
    subst this
    have := hc (2 * i + 1) (S y.2) f2
    rw [show off + i * 2 + 1 = off + (2 * i + 1) by omega]
    exact this
theorem rd_pgs {w : World} {a : Option Addr} {cap n : Nat} {l : Pgs} {i : Nat} (h : Rd w (.slice a n cap) 2 n (pgC l)) (hn : n = l.length) (hi : i < n) : ∃ b off y, a = some ⟨b, off, none⟩ ∧ l[i]? = some y := by
 rcases h.2 with ⟨c, -, h0⟩ | ⟨b', off', cap', hv, hc⟩
 ·omega
 ·cases hv
  exact ⟨b', off', _, rfl, List.getElem?_eq_getElem (by omega)⟩
section
variable {w : World}
set_option maxHeartbeats 8000000 in
theorem load_ret (z root : Int) {lv : Value} {l : Pgs} (hR : Rd w lv 2 l.length (pgC l)) (hl : l.length ≤ 1000000) (ht : ∀ y ∈ l, y.2.length ≤ 140737488355328) :
  Ret Tryz.prog 17 [I z, I root, lv] w fun v w' => Ext w w' ∧ ((¬ numsOk z root l ∧ v = .tuple #[.pointer none, I 1]) ∨ (numsOk z root l ∧ (∀ H ns es, ¬ LoadOk z.toNat root l H ns es) ∧ v = .tuple #[.pointer none, I 4]) ∨ (numsOk z root l ∧ ∃ H ns es p nb F, LoadOk z.toNat root l H ns es ∧ v = .tuple #[ptr p 0, I 0] ∧ TreeA w' p (TrL z.toNat root l es.length) nb F ∧ ∀ k, F k → w.heap.size ≤ k)) := by
 obtain ⟨la, lc, rfl, -⟩ := hR.shape
 refine ret_of_run (e := [(0, _), (1, _), (2, _)]) Tryz.func17 rfl Tryz.ntmps17 rfl rfl ?_; refine run_seq ?_; refine run_reg rfl ?_; refine qV (yas rfl) ?_; refine qV (yas rfl) ?_; refine rEnd ?_; refine run_seq ?_; refine run_reg rfl ?_; refine qV (ymv rfl) ?_; refine rCall rfl rfl (yc (args := [.tmp 18]) cf8 rfl) (newT_ret z) ?_
 rintro v1 w1 ⟨hx1, hv1⟩
 have hz1 := hx1.size
 rcases hv1 with ⟨hz, p, F, rfl, h1, hF1⟩ | ⟨hz, rfl⟩
 ·obtain ⟨k, rfl⟩ : ∃ k : Nat, z = (k : Int) := ⟨z.toNat, by have := hz.1; omega⟩
  rw [Int.toNat_natCast] at h1 ⊢
  obtain ⟨z1, z2, -⟩ := id hz
  have hlt1 := h1.lt
  refine qV (ymv rfl) ?_; refine qV (yex rfl rfl) ?_; refine qV (yex rfl rfl) ?_; refine qV (yas rfl) ?_; refine qV (yas rfl) ?_; refine rEnd ?_; refine run_seq ?_; refine run_seq ?_; refine run_reg rfl ?_; refine qV (ymv rfl) ?_; refine qV (yne rfl rfl) ?_; refine qV (ymv rfl) ?_; refine rVal_if (fun h0 => ?_) (fun h0 => ?_)
  ·exact absurd rfl h0
  ·skip
   refine qV (ymv rfl) ?_; refine qV (ylt rfl rfl) ?_; refine qV (ypF rfl rfl) ?_; refine qV (ymv rfl) ?_; refine rVal_if (fun hr0 => ?_) (fun hr0 => ?_)
   ·skip
    refine qS ?_; refine qS ?_; refine qV (ypT rfl rfl) ?_; refine rEnd ?_; refine run_true rfl ?_; refine run_seq ?_; refine run_reg rfl ?_; refine qV (yas rfl) ?_; refine qV (yas rfl) ?_; refine rEnd ?_; refine run_ret Tryz.func17 rfl ?_
    exact ⟨_, rfl, hx1, .inl ⟨fun h => by have := h.2.1; omega, rfl⟩⟩
   ·skip
    refine qV (ymv rfl) ?_; refine qV (ygt rfl rfl) ?_; refine rVal_if (fun hr1 => ?_) (fun hr1 => ?_)
    ·skip
     refine qV (ypF rfl rfl) ?_; refine rEnd ?_; refine run_true rfl ?_; refine run_seq ?_; refine run_reg rfl ?_; refine qV (yas rfl) ?_; refine qV (yas rfl) ?_; refine rEnd ?_; refine run_ret Tryz.func17 rfl ?_
     exact ⟨_, rfl, hx1, .inl ⟨fun h => by have := h.2.1; omega, rfl⟩⟩
    ·skip
     refine qV (ypF rfl rfl) ?_; refine rEnd ?_; refine run_false rfl ?_; refine run_skip ?_; refine run_seq ?_; refine run_reg rfl ?_; refine rValP rfl rfl (pmm) ?_
     rintro _ w2 ⟨ms, rfl, hms, hx2, hh2⟩
     have hl2 : ms < w2.heap.size := (MapB.new (K := KZ) hh2).lt
     have hz2 := hx2.size
     refine qV (yas rfl) ?_; refine rEnd ?_; refine run_seq ?_; refine run_seq ?_; refine run_reg rfl ?_; refine qV (ymv rfl) ?_; refine qV (yln U52 rfl) ?_; refine qV (ymv rfl) ?_; refine rEnd ?_; refine Run.qb (e := [(0, _), (1, _), (2, _), (6, _), (7, _), (8, _), (10, _), (33, _), (34, _), (35, _)]) ?_; refine run_block ?_; refine run_cut2 (fun e' w' => e' = [(0, I (k : Int)), (1, I root), (2, .slice la l.length lc), (8, ptr p 0)] ∧ Ext w1 w' ∧ numsOk (k : Int) root l) ?hkp (fun hkp => ?hmainp)
     case hkp =>
      rintro e' w3 ⟨rfl, hx3, hnums⟩
      obtain ⟨-, -, hnn, hnum⟩ := id hnums
      have hT0 : TrI k l 0 = Tr0 k := by
       unfold TrI Tr0
       congr 1
      have hx13 := hx1.trans hx3
      have hz3 := hx3.size
      refine run_seq ?_; refine run_seq ?_; refine run_reg rfl ?_; refine qV (ymv rfl) ?_; refine qV (yln U52 rfl) ?_; refine qV (ymv rfl) ?_; refine rEnd ?_; refine run_block ?_
      refine run_loop (α := Nat) (0) (fun i => [(0, I (k : Int)), (1, I root), (8, ptr p 0), (60, .slice la l.length lc), (61, I (l.length : Int)), (62, I (i : Int))]) (fun i w' => i ≤ l.length ∧ Ext w w' ∧ w3.heap.size ≤ w'.heap.size ∧ (∀ y ∈ l.take i, ∃ n, ndOf k y.2 = some n) ∧ ∃ nb F, TreeA w' p (TrI k l i) nb F ∧ ∀ k, F k → w.heap.size ≤ k) (fun i => l.length - i) (by repeat (first | exact Sub.nil | refine Sub.cons rfl ?_)) ?hI ?hround
      case hI => exact ⟨Nat.zero_le _, hx13, Nat.le_refl _, by simp, _, F, by rw [hT0]; exact h1.ext hx3, hF1⟩
      case hround =>
       rintro i wi ⟨hi, hxi, hzi, hall, nbi, Fi, hi', hFi⟩ ih
       have hlti := hi'.lt
       try dsimp only
       refine run_seq ?_; refine run_reg rfl ?_; refine qV (ylt rfl rfl) ?_; refine rEnd ?_; refine run_seq ?_; refine run_if rfl (fun hlt' => ?_) (fun hlt' => ?_)
       ·skip
        have hil : i < l.length := by omega
        obtain ⟨lb, lo, y, rfl, hy⟩ := rd_pgs hR rfl hil
        have hym := List.mem_of_getElem? hy
        have hnotin : y.1 ∉ (l.take i).map (·.1) := fun hb => by
         have hnd1 : ((l.take (i + 1)).map (·.1)).Nodup := hnn.sublist ((List.take_sublist _ _).map _)
         obtain ⟨hi2, e2⟩ := List.getElem?_eq_some_iff.1 hy
         rw [List.take_succ_eq_append_getElem hi2, e2, List.map_append] at hnd1
         exact (List.nodup_append.1 hnd1).2.2 _ hb y.1 (by simp) rfl
        have hfail : ndOf k y.2 = none → ∀ H ns es, ¬ LoadOk k root l H ns es := fun e H ns es hh => by
         obtain ⟨n, hn⟩ := hh.all hnn y hym
         rw [e] at hn; cases hn
        refine run_skip ?_; refine run_seq ?_; refine run_block ?_; refine run_seq ?_; refine run_reg rfl ?_; refine qV (yis U52 ti55 rfl rfl (by omega)) ?_; refine qV (yldA U55 rfl ti55 rfl (rd_pg (hR.ext hxi) hil hy) rfl) ?_; refine rValP rfl rfl (pal (cs := [_, _]) ti55 rfl) ?_
        rintro _ w4 ⟨b14, rfl, hb14, hx4, hB4⟩
        refine rEffP rfl (zstA ti55 rfl rfl rfl rfl hB4 (by simp)) ?_
        rintro w5 ⟨hB5, hk5⟩
        have hB5' : Blk w5 b14 [I y.1, S y.2] 55 := hB5
        have hxi5 : Ext wi w5 := hx4.trans_new hk5 (fun j hj => by omega)
        have hl5 := hB5'.lt
        have hz5 := hxi5.size
        refine rEnd ?_; refine run_seq ?_; refine run_reg rfl ?_; refine qV (yfa fl55_1 rfl) ?_; refine qV (yld U9 rfl rfl hB5' rfl) ?_; refine rCall rfl rfl (yc (args := [.tmp 68]) cf51 rfl) (decode_ret y.2 (ht y hym) w5) ?_
        rintro v6 w6 ⟨hx6, hv6⟩
        have hz6 := hx6.size
        rcases hv6 with ⟨n, kv, vv, cv, hdec, rfl, hP, hown⟩ | ⟨hdec, rfl⟩
        ·obtain ⟨ka, kac, hkq, -⟩ := hP.keys.rd.shape
         obtain ⟨va, vac, hvq, -⟩ := hP.vals.rd.shape
         obtain ⟨ca, cac, hcq, -⟩ := hP.kids.rd.shape
         subst hkq
         subst hvq
         subst hcq
         have hB6 := hx6.blk hB5'
         refine qV (ymv rfl) ?_; refine qV (yex rfl rfl) ?_; refine qV (yex rfl rfl) ?_
         unfold ndv
         refine rValP rfl rfl (pal (cs := [_, _, _, _]) ti84 rfl) ?_
         rintro _ w7 ⟨b15, rfl, hb15, hx7, hB7⟩
         refine rEffP rfl (zstA ti84 rfl rfl rfl rfl hB7 (by simp)) ?_
         rintro w8 ⟨hB8, hk8⟩
         have hB8' : Blk w8 b15 [.bool n.leaf, .slice ka n.keys.length kac, .slice va n.vals.length vac, .slice ca n.kids.length cac] 84 := hB8
         have hz7 := hx7.size
         have hl7 := hB8'.lt
         have hx68 : Ext w6 w8 := hx7.trans_new hk8 (fun j hj => by omega)
         have hxi8 : Ext wi w8 := (hxi5.trans hx6).trans hx68
         have hB14 := hx68.blk hB6
         refine qV (yas rfl) ?_; refine rEnd ?_; refine run_seq ?_; refine run_seq ?_; refine run_reg rfl ?_; refine qV (ymv rfl) ?_; refine qV (yne rfl rfl) ?_; refine rVal_if (fun hh0 => ?_) (fun hh0 => ?_)
         ·exact absurd rfl hh0
         ·skip
          refine qV (ymv rfl) ?_; refine qV (yfa fl55_1 rfl) ?_; refine qV (yld U9 rfl rfl hB14 rfl) ?_; refine qV (ylnS U9 rfl) ?_; refine qV (ymv rfl) ?_; refine qV (yne rfl rfl) ?_; refine rVal_if (fun hne => ?_) (fun hne => ?_)
          ·skip
           refine qV (ypF rfl rfl) ?_; refine rEnd ?_; refine run_true rfl ?_; refine run_seq ?_; refine run_reg rfl ?_; refine qV (yas rfl) ?_; refine qV (yas rfl) ?_; refine rEnd ?_; refine run_ret Tryz.func17 rfl ?_; refine ⟨_, rfl, hxi.trans hxi8, .inr (.inl ⟨hnums, hfail ?_, rfl⟩)⟩
           unfold ndOf
           rw [if_neg (by omega)]
          ·skip
           have hlen : y.2.length = k := by omega
           have hndk : ndOf k y.2 = some n := by unfold ndOf; rw [if_pos hlen]; exact hdec
           have h8 := hi'.ext hxi8
           obtain ⟨mN1, mC1, mO1, gv1, kn1, kc1, ko1, O1⟩ := h8.opn
           have hne1 := O1.ne
           have hap := O1.ap
           have hz8 := hxi8.size
           have hlN := hlti mN1 O1.fp.2.1
           have hlO := hlti mO1 O1.fp.2.2.2.1
           refine qV (ypF rfl rfl) ?_; refine rEnd ?_; refine run_false rfl ?_; refine run_skip ?_
           have hg0 : Ext w8 w8.drew := Ext.drew0 w8
           refine run_draw (fun w' => Kp (fun k => k = mN1 ∨ k = mO1) w8 w') (by kernel_rfl) rfl ?_; refine qT 0 rfl (fun _ hS => ymv rfl) (hg0.kp) ?_; refine qT 1 rfl (fun _ hS => (by first | exact ync rfl | exact yncf rfl)) (hg0.kp) ?_; refine qT 2 rfl (fun _ hS => yfa fl74_5 rfl) (hg0.kp) ?_; refine qT 3 rfl (fun _ hS => (by first | exact yld U71 rfl rfl (hS.blk O1.blk (fun h => h.elim (fun e => hne1.1 e.symm) (fun e => hne1.2.2.1 e.symm))) rfl | exact yld U71 rfl rfl (hS.blk hB14 (by omega)) rfl)) (hg0.kp) ?_; refine qT 4 rfl (fun _ hS => yfa fl55_0 rfl) (hg0.kp) ?_
           refine qT 5 rfl (fun _ hS => (by first | exact yld U3 rfl rfl (hS.blk O1.blk (fun h => h.elim (fun e => hne1.1 e.symm) (fun e => hne1.2.2.1 e.symm))) rfl | exact yld U3 rfl rfl (hS.blk hB14 (by omega)) rfl)) (hg0.kp) ?_; refine qT 6 rfl (fun _ hS => ymv rfl) (hg0.kp) ?_; refine qT 7 rfl (fun _ hS => (by first | exact ync rfl | exact yncf rfl)) (hg0.kp) ?_; refine qT 8 rfl (fun _ hS => yfa fl74_8 rfl) (hg0.kp) ?_
           refine qT 9 rfl (fun _ hS => (by first | exact yld U72 rfl rfl (hS.blk O1.blk (fun h => h.elim (fun e => hne1.1 e.symm) (fun e => hne1.2.2.1 e.symm))) rfl | exact yld U72 rfl rfl (hS.blk hB14 (by omega)) rfl)) (hg0.kp) ?_; refine qT 10 rfl (fun _ hS => yfa fl55_0 rfl) (hg0.kp) ?_; refine qT 11 rfl (fun _ hS => (by first | exact yld U3 rfl rfl (hS.blk O1.blk (fun h => h.elim (fun e => hne1.1 e.symm) (fun e => hne1.2.2.1 e.symm))) rfl | exact yld U3 rfl rfl (hS.blk hB14 (by omega)) rfl)) (hg0.kp) ?_; refine qO 12 ?_
           refine nValP (i := 12) rfl rfl rfl (pme (k := y.1) (K := KZ) U71 (ky_int U3) ti81 rfl rfl (O1.nm.kp hg0 id)) ?_
           rintro _ w9 ⟨be, rfl, hE9, hk9⟩
           refine ⟨(hg0.kp).trans (hk9.mono' (fun _ h => .inl h)), ?_⟩
           refine qT 13 rfl (fun _ hS => yex rfl rfl) ((hg0.kp).trans (hk9.mono' (fun _ h => .inl h))) ?_; refine qO 14 ?_; refine nEffP (i := 14) rfl rfl (zes rfl rfl rfl hE9) ?_
           rintro w10 ⟨hM10, hk10⟩
           refine ⟨((hg0.kp).trans (hk9.mono' (fun _ h => .inl h))).trans (hk10.mono' (fun _ h => .inl h)), ?_⟩
           have hk810 : Kp (fun k => k = mN1) w8 w10 := ((hg0.kp).trans hk9).trans hk10
           have hbo : ¬ ownP (.slice ka n.keys.length kac) (.slice va n.vals.length vac) (.slice ca n.kids.length cac) b15 := fun hk => by have := hP.lt hk; omega
           have hN8 : NdM w8 n ⟨b15, .slice ka n.keys.length kac, .slice va n.vals.length vac, .slice ca n.kids.length cac⟩ := NdP.at (hP.kp hx68 (fun _ _ => id)) hB8' hbo
           have hfpn : ∀ j, Pl.fp ⟨b15, .slice ka n.keys.length kac, .slice va n.vals.length vac, .slice ca n.kids.length cac⟩ j → wi.heap.size ≤ j := fun j hj => by
            rcases hj with hj | hj | hj | hj
            ·dsimp only at hj; omega
            ·have := hown j (.inl hj); omega
            ·have := hown j (.inr (.inl hj)); omega
            ·have := hown j (.inr (.inr hj)); omega
           have hFn : ∀ j, Pl.fp ⟨b15, .slice ka n.keys.length kac, .slice va n.vals.length vac, .slice ca n.kids.length cac⟩ j → ¬ Fi j := fun j hj hf => by
            have := hfpn j hj
            have := hlti j hf
            omega
           have hN10 := hN8.kp hk810 (fun j hj e => hFn j hj (by rw [e]; exact O1.fp.2.1))
           have hnone : (TrI k l i).nodes y.1 = none := nodesOf_none hnotin
           obtain ⟨F2, h10, hF2⟩ := O1.newN w10 _ y.1 n ⟨b15, .slice ka n.keys.length kac, .slice va n.vals.length vac, .slice ca n.kids.length cac⟩ hN10 hM10 hk810 (fun x => by
            rw [getL_put, getL_put]
            by_cases e : x = y.1 <;> simp [e]) hnone hFn
           obtain ⟨mN2, mC2, mO2, gv2, kn2, kc2, ko2, O2⟩ := h10.opn
           have hB10 := hk810.blk O1.blk (fun e => hne1.1 e.symm)
           obtain ⟨e1, e2⟩ : mO2 = mO1 ∧ mN2 = mN1 := by
            have := Blk.inj O2.blk hB10
            simp [trCs] at this
            exact ⟨by omega, by omega⟩
           subst e1
           subst e2
           refine qO 15 ?_; refine nValP (i := 15) rfl rfl rfl (pme (k := y.1) (K := KZ) U72 (ky_int U3) ti3 rfl rfl O2.om) ?_
           rintro _ w11 ⟨be2, rfl, hE11, hk11⟩
           refine ⟨(hk810.mono' (fun _ h => .inl h)).trans (hk11.mono' (fun _ h => .inr h)), ?_⟩
           refine qT 16 rfl (fun _ hS => yex rfl rfl) ((hk810.mono' (fun _ h => .inl h)).trans (hk11.mono' (fun _ h => .inr h))) ?_; refine qO 17 ?_; refine nEffP (i := 17) rfl rfl (zes rfl rfl rfl hE11) ?_
           rintro w12 ⟨hM12, hk12⟩
           refine ⟨((hk810.mono' (fun _ h => .inl h)).trans (hk11.mono' (fun _ h => .inr h))).trans (hk12.mono' (fun _ h => .inr h)), ?_⟩
           refine qE ?_; refine run_inBlock ?_; refine run_reg rfl ?_; refine qV (yad rfl rfl (by omega)) ?_; refine qV (ymv rfl) ?_; refine rEnd ?_
           have hk1012 : Kp (fun k => k = mO2) w10 w12 := hk11.trans hk12
           have h12 := O2.setO w12 _ (updI (TrI k l i).old y.1 true) hM12 hk1012 (fun x => by
            rw [getL_put, getL_put]
            by_cases e : x = y.1
            ·subst e; simp [flag, updI]
            ·rw [if_neg e, if_neg e, O2.og]; simp [updI, e, Tr.setN])
           have hnod : updI (TrI k l i).nodes y.1 (some n) = (TrI k l (i + 1)).nodes := by
            show updI (nodesOf k (l.take i)) y.1 (some n) = nodesOf k (l.take (i + 1))
            rw [nodesOf_take hnn hy, hndk]
           have hold : updI (TrI k l i).old y.1 true = (TrI k l (i + 1)).old := by
            funext x
            show (if x = y.1 then true else decide (x ∈ (l.take i).map (·.1))) = decide (x ∈ (l.take (i + 1)).map (·.1))
            rw [map_take_succ hy]
            by_cases e : x = y.1
            ·rw [if_pos e]; simp [e]
            ·rw [if_neg e]; simp [e]
           have hTe : ({ (TrI k l i).setN y.1 n with old := updI (TrI k l i).old y.1 true } : Tr) = TrI k l (i + 1) := by
            show (⟨k, 0, 0, updI (TrI k l i).nodes y.1 (some n), [], fun _ => false, updI (TrI k l i).old y.1 true⟩ : Tr) = _
            rw [hnod, hold]; rfl
           rw [hTe] at h12
           have hxi12 : Ext w w12 := ((hxi.trans hxi8).trans_new hk810 (fun j hj => by rw [hj]; exact hFi _ O1.fp.2.1)).trans_new hk1012 (fun j hj => by rw [hj]; exact hFi _ O1.fp.2.2.2.1)
           have hz812 := hk810.size
           have hz1012 := hk1012.size
           refine (ih (i + 1) w12 ⟨by omega, hxi12, by omega, fun x hx => ?_, _, F2, h12, fun j hj => ?_⟩ (by omega)).qb
           ·rcases (mem_take_succ hy).1 hx with hx | rfl
            ·exact hall x hx
            ·exact ⟨n, hndk⟩
           ·rcases hF2 j hj with e | e
            ·exact hFi j e
            ·have := hfpn j e
             have := hxi.size
             omega
        ·skip
         have hB6 := hx6.blk hB5'
         refine qV (ymv rfl) ?_; refine qV (yex rfl rfl) ?_; refine qV (yex rfl rfl) ?_; refine rValP rfl rfl (pal (cs := [_, _, _, _]) ti84 rfl) ?_
         rintro _ w7 ⟨b15, rfl, hb15, hx7, hB7⟩
         refine rEffP rfl (zstA ti84 rfl rfl rfl rfl hB7 (by simp)) ?_
         rintro w8 ⟨hB8, hk8⟩
         have hxi8 : Ext wi w8 := ((hxi5.trans hx6).trans hx7).trans_new hk8 (fun j hj => by have := hx7.size; omega)
         refine qV (yas rfl) ?_; refine rEnd ?_; refine run_seq ?_; refine run_seq ?_; refine run_reg rfl ?_; refine qV (ymv rfl) ?_; refine qV (yne rfl rfl) ?_; refine rVal_if (fun hh0 => ?_) (fun hh0 => ?_)
         ·skip
          refine qV (ymv rfl) ?_; refine qS ?_; refine qS ?_; refine qS ?_; refine qS ?_; refine qS ?_; refine qV (ypT rfl rfl) ?_; refine rEnd ?_; refine run_true rfl ?_; refine run_seq ?_; refine run_reg rfl ?_; refine qV (yas rfl) ?_; refine qV (yas rfl) ?_; refine rEnd ?_; refine run_ret Tryz.func17 rfl ?_; refine ⟨_, rfl, hxi.trans hxi8, .inr (.inl ⟨hnums, hfail ?_, rfl⟩)⟩
          unfold ndOf
          split
          ·exact hdec
          ·rfl
         ·skip
          exact absurd (by decide) hh0
       ·skip
        have : i = l.length := by omega
        subst this
        have hTl : TrI k l l.length = TrL k 0 l 0 := by unfold TrI TrL; rw [List.take_length]
        rw [hTl] at hi'
        rw [List.take_length] at hall
        obtain ⟨mN1, mC1, mO1, gv1, kn1, kc1, ko1, O1⟩ := hi'.opn
        have hBO := O1.blk
        refine run_exit rfl ?_; refine run_seq ?_; refine run_reg rfl ?_; refine qV (ymv rfl) ?_; refine qV (ymv rfl) ?_; refine qV ((by first | exact ync rfl | exact yncf rfl)) ?_; refine qV (yfa fl74_1 rfl) ?_; refine rEffP rfl (zst ti3 rfl rfl rfl hBO (by simp [trCs])) ?_
        rintro w4 ⟨hB4, hk4⟩
        have h4 : TreeA w4 p (TrL k root l 0) nbi Fi := O1.setB w4 root 0 (by simpa [trCs, TrL] using hB4) hk4
        have hok4 : ∀ x n, (TrL k root l 0).nodes x = some n → NdOk (TrL k root l 0).size n := fun x n hn => (nodesOf_ok hn).1.ok
        have hpg4 : ∀ x, (TrL k root l 0).nodes x ≠ none ↔ x ∈ l.map (·.1) := fun x => by
         constructor
         ·intro hx
          obtain ⟨n, hn⟩ := Option.ne_none_iff_exists'.1 hx
          exact (nodesOf_ok hn).2
         ·intro hx
          obtain ⟨y, hy, rfl⟩ := List.mem_map.1 hx
          obtain ⟨n, hn⟩ := hall y hy
          show nodesOf k l y.1 ≠ none
          rw [nodesOf_mem hnn hy, hn]; simp
        refine rEnd ?_; refine run_seq ?_; refine run_seq ?_; refine run_reg rfl ?_; refine qV (ymv rfl) ?_; refine rCall rfl rfl (yc (args := [.tmp 102]) cf52 rfl) (whole_ret h4 hok4 hnn hpg4 (by simpa using hl) rfl) ?_
        rintro v5 w5 ⟨hk5, hv5⟩
        have hx5 : Ext w w5 := (hxi.trans_new hk4 (fun j hj => by rw [hj]; exact hFi _ O1.fp.1)).trans_new hk5 (fun j hj => hFi j hj)
        have hv5' : (∃ H ns es, LoadOk k root l H ns es ∧ v5 = .bool true ∧ TreeA w5 p (TrL k root l es.length) nbi Fi) ∨ ((∀ H ns es, ¬ LoadOk k root l H ns es) ∧ v5 = .bool false) := by
         rcases hv5 with ⟨e0, e1, e2⟩ | ⟨e0, ⟨H, ns, es, s, e1, e2, e3⟩ | ⟨e1, e2⟩⟩
         ·by_cases hl0 : l = []
          ·exact .inl ⟨0, [], [], .inl ⟨e0, hl0, rfl, rfl, rfl⟩, by rw [e1, hl0]; rfl, e2⟩
          ·refine .inr ⟨fun H ns es hh => ?_, by rw [e1, decide_eq_false (by simpa using hl0)]⟩
           rcases hh with ⟨-, e, -⟩ | ⟨e, -⟩
           ·exact hl0 e
           ·exact e e0
         ·exact .inl ⟨H, ns, es, .inr ⟨e0, s, by simpa using e1⟩, e2, e3⟩
         ·refine .inr ⟨fun H ns es hh => ?_, e1⟩
          rcases hh with ⟨e, -⟩ | ⟨-, s, e⟩
          ·exact e0 e
          ·exact e2 H ns es s (by simpa using e)
        rcases hv5' with ⟨H, ns, es, hL, rfl, h5⟩ | ⟨hno, rfl⟩
        ·skip
         refine qV ((by first | exact yntd rfl | exact ynt rfl)) ?_; refine rEnd ?_; refine run_false rfl ?_; refine run_skip ?_; refine run_seq ?_; refine run_reg rfl ?_; refine qV (ymv rfl) ?_; refine qV (yas rfl) ?_; refine qV (yas rfl) ?_; refine rEnd ?_; refine run_ret Tryz.func17 rfl ?_
         exact ⟨_, rfl, hx5, .inr (.inr ⟨hnums, H, ns, es, p, nbi, Fi, hL, rfl, h5, hFi⟩)⟩
        ·skip
         refine qV ((by first | exact yntd rfl | exact ynt rfl)) ?_; refine rEnd ?_; refine run_true rfl ?_; refine run_seq ?_; refine run_reg rfl ?_; refine qV (yas rfl) ?_; refine qV (yas rfl) ?_; refine rEnd ?_; refine run_ret Tryz.func17 rfl ?_
         exact ⟨_, rfl, hx5, .inr (.inl ⟨hnums, hno, rfl⟩)⟩
     case hmainp =>
      refine run_loop (α := Nat) (0) (fun i => [(0, I (k : Int)), (1, I root), (2, .slice la l.length lc), (8, ptr p 0), (10, .map (some ms)), (33, .slice la l.length lc), (34, I (l.length : Int)), (35, I (i : Int))]) (fun i w' => i ≤ l.length ∧ Ext w1 w' ∧ ((l.take i).map (·.1)).Nodup ∧ (∀ y ∈ l.take i, 1 ≤ y.1 ∧ y.1 ≤ 2147483647) ∧ ∃ kv, MapB KZ w' ms kv ∧ ∀ x, getL kv x = if x ∈ (l.take i).map (·.1) then some (I 1) else none) (fun i => l.length - i) (by repeat (first | exact Sub.nil | refine Sub.cons rfl ?_)) ?hI ?hround
      case hI => exact ⟨Nat.zero_le _, hx2, by simp, by simp, [], MapB.new hh2, fun x => by simp [getL]⟩
      case hround =>
       rintro i wi ⟨hi, hxi, hnd, hall, kv, hMs, hkv⟩ ih
       have hzi := hxi.size
       try dsimp only
       refine run_seq ?_; refine run_reg rfl ?_; refine qV (ylt rfl rfl) ?_; refine rEnd ?_; refine run_seq ?_; refine run_if rfl (fun hlt' => ?_) (fun hlt' => ?_)
       ·skip
        have hil : i < l.length := by omega
        obtain ⟨lb, lo, y, rfl, hy⟩ := rd_pgs hR rfl hil
        have hym := List.mem_of_getElem? hy
        refine run_skip ?_; refine run_seq ?_; refine run_block ?_; refine run_seq ?_; refine run_reg rfl ?_; refine qV (yis U52 ti55 rfl rfl (by omega)) ?_; refine qV (yldA U55 rfl ti55 rfl (rd_pg ((hR.ext hx1).ext hxi) hil hy) rfl) ?_; refine rValP rfl rfl (pal (cs := [_, _]) ti55 rfl) ?_
        rintro _ w4 ⟨b12, rfl, hb12, hx4, hB4⟩
        refine rEffP rfl (zstA ti55 rfl rfl rfl rfl hB4 (by simp)) ?_
        rintro w5 ⟨hB5, hk5⟩
        have hB5' : Blk w5 b12 [I y.1, S y.2] 55 := hB5
        have hx15 : Ext w1 w5 := (hxi.trans hx4).trans_new hk5 (fun j hj => by omega)
        have hMs5 := (hMs.ext hx4).kp hk5 (by have := hMs.lt; omega)
        have hz4 := hx4.size
        have hl4 := hB5'.lt
        have hlms := hMs.lt
        obtain ⟨q, hq, hq'⟩ : ∃ q : Nat, (getL kv y.1).getD (I 0) = I (q : Int) ∧ ((q = 0 ∧ y.1 ∉ (l.take i).map (·.1)) ∨ (q = 1 ∧ y.1 ∈ (l.take i).map (·.1))) := by
         rw [hkv y.1]
         by_cases hm : y.1 ∈ (l.take i).map (·.1)
         ·exact ⟨1, by rw [if_pos hm]; rfl, .inr ⟨rfl, hm⟩⟩
         ·exact ⟨0, by rw [if_neg hm]; rfl, .inl ⟨rfl, hm⟩⟩
        refine rEnd ?_; refine run_seq ?_; refine run_reg rfl ?_; refine qV (ymv rfl) ?_; refine qV (yfa fl55_0 rfl) ?_; refine qV (yld U3 rfl rfl hB5' rfl) ?_; refine qV (ylk (k := y.1) (K := KZ) U72 (ky_int U3) ti3 rfl rfl hMs5.l) ?_
        rw [hq]
        refine qV (yad rfl rfl (by omega)) ?_; refine rEffP rfl (zmuB U72 (ky_int U3) rfl rfl rfl hMs5 (k := y.1)) ?_
        rintro w6 ⟨hM6, hk6⟩
        have hx16 : Ext w1 w6 := hx15.trans_new hk6 (fun j hj => by omega)
        have hB6 := hk6.blk hB5' (by omega)
        have hget2 : (getL (putL kv y.1 (I ((q : Int) + 1))) y.1).getD (I 0) = I ((q : Int) + 1) := by rw [getL_put, if_pos rfl]; rfl
        have hbad : (¬ (1 ≤ y.1 ∧ y.1 ≤ 2147483647) ∨ y.1 ∈ (l.take i).map (·.1)) → ¬ numsOk (k : Int) root l := fun hb hok => by
         obtain ⟨-, -, g1, g2⟩ := hok
         rcases hb with hb | hb
         ·exact hb (g2 y hym)
         ·have := mem_take_succ (x := y) hy
          have hnd1 : ((l.take (i + 1)).map (·.1)).Nodup := g1.sublist ((List.take_sublist _ _).map _)
          obtain ⟨hi2, e2⟩ := List.getElem?_eq_some_iff.1 hy
          rw [List.take_succ_eq_append_getElem hi2, e2, List.map_append] at hnd1
          exact (List.nodup_append.1 hnd1).2.2 _ hb y.1 (by simp) rfl
        refine rEnd ?_; refine run_seq ?_; refine run_reg rfl ?_; refine qV (yfa fl55_0 rfl) ?_; refine qV (yld U3 rfl rfl hB6 rfl) ?_; refine qV (ylt rfl rfl) ?_; refine rVal_if (fun hc1 => ?_) (fun hc1 => ?_)
        ·skip
         refine qV (ymv rfl) ?_; refine qS ?_; refine qS ?_; refine qS ?_; refine qV (ypT rfl rfl) ?_; refine qV (ymv rfl) ?_; refine qS ?_; refine qS ?_; refine qS ?_; refine qS ?_; refine qS ?_; refine qV (ypT rfl rfl) ?_; refine rEnd ?_; refine run_true rfl ?_; refine run_seq ?_; refine run_reg rfl ?_; refine qV (yas rfl) ?_; refine qV (yas rfl) ?_; refine rEnd ?_; refine run_ret Tryz.func17 rfl ?_
         exact ⟨_, rfl, hx1.trans hx16, .inl ⟨hbad (.inl (by omega)), rfl⟩⟩
        ·skip
         refine qV (ymv rfl) ?_; refine qV (yfa fl55_0 rfl) ?_; refine qV (yld U3 rfl rfl hB6 rfl) ?_; refine qV (ygt rfl rfl) ?_; refine rVal_if (fun hc2 => ?_) (fun hc2 => ?_)
         ·skip
          refine qV (ypF rfl rfl) ?_; refine qV (ymv rfl) ?_; refine qS ?_; refine qS ?_; refine qS ?_; refine qS ?_; refine qS ?_; refine qV (ypT rfl rfl) ?_; refine rEnd ?_; refine run_true rfl ?_; refine run_seq ?_; refine run_reg rfl ?_; refine qV (yas rfl) ?_; refine qV (yas rfl) ?_; refine rEnd ?_; refine run_ret Tryz.func17 rfl ?_
          exact ⟨_, rfl, hx1.trans hx16, .inl ⟨hbad (.inl (by omega)), rfl⟩⟩
         ·skip
          refine qV (ypF rfl rfl) ?_; refine qV (ymv rfl) ?_; refine qV (ymv rfl) ?_; refine qV (yfa fl55_0 rfl) ?_; refine qV (yld U3 rfl rfl hB6 rfl) ?_; refine qV (ylk (k := y.1) (K := KZ) U72 (ky_int U3) ti3 rfl rfl hM6.l) ?_
          rw [hget2]
          refine qV (ygt rfl rfl) ?_; refine rVal_if (fun hc3 => ?_) (fun hc3 => ?_)
          ·skip
           refine qV (ypF rfl rfl) ?_; refine rEnd ?_; refine run_true rfl ?_; refine run_seq ?_; refine run_reg rfl ?_; refine qV (yas rfl) ?_; refine qV (yas rfl) ?_; refine rEnd ?_; refine run_ret Tryz.func17 rfl ?_
           exact ⟨_, rfl, hx1.trans hx16, .inl ⟨hbad (.inr (hq'.elim (fun e => by have := e.1; omega) (fun e => e.2))), rfl⟩⟩
          ·skip
           obtain ⟨hnm, rfl⟩ : y.1 ∉ (l.take i).map (·.1) ∧ q = 0 := hq'.elim (fun e => ⟨e.2, e.1⟩) (fun e => by have := e.1; omega)
           refine qV (ypF rfl rfl) ?_; refine rEnd ?_; refine run_false rfl ?_; refine run_skip ?_; refine run_inBlock ?_; refine run_reg rfl ?_; refine qV (yad rfl rfl (by omega)) ?_; refine qV (ymv rfl) ?_; refine rEnd ?_
           have hmt : (l.take (i + 1)).map (·.1) = (l.take i).map (·.1) ++ [y.1] := map_take_succ hy
           refine (ih (i + 1) w6 ⟨by omega, hx16, ?_, fun x hx => ?_, _, hM6, fun x => ?_⟩ (by omega)).qb
           ·rw [hmt]
            exact List.nodup_append.2 ⟨hnd, by simp, fun a ha b hb e => by simp at hb; subst hb; subst e; exact hnm ha⟩
           ·rcases (mem_take_succ hy).1 hx with hx | rfl
            ·exact hall x hx
            ·omega
           ·rw [getL_put, hkv x, hmt]
            simp only [List.mem_append, List.mem_singleton]
            by_cases hxs : x = y.1
            ·rw [if_pos hxs, if_pos (.inr hxs)]; rfl
            ·rw [if_neg hxs]
             by_cases hxm : x ∈ (l.take i).map (·.1)
             ·rw [if_pos hxm, if_pos (.inl hxm)]
             ·rw [if_neg hxm, if_neg (fun hh => hh.elim hxm hxs)]
       ·skip
        have : i = l.length := by omega
        subst this
        rw [List.take_length] at hnd hall
        refine run_exit rfl ?_
        exact (hkp _ _ ⟨rfl, hxi, hz, ⟨by omega, by omega⟩, hnd, hall⟩).qb
 ·skip
  refine qV (ymv rfl) ?_; refine qV (yex rfl rfl) ?_; refine qV (yex rfl rfl) ?_; refine qV (yas rfl) ?_; refine qV (yas rfl) ?_; refine rEnd ?_; refine run_seq ?_; refine run_seq ?_; refine run_reg rfl ?_; refine qV (ymv rfl) ?_; refine qV (yne rfl rfl) ?_; refine qV (ymv rfl) ?_; refine rVal_if (fun h0 => ?_) (fun h0 => ?_)
  ·skip
   refine qS ?_; refine qS ?_; refine qV (ypT rfl rfl) ?_; refine qV (ymv rfl) ?_; refine qS ?_; refine qS ?_; refine qV (ypT rfl rfl) ?_; refine rEnd ?_; refine run_true rfl ?_; refine run_seq ?_; refine run_reg rfl ?_; refine qV (yas rfl) ?_; refine qV (yas rfl) ?_; refine rEnd ?_; refine run_ret Tryz.func17 rfl ?_
   exact ⟨_, rfl, hx1, .inl ⟨fun h => hz h.1, rfl⟩⟩
  ·exact absurd (by decide) h0
end
end Go.Proofs.YtocnhaoilnojmaaGreat
namespace Go.Proofs.YtocnhaoilnojmaaGreat
open Go Go.RowKit
set_option linter.all false
set_option maxRecDepth 100000
section
variable {P : Program} {e : Env} {d : Option Nat} {ty t t' kt el : TypeId} {pos : String} {aft : Array Edge} {g : Option (Nat × Bool)} {x y u u2 : Operand} {w : World}
/-- s[:j] of any slice. -/
theorem yslT {z v : Value} {size bytes n cap j : Nat} {a : Option Addr} {k : IntKind} {zb : Int} [hzb : NatC zb j] (ht : P.underlying t = some (.slice el)) (hs : TI P el z size bytes) (hx : look e x = some (.slice a n cap))
  (hu : look e u = some (.int k zb)) (h : j ≤ cap) (hv : Value.slice (if cap = 0 then a else a.map (·.add (0 * size))) j cap = v) :
  Y P e ⟨d, .slice t x none (some u) none, ty, pos, aft, g⟩ v w w := fun ρ hρ => by
 obtain ⟨rfl⟩ := hzb
 have hsz := hs.size (w := w)
 have h1 : ∀ w, (Instr.sliceBound (.int k (j : Int)) cap .sliceAcap).run P w = .ok j w := fun w => by rw [run_sliceBound _ _ _ _ _ (by omega) (by omega)]; simp
 subst hv
 simp [execOp, hρ _ _ hx, hρ _ _ hu, Instr.sliceAt, run_underlying ht, Instr.slice, Instr.sliceBounds, h1, hsz]
end
theorem Rd.cap {w : World} {a : Option Addr} {n cap size : Nat} {cs : List Value} (h : Rd w (.slice a n cap) size n cs) (h0 : n = 0 ∨ n ≤ cap) : n ≤ cap := by omega
theorem rd_pre {w : World} {a : Option Addr} {n cap size j : Nat} {cs : List Value} (h : Rd w (.slice a n cap) size n cs) (hj : j ≤ n) : ∃ v, Value.slice (if cap = 0 then a else a.map (·.add (0 * size))) j cap = v ∧ Rd w v size j (cs.take (j * size)) := by
 refine ⟨_, rfl, by rw [List.length_take, h.1]; exact Nat.min_eq_left (Nat.mul_le_mul_right _ hj), ?_⟩
 rcases h.2 with ⟨c, hv, h0⟩ | ⟨b, off, cap2, hv, hc⟩
 ·have : j = 0 := by omega
  subst this
  exact .inl ⟨⟨_, _⟩, rfl, rfl⟩
 ·cases hv
  refine .inr ⟨b, off, cap, by split <;> simp [Addr.add], fun j u hj => ?_⟩
  rw [List.getElem?_take] at hj
  split at hj
  ·exact hc _ _ hj
  ·cases hj
theorem rd_en0 {w : World} {b off n cap : Nat} {l : Es} {i : Nat} {y : Bytes × Bytes} (h : Rd w (.slice (some ⟨b, off, none⟩) n cap) 2 n (esC l)) (hi : i < n) (hy : l[i]? = some y) : w.cell? ⟨b, off + i * 2, none⟩ = some (S y.1) := by
 rcases h.2 with ⟨c, -, h0⟩ | ⟨b', off', cap', hv, hc⟩
 ·omega
 ·cases hv
  obtain ⟨f1, f2⟩ := flat2 (fun x : Bytes × Bytes => S x.1) (fun x : Bytes × Bytes => S x.2) l i
  rw [hy] at f1
  have := hc (2 * i) (S y.1) f1
  rw [show off + i * 2 = off + 2 * i by omega]; exact this
theorem rd_en1 {w : World} {b off n cap : Nat} {l : Es} {i : Nat} {y : Bytes × Bytes} (h : Rd w (.slice (some ⟨b, off, none⟩) n cap) 2 n (esC l)) (hi : i < n) (hy : l[i]? = some y) : w.cell? ⟨b, off + i * 2 + 1, none⟩ = some (S y.2) := by
 rcases h.2 with ⟨c, -, h0⟩ | ⟨b', off', cap', hv, hc⟩
 ·omega
 ·cases hv
  obtain ⟨f1, f2⟩ := flat2 (fun x : Bytes × Bytes => S x.1) (fun x : Bytes × Bytes => S x.2) l i
  rw [hy] at f2
  have := hc (2 * i + 1) (S y.2) f2
  rw [show off + i * 2 + 1 = off + (2 * i + 1) by omega]; exact this
theorem rd_ens {w : World} {a : Option Addr} {cap n : Nat} {l : Es} {i : Nat} (h : Rd w (.slice a n cap) 2 n (esC l)) (hn : n = l.length) (hi : i < n) : ∃ b off y, a = some ⟨b, off, none⟩ ∧ l[i]? = some y := by
 rcases h.2 with ⟨c, -, h0⟩ | ⟨b', off', cap', hv, hc⟩
 ·omega
 ·cases hv
  exact ⟨b', off', _, rfl, List.getElem?_eq_getElem (by omega)⟩
/-- The document's map in memory. -/
structure MpM (w : World) (q : Nat) (mv : Value) (es : Es) : Prop where
 blk : Blk w q [mv] 32
 sl : Sl w mv 41 2 es.length (esC es)
 ne : mv.ownBlock ≠ some q
 le : es.length ≤ 1000000
theorem MpM.ext {w w' : World} {q : Nat} {mv : Value} {es : Es} (h : MpM w q mv es) (k : Ext w w') : MpM w' q mv es := ⟨k.blk h.blk, h.sl.ext k, h.ne, h.le⟩
theorem MpM.kp {w w' : World} {q : Nat} {mv : Value} {es : Es} {F : Nat → Prop} (h : MpM w q mv es) (k : Kp F w w') (h1 : ¬ F q) (h2 : ∀ g, mv.ownBlock = some g → ¬ F g) : MpM w' q mv es := ⟨k.blk h.blk h1, h.sl.kp k h2, h.ne, h.le⟩
section
variable {w : World} {q : Nat} {mv : Value} {es : Es}
end
end Go.Proofs.YtocnhaoilnojmaaGreat
namespace Go.Proofs.YtocnhaoilnojmaaGreat
open Go Go.RowKit
set_option linter.all false
set_option maxRecDepth 100000
theorem rd_pg0 {w : World} {b off n cap : Nat} {l : Pgs} {i : Nat} {y : Int × Bytes} (h : Rd w (.slice (some ⟨b, off, none⟩) n cap) 2 n (pgC l)) (hi : i < n) (hy : l[i]? = some y) : w.cell? ⟨b, off + i * 2, none⟩ = some (I y.1) := rd_pg h hi hy 0 _ rfl
theorem rd_pg1 {w : World} {b off n cap : Nat} {l : Pgs} {i : Nat} {y : Int × Bytes} (h : Rd w (.slice (some ⟨b, off, none⟩) n cap) 2 n (pgC l)) (hi : i < n) (hy : l[i]? = some y) : w.cell? ⟨b, off + i * 2 + 1, none⟩ = some (S y.2) := rd_pg h hi hy 1 _ rfl
theorem nodup_get {α : Type} {l : List α} (h : l.Nodup) {i j : Nat} (hi : i < l.length) (hj : j < l.length) (e : l[i] = l[j]) : i = j := by
 have hp := List.pairwise_iff_getElem.1 h
 rcases Nat.lt_trichotomy i j with hl | hl | hl
 ·exact absurd e (hp i j hi hj hl)
 ·exact hl
 ·exact absurd e.symm (hp j i hj hi hl)
section
variable {w : World}
theorem find_ret {lv : Value} {l : Pgs} (hR : Rd w lv 2 l.length (pgC l)) (hl : l.length ≤ 1000000) (no : Int) : Ret Tryz.prog 53 [lv, I no] w fun v w' => w' = w ∧ ((∃ (i : Nat) (y : Int × Bytes), v = I (i : Int) ∧ l[i]? = some y ∧ y.1 = no ∧ no ∉ (l.take i).map (·.1)) ∨ (v = I (-1) ∧ no ∉ l.map (·.1))) := by
 obtain ⟨a, c, rfl, -⟩ := hR.shape
 refine ret_of_run (e := [(0, _), (1, _)]) Tryz.func53 rfl Tryz.ntmps53 rfl rfl ?_; refine run_seq ?_; refine run_reg rfl ?_; refine qV (yas rfl) ?_; refine rEnd ?_; refine run_seq ?_; refine run_seq ?_; refine run_reg rfl ?_; refine qV (yas rfl) ?_; refine rEnd ?_; refine run_block ?_; refine run_loop (α := Nat) (0) (fun i => [(0, .slice a l.length c), (1, I no), (5, I (i : Int))]) (fun i w' => w' = w ∧ i ≤ l.length ∧ no ∉ (l.take i).map (·.1)) (fun i => l.length - i) (by repeat (first | exact Sub.nil | refine Sub.cons rfl ?_)) ?hI ?hround
 case hI => exact ⟨rfl, Nat.zero_le _, by simp⟩
 case hround =>
  rintro i w1 ⟨rfl, hi, hall⟩ ih
  try dsimp only
  refine run_seq ?_; refine run_seq ?_; refine run_reg rfl ?_; refine qV (ymv rfl) ?_; refine qV (ymv rfl) ?_; refine qV (yln U33 rfl) ?_; refine qV (ylt rfl rfl) ?_; refine rEnd ?_; refine run_if rfl (fun hlt => ?_) (fun hlt => ?_)
  ·skip
   have hi' : i < l.length := by omega
   obtain ⟨lb, lo, y, rfl, hy⟩ := rd_pgs hR rfl hi'
   refine run_skip ?_; refine run_seq ?_; refine run_block ?_; refine run_seq ?_; refine run_reg rfl ?_; refine qV (ymv rfl) ?_; refine qV (ymv rfl) ?_; refine qV (yis U33 ti54 rfl rfl (by omega)) ?_; refine qV (yfa fl54_0 rfl) ?_; refine qV (yldc U3 rfl rfl (rd_pg0 hR hi' hy)) ?_; refine qV (ymv rfl) ?_; refine qV (yeq rfl rfl) ?_; refine rEnd ?_; refine run_if rfl (fun he => ?_) (fun he => ?_)
   ·skip
    refine run_seq ?_; refine run_reg rfl ?_; refine qV (ymv rfl) ?_; refine qV (yas rfl) ?_; refine rEnd ?_; refine run_ret Tryz.func53 rfl ?_
    exact ⟨_, rfl, rfl, .inl ⟨i, y, rfl, hy, he, hall⟩⟩
   ·skip
    refine run_skip ?_; refine run_inBlock ?_; refine run_reg rfl ?_; refine qV (ymv rfl) ?_; refine qV (yad rfl rfl (by omega)) ?_; refine qV (yas rfl) ?_; refine rEnd ?_; refine (ih (i + 1) _ ⟨rfl, by omega, fun hh => ?_⟩ (by omega)).qb
    obtain ⟨x, hx, e⟩ := List.mem_map.1 hh
    rcases (mem_take_succ hy).1 hx with hx | rfl
    ·exact hall (List.mem_map.2 ⟨x, hx, e⟩)
    ·exact he e
  ·skip
   rw [List.take_of_length_le (by omega)] at hall
   refine run_exit rfl ?_; refine run_seq ?_; refine run_reg rfl ?_; refine qV (yas rfl) ?_; refine rEnd ?_; refine run_ret Tryz.func53 rfl ?_
   exact ⟨_, rfl, rfl, .inr ⟨rfl, hall⟩⟩
theorem inside_ret {lo tb : Bytes} {hi : Option Bytes} (hto : spanOk hi tb) (k : Bytes) (w : World) : Ret Tryz.prog 89 [.agg (spanC lo hi tb).toArray, S k] w fun v w' => Ext w w' ∧ ∃ q : Bool, v = .bool q ∧ (q = true ↔ inB lo hi k) := by
 refine ret_of_run (e := [(0, _), (1, _)]) Tryz.func89 rfl Tryz.ntmps89 rfl rfl ?_; refine run_seq ?_; refine run_reg rfl ?_; refine rValP rfl rfl (pbx rfl (cs := spanC lo hi tb) rfl) ?_
 rintro _ w1 ⟨b, rfl, hb, hx1, hB1⟩
 replace hB1 : Blk w1 b [S lo, S tb, .bool hi.isSome] 100 := hB1
 refine qV (yas rfl) ?_; refine rEnd ?_; refine run_seq ?_; refine run_reg rfl ?_; refine qV (ymv rfl) ?_; refine qV (yfa fl100_0 rfl) ?_; refine qV (yld U9 rfl rfl hB1 rfl) ?_; refine qV (ygeS rfl rfl) ?_; refine qV (ymv rfl) ?_; refine rVal_bool (fun h1 => ?_) (fun h1 => ?_)
 ·skip
  have h1' : lt k lo = false := by simpa using h1
  cases hi with
  | none =>
    have hB1' : Blk w1 b [S lo, S tb, .bool false] 100 := hB1
    refine qV (yfa fl100_2 rfl) ?_; refine qV (yld U4 rfl rfl hB1' rfl) ?_; refine qV ((by first | exact yntd rfl | exact ynt rfl)) ?_; refine qV (ymv rfl) ?_; refine qS ?_; refine qS ?_; refine qS ?_; refine qS ?_; refine qV (ypT rfl rfl) ?_; refine qV (ypT rfl rfl) ?_; refine qV (yas rfl) ?_; refine rEnd ?_; refine run_ret Tryz.func89 rfl ?_
    exact ⟨_, rfl, hx1, _, rfl, ⟨fun _ => ⟨h1', fun u hu => by cases hu⟩, fun _ => rfl⟩⟩
  | some u =>
    obtain rfl := hto u rfl
    have hB1' : Blk w1 b [S lo, S tb, .bool true] 100 := hB1
    refine qV (yfa fl100_2 rfl) ?_; refine qV (yld U4 rfl rfl hB1' rfl) ?_; refine qV ((by first | exact yntd rfl | exact ynt rfl)) ?_; refine qV (ymv rfl) ?_; refine qV (ymv rfl) ?_; refine qV (yfa fl100_1 rfl) ?_; refine qV (yld U9 rfl rfl hB1' rfl) ?_; refine qV (yltS rfl rfl) ?_; refine qV (ypF rfl rfl) ?_; refine qV (ypT rfl rfl) ?_; refine qV (yas rfl) ?_; refine rEnd ?_; refine run_ret Tryz.func89 rfl ?_; refine ⟨_, rfl, hx1, _, rfl, ?_⟩
    unfold inB
    constructor
    ·intro h; exact ⟨h1', fun u hu => by cases hu; exact h⟩
    ·intro h; exact h.2 _ rfl
 ·skip
  have h1' : lt k lo = true := by simpa using h1
  refine qS ?_; refine qS ?_; refine qS ?_; refine qS ?_; refine qS ?_; refine qS ?_; refine qS ?_; refine qS ?_; refine qS ?_; refine qV (ypF rfl rfl) ?_; refine qV (yas rfl) ?_; refine rEnd ?_; refine run_ret Tryz.func89 rfl ?_; refine ⟨_, rfl, hx1, false, rfl, ⟨fun h => Bool.noConfusion h, fun h => by rw [h.1] at h1'; cases h1'⟩⟩
theorem numbers_ret (z root : Int) {lv : Value} {l : Pgs} (hR : Rd w lv 2 l.length (pgC l)) (hl : l.length ≤ 1000000) : Ret Tryz.prog 18 [I z, I root, lv] w fun v w' => w' = w ∧ ∃ q : Bool, v = .bool q ∧ (q = true ↔ numsOk z root l) := by
 obtain ⟨a, c, rfl, -⟩ := id hR.shape
 have hfd := find_ret hR hl
 refine ret_of_run (e := [(0, _), (1, _), (2, _)]) Tryz.func18 rfl Tryz.ntmps18 rfl rfl ?_; refine run_seq ?_; refine run_reg rfl ?_; refine qV (yas rfl) ?_; refine rEnd ?_; refine run_seq ?_; refine run_seq ?_; refine run_reg rfl ?_; refine qV (ymv rfl) ?_; refine rCall rfl rfl (yc (args := [.tmp 8]) cf23 rfl) (rsize_ret z _) ?_
 rintro _ w1 ⟨rfl, rfl⟩
 have hbad : ¬ numsOk z root l → ∃ v, Ending.returned (.bool false) = .returned v ∧ w1 = w1 ∧ ∃ q : Bool, v = .bool q ∧ (q = true ↔ numsOk z root l) := fun h => ⟨_, rfl, rfl, false, rfl, ⟨fun h => Bool.noConfusion h, fun hh => absurd hh h⟩⟩
 by_cases hz : sizeOk z
 ·rw [if_pos hz]
  refine qV (yne rfl rfl) ?_; refine qV (ymv rfl) ?_; refine rVal_if (fun h0 => ?_) (fun h0 => ?_)
  ·exact absurd rfl h0
  ·skip
   refine qV (ymv rfl) ?_; refine qV (ylt rfl rfl) ?_; refine qV (ypF rfl rfl) ?_; refine qV (ymv rfl) ?_; refine rVal_if (fun h1 => ?_) (fun h1 => ?_)
   ·skip
    refine qS ?_; refine qS ?_; refine qV (ypT rfl rfl) ?_; refine rEnd ?_; refine run_true rfl ?_; refine run_seq ?_; refine run_reg rfl ?_; refine qV (yas rfl) ?_; refine rEnd ?_; refine run_ret Tryz.func18 rfl ?_
    exact hbad (fun h => by have := h.2.1; omega)
   ·skip
    refine qV (ymv rfl) ?_; refine qV (ygt rfl rfl) ?_; refine qV (ypF rfl rfl) ?_; refine rEnd ?_; refine run_if rfl (fun h2 => ?_) (fun h2 => ?_)
    ·skip
     refine run_seq ?_; refine run_reg rfl ?_; refine qV (yas rfl) ?_; refine rEnd ?_; refine run_ret Tryz.func18 rfl ?_
     exact hbad (fun h => by have := h.2.1; omega)
    ·skip
     refine run_skip ?_; refine run_seq ?_; refine run_seq ?_; refine run_reg rfl ?_; refine qV (yas rfl) ?_; refine rEnd ?_; refine run_block ?_; refine run_loop (α := Nat) (0) (fun i => [(2, .slice a l.length c), (7, I (i : Int))]) (fun i w' => w' = w1 ∧ i ≤ l.length ∧ ((l.take i).map (·.1)).Nodup ∧ ∀ x ∈ l.take i, 1 ≤ x.1 ∧ x.1 ≤ 2147483647) (fun i => l.length - i) (by repeat (first | exact Sub.nil | refine Sub.cons rfl ?_)) ?hI ?hround
     case hI => exact ⟨rfl, Nat.zero_le _, by simp, by simp⟩
     case hround =>
      rintro i w2 ⟨rfl, hi, hnd, hall⟩ ih
      have hbad : ¬ numsOk z root l → ∃ v, Ending.returned (.bool false) = .returned v ∧ w2 = w2 ∧ ∃ q : Bool, v = .bool q ∧ (q = true ↔ numsOk z root l) := fun h => ⟨_, rfl, rfl, false, rfl, ⟨fun h => Bool.noConfusion h, fun hh => absurd hh h⟩⟩
      try dsimp only
      refine run_seq ?_; refine run_seq ?_; refine run_reg rfl ?_; refine qV (ymv rfl) ?_; refine qV (ymv rfl) ?_; refine qV (yln U33 rfl) ?_; refine qV (ylt rfl rfl) ?_; refine rEnd ?_; refine run_if rfl (fun hlt => ?_) (fun hlt => ?_)
      ·skip
       have hi' : i < l.length := by omega
       obtain ⟨lb, lo, y, rfl, hy⟩ := rd_pgs hR rfl hi'
       have hym := List.mem_of_getElem? hy
       obtain ⟨hi2, ey⟩ := List.getElem?_eq_some_iff.1 hy
       have hts : (l.take (i + 1)).map (·.1) = (l.take i).map (·.1) ++ [y.1] := by rw [List.take_succ_eq_append_getElem hi2, ey, List.map_append]; rfl
       refine run_skip ?_; refine run_seq ?_; refine run_block ?_; refine run_seq ?_; refine run_reg rfl ?_; refine qV (ymv rfl) ?_; refine qV (ymv rfl) ?_; refine qV (yis U33 ti54 rfl rfl (by omega)) ?_; refine qV (yfa fl54_0 rfl) ?_; refine qV (yldc U3 rfl rfl (rd_pg0 hR hi' hy)) ?_; refine qV (ylt rfl rfl) ?_; refine qV (ymv rfl) ?_; refine rVal_if (fun h3 => ?_) (fun h3 => ?_)
       ·skip
        refine qS ?_; refine qS ?_; refine qS ?_; refine qS ?_; refine qS ?_; refine qS ?_; refine qV (ypT rfl rfl) ?_; refine qV (ymv rfl) ?_; refine qS ?_; refine qS ?_; refine qS ?_; refine qS ?_; refine qS ?_; refine qS ?_; refine qS ?_; refine qS ?_; refine qS ?_; refine qV (ypT rfl rfl) ?_; refine rEnd ?_; refine run_true rfl ?_; refine run_seq ?_; refine run_reg rfl ?_; refine qV (yas rfl) ?_; refine rEnd ?_; refine run_ret Tryz.func18 rfl ?_
        exact hbad (fun h => by have := h.2.2.2 y hym; omega)
       ·skip
        refine qV (ymv rfl) ?_; refine qV (ymv rfl) ?_; refine qV (yis U33 ti54 rfl rfl (by omega)) ?_; refine qV (yfa fl54_0 rfl) ?_; refine qV (yldc U3 rfl rfl (rd_pg0 hR hi' hy)) ?_; refine qV (ygt rfl rfl) ?_; refine qV (ypF rfl rfl) ?_; refine qV (ymv rfl) ?_; refine rVal_if (fun h4 => ?_) (fun h4 => ?_)
        ·skip
         refine qS ?_; refine qS ?_; refine qS ?_; refine qS ?_; refine qS ?_; refine qS ?_; refine qS ?_; refine qS ?_; refine qS ?_; refine qV (ypT rfl rfl) ?_; refine rEnd ?_; refine run_true rfl ?_; refine run_seq ?_; refine run_reg rfl ?_; refine qV (yas rfl) ?_; refine rEnd ?_; refine run_ret Tryz.func18 rfl ?_
         exact hbad (fun h => by have := h.2.2.2 y hym; omega)
        ·skip
         refine qV (ymv rfl) ?_; refine qV (ymv rfl) ?_; refine qV (ymv rfl) ?_; refine qV (yis U33 ti54 rfl rfl (by omega)) ?_; refine qV (yfa fl54_0 rfl) ?_; refine qV (yldc U3 rfl rfl (rd_pg0 hR hi' hy)) ?_; refine rCall rfl rfl (yc (args := [.tmp 40, .tmp 45]) cf53 rfl) (hfd y.1) ?_
         rintro v2 w2 ⟨rfl, hv2⟩
         obtain ⟨j, y', rfl, hj, hjy, hjn⟩ : ∃ (j : Nat) (y' : Int × Bytes), v2 = I (j : Int) ∧ l[j]? = some y' ∧ y'.1 = y.1 ∧ y.1 ∉ (l.take j).map (·.1) := by
          rcases hv2 with h | ⟨-, h⟩
          ·exact h
          ·exact absurd (List.mem_map.2 ⟨y, hym, rfl⟩) h
         refine qV (ymv rfl) ?_; refine qV (yne rfl rfl) ?_; refine qV (ypF rfl rfl) ?_; refine rEnd ?_; refine run_if rfl (fun h5 => ?_) (fun h5 => ?_)
         ·skip
          refine run_seq ?_; refine run_reg rfl ?_; refine qV (yas rfl) ?_; refine rEnd ?_; refine run_ret Tryz.func18 rfl ?_; refine hbad (fun h => ?_)
          have hnn := h.2.2.1
          have e1 : (l.map (·.1))[j]? = some y.1 := by rw [List.getElem?_map, hj, ← hjy]; rfl
          have e2 : (l.map (·.1))[i]? = some y.1 := by rw [List.getElem?_map, hy]; rfl
          obtain ⟨j1, j2⟩ := List.getElem?_eq_some_iff.1 e1
          obtain ⟨k1, k2⟩ := List.getElem?_eq_some_iff.1 e2
          have := (nodup_get hnn j1 k1) (by rw [j2, k2])
          omega
         ·skip
          have hji : j = i := by omega
          subst hji
          refine run_skip ?_; refine run_inBlock ?_; refine run_reg rfl ?_; refine qV (ymv rfl) ?_; refine qV (yad rfl rfl (by omega)) ?_; refine qV (yas rfl) ?_; refine rEnd ?_; refine (ih (j + 1) _ ⟨rfl, by omega, ?_, fun x hx => ?_⟩ (by omega)).qb
          ·rw [hts]
           exact List.nodup_append.2 ⟨hnd, by simp, fun a ha b hb => by simp at hb; subst hb; exact fun e => hjn (e ▸ ha)⟩
          ·rcases (mem_take_succ hy).1 hx with hx | rfl
           ·exact hall x hx
           ·omega
      ·skip
       rw [List.take_of_length_le (by omega)] at hall hnd
       refine run_exit rfl ?_; refine run_seq ?_; refine run_reg rfl ?_; refine qV (yas rfl) ?_; refine rEnd ?_; refine run_ret Tryz.func18 rfl ?_
       exact ⟨_, rfl, rfl, true, rfl, ⟨fun _ => ⟨hz, by omega, hnd, hall⟩, fun _ => rfl⟩⟩
 ·rw [if_neg hz]
  refine qV (yne rfl rfl) ?_; refine qV (ymv rfl) ?_; refine rVal_if (fun h0 => ?_) (fun h0 => ?_)
  ·skip
   refine qS ?_; refine qS ?_; refine qV (ypT rfl rfl) ?_; refine qV (ymv rfl) ?_; refine qS ?_; refine qS ?_; refine qV (ypT rfl rfl) ?_; refine rEnd ?_; refine run_true rfl ?_; refine run_seq ?_; refine run_reg rfl ?_; refine qV (yas rfl) ?_; refine rEnd ?_; refine run_ret Tryz.func18 rfl ?_
   exact hbad (fun h => hz h.1)
  ·exact absurd (by decide) h0
end
end Go.Proofs.YtocnhaoilnojmaaGreat
namespace Go.Proofs.YtocnhaoilnojmaaGreat
open Go Go.RowKit
set_option linter.all false
set_option maxRecDepth 100000
/-- What a call leaves of the document's map. -/
def MpS (q : Nat) (w w' : World) (es' : Es) : Prop := ∃ mv', MpM w' q mv' es' ∧ Kp (fun k => k = q) w w' ∧ ∀ g, mv'.ownBlock = some g → w.heap.size ≤ g
theorem esC_one1 (es : Es) : ∀ c ∈ esC es, c.oneCell' = true := fun c hc => by
 obtain ⟨x, -, hx⟩ := List.mem_flatMap.1 hc
 simp at hx
 rcases hx with rfl | rfl <;> rfl
section
variable {w : World} {q : Nat} {mv : Value} {es : Es}
end
end Go.Proofs.YtocnhaoilnojmaaGreat
namespace Go.Proofs.YtocnhaoilnojmaaGreat
open Go Go.RowKit
set_option linter.all false
set_option maxRecDepth 100000
/-- How often each page was come to. -/
def metC (l : Pgs) (V : List Int) : List Value := l.map fun y => I (if y.1 ∈ V then 1 else 0)
theorem metC_same {l : Pgs} {V V' : List Int} (h : ∀ x, x ∈ V ↔ x ∈ V') : metC l V = metC l V' := by
 unfold metC
 apply List.map_congr_left
 intro y _
 by_cases hy : y.1 ∈ V
 ·rw [if_pos hy, if_pos ((h _).1 hy)]
 ·rw [if_neg hy, if_neg (fun e => hy ((h _).2 e))]
theorem metC_get {l : Pgs} {V : List Int} {i : Nat} {y : Int × Bytes} (hy : l[i]? = some y) : (metC l V)[i]? = some (I (if y.1 ∈ V then 1 else 0)) := by
 unfold metC; rw [List.getElem?_map, hy]; rfl
theorem metC_set {l : Pgs} {V : List Int} {i : Nat} {y : Int × Bytes} (hn : (l.map (·.1)).Nodup) (hy : l[i]? = some y) (hV : y.1 ∉ V) : (metC l V).set i (I 1) = metC l (y.1 :: V) := by
 apply List.ext_getElem?
 intro j
 rw [List.getElem?_set]
 by_cases e : i = j
 ·subst e
  have hl : i < (metC l V).length := by unfold metC; rw [List.length_map]; exact (List.getElem?_eq_some_iff.1 hy).1
  rw [if_pos rfl, if_pos hl, metC_get hy, if_pos (List.mem_cons_self ..)]
 ·rw [if_neg e]
  unfold metC
  rw [List.getElem?_map, List.getElem?_map]
  cases hj : l[j]? with
  | none => rfl
  | some x =>
    have hne : x.1 ≠ y.1 := fun he => by
     have e1 : (l.map (·.1))[i]? = some y.1 := by rw [List.getElem?_map, hy]; rfl
     have e2 : (l.map (·.1))[j]? = some y.1 := by rw [List.getElem?_map, hj, ← he]; rfl
     obtain ⟨j1, j2⟩ := List.getElem?_eq_some_iff.1 e1
     obtain ⟨k1, k2⟩ := List.getElem?_eq_some_iff.1 e2
     exact e (nodup_get hn j1 k1 (by rw [j2, k2]))
    simp [hne]
/-- What is gone through, in memory. -/
structure WkC (w : World) (q mb z : Nat) (lv : Value) (l : Pgs) : Prop where
 blk : Blk w q [I (z : Int), lv, .slice (some ⟨mb, 0, none⟩) l.length l.length] 97
 rd : Rd w lv 2 l.length (pgC l)
 n1 : q ≠ mb
 n2 : 0 < l.length → lv.ownBlock ≠ some mb
theorem WkC.kp {w w' : World} {q mb z : Nat} {lv : Value} {l : Pgs} (h : WkC w q mb z lv l) (k : Kp (fun k => k = mb) w w') : WkC w' q mb z lv l :=
 ⟨k.blk h.blk h.n1, Rd.kpz h.rd k (fun h0 g hg e => h.n2 h0 (by rw [hg, e])), h.n1, h.n2⟩
theorem WkC.ext {w w' : World} {q mb z : Nat} {lv : Value} {l : Pgs} (h : WkC w q mb z lv l) (k : Ext w w') : WkC w' q mb z lv l := h.kp k.kp
def WkAt (q mb z : Nat) (lv : Value) (l : Pgs) (k : Nat) : Prop := ∀ (w : World) (no : Int) (lo : Bytes) (hi : Option Bytes) (tb : Bytes) (V : List Int) (rt : Bool),
 WkC w q mb z lv l → Blk w mb (metC l V) 3 → V.Nodup → (∀ x ∈ V, x ∈ l.map (·.1)) → l.length ≤ V.length + k → spanOk hi tb →
 Ret Tryz.prog 54 [ptr q 0, I no, .agg (spanC lo hi tb).toArray, .bool rt] w fun v w' => Kp (fun k => k = mb) w w' ∧
  ((∃ (h : Nat) (ns : List Int) (es : Es) (ov : Value), v = .tuple #[ov, I (h : Int), .bool true] ∧ Sub1 z (nodesOf z l) V rt no lo hi h ns es ∧ Sl w' ov 41 2 es.length (esC es) ∧ (∀ g, ov.ownBlock = some g → w.heap.size ≤ g) ∧ Blk w' mb (metC l (ns ++ V)) 3 ∧ es.length ≤ ns.length * 100000) ∨ (v = .tuple #[.slice none 0 0, I 0, .bool false] ∧ NoSub z (nodesOf z l) V rt no lo hi))
theorem dec_uni {w w' : World} {v : Value} {s : Bytes} (h : (∃ n kv vv cv, dec s = some n ∧ v = .tuple #[ndv n kv vv cv, I 0] ∧ NdP w' n kv vv cv ∧ ∀ g, kv.ownBlock = some g ∨ vv.ownBlock = some g ∨ cv.ownBlock = some g → w.heap.size ≤ g) ∨ (dec s = none ∧ v = .tuple #[.agg #[.bool false, .slice none 0 0, .slice none 0 0, .slice none 0 0], I 4])) :
  ∃ n kv vv cv x, v = .tuple #[ndv n kv vv cv, I x] ∧ NdP w' n kv vv cv ∧ (∀ g, ownP kv vv cv g → w.heap.size ≤ g) ∧ ((dec s = some n ∧ x = 0) ∨ (dec s = none ∧ x = 4)) := by
 rcases h with ⟨n, kv, vv, cv, h1, h2, h3, h4⟩ | ⟨h1, h2⟩
 ·exact ⟨n, kv, vv, cv, 0, h2, h3, h4, .inl ⟨h1, rfl⟩⟩
 ·exact ⟨⟨false, [], [], []⟩, _, _, _, 4, h2, ⟨Sl.nil _ _ _, Sl.nil _ _ _, Sl.nil _ _ _, ⟨by decide, by decide, by decide, by simp, by simp, by simp⟩, fun g hg => by simp [Value.ownBlock] at hg, fun g hg => by simp [Value.ownBlock] at hg⟩, fun g hg => by simp [ownP, Value.ownBlock] at hg, .inr ⟨h1, rfl⟩⟩
set_option maxHeartbeats 8000000 in
theorem wkAt_step {q mb z k : Nat} {lv : Value} {l : Pgs} (hz : sizeOk (z : Int)) (hnn : (l.map (·.1)).Nodup) (hl : l.length ≤ 1000000) (ht : ∀ y ∈ l, y.2.length ≤ 140737488355328) (ihk : ∀ k', k' < k → WkAt q mb z lv l k') : WkAt q mb z lv l k := by
 intro w no lo hi tb V rt hc hm hVn hVp hk hto
 obtain ⟨z1, z2, -⟩ := id hz
 have hoz : orderE z ≤ 1100 := by unfold orderE; omega
 obtain ⟨la, lc, rfl, -⟩ := hc.rd.shape
 have hml : maxLen = 9223372036854775807 := rfl
 refine ret_of_run (e := [(0, _), (1, _), (2, _), (3, _)]) Tryz.func54 rfl Tryz.ntmps54 rfl rfl ?_; refine run_seq ?_; refine run_reg rfl ?_; refine rValP rfl rfl (pbx rfl (cs := spanC lo hi tb) rfl) ?_
 rintro _ w1 ⟨b6, rfl, hb6, hx1, hB6⟩
 replace hB6 : Blk w1 b6 [S lo, S tb, .bool hi.isSome] 100 := hB6
 have hc1 := hc.ext hx1
 have hm1 := hx1.blk hm
 have hBc1 := hc1.blk
 have hl6 := hB6.lt
 have hlm := hm.lt
 have hlq := hc.blk.lt
 have hz1 := hx1.size
 have hbad : ∀ {w' : World}, Kp (fun k => k = mb) w w' → NoSub z (nodesOf z l) V rt no lo hi → Kp (fun k => k = mb) w w' ∧ ((∃ (h : Nat) (ns : List Int) (es : Es) (ov : Value), (Value.tuple #[.slice none 0 0, I 0, .bool false]) = .tuple #[ov, I (h : Int), .bool true] ∧ Sub1 z (nodesOf z l) V rt no lo hi h ns es ∧ Sl w' ov 41 2 es.length (esC es) ∧ (∀ g, ov.ownBlock = some g → w.heap.size ≤ g) ∧ Blk w' mb (metC l (ns ++ V)) 3 ∧ es.length ≤ ns.length * 100000) ∨ ((Value.tuple #[.slice none 0 0, I 0, .bool false]) = .tuple #[.slice none 0 0, I 0, .bool false] ∧ NoSub z (nodesOf z l) V rt no lo hi)) := fun hk hn => ⟨hk, .inr ⟨rfl, hn⟩⟩
 refine qV (yas rfl) ?_; refine qV (yas rfl) ?_; refine qV (yas rfl) ?_; refine rEnd ?_; refine run_seq ?_; refine run_reg rfl ?_; refine qV (ymv rfl) ?_; refine qV ((by first | exact ync rfl | exact yncf rfl)) ?_; refine qV (yfa fl97_1 rfl) ?_; refine qV (yld U33 rfl rfl hBc1 rfl) ?_; refine qV (ymv rfl) ?_; refine rCall rfl rfl (yc (args := [.tmp 28, .tmp 29]) cf53 rfl) (find_ret hc1.rd hl no) ?_
 rintro v1 w1 ⟨rfl, hv⟩
 rcases hv with ⟨i, y, rfl, hy, hyn, -⟩ | ⟨rfl, hno⟩
 ·subst hyn
  have hi' : i < l.length := (List.getElem?_eq_some_iff.1 hy).1
  have hym := List.mem_of_getElem? hy
  obtain ⟨lb, lof, y', rfl, hy'⟩ := rd_pgs hc.rd rfl hi'
  have hmg := metC_get (V := V) hy
  have hml1 : (metC l V).length = l.length := by unfold metC; rw [List.length_map]
  obtain ⟨cnt, hcnt⟩ : ∃ cnt : Nat, (if y.1 ∈ V then (1 : Int) else 0) = (cnt : Int) ∧ ((cnt = 0 ∧ y.1 ∉ V) ∨ (cnt = 1 ∧ y.1 ∈ V)) := by
   by_cases hmV : y.1 ∈ V
   ·exact ⟨1, by rw [if_pos hmV]; rfl, .inr ⟨rfl, hmV⟩⟩
   ·exact ⟨0, by rw [if_neg hmV]; rfl, .inl ⟨rfl, hmV⟩⟩
  rw [hcnt.1] at hmg
  have hnodes : nodesOf z l y.1 = ndOf z y.2 := nodesOf_mem hnn hym
  refine qV (yas rfl) ?_; refine rEnd ?_; refine run_seq ?_; refine run_seq ?_; refine run_reg rfl ?_; refine qV (ymv rfl) ?_; refine qV (ylt rfl rfl) ?_; refine rEnd ?_; refine run_if rfl (fun h0 => ?_) (fun h0 => ?_)
  ·omega
  ·skip
   refine run_skip ?_; refine run_seq ?_; refine run_reg rfl ?_; refine qV (ymv rfl) ?_; refine qV ((by first | exact ync rfl | exact yncf rfl)) ?_; refine qV (yfa fl97_2 rfl) ?_; refine qV (yld U34 rfl rfl hBc1 rfl) ?_; refine qV (ymv rfl) ?_; refine qV (yis U34 ti3 rfl rfl (by omega)) ?_; refine qV (yldc U3 rfl rfl (by rw [hm1.cell]; rw [Nat.zero_add, Nat.mul_one]; exact hmg)) ?_
   refine qV (yad rfl rfl (by omega)) ?_; refine qV (yis U34 ti3 rfl rfl (by omega)) ?_; refine rEffP rfl (zst ti3 rfl rfl rfl hm1 (by omega)) ?_
   rintro w2 ⟨hm2, hk2⟩
   have hc2 := hc1.kp hk2
   have hz2 := hk2.size
   have hBc2 := hc2.blk
   rw [Nat.zero_add, Nat.mul_one] at hm2
   have hB62 := hk2.blk hB6 (by omega)
   refine rEnd ?_; refine Run.qb (e := [(0, _), (3, _), (6, _), (8, _), (9, _), (10, _), (11, _)]) ?_; refine run_seq ?_; refine run_reg rfl ?_; refine qV (ymv rfl) ?_; refine qV ((by first | exact ync rfl | exact yncf rfl)) ?_; refine qV (yfa fl97_1 rfl) ?_; refine qV (yld U33 rfl rfl hBc2 rfl) ?_; refine qV (ymv rfl) ?_; refine qV (yis U33 ti54 rfl rfl (by omega)) ?_; refine qV (yfa fl54_1 rfl) ?_; refine qV (yldc U9 rfl rfl (rd_pg1 hc2.rd hi' hy)) ?_; refine rCall rfl rfl (yc (args := [.tmp 50]) cf86 rfl) (rdecode_ret y.2 (ht y hym) w2) ?_
   rintro v3 w3 ⟨hx3, hv3⟩
   obtain ⟨n, kv, vv, cv, x, rfl, hP, hPlo, hdx⟩ := dec_uni hv3
   obtain ⟨ka, kac, hkq, -⟩ := hP.keys.rd.shape
   obtain ⟨va, vac, hvq, -⟩ := hP.vals.rd.shape
   obtain ⟨ca, cac, hcq, -⟩ := hP.kids.rd.shape
   subst hkq
   subst hvq
   subst hcq
   unfold ndv
   refine qV (ymv rfl) ?_; refine qV (yex rfl rfl) ?_; refine qV (yex rfl rfl) ?_; refine rValP rfl rfl (pal (cs := [_, _, _, _]) ti130 rfl) ?_
   rintro _ w4 ⟨b12, rfl, hb12, hx4, hB4⟩
   refine rEffP rfl (zstA ti130 rfl rfl rfl rfl hB4 (by simp)) ?_
   rintro w5 ⟨hB5, hk5⟩
   have hB12 : Blk w5 b12 [.bool n.leaf, .slice ka n.keys.length kac, .slice va n.vals.length vac, .slice ca n.kids.length cac] 130 := hB5
   have hz3 := hx3.size
   have hz4 := hx4.size
   have hl12 := hB4.lt
   have hx35 : Ext w3 w5 := hx4.trans_new hk5 (fun j hj => by omega)
   have hx25 := hx3.trans hx35
   have hz5 := hx25.size
   have hP5 := hP.kp hx35.kp (fun _ _ => id)
   have hbo : ∀ g, ownP (.slice ka n.keys.length kac) (.slice va n.vals.length vac) (.slice ca n.kids.length cac) g → g < w3.heap.size := fun g hg => hP.lt hg
   have hc5 := hc2.ext hx25
   have hm5 := hx25.blk hm2
   have hB65 := hx25.blk hB62
   have hk05 : Kp (fun k => k = mb) w w5 := (hx1.kp.trans hk2).trans hx25.kp
   have hBc5 := hc5.blk
   refine qV (yas rfl) ?_; refine rEnd ?_; refine run_seq ?_; refine run_seq ?_; refine run_cut (fun e' w' => ∃ f : Bool, e' = [(0, ptr q 0), (3, .bool rt), (6, ptr b6 0), (12, ptr b12 0), (81, .bool f)] ∧ Ext w5 w' ∧ (f = true → NoSub z (nodesOf z l) V rt y.1 lo hi) ∧ (f = false → nodesOf z l y.1 = some n ∧ y.1 ∉ V)) ?hkf (fun hkf => ?hmainf)
   case hkf =>
    rintro e' w6 ⟨f, rfl, hx6, hf1, hf2⟩
    refine run_cond rfl (fun hff => ?_) (fun hff => ?_)
    ·skip
     refine run_seq ?_; refine run_reg rfl ?_; refine qV (yas rfl) ?_; refine qV (yas rfl) ?_; refine qV (yas rfl) ?_; refine rEnd ?_; refine run_ret Tryz.func54 rfl ?_
     exact ⟨_, rfl, hbad (hk05.trans hx6.kp) (hf1 hff)⟩
    ·skip
     obtain ⟨hn, hnV⟩ := hf2 hff
     have hokn : NdOk z n := (nodesOf_ok hn).1.ok
     have hbd := hP5.bd
     have hbc := hbd.cl
     have hkll := hbd.kl
     obtain rfl : cnt = 0 := hcnt.2.elim (fun e => e.1) (fun e => absurd e.2 hnV)
     have hc6 := hc5.ext hx6
     have hm6 : Blk w6 mb (metC l (y.1 :: V)) 3 := by
      rw [← metC_set hnn hy hnV]
      exact hx6.blk hm5
     have hB66 := hx6.blk hB65
     have hB126 := hx6.blk hB12
     have hP6 := hP5.kp hx6.kp (fun _ _ => id)
     have hk06 := hk05.trans hx6.kp
     have hz6 := hx6.size
     have hBc6 := hc6.blk
     refine run_skip ?_; refine run_seq ?_; refine run_reg rfl ?_; refine qV (ymv rfl) ?_; refine qV ((by first | exact ync rfl | exact yncf rfl)) ?_; refine qV (yfa fl97_0 rfl) ?_; refine qV (yld U3 rfl rfl hBc6 rfl) ?_; refine rCall rfl rfl (yc (args := [.tmp 86]) cf87 rfl) (rorder_ok hz _) ?_
     rintro _ w6 ⟨rfl, rfl⟩
     refine qV (ymv rfl) ?_; refine qV (yex rfl rfl) ?_; refine qV (yex rfl rfl) ?_; refine qV (yas rfl) ?_; refine qV (yas rfl) ?_; refine rEnd ?_; refine run_seq ?_; refine run_seq ?_; refine run_cut (fun e' w' => ∃ g : Bool, e' = [(0, ptr q 0), (6, ptr b6 0), (12, ptr b12 0), (134, .bool g)] ∧ Ext w6 w' ∧ (g = true → NoSub z (nodesOf z l) V rt y.1 lo hi) ∧ (g = false → if rt = true then n.keys ≠ [] else ¬ n.low z)) ?hkg (fun hkg => ?hmaing)
     case hkg =>
      rintro e' w7 ⟨g, rfl, hx7, hg1, hg2⟩
      have hk07 := hk06.trans hx7.kp
      refine run_cond rfl (fun hgg => ?_) (fun hgg => ?_)
      ·skip
       refine run_seq ?_; refine run_reg rfl ?_; refine qV (yas rfl) ?_; refine qV (yas rfl) ?_; refine qV (yas rfl) ?_; refine rEnd ?_; refine run_ret Tryz.func54 rfl ?_
       exact ⟨_, rfl, hbad hk07 (hg1 hgg)⟩
      ·skip
       have hcnd := hg2 hgg
       have hc7 := hc6.ext hx7
       have hm7 := hx7.blk hm6
       have hB67 := hx7.blk hB66
       have hB127 := hx7.blk hB126
       have hP7 := hP6.kp hx7.kp (fun _ _ => id)
       have hz7 := hx7.size
       refine run_skip ?_; refine run_seq ?_; refine run_seq ?_; refine run_reg rfl ?_; refine qV (yas rfl) ?_; refine rEnd ?_; refine run_block ?_; refine run_cut2 (fun e' w' => e' = [(0, ptr q 0), (6, ptr b6 0), (12, ptr b12 0)] ∧ Ext w7 w' ∧ ∀ k ∈ n.keys, inB lo hi k) ?hkl (fun hkl => ?hmainl)
       case hkl =>
        rintro e' w8 ⟨rfl, hx8, hin⟩
        have hk08 := hk07.trans hx8.kp
        have hc8 := hc7.ext hx8
        have hm8 := hx8.blk hm7
        have hB68 := hx8.blk hB67
        have hB128 := hx8.blk hB127
        have hP8 := hP7.kp hx8.kp (fun _ _ => id)
        have hz8 := hx8.size
        have hc8' := hc8
        have hlw : w.heap.size ≤ w8.heap.size := by omega
        have hnb : ∀ g, ownP (.slice ka n.keys.length kac) (.slice va n.vals.length vac) (.slice ca n.kids.length cac) g → g ≠ mb := fun g hg => by
         have := hPlo g hg
         omega
        have hsubn : ∀ x, nodesOf z l x ≠ none → x ∈ l.map (·.1) := fun x hx => by
         obtain ⟨m, hm⟩ := Option.ne_none_iff_exists'.1 hx
         exact (nodesOf_ok hm).2
        have hno : y.1 ∈ l.map (·.1) := List.mem_map.2 ⟨y, hym, rfl⟩
        have hll : (l.map (·.1)).length = l.length := by simp
        have hVlt : V.length < l.length := by
         have : (y.1 :: V).length ≤ (l.map (·.1)).length := List.Nodup.length_le_of_subset (List.nodup_cons.2 ⟨hnV, hVn⟩) (fun x hx => by
          rcases List.mem_cons.1 hx with rfl | hx
          ·exact hno
          ·exact hVp x hx)
         rw [List.length_cons] at this
         omega
        refine run_seq ?_; refine run_reg rfl ?_; refine qV (yas rfl) ?_; refine rEnd ?_; refine run_seq ?_; refine run_seq ?_; refine run_reg rfl ?_; refine qV (yfa fl130_0 rfl) ?_; refine qV (yld U4 rfl rfl hB128 rfl) ?_
        rcases nd_cases hokn with ⟨E, rfl⟩ | ⟨c, ps, rfl⟩
        ·have hkE : (leafNd E).keys.length = E.length := by simp [leafNd]
         have hvE : (leafNd E).vals.length = E.length := by simp [leafNd]
         have hE1 : E.length ≤ 100000 := by omega
         refine rEnd ?_; refine run_true rfl ?_; refine run_seq ?_; refine run_seq ?_; refine run_reg rfl ?_; refine qV (yas rfl) ?_; refine rEnd ?_; refine run_block ?_; refine run_loop (α := Nat × Value) ((0, .slice none 0 0)) (fun x => [(12, ptr b12 0), (17, x.2), (18, I (x.1 : Int))]) (fun x w' => x.1 ≤ E.length ∧ Ext w8 w' ∧ Sl w' x.2 41 2 (E.take x.1).length (esC (E.take x.1)) ∧ ∀ g, x.2.ownBlock = some g → w8.heap.size ≤ g) (fun x => E.length - x.1) (by repeat (first | exact Sub.nil | refine Sub.cons rfl ?_)) ?hI ?hround
         case hI => exact ⟨Nat.zero_le _, Ext.refl _, Sl.nil _ _ _, fun g hg => by simp [Value.ownBlock] at hg⟩
         case hround =>
          rintro ⟨j, ov⟩ w9 ⟨hj, hx9, hS9, ho9⟩ ih
          dsimp only at hj hS9 ho9
          have htl : (E.take j).length = j := by rw [List.length_take]; omega
          have hB129 := hx9.blk hB128
          have hK8 := hP8.keys.rd
          have hV8 := hP8.vals.rd
          try dsimp only
          refine run_seq ?_; refine run_seq ?_; refine run_reg rfl ?_; refine qV (ymv rfl) ?_; refine qV (yfa fl130_1 rfl) ?_; refine qV (yld U23 rfl rfl hB129 rfl) ?_; refine qV (yln U23 rfl) ?_; refine qV (ylt rfl rfl) ?_; refine rEnd ?_; refine run_if rfl (fun hlt => ?_) (fun hlt => ?_)
          ·skip
           have hj' : j < E.length := by omega
           obtain ⟨x, hx⟩ : ∃ x, E[j]? = some x := ⟨_, List.getElem?_eq_getElem hj'⟩
           obtain ⟨kb, ko, s, rfl, hs⟩ := rd_getsK hK8 (by simp) (show j < _ by omega)
           obtain ⟨kb2, ko2, s2, rfl, hs2⟩ := rd_getsK hV8 (by simp) (show j < _ by omega)
           have es : s = x.1 := by simp [leafNd, hx] at hs; exact hs.symm
           have es2 : s2 = x.2 := by simp [leafNd, hx] at hs2; exact hs2.symm
           have hg : Ext w8 w9.drew := hx9.trans (Ext.drew0 w9)
           refine run_skip ?_; refine run_seq ?_; refine run_block ?_; refine run_draw (fun w' => Ext w8 w') (by kernel_rfl) rfl ?_; refine qT 0 rfl (fun _ hS => ymv rfl) (hg) ?_; refine qT 1 rfl (fun _ hS => yfa fl130_1 rfl) (hg) ?_; refine qT 2 rfl (fun _ hS => yld U23 rfl rfl (hS.blk hB128) rfl) (hg) ?_; refine qT 3 rfl (fun _ hS => ymv rfl) (hg) ?_; refine qT 4 rfl (fun _ hS => yis U23 ti9 rfl rfl (by omega)) (hg) ?_; refine qT 6 rfl (fun _ hS => yfa fl130_2 rfl) (hg) ?_; refine qT 7 rfl (fun _ hS => yld U23 rfl rfl (hS.blk hB128) rfl) (hg) ?_
           refine qT 8 rfl (fun _ hS => ymv rfl) (hg) ?_; refine qT 9 rfl (fun _ hS => yis U23 ti9 rfl rfl (by omega)) (hg) ?_; refine qT 5 rfl (fun _ hS => yldc U9 rfl rfl (rd_str (hK8.ext hS) (by omega) hs)) (hg) ?_; refine qT 10 rfl (fun _ hS => yldc U9 rfl rfl (rd_str (hV8.ext hS) (by omega) hs2)) (hg) ?_
           rw [es, es2]
           refine qT 11 rfl (fun _ hS => ybd (parts := [(0, .tmp 164), (1, .tmp 169)]) (cs := [_, _]) ti41 rfl sp41 rfl rfl) (hg) ?_; refine qO 12 ?_; refine nValP (i := 12) rfl rfl rfl (pbs (parts := [(0, .tmp 170)]) (cs := [_, _]) (zs := [Value.string ⟨#[]⟩, Value.string ⟨#[]⟩]) U30 ti41 rfl (by kernel_rfl) rfl rfl rfl (by decide)) ?_
           rintro _ w10 ⟨b10, rfl, ⟨hb10, hx10, hB10⟩, hS10⟩
           refine ⟨hg.trans hx10, ?_⟩
           have hz9 := hx9.size
           have hgz := (hg.trans hx10).size
           refine qO 13 ?_; refine nValP (i := 13) rfl rfl rfl (pap U30 ti41 rfl (by decide) rfl rfl (hS9.ext ((Ext.drew0 w9).trans hx10)) hS10.rd (by intro c hc; simp at hc; rcases hc with rfl | rfl <;> rfl) (by omega) (by omega)) ?_
           rintro ov2 w11 ⟨hS11, hk11, ho11, -⟩
           refine ⟨(hg.trans hx10).trans_new hk11 (fun i hi => ho9 i hi), ?_⟩
           refine qT 14 rfl (fun _ hS => yas rfl) ((hg.trans hx10).trans_new hk11 (fun i hi => ho9 i hi)) ?_; refine qE ?_; refine run_inBlock ?_; refine run_reg rfl ?_; refine qV (ymv rfl) ?_; refine qV (yad rfl rfl (by omega)) ?_; refine qV (yas rfl) ?_; refine rEnd ?_; refine (ih (j + 1, ov2) w11 ⟨by dsimp only; omega, (hg.trans hx10).trans_new hk11 (fun i hi => ho9 i hi), ?_, fun g hg' => ?_⟩ (by dsimp only; omega)).qb
           ·obtain ⟨h1, h2⟩ := List.getElem?_eq_some_iff.1 hx
            dsimp only
            rw [List.take_succ_eq_append_getElem h1, h2, esC_app, esC_one, List.length_append]
            exact hS11
           ·rcases ho11 g hg' with e | e
            ·exact ho9 g e
            ·omega
          ·skip
           have hjE : j = E.length := by omega
           subst hjE
           rw [List.take_length] at hS9
           refine run_exit rfl ?_; refine run_seq ?_; refine run_reg rfl ?_; refine qV (ymv rfl) ?_; refine qV (yas rfl) ?_; refine qV (yas rfl) ?_; refine qV (yas rfl) ?_; refine rEnd ?_; refine run_ret Tryz.func54 rfl ?_
           exact ⟨_, rfl, hk08.trans hx9.kp, .inl ⟨1, [y.1], E, ov, rfl, sub1_leaf hz hn hokn hin hnV hcnd, hS9, fun g hg => by have := ho9 g hg; omega, hx9.blk hm8, by simp; omega⟩⟩
        ·skip
         have kcl : (innNd c ps).kids.length = ps.length + 1 := by simp [innNd]
         have kkl : (innNd c ps).keys.length = ps.length := by simp [innNd]
         have hbcl := hbd.cl
         rw [kcl] at hbcl
         have hb12n : b12 ≠ mb := by omega
         have hb6n : b6 ≠ mb := by omega
         refine rEnd ?_; refine run_false rfl ?_; refine run_skip ?_; refine run_seq ?_; refine run_reg rfl ?_; refine qV (yas rfl) ?_; refine rEnd ?_; refine run_seq ?_; refine run_seq ?_; refine run_reg rfl ?_; refine qV (yas rfl) ?_; refine rEnd ?_; refine run_block ?_
         refine run_loop (α := List (List Int × Es) × Nat × Value) (([], 0, .slice none 0 0)) (fun x => [(0, ptr q 0), (6, ptr b6 0), (12, ptr b12 0), (17, x.2.2), (19, I (x.2.1 : Int)), (20, I (x.1.length : Int))]) (fun x w' => KidsU z (nodesOf z l) V y.1 lo hi c ps x.2.1 x.1 ∧ Kp (fun k => k = mb) w8 w' ∧ Sl w' x.2.2 41 2 (x.1.flatMap (·.2)).length (esC (x.1.flatMap (·.2))) ∧ (∀ g, x.2.2.ownBlock = some g → w8.heap.size ≤ g) ∧ Blk w' mb (metC l (x.1.flatMap (·.1) ++ y.1 :: V)) 3 ∧ (x.1.flatMap (·.2)).length ≤ (x.1.flatMap (·.1)).length * 100000 ∧ x.2.1 ≤ 1000000) (fun x => ps.length + 1 - x.1.length) (by repeat (first | exact Sub.nil | refine Sub.cons rfl ?_)) ?hI ?hround
         case hI => exact ⟨KidsU.nil 0, Kp.refl _ _, Sl.nil _ _ _, fun g hg => by simp [Value.ownBlock] at hg, hm8, Nat.le_refl _, Nat.zero_le _⟩
         case hround =>
          rintro ⟨L, hh, ov⟩ w9 ⟨K, hk9, hS9, ho9, hm9, hcb9, hhb⟩ ih
          dsimp only at K hS9 ho9 hm9 hcb9 hhb
          have hc9 := hc8.kp hk9
          have hB129 := hk9.blk hB128 hb12n
          have hB69 := hk9.blk hB68 hb6n
          have hK9 := Sl.rd (hP8.keys.kp hk9 (fun g hg => hnb g (.inl hg)))
          have hC9 := Sl.rd (hP8.kids.kp hk9 (fun g hg => hnb g (.inr (.inr hg))))
          have hk09 := hk08.trans hk9
          have hz9 := hk9.size
          have hKl := K.len
          have hnVi : (L.flatMap (·.1) ++ y.1 :: V).Nodup := List.nodup_append.2 ⟨K.nd, List.nodup_cons.2 ⟨hnV, hVn⟩, fun x hx v hv e => K.out x hx (e ▸ hv)⟩
          have hLpg : ∀ x ∈ L.flatMap (·.1), x ∈ l.map (·.1) := fun x hx => by
           obtain ⟨u, hu, hxl⟩ := List.mem_flatMap.1 hx
           obtain ⟨j, hj', e⟩ := List.getElem_of_mem hu
           have hb := K.bn j _ u (List.getElem?_eq_getElem (by rw [bnds_length]; omega)) (by rw [List.getElem?_eq_getElem hj', e])
           exact hsubn x (hb.1.some x hxl)
          have hVpi : ∀ x ∈ L.flatMap (·.1) ++ y.1 :: V, x ∈ l.map (·.1) := fun x hx => by
           rcases List.mem_append.1 hx with hx | hx
           ·exact hLpg x hx
           ·rcases List.mem_cons.1 hx with rfl | hx
            ·exact hno
            ·exact hVp x hx
          have hLl := List.Nodup.length_le_of_subset K.nd hLpg
          have hVl2 : V.length + 1 ≤ (L.flatMap (·.1) ++ y.1 :: V).length := by rw [List.length_append, List.length_cons]; omega
          try dsimp only
          refine run_seq ?_; refine run_seq ?_; refine run_reg rfl ?_; refine qV (ymv rfl) ?_; refine qV (yfa fl130_3 rfl) ?_; refine qV (yld U82 rfl rfl hB129 rfl) ?_; refine qV (yln U82 rfl) ?_; refine qV (ylt rfl rfl) ?_; refine rEnd ?_; refine run_if rfl (fun hlt' => ?_) (fun hlt' => ?_)
          ·skip
           have hil : L.length < ps.length + 1 := by omega
           obtain ⟨a, lo', hi', hb, ha, hlo', hhi'⟩ := bnds_get hi ps lo c L.length (by omega)
           have hal := hbd.cs a (List.mem_of_getElem? (show (innNd c ps).kids[_]? = some a from ha))
           refine run_skip ?_; refine run_seq ?_; refine run_block ?_; refine run_seq ?_; refine run_reg rfl ?_; refine qV (yldA U100 rfl ti100 rfl (Blk.cells (n := 3) hB69 (news := [_, _, _]) rfl) rfl) ?_; refine rValP rfl rfl (pal (cs := [_, _, _]) ti100 rfl) ?_
           rintro _ w10 ⟨b21, rfl, hb21, hx10, hB10⟩
           refine rEffP rfl (zstA ti100 rfl rfl rfl rfl hB10 (by simp)) ?_
           rintro w11 ⟨hB11, hk11⟩
           have hB21 : Blk w11 b21 [S lo, S tb, .bool hi.isSome] 100 := hB11
           have hl10 := hB10.lt
           have hz10 := hx10.size
           have hx911 : Ext w9 w11 := hx10.trans_new hk11 (fun j hj => by omega)
           have hz11 := hx911.size
           have hl21 := hB21.lt
           refine rEnd ?_; refine run_seq ?_; refine run_seq ?_; refine run_reg rfl ?_; refine qV (ymv rfl) ?_; refine qV (ygt rfl rfl) ?_; refine rEnd ?_; refine run_cut (fun e' w' => e' = [(0, ptr q 0), (6, ptr b6 0), (12, ptr b12 0), (17, ov), (19, I (hh : Int)), (20, I (L.length : Int)), (21, ptr b21 0)] ∧ Blk w' b21 [S lo', S tb, .bool hi.isSome] 100 ∧ Ext w9 w') ?hku (fun hku => ?hmainu)
           case hku =>
            rintro e' w12 ⟨rfl, hB212, hx12⟩
            have hB1212 := hx12.blk hB129
            refine run_seq ?_; refine run_seq ?_; refine run_reg rfl ?_; refine qV (ymv rfl) ?_; refine qV (yfa fl130_1 rfl) ?_; refine qV (yld U23 rfl rfl hB1212 rfl) ?_; refine qV (yln U23 rfl) ?_; refine qV (ylt rfl rfl) ?_; refine rEnd ?_; refine run_cut (fun e' w' => e' = [(0, ptr q 0), (6, ptr b6 0), (12, ptr b12 0), (17, ov), (19, I (hh : Int)), (20, I (L.length : Int)), (21, ptr b21 0)] ∧ (∃ tb', Blk w' b21 [S lo', S tb', .bool hi'.isSome] 100 ∧ spanOk hi' tb') ∧ Ext w9 w') ?hkv (fun hkv => ?hmainv)
            case hkv =>
             rintro e' w13 ⟨rfl, ⟨tb', hB213, hso⟩, hx13⟩
             obtain ⟨cb, co, a', rfl, ha'⟩ := rd_getuN hC9 rfl (show L.length < _ by omega)
             have hB1213 := hx13.blk hB129
             have hC13 := hC9.ext hx13
             have hl213 := hB213.lt
             have hz13 := hx13.size
             have hg : Ext w13 w13.drew := Ext.drew0 w13
             have hb21n : b21 ≠ mb := by omega
             refine run_seq ?_; refine run_draw (fun w' => Kp (fun k => k = mb) w13 w') (by kernel_rfl) rfl ?_; refine qT 0 rfl (fun _ hS => ymv rfl) (hg.kp) ?_; refine qT 1 rfl (fun _ hS => yfa fl130_3 rfl) (hg.kp) ?_; refine qT 2 rfl (fun _ hS => (by first | exact yld U82 rfl rfl (hS.blk hB1213 hb12n) rfl | exact yld U82 rfl rfl (hS.blk hB213 hb21n) rfl)) (hg.kp) ?_; refine qT 3 rfl (fun _ hS => ymv rfl) (hg.kp) ?_; refine qT 4 rfl (fun _ hS => yis U82 ti89 rfl rfl (by omega)) (hg.kp) ?_
             refine qT 7 rfl (fun _ hS => (by first | exact yldA U100 rfl ti100 rfl (Blk.cells (n := 3) (hS.blk hB1213 hb12n) (news := [_, _, _]) rfl) rfl | exact yldA U100 rfl ti100 rfl (Blk.cells (n := 3) (hS.blk hB213 hb21n) (news := [_, _, _]) rfl) rfl)) (hg.kp) ?_; refine qT 5 rfl (fun _ hS => yldc U89 rfl rfl (rd_u32 (hC13.kp hS (fun g hg => hnb g (.inr (.inr hg)))) (by omega) ha)) (hg.kp) ?_; refine qT 6 rfl (fun _ hS => ycvSi64 rfl U89 U3 (by omega)) (hg.kp) ?_; refine qO 8 ?_
             refine nCall (i := 8) rfl rfl rfl (yc (args := [.tmp 204, .tmp 210, .tmp 211, .const (Value.bool false)]) cf54 rfl) (ihk (k - 1) (by omega) _ (a : Int) lo' hi' tb' (L.flatMap (·.1) ++ y.1 :: V) false ((hc9.ext hx13).ext hg) (hg.blk (hx13.blk hm9)) hnVi hVpi (by omega) hso) ?_
             rintro v14 w14 ⟨hk14, hv14⟩
             refine ⟨hg.kp.trans hk14, ?_⟩
             have hk914 : Kp (fun k => k = mb) w9 w14 := (hx13.trans hg).kp.trans hk14
             have hk014 := hk09.trans hk914
             rcases hv14 with ⟨d, n5, e5, ov5, rfl, s5, hS5, ho5, hm14, hcb5⟩ | ⟨rfl, hno6⟩
             ·have hdn := List.Nodup.length_le_of_subset s5.nd (fun x hx => hsubn x (s5.bn.some x hx))
              have hdl : d ≤ 1000000 := by
               have h1 := bn_height hz s5.bn
               omega
              have e1 : (L ++ [(n5, e5)]).flatMap (·.1) = L.flatMap (·.1) ++ n5 := by simp
              have e2 : (L ++ [(n5, e5)]).flatMap (·.2) = L.flatMap (·.2) ++ e5 := by simp
              have e3 : ((L.length : Int) + 1) = (((L ++ [(n5, e5)]).length : Nat) : Int) := by simp
              have hS14 : Sl w14 ov 41 2 (L.flatMap (·.2)).length (esC (L.flatMap (·.2))) := hS9.kp hk914 (fun g hg' e => by have := ho9 g hg'; omega)
              have hnext : KidsU z (nodesOf z l) V y.1 lo hi c ps d (L ++ [(n5, e5)]) → ∀ (w15 : World) (ov2 : Value), Sl w15 ov2 41 2 ((L.flatMap (·.2)).length + e5.length) (esC (L.flatMap (·.2)) ++ esC e5) → Kp (fun k => ov.ownBlock = some k) w14 w15 → (∀ g, ov2.ownBlock = some g → ov.ownBlock = some g ∨ w14.heap.size ≤ g) → KidsU z (nodesOf z l) V y.1 lo hi c ps d (L ++ [(n5, e5)]) ∧ Kp (fun k => k = mb) w8 w15 ∧ Sl w15 ov2 41 2 ((L ++ [(n5, e5)]).flatMap (·.2)).length (esC ((L ++ [(n5, e5)]).flatMap (·.2))) ∧ (∀ g, ov2.ownBlock = some g → w8.heap.size ≤ g) ∧ Blk w15 mb (metC l ((L ++ [(n5, e5)]).flatMap (·.1) ++ y.1 :: V)) 3 ∧ ((L ++ [(n5, e5)]).flatMap (·.2)).length ≤ ((L ++ [(n5, e5)]).flatMap (·.1)).length * 100000 ∧ d ≤ 1000000 := fun K' w15 ov2 hS15 hk15 ho15 => by
               rw [e1, e2]
               refine ⟨K', (hk9.trans hk914).trans_new hk15 (fun i hi => .inl (ho9 i hi)), ?_, fun g hg' => ?_, ?_, ?_, hdl⟩
               ·rw [esC_app, List.length_append]; exact hS15
               ·rcases ho15 g hg' with e | e
                ·exact ho9 g e
                ·have := hk914.size; omega
               ·refine hk15.blk ?_ (fun e => by have := ho9 mb e; omega)
                rw [metC_same (V' := n5 ++ (L.flatMap (·.1) ++ y.1 :: V)) (fun x => by simp only [List.mem_append]; exact ⟨fun h => by rcases h with (h | h) | h; exact .inr (.inl h); exact .inl h; exact .inr (.inr h), fun h => by rcases h with h | h | h; exact .inl (.inr h); exact .inl (.inl h); exact .inr h⟩)]
                exact hm14
               ·simp only [List.length_append]; omega
              have hfin : ∀ K' : KidsU z (nodesOf z l) V y.1 lo hi c ps d (L ++ [(n5, e5)]), ((L.flatMap (·.2)).length + e5.length) * 32 ≤ 140737488355328 := fun K' => by
               have h1 := List.Nodup.length_le_of_subset K'.nd (l₂ := l.map (·.1)) (fun x hx => by
                rw [e1] at hx
                rcases List.mem_append.1 hx with hx | hx
                ·exact hLpg x hx
                ·exact hsubn x (s5.bn.some x hx))
               rw [e1, List.length_append, hll] at h1
               omega
              refine qT 9 rfl (fun _ hS => ymv rfl) (hg.kp.trans hk14) ?_; refine qT 10 rfl (fun _ hS => yex rfl rfl) (hg.kp.trans hk14) ?_; refine qT 11 rfl (fun _ hS => yex rfl rfl) (hg.kp.trans hk14) ?_; refine qT 12 rfl (fun _ hS => yex rfl rfl) (hg.kp.trans hk14) ?_; refine qT 13 rfl (fun _ hS => yas rfl) (hg.kp.trans hk14) ?_; refine qT 14 rfl (fun _ hS => yas rfl) (hg.kp.trans hk14) ?_; refine qT 15 rfl (fun _ hS => yas rfl) (hg.kp.trans hk14) ?_; refine qE ?_; refine run_seq ?_; refine run_seq ?_; refine run_reg rfl ?_; refine qV (ymv rfl) ?_
              refine qV ((by first | exact yntd rfl | exact ynt rfl)) ?_; refine qV (ymv rfl) ?_; refine qV (ymv rfl) ?_; refine qV (ygt rfl rfl) ?_; refine qV (ymv rfl) ?_; refine rVal_if (fun hi0 => ?_) (fun hi0 => ?_)
              ·skip
               refine qV (ymv rfl) ?_; refine qV (ymv rfl) ?_; refine qV (yne rfl rfl) ?_; refine qV (ypT rfl rfl) ?_; refine qV (ypF rfl rfl) ?_; refine rEnd ?_; refine run_if rfl (fun hne => ?_) (fun hne => ?_)
               ·skip
                refine run_seq ?_; refine run_reg rfl ?_; refine qV (yas rfl) ?_; refine qV (yas rfl) ?_; refine qV (yas rfl) ?_; refine rEnd ?_; refine run_ret Tryz.func54 rfl ?_
                exact ⟨_, rfl, hbad hk014 (kidsU_dep hz hn K (by omega) hb s5 (by omega))⟩
               ·skip
                have hdh : d = hh := by omega
                subst hdh
                have K' := K.step hb s5
                have hb32 := hfin K'
                refine run_skip ?_; refine run_seq ?_; refine run_reg rfl ?_; refine qV (ymv rfl) ?_; refine qV (yas rfl) ?_; refine rEnd ?_; refine run_reg rfl ?_; refine qV (ymv rfl) ?_; refine qV (ymv rfl) ?_; refine rValP rfl rfl (pap U30 ti41 rfl (by decide) rfl rfl hS14 hS5.rd (esC_one1 _) hb32 (by omega)) ?_
                rintro ov2 w15 ⟨hS15, hk15, ho15, -⟩
                refine qV (yas rfl) ?_; refine rEnd ?_; refine run_inBlock ?_; refine run_reg rfl ?_; refine qV (ymv rfl) ?_; refine qV (yad rfl rfl (by omega)) ?_; refine qV (yas rfl) ?_; refine rEnd ?_
                rw [e3]
                exact (ih (L ++ [(n5, e5)], d, ov2) w15 (hnext K' w15 ov2 hS15 hk15 ho15) (by simp; omega)).qb
              ·skip
               have hL0 : L = [] := List.eq_nil_of_length_eq_zero (by omega)
               have K' : KidsU z (nodesOf z l) V y.1 lo hi c ps d (L ++ [(n5, e5)]) := by
                subst hL0
                exact (KidsU.nil d).step hb s5
               have hb32 := hfin K'
               refine qS ?_; refine qS ?_; refine qS ?_; refine qV (ypF rfl rfl) ?_; refine qV (ypF rfl rfl) ?_; refine rEnd ?_; refine run_false rfl ?_; refine run_skip ?_; refine run_seq ?_; refine run_reg rfl ?_; refine qV (ymv rfl) ?_; refine qV (yas rfl) ?_; refine rEnd ?_; refine run_reg rfl ?_; refine qV (ymv rfl) ?_; refine qV (ymv rfl) ?_; refine rValP rfl rfl (pap U30 ti41 rfl (by decide) rfl rfl hS14 hS5.rd (esC_one1 _) hb32 (by omega)) ?_
               rintro ov2 w15 ⟨hS15, hk15, ho15, -⟩
               refine qV (yas rfl) ?_; refine rEnd ?_; refine run_inBlock ?_; refine run_reg rfl ?_; refine qV (ymv rfl) ?_; refine qV (yad rfl rfl (by omega)) ?_; refine qV (yas rfl) ?_; refine rEnd ?_
               rw [e3]
               exact (ih (L ++ [(n5, e5)], d, ov2) w15 (hnext K' w15 ov2 hS15 hk15 ho15) (by simp; omega)).qb
             ·skip
              refine qT 9 rfl (fun _ hS => ymv rfl) (hg.kp.trans hk14) ?_; refine qT 10 rfl (fun _ hS => yex rfl rfl) (hg.kp.trans hk14) ?_; refine qT 11 rfl (fun _ hS => yex rfl rfl) (hg.kp.trans hk14) ?_; refine qT 12 rfl (fun _ hS => yex rfl rfl) (hg.kp.trans hk14) ?_; refine qT 13 rfl (fun _ hS => yas rfl) (hg.kp.trans hk14) ?_; refine qT 14 rfl (fun _ hS => yas rfl) (hg.kp.trans hk14) ?_; refine qT 15 rfl (fun _ hS => yas rfl) (hg.kp.trans hk14) ?_; refine qE ?_; refine run_seq ?_; refine run_seq ?_; refine run_reg rfl ?_; refine qV (ymv rfl) ?_
              refine qV ((by first | exact yntd rfl | exact ynt rfl)) ?_; refine qV (ymv rfl) ?_; refine qS ?_; refine qS ?_; refine qS ?_; refine qS ?_; refine qS ?_; refine qS ?_; refine qS ?_; refine qV (ypT rfl rfl) ?_; refine rEnd ?_; refine run_true rfl ?_; refine run_seq ?_; refine run_reg rfl ?_; refine qV (yas rfl) ?_; refine qV (yas rfl) ?_; refine qV (yas rfl) ?_; refine rEnd ?_; refine run_ret Tryz.func54 rfl ?_
              exact ⟨_, rfl, hbad hk014 (kidsU_no hz hn K hb hno6)⟩
            case hmainv =>
             have hl212 := hB212.lt
             refine run_if rfl (fun hi1 => ?_) (fun hi1 => ?_)
             ·skip
              obtain ⟨k1, e1, hj, rfl⟩ : ∃ k1, L.length < ps.length ∧ (ps.map (·.1))[L.length]? = some k1 ∧ hi' = some k1 := hhi'.elim (fun e => by have := e.1; omega) id
              have hs' : (innNd c ps).keys[L.length]? = some k1 := hj
              obtain ⟨kb, ko, s', rfl, -⟩ := rd_getsK hK9 (by simp) (show L.length < _ by omega)
              refine run_seq ?_; refine run_reg rfl ?_; refine qV (yfa fl130_1 rfl) ?_; refine qV (yld U23 rfl rfl hB1212 rfl) ?_; refine qV (ymv rfl) ?_; refine qV (yis U23 ti9 rfl rfl (by omega)) ?_; refine qV (yldc U9 rfl rfl (rd_str (hK9.ext hx12) (by omega) hs')) ?_; refine qV (yfa fl100_1 rfl) ?_; refine rEffP rfl (zst ti9 rfl rfl rfl hB212 (by simp)) ?_
              rintro w13 ⟨hB13s, hk13⟩
              refine rEnd ?_; refine run_reg rfl ?_; refine qV (yfa fl100_2 rfl) ?_; refine rEffP rfl (zst ti4 rfl rfl rfl hB13s (by simp)) ?_
              rintro w14 ⟨hB14s, hk14⟩
              refine rEnd ?_
              exact (hkv _ _ ⟨rfl, ⟨k1, hB14s, fun u hu => by cases hu; rfl⟩, (hx12.trans_new hk13 (fun j hj => by omega)).trans_new hk14 (fun j hj => by omega)⟩).qb
             ·skip
              obtain rfl : hi' = hi := hhi'.elim (fun e => e.2) (fun e => by obtain ⟨k1, e, -⟩ := e; omega)
              refine run_skip ?_
              exact (hkv _ _ ⟨rfl, ⟨tb, hB212, hto⟩, hx12⟩).qb
           case hmainu =>
            refine run_if rfl (fun hi0 => ?_) (fun hi0 => ?_)
            ·skip
             obtain ⟨j, ej, hj⟩ : ∃ j, L.length = j + 1 ∧ (ps.map (·.1))[j]? = some lo' := hlo'.elim (fun e => by have := e.1; omega) id
             have hs' : (innNd c ps).keys[j]? = some lo' := hj
             obtain ⟨kb, ko, s', rfl, -⟩ := rd_getsK hK9 (by simp) (show j < _ by omega)
             have hB1211 := hx911.blk hB129
             refine run_reg rfl ?_; refine qV (yfa fl130_1 rfl) ?_; refine qV (yld U23 rfl rfl hB1211 rfl) ?_; refine qV (ymv rfl) ?_; refine qV (ysb rfl rfl (by omega)) ?_
             rw [show ((L.length : Int) - 1) = ((j : Nat) : Int) by omega]
             refine qV (yis U23 ti9 rfl rfl (by omega)) ?_; refine qV (yldc U9 rfl rfl (rd_str (hK9.ext hx911) (by omega) hs')) ?_; refine qV (yfa fl100_0 rfl) ?_; refine rEffP rfl (zst ti9 rfl rfl rfl hB21 (by simp)) ?_
             rintro w12 ⟨hB12s, hk12⟩
             refine rEnd ?_
             exact (hku _ _ ⟨rfl, hB12s, hx911.trans_new hk12 (fun j hj => by omega)⟩).qb
            ·skip
             obtain rfl : lo' = lo := hlo'.elim (fun e => e.2) (fun e => by obtain ⟨j, e, -⟩ := e; omega)
             refine run_skip ?_
             exact (hku _ _ ⟨rfl, hB21, hx911⟩).qb
          ·skip
           have hLl : L.length = ps.length + 1 := by omega
           refine run_exit rfl ?_; refine run_seq ?_; refine run_reg rfl ?_; refine qV (ymv rfl) ?_; refine qV (ymv rfl) ?_; refine qV (yad rfl rfl (by omega)) ?_; refine qV (yas rfl) ?_; refine qV (yas rfl) ?_; refine qV (yas rfl) ?_; refine rEnd ?_; refine run_ret Tryz.func54 rfl ?_; refine ⟨_, rfl, hk09, .inl ⟨hh + 1, y.1 :: L.flatMap (·.1), L.flatMap (·.2), ov, by simp [resVal], kidsU_all hz hn hokn hin K hLl hnV hcnd, hS9, fun g hg => by have := ho9 g hg; omega, ?_, Nat.le_trans hcb9 (Nat.mul_le_mul_right _ (Nat.le_succ _))⟩⟩
           rw [metC_same (V' := L.flatMap (·.1) ++ y.1 :: V) (fun x => by simp only [List.mem_append, List.mem_cons]; exact ⟨fun h => by rcases h with (h | h) | h; exact .inr (.inl h); exact .inl h; exact .inr (.inr h), fun h => by rcases h with h | h | h; exact .inl (.inr h); exact .inl (.inl h); exact .inr h⟩)]
           exact hm9
       case hmainl =>
        refine run_loop (α := Nat) (0) (fun i => [(0, ptr q 0), (6, ptr b6 0), (12, ptr b12 0), (16, I (i : Int))]) (fun i w' => i ≤ n.keys.length ∧ Ext w7 w' ∧ ∀ k ∈ n.keys.take i, inB lo hi k) (fun i => n.keys.length - i) (by repeat (first | exact Sub.nil | refine Sub.cons rfl ?_)) ?hI ?hround
        case hI => exact ⟨Nat.zero_le _, Ext.refl _, by simp⟩
        case hround =>
         rintro j w8 ⟨hj, hx8, hall⟩ ih
         have hB128 := hx8.blk hB127
         have hB68 := hx8.blk hB67
         have hK8 := hP7.keys.rd.ext hx8
         have hk08 := hk07.trans hx8.kp
         try dsimp only
         refine run_seq ?_; refine run_seq ?_; refine run_reg rfl ?_; refine qV (ymv rfl) ?_; refine qV (yfa fl130_1 rfl) ?_; refine qV (yld U23 rfl rfl hB128 rfl) ?_; refine qV (yln U23 rfl) ?_; refine qV (ylt rfl rfl) ?_; refine rEnd ?_; refine run_if rfl (fun hlt => ?_) (fun hlt => ?_)
         ·skip
          have hj' : j < n.keys.length := by omega
          obtain ⟨kb, ko, s, rfl, hs⟩ := rd_getsK hK8 (by simp) hj'
          have hsm := List.mem_of_getElem? hs
          have hg : Ext w8 w8.drew := Ext.drew0 w8
          refine run_skip ?_; refine run_seq ?_; refine run_block ?_; refine run_seq ?_; refine run_draw (fun w' => Ext w8 w') (by kernel_rfl) rfl ?_; refine qT 0 rfl (fun _ hS => (by first | exact yldA U100 rfl ti100 rfl (Blk.cells (n := 3) (hS.blk hB128) (news := [_, _, _]) rfl) rfl | exact yldA U100 rfl ti100 rfl (Blk.cells (n := 3) (hS.blk hB68) (news := [_, _, _]) rfl) rfl)) (hg) ?_; refine qT 1 rfl (fun _ hS => yfa fl130_1 rfl) (hg) ?_; refine qT 2 rfl (fun _ hS => (by first | exact yld U23 rfl rfl (hS.blk hB128) rfl | exact yld U23 rfl rfl (hS.blk hB68) rfl)) (hg) ?_
          refine qT 3 rfl (fun _ hS => ymv rfl) (hg) ?_; refine qT 4 rfl (fun _ hS => yis U23 ti9 rfl rfl (by omega)) (hg) ?_; refine qT 5 rfl (fun _ hS => yldc U9 rfl rfl (rd_str (hK8.ext hS) hj' hs)) (hg) ?_; refine qO 6 ?_; refine nCall (i := 6) rfl rfl rfl (yc (args := [.tmp 142, .tmp 147]) cf89 rfl) (inside_ret hto s _) ?_
          rintro v9 w9 ⟨hx9, qn, rfl, hqn⟩
          refine ⟨hg.trans hx9, ?_⟩
          refine qT 7 rfl (fun _ hS => (by first | exact yntd rfl | exact ynt rfl)) (hg.trans hx9) ?_; refine qE ?_; refine run_cond rfl (fun hq2 => ?_) (fun hq2 => ?_)
          ·skip
           refine run_seq ?_; refine run_reg rfl ?_; refine qV (yas rfl) ?_; refine qV (yas rfl) ?_; refine qV (yas rfl) ?_; refine rEnd ?_; refine run_ret Tryz.func54 rfl ?_; refine ⟨_, rfl, hbad (hk08.trans (hg.trans hx9).kp) (nosub_key hn hsm (fun hh => ?_))⟩
           rw [hqn.2 hh] at hq2; cases hq2
          ·skip
           refine run_skip ?_; refine run_inBlock ?_; refine run_reg rfl ?_; refine qV (ymv rfl) ?_; refine qV (yad rfl rfl (by omega)) ?_; refine qV (yas rfl) ?_; refine rEnd ?_; refine (ih (j + 1) _ ⟨by omega, hx8.trans (hg.trans hx9), fun k hk => ?_⟩ (by omega)).qb
           rcases (mem_take_succ hs).1 hk with hk | rfl
           ·exact hall k hk
           ·exact hqn.1 (by simpa using hq2)
         ·skip
          rw [List.take_of_length_le (by omega)] at hall
          refine run_exit rfl ?_
          exact (hkl _ _ ⟨rfl, hx8, hall⟩).qb
     case hmaing =>
      have hg : Ext w6 w6.drew := Ext.drew0 w6
      cases rt with
      | true =>
        refine run_draw (fun w' => Ext w6 w') (by kernel_rfl) rfl ?_; refine qT 0 rfl (fun _ hS => ymv rfl) (hg) ?_; refine qT 1 rfl (fun _ hS => ymv rfl) (hg) ?_; refine qT 2 rfl (fun _ hS => yfa fl130_1 rfl) (hg) ?_; refine qT 3 rfl (fun _ hS => (by first | exact yld U23 rfl rfl (hS.blk hBc6) rfl | exact yld U23 rfl rfl (hS.blk hB126) rfl)) (hg) ?_; refine qT 4 rfl (fun _ hS => yln U23 rfl) (hg) ?_; refine qT 5 rfl (fun _ hS => ylt rfl rfl) (hg) ?_; refine qT 6 rfl (fun _ hS => ypT rfl rfl) (hg) ?_; refine qT 7 rfl (fun _ hS => ymv rfl) (hg) ?_
        refine rh_if (fun h1 => ?_) (fun h1 => ?_)
        ·skip
         refine qJ 8 rfl (hg) ?_; refine qJ 9 rfl (hg) ?_; refine qJ 10 rfl (hg) ?_; refine qJ 11 rfl (hg) ?_; refine qJ 12 rfl (hg) ?_; refine qJ 13 rfl (hg) ?_; refine qJ 14 rfl (hg) ?_; refine qJ 15 rfl (hg) ?_; refine qJ 16 rfl (hg) ?_; refine qJ 17 rfl (hg) ?_; refine qJ 18 rfl (hg) ?_; refine qJ 19 rfl (hg) ?_; refine qJ 20 rfl (hg) ?_; refine qJ 21 rfl (hg) ?_; refine qJ 22 rfl (hg) ?_; refine qJ 23 rfl (hg) ?_; refine qJ 24 rfl (hg) ?_; refine qJ 25 rfl (hg) ?_; refine qT 26 rfl (fun _ hS => ypT rfl rfl) (hg) ?_; refine qT 27 rfl (fun _ hS => ymv rfl) (hg) ?_
         refine qJ 28 rfl (hg) ?_; refine qJ 29 rfl (hg) ?_; refine qJ 30 rfl (hg) ?_; refine qJ 31 rfl (hg) ?_; refine qJ 32 rfl (hg) ?_; refine qJ 33 rfl (hg) ?_; refine qJ 34 rfl (hg) ?_; refine qJ 35 rfl (hg) ?_; refine qJ 36 rfl (hg) ?_; refine qJ 37 rfl (hg) ?_; refine qJ 38 rfl (hg) ?_; refine qJ 39 rfl (hg) ?_; refine qJ 40 rfl (hg) ?_; refine qJ 41 rfl (hg) ?_; refine qJ 42 rfl (hg) ?_; refine qJ 43 rfl (hg) ?_; refine qT 44 rfl (fun _ hS => ypT rfl rfl) (hg) ?_; refine qE ?_; refine Run.qb (e := [(0, _), (6, _), (12, _), (134, _)]) ?_
         refine (hkg _ _ ⟨true, rfl, hg, fun _ => nosub_cnd hn ?_, fun h => Bool.noConfusion h⟩).qb
         rw [if_pos rfl]
         intro h
         exact h (List.eq_nil_of_length_eq_zero (by omega))
        ·skip
         refine qT 8 rfl (fun _ hS => ymv rfl) (hg) ?_; refine qT 9 rfl (fun _ hS => (by first | exact yntd rfl | exact ynt rfl)) (hg) ?_; refine qT 10 rfl (fun _ hS => ymv rfl) (hg) ?_; refine qJ 11 rfl (hg) ?_; refine qJ 12 rfl (hg) ?_; refine qT 13 rfl (fun _ hS => ypF rfl rfl) (hg) ?_; refine qT 14 rfl (fun _ hS => ymv rfl) (hg) ?_; refine qJ 15 rfl (hg) ?_; refine qJ 16 rfl (hg) ?_; refine qJ 17 rfl (hg) ?_; refine qJ 18 rfl (hg) ?_; refine qJ 19 rfl (hg) ?_; refine qJ 20 rfl (hg) ?_; refine qJ 21 rfl (hg) ?_; refine qJ 22 rfl (hg) ?_; refine qJ 23 rfl (hg) ?_
         refine qJ 24 rfl (hg) ?_; refine qT 25 rfl (fun _ hS => ypF rfl rfl) (hg) ?_; refine qT 26 rfl (fun _ hS => ypF rfl rfl) (hg) ?_; refine qT 27 rfl (fun _ hS => ymv rfl) (hg) ?_; refine qT 28 rfl (fun _ hS => ymv rfl) (hg) ?_; refine qT 29 rfl (fun _ hS => (by first | exact yntd rfl | exact ynt rfl)) (hg) ?_; refine qT 30 rfl (fun _ hS => ymv rfl) (hg) ?_; refine qJ 31 rfl (hg) ?_; refine qJ 32 rfl (hg) ?_; refine qJ 33 rfl (hg) ?_; refine qT 34 rfl (fun _ hS => ypF rfl rfl) (hg) ?_; refine qT 35 rfl (fun _ hS => ymv rfl) (hg) ?_; refine qJ 36 rfl (hg) ?_
         refine qJ 37 rfl (hg) ?_; refine qJ 38 rfl (hg) ?_; refine qJ 39 rfl (hg) ?_; refine qJ 40 rfl (hg) ?_; refine qJ 41 rfl (hg) ?_; refine qJ 42 rfl (hg) ?_; refine qT 43 rfl (fun _ hS => ypF rfl rfl) (hg) ?_; refine qT 44 rfl (fun _ hS => ypF rfl rfl) (hg) ?_; refine qE ?_; refine Run.qb (e := [(0, _), (6, _), (12, _), (134, _)]) ?_; refine (hkg _ _ ⟨false, rfl, hg, fun h => Bool.noConfusion h, fun _ => ?_⟩).qb
         rw [if_pos rfl]
         intro h
         rw [h] at h1
         exact h1 (by simp)
      | false =>
        have hR6 : NdR w6 n (.slice ka n.keys.length kac) (.slice va n.vals.length vac) (.slice ca n.kids.length cac) := ⟨hP6.keys.rd, hP6.vals.rd, hP6.kids.rd⟩
        have hby := hbd.bytes
        cases hlf : n.leaf with
        | true =>
          have hBx : Blk w6 b12 [.bool true, .slice ka n.keys.length kac, .slice va n.vals.length vac, .slice ca n.kids.length cac] 130 := by rw [← hlf]; exact hB126
          have hrb := fun (w' : World) (hx : Ext w6 w') => rbytes_ret (n := n) (hR6.ext hx) hbd
          simp only [ndv, hlf] at hrb
          refine run_draw (fun w' => Ext w6 w') (by kernel_rfl) rfl ?_; refine qT 0 rfl (fun _ hS => ymv rfl) (hg) ?_; refine qT 1 rfl (fun _ hS => ymv rfl) (hg) ?_; refine qJ 2 rfl (hg) ?_; refine qJ 3 rfl (hg) ?_; refine qJ 4 rfl (hg) ?_; refine qJ 5 rfl (hg) ?_; refine qT 6 rfl (fun _ hS => ypF rfl rfl) (hg) ?_; refine qT 7 rfl (fun _ hS => ymv rfl) (hg) ?_; refine qT 8 rfl (fun _ hS => ymv rfl) (hg) ?_; refine qT 9 rfl (fun _ hS => (by first | exact yntd rfl | exact ynt rfl)) (hg) ?_; refine qT 10 rfl (fun _ hS => ymv rfl) (hg) ?_
          refine qT 11 rfl (fun _ hS => yfa fl130_0 rfl) (hg) ?_; refine qT 12 rfl (fun _ hS => (by first | exact yld U4 rfl rfl (hS.blk hBc6) rfl | exact yld U4 rfl rfl (hS.blk hBx) rfl)) (hg) ?_; refine qT 13 rfl (fun _ hS => ypT rfl rfl) (hg) ?_; refine qT 14 rfl (fun _ hS => ymv rfl) (hg) ?_; refine qT 15 rfl (fun _ hS => (by first | exact yldA U130 rfl ti130 rfl (Blk.cells (n := 4) (hS.blk hBc6) (news := [_, _, _, _]) rfl) rfl | exact yldA U130 rfl ti130 rfl (Blk.cells (n := 4) (hS.blk hBx) (news := [_, _, _, _]) rfl) rfl)) (hg) ?_; refine qT 19 rfl (fun _ hS => ymv rfl) (hg) ?_
          refine qT 20 rfl (fun _ hS => (by first | exact ync rfl | exact yncf rfl)) (hg) ?_; refine qT 21 rfl (fun _ hS => yfa fl97_0 rfl) (hg) ?_; refine qT 22 rfl (fun _ hS => (by first | exact yld U3 rfl rfl (hS.blk hBc6) rfl | exact yld U3 rfl rfl (hS.blk hBx) rfl)) (hg) ?_; refine qT 23 rfl (fun _ hS => ysb rfl rfl (by omega)) (hg) ?_; refine qO 16 ?_; refine nCall (i := 16) rfl rfl rfl (yc (args := [.tmp 105]) cf88 rfl) (hrb _ hg) ?_
          rintro _ w8 ⟨rfl, hx8⟩
          refine ⟨hg.trans hx8, ?_⟩
          refine qT 17 rfl (fun _ hS => ysb rfl rfl (by omega)) (hg.trans hx8) ?_; refine qT 18 rfl (fun _ hS => yml rfl rfl (by omega)) (hg.trans hx8) ?_; refine qT 24 rfl (fun _ hS => ylt rfl rfl) (hg.trans hx8) ?_; refine qT 25 rfl (fun _ hS => ypT rfl rfl) (hg.trans hx8) ?_; refine qT 26 rfl (fun _ hS => ypF rfl rfl) (hg.trans hx8) ?_; refine qT 27 rfl (fun _ hS => ymv rfl) (hg.trans hx8) ?_; refine rh_if (fun h1 => ?_) (fun h1 => ?_)
          ·skip
           refine qJ 28 rfl (hg.trans hx8) ?_; refine qJ 29 rfl (hg.trans hx8) ?_; refine qJ 30 rfl (hg.trans hx8) ?_; refine qJ 31 rfl (hg.trans hx8) ?_; refine qJ 32 rfl (hg.trans hx8) ?_; refine qJ 33 rfl (hg.trans hx8) ?_; refine qJ 34 rfl (hg.trans hx8) ?_; refine qJ 35 rfl (hg.trans hx8) ?_; refine qJ 36 rfl (hg.trans hx8) ?_; refine qJ 37 rfl (hg.trans hx8) ?_; refine qJ 38 rfl (hg.trans hx8) ?_; refine qJ 39 rfl (hg.trans hx8) ?_; refine qJ 40 rfl (hg.trans hx8) ?_; refine qJ 41 rfl (hg.trans hx8) ?_; refine qJ 42 rfl (hg.trans hx8) ?_; refine qJ 43 rfl (hg.trans hx8) ?_
           refine qT 44 rfl (fun _ hS => ypT rfl rfl) (hg.trans hx8) ?_; refine qE ?_; refine Run.qb (e := [(0, _), (6, _), (12, _), (134, _)]) ?_; refine (hkg _ _ ⟨true, rfl, hg.trans hx8, fun _ => nosub_cnd hn ?_, fun h => Bool.noConfusion h⟩).qb
           rw [if_neg (by simp)]
           intro h
           refine h ?_
           unfold Nd.low
           rw [if_pos hlf]
           omega
          ·skip
           refine qT 28 rfl (fun _ hS => ymv rfl) (hg.trans hx8) ?_; refine qT 29 rfl (fun _ hS => (by first | exact yntd rfl | exact ynt rfl)) (hg.trans hx8) ?_; refine qT 30 rfl (fun _ hS => ymv rfl) (hg.trans hx8) ?_; refine qT 31 rfl (fun _ hS => yfa fl130_0 rfl) (hg.trans hx8) ?_; refine qT 32 rfl (fun _ hS => (by first | exact yld U4 rfl rfl (hS.blk hBc6) rfl | exact yld U4 rfl rfl (hS.blk hBx) rfl)) (hg.trans hx8) ?_; refine qT 33 rfl (fun _ hS => (by first | exact yntd rfl | exact ynt rfl)) (hg.trans hx8) ?_; refine qT 34 rfl (fun _ hS => ypT rfl rfl) (hg.trans hx8) ?_
           refine qT 35 rfl (fun _ hS => ymv rfl) (hg.trans hx8) ?_; refine qJ 36 rfl (hg.trans hx8) ?_; refine qJ 37 rfl (hg.trans hx8) ?_; refine qJ 38 rfl (hg.trans hx8) ?_; refine qJ 39 rfl (hg.trans hx8) ?_; refine qJ 40 rfl (hg.trans hx8) ?_; refine qJ 41 rfl (hg.trans hx8) ?_; refine qJ 42 rfl (hg.trans hx8) ?_; refine qT 43 rfl (fun _ hS => ypF rfl rfl) (hg.trans hx8) ?_; refine qT 44 rfl (fun _ hS => ypF rfl rfl) (hg.trans hx8) ?_; refine qE ?_; refine Run.qb (e := [(0, _), (6, _), (12, _), (134, _)]) ?_
           refine (hkg _ _ ⟨false, rfl, hg.trans hx8, fun h => Bool.noConfusion h, fun _ => ?_⟩).qb
           rw [if_neg (by simp)]
           unfold Nd.low
           rw [if_pos hlf]
           omega
        | false =>
          have hBx : Blk w6 b12 [.bool false, .slice ka n.keys.length kac, .slice va n.vals.length vac, .slice ca n.kids.length cac] 130 := by rw [← hlf]; exact hB126
          refine run_draw (fun w' => Ext w6 w') (by kernel_rfl) rfl ?_; refine qT 0 rfl (fun _ hS => ymv rfl) (hg) ?_; refine qT 1 rfl (fun _ hS => ymv rfl) (hg) ?_; refine qJ 2 rfl (hg) ?_; refine qJ 3 rfl (hg) ?_; refine qJ 4 rfl (hg) ?_; refine qJ 5 rfl (hg) ?_; refine qT 6 rfl (fun _ hS => ypF rfl rfl) (hg) ?_; refine qT 7 rfl (fun _ hS => ymv rfl) (hg) ?_; refine qT 8 rfl (fun _ hS => ymv rfl) (hg) ?_; refine qT 9 rfl (fun _ hS => (by first | exact yntd rfl | exact ynt rfl)) (hg) ?_; refine qT 10 rfl (fun _ hS => ymv rfl) (hg) ?_
          refine qT 11 rfl (fun _ hS => yfa fl130_0 rfl) (hg) ?_; refine qT 12 rfl (fun _ hS => (by first | exact yld U4 rfl rfl (hS.blk hBc6) rfl | exact yld U4 rfl rfl (hS.blk hBx) rfl)) (hg) ?_; refine qT 13 rfl (fun _ hS => ypT rfl rfl) (hg) ?_; refine qT 14 rfl (fun _ hS => ymv rfl) (hg) ?_; refine qJ 15 rfl (hg) ?_; refine qJ 16 rfl (hg) ?_; refine qJ 17 rfl (hg) ?_; refine qJ 18 rfl (hg) ?_; refine qJ 19 rfl (hg) ?_; refine qJ 20 rfl (hg) ?_; refine qJ 21 rfl (hg) ?_; refine qJ 22 rfl (hg) ?_; refine qJ 23 rfl (hg) ?_; refine qJ 24 rfl (hg) ?_
          refine qT 25 rfl (fun _ hS => ypF rfl rfl) (hg) ?_; refine qT 26 rfl (fun _ hS => ypF rfl rfl) (hg) ?_; refine qT 27 rfl (fun _ hS => ymv rfl) (hg) ?_; refine qT 28 rfl (fun _ hS => ymv rfl) (hg) ?_; refine qT 29 rfl (fun _ hS => (by first | exact yntd rfl | exact ynt rfl)) (hg) ?_; refine qT 30 rfl (fun _ hS => ymv rfl) (hg) ?_; refine qT 31 rfl (fun _ hS => yfa fl130_0 rfl) (hg) ?_; refine qT 32 rfl (fun _ hS => (by first | exact yld U4 rfl rfl (hS.blk hBc6) rfl | exact yld U4 rfl rfl (hS.blk hBx) rfl)) (hg) ?_
          refine qT 33 rfl (fun _ hS => (by first | exact yntd rfl | exact ynt rfl)) (hg) ?_; refine qT 34 rfl (fun _ hS => ypT rfl rfl) (hg) ?_; refine qT 35 rfl (fun _ hS => ymv rfl) (hg) ?_; refine qT 36 rfl (fun _ hS => yfa fl130_3 rfl) (hg) ?_; refine qT 37 rfl (fun _ hS => (by first | exact yld U82 rfl rfl (hS.blk hBc6) rfl | exact yld U82 rfl rfl (hS.blk hBx) rfl)) (hg) ?_; refine qT 38 rfl (fun _ hS => yln U82 rfl) (hg) ?_; refine qT 39 rfl (fun _ hS => ymv rfl) (hg) ?_; refine qT 40 rfl (fun _ hS => yad rfl rfl (by omega)) (hg) ?_
          refine qT 41 rfl (fun _ hS => yqu rfl rfl (by omega)) (hg) ?_; refine qT 42 rfl (fun _ hS => ylt rfl rfl) (hg) ?_; refine qT 43 rfl (fun _ hS => ypT rfl rfl) (hg) ?_; refine qT 44 rfl (fun _ hS => ypF rfl rfl) (hg) ?_; refine qE ?_; refine Run.qb (e := [(0, _), (6, _), (12, _), (134, _)]) ?_; refine (hkg _ _ ⟨_, rfl, hg, ?_, ?_⟩).qb
          ·intro h
           have h := of_decide_eq_true h
           refine nosub_cnd hn ?_
           rw [if_neg (by simp)]
           intro h'
           refine h' ?_
           unfold Nd.low
           rw [if_neg (by rw [hlf]; simp)]
           omega
          ·intro h
           have h := of_decide_eq_false h
           rw [if_neg (by simp)]
           unfold Nd.low
           rw [if_neg (by rw [hlf]; simp)]
           omega
   case hmainf =>
    have hg : Ext w5 w5.drew := Ext.drew0 w5
    refine run_draw (fun w' => Ext w5 w') (by kernel_rfl) rfl ?_; refine qT 0 rfl (fun _ hS => ymv rfl) (hg) ?_; refine qT 1 rfl (fun _ hS => (by first | exact ync rfl | exact yncf rfl)) (hg) ?_; refine qT 2 rfl (fun _ hS => yfa fl97_2 rfl) (hg) ?_; refine qT 3 rfl (fun _ hS => yld U34 rfl rfl (hS.blk hBc5) rfl) (hg) ?_; refine qT 4 rfl (fun _ hS => ymv rfl) (hg) ?_; refine qT 5 rfl (fun _ hS => yis U34 ti3 rfl rfl (by omega)) (hg) ?_; refine qT 6 rfl (fun _ hS => yldc U3 rfl rfl (by rw [(hS.blk hm5).cell]; rw [Nat.zero_add, Nat.mul_one, List.getElem?_set_self (by omega)])) (hg) ?_
    refine qT 7 rfl (fun _ hS => ygt rfl rfl) (hg) ?_; refine qT 8 rfl (fun _ hS => ymv rfl) (hg) ?_; refine rh_if (fun h1 => ?_) (fun h1 => ?_)
    ·skip
     refine qJ 9 rfl (hg) ?_; refine qJ 10 rfl (hg) ?_; refine qT 11 rfl (fun _ hS => ypT rfl rfl) (hg) ?_; refine qT 12 rfl (fun _ hS => ymv rfl) (hg) ?_; refine qJ 13 rfl (hg) ?_; refine qJ 14 rfl (hg) ?_; refine qJ 15 rfl (hg) ?_; refine qJ 16 rfl (hg) ?_; refine qJ 17 rfl (hg) ?_; refine qJ 18 rfl (hg) ?_; refine qJ 19 rfl (hg) ?_; refine qJ 20 rfl (hg) ?_; refine qJ 21 rfl (hg) ?_; refine qJ 22 rfl (hg) ?_; refine qJ 23 rfl (hg) ?_; refine qJ 24 rfl (hg) ?_; refine qJ 25 rfl (hg) ?_; refine qJ 26 rfl (hg) ?_; refine qT 27 rfl (fun _ hS => ypT rfl rfl) (hg) ?_; refine qE ?_
     refine Run.qb (e := [(0, _), (3, _), (6, _), (8, _), (9, _), (10, _), (12, _), (81, _)]) ?_
     exact (hkf _ _ ⟨true, rfl, hg, fun _ => nosub_met (hcnt.2.elim (fun e => by have := e.1; omega) (fun e => e.2)), fun h => Bool.noConfusion h⟩).qb
    ·skip
     obtain ⟨hnV, hc0⟩ : y.1 ∉ V ∧ cnt = 0 := hcnt.2.elim (fun e => ⟨e.2, e.1⟩) (fun e => by have := e.1; omega)
     refine qT 9 rfl (fun _ hS => ymv rfl) (hg) ?_; refine qT 10 rfl (fun _ hS => yne rfl rfl) (hg) ?_; refine qT 11 rfl (fun _ hS => ypF rfl rfl) (hg) ?_; refine qT 12 rfl (fun _ hS => ymv rfl) (hg) ?_; refine rh_if (fun h2 => ?_) (fun h2 => ?_)
     ·skip
      refine qJ 13 rfl (hg) ?_; refine qJ 14 rfl (hg) ?_; refine qJ 15 rfl (hg) ?_; refine qJ 16 rfl (hg) ?_; refine qJ 17 rfl (hg) ?_; refine qJ 18 rfl (hg) ?_; refine qJ 19 rfl (hg) ?_; refine qJ 20 rfl (hg) ?_; refine qJ 21 rfl (hg) ?_; refine qJ 22 rfl (hg) ?_; refine qJ 23 rfl (hg) ?_; refine qJ 24 rfl (hg) ?_; refine qJ 25 rfl (hg) ?_; refine qJ 26 rfl (hg) ?_; refine qT 27 rfl (fun _ hS => ypT rfl rfl) (hg) ?_; refine qE ?_; refine Run.qb (e := [(0, _), (3, _), (6, _), (8, _), (9, _), (10, _), (12, _), (81, _)]) ?_
      refine (hkf _ _ ⟨true, rfl, hg, fun _ => nosub_none ?_, fun h => Bool.noConfusion h⟩).qb
      rw [hnodes]
      unfold ndOf
      rcases hdx with ⟨-, e⟩ | ⟨e, -⟩
      ·exact absurd e h2
      ·rw [e]; split <;> rfl
     ·skip
      have hd : dec y.2 = some n := hdx.elim (fun e => e.1) (fun e => absurd e.2 (by have := e.2; omega))
      refine qT 13 rfl (fun _ hS => ymv rfl) (hg) ?_; refine qT 14 rfl (fun _ hS => (by first | exact ync rfl | exact yncf rfl)) (hg) ?_; refine qT 15 rfl (fun _ hS => yfa fl97_1 rfl) (hg) ?_; refine qT 16 rfl (fun _ hS => yld U33 rfl rfl (hS.blk hBc5) rfl) (hg) ?_; refine qT 17 rfl (fun _ hS => ymv rfl) (hg) ?_; refine qT 18 rfl (fun _ hS => yis U33 ti54 rfl rfl (by omega)) (hg) ?_; refine qT 19 rfl (fun _ hS => yfa fl54_1 rfl) (hg) ?_; refine qT 22 rfl (fun _ hS => ymv rfl) (hg) ?_; refine qT 23 rfl (fun _ hS => (by first | exact ync rfl | exact yncf rfl)) (hg) ?_
      refine qT 24 rfl (fun _ hS => yfa fl97_0 rfl) (hg) ?_; refine qT 25 rfl (fun _ hS => yld U3 rfl rfl (hS.blk hBc5) rfl) (hg) ?_; refine qT 20 rfl (fun _ hS => yldc U9 rfl rfl (rd_pg1 (hc5.ext hS).rd hi' hy)) (hg) ?_; refine qT 21 rfl (fun _ hS => ylnS U9 rfl) (hg) ?_; refine qT 26 rfl (fun _ hS => yne rfl rfl) (hg) ?_; refine qT 27 rfl (fun _ hS => ypF rfl rfl) (hg) ?_; refine qE ?_; refine Run.qb (e := [(0, _), (3, _), (6, _), (8, _), (9, _), (10, _), (12, _), (81, _)]) ?_; refine (hkf _ _ ⟨_, rfl, hg, ?_, ?_⟩).qb
      ·intro h
       refine nosub_none ?_
       rw [hnodes]
       unfold ndOf
       rw [if_neg (by have := of_decide_eq_true h; omega)]
      ·intro h
       refine ⟨?_, hnV⟩
       rw [hnodes]
       unfold ndOf
       rw [if_pos (by have := of_decide_eq_false h; omega)]
       exact hd
 ·skip
  refine qV (yas rfl) ?_; refine rEnd ?_; refine run_seq ?_; refine run_seq ?_; refine run_reg rfl ?_; refine qV (ymv rfl) ?_; refine qV (ylt rfl rfl) ?_; refine rEnd ?_; refine run_if rfl (fun h0 => ?_) (fun h0 => ?_)
  ·skip
   refine run_seq ?_; refine run_reg rfl ?_; refine qV (yas rfl) ?_; refine qV (yas rfl) ?_; refine qV (yas rfl) ?_; refine rEnd ?_; refine run_ret Tryz.func54 rfl ?_
   exact ⟨_, rfl, hbad hx1.kp (nosub_none (nodesOf_none hno))⟩
  ·exact absurd (show ((-1 : Int) < 0) by decide) h0
theorem wkAt_all {q mb z : Nat} {lv : Value} {l : Pgs} (hz : sizeOk (z : Int)) (hnn : (l.map (·.1)).Nodup) (hl : l.length ≤ 1000000) (ht : ∀ y ∈ l, y.2.length ≤ 140737488355328) : ∀ k, WkAt q mb z lv l k := fun k => Nat.strongRecOn k fun k ih => wkAt_step hz hnn hl ht ih
end Go.Proofs.YtocnhaoilnojmaaGreat
