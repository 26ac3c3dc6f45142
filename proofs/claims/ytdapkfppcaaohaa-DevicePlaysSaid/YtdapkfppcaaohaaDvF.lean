/- A device and the document's device side by side. -/
import Derived.Test.YtdapkfppcaaohaaDvD
namespace Go.Proofs.Ytdapkfppcaaohaa
open Go Go.RowKit
set_option linter.all false
set_option maxRecDepth 100000

/-- The document's device of D lies at q, in the blocks G. -/
def RefA (w : World) (q : Nat) (D : Dev) (G : Nat → Prop) : Prop := ∃ sv ca kp l tn mk, RefM w q sv ca kp l tn mk D ∧ ∀ k, G k ↔ fpR q sv ca kp k
def RefT (w : World) (q : Nat) (G : Nat → Prop) (D' : Dev) (w' : World) : Prop := ∃ G', RefA w' q D' G' ∧ Upd G G' w w'
theorem RefA.kp {S G : Nat → Prop} {w w' : World} {q : Nat} {D : Dev} (h : RefA w q D G) (k : Kp S w w') (hn : ∀ i, G i → ¬ S i) : RefA w' q D G := by
  obtain ⟨sv, ca, kp, l, tn, mk, h1, h2⟩ := h
  exact ⟨sv, ca, kp, l, tn, mk, h1.carry k fun i hi => hn i ((h2 i).2 hi), h2⟩
theorem RefA.ext {G : Nat → Prop} {w w' : World} {q : Nat} {D : Dev} (h : RefA w q D G) (k : Ext w w') : RefA w' q D G := h.kp k fun _ _ => id
theorem RefA.lt {G : Nat → Prop} {w : World} {q : Nat} {D : Dev} (h : RefA w q D G) : ∀ k, G k → k < w.heap.size := by
  obtain ⟨sv, ca, kp, l, tn, mk, h1, h2⟩ := h
  exact fun k hk => h1.lt k ((h2 k).1 hk)
theorem RefA.own {G : Nat → Prop} {w : World} {q : Nat} {D : Dev} (h : RefA w q D G) : G q := by
  obtain ⟨sv, ca, kp, l, tn, mk, h1, h2⟩ := h
  exact (h2 q).2 (.inl rfl)
theorem RefR.toA {w w' : World} {q : Nat} {sv ca kp : Value} {D' : Dev} {G : Nat → Prop} (hG : ∀ k, G k ↔ fpR q sv ca kp k) (h : RefR w q sv ca kp D' w') : RefT w q G D' w' := by
  have e : G = fpR q sv ca kp := funext fun k => propext (hG k)
  subst e
  obtain ⟨sv', ca', kp', l, tn, mk, h1, h2⟩ := h
  exact ⟨_, ⟨sv', ca', kp', l, tn, mk, h1, fun k => Iff.rfl⟩, h2⟩
theorem RefT.kpG {w w' : World} {q : Nat} {G : Nat → Prop} {D' : Dev} (h : RefT w q G D' w') : Kp G w w' := by
  obtain ⟨G', -, hu⟩ := h
  exact hu.1
theorem DevT.kpF' {w w' : World} {p : Nat} {F : Nat → Prop} {D' : Dev} (h : DevT w p F D' w') : Kp F w w' := by
  obtain ⟨F', -, hu⟩ := h
  exact hu.1

section
variable {w : World} {q : Nat} {D : Dev} {G : Nat → Prop}
theorem rsizeA_ret (h : RefA w q D G) : Ret Try.prog 47 [ptr q 0] w fun v w' => v = I ((512 * D.N : Nat) : Int) ∧ w' = w := by
  obtain ⟨sv, ca, kp, l, tn, mk, h1, h2⟩ := h; exact rsize_ret h1
theorem rreadA_ret (n : Int) (h : RefA w q D G) {k : Nat} (hs : D.Small k) (hk : k ≤ 1000000) :
    Ret Try.prog 73 [ptr q 0, I n] w fun v w' => v = .tuple #[S (D.read n).2.1, I (D.read n).2.2] ∧ RefT w q G (D.read n).1 w' := by
  obtain ⟨sv, ca, kp, l, tn, mk, h1, h2⟩ := h
  exact (rread_ret n h1 (hs.bd hk)).mono fun v w' ⟨e, h3⟩ => ⟨e, h3.toA h2⟩
theorem rwriteA_ret (n : Int) (s : Bytes) (h : RefA w q D G) {k : Nat} (hs : D.Small k) (hk : k ≤ 1000000) :
    Ret Try.prog 71 [ptr q 0, I n, S s] w fun v w' => v = I (D.write n s).2 ∧ RefT w q G (D.write n s).1 w' := by
  obtain ⟨sv, ca, kp, l, tn, mk, h1, h2⟩ := h
  exact (rwrite_ret n s h1 (hs.bd hk) h1.len).mono fun v w' ⟨e, h3⟩ => ⟨e, h3.toA h2⟩
theorem rflushA_ret (h : RefA w q D G) {k : Nat} (hs : D.Small k) (hk : k ≤ 1000000) :
    Ret Try.prog 72 [ptr q 0] w fun v w' => v = I D.flush.2 ∧ RefT w q G D.flush.1 w' := by
  obtain ⟨sv, ca, kp, l, tn, mk, h1, h2⟩ := h
  exact (rflush_ret h1 (hs.bd hk) h1.len).mono fun v w' ⟨e, h3⟩ => ⟨e, h3.toA h2⟩
theorem rplanA_ret (at' : Int) (cv : Value) (l' : List Int) (tn' : Int) (mk' : UInt8) (h : RefA w q D G) (hl : l'.length ≤ 17592186044416) (hr : Rd w cv 1 l'.length (l'.map I)) (hq : 0 < l'.length → ∀ g, cv.ownBlock = some g → ¬ G g) (hat : at' ≤ 9223372036854775807) :
    Ret Try.prog 74 [ptr q 0, I at', .agg #[cv, I tn', u8v mk']] w fun v w' => v = I (D.plan at' l' tn' mk').2 ∧ RefT w q G (D.plan at' l' tn' mk').1 w' := by
  obtain ⟨sv, ca, kp, l, tn, mk, h1, h2⟩ := h
  exact (rplan_ret at' cv l' tn' mk' h1 hl hr (fun h0 e => hq h0 q e ((h2 q).2 (.inl rfl))) hat).mono fun v w' ⟨e, h3⟩ => ⟨e, h3.toA h2⟩
theorem rpullA_ret (cv : Value) (l' : List Int) (tn' : Int) (mk' : UInt8) (h : RefA w q D G) {k : Nat} (hs : D.Small k) (hk : k ≤ 1000000) (hl : l'.length ≤ 17592186044416) (hr : Rd w cv 1 l'.length (l'.map I)) (hq : 0 < l'.length → ∀ g, cv.ownBlock = some g → ¬ G g) :
    Ret Try.prog 75 [ptr q 0, .agg #[cv, I tn', u8v mk']] w fun v w' => v = I (if D.down then 8 else 0) ∧ RefT w q G (if D.down then D else D.fall l' tn' mk') w' := by
  obtain ⟨sv, ca, kp, l, tn, mk, h1, h2⟩ := h
  exact (rpull_ret h1 cv l' tn' mk' hl hr (fun h0 g hg e => hq h0 g e ((h2 g).2 (.inr (.inl hg)))) (hs.bd hk)).mono fun v w' ⟨e, h3⟩ => ⟨e, h3.toA h2⟩
theorem rrestartA_ret (h : RefA w q D G) : Ret Try.prog 76 [ptr q 0] w fun v w' => v = I (if D.down then 0 else 5) ∧ RefT w q G { D with down := false } w' := by
  obtain ⟨sv, ca, kp, l, tn, mk, h1, h2⟩ := h
  exact (rrestart_ret h1).mono fun v w' ⟨e, h3, hk⟩ => ⟨e, (RefR.own h3 hk).toA h2⟩
theorem rcorruptA_ret (n at' : Int) (d : Bytes) (h : RefA w q D G) {k : Nat} (hs : D.Small k) (hk : k ≤ 1000000) (hat : at' ≤ 9223372036854775807) (hd : d.length ≤ 9223372036854775807) :
    Ret Try.prog 77 [ptr q 0, I n, I at', S d] w fun v w' => v = I (D.corrupt n at' d).2 ∧ RefT w q G (D.corrupt n at' d).1 w' := by
  obtain ⟨sv, ca, kp, l, tn, mk, h1, h2⟩ := h
  exact (rcorrupt_ret n at' d h1 (hs.bd hk).2.1 hat hd).mono fun v w' ⟨e, h3⟩ => ⟨e, h3.toA h2⟩
theorem rimageA_ret (h : RefA w q D G) {k : Nat} (hs : D.Small k) (hk : k ≤ 1000000) :
    Ret Try.prog 79 [ptr q 0] w fun v w' => Sl w' v 9 1 D.B (D.image.map S) ∧ Ext w w' ∧ ∀ g, v.ownBlock = some g → w.heap.size ≤ g := by
  obtain ⟨sv, ca, kp, l, tn, mk, h1, h2⟩ := h
  exact rimage_ret h1 (hs.bd hk).2.1
theorem rtwinA_ret (h : RefA w q D G) {k : Nat} (hs : D.Small k) (hk : k ≤ 1000000) :
    Ret Try.prog 43 [ptr q 0] w fun v w' => ∃ q' G', v = ptr q' 0 ∧ RefA w' q' D G' ∧ Ext w w' ∧ ∀ i, G' i → w.heap.size ≤ i := by
  obtain ⟨sv, ca, kp, l, tn, mk, h1, h2⟩ := h
  exact (rtwin_ret h1 h1.len (by have := hs.2.1; omega)).mono fun v w' ⟨q', sv', ca', kp', e, h3, hx, hl⟩ => ⟨q', _, e, ⟨sv', ca', kp', l, tn, mk, h3, fun k => Iff.rfl⟩, hx, hl⟩
theorem rnewA_ok (B N : Nat) (w : World) (hg : geoOk B N) : Ret Try.prog 40 [.agg #[I (B : Int), I (N : Int)]] w fun v w' => ∃ q G, v = .tuple #[ptr q 0, I 0] ∧ RefA w' q (Dev.fresh B N) G ∧ Ext w w' ∧ ∀ i, G i → w.heap.size ≤ i :=
  (rnew_ok B N w hg).mono fun v w' ⟨q, sv, e, h, hx, hl⟩ => ⟨q, _, e, ⟨sv, _, _, _, _, _, h, fun k => Iff.rfl⟩, hx, hl⟩
/-- The cells of the document's device. -/
theorem RefA.cells (h : RefA w q D G) : ∃ sa sn sc ca cc kp tn mk, Blk w q (refCs (.slice sa sn sc) (.slice ca D.cache.length cc) kp tn mk D) 86 := by
  obtain ⟨sv, ca, kp, l, tn, mk, h1, h2⟩ := h
  obtain ⟨sa, sc, rfl, -⟩ := h1.safe.rd.shape
  obtain ⟨ca', cc, rfl, -⟩ := h1.cache.rd.shape
  exact ⟨sa, D.B, sc, ca', cc, kp, tn, mk, h1.blk⟩
end

/-- Both lie side by side. -/
structure PairS (w : World) (p q : Nat) (D T : Dev) (F G : Nat → Prop) : Prop where
  d : DevA w p D F
  r : RefA w q T G
  dis : ∀ i, F i → ¬ G i
/-- What has been changed, and where they lie now. -/
structure Pass (F G F' G' : Nat → Prop) (w w' : World) : Prop where
  kp : Kp (fun i => F i ∨ G i) w w'
  f : ∀ i, F' i → F i ∨ w.heap.size ≤ i
  g : ∀ i, G' i → G i ∨ w.heap.size ≤ i
theorem Pass.refl (F G : Nat → Prop) (w : World) : Pass F G F G w w := ⟨Kp.refl _ w, fun _ h => .inl h, fun _ h => .inl h⟩
theorem Pass.trans {F G F1 G1 F2 G2 : Nat → Prop} {a b c : World} (h : Pass F G F1 G1 a b) (k : Pass F1 G1 F2 G2 b c) : Pass F G F2 G2 a c :=
  ⟨h.kp.trans_new k.kp fun i hi => by
    rcases hi with hi | hi
    · rcases h.f i hi with h' | h'
      · exact .inr (.inl h')
      · exact .inl h'
    · rcases h.g i hi with h' | h'
      · exact .inr (.inr h')
      · exact .inl h', fun i hi => by
    rcases k.f i hi with h' | h'
    · exact h.f i h'
    · exact .inr (Nat.le_trans h.kp.size h'), fun i hi => by
    rcases k.g i hi with h' | h'
    · exact h.g i h'
    · exact .inr (Nat.le_trans h.kp.size h')⟩
theorem Ext.pass {F G : Nat → Prop} {w w' : World} (h : Ext w w') : Pass F G F G w w' := ⟨h.kp, fun _ h => .inl h, fun _ h => .inl h⟩
section
variable {w w' : World} {p q : Nat} {D T D' T' : Dev} {F G : Nat → Prop}
theorem PairS.ext (h : PairS w p q D T F G) (k : Ext w w') : PairS w' p q D T F G := ⟨h.d.ext k, h.r.ext k, h.dis⟩
theorem PairS.stepD (h : PairS w p q D T F G) (k : DevT w p F D' w') : ∃ F', PairS w' p q D' T F' G ∧ Pass F G F' G w w' := by
  obtain ⟨F', h1, hu⟩ := k
  exact ⟨F', ⟨h1, h.r.kp hu.1 (fun i hg hf => h.dis i hf hg), hu.dis h.r.lt h.dis⟩, hu.1.mono' fun i hi => .inl hi, hu.2, fun _ h => .inl h⟩
theorem PairS.stepR (h : PairS w p q D T F G) (k : RefT w q G T' w') : ∃ G', PairS w' p q D T' F G' ∧ Pass F G F G' w w' := by
  obtain ⟨G', h1, hu⟩ := k
  have hd := hu.dis h.d.lt (fun i hg hf => h.dis i hf hg)
  exact ⟨G', ⟨h.d.kp hu.1 (fun i hf hg => h.dis i hf hg), h1, fun i hf hg => hd i hg hf⟩, hu.1.mono' fun i hi => .inr hi, fun _ h => .inl h, hu.2⟩
theorem PairS.kp {S : Nat → Prop} (h : PairS w p q D T F G) (k : Kp S w w') (hn : ∀ i, F i ∨ G i → ¬ S i) : PairS w' p q D T F G := ⟨h.d.kp k fun i hi => hn i (.inl hi), h.r.kp k fun i hi => hn i (.inr hi), h.dis⟩
theorem PairS.lt (h : PairS w p q D T F G) : ∀ i, F i ∨ G i → i < w.heap.size := fun i hi => hi.elim (h.d.lt i) (h.r.lt i)
end
end Go.Proofs.Ytdapkfppcaaohaa
