/- Texts LwS, LwT, LwN, LwQ, LwE, LwR, LwK, LwX, LwU, LwZ, LwY, LwG, LwC, LwD, LwF, LwJ, Row, one behind the other (what the statement TreeStores does not use is left out). -/
import Derived.Test.YtocnhaoilnojmaaGreatTQp1
import Derived.Test.YtocnhaoilnojmaaGreatTQp7
import Derived.Test.YtocnhaoilnojmaaGreatTQp4
import Derived.Laws.StructEq
import Derived.ChangeKeysEq
import Derived.Test.YtocnhaoilnojmaaGreatTQp6
import Derived.Test.YtocnhaoilnojmaaGreatRows
import Derived.SizedLaws
import Derived.Carry
import Derived.WalkKit
import Derived.ProofKit
import Derived.OpenShut
import Derived.ShutString
import Derived.ChangeOld
import Derived.Below
import Derived.Lib.SmallJoins
namespace Go.Proofs.YtocnhaoilnojmaaGreat
open Go Go.RowKit
set_option linter.all false
set_option maxRecDepth 100000
structure Sx where
 T : Tr
 H : Nat
 ns : List Int
 es : Es
 O : Nodes
 os : List Int
 gs : List Int
 nx : Nat
structure Gh (X : Sx) (k : Nat) : Prop where
 inv : Inv X.T X.H X.ns X.es
 ond : X.os.Nodup
 om : ∀ x, X.O x ≠ none ↔ x ∈ X.os
 old : ∀ x, X.T.old x = true ↔ X.O x ≠ none
 same : ∀ x, X.T.changed x = false → X.T.nodes x ≠ none → X.T.nodes x = X.O x
 src : ∀ x, (X.T.nodes x ≠ none ∨ x ∈ X.T.given) → x ∈ X.os ∨ x ∈ X.gs
 el : X.es.length ≤ k
 ol : X.os.length ≤ 2 * k
 nl : X.nx ≤ 2000 * k
 gl : X.gs.length ≤ 4294967296 * k
theorem Gh.mono {X : Sx} {k k' : Nat} (h : Gh X k) (hk : k ≤ k') : Gh X k' :=
 ⟨h.inv, h.ond, h.om, h.old, h.same, h.src, Nat.le_trans h.el hk, Nat.le_trans h.ol (Nat.mul_le_mul_left _ hk), Nat.le_trans h.nl (Nat.mul_le_mul_left _ hk), Nat.le_trans h.gl (Nat.mul_le_mul_left _ hk)⟩
theorem gh0 (z : Nat) : Gh ⟨Tr0 z, 0, [], [], fun _ => none, [], [], 0⟩ 0 :=
 ⟨inv0 z, List.nodup_nil, fun x => by simp, fun x => by simp [Tr0], fun x _ h => absurd rfl h, fun x h => by simp [Tr0] at h, Nat.le_refl _, Nat.le_refl _, Nat.le_refl _, Nat.le_refl _⟩
theorem Gh.evo {X : Sx} {k g : Nat} (h : Gh X k) {T' : Tr} {H' : Nat} {ns' : List Int} {es' : Es} (e : EvoR X.T T' g) (hI : Inv T' H' ns' es') {k' : Nat} (hk : k ≤ k') (hl : es'.length ≤ k') : Gh { X with T := T', H := H', ns := ns', es := es' } k' := by
 have e' : Evo _ _ _ := e
 have hm := h.mono hk
 refine ⟨hI, h.ond, h.om, fun x => by rw [show T'.old = X.T.old from e'.old]; exact h.old x, fun x hc hn => ?_, fun x hx => ?_, hl, hm.ol, hm.nl, hm.gl⟩
 ·rcases e'.chg x hc with h1 | ⟨h1, h2⟩
  ·exact absurd h1 hn
  ·have zM : T'.nodes x = X.T.nodes x := h1; dsimp only at hn ⊢; rw [zM] at hn ⊢; exact h.same x h2 hn
 ·rcases hx with hx | hx
  ·exact h.src x (e'.nod x hx)
  ·rcases e'.giv x hx with h1 | h1
   ·exact h.src x (.inr h1)
   ·exact h.src x (.inl h1.1)
theorem Gh.give {X : Sx} {k : Nat} (h : Gh X k) {l : List Int} (hl : giveOk X.T l) : Gh { X with T := { X.T with given := sortZ (X.T.given ++ l) }, gs := X.gs ++ l } (k + 1) := by
 have hm := h.mono (Nat.le_succ k)
 refine ⟨h.inv.give hl, h.ond, h.om, h.old, h.same, fun x hx => ?_, hm.el, hm.ol, hm.nl, ?_⟩
 ·rcases hx with hx | hx
  ·rcases h.src x (.inl hx) with h1 | h1
   ·exact .inl h1
   ·exact .inr (List.mem_append_left _ h1)
  ·rcases List.mem_append.1 (sortZ_mem.1 hx) with hx | hx
   ·rcases h.src x (.inr hx) with h1 | h1
    ·exact .inl h1
    ·exact .inr (List.mem_append_left _ h1)
   ·exact .inr (List.mem_append_right _ hx)
 ·have h1 := nodup_le hl.1 (fun x hx => (hl.2 x hx).1); have h2 := h.gl; dsimp only; rw [List.length_append, Nat.mul_succ]; omega
def Sx.clean (X : Sx) : Sx := { X with T := { X.T with changed := fun _ => false, old := fun x => (X.T.nodes x).isSome }, O := X.T.nodes, os := X.ns, gs := X.T.given }
theorem Gh.clean {X : Sx} {k : Nat} (h : Gh X k) (hz : sizeOk (X.T.size : Int)) (h0 : 1 ≤ k) : Gh X.clean k := by
 have hI := h.inv
 have hc := Inv.cnts hz hI
 have fi := h.el
 refine ⟨⟨hI.std, hI.all, hI.cnt, hI.num, hI.gnum, ⟨hI.giv.rise, fun x hx => ⟨(hI.giv.free x hx).1, ?_⟩⟩, fun x hx _ => ?_⟩, hI.nodup, hI.mem, fun x => ?_, fun x _ _ => rfl, fun x hx => ?_, h.el, ?_, h.nl, ?_⟩
 ·show (X.T.nodes x).isSome = false; rw [(hI.giv.free x hx).1]; rfl
 ·show (X.T.nodes x).isSome = true; exact Option.isSome_iff_ne_none.2 hx
 ·show (X.T.nodes x).isSome = true ↔ _; exact Option.isSome_iff_ne_none
 ·rcases hx with hx | hx
  ·exact .inl ((hI.mem x).1 hx)
  ·exact .inr hx
 ·show X.ns.length ≤ _; omega
 ·show X.T.given.length ≤ _; have := hI.gl; have : 4294967296 * 1 ≤ 4294967296 * k := Nat.mul_le_mul_left _ h0; omega
noncomputable def Sx.load (X : Sx) (l : Pgs) : Sx := { X with T := TrL X.T.size X.T.root l X.es.length, O := X.T.nodes, os := X.ns, gs := [] }
theorem Gh.load {X : Sx} {k : Nat} (h : Gh X k) (hz : sizeOk (X.T.size : Int)) {l : Pgs} (hl : OwnP X.T X.ns l) (hk : Kids32 X.T.nodes) : Gh (X.load l) k := by
 have hI := h.inv
 have hc := Inv.cnts hz hI
 have fi := h.el
 have hN := hl.nodes hI hz hk
 have EI : ∀ x, (TrL X.T.size X.T.root l X.es.length).nodes x = X.T.nodes x := fun x => congrFun hN x
 refine ⟨(hl.ok hI hz hk).inv (hl.nums hI hz), hI.nodup, hI.mem, fun x => ?_, fun x _ _ => EI x, fun x hx => ?_, h.el, ?_, h.nl, Nat.zero_le _⟩
 ·show decide (x ∈ l.map (·.1)) = true ↔ X.T.nodes x ≠ none; rw [decide_eq_true_iff, hl.mem x, hI.mem x]
 ·rcases hx with hx | hx
  ·refine .inl ((hI.mem x).1 ?_); rw [← EI x]; exact hx
  ·cases hx
 ·show X.ns.length ≤ _; omega
structure StM (w : World) (q : Nat) (X : Sx) (p m : Nat) (mv sv gv : Value) (nb : Int → Nat) (F : Nat → Prop) : Prop where
 blk : Blk w q [I (X.T.size : Int), ptr p 0, ptr m 0, sv, gv, I (X.nx : Int)] 36
 tree : TreeA w p X.T nb F
 map : MpM w m mv X.es
 sto : Sl w sv 54 2 (pgs X.T.size X.O X.os fun _ => true).length (pgC (pgs X.T.size X.O X.os fun _ => true))
 giv : Sl w gv 3 1 X.gs.length (X.gs.map I)
 qm : q ≠ m
 fq : ¬ F q
 fm : ¬ F m
 ov : ∀ g, mv.ownBlock = some g ∨ sv.ownBlock = some g ∨ gv.ownBlock = some g → g ≠ q ∧ g ≠ m ∧ ¬ F g
 og : ∀ g, gv.ownBlock = some g → mv.ownBlock ≠ some g ∧ sv.ownBlock ≠ some g
def fpS (q m : Nat) (mv sv gv : Value) (F : Nat → Prop) (k : Nat) : Prop := k = q ∨ k = m ∨ mv.ownBlock = some k ∨ sv.ownBlock = some k ∨ gv.ownBlock = some k ∨ F k
section
variable {w w' : World} {q : Nat} {X : Sx} {p m : Nat} {mv sv gv : Value} {nb : Int → Nat} {F : Nat → Prop}
theorem StM.ext (h : StM w q X p m mv sv gv nb F) (k : Ext w w') : StM w' q X p m mv sv gv nb F :=
 ⟨k.blk h.blk, h.tree.ext k, h.map.ext k, h.sto.ext k, h.giv.ext k, h.qm, h.fq, h.fm, h.ov, h.og⟩
theorem StM.lt (h : StM w q X p m mv sv gv nb F) {k : Nat} (hk : fpS q m mv sv gv F k) : k < w.heap.size := by
 rcases hk with rfl | rfl | hk | hk | hk | hk
 ·exact h.blk.lt
 ·exact h.map.blk.lt
 ·exact h.map.sl.lt hk
 ·exact h.sto.lt hk
 ·exact h.giv.lt hk
 ·exact h.tree.lt k hk
end
section
variable {w w' w1 w2 : World} {q : Nat} {X : Sx} {p m : Nat} {mv sv gv : Value} {nb : Int → Nat} {F : Nat → Prop}
theorem StM.treed (h : StM w q X p m mv sv gv nb F) {T' : Tr} {nb' : Int → Nat} {F' : Nat → Prop} (hT : TreeA w' p T' nb' F') (hs : T'.size = X.T.size) (hk : Kp F w w') (hF : ∀ k, F' k → F k ∨ w.heap.size ≤ k) :
  StM w' q { X with T := T' } p m mv sv gv nb' F' ∧ Kp (fpS q m mv sv gv F) w w' ∧ ∀ k, fpS q m mv sv gv F' k → fpS q m mv sv gv F k ∨ w.heap.size ≤ k := by
 have hq := h.blk.lt
 have hm := h.map.blk.lt
 refine ⟨⟨?_, hT, h.map.kp hk h.fm (fun g hg => (h.ov g (.inl hg)).2.2), ?_, h.giv.kp hk (fun g hg => (h.ov g (.inr (.inr hg))).2.2), h.qm, fun e => (hF q e).elim h.fq (fun e => by omega), fun e => (hF m e).elim h.fm (fun e => by omega), fun g hg => ⟨(h.ov g hg).1, (h.ov g hg).2.1, fun e => (hF g e).elim (h.ov g hg).2.2 (fun e => ?_)⟩, h.og⟩, hk.mono' (fun k hk => .inr (.inr (.inr (.inr (.inr hk))))), fun k hk => ?_⟩
 ·have := hk.blk h.blk h.fq; rw [← hs] at this; exact this
 ·dsimp only; rw [hs]; exact h.sto.kp hk (fun g hg => (h.ov g (.inr (.inl hg))).2.2)
 ·have := h.lt (k := g) (by rcases hg with hg | hg | hg; exact .inr (.inr (.inl hg)); exact .inr (.inr (.inr (.inl hg))); exact .inr (.inr (.inr (.inr (.inl hg))))); omega
 ·rcases hk with hk | hk | hk | hk | hk | hk
  ·exact .inl (.inl hk)
  ·exact .inl (.inr (.inl hk))
  ·exact .inl (.inr (.inr (.inl hk)))
  ·exact .inl (.inr (.inr (.inr (.inl hk))))
  ·exact .inl (.inr (.inr (.inr (.inr (.inl hk)))))
  ·exact (hF k hk).imp (fun e => .inr (.inr (.inr (.inr (.inr e))))) id
theorem StM.next (h : StM w q X p m mv sv gv nb F) {n : Nat} (hB : Blk w' q [I (X.T.size : Int), ptr p 0, ptr m 0, sv, gv, I (n : Int)] 36) (hk : Kp (fun k => k = q) w w') : StM w' q { X with nx := n } p m mv sv gv nb F :=
 ⟨hB, h.tree.kp hk (fun g hg e => h.fq (e ▸ hg)), h.map.kp hk (fun e => h.qm e.symm) (fun g hg e => (h.ov g (.inl hg)).1 e), h.sto.kp hk (fun g hg e => (h.ov g (.inr (.inl hg))).1 e), h.giv.kp hk (fun g hg e => (h.ov g (.inr (.inr hg))).1 e), h.qm, h.fq, h.fm, h.ov, h.og⟩
theorem StM.gave (h : StM w q X p m mv sv gv nb F) {gs' : List Int} {gv' : Value} (hS : Sl w1 gv' 3 1 gs'.length (gs'.map I)) (aC : Kp (fun k => gv.ownBlock = some k) w w1) (ho : ∀ g, gv'.ownBlock = some g → gv.ownBlock = some g ∨ w.heap.size ≤ g)
  (hB : Blk w2 q [I (X.T.size : Int), ptr p 0, ptr m 0, sv, gv', I (X.nx : Int)] 36) (am : Kp (fun k => k = q) w1 w2) :
  StM w2 q { X with gs := gs' } p m mv sv gv' nb F ∧ Kp (fpS q m mv sv gv F) w w2 ∧ ∀ k, fpS q m mv sv gv' F k → fpS q m mv sv gv F k ∨ w.heap.size ≤ k := by
 have cO : Kp (fun k => k = q ∨ gv.ownBlock = some k) w w2 := (aC.mono' (fun k e => .inr e)).trans (am.mono' (fun k e => .inl e))
 have uA : ∀ g, gv'.ownBlock = some g → g ≠ q ∧ g ≠ m ∧ ¬ F g ∧ mv.ownBlock ≠ some g ∧ sv.ownBlock ≠ some g := fun g hg => by
  rcases ho g hg with e | e
  ·have h1 := h.ov g (.inr (.inr e)); have h2 := h.og g e; exact ⟨h1.1, h1.2.1, h1.2.2, h2.1, h2.2⟩
  ·have h1 := h.blk.lt; have h2 := h.map.blk.lt; exact ⟨by omega, by omega, fun e' => by have := h.tree.lt g e'; omega, fun e' => by have := h.map.sl.lt e'; omega, fun e' => by have := h.sto.lt e'; omega⟩
 refine ⟨⟨hB, h.tree.kp cO (fun g hg e => e.elim (fun e => h.fq (e ▸ hg)) (fun e => (h.ov g (.inr (.inr e))).2.2 hg)), h.map.kp cO (fun e => e.elim (fun e => h.qm e.symm) (fun e => (h.ov m (.inr (.inr e))).2.1 rfl)) (fun g hg e => e.elim (fun e => (h.ov g (.inl hg)).1 e) (fun e => (h.og g e).1 hg)), h.sto.kp cO (fun g hg e => e.elim (fun e => (h.ov g (.inr (.inl hg))).1 e) (fun e => (h.og g e).2 hg)), hS.kp am (fun g hg e => (uA g hg).1 e), h.qm, h.fq, h.fm, fun g hg => ?_, fun g hg => (uA g hg).2.2.2⟩, cO.mono' (fun k e => e.elim .inl (fun e => .inr (.inr (.inr (.inr (.inl e)))))), fun k hk => ?_⟩
 ·rcases hg with hg | hg | hg
  ·exact h.ov g (.inl hg)
  ·exact h.ov g (.inr (.inl hg))
  ·have := uA g hg; exact ⟨this.1, this.2.1, this.2.2.1⟩
 ·rcases hk with hk | hk | hk | hk | hk | hk
  ·exact .inl (.inl hk)
  ·exact .inl (.inr (.inl hk))
  ·exact .inl (.inr (.inr (.inl hk)))
  ·exact .inl (.inr (.inr (.inr (.inl hk))))
  ·exact (ho k hk).imp (fun e => .inr (.inr (.inr (.inr (.inl e))))) id
  ·exact .inl (.inr (.inr (.inr (.inr (.inr hk)))))
theorem StM.mapped (h : StM w q X p m mv sv gv nb F) {es' : Es} (hM : MpS m w w' es') :
  ∃ mv', StM w' q { X with es := es' } p m mv' sv gv nb F ∧ Kp (fpS q m mv sv gv F) w w' ∧ ∀ k, fpS q m mv' sv gv F k → fpS q m mv sv gv F k ∨ w.heap.size ≤ k := by
 obtain ⟨mv', hM, hk, ho⟩ := hM
 have hq := h.blk.lt
 have hm := h.map.blk.lt
 refine ⟨mv', ⟨hk.blk h.blk h.qm, h.tree.kp hk (fun g hg e => h.fm (e ▸ hg)), hM, h.sto.kp hk (fun g hg e => (h.ov g (.inr (.inl hg))).2.1 e), h.giv.kp hk (fun g hg e => (h.ov g (.inr (.inr hg))).2.1 e), h.qm, h.fq, h.fm, fun g hg => ?_, fun g hg => ⟨fun e => ?_, (h.og g hg).2⟩⟩, hk.mono' (fun k e => .inr (.inl e)), fun k aS => ?_⟩
 ·rcases hg with hg | hg | hg
  ·have := ho g hg; exact ⟨by omega, by omega, fun e => by have := h.tree.lt g e; omega⟩
  ·exact h.ov g (.inr (.inl hg))
  ·exact h.ov g (.inr (.inr hg))
 ·have := ho g e; have := h.giv.lt hg; omega
 ·rcases aS with aS | aS | aS | aS | aS | aS
  ·exact .inl (.inl aS)
  ·exact .inl (.inr (.inl aS))
  ·exact .inr (ho k aS)
  ·exact .inl (.inr (.inr (.inr (.inl aS))))
  ·exact .inl (.inr (.inr (.inr (.inr (.inl aS)))))
  ·exact .inl (.inr (.inr (.inr (.inr (.inr aS)))))
end
theorem StM.hn {w : World} {q : Nat} {X : Sx} {p m : Nat} {mv sv gv : Value} {nb : Int → Nat} {F : Nat → Prop} (h : StM w q X p m mv sv gv nb F) (a : Nat) (b : List Int) : StM w q { X with H := a, ns := b } p m mv sv gv nb F :=
 ⟨h.blk, h.tree, h.map, h.sto, h.giv, h.qm, h.fq, h.fm, h.ov, h.og⟩
def StF (w : World) (q m : Nat) (X : Sx) (fp : Nat → Prop) : Prop := ∃ p mv sv gv nb F, StM w q X p m mv sv gv nb F ∧ ∀ k, fp k ↔ fpS q m mv sv gv F k
def StR (q m : Nat) (fp : Nat → Prop) (w w' : World) (X' : Sx) : Prop := ∃ fp', StF w' q m X' fp' ∧ Kp fp w w' ∧ ∀ k, fp' k → fp k ∨ w.heap.size ≤ k
section
variable {w w' w1 w2 : World} {q m : Nat} {X X1 X2 : Sx} {fp : Nat → Prop}
theorem StF.lt (h : StF w q m X fp) {k : Nat} (hk : fp k) : k < w.heap.size := by
 obtain ⟨p, mv, sv, gv, nb, F, hM, hf⟩ := h
 exact hM.lt ((hf k).1 hk)
theorem StF.ext (h : StF w q m X fp) (k : Ext w w') : StF w' q m X fp := by
 obtain ⟨p, mv, sv, gv, nb, F, hM, hf⟩ := h
 exact ⟨p, mv, sv, gv, nb, F, hM.ext k, hf⟩
theorem StR.refl (h : StF w q m X fp) (k : Ext w w') : StR q m fp w w' X := ⟨fp, h.ext k, k.kp, fun _ h => .inl h⟩
theorem StR.trans (h1 : StR q m fp w w1 X1) (h2 : ∀ fp', StF w1 q m X1 fp' → StR q m fp' w1 w2 X2) : StR q m fp w w2 X2 := by
 obtain ⟨f1, s1, k1, n1⟩ := h1
 obtain ⟨f2, s2, k2, n2⟩ := h2 f1 s1
 refine ⟨f2, s2, k1.trans_new k2 (fun i hi => (n1 i hi).symm), fun k hk => ?_⟩
 rcases n2 k hk with h | h
 ·exact n1 k h
 ·have := k1.size; exact .inr (by omega)
end
structure NeedI (X X' : Sx) (i : Nat) : Prop where
 eH : X'.H = X.H
 en : X'.ns = X.ns
 ee : X'.es = X.es
 eO : X'.O = X.O
 eo : X'.os = X.os
 ex : X'.nx = X.nx + i
 eT : X'.T = { X.T with given := X'.T.given }
 inv : Inv X'.T X.H X.ns X.es
 src : ∀ x ∈ X'.T.given, x ∈ X.os ∨ x ∈ X'.gs
 gsub : ∀ x ∈ X.gs, x ∈ X'.gs
 gl : X'.gs.length ≤ X.gs.length + i
 tried : ∃ D : List Int, D.Nodup ∧ (∀ x ∈ D, x ∈ X.ns ∨ x ∈ X.os ∨ x ∈ X.T.given) ∧ (∀ x ∈ D, x ≤ (X.nx : Int) + i) ∧ X'.T.given.length + D.length = X.T.given.length + i
 new : ∀ x ∈ X'.T.given, x ∈ X.T.given ∨ x ≤ (X.nx : Int) + i
section
variable {X X' : Sx} {k i : Nat}
theorem NeedI.zero (hG : Gh X k) : NeedI X X 0 :=
 ⟨rfl, rfl, rfl, rfl, rfl, rfl, rfl, hG.inv, fun x hx => hG.src x (.inr hx), fun x hx => hx, Nat.le_refl _, ⟨[], List.nodup_nil, by simp, by simp, rfl⟩, fun x hx => .inl hx⟩
theorem NeedI.yes (h : NeedI X X' i) (bi : giveOk X'.T [((X'.nx + 1 : Nat) : Int)]) : NeedI X { X' with T := { X'.T with given := sortZ (X'.T.given ++ [((X'.nx + 1 : Nat) : Int)]) }, gs := X'.gs ++ [((X'.nx + 1 : Nat) : Int)], nx := X'.nx + 1 } (i + 1) := by
 obtain ⟨D, d1, d2, d3, d4⟩ := h.tried
 have hx := h.ex
 refine ⟨h.eH, h.en, h.ee, h.eO, h.eo, by dsimp only; omega, by rw [h.eT], h.inv.give bi, fun x aZ => ?_, fun x aZ => List.mem_append_left _ (h.gsub x aZ), by dsimp only; rw [List.length_append]; have := h.gl; simp; omega, ⟨D, d1, d2, fun x aZ => by have := d3 x aZ; omega, by dsimp only; rw [sortZ_len, List.length_append]; simp; omega⟩, fun x aZ => ?_⟩
 ·rcases List.mem_append.1 (sortZ_mem.1 aZ) with h1 | h1
  ·exact (h.src x h1).imp id (fun e => List.mem_append_left _ e)
  ·exact .inr (List.mem_append_right _ h1)
 ·rcases List.mem_append.1 (sortZ_mem.1 aZ) with h1 | h1
  ·exact (h.new x h1).imp id (fun e => by omega)
  ·simp at h1; exact .inr (by omega)
theorem NeedI.no (h : NeedI X X' i) (hG : Gh X k) (hk : k ≤ 1000) (hi : i ≤ 2000) (cw : ¬ giveOk X'.T [((X'.nx + 1 : Nat) : Int)]) : NeedI X { X' with nx := X'.nx + 1 } (i + 1) := by
 obtain ⟨D, d1, d2, d3, d4⟩ := h.tried
 have hx := h.ex
 have pB := hG.nl
 refine ⟨h.eH, h.en, h.ee, h.eO, h.eo, by dsimp only; omega, h.eT, h.inv, h.src, h.gsub, by dsimp only; have := h.gl; omega, ⟨((X'.nx + 1 : Nat) : Int) :: D, List.nodup_cons.2 ⟨fun e => by have := d3 _ e; omega, d1⟩, fun x aZ => ?_, fun x aZ => ?_, by simp; omega⟩, fun x aZ => (h.new x aZ).imp id (fun e => by omega)⟩
 ·rcases List.mem_cons.1 aZ with rfl | aZ
  ·by_cases hn : X.T.nodes ((X'.nx + 1 : Nat) : Int) = none
   ·by_cases ho : X.T.old ((X'.nx + 1 : Nat) : Int) = true
    ·exact .inr (.inl ((hG.om _).1 ((hG.old _).1 ho)))
    ·by_cases hg : ((X'.nx + 1 : Nat) : Int) ∈ X'.T.given
     ·rcases h.new _ hg with e | e
      ·exact .inr (.inr e)
      ·omega
     ·exfalso; refine cw ⟨by simp, fun x hx => ?_⟩; simp only [List.mem_singleton] at hx; subst hx; refine ⟨by omega, by rw [h.eT]; exact hn, by rw [h.eT]; simpa using ho, hg⟩
   ·exact .inl ((hG.inv.mem _).1 hn)
  ·exact d2 x aZ
 ·rcases List.mem_cons.1 aZ with rfl | aZ
  ·omega
  ·have := d3 x aZ; omega
theorem NeedI.fin (h : NeedI X X' 2000) (hG : Gh X k) (hz : sizeOk (X.T.size : Int)) (hk : k ≤ 350) : X.H + 1 ≤ X'.T.given.length := by
 obtain ⟨D, d1, d2, d3, d4⟩ := h.tried
 have hc := Inv.cnts hz hG.inv
 have h1 := List.Nodup.length_le_of_subset d1 (l₂ := X.ns ++ (X.os ++ X.T.given)) (fun x hx => by
  rcases d2 x hx with e | e | e
  ·exact List.mem_append_left _ e
  ·exact List.mem_append_right _ (List.mem_append_left _ e)
  ·exact List.mem_append_right _ (List.mem_append_right _ e))
 simp only [List.length_append] at h1
 have := hG.el
 have := hG.ol
 omega
theorem NeedI.gh (h : NeedI X X' i) (hG : Gh X k) (hi : i ≤ 2000) : Gh X' (k + 1) := by
 have hm := hG.mono (Nat.le_succ k)
 have hT := h.eT
 have e1 : X'.T.nodes = X.T.nodes := by rw [hT]
 have e2 : X'.T.old = X.T.old := by rw [hT]
 have e3 : X'.T.changed = X.T.changed := by rw [hT]
 refine ⟨by rw [h.eH, h.en, h.ee]; exact h.inv, by rw [h.eo]; exact hG.ond, by rw [h.eO, h.eo]; exact hG.om, by rw [h.eO, e2]; exact hG.old, by rw [h.eO, e1, e3]; exact hG.same, fun x hx => ?_, by rw [h.ee]; exact hm.el, by rw [h.eo]; exact hm.ol, ?_, ?_⟩
 ·rw [h.eo]; rw [e1] at hx; rcases hx with hx | hx
  ·exact (hG.src x (.inl hx)).imp id (h.gsub x)
  ·exact h.src x hx
 ·have := h.ex; have := hG.nl; rw [Nat.mul_succ]; omega
 ·have := h.gl; have := hG.gl; rw [Nat.mul_succ]; omega
end
section
variable {w : World} {q : Nat} {X : Sx} {p m : Nat} {mv sv gv : Value} {nb : Int → Nat} {F : Nat → Prop} {k : Nat}
set_option maxHeartbeats 4000000 in
theorem needS_ret (hM : StM w q X p m mv sv gv nb F) (hG : Gh X k) (hz : sizeOk (X.T.size : Int)) (hk : k ≤ 350) :
  Ret Tryz.prog 37 [ptr q 0] w fun v w' => v = .bool true ∧ ∃ X' gv' F' i, StM w' q X' p m mv sv gv' nb F' ∧ NeedI X X' i ∧ i ≤ 2000 ∧ X.H + 1 ≤ X'.T.given.length ∧ Kp (fpS q m mv sv gv F) w w' ∧ ∀ k, fpS q m mv sv gv' F' k → fpS q m mv sv gv F k ∨ w.heap.size ≤ k := by
 have vk := Inv.cnts hz hG.inv
 have fi := hG.el
 have eP : maxLen = 9223372036854775807 := rfl
 refine ret_of_run (e := [(0, _)]) Tryz.func37 rfl Tryz.ntmps37 rfl rfl (qN rfl (zqa rfl (rEnd (run_seq (qN rfl (zqa rfl (rEnd (run_block (run_cut2 (fun e' w' => e' = [(0, ptr q 0)] ∧ ∃ X' gv' F' i, StM w' q X' p m mv sv gv' nb F' ∧ NeedI X X' i ∧ i ≤ 2000 ∧ X.H + 1 ≤ X'.T.given.length ∧ Kp (fpS q m mv sv gv F) w w' ∧ ∀ k, fpS q m mv sv gv' F' k → fpS q m mv sv gv F k ∨ w.heap.size ≤ k) ?pz (fun pz => ?D3))))))))))
 case pz =>
  rintro e' w1 ⟨rfl, X', gv', F', i, bC, hN, hi, qU, aC, lG⟩; have aj := bC.blk; have hg := Ext.drew0 w1; have eN := hN.inv; have d8 := eN.gl; refine run_seq (run_draw (fun w' => Ext w1 w') (by kernel_rfl) rfl (zqt 0 rfl (ymv rfl) hg (zqt 1 rfl (ynk rfl) hg (zqt 2 rfl (yfa fl36_1 rfl) hg (qT 3 rfl (fun _ h=>yld U24 rfl rfl (h.blk aj) rfl) hg (zqt 6 rfl (ymv rfl) hg (zqt 7 rfl (ynk rfl) hg (zqt 8 rfl (yfa fl36_1 rfl) hg (qT 9 rfl (fun _ h=>yld U24 rfl rfl (h.blk aj) rfl) hg (zqo 4 [.tmp 56] rfl cf27 rfl (given_ret (bC.tree.ext hg) (by omega)) ?_)))))))))); rintro v2 w2 ⟨aV, ad, -⟩; refine ⟨hg.trans ad, ?_⟩; obtain ⟨ga, gc, rfl, -⟩ := aV.rd.shape; refine zqt 5 rfl (yln U34 rfl) (hg.trans ad) (zqo 10 [.tmp 62] rfl cf25 rfl (need_ret ((bC.tree.ext hg).ext ad) eN (by omega)) ?_); rintro _ w3 ⟨rfl, i9⟩; refine ⟨(by rw [i9]; exact hg.trans ad), ?_⟩; have ai : Ext w1 w3 := by rw [i9]; exact hg.trans ad
  refine zqt 11 rfl (yge rfl rfl) ((by rw [i9]; exact hg.trans ad)) ?_; refine zqt 12 rfl (yas rfl) ((by rw [i9]; exact hg.trans ad)) ?_; refine qE (run_ret Tryz.func37 rfl (⟨_, rfl, ?_, X', gv', F', i, bC.ext ai, hN, hi, qU, aC.trans ai.kp, lG⟩)); rw [decide_eq_true (by omega)]; rfl
 case D3 =>
  refine zqu (α := Nat × Sx × Value × (Nat → Prop)) ((0, X, gv, F)) (fun x => [(0, ptr q 0), (3, I (x.1 : Int))]) (fun x w' => x.1 ≤ 2000 ∧ StM w' q x.2.1 p m mv sv x.2.2.1 nb x.2.2.2 ∧ NeedI X x.2.1 x.1 ∧ Kp (fpS q m mv sv gv F) w w' ∧ ∀ k, fpS q m mv sv x.2.2.1 x.2.2.2 k → fpS q m mv sv gv F k ∨ w.heap.size ≤ k) (fun x => 2000 - x.1) ?hI ?hround
  case hI => exact ⟨Nat.zero_le _, hM, NeedI.zero hG, Kp.refl _ _, fun _ h => .inl h⟩
  case hround =>
   rintro ⟨i, X1, gv1, F1⟩ w1 ⟨hi, bC, hN, aC, lG⟩ ih; dsimp only at hi bC hN lG; have aj := bC.blk; have hg := Ext.drew0 w1; have eN := hN.inv; have d8 := eN.gl; have B2 : X1.T.size = X.T.size := by rw [hN.eT]
   have eV : sizeOk (X1.T.size : Int) := by rw [B2]; exact hz
   have IL := hN.ex; have pB := hG.nl; have HC := aC.size
   try dsimp only
   refine run_seq (run_seq (run_draw (fun w' => Ext w1 w') (by kernel_rfl) rfl (zqt 0 rfl (ymv rfl) hg (zqt 1 rfl (ylt rfl rfl) hg (zqt 2 rfl (ymv rfl) hg (rh_if (fun yY => ?_) (fun yY => ?_)))))))
   ·refine zqt 3 rfl (ymv rfl) hg (zqt 4 rfl (ynk rfl) hg (zqt 5 rfl (yfa fl36_1 rfl) hg (qT 6 rfl (fun _ h=>yld U24 rfl rfl (h.blk aj) rfl) hg (zqt 9 rfl (ymv rfl) hg (zqt 10 rfl (ynk rfl) hg (zqt 11 rfl (yfa fl36_1 rfl) hg (qT 12 rfl (fun _ h=>yld U24 rfl rfl (h.blk aj) rfl) hg (zqo 7 [.tmp 10] rfl cf27 rfl (given_ret (bC.tree.ext hg) (by omega)) ?_)))))))); rintro v2 w2 ⟨aV, ad, -⟩; refine ⟨hg.trans ad, ?_⟩; obtain ⟨ga, gc, rfl, -⟩ := aV.rd.shape; refine zqt 8 rfl (yln U34 rfl) (hg.trans ad) (zqo 13 [.tmp 16] rfl cf25 rfl (need_ret ((bC.tree.ext hg).ext ad) eN (by omega)) ?_); rintro _ w3 ⟨rfl, i9⟩; refine ⟨(by rw [i9]; exact hg.trans ad), ?_⟩; have ai : Ext w1 w3 := by rw [i9]; exact hg.trans ad
    have ef := bC.ext ai; have aN := ef.blk; refine zqt 14 rfl (ylt rfl rfl) ((by rw [i9]; exact hg.trans ad)) ?_; refine zqt 15 rfl (ypT rfl rfl) ((by rw [i9]; exact hg.trans ad)) ?_; refine qE (run_if rfl (fun ah => ?_) (fun ah => ?_))
    ·have uc : i < 2000 := by omega
     refine run_skip (run_seq (run_block (qN rfl (zqm rfl (qV (ynk rfl) (qV (yfa fl36_5 rfl) (qV (yld U3 rfl rfl aN rfl) (zqd rfl rfl (qV (ynk rfl) (qV (yfa fl36_5 rfl) ?_)))))))))); rw [show ((X1.nx : Int) + 1) = ((X1.nx + 1 : Nat) : Int) by omega]; refine rEffP rfl (zst ti3 rfl rfl rfl aN (by simp)) ?_; rintro w4 ⟨bs, ax⟩; replace bs : Blk w4 q [I (X1.T.size : Int), ptr p 0, ptr m 0, sv, gv1, I ((X1.nx + 1 : Nat) : Int)] 36 := bs; have i3 := ef.next bs ax; have ae : Kp (fpS q m mv sv gv1 F1) w1 w4 := ai.kp.trans (ax.mono' (fun k e => .inl e)); have j9 : Kp (fpS q m mv sv gv F) w w4 := aC.trans_new ae (fun i hi => (lG i hi).symm); have jT := ae.size; have aE := Ext.drew0 w4; refine rEnd (run_seq (run_draw (fun w' => Kp F1 w4 w') (by kernel_rfl) rfl (zqt 0 rfl (ymv rfl) (aE.kp) (zqt 1 rfl (ynk rfl) (aE.kp) (zqt 2 rfl (yfa fl36_1 rfl) (aE.kp) (qT 3 rfl (fun _ h=>yld U24 rfl rfl (h.blk bs bC.fq) rfl) (aE.kp) (zqt 4 rfl (ymv rfl) (aE.kp) (zqt 5 rfl (ynk rfl) (aE.kp) (zqt 6 rfl (yfa fl36_5 rfl) (aE.kp) (qT 7 rfl (fun _ h=>yld U3 rfl rfl (h.blk bs bC.fq) rfl) (aE.kp) (qO 8 (nValP (i := 8) rfl rfl rfl (pbs (parts := [(0, .tmp 36)]) (cs := [_]) (zs := [Value.int .i64 0]) U34 ti3 rfl (by kernel_rfl) rfl rfl rfl (by decide)) ?_)))))))))))); rintro _ w5 ⟨b5, rfl, ⟨pI, aF, bu⟩, bU⟩; refine ⟨aE.kp.trans aF.kp, ?_⟩; have cj := aE.trans aF; have eU := i3.ext cj; refine zqo 9 [.tmp 32, .tmp 37] rfl cf50 rfl (give_ret eU.tree eN (l := [((X1.nx + 1 : Nat) : Int)]) bU.rd (by simp)) ?_; rintro v6 w6 m7; refine ⟨(by rcases m7 with ⟨-, -, h, -⟩ | ⟨-, -, h⟩; exact cj.kp.trans h; exact cj.kp.trans h.kp), ?_⟩; have lg := cj.size; have nI : Kp F1 w4 w6 := by rcases m7 with ⟨-, -, h, -⟩ | ⟨-, -, h⟩; exact cj.kp.trans h; exact cj.kp.trans h.kp
     rcases m7 with ⟨rfl, bi, bP, F6, D4, sT⟩ | ⟨rfl, cw, bq⟩
     ·have HD := eU.treed D4 rfl bP sT; obtain ⟨gm, kW, yZ⟩ := HD; have bT := gm.blk; have aL := Ext.drew0 w6; have nh := kW.size; have HE := hN.gl; have D5 := hG.gl; refine zqt 10 rfl (yeq rfl rfl) nI (qE (run_if rfl (fun ix => ?_) (fun ix => ?_)))
      ·refine run_drawL [13] (fun w' => Kp (fun k => gv1.ownBlock = some k) w6 w') (by kernel_rfl) rfl (qL [11, 12, 13] 0 rfl (fun _ h=>ymv rfl) (aL.kp) (qL [2, 3, 4, 10, 11, 12, 13] 1 rfl (fun _ h=>ymv rfl) (aL.kp) (qL [3, 4, 10, 11, 12, 13] 2 rfl (fun _ h=>ynk rfl) (aL.kp) (qL [4, 10, 11, 12, 13] 3 rfl (fun _ h=>yfa fl36_4 rfl) (aL.kp) (qL [10, 11, 12, 13] 4 rfl (fun _ hS => yld U34 rfl rfl (hS.blk bT (fun e => (gm.ov q (.inr (.inr e))).1 rfl)) rfl) (aL.kp) (qL [6, 7, 8, 9, 10, 11, 12, 13] 5 rfl (fun _ h=>ymv rfl) (aL.kp) (qL [7, 8, 9, 10, 11, 12, 13] 6 rfl (fun _ h=>ynk rfl) (aL.kp) (qL [8, 9, 10, 11, 12, 13] 7 rfl (fun _ h=>yfa fl36_5 rfl) (aL.kp) (qL [9, 10, 11, 12, 13] 8 rfl (fun _ hS => yld U3 rfl rfl (hS.blk bT (fun e => (gm.ov q (.inr (.inr e))).1 rfl)) rfl) (aL.kp) (hOneL (i := 9) (by kernel_rfl) (nValPL (i := 9) rfl rfl rfl (pbs (parts := [(0, .tmp 48)]) (cs := [_]) (zs := [Value.int .i64 0]) U34 ti3 rfl (by kernel_rfl) rfl rfl rfl (by decide)) ?_))))))))))); rintro _ w7 ⟨b7, rfl, ⟨IM, aR, dy⟩, cP⟩; refine ⟨aL.kp.trans aR.kp, ?_⟩; have jJ := aL.trans aR; refine hOneL (i := 10) (by kernel_rfl) (nValPL (i := 10) rfl rfl rfl (pap U34 ti3 rfl (by decide) rfl rfl (gm.giv.ext jJ) cP.rd (by intro c hc; simp at hc; subst hc; rfl) (by dsimp only; omega) (by dsimp only; omega)) ?_); rintro gv8 w8 ⟨db, aU, HF, -⟩; refine ⟨jJ.kp.trans aU, ?_⟩; have da := aU.blk (jJ.blk bT) (fun e => (gm.ov q (.inr (.inr e))).1 rfl); refine qL [12, 13] 11 rfl (fun _ h=>ynk rfl) (jJ.kp.trans aU) (qL [13] 12 rfl (fun _ h=>yfa fl36_4 rfl) (jJ.kp.trans aU) (hLate [13] (by kernel_rfl) (by kernel_rfl) (qO 13 (nEffP (i := 13) rfl rfl (zst ti34 rfl rfl (oneV_sl db) da (by simp)) ?_)))); rintro w9 ⟨dg, aH⟩; refine ⟨trivial, ?_⟩; replace dg : Blk w9 q [I (X1.T.size : Int), ptr p 0, ptr m 0, sv, gv8, I ((X1.nx + 1 : Nat) : Int)] 36 := dg; have D6 := (gm.ext jJ).gave (gs' := X1.gs ++ [((X1.nx + 1 : Nat) : Int)]) (gv' := gv8) (by rw [List.length_append, List.map_append]; exact db) aU HF dg aH; obtain ⟨pf, D7, HG⟩ := D6; have kj := jJ.size; have tr : Kp (fpS q m mv sv gv1 F6) w6 w9 := jJ.kp.trans D7; have D8 : Kp (fpS q m mv sv gv1 F1) w5 w9 := kW.trans_new tr (fun i hi => (yZ i hi).symm); have ff : Kp (fpS q m mv sv gv1 F1) w1 w9 := (ae.trans cj.kp).trans D8; refine qE (run_inBlock (run_reg rfl (zqm rfl (zqd rfl rfl (zqa rfl (rEnd ((ih (i + 1, _, gv8, F6) w9 ⟨by dsimp only; omega, pf, hN.yes bi, aC.trans_new ff (fun i hi => (lG i hi).symm), fun k hk => ?_⟩ (by dsimp only; omega)).qb))))))); rcases HG k hk with e | e
       ·rcases yZ k e with e | e
        ·exact lG k e
        ·exact .inr (by omega)
       ·exact .inr (by omega)
      ·exact absurd rfl ix
     ·have gm := eU.ext bq; refine zqt 10 rfl (yeq rfl rfl) nI (qE (run_if rfl (fun ix => ?_) (fun ix => ?_)))
      ·exact absurd ix (by decide)
      ·refine run_skip (run_inBlock (run_reg rfl (zqm rfl (zqd rfl rfl (zqa rfl (rEnd ((ih (i + 1, _, gv1, F1) w6 ⟨by dsimp only; omega, gm, hN.no hG (by omega) (by omega) cw, (j9.trans cj.kp).trans bq.kp, lG⟩ (by dsimp only; omega)).qb)))))))
    ·refine run_exit rfl ?_; exact (pz _ _ ⟨rfl, X1, gv1, F1, i, ef, hN, hi, by omega, aC.trans ai.kp, lG⟩).qb
   ·have : i = 2000 := by omega
    subst this; refine qJ 3 rfl (hg) (qJ 4 rfl (hg) (qJ 5 rfl (hg) (qJ 6 rfl (hg) (qJ 7 rfl (hg) (qJ 8 rfl (hg) (qJ 9 rfl (hg) (qJ 10 rfl (hg) (qJ 11 rfl (hg) (qJ 12 rfl (hg) (qJ 13 rfl (hg) (qJ 14 rfl (hg) (zqt 15 rfl (ypF rfl rfl) hg (qE ?_))))))))))))); refine run_false rfl (run_exit rfl ?_); exact (pz _ _ ⟨rfl, X1, gv1, F1, 2000, bC.ext hg, hN, hi, hN.fin hG hz hk, aC.trans hg.kp, lG⟩).qb
def opC (kd : Int) (key val : Bytes) (n : Int) (nv : Value) (auto : Bool) : List Value := [I kd, S key, S val, I n, nv, .bool auto]
set_option maxHeartbeats 8000000 in
theorem putS_ret (hM : StM w q X p m mv sv gv nb F) (hG : Gh X k) (hz : sizeOk (X.T.size : Int)) (hk : k ≤ 340) (kd : Int) (key val : Bytes) (n : Int) (nv : Value) (auto : Bool) (cy : key.length ≤ 140737488355328) (eQ : val.length ≤ 140737488355328) :
  Ret Tryz.prog 9 [ptr q 0, .agg (opC kd key val n nv auto).toArray] w fun v w' => v = .bool true ∧ ∃ X' mv' gv' nb' F', StM w' q X' p m mv' sv gv' nb' F' ∧ Gh X' (k + 1) ∧ X'.T.size = X.T.size ∧ ((may X.T.size key val ∧ X'.es = insE X.es key val) ∨ (X'.es = X.es ∧ ¬ (may X.T.size key val ∧ auto = true))) ∧ Kp (fpS q m mv sv gv F) w w' ∧ ∀ k, fpS q m mv' sv gv' F' k → fpS q m mv sv gv F k ∨ w.heap.size ≤ k := by
 have fi := hG.el
 have eP : maxLen = 9223372036854775807 := rfl
 refine ret_of_run (e := [(0, _), (1, _)]) Tryz.func9 rfl Tryz.ntmps9 rfl rfl (qN rfl (rValP rfl rfl (pbx rfl (cs := opC kd key val n nv auto) rfl) ?_))
 rintro _ w1 ⟨b3, rfl, zK, aa, aN⟩
 replace aN : Blk w1 b3 [I kd, S key, S val, I n, nv, .bool auto] 39 := aN
 have bC := hM.ext aa
 have aj := bC.blk
 have eV := aa.size
 have dU := aN.lt
 have hg := Ext.drew0 w1
 refine zqa rfl (rEnd (run_seq (run_draw (fun w' => Ext w1 w') (by kernel_rfl) rfl (zqt 0 rfl (ymv rfl) hg (zqt 1 rfl (ynk rfl) hg (zqt 2 rfl (yfa fl36_0 rfl) hg (qT 3 rfl (fun _ h=>(by first | exact yld U3 rfl rfl (h.blk aj) rfl | exact yld U3 rfl rfl (h.blk aN) rfl)) hg ?_)))))))
 refine zqt 4 rfl (yfa fl39_1 rfl) hg (qT 5 rfl (fun _ h=>(by first | exact yld U9 rfl rfl (h.blk aj) rfl | exact yld U9 rfl rfl (h.blk aN) rfl)) hg ?_)
 refine zqt 6 rfl (yfa fl39_2 rfl) hg (qT 7 rfl (fun _ h=>(by first | exact yld U9 rfl rfl (h.blk aj) rfl | exact yld U9 rfl rfl (h.blk aN) rfl)) hg ?_)
 refine zqo 8 [.tmp 11, .tmp 13, .tmp 15] rfl cf36 rfl (may8_ret X.T.size hz key val cy eQ _) ?_
 rintro _ w2 ⟨rfl, ku⟩
 refine ⟨(by rw [ku]; exact hg), ?_⟩
 have ad : Ext w1 w2 := by rw [ku]; exact hg
 obtain ⟨mb, HH, D9⟩ : ∃ mb : Bool, decide (may X.T.size key val) = mb ∧ (mb = true ↔ may X.T.size key val) := ⟨_, rfl, decide_eq_true_iff⟩
 rw [HH]
 have cf := bC.ext ad
 have dV := ad.blk aN
 have ay := cf.blk
 refine zqt 9 rfl (yas rfl) ((by rw [ku]; exact hg)) ?_
 refine qE (run_seq (run_seq (run_cut (fun e' w' => e' = [(0, ptr q 0), (3, ptr b3 0), (5, .bool mb), (26, .bool false)] ∧ ∃ X1 gv1 F1, StM w' q X1 p m mv sv gv1 nb F1 ∧ Gh X1 (k + 1) ∧ X1.es = X.es ∧ X1.T.size = X.T.size ∧ (auto = true → mb = true → X1.H + 1 ≤ X1.T.given.length) ∧ Kp (fpS q m mv sv gv F) w w' ∧ (∀ k, fpS q m mv sv gv1 F1 k → fpS q m mv sv gv F k ∨ w.heap.size ≤ k) ∧ Blk w' b3 [I kd, S key, S val, I n, nv, .bool auto] 39 ∧ ¬ fpS q m mv sv gv1 F1 b3) ?mY (fun mY => ?Dd))))
 case mY =>
  rintro e' w3 ⟨rfl, X1, gv1, F1, ef, z6, gM, dJ, z7, ak, mt, Da, gu⟩; have jS : sizeOk (X1.T.size : Int) := by rw [dJ]; exact hz
  have jY := z6.inv; have vk := Inv.cnts jS jY; have HI := z6.el; have HJ := jY.gl; have z8 := ef.blk; have hg := Ext.drew0 w3; have HK := ak.size; refine run_false rfl (run_skip (run_seq (run_draw (fun w' => Ext w3 w') (by kernel_rfl) rfl (zqt 0 rfl (ymv rfl) hg (zqt 1 rfl (ynk rfl) hg (zqt 2 rfl (yfa fl36_1 rfl) hg (qT 3 rfl (fun _ h=>yld U24 rfl rfl (h.blk z8) rfl) hg (zqt 6 rfl (ymv rfl) hg (zqt 7 rfl (ynk rfl) hg (zqt 8 rfl (yfa fl36_1 rfl) hg (qT 9 rfl (fun _ h=>yld U24 rfl rfl (h.blk z8) rfl) hg (zqo 4 [.tmp 30] rfl cf27 rfl (given_ret (ef.tree.ext hg) (by omega)) ?_)))))))))))); rintro v4 w4 ⟨fo, aX, -⟩; refine ⟨hg.trans aX, ?_⟩; obtain ⟨ga, gc, rfl, -⟩ := fo.rd.shape; refine zqt 5 rfl (yln U34 rfl) (hg.trans aX) (zqo 10 [.tmp 36] rfl cf25 rfl (need_ret ((ef.tree.ext hg).ext aX) jY (by omega)) ?_); rintro _ w5 ⟨rfl, pt⟩; refine ⟨(by rw [pt]; exact hg.trans aX), ?_⟩; have aF : Ext w3 w5 := by rw [pt]; exact hg.trans aX
  have eU := ef.ext aF; have uB := eU.blk; have qI := aF.blk Da; have ac := Ext.drew0 w5; have qK : ¬ F1 b3 := fun e => gu (.inr (.inr (.inr (.inr (.inr e))))); have lg := aF.size; refine zqt 11 rfl (ylt rfl rfl) ((by rw [pt]; exact hg.trans aX)) ?_; refine zqt 12 rfl (yas rfl) ((by rw [pt]; exact hg.trans aX)) ?_; refine qE (run_seq (run_draw (fun w' => Kp F1 w5 w') (by kernel_rfl) rfl (zqt 0 rfl (ymv rfl) (ac.kp) (zqt 1 rfl (ynk rfl) (ac.kp) (zqt 2 rfl (yfa fl36_1 rfl) (ac.kp) (qT 3 rfl (fun _ h=>(by first | exact yld U24 rfl rfl (h.blk uB eU.fq) rfl | exact yld U24 rfl rfl (h.blk qI qK) rfl)) (ac.kp) ?_)))))); refine zqt 4 rfl (yfa fl39_1 rfl) (ac.kp) (qT 5 rfl (fun _ h=>(by first | exact yld U9 rfl rfl (h.blk uB eU.fq) rfl | exact yld U9 rfl rfl (h.blk qI qK) rfl)) (ac.kp) ?_); refine zqt 6 rfl (yfa fl39_2 rfl) (ac.kp) (qT 7 rfl (fun _ h=>(by first | exact yld U9 rfl rfl (h.blk uB eU.fq) rfl | exact yld U9 rfl rfl (h.blk qI qK) rfl)) (ac.kp) ?_); refine zqo 8 [.tmp 42, .tmp 44, .tmp 46] rfl cf38 rfl (putT_ret (eU.tree.ext ac) jY (by omega) key val cy eQ) ?_; rintro v6 w6 m7; refine ⟨(by rcases m7 with ⟨-, -, h⟩ | ⟨-, -, -, h⟩ | ⟨-, -, -, T', H', ns', ⟨nb', F', -, -, h, -⟩, -⟩; exact ac.kp.trans h.kp; exact ac.kp.trans h.kp; exact ac.kp.trans h), ?_⟩; have kW : Kp F1 w5 w6 := by rcases m7 with ⟨-, -, h⟩ | ⟨-, -, -, h⟩ | ⟨-, -, -, T', H', ns', ⟨nb', F', -, -, h, -⟩, -⟩; exact ac.kp.trans h.kp; exact ac.kp.trans h.kp; exact ac.kp.trans h
  rw [dJ] at m7; rcases m7 with ⟨rfl, rD, bq⟩ | ⟨rfl, hm, HL, bq⟩ | ⟨rfl, hm, As, T', H', ns', ⟨nb', F', D4, HM, bP, sT⟩, gz⟩
  ·obtain rfl : mb = false := by
    cases mb with
    | false => rfl
    | true => exact absurd (D9.1 rfl) rD
   refine zqt 9 rfl (yas rfl) kW (qE (Run.qb (e := [(0, _), (3, _), (5, _), (6, _), (7, _)]) ?_)); refine run_seq (qN rfl (zqm rfl (qV ((by first | exact yntd rfl | exact ynt rfl)) ?_))); refine rEnd (run_cond rfl (fun h1 => ?_) (fun h1 => ?_))
   ·refine qN rfl (zqm rfl (qV (yeq rfl rfl) (zqa rfl (rEnd (run_ret Tryz.func9 rfl ?_))))); exact ⟨_, rfl, rfl, X1, mv, gv1, nb, F1, (eU.ext ac).ext bq, z6, dJ, .inr ⟨gM, fun h => rD h.1⟩, (ak.trans aF.kp).trans (ac.trans bq).kp, mt⟩
   ·exact absurd h1 (by decide)
  ·obtain rfl : mb = true := D9.2 hm; refine zqt 9 rfl (yas rfl) kW (qE (Run.qb (e := [(0, _), (3, _), (5, _), (6, _), (7, _)]) ?_)); refine run_seq (qN rfl (zqm rfl (qV ((by first | exact yntd rfl | exact ynt rfl)) ?_))); refine rEnd (run_cond rfl (fun h1 => ?_) (fun h1 => ?_))
   ·exact absurd h1 (by decide)
   ·refine run_skip (run_seq (qN rfl (zqm rfl (rEnd (run_if rfl (fun h2 => ?_) (fun h2 => ?_))))))
    ·refine qN rfl (zqm rfl (qV (yeq rfl rfl) (zqa rfl (rEnd (run_ret Tryz.func9 rfl ?_))))); exact ⟨_, rfl, rfl, X1, mv, gv1, nb, F1, (eU.ext ac).ext bq, z6, dJ, .inr ⟨gM, fun h => by have := z7 h.2 rfl; omega⟩, (ak.trans aF.kp).trans (ac.trans bq).kp, mt⟩
    ·omega
  ·obtain rfl : mb = true := D9.2 hm; have sj := (eU.ext ac).treed D4 (show T'.size = X1.T.size from (show Evo _ _ _ from gz).size) bP sT; obtain ⟨gm, zd, yZ⟩ := sj; have uC := gm.blk; have uD := kW.blk qI qK; have uE : b3 ≠ m := fun e => gu (.inr (.inl e)); have HN : b3 ≠ q := fun e => gu (.inl e); have aL := Ext.drew0 w6; have nh := zd.size; have HO := ac.size; refine zqt 9 rfl (yas rfl) kW (qE (Run.qb (e := [(0, _), (3, _), (5, _), (6, _), (7, _)]) ?_)); refine run_seq (qN rfl (zqm rfl (qV ((by first | exact yntd rfl | exact ynt rfl)) ?_))); refine rEnd (run_cond rfl (fun h1 => ?_) (fun h1 => ?_))
   ·exact absurd h1 (by decide)
   ·refine run_skip (run_seq (qN rfl (zqm rfl (rEnd (run_if rfl (fun h2 => ?_) (fun h2 => ?_))))))
    ·omega
    ·have HP : X1.es.length ≤ k := by rw [gM]; exact fi
     refine run_skip (run_seq (run_draw (fun w' => Kp (fun k => k = m) w6 w') (by kernel_rfl) rfl (zqt 0 rfl (ymv rfl) (aL.kp) (zqt 1 rfl (ynk rfl) (aL.kp) (zqt 2 rfl (yfa fl36_2 rfl) (aL.kp) (qT 3 rfl (fun _ h=>(by first | exact yld U29 rfl rfl (h.blk uC gm.qm) rfl | exact yld U29 rfl rfl (h.blk uD uE) rfl)) (aL.kp) ?_)))))); refine zqt 4 rfl (yfa fl39_1 rfl) (aL.kp) (qT 5 rfl (fun _ h=>(by first | exact yld U9 rfl rfl (h.blk uC gm.qm) rfl | exact yld U9 rfl rfl (h.blk uD uE) rfl)) (aL.kp) ?_); refine zqt 6 rfl (yfa fl39_2 rfl) (aL.kp) (qT 7 rfl (fun _ h=>(by first | exact yld U9 rfl rfl (h.blk uC gm.qm) rfl | exact yld U9 rfl rfl (h.blk uD uE) rfl)) (aL.kp) ?_); refine zqo 8 [.tmp 58, .tmp 60, .tmp 62] rfl cf39 rfl (putM_ret (gm.map.ext aL) (by dsimp only; omega) key val) ?_; rintro _ w7 ⟨rfl, cP⟩; refine ⟨(by obtain ⟨mv', -, h, -⟩ := cP; exact aL.kp.trans h), ?_⟩; have dP : Kp (fun k => k = m) w6 w7 := by obtain ⟨mv', -, h, -⟩ := cP; exact aL.kp.trans h
     have Db := (gm.ext aL).mapped cP; obtain ⟨mv7, eK, aW, HQ⟩ := Db; have HR := aL.size; refine qE (qN rfl (zqm rfl (qV (yeq rfl rfl) (zqa rfl (rEnd (run_ret Tryz.func9 rfl (⟨_, rfl, rfl, { X1 with T := T', H := H', ns := ns', es := insE X1.es key val }, mv7, gv1, nb', F', eK.hn H' ns', z6.evo gz HM (Nat.le_refl _) ?_, (show Evo _ _ _ from gz).size.trans dJ, .inl ⟨hm, by dsimp only; rw [gM]⟩, ?_, fun k hk => ?_⟩)))))))
     ·rw [insE_len]; split <;> omega
     ·have dz : Kp (fpS q m mv sv gv1 F1) w3 w6 := aF.kp.trans (ac.kp.trans zd); have Dc : Kp (fpS q m mv sv gv1 F1) w3 w7 := dz.trans_new (aL.kp.trans aW) (fun i hi => (yZ i hi).elim .inr (fun e => .inl (by omega))); exact ak.trans_new Dc (fun i hi => (mt i hi).symm)
     ·rcases HQ k hk with e | e
      ·rcases yZ k e with e | e
       ·exact mt k e
       ·exact .inr (by omega)
      ·exact .inr (by omega)
 case Dd =>
  have gu : ¬ fpS q m mv sv gv F b3 := fun e => by have := hM.lt e; omega
  have gI : Kp (fpS q m mv sv gv F) w w2 := (aa.trans ad).kp
  cases auto with
  | false =>
    refine run_reg rfl (qV (yfa fl39_5 rfl) (qV (yld U4 rfl rfl dV rfl) (zqm rfl (qS (qV (ypF rfl rfl) (zqm rfl (qS (qS (qS (qV (ypF rfl rfl) (rEnd ?_)))))))))))
    exact (mY _ _ ⟨rfl, X, gv, F, cf, hG.mono (Nat.le_succ k), rfl, rfl, fun h => Bool.noConfusion h, gI, fun _ h => .inl h, dV, gu⟩).qb
  | true =>
    refine run_reg rfl (qV (yfa fl39_5 rfl) (qV (yld U4 rfl rfl dV rfl) (zqm rfl (zqm rfl (qV (ypT rfl rfl) (zqm rfl (rVal_bool (fun h1 => ?_) (fun h1 => ?_))))))))
    ·refine zqm rfl (zqc [.tmp 23] cf37 rfl (needS_ret cf hG hz (by omega)) ?_); rintro v3 w3 ⟨rfl, X1, gv1, F1, i, ef, hN, hi, qU, ak, mt⟩; have dH := ad.size; have zf : ¬ fpS q m mv sv gv1 F1 b3 := fun e => (mt b3 e).elim gu (fun e => by omega); have kI : X1.T.size = X.T.size := by rw [hN.eT]
     refine qV ((by first | exact yntd rfl | exact ynt rfl)) ?_; refine qV (ypT rfl rfl) (rEnd ?_); exact (mY _ _ ⟨rfl, X1, gv1, F1, ef, hN.gh hG hi, hN.ee, kI, fun _ _ => by rw [hN.eH]; exact qU, gI.trans ak, fun k hk => (mt k hk).imp id (fun e => by omega), ak.blk dV gu, zf⟩).qb
    ·refine qS (qS (qS (qV (ypF rfl rfl) (rEnd ?_)))); exact (mY _ _ ⟨rfl, X, gv, F, cf, hG.mono (Nat.le_succ k), rfl, rfl, fun _ h => (by rw [h1] at h; cases h), gI, fun _ h => .inl h, dV, gu⟩).qb
end
section
variable {P : Program} {e : Env} {d : Option Nat} {ty t t' : TypeId} {pos : String} {aft : Array Edge} {g : Option (Nat × Bool)} {x y : Operand} {w : World} {n : Nat}
theorem eq_intW {k kk : IntKind} {p q : Int} (ht : P.underlying t = some (.int kk)) : (Op.equalIn (n + 1) t (.int k p) (.int k q)).run P w = .ok (decide (p = q)) w := by
 simp only [Op.equalIn, Sem.run_bind, run_underlying ht, Result.andThen_ok, Sem.run_pure, if_true]
 by_cases h : p = q <;> simp [h]
theorem eq_strW {p q : Bytes} (ht : P.underlying t = some .string) : (Op.equalIn (n + 1) t (S p) (S q)).run P w = .ok (decide (p = q)) w := by
 simp only [Op.equalIn, Sem.run_bind, run_underlying ht, Result.andThen_ok, Sem.run_pure, S]
 rw [beqS]
theorem yneS2 {f0 f1 : Field} {a b c u : Value} {r0 r1 : Bool} (ht : P.underlying t = some (.struct #[f0, f1])) (hg : P.eqGuardType P.depth t = false) (hs : P.stoodInHeld t = false) (h0 : f0.name ≠ "_") (h1 : f1.name ≠ "_") (o0 : f0.offset = 0) (o1 : f1.offset = 1)
  (k0 : P.plainKey f0.type = true) (k1 : P.plainKey f1.type = true) (hx : look e x = some (.agg #[a, b])) (hy : look e y = some (.agg #[c, u]))
  (e0 : ∀ w, (Op.equalIn 9999 f0.type a c).run P w = .ok r0 w) (e1 : ∀ w, (Op.equalIn 9999 f1.type b u).run P w = .ok r1 w) :
  Y P e ⟨d, .binOp .neq t x y t', ty, pos, aft, g⟩ (.bool (!(r0 && r1))) w w := fun ρ hρ => by
 have EJ : P.fieldsOf t = #[f0, f1] := by simp [Program.fieldsOf, ht]
 have hE : (Op.equalIn 10000 t (.agg #[a, b]) (.agg #[c, u])).run P w = .ok (r0 && r1) w := by
  rw [run_equalIn_struct w 9999 t _ _ (by rw [EJ]; exact ht) hs, EJ]; have p0 : (part f0.type #[a, b] 0).run P w = .ok a w := run_part_plain _ k0 rfl; have p1 : (part f1.type #[a, b] 1).run P w = .ok b w := run_part_plain _ k1 rfl; have q0 : (part f0.type #[c, u] 0).run P w = .ok c w := run_part_plain _ k0 rfl; have q1 : (part f1.type #[c, u] 1).run P w = .ok u w := run_part_plain _ k1 rfl; simp only [Op.eqFields, ne_eq, h0, h1, not_false_eq_true, if_true, Sem.run_bind, o0, o1, p0, q0, e0, Result.andThen_ok]
  cases r0 with
  | false => simp [Sem.run_pure]
  | true => simp only [Bool.not_true, Bool.false_eq_true, if_false, Sem.run_bind, p1, q1, e1, Result.andThen_ok]; cases r1 <;> simp [Sem.run_pure]
 simp only [execOp, hρ _ _ hx, hρ _ _ hy, Sem.run_bind, run_eqGuard_agg (hm := hg), run_neq_struct, hE, Result.andThen_ok, Sem.run_pure]
end
section
variable {e : Env} {d : Option Nat} {ty t' : TypeId} {pos : String} {aft : Array Edge} {g : Option (Nat × Bool)} {x y : Operand} {w : World}
end
theorem some_ofE {w : World} {v : Value} {T s n : Nat} {us : List Value} (h : Sl w v T s n us) : ∃ a c, v = .slice a n c := by
 obtain ⟨a, c, e, -⟩ := h.rd.shape
 exact ⟨a, c, e⟩
section
variable {w : World} {q : Nat} {X : Sx} {p m : Nat} {mv sv gv : Value} {nb : Int → Nat} {F : Nat → Prop} {k : Nat}
end
section
variable {es : Es} {k v : Bytes} {x : Bytes × Bytes}
theorem rise_ne (h : Rise (es.map (·.1))) : (es.map (·.1)).Nodup := h.imp fun {a b} h e => by subst e; rw [lt_irrefl] at h; cases h
theorem hasE_iff (h : Rise (es.map (·.1))) : hasE es k ↔ k ∈ es.map (·.1) := by
 constructor
 ·intro hh; exact List.mem_of_getElem? hh
 ·intro hk; obtain ⟨i, hi, e⟩ := List.getElem_of_mem hk
  have qU : ¬ i < posE es k := fun ah => by
   have := pos_lt (l := es.map (·.1)) (t := k) k (by
    have : ((es.map (·.1)).take (pos (es.map (·.1)) k))[i]? = some k := by rw [List.getElem?_take, if_pos (show i < pos (es.map (·.1)) k from ah), List.getElem?_eq_getElem hi, e]
    exact List.mem_of_getElem? this)
   rw [lt_irrefl] at this; cases this
  rcases Nat.lt_or_eq_of_le (Nat.le_of_not_lt qU) with ah | ug
  ·have h1 := List.pairwise_iff_getElem.1 h (posE es k) i (by omega) hi ah; rw [e] at h1; have h2 := pos_at (l := es.map (·.1)) (t := k) (List.getElem?_eq_getElem (show posE es k < (es.map (·.1)).length by omega)); rw [h2] at h1; cases h1
  ·unfold hasE; rw [ug, List.getElem?_eq_getElem hi, e]
theorem getR_code (h : Rise (es.map (·.1))) : (getR es k).2 = 0 ↔ keyOk k ∧ k ∈ es.map (·.1) := by
 unfold getR
 by_cases hk : keyOk k
 ·rw [if_pos hk]; by_cases hh : hasE es k
  ·have ah := hasE_lt hh; have hm : (es.map (·.2))[posE es k]? = some ((es[posE es k]).2) := by rw [List.getElem?_map, List.getElem?_eq_getElem ah]; rfl
   rw [getE_some hh hm]; exact ⟨fun _ => ⟨hk, (hasE_iff h).1 hh⟩, fun _ => rfl⟩
  ·rw [getE_none hh]; exact ⟨fun e => (by cases e), fun e => absurd ((hasE_iff h).2 e.2) hh⟩
 ·rw [if_neg hk]; exact ⟨fun e => (by cases e), fun e => absurd e.1 hk⟩
theorem split_rise (h : Rise (es.map (·.1))) {i : Nat} (hi : i < es.length) (x : Bytes × Bytes) : (x ∈ es ∧ x.1 ≠ es[i].1) ↔ x ∈ es.take i ++ es.drop (i + 1) := by
 have bj := rise_ne h
 have he : es = es.take i ++ es[i] :: es.drop (i + 1) := by rw [← List.drop_eq_getElem_cons hi, List.take_append_drop]
 have eB : ((es.take i ++ es[i] :: es.drop (i + 1)).map (·.1)).Nodup := by rw [← he]; exact bj
 rw [List.map_append, List.map_cons] at eB
 obtain ⟨-, n2, n3⟩ := List.nodup_append.1 eB
 have n4 := List.nodup_cons.1 n2
 constructor
 ·rintro ⟨hx, aT⟩; rw [he] at hx; rcases List.mem_append.1 hx with hx | hx
  ·exact List.mem_append_left _ hx
  ·rcases List.mem_cons.1 hx with e | hx
   ·exact absurd (by rw [e]) aT
   ·exact List.mem_append_right _ hx
 ·intro hx; rcases List.mem_append.1 hx with hx | hx
  ·exact ⟨List.mem_of_mem_take hx, fun e => n3 _ (List.mem_map.2 ⟨x, hx, rfl⟩) _ (List.mem_cons_self ..) e⟩
  ·exact ⟨List.mem_of_mem_drop hx, fun e => n4.1 (by rw [← e]; exact List.mem_map.2 ⟨x, hx, rfl⟩)⟩
theorem has_at (h : hasE es k) : es[posE es k]'(hasE_lt h) = (k, (es[posE es k]'(hasE_lt h)).2) := by
 have ah := hasE_lt h
 have := (hasE_at (es := es) (k := k) (List.getElem?_eq_getElem ah)).1 h
 exact Prod.ext this rfl
theorem mem_ins (h : Rise (es.map (·.1))) : x ∈ insE es k v ↔ x = (k, v) ∨ (x.1 ≠ k ∧ x ∈ es) := by
 by_cases hh : hasE es k
 ·have ah := hasE_lt hh; have hs := split_rise h ah x; have hk : es[posE es k].1 = k := congrArg Prod.fst (has_at hh); rw [hk] at hs; have e : insE es k v = es.take (posE es k) ++ (k, v) :: es.drop (posE es k + 1) := by unfold insE; rw [if_pos hh]
  rw [e]; simp only [List.mem_append, List.mem_cons] at hs ⊢; constructor
  ·rintro (h1 | h1 | h1)
   ·exact .inr (hs.2 (.inl h1)).symm
   ·exact .inl h1
   ·exact .inr (hs.2 (.inr h1)).symm
  ·rintro (h1 | ⟨h1, h2⟩)
   ·exact .inr (.inl h1)
   ·exact (hs.1 ⟨h2, h1⟩).imp id .inr
 ·have aT : ∀ y ∈ es, y.1 ≠ k := fun y hy e => hh ((hasE_iff h).2 (List.mem_map.2 ⟨y, hy, e⟩)); rw [insE_new hh]; have he : x ∈ es ↔ x ∈ es.take (posE es k) ∨ x ∈ es.drop (posE es k) := by rw [← List.mem_append, List.take_append_drop]
  simp only [List.mem_append, List.mem_cons]; constructor
  ·rintro (h1 | h1 | h1)
   ·exact .inr ⟨aT _ (he.2 (.inl h1)), he.2 (.inl h1)⟩
   ·exact .inl h1
   ·exact .inr ⟨aT _ (he.2 (.inr h1)), he.2 (.inr h1)⟩
  ·rintro (h1 | ⟨-, h2⟩)
   ·exact .inr (.inl h1)
   ·exact (he.1 h2).imp id .inr
theorem mem_del (h : Rise (es.map (·.1))) : x ∈ delE es k ↔ x.1 ≠ k ∧ x ∈ es := by
 unfold delE
 by_cases hh : hasE es k
 ·rw [if_pos hh]; have hs := split_rise h (hasE_lt hh) x; have hk : (es[posE es k]'(hasE_lt hh)).1 = k := congrArg Prod.fst (has_at hh); rw [hk] at hs; rw [← hs]; exact And.comm
 ·rw [if_neg hh]; exact ⟨fun hx => ⟨fun e => hh ((hasE_iff h).2 (List.mem_map.2 ⟨x, hx, e⟩)), hx⟩, fun hx => hx.2⟩
end
theorem es_ext {a b : Es} (ha : Rise (a.map (·.1))) (hb : Rise (b.map (·.1))) (h : ∀ x, x ∈ a ↔ x ∈ b) : a = b := by
 have na : a.Nodup := List.Pairwise.imp (fun {x y} h e => by subst e; rw [lt_irrefl] at h; cases h) (List.pairwise_map.1 ha)
 have nb : b.Nodup := List.Pairwise.imp (fun {x y} h e => by subst e; rw [lt_irrefl] at h; cases h) (List.pairwise_map.1 hb)
 have hp : a.Perm b := (List.perm_ext_iff_of_nodup na nb).2 h
 exact hp.eq_of_pairwise (le := fun x y => lt x.1 y.1 = true) (fun x y _ _ h1 h2 => by rw [lt_asymm h1] at h2; cases h2) (List.pairwise_map.1 ha) (List.pairwise_map.1 hb)
/-! ### What TreeAlike keeps of the second tree -/
def AlikeA (oth : List Bytes) (S : Es) (j : Nat) (Q : Es) : Prop := (∀ x ∈ S.drop j, x ∈ Q) ∧ ∀ x ∈ Q, x ∈ S.drop j ∨ (x.1 ∈ oth ∧ x.1 ∉ (S.drop j).map (·.1))
theorem AlikeA.step {oth : List Bytes} {S Q : Es} {j : Nat} (h : AlikeA oth S (j + 1) Q) (hS : Rise (S.map (·.1))) (hQ : Rise (Q.map (·.1))) {x : Bytes × Bytes} (hx : S[j]? = some x) : AlikeA oth S j (insE Q x.1 x.2) := by
 obtain ⟨hj, e⟩ := List.getElem?_eq_some_iff.1 hx
 have hd : S.drop j = x :: S.drop (j + 1) := by rw [List.drop_eq_getElem_cons hj, e]
 have aT : ∀ y ∈ S.drop (j + 1), y.1 ≠ x.1 := fun y hy => by
  have := (split_rise hS hj y).2 (List.mem_append_right _ hy); rw [e] at this; exact this.2
 constructor
 ·intro y hy; rw [hd] at hy; rw [mem_ins hQ]; rcases List.mem_cons.1 hy with rfl | hy
  ·exact .inl rfl
  ·exact .inr ⟨aT y hy, h.1 y hy⟩
 ·intro y hy; rw [mem_ins hQ] at hy; rw [hd]; rcases hy with rfl | ⟨h1, h2⟩
  ·exact .inl (List.mem_cons_self ..)
  ·rcases h.2 y h2 with h3 | ⟨h3, h4⟩
   ·exact .inl (List.mem_cons_of_mem _ h3)
   ·refine .inr ⟨h3, fun hm => ?_⟩; rw [List.map_cons] at hm; rcases List.mem_cons.1 hm with hm | hm
    ·exact h1 hm
    ·exact h4 hm
def AlikeB (oth : List Bytes) (S : Es) (i : Nat) (Q : Es) : Prop := (∀ x ∈ S, x ∈ Q) ∧ ∀ x ∈ Q, x ∈ S ∨ (x.1 ∈ oth.drop i ∧ x.1 ∉ S.map (·.1))
theorem AlikeA.fin {oth : List Bytes} {S Q : Es} (h : AlikeA oth S 0 Q) : AlikeB oth S 0 Q := h
theorem AlikeB.del {oth : List Bytes} {S Q : Es} {i : Nat} (h : AlikeB oth S i Q) (hS : Rise (S.map (·.1))) (hQ : Rise (Q.map (·.1))) {o : Bytes} (ho : oth[i]? = some o) (h1 : (getR S o).2 ≠ 0) (h2 : (getR Q o).2 = 0) : AlikeB oth S (i + 1) (delE Q o) := by
 obtain ⟨hi, e⟩ := List.getElem?_eq_some_iff.1 ho
 have hd : oth.drop i = o :: oth.drop (i + 1) := by rw [List.drop_eq_getElem_cons hi, e]
 have cw : o ∉ S.map (·.1) := fun hm => h1 ((getR_code hS).2 ⟨((getR_code hQ).1 h2).1, hm⟩)
 constructor
 ·intro x hx; rw [mem_del hQ]; exact ⟨fun e => cw (by rw [← e]; exact List.mem_map.2 ⟨x, hx, rfl⟩), h.1 x hx⟩
 ·intro x hx; obtain ⟨h3, h4⟩ := (mem_del hQ).1 hx; rcases h.2 x h4 with h5 | ⟨h5, h6⟩
  ·exact .inl h5
  ·rw [hd] at h5; rcases List.mem_cons.1 h5 with e | h5
   ·exact absurd e h3
   ·exact .inr ⟨h5, h6⟩
theorem AlikeB.keep {oth : List Bytes} {S Q : Es} {i : Nat} (h : AlikeB oth S i Q) (hS : Rise (S.map (·.1))) (hQ : Rise (Q.map (·.1))) (hk : ∀ x ∈ Q, keyOk x.1) {o : Bytes} (ho : oth[i]? = some o) (h1 : (getR S o).2 = 0 ∨ (getR Q o).2 ≠ 0) : AlikeB oth S (i + 1) Q := by
 obtain ⟨hi, e⟩ := List.getElem?_eq_some_iff.1 ho
 have hd : oth.drop i = o :: oth.drop (i + 1) := by rw [List.drop_eq_getElem_cons hi, e]
 refine ⟨h.1, fun x hx => ?_⟩
 rcases h.2 x hx with h5 | ⟨h5, h6⟩
 ·exact .inl h5
 ·rw [hd] at h5; rcases List.mem_cons.1 h5 with e | h5
  ·exfalso; rcases h1 with h1 | h1
   ·exact h6 (by rw [e]; exact ((getR_code hS).1 h1).2)
   ·exact h1 ((getR_code hQ).2 ⟨by rw [← e]; exact hk x hx, by rw [← e]; exact List.mem_map.2 ⟨x, hx, rfl⟩⟩)
  ·exact .inr ⟨h5, h6⟩
theorem AlikeB.fin {oth : List Bytes} {S Q : Es} {i : Nat} (h : AlikeB oth S i Q) (hi : oth.length ≤ i) (hS : Rise (S.map (·.1))) (hQ : Rise (Q.map (·.1))) : S = Q := by
 refine es_ext hS hQ fun x => ⟨h.1 x, fun hx => ?_⟩
 rcases h.2 x hx with h1 | ⟨h1, -⟩
 ·exact h1
 ·rw [List.drop_eq_nil_of_le hi] at h1; cases h1
theorem range_drop {es : Es} {f : Bytes} (h : Rise (es.map (·.1))) : es.filter (fun x => !lt x.1 f) = es.drop (posE es f) := by
 conv => lhs; rw [← List.take_append_drop (posE es f) es, List.filter_append]
 have h1 : (es.take (posE es f)).filter (fun x => !lt x.1 f) = [] := List.filter_eq_nil_iff.2 fun x hx => by
  have := pos_lt (l := es.map (·.1)) (t := f) x.1 (by rw [← List.map_take]; exact List.mem_map.2 ⟨x, hx, rfl⟩); simp [this]
 have h2 : (es.drop (posE es f)).filter (fun x => !lt x.1 f) = es.drop (posE es f) := List.filter_eq_self.2 fun x hx => by
  have := pos_ge (t := f) h x.1 (by rw [← List.map_drop]; exact List.mem_map.2 ⟨x, hx, rfl⟩); simp [this]
 rw [h1, h2, List.nil_append]
theorem rangeE_drop {es : Es} {f : Bytes} {n : Nat} (h : Rise (es.map (·.1))) : rangeE es f n = (es.drop (posE es f)).take n := by
 unfold rangeE; rw [range_drop h]
section
variable {w : World} {q : Nat} {X : Sx} {p m : Nat} {mv sv gv : Value} {nb : Int → Nat} {F : Nat → Prop} {k : Nat}
set_option maxHeartbeats 8000000 in
theorem rangedS_ret (hM : StM w q X p m mv sv gv nb F) (hG : Gh X k) (hz : sizeOk (X.T.size : Int)) (hk : k ≤ 1000) (kd : Int) (key val : Bytes) (n : Int) (nv : Value) (auto : Bool) (hn : n ≤ 9223372036854775807) :
  Ret Tryz.prog 26 [ptr q 0, .agg (opC kd key val n nv auto).toArray] w fun v w' => v = .bool true ∧ Ext w w' := by
 have hI := hG.inv
 have fi := hG.el
 have HS := hI.rise hz
 refine ret_of_run (e := [(0, _), (1, _)]) Tryz.func26 rfl Tryz.ntmps26 rfl rfl (qN rfl (rValP rfl rfl (pbx rfl (cs := opC kd key val n nv auto) rfl) ?_))
 rintro _ w1 ⟨b3, rfl, zK, aa, aN⟩
 replace aN : Blk w1 b3 [I kd, S key, S val, I n, nv, .bool auto] 39 := aN
 have bC := hM.ext aa
 have aj := bC.blk
 have hg := Ext.drew0 w1
 refine zqa rfl (rEnd (run_seq (run_draw (fun w' => Ext w1 w') (by kernel_rfl) rfl (zqt 0 rfl (ymv rfl) hg (zqt 1 rfl (ynk rfl) hg (zqt 2 rfl (yfa fl36_1 rfl) hg (qT 3 rfl (fun _ h=>(by first | exact yld U24 rfl rfl (h.blk aj) rfl | exact yld U24 rfl rfl (h.blk aN) rfl)) hg ?_)))))))
 refine zqt 4 rfl (yfa fl39_1 rfl) hg (qT 5 rfl (fun _ h=>(by first | exact yld U9 rfl rfl (h.blk aj) rfl | exact yld U9 rfl rfl (h.blk aN) rfl)) hg ?_)
 refine zqt 6 rfl (yfa fl39_3 rfl) hg (qT 7 rfl (fun _ h=>(by first | exact yld U3 rfl rfl (h.blk aj) rfl | exact yld U3 rfl rfl (h.blk aN) rfl)) hg ?_)
 refine zqo 8 [.tmp 14, .tmp 16, .tmp 18] rfl cf13 rfl (range_ret (bC.tree.ext hg) hI (by omega) key n hn) ?_
 rintro v2 w2 ⟨ad, zg⟩
 refine ⟨hg.trans ad, ?_⟩
 have aB := hg.trans ad
 have cf := bC.ext aB
 have ay := cf.blk
 have dV := aB.blk aN
 have a8 := Ext.drew0 w2
 rcases zg with ⟨HT, rfl⟩ | ⟨ib, lv, rfl, hL, bX⟩
 ·refine zqt 9 rfl (ymv rfl) (hg.trans ad) (zqt 10 rfl (yex rfl rfl) (hg.trans ad) (zqt 11 rfl (yex rfl rfl) (hg.trans ad) (zqt 12 rfl (yas rfl) (hg.trans ad) (zqt 13 rfl (yas rfl) (hg.trans ad) (qE (run_seq (run_draw (fun w' => Ext w2 w') (by kernel_rfl) rfl (zqt 0 rfl (ymv rfl) a8 (zqt 1 rfl (ynk rfl) a8 (zqt 2 rfl (yfa fl36_2 rfl) a8 (qT 3 rfl (fun _ h=>(by first | exact yld U29 rfl rfl (h.blk ay) rfl | exact yld U29 rfl rfl (h.blk dV) rfl)) a8 ?_))))))))))); refine zqt 4 rfl (yfa fl39_1 rfl) a8 (qT 5 rfl (fun _ h=>(by first | exact yld U9 rfl rfl (h.blk ay) rfl | exact yld U9 rfl rfl (h.blk dV) rfl)) a8 ?_); refine zqt 6 rfl (yfa fl39_3 rfl) a8 (qT 7 rfl (fun _ h=>(by first | exact yld U3 rfl rfl (h.blk ay) rfl | exact yld U3 rfl rfl (h.blk dV) rfl)) a8 ?_); refine zqo 8 [.tmp 26, .tmp 28, .tmp 30] rfl cf60 rfl (rangeM_ret (cf.map.ext a8) key n) ?_; rintro v3 w3 ⟨ai, iI⟩; refine ⟨a8.trans ai, ?_⟩
  obtain rfl : v3 = .tuple #[.slice none 0 0, I 1] := by
   rcases iI with ⟨-, h⟩ | ⟨h, -⟩
   ·exact h
   ·omega
  refine zqt 9 rfl (ymv rfl) (a8.trans ai) (zqt 10 rfl (yex rfl rfl) (a8.trans ai) (zqt 11 rfl (yex rfl rfl) (a8.trans ai) (zqt 12 rfl (yas rfl) (a8.trans ai) (zqt 13 rfl (yas rfl) (a8.trans ai) (qE (Run.qb (e := [(4, _), (5, _), (6, _), (7, _), (8, _)]) ?_)))))); refine run_seq (qN rfl (zqm rfl (zqm rfl (qV (yne rfl rfl) (rFalse (by (first | exact fun h => h rfl | assumption | omega)) ?_))))); refine zqm rfl (zqm rfl (qV (yln U45 rfl) (zqm rfl (qV (yln U30 rfl) (qV (yne rfl rfl) (rFalse (by (first | exact fun h => h rfl | assumption | omega)) ?_)))))); refine qV (ypF rfl rfl) (rEnd (run_false rfl (run_skip (run_seq (qN rfl (zqa rfl (rEnd (run_block (zqu (α := Unit) (()) (fun _ => [(5, .slice none 0 0), (7, .slice none 0 0), (9, I 0)]) (fun _ w' => w' = w3) (fun _ => 0) ?hI ?hround)))))))))
  case hI => rfl
  case hround =>
   rintro ⟨⟩ w4 rfl ih
   try dsimp only
   refine run_seq (qN rfl (zqm rfl (zqm rfl (qV (yln U30 rfl) (qV (ylt rfl rfl) (rEnd (run_if rfl (fun ah => ?_) (fun ah => ?_))))))))
   ·exact absurd ah (by decide)
   ·refine run_exit rfl (qN rfl (zqa rfl (rEnd (run_ret Tryz.func26 rfl ?_)))); exact ⟨_, rfl, rfl, ((aa.trans aB).trans (a8.trans ai))⟩
 ·obtain ⟨R, hR⟩ : ∃ R, rangeE X.es key n.toNat = R := ⟨_, rfl⟩; have EK : (X.es.drop (posE X.es key)).take n.toNat = R := by rw [← rangeE_drop HS]; exact hR
  rw [hR] at hL
  have mj : R.length ≤ 1000000 := by
   have : R.length ≤ X.es.length := by rw [← EK, List.length_take, List.length_drop]; omega
   omega
  obtain ⟨xa, xq2, rfl⟩ := some_ofE hL; refine zqt 9 rfl (ymv rfl) (hg.trans ad) (zqt 10 rfl (yex rfl rfl) (hg.trans ad) (zqt 11 rfl (yex rfl rfl) (hg.trans ad) (zqt 12 rfl (yas rfl) (hg.trans ad) (zqt 13 rfl (yas rfl) (hg.trans ad) (qE (run_seq (run_draw (fun w' => Ext w2 w') (by kernel_rfl) rfl (zqt 0 rfl (ymv rfl) a8 (zqt 1 rfl (ynk rfl) a8 (zqt 2 rfl (yfa fl36_2 rfl) a8 (qT 3 rfl (fun _ h=>(by first | exact yld U29 rfl rfl (h.blk ay) rfl | exact yld U29 rfl rfl (h.blk dV) rfl)) a8 ?_))))))))))); refine zqt 4 rfl (yfa fl39_1 rfl) a8 (qT 5 rfl (fun _ h=>(by first | exact yld U9 rfl rfl (h.blk ay) rfl | exact yld U9 rfl rfl (h.blk dV) rfl)) a8 ?_); refine zqt 6 rfl (yfa fl39_3 rfl) a8 (qT 7 rfl (fun _ h=>(by first | exact yld U3 rfl rfl (h.blk ay) rfl | exact yld U3 rfl rfl (h.blk dV) rfl)) a8 ?_); refine zqo 8 [.tmp 26, .tmp 28, .tmp 30] rfl cf60 rfl (rangeM_ret (cf.map.ext a8) key n) ?_; rintro v3 w3 ⟨ai, iI⟩; refine ⟨a8.trans ai, ?_⟩
  obtain ⟨rv, rfl, EL, HU⟩ : ∃ rv, v3 = .tuple #[rv, I 0] ∧ Rd w3 rv 2 R.length (esC R) ∧ ∀ g, rv.ownBlock = some g → mv.ownBlock = some g := by
   rcases iI with ⟨h, -⟩ | ⟨-, rv, h1, h2, h3⟩
   ·omega
   ·rw [EK] at h2; exact ⟨rv, h1, h2, h3⟩
  obtain ⟨ra, rc2, rfl, -⟩ := EL.shape; have iB := a8.trans ai; have EM := hL.ext iB; have eV := aa.size; have dH := aB.size; have jS := iB.size; refine zqt 9 rfl (ymv rfl) (a8.trans ai) (zqt 10 rfl (yex rfl rfl) (a8.trans ai) (zqt 11 rfl (yex rfl rfl) (a8.trans ai) (zqt 12 rfl (yas rfl) (a8.trans ai) (zqt 13 rfl (yas rfl) (a8.trans ai) (qE (Run.qb (e := [(4, _), (5, _), (6, _), (7, _), (8, _)]) ?_)))))); refine run_seq (qN rfl (zqm rfl (zqm rfl (qV (yne rfl rfl) (rFalse (by (first | exact fun h => h rfl | assumption | omega)) ?_))))); refine zqm rfl (zqm rfl (qV (yln U45 rfl) (zqm rfl (qV (yln U30 rfl) (qV (yne rfl rfl) (rFalse (by (first | exact fun h => h rfl | assumption | omega)) ?_)))))); refine qV (ypF rfl rfl) (rEnd (run_false rfl (run_skip (run_seq (qN rfl (zqa rfl (rEnd (run_block ?_)))))))); rcases EM.shape with ⟨e, e0⟩ | ⟨gl, cap, e, iL⟩
  ·refine zqu (α := Unit) (()) (fun _ => [(5, .slice xa R.length xq2), (7, .slice ra R.length rc2), (9, I 0)]) (fun _ w' => w' = w3) (fun _ => 0) ?hI ?hround
   case hI => rfl
   case hround =>
    rintro ⟨⟩ w4 rfl ih
    try dsimp only
    refine run_seq (qN rfl (zqm rfl (zqm rfl (qV (yln U30 rfl) (qV (ylt rfl rfl) (rEnd (run_if rfl (fun ah => ?_) (fun ah => ?_))))))))
    ·omega
    ·refine run_exit rfl (qN rfl (zqa rfl (rEnd (run_ret Tryz.func26 rfl ?_)))); exact ⟨_, rfl, rfl, (aa.trans aB).trans iB⟩
  ·cases e; obtain ⟨cur, bJ, -, -, cG, di⟩ := EM.row; have EN := bJ.blk; have lK : w1.drew.heap.size ≤ gl := bX gl rfl; have BM := EN.lt; have IN := hg.size
   have De : ∀ (j : Nat) (y : Bytes × Bytes), R[j]? = some y → cur[2 * j]? = some (S y.1) ∧ cur[2 * j + 1]? = some (S y.2) := fun j y hy => by
    obtain ⟨f1, f2⟩ := flat2 (fun x : Bytes × Bytes => S x.1) (fun x : Bytes × Bytes => S x.2) R j; rw [hy] at f1 f2; have hj := (List.getElem?_eq_some_iff.1 hy).1; have g1 : (esC R)[2 * j]? = some (S y.1) := f1; have g2 : (esC R)[2 * j + 1]? = some (S y.2) := f2; rw [← di, List.getElem?_take] at g1 g2; rw [if_pos (by omega)] at g1 g2; exact ⟨g1, g2⟩
   have Df : Ext w w3 := (aa.trans aB).trans iB; refine zqu (α := Nat) (0) (fun i => [(5, .slice (some ⟨gl, 0, none⟩) R.length xq2), (7, .slice ra R.length rc2), (9, I (i : Int))]) (fun i w' => i ≤ R.length ∧ Kp (fun k => k = gl) w3 w' ∧ ∃ cur', Blk w' gl cur' 49 ∧ cur'.length = cur.length ∧ ∀ (j : Nat) (y : Bytes × Bytes), i ≤ j → R[j]? = some y → cur'[2 * j]? = some (S y.1) ∧ cur'[2 * j + 1]? = some (S y.2)) (fun i => R.length - i) ?hI ?hround
   case hI => exact ⟨Nat.zero_le _, Kp.refl _ _, cur, EN, rfl, fun j y _ hy => De j y hy⟩
   case hround =>
    rintro i w4 ⟨hi, ax, cur4, bs, t8, qs⟩ ih
    try dsimp only
    refine run_seq (qN rfl (zqm rfl (zqm rfl (qV (yln U30 rfl) (qV (ylt rfl rfl) (rEnd (run_if rfl (fun ah => ?_) (fun ah => ?_))))))))
    ·have af : i < R.length := by omega
     obtain ⟨y, hy⟩ : ∃ y, R[i]? = some y := ⟨_, List.getElem?_eq_getElem af⟩; obtain ⟨y1, y2⟩ := qs i y (Nat.le_refl _) hy
     have Dg : Rd w4 (.slice ra R.length rc2) 2 R.length (esC R) := Rd.kpz EL ax (fun h0 g hg e => by
      have h7 := hM.lt (k := g) (.inr (.inr (.inl (HU g hg))))
      omega)
     obtain ⟨b1, o1, y', rfl, -⟩ := rd_ens Dg rfl af; have aE := Ext.drew0 w4; refine run_skip (run_seq (run_block (run_seq (run_seq (run_draw (fun w' => Ext w4 w') (by kernel_rfl) rfl ?_))))); have ix : ∀ w', Ext w4 w' → w'.cell? ⟨gl, 0 + i * 2, none⟩ = some (S y.1) := fun w' hx => by rw [(hx.blk bs).cell, Nat.zero_add, Nat.mul_comm]; exact y1
     have cJ : ∀ w', Ext w4 w' → w'.cell? ⟨gl, 0 + i * 2 + 1, none⟩ = some (S y.2) := fun w' hx => by rw [(hx.blk bs).cell, Nat.zero_add, Nat.mul_comm]; exact y2
     refine zqt 0 rfl (ymv rfl) aE (zqt 1 rfl (ymv rfl) aE (zqt 2 rfl (yis U45 ti49 rfl rfl (by omega)) aE (zqt 3 rfl (yfa fl49_0 rfl) aE (zqt 5 rfl (ymv rfl) aE (zqt 6 rfl (ymv rfl) aE (zqt 7 rfl (yis U30 ti41 rfl rfl (by omega)) aE (zqt 8 rfl (yfa fl41_0 rfl) aE (qT 4 rfl (fun _ h=>yldc U9 rfl rfl (ix _ h)) aE (qT 9 rfl (fun _ h=>yldc U9 rfl rfl (rd_en0 (Dg.ext h) af hy)) aE (zqt 10 rfl (yneS rfl rfl) aE (zqt 11 rfl (ymv rfl) aE (rh_bool (fun h5 => ?_) (fun h5 => ?_)))))))))))))
     ·simp at h5
     ·refine zqt 12 rfl (ymv rfl) aE (zqt 13 rfl (ymv rfl) aE (zqt 14 rfl (yis U45 ti49 rfl rfl (by omega)) aE (zqt 15 rfl (yfa fl49_1 rfl) aE (zqt 17 rfl (ymv rfl) aE (zqt 18 rfl (ymv rfl) aE (zqt 19 rfl (yis U30 ti41 rfl rfl (by omega)) aE (zqt 20 rfl (yfa fl41_1 rfl) aE (qT 16 rfl (fun _ h=>yldc U9 rfl rfl (cJ _ h)) aE (qT 21 rfl (fun _ h=>yldc U9 rfl rfl (rd_en1 (Dg.ext h) af hy)) aE (zqt 22 rfl (yneS rfl rfl) aE (zqt 23 rfl (ypF rfl rfl) aE (qE (run_cond rfl (fun h6 => ?_) (fun h6 => ?_))))))))))))))
      ·simp at h6
      ·refine run_skip (run_reg rfl (zqm rfl (zqm rfl (qV (yis U45 ti49 rfl rfl (by omega)) (qV (yfa fl49_0 rfl) (rEffP rfl (zst ti9 rfl rfl rfl (aE.blk bs) (by omega)) ?_)))))); rintro w5 ⟨bu, aY⟩; refine rEnd (run_inBlock (run_reg rfl (zqm rfl (zqd rfl rfl (zqa rfl (rEnd ((ih (i + 1) w5 ⟨by omega, ax.trans (aE.kp.trans aY), _, bu, by rw [List.length_set]; exact t8, fun j y' hj mr => ?_⟩ (by omega)).qb))))))); have := qs j y' (by omega) mr; rw [List.getElem?_set_ne (by omega), List.getElem?_set_ne (by omega)]; exact this
    ·refine run_exit rfl (qN rfl (zqa rfl (rEnd (run_ret Tryz.func26 rfl ?_)))); exact ⟨_, rfl, rfl, Df.trans_new ax (fun i hi => by omega)⟩
end
theorem flat_nth {α : Type} {f : α → List Value} {k : Nat} (hf : ∀ a, (f a).length = k) : ∀ (l : List α) (i r : Nat), r < k → (l.flatMap f)[i * k + r]? = (l[i]?).bind fun a => (f a)[r]?
 | [], i, r, hr => by simp
 | a :: l, 0, r, hr => by
   rw [List.flatMap_cons, Nat.zero_mul, Nat.zero_add, List.getElem?_append_left (by rw [hf]; exact hr)]
   rfl
 | a :: l, i + 1, r, hr => by
   rw [List.flatMap_cons, List.getElem?_append_right (by rw [hf, Nat.succ_mul]; omega), hf, show (i + 1) * k + r - k = i * k + r by rw [Nat.succ_mul]; omega, flat_nth hf l i r hr]
   rfl
structure TOp where
 kd : Int
 key : Bytes
 val : Bytes
 n : Int
 nos : List Int
 auto : Bool
 nv : Value
def TOp.cs (o : TOp) : List Value := opC o.kd o.key o.val o.n o.nv o.auto
structure OpsT (w : World) (v : Value) (l : List TOp) : Prop where
 rd : Rd w v 6 l.length (l.flatMap TOp.cs)
 le : l.length ≤ 140737488355328
 nos : ∀ o ∈ l, Rd w o.nv 1 o.nos.length (o.nos.map I) ∧ o.nos.length ≤ 17592186044415 ∧ ∃ a c, o.nv = .slice a o.nos.length c ∧ o.nos.length ≤ c
 str : ∀ o ∈ l, o.key.length ≤ 140737488355328 ∧ o.val.length ≤ 140737488355328 ∧ o.n ≤ 9223372036854775807
theorem OpsT.ext {w w' : World} {v : Value} {l : List TOp} (h : OpsT w v l) (k : Ext w w') : OpsT w' v l := ⟨h.rd.ext k, h.le, fun o ho => ⟨(h.nos o ho).1.ext k, (h.nos o ho).2⟩, h.str⟩
theorem rd_op {w : World} {b off n cap : Nat} {l : List TOp} {i : Nat} {o : TOp} (h : Rd w (.slice (some ⟨b, off, none⟩) n cap) 6 n (l.flatMap TOp.cs)) (hi : i < n) (hy : l[i]? = some o) (r : Nat) (hr : r < 6) : w.cell? ⟨b, off + i * 6 + r, none⟩ = o.cs[r]? := by
 rcases h.2 with ⟨c, -, h0⟩ | ⟨b', off', cap', hv, hc⟩
 ·omega
 ·cases hv; have e := flat_nth (f := TOp.cs) (k := 6) (fun a => rfl) l i r hr; rw [hy] at e; have e' : (l.flatMap TOp.cs)[i * 6 + r]? = o.cs[r]? := e; have ah : r < o.cs.length := hr; rw [List.getElem?_eq_getElem ah] at e' ⊢; have := hc _ _ e'; rw [Nat.add_assoc]; exact this
theorem rd_ops {w : World} {a : Option Addr} {cap n : Nat} {l : List TOp} {i : Nat} (h : Rd w (.slice a n cap) 6 n (l.flatMap TOp.cs)) (hn : n = l.length) (hi : i < n) : ∃ b off o, a = some ⟨b, off, none⟩ ∧ l[i]? = some o := by
 rcases h.2 with ⟨c, -, h0⟩ | ⟨b', off', cap', hv, hc⟩
 ·omega
 ·cases hv; exact ⟨b', off', _, rfl, List.getElem?_eq_getElem (by omega)⟩
section
variable {w w' w0 : World} {q : Nat} {X : Sx} {p m : Nat} {mv sv gv : Value} {nb : Int → Nat} {F : Nat → Prop} {S : Nat → Prop}
theorem StM.kp (h : StM w q X p m mv sv gv nb F) (k : Kp S w w') (hn : ∀ k, fpS q m mv sv gv F k → ¬ S k) : StM w' q X p m mv sv gv nb F :=
 ⟨k.blk h.blk (hn _ (.inl rfl)), h.tree.kp k (fun g hg => hn g (.inr (.inr (.inr (.inr (.inr hg)))))), h.map.kp k (hn _ (.inr (.inl rfl))) (fun g hg => hn g (.inr (.inr (.inl hg)))), h.sto.kp k (fun g hg => hn g (.inr (.inr (.inr (.inl hg))))), h.giv.kp k (fun g hg => hn g (.inr (.inr (.inr (.inr (.inl hg)))))), h.qm, h.fq, h.fm, h.ov, h.og⟩
theorem StM.init {z : Nat} (hT : TreeA w p (Tr0 z) nb F) (hm : Blk w m [.slice none 0 0] 32) (hB : Blk w q [I (z : Int), ptr p 0, ptr m 0, .slice none 0 0, .slice none 0 0, I 0] 36) (zO : q ≠ m) (hq : ¬ F q) (Dh : ¬ F m) :
  StM w q ⟨Tr0 z, 0, [], [], fun _ => none, [], [], 0⟩ p m (.slice none 0 0) (.slice none 0 0) (.slice none 0 0) nb F :=
 ⟨hB, hT, ⟨hm, Sl.nil _ _ _, by simp [Value.ownBlock], by simp⟩, by
  have e : pgs z (fun _ => none) [] (fun _ => true) = [] := List.eq_nil_of_length_eq_zero (by rw [pgs_all_len]; rfl); show Sl w _ _ 2 (pgs z (fun _ => none) [] (fun _ => true)).length (pgC (pgs z (fun _ => none) [] (fun _ => true))); rw [e]
  exact Sl.nil _ _ _, Sl.nil _ _ _, zO, hq, Dh, fun g hg => by simp [Value.ownBlock] at hg, fun g hg => by simp [Value.ownBlock] at hg⟩
end
def St2 (w0 w : World) (qa pa ma qb pb mb : Nat) (Xa Xb : Sx) : Prop := ∃ mva sva gva nba Fa mvb svb gvb nbb Fb, StM w qa Xa pa ma mva sva gva nba Fa ∧ StM w qb Xb pb mb mvb svb gvb nbb Fb ∧ (∀ k, fpS qa ma mva sva gva Fa k → w0.heap.size ≤ k) ∧ (∀ k, fpS qb mb mvb svb gvb Fb k → w0.heap.size ≤ k) ∧ (∀ k, fpS qa ma mva sva gva Fa k → ¬ fpS qb mb mvb svb gvb Fb k) ∧ Ext w0 w
section
variable {w0 w w' : World} {qa pa ma qb pb mb : Nat} {Xa Xb Xa' : Sx}
theorem St2.symm (h : St2 w0 w qa pa ma qb pb mb Xa Xb) : St2 w0 w qb pb mb qa pa ma Xb Xa := by
 obtain ⟨mva, sva, gva, nba, Fa, mvb, svb, gvb, nbb, Fb, h1, h2, h3, h4, h5, h6⟩ := h
 exact ⟨mvb, svb, gvb, nbb, Fb, mva, sva, gva, nba, Fa, h2, h1, h4, h3, fun k hk aS => h5 k aS hk, h6⟩
theorem St2.ext (h : St2 w0 w qa pa ma qb pb mb Xa Xb) (k : Ext w w') : St2 w0 w' qa pa ma qb pb mb Xa Xb := by
 obtain ⟨mva, sva, gva, nba, Fa, mvb, svb, gvb, nbb, Fb, h1, h2, h3, h4, h5, h6⟩ := h
 exact ⟨mva, sva, gva, nba, Fa, mvb, svb, gvb, nbb, Fb, h1.ext k, h2.ext k, h3, h4, h5, h6.trans k⟩
end
theorem giveOk_nil (T : Tr) : giveOk T [] := ⟨List.nodup_nil, by simp⟩
theorem giveOk_snoc {T : Tr} {l : List Int} {x : Int} : giveOk T (l ++ [x]) ↔ giveOk T l ∧ x ∉ l ∧ (1 ≤ x ∧ x ≤ 2147483647) ∧ T.nodes x = none ∧ T.old x = false ∧ x ∉ T.given := by
 unfold giveOk
 constructor
 ·rintro ⟨h1, h2⟩; obtain ⟨n1, -, n3⟩ := List.nodup_append.1 h1; exact ⟨⟨n1, fun y hy => h2 y (List.mem_append_left _ hy)⟩, fun e => n3 x e x (List.mem_singleton.2 rfl) rfl, h2 x (List.mem_append_right _ (List.mem_singleton.2 rfl))⟩
 ·rintro ⟨⟨h1, h2⟩, h3, h4⟩; refine ⟨List.nodup_append.2 ⟨h1, List.nodup_cons.2 ⟨List.not_mem_nil, List.nodup_nil⟩, fun a ha b hb e => ?_⟩, fun y hy => ?_⟩
  ·rw [List.mem_singleton.1 hb] at e; exact h3 (e ▸ ha)
  ·rcases List.mem_append.1 hy with hy | hy
   ·exact h2 y hy
   ·rw [List.mem_singleton.1 hy]; exact h4
section
variable {w w' : World} {q : Nat} {X : Sx} {p m : Nat} {mv sv gv : Value} {nb : Int → Nat} {F : Nat → Prop}
theorem StM.reset (h : StM w q X p m mv sv gv nb F) {T' : Tr} {p' : Nat} {nb' : Int → Nat} {F' : Nat → Prop} {O' : Nodes} {os' gs' : List Int} {sv' gv' : Value} (cO : Kp (fun k => F k ∨ k = q) w w')
  (hB : Blk w' q [I (X.T.size : Int), ptr p' 0, ptr m 0, sv', gv', I (X.nx : Int)] 36) (hT : TreeA w' p' T' nb' F') (hs : T'.size = X.T.size) (hF : ∀ k, F' k → F k ∨ w.heap.size ≤ k)
  (hS : Sl w' sv' 54 2 (pgs X.T.size O' os' fun _ => true).length (pgC (pgs X.T.size O' os' fun _ => true))) (hG : Sl w' gv' 3 1 gs'.length (gs'.map I))
  (hn : ∀ g, sv'.ownBlock = some g ∨ gv'.ownBlock = some g → w.heap.size ≤ g ∧ ¬ F' g) (aT : ∀ g, gv'.ownBlock = some g → sv'.ownBlock ≠ some g) :
  StM w' q { X with T := T', O := O', os := os', gs := gs' } p' m mv sv' gv' nb' F' ∧ Kp (fpS q m mv sv gv F) w w' ∧ ∀ k, fpS q m mv sv' gv' F' k → fpS q m mv sv gv F k ∨ w.heap.size ≤ k := by
 have hq := h.blk.lt
 have hm := h.map.blk.lt
 have HV : ¬ F' q := fun e => (hF q e).elim h.fq (fun e => by omega)
 have m4 : ¬ F' m := fun e => (hF m e).elim h.fm (fun e => by omega)
 have HW : ∀ g, mv.ownBlock = some g → ¬ F' g := fun g hg e => (hF g e).elim (h.ov g (.inl hg)).2.2 (fun e => by have := h.map.sl.lt hg; omega)
 refine ⟨⟨?_, hT, h.map.kp cO (fun e => e.elim h.fm (fun e => h.qm e.symm)) (fun g hg e => e.elim (h.ov g (.inl hg)).2.2 (h.ov g (.inl hg)).1), ?_, hG, h.qm, HV, m4, fun g hg => ?_, fun g hg => ⟨fun e => ?_, aT g hg⟩⟩, cO.mono' (fun k e => e.elim (fun e => .inr (.inr (.inr (.inr (.inr e))))) .inl), fun k hk => ?_⟩
 ·dsimp only; rw [hs]; exact hB
 ·dsimp only; rw [hs]; exact hS
 ·rcases hg with hg | hg
  ·exact ⟨(h.ov g (.inl hg)).1, (h.ov g (.inl hg)).2.1, HW g hg⟩
  ·have := hn g hg; exact ⟨by omega, by omega, this.2⟩
 ·have := h.map.sl.lt e; have := (hn g (.inr hg)).1; omega
 ·rcases hk with hk | hk | hk | hk | hk | hk
  ·exact .inl (.inl hk)
  ·exact .inl (.inr (.inl hk))
  ·exact .inl (.inr (.inr (.inl hk)))
  ·exact .inr (hn k (.inl hk)).1
  ·exact .inr (hn k (.inr hk)).1
  ·exact (hF k hk).imp (fun e => .inr (.inr (.inr (.inr (.inr e))))) id
end
/-! ### Pages turned round in place -/
def PgB (cur : List Value) (l : Pgs) : Prop := 2 * l.length ≤ cur.length ∧ ∀ (j : Nat) (y : Int × Bytes), l[j]? = some y → cur[2 * j]? = some (I y.1) ∧ cur[2 * j + 1]? = some (S y.2)
theorem PgB.set {cur : List Value} {l : Pgs} (h : PgB cur l) {i : Nat} (y : Int × Bytes) (hi : i < l.length) : PgB (splice cur (2 * i) [I y.1, S y.2]) (l.set i y) := by
 obtain ⟨h1, h2⟩ := h
 have dr : 2 * i + [I y.1, S y.2].length ≤ cur.length := by simp; omega
 refine ⟨by rw [splice_length _ _ _ dr, List.length_set]; exact h1, fun j z hz => ?_⟩
 rw [splice_get _ _ _ _ dr, splice_get _ _ _ _ dr]
 simp only [List.length_cons, List.length_nil]
 by_cases e : j = i
 ·subst e; rw [List.getElem?_set_self hi] at hz; cases hz; rw [if_pos (by omega), if_pos (by omega), Nat.sub_self, show 2 * j + 1 - 2 * j = 1 by omega]; exact ⟨rfl, rfl⟩
 ·rw [List.getElem?_set_ne (fun e' => e e'.symm)] at hz; rw [if_neg (by omega), if_neg (by omega)]; exact h2 j z hz
theorem pgC_get {l : Pgs} {j : Nat} {y : Int × Bytes} (h : l[j]? = some y) : (pgC l)[2 * j]? = some (I y.1) ∧ (pgC l)[2 * j + 1]? = some (S y.2) := by
 have f1 := flat_nth (f := fun x : Int × Bytes => [I x.1, S x.2]) (k := 2) (fun _ => rfl) l j 0 (by omega)
 have f2 := flat_nth (f := fun x : Int × Bytes => [I x.1, S x.2]) (k := 2) (fun _ => rfl) l j 1 (by omega)
 rw [h] at f1 f2
 rw [Nat.mul_comm 2 j]
 exact ⟨f1, f2⟩
theorem PgB.mk' {cur : List Value} {l : Pgs} {n : Nat} (h : cur.take n = pgC l) (hn : n = l.length * 2) (hl : n ≤ cur.length) : PgB cur l := by
 refine ⟨by omega, fun j y hy => ?_⟩
 have hj := (List.getElem?_eq_some_iff.1 hy).1
 obtain ⟨g1, g2⟩ := pgC_get hy
 rw [← h, List.getElem?_take, if_pos (by omega)] at g1 g2
 exact ⟨g1, g2⟩
theorem PgB.rd {cur : List Value} {l : Pgs} (h : PgB cur l) {w : World} {b cap : Nat} {T : TypeId} (hB : Blk w b cur T) : Rd w (.slice (some ⟨b, 0, none⟩) l.length cap) 2 l.length (pgC l) := by
 refine ⟨by rw [pgC_len], .inr ⟨b, 0, cap, rfl, fun j u hj => ?_⟩⟩
 rw [hB.cell, Nat.zero_add]
 have vF : j < (pgC l).length := (List.getElem?_eq_some_iff.1 hj).1
 rw [pgC_len] at vF
 obtain ⟨y, hy⟩ : ∃ y, l[j / 2]? = some y := ⟨_, List.getElem?_eq_getElem (by omega)⟩
 obtain ⟨g1, g2⟩ := pgC_get hy
 obtain ⟨c1, c2⟩ := h.2 _ _ hy
 rcases Nat.mod_two_eq_zero_or_one j with e | e
 ·rw [show 2 * (j / 2) = j by omega] at g1 c1; rw [c1, ← hj, g1]
 ·rw [show 2 * (j / 2) + 1 = j by omega] at g2 c2; rw [c2, ← hj, g2]
def RvI (l c : Pgs) (i : Nat) : Prop := c.length = l.length ∧ ∀ j, j < l.length → c[j]? = if j < i ∨ l.length - i ≤ j then l[l.length - 1 - j]? else l[j]?
theorem RvI.zero (l : Pgs) : RvI l l 0 := ⟨rfl, fun j hj => by rw [if_neg (by omega)]⟩
theorem RvI.step {l c : Pgs} {i : Nat} (h : RvI l c i) (hi : 2 * i + 1 < l.length) {a b : Int × Bytes} (ha : c[i]? = some a) (hb : c[l.length - 1 - i]? = some b) : RvI l ((c.set i b).set (l.length - 1 - i) a) (i + 1) := by
 obtain ⟨h1, h2⟩ := h
 refine ⟨by rw [List.length_set, List.length_set, h1], fun j hj => ?_⟩
 rw [h2 i (by omega), if_neg (by omega)] at ha
 rw [h2 (l.length - 1 - i) (by omega), if_neg (by omega)] at hb
 by_cases e1 : j = l.length - 1 - i
 ·subst e1; rw [List.getElem?_set_self (by rw [List.length_set, h1]; omega), if_pos (by omega), show l.length - 1 - (l.length - 1 - i) = i by omega, ha]
 ·rw [List.getElem?_set_ne (fun e => e1 e.symm)]; by_cases e2 : j = i
  ·subst e2; rw [List.getElem?_set_self (by rw [h1]; omega), if_pos (by omega), hb]
  ·rw [List.getElem?_set_ne (fun e => e2 e.symm), h2 j hj]; by_cases e3 : j < i ∨ l.length - i ≤ j
   ·rw [if_pos e3, if_pos (by omega)]
   ·rw [if_neg e3, if_neg (by omega)]
theorem RvI.fin {l c : Pgs} {i : Nat} (h : RvI l c i) (hi : l.length ≤ 2 * i + 1) : c = l.reverse := by
 obtain ⟨h1, h2⟩ := h
 apply List.ext_getElem?
 intro j
 by_cases hj : j < l.length
 ·rw [h2 j hj, List.getElem?_reverse hj]; by_cases e3 : j < i ∨ l.length - i ≤ j
  ·rw [if_pos e3]
  ·rw [if_neg e3, show l.length - 1 - j = j by omega]
 ·rw [List.getElem?_eq_none (by omega), List.getElem?_eq_none (by rw [List.length_reverse]; omega)]
theorem rd_takeI {w : World} {b off n cap i : Nat} {l : List Int} (h : Rd w (.slice (some ⟨b, off, none⟩) n cap) 1 n (l.map I)) (hi : i ≤ l.length) (hn : n = l.length) (c : Nat) : Rd w (.slice (some ⟨b, off, none⟩) i c) 1 (l.take i).length ((l.take i).map I) := by
 rw [List.length_take, Nat.min_eq_left hi]
 refine ⟨by rw [List.length_map, List.length_take]; omega, .inr ⟨b, off, c, rfl, fun j u hj => ?_⟩⟩
 rcases h.2 with ⟨c', -, h0⟩ | ⟨b', off', cap', hv, hc⟩
 ·rw [hn] at h0; have : j < ((l.take i).map I).length := (List.getElem?_eq_some_iff.1 hj).1; rw [List.length_map, List.length_take] at this; omega
 ·cases hv; refine hc j u ?_; rw [List.map_take, List.getElem?_take] at hj; split at hj
  ·exact hj
  ·cases hj
section
variable {w : World} {q : Nat} {X : Sx} {p m : Nat} {mv sv gv : Value} {nb : Int → Nat} {F : Nat → Prop} {k : Nat}
set_option maxHeartbeats 8000000 in
theorem giveS_ret (hM : StM w q X p m mv sv gv nb F) (hG : Gh X k) (hz : sizeOk (X.T.size : Int)) (hk : k ≤ 340) {la : Option Addr} {lc : Nat} {l : List Int} (hR : Rd w (.slice la l.length lc) 1 l.length (l.map I)) (hl : l.length ≤ 17592186044415) (hc : l.length ≤ lc) (hd : 0 < l.length → ∀ g, (Value.slice la l.length lc).ownBlock = some g → ¬ fpS q m mv sv gv F g) :
  Ret Tryz.prog 57 [ptr q 0, .slice la l.length lc] w fun v w' => v = .bool true ∧ ∃ X' gv' F', StM w' q X' p m mv sv gv' nb F' ∧ Gh X' (k + 1) ∧ X'.T.size = X.T.size ∧ X'.es = X.es ∧ Kp (fpS q m mv sv gv F) w w' ∧ ∀ k, fpS q m mv sv gv' F' k → fpS q m mv sv gv F k ∨ w.heap.size ≤ k := by
 have hI := hG.inv
 have vk := Inv.cnts hz hI
 have fi := hG.el
 have Eo := hG.ol
 have D5 := hG.gl
 have d8 := hI.gl
 have eP : maxLen = 9223372036854775807 := rfl
 have bj := hI.nodup
 obtain ⟨P, hP⟩ : ∃ P, (pgs X.T.size X.T.nodes X.ns fun _ => true) = P := ⟨_, rfl⟩
 have vG : P.length = X.ns.length := by rw [← hP, pgs_all_len]
 have At : ∀ x, x ∈ P.map (·.1) ↔ X.T.nodes x ≠ none := fun x => by
  rw [← hP, pgs_fst, List.mem_filter, sortZ_mem, hI.mem x]; simp
 have hB := hM.blk
 refine ret_of_run (e := [(0, _), (1, _)]) Tryz.func57 rfl Tryz.ntmps57 rfl rfl (qN rfl (zqa rfl (qM rfl (zqm rfl (qV (ynk rfl) (qV (yfa fl36_1 rfl) (qV (yld U24 rfl rfl hB rfl) (zqc [.tmp 17] cf22 rfl (pages_ret hM.tree hI (by omega)) ?_))))))))
 rintro v1 w1 ⟨aa, eI, -⟩
 rw [hP] at eI
 refine zqc [.tmp 18] cf29 rfl (pagesL_ret (Sl.rd eI) (by omega)) ?_
 rintro v2 w2 ⟨ad, aV, -⟩
 obtain ⟨pa, pc, rfl⟩ := some_ofE aV
 have bo := aa.trans ad
 have cf := hM.ext bo
 have ay := cf.blk
 refine zqa rfl (qM rfl (zqm rfl (qV (ynk rfl) (qV (yfa fl36_1 rfl) (qV (yld U24 rfl rfl ay rfl) (zqc [.tmp 23] cf27 rfl (given_ret cf.tree (by omega)) ?_))))))
 rintro v3 w3 ⟨aJ, ai, -⟩
 obtain ⟨fa, fc, rfl⟩ := some_ofE aJ
 have ef := cf.ext ai
 have aN := ef.blk
 refine zqa rfl (qM rfl (zqm rfl (qV (ynk rfl) (qV (yfa fl36_1 rfl) (qV (yld U24 rfl rfl aN rfl) (zqc [.tmp 28] cf28 rfl (freed_ret ef.tree (os := X.os) (fun x hx => (hG.om x).1 ((hG.old x).1 hx)) (by omega)) ?_))))))
 rintro v4 w4 ⟨aX, fl, -, m4, Af, fo, -⟩
 obtain ⟨ra, rc, rfl⟩ := some_ofE fo
 have jK := ai.trans aX
 have dT := bo.trans jK
 have i3 := ef.ext aX
 have EO := (Sl.rd aV).ext jK
 have sk := (Sl.rd aJ).ext aX
 have EP := Sl.rd fo
 have EQ := hR.ext dT
 refine zqa rfl (qM rfl (zqa rfl (rEnd (run_seq (qN rfl (zqa rfl (rEnd (run_block (zqu (α := Nat × Int) ((0, 0)) (fun x => [(0, ptr q 0), (1, .slice la l.length lc), (5, .slice pa P.length pc), (6, .slice fa X.T.given.length fc), (7, .slice ra fl.length rc), (8, I x.2), (9, I (x.1 : Int))]) (fun x w' => x.1 ≤ l.length ∧ Ext w4 w' ∧ ((x.2 = 0 ∧ giveOk X.T (l.take x.1)) ∨ (x.2 = 1 ∧ ¬ giveOk X.T (l.take x.1)))) (fun x => l.length - x.1) ?hI ?hround)))))))))
 case hI => exact ⟨Nat.zero_le _, Ext.refl _, .inl ⟨rfl, giveOk_nil _⟩⟩
 case hround =>
  rintro ⟨i, wt⟩ w5 ⟨hi, aF, qP⟩ ih; dsimp only at hi qP
  try dsimp only
  refine run_seq (qN rfl (zqm rfl (zqm rfl (qV (yln U34 rfl) (qV (ylt rfl rfl) (rEnd (run_if rfl (fun ah => ?_) (fun ah => ?_))))))))
  ·have af : i < l.length := by omega
   obtain ⟨lb, lo, x, rfl, hx⟩ := rd_getI hR af; have ac := Ext.drew0 w5; have cj := aF.trans ac
   have sm : giveOk X.T (l.take (i + 1)) ↔ giveOk X.T (l.take i) ∧ x ∉ l.take i ∧ (1 ≤ x ∧ x ≤ 2147483647) ∧ X.T.nodes x = none ∧ X.T.old x = false ∧ x ∉ X.T.given := by
    obtain ⟨_, e⟩ := List.getElem?_eq_some_iff.1 hx; rw [List.take_succ_eq_append_getElem af, e]; exact giveOk_snoc
   have cu : ∀ {Q : Prop}, (giveOk X.T (l.take (i + 1)) → Q) → ¬ Q → ¬ giveOk X.T (l.take (i + 1)) := fun a b c => b (a c); have mj : ∀ w', Ext w5 w' → Rd w' (.slice (some ⟨lb, lo, none⟩) l.length lc) 1 l.length (l.map I) := fun w' k => (EQ.ext aF).ext k; refine run_skip (run_seq (run_block (run_seq (run_draw (fun w' => Ext w5 w') (by kernel_rfl) rfl (zqt 0 rfl (ymv rfl) ac (zqt 1 rfl (ymv rfl) ac (zqt 2 rfl (yis U34 ti3 rfl rfl (by omega)) ac (qT 3 rfl (fun _ h=>yldc U3 rfl rfl (rd_intT (mj _ h) af hx)) ac (zqt 4 rfl (ylt rfl rfl) ac (zqt 5 rfl (ymv rfl) ac (rh_if (fun c1 => ?_) (fun c1 => ?_))))))))))))
   ·refine qJ 6 rfl (ac) (qJ 7 rfl (ac) (qJ 8 rfl (ac) (qJ 9 rfl (ac) (qJ 10 rfl (ac) (zqt 11 rfl (ypT rfl rfl) ac (zqt 12 rfl (ymv rfl) ac (qJ 13 rfl (ac) (qJ 14 rfl (ac) (qJ 15 rfl (ac) (qJ 16 rfl (ac) (qJ 17 rfl (ac) (qJ 18 rfl (ac) (qJ 19 rfl (ac) ?_))))))))))))); refine qJ 20 rfl (ac) (zqt 21 rfl (ypT rfl rfl) ac (zqt 22 rfl (ymv rfl) ac (qJ 23 rfl (ac) (qJ 24 rfl (ac) (qJ 25 rfl (ac) (qJ 26 rfl (ac) (qJ 27 rfl (ac) (qJ 28 rfl (ac) (zqt 29 rfl (ypT rfl rfl) ac (zqt 30 rfl (ymv rfl) ac (qJ 31 rfl (ac) (qJ 32 rfl (ac) (qJ 33 rfl (ac) ?_))))))))))))); refine qJ 34 rfl (ac) (qJ 35 rfl (ac) (qJ 36 rfl (ac) (zqt 37 rfl (ypT rfl rfl) ac (zqt 38 rfl (ymv rfl) ac (qJ 39 rfl (ac) (qJ 40 rfl (ac) (qJ 41 rfl (ac) (qJ 42 rfl (ac) (qJ 43 rfl (ac) (qJ 44 rfl (ac) (zqt 45 rfl (ypT rfl rfl) ac (qE (run_true rfl ?_))))))))))))); refine run_reg rfl (zqa rfl (rEnd (run_inBlock (run_reg rfl (zqm rfl (zqd rfl rfl (zqa rfl (rEnd ?_)))))))); exact (ih (i + 1, 1) _ ⟨by dsimp only; omega, cj, .inr ⟨rfl, fun e => by have := (sm.1 e).2.2.1; omega⟩⟩ (by dsimp only; omega)).qb
   ·refine zqt 6 rfl (ymv rfl) ac (zqt 7 rfl (ymv rfl) ac (zqt 8 rfl (yis U34 ti3 rfl rfl (by omega)) ac (qT 9 rfl (fun _ h=>yldc U3 rfl rfl (rd_intT (mj _ h) af hx)) ac (zqt 10 rfl (ygt rfl rfl) ac (zqt 11 rfl (ypF rfl rfl) ac (zqt 12 rfl (ymv rfl) ac (rh_if (fun c2 => ?_) (fun c2 => ?_))))))))
    ·refine qJ 13 rfl (ac) (qJ 14 rfl (ac) (qJ 15 rfl (ac) (qJ 16 rfl (ac) (qJ 17 rfl (ac) (qJ 18 rfl (ac) (qJ 19 rfl (ac) (qJ 20 rfl (ac) (zqt 21 rfl (ypT rfl rfl) ac (zqt 22 rfl (ymv rfl) ac (qJ 23 rfl (ac) (qJ 24 rfl (ac) (qJ 25 rfl (ac) (qJ 26 rfl (ac) ?_))))))))))))); refine qJ 27 rfl (ac) (qJ 28 rfl (ac) (zqt 29 rfl (ypT rfl rfl) ac (zqt 30 rfl (ymv rfl) ac (qJ 31 rfl (ac) (qJ 32 rfl (ac) (qJ 33 rfl (ac) (qJ 34 rfl (ac) (qJ 35 rfl (ac) (qJ 36 rfl (ac) (zqt 37 rfl (ypT rfl rfl) ac (zqt 38 rfl (ymv rfl) ac (qJ 39 rfl (ac) (qJ 40 rfl (ac) ?_))))))))))))); refine qJ 41 rfl (ac) (qJ 42 rfl (ac) (qJ 43 rfl (ac) (qJ 44 rfl (ac) (zqt 45 rfl (ypT rfl rfl) ac (qE (run_true rfl (run_reg rfl (zqa rfl (rEnd (run_inBlock (run_reg rfl (zqm rfl (zqd rfl rfl ?_))))))))))))); refine zqa rfl (rEnd ?_); exact (ih (i + 1, 1) _ ⟨by dsimp only; omega, cj, .inr ⟨rfl, fun e => by have := (sm.1 e).2.2.1; omega⟩⟩ (by dsimp only; omega)).qb
    ·refine zqt 13 rfl (ymv rfl) ac (zqt 14 rfl (ymv rfl) ac (zqt 16 rfl (ymv rfl) ac (zqt 17 rfl (ymv rfl) ac (zqt 18 rfl (yis U34 ti3 rfl rfl (by omega)) ac (zqt 15 rfl (yslVt U34 ti3 rfl rfl (by omega)) ac (qT 19 rfl (fun _ h=>yldc U3 rfl rfl (rd_intT (mj _ h) af hx)) ac (zqo 20 [.tmp 51, .tmp 55] rfl cf33 rfl (has_ret (l := l.take i) (rd_takeI (mj _ ac) hi rfl lc) (by rw [List.length_take]; omega) x) ?_))))))); rintro _ w6 ⟨rfl, dI⟩; refine ⟨(by rw [dI]; exact ac), ?_⟩; have bM : Ext w5 w6 := by rw [dI]; exact ac
     refine zqt 21 rfl (ypF rfl rfl) ((by rw [dI]; exact ac)) ?_; refine zqt 22 rfl (ymv rfl) ((by rw [dI]; exact ac)) ?_; refine rh_if (fun c3 => ?_) (fun c3 => ?_)
     ·refine qJ 23 rfl ((by rw [dI]; exact ac)) ?_; refine qJ 24 rfl ((by rw [dI]; exact ac)) ?_; refine qJ 25 rfl ((by rw [dI]; exact ac)) ?_; refine qJ 26 rfl ((by rw [dI]; exact ac)) ?_; refine qJ 27 rfl ((by rw [dI]; exact ac)) ?_; refine qJ 28 rfl ((by rw [dI]; exact ac)) ?_; refine zqt 29 rfl (ypT rfl rfl) ((by rw [dI]; exact ac)) ?_; refine zqt 30 rfl (ymv rfl) ((by rw [dI]; exact ac)) ?_; refine qJ 31 rfl ((by rw [dI]; exact ac)) ?_; refine qJ 32 rfl ((by rw [dI]; exact ac)) ?_; refine qJ 33 rfl ((by rw [dI]; exact ac)) ?_; refine qJ 34 rfl ((by rw [dI]; exact ac)) ?_; refine qJ 35 rfl ((by rw [dI]; exact ac)) ?_; refine qJ 36 rfl ((by rw [dI]; exact ac)) ?_; refine zqt 37 rfl (ypT rfl rfl) ((by rw [dI]; exact ac)) ?_; refine zqt 38 rfl (ymv rfl) ((by rw [dI]; exact ac)) ?_; refine qJ 39 rfl ((by rw [dI]; exact ac)) ?_; refine qJ 40 rfl ((by rw [dI]; exact ac)) ?_; refine qJ 41 rfl ((by rw [dI]; exact ac)) ?_; refine qJ 42 rfl ((by rw [dI]; exact ac)) ?_; refine qJ 43 rfl ((by rw [dI]; exact ac)) ?_; refine qJ 44 rfl ((by rw [dI]; exact ac)) ?_; refine zqt 45 rfl (ypT rfl rfl) ((by rw [dI]; exact ac)) ?_; refine qE (run_true rfl (run_reg rfl (zqa rfl (rEnd (run_inBlock (run_reg rfl (zqm rfl (zqd rfl rfl (zqa rfl (rEnd ?_)))))))))); exact (ih (i + 1, 1) _ ⟨by dsimp only; omega, aF.trans bM, .inr ⟨rfl, fun e => (sm.1 e).2.1 c3⟩⟩ (by dsimp only; omega)).qb
     ·refine zqt 23 rfl (ymv rfl) ((by rw [dI]; exact ac)) ?_; refine zqt 24 rfl (ymv rfl) ((by rw [dI]; exact ac)) ?_; refine zqt 25 rfl (ymv rfl) ((by rw [dI]; exact ac)) ?_; refine zqt 26 rfl (yis U34 ti3 rfl rfl (by omega)) ((by rw [dI]; exact ac)) ?_; refine qT 27 rfl (fun _ h=>yldc U3 rfl rfl (rd_intT (mj _ h) af hx)) ((by rw [dI]; exact ac)) ?_; refine zqo 28 [.tmp 59, .tmp 63] rfl cf32 rfl (page_ret (l := P) ((EO.ext aF).ext bM) (by omega) x) ?_; rintro _ w7 ⟨rfl, fU⟩; refine ⟨(by rw [fU]; exact bM), ?_⟩; have aK : Ext w5 w7 := by rw [fU]; exact bM
      refine zqt 29 rfl (ypF rfl rfl) ((by rw [fU]; exact bM)) ?_; refine zqt 30 rfl (ymv rfl) ((by rw [fU]; exact bM)) ?_; refine rh_if (fun c4 => ?_) (fun c4 => ?_)
      ·refine qJ 31 rfl ((by rw [fU]; exact bM)) ?_; refine qJ 32 rfl ((by rw [fU]; exact bM)) ?_; refine qJ 33 rfl ((by rw [fU]; exact bM)) ?_; refine qJ 34 rfl ((by rw [fU]; exact bM)) ?_; refine qJ 35 rfl ((by rw [fU]; exact bM)) ?_; refine qJ 36 rfl ((by rw [fU]; exact bM)) ?_; refine zqt 37 rfl (ypT rfl rfl) ((by rw [fU]; exact bM)) ?_; refine zqt 38 rfl (ymv rfl) ((by rw [fU]; exact bM)) ?_; refine qJ 39 rfl ((by rw [fU]; exact bM)) ?_; refine qJ 40 rfl ((by rw [fU]; exact bM)) ?_; refine qJ 41 rfl ((by rw [fU]; exact bM)) ?_; refine qJ 42 rfl ((by rw [fU]; exact bM)) ?_; refine qJ 43 rfl ((by rw [fU]; exact bM)) ?_; refine qJ 44 rfl ((by rw [fU]; exact bM)) ?_; refine zqt 45 rfl (ypT rfl rfl) ((by rw [fU]; exact bM)) ?_; refine qE (run_true rfl (run_reg rfl (zqa rfl (rEnd (run_inBlock (run_reg rfl (zqm rfl (zqd rfl rfl (zqa rfl (rEnd ?_)))))))))); exact (ih (i + 1, 1) _ ⟨by dsimp only; omega, aF.trans aK, .inr ⟨rfl, fun e => (At x).1 c4 (sm.1 e).2.2.2.1⟩⟩ (by dsimp only; omega)).qb
      ·refine zqt 31 rfl (ymv rfl) ((by rw [fU]; exact bM)) ?_; refine zqt 32 rfl (ymv rfl) ((by rw [fU]; exact bM)) ?_; refine zqt 33 rfl (ymv rfl) ((by rw [fU]; exact bM)) ?_; refine zqt 34 rfl (yis U34 ti3 rfl rfl (by omega)) ((by rw [fU]; exact bM)) ?_; refine qT 35 rfl (fun _ h=>yldc U3 rfl rfl (rd_intT (mj _ h) af hx)) ((by rw [fU]; exact bM)) ?_; refine zqo 36 [.tmp 67, .tmp 71] rfl cf33 rfl (has_ret (l := X.T.given) ((sk.ext aF).ext aK) (by omega) x) ?_; rintro _ w8 ⟨rfl, k6⟩; refine ⟨(by rw [k6]; exact aK), ?_⟩; have fL : Ext w5 w8 := by rw [k6]; exact aK
       refine zqt 37 rfl (ypF rfl rfl) ((by rw [k6]; exact aK)) ?_; refine zqt 38 rfl (ymv rfl) ((by rw [k6]; exact aK)) ?_; refine rh_if (fun c5 => ?_) (fun c5 => ?_)
       ·refine qJ 39 rfl ((by rw [k6]; exact aK)) ?_; refine qJ 40 rfl ((by rw [k6]; exact aK)) ?_; refine qJ 41 rfl ((by rw [k6]; exact aK)) ?_; refine qJ 42 rfl ((by rw [k6]; exact aK)) ?_; refine qJ 43 rfl ((by rw [k6]; exact aK)) ?_; refine qJ 44 rfl ((by rw [k6]; exact aK)) ?_; refine zqt 45 rfl (ypT rfl rfl) ((by rw [k6]; exact aK)) ?_; refine qE (run_true rfl (run_reg rfl (zqa rfl (rEnd (run_inBlock (run_reg rfl (zqm rfl (zqd rfl rfl (zqa rfl (rEnd ?_)))))))))); exact (ih (i + 1, 1) _ ⟨by dsimp only; omega, aF.trans fL, .inr ⟨rfl, fun e => (sm.1 e).2.2.2.2.2 c5⟩⟩ (by dsimp only; omega)).qb
       ·refine zqt 39 rfl (ymv rfl) ((by rw [k6]; exact aK)) ?_; refine zqt 40 rfl (ymv rfl) ((by rw [k6]; exact aK)) ?_; refine zqt 41 rfl (ymv rfl) ((by rw [k6]; exact aK)) ?_; refine zqt 42 rfl (yis U34 ti3 rfl rfl (by omega)) ((by rw [k6]; exact aK)) ?_; refine qT 43 rfl (fun _ h=>yldc U3 rfl rfl (rd_intT (mj _ h) af hx)) ((by rw [k6]; exact aK)) ?_; refine zqo 44 [.tmp 75, .tmp 79] rfl cf33 rfl (has_ret (l := fl) ((EP.ext aF).ext fL) (by omega) x) ?_; rintro _ w9 ⟨rfl, Di⟩; refine ⟨(by rw [Di]; exact fL), ?_⟩; have kX : Ext w5 w9 := by rw [Di]; exact fL
        refine zqt 45 rfl (ypF rfl rfl) ((by rw [Di]; exact fL)) ?_; refine qE (run_if rfl (fun c6 => ?_) (fun c6 => ?_))
        ·refine run_reg rfl (zqa rfl (rEnd (run_inBlock (run_reg rfl (zqm rfl (zqd rfl rfl (zqa rfl (rEnd ?_)))))))); exact (ih (i + 1, 1) _ ⟨by dsimp only; omega, aF.trans kX, .inr ⟨rfl, fun e => by have h1 := (sm.1 e).2.2.2.2.1; rw [((m4 x).1 c6).1] at h1; cases h1⟩⟩ (by dsimp only; omega)).qb
        ·have zP : X.T.nodes x = none := Decidable.byContradiction fun e => c4 ((At x).2 e)
         have HX : X.T.old x = false := by
          cases e : X.T.old x with
          | false => rfl
          | true => exact absurd ((m4 x).2 ⟨e, zP⟩) c6
         refine run_skip (run_inBlock (run_reg rfl (zqm rfl (zqd rfl rfl (zqa rfl (rEnd ((ih (i + 1, wt) _ ⟨by dsimp only; omega, aF.trans kX, ?_⟩ (by dsimp only; omega)).qb))))))); rcases qP with ⟨rfl, h1⟩ | ⟨rfl, h1⟩
         ·exact .inl ⟨rfl, sm.2 ⟨h1, c3, by omega, zP, HX, c5⟩⟩
         ·exact .inr ⟨rfl, fun e => h1 (sm.1 e).1⟩
  ·obtain rfl : i = l.length := by omega
   rw [List.take_length] at qP; have gY := dT.trans aF; have ER := hR.ext gY; have eU := i3.ext aF; have CZ := gY.size; have oo : ∀ g, F g → g < w.heap.size := fun g hg => hM.lt (.inr (.inr (.inr (.inr (.inr hg))))); clear ih ah EQ EO EP eI aV aJ fo cf ef ay aN i3 sk; refine run_exit rfl (qN rfl (rValP rfl rfl (pbs (parts := []) (cs := []) (zs := []) U34 ti3 rfl (by kernel_rfl) rfl rfl rfl (by decide)) ?_)); rintro _ w6 ⟨b6, rfl, ⟨sQ, bq, bT⟩, ft⟩; refine zqm rfl (rValP rfl rfl (pap U34 ti3 rfl (by decide) rfl rfl ft (ER.ext bq) (by intro c hc; obtain ⟨z, -, rfl⟩ := List.mem_map.1 hc; rfl) (by omega) (by omega)) ?_); rintro v7 w7 ⟨cP, aW, kV, -⟩
   have aK : Ext w5 w7 := bq.trans_new aW (fun i hi => by
    have : b6 = i := by simpa [Value.ownBlock] using hi
    omega)
   refine rValP rfl rfl (pbs (parts := [(0, .const (Value.int .i64 77))]) (cs := [_]) (zs := [Value.int .i64 0]) U34 ti3 rfl (by kernel_rfl) rfl rfl rfl (by decide)) ?_; rintro _ w8 ⟨b8, rfl, ⟨Ag, br, da⟩, db⟩; have fL := aK.trans br; refine rValP rfl rfl (pap U34 ti3 rfl (by decide) rfl rfl (cP.ext br) db.rd (by intro c hc; simp at hc; subst hc; rfl) (by omega) (by omega)) ?_; rintro v9 w9 ⟨bS, aH, cN, -⟩; have nh := bq.size; have kj := aK.size; have mA := br.size
   have sn : ∀ g, v7.ownBlock = some g → w5.heap.size ≤ g := fun g hg => by
    rcases kV g hg with e | e
    ·have : b6 = g := by simpa [Value.ownBlock] using e
     omega
    ·omega
   have kX : Ext w5 w9 := fL.trans_new aH (fun i hi => sn i hi)
   have oY : Sl w9 v9 3 1 (l.length + 1) ((l ++ [77]).map I) := by
    have e : 0 + l.length + 1 = l.length + 1 := by omega
    rw [e] at bS; rw [List.map_append]; exact bS
   clear ft cP db bS
   obtain ⟨g9, c9, rfl, IP⟩ : ∃ g c, v9 = .slice (some ⟨g, 0, none⟩) (l.length + 1) c ∧ l.length + 1 ≤ c := by
    rcases oY.shape with ⟨-, e⟩ | h
    ·omega
    ·exact h
   have HY : w5.heap.size ≤ g9 := by
    rcases cN g9 rfl with e | e
    ·exact sn g9 e
    ·omega
   refine zqa rfl (rEnd (run_seq ?_)); have pf := eU.ext kX; have dg := pf.blk; have zh := gY.trans kX; have HZ := ER.ext kX; have eh := Ext.drew0 w9; have zi : (l ++ [77]).length = l.length + 1 := by simp
   have I0 : Rd w9.drew (.slice (some ⟨g9, 0, none⟩) l.length c9) 1 l.length (l.map I) := by
    have h := rd_takeI (i := l.length) (l := l ++ [77]) (oY.rd.ext eh) (by omega) zi.symm c9; rw [List.take_left' rfl] at h; exact h
   refine run_draw (fun w' => Kp F w9 w') (by kernel_rfl) rfl (zqt 0 rfl (ymv rfl) (eh.kp) (zqt 1 rfl (ynk rfl) (eh.kp) (zqt 2 rfl (yfa fl36_1 rfl) (eh.kp) (qT 3 rfl (fun _ h=>yld U24 rfl rfl (h.blk dg pf.fq) rfl) (eh.kp) (zqt 4 rfl (ymv rfl) (eh.kp) (zqt 5 rfl (ymv rfl) (eh.kp) (zqt 6 rfl (yln U34 rfl) (eh.kp) (zqt 7 rfl (yslVt U34 ti3 rfl rfl (by omega)) (eh.kp) (zqo 8 [.tmp 90, .tmp 94] rfl cf50 rfl (give_ret (pf.ext eh).tree hI I0 hl) ?_))))))))); rintro v10 w10 uF; refine ⟨(by rcases uF with ⟨-, -, h, -⟩ | ⟨-, -, h⟩; exact eh.kp.trans h; exact eh.kp.trans h.kp), ?_⟩; have jL : Kp F w9 w10 := by rcases uF with ⟨-, -, h, -⟩ | ⟨-, -, h⟩; exact eh.kp.trans h; exact eh.kp.trans h.kp
   have pJ := kX.size; have il := jL.size
   have jM := oY.kp jL (fun g hg e => by
    have e1 : g9 = g := by simpa [Value.ownBlock] using hg
    have := oo g e
    omega)
   have zj : Rd w10 (.slice la l.length lc) 1 l.length (l.map I) := Rd.kpz HZ jL (fun h0 g hg e => hd h0 g hg (.inr (.inr (.inr (.inr (.inr e)))))); rcases uF with ⟨rfl, bi, aA, F10, Dj, Dk⟩ | ⟨rfl, cw, fM⟩
   ·obtain rfl : wt = 0 := by
     rcases qP with ⟨h, -⟩ | ⟨-, h⟩
     ·exact h
     ·exact absurd bi h
    have sj := (pf.ext eh).treed Dj rfl aA Dk; obtain ⟨eG, p7, zl⟩ := sj; have bG := eG.blk; have zm : Kp (fpS q m mv sv gv F) w w10 := zh.kp.trans (eh.kp.trans p7); have pB := nodup_le bi.1 (fun x hx => (bi.2 x hx).1); have I1 := eh.size; refine zqt 9 rfl (yas rfl) jL (qE (Run.qb (e := [(0, _), (1, _), (6, _), (8, _), (10, _), (11, _)]) ?_)); refine run_seq (qN rfl (zqm rfl (qV (yeq rfl rfl) (rEnd (run_if rfl (fun ix => ?_) (fun ix => ?_))))))
    ·refine run_reg rfl (zqm rfl (zqm rfl (qV (ynk rfl) (qV (yfa fl36_4 rfl) (qV (yld U34 rfl rfl bG rfl) (zqm rfl (rValP rfl rfl (pap U34 ti3 rfl (by decide) rfl rfl eG.giv zj (by intro c hc; obtain ⟨z, -, rfl⟩ := List.mem_map.1 hc; rfl) (by dsimp only; omega) (by dsimp only; omega)) ?_))))))); rintro gv11 w11 ⟨ml, gq, uG, -⟩; have oN := gq.blk bG (fun e => (eG.ov q (.inr (.inr e))).1 rfl); refine qV (ynk rfl) (qV (yfa fl36_4 rfl) (rEffP rfl (zst ti34 rfl rfl (oneV_sl ml) oN (by simp)) ?_)); rintro w12 ⟨gp, eX⟩; replace gp : Blk w12 q [I (X.T.size : Int), ptr p 0, ptr m 0, sv, gv11, I (X.nx : Int)] 36 := gp; have D6 := eG.gave (gs' := X.gs ++ l) (gv' := gv11) (by rw [List.length_append, List.map_append]; exact ml) gq uG gp eX; obtain ⟨qH, gr, Dl⟩ := D6; have zn := hG.give bi; have sq : Kp (fpS q m mv sv gv F) w w12 := zm.trans_new gr (fun i hi => (zl i hi).elim .inr (fun e => .inl (by omega))); obtain ⟨A, hA⟩ : ∃ A, sortZ (X.T.given ++ l) = A := ⟨_, rfl⟩; have IQ : A.length = X.T.given.length + l.length := by rw [← hA, sortZ_len, List.length_append]
     have I2 : ∀ x ∈ l, x ∈ A := fun x hx => by rw [← hA, sortZ_mem]; exact List.mem_append_right _ hx
     have zp : A.length ≤ 2147483647 := by rw [← hA]; exact zn.inv.gl
     have ES := gp
     have zq : Sl w12 (.slice (some ⟨g9, 0, none⟩) (l.length + 1) c9) 3 1 (l.length + 1) ((l ++ [77]).map I) := (jM.kp gq (fun g hg e => by
      have e1 : g9 = g := by simpa [Value.ownBlock] using hg
      have := hM.lt (.inr (.inr (.inr (.inr (.inl e)))))
      omega)).kp eX (fun g hg e => by
      have e1 : g9 = g := by simpa [Value.ownBlock] using hg
      have := hM.blk.lt
      omega)
     have Dm : Rd w12 (.slice la l.length lc) 1 l.length (l.map I) := Rd.kpz hR sq hd; refine qM rfl (zqm rfl (qV (ynk rfl) (qV (yfa fl36_1 rfl) (qV (yld U24 rfl rfl gp rfl) (zqc [.tmp 110] cf27 rfl (given_ret qH.tree (by rw [← hA] at zp; exact Nat.le_trans zp (by decide))) ?_))))); rintro v13 w13 ⟨gw, au, -⟩; replace gw : Sl w13 v13 3 1 A.length (A.map I) := by rw [← hA]; exact gw
     obtain ⟨ga, gc, rfl⟩ := some_ofE gw; have bQ := zq.rd.ext au; have uH := Dm.ext au; have km := Sl.rd gw; have oZ := qH.ext au; clear oY jM ml zq gw; refine zqa rfl (rEnd (run_seq (qN rfl (zqm rfl (qV (yeq rfl rfl) (rTrue (by (first | rfl | assumption | omega | decide)) ?_)))))); refine zqm rfl (zqm rfl (qV (yln U34 rfl) (zqm rfl (qV (yln U34 rfl) (zqm rfl (qV (yln U34 rfl) (zqd rfl rfl (qV (yne rfl rfl) (rFalse (by (first | exact fun h => h rfl | assumption | omega)) ?_))))))))); refine qV (ypT rfl rfl) (zqm rfl (zqm rfl (qV (yne rfl rfl) (rFalse (by (first | exact fun h => h rfl | assumption | omega)) ?_)))); refine zqm rfl (qS (qS (qS (qS (qS (qV (ypF rfl rfl) (qV (ypF rfl rfl) (zqm rfl (zqm rfl (zqm rfl (qV (yln U34 rfl) (qV (yis U34 ti3 rfl rfl (by omega)) (qV (yldc U3 rfl rfl (rd_intT bQ (by omega) (show (l ++ [77])[l.length]? = some 77 by simp))) ?_))))))))))))); refine qV (yne rfl rfl) (rFalse (by (first | exact fun h => h rfl | assumption | omega)) ?_); refine qV (ypF rfl rfl) (rEnd (Run.qb (e := [(1, _), (8, _), (10, _), (11, _), (12, _), (142, _)]) ?_)); refine run_false rfl (run_skip (run_seq (qN rfl (zqa rfl (rEnd (run_block (zqu (α := Nat) (0) (fun i => [(1, .slice la l.length lc), (8, I 0), (10, .slice (some ⟨g9, 0, none⟩) (l.length + 1) c9), (11, I 0), (12, .slice ga A.length gc), (13, I (i : Int))]) (fun i w' => i ≤ l.length ∧ Ext w13 w') (fun i => l.length - i) ?hI ?hround)))))))
     case hI => exact ⟨Nat.zero_le _, Ext.refl _⟩
     case hround =>
      rintro i w14 ⟨hi, ar⟩ ih
      try dsimp only
      refine run_seq (qN rfl (zqm rfl (zqm rfl (qV (yln U34 rfl) (qV (ylt rfl rfl) (rEnd (run_if rfl (fun ah => ?_) (fun ah => ?_))))))))
      ·have af : i < l.length := by omega
       obtain ⟨lb, lo, x, rfl, hx⟩ := rd_getI hR af; have aG := Ext.drew0 w14; have mj : ∀ w', Ext w14 w' → Rd w' (.slice (some ⟨lb, lo, none⟩) l.length lc) 1 l.length (l.map I) := fun w' k => (uH.ext ar).ext k; have xF : ∀ w', Ext w14 w' → Rd w' (.slice (some ⟨g9, 0, none⟩) (l.length + 1) c9) 1 (l.length + 1) ((l ++ [77]).map I) := fun w' k => (bQ.ext ar).ext k; have uI : (l ++ [77])[i]? = some x := by rw [List.getElem?_append_left af]; exact hx
       refine run_skip (run_seq (run_block (run_seq (run_draw (fun w' => Ext w14 w') (by kernel_rfl) rfl (zqt 0 rfl (ymv rfl) aG (zqt 1 rfl (yeq rfl rfl) aG (hTrue (by (first | rfl | assumption | omega | decide)) ?_))))))); refine zqt 2 rfl (ymv rfl) aG (zqt 4 rfl (ymv rfl) aG (zqt 5 rfl (ymv rfl) aG (zqt 6 rfl (yis U34 ti3 rfl rfl (by omega)) aG (zqt 3 rfl (ymv rfl) aG (qT 7 rfl (fun _ h=>yldc U3 rfl rfl (rd_intT (mj _ h) af hx)) aG (zqo 8 [.tmp 152, .tmp 156] rfl cf33 rfl (has_ret (l := A) (km.ext (ar.trans aG)) (by omega) x) ?_)))))); rintro _ w15 ⟨rfl, dW⟩; refine ⟨(by rw [dW]; exact aG), ?_⟩; have bZ : Ext w14 w15 := by rw [dW]; exact aG
       refine zqt 9 rfl ((by first | exact yntd rfl | exact ynt rfl)) ((by rw [dW]; exact aG)) ?_; refine zqt 10 rfl (ypT rfl rfl) ((by rw [dW]; exact aG)) ?_; refine zqt 11 rfl (ymv rfl) ((by rw [dW]; exact aG)) ?_; refine rh_if (fun c7 => ?_) (fun c7 => ?_)
       ·exact absurd (I2 x (List.mem_of_getElem? hx)) c7
       ·refine zqt 12 rfl (ymv rfl) ((by rw [dW]; exact aG)) ?_; refine zqt 13 rfl (ymv rfl) ((by rw [dW]; exact aG)) ?_; refine zqt 14 rfl (yis U34 ti3 rfl rfl (by omega)) ((by rw [dW]; exact aG)) ?_; refine zqt 16 rfl (ymv rfl) ((by rw [dW]; exact aG)) ?_; refine zqt 17 rfl (ymv rfl) ((by rw [dW]; exact aG)) ?_; refine zqt 18 rfl (yis U34 ti3 rfl rfl (by omega)) ((by rw [dW]; exact aG)) ?_; refine qT 15 rfl (fun _ h=>yldc U3 rfl rfl (rd_intT (xF _ h) (by omega) uI)) ((by rw [dW]; exact aG)) ?_; refine qT 19 rfl (fun _ h=>yldc U3 rfl rfl (rd_intT (mj _ h) af hx)) ((by rw [dW]; exact aG)) ?_; refine zqt 20 rfl (yne rfl rfl) ((by rw [dW]; exact aG)) ?_; refine hFalse (by (first | exact fun h => h rfl | assumption | omega)) ?_; refine zqt 21 rfl (ypF rfl rfl) ((by rw [dW]; exact aG)) ?_; refine qE (run_false rfl (run_skip (run_inBlock (run_reg rfl (zqm rfl (zqd rfl rfl (zqa rfl (rEnd ?_)))))))); exact (ih (i + 1) _ ⟨by omega, ar.trans bZ⟩ (by omega)).qb
      ·refine run_exit rfl (qN rfl (zqm rfl (zqm rfl (qV (yeq rfl rfl) (zqa rfl (rEnd (run_ret Tryz.func57 rfl (⟨_, rfl, by simp [resVal], _, gv11, F10, oZ.ext ar, zn, rfl, rfl, ?_, ?_⟩))))))))
       ·exact sq.trans (au.trans ar).kp
       ·intro k hk; rcases Dl k hk with e | e
        ·exact (zl k e).imp id (fun e => by omega)
        ·exact .inr (by omega)
    ·exact absurd rfl ix
   ·obtain rfl : wt = 1 := by
     rcases qP with ⟨-, h⟩ | ⟨h, -⟩
     ·exact absurd h cw
     ·exact h
    have eG := (pf.ext eh).ext fM; have bG := eG.blk; have oL : Ext w w10 := zh.trans (eh.trans fM); refine zqt 9 rfl (yas rfl) jL (qE (Run.qb (e := [(0, _), (1, _), (6, _), (8, _), (10, _), (11, _)]) ?_)); refine run_seq (qN rfl (zqm rfl (qV (yeq rfl rfl) (rEnd (run_if rfl (fun ix => ?_) (fun ix => ?_))))))
    ·exact absurd ix (by decide)
    ·refine run_skip (qN rfl (zqm rfl (qV (ynk rfl) (qV (yfa fl36_1 rfl) (qV (yld U24 rfl rfl bG rfl) (zqc [.tmp 110] cf27 rfl (given_ret eG.tree (by omega)) ?_)))))); rintro v13 w13 ⟨gw, au, -⟩; obtain ⟨ga, gc, rfl⟩ := some_ofE gw; obtain ⟨A, hA⟩ : ∃ A, X.T.given = A := ⟨_, rfl⟩; rw [hA] at *; have bQ := jM.rd.ext au; have uH := zj.ext au; have oZ := eG.ext au; clear oY jM gw; refine zqa rfl (rEnd (run_seq (qN rfl (zqm rfl (qV (yeq rfl rfl) (rFalse (by (first | exact fun h => h rfl | assumption | omega)) ?_)))))); refine zqm rfl (qS (qS (qS (qS (qS (qS (qS (qS (qV (ypF rfl rfl) (zqm rfl (zqm rfl (qV (yne rfl rfl) (rTrue (by (first | rfl | assumption | omega | decide)) ?_))))))))))))); refine zqm rfl (zqm rfl (qV (yln U34 rfl) (zqm rfl (qV (yln U34 rfl) (qV (yne rfl rfl) (rFalse (by (first | exact fun h => h rfl | assumption | omega)) ?_)))))); refine qV (ypT rfl rfl) (qV (ypF rfl rfl) (zqm rfl (zqm rfl (zqm rfl (qV (yln U34 rfl) (qV (yis U34 ti3 rfl rfl (by omega)) (qV (yldc U3 rfl rfl (rd_intT bQ (by omega) (show (l ++ [77])[l.length]? = some 77 by simp))) ?_))))))); refine qV (yne rfl rfl) (rFalse (by (first | exact fun h => h rfl | assumption | omega)) ?_); refine qV (ypF rfl rfl) (rEnd (Run.qb (e := [(1, _), (8, _), (10, _), (11, _), (12, _), (142, _)]) ?_)); refine run_false rfl (run_skip (run_seq (qN rfl (zqa rfl (rEnd (run_block (zqu (α := Nat) (0) (fun i => [(1, .slice la l.length lc), (8, I 1), (10, .slice (some ⟨g9, 0, none⟩) (l.length + 1) c9), (11, I 1), (12, .slice ga A.length gc), (13, I (i : Int))]) (fun i w' => i ≤ l.length ∧ Ext w13 w') (fun i => l.length - i) ?hI ?hround)))))))
     case hI => exact ⟨Nat.zero_le _, Ext.refl _⟩
     case hround =>
      rintro i w14 ⟨hi, ar⟩ ih
      try dsimp only
      refine run_seq (qN rfl (zqm rfl (zqm rfl (qV (yln U34 rfl) (qV (ylt rfl rfl) (rEnd (run_if rfl (fun ah => ?_) (fun ah => ?_))))))))
      ·have af : i < l.length := by omega
       obtain ⟨lb, lo, x, rfl, hx⟩ := rd_getI hR af; have aG := Ext.drew0 w14; have mj : ∀ w', Ext w14 w' → Rd w' (.slice (some ⟨lb, lo, none⟩) l.length lc) 1 l.length (l.map I) := fun w' k => (uH.ext ar).ext k; have xF : ∀ w', Ext w14 w' → Rd w' (.slice (some ⟨g9, 0, none⟩) (l.length + 1) c9) 1 (l.length + 1) ((l ++ [77]).map I) := fun w' k => (bQ.ext ar).ext k; have uI : (l ++ [77])[i]? = some x := by rw [List.getElem?_append_left af]; exact hx
       refine run_skip (run_seq (run_block (run_seq (run_draw (fun w' => Ext w14 w') (by kernel_rfl) rfl (zqt 0 rfl (ymv rfl) aG (zqt 1 rfl (yeq rfl rfl) aG (hFalse (by (first | exact fun h => h rfl | assumption | omega)) ?_))))))); refine zqt 2 rfl (ymv rfl) aG (qJ 4 rfl (aG) (qJ 5 rfl (aG) (qJ 6 rfl (aG) (qJ 7 rfl (aG) (qJ 3 rfl (aG) (qJ 8 rfl (aG) (qJ 9 rfl (aG) (zqt 10 rfl (ypF rfl rfl) aG (zqt 11 rfl (ymv rfl) aG (zqt 12 rfl (ymv rfl) aG (zqt 13 rfl (ymv rfl) aG (zqt 14 rfl (yis U34 ti3 rfl rfl (by omega)) aG (zqt 16 rfl (ymv rfl) aG ?_))))))))))))); refine zqt 17 rfl (ymv rfl) aG (zqt 18 rfl (yis U34 ti3 rfl rfl (by omega)) aG (qT 15 rfl (fun _ h=>yldc U3 rfl rfl (rd_intT (xF _ h) (by omega) uI)) aG (qT 19 rfl (fun _ h=>yldc U3 rfl rfl (rd_intT (mj _ h) af hx)) aG (zqt 20 rfl (yne rfl rfl) aG (hFalse (by (first | exact fun h => h rfl | assumption | omega)) ?_))))); refine zqt 21 rfl (ypF rfl rfl) aG (qE (run_false rfl (run_skip (run_inBlock (run_reg rfl (zqm rfl (zqd rfl rfl (zqa rfl (rEnd ?_))))))))); exact (ih (i + 1) _ ⟨by omega, ar.trans aG⟩ (by omega)).qb
      ·refine run_exit rfl (qN rfl (zqm rfl (zqm rfl (qV (yeq rfl rfl) (zqa rfl (rEnd (run_ret Tryz.func57 rfl (⟨_, rfl, by simp [resVal], X, gv, F, oZ.ext ar, hG.mono (Nat.le_succ k), rfl, rfl, (oL.trans (au.trans ar)).kp, fun k hk => .inl hk⟩))))))))
end
theorem pgs_no {z : Nat} {N : Nodes} {ns : List Int} : (pgs z N ns fun _ => false) = [] := by simp [pgs]
theorem PgSl.no {w : World} {v : Value} {z : Nat} {N : Nodes} {ns : List Int} (h : PgSl w v (pgs z N ns fun _ => false)) : ∃ a c, v = .slice a 0 c := by
 rw [pgs_no] at h; exact some_ofE h
section
variable {w : World} {q : Nat} {X : Sx} {p m : Nat} {mv sv gv : Value} {nb : Int → Nat} {F : Nat → Prop} {k : Nat}
set_option maxHeartbeats 8000000 in
theorem loadS_ret (hM : StM w q X p m mv sv gv nb F) (hG : Gh X k) (hz : sizeOk (X.T.size : Int)) (hk : k ≤ 1000) :
  Ret Tryz.prog 59 [ptr q 0] w fun v w' => v = .bool true ∧ ∃ X' p' sv' nb' F', StM w' q X' p' m mv sv' (.slice none 0 0) nb' F' ∧ Gh X' k ∧ X'.T.size = X.T.size ∧ X'.es = X.es ∧ Kp (fpS q m mv sv gv F) w w' ∧ ∀ k, fpS q m mv sv' (.slice none 0 0) F' k → fpS q m mv sv gv F k ∨ w.heap.size ≤ k := by
 have hI := hG.inv
 have vk := Inv.cnts hz hI
 have fi := hG.el
 have eP : maxLen = 9223372036854775807 := rfl
 have bj := hI.nodup
 have Dn := hM.tree.kids32
 have hO := ownP_pgs (T := X.T) bj
 obtain ⟨l, hl⟩ : ∃ l, (pgs X.T.size X.T.nodes X.ns fun _ => true) = l := ⟨_, rfl⟩
 rw [hl] at hO
 have oq : l.length = X.ns.length := hO.len
 have hB := hM.blk
 refine ret_of_run (e := [(0, _)]) Tryz.func59 rfl Tryz.ntmps59 rfl rfl (qN rfl (zqa rfl (qM rfl (zqm rfl (qV (ynk rfl) (qV (yfa fl36_1 rfl) (qV (yld U24 rfl rfl hB rfl) (zqc [.tmp 12] cf22 rfl (pages_ret hM.tree hI (by omega)) ?_))))))))
 rintro v1 w1 ⟨aa, eI, dK⟩
 rw [hl] at eI
 obtain ⟨va, vc, rfl⟩ := some_ofE eI
 refine zqa rfl (rEnd (run_seq (qN rfl (zqm rfl (qV (yln U52 rfl) (qV (ysb rfl rfl (by omega)) (zqa rfl (zqa rfl (rEnd (run_block (run_cut2 (fun e' w' => e' = [(0, ptr q 0), (3, .slice va l.length vc)] ∧ Ext w w' ∧ Rd w' (.slice va l.length vc) 2 l.reverse.length (pgC l.reverse)) ?zr (fun zr => ?Dq))))))))))))
 case zr =>
  rintro e' w2 ⟨rfl, ad, ln⟩; have cf := hM.ext ad; have ay := cf.blk; have a8 := Ext.drew0 w2; have uJ := hO.rev; have o7 : l.reverse.length = l.length := List.length_reverse; have zt := uJ.ok hI hz Dn; have yP := uJ.nums hI hz; have hN := uJ.nodes hI hz Dn; have ET := hG.load hz uJ Dn; have Do := ET.inv; refine run_seq (run_draw (fun w' => Ext w2 w') (by kernel_rfl) rfl (zqt 0 rfl (ymv rfl) a8 (zqt 1 rfl (ynk rfl) a8 (zqt 2 rfl (yfa fl36_0 rfl) a8 (qT 3 rfl (fun _ h=>yld U3 rfl rfl (h.blk ay) rfl) a8 (zqt 4 rfl (ymv rfl) a8 (zqt 5 rfl (ynk rfl) a8 (zqt 6 rfl (yfa fl36_1 rfl) a8 (qT 7 rfl (fun _ h=>yld U24 rfl rfl (h.blk ay) rfl) a8 (zqt 9 rfl (ymv rfl) a8 (zqo 8 [.tmp 47] rfl cf21 rfl (rootT_ret (cf.tree.ext a8)) ?_))))))))))); rintro _ w3 ⟨rfl, i9⟩; refine ⟨(by rw [i9]; exact a8), ?_⟩; have ai : Ext w2 w3 := by rw [i9]; exact a8
  refine zqo 10 [.tmp 43, .tmp 48, .tmp 49] rfl cf17 rfl (load_ret (X.T.size : Int) X.T.root (l := l.reverse) (ln.ext ai) (by omega) (uJ.short hI hz)) ?_; rintro v4 w4 ⟨aX, D2⟩; refine ⟨ai.trans aX, ?_⟩; have dH := ad.size; have jS := ai.size
  obtain ⟨pn, nbn, Fn, rfl, vu, sh⟩ : ∃ p nb F, v4 = .tuple #[ptr p 0, I 0] ∧ TreeA w4 p (TrL X.T.size X.T.root l.reverse X.es.length) nb F ∧ ∀ k, F k → w.heap.size ≤ k := by
   rcases D2 with ⟨h, -⟩ | ⟨-, h, -⟩ | ⟨-, H', ns', es', p', nb', F', h1, h2, h3, h4⟩
   ·exact absurd yP h
   ·exact absurd zt (h X.H X.ns X.es)
   ·obtain ⟨rfl, rfl, rfl⟩ := zt.det hz h1; exact ⟨p', nb', F', h2, h3, fun k hk => by have := h4 k hk; omega⟩
  have jK := ai.trans aX; have dT := ad.trans jK; have i3 := hM.ext dT; have bs := i3.blk; have aE := Ext.drew0 w4; refine zqt 11 rfl (ymv rfl) (ai.trans aX) (zqt 12 rfl (yex rfl rfl) (ai.trans aX) (zqt 13 rfl (yex rfl rfl) (ai.trans aX) (zqt 14 rfl (yas rfl) (ai.trans aX) (zqt 15 rfl (yas rfl) (ai.trans aX) (qE (run_seq (run_seq (run_draw (fun w' => Ext w4 w') (by kernel_rfl) rfl (zqt 0 rfl (ymv rfl) aE (zqt 1 rfl (yne rfl rfl) aE (hFalse (by (first | exact fun h => h rfl | assumption | omega)) ?_))))))))))); refine zqt 2 rfl (ymv rfl) aE (zqt 3 rfl (ymv rfl) aE (zqo 4 [.tmp 56] rfl cf31 rfl (changed_ret (vu.ext aE) Do (by have : (X.load l.reverse).ns = X.ns := rfl; rw [this]; omega)) ?_)); rintro v5 w5 ⟨aF, bU, -⟩; refine ⟨aE.trans aF, ?_⟩; have cj := aE.trans aF; obtain ⟨ca, cc, rfl⟩ := PgSl.no bU; refine zqt 5 rfl (yln U52 rfl) (aE.trans aF) (zqt 6 rfl (yne rfl rfl) (aE.trans aF) (hFalse (by (first | exact fun h => h rfl | assumption | omega)) ?_)); refine zqt 7 rfl (ypF rfl rfl) (aE.trans aF) (zqt 8 rfl (ymv rfl) (aE.trans aF) (zqt 9 rfl (ymv rfl) (aE.trans aF) (zqo 10 [.tmp 62] rfl cf28 rfl (freed_ret (vu.ext cj) (os := X.ns) (fun x hx => (uJ.mem x).1 (of_decide_eq_true hx)) (by omega)) ?_))); rintro v6 w6 ⟨bq, fl, -, m4, -, ft, -⟩; refine ⟨cj.trans bq, ?_⟩; have fN := cj.trans bq
  obtain rfl : fl = [] := List.eq_nil_iff_forall_not_mem.2 fun x hx => by
   obtain ⟨h1, h2⟩ := (m4 x).1 hx; exact (hI.mem x).2 ((uJ.mem x).1 (of_decide_eq_true h1)) ((congrFun hN x).symm.trans h2)
  obtain ⟨fa, fc, rfl⟩ := some_ofE ft; refine zqt 11 rfl (yln U34 rfl) (cj.trans bq) (zqt 12 rfl (yne rfl rfl) (cj.trans bq) (hFalse (by (first | exact fun h => h rfl | assumption | omega)) ?_)); refine zqt 13 rfl (ypF rfl rfl) (cj.trans bq) (zqt 14 rfl (ymv rfl) (cj.trans bq) (zqt 15 rfl (ymv rfl) (cj.trans bq) (zqo 16 [.tmp 68] rfl cf27 rfl (given_ret (vu.ext fN) (by show (0 : Nat) ≤ _; omega)) ?_))); rintro v7 w7 ⟨cP, aR, -⟩; refine ⟨fN.trans aR, ?_⟩; have cR := fN.trans aR; obtain ⟨ga, gc, rfl⟩ := some_ofE cP; have tO : (TrL X.T.size X.T.root l.reverse X.es.length).given.length = 0 := rfl; rw [tO]; refine zqt 17 rfl (yln U34 rfl) (fN.trans aR) (zqt 18 rfl (yne rfl rfl) (fN.trans aR) (hFalse (by (first | exact fun h => h rfl | assumption | omega)) ?_)); refine zqt 19 rfl (ypF rfl rfl) (fN.trans aR) (zqt 20 rfl (ymv rfl) (fN.trans aR) (zqt 21 rfl (ymv rfl) (fN.trans aR) (zqt 23 rfl (ymv rfl) (fN.trans aR) (zqt 24 rfl (ynk rfl) (fN.trans aR) (zqt 25 rfl (yfa fl36_1 rfl) (fN.trans aR) (qT 26 rfl (fun _ h=>yld U24 rfl rfl (h.blk bs) rfl) (fN.trans aR) (zqo 22 [.tmp 74] rfl cf20 rfl (depth_ret (vu.ext cR) Do (by have : (X.load l.reverse).H = X.H := rfl; rw [this]; omega)) ?_))))))); rintro _ w7 ⟨rfl, rfl⟩; refine ⟨cR, ?_⟩; refine zqo 27 [.tmp 79] rfl cf20 rfl (depth_ret (i3.ext cR).tree hI (by omega)) ?_; rintro _ w7 ⟨rfl, rfl⟩; refine ⟨cR, ?_⟩; rw [show (X.load l.reverse).H = X.H from rfl]; refine zqt 28 rfl (yne rfl rfl) cR (hFalse (by (first | exact fun h => h rfl | assumption | omega)) ?_); refine zqt 29 rfl (ypF rfl rfl) cR (zqt 30 rfl (ymv rfl) cR (zqt 31 rfl (ymv rfl) cR (zqt 33 rfl (ymv rfl) cR (zqt 34 rfl (ynk rfl) cR (zqt 35 rfl (yfa fl36_1 rfl) cR (qT 36 rfl (fun _ h=>yld U24 rfl rfl (h.blk bs) rfl) cR (zqo 32 [.tmp 84] rfl cf21 rfl (rootT_ret (vu.ext cR)) ?_))))))); rintro _ w7 ⟨rfl, rfl⟩; refine ⟨cR, ?_⟩; refine zqo 37 [.tmp 89] rfl cf21 rfl (rootT_ret (i3.ext cR).tree) ?_; rintro _ w7 ⟨rfl, rfl⟩; refine ⟨cR, ?_⟩; rw [show (TrL X.T.size X.T.root l.reverse X.es.length).root = X.T.root from rfl]; refine zqt 38 rfl (yne rfl rfl) cR (hFalse (by (first | exact fun h => h rfl | assumption | omega)) ?_); refine zqt 39 rfl (ypF rfl rfl) cR (qE (Run.qb (e := [(0, _), (7, _), (92, _)]) ?_)); refine run_false rfl (run_skip (qN rfl (zqm rfl (zqm rfl (qV (ynk rfl) (qV (yfa fl36_1 rfl) ?_)))))); have oK := dT.trans cR; have eK := hM.ext oK; have dy := eK.blk; have zu := vu.ext cR; have I3 := hM.blk.lt; have I4 := oK.size; refine rEffP rfl (zst ti24 rfl rfl rfl dy (by simp)) ?_; rintro w9 ⟨dg, aH⟩; replace dg : Blk w9 q [I (X.T.size : Int), ptr pn 0, ptr m 0, sv, gv, I (X.nx : Int)] 36 := dg; have zw := zu.kp aH (fun g hg e => by have := sh g hg; omega); refine qM rfl (zqm rfl (zqm rfl (zqc [.tmp 98] cf22 rfl (pages_ret zw Do (by have : (X.load l.reverse).ns = X.ns := rfl; rw [this]; omega)) ?_))); rintro v10 w10 ⟨fM, jM, -⟩
  have dl : pgs (TrL X.T.size X.T.root l.reverse X.es.length).size (TrL X.T.size X.T.root l.reverse X.es.length).nodes (X.load l.reverse).ns (fun _ => true) = l := by
   show pgs X.T.size (nodesOf X.T.size l.reverse) X.ns _ = l; rw [hN, hl]
  replace jM : PgSl w10 v10 l := by rw [← dl]; exact jM
  refine zqc [.tmp 99] cf29 rfl (pagesL_ret (Sl.rd jM) (by omega)) ?_; rintro v11 w11 ⟨dX, ml, uG⟩; have p4 := fM.trans dX; have oN := p4.blk dg; have pJ := aH.size; have il := fM.size
  have zx : ∀ g, v11.ownBlock = some g → w.heap.size ≤ g ∧ ¬ Fn g := fun g hg => by
   have h1 := uG g hg; refine ⟨by omega, fun e => ?_⟩; have h2 := zu.lt g e; omega
  refine qV (ynk rfl) (qV (yfa fl36_3 rfl) (rEffP rfl (zst ti33 rfl rfl (oneV_sl ml) oN (by simp)) ?_)); rintro w12 ⟨gp, eX⟩; replace gp : Blk w12 q [I (X.T.size : Int), ptr pn 0, ptr m 0, v11, gv, I (X.nx : Int)] 36 := gp; refine qM rfl (zqm rfl (qV (ynk rfl) (qV (yfa fl36_4 rfl) (rEffP rfl (zst ti34 rfl rfl rfl gp (by simp)) ?_)))); rintro w13 ⟨uK, kx⟩; replace uK : Blk w13 q [I (X.T.size : Int), ptr pn 0, ptr m 0, v11, .slice none 0 0, I (X.nx : Int)] 36 := uK; have kY := eX.trans kx; have zy := (aH.trans p4.kp).trans kY
  have zA := hM.reset (T' := TrL X.T.size X.T.root l.reverse X.es.length) (p' := pn) (nb' := nbn) (F' := Fn) (O' := X.T.nodes) (os' := X.ns) (gs' := []) (sv' := v11) (gv' := .slice none 0 0) ((oK.kp.trans zy).mono' (fun k e => .inr e)) uK ((zw.ext p4).kp kY (fun g hg e => by have := sh g hg; omega)) rfl (fun k hk => .inr (sh k hk))
   (by rw [hl]; exact ml.kp kY (fun g hg e => by have := (zx g hg).1; omega)) (Sl.nil _ _ _) (fun g hg => hg.elim (zx g) (fun e => by simp [Value.ownBlock] at e)) (fun g hg => by simp [Value.ownBlock] at hg)
  obtain ⟨oZ, zB, Dp⟩ := zA; refine qM rfl (zqa rfl (rEnd (run_ret Tryz.func59 rfl ?_))); exact ⟨_, rfl, rfl, X.load l.reverse, pn, v11, nbn, Fn, oZ, ET, rfl, rfl, zB, Dp⟩
 case Dq =>
  have I5 := aa.size; rcases eI.shape with ⟨e, e0⟩ | ⟨g, cap, e, iL⟩
  ·refine zqu (α := Unit) (()) (fun _ => [(0, ptr q 0), (3, .slice va l.length vc), (4, I 0), (5, I ((l.length : Int) - 1))]) (fun _ w' => w' = w1) (fun _ => 0) ?hI ?hround
   case hI => rfl
   case hround =>
    rintro ⟨⟩ w2 rfl ih
    try dsimp only
    refine run_seq (qN rfl (zqm rfl (zqm rfl (qV (ylt rfl rfl) (rEnd (run_if rfl (fun ah => ?_) (fun ah => ?_)))))))
    ·omega
    ·refine run_exit rfl ((zr _ _ ⟨rfl, aa, ?_⟩).qb); have e : l.reverse = l := by rw [List.eq_nil_of_length_eq_zero e0]; rfl
     rw [e]; exact Sl.rd eI
  ·cases e; obtain ⟨cur0, bJ, -, -, cG, di⟩ := eI.row; have I6 : PgB cur0 l := PgB.mk' di rfl (by omega); have By : w.heap.size ≤ g := dK g rfl; refine zqu (α := Nat × Int × Pgs × List Value) ((0, (l.length : Int) - 1, l, cur0)) (fun x => [(0, ptr q 0), (3, .slice (some ⟨g, 0, none⟩) l.length vc), (4, I (x.1 : Int)), (5, I x.2.1)]) (fun x w' => 2 * x.1 ≤ l.length + 1 ∧ x.2.1 = (l.length : Int) - 1 - (x.1 : Int) ∧ Ext w w' ∧ Blk w' g x.2.2.2 55 ∧ PgB x.2.2.2 x.2.2.1 ∧ RvI l x.2.2.1 x.1) (fun x => l.length - x.1) ?hI ?hround
   case hI => exact ⟨Nat.zero_le _, by dsimp only; omega, aa, bJ.blk, I6, RvI.zero l⟩
   case hround =>
    rintro ⟨i, kk, c, cur⟩ w2 ⟨hi, cO, ad, ay, zC, ln⟩ ih; dsimp only at hi cO ay zC ln; have fg := ay.lt; have I7 := ln.1
    try dsimp only
    refine run_seq (qN rfl (zqm rfl (zqm rfl (qV (ylt rfl rfl) (rEnd (run_if rfl (fun ah => ?_) (fun ah => ?_)))))))
    ·have I8 : 2 * i + 1 < l.length := by omega
     obtain ⟨j, rfl, hj⟩ : ∃ j : Nat, kk = (j : Int) ∧ j = l.length - 1 - i := ⟨l.length - 1 - i, by omega, rfl⟩; obtain ⟨a, ha⟩ : ∃ a, c[i]? = some a := ⟨_, List.getElem?_eq_getElem (by omega)⟩; obtain ⟨b, hb⟩ : ∃ b, c[j]? = some b := ⟨_, List.getElem?_eq_getElem (by omega)⟩; have Aa : ∀ w', Blk w' g cur 55 → Rd w' (.slice (some ⟨g, 0, none⟩) c.length vc) 2 c.length (pgC c) := fun w' h => zC.rd h; refine run_skip (run_seq (run_block (qN rfl (zqm rfl (zqm rfl (qV (yis U52 ti55 rfl rfl (by omega)) (qV (yldA U55 rfl ti55 rfl (rd_pg (Aa _ ay) (by omega) ha) rfl) (rValP rfl rfl (pal (cs := [_, _]) ti55 rfl) ?_)))))))); rintro _ w3 ⟨b6, rfl, sQ, ai, aN⟩; refine rEffP rfl (zstA ti55 rfl rfl rfl rfl aN (by simp)) ?_; rintro w4 ⟨bs, ax⟩; replace bs : Blk w4 b6 [I a.1, S a.2] 55 := bs; have jd := ax.blk (ai.blk ay) (by omega); refine qM rfl (zqm rfl (zqm rfl (zqm rfl (zqm rfl (qV (yis U52 ti55 rfl rfl (by omega)) (qV (yldA U55 rfl ti55 rfl (rd_pg (Aa _ jd) (by omega) hb) rfl) (qV (yis U52 ti55 rfl rfl (by omega)) (rEffP rfl (zstA (news := [I b.1, S b.2]) ti55 rfl rfl rfl rfl jd (by have := zC.1; simp; omega)) ?_)))))))); rintro w5 ⟨bu, aY⟩; rw [Nat.zero_add, Nat.mul_comm i 2] at bu; have EU := zC.set b (i := i) (by omega); have qC := aY.blk bs (by omega); refine rEnd (run_reg rfl (zqm rfl (zqm rfl (qV (yldA (news := [I a.1, S a.2]) U55 rfl ti55 rfl (qC.cells (n := 2) rfl) rfl) (qV (yis U52 ti55 rfl rfl (by omega)) (rEffP rfl (zstA (news := [I a.1, S a.2]) ti55 rfl rfl rfl rfl bu (by have := EU.1; rw [List.length_set] at this; simp; omega)) ?_)))))); rintro w6 ⟨bT, bP⟩; rw [Nat.zero_add, Nat.mul_comm j 2] at bT; have I9 := EU.set a (i := j) (by rw [List.length_set]; omega); have EV := ln.step I8 ha (by rw [← hj]; exact hb); rw [← hj] at EV; have dH := ad.size; have Dr : Ext w w6 := (((ad.trans ai).trans_new ax (fun k hk => by omega)).trans_new aY (fun k hk => by omega)).trans_new bP (fun k hk => by omega); refine rEnd (run_inBlock (run_reg rfl (zqm rfl (zqd rfl rfl (zqm rfl (qV (ysb rfl rfl (by omega)) (zqa rfl (zqa rfl (rEnd ?_))))))))); exact (ih (i + 1, (j : Int) - 1, _, _) w6 ⟨by dsimp only; omega, by dsimp only; omega, Dr, bT, I9, EV⟩ (by dsimp only; omega)).qb
    ·have e := ln.fin (by omega); subst e; refine run_exit rfl ((zr _ _ ⟨rfl, ad, ?_⟩).qb); have := zC.rd (cap := vc) ay; rw [List.length_reverse] at this ⊢; exact this
end
section
variable {fr : List Int} {s cs : Pgs} {a c1 : Int × Bytes}
theorem writ_nil (fr : List Int) (c : Pgs) : writ fr [] c = c := by simp [writ]
theorem writ_fil (fr : List Int) (s : Pgs) : writ fr s [] = s.filter fun x => decide (x.1 ∉ fr) := by cases s <;> simp [writ]
theorem writ_c (h : ∀ a r, s = a :: r → c1.1 < a.1) : writ fr s (c1 :: cs) = c1 :: writ fr s cs := by
 cases s with
 | nil => rw [writ_nil, writ_nil]
 | cons a r => rw [writ, if_pos (h a r rfl)]
theorem writ_eq (h : c1.1 = a.1) : writ fr (a :: s) (c1 :: cs) = c1 :: writ fr s cs := by rw [writ, if_neg (by omega), if_pos h]
theorem writ_s {c : Pgs} (h : ∀ c1 r, c = c1 :: r → a.1 < c1.1) : writ fr (a :: s) c = (if a.1 ∈ fr then [] else [a]) ++ writ fr s c := by
 cases c with
 | nil =>
   rw [writ_fil, writ_fil, List.filter_cons]
   by_cases e : a.1 ∈ fr <;> simp [e]
 | cons c1 r =>
   have := h c1 r rfl; rw [writ, if_neg (by omega), if_neg (by omega)]; by_cases e : a.1 ∈ fr <;> simp [e]
theorem writ_len : ∀ {s c : Pgs}, (writ fr s c).length ≤ s.length + c.length := by
 intro s c
 induction s, c using writ.induct fr with
 | case1 c => simp [writ]
 | case2 s h => rw [writ_fil]; exact Nat.le_trans (List.length_filter_le _ _) (Nat.le_add_right _ _)
 | case3 a s c cs h ih => rw [writ, if_pos h]; simp only [List.length_cons] at ih ⊢; omega
 | case4 a s c cs h h' ih => rw [writ, if_neg h, if_pos h']; simp only [List.length_cons] at ih ⊢; omega
 | case5 a s c cs h h' kG ih => rw [writ, if_neg h, if_neg h', if_pos kG]; simp only [List.length_cons] at ih ⊢; omega
 | case6 a s c cs h h' kG ih => rw [writ, if_neg h, if_neg h', if_neg kG]; simp only [List.length_cons] at ih ⊢; omega
end
theorem drop_at {α : Type} {l : List α} {i : Nat} {x : α} (h : l[i]? = some x) : l.drop i = x :: l.drop (i + 1) := by
 obtain ⟨hi, e⟩ := List.getElem?_eq_some_iff.1 h
 rw [List.drop_eq_getElem_cons hi, e]
section
variable {w : World}
set_option maxHeartbeats 4000000 in
theorem written_ret {sv cv fv : Value} {s c : Pgs} {fr : List Int} (sr : Rd w sv 2 s.length (pgC s)) (hC : Rd w cv 2 c.length (pgC c)) (hF : Rd w fv 1 fr.length (fr.map I)) (l9 : s.length ≤ 1000000) (cG : c.length ≤ 1000000) (Af : fr.length ≤ 1000000) :
  Ret Tryz.prog 30 [sv, cv, fv] w fun v w' => Ext w w' ∧ Sl w' v 54 2 (writ fr s c).length (pgC (writ fr s c)) ∧ ∀ g, v.ownBlock = some g → w.heap.size ≤ g := by
 obtain ⟨sa, sc, rfl, -⟩ := sr.shape
 obtain ⟨ca, cc, rfl, -⟩ := hC.shape
 obtain ⟨fa, fc, rfl, -⟩ := hF.shape
 have eP : maxLen = 9223372036854775807 := rfl
 have A7 := writ_len (fr := fr) (s := s) (c := c)
 refine ret_of_run (e := [(0, _), (1, _), (2, _)]) Tryz.func30 rfl Tryz.ntmps30 rfl rfl (qN rfl (zqa rfl (qM rfl (zqa rfl (qM rfl (zqa rfl (qM rfl (zqa rfl (rEnd (run_seq (run_block (zqu (α := Nat × Nat × Value × Pgs) ((0, 0, .slice none 0 0, [])) (fun x => [(0, .slice sa s.length sc), (1, .slice ca c.length cc), (2, .slice fa fr.length fc), (7, x.2.2.1), (8, I (x.1 : Int)), (9, I (x.2.1 : Int))]) (fun x w' => x.1 ≤ s.length ∧ x.2.1 ≤ c.length ∧ Ext w w' ∧ Sl w' x.2.2.1 54 2 x.2.2.2.length (pgC x.2.2.2) ∧ (∀ g, x.2.2.1.ownBlock = some g → w.heap.size ≤ g) ∧ x.2.2.2 ++ writ fr (s.drop x.1) (c.drop x.2.1) = writ fr s c) (fun x => (s.length - x.1) + (c.length - x.2.1)) ?hI ?hround))))))))))))
 case hI => exact ⟨Nat.zero_le _, Nat.zero_le _, Ext.refl _, Sl.nil _ _ _, fun g hg => by simp [Value.ownBlock] at hg, by simp⟩
 case hround =>
  rintro ⟨i, k, ov, acc⟩ w1 ⟨hi, hk, aa, kS, ho, hw⟩ ih; dsimp only at hi hk kS ho hw
  have Ia : acc.length ≤ 2000000 := by
   have := congrArg List.length hw; rw [List.length_append] at this; omega
  have eV := aa.size; have hg : Ext w w1.drew := aa.trans (Ext.drew0 w1); have eL := Ext.drew0 w1; have qQ := kS.ext eL
  try dsimp only
  refine run_seq (qN rfl (zqm rfl (zqm rfl (qV (yln U33 rfl) (qV (ylt rfl rfl) (zqm rfl (rVal_if (fun g1 => ?_) (fun g1 => ?_))))))))
  ·have g1' : i < s.length := by omega
   obtain ⟨sb, so, ya, rfl, pu⟩ := rd_pgs sr rfl g1'; refine qS (qS (qS (qS (qV (ypT rfl rfl) (rEnd (run_true rfl (run_skip (run_block (run_seq (run_seq (run_draw (fun w' => Ext w w') (by kernel_rfl) rfl (zqt 0 rfl (ymv rfl) hg (zqt 1 rfl (ymv rfl) hg ?_))))))))))))); refine zqt 2 rfl (yln U33 rfl) hg (zqt 3 rfl (ylt rfl rfl) hg (zqt 4 rfl (ymv rfl) hg (rh_if (fun g2 => ?_) (fun g2 => ?_))))
   ·have g2' : k < c.length := by omega
    obtain ⟨cb, co, yc', rfl, pw⟩ := rd_pgs hC rfl g2'; refine zqt 5 rfl (ymv rfl) hg (zqt 6 rfl (ymv rfl) hg (zqt 7 rfl (yln U33 rfl) hg (zqt 8 rfl (yge rfl rfl) hg (zqt 9 rfl (ymv rfl) hg (rh_if (fun g3 => ?_) (fun g3 => ?_))))))
    ·omega
    ·refine zqt 10 rfl (ymv rfl) hg (zqt 11 rfl (ymv rfl) hg (zqt 12 rfl (yis U33 ti54 rfl rfl (by omega)) hg (zqt 13 rfl (yfa fl54_0 rfl) hg (zqt 15 rfl (ymv rfl) hg (zqt 16 rfl (ymv rfl) hg (zqt 17 rfl (yis U33 ti54 rfl rfl (by omega)) hg (zqt 18 rfl (yfa fl54_0 rfl) hg (qT 14 rfl (fun _ h=>yldc U3 rfl rfl (rd_pg0 (hC.ext h) g2' pw)) hg (qT 19 rfl (fun _ h=>yldc U3 rfl rfl (rd_pg0 (sr.ext h) g1' pu)) hg (zqt 20 rfl (yle rfl rfl) hg (zqt 21 rfl (ypF rfl rfl) hg (zqt 22 rfl (ypT rfl rfl) hg (qE ?_))))))))))))); refine run_if rfl (fun g4 => ?_) (fun g4 => ?_)
     ·have a8 : Ext w w1.drew.drew := hg.trans (Ext.drew0 _); have qR := qQ.ext (Ext.drew0 w1.drew); refine run_seq (run_seq (run_draw (fun w' => Ext w w') (by kernel_rfl) rfl (zqt 0 rfl (ymv rfl) a8 (zqt 1 rfl (ymv rfl) a8 (zqt 2 rfl (yln U33 rfl) a8 (zqt 3 rfl (ylt rfl rfl) a8 (zqt 4 rfl (ymv rfl) a8 (rh_if (fun g5 => ?_) (fun g5 => ?_)))))))))
      ·refine zqt 5 rfl (ymv rfl) a8 (zqt 6 rfl (ymv rfl) a8 (zqt 7 rfl (yis U33 ti54 rfl rfl (by omega)) a8 (zqt 8 rfl (yfa fl54_0 rfl) a8 (zqt 10 rfl (ymv rfl) a8 (zqt 11 rfl (ymv rfl) a8 (zqt 12 rfl (yis U33 ti54 rfl rfl (by omega)) a8 (zqt 13 rfl (yfa fl54_0 rfl) a8 (qT 9 rfl (fun _ h=>yldc U3 rfl rfl (rd_pg0 (hC.ext h) g2' pw)) a8 (qT 14 rfl (fun _ h=>yldc U3 rfl rfl (rd_pg0 (sr.ext h) g1' pu)) a8 (zqt 15 rfl (yeq rfl rfl) a8 (zqt 16 rfl (ypT rfl rfl) a8 (qE (run_if rfl (fun g6 => ?_) (fun g6 => ?_))))))))))))))
       ·refine run_reg rfl (zqm rfl (zqd rfl rfl (zqa rfl (qM rfl (zqm rfl (zqm rfl (zqm rfl (qV (yis U33 ti54 rfl rfl (by omega)) (qV (yldA U54 rfl ti54 rfl (rd_pg (hC.ext a8) g2' pw) rfl) (rValP rfl rfl (pbs (parts := [(0, .tmp 66)]) (cs := [_, _]) (zs := [Value.int .i64 0, Value.string ⟨#[]⟩]) U33 ti54 rfl (by kernel_rfl) rfl rfl rfl (by decide)) ?_)))))))))); rintro _ w2 ⟨b2, rfl, ⟨cz, ad, ay⟩, aV⟩; have dH := ad.size; have Au := a8.size; refine rValP rfl rfl (pap U33 ti54 rfl (by decide) rfl rfl (qR.ext ad) aV.rd (by intro c hc; simp at hc; rcases hc with rfl | rfl <;> rfl) (by omega) (by omega)) ?_; rintro ov2 w3 ⟨aJ, ak, du, -⟩; refine zqa rfl (qM rfl (zqm rfl (zqd rfl rfl (zqa rfl (rEnd (run_exit rfl ((ih (i + 1, k + 1, ov2, acc ++ [yc']) w3 ⟨by dsimp only; omega, by dsimp only; omega, (a8.trans ad).trans_new ak (fun i hi => ho i hi), ?_, fun g aw => ?_, ?_⟩ (by dsimp only; omega)).qb)))))))
        ·dsimp only; rw [pgC_app, List.length_append]; exact aJ
        ·rcases du g aw with e | e
         ·exact ho g e
         ·omega
        ·dsimp only; rw [← hw, List.append_assoc]
         congr 1
         rw [drop_at pu, drop_at pw, writ_eq g6]; rfl
       ·refine run_skip (qN rfl (zqm rfl (zqm rfl (zqm rfl (qV (yis U33 ti54 rfl rfl (by omega)) (qV (yldA U54 rfl ti54 rfl (rd_pg (hC.ext a8) g2' pw) rfl) (rValP rfl rfl (pbs (parts := [(0, .tmp 66)]) (cs := [_, _]) (zs := [Value.int .i64 0, Value.string ⟨#[]⟩]) U33 ti54 rfl (by kernel_rfl) rfl rfl rfl (by decide)) ?_))))))); rintro _ w2 ⟨b2, rfl, ⟨cz, ad, ay⟩, aV⟩; have dH := ad.size; have Au := a8.size; refine rValP rfl rfl (pap U33 ti54 rfl (by decide) rfl rfl (qR.ext ad) aV.rd (by intro c hc; simp at hc; rcases hc with rfl | rfl <;> rfl) (by omega) (by omega)) ?_; rintro ov2 w3 ⟨aJ, ak, du, -⟩; refine zqa rfl (qM rfl (zqm rfl (zqd rfl rfl (zqa rfl (rEnd (run_exit rfl ((ih (i, k + 1, ov2, acc ++ [yc']) w3 ⟨by dsimp only; omega, by dsimp only; omega, (a8.trans ad).trans_new ak (fun i hi => ho i hi), ?_, fun g aw => ?_, ?_⟩ (by dsimp only; omega)).qb)))))))
        ·dsimp only; rw [pgC_app, List.length_append]; exact aJ
        ·rcases du g aw with e | e
         ·exact ho g e
         ·omega
        ·dsimp only; rw [← hw, List.append_assoc]
         congr 1
         rw [drop_at pw, writ_c (fun a r e => by rw [drop_at pu] at e; cases e; omega)]; rfl
      ·omega
     ·refine run_skip (run_seq (qN rfl (zqm rfl (zqm rfl (zqm rfl (qV (yis U33 ti54 rfl rfl (by omega)) (qV (yfa fl54_0 rfl) (qV (yldc U3 rfl rfl (rd_pg0 (sr.ext hg) g1' pu)) (zqc [.tmp 71, .tmp 76] cf33 rfl (has_ret (l := fr) (hF.ext hg) (by omega) ya.1) ?_))))))))); rintro _ w5 ⟨rfl, pt⟩; have aF : Ext w w5 := by rw [pt]; exact hg
      have p5 : Sl w5 ov 54 2 acc.length (pgC acc) := by rw [pt]; exact qQ
      have p6 : writ fr (s.drop i) (c.drop k) = (if ya.1 ∈ fr then [] else [ya]) ++ writ fr (s.drop (i + 1)) (c.drop k) := by
       rw [drop_at pu]; exact writ_s (fun c1 r e => by rw [drop_at pw] at e; cases e; omega)
      refine qV ((by first | exact yntd rfl | exact ynt rfl)) ?_; refine rEnd (run_if rfl (fun g7 => ?_) (fun g7 => ?_))
      ·refine run_reg rfl (zqm rfl (zqm rfl (zqm rfl (qV (yis U33 ti54 rfl rfl (by omega)) (qV (yldA U54 rfl ti54 rfl (rd_pg (sr.ext aF) g1' pu) rfl) (rValP rfl rfl (pbs (parts := [(0, .tmp 83)]) (cs := [_, _]) (zs := [Value.int .i64 0, Value.string ⟨#[]⟩]) U33 ti54 rfl (by kernel_rfl) rfl rfl rfl (by decide)) ?_)))))); rintro _ w2 ⟨b2, rfl, ⟨cz, ad, ay⟩, aV⟩; have dH := ad.size; have Au := aF.size; refine rValP rfl rfl (pap U33 ti54 rfl (by decide) rfl rfl (p5.ext ad) aV.rd (by intro c hc; simp at hc; rcases hc with rfl | rfl <;> rfl) (by omega) (by omega)) ?_; rintro ov2 w3 ⟨aJ, ak, du, -⟩; refine zqa rfl (rEnd (run_reg rfl (zqm rfl (zqd rfl rfl (zqa rfl (rEnd (run_inBlock ((ih (i + 1, k, ov2, acc ++ [ya]) w3 ⟨by dsimp only; omega, by dsimp only; omega, (aF.trans ad).trans_new ak (fun i hi => ho i hi), ?_, fun g aw => ?_, ?_⟩ (by dsimp only; omega)).qb))))))))
       ·dsimp only; rw [pgC_app, List.length_append]; exact aJ
       ·rcases du g aw with e | e
        ·exact ho g e
        ·omega
       ·dsimp only; rw [← hw, List.append_assoc]
        congr 1
        rw [p6, if_neg g7]
      ·have g7' : ya.1 ∈ fr := Decidable.not_not.1 g7; refine run_skip (run_reg rfl (zqm rfl (zqd rfl rfl (zqa rfl (rEnd (run_inBlock ?_)))))); exact (ih (i + 1, k, ov, acc) _ ⟨by dsimp only; omega, by dsimp only; omega, aF, p5, ho, by dsimp only; rw [← hw, p6, if_pos g7', List.nil_append]⟩ (by dsimp only; omega)).qb
   ·refine qJ 5 rfl (hg) (qJ 6 rfl (hg) (qJ 7 rfl (hg) (qJ 8 rfl (hg) (qJ 9 rfl (hg) (qJ 10 rfl (hg) (qJ 11 rfl (hg) (qJ 12 rfl (hg) (qJ 13 rfl (hg) (qJ 14 rfl (hg) (qJ 15 rfl (hg) (qJ 16 rfl (hg) (qJ 17 rfl (hg) (qJ 18 rfl (hg) ?_))))))))))))); refine qJ 19 rfl (hg) (qJ 20 rfl (hg) (qJ 21 rfl (hg) (zqt 22 rfl (ypF rfl rfl) hg (qE (run_false rfl (run_skip (run_seq (qN rfl (zqm rfl (zqm rfl (zqm rfl (qV (yis U33 ti54 rfl rfl (by omega)) (qV (yfa fl54_0 rfl) ?_))))))))))))); refine qV (yldc U3 rfl rfl (rd_pg0 (sr.ext hg) g1' pu)) (zqc [.tmp 71, .tmp 76] cf33 rfl (has_ret (l := fr) (hF.ext hg) (by omega) ya.1) ?_); rintro _ w5 ⟨rfl, pt⟩; have aF : Ext w w5 := by rw [pt]; exact hg
    have p5 : Sl w5 ov 54 2 acc.length (pgC acc) := by rw [pt]; exact qQ
    have p6 : writ fr (s.drop i) (c.drop k) = (if ya.1 ∈ fr then [] else [ya]) ++ writ fr (s.drop (i + 1)) (c.drop k) := by
     rw [drop_at pu]; exact writ_s (fun c1 r e => by rw [List.drop_eq_nil_of_le (by omega)] at e; cases e)
    refine qV ((by first | exact yntd rfl | exact ynt rfl)) ?_; refine rEnd (run_if rfl (fun g7 => ?_) (fun g7 => ?_))
    ·refine run_reg rfl (zqm rfl (zqm rfl (zqm rfl (qV (yis U33 ti54 rfl rfl (by omega)) (qV (yldA U54 rfl ti54 rfl (rd_pg (sr.ext aF) g1' pu) rfl) (rValP rfl rfl (pbs (parts := [(0, .tmp 83)]) (cs := [_, _]) (zs := [Value.int .i64 0, Value.string ⟨#[]⟩]) U33 ti54 rfl (by kernel_rfl) rfl rfl rfl (by decide)) ?_)))))); rintro _ w2 ⟨b2, rfl, ⟨cz, ad, ay⟩, aV⟩; have dH := ad.size; have Au := aF.size; refine rValP rfl rfl (pap U33 ti54 rfl (by decide) rfl rfl (p5.ext ad) aV.rd (by intro c hc; simp at hc; rcases hc with rfl | rfl <;> rfl) (by omega) (by omega)) ?_; rintro ov2 w3 ⟨aJ, ak, du, -⟩; refine zqa rfl (rEnd (run_reg rfl (zqm rfl (zqd rfl rfl (zqa rfl (rEnd (run_inBlock ((ih (i + 1, k, ov2, acc ++ [ya]) w3 ⟨by dsimp only; omega, by dsimp only; omega, (aF.trans ad).trans_new ak (fun i hi => ho i hi), ?_, fun g aw => ?_, ?_⟩ (by dsimp only; omega)).qb))))))))
     ·dsimp only; rw [pgC_app, List.length_append]; exact aJ
     ·rcases du g aw with e | e
      ·exact ho g e
      ·omega
     ·dsimp only; rw [← hw, List.append_assoc]
      congr 1
      rw [p6, if_neg g7]
    ·have g7' : ya.1 ∈ fr := Decidable.not_not.1 g7; refine run_skip (run_reg rfl (zqm rfl (zqd rfl rfl (zqa rfl (rEnd (run_inBlock ?_)))))); exact (ih (i + 1, k, ov, acc) _ ⟨by dsimp only; omega, by dsimp only; omega, aF, p5, ho, by dsimp only; rw [← hw, p6, if_pos g7', List.nil_append]⟩ (by dsimp only; omega)).qb
  ·refine zqm rfl (zqm rfl (qV (yln U33 rfl) (qV (ylt rfl rfl) (qV (ypF rfl rfl) (rEnd (run_if rfl (fun g2 => ?_) (fun g2 => ?_)))))))
   ·have g2' : k < c.length := by omega
    obtain ⟨cb, co, yc', rfl, pw⟩ := rd_pgs hC rfl g2'; refine run_skip (run_block (run_seq (run_seq (run_draw (fun w' => Ext w w') (by kernel_rfl) rfl (zqt 0 rfl (ymv rfl) hg (zqt 1 rfl (ymv rfl) hg (zqt 2 rfl (yln U33 rfl) hg (zqt 3 rfl (ylt rfl rfl) hg (zqt 4 rfl (ymv rfl) hg (rh_if (fun g3 => ?_) (fun g3 => ?_)))))))))))
    ·refine zqt 5 rfl (ymv rfl) hg (zqt 6 rfl (ymv rfl) hg (zqt 7 rfl (yln U33 rfl) hg (zqt 8 rfl (yge rfl rfl) hg (zqt 9 rfl (ymv rfl) hg (rh_if (fun g4 => ?_) (fun g4 => ?_))))))
     ·have a8 : Ext w w1.drew.drew := hg.trans (Ext.drew0 _); have qR := qQ.ext (Ext.drew0 w1.drew); refine qJ 10 rfl (hg) (qJ 11 rfl (hg) (qJ 12 rfl (hg) (qJ 13 rfl (hg) (qJ 14 rfl (hg) (qJ 15 rfl (hg) (qJ 16 rfl (hg) (qJ 17 rfl (hg) (qJ 18 rfl (hg) (qJ 19 rfl (hg) (qJ 20 rfl (hg) (zqt 21 rfl (ypT rfl rfl) hg (zqt 22 rfl (ypT rfl rfl) hg (qE ?_))))))))))))); refine run_true rfl (run_seq (run_seq (run_draw (fun w' => Ext w w') (by kernel_rfl) rfl (zqt 0 rfl (ymv rfl) a8 (zqt 1 rfl (ymv rfl) a8 (zqt 2 rfl (yln U33 rfl) a8 (zqt 3 rfl (ylt rfl rfl) a8 (zqt 4 rfl (ymv rfl) a8 (rh_if (fun g5 => ?_) (fun g5 => ?_))))))))))
      ·omega
      ·refine qJ 5 rfl (a8) (qJ 6 rfl (a8) (qJ 7 rfl (a8) (qJ 8 rfl (a8) (qJ 9 rfl (a8) (qJ 10 rfl (a8) (qJ 11 rfl (a8) (qJ 12 rfl (a8) (qJ 13 rfl (a8) (qJ 14 rfl (a8) (qJ 15 rfl (a8) (zqt 16 rfl (ypF rfl rfl) a8 (qE (run_false rfl ?_))))))))))))); refine run_skip (qN rfl (zqm rfl (zqm rfl (zqm rfl (qV (yis U33 ti54 rfl rfl (by omega)) (qV (yldA U54 rfl ti54 rfl (rd_pg (hC.ext a8) g2' pw) rfl) (rValP rfl rfl (pbs (parts := [(0, .tmp 66)]) (cs := [_, _]) (zs := [Value.int .i64 0, Value.string ⟨#[]⟩]) U33 ti54 rfl (by kernel_rfl) rfl rfl rfl (by decide)) ?_))))))); rintro _ w2 ⟨b2, rfl, ⟨cz, ad, ay⟩, aV⟩; have dH := ad.size; have Au := a8.size; refine rValP rfl rfl (pap U33 ti54 rfl (by decide) rfl rfl (qR.ext ad) aV.rd (by intro c hc; simp at hc; rcases hc with rfl | rfl <;> rfl) (by omega) (by omega)) ?_; rintro ov2 w3 ⟨aJ, ak, du, -⟩; refine zqa rfl (qM rfl (zqm rfl (zqd rfl rfl (zqa rfl (rEnd (run_exit rfl ((ih (i, k + 1, ov2, acc ++ [yc']) w3 ⟨by dsimp only; omega, by dsimp only; omega, (a8.trans ad).trans_new ak (fun i hi => ho i hi), ?_, fun g aw => ?_, ?_⟩ (by dsimp only; omega)).qb)))))))
       ·dsimp only; rw [pgC_app, List.length_append]; exact aJ
       ·rcases du g aw with e | e
        ·exact ho g e
        ·omega
       ·dsimp only; rw [← hw, List.append_assoc]
        congr 1
        rw [drop_at pw, writ_c (fun a r e => by rw [List.drop_eq_nil_of_le (by omega)] at e; cases e)]; rfl
     ·omega
    ·omega
   ·have zJ : i = s.length := by omega
    have Ib : k = c.length := by omega
    subst zJ Ib; rw [List.drop_length, List.drop_length, writ_nil, List.append_nil] at hw; rw [← hw]; refine run_exit rfl (qN rfl (zqm rfl (zqa rfl (rEnd (run_ret Tryz.func30 rfl ?_))))); exact ⟨_, rfl, aa, kS, ho⟩
end
theorem StR.of {w w' : World} {q m : Nat} {X' : Sx} {p' : Nat} {mv sv gv mv' sv' gv' : Value} {nb' : Int → Nat} {F F' fp : Nat → Prop} (hM : StM w' q X' p' m mv' sv' gv' nb' F') (hk : Kp (fpS q m mv sv gv F) w w') (hf : ∀ k, fpS q m mv' sv' gv' F' k → fpS q m mv sv gv F k ∨ w.heap.size ≤ k) (h : ∀ k, fp k ↔ fpS q m mv sv gv F k) : StR q m fp w w' X' :=
 ⟨fpS q m mv' sv' gv' F', ⟨p', mv', sv', gv', nb', F', hM, fun _ => Iff.rfl⟩, hk.mono' (fun k e => (h k).2 e), fun k hk => (hf k hk).imp (h k).2 id⟩
section
variable {w : World} {q m : Nat} {X : Sx} {fp : Nat → Prop} {k : Nat}
set_option maxHeartbeats 8000000 in
theorem stepS_ret (Cs : StF w q m X fp) (hG : Gh X k) (hz : sizeOk (X.T.size : Int)) (hk : k ≤ 330) (o : TOp) (pm : Rd w o.nv 1 o.nos.length (o.nos.map I) ∧ o.nos.length ≤ 17592186044415 ∧ ∃ a c, o.nv = .slice a o.nos.length c ∧ o.nos.length ≤ c) (zD : o.key.length ≤ 140737488355328 ∧ o.val.length ≤ 140737488355328 ∧ o.n ≤ 9223372036854775807) (hd : 0 < o.nos.length → ∀ g, o.nv.ownBlock = some g → ¬ fp g) :
  Ret Tryz.prog 24 [ptr q 0, .agg o.cs.toArray] w fun v w' => v = .bool true ∧ ∃ X', StR q m fp w w' X' ∧ Gh X' (k + 1) ∧ X'.T.size = X.T.size ∧ (o.kd = 1 → X.T.given.length ≤ X'.T.given.length) := by
 obtain ⟨p, mv, sv, gv, nb, F, hM, dF⟩ := Cs
 obtain ⟨kd, key, val, n, nos, auto, nv⟩ := o
 dsimp only at pm zD hd ⊢
 obtain ⟨aC, am, ak⟩ := zD
 obtain ⟨po, pB, na, nc, rfl, de⟩ := pm
 have hI := hG.inv
 have vk := Inv.cnts hz hI
 have fi := hG.el
 have eP : maxLen = 9223372036854775807 := rfl
 refine ret_of_run (e := [(0, _), (1, _)]) Tryz.func24 rfl Tryz.ntmps24 rfl rfl (qN rfl (rValP rfl rfl (pbx rfl (cs := opC kd key val n (.slice na nos.length nc) auto) rfl) ?_))
 rintro _ w1 ⟨b3, rfl, zK, aa, aN⟩
 replace aN : Blk w1 b3 [I kd, S key, S val, I n, .slice na nos.length nc, .bool auto] 39 := aN
 have bC := hM.ext aa
 have aj := bC.blk
 have eV := aa.size
 have dU := aN.lt
 have gu : ¬ fpS q m mv sv gv F b3 := fun e => by have := hM.lt e; omega
 have ao : ∀ {X' : Sx} {w' : World} {p' : Nat} {mv' sv' gv' : Value} {nb' : Int → Nat} {F' : Nat → Prop}, StM w' q X' p' m mv' sv' gv' nb' F' → Kp (fpS q m mv sv gv F) w1 w' → (∀ k, fpS q m mv' sv' gv' F' k → fpS q m mv sv gv F k ∨ w1.heap.size ≤ k) → StR q m fp w w' X' := fun a b c => StR.of a (aa.kp.trans b) (fun k hk => (c k hk).imp id (fun e => by omega)) dF
 refine zqa rfl (rEnd (run_seq (qN rfl (qV (yfa fl39_0 rfl) (qV ((by first | exact yld U3 rfl rfl aj rfl | exact yld U3 rfl rfl aN rfl)) ?_)))))
 refine rEnd (run_block (qN rfl (qV (yeq rfl rfl) (zqa rfl (rEnd (run_if rfl (fun c0 => ?_) (fun c0 => ?_)))))))
 ·refine qN rfl (zqm rfl (qV (yldA (news := opC kd key val n (.slice na nos.length nc) auto) U39 rfl ti39 rfl (aN.cells (n := 6) rfl) rfl) (zqc [.tmp 14, .tmp 15] cf9 rfl (putS_ret bC hG hz (by omega) kd key val n (.slice na nos.length nc) auto aC am) ?_))); rintro _ w2 ⟨rfl, X', mv', gv', nb', F', cf, rh, dD, -, cO, lq⟩; refine zqa rfl (rEnd (run_ret Tryz.func24 rfl ?_)); exact ⟨_, rfl, rfl, X', ao cf cO lq, rh, dD, fun e => by omega⟩
 ·refine qN rfl (qV (yeq rfl rfl) (zqa rfl (rEnd (run_if rfl (fun c1 => ?_) (fun c1 => ?_)))))
  ·have hg := Ext.drew0 w1; refine run_seq (run_draw (fun w' => Kp (fun k => F k ∨ k = m) w1 w') (by kernel_rfl) rfl ?_); have lk : ¬ (F q ∨ q = m) := fun e => e.elim bC.fq bC.qm; have mz : ¬ (F b3 ∨ b3 = m) := fun e => e.elim (fun e => gu (.inr (.inr (.inr (.inr (.inr e)))))) (fun e => gu (.inr (.inl e))); refine zqt 0 rfl (ymv rfl) (hg.kp) (zqt 1 rfl (ynk rfl) (hg.kp) (zqt 2 rfl (yfa fl36_1 rfl) (hg.kp) (qT 3 rfl (fun _ h=>(by first | exact yld U24 rfl rfl (h.blk aj lk) rfl | exact yld U24 rfl rfl (h.blk aN mz) rfl)) (hg.kp) ?_))); refine zqt 4 rfl (yfa fl39_1 rfl) (hg.kp) (qT 5 rfl (fun _ h=>(by first | exact yld U9 rfl rfl (h.blk aj lk) rfl | exact yld U9 rfl rfl (h.blk aN mz) rfl)) (hg.kp) ?_); refine zqt 7 rfl (ymv rfl) (hg.kp) (zqt 8 rfl (ynk rfl) (hg.kp) (zqt 9 rfl (yfa fl36_2 rfl) (hg.kp) (qT 10 rfl (fun _ h=>(by first | exact yld U29 rfl rfl (h.blk aj lk) rfl | exact yld U29 rfl rfl (h.blk aN mz) rfl)) (hg.kp) ?_))); refine zqt 11 rfl (yfa fl39_1 rfl) (hg.kp) (qT 12 rfl (fun _ h=>(by first | exact yld U9 rfl rfl (h.blk aj lk) rfl | exact yld U9 rfl rfl (h.blk aN mz) rfl)) (hg.kp) ?_); refine zqo 6 [.tmp 22, .tmp 24] rfl cf11 rfl (deleteT_ret (bC.tree.ext hg) hI (by omega) key) ?_; rintro v2 w2 zg; refine ⟨(by rcases zg with ⟨-, -, h⟩ | ⟨-, -, T', H', ns', ⟨nb', F', -, -, h, -⟩, -⟩; exact hg.kp.trans h.kp; exact hg.kp.trans (h.mono' (fun k e => .inl e))), ?_⟩; have eX : Kp F w1 w2 := by rcases zg with ⟨-, -, h⟩ | ⟨-, -, T', H', ns', ⟨nb', F', -, -, h, -⟩, -⟩; exact hg.kp.trans h.kp; exact hg.kp.trans h
   have aV : Kp (fun k => F k ∨ k = m) w1 w2 := eX.mono' (fun k e => .inl e); rcases zg with ⟨rfl, aT, ad⟩ | ⟨rfl, vm, T', H', ns', ⟨nb', F', fQ, xo, am, ce⟩, gz⟩
   ·have cf := (bC.ext hg).ext ad; refine zqo 13 [.tmp 29, .tmp 31] rfl cf12 rfl (delM_ret cf.map key) ?_; rintro v3 w3 ⟨rfl, iI⟩; refine ⟨(by rw [if_neg aT] at iI; rw [iI]; exact aV), ?_⟩; rw [if_neg aT] at iI; obtain rfl := iI; refine zqt 14 rfl (yeq rfl rfl) aV (zqt 15 rfl (yas rfl) aV (qE (Run.qb (e := [(4, _)]) ?_))); refine run_ret Tryz.func24 rfl ?_; exact ⟨_, rfl, by simp [resVal], X, ao cf (hg.trans ad).kp (fun k h => .inl h), hG.mono (Nat.le_succ k), rfl, fun _ => Nat.le_refl _⟩
   ·have sj := (bC.ext hg).treed fQ (show T'.size = X.T.size from (show Evo _ _ _ from gz).size) am ce; obtain ⟨cf, zE, qY⟩ := sj; refine zqo 13 [.tmp 29, .tmp 31] rfl cf12 rfl (delM_ret cf.map key) ?_; rintro v3 w3 ⟨rfl, iI⟩; refine ⟨(by rw [if_pos vm] at iI; obtain ⟨mv', -, h, -⟩ := iI; exact aV.trans (h.mono' (fun k e => .inr e))), ?_⟩; rw [if_pos vm] at iI; have aJ : Kp (fun k => F k ∨ k = m) w1 w3 := by obtain ⟨mv', -, h, -⟩ := iI; exact aV.trans (h.mono' (fun k e => .inr e))
    have Db := cf.mapped iI; obtain ⟨mv3, ef, Ds, mt⟩ := Db; have HA := hg.size; have dH := zE.size; have kx : Kp (fpS q m mv sv gv F) w1 w3 := (hg.kp.trans zE).trans_new Ds (fun i hi => (qY i hi).elim .inr (fun e => .inl (by omega))); have mq := delE_len ((hasE_iff (hI.rise hz)).2 ((getR_code (hI.rise hz)).1 vm).2); rw [vm]; refine zqt 14 rfl (yeq rfl rfl) aJ (zqt 15 rfl (yas rfl) aJ (qE (Run.qb (e := [(4, _)]) ?_))); refine run_ret Tryz.func24 rfl ?_
    exact ⟨_, rfl, by simp [resVal], _, ao (ef.hn H' ns') kx (fun k hk => by
     rcases mt k hk with e | e
     ·rcases qY k e with e | e
      ·exact .inl e
      ·exact .inr (by omega)
     ·exact .inr (by omega)), hG.evo gz xo (Nat.le_succ k) (by omega), (show Evo _ _ _ from gz).size, fun _ => (show Evo _ _ _ from gz).len⟩
  ·refine qN rfl (qV (yeq rfl rfl) (zqa rfl (rEnd (run_if rfl (fun c2 => ?_) (fun c2 => ?_)))))
   ·have hg := Ext.drew0 w1; refine run_seq (run_draw (fun w' => Ext w1 w') (by kernel_rfl) rfl (zqt 0 rfl (ymv rfl) hg (zqt 1 rfl (ynk rfl) hg (zqt 2 rfl (yfa fl36_1 rfl) hg (qT 3 rfl (fun _ h=>(by first | exact yld U24 rfl rfl (h.blk aj) rfl | exact yld U24 rfl rfl (h.blk aN) rfl)) hg ?_))))); refine zqt 4 rfl (yfa fl39_1 rfl) hg (qT 5 rfl (fun _ h=>(by first | exact yld U9 rfl rfl (h.blk aj) rfl | exact yld U9 rfl rfl (h.blk aN) rfl)) hg ?_); refine zqo 6 [.tmp 40, .tmp 42] rfl cf42 rfl (get_ret (bC.tree.ext hg) hI key) ?_; rintro v2 w2 ⟨rfl, ad⟩; refine ⟨hg.trans ad, ?_⟩; have aB := hg.trans ad; have cf := bC.ext aB; have ay := cf.blk; have dV := aB.blk aN; have a8 := Ext.drew0 w2; refine zqt 7 rfl (ymv rfl) (hg.trans ad) (zqt 8 rfl (yex rfl rfl) (hg.trans ad) (zqt 9 rfl (yex rfl rfl) (hg.trans ad) (zqt 10 rfl (yas rfl) (hg.trans ad) (zqt 11 rfl (yas rfl) (hg.trans ad) (qE (run_seq (run_draw (fun w' => Ext w2 w') (by kernel_rfl) rfl (zqt 0 rfl (ymv rfl) a8 (zqt 1 rfl (ynk rfl) a8 (zqt 2 rfl (yfa fl36_2 rfl) a8 (qT 3 rfl (fun _ h=>(by first | exact yld U29 rfl rfl (h.blk ay) rfl | exact yld U29 rfl rfl (h.blk dV) rfl)) a8 ?_))))))))))); refine zqt 4 rfl (yfa fl39_1 rfl) a8 (qT 5 rfl (fun _ h=>(by first | exact yld U9 rfl rfl (h.blk ay) rfl | exact yld U9 rfl rfl (h.blk dV) rfl)) a8 ?_); refine zqo 6 [.tmp 50, .tmp 52] rfl cf10 rfl (getM_ret (cf.ext a8).map key) ?_; rintro _ w3 ⟨rfl, i9⟩; refine ⟨(by rw [i9]; exact a8), ?_⟩; have ai : Ext w1 w3 := by rw [i9]; exact aB.trans a8
    refine zqt 7 rfl (ymv rfl) ((by rw [i9]; exact a8)) ?_; refine zqt 8 rfl (yex rfl rfl) ((by rw [i9]; exact a8)) ?_; refine zqt 9 rfl (yex rfl rfl) ((by rw [i9]; exact a8)) ?_; refine zqt 10 rfl (yas rfl) ((by rw [i9]; exact a8)) ?_; refine zqt 11 rfl (yas rfl) ((by rw [i9]; exact a8)) ?_; refine qE (Run.qb (e := [(4, _), (5, _), (6, _), (7, _), (8, _)]) ?_); refine qN rfl (zqm rfl (zqm rfl (qV (yeqS rfl rfl) (rTrue (by (first | rfl | assumption | omega | decide)) ?_)))); refine zqm rfl (zqm rfl (zqm rfl (qV (yeq rfl rfl) (rTrue (by (first | rfl | assumption | omega | decide)) ?_)))); refine qV (ypT rfl rfl) (zqa rfl (rEnd (run_ret Tryz.func24 rfl ?_))); exact ⟨_, rfl, by simp [resVal], X, ao (bC.ext ai) ai.kp (fun k h => .inl h), hG.mono (Nat.le_succ k), rfl, fun e => by omega⟩
   ·refine qN rfl (qV (yeq rfl rfl) (zqa rfl (rEnd (run_if rfl (fun c3 => ?_) (fun c3 => ?_)))))
    ·refine qN rfl (zqm rfl (qV (yldA (news := opC kd key val n (.slice na nos.length nc) auto) U39 rfl ti39 rfl (aN.cells (n := 6) rfl) rfl) (zqc [.tmp 66, .tmp 67] cf26 rfl (rangedS_ret bC hG hz (by omega) kd key val n (.slice na nos.length nc) auto ak) ?_))); rintro _ w2 ⟨rfl, ad⟩; refine zqa rfl (rEnd (run_ret Tryz.func24 rfl ?_)); exact ⟨_, rfl, rfl, X, ao (bC.ext ad) ad.kp (fun k h => .inl h), hG.mono (Nat.le_succ k), rfl, fun e => by omega⟩
    ·refine qN rfl (qV (yeq rfl rfl) (zqa rfl (rEnd (run_if rfl (fun c4 => ?_) (fun c4 => ?_)))))
     ·refine qN rfl (zqm rfl (qV (yfa fl39_4 rfl) (qV ((by first | exact yld U34 rfl rfl aj rfl | exact yld U34 rfl rfl aN rfl)) ?_))); refine zqc [.tmp 71, .tmp 73] cf57 rfl (giveS_ret bC hG hz (by omega) (po.ext aa) pB de (fun h g hg e => hd h g hg ((dF g).2 e))) ?_; rintro _ w2 ⟨rfl, X', gv', F', cf, rh, dD, -, cO, lq⟩; refine zqa rfl (rEnd (run_ret Tryz.func24 rfl ?_)); exact ⟨_, rfl, rfl, X', ao cf cO lq, rh, dD, fun e => by omega⟩
     ·refine qN rfl (qV (yeq rfl rfl) (zqa rfl (rEnd (run_if rfl (fun c5 => ?_) (fun c5 => ?_)))))
      ·refine qN rfl (zqm rfl (qV (ynk rfl) (qV (yfa fl36_1 rfl) (qV ((by first | exact yld U24 rfl rfl aj rfl | exact yld U24 rfl rfl aN rfl)) ?_)))); refine zqc [.tmp 80] cf58 rfl (clean_ret bC.tree) ?_; rintro _ w2 ⟨rfl, fQ, am⟩; have oo : ∀ g, F g → g < w1.heap.size := fun g hg => bC.lt (.inr (.inr (.inr (.inr (.inr hg))))); have EW := (hG.mono (Nat.le_succ k)).clean hz (by omega); have EX := EW.inv; have ay := am.blk aj bC.fq; have I3 := aj.lt; have dH := am.size; obtain ⟨P, hP⟩ : ∃ P, (pgs X.T.size X.T.nodes X.ns fun _ => true) = P := ⟨_, rfl⟩; have vG : P.length = X.ns.length := by rw [← hP, pgs_all_len]
       refine zqa rfl (qM rfl (zqm rfl (zqm rfl (qV (ynk rfl) (qV (yfa fl36_1 rfl) (qV (yld U24 rfl rfl ay rfl) (zqc [.tmp 86] cf22 rfl (pages_ret fQ EX (by have : X.clean.ns = X.ns := rfl; rw [this]; omega)) ?_))))))); rintro v3 w3 ⟨ai, aJ, -⟩; replace aJ : PgSl w3 v3 P := by rw [← hP]; exact aJ
       refine zqc [.tmp 87] cf29 rfl (pagesL_ret (Sl.rd aJ) (by omega)) ?_; rintro v4 w4 ⟨aX, fo, Bb⟩; have jK := ai.trans aX; have bs := jK.blk ay; have Ic := fQ.ext jK; have jS := ai.size; have jT := aX.size; have mE : ∀ g, v4.ownBlock = some g → w1.heap.size ≤ g ∧ g < w4.heap.size := fun g hg => ⟨by have := Bb g hg; omega, fo.lt hg⟩; refine qV (ynk rfl) (qV (yfa fl36_3 rfl) (rEffP rfl (zst ti33 rfl rfl (oneV_sl fo) bs (by simp)) ?_)); rintro w5 ⟨bu, aY⟩; replace bu : Blk w5 q [I (X.T.size : Int), ptr p 0, ptr m 0, v4, gv, I (X.nx : Int)] 36 := bu; have li := Ic.kp aY (fun g hg e => bC.fq (e ▸ hg)); have bU := fo.kp aY (fun g hg e => by have := (mE g hg).1; omega); have lg := aY.size; have d8 : X.T.given.length ≤ 2147483647 := hI.gl; refine rEnd (Run.qb (e := [(0, _), (4, _), (9, _)]) ?_); refine qN rfl (zqm rfl (zqm rfl (qV (ynk rfl) (qV (yfa fl36_1 rfl) (qV (yld U24 rfl rfl bu rfl) (zqc [.tmp 95] cf27 rfl (given_ret li (Nat.le_trans d8 (by decide))) ?_)))))); rintro v6 w6 ⟨ft, bq, mi⟩; replace ft : Sl w6 v6 3 1 X.T.given.length (X.T.given.map I) := ft; have bT := bq.blk bu; have rl : ∀ g, v6.ownBlock = some g → w5.heap.size ≤ g := mi; refine qV (ynk rfl) (qV (yfa fl36_4 rfl) (rEffP rfl (zst ti34 rfl rfl (oneV_sl ft) bT (by simp)) ?_)); rintro w7 ⟨dy, aW⟩; replace dy : Blk w7 q [I (X.T.size : Int), ptr p 0, ptr m 0, v4, v6, I (X.nx : Int)] 36 := dy; have wx := (li.ext bq).kp aW (fun g hg e => bC.fq (e ▸ hg)); have cP := (bU.ext bq).kp aW (fun g hg e => by have := (mE g hg).1; omega); have Id := ft.kp aW (fun g hg e => by have := rl g hg; omega); have cO : Kp (fun k => F k ∨ k = q) w1 w7 := ((am.mono' (fun k e => .inl e)).trans (jK.kp.trans (aY.mono' (fun k e => .inr e)))).trans (bq.kp.trans (aW.mono' (fun k e => .inr e)))
       have Ie := bC.reset (T' := X.clean.T) (p' := p) (nb' := nb) (F' := F) (O' := X.T.nodes) (os' := X.ns) (gs' := X.T.given) (sv' := v4) (gv' := v6) cO dy wx rfl (fun k hk => .inl hk) (by rw [hP]; exact cP) Id
        (fun g hg => by
         have h1 : w1.heap.size ≤ g := hg.elim (fun e => (mE g e).1) (fun e => by have := rl g e; omega)
         exact ⟨h1, fun e => by have := oo g e; omega⟩) (fun g hg e => by have := rl g hg; have := (mE g e).2; omega)
       obtain ⟨eK, zr, gS⟩ := Ie; refine qM rfl (zqm rfl (qV (yeq rfl rfl) (rTrue (by (first | rfl | assumption | omega | decide)) ?_))); refine zqm rfl (zqm rfl (qV (ynk rfl) (qV (yfa fl36_1 rfl) (qV (yld U24 rfl rfl dy rfl) (zqc [.tmp 105] cf31 rfl (changed_ret wx EX (by have : X.clean.ns = X.ns := rfl; rw [this]; omega)) ?_))))); rintro v8 w8 ⟨br, db, -⟩; obtain ⟨ca, cc, rfl⟩ := PgSl.no db; have da := br.blk dy; refine qV (yln U52 rfl) (qV (yeq rfl rfl) (rTrue (by (first | rfl | assumption | omega | decide)) ?_)); refine qV (ypT rfl rfl) (zqm rfl (zqm rfl (qV (ynk rfl) (qV (yfa fl36_1 rfl) (qV (yld U24 rfl rfl da rfl) (zqc [.tmp 114] cf28 rfl (freed_ret (wx.ext br) (os := X.ns) (fun x hx => (hI.mem x).1 (Option.isSome_iff_ne_none.1 hx)) (by omega)) ?_)))))); rintro v9 w9 ⟨iw, fl, -, m4, -, bS, -⟩
       obtain rfl : fl = [] := List.eq_nil_iff_forall_not_mem.2 fun x hx => by
        obtain ⟨h1, h2⟩ := (m4 x).1 hx; exact (Option.isSome_iff_ne_none.1 h1) h2
       obtain ⟨fa, fc, rfl⟩ := some_ofE bS; refine qV (yln U34 rfl) (qV (yeq rfl rfl) (rTrue (by (first | rfl | assumption | omega | decide)) ?_)); refine qV (ypT rfl rfl) (zqa rfl (rEnd (Run.qb (e := [(4, _)]) ?_))); refine run_ret Tryz.func24 rfl ?_; have zF := br.trans iw; exact ⟨_, rfl, rfl, X.clean, ao (eK.ext zF) (zr.trans zF.kp) gS, EW, rfl, fun e => by omega⟩
      ·refine qN rfl (qV (yeq rfl rfl) (zqa rfl (rEnd (run_if rfl (fun c6 => ?_) (fun c6 => ?_)))))
       ·refine qN rfl (zqm rfl (zqc [.tmp 121] cf59 rfl (loadS_ret bC hG hz (by omega)) ?_)); rintro _ w2 ⟨rfl, X', p', sv', nb', F', cf, rh, dD, -, cO, lq⟩; refine zqa rfl (rEnd (run_ret Tryz.func24 rfl ?_)); exact ⟨_, rfl, rfl, X', ao cf cO lq, rh.mono (Nat.le_succ k), dD, fun e => by omega⟩
       ·refine run_skip (run_inBlock (qN rfl (zqa rfl (rEnd (run_ret Tryz.func24 rfl ?_))))); exact ⟨_, rfl, rfl, X, ao bC (Ext.refl _).kp (fun k h => .inl h), hG.mono (Nat.le_succ k), rfl, fun e => by omega⟩
end
theorem rd_opA {w : World} {b off n cap : Nat} {l : List TOp} {i : Nat} {o : TOp} (h : Rd w (.slice (some ⟨b, off, none⟩) n cap) 6 n (l.flatMap TOp.cs)) (hi : i < n) (hy : l[i]? = some o) : ∀ (j : Nat) u, o.cs[j]? = some u → w.cell? ⟨b, off + i * 6 + j, none⟩ = some u := fun j u hj => by
 have hl : j < o.cs.length := (List.getElem?_eq_some_iff.1 hj).1
 rw [rd_op h hi hy j hl]; exact hj
def St1 (w0 w : World) (q m : Nat) (X : Sx) : Prop := ∃ fp, StF w q m X fp ∧ (∀ k, fp k → w0.heap.size ≤ k) ∧ Ext w0 w
theorem St1.ext {w0 w w' : World} {q m : Nat} {X : Sx} (h : St1 w0 w q m X) (k : Ext w w') : St1 w0 w' q m X := by
 obtain ⟨fp, h1, h2, h3⟩ := h
 exact ⟨fp, h1.ext k, h2, h3.trans k⟩
theorem St1.step {w0 w w' : World} {q m : Nat} {X' : Sx} {fp : Nat → Prop} (h2 : ∀ k, fp k → w0.heap.size ≤ k) (h3 : Ext w0 w) (h : StR q m fp w w' X') : St1 w0 w' q m X' := by
 obtain ⟨fp', h4, h5, h6⟩ := h
 refine ⟨fp', h4, fun k hk => ?_, h3.trans_new h5 (fun i hi => h2 i hi)⟩
 rcases h6 k hk with e | e
 ·exact h2 k e
 ·have := h3.size; omega
section
variable {w0 w : World} {q p m : Nat} {z : Nat} {nb : Int → Nat} {F : Nat → Prop}
theorem St1.init (hx : Ext w0 w) (hT : TreeA w p (Tr0 z) nb F) (hF : ∀ k, F k → w0.heap.size ≤ k) (hm : Blk w m [.slice none 0 0] 32) (hB : Blk w q [I (z : Int), ptr p 0, ptr m 0, .slice none 0 0, .slice none 0 0, I 0] 36) (zO : q ≠ m) (hq : ¬ F q) (Dh : ¬ F m) (B1 : w0.heap.size ≤ q) (sI : w0.heap.size ≤ m) : St1 w0 w q m ⟨Tr0 z, 0, [], [], fun _ => none, [], [], 0⟩ := by
 refine ⟨_, ⟨p, _, _, _, nb, F, StM.init hT hm hB zO hq Dh, fun _ => Iff.rfl⟩, fun k hk => ?_, hx⟩
 rcases hk with e | e | e | e | e | e
 ·omega
 ·omega
 ·simp [Value.ownBlock] at e
 ·simp [Value.ownBlock] at e
 ·simp [Value.ownBlock] at e
 ·exact hF k e
end
theorem OpsT.kp {w0 w w' : World} {v : Value} {l : List TOp} {fp : Nat → Prop} (h : OpsT w0 v l) (h2 : ∀ k, fp k → w0.heap.size ≤ k) (h3 : Ext w0 w) (k : Kp fp w w') : Rd w' v 6 l.length (l.flatMap TOp.cs) :=
 (h.ext (h3.trans_new k (fun i hi => h2 i hi))).rd
theorem OpsT.apart {w0 : World} {v : Value} {l : List TOp} {fp : Nat → Prop} (h : OpsT w0 v l) (h2 : ∀ k, fp k → w0.heap.size ≤ k) {o : TOp} (ho : o ∈ l) : 0 < o.nos.length → ∀ g, o.nv.ownBlock = some g → ¬ fp g := fun h0 g hg e => by
 have := Rd.ltz (h.nos o ho).1 (by omega) h0 hg
 have := h2 g e
 omega
section
variable {e : Env} {d : Option Nat} {ty t' : TypeId} {pos : String} {aft : Array Edge} {g : Option (Nat × Bool)} {x y : Operand} {w : World}
theorem yneP8 {a c : Int} {b u : Bytes} (hx : look e x = some (.agg #[I a, S b])) (hy : look e y = some (.agg #[I c, S u])) : Y Tryz.prog e ⟨d, .binOp .neq 54 x y t', ty, pos, aft, g⟩ (.bool (!(decide (a = c) && decide (b = u)))) w w :=
 yneS2 U54 (by kernel_rfl) (by kernel_rfl) (by decide) (by decide) rfl rfl (by kernel_rfl) (by kernel_rfl) hx hy (fun w => eq_intW U3) (fun w => eq_strW U9)
end
section
variable {w : World}
set_option maxHeartbeats 8000000 in
theorem treeStores_ret {lv : Value} {l : List TOp} (hL : OpsT w lv l) :
  Ret Tryz.prog 7 [lv] w fun v w' => v = .bool true ∧ Ext w w' := by
 have oq := hL.le
 have kg : sizeOk ((512 : Nat) : Int) := by unfold sizeOk; decide
 obtain ⟨la, lc, rfl, -⟩ := hL.rd.shape
 refine ret_of_run (e := [(0, _)]) Tryz.func7 rfl Tryz.ntmps7 rfl rfl (qN rfl (zqa rfl (qM rfl (zqc [.const (Value.int .i64 512)] cf8 rfl (newT_ret 512) ?_))))
 rintro v1 w1 ⟨aa, iG⟩
 obtain ⟨p, F, rfl, hT, hF⟩ : ∃ p F, v1 = .tuple #[ptr p 0, I 0] ∧ TreeA w1 p (Tr0 512) (fun _ => 0) F ∧ ∀ k, F k → w.heap.size ≤ k := by
  rcases iG with ⟨-, h⟩ | ⟨h, -⟩
  ·exact h
  ·exact absurd kg h
 refine zqm rfl (qV (yex rfl rfl) (qV (yex rfl rfl) (zqa rfl (zqa rfl (rEnd (run_seq (qN rfl (zqm rfl (qV (yne rfl rfl) (rEnd (run_if rfl (fun h1 => ?_) (fun h1 => ?_))))))))))))
 ·exact absurd rfl h1
 ·refine run_skip (qN rfl (zqm rfl (qV (ybd (parts := []) (cs := [_]) ti32 rfl sp32 rfl rfl) (rValP rfl rfl (pbx rfl rfl) ?_)))); rintro _ w2 ⟨m, rfl, hm, ad, xw⟩; refine qV (ybd (parts := [(0, .const (Value.int .i64 512)), (1, .tmp 18), (2, .tmp 20)]) (cs := [_, _, _, _, _, _]) ti36 rfl sp36 rfl rfl) (rValP rfl rfl (pbx rfl rfl) ?_); rintro _ w3 ⟨q, rfl, hq, ai, EY⟩; have eV := aa.size; have dH := ad.size; have jV := xw.lt; have EZ := hT.lt; have mI : St1 w w3 q m ⟨Tr0 512, 0, [], [], fun _ => none, [], [], 0⟩ := St1.init ((aa.trans ad).trans ai) ((hT.ext ad).ext ai) hF (ai.blk xw) EY (by omega) (fun e => by have := EZ _ e; omega) (fun e => by have := EZ _ e; omega) (by omega) (by omega); refine zqa rfl (rEnd (run_seq (qN rfl (zqa rfl (rEnd (run_block (zqu (α := Nat) (0) (fun i => [(0, .slice la l.length lc), (5, ptr q 0), (6, I (i : Int))]) (fun i w' => i ≤ 200 ∧ i ≤ l.length ∧ ∃ X, St1 w w' q m X ∧ Gh X i ∧ X.T.size = 512) (fun i => 200 - i) ?hI ?hround)))))))
  case hI => exact ⟨Nat.zero_le _, Nat.zero_le _, _, mI, gh0 512, rfl⟩
  case hround =>
   clear mI xw EY hT; rintro i u1 ⟨hi, cF, X0, mI, F0, dD⟩ ih; obtain ⟨fp, Fc, h2, h3⟩ := id mI
   try dsimp only
   refine run_seq (qN rfl (zqm rfl (zqm rfl (qV (yln U22 rfl) (qV (ylt rfl rfl) (zqm rfl (rVal_if (fun g1 => ?_) (fun g1 => ?_))))))))
   ·refine zqm rfl (qV (ylt rfl rfl) (qV (ypT rfl rfl) (rEnd (run_if rfl (fun g2 => ?_) (fun g2 => ?_)))))
    ·have af : i < l.length := by omega
     obtain ⟨b1, o1, o, rfl, ho⟩ := rd_ops hL.rd rfl af; have Dt := List.mem_of_getElem? ho; have Du : sizeOk (X0.T.size : Int) := by rw [dD]; exact kg
     have Dv := hL.ext h3; refine run_skip (run_seq (run_block (run_seq (qN rfl (zqm rfl (zqm rfl (zqm rfl (qV (yis U22 ti39 rfl rfl (by omega)) (qV (yldA U39 rfl ti39 rfl (rd_opA Dv.rd af ho) rfl) (zqc [.tmp 33, .tmp 37] cf24 rfl (stepS_ret Fc F0 Du (by omega) o (Dv.nos o Dt) (Dv.str o Dt) (hL.apart h2 Dt)) ?_)))))))))); rintro _ u2 ⟨rfl, X, ln, hG, r9, -⟩; have zG := St1.step h2 h3 ln; obtain ⟨fp2, Dw, IR, IS⟩ := id zG; obtain ⟨p2, mv2, sv2, gv2, nb2, F2, cf, If⟩ := id Dw; have hX : sizeOk (X.T.size : Int) := by rw [r9]; exact Du
     have hI := hG.inv; have vk := Inv.cnts hX hI; have fi := hG.el; have Eo := hG.ol; have d8 := hI.gl; have bj := hI.nodup; have jR := cf.blk; clear ln mI Fc F0 Du; obtain ⟨P, hP⟩ : ∃ P, (pgs X.T.size X.T.nodes X.ns fun _ => true) = P := ⟨_, rfl⟩; obtain ⟨st, mg⟩ : ∃ st, (pgs X.T.size X.O X.os fun _ => true) = st := ⟨_, rfl⟩; have vG : P.length = X.ns.length := by rw [← hP, pgs_all_len]
     have l9 : st.length = X.os.length := by rw [← mg, pgs_all_len]
     have At : ∀ x, x ∈ P.map (·.1) ↔ X.T.nodes x ≠ none := fun x => by
      rw [← hP, pgs_fst, List.mem_filter, sortZ_mem, hI.mem x]; simp
     have vf : ∀ x, x ∈ st.map (·.1) ↔ X.T.old x = true := fun x => by
      rw [← mg, pgs_fst, List.mem_filter, sortZ_mem, hG.old x, hG.om x]; simp
     have IT : (pgs X.T.size X.T.nodes X.ns X.T.changed).length ≤ X.ns.length := pgs_len; refine qV ((by first | exact yntd rfl | exact ynt rfl)) ?_; refine rEnd (run_false rfl (run_skip (qN rfl (zqm rfl (qV (ynk rfl) (qV (yfa fl36_1 rfl) (qV (yld U24 rfl rfl jR rfl) (zqc [.tmp 43] cf28 rfl (freed_ret cf.tree (os := X.os) (fun x hx => (hG.om x).1 ((hG.old x).1 hx)) (by omega)) ?_)))))))); rintro v3 u3 ⟨ai, fl, gS, m4, Af, aJ, -⟩; obtain ⟨fa, fc, rfl⟩ := some_ofE aJ
     have hW : writ fl st (pgs X.T.size X.T.nodes X.ns X.T.changed) = P := by
      rw [← mg, ← hP]; exact writ_pgs bj hG.ond hI.mem hG.om hG.same (fun x => (m4 x).trans (and_congr_left' (hG.old x)))
     have ef := cf.ext ai; have aN := ef.blk; refine zqa rfl (qM rfl (zqm rfl (qV (ynk rfl) (qV (yfa fl36_1 rfl) (qV (yld U24 rfl rfl aN rfl) (zqc [.tmp 48] cf22 rfl (pages_ret ef.tree hI (by omega)) ?_)))))); rintro v4 u4 ⟨aX, fo, -⟩; rw [hP] at fo; refine zqc [.tmp 49] cf29 rfl (pagesL_ret (Sl.rd fo) (by omega)) ?_; rintro v5 u5 ⟨aF, bU, -⟩; obtain ⟨pa, pc, rfl⟩ := some_ofE bU; have jI := aX.trans aF; have eU := ef.ext jI; have bu := eU.blk; have ac := Ext.drew0 u5; refine zqa rfl (rEnd (run_seq (run_draw (fun w' => Ext u5 w') (by kernel_rfl) rfl (zqt 0 rfl (ymv rfl) ac (zqt 1 rfl (ynk rfl) ac (zqt 2 rfl (yfa fl36_3 rfl) ac (qT 3 rfl (fun _ h=>yld U33 rfl rfl (h.blk bu) rfl) ac (zqt 4 rfl (ymv rfl) ac (zqt 5 rfl (ynk rfl) ac (zqt 6 rfl (yfa fl36_1 rfl) ac (qT 7 rfl (fun _ h=>yld U24 rfl rfl (h.blk bu) rfl) ac (zqt 10 rfl (ymv rfl) ac (zqo 8 [.tmp 58] rfl cf31 rfl (changed_ret (eU.tree.ext ac) hI (by omega)) ?_))))))))))))); rintro v6 u6 ⟨bq, ft, -⟩; refine ⟨ac.trans bq, ?_⟩; have bM := ac.trans bq; refine zqo 9 [.tmp 59] rfl cf29 rfl (pagesL_ret (Sl.rd ft) (by omega)) ?_; rintro v7 u7 ⟨aR, cP, -⟩; refine ⟨bM.trans aR, ?_⟩; have aK := bM.trans aR; have Dx : ∀ {w'}, Ext u5 w' → Rd w' sv2 2 st.length (pgC st) := fun k => by rw [← mg]; exact (eU.ext k).sto.rd
     refine zqo 11 [.tmp 54, .tmp 60, .tmp 61] rfl cf30 rfl (written_ret (Dx aK) (Sl.rd cP) (((Sl.rd aJ).ext jI).ext aK) (by omega) (by omega) (by omega)) ?_; rintro v8 u8 ⟨br, db, -⟩; refine ⟨aK.trans br, ?_⟩; rw [hW] at db; have fL := aK.trans br; obtain ⟨wa, wc, rfl⟩ := some_ofE db; have zH := ((zG.ext ai).ext jI).ext fL; have jZ := eU.ext fL; have wy := (Sl.rd bU).ext fL; have rm := ((Sl.rd aJ).ext jI).ext fL; have Dy := Sl.rd db; clear aJ fo bU ft cP db aN bu ef; refine zqt 12 rfl (yas rfl) (aK.trans br) (qE (run_seq (qN rfl (zqm rfl (qV (yln U33 rfl) (zqm rfl (qV (yln U33 rfl) (qV (yne rfl rfl) (rEnd (run_if rfl (fun h5 => ?_) (fun h5 => ?_)))))))))))
     ·exact absurd rfl h5
     ·refine run_skip (run_seq (qN rfl (zqa rfl (rEnd (run_block (zqu (α := Nat) (0) (fun j => [(0, .slice (some ⟨b1, o1, none⟩) l.length lc), (5, ptr q 0), (6, I (i : Int)), (7, .slice fa fl.length fc), (8, .slice pa P.length pc), (9, .slice wa P.length wc), (10, I (j : Int))]) (fun j w' => j ≤ P.length ∧ Ext u8 w') (fun j => P.length - j) ?hI ?hround))))))
      case hI => exact ⟨Nat.zero_le _, Ext.refl _⟩
      case hround =>
       rintro j u9 ⟨hj, iw⟩ ih2
       try dsimp only
       refine run_seq (qN rfl (zqm rfl (zqm rfl (qV (yln U33 rfl) (qV (ylt rfl rfl) (rEnd (run_if rfl (fun ah => ?_) (fun ah => ?_))))))))
       ·have iD : j < P.length := by omega
        obtain ⟨b2, o2, y, rfl, hy⟩ := rd_pgs Dy rfl iD; obtain ⟨b3, o3, y3, rfl, -⟩ := rd_pgs wy rfl iD; have eh := Ext.drew0 u9; refine run_skip (run_seq (run_block (run_seq (run_draw (fun w' => Ext u9 w') (by kernel_rfl) rfl (zqt 0 rfl (ymv rfl) eh (zqt 1 rfl (ymv rfl) eh (zqt 2 rfl (yis U33 ti54 rfl rfl (by omega)) eh (zqt 4 rfl (ymv rfl) eh (zqt 5 rfl (ymv rfl) eh (zqt 6 rfl (yis U33 ti54 rfl rfl (by omega)) eh (qT 3 rfl (fun _ hS => yldA U54 rfl ti54 rfl (rd_pg ((Dy.ext iw).ext hS) iD hy) rfl) eh (qT 7 rfl (fun _ hS => yldA U54 rfl ti54 rfl (rd_pg ((wy.ext iw).ext hS) iD hy) rfl) eh (zqt 8 rfl (yneP8 rfl rfl) eh ?_))))))))))))); refine qE (run_cond rfl (fun h6 => ?_) (fun h6 => ?_))
        ·simp at h6
        ·refine run_skip (run_inBlock (run_reg rfl (zqm rfl (zqd rfl rfl (zqa rfl (rEnd ?_)))))); exact (ih2 (j + 1) _ ⟨by omega, iw.trans eh⟩ (by omega)).qb
       ·have Dz := zH.ext iw; have pf := jZ.ext iw; have Ig := wy.ext iw; have ph := rm.ext iw; clear ih2 ah wy rm Dy jZ zH; refine run_exit rfl (qN rfl (zqa rfl (rEnd (run_block (zqu (α := Nat) (0) (fun j => [(0, .slice (some ⟨b1, o1, none⟩) l.length lc), (5, ptr q 0), (6, I (i : Int)), (7, .slice fa fl.length fc), (8, .slice pa P.length pc), (11, I (j : Int))]) (fun j w' => j ≤ fl.length ∧ Ext u9 w') (fun j => fl.length - j) ?hI ?hround)))))
        case hI => exact ⟨Nat.zero_le _, Ext.refl _⟩
        case hround =>
         rintro k u10 ⟨hk, fM⟩ ih2
         try dsimp only
         refine run_seq (qN rfl (zqm rfl (zqm rfl (qV (yln U34 rfl) (qV (ylt rfl rfl) (rEnd (run_if rfl (fun ah => ?_) (fun ah => ?_))))))))
         ·have aS : k < fl.length := by omega
          obtain ⟨b2, o2, x, rfl, hx⟩ := rd_getI ph aS; have eG := pf.ext fM; have bG := eG.blk; have xh := (m4 x).1 (List.mem_of_getElem? hx); have dc := Ext.drew0 u10; have uL : ∀ {w'}, Ext u10 w' → Rd w' sv2 2 st.length (pgC st) := fun k => by rw [← mg]; exact (eG.ext k).sto.rd
          have sk : ∀ w', Ext u10 w' → Rd w' (.slice (some ⟨b2, o2, none⟩) fl.length fc) 1 fl.length (fl.map I) := fun w' k => (ph.ext fM).ext k; refine run_skip (run_seq (run_block (run_seq (run_draw (fun w' => Ext u10 w') (by kernel_rfl) rfl (zqt 0 rfl (ymv rfl) dc (zqt 1 rfl (ynk rfl) dc (zqt 2 rfl (yfa fl36_3 rfl) dc (qT 3 rfl (fun _ h=>yld U33 rfl rfl (h.blk bG) rfl) dc (zqt 4 rfl (ymv rfl) dc (zqt 5 rfl (ymv rfl) dc (zqt 6 rfl (yis U34 ti3 rfl rfl (by omega)) dc (qT 7 rfl (fun _ h=>yldc U3 rfl rfl (rd_intT (sk _ h) aS hx)) dc (zqo 8 [.tmp 92, .tmp 96] rfl cf32 rfl (page_ret (l := st) (uL dc) (by omega) x) ?_))))))))))))); rintro _ u11 ⟨rfl, iC⟩; refine ⟨(by rw [iC]; exact dc), ?_⟩; have dX : Ext u10 u11 := by rw [iC]; exact dc
          refine zqt 9 rfl ((by first | exact yntd rfl | exact ynt rfl)) ((by rw [iC]; exact dc)) ?_; refine zqt 10 rfl (ymv rfl) ((by rw [iC]; exact dc)) ?_; refine rh_if (fun c1 => ?_) (fun c1 => ?_)
          ·exact absurd ((vf x).2 xh.1) c1
          ·refine zqt 11 rfl (ymv rfl) ((by rw [iC]; exact dc)) ?_; refine zqt 12 rfl (ymv rfl) ((by rw [iC]; exact dc)) ?_; refine zqt 13 rfl (ymv rfl) ((by rw [iC]; exact dc)) ?_; refine zqt 14 rfl (yis U34 ti3 rfl rfl (by omega)) ((by rw [iC]; exact dc)) ?_; refine qT 15 rfl (fun _ h=>yldc U3 rfl rfl (rd_intT (sk _ h) aS hx)) ((by rw [iC]; exact dc)) ?_; refine zqo 16 [.tmp 100, .tmp 104] rfl cf32 rfl (page_ret (l := P) ((Ig.ext fM).ext dX) (by omega) x) ?_; rintro _ u12 ⟨rfl, fO⟩; refine ⟨(by rw [fO]; exact dX), ?_⟩; have aB : Ext u10 u12 := by rw [fO]; exact dX
           refine zqt 17 rfl (ypF rfl rfl) ((by rw [fO]; exact dX)) ?_; refine zqt 18 rfl (ymv rfl) ((by rw [fO]; exact dX)) ?_; refine rh_if (fun c2 => ?_) (fun c2 => ?_)
           ·exact absurd xh.2 ((At x).1 c2)
           ·refine zqt 19 rfl (ymv rfl) ((by rw [fO]; exact dX)) ?_; refine zqt 20 rfl (ynk rfl) ((by rw [fO]; exact dX)) ?_; refine zqt 21 rfl (yfa fl36_1 rfl) ((by rw [fO]; exact dX)) ?_; refine qT 22 rfl (fun _ h=>yld U24 rfl rfl (h.blk bG) rfl) ((by rw [fO]; exact dX)) ?_; refine zqt 24 rfl (ymv rfl) ((by rw [fO]; exact dX)) ?_; refine zqt 25 rfl (ymv rfl) ((by rw [fO]; exact dX)) ?_; refine zqt 26 rfl (yis U34 ti3 rfl rfl (by omega)) ((by rw [fO]; exact dX)) ?_; refine qT 27 rfl (fun _ h=>yldc U3 rfl rfl (rd_intT (sk _ h) aS hx)) ((by rw [fO]; exact dX)) ?_; refine zqo 23 [.tmp 111] rfl cf27 rfl (given_ret (eG.ext aB).tree (by omega)) ?_; rintro v13 u13 ⟨gw, au, -⟩; refine ⟨aB.trans au, ?_⟩; have aI := aB.trans au; obtain ⟨ga, gc, rfl⟩ := some_ofE gw; refine zqo 28 [.tmp 112, .tmp 116] rfl cf33 rfl (has_ret (l := X.T.given) (Sl.rd gw) (by omega) x) ?_; rintro _ u14 ⟨rfl, bI⟩; refine ⟨(by rw [bI]; exact aI), ?_⟩; have ar : Ext u10 u14 := by rw [bI]; exact aI
            refine zqt 29 rfl (ypF rfl rfl) ((by rw [bI]; exact aI)) ?_; refine zqt 30 rfl (ymv rfl) ((by rw [bI]; exact aI)) ?_; refine rh_if (fun c3 => ?_) (fun c3 => ?_)
            ·have := (hI.giv.free x c3).2; rw [xh.1] at this; cases this
            ·refine zqt 31 rfl (ymv rfl) ((by rw [bI]; exact aI)) ?_; refine zqt 32 rfl (ygt rfl rfl) ((by rw [bI]; exact aI)) ?_; refine zqt 33 rfl (ymv rfl) ((by rw [bI]; exact aI)) ?_; refine rh_if (fun c4 => ?_) (fun c4 => ?_)
             ·obtain ⟨j, rfl⟩ : ∃ j, k = j + 1 := ⟨k - 1, by omega⟩; obtain ⟨y, hy⟩ : ∃ y, fl[j]? = some y := ⟨_, List.getElem?_eq_getElem (by omega)⟩
              have mL : y < x := by
               obtain ⟨a1, a2⟩ := List.getElem?_eq_some_iff.1 hy; obtain ⟨e1, e2⟩ := List.getElem?_eq_some_iff.1 hx; have := List.pairwise_iff_getElem.1 gS j (j + 1) a1 e1 (by omega); rw [a2, e2] at this; exact this
              refine zqt 34 rfl (ymv rfl) ((by rw [bI]; exact aI)) ?_; refine zqt 35 rfl (ymv rfl) ((by rw [bI]; exact aI)) ?_; refine zqt 36 rfl (ysb rfl rfl (by omega)) ((by rw [bI]; exact aI)) ?_; refine zqt 39 rfl (ymv rfl) ((by rw [bI]; exact aI)) ?_; refine zqt 40 rfl (ymv rfl) ((by rw [bI]; exact aI)) ?_; refine zqt 41 rfl (yis U34 ti3 rfl rfl (by omega)) ((by rw [bI]; exact aI)) ?_; rw [show (((j + 1 : Nat) : Int) - 1) = ((j : Nat) : Int) by omega]; refine zqt 37 rfl (yis U34 ti3 rfl rfl (by omega)) ((by rw [bI]; exact aI)) ?_; refine qT 38 rfl (fun _ h=>yldc U3 rfl rfl (rd_intT (sk _ h) (by omega) hy)) ((by rw [bI]; exact aI)) ?_; refine qT 42 rfl (fun _ h=>yldc U3 rfl rfl (rd_intT (sk _ h) aS hx)) ((by rw [bI]; exact aI)) ?_; refine zqt 43 rfl (yge rfl rfl) ((by rw [bI]; exact aI)) ?_; refine zqt 44 rfl (ypT rfl rfl) ((by rw [bI]; exact aI)) ?_; refine zqt 45 rfl (ypF rfl rfl) ((by rw [bI]; exact aI)) ?_; refine qE (run_if rfl (fun c5 => ?_) (fun c5 => ?_))
              ·omega
              ·refine run_skip (run_inBlock (run_reg rfl (zqm rfl (zqd rfl rfl (zqa rfl (rEnd ?_)))))); exact (ih2 (j + 1 + 1) u14 ⟨by omega, fM.trans ar⟩ (by omega)).qb
             ·refine qJ 34 rfl ((by rw [bI]; exact aI)) ?_; refine qJ 35 rfl ((by rw [bI]; exact aI)) ?_; refine qJ 36 rfl ((by rw [bI]; exact aI)) ?_; refine qJ 37 rfl ((by rw [bI]; exact aI)) ?_; refine qJ 38 rfl ((by rw [bI]; exact aI)) ?_; refine qJ 39 rfl ((by rw [bI]; exact aI)) ?_; refine qJ 40 rfl ((by rw [bI]; exact aI)) ?_; refine qJ 41 rfl ((by rw [bI]; exact aI)) ?_; refine qJ 42 rfl ((by rw [bI]; exact aI)) ?_; refine qJ 43 rfl ((by rw [bI]; exact aI)) ?_; refine zqt 44 rfl (ypF rfl rfl) ((by rw [bI]; exact aI)) ?_; refine zqt 45 rfl (ypF rfl rfl) ((by rw [bI]; exact aI)) ?_; refine qE (run_false rfl (run_skip (run_inBlock (run_reg rfl (zqm rfl (zqd rfl rfl (zqa rfl (rEnd ?_)))))))); exact (ih2 (k + 1) u14 ⟨by omega, fM.trans ar⟩ (by omega)).qb
         ·refine run_exit rfl (run_inBlock (run_reg rfl (zqm rfl (zqd rfl rfl (zqa rfl (rEnd ?_)))))); exact (ih (i + 1) u10 ⟨by omega, by omega, X, Dz.ext fM, hG, r9.trans dD⟩ (by omega)).qb
    ·refine run_exit rfl (qN rfl (zqc [] cf16 rfl (awake_ret u1) ?_)); rintro _ u2 ⟨rfl, ad⟩; refine zqa rfl (rEnd (run_ret Tryz.func7 rfl ?_)); exact ⟨_, rfl, rfl, h3.trans ad⟩
   ·refine qS (qS (qV (ypF rfl rfl) (rEnd (run_false rfl (run_exit rfl (qN rfl (zqc [] cf16 rfl (awake_ret u1) ?_))))))); rintro _ u2 ⟨rfl, ad⟩; refine zqa rfl (rEnd (run_ret Tryz.func7 rfl ?_)); exact ⟨_, rfl, rfl, h3.trans ad⟩
end
end Go.Proofs.YtocnhaoilnojmaaGreat
namespace Go.Proofs.YtocnhaoilnojmaaGreat
open Go Go.ChangeShapes Go.WideShapes Go.ChangeAt Go.RowKit
set_option linter.all false

def readables (P : Program) (ts : List TypeId) : Bool := ts.all fun t => P.readableRec t && decide (t < P.types.size)

theorem trodAll_below {H : Type} {enc : TypeId × Value → H} {P : Program} (hl : laidOutB P = true) {W W' : World} (hb : Below W.heap.size W W') :
    ∀ {ts : List TypeId} {vs : List Value} {ds : List (DataW H)} {ps : List MemPlace}, readables P ts = true → DataW.TrodAll enc P W 0 (fun _ => true) true ts vs ds ps →
      DataW.TrodAll enc P W' 0 (fun b => decide (b < W.heap.size)) true ts vs ds ps
  | [], [], [], _, _, h => h
  | t :: ts, v :: vs, d :: ds, _, hr, h => by
    obtain ⟨p, q, h1, h2, rfl⟩ := h
    simp only [readables, List.all_cons, Bool.and_eq_true, decide_eq_true_eq] at hr
    exact ⟨p, q, Below.trod hl hr.1.1 hr.1.2 h1 hb (by obtain ⟨m, hm⟩ := h1; exact DataW.trod_lt m _ _ _ hm), trodAll_below hl hb hr.2 h2, rfl⟩
  | [], [], _ :: _, _, _, h => h.elim
  | [], _ :: _, _, _, _, h => h.elim
  | _ :: _, [], _, _, _, h => h.elim
  | _ :: _, _ :: _, [], _, _, h => h.elim

theorem trodAll_len {H : Type} {enc : TypeId × Value → H} {P : Program} {W : World} {base : Nat} {spare : Nat → Bool} {held : Bool} :
    ∀ {ts : List TypeId} {vs : List Value} {ds : List (DataW H)} {ps : List MemPlace}, DataW.TrodAll enc P W base spare held ts vs ds ps → ds.length = ts.length
  | [], [], [], _, _ => rfl
  | t :: ts, v :: vs, d :: ds, _, h => by
    obtain ⟨p, q, h1, h2, rfl⟩ := h
    simpa using trodAll_len h2
  | [], [], _ :: _, _, h => h.elim
  | [], _ :: _, _, _, h => h.elim
  | _ :: _, [], _, _, h => h.elim
  | _ :: _, _ :: _, [], _, h => h.elim

theorem law_lifted {H : Type} {enc : TypeId × Value → H} {C : Checked} {os : Os} {f : FuncId} {fn : Func} {s : ChangeSpec} {t : TypeId} {ts : List TypeId}
    (own : ownKnob C.prog.godebug = none) (started : os.Started) (hl : laidOutB C.prog = true) (noInit : C.prog.inits.idxOf? f = none) (hfn : C.prog.funcs[f]? = some fn)
    (hts : fn.params.toList = ts) (hrd : readables C.prog ts = true) (hrt : fn.resultTypes = #[t]) (hb : C.prog.underlying t = some .bool) (hsv : s.vars = [])
    (hspec : ∀ ds : List (DataW H), ds.length = ts.length → s.fn H ds = { results := [.lit (.bool true)], args := ds })
    (witness : ∃ (w : World) (tape : Tape) (i : Input), w.os = os ∧ (w.forCall tape i).Shaped C.prog ∧ i.vars = [] ∧ Input.okWide C.prog (w.forCall tape i) .any w.heap.size f i ∧
      s.pre6 enc C.prog fn [] false (w.forCall tape i).memory i.args ∧ ({} : Assume).holds C.prog (lone (Frame.enter C.prog f i.args .normal) [] (w.forCall tape i)))
    (hret : ∀ (W : World) (base : Nat) (args : List Value) (ds : List (DataW H)) (ps : List MemPlace),
      (∀ (j : Nat) t v, ts[j]? = some t → args[j]? = some v → Value.okWide C.prog W .any base t v) →
      DataW.TrodAll enc C.prog W 0 (fun _ => true) true ts args ds ps → W.noneFrozen ps →
      (DataW.weightsEach C.prog ts ds).all (· ≤ reachBytes) = true →
      Ret C.prog f args W fun v w' => v = .bool true ∧ Ext W w') :
    ReturnsInHanded {} C os f .any (s.pre6 enc C.prog fn [] false) (s.post enc C.prog fn false true false false) := by
  refine returnsInHanded_of_change_sized own started noInit hfn witness ?_
  intro W base args ds gs before hval0 hW _ hsz0 _
  have hW' := hW
  obtain ⟨p, q, hA, hV, rfl, hfz, _⟩ := hW
  rw [hsv] at hV
  obtain ⟨rfl, rfl⟩ := trodVars_none hV
  rw [hts] at hA
  have hlen := trodAll_len hA
  have hsz : (DataW.weightsEach C.prog ts ds).all (· ≤ reachBytes) = true := by
    have hv : s.plain.varTypes C.prog = [] := by simp [ChangeSpec.plain, DataSpec.varTypes, hsv]
    rw [hts, hv, List.append_nil, List.append_nil] at hsz0
    exact hsz0
  have hr := hret W base args.toList ds p (fun j t v h1 h2 => hval0 j t v (by rw [← hts] at h1; simpa using h1) (by simpa using h2)) hA (by rw [List.append_nil] at hfz; exact hfz) hsz
  unfold Ret at hr; rw [Array.toArray_toList] at hr
  refine Calls.mono hr fun x W' ⟨v, hx, hv, hext⟩ => ?_
  subst hx; subst hv
  have bel := hext.below
  refine ⟨_, rfl, ds, [], p ++ [], [], p, [], hW', ?_, ?_, ?_, bel.frame _, fun h => by cases h⟩
  · rw [List.append_nil, hspec ds hlen, hrt]
    exact trodAll_mk1 (shut_bool hb _)
  · rw [List.append_nil, hspec ds hlen, hts]
    exact trodAll_below hl bel hrd hA
  · rw [hsv, List.append_nil, hspec ds hlen]
    rfl
theorem own : ownKnob Tryz.prog.godebug = none := by kernel_rfl
theorem laidOut : laidOutB Tryz.prog = true := by kernel_rfl
theorem str_S (s : ByteArray) : Value.string s = S s.data.toList := by
  obtain ⟨⟨l⟩⟩ := s; rfl
end Go.Proofs.YtocnhaoilnojmaaGreat
