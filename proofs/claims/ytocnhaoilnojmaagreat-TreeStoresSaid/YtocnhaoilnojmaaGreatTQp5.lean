/- Texts TrZd, TrKb, TrKd, TrBs, PgE, R7A, R7B, R7C, R7D, TrRg, TrDt, TrPg, ShF, TrTs, TrJ, TrK, one behind the other (what the statement TreeStores does not use is left out). -/
import Derived.Test.YtocnhaoilnojmaaGreatTQp1
import Derived.Test.YtocnhaoilnojmaaGreatTQp3
import Derived.Test.YtocnhaoilnojmaaGreatTQp4
import Derived.Shelf.Strings.Repeat
import Derived.Shelf.SlSortCmp.WholeK
import Derived.Test.YtocnhaoilnojmaaGreatProg
import Derived.Sort.OwnSorted
namespace Go.Proofs.YtocnhaoilnojmaaGreat
open Go Go.RowKit
set_option linter.all false
section
variable {z h : Nat} {N : Nodes} {no : Int} {lo : Bytes} {hi : Option Bytes} {ns : List Int} {es : Es} {c : Nat} {P : List (Bytes × Nat)}
theorem Bn.away {N' : Nodes} {x : Int} {l : Bytes} {u : Option Bytes} {n : List Int} {e : Es} (s : Bn z N h x l u n e) (he : ∀ y, N y ≠ none → y ∈ n → N' y = N y) : Bn z N' h x l u n e := s.move fun y hy => he y (s.some y hy) hy
theorem put_inn1 (hz : sizeOk z) (hc : Ch (Bn z N (h + 1)) lo hi c P ns es) (ko : keysOk (P.map (·.1))) (len : P.length + 1 ≤ orderE z) (nz : c ≠ 0 ∧ ∀ y ∈ P, y.2 ≠ 0) (inn : ∀ u ∈ P.map (·.1), inB lo hi u) (full : ∀ d ∈ c :: P.map (·.2), Full z N d) (bj : (no :: ns).Nodup) :
  Bn z (updI N no (some (innNd c P))) (h + 2) no lo hi (no :: ns) es ∧ Ev N (updI N no (some (innNd c P))) (no :: ns) (no :: ns) := by
 have hn := (List.nodup_cons.1 bj).1
 have mP := hc.kid (fun x l u n e hx => hx.mem)
 refine ⟨Bn.of_inner (by have := hz.1; omega) (updI_same _ _ _) ko len nz inn (fun d hd m hm => ?_) (hc.mono fun x l u n e hx hs => hx.move fun y hy => updI_ne fun e => hn (by rw [← e]; exact hs y hy)), Ev.set bj (List.mem_cons_self ..)⟩
 refine full d hd m ?_
 rw [← hm]
 exact (updI_ne (fun e => hn (by rw [← e]; exact mP d hd))).symm
theorem put_inn2 {f : Nat} (hz : sizeOk z) (hc : Ch (Bn z N (h + 1)) lo hi c P ns es) (ko : keysOk (P.map (·.1))) (h1 : orderE z < P.length + 1) (h2 : P.length + 1 ≤ 2 * orderE z) (nz : c ≠ 0 ∧ ∀ y ∈ P, y.2 ≠ 0) (inn : ∀ u ∈ P.map (·.1), inB lo hi u) (full : ∀ d ∈ c :: P.map (·.2), Full z N d) (bj : (no :: ns).Nodup) (cw : N no ≠ none) (hf : N (f : Int) = none) (vA : f ≠ 0) :
  ∃ up c2, P[(P.length + 1) / 2 - 1]? = some (up, c2) ∧ ∃ n1 n2 e1 e2, es = e1 ++ e2 ∧
    Bn z (updI (updI N no (some (innNd c (P.take ((P.length + 1) / 2 - 1))))) (f : Int) (some (innNd c2 (P.drop ((P.length + 1) / 2))))) (h + 2) no lo (some up) n1 e1 ∧
    Bn z (updI (updI N no (some (innNd c (P.take ((P.length + 1) / 2 - 1))))) (f : Int) (some (innNd c2 (P.drop ((P.length + 1) / 2))))) (h + 2) (f : Int) up hi n2 e2 ∧
    Ev N (updI (updI N no (some (innNd c (P.take ((P.length + 1) / 2 - 1))))) (f : Int) (some (innNd c2 (P.drop ((P.length + 1) / 2))))) (no :: ns) (n1 ++ n2) ∧ inB lo hi up ∧ lt lo up = true ∧ (1 ≤ up.length ∧ up.length ≤ 64) ∧
    (∀ m, updI (updI N no (some (innNd c (P.take ((P.length + 1) / 2 - 1))))) (f : Int) (some (innNd c2 (P.drop ((P.length + 1) / 2)))) no = some m → ¬ m.low z) ∧ Full z (updI (updI N no (some (innNd c (P.take ((P.length + 1) / 2 - 1))))) (f : Int) (some (innNd c2 (P.drop ((P.length + 1) / 2))))) f := by
 have hn := List.nodup_cons.1 bj
 have mP := hc.kid (fun x l u n e hx => hx.mem)
 have iR := hc.some (fun x l u n e hx => hx.some)
 obtain ⟨up, c2, hg, n1, n2, e1, e2, rfl, rfl, c1, c3, k1, k2, i1, i2, l1, l2, w1, w2, eu, Gc, Gd, dE⟩ := part_ok hc hz ko h1 h2 nz inn
 have bx := List.mem_of_getElem? hg
 have kh : no ≠ (f : Int) := fun e => cw (by rw [e]; exact hf)
 have Bv : ∀ y ∈ n1 ++ n2, y ≠ (f : Int) ∧ y ≠ no := fun y hy => ⟨fun e => iR y hy (by rw [e]; exact hf), fun e => hn.1 (by rw [← e]; exact hy)⟩
 have hN : ∀ (a b : Nd), ∀ y ∈ n1 ++ n2, updI (updI N no (some a)) (f : Int) (some b) y = N y := fun a b y hy => by
  rw [updI_ne (Bv y hy).1, updI_ne (Bv y hy).2]
 have aO : ∀ (a b : Nd), ∀ d ∈ c :: P.map (·.2), Full z (updI (updI N no (some a)) (f : Int) (some b)) d := fun a b d hd m hm => by
  rw [hN a b d (mP d hd)] at hm; exact full d hd m hm
 refine ⟨up, c2, hg, no :: n1, (f : Int) :: n2, e1, e2, rfl, ?_, ?_, ?_, eu, Gc, Gd, fun m hm => ?_, fun m hm => ?_⟩
 ·refine Bn.of_inner (by have := hz.1; omega) (by rw [updI_ne kh]; exact updI_same _ _ _) k1 l1 ⟨nz.1, fun y hy => nz.2 y (List.mem_of_mem_take hy)⟩ i1 (fun d hd => aO _ _ d ?_) (c1.mono fun x l u n e hx hs => hx.move fun y hy => hN _ _ y (List.mem_append_left _ (hs y hy))); rcases List.mem_cons.1 hd with rfl | hd
  ·exact List.mem_cons_self ..
  ·obtain ⟨y, hy, rfl⟩ := List.mem_map.1 hd; exact List.mem_cons_of_mem _ (List.mem_map.2 ⟨y, List.mem_of_mem_take hy, rfl⟩)
 ·refine Bn.of_inner (by have := hz.1; omega) (updI_same _ _ _) k2 l2 ⟨dE, fun y hy => nz.2 y (List.mem_of_mem_drop hy)⟩ i2 (fun d hd => aO _ _ d ?_) (c3.mono fun x l u n e hx hs => hx.move fun y hy => hN _ _ y (List.mem_append_right _ (hs y hy))); rcases List.mem_cons.1 hd with rfl | hd
  ·exact List.mem_cons_of_mem _ (List.mem_map.2 ⟨_, bx, rfl⟩)
  ·obtain ⟨y, hy, rfl⟩ := List.mem_map.1 hd; exact List.mem_cons_of_mem _ (List.mem_map.2 ⟨y, List.mem_of_mem_drop hy, rfl⟩)
 ·have e1 : Ev N (updI N no (some (innNd c (P.take ((P.length + 1) / 2 - 1))))) (no :: (n1 ++ n2)) (no :: (n1 ++ n2)) := Ev.set bj (List.mem_cons_self ..); refine e1.trans (Ev.new ?_ (by rw [updI_ne kh.symm]; exact hf) (fun x hx => ?_) (fun x hx => ?_) (by simp))
  ·have eB := List.nodup_append.1 hn.2; have hd : ∀ y ∈ n1 ++ n2, y ≠ (f : Int) ∧ y ≠ no := Bv; rw [List.cons_append, List.nodup_cons, List.nodup_append]; refine ⟨fun h => ?_, eB.1, List.nodup_cons.2 ⟨fun h => (hd _ (List.mem_append_right _ h)).1 rfl, eB.2.1⟩, fun a ha b hb e => ?_⟩
   ·rcases List.mem_append.1 h with h | h
    ·exact (hd _ (List.mem_append_left _ h)).2 rfl
    ·rcases List.mem_cons.1 h with h | h
     ·exact kh h
     ·exact (hd _ (List.mem_append_right _ h)).2 rfl
   ·subst e; rcases List.mem_cons.1 hb with h | h
    ·exact (hd a (List.mem_append_left _ ha)).1 h
    ·exact eB.2.2 a ha a h rfl
  ·simp only [List.cons_append, List.mem_cons, List.mem_append] at hx ⊢; rcases hx with h | h | h | h
   ·exact .inl (.inl h)
   ·exact .inl (.inr (.inl h))
   ·exact .inr h
   ·exact .inl (.inr (.inr h))
  ·simp only [List.cons_append, List.mem_cons, List.mem_append] at hx ⊢; rcases hx with h | h | h
   ·exact .inl h
   ·exact .inr (.inl h)
   ·exact .inr (.inr (.inr h))
 ·rw [updI_ne kh, updI_same] at hm; cases hm; exact w1
 ·rw [updI_same] at hm; cases hm; exact w2
end
set_option maxRecDepth 100000
structure InvP (T : Tr) (H : Nat) (ns : List Int) (es : Es) : Prop where
 bn : Bn T.size T.nodes H T.root [] none ns es
 nd : ns.Nodup
 all : ∀ x, T.nodes x ≠ none → x ∈ ns
 cnt : T.count = es.length
 num : ∀ x, T.nodes x ≠ none → 1 ≤ x ∧ x ≤ 2147483647
 gnum : ∀ x ∈ T.given, 1 ≤ x ∧ x ≤ 2147483647
 giv : GivS T
 chg : ∀ x, T.nodes x ≠ none → T.changed x = false → T.old x = true
theorem Inv.toP {T : Tr} {H : Nat} {ns : List Int} {es : Es} (h : Inv T H ns es) (hr : T.root ≠ 0) : InvP T H ns es := by
 rcases h.std with ⟨e, -⟩ | ⟨-, -, hB, bj, -⟩
 ·exact absurd e hr
 ·exact ⟨hB, bj, h.all, h.cnt, h.num, h.gnum, h.giv, h.chg⟩
theorem InvP.inv {T : Tr} {H : Nat} {ns : List Int} {es : Es} (h : InvP T H ns es) (hk : ∀ n, T.nodes T.root = some n → n.keys ≠ []) : Inv T H ns es := by
 have := h.num T.root (h.bn.some _ h.bn.mem)
 exact ⟨.inr ⟨by omega, h.bn.pos, h.bn, h.nd, hk⟩, h.all, h.cnt, h.num, h.gnum, h.giv, h.chg⟩
theorem InvP.gl {T : Tr} {H : Nat} {ns : List Int} {es : Es} (h : InvP T H ns es) : T.given.length ≤ 2147483647 := by
 have := rise_len h.giv.rise h.gnum
 omega
def EvoR (T T' : Tr) (g : Nat) : Prop := Evo T { T' with root := T.root } g
theorem Evo.rt {T T' : Tr} {g : Nat} (h : Evo T T' g) (a : Int) : Evo { T with root := a } { T' with root := a } g := ⟨h.size, h.old, rfl, h.len, h.giv, h.nod, ⟨h.srt.rise, h.srt.free⟩, h.chg⟩
theorem Evo.toR {T T' : Tr} {g : Nat} (h : Evo T T' g) : EvoR T T' g := ⟨h.size, h.old, rfl, h.len, h.giv, h.nod, ⟨h.srt.rise, h.srt.free⟩, h.chg⟩
theorem Evo.toR' {T T' : Tr} {g : Nat} {a : Int} (h : Evo T T' g) : EvoR T { T' with root := a } g := ⟨h.size, h.old, rfl, h.len, h.giv, h.nod, ⟨h.srt.rise, h.srt.free⟩, h.chg⟩
theorem EvoR.trans {T T1 T2 : Tr} {a b : Nat} (h1 : EvoR T T1 a) (h2 : EvoR T1 T2 b) : EvoR T T2 (a + b) :=
 Evo.trans (T1 := { T1 with root := T.root }) h1 (Evo.rt h2 T.root)
theorem EvoR.giv {T T' : Tr} {g : Nat} (h : EvoR T T' g) : GivS T' := ⟨(show Evo _ _ _ from h).srt.rise, (show Evo _ _ _ from h).srt.free⟩
theorem EvoR.num {T T' : Tr} {g : Nat} (h : EvoR T T' g) (hn : ∀ x, T.nodes x ≠ none → 1 ≤ x ∧ x ≤ 2147483647) (hg : ∀ x ∈ T.given, 1 ≤ x ∧ x ≤ 2147483647) : (∀ x, T'.nodes x ≠ none → 1 ≤ x ∧ x ≤ 2147483647) ∧ ∀ x ∈ T'.given, 1 ≤ x ∧ x ≤ 2147483647 :=
 ⟨fun x hx => ((show Evo _ _ _ from h).nod x hx).elim (hn x) (hg x), fun x hx => ((show Evo _ _ _ from h).giv x hx).elim (hg x) (fun e => hn x e.1)⟩
theorem EvoR.chgd {T T' : Tr} {g : Nat} (h : EvoR T T' g) (hc : ∀ x, T.nodes x ≠ none → T.changed x = false → T.old x = true) : ∀ x, T'.nodes x ≠ none → T'.changed x = false → T'.old x = true := fun x hx Bw => by
 rw [show T'.old = T.old from (show Evo _ _ _ from h).old]
 rcases (show Evo _ _ _ from h).chg x Bw with e | ⟨e, e'⟩
 ·exact absurd e hx
 ·exact hc x (by rw [← e]; exact hx) e'
theorem InvP.step {T T' : Tr} {H H' g : Nat} {ns ns' : List Int} {es es' : Es} (h : InvP T H ns es) (e : Evo T T' g) (b : Bn T.size T'.nodes H' T.root [] none ns' es') (v : Ev T.nodes T'.nodes ns ns') (c : T'.count = es'.length) : InvP T' H' ns' es' := by
 have hn := e.toR.num h.num h.gnum
 refine ⟨by rw [e.size, e.root]; exact b, v.nd, fun x hx => ?_, c, hn.1, hn.2, e.srt, e.toR.chgd h.chg⟩
 rcases v.d3 x hx with e | ⟨e1, e2⟩
 ·exact e
 ·exact absurd (h.all x e1) e2
section
variable {w : World} {p : Nat} {T : Tr} {nb : Int → Nat} {F : Nat → Prop}
theorem settle_ret (h : TreeA w p T nb F) {H : Nat} {ns : List Int} {es : Es} (hI : InvP T H ns es) :
  Ret Tryz.prog 48 [ptr p 0] w fun v w' => v = .tuple #[] ∧ ∃ T' H' ns' F', TreeA w' p T' nb F' ∧ Inv T' H' ns' es ∧ H' ≤ H ∧ EvoR T T' 0 ∧ Kp F w w' ∧ ∀ k, F' k → F k ∨ w.heap.size ≤ k := by
 have hz : sizeOk (T.size : Int) := size_ok h
 obtain ⟨z1, z2, -⟩ := id hz
 have d8 := hI.gl
 have hB := hI.bn
 have ib := hB.pos
 have o5 : ∀ {m : Nd} {a : Int}, T.nodes T.root = some m → EvoR T { T.dropN T.root with root := a } 0 := fun hm => (Evo.drop hI.giv hm).toR'
 rcases Nat.eq_or_lt_of_le ib with e | e
 ·subst e; obtain ⟨hn, iq, bi, Bx, tz⟩ := hB.leaf (by omega); by_cases he : es = []
  ·subst he; refine (settle_leaf0 h hn (by omega)).mono ?_; rintro v w' ⟨rfl, F', h', hk, hF⟩; have hE := o5 (a := 0) hn; obtain ⟨n1, n2⟩ := hE.num hI.num hI.gnum; refine ⟨rfl, _, 0, [], F', h', ⟨.inl ⟨rfl, rfl, rfl, rfl⟩, fun x hx => ?_, hI.cnt, n1, n2, hE.giv, hE.chgd hI.chg⟩, by omega, hE, hk, hF⟩; exfalso; apply hx; show updI T.nodes T.root none x = none; by_cases e : x = T.root
   ·rw [e]; exact updI_same _ _ _
   ·rw [updI_ne e]
    cases hm : T.nodes x with
    | none => rfl
    | some m => have := hI.all x (by rw [hm]; simp); rw [iq] at this; simp at this; exact absurd this e
  ·refine (settle_leafS h hn he).mono ?_; rintro v w' ⟨rfl, hx⟩; refine ⟨rfl, T, 1, ns, F, h.ext hx, hI.inv (fun n fY => ?_), by omega, (Evo.refl hI.giv).toR, hx.kp, fun k hk => .inl hk⟩; rw [hn] at fY; cases fY
   simpa [leafNd] using he
 ·obtain ⟨h0, rfl⟩ : ∃ h0, H = h0 + 2 := ⟨H - 2, by omega⟩; obtain ⟨c, ps, ns', hn, rfl, fj, bX, lR, wN, aO, hC⟩ := hB.inner (by omega)
  cases ps with
  | cons x r =>
    refine (settle_innS h hn (by simp)).mono ?_; rintro v w' ⟨rfl, hx⟩; refine ⟨rfl, T, h0 + 2, _, F, h.ext hx, hI.inv (fun n fY => ?_), by omega, (Evo.refl hI.giv).toR, hx.kp, fun k hk => .inl hk⟩; rw [hn] at fY; cases fY
    simp [innNd]
  | nil =>
    refine (settle_inn1 h hn (by omega)).mono ?_; rintro v w' ⟨rfl, F', h', hk, hF⟩; have hE := o5 (a := (c : Int)) hn; obtain ⟨n1, n2⟩ := hE.num hI.num hI.gnum; have bj := List.nodup_cons.1 hI.nd; have A9 : Bn T.size T.nodes (h0 + 1) (c : Int) [] none ns' es := hC; have jN : Bn T.size (updI T.nodes T.root none) (h0 + 1) (c : Int) [] none ns' es := A9.away (fun y _ hy => updI_ne (fun e => bj.1 (by rw [← e]; exact hy))); have Ge : (c : Int) ≠ T.root := fun e => bj.1 (by rw [← e]; exact A9.mem); refine ⟨rfl, _, h0 + 1, ns', F', h', InvP.inv ⟨jN, bj.2, fun x hx => ?_, hI.cnt, n1, n2, hE.giv, hE.chgd hI.chg⟩ (fun n fY => ?_), by omega, hE, hk, hF⟩
    ·have Eb : x ≠ T.root := fun e => hx (by rw [e]; exact updI_same _ _ _); have aZ : updI T.nodes T.root none x ≠ none := hx; rw [updI_ne Eb] at aZ; exact (List.mem_cons.1 (hI.all x aZ)).resolve_left Eb
    ·have o6 : updI T.nodes T.root none (c : Int) = some n := fY; rw [updI_ne Ge] at o6; have hf := aO c (List.mem_cons_self ..)
     cases h0 with
     | zero =>
       obtain ⟨hl, -⟩ := A9.leaf (by omega); rw [hl] at o6; cases o6; have := full_leaf hf hz hl; intro e; have e' : es.length = 0 := by have := congrArg List.length e; simpa [leafNd] using this
       omega
     | succ h1 =>
       obtain ⟨c', ps', _, hl, -⟩ := A9.inner (by omega); rw [hl] at o6; cases o6; have := full_inn hf hz hl; intro e; have e' : ps'.length = 0 := by have := congrArg List.length e; simpa [innNd] using this
       omega
end
theorem Ch.cnts {S : Int → Bytes → Option Bytes → List Int → Es → Prop} {h : Nat} {G : Nat → Prop} (hS : ∀ (x : Nat) l u n e, G x → S (x : Int) l u n e → n.length + 1 ≤ 2 * e.length ∧ h ≤ e.length) : ∀ {ps : List (Bytes × Nat)} {lo : Bytes} {hi : Option Bytes} {c : Nat} {ns : List Int} {es : Es}, Ch S lo hi c ps ns es → (∀ d ∈ c :: ps.map (·.2), G d) → ns.length + (ps.length + 1) ≤ 2 * es.length ∧ h * (ps.length + 1) ≤ es.length
 | [], _, _, c, ns, es, hc, hg => by
   have := hS c _ _ _ _ (hg c (List.mem_cons_self ..)) hc
   simpa using this
 | (k, d) :: r, lo, hi, c, ns, es, hc, hg => by
   obtain ⟨n1, n2, e1, e2, rfl, rfl, hs, hr⟩ := hc; have h1 := hS c _ _ _ _ (hg c (List.mem_cons_self ..)) hs; have h2 := Ch.cnts hS hr (fun x hx => hg x (List.mem_cons_of_mem _ (by simpa using hx))); simp only [List.length_append, List.length_cons]; refine ⟨by omega, ?_⟩; have : h * (r.length + 1 + 1) = h * (r.length + 1) + h := by rw [Nat.mul_succ]
   omega
theorem bn_cnts {z : Nat} {N : Nodes} (hz : sizeOk (z : Int)) : ∀ {h : Nat} {no : Int} {lo : Bytes} {hi : Option Bytes} {ns : List Int} {es : Es}, Bn z N h no lo hi ns es → (∀ n, N no = some n → n.keys ≠ []) → ns.length + 1 ≤ 2 * es.length ∧ h ≤ es.length
 | 0, _, _, _, _, _, s, _ => s.elim
 | 1, no, lo, hi, ns, es, s, hk => by
   obtain ⟨hn, rfl, -⟩ := s.leaf (by have := hz.2.1; omega); have := hk _ hn; have : es ≠ [] := fun e => this (by rw [e]; rfl); have := List.length_pos_iff.2 this; simp
   omega
 | h + 2, no, lo, hi, ns, es, s, hk => by
   obtain ⟨c, ps, ns', hn, rfl, -, -, -, -, aO, hC⟩ := s.inner (by have := hz.1; omega); have p9 : ps ≠ [] := fun e => hk _ hn (by rw [e]; rfl); have dl := List.length_pos_iff.2 p9
   have := hC.cnts (h := h + 1) (G := fun x => Full z N x) (fun x l u n e hf hb => bn_cnts hz hb (fun m hm => by
    cases h with
    | zero =>
      obtain ⟨hl, -⟩ := hb.leaf (by have := hz.2.1; omega); rw [hl] at hm; cases hm; have := full_leaf hf hz hl; intro e'; have : e.length = 0 := by have := congrArg List.length e'; simpa [leafNd] using this
      omega
    | succ h1 =>
      obtain ⟨c', ps', _, hl, -⟩ := hb.inner (by have := hz.1; omega); rw [hl] at hm; cases hm; have := full_inn hf hz hl; intro e'; have : ps'.length = 0 := by have := congrArg List.length e'; simpa [innNd] using this
      omega)) aO
   have h2 : (h + 1) * (ps.length + 1) ≥ (h + 1) * 2 := Nat.mul_le_mul_left _ (by omega); simp only [List.length_cons]; omega
theorem Inv.cnts {T : Tr} {H : Nat} {ns : List Int} {es : Es} (hz : sizeOk (T.size : Int)) (h : Inv T H ns es) : ns.length ≤ 2 * es.length ∧ H ≤ es.length := by
 rcases h.std with ⟨-, rfl, rfl, rfl⟩ | ⟨-, -, hB, -, hk⟩
 ·simp
 ·have := bn_cnts hz hB hk; omega
def bnds : Bytes → Option Bytes → Nat → List (Bytes × Nat) → List (Nat × Bytes × Option Bytes)
 | lo, hi, c, [] => [(c, lo, hi)]
 | lo, hi, c, (k, d) :: r => (c, lo, some k) :: bnds k hi d r
theorem bnds_length (hi : Option Bytes) : ∀ (ps : List (Bytes × Nat)) (lo : Bytes) (c : Nat), (bnds lo hi c ps).length = ps.length + 1
 | [], _, _ => rfl
 | (k, d) :: r, _, _ => by simp [bnds, bnds_length hi r]
theorem bnds_get (hi : Option Bytes) : ∀ (ps : List (Bytes × Nat)) (lo : Bytes) (c i : Nat), i ≤ ps.length → ∃ a l u, (bnds lo hi c ps)[i]? = some (a, l, u) ∧ (c :: ps.map (·.2))[i]? = some a ∧ ((i = 0 ∧ l = lo) ∨ ∃ j, i = j + 1 ∧ (ps.map (·.1))[j]? = some l) ∧ ((i = ps.length ∧ u = hi) ∨ ∃ k, i < ps.length ∧ (ps.map (·.1))[i]? = some k ∧ u = some k)
 | [], lo, c, i, h => by
   have : i = 0 := by simpa using h
   subst this
   exact ⟨c, lo, hi, rfl, rfl, .inl ⟨rfl, rfl⟩, .inl ⟨rfl, rfl⟩⟩
 | (k, d) :: r, lo, c, 0, _ => ⟨c, lo, some k, rfl, rfl, .inl ⟨rfl, rfl⟩, .inr ⟨k, by simp, rfl, rfl⟩⟩
 | (k, d) :: r, lo, c, i + 1, h => by
   obtain ⟨a, l, u, h1, h2, h3, h4⟩ := bnds_get hi r k d i (by simpa using h); refine ⟨a, l, u, h1, by simpa using h2, .inr ⟨i, rfl, ?_⟩, ?_⟩
   ·rcases h3 with ⟨rfl, rfl⟩ | ⟨j, rfl, hj⟩
    ·rfl
    ·simpa using hj
   ·rcases h4 with ⟨rfl, rfl⟩ | ⟨k', hk, aS, rfl⟩
    ·exact .inl ⟨by simp, rfl⟩
    ·exact .inr ⟨k', by simp; omega, by simpa using aS, rfl⟩
theorem ch_iff {S : Int → Bytes → Option Bytes → List Int → Es → Prop} (hi : Option Bytes) : ∀ {ps : List (Bytes × Nat)} {lo : Bytes} {c : Nat} {ns : List Int} {es : Es}, Ch S lo hi c ps ns es ↔ ∃ L : List (List Int × Es), L.length = ps.length + 1 ∧ (∀ (i : Nat) b l, (bnds lo hi c ps)[i]? = some b → L[i]? = some l → S (b.1 : Int) b.2.1 b.2.2 l.1 l.2) ∧ ns = L.flatMap (·.1) ∧ es = L.flatMap (·.2)
 | [], lo, c, ns, es => by
   constructor
   ·intro h; refine ⟨[(ns, es)], rfl, fun i b l hb hl => ?_, by simp, by simp⟩
    cases i with
    | zero =>
      have e1 : (c, lo, hi) = b := oinj hb; have e2 : (ns, es) = l := oinj hl
      subst e1; subst e2; exact h
    | succ i => simp at hl
   ·rintro ⟨L, hl, hS, rfl, rfl⟩
    match L, hl with
    | [x], _ =>
      have := hS 0 _ x rfl rfl; have e1 : [x].flatMap (fun l : List Int × Es => l.1) = x.1 := by simp
      have e2 : [x].flatMap (fun l : List Int × Es => l.2) = x.2 := by simp
      rw [e1, e2]
      exact this
 | (k, d) :: r, lo, c, ns, es => by
   constructor
   ·rintro ⟨n1, n2, e1, e2, rfl, rfl, hs, hr⟩; obtain ⟨L, hl, hS, rfl, rfl⟩ := (ch_iff hi).1 hr; refine ⟨(n1, e1) :: L, by simp [hl], fun i b l hb hl => ?_, by simp, by simp⟩
    cases i with
    | zero =>
      have e1' : (c, lo, some k) = b := oinj hb; have e2' : (n1, e1) = l := oinj hl
      subst e1'; subst e2'; exact hs
    | succ i => exact hS i b l (by simpa [bnds] using hb) (by simpa using hl)
   ·rintro ⟨L, hl, hS, rfl, rfl⟩
    match L, hl with
    | x :: L', iH =>
      exact ⟨x.1, L'.flatMap (·.1), x.2, L'.flatMap (·.2), by simp, by simp, hS 0 _ x rfl rfl, (ch_iff hi).2 ⟨L', by simpa using iH, fun i b l hb hl => hS (i + 1) b l (by simpa [bnds] using hb) (by simpa using hl), rfl, rfl⟩⟩
def takeR (most : Nat) (from' : Bytes) (out es : Es) : Es := out ++ (es.filter fun x => !lt x.1 from').take (most - out.length)
theorem takeR_app (m : Nat) (f : Bytes) (out a b : Es) : takeR m f (takeR m f out a) b = takeR m f out (a ++ b) := by
 unfold takeR
 rw [List.filter_append, List.take_append, List.append_assoc]
 congr 2
 rw [List.length_append, List.length_take]
 by_cases h : (a.filter fun x => !lt x.1 f).length ≤ m - out.length
 ·rw [Nat.min_eq_right h, Nat.sub_sub]
 ·rw [Nat.min_eq_left (by omega), show m - (out.length + (m - out.length)) = 0 by omega, show m - out.length - (a.filter fun x => !lt x.1 f).length = 0 by omega]
theorem takeR_full {m : Nat} {f : Bytes} {out es : Es} (h : m ≤ out.length) : takeR m f out es = out := by
 unfold takeR; rw [show m - out.length = 0 by omega]; simp
theorem takeR_nil (m : Nat) (f : Bytes) (out : Es) : takeR m f out [] = out := by simp [takeR]
theorem takeR_one {m : Nat} {f : Bytes} {out : Es} {x : Bytes × Bytes} (h : out.length < m) (hx : lt x.1 f = false) : takeR m f out [x] = out ++ [x] := by
 unfold takeR
 rw [List.filter_cons_of_pos (by simp [hx]), List.filter_nil, List.take_of_length_le (by simp; omega)]
theorem takeR_not {m : Nat} {f : Bytes} {out : Es} {es : Es} (h : ∀ x ∈ es, lt x.1 f = true) : takeR m f out es = out := by
 unfold takeR
 rw [List.filter_eq_nil_iff.2 (fun x hx => by simp [h x hx])]; simp
theorem takeR_len (m : Nat) (f : Bytes) (out es : Es) : (takeR m f out es).length ≤ out.length + es.length := by
 unfold takeR
 rw [List.length_append, List.length_take]
 have := List.length_filter_le (fun x : Bytes × Bytes => !lt x.1 f) es
 omega
theorem flatMap_take_succ {α β : Type} {L : List α} {f : α → List β} {i : Nat} {x : α} (h : L[i]? = some x) : (L.take (i + 1)).flatMap f = (L.take i).flatMap f ++ f x := by
 obtain ⟨hi, e⟩ := List.getElem?_eq_some_iff.1 h
 rw [List.take_succ_eq_append_getElem hi, e]; simp
theorem way_before {S : Int → Bytes → Option Bytes → List Int → Es → Prop} {lo : Bytes} {hi : Option Bytes} {c : Nat} {ps : List (Bytes × Nat)} {k : Bytes} {L : List (List Int × Es)} (hl : L.length = ps.length + 1) (hS : ∀ (i : Nat) b l, (bnds lo hi c ps)[i]? = some b → L[i]? = some l → S (b.1 : Int) b.2.1 b.2.2 l.1 l.2) (hb : ∀ x l u n e, S x l u n e → ∀ y ∈ e, inB l u y.1) :
  ∀ x ∈ (L.take (wayI (ps.map (·.1)) k)).flatMap (·.2), lt x.1 k = true := by
 intro x hx
 obtain ⟨l, iH, rn⟩ := List.mem_flatMap.1 hx
 obtain ⟨i, af, e⟩ := List.mem_take_iff_getElem.1 iH
 have hw := wayI_le (ps.map (·.1)) k
 rw [List.length_map] at hw
 have Iq : i < wayI (ps.map (·.1)) k := by omega
 obtain ⟨a, lo', u, h1, -, -, h4⟩ := bnds_get hi ps lo c i (by omega)
 have cx := hb _ _ _ _ _ (hS i _ l h1 (by rw [List.getElem?_eq_getElem (by omega), e])) x rn
 rcases h4 with ⟨e', -⟩ | ⟨k', aC, am, rfl⟩
 ·omega
 ·have h5 := wayI_lo (l := ps.map (·.1)) (k := k) k' (List.mem_take_iff_getElem.2 ⟨i, by rw [List.length_map]; omega, (List.getElem?_eq_some_iff.1 am).2⟩); exact lt_le_trans (cx.2 k' rfl) h5
end Go.Proofs.YtocnhaoilnojmaaGreat
namespace Go.Proofs.YtocnhaoilnojmaaGreat
open Go Go.RowKit Go.Shelf
set_option linter.all false
set_option maxRecDepth 100000

/-! ### A builder of strings -/
theorem repX : Builder.Extra Tryz.prog repA_ren where
 sizeBuilder := by kernel_rfl
 liesBuilder := by kernel_rfl
 t5 := by kernel_rfl
 a5 := fun _ => by kernel_rfl
 z5 := fun _ => by kernel_rfl
 v5 := fun w => TI.zero (w := w) ti5
 infoByte := by kernel_rfl
 cellsByte := by kernel_rfl
 sizeByte := by kernel_rfl
 neB5 := by decide
def Bld (B b : Nat) (l : Bytes) (w : World) : Prop := Lib.IsBuilder 152 5 B b (Lib.byteCells l) w ∧ B ≤ w.heap.size
theorem bld_new {w : World} {b : Nat} (h : w.heap[b]? = some (.cells #[.pointer none, .slice none 0 0] 152 (0, 0))) (hb : b ≤ w.heap.size) : Bld b b [] w :=
 ⟨.inl ⟨Nat.le_refl _, .slice none 0 0, h, World.ownsRow_nil w b _ 1, by simp [Value.ownBlock]⟩, hb⟩
section
variable {w : World}
theorem bws_ret {B b : Nat} {l : Bytes} (h : Bld B b l w) (s : Bytes) (hl : l.length + s.length ≤ 140737488355328) :
  Ret Tryz.prog 110 [ptr b 0, S s] w fun v w' => Bld B b (l ++ s) w' ∧ Below B w w' := by
 have := Any.Builder_WriteString { repA with } repX B b (Lib.byteCells l) ⟨s.toArray⟩ w h.1 (by rw [Lib.byteCells_length, size_S]; exact hl) h.2
 refine Calls.mono this fun _ _ ⟨he, hw, hB⟩ => ⟨_, he, ⟨?_, by have := hB.size; have := h.2; omega⟩, hB⟩
 rw [Lib.byteCells_append]
 exact .inr hw
theorem blen_ret {B b : Nat} {l : Bytes} (h : Bld B b l w) : Ret Tryz.prog 112 [ptr b 0] w fun v w' => v = I (l.length : Int) ∧ w' = w := by
 have := Any.Builder_Len { repA with } B b (Lib.byteCells l) w h.1
 rw [Lib.byteCells_length] at this
 exact Calls.mono this fun _ _ ⟨he, hw⟩ => ⟨_, he, rfl, hw⟩
theorem bstr_ret {B b : Nat} {l : Bytes} (h : Bld B b l w) : Ret Tryz.prog 113 [ptr b 0] w fun v w' => v = S l ∧ Below B w w' :=
 Calls.mono (Any.Builder_String_any { repA with } repX B b l w h.1 h.2) fun _ _ ⟨he, hw⟩ => ⟨_, he, rfl, hw⟩
theorem brep_ret (c : UInt8) (n : Nat) (hn : n ≤ 1000000) : Ret Tryz.prog 111 [S [c], I (n : Int)] w fun v w' => v = S (List.replicate n c) ∧ Ext w w' := by
 have := Any.strings_Repeat repA repX ⟨[c].toArray⟩ n w (by omega) (by rw [size_S, List.length_singleton]; omega)
 have e : ∀ n, Lib.repeatL [c] n = List.replicate n c := fun n => by
  induction n with
  | zero => rfl
  | succ n ih => rw [Lib.repeatL, ih]; rfl
 refine Calls.mono this fun _ _ ⟨he, hw⟩ => ⟨_, he, ?_, Ext.of_below hw⟩
 show Value.string ⟨(Lib.repeatL [c] n).toArray⟩ = _
 rw [e]
end
theorem zstcP {P : Program} {e : Env} {ty t : TypeId} {d : Option Nat} {pos : String} {aft : Array Edge} {g : Option (Nat × Bool)} {x y : Operand} {w : World} {z v u : Value} {bytes : Nat} {a : Addr} (hs : TI P t z 1 bytes) (hx : look e x = some (.pointer (some a))) (hy : look e y = some v) (hv : oneV v = true) (hc : w.cell? a = some u) (hf : w.frozen? a = false) :
  Zp P e ⟨d, .store t x y, ty, pos, aft, g⟩ w fun w' => w' = w.setCell a v := ⟨_, zstc hs hx hy hv hc hf, rfl⟩
theorem palB {P : Program} {e : Env} {d : Option Nat} {ty t : TypeId} {pos : String} {aft : Array Edge} {g : Option (Nat × Bool)} {w : World} {z : Value} {n bytes : Nat} {cs : List Value} (hs : TI P t z n bytes) (hz : z.cells = cs.toArray) : Yp P e ⟨d, .alloc t, ty, pos, aft, g⟩ w fun v' w' => ∃ b, v' = ptr b 0 ∧ b = w.heap.size ∧ Ext w w' ∧ w'.heap[b]? = some (.cells cs.toArray t (0, 0)) :=
 ⟨_, _, fun ρ hρ => by simp [execOp, Instr.alloc, hs.zero, newVar, newRow, newObj, Sem.run, hz], w.heap.size, rfl, rfl, ext_alloc w _, heap_new w _⟩
theorem yslArrF {P : Program} {e : Env} {d : Option Nat} {ty t : TypeId} {pos : String} {aft : Array Edge} {g : Option (Nat × Bool)} {x y : Operand} {w : World} {k : IntKind} {za : Int} {m : Nat} [ha : NatC za m] {n : Nat} {z : Value} {size bytes b i : Nat} {el : TypeId} (ht : P.underlying t = some (.array n el)) (he : TI P el z size bytes) (hx : look e x = some (ptr b i)) (hy : look e y = some (.int k za)) (hm : m < n) :
  Y P e ⟨d, .slice t x (some y) none none, ty, pos, aft, g⟩ (.slice (some ⟨b, i + m * size, none⟩) (n - m) (n - m)) w w := fun ρ hρ => by
 obtain ⟨rfl⟩ := ha
 have hs := he.size (w := w)
 have h2 : ∀ w, (Instr.sliceBound (.int k (m : Int)) n .sliceB).run P w = .ok m w := fun w => by rw [run_sliceBound _ _ _ _ _ (by omega) (by omega)]; simp
 have aT : ¬ n = m := by omega
 simp [execOp, hρ _ _ hx, hρ _ _ hy, Instr.sliceAt, run_underlying ht, Instr.sureAddr, Instr.sliceBounds, h2, hs, add_off, aT]
theorem kp_of_below {B : Nat} {w w' : World} (h : Below B w w') : Kp (fun k => B ≤ k) w w' := ⟨h.os, h.tape, h.output, h.size, fun k hk hn => h.block k (by omega)⟩
theorem Bld.lt {B b : Nat} {l : Bytes} {w : World} (h : Bld B b l w) : b < w.heap.size := by
 rcases h.1 with ⟨-, v, hb, -⟩ | ⟨-, v, hb, -⟩ <;>
 ·rcases Nat.lt_or_ge b w.heap.size with h' | h'
  ·exact h'
  ·rw [Array.getElem?_eq_none h'] at hb; cases hb
theorem own_ext {w w' : World} {B : Nat} {e n size : Nat} {v : Value} {xs : List Value} (h : w.ownsRow B e size v n xs) (k : Ext w w') : w'.ownsRow B e size v n xs :=
 ⟨h.1, h.2.imp id fun ⟨g, cap, cur, a, b, c, d⟩ => ⟨g, cap, cur, a, b, k.heap c id, d⟩⟩
theorem Bld.ext {B b : Nat} {l : Bytes} {w w' : World} (h : Bld B b l w) (k : Ext w w') : Bld B b l w' := by
 have := k.size
 refine ⟨?_, by have := h.2; omega⟩
 rcases h.1 with ⟨h1, v, h2, h3, h4⟩ | ⟨h1, v, h2, h3, h4⟩
 ·exact .inl ⟨h1, v, k.heap h2 id, own_ext h3 k, h4⟩
 ·exact .inr ⟨h1, v, k.heap h2 id, own_ext h3 k, h4⟩
theorem below_of_kp {S : Nat → Prop} {w w' : World} {B : Nat} (h : Kp S w w') (hB : B ≤ w.heap.size) (hs : ∀ k, S k → B ≤ k) : Below B w w' := ⟨h.os, h.tape, h.output, h.size, fun k hk => h.block k (by omega) (fun e => by have := hs k e; omega)⟩
theorem bcc_ret {w : World} {B b : Nat} {l : Bytes} (h : Bld B b l w) : Ret Tryz.prog 135 [ptr b 0] w fun v w' => v = .tuple #[] ∧ Lib.BuilderAt 152 5 B b (ptr b 0) (Lib.byteCells l) w' ∧ Kp (fun k => k = b) w w' := by
 rcases h.1 with h | h
 ·exact Calls.mono (Any.Builder_copyCheck_fresh { repA with } repX.toX72 b w h.cell0 h.shape h.frozen0) fun _ _ ⟨he, hw⟩ => ⟨_, he, rfl, by rw [hw]; exact h.used _, by rw [hw]; exact kp_setCell w b 0 _⟩
 ·exact Calls.mono (Any.Builder_copyCheck_used { repA with } repX.toX72 b w h.cell0) fun _ _ ⟨he, hw⟩ => ⟨_, he, rfl, by rw [hw]; exact h, by rw [hw]; exact Kp.refl _ _⟩
theorem rebase {w : World} {B B' : Nat} {e n size : Nat} {v : Value} {xs : List Value} (h : w.ownsRow B e size v n xs) (hb : ∀ g, v.ownBlock = some g → B' ≤ g) : w.ownsRow B' e size v n xs :=
 ⟨h.1, h.2.imp id fun ⟨g, cap, cur, a, _, c⟩ => ⟨g, cap, cur, a, hb g (by rw [a]; rfl), c⟩⟩
set_option maxHeartbeats 1000000 in
theorem bwr_ret {w : World} {B b m : Nat} {l s : Bytes} {sv : Value} (h : Bld B b l w) (hs : Rd w sv 1 m (s.map u8v)) (Gf : ∀ g, sv.ownBlock = some g → g ≠ b) (hl : l.length + m ≤ 1000000000) :
  Ret Tryz.prog 109 [ptr b 0, sv] w fun v w' => Bld B b (l ++ s) w' ∧ Below B w w' := by
 obtain ⟨sa, sc, rfl, -⟩ := hs.shape
 have Gg := h.2
 have vf : s.length = m := by have := hs.len; simpa using this
 refine ret_of_run (e := [(0, _), (1, _)]) Tryz.func109 rfl Tryz.ntmps109 rfl rfl (qN rfl (zqa rfl (zqa rfl (qM rfl (zqm rfl (zqc [.tmp 6] cf135 rfl (bcc_ret h) ?_))))))
 rintro _ w1 ⟨rfl, ⟨jh, v, r6, bB, aT⟩, aC⟩
 have eV := aC.size
 have kg := hs.kp aC (fun g hg => Gf g hg)
 have aj : Blk w1 b [ptr b 0, v] 152 := ⟨(0, 0), r6, fun i _ => by omega⟩
 have eI : Sl w1 v 5 1 l.length (Lib.byteCells l) := by
  have := rebase (B' := 0) bB (fun _ _ => Nat.zero_le _); rw [Lib.byteCells_length] at this; exact this
 have By : ∀ g, v.ownBlock = some g → B ≤ g := fun g hg => (bB.lt g hg).1
 refine qM rfl (zqm rfl (zqm rfl (qV (ynk rfl) (qV (yfa fl152_1 rfl) (qV (yld U123 rfl rfl aj rfl) (zqm rfl ?_))))))
 have eP : maxLen = 9223372036854775807 := rfl
 refine rValP rfl rfl (pap U123 ti5 rfl (by decide) rfl rfl eI kg (by intro c hc; obtain ⟨x, -, rfl⟩ := List.mem_map.1 hc; rfl) (by omega) (by omega)) ?_
 rintro v2 w2 ⟨aV, am, fA, -⟩
 have dH := am.size
 have cz := am.heap r6 (fun e => aT e)
 refine qV (ynk rfl) (qV (yfa fl152_1 rfl) (rEffP rfl (zstcP ti123 rfl rfl (oneV_sl aV) (a := ⟨b, 1, none⟩) (by rw [Lib.cell_of_heap cz]; rfl) (Lib.frozen_of_heap cz 1)) ?_))
 rintro w3 rfl
 refine qM rfl (zqm rfl (qV (yln U123 rfl) (zqa rfl (zqa rfl (rEnd (run_ret Tryz.func109 rfl ?_))))))
 have Bz : ∀ g, v2.ownBlock = some g → B ≤ g := fun g hg => (fA g hg).elim (By g) (fun e => by omega)
 have BA : w2.ownsRow B 5 1 v2 (Lib.byteCells (l ++ s)).length (Lib.byteCells (l ++ s)) := by
  rw [Lib.byteCells_length, List.length_append, vf, Lib.byteCells_append]; exact rebase aV Bz
 have fB := Lib.BuilderAt.put (v' := v2) jh cz BA (by decide)
 have ak := kp_setCell w2 b 1 v2
 refine ⟨_, rfl, ⟨.inr fB, ?_⟩, ?_⟩
 ·have := ak.size; omega
 ·refine below_of_kp (S := fun k => B ≤ k) (((aC.mono' (fun k e => by rw [e]; exact jh)).trans (am.mono' (fun k e => By k e))).trans (ak.mono' (fun k e => by rw [e]; exact jh))) Gg (fun _ h => h)
/-! ### Encode -/
theorem put_ret {w : World} {B b : Nat} {l : Bytes} (h : Bld B b l w) (v k : Nat) (hk : 1 ≤ k ∧ k ≤ 4) (hv : v < 4294967296) (hl : l.length ≤ 900000000) :
  Ret Tryz.prog 108 [I (v : Int), I (k : Int), ptr b 0] w fun _ w' => Bld B b (l ++ beN v k) w' ∧ Below B w w' := by
 have hB := h.2
 have sV := h.lt
 refine ret_of_run (e := [(0, _), (1, _), (2, _)]) Tryz.func108 rfl Tryz.ntmps108 rfl rfl (qN rfl (zqm rfl (qV (ysrN 24 16777216 rfl rfl (by decide) rfl) (qV (ycv8 rfl U3 U5) (zqm rfl (qV (ysrN 16 65536 rfl rfl (by decide) rfl) (qV (ycv8 rfl U3 U5) (zqm rfl (qV (ysrN 8 256 rfl rfl (by decide) rfl) (qV (ycv8 rfl U3 U5) (zqm rfl (qV (ycv8 rfl U3 U5) (qV (ybdA (parts := [(0, .tmp 8), (1, .tmp 11), (2, .tmp 14), (3, .tmp 16)]) (cs := [_, _, _, _]) ti153 rfl U153 ti5 rfl rfl) ?_)))))))))))))
 refine rValP rfl rfl (pal (cs := [_, _, _, _]) ti153 rfl) ?_
 rintro _ w1 ⟨b5, rfl, pI, aa, aj⟩
 refine rEffP rfl (zstA ti153 rfl rfl rfl rfl aj (by simp)) ?_
 rintro w2 ⟨ay, am⟩
 have ad : Ext w w2 := aa.trans_new am (fun i hi => by omega)
 have Gi : (beN v 4).map u8v = [Value.int .u8 ((v / 16777216 % 256 : Nat) : Int), Value.int .u8 ((v / 65536 % 256 : Nat) : Int), Value.int .u8 ((v / 256 % 256 : Nat) : Int), Value.int .u8 ((v % 256 : Nat) : Int)] := by
  simp [beN, u8v]
 have BB : Blk w2 b5 ((beN v 4).map u8v) 153 := by
  rw [Gi]; exact ay
 refine rEnd (run_reg rfl (zqm rfl (qV (ysb rfl rfl (by omega)) ?_)))
 rw [show ((4 : Int) - (k : Int)) = ((4 - k : Nat) : Int) by omega]
 refine qV (yslArrF U153 ti5 rfl rfl (by omega)) ?_
 have Aa : Rd w2 (.slice (some ⟨b5, 0 + (4 - k) * 1, none⟩) (4 - (4 - k)) (4 - (4 - k))) 1 (4 - (4 - k)) ((beN v k).map u8v) := by
  have e4 : 4 - (4 - k) = k := by omega
  refine ⟨by simp; omega, .inr ⟨b5, _, _, rfl, fun j u hj => ?_⟩⟩; rw [BB.cell]
  have hd : (beN v 4).drop (4 - k) = beN v k := by
   have : k = 0 ∨ k = 1 ∨ k = 2 ∨ k = 3 ∨ k = 4 := by omega
   rcases this with rfl | rfl | rfl | rfl | rfl <;> rfl
  rw [← hd, List.map_drop, List.getElem?_drop] at hj; rw [show 0 + (4 - k) * 1 + j = 4 - k + j by omega]; exact hj
 refine zqc [.tmp 2, .tmp 20] cf109 rfl (bwr_ret (h.ext ad) Aa (fun g hg e => by have e' : b5 = g := oinj hg; omega) (by omega)) ?_
 rintro _ w3 ⟨qf, ji⟩
 refine rEnd (run_end Tryz.func108 rfl ?_)
 exact ⟨_, rfl, qf, ⟨ji.os.trans ad.os, ji.tape.trans ad.tape, ji.output.trans ad.output, Nat.le_trans ad.size ji.size, fun i hi => (ji.block i hi).trans (ad.block i (by omega) id)⟩⟩
theorem rd_getuN {w : World} {a : Option Addr} {cap n : Nat} {l : List Nat} {i : Nat} (h : Rd w (.slice a n cap) 1 n (l.map u32v)) (hn : n = l.length) (hi : i < n) : ∃ b off s, a = some ⟨b, off, none⟩ ∧ l[i]? = some s := by
 subst hn; exact rd_getu h hi
theorem rd_getsM {w : World} {a : Option Addr} {cap n : Nat} {l : List Bytes} {i : Nat} (h : Rd w (.slice a n cap) 1 n (l.map S)) (hn : n = l.length) (hi : i < n) : ∃ b off s, a = some ⟨b, off, none⟩ ∧ l[i]? = some s := by
 subst hn; exact rd_gets h hi
theorem bodyL_snoc {es : Es} {i : Nat} {x : Bytes × Bytes} (h : es[i]? = some x) : bodyL (es.take (i + 1)) = bodyL (es.take i) ++ (beN x.1.length 1 ++ (beN x.2.length 2 ++ (x.1 ++ x.2))) := by
 unfold bodyL
 rw [flatMap_take_succ h]; rfl
theorem bodyI_snoc {ps : List (Bytes × Nat)} {i : Nat} {x : Bytes × Nat} (h : ps[i]? = some x) : bodyI (ps.take (i + 1)) = bodyI (ps.take i) ++ (beN x.1.length 1 ++ (x.1 ++ beN x.2 4)) := by
 unfold bodyI
 rw [flatMap_take_succ h]; rfl
theorem bodyL_take_le (es : Es) (i : Nat) : (bodyL (es.take i)).length ≤ (bodyL es).length := by
 rw [bodyL_length, bodyL_length]
 conv => rhs; rw [← List.take_append_drop i es, entB_app]
 omega
theorem bodyI_take_le (ps : List (Bytes × Nat)) (i : Nat) : (bodyI (ps.take i)).length ≤ (bodyI ps).length := by
 conv => rhs; rw [← List.take_append_drop i ps]
 unfold bodyI
 rw [List.flatMap_append, List.length_append]
 omega
set_option maxHeartbeats 2000000 in
theorem encode_ret {n : Nd} {kv vv cv : Value} {w : World} (hR : NdR w n kv vv cv) (hb : n.Bd) {z : Nat} (hz : sizeOk (z : Int)) :
  Ret Tryz.prog 83 [ndv n kv vv cv, I (z : Int)] w fun v w' => Ext w w' ∧ ((NdOk z n ∧ v = .tuple #[S (enc z n), I 0]) ∨ (¬ NdOk z n ∧ v = .tuple #[S [], I 1])) := by
 obtain ⟨z1, z2, -⟩ := id hz
 refine ret_of_run (e := [(0, _), (1, _)]) Tryz.func83 rfl Tryz.ntmps83 rfl rfl (qN rfl (rValP rfl rfl (pbx rfl (cs := [.bool n.leaf, kv, vv, cv]) rfl) ?_))
 rintro _ w1 ⟨b, rfl, dL, aa, aj⟩
 refine zqa rfl (zqa rfl (rEnd (run_seq (qN rfl (qV (yldA U84 rfl ti84 rfl (Blk.cells (n := 4) aj (news := [_, _, _, _]) rfl) rfl) (zqm rfl (zqc [.tmp 12, .tmp 13] cf107 rfl (check_ret (hR.ext aa) hb hz) ?_)))))))
 rintro _ w2 ⟨rfl, ad⟩
 have bo := aa.trans ad
 have ay := ad.blk aj
 have ln := hR.ext bo
 by_cases bi : NdOk z n
 ·rw [if_pos bi]; refine zqa rfl (qM rfl (zqm rfl (qV (yne rfl rfl) (rEnd (run_if rfl (fun h0 => ?_) (fun h0 => ?_))))))
  ·exact absurd rfl h0
  ·refine run_skip (qN rfl (rValP rfl rfl (palB (cs := [_, _]) ti152 rfl) ?_)); rintro _ w3 ⟨bb, rfl, pA, ai, r6⟩; have qf : Bld bb bb [] w3 := bld_new r6 (by have := ai.size; omega); have bh : ∀ {a c : World}, Ext w2 a → Below bb a c → Ext w2 c := fun h k => h.trans_new (kp_of_below k) (fun i hi => by omega); have aN := ai.blk ay; have Ec : NdZ z n := ⟨bi, hb.cs⟩; rcases nd_cases bi with ⟨es, rfl⟩ | ⟨c, ps, rfl⟩
   ·obtain ⟨n1, n2⟩ := ndz_leaf hz Ec; have o7 := rawN_length bi; rw [rawN_leaf] at o7; have gD := bi.2.1; have sV : (bodyL es).length + 3 ≤ 4096 := by simp at o7; omega
    have hK := ln.keys; have hV := ln.vals; rw [show (leafNd es).keys.length = es.length by simp [leafNd]] at hK; rw [show (leafNd es).vals.length = es.length by simp [leafNd]] at hV; obtain ⟨ka, kc, rfl, -⟩ := hK.shape; obtain ⟨va, vc, rfl, -⟩ := hV.shape; refine qM rfl (qV (ymf (first := []) (caps := [.tmp 7]) rfl rfl) (zqa rfl (qM rfl (zqa rfl (rEnd (run_seq (qN rfl (qV (yfa fl84_0 rfl) (qV (yld U4 rfl rfl aN rfl) (rEnd (run_true rfl (run_reg rfl (zqa rfl ?_))))))))))))); refine qM rfl (zqm rfl (zqm rfl (rCall rfl rfl (ycv' (args := [.tmp 22, .const (Value.int .i64 1)]) cf108 rfl rfl) (put_ret qf 1 1 (by omega) (by omega) (by simp)) ?_))); rintro _ w4 ⟨tA, o8⟩; have aX := bh ai o8; have bs := aX.blk ay; refine qM rfl (zqm rfl (qV (yfa fl84_1 rfl) (qV (yld U23 rfl rfl bs rfl) (qV (yln U23 rfl) (rCall rfl rfl (ycv' (args := [.tmp 27, .const (Value.int .i64 2)]) cf108 rfl rfl) (put_ret tA es.length 2 (by omega) (by omega) (by simp)) ?_))))); rintro _ w5 ⟨tB, o9⟩; have aF := bh aX o9; have bu := aF.blk ay; refine rEnd (Run.qb (e := [(1, _), (2, _), (4, _), (5, _), (7, _), (8, _)]) ?_); refine run_seq (qN rfl (qV (yfa fl84_0 rfl) (qV (yld U4 rfl rfl bu rfl) (qV ((by first | exact yntd rfl | exact ynt rfl)) ?_)))); refine rEnd (run_false rfl (run_skip (run_seq (qN rfl (qV (yfa fl84_1 rfl) (qV (yld U23 rfl rfl bu rfl) (qV (yln U23 rfl) (zqm rfl (rEnd (run_block (zqu (α := Nat) (0) (fun i => [(1, I (z : Int)), (2, ptr b 0), (7, ptr bb 0), (8, .func (.func 108) #[] #[ptr bb 0]), (40, .slice ka es.length kc), (41, I (es.length : Int)), (42, I (i : Int))]) (fun i w' => i ≤ es.length ∧ Ext w2 w' ∧ Bld bb bb (1 :: (beN es.length 2 ++ bodyL (es.take i))) w') (fun i => es.length - i) ?hI ?hround)))))))))))
    case hI => exact ⟨Nat.zero_le _, aF, by simpa [bodyL, beN] using tB⟩
    case hround =>
     rintro i wi ⟨hi, cA, iv⟩ ih; have uO := cA.blk ay; have wP := hK.ext cA; have Gj := hV.ext cA; have wQ := bodyL_take_le es i
     try dsimp only
     refine qN rfl (qV (ylt rfl rfl) (rEnd (run_seq (run_if rfl (fun ah => ?_) (fun ah => ?_)))))
     ·have af : i < es.length := by omega
      obtain ⟨x, hx⟩ : ∃ x, es[i]? = some x := ⟨_, List.getElem?_eq_getElem af⟩; obtain ⟨lb, lo, s, rfl, cn⟩ := rd_getsM wP (by simp [leafNd]) af; obtain ⟨lb2, lo2, s2, rfl, dD⟩ := rd_getsM Gj (by simp [leafNd]) af; have e1 : s = x.1 := by simp [leafNd, hx] at cn; exact cn.symm
      have e2 : s2 = x.2 := by simp [leafNd, hx] at dD; exact dD.symm
      have rn := n2 x (List.mem_of_getElem? hx); refine run_skip (run_seq (run_block (qN rfl (zqm rfl (qV (yis U23 ti9 rfl rfl (by omega)) (qV (yldc U9 rfl rfl (rd_str wP af cn)) ?_)))))); rw [e1]; refine zqa rfl (zqa rfl (qM rfl (zqm rfl (zqm rfl (qV (ylnS U9 rfl) (rCall rfl rfl (ycv' (args := [.tmp 49, .const (Value.int .i64 1)]) cf108 rfl rfl) (put_ret iv x.1.length 1 (by omega) (by omega) (by simp; omega)) ?_)))))); rintro _ w6 ⟨qg, oa⟩; have bq := bh cA oa; have bT := bq.blk ay; refine rEnd (run_seq (qN rfl (qV (yfa fl84_0 rfl) (qV (yld U4 rfl rfl bT rfl) (rEnd (run_true rfl (qN rfl (zqm rfl (qV (yfa fl84_2 rfl) (qV (yld U23 rfl rfl bT rfl) (zqm rfl (qV (yis U23 ti9 rfl rfl (by omega)) (qV (yldc U9 rfl rfl (rd_str (hV.ext bq) af dD)) ?_))))))))))))); rw [e2]; refine qV (ylnS U9 rfl) (rCall rfl rfl (ycv' (args := [.tmp 59, .const (Value.int .i64 2)]) cf108 rfl rfl) (put_ret qg x.2.length 2 (by omega) (by omega) (by simp; omega)) ?_); rintro _ w7 ⟨ob, od⟩; have aR := bh bq od; have dy := aR.blk ay; refine qM rfl (zqm rfl (qV (yfa fl84_2 rfl) (qV (yld U23 rfl rfl dy rfl) (zqm rfl (qV (yis U23 ti9 rfl rfl (by omega)) (qV (yldc U9 rfl rfl (rd_str (hV.ext aR) af dD)) ?_)))))); rw [e2]; refine qV (ycatS rfl rfl (by first | omega | (simp; done) | (simp; omega))) ?_; refine zqc [.tmp 7, .tmp 67] cf110 rfl (bws_ret ob (x.1 ++ x.2) (by simp; omega)) ?_; rintro _ w8 ⟨tC, oe⟩; have br := bh aR oe; refine rEnd (run_exit rfl (run_reg rfl (zqd rfl rfl (zqm rfl (rEnd ((ih (i + 1) w8 ⟨by omega, br, ?_⟩ (by omega)).qb)))))); rw [bodyL_snoc hx]
      simpa using tC
     ·have e : i = es.length := by omega
      subst e; rw [List.take_length] at iv; refine run_exit rfl (qN rfl (zqm rfl (zqc [.tmp 7] cf112 rfl (blen_ret iv) ?_))); rintro _ _ ⟨rfl, rfl⟩; have aM : (1 :: (beN es.length 2 ++ bodyL es)).length ≤ z := by rw [o7]; exact gD
      refine qV (ysb rfl rfl (by omega)) ?_; rw [show ((z : Int) - ((1 :: (beN es.length 2 ++ bodyL es)).length : Int)) = ((z - (1 :: (beN es.length 2 ++ bodyL es)).length : Nat) : Int) by omega]; refine rCall rfl rfl (yc (args := [.const (Value.string (⟨#[0]⟩)), .tmp 83]) cf111 rfl) (brep_ret 0 _ (by omega)) ?_; rintro _ w9 ⟨rfl, iw⟩; refine zqc [.tmp 7, .tmp 84] cf110 rfl (bws_ret (iv.ext iw) _ (by simp; omega)) ?_; rintro _ w10 ⟨oh, kE⟩; refine qM rfl (zqc [.tmp 7] cf113 rfl (bstr_ret oh) ?_); rintro _ w11 ⟨rfl, kF⟩; refine zqa rfl (zqa rfl (rEnd (run_ret Tryz.func83 rfl (⟨_, rfl, bo.trans (bh (bh (cA.trans iw) kE) kF), .inl ⟨bi, ?_⟩⟩)))); simp only [resVal, enc, rawN_leaf]
   ·obtain ⟨n1, nc, n2⟩ := ndz_inn hz Ec; have o7 := rawN_length bi; rw [rawN_inn] at o7; have gD := bi.2.1; have sV : (bodyI ps).length + 7 ≤ 4096 := by simp at o7; omega
    have hK := ln.keys; have hC := ln.kids; rw [show (innNd c ps).keys.length = ps.length by simp [innNd]] at hK; rw [show (innNd c ps).kids.length = ps.length + 1 by simp [innNd]] at hC; obtain ⟨ka, kc, rfl, -⟩ := hK.shape; obtain ⟨ca, cc, rfl, -⟩ := hC.shape; obtain ⟨cb, co, c0, rfl, ix⟩ := rd_getuN hC (by simp [innNd]) (show 0 < ps.length + 1 by omega); have ec0 : c0 = c := by simp [innNd] at ix; exact ix.symm
    subst ec0; refine qM rfl (qV (ymf (first := []) (caps := [.tmp 7]) rfl rfl) (zqa rfl (qM rfl (zqa rfl (rEnd (run_seq (qN rfl (qV (yfa fl84_0 rfl) (qV (yld U4 rfl rfl aN rfl) (rEnd (run_false rfl (run_skip (qN rfl ?_))))))))))))); refine zqm rfl (zqm rfl (rCall rfl rfl (ycv' (args := [.tmp 22, .const (Value.int .i64 1)]) cf108 rfl rfl) (put_ret qf 2 1 (by omega) (by omega) (by simp)) ?_)); rintro _ w4 ⟨tA, o8⟩; have aX := bh ai o8; have bs := aX.blk ay; refine qM rfl (zqm rfl (qV (yfa fl84_1 rfl) (qV (yld U23 rfl rfl bs rfl) (qV (yln U23 rfl) (rCall rfl rfl (ycv' (args := [.tmp 27, .const (Value.int .i64 2)]) cf108 rfl rfl) (put_ret tA ps.length 2 (by omega) (by omega) (by simp)) ?_))))); rintro _ w5 ⟨tB, o9⟩; have aF := bh aX o9; have bu := aF.blk ay; refine rEnd (Run.qb (e := [(1, _), (2, _), (4, _), (5, _), (7, _), (8, _)]) ?_); refine run_seq (qN rfl (qV (yfa fl84_0 rfl) (qV (yld U4 rfl rfl bu rfl) (qV ((by first | exact yntd rfl | exact ynt rfl)) ?_)))); refine rEnd (run_true rfl (run_reg rfl (zqm rfl (qV (yfa fl84_3 rfl) (qV (yld U82 rfl rfl bu rfl) (qV (yis U82 ti89 rfl rfl (by omega)) (qV (yldc U89 rfl rfl (rd_u32 (hC.ext aF) (by omega) ix)) (qV (ycvSi64 rfl U89 U3 (by omega)) (rCall rfl rfl (ycv' (args := [.tmp 37, .const (Value.int .i64 4)]) cf108 rfl rfl) (put_ret tB c0 4 (by omega) (by omega) (by simp)) ?_))))))))); rintro _ w5' ⟨wR, tD⟩; have wS := bh aF tD; have f3 := wS.blk ay; refine rEnd (run_seq (qN rfl (qV (yfa fl84_1 rfl) (qV (yld U23 rfl rfl f3 rfl) (qV (yln U23 rfl) (zqm rfl (rEnd (run_block (zqu (α := Nat) (0) (fun i => [(1, I (z : Int)), (2, ptr b 0), (7, ptr bb 0), (8, .func (.func 108) #[] #[ptr bb 0]), (40, .slice ka ps.length kc), (41, I (ps.length : Int)), (42, I (i : Int))]) (fun i w' => i ≤ ps.length ∧ Ext w2 w' ∧ Bld bb bb (2 :: (beN ps.length 2 ++ (beN c0 4 ++ bodyI (ps.take i)))) w') (fun i => ps.length - i) ?hI ?hround)))))))))
    case hI => exact ⟨Nat.zero_le _, wS, by simpa [bodyI, beN] using wR⟩
    case hround =>
     rintro i wi ⟨hi, cA, iv⟩ ih; have uO := cA.blk ay; have wP := hK.ext cA; have wQ := bodyI_take_le ps i
     try dsimp only
     refine qN rfl (qV (ylt rfl rfl) (rEnd (run_seq (run_if rfl (fun ah => ?_) (fun ah => ?_)))))
     ·have af : i < ps.length := by omega
      obtain ⟨x, hx⟩ : ∃ x, ps[i]? = some x := ⟨_, List.getElem?_eq_getElem af⟩; obtain ⟨lb, lo, s, rfl, cn⟩ := rd_getsM wP (by simp [innNd]) af; have e1 : s = x.1 := by simp [innNd, hx] at cn; exact cn.symm
      have dD : (innNd c0 ps).kids[i + 1]? = some x.2 := by simp [innNd, hx]
      have rn := n2 x (List.mem_of_getElem? hx); refine run_skip (run_seq (run_block (qN rfl (zqm rfl (qV (yis U23 ti9 rfl rfl (by omega)) (qV (yldc U9 rfl rfl (rd_str wP af cn)) ?_)))))); rw [e1]; refine zqa rfl (zqa rfl (qM rfl (zqm rfl (zqm rfl (qV (ylnS U9 rfl) (rCall rfl rfl (ycv' (args := [.tmp 49, .const (Value.int .i64 1)]) cf108 rfl rfl) (put_ret iv x.1.length 1 (by omega) (by omega) (by simp; omega)) ?_)))))); rintro _ w6 ⟨qg, oa⟩; have bq := bh cA oa; have bT := bq.blk ay; refine rEnd (run_seq (qN rfl (qV (yfa fl84_0 rfl) (qV (yld U4 rfl rfl bT rfl) (rEnd (run_false rfl (run_skip (qN rfl (zqm rfl (zqc [.tmp 7, .tmp 69] cf110 rfl (bws_ret qg x.1 (by simp; omega)) ?_)))))))))); rintro _ w7 ⟨ob, od⟩; have aR := bh bq od; have dy := aR.blk ay; refine rEnd (run_reg rfl (zqm rfl (qV (yfa fl84_3 rfl) (qV (yld U82 rfl rfl dy rfl) (zqm rfl (zqd rfl rfl (qV (yis U82 ti89 rfl rfl (show i + 1 < ps.length + 1 by omega)) ?_))))))); refine qV (yldc U89 rfl rfl (rd_u32 (hC.ext aR) (by omega) dD)) (qV (ycvSi64 rfl U89 U3 (by omega)) (rCall rfl rfl (ycv' (args := [.tmp 78, .const (Value.int .i64 4)]) cf108 rfl rfl) (put_ret ob x.2 4 (by omega) (by omega) (by simp; omega)) ?_)); rintro _ w8 ⟨tC, oe⟩; have br := bh aR oe; refine rEnd (run_inBlock (run_reg rfl (zqd rfl rfl (zqm rfl (rEnd ((ih (i + 1) w8 ⟨by omega, br, ?_⟩ (by omega)).qb)))))); rw [bodyI_snoc hx]
      simpa using tC
     ·have e : i = ps.length := by omega
      subst e; rw [List.take_length] at iv; refine run_exit rfl (qN rfl (zqm rfl (zqc [.tmp 7] cf112 rfl (blen_ret iv) ?_))); rintro _ _ ⟨rfl, rfl⟩; have aM : (2 :: (beN ps.length 2 ++ (beN c0 4 ++ bodyI ps))).length ≤ z := by rw [o7]; exact gD
      refine qV (ysb rfl rfl (by omega)) ?_; rw [show ((z : Int) - ((2 :: (beN ps.length 2 ++ (beN c0 4 ++ bodyI ps))).length : Int)) = ((z - (2 :: (beN ps.length 2 ++ (beN c0 4 ++ bodyI ps))).length : Nat) : Int) by omega]; refine rCall rfl rfl (yc (args := [.const (Value.string (⟨#[0]⟩)), .tmp 83]) cf111 rfl) (brep_ret 0 _ (by omega)) ?_; rintro _ w9 ⟨rfl, iw⟩; refine zqc [.tmp 7, .tmp 84] cf110 rfl (bws_ret (iv.ext iw) _ (by simp; omega)) ?_; rintro _ w10 ⟨oh, kE⟩; refine qM rfl (zqc [.tmp 7] cf113 rfl (bstr_ret oh) ?_); rintro _ w11 ⟨rfl, kF⟩; refine zqa rfl (zqa rfl (rEnd (run_ret Tryz.func83 rfl (⟨_, rfl, bo.trans (bh (bh (cA.trans iw) kE) kF), .inl ⟨bi, ?_⟩⟩)))); simp only [resVal, enc, rawN_inn]
 ·rw [if_neg bi]; refine zqa rfl (qM rfl (zqm rfl (qV (yne rfl rfl) (rEnd (run_if rfl (fun h0 => ?_) (fun h0 => ?_))))))
  ·refine qN rfl (zqm rfl (zqa rfl (zqa rfl (rEnd (run_ret Tryz.func83 rfl ?_))))); exact ⟨_, rfl, bo, .inr ⟨bi, rfl⟩⟩
  ·exact absurd (by decide) h0
end Go.Proofs.YtocnhaoilnojmaaGreat
namespace Go.Proofs.YtocnhaoilnojmaaGreat
open Go Go.RowKit
set_option linter.all false
set_option maxRecDepth 100000
section
variable {w : World}
theorem rsize_ret (z : Int) (w : World) : Ret Tryz.prog 23 [I z] w fun v w' => v = I (if sizeOk z then 0 else 1) ∧ w' = w := by
 refine ret_of_run (e := [(0, _)]) Tryz.func23 rfl Tryz.ntmps23 rfl rfl (qN rfl (zqa rfl (rEnd (run_seq (qN rfl (zqm rfl (qV (ylt rfl rfl) (rVal_if (fun h1 => ?_) (fun h1 => ?_)))))))))
 ·refine zqm rfl (qS (qS (qV (ypT rfl rfl) (zqm rfl (qS (qS (qS (qV (ypT rfl rfl) (rEnd (run_true rfl (qN rfl (zqa rfl (rEnd ?_))))))))))))); refine run_ret Tryz.func23 rfl ?_; exact ⟨_, rfl, by rw [if_neg (fun h => by unfold sizeOk at h; omega)]; rfl, rfl⟩
 ·refine zqm rfl (zqm rfl (qV (ygt rfl rfl) (rVal_if (fun h2 => ?_) (fun h2 => ?_))))
  ·refine qV (ypF rfl rfl) (zqm rfl (qS (qS (qS (qV (ypT rfl rfl) (rEnd (run_true rfl (qN rfl (zqa rfl (rEnd (run_ret Tryz.func23 rfl ?_))))))))))); exact ⟨_, rfl, by rw [if_neg (fun h => by unfold sizeOk at h; omega)]; rfl, rfl⟩
  ·refine qV (ypF rfl rfl) (zqm rfl (zqm rfl (qV (yre rfl rfl (by omega)) (qV (yne rfl rfl) (qV (ypF rfl rfl) (rEnd (run_if rfl (fun h3 => ?_) (fun h3 => ?_))))))))
   ·refine qN rfl (zqa rfl (rEnd (run_ret Tryz.func23 rfl ?_))); exact ⟨_, rfl, by rw [if_neg (fun h => by unfold sizeOk at h; omega)]; rfl, rfl⟩
   ·refine run_skip (qN rfl (zqa rfl (rEnd (run_ret Tryz.func23 rfl ?_)))); exact ⟨_, rfl, by rw [if_pos (by unfold sizeOk; omega)]; rfl, rfl⟩
theorem rmost_ret (z : Int) (w : World) : Ret Tryz.prog 65 [I z] w fun v w' => v = .tuple #[I (if sizeOk z then ((mostE z.toNat : Nat) : Int) else 0), I (if sizeOk z then 0 else 1)] ∧ w' = w := by
 refine ret_of_run (e := [(0, _)]) Tryz.func65 rfl Tryz.ntmps65 rfl rfl (qN rfl (zqa rfl (zqa rfl (rEnd (run_seq (qN rfl (zqm rfl (zqc [.tmp 4] cf23 rfl (rsize_ret z _) ?_))))))))
 rintro _ w ⟨rfl, rfl⟩
 by_cases h : sizeOk z
 ·rw [if_pos h, if_pos h]; unfold sizeOk at h; refine qV (yne rfl rfl) (rFalse (by (first | exact fun h => h rfl | assumption | omega)) ?_); refine rEnd (run_false rfl (run_skip (qN rfl (zqm rfl (qV (ysb rfl rfl (by omega)) (qV (yqu rfl rfl (by omega)) (zqa rfl (zqa rfl (rEnd (run_ret Tryz.func65 rfl (⟨_, rfl, ?_, rfl⟩))))))))))); have : (z - 3) / 4 = (((z.toNat - 3) / 4 : Nat) : Int) := by omega
  rw [this]; rfl
 ·rw [if_neg h, if_neg h]; refine qV (yne rfl rfl) (rTrue (by (first | rfl | assumption | omega | decide)) ?_); refine rEnd (run_true rfl (qN rfl (zqa rfl (zqa rfl (rEnd (run_ret Tryz.func65 rfl ?_)))))); exact ⟨_, rfl, rfl, rfl⟩
theorem rmost_ok {z : Nat} (hz : sizeOk (z : Int)) (w : World) : Ret Tryz.prog 65 [I (z : Int)] w fun v w' => v = .tuple #[I ((mostE z : Nat) : Int), I 0] ∧ w' = w := by
 have := rmost_ret (z : Int) w
 rw [if_pos hz, if_pos hz, Int.toNat_natCast] at this
 exact this
theorem rkey_ret (s : Bytes) (w : World) : Ret Tryz.prog 40 [S s] w fun v w' => v = .bool (decide (1 ≤ s.length ∧ s.length ≤ 64)) ∧ w' = w := by
 refine ret_of_run (e := [(0, _)]) Tryz.func40 rfl Tryz.ntmps40 rfl rfl (qN rfl (zqa rfl (qM rfl (zqm rfl (qV (ylnS U9 rfl) (qV (yge rfl rfl) (rVal_if (fun h1 => ?_) (fun h1 => ?_))))))))
 ·refine zqm rfl (zqm rfl (qV (ylnS U9 rfl) (qV (yle rfl rfl) (qV (ypT rfl rfl) (zqa rfl (rEnd (run_ret Tryz.func40 rfl (⟨_, rfl, ?_, rfl⟩)))))))); have : 1 ≤ s.length := by omega
  simp [resVal, this]; omega
 ·refine zqm rfl (qS (qS (qS (qV (ypF rfl rfl) (zqa rfl (rEnd (run_ret Tryz.func40 rfl ?_)))))))
  have : s = [] := by
   have : s.length = 0 := by omega
   exact List.eq_nil_of_length_eq_zero this
  subst this; exact ⟨_, rfl, by simp [resVal], rfl⟩
end
section
variable {w : World}
end
section
variable {w : World}
end
structure DdN (w0 w : World) (b4 b5 b6 b9 : Nat) (lf : Bool) (ks vs : List Bytes) (cs : List Nat) (kv vv cv : Value) : Prop where
 blk : Blk w b9 [.bool lf, kv, vv, cv] 130
 k : Sl w kv 9 1 ks.length (ks.map S)
 v : Sl w vv 9 1 vs.length (vs.map S)
 c : Sl w cv 89 1 cs.length (cs.map u32v)
 low : ∀ g, kv.ownBlock = some g ∨ vv.ownBlock = some g ∨ cv.ownBlock = some g → w0.heap.size ≤ g ∧ g ≠ b4 ∧ g ≠ b5 ∧ g ≠ b6 ∧ g ≠ b9
 d2 : ∀ g, kv.ownBlock = some g → vv.ownBlock ≠ some g ∧ cv.ownBlock ≠ some g
 d3 : ∀ g, vv.ownBlock = some g → cv.ownBlock ≠ some g
 n9 : w0.heap.size ≤ b9 ∧ b9 ≠ b4 ∧ b9 ≠ b5 ∧ b9 ≠ b6
 n4 : b4 < w.heap.size ∧ b5 < w.heap.size ∧ b6 < w.heap.size
section
variable {w0 w w' w1 w2 w3 w4 : World} {b4 b5 b6 b9 : Nat} {lf : Bool} {ks vs : List Bytes} {cs : List Nat} {kv vv cv kv2 : Value}
theorem DdN.kp {S : Nat → Prop} (h : DdN w0 w b4 b5 b6 b9 lf ks vs cs kv vv cv) (k : Kp S w w') (hs : ∀ g, S g → g = b4 ∨ g = b5) : DdN w0 w' b4 b5 b6 b9 lf ks vs cs kv vv cv := by
 have hz := k.size
 refine ⟨k.blk h.blk (fun e => (hs _ e).elim h.n9.2.1 h.n9.2.2.1), h.k.kp k (fun g hg e => ?_), h.v.kp k (fun g hg e => ?_), h.c.kp k (fun g hg e => ?_), h.low, h.d2, h.d3, h.n9, by have := h.n4; omega⟩
 ·have := h.low g (.inl hg); exact (hs g e).elim this.2.1 this.2.2.1
 ·have := h.low g (.inr (.inl hg)); exact (hs g e).elim this.2.1 this.2.2.1
 ·have := h.low g (.inr (.inr hg)); exact (hs g e).elim this.2.1 this.2.2.1
theorem DdN.ext (h : DdN w0 w b4 b5 b6 b9 lf ks vs cs kv vv cv) (k : Ext w w') : DdN w0 w' b4 b5 b6 b9 lf ks vs cs kv vv cv := h.kp k (fun _ e => e.elim)
theorem DdN.pushK (h0 : w0.heap.size ≤ w1.heap.size) (h : DdN w0 w1 b4 b5 b6 b9 lf ks vs cs kv vv cv) {x : Bytes} {u : Value} (hx : Ext w1 w2) (hs : Sl w3 u 9 1 (ks ++ [x]).length ((ks ++ [x]).map S)) (hk : Kp (fun g => kv.ownBlock = some g) w2 w3) (ho : ∀ g, u.ownBlock = some g → kv.ownBlock = some g ∨ w2.heap.size ≤ g) (hl : Blk w4 b9 [.bool lf, u, vv, cv] 130) (ax : Kp (fun g => g = b9) w3 w4) :
  DdN w0 w4 b4 b5 b6 b9 lf (ks ++ [x]) vs cs u vv cv ∧ Kp (fun g => g = b9 ∨ kv.ownBlock = some g) w1 w4 := by
 have ae : Kp (fun g => g = b9 ∨ kv.ownBlock = some g) w1 w4 := (hx.kp.trans (hk.mono' (fun g e => .inr e))).trans (ax.mono' (fun g e => .inl e))
 have hz := hx.size
 have dH := ae.size
 have tF := h.blk.lt
 have mE := h.n4
 have wT := h.n9
 have hu : ∀ g, u.ownBlock = some g → w0.heap.size ≤ g ∧ g ≠ b4 ∧ g ≠ b5 ∧ g ≠ b6 ∧ g ≠ b9 := fun g hg => by
  rcases ho g hg with e | e
  ·exact h.low g (.inl e)
  ·exact ⟨by omega, by omega, by omega, by omega, by omega⟩
 refine ⟨⟨hl, hs.kp ax (fun g hg e => (hu g hg).2.2.2.2 e), h.v.kp ae (fun g hg e => e.elim (h.low g (.inr (.inl hg))).2.2.2.2 (fun e => (h.d2 g e).1 hg)), h.c.kp ae (fun g hg e => e.elim (h.low g (.inr (.inr hg))).2.2.2.2 (fun e => (h.d2 g e).2 hg)), ?_, ?_, ?_, h.n9, by omega⟩, ae⟩
 ·exact fun g hg => by
   rcases hg with hg | hg | hg
   ·exact hu g hg
   ·exact h.low g (.inr (.inl hg))
   ·exact h.low g (.inr (.inr hg))
 ·exact fun g hg => by
   rcases ho g hg with e | e
   ·exact h.d2 g e
   ·exact ⟨fun hg => by have := h.v.lt hg; omega, fun hg => by have := h.c.lt hg; omega⟩
 ·exact h.d3
theorem DdN.pushV (h0 : w0.heap.size ≤ w1.heap.size) (h : DdN w0 w1 b4 b5 b6 b9 lf ks vs cs kv vv cv) {x : Bytes} {u : Value} (hx : Ext w1 w2) (hs : Sl w3 u 9 1 (vs ++ [x]).length ((vs ++ [x]).map S)) (hk : Kp (fun g => vv.ownBlock = some g) w2 w3) (ho : ∀ g, u.ownBlock = some g → vv.ownBlock = some g ∨ w2.heap.size ≤ g) (hl : Blk w4 b9 [.bool lf, kv, u, cv] 130) (ax : Kp (fun g => g = b9) w3 w4) :
  DdN w0 w4 b4 b5 b6 b9 lf ks (vs ++ [x]) cs kv u cv ∧ Kp (fun g => g = b9 ∨ vv.ownBlock = some g) w1 w4 := by
 have ae : Kp (fun g => g = b9 ∨ vv.ownBlock = some g) w1 w4 := (hx.kp.trans (hk.mono' (fun g e => .inr e))).trans (ax.mono' (fun g e => .inl e))
 have hz := hx.size
 have dH := ae.size
 have tF := h.blk.lt
 have mE := h.n4
 have wT := h.n9
 have hu : ∀ g, u.ownBlock = some g → w0.heap.size ≤ g ∧ g ≠ b4 ∧ g ≠ b5 ∧ g ≠ b6 ∧ g ≠ b9 := fun g hg => by
  rcases ho g hg with e | e
  ·exact h.low g (.inr (.inl e))
  ·exact ⟨by omega, by omega, by omega, by omega, by omega⟩
 refine ⟨⟨hl, h.k.kp ae (fun g hg e => e.elim (h.low g (.inl hg)).2.2.2.2 (fun e => (h.d2 g hg).1 e)), hs.kp ax (fun g hg e => (hu g hg).2.2.2.2 e), h.c.kp ae (fun g hg e => e.elim (h.low g (.inr (.inr hg))).2.2.2.2 (fun e => h.d3 g e hg)), ?_, ?_, ?_, h.n9, by omega⟩, ae⟩
 ·exact fun g hg => by
   rcases hg with hg | hg | hg
   ·exact h.low g (.inl hg)
   ·exact hu g hg
   ·exact h.low g (.inr (.inr hg))
 ·exact fun g hg => ⟨fun a8 => by
   rcases ho g a8 with e | e
   ·exact (h.d2 g hg).1 e
   ·have := h.k.lt hg; omega, (h.d2 g hg).2⟩
 ·exact fun g hg => by
   rcases ho g hg with e | e
   ·exact h.d3 g e
   ·exact fun hg => by have := h.c.lt hg; omega
theorem DdN.pushC (h0 : w0.heap.size ≤ w1.heap.size) (h : DdN w0 w1 b4 b5 b6 b9 lf ks vs cs kv vv cv) {x : Nat} {u : Value} (hx : Ext w1 w2) (hs : Sl w3 u 89 1 (cs ++ [x]).length ((cs ++ [x]).map u32v)) (hk : Kp (fun g => cv.ownBlock = some g) w2 w3) (ho : ∀ g, u.ownBlock = some g → cv.ownBlock = some g ∨ w2.heap.size ≤ g) (hl : Blk w4 b9 [.bool lf, kv, vv, u] 130) (ax : Kp (fun g => g = b9) w3 w4) :
  DdN w0 w4 b4 b5 b6 b9 lf ks vs (cs ++ [x]) kv vv u ∧ Kp (fun g => g = b9 ∨ cv.ownBlock = some g) w1 w4 := by
 have ae : Kp (fun g => g = b9 ∨ cv.ownBlock = some g) w1 w4 := (hx.kp.trans (hk.mono' (fun g e => .inr e))).trans (ax.mono' (fun g e => .inl e))
 have hz := hx.size
 have dH := ae.size
 have tF := h.blk.lt
 have mE := h.n4
 have wT := h.n9
 have hu : ∀ g, u.ownBlock = some g → w0.heap.size ≤ g ∧ g ≠ b4 ∧ g ≠ b5 ∧ g ≠ b6 ∧ g ≠ b9 := fun g hg => by
  rcases ho g hg with e | e
  ·exact h.low g (.inr (.inr e))
  ·exact ⟨by omega, by omega, by omega, by omega, by omega⟩
 refine ⟨⟨hl, h.k.kp ae (fun g hg e => e.elim (h.low g (.inl hg)).2.2.2.2 (fun e => (h.d2 g hg).2 e)), h.v.kp ae (fun g hg e => e.elim (h.low g (.inr (.inl hg))).2.2.2.2 (fun e => h.d3 g hg e)), hs.kp ax (fun g hg e => (hu g hg).2.2.2.2 e), ?_, ?_, ?_, h.n9, by omega⟩, ae⟩
 ·exact fun g hg => by
   rcases hg with hg | hg | hg
   ·exact h.low g (.inl hg)
   ·exact h.low g (.inr (.inl hg))
   ·exact hu g hg
 ·exact fun g hg => ⟨(h.d2 g hg).1, fun a8 => by
   rcases ho g a8 with e | e
   ·exact (h.d2 g hg).2 e
   ·have := h.k.lt hg; omega⟩
 ·exact fun g hg a8 => by
   rcases ho g a8 with e | e
   ·exact h.d3 g hg e
   ·have := h.v.lt hg; omega
end
section
variable {w : World}
end
def esC (es : Es) : List Value := es.flatMap fun x => [S x.1, S x.2]
theorem esC_app (a b : Es) : esC (a ++ b) = esC a ++ esC b := by simp [esC]
theorem esC_one (x : Bytes × Bytes) : esC [x] = [S x.1, S x.2] := rfl
def ESl (w : World) (v : Value) (es : Es) : Prop := Sl w v 49 2 es.length (esC es)
structure RgC (w : World) (p : Nat) (m : Nat) (f : Bytes) (bt bl bm bf bp : Nat) (v : Value) (out : Es) : Prop where
 t : Blk w bt [ptr p 0] 24
 l : Blk w bl [v] 45
 m : Blk w bm [I (m : Int)] 3
 f : Blk w bf [S f] 9
 g : Blk w bp [.func (.func 49) #[] #[ptr bt 0, ptr bl 0, ptr bm 0, ptr bf 0, ptr bp 0]] 80
 s : ESl w v out
 n1 : bl ≠ bt ∧ bl ≠ bm ∧ bl ≠ bf ∧ bl ≠ bp
 n2 : ∀ g, v.ownBlock = some g → g ≠ bt ∧ g ≠ bl ∧ g ≠ bm ∧ g ≠ bf ∧ g ≠ bp
theorem RgC.ext {w w' : World} {p m : Nat} {f : Bytes} {bt bl bm bf bp : Nat} {v : Value} {out : Es} (h : RgC w p m f bt bl bm bf bp v out) (k : Ext w w') : RgC w' p m f bt bl bm bf bp v out :=
 ⟨k.blk h.t, k.blk h.l, k.blk h.m, k.blk h.f, k.blk h.g, h.s.ext k, h.n1, h.n2⟩
structure RgQ (w w' : World) (bl : Nat) (v v' : Value) : Prop where
 kp : Kp (fun k => k = bl ∨ v.ownBlock = some k) w w'
 own : ∀ g, v'.ownBlock = some g → v.ownBlock = some g ∨ w.heap.size ≤ g
theorem RgQ.refl (w : World) (bl : Nat) (v : Value) : RgQ w w bl v v := ⟨Kp.refl _ _, fun g hg => .inl hg⟩
theorem RgQ.ext {w w1 w2 : World} {bl : Nat} {v v1 : Value} (h : RgQ w w1 bl v v1) (k : Ext w1 w2) : RgQ w w2 bl v v1 := ⟨h.kp.trans k.kp, h.own⟩
theorem RgQ.trans {w w1 w2 : World} {bl : Nat} {v v1 v2 : Value} (h : RgQ w w1 bl v v1) (k : RgQ w1 w2 bl v1 v2) : RgQ w w2 bl v v2 :=
 ⟨h.kp.trans_new k.kp (fun i hi => by
  rcases hi with e | e
  ·exact .inr (.inl e)
  ·exact (h.own i e).elim (fun e => .inr (.inr e)) .inl), fun g hg => by
  rcases k.own g hg with e | e
  ·exact h.own g e
  ·have := h.kp.size; exact .inr (by omega)⟩
theorem RgC.push {w1 w2 w3 w4 : World} {p m : Nat} {f : Bytes} {bt bl bm bf bp : Nat} {v v2 : Value} {out : Es} {x : Bytes × Bytes} (h : RgC w1 p m f bt bl bm bf bp v out) (hx : Ext w1 w2) (hs : ESl w3 v2 (out ++ [x])) (hk : Kp (fun k => v.ownBlock = some k) w2 w3) (ho : ∀ g, v2.ownBlock = some g → v.ownBlock = some g ∨ w2.heap.size ≤ g) (hl : Blk w4 bl [v2] 45) (ax : Kp (fun k => k = bl) w3 w4) : RgC w4 p m f bt bl bm bf bp v2 (out ++ [x]) ∧ RgQ w1 w4 bl v v2 := by
 have ae : Kp (fun k => k = bl ∨ v.ownBlock = some k) w1 w4 := (hx.kp.trans (hk.mono' (fun k h => .inr h))).trans (ax.mono' (fun k h => .inl h))
 have hz := hx.size
 have l1 := h.t.lt
 have l2 := h.l.lt
 have l3 := h.m.lt
 have l4 := h.f.lt
 have l5 := h.g.lt
 have aT : ∀ b, b ≠ bl → (∀ g, v.ownBlock = some g → g ≠ b) → ¬ (b = bl ∨ v.ownBlock = some b) := fun b h1 h2 h => h.elim h1 (fun e => h2 b e rfl)
 refine ⟨⟨ae.blk h.t (aT _ h.n1.1.symm (fun g hg => (h.n2 g hg).1)), hl, ae.blk h.m (aT _ h.n1.2.1.symm (fun g hg => (h.n2 g hg).2.2.1)), ae.blk h.f (aT _ h.n1.2.2.1.symm (fun g hg => (h.n2 g hg).2.2.2.1)), ae.blk h.g (aT _ h.n1.2.2.2.symm (fun g hg => (h.n2 g hg).2.2.2.2)), ?_, h.n1, fun g hg => ?_⟩, ae, fun g hg => (ho g hg).imp id (fun e => by omega)⟩
 ·refine Sl.kp hs ax (fun g hg e => ?_); rcases ho g hg with e' | e'
  ·exact (h.n2 g e').2.1 e
  ·omega
 ·rcases ho g hg with e' | e'
  ·exact h.n2 g e'
  ·exact ⟨by omega, by omega, by omega, by omega, by omega⟩
theorem rd_getsN {w : World} {a : Option Addr} {cap n : Nat} {l : List Bytes} {i : Nat} (h : Rd w (.slice a n cap) 1 n (l.map S)) (hn : n = l.length) (hi : i < n) : ∃ b off s, a = some ⟨b, off, none⟩ ∧ l[i]? = some s := by
 subst hn; exact rd_gets h hi
def RgAt (p : Nat) (m : Nat) (f : Bytes) (bt bl bm bf bp : Nat) (H : Nat) : Prop := ∀ (w : World) (T : Tr) (nb : Int → Nat) (F : Nat → Prop) (no : Int) (lo : Bytes) (hi : Option Bytes) (ns : List Int) (es out : Es) (v : Value),
 TreeA w p T nb F → RgC w p m f bt bl bm bf bp v out → ¬ F bl → (∀ g, v.ownBlock = some g → ¬ F g) → Bn T.size T.nodes H no lo hi ns es → out.length + es.length ≤ 1000000 →
 Ret Tryz.prog 49 [I no, ptr bt 0, ptr bl 0, ptr bm 0, ptr bf 0, ptr bp 0] w fun val w' => val = .tuple #[] ∧ ∃ v', RgC w' p m f bt bl bm bf bp v' (takeR m f out es) ∧ RgQ w w' bl v v'
section
variable {w : World}
set_option maxHeartbeats 4000000 in
theorem rgAt_leaf {p m : Nat} {f : Bytes} {bt bl bm bf bp : Nat} (hm : m ≤ 9223372036854775807) : RgAt p m f bt bl bm bf bp 1 := by
 intro w T nb F no lo hi ns E out v h hc eW tG hB aM
 have hz : sizeOk (T.size : Int) := size_ok h
 obtain ⟨z1, z2, -⟩ := id hz
 obtain ⟨hn, iq, bi, Bx, tz⟩ := hB.leaf (by omega)
 obtain ⟨mN, mC, mO, gv, kn, kc, ko, O⟩ := h.opn
 obtain ⟨q, hq, hM, eY, -⟩ := h.nodeF hn
 obtain ⟨qb, qk, qv, qc⟩ := q
 dsimp only at hq
 subst hq
 have aq := hM.blk
 have hK := hM.keys
 have hV := hM.vals
 dsimp only at aq hK hV
 have eQ : (leafNd E).vals.length = E.length := by simp [leafNd]
 have cy : (leafNd E).keys.length = E.length := by simp [leafNd]
 rw [eQ] at hV
 rw [cy] at hK
 have dr : E.length ≤ 100000 := by have := hM.bd.kl; omega
 have bN := hc.t
 obtain ⟨ka, kcp, Gk, -⟩ := hK.rd.shape
 obtain ⟨va, vcp, Gl, -⟩ := hV.rd.shape
 subst Gk
 subst Gl
 have vg : ∀ g, Pl.fp ⟨nb no, .slice ka E.length kcp, .slice va E.length vcp, qc⟩ g → F g := fun g hg => (eY g hg).1
 refine ret_of_run (e := [(0, _), (1, _), (2, _), (3, _), (4, _), (5, _)]) Tryz.func49 rfl Tryz.ntmps49 rfl rfl (qN rfl (qV ((by first | exact yld U24 rfl rfl bN rfl | exact yld U24 rfl rfl O.blk rfl | exact yld U24 rfl rfl aq rfl)) ?_))
 refine qV (ynk rfl) (qV (yfa fl74_5 rfl) (qV ((by first | exact yld U71 rfl rfl bN rfl | exact yld U71 rfl rfl O.blk rfl | exact yld U71 rfl rfl aq rfl)) ?_))
 refine zqm rfl (qV (ylk (k := no) (K := KZ) U71 (ky_int U3) ti81 rfl rfl O.nm.l) ?_)
 rw [show (getL kn no).getD (.pointer none) = ptr (nb no) 0 by rw [O.ng no, hn]; rfl]
 refine zqa rfl (rEnd (run_seq (qN rfl (zqm rfl (qV (ynk rfl) (qV (yfa fl84_0 rfl) (qV ((by first | exact yld U4 rfl rfl bN rfl | exact yld U4 rfl rfl O.blk rfl | exact yld U4 rfl rfl aq rfl)) ?_)))))))
 refine rEnd (run_true rfl (run_seq (qN rfl (zqm rfl (qV (ynk rfl) (qV (yfa fl84_1 rfl) (qV ((by first | exact yld U23 rfl rfl bN rfl | exact yld U23 rfl rfl O.blk rfl | exact yld U23 rfl rfl aq rfl)) ?_)))))))
 refine qV (yln U23 rfl) (zqm rfl (rEnd (run_block (zqu (α := Nat) (0) (fun i => [(1, ptr bt 0), (2, ptr bl 0), (3, ptr bm 0), (4, ptr bf 0), (5, ptr bp 0), (7, ptr (nb no) 0), (24, .slice ka E.length kcp), (25, I (E.length : Int)), (26, I (i : Int))]) (fun i w' => i ≤ E.length ∧ ∃ v', RgC w' p m f bt bl bm bf bp v' (takeR m f out (E.take i)) ∧ RgQ w w' bl v v') (fun i => E.length - i) ?hI ?hround))))
 case hI => exact ⟨Nat.zero_le _, v, by rw [List.take_zero, takeR_nil]; exact hc, RgQ.refl _ _ _⟩
 case hround =>
  rintro i w1 ⟨ii, v1, cJ, dM⟩ ih; obtain ⟨va1, vc1, iG, -⟩ := Sl.rd cJ.s |>.shape; subst iG; have tH : ∀ g, F g → ¬ (g = bl ∨ v.ownBlock = some g) := fun g hg e => e.elim (fun e => eW (e ▸ hg)) (fun e => tG g e hg); have vh := hK.kp dM.kp (fun g hg => tH g (vg g (.inr (.inl hg)))); have lT := hV.kp dM.kp (fun g hg => tH g (vg g (.inr (.inr (.inl hg))))); have cK := dM.kp.blk aq (tH _ (vg _ (.inl rfl))); have gN := cJ.l; have fE := cJ.m; have tI := cJ.f; have wQ := takeR_len m f out (E.take i); have BC : (E.take i).length ≤ E.length := by rw [List.length_take]; omega
  try dsimp only
  refine qN rfl (qV (ylt rfl rfl) (rEnd (run_seq (run_if rfl (fun ah => ?_) (fun ah => ?_)))))
  ·have af : i < E.length := by omega
   obtain ⟨x, hx⟩ : ∃ x, E[i]? = some x := ⟨_, List.getElem?_eq_getElem af⟩; obtain ⟨lb, lo', s, rfl, cn⟩ := rd_getsN vh.rd (by simp [leafNd]) af; obtain ⟨lb2, lo2, s2, rfl, dD⟩ := rd_getsN lT.rd (by simp [leafNd]) af; have es : s = x.1 := by simp [leafNd, hx] at cn; exact cn.symm
   have es2 : s2 = x.2 := by simp [leafNd, hx] at dD; exact dD.symm
   have bh : takeR m f out (E.take (i + 1)) = takeR m f (takeR m f out (E.take i)) [x] := by
    obtain ⟨h1, h2⟩ := List.getElem?_eq_some_iff.1 hx; rw [takeR_app, List.take_succ_eq_append_getElem h1, h2]
   refine run_skip (run_seq (run_block (qN rfl (zqm rfl (qV (yis U23 ti9 rfl rfl (by omega)) (qV (yldc U9 rfl rfl (rd_str vh.rd af cn)) ?_)))))); rw [es]; refine zqa rfl (zqa rfl (qM rfl (qV ((by first | exact yld U45 rfl rfl gN rfl | exact yld U45 rfl rfl fE rfl | exact yld U45 rfl rfl tI rfl)) ?_))); refine qV (yln U45 rfl) (qV ((by first | exact yld U3 rfl rfl gN rfl | exact yld U3 rfl rfl fE rfl | exact yld U3 rfl rfl tI rfl)) ?_); refine qV (ylt rfl rfl) (rVal_if (fun h1 => ?_) (fun h1 => ?_))
   ·refine zqm rfl (zqm rfl (qV ((by first | exact yld U9 rfl rfl gN rfl | exact yld U9 rfl rfl fE rfl | exact yld U9 rfl rfl tI rfl)) ?_)); refine qV (ygeS rfl rfl) (qV (ypT rfl rfl) (rEnd (run_cond rfl (fun h2 => ?_) (fun h2 => ?_))))
    ·have ll : lt x.1 f = false := by simpa using h2
     have eL := Ext.drew0 w1; refine run_drawL [11,12] (fun w' => Ext w1 w') (by kernel_rfl) rfl (qL [11, 12] 0 rfl (fun _ h=>(by first | exact yld U45 rfl rfl (h.blk gN) rfl | exact yld U45 rfl rfl (h.blk cK) rfl)) eL ?_); refine qL [9, 10, 11, 12] 1 rfl (fun _ h=>ymv rfl) eL (qL [3, 4, 5, 7, 8, 9, 10, 11, 12] 2 rfl (fun _ h=>ymv rfl) eL (qL [4, 5, 7, 8, 9, 10, 11, 12] 3 rfl (fun _ h=>ynk rfl) eL (qL [5, 7, 8, 9, 10, 11, 12] 4 rfl (fun _ h=>yfa fl84_2 rfl) eL (qL [7, 8, 9, 10, 11, 12] 5 rfl (fun _ h=>(by first | exact yld U23 rfl rfl (h.blk gN) rfl | exact yld U23 rfl rfl (h.blk cK) rfl)) eL ?_)))); refine qL [7, 8, 9, 10, 11, 12] 6 rfl (fun _ h=>ymv rfl) eL (qL [8, 9, 10, 11, 12] 7 rfl (fun _ h=>yis U23 ti9 rfl rfl (by omega)) eL (qL [9, 10, 11, 12] 8 rfl (fun _ h=>yldc U9 rfl rfl (rd_str (lT.ext h).rd af dD)) eL ?_)); rw [es2]; refine qL [10, 11, 12] 9 rfl (fun _ h=>ybd (parts := [(0, .tmp 41), (1, .tmp 48)]) (cs := [_, _]) ti49 rfl sp49 rfl rfl) eL (hOneL (i := 10) (by kernel_rfl) (nValPL (i := 10) rfl rfl rfl (pbs (parts := [(0, .tmp 49)]) (cs := [_, _]) (zs := [Value.string ⟨#[]⟩, Value.string ⟨#[]⟩]) U45 ti49 rfl (by kernel_rfl) rfl rfl rfl (by decide)) ?_)); rintro _ w2 ⟨b2, rfl, ⟨cz, ad, ay⟩, aV⟩; refine ⟨eL.trans ad, ?_⟩; have kA := eL.trans ad; have eP : maxLen = 9223372036854775807 := rfl; refine hLate [11] (by kernel_rfl) (by kernel_rfl) (qO 11 (nValP (i := 11) rfl rfl rfl (pap U45 ti49 rfl (by decide) rfl rfl (Sl.ext cJ.s kA) aV.rd (by intro c hc; simp at hc; rcases hc with rfl | rfl <;> rfl) (by omega) (by omega)) ?_)); rintro v2 w3 ⟨aJ, ak, du, -⟩; refine ⟨trivial, ?_⟩; have aN := ak.blk (kA.blk gN) (fun e => (cJ.n2 _ e).2.1 rfl); refine qO 12 (nEffP (i := 12) rfl rfl (zst ti45 rfl rfl (oneV_sl aJ) aN (by simp)) ?_); rintro w4 ⟨bs, ax⟩; refine ⟨trivial, ?_⟩; refine qE (run_inBlock (run_reg rfl (zqd rfl rfl (zqm rfl (rEnd ?_)))))
     have hp := cJ.push kA (v2 := v2) (x := x) (by
      unfold ESl; rw [esC_app, esC_one, List.length_append]
      exact aJ) ak du bs ax
     exact (ih (i + 1) w4 ⟨by omega, v2, by rw [bh, takeR_one (by omega) ll]; exact hp.1, dM.trans hp.2⟩ (by omega)).qb
    ·have ll : lt x.1 f = true := by simpa using h2
     refine run_skip (run_inBlock (run_reg rfl (zqd rfl rfl (zqm rfl (rEnd ?_))))); exact (ih (i + 1) w1 ⟨by omega, _, by rw [bh, takeR_not (out := takeR m f out (E.take i)) (es := [x]) (by intro y hy; simp at hy; subst hy; exact ll)]; exact cJ, dM⟩ (by omega)).qb
   ·refine zqm rfl (qS (qS (qS (qV (ypF rfl rfl) (rEnd (run_false rfl (run_skip (run_inBlock (run_reg rfl (zqd rfl rfl (zqm rfl (rEnd ?_)))))))))))); exact (ih (i + 1) w1 ⟨by omega, _, by rw [bh, takeR_full (out := takeR m f out (E.take i)) (es := [x]) (by omega)]; exact cJ, dM⟩ (by omega)).qb
  ·have e : i = E.length := by omega
   subst e; rw [List.take_length] at cJ dM; refine run_exit rfl (run_ret Tryz.func49 rfl ?_); exact ⟨_, rfl, rfl, _, cJ, dM⟩
theorem flatMap_take_len {α β : Type} (L : List α) (f : α → List β) (i : Nat) : ((L.take i).flatMap f).length ≤ (L.flatMap f).length := by
 conv => rhs; rw [← List.take_append_drop i L, List.flatMap_append, List.length_append]
 omega
set_option maxHeartbeats 4000000 in
theorem rgAt_inner {p m : Nat} {f : Bytes} {bt bl bm bf bp H : Nat} (hm : m ≤ 9223372036854775807) (ih : RgAt p m f bt bl bm bf bp (H + 1)) : RgAt p m f bt bl bm bf bp (H + 2) := by
 intro w T nb F no lo hi ns es out v h hc eW tG hB aM
 have hz : sizeOk (T.size : Int) := size_ok h
 obtain ⟨z1, z2, -⟩ := id hz
 obtain ⟨c, ps, ns1, hn, rfl, fj, Gm, Ir, cx, aO, vi⟩ := hB.inner (by omega)
 obtain ⟨L, hL, jj, rfl, rfl⟩ := (ch_iff hi).1 vi
 obtain ⟨mN, mC, mO, gv, kn, kc, ko, O⟩ := h.opn
 obtain ⟨q, hq, hM, eY, -⟩ := h.nodeF hn
 obtain ⟨qb, qk, qv, qc⟩ := q
 dsimp only at hq
 subst hq
 have aq := hM.blk
 have hC := hM.kids
 dsimp only at aq hC
 have kcl : (innNd c ps).kids.length = ps.length + 1 := by simp [innNd]
 rw [kcl] at hC
 obtain ⟨gc, cc, rfl⟩ := some_of hC (by omega)
 have dl : ps.length ≤ 100000 := by have := hM.bd.cl; omega
 have A7 := wayI_le (ps.map (·.1)) f
 rw [List.length_map] at A7
 have bN := hc.t
 have rq := hc.f
 have Gn := way_before (k := f) hL jj (fun x l u n e s => (Bn.keys s).1)
 have vg : ∀ g, Pl.fp ⟨nb no, qk, qv, .slice (some ⟨gc, 0, none⟩) (ps.length + 1) cc⟩ g → F g := fun g hg => (eY g hg).1
 have oo := h.lt
 refine ret_of_run (e := [(0, _), (1, _), (2, _), (3, _), (4, _), (5, _)]) Tryz.func49 rfl Tryz.ntmps49 rfl rfl (qN rfl (qV ((by first | exact yld U24 rfl rfl bN rfl | exact yld U24 rfl rfl O.blk rfl | exact yld U24 rfl rfl aq rfl | exact yld U24 rfl rfl rq rfl)) ?_))
 refine qV (ynk rfl) (qV (yfa fl74_5 rfl) (qV ((by first | exact yld U71 rfl rfl bN rfl | exact yld U71 rfl rfl O.blk rfl | exact yld U71 rfl rfl aq rfl | exact yld U71 rfl rfl rq rfl)) ?_))
 refine zqm rfl (qV (ylk (k := no) (K := KZ) U71 (ky_int U3) ti81 rfl rfl O.nm.l) ?_)
 rw [show (getL kn no).getD (.pointer none) = ptr (nb no) 0 by rw [O.ng no, hn]; rfl]
 refine zqa rfl (rEnd (run_seq (qN rfl (zqm rfl (qV (ynk rfl) (qV (yfa fl84_0 rfl) (qV ((by first | exact yld U4 rfl rfl bN rfl | exact yld U4 rfl rfl O.blk rfl | exact yld U4 rfl rfl aq rfl | exact yld U4 rfl rfl rq rfl)) ?_)))))))
 refine rEnd (run_false rfl (run_skip (qN rfl (zqm rfl (qV ((by first | exact yld U9 rfl rfl bN rfl | exact yld U9 rfl rfl O.blk rfl | exact yld U9 rfl rfl aq rfl | exact yld U9 rfl rfl rq rfl)) ?_)))))
 refine zqc [.tmp 53, .tmp 54] cf46 rfl (way_ret f aq hM.r hM.bd fj.2) ?_
 rintro _ w ⟨rfl, rfl⟩
 rw [show wayI (innNd c ps).keys f = wayI (ps.map (·.1)) f from rfl]
 refine zqa rfl (rEnd (run_block (zqu (α := Nat) (wayI (ps.map (·.1)) f) (fun i => [(1, ptr bt 0), (2, ptr bl 0), (3, ptr bm 0), (4, ptr bf 0), (5, ptr bp 0), (7, ptr (nb no) 0), (10, I (i : Int))]) (fun i w' => i ≤ ps.length + 1 ∧ ∃ v', RgC w' p m f bt bl bm bf bp v' (takeR m f out ((L.take i).flatMap (·.2))) ∧ RgQ w w' bl v v') (fun i => ps.length + 1 - i) ?hI ?hround)))
 case hI => exact ⟨by omega, v, by rw [takeR_not Gn]; exact hc, RgQ.refl _ _ _⟩
 case hround =>
  rintro i w1 ⟨ii, v1, cJ, dM⟩ ihl; obtain ⟨va1, vc1, iG, -⟩ := Sl.rd cJ.s |>.shape; subst iG; have tH : ∀ g, F g → ¬ (g = bl ∨ v.ownBlock = some g) := fun g hg e => e.elim (fun e => eW (e ▸ hg)) (fun e => tG g e hg); have wU := hC.kp dM.kp (fun g hg => tH g (vg g (.inr (.inr (.inr hg))))); have cK := dM.kp.blk aq (tH _ (vg _ (.inl rfl))); have h1 := h.kp dM.kp tH; have gN := cJ.l; have fE := cJ.m; have wV := cJ.g; have wQ := takeR_len m f out ((L.take i).flatMap (·.2)); have BC := flatMap_take_len L (fun l : List Int × Es => l.2) i
  have ru : (m ≤ (takeR m f out ((L.take i).flatMap (·.2))).length ∨ i = ps.length + 1) → takeR m f out (L.flatMap (·.2)) = takeR m f out ((L.take i).flatMap (·.2)) := fun hd => by
   rcases hd with hd | rfl
   ·conv => lhs; rw [← List.take_append_drop i L, List.flatMap_append, ← takeR_app]
    rw [takeR_full hd]
   ·rw [List.take_of_length_le (by omega)]
  try dsimp only
  refine run_seq (qN rfl (zqm rfl (zqm rfl (qV (ynk rfl) (qV (yfa fl84_3 rfl) (qV ((by first | exact yld U82 rfl rfl cK rfl | exact yld U82 rfl rfl gN rfl | exact yld U82 rfl rfl fE rfl)) ?_)))))); refine qV (yln U82 rfl) (qV (ylt rfl rfl) (rVal_if (fun Gp => ?_) (fun Gp => ?_)))
  ·have zQ : i < ps.length + 1 := by omega
   refine zqm rfl (qV ((by first | exact yld U45 rfl rfl cK rfl | exact yld U45 rfl rfl gN rfl | exact yld U45 rfl rfl fE rfl)) ?_); refine qV (yln U45 rfl) (qV ((by first | exact yld U3 rfl rfl cK rfl | exact yld U3 rfl rfl gN rfl | exact yld U3 rfl rfl fE rfl)) ?_); refine qV (ylt rfl rfl) (rVal_if (fun Gq => ?_) (fun Gq => ?_))
   ·refine qV (ypT rfl rfl) (rEnd (run_true rfl (run_skip (run_seq (run_block ?_))))); obtain ⟨a, l, u, hb, ha, -, -⟩ := bnds_get hi ps lo c i (by omega); obtain ⟨q1, wW⟩ : ∃ q, L[i]? = some q := ⟨_, List.getElem?_eq_getElem (by omega)⟩; have kD := jj i _ _ hb wW; have ve := hM.bd.cs a (List.mem_of_getElem? (show (innNd c ps).kids[_]? = some a from ha)); have bh := flatMap_take_succ (f := fun l : List Int × Es => l.2) wW; have bY := flatMap_take_len L (fun l : List Int × Es => l.2) (i + 1); rw [bh, List.length_append] at bY; have az := Ext.drew0 w1; have eV := dM.kp.size; have BD : ∀ g, (Value.slice va1 (takeR m f out ((L.take i).flatMap (·.2))).length vc1).ownBlock = some g → ¬ F g := fun g hg hF => (dM.own g hg).elim (fun e => tG g e hF) (fun e => by have := oo g hF; omega); refine run_drawL [9] (fun w' => Ext w1 w') (by kernel_rfl) rfl (qL [9] 0 rfl (fun _ h=>(by first | exact yld U80 rfl rfl (h.blk cK) rfl | exact yld U80 rfl rfl (h.blk wV) rfl)) az ?_); refine qL [2, 3, 4, 6, 7, 8, 9] 1 rfl (fun _ h=>ymv rfl) az (qL [3, 4, 6, 7, 8, 9] 2 rfl (fun _ h=>ynk rfl) az (qL [4, 6, 7, 8, 9] 3 rfl (fun _ h=>yfa fl84_3 rfl) az (qL [6, 7, 8, 9] 4 rfl (fun _ h=>(by first | exact yld U82 rfl rfl (h.blk cK) rfl | exact yld U82 rfl rfl (h.blk wV) rfl)) az ?_))); refine qL [6, 7, 8, 9] 5 rfl (fun _ h=>ymv rfl) az (qL [7, 8, 9] 6 rfl (fun _ h=>yis U82 ti89 rfl rfl (by omega)) az (qL [8, 9] 7 rfl (fun _ hS => yldc U89 rfl rfl (rd_u32 ((wU.ext hS).rd) (by omega) ha)) az (qL [9] 8 rfl (fun _ h=>ycvSi64 rfl U89 U3 (by omega)) az (hLate [9] (by kernel_rfl) (by kernel_rfl) (qO 9 (nCall (i := 9) rfl rfl rfl (ycv' (args := [.tmp 79]) cf49 rfl rfl) (ih _ T nb F (a : Int) l u _ _ _ _ (h1.ext az) (cJ.ext az) eW BD kD (by omega)) ?_)))))); rintro _ w2 ⟨rfl, v2, dE, mR⟩; refine ⟨trivial, ?_⟩; refine qE (run_inBlock (run_reg rfl (zqm rfl (zqd rfl rfl (zqa rfl (rEnd ((ihl (i + 1) w2 ⟨by omega, v2, ?_, (dM.ext az).trans mR⟩ (by omega)).qb))))))); rw [bh, ← takeR_app]; exact dE
   ·refine qV (ypT rfl rfl) (rEnd (run_false rfl (run_exit rfl (run_end Tryz.func49 rfl ?_)))); exact ⟨_, rfl, rfl, _, by rw [ru (.inl (by omega))]; exact cJ, dM⟩
  ·refine zqm rfl (qS (qS (qS (qS (qV (ypF rfl rfl) (rEnd (run_false rfl (run_exit rfl (run_end Tryz.func49 rfl ?_))))))))); exact ⟨_, rfl, rfl, _, by rw [ru (.inr (by omega))]; exact cJ, dM⟩
theorem rgAt_all {p m : Nat} {f : Bytes} {bt bl bm bf bp : Nat} (hm : m ≤ 9223372036854775807) : ∀ H, RgAt p m f bt bl bm bf bp (H + 1)
 | 0 => rgAt_leaf hm
 | H + 1 => rgAt_inner hm (rgAt_all hm H)
end
def rangeE (es : Es) (f : Bytes) (m : Nat) : Es := (es.filter fun x => !lt x.1 f).take m
theorem takeR_range (m : Nat) (f : Bytes) (es : Es) : takeR m f [] es = rangeE es f m := by simp [takeR, rangeE]
section
variable {w : World} {p : Nat} {T : Tr} {nb : Int → Nat} {F : Nat → Prop}
set_option maxHeartbeats 2000000 in
theorem range_ret (h : TreeA w p T nb F) {H : Nat} {ns : List Int} {es : Es} (hI : Inv T H ns es) (gM : es.length ≤ 900000) (f : Bytes) (m : Int) (hm : m ≤ 9223372036854775807) :
  Ret Tryz.prog 13 [ptr p 0, S f, I m] w fun v w' => Ext w w' ∧ ((m < 0 ∧ v = .tuple #[.slice none 0 0, I 1]) ∨ (0 ≤ m ∧ ∃ lv, v = .tuple #[lv, I 0] ∧ ESl w' lv (rangeE es f m.toNat) ∧ ∀ g, lv.ownBlock = some g → w.heap.size ≤ g)) := by
 have ah := h.lt
 refine ret_of_run (e := [(0, _), (1, _), (2, _)]) Tryz.func13 rfl Tryz.ntmps13 rfl rfl (qN rfl (rValP rfl rfl (pbx rfl rfl) ?_))
 rintro _ w1 ⟨bt, rfl, Ab, aa, aj⟩
 refine rValP rfl rfl (pbx rfl rfl) ?_
 rintro _ w2 ⟨bf, rfl, Ac, ad, ay⟩
 refine rValP rfl rfl (pbx rfl rfl) ?_
 rintro _ w3 ⟨bm, rfl, lE, ai, aN⟩
 have eV := aa.size
 have dH := ad.size
 have jS := ai.size
 have bN := (ad.trans ai).blk aj
 have rq := ai.blk ay
 have gO := (aa.trans ad).trans ai
 have l1 := aj.lt
 have l2 := ay.lt
 have l3 := aN.lt
 refine zqa rfl (zqa rfl (rEnd (run_seq (run_block (qN rfl (qV ((by first | exact yld U24 rfl rfl bN rfl | exact yld U24 rfl rfl aN rfl)) ?_))))))
 refine qV (yeqpN U24 rfl rfl) (zqa rfl (rEnd (run_false rfl (qN rfl (qV ((by first | exact yld U3 rfl rfl bN rfl | exact yld U3 rfl rfl aN rfl)) ?_)))))
 refine qV (ylt rfl rfl) (zqa rfl (rEnd (run_if rfl (fun h0 => ?_) (fun h0 => ?_))))
 ·refine qN rfl (zqa rfl (zqa rfl (rEnd (run_ret Tryz.func13 rfl ?_)))); exact ⟨_, rfl, gO, .inl ⟨h0, rfl⟩⟩
 ·obtain ⟨k, rfl⟩ : ∃ k : Nat, m = (k : Int) := ⟨m.toNat, by omega⟩; refine run_skip (run_inBlock (qN rfl (rValP rfl rfl (pal (cs := [_]) ti45 rfl) ?_))); rintro _ w4 ⟨bl, rfl, sV, aX, bs⟩; refine qM rfl (rValP rfl rfl (pal (cs := [_]) ti80 rfl) ?_); rintro _ w5 ⟨bp, rfl, A0, aF, bu⟩; refine qM rfl (qV (ymf (first := []) (caps := [.tmp 3, .tmp 8, .tmp 5, .tmp 4, .tmp 9]) rfl rfl) (rEffP rfl (zst ti80 rfl rfl rfl bu (by simp)) ?_)); rintro w6 ⟨bT, bP⟩; have jT := aX.size; have lg := aF.size; have l4 := bs.lt; have l5 := bu.lt; have qh : Ext w3 w6 := (aX.trans aF).trans_new bP (fun i hi => by omega); have lU := gO.trans qh; have h6 := h.ext lU; obtain ⟨mN, mC, mO, gv, kn, kc, ko, O⟩ := h6.opn; have e8 := O.blk; have gP := qh.blk bN; have qi : RgC w6 p k f bt bl bm bf bp (.slice none 0 0) [] := ⟨gP, bP.blk (aF.blk bs) (by omega), qh.blk aN, qh.blk rq, bT, Sl.nil _ _ _, ⟨by omega, by omega, by omega, by omega⟩, fun g hg => by simp [Value.ownBlock] at hg⟩; have qg := qi.l; have eW : ¬ F bl := fun e => by have := ah _ e; omega
  have nh := lU.size; refine rEnd (run_seq (qN rfl (qV ((by first | exact yld U24 rfl rfl gP rfl | exact yld U24 rfl rfl e8 rfl)) ?_))); refine qV (ynk rfl) (qV (yfa fl74_1 rfl) (qV ((by first | exact yld U3 rfl rfl gP rfl | exact yld U3 rfl rfl e8 rfl)) ?_)); refine qV (yne rfl rfl) (rEnd (run_cut (fun e' w' => ∃ v', e' = [(8, ptr bl 0)] ∧ RgC w' p k f bt bl bm bf bp v' (rangeE es f k) ∧ RgQ w6 w' bl (.slice none 0 0) v') ?hk (fun hk => ?dG)))
  case hk =>
   rintro e' w7 ⟨v', rfl, jX, mB⟩; have ob := jX.l; obtain ⟨va7, vc7, Ad, -⟩ := Sl.rd jX.s |>.shape; subst Ad; refine qN rfl (qV (yld U45 rfl rfl ob rfl) (zqa rfl (zqa rfl (rEnd (run_ret Tryz.func13 rfl ?_))))); exact ⟨_, rfl, lU.trans_new mB.kp (fun i hi => hi.elim (fun e => by omega) (fun e => by simp [Value.ownBlock] at e)), .inr ⟨by omega, _, rfl, jX.s, fun g hg => (mB.own g hg).elim (fun e => by simp [Value.ownBlock] at e) (fun e => by omega)⟩⟩
  case dG =>
   refine run_if rfl (fun hr => ?_) (fun hr => ?_)
   ·rcases hI.std with ⟨e, -⟩ | ⟨-, hH, hB, -⟩
    ·exact absurd e hr
    ·obtain ⟨H', rfl⟩ : ∃ H', H = H' + 1 := ⟨H - 1, by omega⟩; have aL := Ext.drew0 w6; have tJ := qi.g; refine run_drawL [5] (fun w' => Ext w6 w') (by kernel_rfl) rfl (qL [5] 0 rfl (fun _ h=>(by first | exact yld U80 rfl rfl (h.blk gP) rfl | exact yld U80 rfl rfl (h.blk tJ) rfl | exact yld U80 rfl rfl (h.blk e8) rfl)) aL ?_); refine qL [2, 3, 4, 5] 1 rfl (fun _ h=>(by first | exact yld U24 rfl rfl (h.blk gP) rfl | exact yld U24 rfl rfl (h.blk tJ) rfl | exact yld U24 rfl rfl (h.blk e8) rfl)) aL ?_; refine qL [3, 4, 5] 2 rfl (fun _ h=>ynk rfl) aL (qL [4, 5] 3 rfl (fun _ h=>yfa fl74_1 rfl) aL (qL [5] 4 rfl (fun _ h=>(by first | exact yld U3 rfl rfl (h.blk gP) rfl | exact yld U3 rfl rfl (h.blk tJ) rfl | exact yld U3 rfl rfl (h.blk e8) rfl)) aL ?_)); refine hLate [5] (by kernel_rfl) (by kernel_rfl) (qO 5 (nCall (i := 5) rfl rfl rfl (ycv' (args := [.tmp 26]) cf49 rfl rfl) (rgAt_all (by omega) H' _ T nb F T.root [] none ns es [] _ (h6.ext aL) (qi.ext aL) eW (fun g hg => by simp [Value.ownBlock] at hg) hB (by simp; omega)) ?_)); rintro _ w8 ⟨rfl, v8, tt, zS⟩; refine ⟨trivial, ?_⟩; rw [takeR_range] at tt; refine qE (Run.qb (e := [(6, _), (7, _), (8, _)]) ?_); exact (hk _ _ ⟨v8, rfl, tt, ((RgQ.refl w6 bl _).ext aL).trans zS⟩).qb
   ·refine run_skip ?_; rcases hI.std with ⟨-, -, -, rfl⟩ | ⟨e, -⟩
    ·exact (hk _ _ ⟨_, rfl, by simpa [rangeE] using qi, RgQ.refl _ _ _⟩).qb
    ·exact absurd e hr
end
theorem Ch.det {S S' : Int → Bytes → Option Bytes → List Int → Es → Prop} (hS : ∀ x l u n e l' u' n' e', S x l u n e → S' x l' u' n' e' → n = n' ∧ e = e') : ∀ {ps : List (Bytes × Nat)} {lo lo' : Bytes} {hi af : Option Bytes} {c : Nat} {ns ns' : List Int} {es es' : Es}, Ch S lo hi c ps ns es → Ch S' lo' af c ps ns' es' → ns = ns' ∧ es = es'
 | [], _, _, _, _, _, _, _, _, _, h, h' => hS _ _ _ _ _ _ _ _ _ h h'
 | (k, d) :: r, _, _, _, _, _, _, _, _, _, h, h' => by
   obtain ⟨n1, n2, e1, e2, rfl, rfl, h1, h2⟩ := h; obtain ⟨n3, n4, e3, e4, rfl, rfl, h3, h4⟩ := h'; obtain ⟨rfl, rfl⟩ := hS _ _ _ _ _ _ _ _ _ h1 h3; obtain ⟨rfl, rfl⟩ := Ch.det hS h2 h4; exact ⟨rfl, rfl⟩
theorem bn_det {z : Nat} {N : Nodes} (hz : sizeOk (z : Int)) : ∀ {h h' : Nat} {no : Int} {lo lo' : Bytes} {hi af : Option Bytes} {ns ns' : List Int} {es es' : Es}, Bn z N h no lo hi ns es → Bn z N h' no lo' af ns' es' → h = h' ∧ ns = ns' ∧ es = es'
 | 0, _, _, _, _, _, _, _, _, _, _, s, _ => s.elim
 | _, 0, _, _, _, _, _, _, _, _, _, _, s => s.elim
 | 1, 1, no, _, _, _, _, _, _, _, _, s, s' => by
   obtain ⟨h1, rfl, -⟩ := s.leaf (by have := hz.2.1; omega); obtain ⟨h2, rfl, -⟩ := s'.leaf (by have := hz.2.1; omega); rw [h1] at h2; have e := congrArg (fun n => n.keys.zip n.vals) (oinj h2); simp only [leafNd, zip_es] at e
   exact ⟨rfl, rfl, e⟩
 | 1, h' + 2, no, _, _, _, _, _, _, _, _, s, s' => by
   obtain ⟨h1, -⟩ := s.leaf (by have := hz.2.1; omega); obtain ⟨c, ps, _, h2, -⟩ := s'.inner (by have := hz.1; omega); rw [h1] at h2; have e := congrArg Nd.leaf (oinj h2)
   simp [leafNd, innNd] at e
 | h + 2, 1, no, _, _, _, _, _, _, _, _, s, s' => by
   obtain ⟨h1, -⟩ := s'.leaf (by have := hz.2.1; omega); obtain ⟨c, ps, _, h2, -⟩ := s.inner (by have := hz.1; omega); rw [h1] at h2; have e := congrArg Nd.leaf (oinj h2)
   simp [leafNd, innNd] at e
 | h + 2, h' + 2, no, _, _, _, _, _, _, _, _, s, s' => by
   obtain ⟨c, ps, n1, h1, rfl, -, -, -, -, -, c1⟩ := s.inner (by have := hz.1; omega); obtain ⟨c', ps', n2, h2, rfl, -, -, -, -, -, c2⟩ := s'.inner (by have := hz.1; omega); rw [h1] at h2; have e := oinj h2; have ek : ps.map (·.1) = ps'.map (·.1) := congrArg Nd.keys e; have ec : c :: ps.map (·.2) = c' :: ps'.map (·.2) := congrArg Nd.kids e; obtain ⟨rfl, ec2⟩ := List.cons.inj ec
   have ep : ps = ps' := by
    have a := zip_ps ps; rw [ek, ec2, zip_ps ps'] at a; exact a.symm
   subst ep; obtain ⟨u1, m1, f1, g1⟩ := c1.first; obtain ⟨u2, m2, f2, g2⟩ := c2.first; obtain ⟨e1, -, -⟩ := bn_det hz g1 g2; have e1' : h = h' := by omega
   subst e1'; obtain ⟨rfl, rfl⟩ := Ch.det (S := Bn z N (h + 1)) (S' := Bn z N (h + 1)) (fun x l u n e l' u' n' e' a b => (bn_det hz a b).2) c1 c2; exact ⟨rfl, rfl, rfl⟩
abbrev Pgs := List (Int × Bytes)
def RiseP (l : Pgs) : Prop := l.Pairwise fun a b => a.1 < b.1
theorem RiseP.nodup {l : Pgs} (h : RiseP l) : l.Nodup := h.imp fun h e => by subst e; omega
theorem RiseP.nodup1 {l : Pgs} (h : RiseP l) : (l.map (·.1)).Nodup := List.pairwise_map.2 (h.imp fun h => by omega)
theorem RiseP.uniq {l : Pgs} (h : RiseP l) {a b : Int × Bytes} (ha : a ∈ l) (hb : b ∈ l) (e : a.1 = b.1) : a = b := by
 induction l with
 | nil => cases ha
 | cons x r ih =>
   obtain ⟨h1, h2⟩ := List.pairwise_cons.1 h; rcases List.mem_cons.1 ha with rfl | Ed <;> rcases List.mem_cons.1 hb with rfl | pG
   ·rfl
   ·have := h1 b pG; omega
   ·have := h1 a Ed; omega
   ·exact ih h2 Ed pG
theorem RiseP.ext {l m : Pgs} (hl : RiseP l) (hm : RiseP m) (h : ∀ x, x ∈ l ↔ x ∈ m) : l = m := by
 have hp : l.Perm m := (List.perm_ext_iff_of_nodup hl.nodup hm.nodup).2 h
 exact List.Perm.eq_of_pairwise (le := fun a b : Int × Bytes => a.1 < b.1) (fun a b _ _ h1 h2 => by omega) hl hm hp
theorem RiseP.of_le {l : Pgs} (h : l.Pairwise fun a b => a.1 ≤ b.1) (hn : (l.map (·.1)).Nodup) : RiseP l := by
 have h2 := List.pairwise_map.1 hn
 exact (h.and h2).imp fun ⟨a, b⟩ => by omega
def encAt (z : Nat) (N : Nodes) (x : Int) : Bytes := match N x with
 | some n => enc z n
 | none => []
def pgs (z : Nat) (N : Nodes) (ns : List Int) (p : Int → Bool) : Pgs := ((sortZ ns).filter p).map fun x => (x, encAt z N x)
theorem pgs_mem {z : Nat} {N : Nodes} {ns : List Int} {p : Int → Bool} {x : Int × Bytes} : x ∈ pgs z N ns p ↔ x.1 ∈ ns ∧ p x.1 = true ∧ x.2 = encAt z N x.1 := by
 unfold pgs
 rw [List.mem_map]
 constructor
 ·rintro ⟨y, hy, rfl⟩; rw [List.mem_filter, sortZ_mem] at hy; exact ⟨hy.1, hy.2, rfl⟩
 ·rintro ⟨h1, h2, h3⟩; exact ⟨x.1, by rw [List.mem_filter, sortZ_mem]; exact ⟨h1, h2⟩, by rw [← h3]⟩
theorem pgs_rise {z : Nat} {N : Nodes} {ns : List Int} {p : Int → Bool} (h : ns.Nodup) : RiseP (pgs z N ns p) := by
 unfold pgs
 exact List.pairwise_map.2 ((sortZ_lt h).filter p)
theorem pgs_fst {z : Nat} {N : Nodes} {ns : List Int} {p : Int → Bool} : (pgs z N ns p).map (·.1) = (sortZ ns).filter p := by
 unfold pgs; rw [List.map_map]; simp [Function.comp_def]
theorem pgs_len {z : Nat} {N : Nodes} {ns : List Int} {p : Int → Bool} : (pgs z N ns p).length ≤ ns.length := by
 unfold pgs
 rw [List.length_map]
 exact Nat.le_trans (List.length_filter_le _ _) (by rw [sortZ_len]; omega)
theorem pgs_all_len {z : Nat} {N : Nodes} {ns : List Int} : (pgs z N ns fun _ => true).length = ns.length := by
 unfold pgs
 rw [List.length_map, List.filter_eq_self.2 (fun _ _ => rfl), sortZ_len]
theorem pgs_of {z : Nat} {N : Nodes} {ns : List Int} {p : Int → Bool} {l : Pgs} (hn : ns.Nodup) (hl : l.Pairwise fun a b => a.1 ≤ b.1) (bj : (l.map (·.1)).Nodup) (hm : ∀ x, x ∈ l.map (·.1) ↔ x ∈ ns ∧ p x = true) (ht : ∀ x ∈ l, x.2 = encAt z N x.1) : l = pgs z N ns p := by
 refine (RiseP.of_le hl bj).ext (pgs_rise hn) fun x => ?_
 rw [pgs_mem]
 constructor
 ·intro hx; have := (hm x.1).1 (List.mem_map.2 ⟨x, hx, rfl⟩); exact ⟨this.1, this.2, ht x hx⟩
 ·rintro ⟨h1, h2, h3⟩; obtain ⟨y, hy, e⟩ := List.mem_map.1 ((hm x.1).2 ⟨h1, h2⟩); have : y = x := Prod.ext e (by rw [ht y hy, h3, e]); rw [← this]; exact hy

/-! ### Written over one another -/
def writ (fr : List Int) : Pgs → Pgs → Pgs
 | [], c => c
 | s, [] => s.filter fun x => decide (x.1 ∉ fr)
 | a :: s, c :: cs => if c.1 < a.1 then c :: writ fr (a :: s) cs else if c.1 = a.1 then c :: writ fr s cs else if a.1 ∈ fr then writ fr s (c :: cs) else a :: writ fr s (c :: cs)
termination_by s c => s.length + c.length
theorem writ_mem {fr : List Int} : ∀ {s c : Pgs}, RiseP s → RiseP c → ∀ x, x ∈ writ fr s c ↔ x ∈ c ∨ (x ∈ s ∧ x.1 ∉ c.map (·.1) ∧ x.1 ∉ fr) := by
 intro s c
 induction s, c using writ.induct fr with
 | case1 c => intro _ _ x; simp [writ]
 | case2 s h => intro _ _ x; cases s with
   | nil => exact absurd rfl h
   | cons a s => simp [writ]
 | case3 a s c cs h ih =>
   intro hs hc x; obtain ⟨c1, c2⟩ := List.pairwise_cons.1 hc; obtain ⟨s1, s2⟩ := List.pairwise_cons.1 hs; have hn : (x.1 ∈ (c :: cs).map (·.1)) ↔ x.1 = c.1 ∨ x.1 ∈ cs.map (·.1) := by rw [List.map_cons, List.mem_cons]
   rw [writ, if_pos h, List.mem_cons, ih hs c2, List.mem_cons (a := x) (b := c), hn]; constructor
   ·rintro (rfl | hx | ⟨h1, h2, h3⟩)
    ·exact .inl (.inl rfl)
    ·exact .inl (.inr hx)
    ·refine .inr ⟨h1, fun e => ?_, h3⟩; rcases e with e | e
     ·rcases List.mem_cons.1 h1 with rfl | h1
      ·omega
      ·have := s1 x h1; omega
     ·exact h2 e
   ·rintro ((rfl | hx) | ⟨h1, h2, h3⟩)
    ·exact .inl rfl
    ·exact .inr (.inl hx)
    ·exact .inr (.inr ⟨h1, fun e => h2 (.inr e), h3⟩)
 | case4 a s c cs h h' ih =>
   intro hs hc x; obtain ⟨c1, c2⟩ := List.pairwise_cons.1 hc; obtain ⟨s1, s2⟩ := List.pairwise_cons.1 hs; have hn : (x.1 ∈ (c :: cs).map (·.1)) ↔ x.1 = c.1 ∨ x.1 ∈ cs.map (·.1) := by rw [List.map_cons, List.mem_cons]
   rw [writ, if_neg h, if_pos h', List.mem_cons, ih s2 c2, List.mem_cons (a := x) (b := c), List.mem_cons (a := x) (b := a), hn]; constructor
   ·rintro (rfl | hx | ⟨h1, h2, h3⟩)
    ·exact .inl (.inl rfl)
    ·exact .inl (.inr hx)
    ·refine .inr ⟨.inr h1, fun e => ?_, h3⟩; rcases e with e | e
     ·have := s1 x h1; omega
     ·exact h2 e
   ·rintro ((rfl | hx) | ⟨h1 | h1, h2, h3⟩)
    ·exact .inl rfl
    ·exact .inr (.inl hx)
    ·subst h1; exact absurd (.inl h'.symm) h2
    ·exact .inr (.inr ⟨h1, fun e => h2 (.inr e), h3⟩)
 | case5 a s c cs h h' kG ih =>
   intro hs hc x; obtain ⟨s1, s2⟩ := List.pairwise_cons.1 hs; rw [writ, if_neg h, if_neg h', if_pos kG, ih s2 hc, List.mem_cons (a := x) (b := a)]; constructor
   ·rintro (hx | ⟨h1, h2, h3⟩)
    ·exact .inl hx
    ·exact .inr ⟨.inr h1, h2, h3⟩
   ·rintro (hx | ⟨rfl | h1, h2, h3⟩)
    ·exact .inl hx
    ·exact absurd kG h3
    ·exact .inr ⟨h1, h2, h3⟩
 | case6 a s c cs h h' kG ih =>
   intro hs hc x; obtain ⟨c1, c2⟩ := List.pairwise_cons.1 hc; obtain ⟨s1, s2⟩ := List.pairwise_cons.1 hs; rw [writ, if_neg h, if_neg h', if_neg kG, List.mem_cons, ih s2 hc, List.mem_cons (a := x) (b := a)]; constructor
   ·rintro (rfl | hx | ⟨h1, h2, h3⟩)
    ·refine .inr ⟨.inl rfl, fun e => ?_, kG⟩; obtain ⟨y, hy, e⟩ := List.mem_map.1 e; rcases List.mem_cons.1 hy with rfl | hy
     ·omega
     ·have := c1 y hy; omega
    ·exact .inl hx
    ·exact .inr ⟨.inr h1, h2, h3⟩
   ·rintro (hx | ⟨rfl | h1, h2, h3⟩)
    ·exact .inr (.inl hx)
    ·exact .inl rfl
    ·exact .inr (.inr ⟨h1, h2, h3⟩)
theorem writ_low {fr : List Int} {s c : Pgs} (hs : RiseP s) (hc : RiseP c) {m : Int} (h1 : ∀ x ∈ s, m < x.1) (h2 : ∀ x ∈ c, m < x.1) : ∀ x ∈ writ fr s c, m < x.1 := fun x hx => by
 rcases (writ_mem hs hc x).1 hx with h | h
 ·exact h2 x h
 ·exact h1 x h.1
theorem writ_rise {fr : List Int} : ∀ {s c : Pgs}, RiseP s → RiseP c → RiseP (writ fr s c) := by
 intro s c
 induction s, c using writ.induct fr with
 | case1 c => intro _ h; simpa [writ] using h
 | case2 s h => intro hs _; cases s with
   | nil => exact absurd rfl h
   | cons a s => rw [writ]; exact hs.filter _; simp
 | case3 a s c cs h ih =>
   intro hs hc; obtain ⟨c1, c2⟩ := List.pairwise_cons.1 hc; obtain ⟨s1, s2⟩ := List.pairwise_cons.1 hs; rw [writ, if_pos h]
   exact List.pairwise_cons.2 ⟨writ_low hs c2 (fun x hx => by rcases List.mem_cons.1 hx with rfl | hx; exact h; have := s1 x hx; omega) c1, ih hs c2⟩
 | case4 a s c cs h h' ih =>
   intro hs hc; obtain ⟨c1, c2⟩ := List.pairwise_cons.1 hc; obtain ⟨s1, s2⟩ := List.pairwise_cons.1 hs; rw [writ, if_neg h, if_pos h']
   exact List.pairwise_cons.2 ⟨writ_low s2 c2 (fun x hx => by have := s1 x hx; omega) c1, ih s2 c2⟩
 | case5 a s c cs h h' kG ih =>
   intro hs hc; obtain ⟨s1, s2⟩ := List.pairwise_cons.1 hs; rw [writ, if_neg h, if_neg h', if_pos kG]
   exact ih s2 hc
 | case6 a s c cs h h' kG ih =>
   intro hs hc; obtain ⟨c1, c2⟩ := List.pairwise_cons.1 hc; obtain ⟨s1, s2⟩ := List.pairwise_cons.1 hs; rw [writ, if_neg h, if_neg h', if_neg kG]; exact List.pairwise_cons.2 ⟨writ_low s2 hc s1 (fun x hx => by rcases List.mem_cons.1 hx with rfl | hx; omega; have := c1 x hx; omega), ih s2 hc⟩
theorem writ_pgs {z : Nat} {N O : Nodes} {ns os : List Int} {ch : Int → Bool} {fr : List Int} (hn : ns.Nodup) (ho : os.Nodup) (hN : ∀ x, N x ≠ none ↔ x ∈ ns) (hO : ∀ x, O x ≠ none ↔ x ∈ os) (hc : ∀ x, ch x = false → N x ≠ none → N x = O x) (hf : ∀ x, x ∈ fr ↔ O x ≠ none ∧ N x = none) : writ fr (pgs z O os fun _ => true) (pgs z N ns ch) = pgs z N ns fun _ => true := by
 refine (writ_rise (pgs_rise ho) (pgs_rise hn)).ext (pgs_rise hn) fun x => ?_
 rw [writ_mem (pgs_rise ho) (pgs_rise hn), pgs_mem, pgs_mem, pgs_mem, pgs_fst, List.mem_filter, sortZ_mem]
 constructor
 ·rintro (⟨h1, h2, h3⟩ | ⟨⟨h1, -, h2⟩, h3, h4⟩)
  ·exact ⟨h1, rfl, h3⟩
  ·have vj : N x.1 ≠ none := fun e => h4 ((hf x.1).2 ⟨(hO x.1).2 h1, e⟩); have cX := (hN x.1).1 vj
   have Bw : ch x.1 = false := by
    cases e : ch x.1 with
    | false => rfl
    | true => exact absurd ⟨cX, e⟩ h3
   refine ⟨cX, rfl, ?_⟩; rw [h2]; unfold encAt; rw [hc x.1 Bw vj]
 ·rintro ⟨h1, -, h2⟩; have vj := (hN x.1).2 h1
  cases e : ch x.1 with
  | true => exact .inl ⟨h1, rfl, h2⟩
  | false =>
    have r5 := hc x.1 e vj; have Gr : O x.1 ≠ none := by rw [← r5]; exact vj
    refine .inr ⟨⟨(hO x.1).1 Gr, rfl, ?_⟩, fun h => by simp at h, fun h => ((hf x.1).1 h).2 |> vj⟩; rw [h2]; unfold encAt; rw [r5]
end Go.Proofs.YtocnhaoilnojmaaGreat
namespace Go.Proofs.YtocnhaoilnojmaaGreat
open Go Go.Proofs Go.Shelf
set_option linter.all false
def sortFA_ren : Go.Shelf.Ren := ⟨fun | 6 => 90 | 15 => 93 | 14 => 117 | 28 => 127 | 29 => 128 | 20 => 141 | 21 => 142 | 22 => 143 | 23 => 144 | 24 => 145 | 25 => 146 | 26 => 147 | 27 => 148 | 46 => 164 | 47 => 150 | 48 => 151 | 49 => 165 | 50 => 166 | 57 => 169 | n => n, fun | 22 => 52 | 24 => 55 | 25 => 135 | 3 => 3 | 39 => 118 | 0 => 0 | 53 => 89 | 55 => 175 | 4 => 4 | 46 => 167 | 45 => 166 | 50 => 85 | 5 => 5 | 9 => 9 | 66 => 188 | 70 => 192 | 76 => 205 | 77 => 206 | n => n, fun | n => n⟩
theorem sortFA : Go.Proofs.SlLaysF0.n6 Tryz.prog sortFA_ren := {
  mixed := by kernel_rfl
  f6 := ⟨Tryz.f90.name, by decide, Tryz.func90.trans (congrArg some (by kernel_rfl))⟩
  f14 := ⟨Tryz.f117.name, by decide, Tryz.func117.trans (congrArg some (by kernel_rfl))⟩
  f15 := Tryz.func93.trans (congrArg some (by kernel_rfl))
  f20 := ⟨Tryz.f141.name, by decide, Tryz.func141.trans (congrArg some (by kernel_rfl))⟩
  f21 := ⟨Tryz.f142.name, by decide, Tryz.func142.trans (congrArg some (by kernel_rfl))⟩
  f22 := ⟨Tryz.f143.name, by decide, Tryz.func143.trans (congrArg some (by kernel_rfl))⟩
  f23 := ⟨Tryz.f144.name, by decide, Tryz.func144.trans (congrArg some (by kernel_rfl))⟩
  f24 := ⟨Tryz.f145.name, by decide, Tryz.func145.trans (congrArg some (by kernel_rfl))⟩
  f25 := ⟨Tryz.f146.name, by decide, Tryz.func146.trans (congrArg some (by kernel_rfl))⟩
  f26 := ⟨Tryz.f147.name, by decide, Tryz.func147.trans (congrArg some (by kernel_rfl))⟩
  f27 := ⟨Tryz.f148.name, by decide, Tryz.func148.trans (congrArg some (by kernel_rfl))⟩
  f28 := Tryz.func127.trans (congrArg some (by kernel_rfl))
  f29 := Tryz.func128.trans (congrArg some (by kernel_rfl))
  f46 := ⟨Tryz.f164.name, by decide, Tryz.func164.trans (congrArg some (by kernel_rfl))⟩
  f47 := Tryz.func150.trans (congrArg some (by kernel_rfl))
  f48 := Tryz.func151.trans (congrArg some (by kernel_rfl))
  f49 := ⟨Tryz.f165.name, by decide, Tryz.func165.trans (congrArg some (by kernel_rfl))⟩
  f50 := ⟨Tryz.f166.name, by decide, Tryz.func166.trans (congrArg some (by kernel_rfl))⟩
  f57 := ⟨Tryz.f169.name, by decide, Tryz.func169.trans (congrArg some (by kernel_rfl))⟩
  t0 := Tryz.underlying0
  a0 := Tryz.isAgg0
  z0 := Tryz.sizeOf0
  v0 := Tryz.zeroValue0
  t3 := Tryz.underlying3
  a3 := Tryz.isAgg3
  z3 := Tryz.sizeOf3
  v3 := Tryz.zeroValue3
  t4 := Tryz.underlying4
  a4 := Tryz.isAgg4
  z4 := Tryz.sizeOf4
  v4 := Tryz.zeroValue4
  t5 := Tryz.underlying5
  a5 := Tryz.isAgg5
  z5 := Tryz.sizeOf5
  v5 := Tryz.zeroValue5
  t9 := Tryz.underlying9
  a9 := Tryz.isAgg9
  z9 := Tryz.sizeOf9
  v9 := Tryz.zeroValue9
  t22 := Tryz.underlying52
  a22 := Tryz.isAgg52
  z22 := Tryz.sizeOf52
  v22 := Tryz.zeroValue52
  t25 := Tryz.underlying135
  a25 := Tryz.isAgg135
  z25 := Tryz.sizeOf135
  v25 := Tryz.zeroValue135
  t39 := Tryz.underlying118
  a39 := Tryz.isAgg118
  z39 := Tryz.sizeOf118
  v39 := Tryz.zeroValue118
  t45 := Tryz.underlying166
  a45 := Tryz.isAgg166
  z45 := Tryz.sizeOf166
  v45 := Tryz.zeroValue166
  t46 := Tryz.underlying167
  a46 := Tryz.isAgg167
  z46 := Tryz.sizeOf167
  v46 := Tryz.zeroValue167
  t50 := Tryz.underlying85
  a50 := Tryz.isAgg85
  z50 := Tryz.sizeOf85
  v50 := Tryz.zeroValue85
  t53 := Tryz.underlying89
  a53 := Tryz.isAgg89
  z53 := Tryz.sizeOf89
  v53 := Tryz.zeroValue89
  t55 := Tryz.underlying175
  a55 := Tryz.isAgg175
  z55 := Tryz.sizeOf175
  v55 := Tryz.zeroValue175
  t66 := Tryz.underlying188
  a66 := Tryz.isAgg188
  z66 := Tryz.sizeOf188
  v66 := Tryz.zeroValue188
  t70 := Tryz.underlying192
  a70 := Tryz.isAgg192
  z70 := Tryz.sizeOf192
  v70 := Tryz.zeroValue192
  t76 := Tryz.underlying205
  a76 := Tryz.isAgg205
  z76 := Tryz.sizeOf205
  v76 := Tryz.zeroValue205
  t77 := Tryz.underlying206
  a77 := Tryz.isAgg206
  z77 := Tryz.sizeOf206
  v77 := Tryz.zeroValue206 }
end Go.Proofs.YtocnhaoilnojmaaGreat
namespace Go.Proofs.YtocnhaoilnojmaaGreat
open Go Go.RowKit Go.Shelf Go.Lib Go.Sort
set_option linter.all false
set_option maxRecDepth 100000
abbrev PgN := {x : Int × Bytes // 0 ≤ x.1 ∧ x.1 ≤ 2147483647}
instance : Inhabited PgN := ⟨⟨(0, []), by decide⟩⟩
def encP (x : PgN) : List Value := [I x.1.1, S x.1.2]
def cmpP (x y : PgN) : Int := x.1.1 - y.1.1
theorem ltP (x y : PgN) : ltOf cmpP x y = decide (x.1.1 < y.1.1) := by
 unfold ltOf cmpP
 by_cases h : x.1.1 < y.1.1
 ·rw [decide_eq_true h]; simp; omega
 ·rw [decide_eq_false h]; simp; omega
theorem swoP : SWO (ltOf cmpP) where
 irrefl x := by rw [ltP]; simp
 trans x y z h1 h2 := by rw [ltP] at *; simp at *; omega
 ntrans x y z h1 h2 := by rw [ltP] at *; simp at *; omega
theorem pbxE {P : Program} {e : Env} {d : Option Nat} {ty t : TypeId} {pos : String} {aft : Array Edge} {g : Option (Nat × Bool)} {x : Operand} {w : World} {v : Value} {cs : List Value} (hx : look e x = some v) (hv : v.cells = cs.toArray) : Yp P e ⟨d, .box t x, ty, pos, aft, g⟩ w fun v' w' => v' = ptr w.heap.size 0 ∧ w' = w.alloc (.cells cs.toArray t) := by
 refine ⟨_, _, fun ρ hρ => ?_, rfl, rfl⟩
 simp [execOp, hρ _ _ hx, Instr.box, newVar, newRow, newObj, Sem.run, hv]
theorem cmpP_ret (x y : PgN) (w : World) : Ret Tryz.prog 91 [.agg #[I x.1.1, S x.1.2], .agg #[I y.1.1, S y.1.2]] w fun v w' => v = I (cmpP x y) ∧ w' = (w.alloc (.cells #[I x.1.1, S x.1.2] 55)).alloc (.cells #[I y.1.1, S y.1.2] 55) := by
 obtain ⟨Ee, aa⟩ := x.2
 obtain ⟨Is, Ef⟩ := y.2
 refine ret_of_run (e := [(0, _), (1, _)]) Tryz.func91 rfl Tryz.ntmps91 rfl rfl (qN rfl (rValP rfl rfl (pbxE (cs := [I x.1.1, S x.1.2]) rfl rfl) ?_))
 rintro _ w1 ⟨rfl, vC⟩
 refine rValP rfl rfl (pbxE (cs := [I y.1.1, S y.1.2]) rfl rfl) ?_
 rintro _ w2 ⟨rfl, ku⟩
 have aj : Blk w1 w.heap.size [I x.1.1, S x.1.2] 55 := by rw [vC]; exact blk_new w _ _
 have ay : Blk w2 w1.heap.size [I y.1.1, S y.1.2] 55 := by rw [ku]; exact blk_new w1 _ _
 have cq : Blk w2 w.heap.size [I x.1.1, S x.1.2] 55 := by rw [ku]; exact (ext_alloc w1 _).blk aj
 refine zqa rfl (qM rfl (qV (yfa fl55_0 rfl) (qV ((by first | exact yld U3 rfl rfl cq rfl | exact yld U3 rfl rfl ay rfl)) ?_)))
 refine qV (yfa fl55_0 rfl) (qV ((by first | exact yld U3 rfl rfl cq rfl | exact yld U3 rfl rfl ay rfl)) ?_)
 refine qV (ysb rfl rfl (by omega)) (zqa rfl (rEnd (run_ret Tryz.func91 rfl ?_)))
 exact ⟨_, rfl, rfl, by rw [ku, vC]⟩
theorem cmpLaysP (blk off size : Nat) (w : World) : CmpLays Tryz.prog 91 #[] encP 2 cmpP blk off size w := fun m os dk hs x y =>
 Calls.mono (cmpP_ret x y _) fun _ _ ⟨v, he, hv, hw⟩ => ⟨by rw [he, hv], 0, #[.cells #[I x.1.1, S x.1.2] 55] ++ #[.cells #[I y.1.1, S y.1.2] 55], by rw [hw, alloc_eq_grow, alloc_eq_grow, grow_grow]; rfl⟩
def pgC (l : Pgs) : List Value := l.flatMap fun x => [I x.1, S x.2]
theorem pgC_len (l : Pgs) : (pgC l).length = l.length * 2 := by
 induction l with
 | nil => rfl
 | cons x r ih => simp only [pgC, List.flatMap_cons, List.length_append, List.length_cons, List.length_nil] at ih ⊢; rw [ih]; omega
theorem pgC_app (a b : Pgs) : pgC (a ++ b) = pgC a ++ pgC b := by simp [pgC]
theorem flat2 {α : Type} (f g : α → Value) : ∀ (l : List α) (i : Nat), (l.flatMap fun x => [f x, g x])[2 * i]? = (l[i]?).map f ∧ (l.flatMap fun x => [f x, g x])[2 * i + 1]? = (l[i]?).map g
 | [], i => by simp
 | x :: r, 0 => by simp
 | x :: r, i + 1 => by
   have := flat2 f g r i; simp only [List.flatMap_cons, List.getElem?_cons_succ]; rw [show 2 * (i + 1) = 2 * i + 2 by omega, show 2 * i + 2 + 1 = 2 * i + 1 + 2 by omega]; exact this
theorem flatK_list (d : Array PgN) : (flatK encP 2 d).toList = d.toList.flatMap encP := by
 apply List.ext_getElem?
 intro j
 by_cases hj : j < d.size * 2
 ·have h1 : (flatK encP 2 d).toList[j]? = some (encP d[j / 2]!)[j % 2]! := by
   have := get_flatK encP 2 d j hj; rw [Array.getElem?_toList, Array.getElem?_eq_getElem (by simpa using hj)]; rw [← this, getElem!_pos (flatK encP 2 d) j (by simpa using hj)]
  have hd : j / 2 < d.size := by omega
  have hg : d.toList[j / 2]? = some d[j / 2]! := by rw [Array.getElem?_toList, Array.getElem?_eq_getElem hd, getElem!_pos d (j / 2) hd]
  obtain ⟨f1, f2⟩ := flat2 (fun x : PgN => I x.1.1) (fun x : PgN => S x.1.2) d.toList (j / 2); rw [h1]; rcases Nat.mod_two_eq_zero_or_one j with h0 | h0
  ·have e : j = 2 * (j / 2) := by omega
   rw [h0]
   conv => rhs; rw [e]
   show _ = (d.toList.flatMap fun x : PgN => [I x.1.1, S x.1.2])[2 * (j / 2)]?; rw [f1, hg]; rfl
  ·have e : j = 2 * (j / 2) + 1 := by omega
   rw [h0]
   conv => rhs; rw [e]
   show _ = (d.toList.flatMap fun x : PgN => [I x.1.1, S x.1.2])[2 * (j / 2) + 1]?; rw [f2, hg]; rfl
 ·rw [List.getElem?_eq_none (by simp; omega), List.getElem?_eq_none]
  have : (d.toList.flatMap encP).length = d.size * 2 := by
   have h : ∀ l : List PgN, (l.flatMap encP).length = l.length * 2 := fun l => by
    induction l with
    | nil => rfl
    | cons x r ih => simp only [List.flatMap_cons, List.length_append, ih, List.length_cons, encP, List.length_nil]; omega
   rw [h]; simp
  omega
theorem holds_of_blockV {w : World} {g : Nat} {cur : Array Value} {e : TypeId} {ss : List Value} (hb : w.heap[g]? = some (.cells cur e (0, 0))) (ht : cur.toList.take ss.length = ss) : Holds id w g 0 ss.toArray := by
 intro j hj
 have iD : j < ss.length := by simpa using hj
 refine ⟨?_, by simp [World.frozen?, hb]⟩
 have h1 : (cur.toList.take ss.length)[j]? = ss[j]? := by rw [ht]
 rw [List.getElem?_take_of_lt iD] at h1
 simp only [World.cell?, hb, Nat.zero_add]
 simp only [Option.isSome_none, Bool.false_eq_true, if_false]
 rw [← Array.getElem?_toList, h1]
 simp [iD]
theorem heap_sortedV {w : World} {g n : Nat} {os : Array Obj} {cur : Array Value} {e : TypeId} {fr : Nat × Nat} (d : Array Value) (hb : w.heap[g]? = some (.cells cur e fr)) :
  (grow (putRow id (Go.Sort.ahead w n) g 0 d) os).heap[g]? = some (.cells (putCells id 0 d cur) e fr) := by
 have hg : g < w.heap.size := (Array.getElem?_eq_some_iff.1 hb).1
 rw [heap_grow_old _ _ (by simpa using hg)]
 simp [putRow, mapBlock, Go.Sort.ahead, Array.getElem?_modify, hb, onCells]
theorem kp_sortedV {w : World} {g n : Nat} {os : Array Obj} (d : Array Value) : Kp (fun k => k = g) w (grow (putRow id (Go.Sort.ahead w n) g 0 d) os) := by
 refine ⟨rfl, rfl, rfl, by simp, fun k hk aT => ?_⟩
 rw [heap_grow_old _ _ (by simpa using hk)]
 have : g ≠ k := fun e => aT e.symm
 simp [putRow, mapBlock, Go.Sort.ahead, Array.getElem?_modify, this]
theorem take_putCellsV (cur : Array Value) (ts : List Value) (h : ts.length ≤ cur.size) : (putCells id 0 ts.toArray cur).toList.take ts.length = ts := by
 apply List.ext_getElem?
 intro j
 by_cases hj : j < ts.length
 ·rw [List.getElem?_take_of_lt hj, Array.getElem?_toList]; simp [putCells, hj, show j < cur.size by omega]
 ·rw [List.getElem?_take_eq_none (by omega), List.getElem?_eq_none (by omega)]
section
variable {w : World}
theorem sortP_none {a : Option Addr} {cap : Nat} {fv : Value} : Ret Tryz.prog 90 [.slice a 0 cap, fv] w fun v w' => v = .tuple #[] ∧ w' = w := by
 have nX : Ret Tryz.prog 141 [.slice a 0 cap, I 0, I 0, fv] w fun v w' => v = .tuple #[] ∧ w' = w := by
  refine ret_of_run (e := [(0, _), (1, _), (2, _), (3, _)]) Tryz.func141 rfl Tryz.ntmps141 rfl rfl (qN rfl (zqm rfl (zqd rfl rfl (zqa rfl (rEnd (run_block (zqu (α := Unit) (()) (fun _ => [(2, I 0), (8, I 1)]) (fun _ w' => w' = w) (fun _ => 0) ?hI ?hround)))))))
  case hI => rfl
  case hround =>
   rintro _ w1 rfl ih
   try dsimp only
   refine run_seq (qN rfl (zqm rfl (zqm rfl (qV (ylt rfl rfl) (rEnd (run_if rfl (fun h => ?_) (fun h => ?_)))))))
   ·exact absurd h (by decide)
   ·refine run_exit rfl (run_end Tryz.func141 rfl ?_); exact ⟨_, rfl, rfl, rfl⟩
 have BE : ∀ z : Int, Ret Tryz.prog 117 [.slice a 0 cap, I 0, I 0, I z, fv] w fun v w' => v = .tuple #[] ∧ w' = w := fun z => by
  refine ret_of_run (e := [(0, _), (1, _), (2, _), (3, _), (4, _)]) Tryz.func117 rfl Tryz.ntmps117 rfl rfl (qN rfl (zqa rfl (qM rfl (zqa rfl (rEnd (run_block (zqu (α := Unit) (()) (fun _ => [(0, .slice a 0 cap), (1, I 0), (2, I 0), (4, fv)]) (fun _ w' => w' = w) (fun _ => 0) ?hI ?hround)))))))
  case hI => rfl
  case hround =>
   rintro _ w1 rfl ih
   try dsimp only
   refine run_block (qN rfl (zqm rfl (zqm rfl (qV (ysb rfl rfl (by omega)) (zqa rfl (rEnd (run_seq (qN rfl (zqm rfl (qV (yle rfl rfl) (rEnd (run_if rfl (fun h => ?_) (fun h => ?_)))))))))))))
   ·refine qN rfl (zqm rfl (zqm rfl (zqm rfl (zqm rfl (zqc [.tmp 26, .tmp 27, .tmp 28, .tmp 29] cf141 rfl (nX) ?_))))); rintro _ w1 ⟨rfl, rfl⟩; refine rEnd (run_ret Tryz.func117 rfl ?_); exact ⟨_, rfl, rfl, rfl⟩
   ·exact absurd (by decide) h
 have aM : Ret Tryz.prog 93 [.int .u64 0] w fun v w' => (∃ z : Int, v = I z) ∧ w' = w :=
  Calls.mono (Any.bits_Len (SlLaysF0.n15.bits (P := Tryz.prog) { sortFA with }) 0 w (by omega) (by omega)) fun _ _ ⟨he, hw⟩ => ⟨_, he, ⟨_, rfl⟩, hw⟩
 refine ret_of_run (e := [(0, _), (1, _)]) Tryz.func90 rfl Tryz.ntmps90 rfl rfl (qN rfl (zqm rfl (qV (yln U52 rfl) (zqa rfl (rEnd (run_reg rfl (zqm rfl (zqm rfl (zqm rfl (qV ((by first | exact ycvSu64 rfl U3 U118 (by omega) | exact ycv64 rfl U3 U118)) ?_))))))))))
 refine zqc [.tmp 10] cf93 rfl (aM) ?_
 rintro _ w1 ⟨⟨z, rfl⟩, rfl⟩
 refine zqm rfl (zqc [.tmp 7, .const (Value.int .i64 0), .tmp 8, .tmp 11, .tmp 12] cf117 rfl (BE z) ?_)
 rintro _ w1 ⟨rfl, rfl⟩
 refine rEnd (run_end Tryz.func90 rfl ?_)
 exact ⟨_, rfl, rfl, rfl⟩
theorem sortP_ret {sv : Value} {l : Pgs} (hS : Sl w sv 55 2 l.length (pgC l)) (hl : l.length ≤ 1000000000) (hb : ∀ x ∈ l, 0 ≤ x.1 ∧ x.1 ≤ 2147483647) :
  Ret Tryz.prog 90 [sv, .func (.func 91) #[] #[]] w fun v w' => v = .tuple #[] ∧ Kp (fun k => sv.ownBlock = some k) w w' ∧ ∃ l', l'.Perm l ∧ (l'.Pairwise fun a b => a.1 ≤ b.1) ∧ Sl w' sv 55 2 l'.length (pgC l') := by
 rcases hS.2 with ⟨rfl, h1⟩ | ⟨g, cap, cur, rfl, hg, hh, hn, hc, hz, ht⟩
 ·refine (sortP_none (w := w) (a := none) (cap := 0)).mono fun v w' ⟨h, hw⟩ => ?_; have : l = [] := List.eq_nil_of_length_eq_zero h1; subst this; exact ⟨h, by rw [hw]; exact Kp.refl _ _, [], List.Perm.refl _, List.Pairwise.nil, by rw [hw]; exact Sl.nil _ _ _⟩
 ·let d : List PgN := l.pmap (fun x h => ⟨x, h⟩) hb
  have mq : d.length = l.length := List.length_pmap
  have uR : d.map (·.1) = l := by
   show (l.pmap (fun x h => (⟨x, h⟩ : PgN)) hb).map (·.1) = l; rw [List.map_pmap]; simp
  have wX : ∀ d : List PgN, d.flatMap encP = pgC (d.map (·.1)) := fun d => by
   unfold pgC encP; rw [List.flatMap_map]
  have hH : HoldsK encP 2 w g 0 d.toArray := by
   have e : flatK encP 2 d.toArray = (pgC l).toArray := by
    apply Array.toList_inj.1; rw [flatK_list]; show d.flatMap encP = pgC l; rw [wX, uR]
   unfold HoldsK; rw [e]; exact holds_of_blockV hh (by rw [pgC_len]; exact ht)
  have ah : g < w.heap.size := hS.lt (g := g) rfl; have h := AnyQ.slices_SortFunc sortFA 2 Tryz.isAgg55 Tryz.sizeOf55 encP (fun _ => rfl) (fun x v hv => by simp [encP] at hv; rcases hv with rfl | rfl <;> rfl) cmpP swoP 91 #[] g 0 cap d.toArray w (enters_of Tryz.func91 (by kernel_rfl) rfl) (cmpLaysP g 0 _ w) hH ah (by simp [mq]; omega); have Ae : d.toArray.size = l.length := by simpa using mq
  rw [Ae] at h; refine Calls.mono h fun _ _ ⟨he, d', n, os, hp, hs, hw⟩ => ⟨_, he, rfl, ?_, d'.toList.map (·.1), ?_, ?_, ?_⟩
  ·rw [hw]; exact (show Kp (fun k => k = g) w _ from kp_sortedV _).mono' (fun k e => by subst e; rfl)
  ·obtain ⟨p1, -, p3⟩ := hp
   have e1 : (d'.extract 0 l.length).toList = d'.toList := by
    have : d'.size = l.length := by rw [p1, Ae]
    rw [← this]; simp
   have e2 : (d.toArray.extract 0 l.length).toList = d := by
    rw [← mq]; simp
   rw [e1, e2] at p3; have := p3.map (fun x : PgN => x.1); rw [uR] at this; exact this
  ·refine List.pairwise_map.2 ?_; rw [List.pairwise_iff_getElem]; intro i j hi hj lA; have dJ : d'.size = l.length := by rw [hp.1, Ae]
   have iD : j < d'.size := by simpa using hj
   have := hs i j (Nat.zero_le _) lA (by omega); rw [ltP] at this; rw [getElem!_pos d' i (by omega), getElem!_pos d' j iD] at this; have := of_decide_eq_false this; simp only [Array.getElem_toList]; omega
  ·have dJ : d'.size = l.length := by rw [hp.1, Ae]
   have Af : (flatK encP 2 d').toList = pgC (d'.toList.map (·.1)) := by rw [flatK_list, wX]
   have BF : flatK encP 2 d' = (pgC (d'.toList.map (·.1))).toArray := Array.toList_inj.1 Af; have oq : (d'.toList.map (fun x : PgN => x.1)).length = l.length := by simp [dJ]
   rw [hw]; refine ⟨by rw [pgC_len, oq], .inr ⟨g, cap, putCells id 0 (flatK encP 2 d') cur, by rw [oq], hg, heap_sortedV _ hh, by omega, hc, by simp [putCells, hz], ?_⟩⟩; rw [BF, oq, ← oq, ← pgC_len]; exact take_putCellsV cur _ (by rw [pgC_len, oq, hz]; exact Nat.mul_le_mul_right _ hn)
end
end Go.Proofs.YtocnhaoilnojmaaGreat
namespace Go.Proofs.YtocnhaoilnojmaaGreat
open Go Go.RowKit
set_option linter.all false
set_option maxRecDepth 100000
section
variable {w w' : World}
theorem NdM.re {n n' : Nd} {q : Pl} {kv' vv' cv' : Value} (hM : NdM w n q) (hB : Blk w' q.b [.bool n'.leaf, kv', vv', cv'] 84) (hK : Sl w' kv' 9 1 n'.keys.length (n'.keys.map S)) (hV : Sl w' vv' 9 1 n'.vals.length (n'.vals.map S)) (hC : Sl w' cv' 89 1 n'.kids.length (n'.kids.map u32v)) (bA : n'.Bd)
  (ok : ∀ g, kv'.ownBlock = some g → q.kv.ownBlock = some g ∨ w.heap.size ≤ g) (ov : ∀ g, vv'.ownBlock = some g → q.vv.ownBlock = some g ∨ w.heap.size ≤ g) (oc : ∀ g, cv'.ownBlock = some g → q.cv.ownBlock = some g ∨ w.heap.size ≤ g)
  (dd : ∀ g, w.heap.size ≤ g → (kv'.ownBlock = some g → vv'.ownBlock ≠ some g ∧ cv'.ownBlock ≠ some g) ∧ (vv'.ownBlock = some g → cv'.ownBlock ≠ some g)) :
  NdM w' n' ⟨q.b, kv', vv', cv'⟩ ∧ ∀ k, Pl.fp ⟨q.b, kv', vv', cv'⟩ k → q.fp k ∨ w.heap.size ≤ k := by
 have hb := hM.blk.lt
 have ah := hM.lt
 refine ⟨⟨hB, hK, hV, hC, bA, ⟨fun e => ?_, fun e => ?_, fun e => ?_⟩, fun g hg => ⟨fun e => ?_, fun e => ?_⟩, fun g hg e => ?_⟩, fun g hg => ?_⟩
 ·rcases ok _ e with h | h
  ·exact hM.d1.1 h
  ·exact absurd hb (Nat.not_lt.2 h)
 ·rcases ov _ e with h | h
  ·exact hM.d1.2.1 h
  ·exact absurd hb (Nat.not_lt.2 h)
 ·rcases oc _ e with h | h
  ·exact hM.d1.2.2 h
  ·exact absurd hb (Nat.not_lt.2 h)
 ·rcases ok g hg with h | h
  ·rcases ov g e with h' | h'
   ·exact (hM.d2 g h).1 h'
   ·have := ah g (.inr (.inl h)); omega
  ·exact ((dd g h).1 hg).1 e
 ·rcases ok g hg with h | h
  ·rcases oc g e with h' | h'
   ·exact (hM.d2 g h).2 h'
   ·have := ah g (.inr (.inl h)); omega
  ·exact ((dd g h).1 hg).2 e
 ·rcases ov g hg with h | h
  ·rcases oc g e with h' | h'
   ·exact hM.d3 g h h'
   ·have := ah g (.inr (.inr (.inl h))); omega
  ·exact (dd g h).2 hg e
 ·rcases hg with h | h | h | h
  ·exact .inl (.inl h)
  ·exact (ok g h).imp (fun e => .inr (.inl e)) id
  ·exact (ov g h).imp (fun e => .inr (.inr (.inl e))) id
  ·exact (oc g h).imp (fun e => .inr (.inr (.inr e))) id
theorem leaf_bd {z : Nat} {E : Es} (hz : sizeOk (z : Int)) (h : EsOk z E) (hb : entB E ≤ 100000) : (leafNd E).Bd := by
 have hl := entB_len h
 have hm : mostE z ≤ 5000 := by have := hz.2.1; unfold mostE; omega
 refine ⟨by simp [leafNd]; omega, by simp [leafNd]; omega, by simp [leafNd], fun k hk => ?_, fun v hv => ?_, by simp [leafNd]⟩
 ·obtain ⟨x, hx, rfl⟩ := List.mem_map.1 hk; have := h.one x hx; omega
 ·obtain ⟨x, hx, rfl⟩ := List.mem_map.1 hv; have := h.one x hx; omega
theorem insE_set {E : Es} {k v : Bytes} (h : hasE E k) : insE E k v = E.set (posE E k) (k, v) := by
 unfold insE
 rw [if_pos h, List.set_eq_take_append_cons_drop, if_pos (hasE_lt h)]
theorem insE_keys {E : Es} {k v : Bytes} (h : hasE E k) : (insE E k v).map (·.1) = E.map (·.1) := by
 rw [insE_set h, List.map_set]
 apply List.ext_getElem?
 intro i
 rw [List.getElem?_set]
 split
 ·rename_i e
  subst e; split
  ·exact h.symm
  ·rename_i h2
   rw [List.getElem?_eq_none (by omega)]
 ·rfl
theorem insE_vals {E : Es} {k v : Bytes} (h : hasE E k) : (insE E k v).map (·.2) = (E.map (·.2)).set (posE E k) v := by rw [insE_set h, List.map_set]
theorem insE_new {E : Es} {k v : Bytes} (h : ¬ hasE E k) : insE E k v = E.take (posE E k) ++ (k, v) :: E.drop (posE E k) := by unfold insE; rw [if_neg h]
theorem insE_ne (E : Es) (k v : Bytes) : insE E k v ≠ [] := by unfold insE; simp
structure PutC (w : World) (F : Nat → Prop) (p : Nat) (k v : Bytes) (bt bk bv bp : Nat) : Prop where
 t : Blk w bt [ptr p 0] 24
 k : Blk w bk [S k] 9
 v : Blk w bv [S v] 9
 f : Blk w bp [.func (.func 68) #[] #[ptr bt 0, ptr bk 0, ptr bv 0, ptr bp 0]] 110
 n : ¬ F bt ∧ ¬ F bk ∧ ¬ F bv ∧ ¬ F bp
theorem PutC.kp {F F' : Nat → Prop} {p : Nat} {k v : Bytes} {bt bk bv bp : Nat} (h : PutC w F p k v bt bk bv bp) (hk : Kp F w w') (hF : ∀ i, F' i → F i ∨ w.heap.size ≤ i) : PutC w' F' p k v bt bk bv bp := by
 obtain ⟨n1, n2, n3, n4⟩ := h.n
 have h1 := h.t.lt
 have h2 := h.k.lt
 have h3 := h.v.lt
 have h4 := h.f.lt
 exact ⟨hk.blk h.t n1, hk.blk h.k n2, hk.blk h.v n3, hk.blk h.f n4, fun e => (hF _ e).elim n1 (by omega), fun e => (hF _ e).elim n2 (by omega), fun e => (hF _ e).elim n3 (by omega), fun e => (hF _ e).elim n4 (by omega)⟩
structure PutPost (T : Tr) (h : Nat) (no : Int) (lo : Bytes) (hi : Option Bytes) (ns : List Int) (es : Es) (k v : Bytes) (val : Value) (T' : Tr) : Prop where
 cnt : T'.count = T.count + if hasE es k then 0 else 1
 evo : Evo T T' h
 out : (val = .tuple #[S [], I 0] ∧ One T.size h T.nodes T'.nodes no lo hi ns (insE es k v) ∧ ((∀ m, T.nodes no = some m → ¬ m.low T.size) → ∀ m, T'.nodes no = some m → m.keys ≠ [])) ∨ ∃ up more, val = .tuple #[S up, I ((more : Nat) : Int)] ∧ Two T.size h T.nodes T'.nodes no lo hi ns (insE es k v) up more
theorem Evo.cnt {T T' : Tr} {g c : Nat} (h : Evo T T' g) : Evo T { T' with count := c } g := ⟨h.size, h.old, h.root, h.len, h.giv, h.nod, ⟨h.srt.rise, h.srt.free⟩, h.chg⟩
end
section
variable {w : World}
set_option maxHeartbeats 4000000 in
theorem put_leaf_ret {p : Nat} {T : Tr} {nb : Int → Nat} {F : Nat → Prop} (h : TreeA w p T nb F) {k v : Bytes} {bt bk bv bp : Nat} (hc : PutC w F p k v bt bk bv bp) {no : Int} {lo : Bytes} {hi : Option Bytes} {ns : List Int} {E : Es} (hB : Bn T.size T.nodes 1 no lo hi ns E) (cx : inB lo hi k) (hk : keyOk k) (fS : 3 + k.length + v.length ≤ mostE T.size) (hg : GivS T) (mG : ∀ x ∈ T.given, 1 ≤ x ∧ x ≤ 2147483647) (d8 : T.given.length ≤ 4294967296) (Gs : E = [] ∨ 1 ≤ T.given.length) (jk : T.count ≤ 1000000000) :
  Ret Tryz.prog 68 [I no, ptr bt 0, ptr bk 0, ptr bv 0, ptr bp 0] w fun val w' => ∃ T' nb' F', TreeA w' p T' nb' F' ∧ PutPost T 1 no lo hi ns E k v val T' ∧ Kp F w w' ∧ (∀ k, F' k → F k ∨ w.heap.size ≤ k) ∧ ∀ x, T.nodes x ≠ none → x ∉ ns → nb' x = nb x := by
 have hz : sizeOk (T.size : Int) := size_ok h
 obtain ⟨z1, z2, -⟩ := id hz
 obtain ⟨hn, iq, bi, Bx, tz⟩ := hB.leaf (by omega)
 have qj := insE_ok (v := v) bi hk fS
 have Iu := insE_entB (es := E) (k := k) (v := v)
 have wO : mostE T.size ≤ 1100 := by unfold mostE; omega
 have lV := leaf_bd hz qj (by omega)
 have Gt := entB_len bi
 have Gu := entB_len qj
 obtain ⟨mN, mC, mO, gv, kn, kc, ko, O⟩ := h.opn
 obtain ⟨q, hq, hM, eY, cG⟩ := h.nodeF hn
 obtain ⟨qb, qk, qv, qc⟩ := q
 dsimp only at hq
 subst hq
 have aq := hM.blk
 have hK := hM.keys
 have hV := hM.vals
 have hC := hM.kids
 have cM := hM.d1
 have df := hM.d2
 have lW := hM.d3
 dsimp only at aq hK hV hC cM df lW
 have eQ : (leafNd E).vals.length = E.length := by simp [leafNd]
 have cy : (leafNd E).keys.length = E.length := by simp [leafNd]
 rw [eQ] at hV
 rw [cy] at hK
 have bN := hc.t
 have eM := hc.k
 have kH := hc.v
 obtain ⟨nt, nk, nv, np⟩ := hc.n
 have Gv : F (nb no) := (eY _ (.inl rfl)).1
 have hp : pos (leafNd E).keys k = posE E k := rfl
 have lX := posE_le E k
 have eW := h.lt
 refine ret_of_run (e := [(0, _), (1, _), (2, _), (3, _), (4, _)]) Tryz.func68 rfl Tryz.ntmps68 rfl rfl (qN rfl (zqa rfl (zqa rfl (qM rfl (qV ((by first | exact yld U24 rfl rfl bN rfl | exact yld U24 rfl rfl O.blk rfl | exact yld U24 rfl rfl aq rfl)) ?_)))))
 refine qV (ynk rfl) (qV (yfa fl74_5 rfl) (qV ((by first | exact yld U71 rfl rfl bN rfl | exact yld U71 rfl rfl O.blk rfl | exact yld U71 rfl rfl aq rfl)) ?_))
 refine zqm rfl (qV (ylk (k := no) (K := KZ) U71 (ky_int U3) ti81 rfl rfl O.nm.l) ?_)
 rw [show (getL kn no).getD (.pointer none) = ptr (nb no) 0 by rw [O.ng no, hn]; rfl]
 refine zqa rfl (rEnd (run_seq (qN rfl (zqm rfl (qV (ynk rfl) (qV (yfa fl84_0 rfl) (qV ((by first | exact yld U4 rfl rfl bN rfl | exact yld U4 rfl rfl O.blk rfl | exact yld U4 rfl rfl aq rfl)) ?_)))))))
 refine rEnd (run_true rfl (run_seq ?_))
 have a7 := Ext.drew0 w
 refine run_draw (fun w' => Ext w w') (by kernel_rfl) rfl (zqt 0 rfl (ymv rfl) a7 (zqt 1 rfl (ynk rfl) a7 (zqt 2 rfl (yfa fl84_1 rfl) a7 (qT 3 rfl (fun _ h=>(by first | exact yld U23 rfl rfl (h.blk aq) rfl | exact yld U23 rfl rfl (h.blk eM) rfl)) a7 ?_))))
 refine qT 4 rfl (fun _ h=>(by first | exact yld U9 rfl rfl (h.blk aq) rfl | exact yld U9 rfl rfl (h.blk eM) rfl)) a7 ?_
 refine zqo 5 [.tmp 30, .tmp 31] rfl cf44 rfl (bsearch_ret (leafNd E).keys k qk _ ((hM.keys.ext a7).rd) (by rw [cy]; omega) bi.rise) ?_
 rintro _ w1 ⟨rfl, rfl⟩
 refine ⟨a7, ?_⟩
 rw [hp]
 refine zqt 6 rfl (ymv rfl) a7 (zqt 7 rfl (yex rfl rfl) a7 (zqt 8 rfl (yex rfl rfl) a7 (zqt 9 rfl (yas rfl) a7 (zqt 10 rfl (yas rfl) a7 (qE (Run.qb (e := [(0, _), (1, _), (2, _), (3, _), (4, _), (6, _), (7, _), (8, _), (9, _), (10, _)]) ?_))))))
 refine run_seq (qN rfl (zqm rfl (rEnd (run_cut (fun e' w2 => ∃ F2 T2, e' = [(0, I no), (1, ptr bt 0), (2, ptr bk 0), (4, ptr bp 0), (6, S []), (7, I 0), (8, ptr (nb no) 0)] ∧ T2 = ({ T.setN no (leafNd (insE E k v)) with count := T.count + if hasE E k then 0 else 1 } : Tr) ∧ TreeA w2 p T2 nb F2 ∧ Kp F w w2 ∧ ∀ k, F2 k → F k ∨ w.heap.size ≤ k) ?hk (fun hk => ?dG)))))
 case hk =>
  rintro e' w2 ⟨F2, T2, rfl, fQ, h2, am, ce⟩; have dE := hc.kp am ce; have cD := dE.t; obtain ⟨mN2, mC2, mO2, gv2, kn2, kc2, ko2, O2⟩ := h2.opn; refine qN rfl (qV ((by first | exact yld U24 rfl rfl cD rfl | exact yld U24 rfl rfl O2.blk rfl)) ?_); refine qV (ynk rfl) (qV (yfa fl74_7 rfl) (qV ((by first | exact yld U72 rfl rfl cD rfl | exact yld U72 rfl rfl O2.blk rfl)) ?_)); refine zqm rfl (rEffP rfl (zmuB (k := no) (K := KZ) U72 (ky_int U3) rfl rfl rfl O2.cm) ?_); rintro w3 ⟨ef, ak⟩
  have h3 := O2.setC w3 _ (updI T2.changed no true) ef ak (fun x => by
   rw [getL_put]; by_cases e : x = no
   ·subst e; simp [flag, updI]
   ·rw [if_neg e, O2.cg]; simp [updI, e])
  obtain ⟨T3, kI⟩ : ∃ X, X = ({ T2 with changed := updI T2.changed no true } : Tr) := ⟨_, rfl⟩; rw [← kI] at h3; have r9 : T3.size = T.size := by rw [kI, fQ]; rfl
  have bH : Kp F2 w2 w3 := ak.mono' (fun k hk => by rw [hk]; exact O2.fp.2.2.1); have cV : Kp F w w3 := am.trans_new bH (fun i hi => (ce i hi).symm); have sB : T3.nodes no = some (leafNd (insE E k v)) := by rw [kI, fQ]; exact updI_same _ _ _
  obtain ⟨mN3, mC3, mO3, gv3, kn3, kc3, ko3, O3⟩ := h3.opn; obtain ⟨q3, wY, jl, kJ, cY⟩ := h3.nodeF sB; obtain ⟨q3b, q3k, q3v, q3c⟩ := q3; dsimp only at wY; subst wY; have cL := jl.blk; dsimp only at cL; have pi : PutC w3 F2 p k v bt bk bv bp := dE.kp bH (fun i hi => .inl hi); have dC := pi.t; refine rEnd (run_seq (run_seq ?_)); have av := Ext.drew0 w3; refine run_draw (fun w' => Ext w3 w') (by kernel_rfl) rfl (zqt 0 rfl (ymv rfl) av (zqt 1 rfl (ynk rfl) av (qT 2 rfl (fun _ hS => (by first | exact yldA U84 rfl ti84 rfl (Blk.cells (n := 4) (hS.blk cL) (news := [_, _, _, _]) rfl) rfl | exact yldA U84 rfl ti84 rfl (Blk.cells (n := 4) (hS.blk dC) (news := [_, _, _, _]) rfl) rfl | exact yldA U84 rfl ti84 rfl (Blk.cells (n := 4) (hS.blk O3.blk) (news := [_, _, _, _]) rfl) rfl)) av ?_))); refine qT 4 rfl (fun _ h=>(by first | exact yld U24 rfl rfl (h.blk cL) rfl | exact yld U24 rfl rfl (h.blk dC) rfl | exact yld U24 rfl rfl (h.blk O3.blk) rfl)) av ?_; refine zqt 5 rfl (ynk rfl) av (zqt 6 rfl (yfa fl74_0 rfl) av (qT 7 rfl (fun _ h=>(by first | exact yld U3 rfl rfl (h.blk cL) rfl | exact yld U3 rfl rfl (h.blk dC) rfl | exact yld U3 rfl rfl (h.blk O3.blk) rfl)) av ?_)); refine zqo 3 [.tmp 79] rfl cf70 rfl (bytes_ret (leafNd (insE E k v)) q3k q3v q3c _ (jl.r.ext av) jl.bd) ?_; rintro _ w4 ⟨rfl, aX⟩; refine ⟨av.trans aX, ?_⟩; refine zqt 8 rfl (yle rfl rfl) (av.trans aX) (qE ?_); have ez := av.trans aX; have eV := am.size; have jS := bH.size; have jT := ez.size; have tK : Evo T { (T.setN no (leafNd (insE E k v))).mark no with count := T.count + if hasE E k then 0 else 1 } 0 := (Evo.set hg hn).cnt; have gQ : T3 = { (T.setN no (leafNd (insE E k v))).mark no with count := T.count + if hasE E k then 0 else 1 } := by rw [kI, fQ]; rfl
  rw [leafNd_bytes, r9]; refine run_if rfl (fun hb => ?_) (fun hb => ?_)
  ·refine qN rfl (zqa rfl (zqa rfl (rEnd (run_ret Tryz.func68 rfl (⟨_, rfl, T3, nb, F2, h3.ext ez, ⟨by rw [gQ], by rw [gQ]; exact tK.mono (by omega), .inl ⟨rfl, ?_, fun _ m hm => ?_⟩⟩, cV.trans (ez.kp), ce, fun _ _ _ => rfl⟩)))))
   ·rw [gQ]; exact put_leaf1 hz hB cx hk fS (by omega)
   ·rw [sB] at hm; cases hm; intro e; exact insE_ne E k v (by simpa [leafNd] using e)
  ·have pG : T.size < 3 + entB (insE E k v) := by omega
   obtain ⟨c1, c2, -⟩ := cut_ok hz qj pG (by omega)
   obtain ⟨no', gs, f4⟩ : ∃ a l, T.given = a :: l := by
    cases e : T.given with
    | nil =>
      rcases Gs with h0 | h1
      ·subst h0; have e1 : insE [] k v = [(k, v)] := by unfold insE; simp
       rw [e1] at pG; simp [entB] at pG; unfold mostE at fS; omega
      ·rw [e] at h1; simp at h1
    | cons a l => exact ⟨a, l, rfl⟩
   have BG := mG no' (by rw [f4]; simp); have dp := hg.free no' (by rw [f4]; simp); obtain ⟨f, hf⟩ : ∃ f : Nat, no' = (f : Int) := ⟨no'.toNat, by omega⟩; subst hf; have ot : no ≠ (f : Int) := fun e => by rw [← e, hn] at dp; cases dp.1
   obtain ⟨up, eu, gR⟩ := put_leaf2 (v := v) hz hB cx hk fS pG dp.1 (by omega); have i3 : NdM w4 (leafNd (insE E k v)) ⟨nb no, q3k, q3v, q3c⟩ := jl.kp ez (fun _ _ => id); have pS := cut_ret i3 c1 c2; dsimp only at pS; refine run_skip (qN rfl (zqm rfl (zqc [.tmp 86] cf71 rfl (pS) ?_))); rintro _ w5 ⟨kv2, vv2, q5, rfl, kK, wZ, eU, rx, Eg, f9, ok5, ov5, okk5, ovv5⟩; have iy : ∀ i, F2 i → i < w4.heap.size := (h3.ext ez).lt
   obtain ⟨F5, h5, iF⟩ := cY w5 _ q5 kK eU ((ez.kp).trans (f9.mono' (fun i hi => .inl hi))) (fun i hi => by
    rcases hi with e | e | e | e
    ·exact .inl (.inl (by rw [e, kK]))
    ·exact .inr (fun hh => by have := ok5 i e; have := iy i hh; omega)
    ·exact .inr (fun hh => by have := ov5 i e; have := iy i hh; omega)
    ·exact .inl (.inr (.inr (.inr (by rw [wZ] at e; exact e)))))
   obtain ⟨T5, li⟩ : ∃ X, X = T3.setN no (leafNd ((insE E k v).take (halfOf (sizes (insE E k v))))) := ⟨_, rfl⟩; rw [← li] at h5; have lg := f9.size; have jm := h5.lt; refine rValP rfl rfl (pal (cs := [_, _, _, _]) ti84 rfl) ?_; rintro _ w6 ⟨b6, rfl, sQ, bq, bT⟩; have nh := bq.size; refine rEffP rfl (zstA (news := [.bool true, kv2, vv2, .slice none 0 0]) ti84 rfl rfl (by simp only [List.all_cons, List.all_nil, oneV_sl rx, oneV_sl Eg, Bool.and_true]; rfl) rfl bT (by simp)) ?_; rintro w7 ⟨dy, dP⟩; have kj := dP.size; have aK : Ext w5 w7 := bq.trans_new dP (fun i hi => by omega); have pj : Blk w7 b6 [.bool true, kv2, vv2, .slice none 0 0] 84 := dy; have h7 := h5.ext aK; have dz : Kp F2 w3 w5 := (ez.kp).trans (f9.mono' (fun i hi => by rw [hi]; exact (kJ _ (.inl rfl)).1)); have nP : Kp F w w5 := cV.trans_new dz (fun i hi => (ce i hi).symm); have jn : Kp F w w7 := nP.trans aK.kp
   have dO : ∀ i, F5 i → F i ∨ w.heap.size ≤ i := fun i hi => by
    rcases iF i hi with e | e
    ·exact ce i e
    ·rcases e with e | e | e | e
     ·exact ce i (by rw [e, kK]; exact (kJ _ (.inl rfl)).1)
     ·exact .inr (by have := ok5 i e; omega)
     ·exact .inr (by have := ov5 i e; omega)
     ·exact ce i (kJ i (.inr (.inr (.inr (by rw [wZ] at e; exact e))))).1
   have lp : ∀ i, kv2.ownBlock = some i → ¬ F5 i := fun i hi hh => by
    obtain ⟨a1, a2, -⟩ := okk5 i hi; rcases iF i hh with e | e
    ·have := iy i e; omega
    ·exact a2 e
   have x4 : ∀ i, vv2.ownBlock = some i → ¬ F5 i := fun i hi hh => by
    obtain ⟨a1, a2⟩ := ovv5 i hi; rcases iF i hh with e | e
    ·have := iy i e; omega
    ·exact a2 e
   have jX := hc.kp jn dO; have eC := jX.t; have tL : ¬ F5 b6 := fun hh => by have := jm b6 hh; omega
   have mq : 1 ≤ ((insE E k v).drop (halfOf (sizes (insE E k v)))).length := by rw [List.length_drop]; omega
   obtain ⟨gk5, ck5, rfl⟩ := some_of rx (by omega)
   have BH : (((insE E k v).drop (halfOf (sizes (insE E k v)))).map (·.1))[0]? = some up := by
    rw [List.getElem?_map, List.getElem?_drop, Nat.add_zero]; exact eu
   have BI : EsOk T.size ((insE E k v).drop (halfOf (sizes (insE E k v)))) := qj.sub (List.drop_sublist _ _); have DN := entB_take_drop (insE E k v) (halfOf (sizes (insE E k v)))
   have hP : NdP w7 (leafNd ((insE E k v).drop (halfOf (sizes (insE E k v))))) (.slice (some ⟨gk5, 0, none⟩) ((insE E k v).drop (halfOf (sizes (insE E k v)))).length ck5) vv2 (.slice none 0 0) := by
    refine ⟨?_, ?_, ?_, leaf_bd hz BI (by omega), fun g hg => ⟨?_, by simp [Value.ownBlock]⟩, fun g hg => by simp [Value.ownBlock]⟩
    ·have e : (leafNd ((insE E k v).drop (halfOf (sizes (insE E k v))))).keys.length = ((insE E k v).drop (halfOf (sizes (insE E k v)))).length := by simp [leafNd]
     rw [e]; exact rx.ext aK
    ·have e : (leafNd ((insE E k v).drop (halfOf (sizes (insE E k v))))).vals.length = ((insE E k v).drop (halfOf (sizes (insE E k v)))).length := by simp [leafNd]
     rw [e]; exact Eg.ext aK
    ·exact Sl.nil _ _ _
    ·exact (okk5 g hg).2.2
   refine rEnd (run_seq ?_); have fT := Ext.drew0 w7; have tM : T5.given = (f : Int) :: gs := by rw [li, kI, fQ]; exact f4
   have tN : T5.nodes (f : Int) = none := by rw [li, kI, fQ]; show updI (updI T.nodes no _) no _ (f : Int) = none; rw [updI_ne (Ne.symm ot), updI_ne (Ne.symm ot)]; exact dp.1
   have Iv := (rx.ext aK).rd; have BJ : ¬ F5 gk5 := lp gk5 rfl
   have BK : ∀ i, ownP (.slice (some ⟨gk5, 0, none⟩) ((insE E k v).drop (halfOf (sizes (insE E k v)))).length ck5) vv2 (.slice none 0 0) i → ¬ F5 i := fun i hi => by
    rcases hi with e | e | e
    ·exact lp i e
    ·exact x4 i e
    ·simp [Value.ownBlock] at e
   have gS := fresh_ret (h7.ext fT) tM (by rw [f4] at d8; simp at d8; omega) (hP.kp fT.kp (fun _ _ => id)) BK tN; rw [show (leafNd ((insE E k v).drop (halfOf (sizes (insE E k v))))).leaf = true from rfl] at gS; refine run_draw (fun w' => Kp F5 w7 w') (by kernel_rfl) rfl (zqt 0 rfl (yfa fl84_1 rfl) (fT.kp) (qT 1 rfl (fun _ h=>(by first | exact yld U23 rfl rfl (h.blk pj tL) rfl | exact yld U23 rfl rfl (h.blk eC jX.n.1) rfl)) (fT.kp) ?_)); refine zqt 2 rfl (yis U23 ti9 rfl rfl (by omega)) (fT.kp) (qT 4 rfl (fun _ h=>(by first | exact yld U24 rfl rfl (h.blk pj tL) rfl | exact yld U24 rfl rfl (h.blk eC jX.n.1) rfl)) (fT.kp) ?_); refine qT 5 rfl (fun _ hS => (by first | exact yldA U84 rfl ti84 rfl (Blk.cells (n := 4) (hS.blk pj tL) (news := [_, _, _, _]) rfl) rfl | exact yldA U84 rfl ti84 rfl (Blk.cells (n := 4) (hS.blk eC jX.n.1) (news := [_, _, _, _]) rfl) rfl)) (fT.kp) ?_; refine qT 3 rfl (fun _ hS => yldc U9 rfl rfl (rd_str ((rx.ext aK).kp hS (fun g hg => by cases hg; exact BJ)).rd (by omega) BH)) (fT.kp) ?_; refine zqo 6 [.tmp 92, .tmp 93] rfl cf67 rfl (gS) ?_; rintro _ w8 ⟨rfl, b8, F8, h8, lY, rm⟩; refine ⟨fT.kp.trans lY, ?_⟩; refine zqt 7 rfl (yas rfl) (fT.kp.trans lY) (zqt 8 rfl (yas rfl) (fT.kp.trans lY) (qE (Run.qb (e := [(0, _), (1, _), (2, _), (4, _), (6, _), (7, _), (8, _)]) ?_))); refine run_ret Tryz.func68 rfl ?_; have Gw := fT.size
   have BL : (({ T5 with given := gs } : Tr).setN (f : Int) (leafNd ((insE E k v).drop (halfOf (sizes (insE E k v)))))).mark (f : Int) = { (((({ (T.setN no (leafNd ((insE E k v).take (halfOf (sizes (insE E k v)))))).mark no with given := gs } : Tr).setN (f : Int) (leafNd ((insE E k v).drop (halfOf (sizes (insE E k v)))))).mark (f : Int))) with count := T.count + if hasE E k then 0 else 1 } := by
    rw [li, gQ]
    have e5 : ∀ (a b : Nd), updI (updI T.nodes no (some b)) no (some a) = updI T.nodes no (some a) := fun a b => by
     funext x; unfold updI; split <;> rfl
    show ({ T with count := _, nodes := updI (updI (updI T.nodes no _) no _) _ _, given := gs, changed := _ } : Tr) = { T with count := _, nodes := updI (updI T.nodes no _) _ _, given := gs, changed := _ }; rw [e5]
    rfl
   rw [BL] at h8; refine ⟨_, rfl, _, _, F8, h8, ⟨rfl, ?_, .inr ⟨up, f, rfl, gR⟩⟩, ?_, fun i hi => ?_, fun x hx _ => updI_ne (fun e => hx (by rw [e]; exact dp.1))⟩
   ·have e1 : Evo T ((T.setN no (leafNd ((insE E k v).take (halfOf (sizes (insE E k v)))))).mark no) 0 := Evo.set hg hn; have e2 := Evo.fresh (n := leafNd ((insE E k v).drop (halfOf (sizes (insE E k v))))) e1.srt (show _ = (f : Int) :: gs from f4); exact (e1.trans e2).cnt (c := T.count + if hasE E k then 0 else 1)
   ·exact (jn.trans fT.kp).trans_new lY (fun i hi => (dO i hi).symm)
   ·rcases rm i hi with e | e | e
    ·exact dO i e
    ·exact .inr (by omega)
    ·rcases e with e | e | e
     ·exact .inr (by have := (okk5 i e).1; omega)
     ·exact .inr (by have := (ovv5 i e).1; omega)
     ·simp [Value.ownBlock] at e
 case dG =>
  refine run_cond rfl (fun hf => ?_) (fun hf => ?_)
  ·have bc : hasE E k := of_decide_eq_true hf; have ah := hasE_lt bc; obtain ⟨gv0, cv0, rfl⟩ := some_of hV (by omega); have tO : nb no ≠ gv0 := fun e => cM.2.1 (by rw [e]; rfl); have Eh : F gv0 := (eY _ (.inr (.inr (.inl rfl)))).1; have x5 : bv ≠ gv0 := fun e => nv (by rw [e]; exact Eh); refine run_draw (fun w' => Kp (fun g => g = gv0) w w') (by kernel_rfl) rfl (zqt 0 rfl (ymv rfl) (a7.kp.trans ((Ext.drew0 _).kp)) (zqt 1 rfl (ynk rfl) (a7.kp.trans ((Ext.drew0 _).kp)) (zqt 2 rfl (yfa fl84_2 rfl) (a7.kp.trans ((Ext.drew0 _).kp)) (qT 3 rfl (fun _ h=>(by first | exact yld U23 rfl rfl (h.blk aq tO) rfl | exact yld U23 rfl rfl (h.blk kH x5) rfl)) (a7.kp.trans ((Ext.drew0 _).kp)) ?_)))); refine zqt 4 rfl (ymv rfl) (a7.kp.trans ((Ext.drew0 _).kp)) (qT 5 rfl (fun _ h=>(by first | exact yld U9 rfl rfl (h.blk aq tO) rfl | exact yld U9 rfl rfl (h.blk kH x5) rfl)) (a7.kp.trans ((Ext.drew0 _).kp)) ?_); refine zqt 6 rfl (yis U23 ti9 rfl rfl (by omega)) (a7.kp.trans ((Ext.drew0 _).kp)) (qO 7 (nEffP (i := 7) rfl rfl (zstSl ti9 rfl rfl rfl (hV.ext (a7.trans (Ext.drew0 _))) (by simpa [leafNd] using ah)) ?_)); rintro w3 ⟨aJ, ak⟩; refine ⟨((a7.trans (Ext.drew0 _)).kp).trans ak, ?_⟩; refine qE ?_; have cV : Kp (fun g => g = gv0) w w3 := ((a7.trans (Ext.drew0 _)).kp).trans ak; have fw := insE_keys (v := v) bc; have x6 := insE_vals (v := v) bc
   obtain ⟨ic, dF⟩ := hM.re (w' := w3) (n' := leafNd (insE E k v)) (kv' := qk) (vv' := .slice (some ⟨gv0, 0, none⟩) E.length cv0) (cv' := qc) (cV.blk aq tO) (by
     have e : (leafNd (insE E k v)).keys = (leafNd E).keys := fw; rw [e]
     exact hM.keys.kp cV (fun g hg e => (df g hg).1 (by rw [e]; rfl))) (by
     have e : (leafNd (insE E k v)).vals = (leafNd E).vals.set (posE E k) v := x6; rw [e, List.length_set, eQ, List.map_set]; rw [Nat.zero_add, Nat.mul_one] at aJ
     exact aJ) (hC.kp cV (fun g hg e => lW gv0 rfl (by rw [← e]; exact hg))) lV (fun g hg => .inl hg) (fun g hg => .inl hg) (fun g hg => .inl hg) (fun g hg => ⟨fun e => absurd (hM.lt g (.inr (.inl e))) (by omega), fun e => absurd (hM.lt g (.inr (.inr (.inl e)))) (by omega)⟩)
   obtain ⟨F', h', i0⟩ := cG w3 _ _ rfl ic (cV.mono' (fun g hg => .inr (.inr (.inl (by rw [hg]; rfl))))) (fun g hg => (dF g hg).imp id (fun e hh => by have := eW g hh; omega)); have ou : (T.count + if hasE E k then 0 else 1) = T.count := by rw [if_pos bc]; omega
   refine (hk _ _ ⟨F', _, rfl, rfl, ?_, cV.mono' (fun g hg => by rw [hg]; exact Eh), fun g hg => ?_⟩).qb
   ·rw [ou]; exact h'
   ·rcases i0 g hg with e | e
    ·exact .inl e
    ·rcases dF g e with e | e
     ·exact .inl (eY g e).1
     ·exact .inr e
  ·have bc : ¬ hasE E k := of_decide_eq_false hf; have lZ := insE_new (v := v) bc; refine run_seq ?_; obtain ⟨Q, hQ⟩ : ∃ Q : Nat → Prop, Q = fun g => qk.ownBlock = some g ∨ qv.ownBlock = some g := ⟨_, rfl⟩
   have dt : ∀ g, Q g → F g := fun g hg => by
    rw [hQ] at hg; exact (eY g (hg.elim (fun e => .inr (.inl e)) (fun e => .inr (.inr (.inl e))))).1
   have e7 : ¬ Q (nb no) := fun e => by
    rw [hQ] at e; exact e.elim cM.1 cM.2.1
   have aQ : ∀ g, qk.ownBlock = some g → Q g := fun g hg => by rw [hQ]; exact .inl hg
   have cU : ∀ g, qv.ownBlock = some g → Q g := fun g hg => by rw [hQ]; exact .inr hg
   have dw : ∀ g, Q g → g < w.heap.size := fun g hg => eW g (dt g hg); refine run_cut (fun e' w2 => ∃ kv' vv', e' = [(0, I no), (1, ptr bt 0), (2, ptr bk 0), (4, ptr bp 0), (6, S []), (7, I 0), (8, ptr (nb no) 0)] ∧ NdM w2 (leafNd (insE E k v)) ⟨nb no, kv', vv', qc⟩ ∧ (∀ g, Pl.fp ⟨nb no, kv', vv', qc⟩ g → Pl.fp ⟨nb no, qk, qv, qc⟩ g ∨ w.heap.size ≤ g) ∧ Kp (Pl.fp ⟨nb no, qk, qv, qc⟩) w w2) ?eR (fun eR => ?iu)
   case eR =>
    rintro e' w2 ⟨kv', vv', rfl, cf, dF, am⟩; obtain ⟨F', h', i0⟩ := cG w2 _ ⟨nb no, kv', vv', qc⟩ rfl cf am (fun g hg => (dF g hg).imp id (fun e hh => by have := eW g hh; omega))
    have ce : ∀ g, F' g → F g ∨ w.heap.size ≤ g := fun g hg => by
     rcases i0 g hg with e | e
     ·exact .inl e
     ·exact (dF g e).imp (fun e => (eY g e).1) id
    have ow : Kp F w w2 := am.mono' (fun g hg => (eY g hg).1); have dE := hc.kp ow ce; have cD := dE.t; obtain ⟨mN2, mC2, mO2, gv2, kn2, kc2, ko2, O2⟩ := h'.opn; have ay := O2.blk; have vk : (T.setN no (leafNd (insE E k v))).count = T.count := rfl; refine run_reg rfl (qV ((by first | exact yld U24 rfl rfl cD rfl | exact yld U24 rfl rfl ay rfl)) ?_); refine qV (ynk rfl) (qV (yfa fl74_4 rfl) (qV ((by first | exact yld U3 rfl rfl cD rfl | exact yld U3 rfl rfl ay rfl)) ?_)); refine zqd rfl rfl (qV (ynk rfl) (qV (yfa fl74_4 rfl) (rEffP rfl (zst ti3 rfl rfl rfl ay (by simp [trCs])) ?_))); rintro w3 ⟨aN, ak⟩; refine rEnd ?_; have h3 := O2.setB w3 T.root (T.count + 1) (by simpa [trCs, Tr.setN] using aN) ak; have ou : (T.count + if hasE E k then 0 else 1) = T.count + 1 := by rw [if_neg bc]
    refine (hk _ _ ⟨F', _, rfl, rfl, ?_, ow.trans_new ak (fun i hi => by rw [hi]; exact (ce _ O2.fp.1).symm), ce⟩).qb; rw [ou]; exact h3
   case iu =>
    have cr : ∀ {l : List Bytes}, ∀ c' ∈ l.map S, c'.oneCell' = true := fun c' hc => by obtain ⟨z, -, rfl⟩ := List.mem_map.1 hc; rfl
    have eL := a7.trans (Ext.drew0 w.drew); have ab : Kp Q w w.drew.drew := eL.kp; have eD := hK.ext eL; have gn := hV.ext eL; have bO := eL.size; refine run_drawL [20,23] (fun w' => Kp Q w w') (by kernel_rfl) rfl (qL [18, 19, 20, 21, 22, 23] 0 rfl (fun _ h=>ymv rfl) ab (hTakeU (i := 1) rfl (by kernel_rfl) rfl rfl (fun _ => ymv rfl) (ab) (qL [3, 4, 5, 9, 17, 18, 19, 20, 21, 22, 23] 2 rfl (fun _ h=>ymv rfl) ab (qL [4, 5, 9, 17, 18, 19, 20, 21, 22, 23] 3 rfl (fun _ h=>ynk rfl) ab (qL [5, 9, 17, 18, 19, 20, 21, 22, 23] 4 rfl (fun _ h=>yfa fl84_1 rfl) ab (qL [9, 17, 18, 19, 20, 21, 22, 23] 5 rfl (fun _ hS => (by first | exact yld U23 rfl rfl (hS.blk aq e7) rfl | exact yld U23 rfl rfl (hS.blk eM (fun e => nk (dt _ e))) rfl | exact yld U23 rfl rfl (hS.blk kH (fun e => nv (dt _ e))) rfl)) ab ?_)))))); refine qL [9, 17, 18, 19, 20, 21, 22, 23] 6 rfl (fun _ h=>ymv rfl) ab (qL [8, 9, 17, 18, 19, 20, 21, 22, 23] 7 rfl (fun _ hS => (by first | exact yld U9 rfl rfl (hS.blk aq e7) rfl | exact yld U9 rfl rfl (hS.blk eM (fun e => nk (dt _ e))) rfl | exact yld U9 rfl rfl (hS.blk kH (fun e => nv (dt _ e))) rfl)) ab ?_); refine qL [11, 12, 13, 17, 18, 19, 20, 21, 22, 23] 10 rfl (fun _ h=>ymv rfl) ab (qL [12, 13, 17, 18, 19, 20, 21, 22, 23] 11 rfl (fun _ h=>ynk rfl) ab (qL [13, 17, 18, 19, 20, 21, 22, 23] 12 rfl (fun _ h=>yfa fl84_2 rfl) ab (qL [17, 18, 19, 20, 21, 22, 23] 13 rfl (fun _ hS => (by first | exact yld U23 rfl rfl (hS.blk aq e7) rfl | exact yld U23 rfl rfl (hS.blk eM (fun e => nk (dt _ e))) rfl | exact yld U23 rfl rfl (hS.blk kH (fun e => nv (dt _ e))) rfl)) ab ?_))); refine qL [17, 18, 19, 20, 21, 22, 23] 14 rfl (fun _ h=>ymv rfl) ab (qL [16, 17, 18, 19, 20, 21, 22, 23] 15 rfl (fun _ hS => (by first | exact yld U9 rfl rfl (hS.blk aq e7) rfl | exact yld U9 rfl rfl (hS.blk eM (fun e => nk (dt _ e))) rfl | exact yld U9 rfl rfl (hS.blk kH (fun e => nv (dt _ e))) rfl)) ab ?_); refine hTwoL (i := 8) (j := 16) (by kernel_rfl) ?_ ?_
    ·refine nValPL (i := 8) rfl rfl rfl (pbs (parts := [(0, .tmp 50)]) (cs := [_]) (zs := [Value.string ⟨#[]⟩]) U23 ti9 rfl (by kernel_rfl) rfl rfl rfl (by decide)) ?_; rintro _ w8 ⟨b8, rfl, ⟨Ag, br, da⟩, db⟩; refine ⟨ab.trans br.kp, ?_⟩; have ab := ab.trans (br.kp (S := Q)); have eD := eD.ext br; have gn := gn.ext br
     try have cW := cW.ext br
     have Ah : w.heap.size ≤ b8 := by omega
     have bO := Nat.le_trans bO br.size; refine hTwoL (i := 9) (j := 16) (by kernel_rfl) ?_ ?_
     ·refine nCallL (i := 9) rfl rfl rfl (yc (args := [.tmp 48, .tmp 49, .tmp 51]) cf69 rfl) (insS_ret (i := posE E k) eD db rfl cr lX (by omega) (fun b hb e => by have e : b8 = b := oinj e; have := dw _ (aQ _ hb); omega)) ?_; rintro kv9 w9 ⟨bS, aH, cN⟩; refine ⟨ab.trans (aH.mono' aQ), ?_⟩; have ab := ab.trans (aH.mono' aQ); have gn := gn.kp aH (fun g hg e => (df g e).1 hg)
      try have cW := cW.kp aH (fun g hg e => by have e' : b16 = g := oinj hg; have := dw _ (aQ _ e); omega)
      have cN : ∀ g, kv9.ownBlock = some g → qk.ownBlock = some g ∨ w.heap.size ≤ g := fun g hg => (cN g hg).imp id (fun e => Nat.le_trans bO e); have bO := Nat.le_trans bO aH.size; refine hOneL (i := 16) (by kernel_rfl) (nValPL (i := 16) rfl rfl rfl (pbs (parts := [(0, .tmp 58)]) (cs := [_]) (zs := [Value.string ⟨#[]⟩]) U23 ti9 rfl (by kernel_rfl) rfl rfl rfl (by decide)) ?_); rintro _ w16 ⟨b16, rfl, ⟨kw, ag, cS⟩, cW⟩; refine ⟨ab.trans ag.kp, ?_⟩; have ab := ab.trans (ag.kp (S := Q))
      try have eD := eD.ext ag
      have gn := gn.ext ag
      try have db := db.ext ag
      try have bS := bS.ext ag
      have x7 : w.heap.size ≤ b16 := by omega
      have bO := Nat.le_trans bO ag.size; have kC := fun (g : Nat) (hg : kv9.ownBlock = some g) => bS.lt hg; refine hOneL (i := 17) (by kernel_rfl) (nCallL (i := 17) rfl rfl rfl (yc (args := [.tmp 56, .tmp 57, .tmp 59]) cf69 rfl) (insS_ret (i := posE E k) gn cW rfl cr lX (by omega) (fun b hb e => by have e : b16 = b := oinj e; have := dw _ (cU _ hb); omega)) ?_); rintro vv17 w17 ⟨dQ, aP, ct⟩; refine ⟨ab.trans (aP.mono' cU), ?_⟩; have ab := ab.trans (aP.mono' cU); have bS := bS.kp aP (fun g hg e => (cN g hg).elim (fun e' => (df g e').1 e) (fun e' => by have := dw _ (cU _ e); omega))
      have eZ : ∀ g, w.heap.size ≤ g → kv9.ownBlock = some g → vv17.ownBlock ≠ some g := fun g hg h1 h2 => by
       rcases ct g h2 with e | e
       ·have := dw _ (cU _ e); omega
       ·have := kC g h1; omega
      have ct : ∀ g, vv17.ownBlock = some g → qv.ownBlock = some g ∨ w.heap.size ≤ g := fun g hg => (ct g hg).imp id (fun e => Nat.le_trans bO e); refine qL [19, 20, 21, 22, 23] 18 rfl (fun _ h=>ynk rfl) ab (qL [20, 21, 22, 23] 19 rfl (fun _ h=>yfa fl84_1 rfl) ab (hLate [20] (by kernel_rfl) (by kernel_rfl) (qO 20 (nEffP (i := 20) rfl rfl (zst ti23 rfl rfl (oneV_sl bS) (ab.blk aq e7) (by simp)) ?_)))); rintro w20 ⟨kL, gT⟩; refine ⟨trivial, ?_⟩; refine zqt 21 rfl (ynk rfl) trivial (zqt 22 rfl (yfa fl84_2 rfl) trivial (qO 23 (nEffP (i := 23) rfl rfl (zst ti23 rfl rfl (oneV_sl dQ) kL (by simp)) ?_))); rintro w23 ⟨kM, bH⟩; refine ⟨trivial, ?_⟩; refine qE (Run.qb (e := [(0, _), (1, _), (2, _), (4, _), (6, _), (7, _), (8, _)]) ?_); have bg := gT.trans bH
      have ld : ∀ g, kv9.ownBlock = some g → g ≠ nb no := fun g hg e => by
       rcases cN g hg with h | h
       ·rw [e] at h; exact cM.1 h
       ·have := aq.lt; omega
      have pm : ∀ g, vv17.ownBlock = some g → g ≠ nb no := fun g hg e => by
       rcases ct g hg with h | h
       ·rw [e] at h; exact cM.2.1 h
       ·have := aq.lt; omega
      obtain ⟨ic, dF⟩ := hM.re (w' := w23) (n' := leafNd (insE E k v)) (kv' := kv9) (vv' := vv17) (cv' := qc) kM (by
        have e : (leafNd (insE E k v)).keys = (leafNd E).keys.take (posE E k) ++ k :: (leafNd E).keys.drop (posE E k) := by rw [lZ]; simp [leafNd]
        rw [e]; have := bS.kp bg ld; simp only [List.map_append, List.map_cons, List.map_take, List.map_drop, List.length_append, List.length_cons, List.length_take, List.length_drop, cy]; rw [show min (posE E k) E.length + (E.length - posE E k + 1) = E.length + 1 by omega]
        exact this) (by
        have e : (leafNd (insE E k v)).vals = (leafNd E).vals.take (posE E k) ++ v :: (leafNd E).vals.drop (posE E k) := by rw [lZ]; simp [leafNd]
        rw [e]; have := dQ.kp bg pm; simp only [List.map_append, List.map_cons, List.map_take, List.map_drop, List.length_append, List.length_cons, List.length_take, List.length_drop, eQ]; rw [show min (posE E k) E.length + (E.length - posE E k + 1) = E.length + 1 by omega]
        exact this) (by
        have e : (leafNd (insE E k v)).kids = (leafNd E).kids := rfl; rw [e]
        exact (hC.kp ab (fun g hg e => by
         rw [hQ] at e; rcases e with e | e
         ·exact (df g e).2 hg
         ·exact lW g e hg)).kp bg (fun g hg e => cM.2.2 (by rw [← e]; exact hg))) lV cN ct (fun g hg => .inl hg) (fun g hg => ⟨fun e => ⟨eZ g hg e, fun e' => by have := hC.lt e'; omega⟩, fun e e' => by have := hC.lt e'; omega⟩)
      refine (eR _ _ ⟨kv9, vv17, rfl, ic, dF, (ab.mono' (fun g hg => ?_)).trans (bg.mono' (fun g hg => .inl hg))⟩).qb; rw [hQ] at hg; exact hg.elim (fun e => .inr (.inl e)) (fun e => .inr (.inr (.inl e)))
     ·refine nValPL (i := 16) rfl rfl rfl (pbs (parts := [(0, .tmp 58)]) (cs := [_]) (zs := [Value.string ⟨#[]⟩]) U23 ti9 rfl (by kernel_rfl) rfl rfl rfl (by decide)) ?_; rintro _ w16 ⟨b16, rfl, ⟨kw, ag, cS⟩, cW⟩; refine ⟨ab.trans ag.kp, ?_⟩; have ab := ab.trans (ag.kp (S := Q))
      try have eD := eD.ext ag
      have gn := gn.ext ag
      try have db := db.ext ag
      try have bS := bS.ext ag
      have x7 : w.heap.size ≤ b16 := by omega
      have bO := Nat.le_trans bO ag.size; refine hOneL (i := 9) (by kernel_rfl) (nCallL (i := 9) rfl rfl rfl (yc (args := [.tmp 48, .tmp 49, .tmp 51]) cf69 rfl) (insS_ret (i := posE E k) eD db rfl cr lX (by omega) (fun b hb e => by have e : b8 = b := oinj e; have := dw _ (aQ _ hb); omega)) ?_); rintro kv9 w9 ⟨bS, aH, cN⟩; refine ⟨ab.trans (aH.mono' aQ), ?_⟩; have ab := ab.trans (aH.mono' aQ); have gn := gn.kp aH (fun g hg e => (df g e).1 hg)
      try have cW := cW.kp aH (fun g hg e => by have e' : b16 = g := oinj hg; have := dw _ (aQ _ e); omega)
      have cN : ∀ g, kv9.ownBlock = some g → qk.ownBlock = some g ∨ w.heap.size ≤ g := fun g hg => (cN g hg).imp id (fun e => Nat.le_trans bO e); have bO := Nat.le_trans bO aH.size; have kC := fun (g : Nat) (hg : kv9.ownBlock = some g) => bS.lt hg; refine hOneL (i := 17) (by kernel_rfl) (nCallL (i := 17) rfl rfl rfl (yc (args := [.tmp 56, .tmp 57, .tmp 59]) cf69 rfl) (insS_ret (i := posE E k) gn cW rfl cr lX (by omega) (fun b hb e => by have e : b16 = b := oinj e; have := dw _ (cU _ hb); omega)) ?_); rintro vv17 w17 ⟨dQ, aP, ct⟩; refine ⟨ab.trans (aP.mono' cU), ?_⟩; have ab := ab.trans (aP.mono' cU); have bS := bS.kp aP (fun g hg e => (cN g hg).elim (fun e' => (df g e').1 e) (fun e' => by have := dw _ (cU _ e); omega))
      have eZ : ∀ g, w.heap.size ≤ g → kv9.ownBlock = some g → vv17.ownBlock ≠ some g := fun g hg h1 h2 => by
       rcases ct g h2 with e | e
       ·have := dw _ (cU _ e); omega
       ·have := kC g h1; omega
      have ct : ∀ g, vv17.ownBlock = some g → qv.ownBlock = some g ∨ w.heap.size ≤ g := fun g hg => (ct g hg).imp id (fun e => Nat.le_trans bO e); refine qL [19, 20, 21, 22, 23] 18 rfl (fun _ h=>ynk rfl) ab (qL [20, 21, 22, 23] 19 rfl (fun _ h=>yfa fl84_1 rfl) ab (hLate [20] (by kernel_rfl) (by kernel_rfl) (qO 20 (nEffP (i := 20) rfl rfl (zst ti23 rfl rfl (oneV_sl bS) (ab.blk aq e7) (by simp)) ?_)))); rintro w20 ⟨kL, gT⟩; refine ⟨trivial, ?_⟩; refine zqt 21 rfl (ynk rfl) trivial (zqt 22 rfl (yfa fl84_2 rfl) trivial (qO 23 (nEffP (i := 23) rfl rfl (zst ti23 rfl rfl (oneV_sl dQ) kL (by simp)) ?_))); rintro w23 ⟨kM, bH⟩; refine ⟨trivial, ?_⟩; refine qE (Run.qb (e := [(0, _), (1, _), (2, _), (4, _), (6, _), (7, _), (8, _)]) ?_); have bg := gT.trans bH
      have ld : ∀ g, kv9.ownBlock = some g → g ≠ nb no := fun g hg e => by
       rcases cN g hg with h | h
       ·rw [e] at h; exact cM.1 h
       ·have := aq.lt; omega
      have pm : ∀ g, vv17.ownBlock = some g → g ≠ nb no := fun g hg e => by
       rcases ct g hg with h | h
       ·rw [e] at h; exact cM.2.1 h
       ·have := aq.lt; omega
      obtain ⟨ic, dF⟩ := hM.re (w' := w23) (n' := leafNd (insE E k v)) (kv' := kv9) (vv' := vv17) (cv' := qc) kM (by
        have e : (leafNd (insE E k v)).keys = (leafNd E).keys.take (posE E k) ++ k :: (leafNd E).keys.drop (posE E k) := by rw [lZ]; simp [leafNd]
        rw [e]; have := bS.kp bg ld; simp only [List.map_append, List.map_cons, List.map_take, List.map_drop, List.length_append, List.length_cons, List.length_take, List.length_drop, cy]; rw [show min (posE E k) E.length + (E.length - posE E k + 1) = E.length + 1 by omega]
        exact this) (by
        have e : (leafNd (insE E k v)).vals = (leafNd E).vals.take (posE E k) ++ v :: (leafNd E).vals.drop (posE E k) := by rw [lZ]; simp [leafNd]
        rw [e]; have := dQ.kp bg pm; simp only [List.map_append, List.map_cons, List.map_take, List.map_drop, List.length_append, List.length_cons, List.length_take, List.length_drop, eQ]; rw [show min (posE E k) E.length + (E.length - posE E k + 1) = E.length + 1 by omega]
        exact this) (by
        have e : (leafNd (insE E k v)).kids = (leafNd E).kids := rfl; rw [e]
        exact (hC.kp ab (fun g hg e => by
         rw [hQ] at e; rcases e with e | e
         ·exact (df g e).2 hg
         ·exact lW g e hg)).kp bg (fun g hg e => cM.2.2 (by rw [← e]; exact hg))) lV cN ct (fun g hg => .inl hg) (fun g hg => ⟨fun e => ⟨eZ g hg e, fun e' => by have := hC.lt e'; omega⟩, fun e e' => by have := hC.lt e'; omega⟩)
      refine (eR _ _ ⟨kv9, vv17, rfl, ic, dF, (ab.mono' (fun g hg => ?_)).trans (bg.mono' (fun g hg => .inl hg))⟩).qb; rw [hQ] at hg; exact hg.elim (fun e => .inr (.inl e)) (fun e => .inr (.inr (.inl e)))
    ·refine nValPL (i := 16) rfl rfl rfl (pbs (parts := [(0, .tmp 58)]) (cs := [_]) (zs := [Value.string ⟨#[]⟩]) U23 ti9 rfl (by kernel_rfl) rfl rfl rfl (by decide)) ?_; rintro _ w16 ⟨b16, rfl, ⟨kw, ag, cS⟩, cW⟩; refine ⟨ab.trans ag.kp, ?_⟩; have ab := ab.trans (ag.kp (S := Q))
     try have eD := eD.ext ag
     have gn := gn.ext ag
     try have db := db.ext ag
     try have bS := bS.ext ag
     have x7 : w.heap.size ≤ b16 := by omega
     have bO := Nat.le_trans bO ag.size; refine hOneL (i := 8) (by kernel_rfl) (nValPL (i := 8) rfl rfl rfl (pbs (parts := [(0, .tmp 50)]) (cs := [_]) (zs := [Value.string ⟨#[]⟩]) U23 ti9 rfl (by kernel_rfl) rfl rfl rfl (by decide)) ?_); rintro _ w8 ⟨b8, rfl, ⟨Ag, br, da⟩, db⟩; refine ⟨ab.trans br.kp, ?_⟩; have ab := ab.trans (br.kp (S := Q)); have eD := eD.ext br; have gn := gn.ext br
     try have cW := cW.ext br
     have Ah : w.heap.size ≤ b8 := by omega
     have bO := Nat.le_trans bO br.size; refine hOneL (i := 9) (by kernel_rfl) (nCallL (i := 9) rfl rfl rfl (yc (args := [.tmp 48, .tmp 49, .tmp 51]) cf69 rfl) (insS_ret (i := posE E k) eD db rfl cr lX (by omega) (fun b hb e => by have e : b8 = b := oinj e; have := dw _ (aQ _ hb); omega)) ?_); rintro kv9 w9 ⟨bS, aH, cN⟩; refine ⟨ab.trans (aH.mono' aQ), ?_⟩; have ab := ab.trans (aH.mono' aQ); have gn := gn.kp aH (fun g hg e => (df g e).1 hg)
     try have cW := cW.kp aH (fun g hg e => by have e' : b16 = g := oinj hg; have := dw _ (aQ _ e); omega)
     have cN : ∀ g, kv9.ownBlock = some g → qk.ownBlock = some g ∨ w.heap.size ≤ g := fun g hg => (cN g hg).imp id (fun e => Nat.le_trans bO e); have bO := Nat.le_trans bO aH.size; have kC := fun (g : Nat) (hg : kv9.ownBlock = some g) => bS.lt hg; refine hOneL (i := 17) (by kernel_rfl) (nCallL (i := 17) rfl rfl rfl (yc (args := [.tmp 56, .tmp 57, .tmp 59]) cf69 rfl) (insS_ret (i := posE E k) gn cW rfl cr lX (by omega) (fun b hb e => by have e : b16 = b := oinj e; have := dw _ (cU _ hb); omega)) ?_); rintro vv17 w17 ⟨dQ, aP, ct⟩; refine ⟨ab.trans (aP.mono' cU), ?_⟩; have ab := ab.trans (aP.mono' cU); have bS := bS.kp aP (fun g hg e => (cN g hg).elim (fun e' => (df g e').1 e) (fun e' => by have := dw _ (cU _ e); omega))
     have eZ : ∀ g, w.heap.size ≤ g → kv9.ownBlock = some g → vv17.ownBlock ≠ some g := fun g hg h1 h2 => by
      rcases ct g h2 with e | e
      ·have := dw _ (cU _ e); omega
      ·have := kC g h1; omega
     have ct : ∀ g, vv17.ownBlock = some g → qv.ownBlock = some g ∨ w.heap.size ≤ g := fun g hg => (ct g hg).imp id (fun e => Nat.le_trans bO e); refine qL [19, 20, 21, 22, 23] 18 rfl (fun _ h=>ynk rfl) ab (qL [20, 21, 22, 23] 19 rfl (fun _ h=>yfa fl84_1 rfl) ab (hLate [20] (by kernel_rfl) (by kernel_rfl) (qO 20 (nEffP (i := 20) rfl rfl (zst ti23 rfl rfl (oneV_sl bS) (ab.blk aq e7) (by simp)) ?_)))); rintro w20 ⟨kL, gT⟩; refine ⟨trivial, ?_⟩; refine zqt 21 rfl (ynk rfl) trivial (zqt 22 rfl (yfa fl84_2 rfl) trivial (qO 23 (nEffP (i := 23) rfl rfl (zst ti23 rfl rfl (oneV_sl dQ) kL (by simp)) ?_))); rintro w23 ⟨kM, bH⟩; refine ⟨trivial, ?_⟩; refine qE (Run.qb (e := [(0, _), (1, _), (2, _), (4, _), (6, _), (7, _), (8, _)]) ?_); have bg := gT.trans bH
     have ld : ∀ g, kv9.ownBlock = some g → g ≠ nb no := fun g hg e => by
      rcases cN g hg with h | h
      ·rw [e] at h; exact cM.1 h
      ·have := aq.lt; omega
     have pm : ∀ g, vv17.ownBlock = some g → g ≠ nb no := fun g hg e => by
      rcases ct g hg with h | h
      ·rw [e] at h; exact cM.2.1 h
      ·have := aq.lt; omega
     obtain ⟨ic, dF⟩ := hM.re (w' := w23) (n' := leafNd (insE E k v)) (kv' := kv9) (vv' := vv17) (cv' := qc) kM (by
       have e : (leafNd (insE E k v)).keys = (leafNd E).keys.take (posE E k) ++ k :: (leafNd E).keys.drop (posE E k) := by rw [lZ]; simp [leafNd]
       rw [e]; have := bS.kp bg ld; simp only [List.map_append, List.map_cons, List.map_take, List.map_drop, List.length_append, List.length_cons, List.length_take, List.length_drop, cy]; rw [show min (posE E k) E.length + (E.length - posE E k + 1) = E.length + 1 by omega]
       exact this) (by
       have e : (leafNd (insE E k v)).vals = (leafNd E).vals.take (posE E k) ++ v :: (leafNd E).vals.drop (posE E k) := by rw [lZ]; simp [leafNd]
       rw [e]; have := dQ.kp bg pm; simp only [List.map_append, List.map_cons, List.map_take, List.map_drop, List.length_append, List.length_cons, List.length_take, List.length_drop, eQ]; rw [show min (posE E k) E.length + (E.length - posE E k + 1) = E.length + 1 by omega]
       exact this) (by
       have e : (leafNd (insE E k v)).kids = (leafNd E).kids := rfl; rw [e]
       exact (hC.kp ab (fun g hg e => by
        rw [hQ] at e; rcases e with e | e
        ·exact (df g e).2 hg
        ·exact lW g e hg)).kp bg (fun g hg e => cM.2.2 (by rw [← e]; exact hg))) lV cN ct (fun g hg => .inl hg) (fun g hg => ⟨fun e => ⟨eZ g hg e, fun e' => by have := hC.lt e'; omega⟩, fun e e' => by have := hC.lt e'; omega⟩)
     refine (eR _ _ ⟨kv9, vv17, rfl, ic, dF, (ab.mono' (fun g hg => ?_)).trans (bg.mono' (fun g hg => .inl hg))⟩).qb; rw [hQ] at hg; exact hg.elim (fun e => .inr (.inl e)) (fun e => .inr (.inr (.inl e)))
end
end Go.Proofs.YtocnhaoilnojmaaGreat
