/- Texts TrZd, TrKb, TrKd, TrBs, PgE, R7A, R7B, R7C, R7D, TrRg, TrDt, TrPg, ShF, one behind the other (what the statement TreeShape does not use is left out). -/
import Derived.Test.YtocnhaoilnojmaaGreatTSp1
import Derived.Test.YtocnhaoilnojmaaGreatTSp3
import Derived.Test.YtocnhaoilnojmaaGreatTSp4
import Derived.Shelf.Strings.Repeat
import Derived.Shelf.SlSortCmp.WholeK
import Derived.Test.YtocnhaoilnojmaaGreatProg
namespace Go.Proofs.YtocnhaoilnojmaaGreat
open Go Go.RowKit
set_option linter.all false
section
variable {z h : Nat} {N : Nodes} {no : Int} {lo : Bytes} {hi : Option Bytes} {ns : List Int} {es : Es} {c : Nat} {P : List (Bytes × Nat)}
theorem Bn.away {N' : Nodes} {x : Int} {l : Bytes} {u : Option Bytes} {n : List Int} {e : Es} (s : Bn z N h x l u n e) (he : ∀ y, N y ≠ none → y ∈ n → N' y = N y) : Bn z N' h x l u n e := s.move fun y hy => he y (s.some y hy) hy
theorem put_inn1 (hz : sizeOk z) (hc : Ch (Bn z N (h + 1)) lo hi c P ns es) (ko : keysOk (P.map (·.1))) (len : P.length + 1 ≤ orderE z) (nz : c ≠ 0 ∧ ∀ y ∈ P, y.2 ≠ 0) (inn : ∀ u ∈ P.map (·.1), inB lo hi u) (full : ∀ d ∈ c :: P.map (·.2), Full z N d) (bz : (no :: ns).Nodup) :
  Bn z (updI N no (some (innNd c P))) (h + 2) no lo hi (no :: ns) es ∧ Ev N (updI N no (some (innNd c P))) (no :: ns) (no :: ns) := by
 have hn := (List.nodup_cons.1 bz).1
 have oa := hc.kid (fun x l u n e hx => hx.mem)
 refine ⟨Bn.of_inner (by have := hz.1; omega) (updI_same _ _ _) ko len nz inn (fun d hd m hm => ?_) (hc.mono fun x l u n e hx hs => hx.move fun y hy => updI_ne fun e => hn (by rw [← e]; exact hs y hy)), Ev.set bz (List.mem_cons_self ..)⟩
 refine full d hd m ?_
 rw [← hm]
 exact (updI_ne (fun e => hn (by rw [← e]; exact oa d hd))).symm
theorem put_inn2 {f : Nat} (hz : sizeOk z) (hc : Ch (Bn z N (h + 1)) lo hi c P ns es) (ko : keysOk (P.map (·.1))) (h1 : orderE z < P.length + 1) (h2 : P.length + 1 ≤ 2 * orderE z) (nz : c ≠ 0 ∧ ∀ y ∈ P, y.2 ≠ 0) (inn : ∀ u ∈ P.map (·.1), inB lo hi u) (full : ∀ d ∈ c :: P.map (·.2), Full z N d) (bz : (no :: ns).Nodup) (bK : N no ≠ none) (hf : N (f : Int) = none) (xE : f ≠ 0) :
  ∃ up c2, P[(P.length + 1) / 2 - 1]? = some (up, c2) ∧ ∃ n1 n2 e1 e2, es = e1 ++ e2 ∧
    Bn z (updI (updI N no (some (innNd c (P.take ((P.length + 1) / 2 - 1))))) (f : Int) (some (innNd c2 (P.drop ((P.length + 1) / 2))))) (h + 2) no lo (some up) n1 e1 ∧
    Bn z (updI (updI N no (some (innNd c (P.take ((P.length + 1) / 2 - 1))))) (f : Int) (some (innNd c2 (P.drop ((P.length + 1) / 2))))) (h + 2) (f : Int) up hi n2 e2 ∧
    Ev N (updI (updI N no (some (innNd c (P.take ((P.length + 1) / 2 - 1))))) (f : Int) (some (innNd c2 (P.drop ((P.length + 1) / 2))))) (no :: ns) (n1 ++ n2) ∧ inB lo hi up ∧ lt lo up = true ∧ (1 ≤ up.length ∧ up.length ≤ 64) ∧
    (∀ m, updI (updI N no (some (innNd c (P.take ((P.length + 1) / 2 - 1))))) (f : Int) (some (innNd c2 (P.drop ((P.length + 1) / 2)))) no = some m → ¬ m.low z) ∧ Full z (updI (updI N no (some (innNd c (P.take ((P.length + 1) / 2 - 1))))) (f : Int) (some (innNd c2 (P.drop ((P.length + 1) / 2))))) f := by
 have hn := List.nodup_cons.1 bz
 have oa := hc.kid (fun x l u n e hx => hx.mem)
 have jE := hc.some (fun x l u n e hx => hx.some)
 obtain ⟨up, c2, hg, n1, n2, e1, e2, rfl, rfl, c1, c3, k1, k2, i1, i2, l1, l2, w1, w2, eF, Ia, Ib, cP⟩ := part_ok hc hz ko h1 h2 nz inn
 have bE := List.mem_of_getElem? hg
 have lk : no ≠ (f : Int) := fun e => bK (by rw [e]; exact hf)
 have D7 : ∀ y ∈ n1 ++ n2, y ≠ (f : Int) ∧ y ≠ no := fun y hy => ⟨fun e => jE y hy (by rw [e]; exact hf), fun e => hn.1 (by rw [← e]; exact hy)⟩
 have hN : ∀ (a b : Nd), ∀ y ∈ n1 ++ n2, updI (updI N no (some a)) (f : Int) (some b) y = N y := fun a b y hy => by
  rw [updI_ne (D7 y hy).1, updI_ne (D7 y hy).2]
 have aR : ∀ (a b : Nd), ∀ d ∈ c :: P.map (·.2), Full z (updI (updI N no (some a)) (f : Int) (some b)) d := fun a b d hd m hm => by
  rw [hN a b d (oa d hd)] at hm; exact full d hd m hm
 refine ⟨up, c2, hg, no :: n1, (f : Int) :: n2, e1, e2, rfl, ?_, ?_, ?_, eF, Ia, Ib, fun m hm => ?_, fun m hm => ?_⟩
 ·refine Bn.of_inner (by have := hz.1; omega) (by rw [updI_ne lk]; exact updI_same _ _ _) k1 l1 ⟨nz.1, fun y hy => nz.2 y (List.mem_of_mem_take hy)⟩ i1 (fun d hd => aR _ _ d ?_) (c1.mono fun x l u n e hx hs => hx.move fun y hy => hN _ _ y (List.mem_append_left _ (hs y hy))); rcases List.mem_cons.1 hd with rfl | hd
  ·exact List.mem_cons_self ..
  ·obtain ⟨y, hy, rfl⟩ := List.mem_map.1 hd; exact List.mem_cons_of_mem _ (List.mem_map.2 ⟨y, List.mem_of_mem_take hy, rfl⟩)
 ·refine Bn.of_inner (by have := hz.1; omega) (updI_same _ _ _) k2 l2 ⟨cP, fun y hy => nz.2 y (List.mem_of_mem_drop hy)⟩ i2 (fun d hd => aR _ _ d ?_) (c3.mono fun x l u n e hx hs => hx.move fun y hy => hN _ _ y (List.mem_append_right _ (hs y hy))); rcases List.mem_cons.1 hd with rfl | hd
  ·exact List.mem_cons_of_mem _ (List.mem_map.2 ⟨_, bE, rfl⟩)
  ·obtain ⟨y, hy, rfl⟩ := List.mem_map.1 hd; exact List.mem_cons_of_mem _ (List.mem_map.2 ⟨y, List.mem_of_mem_drop hy, rfl⟩)
 ·have e1 : Ev N (updI N no (some (innNd c (P.take ((P.length + 1) / 2 - 1))))) (no :: (n1 ++ n2)) (no :: (n1 ++ n2)) := Ev.set bz (List.mem_cons_self ..); refine e1.trans (Ev.new ?_ (by rw [updI_ne lk.symm]; exact hf) (fun x hx => ?_) (fun x hx => ?_) (by simp))
  ·have eP := List.nodup_append.1 hn.2; have hd : ∀ y ∈ n1 ++ n2, y ≠ (f : Int) ∧ y ≠ no := D7; rw [List.cons_append, List.nodup_cons, List.nodup_append]; refine ⟨fun h => ?_, eP.1, List.nodup_cons.2 ⟨fun h => (hd _ (List.mem_append_right _ h)).1 rfl, eP.2.1⟩, fun a ha b hb e => ?_⟩
   ·rcases List.mem_append.1 h with h | h
    ·exact (hd _ (List.mem_append_left _ h)).2 rfl
    ·rcases List.mem_cons.1 h with h | h
     ·exact lk h
     ·exact (hd _ (List.mem_append_right _ h)).2 rfl
   ·subst e; rcases List.mem_cons.1 hb with h | h
    ·exact (hd a (List.mem_append_left _ ha)).1 h
    ·exact eP.2.2 a ha a h rfl
  ·simp only [List.cons_append, List.mem_cons, List.mem_append] at hx ⊢; rcases hx with h | h | h | h
   ·exact .inl (.inl h)
   ·exact .inl (.inr (.inl h))
   ·exact .inr h
   ·exact .inl (.inr (.inr h))
  ·simp only [List.cons_append, List.mem_cons, List.mem_append] at hx ⊢; rcases hx with h | h | h
   ·exact .inl h
   ·exact .inr (.inl h)
   ·exact .inr (.inr (.inr h))
 ·rw [updI_ne lk, updI_same] at hm; cases hm; exact w1
 ·rw [updI_same] at hm; cases hm; exact w2
end
set_option maxRecDepth 100000
structure InvP (T : Tr) (H : Nat) (ns : List Int) (es : Es) : Prop where
 bn : Bn T.size T.nodes H T.root [] none ns es
 nd : ns.Nodup
 all : ∀ x, T.nodes x ≠ none → x ∈ ns
 cnt : T.count = es.length
 num : ∀ x, T.nodes x ≠ none → 1 ≤ x ∧ x ≤ 2147483647
 gnum : ∀ x ∈ T.given, 1 ≤ x ∧ x ≤ 2147483647
 giv : GivS T
 chg : ∀ x, T.nodes x ≠ none → T.changed x = false → T.old x = true
theorem Inv.toP {T : Tr} {H : Nat} {ns : List Int} {es : Es} (h : Inv T H ns es) (hr : T.root ≠ 0) : InvP T H ns es := by
 rcases h.std with ⟨e, -⟩ | ⟨-, -, hB, bz, -⟩
 ·exact absurd e hr
 ·exact ⟨hB, bz, h.all, h.cnt, h.num, h.gnum, h.giv, h.chg⟩
theorem InvP.inv {T : Tr} {H : Nat} {ns : List Int} {es : Es} (h : InvP T H ns es) (hk : ∀ n, T.nodes T.root = some n → n.keys ≠ []) : Inv T H ns es := by
 have := h.num T.root (h.bn.some _ h.bn.mem)
 exact ⟨.inr ⟨by omega, h.bn.pos, h.bn, h.nd, hk⟩, h.all, h.cnt, h.num, h.gnum, h.giv, h.chg⟩
theorem InvP.gl {T : Tr} {H : Nat} {ns : List Int} {es : Es} (h : InvP T H ns es) : T.given.length ≤ 2147483647 := by
 have := rise_len h.giv.rise h.gnum
 omega
def EvoR (T T' : Tr) (g : Nat) : Prop := Evo T { T' with root := T.root } g
theorem Evo.rt {T T' : Tr} {g : Nat} (h : Evo T T' g) (a : Int) : Evo { T with root := a } { T' with root := a } g := ⟨h.size, h.old, rfl, h.len, h.giv, h.nod, ⟨h.srt.rise, h.srt.free⟩, h.chg⟩
theorem Evo.toR {T T' : Tr} {g : Nat} (h : Evo T T' g) : EvoR T T' g := ⟨h.size, h.old, rfl, h.len, h.giv, h.nod, ⟨h.srt.rise, h.srt.free⟩, h.chg⟩
theorem Evo.toR' {T T' : Tr} {g : Nat} {a : Int} (h : Evo T T' g) : EvoR T { T' with root := a } g := ⟨h.size, h.old, rfl, h.len, h.giv, h.nod, ⟨h.srt.rise, h.srt.free⟩, h.chg⟩
theorem EvoR.trans {T T1 T2 : Tr} {a b : Nat} (h1 : EvoR T T1 a) (h2 : EvoR T1 T2 b) : EvoR T T2 (a + b) :=
 Evo.trans (T1 := { T1 with root := T.root }) h1 (Evo.rt h2 T.root)
theorem EvoR.giv {T T' : Tr} {g : Nat} (h : EvoR T T' g) : GivS T' := ⟨(show Evo _ _ _ from h).srt.rise, (show Evo _ _ _ from h).srt.free⟩
theorem EvoR.num {T T' : Tr} {g : Nat} (h : EvoR T T' g) (hn : ∀ x, T.nodes x ≠ none → 1 ≤ x ∧ x ≤ 2147483647) (hg : ∀ x ∈ T.given, 1 ≤ x ∧ x ≤ 2147483647) : (∀ x, T'.nodes x ≠ none → 1 ≤ x ∧ x ≤ 2147483647) ∧ ∀ x ∈ T'.given, 1 ≤ x ∧ x ≤ 2147483647 :=
 ⟨fun x hx => ((show Evo _ _ _ from h).nod x hx).elim (hn x) (hg x), fun x hx => ((show Evo _ _ _ from h).giv x hx).elim (hg x) (fun e => hn x e.1)⟩
theorem EvoR.chgd {T T' : Tr} {g : Nat} (h : EvoR T T' g) (hc : ∀ x, T.nodes x ≠ none → T.changed x = false → T.old x = true) : ∀ x, T'.nodes x ≠ none → T'.changed x = false → T'.old x = true := fun x hx Ic => by
 rw [show T'.old = T.old from (show Evo _ _ _ from h).old]
 rcases (show Evo _ _ _ from h).chg x Ic with e | ⟨e, e'⟩
 ·exact absurd e hx
 ·exact hc x (by rw [← e]; exact hx) e'
theorem InvP.step {T T' : Tr} {H H' g : Nat} {ns ns' : List Int} {es es' : Es} (h : InvP T H ns es) (e : Evo T T' g) (b : Bn T.size T'.nodes H' T.root [] none ns' es') (v : Ev T.nodes T'.nodes ns ns') (c : T'.count = es'.length) : InvP T' H' ns' es' := by
 have hn := e.toR.num h.num h.gnum
 refine ⟨by rw [e.size, e.root]; exact b, v.nd, fun x hx => ?_, c, hn.1, hn.2, e.srt, e.toR.chgd h.chg⟩
 rcases v.d3 x hx with e | ⟨e1, e2⟩
 ·exact e
 ·exact absurd (h.all x e1) e2
section
variable {w : World} {p : Nat} {T : Tr} {nb : Int → Nat} {F : Nat → Prop}
theorem settle_ret (h : TreeA w p T nb F) {H : Nat} {ns : List Int} {es : Es} (hI : InvP T H ns es) :
  Ret Tryz.prog 48 [ptr p 0] w fun v w' => v = .tuple #[] ∧ ∃ T' H' ns' F', TreeA w' p T' nb F' ∧ Inv T' H' ns' es ∧ H' ≤ H ∧ EvoR T T' 0 ∧ Kp F w w' ∧ ∀ k, F' k → F k ∨ w.heap.size ≤ k := by
 have hz : sizeOk (T.size : Int) := size_ok h
 obtain ⟨z1, z2, -⟩ := id hz
 have de := hI.gl
 have hB := hI.bn
 have iR := hB.pos
 have pd : ∀ {m : Nd} {a : Int}, T.nodes T.root = some m → EvoR T { T.dropN T.root with root := a } 0 := fun hm => (Evo.drop hI.giv hm).toR'
 rcases Nat.eq_or_lt_of_le iR with e | e
 ·subst e; obtain ⟨hn, j9, aQ, D8, vi⟩ := hB.leaf (by omega); by_cases he : es = []
  ·subst he; refine (settle_leaf0 h hn (by omega)).mono ?_; rintro v w' ⟨rfl, F', h', hk, hF⟩; have hE := pd (a := 0) hn; obtain ⟨n1, n2⟩ := hE.num hI.num hI.gnum; refine ⟨rfl, _, 0, [], F', h', ⟨.inl ⟨rfl, rfl, rfl, rfl⟩, fun x hx => ?_, hI.cnt, n1, n2, hE.giv, hE.chgd hI.chg⟩, by omega, hE, hk, hF⟩; exfalso; apply hx; show updI T.nodes T.root none x = none; by_cases e : x = T.root
   ·rw [e]; exact updI_same _ _ _
   ·rw [updI_ne e]
    cases hm : T.nodes x with
    | none => rfl
    | some m => have := hI.all x (by rw [hm]; simp); rw [j9] at this; simp at this; exact absurd this e
  ·refine (settle_leafS h hn he).mono ?_; rintro v w' ⟨rfl, hx⟩; refine ⟨rfl, T, 1, ns, F, h.ext hx, hI.inv (fun n gB => ?_), by omega, (Evo.refl hI.giv).toR, hx.kp, fun k hk => .inl hk⟩; rw [hn] at gB; cases gB
   simpa [leafNd] using he
 ·obtain ⟨h0, rfl⟩ : ∃ h0, H = h0 + 2 := ⟨H - 2, by omega⟩; obtain ⟨c, ps, ns', hn, rfl, dR, ce, mT, yM, aR, hC⟩ := hB.inner (by omega)
  cases ps with
  | cons x r =>
    refine (settle_innS h hn (by simp)).mono ?_; rintro v w' ⟨rfl, hx⟩; refine ⟨rfl, T, h0 + 2, _, F, h.ext hx, hI.inv (fun n gB => ?_), by omega, (Evo.refl hI.giv).toR, hx.kp, fun k hk => .inl hk⟩; rw [hn] at gB; cases gB
    simp [innNd]
  | nil =>
    refine (settle_inn1 h hn (by omega)).mono ?_; rintro v w' ⟨rfl, F', h', hk, hF⟩; have hE := pd (a := (c : Int)) hn; obtain ⟨n1, n2⟩ := hE.num hI.num hI.gnum; have bz := List.nodup_cons.1 hI.nd; have BI : Bn T.size T.nodes (h0 + 1) (c : Int) [] none ns' es := hC; have kR : Bn T.size (updI T.nodes T.root none) (h0 + 1) (c : Int) [] none ns' es := BI.away (fun y _ hy => updI_ne (fun e => bz.1 (by rw [← e]; exact hy))); have Id : (c : Int) ≠ T.root := fun e => bz.1 (by rw [← e]; exact BI.mem); refine ⟨rfl, _, h0 + 1, ns', F', h', InvP.inv ⟨kR, bz.2, fun x hx => ?_, hI.cnt, n1, n2, hE.giv, hE.chgd hI.chg⟩ (fun n gB => ?_), by omega, hE, hk, hF⟩
    ·have Gi : x ≠ T.root := fun e => hx (by rw [e]; exact updI_same _ _ _); have bi : updI T.nodes T.root none x ≠ none := hx; rw [updI_ne Gi] at bi; exact (List.mem_cons.1 (hI.all x bi)).resolve_left Gi
    ·have pe : updI T.nodes T.root none (c : Int) = some n := gB; rw [updI_ne Id] at pe; have hf := aR c (List.mem_cons_self ..)
     cases h0 with
     | zero =>
       obtain ⟨hl, -⟩ := BI.leaf (by omega); rw [hl] at pe; cases pe; have := full_leaf hf hz hl; intro e; have e' : es.length = 0 := by have := congrArg List.length e; simpa [leafNd] using this
       omega
     | succ h1 =>
       obtain ⟨c', ps', _, hl, -⟩ := BI.inner (by omega); rw [hl] at pe; cases pe; have := full_inn hf hz hl; intro e; have e' : ps'.length = 0 := by have := congrArg List.length e; simpa [innNd] using this
       omega
end
theorem Ch.cnts {S : Int → Bytes → Option Bytes → List Int → Es → Prop} {h : Nat} {G : Nat → Prop} (hS : ∀ (x : Nat) l u n e, G x → S (x : Int) l u n e → n.length + 1 ≤ 2 * e.length ∧ h ≤ e.length) : ∀ {ps : List (Bytes × Nat)} {lo : Bytes} {hi : Option Bytes} {c : Nat} {ns : List Int} {es : Es}, Ch S lo hi c ps ns es → (∀ d ∈ c :: ps.map (·.2), G d) → ns.length + (ps.length + 1) ≤ 2 * es.length ∧ h * (ps.length + 1) ≤ es.length
 | [], _, _, c, ns, es, hc, hg => by
   have := hS c _ _ _ _ (hg c (List.mem_cons_self ..)) hc
   simpa using this
 | (k, d) :: r, lo, hi, c, ns, es, hc, hg => by
   obtain ⟨n1, n2, e1, e2, rfl, rfl, hs, hr⟩ := hc; have h1 := hS c _ _ _ _ (hg c (List.mem_cons_self ..)) hs; have h2 := Ch.cnts hS hr (fun x hx => hg x (List.mem_cons_of_mem _ (by simpa using hx))); simp only [List.length_append, List.length_cons]; refine ⟨by omega, ?_⟩; have : h * (r.length + 1 + 1) = h * (r.length + 1) + h := by rw [Nat.mul_succ]
   omega
theorem bn_cnts {z : Nat} {N : Nodes} (hz : sizeOk (z : Int)) : ∀ {h : Nat} {no : Int} {lo : Bytes} {hi : Option Bytes} {ns : List Int} {es : Es}, Bn z N h no lo hi ns es → (∀ n, N no = some n → n.keys ≠ []) → ns.length + 1 ≤ 2 * es.length ∧ h ≤ es.length
 | 0, _, _, _, _, _, s, _ => s.elim
 | 1, no, lo, hi, ns, es, s, hk => by
   obtain ⟨hn, rfl, -⟩ := s.leaf (by have := hz.2.1; omega); have := hk _ hn; have : es ≠ [] := fun e => this (by rw [e]; rfl); have := List.length_pos_iff.2 this; simp
   omega
 | h + 2, no, lo, hi, ns, es, s, hk => by
   obtain ⟨c, ps, ns', hn, rfl, -, -, -, -, aR, hC⟩ := s.inner (by have := hz.1; omega); have r7 : ps ≠ [] := fun e => hk _ hn (by rw [e]; rfl); have dv := List.length_pos_iff.2 r7
   have := hC.cnts (h := h + 1) (G := fun x => Full z N x) (fun x l u n e hf hb => bn_cnts hz hb (fun m hm => by
    cases h with
    | zero =>
      obtain ⟨hl, -⟩ := hb.leaf (by have := hz.2.1; omega); rw [hl] at hm; cases hm; have := full_leaf hf hz hl; intro e'; have : e.length = 0 := by have := congrArg List.length e'; simpa [leafNd] using this
      omega
    | succ h1 =>
      obtain ⟨c', ps', _, hl, -⟩ := hb.inner (by have := hz.1; omega); rw [hl] at hm; cases hm; have := full_inn hf hz hl; intro e'; have : ps'.length = 0 := by have := congrArg List.length e'; simpa [innNd] using this
      omega)) aR
   have h2 : (h + 1) * (ps.length + 1) ≥ (h + 1) * 2 := Nat.mul_le_mul_left _ (by omega); simp only [List.length_cons]; omega
theorem Inv.cnts {T : Tr} {H : Nat} {ns : List Int} {es : Es} (hz : sizeOk (T.size : Int)) (h : Inv T H ns es) : ns.length ≤ 2 * es.length ∧ H ≤ es.length := by
 rcases h.std with ⟨-, rfl, rfl, rfl⟩ | ⟨-, -, hB, -, hk⟩
 ·simp
 ·have := bn_cnts hz hB hk; omega
def bnds : Bytes → Option Bytes → Nat → List (Bytes × Nat) → List (Nat × Bytes × Option Bytes)
 | lo, hi, c, [] => [(c, lo, hi)]
 | lo, hi, c, (k, d) :: r => (c, lo, some k) :: bnds k hi d r
theorem bnds_length (hi : Option Bytes) : ∀ (ps : List (Bytes × Nat)) (lo : Bytes) (c : Nat), (bnds lo hi c ps).length = ps.length + 1
 | [], _, _ => rfl
 | (k, d) :: r, _, _ => by simp [bnds, bnds_length hi r]
theorem bnds_get (hi : Option Bytes) : ∀ (ps : List (Bytes × Nat)) (lo : Bytes) (c i : Nat), i ≤ ps.length → ∃ a l u, (bnds lo hi c ps)[i]? = some (a, l, u) ∧ (c :: ps.map (·.2))[i]? = some a ∧ ((i = 0 ∧ l = lo) ∨ ∃ j, i = j + 1 ∧ (ps.map (·.1))[j]? = some l) ∧ ((i = ps.length ∧ u = hi) ∨ ∃ k, i < ps.length ∧ (ps.map (·.1))[i]? = some k ∧ u = some k)
 | [], lo, c, i, h => by
   have : i = 0 := by simpa using h
   subst this
   exact ⟨c, lo, hi, rfl, rfl, .inl ⟨rfl, rfl⟩, .inl ⟨rfl, rfl⟩⟩
 | (k, d) :: r, lo, c, 0, _ => ⟨c, lo, some k, rfl, rfl, .inl ⟨rfl, rfl⟩, .inr ⟨k, by simp, rfl, rfl⟩⟩
 | (k, d) :: r, lo, c, i + 1, h => by
   obtain ⟨a, l, u, h1, h2, h3, h4⟩ := bnds_get hi r k d i (by simpa using h); refine ⟨a, l, u, h1, by simpa using h2, .inr ⟨i, rfl, ?_⟩, ?_⟩
   ·rcases h3 with ⟨rfl, rfl⟩ | ⟨j, rfl, hj⟩
    ·rfl
    ·simpa using hj
   ·rcases h4 with ⟨rfl, rfl⟩ | ⟨k', hk, br, rfl⟩
    ·exact .inl ⟨by simp, rfl⟩
    ·exact .inr ⟨k', by simp; omega, by simpa using br, rfl⟩
theorem ch_iff {S : Int → Bytes → Option Bytes → List Int → Es → Prop} (hi : Option Bytes) : ∀ {ps : List (Bytes × Nat)} {lo : Bytes} {c : Nat} {ns : List Int} {es : Es}, Ch S lo hi c ps ns es ↔ ∃ L : List (List Int × Es), L.length = ps.length + 1 ∧ (∀ (i : Nat) b l, (bnds lo hi c ps)[i]? = some b → L[i]? = some l → S (b.1 : Int) b.2.1 b.2.2 l.1 l.2) ∧ ns = L.flatMap (·.1) ∧ es = L.flatMap (·.2)
 | [], lo, c, ns, es => by
   constructor
   ·intro h; refine ⟨[(ns, es)], rfl, fun i b l hb hl => ?_, by simp, by simp⟩
    cases i with
    | zero =>
      have e1 : (c, lo, hi) = b := oinj hb; have e2 : (ns, es) = l := oinj hl
      subst e1; subst e2; exact h
    | succ i => simp at hl
   ·rintro ⟨L, hl, hS, rfl, rfl⟩
    match L, hl with
    | [x], _ =>
      have := hS 0 _ x rfl rfl; have e1 : [x].flatMap (fun l : List Int × Es => l.1) = x.1 := by simp
      have e2 : [x].flatMap (fun l : List Int × Es => l.2) = x.2 := by simp
      rw [e1, e2]
      exact this
 | (k, d) :: r, lo, c, ns, es => by
   constructor
   ·rintro ⟨n1, n2, e1, e2, rfl, rfl, hs, hr⟩; obtain ⟨L, hl, hS, rfl, rfl⟩ := (ch_iff hi).1 hr; refine ⟨(n1, e1) :: L, by simp [hl], fun i b l hb hl => ?_, by simp, by simp⟩
    cases i with
    | zero =>
      have e1' : (c, lo, some k) = b := oinj hb; have e2' : (n1, e1) = l := oinj hl
      subst e1'; subst e2'; exact hs
    | succ i => exact hS i b l (by simpa [bnds] using hb) (by simpa using hl)
   ·rintro ⟨L, hl, hS, rfl, rfl⟩
    match L, hl with
    | x :: L', fo =>
      exact ⟨x.1, L'.flatMap (·.1), x.2, L'.flatMap (·.2), by simp, by simp, hS 0 _ x rfl rfl, (ch_iff hi).2 ⟨L', by simpa using fo, fun i b l hb hl => hS (i + 1) b l (by simpa [bnds] using hb) (by simpa using hl), rfl, rfl⟩⟩
def takeR (most : Nat) (from' : Bytes) (out es : Es) : Es := out ++ (es.filter fun x => !lt x.1 from').take (most - out.length)
theorem takeR_app (m : Nat) (f : Bytes) (out a b : Es) : takeR m f (takeR m f out a) b = takeR m f out (a ++ b) := by
 unfold takeR
 rw [List.filter_append, List.take_append, List.append_assoc]
 congr 2
 rw [List.length_append, List.length_take]
 by_cases h : (a.filter fun x => !lt x.1 f).length ≤ m - out.length
 ·rw [Nat.min_eq_right h, Nat.sub_sub]
 ·rw [Nat.min_eq_left (by omega), show m - (out.length + (m - out.length)) = 0 by omega, show m - out.length - (a.filter fun x => !lt x.1 f).length = 0 by omega]
theorem takeR_full {m : Nat} {f : Bytes} {out es : Es} (h : m ≤ out.length) : takeR m f out es = out := by
 unfold takeR; rw [show m - out.length = 0 by omega]; simp
theorem takeR_nil (m : Nat) (f : Bytes) (out : Es) : takeR m f out [] = out := by simp [takeR]
theorem takeR_one {m : Nat} {f : Bytes} {out : Es} {x : Bytes × Bytes} (h : out.length < m) (hx : lt x.1 f = false) : takeR m f out [x] = out ++ [x] := by
 unfold takeR
 rw [List.filter_cons_of_pos (by simp [hx]), List.filter_nil, List.take_of_length_le (by simp; omega)]
theorem takeR_not {m : Nat} {f : Bytes} {out : Es} {es : Es} (h : ∀ x ∈ es, lt x.1 f = true) : takeR m f out es = out := by
 unfold takeR
 rw [List.filter_eq_nil_iff.2 (fun x hx => by simp [h x hx])]; simp
theorem takeR_len (m : Nat) (f : Bytes) (out es : Es) : (takeR m f out es).length ≤ out.length + es.length := by
 unfold takeR
 rw [List.length_append, List.length_take]
 have := List.length_filter_le (fun x : Bytes × Bytes => !lt x.1 f) es
 omega
theorem flatMap_take_succ {α β : Type} {L : List α} {f : α → List β} {i : Nat} {x : α} (h : L[i]? = some x) : (L.take (i + 1)).flatMap f = (L.take i).flatMap f ++ f x := by
 obtain ⟨hi, e⟩ := List.getElem?_eq_some_iff.1 h
 rw [List.take_succ_eq_append_getElem hi, e]; simp
theorem way_before {S : Int → Bytes → Option Bytes → List Int → Es → Prop} {lo : Bytes} {hi : Option Bytes} {c : Nat} {ps : List (Bytes × Nat)} {k : Bytes} {L : List (List Int × Es)} (hl : L.length = ps.length + 1) (hS : ∀ (i : Nat) b l, (bnds lo hi c ps)[i]? = some b → L[i]? = some l → S (b.1 : Int) b.2.1 b.2.2 l.1 l.2) (hb : ∀ x l u n e, S x l u n e → ∀ y ∈ e, inB l u y.1) :
  ∀ x ∈ (L.take (wayI (ps.map (·.1)) k)).flatMap (·.2), lt x.1 k = true := by
 intro x hx
 obtain ⟨l, fo, nV⟩ := List.mem_flatMap.1 hx
 obtain ⟨i, ab, e⟩ := List.mem_take_iff_getElem.1 fo
 have hw := wayI_le (ps.map (·.1)) k
 rw [List.length_map] at hw
 have Ku : i < wayI (ps.map (·.1)) k := by omega
 obtain ⟨a, lo', u, h1, -, -, h4⟩ := bnds_get hi ps lo c i (by omega)
 have cA := hb _ _ _ _ _ (hS i _ l h1 (by rw [List.getElem?_eq_getElem (by omega), e])) x nV
 rcases h4 with ⟨e', -⟩ | ⟨k', aD, am, rfl⟩
 ·omega
 ·have h5 := wayI_lo (l := ps.map (·.1)) (k := k) k' (List.mem_take_iff_getElem.2 ⟨i, by rw [List.length_map]; omega, (List.getElem?_eq_some_iff.1 am).2⟩); exact lt_le_trans (cA.2 k' rfl) h5
end Go.Proofs.YtocnhaoilnojmaaGreat
namespace Go.Proofs.YtocnhaoilnojmaaGreat
open Go Go.RowKit Go.Shelf
set_option linter.all false
set_option maxRecDepth 100000

/-! ### A builder of strings -/
theorem repX : Builder.Extra Tryz.prog repA_ren where
 sizeBuilder := by kernel_rfl
 liesBuilder := by kernel_rfl
 t5 := by kernel_rfl
 a5 := fun _ => by kernel_rfl
 z5 := fun _ => by kernel_rfl
 v5 := fun w => TI.zero (w := w) ti5
 infoByte := by kernel_rfl
 cellsByte := by kernel_rfl
 sizeByte := by kernel_rfl
 neB5 := by decide
def Bld (B b : Nat) (l : Bytes) (w : World) : Prop := Lib.IsBuilder 152 5 B b (Lib.byteCells l) w ∧ B ≤ w.heap.size
theorem bld_new {w : World} {b : Nat} (h : w.heap[b]? = some (.cells #[.pointer none, .slice none 0 0] 152 (0, 0))) (hb : b ≤ w.heap.size) : Bld b b [] w :=
 ⟨.inl ⟨Nat.le_refl _, .slice none 0 0, h, World.ownsRow_nil w b _ 1, by simp [Value.ownBlock]⟩, hb⟩
section
variable {w : World}
theorem bws_ret {B b : Nat} {l : Bytes} (h : Bld B b l w) (s : Bytes) (hl : l.length + s.length ≤ 140737488355328) :
  Ret Tryz.prog 110 [ptr b 0, S s] w fun v w' => Bld B b (l ++ s) w' ∧ Below B w w' := by
 have := Any.Builder_WriteString { repA with } repX B b (Lib.byteCells l) ⟨s.toArray⟩ w h.1 (by rw [Lib.byteCells_length, size_S]; exact hl) h.2
 refine Calls.mono this fun _ _ ⟨he, hw, hB⟩ => ⟨_, he, ⟨?_, by have := hB.size; have := h.2; omega⟩, hB⟩
 rw [Lib.byteCells_append]
 exact .inr hw
theorem blen_ret {B b : Nat} {l : Bytes} (h : Bld B b l w) : Ret Tryz.prog 112 [ptr b 0] w fun v w' => v = I (l.length : Int) ∧ w' = w := by
 have := Any.Builder_Len { repA with } B b (Lib.byteCells l) w h.1
 rw [Lib.byteCells_length] at this
 exact Calls.mono this fun _ _ ⟨he, hw⟩ => ⟨_, he, rfl, hw⟩
theorem bstr_ret {B b : Nat} {l : Bytes} (h : Bld B b l w) : Ret Tryz.prog 113 [ptr b 0] w fun v w' => v = S l ∧ Below B w w' :=
 Calls.mono (Any.Builder_String_any { repA with } repX B b l w h.1 h.2) fun _ _ ⟨he, hw⟩ => ⟨_, he, rfl, hw⟩
theorem brep_ret (c : UInt8) (n : Nat) (hn : n ≤ 1000000) : Ret Tryz.prog 111 [S [c], I (n : Int)] w fun v w' => v = S (List.replicate n c) ∧ Ext w w' := by
 have := Any.strings_Repeat repA repX ⟨[c].toArray⟩ n w (by omega) (by rw [size_S, List.length_singleton]; omega)
 have e : ∀ n, Lib.repeatL [c] n = List.replicate n c := fun n => by
  induction n with
  | zero => rfl
  | succ n ih => rw [Lib.repeatL, ih]; rfl
 refine Calls.mono this fun _ _ ⟨he, hw⟩ => ⟨_, he, ?_, Ext.of_below hw⟩
 show Value.string ⟨(Lib.repeatL [c] n).toArray⟩ = _
 rw [e]
end
theorem zstcP {P : Program} {e : Env} {ty t : TypeId} {d : Option Nat} {pos : String} {aft : Array Edge} {g : Option (Nat × Bool)} {x y : Operand} {w : World} {z v u : Value} {bytes : Nat} {a : Addr} (hs : TI P t z 1 bytes) (hx : look e x = some (.pointer (some a))) (hy : look e y = some v) (hv : oneV v = true) (hc : w.cell? a = some u) (hf : w.frozen? a = false) :
  Zp P e ⟨d, .store t x y, ty, pos, aft, g⟩ w fun w' => w' = w.setCell a v := ⟨_, zstc hs hx hy hv hc hf, rfl⟩
theorem palB {P : Program} {e : Env} {d : Option Nat} {ty t : TypeId} {pos : String} {aft : Array Edge} {g : Option (Nat × Bool)} {w : World} {z : Value} {n bytes : Nat} {cs : List Value} (hs : TI P t z n bytes) (hz : z.cells = cs.toArray) : Yp P e ⟨d, .alloc t, ty, pos, aft, g⟩ w fun v' w' => ∃ b, v' = ptr b 0 ∧ b = w.heap.size ∧ Ext w w' ∧ w'.heap[b]? = some (.cells cs.toArray t (0, 0)) :=
 ⟨_, _, fun ρ hρ => by simp [execOp, Instr.alloc, hs.zero, newVar, newRow, newObj, Sem.run, hz], w.heap.size, rfl, rfl, ext_alloc w _, heap_new w _⟩
theorem yslArrF {P : Program} {e : Env} {d : Option Nat} {ty t : TypeId} {pos : String} {aft : Array Edge} {g : Option (Nat × Bool)} {x y : Operand} {w : World} {k : IntKind} {za : Int} {m : Nat} [ha : NatC za m] {n : Nat} {z : Value} {size bytes b i : Nat} {el : TypeId} (ht : P.underlying t = some (.array n el)) (he : TI P el z size bytes) (hx : look e x = some (ptr b i)) (hy : look e y = some (.int k za)) (hm : m < n) :
  Y P e ⟨d, .slice t x (some y) none none, ty, pos, aft, g⟩ (.slice (some ⟨b, i + m * size, none⟩) (n - m) (n - m)) w w := fun ρ hρ => by
 obtain ⟨rfl⟩ := ha
 have hs := he.size (w := w)
 have h2 : ∀ w, (Instr.sliceBound (.int k (m : Int)) n .sliceB).run P w = .ok m w := fun w => by rw [run_sliceBound _ _ _ _ _ (by omega) (by omega)]; simp
 have aZ : ¬ n = m := by omega
 simp [execOp, hρ _ _ hx, hρ _ _ hy, Instr.sliceAt, run_underlying ht, Instr.sureAddr, Instr.sliceBounds, h2, hs, add_off, aZ]
theorem kp_of_below {B : Nat} {w w' : World} (h : Below B w w') : Kp (fun k => B ≤ k) w w' := ⟨h.os, h.tape, h.output, h.size, fun k hk hn => h.block k (by omega)⟩
theorem Bld.lt {B b : Nat} {l : Bytes} {w : World} (h : Bld B b l w) : b < w.heap.size := by
 rcases h.1 with ⟨-, v, hb, -⟩ | ⟨-, v, hb, -⟩ <;>
 ·rcases Nat.lt_or_ge b w.heap.size with h' | h'
  ·exact h'
  ·rw [Array.getElem?_eq_none h'] at hb; cases hb
theorem own_ext {w w' : World} {B : Nat} {e n size : Nat} {v : Value} {xs : List Value} (h : w.ownsRow B e size v n xs) (k : Ext w w') : w'.ownsRow B e size v n xs :=
 ⟨h.1, h.2.imp id fun ⟨g, cap, cur, a, b, c, d⟩ => ⟨g, cap, cur, a, b, k.heap c id, d⟩⟩
theorem Bld.ext {B b : Nat} {l : Bytes} {w w' : World} (h : Bld B b l w) (k : Ext w w') : Bld B b l w' := by
 have := k.size
 refine ⟨?_, by have := h.2; omega⟩
 rcases h.1 with ⟨h1, v, h2, h3, h4⟩ | ⟨h1, v, h2, h3, h4⟩
 ·exact .inl ⟨h1, v, k.heap h2 id, own_ext h3 k, h4⟩
 ·exact .inr ⟨h1, v, k.heap h2 id, own_ext h3 k, h4⟩
theorem below_of_kp {S : Nat → Prop} {w w' : World} {B : Nat} (h : Kp S w w') (hB : B ≤ w.heap.size) (hs : ∀ k, S k → B ≤ k) : Below B w w' := ⟨h.os, h.tape, h.output, h.size, fun k hk => h.block k (by omega) (fun e => by have := hs k e; omega)⟩
theorem bcc_ret {w : World} {B b : Nat} {l : Bytes} (h : Bld B b l w) : Ret Tryz.prog 135 [ptr b 0] w fun v w' => v = .tuple #[] ∧ Lib.BuilderAt 152 5 B b (ptr b 0) (Lib.byteCells l) w' ∧ Kp (fun k => k = b) w w' := by
 rcases h.1 with h | h
 ·exact Calls.mono (Any.Builder_copyCheck_fresh { repA with } repX.toX72 b w h.cell0 h.shape h.frozen0) fun _ _ ⟨he, hw⟩ => ⟨_, he, rfl, by rw [hw]; exact h.used _, by rw [hw]; exact kp_setCell w b 0 _⟩
 ·exact Calls.mono (Any.Builder_copyCheck_used { repA with } repX.toX72 b w h.cell0) fun _ _ ⟨he, hw⟩ => ⟨_, he, rfl, by rw [hw]; exact h, by rw [hw]; exact Kp.refl _ _⟩
theorem rebase {w : World} {B B' : Nat} {e n size : Nat} {v : Value} {xs : List Value} (h : w.ownsRow B e size v n xs) (hb : ∀ g, v.ownBlock = some g → B' ≤ g) : w.ownsRow B' e size v n xs :=
 ⟨h.1, h.2.imp id fun ⟨g, cap, cur, a, _, c⟩ => ⟨g, cap, cur, a, hb g (by rw [a]; rfl), c⟩⟩
set_option maxHeartbeats 1000000 in
theorem bwr_ret {w : World} {B b m : Nat} {l s : Bytes} {sv : Value} (h : Bld B b l w) (hs : Rd w sv 1 m (s.map u8v)) (Ie : ∀ g, sv.ownBlock = some g → g ≠ b) (hl : l.length + m ≤ 1000000000) :
  Ret Tryz.prog 109 [ptr b 0, sv] w fun v w' => Bld B b (l ++ s) w' ∧ Below B w w' := by
 obtain ⟨sa, sc, rfl, -⟩ := hs.shape
 have If := h.2
 have xf : s.length = m := by have := hs.len; simpa using this
 refine ret_of_run (e := [(0, _), (1, _)]) Tryz.func109 rfl Tryz.ntmps109 rfl rfl (qN rfl (zqa rfl (zqa rfl (qM rfl (zqm rfl (zqc [.tmp 6] cf135 rfl (bcc_ret h) ?_))))))
 rintro _ w1 ⟨rfl, ⟨iF, v, sP, bM, aZ⟩, aD⟩
 have eI := aD.size
 have gY := hs.kp aD (fun g hg => Ie g hg)
 have ai : Blk w1 b [ptr b 0, v] 152 := ⟨(0, 0), sP, fun i _ => by omega⟩
 have dC : Sl w1 v 5 1 l.length (Lib.byteCells l) := by
  have := rebase (B' := 0) bM (fun _ _ => Nat.zero_le _); rw [Lib.byteCells_length] at this; exact this
 have D9 : ∀ g, v.ownBlock = some g → B ≤ g := fun g hg => (bM.lt g hg).1
 refine qM rfl (zqm rfl (zqm rfl (qV (ynk rfl) (qV (yfa fl152_1 rfl) (qV (yld U123 rfl rfl ai rfl) (zqm rfl ?_))))))
 have dL : maxLen = 9223372036854775807 := rfl
 refine rValP rfl rfl (pap U123 ti5 rfl (by decide) rfl rfl dC gY (by intro c hc; obtain ⟨x, -, rfl⟩ := List.mem_map.1 hc; rfl) (by omega) (by omega)) ?_
 rintro v2 w2 ⟨bB, am, fT, -⟩
 have eQ := am.size
 have cQ := am.heap sP (fun e => aZ e)
 refine qV (ynk rfl) (qV (yfa fl152_1 rfl) (rEffP rfl (zstcP ti123 rfl rfl (oneV_sl bB) (a := ⟨b, 1, none⟩) (by rw [Lib.cell_of_heap cQ]; rfl) (Lib.frozen_of_heap cQ 1)) ?_))
 rintro w3 rfl
 refine qM rfl (zqm rfl (qV (yln U123 rfl) (zqa rfl (zqa rfl (rEnd (run_ret Tryz.func109 rfl ?_))))))
 have Da : ∀ g, v2.ownBlock = some g → B ≤ g := fun g hg => (fT g hg).elim (D9 g) (fun e => by omega)
 have Db : w2.ownsRow B 5 1 v2 (Lib.byteCells (l ++ s)).length (Lib.byteCells (l ++ s)) := by
  rw [Lib.byteCells_length, List.length_append, xf, Lib.byteCells_append]; exact rebase bB Da
 have fU := Lib.BuilderAt.put (v' := v2) iF cQ Db (by decide)
 have aw := kp_setCell w2 b 1 v2
 refine ⟨_, rfl, ⟨.inr fU, ?_⟩, ?_⟩
 ·have := aw.size; omega
 ·refine below_of_kp (S := fun k => B ≤ k) (((aD.mono' (fun k e => by rw [e]; exact iF)).trans (am.mono' (fun k e => D9 k e))).trans (aw.mono' (fun k e => by rw [e]; exact iF))) If (fun _ h => h)
/-! ### Encode -/
theorem put_ret {w : World} {B b : Nat} {l : Bytes} (h : Bld B b l w) (v k : Nat) (hk : 1 ≤ k ∧ k ≤ 4) (hv : v < 4294967296) (hl : l.length ≤ 900000000) :
  Ret Tryz.prog 108 [I (v : Int), I (k : Int), ptr b 0] w fun _ w' => Bld B b (l ++ beN v k) w' ∧ Below B w w' := by
 have hB := h.2
 have rO := h.lt
 refine ret_of_run (e := [(0, _), (1, _), (2, _)]) Tryz.func108 rfl Tryz.ntmps108 rfl rfl (qN rfl (zqm rfl (qV (ysrN 24 16777216 rfl rfl (by decide) rfl) (qV (ycv8 rfl U3 U5) (zqm rfl (qV (ysrN 16 65536 rfl rfl (by decide) rfl) (qV (ycv8 rfl U3 U5) (zqm rfl (qV (ysrN 8 256 rfl rfl (by decide) rfl) (qV (ycv8 rfl U3 U5) (zqm rfl (qV (ycv8 rfl U3 U5) (qV (ybdA (parts := [(0, .tmp 8), (1, .tmp 11), (2, .tmp 14), (3, .tmp 16)]) (cs := [_, _, _, _]) ti153 rfl U153 ti5 rfl rfl) ?_)))))))))))))
 refine rValP rfl rfl (pal (cs := [_, _, _, _]) ti153 rfl) ?_
 rintro _ w1 ⟨b5, rfl, rD, aa, ai⟩
 refine rEffP rfl (zstA ti153 rfl rfl rfl rfl ai (by simp)) ?_
 rintro w2 ⟨ak, am⟩
 have ae : Ext w w2 := aa.trans_new am (fun i hi => by omega)
 have Ig : (beN v 4).map u8v = [Value.int .u8 ((v / 16777216 % 256 : Nat) : Int), Value.int .u8 ((v / 65536 % 256 : Nat) : Int), Value.int .u8 ((v / 256 % 256 : Nat) : Int), Value.int .u8 ((v % 256 : Nat) : Int)] := by
  simp [beN, u8v]
 have Dc : Blk w2 b5 ((beN v 4).map u8v) 153 := by
  rw [Ig]; exact ak
 refine rEnd (run_reg rfl (zqm rfl (qV (ysb rfl rfl (by omega)) ?_)))
 rw [show ((4 : Int) - (k : Int)) = ((4 - k : Nat) : Int) by omega]
 refine qV (yslArrF U153 ti5 rfl rfl (by omega)) ?_
 have BJ : Rd w2 (.slice (some ⟨b5, 0 + (4 - k) * 1, none⟩) (4 - (4 - k)) (4 - (4 - k))) 1 (4 - (4 - k)) ((beN v k).map u8v) := by
  have e4 : 4 - (4 - k) = k := by omega
  refine ⟨by simp; omega, .inr ⟨b5, _, _, rfl, fun j u hj => ?_⟩⟩; rw [Dc.cell]
  have hd : (beN v 4).drop (4 - k) = beN v k := by
   have : k = 0 ∨ k = 1 ∨ k = 2 ∨ k = 3 ∨ k = 4 := by omega
   rcases this with rfl | rfl | rfl | rfl | rfl <;> rfl
  rw [← hd, List.map_drop, List.getElem?_drop] at hj; rw [show 0 + (4 - k) * 1 + j = 4 - k + j by omega]; exact hj
 refine zqc [.tmp 2, .tmp 20] cf109 rfl (bwr_ret (h.ext ae) BJ (fun g hg e => by have e' : b5 = g := oinj hg; omega) (by omega)) ?_
 rintro _ w3 ⟨s3, jZ⟩
 refine rEnd (run_end Tryz.func108 rfl ?_)
 exact ⟨_, rfl, s3, ⟨jZ.os.trans ae.os, jZ.tape.trans ae.tape, jZ.output.trans ae.output, Nat.le_trans ae.size jZ.size, fun i hi => (jZ.block i hi).trans (ae.block i (by omega) id)⟩⟩
theorem rd_getuN {w : World} {a : Option Addr} {cap n : Nat} {l : List Nat} {i : Nat} (h : Rd w (.slice a n cap) 1 n (l.map u32v)) (hn : n = l.length) (hi : i < n) : ∃ b off s, a = some ⟨b, off, none⟩ ∧ l[i]? = some s := by
 subst hn; exact rd_getu h hi
theorem rd_getsM {w : World} {a : Option Addr} {cap n : Nat} {l : List Bytes} {i : Nat} (h : Rd w (.slice a n cap) 1 n (l.map S)) (hn : n = l.length) (hi : i < n) : ∃ b off s, a = some ⟨b, off, none⟩ ∧ l[i]? = some s := by
 subst hn; exact rd_gets h hi
theorem bodyL_snoc {es : Es} {i : Nat} {x : Bytes × Bytes} (h : es[i]? = some x) : bodyL (es.take (i + 1)) = bodyL (es.take i) ++ (beN x.1.length 1 ++ (beN x.2.length 2 ++ (x.1 ++ x.2))) := by
 unfold bodyL
 rw [flatMap_take_succ h]; rfl
theorem bodyI_snoc {ps : List (Bytes × Nat)} {i : Nat} {x : Bytes × Nat} (h : ps[i]? = some x) : bodyI (ps.take (i + 1)) = bodyI (ps.take i) ++ (beN x.1.length 1 ++ (x.1 ++ beN x.2 4)) := by
 unfold bodyI
 rw [flatMap_take_succ h]; rfl
theorem bodyL_take_le (es : Es) (i : Nat) : (bodyL (es.take i)).length ≤ (bodyL es).length := by
 rw [bodyL_length, bodyL_length]
 conv => rhs; rw [← List.take_append_drop i es, entB_app]
 omega
theorem bodyI_take_le (ps : List (Bytes × Nat)) (i : Nat) : (bodyI (ps.take i)).length ≤ (bodyI ps).length := by
 conv => rhs; rw [← List.take_append_drop i ps]
 unfold bodyI
 rw [List.flatMap_append, List.length_append]
 omega
set_option maxHeartbeats 2000000 in
theorem encode_ret {n : Nd} {kv vv cv : Value} {w : World} (hR : NdR w n kv vv cv) (hb : n.Bd) {z : Nat} (hz : sizeOk (z : Int)) :
  Ret Tryz.prog 83 [ndv n kv vv cv, I (z : Int)] w fun v w' => Ext w w' ∧ ((NdOk z n ∧ v = .tuple #[S (enc z n), I 0]) ∨ (¬ NdOk z n ∧ v = .tuple #[S [], I 1])) := by
 obtain ⟨z1, z2, -⟩ := id hz
 refine ret_of_run (e := [(0, _), (1, _)]) Tryz.func83 rfl Tryz.ntmps83 rfl rfl (qN rfl (rValP rfl rfl (pbx rfl (cs := [.bool n.leaf, kv, vv, cv]) rfl) ?_))
 rintro _ w1 ⟨b, rfl, dr, aa, ai⟩
 refine zqa rfl (zqa rfl (rEnd (run_seq (qN rfl (qV (yldA U84 rfl ti84 rfl (Blk.cells (n := 4) ai (news := [_, _, _, _]) rfl) rfl) (zqm rfl (zqc [.tmp 12, .tmp 13] cf107 rfl (check_ret (hR.ext aa) hb hz) ?_)))))))
 rintro _ w2 ⟨rfl, ae⟩
 have ay := aa.trans ae
 have ak := ae.blk ai
 have kY := hR.ext ay
 by_cases aQ : NdOk z n
 ·rw [if_pos aQ]; refine zqa rfl (qM rfl (zqm rfl (qV (yne rfl rfl) (rEnd (run_if rfl (fun h0 => ?_) (fun h0 => ?_))))))
  ·exact absurd rfl h0
  ·refine run_skip (qN rfl (rValP rfl rfl (palB (cs := [_, _]) ti152 rfl) ?_)); rintro _ w3 ⟨bb, rfl, qU, ah, sP⟩; have s3 : Bld bb bb [] w3 := bld_new sP (by have := ah.size; omega); have bA : ∀ {a c : World}, Ext w2 a → Below bb a c → Ext w2 c := fun h k => h.trans_new (kp_of_below k) (fun i hi => by omega); have aG := ah.blk ak; have yO : NdZ z n := ⟨aQ, hb.cs⟩; rcases nd_cases aQ with ⟨es, rfl⟩ | ⟨c, ps, rfl⟩
   ·obtain ⟨n1, n2⟩ := ndz_leaf hz yO; have ic := rawN_length aQ; rw [rawN_leaf] at ic; have fI := aQ.2.1; have rO : (bodyL es).length + 3 ≤ 4096 := by simp at ic; omega
    have hK := kY.keys; have hV := kY.vals; rw [show (leafNd es).keys.length = es.length by simp [leafNd]] at hK; rw [show (leafNd es).vals.length = es.length by simp [leafNd]] at hV; obtain ⟨ka, kc, rfl, -⟩ := hK.shape; obtain ⟨va, vc, rfl, -⟩ := hV.shape; refine qM rfl (qV (ymf (first := []) (caps := [.tmp 7]) rfl rfl) (zqa rfl (qM rfl (zqa rfl (rEnd (run_seq (qN rfl (qV (yfa fl84_0 rfl) (qV (yld U4 rfl rfl aG rfl) (rEnd (run_true rfl (run_reg rfl (zqa rfl ?_))))))))))))); refine qM rfl (zqm rfl (zqm rfl (rCall rfl rfl (ycv' (args := [.tmp 22, .const (Value.int .i64 1)]) cf108 rfl rfl) (put_ret s3 1 1 (by omega) (by omega) (by simp)) ?_))); rintro _ w4 ⟨vj, pf⟩; have aC := bA ah pf; have aW := aC.blk ak; refine qM rfl (zqm rfl (qV (yfa fl84_1 rfl) (qV (yld U23 rfl rfl aW rfl) (qV (yln U23 rfl) (rCall rfl rfl (ycv' (args := [.tmp 27, .const (Value.int .i64 2)]) cf108 rfl rfl) (put_ret vj es.length 2 (by omega) (by omega) (by simp)) ?_))))); rintro _ w5 ⟨vk, ph⟩; have aJ := bA aC ph; have bx := aJ.blk ak; refine rEnd (Run.qb (e := [(1, _), (2, _), (4, _), (5, _), (7, _), (8, _)]) ?_); refine run_seq (qN rfl (qV (yfa fl84_0 rfl) (qV (yld U4 rfl rfl bx rfl) (qV ((by first | exact yntd rfl | exact ynt rfl)) ?_)))); refine rEnd (run_false rfl (run_skip (run_seq (qN rfl (qV (yfa fl84_1 rfl) (qV (yld U23 rfl rfl bx rfl) (qV (yln U23 rfl) (zqm rfl (rEnd (run_block (zqu (α := Nat) (0) (fun i => [(1, I (z : Int)), (2, ptr b 0), (7, ptr bb 0), (8, .func (.func 108) #[] #[ptr bb 0]), (40, .slice ka es.length kc), (41, I (es.length : Int)), (42, I (i : Int))]) (fun i w' => i ≤ es.length ∧ Ext w2 w' ∧ Bld bb bb (1 :: (beN es.length 2 ++ bodyL (es.take i))) w') (fun i => es.length - i) ?hI ?hround)))))))))))
    case hI => exact ⟨Nat.zero_le _, aJ, by simpa [bodyL, beN] using vk⟩
    case hround =>
     rintro i wi ⟨hi, bC, jd⟩ ih; have eZ := bC.blk ak; have mV := hK.ext bC; have yP := hV.ext bC; have nX := bodyL_take_le es i
     try dsimp only
     refine qN rfl (qV (ylt rfl rfl) (rEnd (run_seq (run_if rfl (fun af => ?_) (fun af => ?_)))))
     ·have ab : i < es.length := by omega
      obtain ⟨x, hx⟩ : ∃ x, es[i]? = some x := ⟨_, List.getElem?_eq_getElem ab⟩; obtain ⟨lb, lo, s, rfl, bG⟩ := rd_getsM mV (by simp [leafNd]) ab; obtain ⟨lb2, lo2, s2, rfl, cB⟩ := rd_getsM yP (by simp [leafNd]) ab; have e1 : s = x.1 := by simp [leafNd, hx] at bG; exact bG.symm
      have e2 : s2 = x.2 := by simp [leafNd, hx] at cB; exact cB.symm
      have nV := n2 x (List.mem_of_getElem? hx); refine run_skip (run_seq (run_block (qN rfl (zqm rfl (qV (yis U23 ti9 rfl rfl (by omega)) (qV (yldc U9 rfl rfl (rd_str mV ab bG)) ?_)))))); rw [e1]; refine zqa rfl (zqa rfl (qM rfl (zqm rfl (zqm rfl (qV (ylnS U9 rfl) (rCall rfl rfl (ycv' (args := [.tmp 49, .const (Value.int .i64 1)]) cf108 rfl rfl) (put_ret jd x.1.length 1 (by omega) (by omega) (by simp; omega)) ?_)))))); rintro _ w6 ⟨s4, pi⟩; have aO := bA bC pi; have bD := aO.blk ak; refine rEnd (run_seq (qN rfl (qV (yfa fl84_0 rfl) (qV (yld U4 rfl rfl bD rfl) (rEnd (run_true rfl (qN rfl (zqm rfl (qV (yfa fl84_2 rfl) (qV (yld U23 rfl rfl bD rfl) (zqm rfl (qV (yis U23 ti9 rfl rfl (by omega)) (qV (yldc U9 rfl rfl (rd_str (hV.ext aO) ab cB)) ?_))))))))))))); rw [e2]; refine qV (ylnS U9 rfl) (rCall rfl rfl (ycv' (args := [.tmp 59, .const (Value.int .i64 2)]) cf108 rfl rfl) (put_ret s4 x.2.length 2 (by omega) (by omega) (by simp; omega)) ?_); rintro _ w7 ⟨pj, pm⟩; have aF := bA aO pm; have dH := aF.blk ak; refine qM rfl (zqm rfl (qV (yfa fl84_2 rfl) (qV (yld U23 rfl rfl dH rfl) (zqm rfl (qV (yis U23 ti9 rfl rfl (by omega)) (qV (yldc U9 rfl rfl (rd_str (hV.ext aF) ab cB)) ?_)))))); rw [e2]; refine qV (ycatS rfl rfl (by first | omega | (simp; done) | (simp; omega))) ?_; refine zqc [.tmp 7, .tmp 67] cf110 rfl (bws_ret pj (x.1 ++ x.2) (by simp; omega)) ?_; rintro _ w8 ⟨vm, po⟩; have au := bA aF po; refine rEnd (run_exit rfl (run_reg rfl (zqd rfl rfl (zqm rfl (rEnd ((ih (i + 1) w8 ⟨by omega, au, ?_⟩ (by omega)).qb)))))); rw [bodyL_snoc hx]
      simpa using vm
     ·have e : i = es.length := by omega
      subst e; rw [List.take_length] at jd; refine run_exit rfl (qN rfl (zqm rfl (zqc [.tmp 7] cf112 rfl (blen_ret jd) ?_))); rintro _ _ ⟨rfl, rfl⟩; have aP : (1 :: (beN es.length 2 ++ bodyL es)).length ≤ z := by rw [ic]; exact fI
      refine qV (ysb rfl rfl (by omega)) ?_; rw [show ((z : Int) - ((1 :: (beN es.length 2 ++ bodyL es)).length : Int)) = ((z - (1 :: (beN es.length 2 ++ bodyL es)).length : Nat) : Int) by omega]; refine rCall rfl rfl (yc (args := [.const (Value.string (⟨#[0]⟩)), .tmp 83]) cf111 rfl) (brep_ret 0 _ (by omega)) ?_; rintro _ w9 ⟨rfl, fM⟩; refine zqc [.tmp 7, .tmp 84] cf110 rfl (bws_ret (jd.ext fM) _ (by simp; omega)) ?_; rintro _ w10 ⟨pq, lA⟩; refine qM rfl (zqc [.tmp 7] cf113 rfl (bstr_ret pq) ?_); rintro _ w11 ⟨rfl, lB⟩; refine zqa rfl (zqa rfl (rEnd (run_ret Tryz.func83 rfl (⟨_, rfl, ay.trans (bA (bA (bC.trans fM) lA) lB), .inl ⟨aQ, ?_⟩⟩)))); simp only [resVal, enc, rawN_leaf]
   ·obtain ⟨n1, nc, n2⟩ := ndz_inn hz yO; have ic := rawN_length aQ; rw [rawN_inn] at ic; have fI := aQ.2.1; have rO : (bodyI ps).length + 7 ≤ 4096 := by simp at ic; omega
    have hK := kY.keys; have hC := kY.kids; rw [show (innNd c ps).keys.length = ps.length by simp [innNd]] at hK; rw [show (innNd c ps).kids.length = ps.length + 1 by simp [innNd]] at hC; obtain ⟨ka, kc, rfl, -⟩ := hK.shape; obtain ⟨ca, cc, rfl, -⟩ := hC.shape; obtain ⟨cb, co, c0, rfl, gw⟩ := rd_getuN hC (by simp [innNd]) (show 0 < ps.length + 1 by omega); have ec0 : c0 = c := by simp [innNd] at gw; exact gw.symm
    subst ec0; refine qM rfl (qV (ymf (first := []) (caps := [.tmp 7]) rfl rfl) (zqa rfl (qM rfl (zqa rfl (rEnd (run_seq (qN rfl (qV (yfa fl84_0 rfl) (qV (yld U4 rfl rfl aG rfl) (rEnd (run_false rfl (run_skip (qN rfl ?_))))))))))))); refine zqm rfl (zqm rfl (rCall rfl rfl (ycv' (args := [.tmp 22, .const (Value.int .i64 1)]) cf108 rfl rfl) (put_ret s3 2 1 (by omega) (by omega) (by simp)) ?_)); rintro _ w4 ⟨vj, pf⟩; have aC := bA ah pf; have aW := aC.blk ak; refine qM rfl (zqm rfl (qV (yfa fl84_1 rfl) (qV (yld U23 rfl rfl aW rfl) (qV (yln U23 rfl) (rCall rfl rfl (ycv' (args := [.tmp 27, .const (Value.int .i64 2)]) cf108 rfl rfl) (put_ret vj ps.length 2 (by omega) (by omega) (by simp)) ?_))))); rintro _ w5 ⟨vk, ph⟩; have aJ := bA aC ph; have bx := aJ.blk ak; refine rEnd (Run.qb (e := [(1, _), (2, _), (4, _), (5, _), (7, _), (8, _)]) ?_); refine run_seq (qN rfl (qV (yfa fl84_0 rfl) (qV (yld U4 rfl rfl bx rfl) (qV ((by first | exact yntd rfl | exact ynt rfl)) ?_)))); refine rEnd (run_true rfl (run_reg rfl (zqm rfl (qV (yfa fl84_3 rfl) (qV (yld U82 rfl rfl bx rfl) (qV (yis U82 ti89 rfl rfl (by omega)) (qV (yldc U89 rfl rfl (rd_u32 (hC.ext aJ) (by omega) gw)) (qV (ycvSi64 rfl U89 U3 (by omega)) (rCall rfl rfl (ycv' (args := [.tmp 37, .const (Value.int .i64 4)]) cf108 rfl rfl) (put_ret vk c0 4 (by omega) (by omega) (by simp)) ?_))))))))); rintro _ w5' ⟨yQ, vn⟩; have yR := bA aJ vn; have ft := yR.blk ak; refine rEnd (run_seq (qN rfl (qV (yfa fl84_1 rfl) (qV (yld U23 rfl rfl ft rfl) (qV (yln U23 rfl) (zqm rfl (rEnd (run_block (zqu (α := Nat) (0) (fun i => [(1, I (z : Int)), (2, ptr b 0), (7, ptr bb 0), (8, .func (.func 108) #[] #[ptr bb 0]), (40, .slice ka ps.length kc), (41, I (ps.length : Int)), (42, I (i : Int))]) (fun i w' => i ≤ ps.length ∧ Ext w2 w' ∧ Bld bb bb (2 :: (beN ps.length 2 ++ (beN c0 4 ++ bodyI (ps.take i)))) w') (fun i => ps.length - i) ?hI ?hround)))))))))
    case hI => exact ⟨Nat.zero_le _, yR, by simpa [bodyI, beN] using yQ⟩
    case hround =>
     rintro i wi ⟨hi, bC, jd⟩ ih; have eZ := bC.blk ak; have mV := hK.ext bC; have nX := bodyI_take_le ps i
     try dsimp only
     refine qN rfl (qV (ylt rfl rfl) (rEnd (run_seq (run_if rfl (fun af => ?_) (fun af => ?_)))))
     ·have ab : i < ps.length := by omega
      obtain ⟨x, hx⟩ : ∃ x, ps[i]? = some x := ⟨_, List.getElem?_eq_getElem ab⟩; obtain ⟨lb, lo, s, rfl, bG⟩ := rd_getsM mV (by simp [innNd]) ab; have e1 : s = x.1 := by simp [innNd, hx] at bG; exact bG.symm
      have cB : (innNd c0 ps).kids[i + 1]? = some x.2 := by simp [innNd, hx]
      have nV := n2 x (List.mem_of_getElem? hx); refine run_skip (run_seq (run_block (qN rfl (zqm rfl (qV (yis U23 ti9 rfl rfl (by omega)) (qV (yldc U9 rfl rfl (rd_str mV ab bG)) ?_)))))); rw [e1]; refine zqa rfl (zqa rfl (qM rfl (zqm rfl (zqm rfl (qV (ylnS U9 rfl) (rCall rfl rfl (ycv' (args := [.tmp 49, .const (Value.int .i64 1)]) cf108 rfl rfl) (put_ret jd x.1.length 1 (by omega) (by omega) (by simp; omega)) ?_)))))); rintro _ w6 ⟨s4, pi⟩; have aO := bA bC pi; have bD := aO.blk ak; refine rEnd (run_seq (qN rfl (qV (yfa fl84_0 rfl) (qV (yld U4 rfl rfl bD rfl) (rEnd (run_false rfl (run_skip (qN rfl (zqm rfl (zqc [.tmp 7, .tmp 69] cf110 rfl (bws_ret s4 x.1 (by simp; omega)) ?_)))))))))); rintro _ w7 ⟨pj, pm⟩; have aF := bA aO pm; have dH := aF.blk ak; refine rEnd (run_reg rfl (zqm rfl (qV (yfa fl84_3 rfl) (qV (yld U82 rfl rfl dH rfl) (zqm rfl (zqd rfl rfl (qV (yis U82 ti89 rfl rfl (show i + 1 < ps.length + 1 by omega)) ?_))))))); refine qV (yldc U89 rfl rfl (rd_u32 (hC.ext aF) (by omega) cB)) (qV (ycvSi64 rfl U89 U3 (by omega)) (rCall rfl rfl (ycv' (args := [.tmp 78, .const (Value.int .i64 4)]) cf108 rfl rfl) (put_ret pj x.2 4 (by omega) (by omega) (by simp; omega)) ?_)); rintro _ w8 ⟨vm, po⟩; have au := bA aF po; refine rEnd (run_inBlock (run_reg rfl (zqd rfl rfl (zqm rfl (rEnd ((ih (i + 1) w8 ⟨by omega, au, ?_⟩ (by omega)).qb)))))); rw [bodyI_snoc hx]
      simpa using vm
     ·have e : i = ps.length := by omega
      subst e; rw [List.take_length] at jd; refine run_exit rfl (qN rfl (zqm rfl (zqc [.tmp 7] cf112 rfl (blen_ret jd) ?_))); rintro _ _ ⟨rfl, rfl⟩; have aP : (2 :: (beN ps.length 2 ++ (beN c0 4 ++ bodyI ps))).length ≤ z := by rw [ic]; exact fI
      refine qV (ysb rfl rfl (by omega)) ?_; rw [show ((z : Int) - ((2 :: (beN ps.length 2 ++ (beN c0 4 ++ bodyI ps))).length : Int)) = ((z - (2 :: (beN ps.length 2 ++ (beN c0 4 ++ bodyI ps))).length : Nat) : Int) by omega]; refine rCall rfl rfl (yc (args := [.const (Value.string (⟨#[0]⟩)), .tmp 83]) cf111 rfl) (brep_ret 0 _ (by omega)) ?_; rintro _ w9 ⟨rfl, fM⟩; refine zqc [.tmp 7, .tmp 84] cf110 rfl (bws_ret (jd.ext fM) _ (by simp; omega)) ?_; rintro _ w10 ⟨pq, lA⟩; refine qM rfl (zqc [.tmp 7] cf113 rfl (bstr_ret pq) ?_); rintro _ w11 ⟨rfl, lB⟩; refine zqa rfl (zqa rfl (rEnd (run_ret Tryz.func83 rfl (⟨_, rfl, ay.trans (bA (bA (bC.trans fM) lA) lB), .inl ⟨aQ, ?_⟩⟩)))); simp only [resVal, enc, rawN_inn]
 ·rw [if_neg aQ]; refine zqa rfl (qM rfl (zqm rfl (qV (yne rfl rfl) (rEnd (run_if rfl (fun h0 => ?_) (fun h0 => ?_))))))
  ·refine qN rfl (zqm rfl (zqa rfl (zqa rfl (rEnd (run_ret Tryz.func83 rfl ?_))))); exact ⟨_, rfl, ay, .inr ⟨aQ, rfl⟩⟩
  ·exact absurd (by decide) h0
end Go.Proofs.YtocnhaoilnojmaaGreat
namespace Go.Proofs.YtocnhaoilnojmaaGreat
open Go Go.RowKit
set_option linter.all false
set_option maxRecDepth 100000
section
variable {w : World}
theorem rsize_ret (z : Int) (w : World) : Ret Tryz.prog 23 [I z] w fun v w' => v = I (if sizeOk z then 0 else 1) ∧ w' = w := by
 refine ret_of_run (e := [(0, _)]) Tryz.func23 rfl Tryz.ntmps23 rfl rfl (qN rfl (zqa rfl (rEnd (run_seq (qN rfl (zqm rfl (qV (ylt rfl rfl) (rVal_if (fun h1 => ?_) (fun h1 => ?_)))))))))
 ·refine zqm rfl (qS (qS (qV (ypT rfl rfl) (zqm rfl (qS (qS (qS (qV (ypT rfl rfl) (rEnd (run_true rfl (qN rfl (zqa rfl (rEnd ?_))))))))))))); refine run_ret Tryz.func23 rfl ?_; exact ⟨_, rfl, by rw [if_neg (fun h => by unfold sizeOk at h; omega)]; rfl, rfl⟩
 ·refine zqm rfl (zqm rfl (qV (ygt rfl rfl) (rVal_if (fun h2 => ?_) (fun h2 => ?_))))
  ·refine qV (ypF rfl rfl) (zqm rfl (qS (qS (qS (qV (ypT rfl rfl) (rEnd (run_true rfl (qN rfl (zqa rfl (rEnd (run_ret Tryz.func23 rfl ?_))))))))))); exact ⟨_, rfl, by rw [if_neg (fun h => by unfold sizeOk at h; omega)]; rfl, rfl⟩
  ·refine qV (ypF rfl rfl) (zqm rfl (zqm rfl (qV (yre rfl rfl (by omega)) (qV (yne rfl rfl) (qV (ypF rfl rfl) (rEnd (run_if rfl (fun h3 => ?_) (fun h3 => ?_))))))))
   ·refine qN rfl (zqa rfl (rEnd (run_ret Tryz.func23 rfl ?_))); exact ⟨_, rfl, by rw [if_neg (fun h => by unfold sizeOk at h; omega)]; rfl, rfl⟩
   ·refine run_skip (qN rfl (zqa rfl (rEnd (run_ret Tryz.func23 rfl ?_)))); exact ⟨_, rfl, by rw [if_pos (by unfold sizeOk; omega)]; rfl, rfl⟩
theorem rmost_ret (z : Int) (w : World) : Ret Tryz.prog 65 [I z] w fun v w' => v = .tuple #[I (if sizeOk z then ((mostE z.toNat : Nat) : Int) else 0), I (if sizeOk z then 0 else 1)] ∧ w' = w := by
 refine ret_of_run (e := [(0, _)]) Tryz.func65 rfl Tryz.ntmps65 rfl rfl (qN rfl (zqa rfl (zqa rfl (rEnd (run_seq (qN rfl (zqm rfl (zqc [.tmp 4] cf23 rfl (rsize_ret z _) ?_))))))))
 rintro _ w ⟨rfl, rfl⟩
 by_cases h : sizeOk z
 ·rw [if_pos h, if_pos h]; unfold sizeOk at h; refine qV (yne rfl rfl) (rFalse (by (first | exact fun h => h rfl | assumption | omega)) ?_); refine rEnd (run_false rfl (run_skip (qN rfl (zqm rfl (qV (ysb rfl rfl (by omega)) (qV (yqu rfl rfl (by omega)) (zqa rfl (zqa rfl (rEnd (run_ret Tryz.func65 rfl (⟨_, rfl, ?_, rfl⟩))))))))))); have : (z - 3) / 4 = (((z.toNat - 3) / 4 : Nat) : Int) := by omega
  rw [this]; rfl
 ·rw [if_neg h, if_neg h]; refine qV (yne rfl rfl) (rTrue (by (first | rfl | assumption | omega | decide)) ?_); refine rEnd (run_true rfl (qN rfl (zqa rfl (zqa rfl (rEnd (run_ret Tryz.func65 rfl ?_)))))); exact ⟨_, rfl, rfl, rfl⟩
theorem rorder_ret (z : Int) (w : World) : Ret Tryz.prog 87 [I z] w fun v w' => v = .tuple #[I (if sizeOk z then ((orderE z.toNat : Nat) : Int) else 0), I (if sizeOk z then 0 else 1)] ∧ w' = w := by
 refine ret_of_run (e := [(0, _)]) Tryz.func87 rfl Tryz.ntmps87 rfl rfl (qN rfl (zqa rfl (zqa rfl (rEnd (run_seq (qN rfl (zqm rfl (zqc [.tmp 4] cf23 rfl (rsize_ret z _) ?_))))))))
 rintro _ w ⟨rfl, rfl⟩
 by_cases h : sizeOk z
 ·rw [if_pos h, if_pos h]; unfold sizeOk at h; refine qV (yne rfl rfl) (rFalse (by (first | exact fun h => h rfl | assumption | omega)) ?_); refine rEnd (run_false rfl (run_skip (qN rfl (zqm rfl (qV (ysb rfl rfl (by omega)) (qV (yqu rfl rfl (by omega)) (zqd rfl rfl (zqa rfl (zqa rfl (rEnd (run_ret Tryz.func87 rfl (⟨_, rfl, ?_, rfl⟩)))))))))))); have : 1 + (z - 7) / 69 = ((1 + (z.toNat - 7) / 69 : Nat) : Int) := by omega
  rw [this]; rfl
 ·rw [if_neg h, if_neg h]; refine qV (yne rfl rfl) (rTrue (by (first | rfl | assumption | omega | decide)) ?_); refine rEnd (run_true rfl (qN rfl (zqa rfl (zqa rfl (rEnd (run_ret Tryz.func87 rfl ?_)))))); exact ⟨_, rfl, rfl, rfl⟩
theorem rmost_ok {z : Nat} (hz : sizeOk (z : Int)) (w : World) : Ret Tryz.prog 65 [I (z : Int)] w fun v w' => v = .tuple #[I ((mostE z : Nat) : Int), I 0] ∧ w' = w := by
 have := rmost_ret (z : Int) w
 rw [if_pos hz, if_pos hz, Int.toNat_natCast] at this
 exact this
theorem rorder_ok {z : Nat} (hz : sizeOk (z : Int)) (w : World) : Ret Tryz.prog 87 [I (z : Int)] w fun v w' => v = .tuple #[I ((orderE z : Nat) : Int), I 0] ∧ w' = w := by
 have := rorder_ret (z : Int) w
 rw [if_pos hz, if_pos hz, Int.toNat_natCast] at this
 exact this
theorem rkey_ret (s : Bytes) (w : World) : Ret Tryz.prog 40 [S s] w fun v w' => v = .bool (decide (1 ≤ s.length ∧ s.length ≤ 64)) ∧ w' = w := by
 refine ret_of_run (e := [(0, _)]) Tryz.func40 rfl Tryz.ntmps40 rfl rfl (qN rfl (zqa rfl (qM rfl (zqm rfl (qV (ylnS U9 rfl) (qV (yge rfl rfl) (rVal_if (fun h1 => ?_) (fun h1 => ?_))))))))
 ·refine zqm rfl (zqm rfl (qV (ylnS U9 rfl) (qV (yle rfl rfl) (qV (ypT rfl rfl) (zqa rfl (rEnd (run_ret Tryz.func40 rfl (⟨_, rfl, ?_, rfl⟩)))))))); have : 1 ≤ s.length := by omega
  simp [resVal, this]; omega
 ·refine zqm rfl (qS (qS (qS (qV (ypF rfl rfl) (zqa rfl (rEnd (run_ret Tryz.func40 rfl ?_)))))))
  have : s = [] := by
   have : s.length = 0 := by omega
   exact List.eq_nil_of_length_eq_zero this
  subst this; exact ⟨_, rfl, by simp [resVal], rfl⟩
theorem take07_ret (s : Bytes) (n : Nat) (w : World) : Ret Tryz.prog 115 [S s, I (n : Int)] w fun v w' => Ext w w' ∧ v = if s.length < n then .tuple #[S [], S [], .bool false] else .tuple #[S (s.take n), S (s.drop n), .bool true] := by
 refine ret_of_run (e := [(0, _), (1, _)]) Tryz.func115 rfl Tryz.ntmps115 rfl rfl (qN rfl (zqa rfl (zqa rfl (zqa rfl (rEnd (run_seq (qN rfl (zqm rfl (zqm rfl (qV (ylnS U9 rfl) (qV (ygt rfl rfl) (rEnd (run_if rfl (fun h => ?_) (fun h => ?_))))))))))))))
 ·refine qN rfl (zqa rfl (zqa rfl (zqa rfl (rEnd (run_ret Tryz.func115 rfl ?_))))); exact ⟨_, rfl, Ext.refl _, by rw [if_pos (by omega)]; rfl⟩
 ·have hg := Ext.drew0 w; refine run_skip (run_seq (run_draw (fun w' => Ext w w') (by kernel_rfl) rfl (zqt 0 rfl (ymv rfl) hg (zqt 1 rfl (ymv rfl) hg (zqt 2 rfl (yslSt U9 rfl rfl (by omega)) hg (zqt 3 rfl (ymv rfl) hg (zqt 4 rfl (ymv rfl) hg (zqt 5 rfl (yslSf U9 rfl rfl (by omega)) hg (zqt 6 rfl (yas rfl) hg (zqt 7 rfl (yas rfl) hg (zqt 8 rfl (yas rfl) hg (qE (run_ret Tryz.func115 rfl ?_))))))))))))); exact ⟨_, rfl, hg, by rw [if_neg (by omega)]; rfl⟩
theorem value_ret (s : Bytes) (hs : s.length ≤ 4) (w : World) : Ret Tryz.prog 114 [S s] w fun v w' => v = I ((valB s : Nat) : Int) ∧ w' = w := by
 refine ret_of_run (e := [(0, _)]) Tryz.func114 rfl Tryz.ntmps114 rfl rfl (qN rfl (zqa rfl (qM rfl (zqa rfl (rEnd (run_seq (qN rfl (zqa rfl (rEnd (run_block (zqu (α := Nat) (0) (fun i => [(0, S s), (3, I ((valB (s.take i) : Nat) : Int)), (4, I (i : Int))]) (fun i w' => w' = w ∧ i ≤ s.length) (fun i => s.length - i) ?hI ?hround)))))))))))
 case hI => exact ⟨rfl, Nat.zero_le _⟩
 case hround =>
  rintro i w1 ⟨rfl, hi⟩ ih; have s6 := valB_lt (s.take i); have Ih : 256 ^ (s.take i).length ≤ 256 ^ 4 := Nat.pow_le_pow_right (by omega) (by rw [List.length_take]; omega); have Dd : valB (s.take i) < 4294967296 := by omega
  try dsimp only
  refine run_seq (qN rfl (zqm rfl (zqm rfl (qV (ylnS U9 rfl) (qV (ylt rfl rfl) (rEnd (run_if rfl (fun af => ?_) (fun af => ?_))))))))
  ·have ab : i < s.length := by omega
   have Ii : (s.getD i 0).toNat < 256 := (s.getD i 0).toNat_lt; have Ij : s.getD i 0 = s[i] := by rw [List.getD_eq_getElem?_getD, List.getElem?_eq_getElem ab]; rfl
   have cV : ((256 : Int) * ((valB (s.take i) : Nat) : Int) + ((s.getD i 0).toNat : Int)) = ((valB (s.take (i + 1)) : Nat) : Int) := by
    rw [List.take_succ_eq_append_getElem ab, valB_snoc, Ij]; omega
   refine run_skip (run_seq (run_block (run_reg rfl (zqm rfl (qV (yml rfl rfl (by omega)) (zqm rfl (zqm rfl (qV (yixS U9 rfl rfl (by omega)) (qV ((by first | exact ycvB rfl U5 U3 (by decide) | exact ycvSi64 rfl U5 U3 (by omega))) ?_))))))))); refine zqd rfl rfl (zqa rfl (rEnd (run_inBlock (run_reg rfl (zqm rfl (zqd rfl rfl (zqa rfl (rEnd ?_)))))))); rw [cV]; exact (ih (i + 1) _ ⟨rfl, by omega⟩ (by omega)).qb
  ·have : i = s.length := by omega
   subst this; rw [List.take_length]; refine run_exit rfl (qN rfl (zqm rfl (zqa rfl (rEnd (run_ret Tryz.func114 rfl ?_))))); exact ⟨_, rfl, rfl, rfl⟩
theorem number07_ret (n k : Nat) (hk : 1 ≤ k ∧ k ≤ 4) (hn : n < 4294967296) (w : World) : Ret Tryz.prog 140 [u32v n, I (k : Int)] w fun v w' => v = S (beN n k) ∧ Ext w w' := by
 refine ret_of_run (e := [(0, _), (1, _)]) Tryz.func140 rfl Tryz.ntmps140 rfl rfl (qN rfl (zqa rfl (qM rfl (zqm rfl ?_))))
 have dL : maxLen = 9223372036854775807 := rfl
 refine rValP rfl rfl (pmk U123 ti5 rfl rfl rfl (Nat.le_refl _) (by omega) (by omega)) ?_
 rintro _ w1 ⟨b, rfl, ⟨hb, aa, ai⟩, dC⟩
 refine zqa rfl (rEnd (run_seq (qN rfl (zqa rfl (rEnd (run_block (zqu (α := Nat) (0) (fun i => [(0, u32v n), (1, I (k : Int)), (5, .slice (some ⟨b, 0, none⟩) k k), (6, I (i : Int))]) (fun i w' => i ≤ k ∧ Ext w w' ∧ Blk w' b (((beN n k).take i).map u8v ++ List.replicate (k - i) (Value.int .u8 0)) 5) (fun i => k - i) ?hI ?hround)))))))
 case hI => exact ⟨Nat.zero_le _, aa, by simpa using ai⟩
 case hround =>
  rintro i wi ⟨hi, bC, eZ⟩ ih
  try dsimp only
  refine run_seq (qN rfl (zqm rfl (zqm rfl (qV (ylt rfl rfl) (rEnd (run_if rfl (fun af => ?_) (fun af => ?_)))))))
  ·have ab : i < k := by omega
   have nX : ((beN n k).take i).length = i := by rw [List.length_take, beN_length]; omega
   refine run_skip (run_seq (run_block (run_reg rfl (zqm rfl (zqm rfl (zqm rfl (zqm rfl (qV (ysb rfl rfl (by omega)) (zqm rfl (qV (ysb rfl rfl (by omega)) (qV (yml rfl rfl (by omega)) ?_))))))))))); rw [show ((8 : Int) * (((k : Int) - 1) - (i : Int))) = ((8 * (k - 1 - i) : Nat) : Int) by omega]; unfold u32v; refine qV (ysrN (8 * (k - 1 - i)) (2 ^ (8 * (k - 1 - i))) rfl rfl (by show 8 * (k - 1 - i) ≤ 32; omega) rfl) ?_; refine qV (ycv8 rfl U89 U5) (qV (yis U123 ti5 rfl rfl (by omega)) (rEffP rfl (zst ti5 rfl rfl rfl eZ (by rw [List.length_append, List.length_map, List.length_replicate, nX]; omega)) ?_)); rintro w2 ⟨ak, am⟩; have iQ := beN_get n (k := k) ab
   have k6 : (((beN n k).take i).map u8v ++ List.replicate (k - i) (Value.int .u8 0)).set (0 + i * 1) (Value.int .u8 ((n / 2 ^ (8 * (k - 1 - i)) % 256 : Nat) : Int)) = ((beN n k).take (i + 1)).map u8v ++ List.replicate (k - (i + 1)) (Value.int .u8 0) := by
    rw [map_take_succ iQ, show k - i = (k - (i + 1)) + 1 by omega, List.replicate_succ, Nat.zero_add, Nat.mul_one, List.set_append_right _ _ (by rw [List.length_map, nX]; omega)]; rw [List.length_map, nX, Nat.sub_self, List.set_cons_zero, List.append_assoc]
    congr 2
    simp only [u8v, List.cons_append, List.nil_append]; rw [Nat.pow_mul]; simp
   refine rEnd (run_inBlock (run_reg rfl (zqm rfl (zqd rfl rfl (zqa rfl (rEnd ((ih (i + 1) w2 ⟨by omega, bC.trans_new am (fun j hj => by omega), ?_⟩ (by omega)).qb))))))); rw [← k6]; exact ak
  ·have : i = k := by omega
   subst this; have aR : (beN n i).take i = beN n i := by rw [List.take_of_length_le (by simp)]
   rw [Nat.sub_self, aR] at eZ; refine run_exit rfl (qN rfl (zqm rfl (qV (yB2S U123 U5 U9 rfl eZ (by simp; rw [List.take_of_length_le (by simp)]) (by simp)) ?_))); refine zqa rfl (rEnd (run_ret Tryz.func140 rfl ?_)); exact ⟨_, rfl, rfl, bC⟩
set_option maxHeartbeats 1000000 in
theorem rbytes_ret {n : Nd} {kv vv cv : Value} (hR : NdR w n kv vv cv) (hb : n.Bd) : Ret Tryz.prog 88 [ndv n kv vv cv] w fun v w' => v = I (n.bytes : Int) ∧ Ext w w' := by
 obtain ⟨⟨lf, ks, vs, cs⟩, rfl⟩ : ∃ x, x = n := ⟨_, rfl⟩
 obtain ⟨hk, hv, hc⟩ := hR
 obtain ⟨b1, b2, b3, b4, b5, b6⟩ := hb
 dsimp only at hk hv hc b1 b2 b3 b4 b5 b6
 obtain ⟨ka, kc, rfl, -⟩ := hk.shape
 obtain ⟨va, vc, rfl, -⟩ := hv.shape
 obtain ⟨ca, cc, rfl, -⟩ := hc.shape
 refine ret_of_run (e := [(0, _)]) Tryz.func88 rfl Tryz.ntmps88 rfl rfl (qN rfl (rValP rfl rfl (pbx rfl rfl) ?_))
 rintro _ w1 ⟨b, rfl, dr, aa, ai⟩
 refine zqa rfl (qM rfl (zqa rfl (rEnd (run_seq (qN rfl (zqa rfl (rEnd (run_block ?_))))))))
 have aD := hk.ext aa
 have fZ := hv.ext aa
 obtain ⟨q, hq⟩ : ∃ q : Nat, q = if lf then 3 else 1 := ⟨_, rfl⟩
 have xg : q ≤ 3 := by rw [hq]; split <;> omega
 refine run_cut2 (fun e' w' => e' = [(1, ptr b 0), (2, I 0), (3, I ((3 + sumL ks q : Nat) : Int))] ∧ w' = w1) ?nM (fun nM => ?vp)
 case nM =>
  rintro e' w1 ⟨rfl, rfl⟩; have gY := sumL_le (k := q) (m := 100000) b4; have Ik : ks.length * (100000 + q) ≤ 100000 * (100000 + 3) := Nat.mul_le_mul b1 (by omega); refine run_seq (qN rfl (qV (yfa fl130_0 rfl) (qV (yld U4 rfl rfl ai rfl) ?_)))
  cases lf with
  | false =>
    simp only [Bool.false_eq_true, if_false] at hq; subst hq; refine qV ((by first | exact yntd rfl | exact ynt rfl)) ?_; refine rEnd (run_true rfl (qN rfl (zqm rfl (qV (yfa fl130_3 rfl) (qV (yld U82 rfl rfl ai rfl) (qV (yln U82 rfl) (qV (yml rfl rfl (by omega)) (zqd rfl rfl (zqa rfl (rEnd (run_ret Tryz.func88 rfl (⟨_, rfl, ?_, aa⟩)))))))))))); simp only [resVal, Nd.bytes, Bool.false_eq_true, if_false]
    congr 1
    omega
  | true =>
    simp only [if_true] at hq; subst hq; refine qV ((by first | exact yntd rfl | exact ynt rfl)) ?_; refine rEnd (run_false rfl (run_skip (run_seq (qN rfl (zqa rfl (rEnd (run_block (zqu (α := Nat) (0) (fun i => [(1, ptr b 0), (3, I ((3 + sumL ks 3 + sumL (vs.take i) 0 : Nat) : Int)), (5, I (i : Int))]) (fun i w' => w' = w1 ∧ i ≤ vs.length) (fun i => vs.length - i) ?hI ?hround))))))))
    case hI => exact ⟨rfl, Nat.zero_le _⟩
    case hround =>
     rintro i w2 ⟨rfl, hi⟩ ih; have cB := sumL_le (l := vs.take i) (k := 0) (m := 100000) (fun s hs => b5 s (List.mem_of_mem_take hs)); have De : (vs.take i).length * (100000 + 0) ≤ 100000 * 100000 := Nat.mul_le_mul (by rw [List.length_take]; omega) (by omega)
     try dsimp only
     refine run_seq (qN rfl (zqm rfl (qV (yfa fl130_2 rfl) (qV (yld U23 rfl rfl ai rfl) (qV (yln U23 rfl) (qV (ylt rfl rfl) (rEnd (run_if rfl (fun af => ?_) (fun af => ?_)))))))))
     ·have ab : i < vs.length := by omega
      obtain ⟨lb, lo, s, rfl, hs⟩ := rd_gets fZ ab; have gX := b5 s (List.mem_of_getElem? hs); obtain ⟨pr, e2⟩ := List.getElem?_eq_some_iff.1 hs
      have cV : (((3 + sumL ks 3 + sumL (vs.take i) 0 : Nat) : Int) + (s.length : Int)) = ((3 + sumL ks 3 + sumL (vs.take (i + 1)) 0 : Nat) : Int) := by
       rw [List.take_succ_eq_append_getElem pr, e2, sumL_app, sumL_cons, sumL_nil]; omega
      refine run_skip (run_seq (run_block (run_reg rfl (zqm rfl (qV (yfa fl130_2 rfl) (qV (yld U23 rfl rfl ai rfl) (zqm rfl (qV (yis U23 ti9 rfl rfl (by omega)) (qV (yldc U9 rfl rfl (rd_str fZ ab hs)) (qV (ylnS U9 rfl) (zqd rfl rfl (zqa rfl (rEnd ?_))))))))))))); refine run_inBlock (run_reg rfl (zqm rfl (zqd rfl rfl (zqa rfl (rEnd ?_))))); rw [cV]; exact (ih (i + 1) _ ⟨rfl, by omega⟩ (by omega)).qb
     ·have : i = vs.length := by omega
      subst this; rw [List.take_length]; refine run_exit rfl (qN rfl (zqm rfl (zqa rfl (rEnd (run_ret Tryz.func88 rfl (⟨_, rfl, ?_, aa⟩)))))); simp only [resVal, Nd.bytes, if_true]
      congr 1
      omega
 case vp =>
  refine zqu (α := Nat) (0) (fun i => [(1, ptr b 0), (2, I 0), (3, I ((3 + sumL (ks.take i) q : Nat) : Int)), (4, I (i : Int))]) (fun i w' => w' = w1 ∧ i ≤ ks.length) (fun i => ks.length - i) ?hI ?hround
  case hI => exact ⟨rfl, Nat.zero_le _⟩
  case hround =>
   rintro i w2 ⟨rfl, hi⟩ ih; have cB := sumL_le (l := ks.take i) (k := q) (m := 100000) (fun s hs => b4 s (List.mem_of_mem_take hs)); have De : (ks.take i).length * (100000 + q) ≤ 100000 * (100000 + 3) := Nat.mul_le_mul (by rw [List.length_take]; omega) (by omega)
   try dsimp only
   refine run_seq (qN rfl (zqm rfl (qV (yfa fl130_1 rfl) (qV (yld U23 rfl rfl ai rfl) (qV (yln U23 rfl) (qV (ylt rfl rfl) (rEnd (run_if rfl (fun af => ?_) (fun af => ?_)))))))))
   ·have ab : i < ks.length := by omega
    obtain ⟨lb, lo, s, rfl, hs⟩ := rd_gets aD ab; have gX := b4 s (List.mem_of_getElem? hs); obtain ⟨pr, e2⟩ := List.getElem?_eq_some_iff.1 hs
    have cV : (((3 + sumL (ks.take i) q : Nat) : Int) + (s.length : Int)) + (q : Int) = ((3 + sumL (ks.take (i + 1)) q : Nat) : Int) := by
     rw [List.take_succ_eq_append_getElem pr, e2, sumL_app, sumL_cons, sumL_nil]; omega
    refine run_skip (run_seq (run_block (qN rfl (zqm rfl (qV (yfa fl130_1 rfl) (qV (yld U23 rfl rfl ai rfl) (zqm rfl (qV (yis U23 ti9 rfl rfl (by omega)) (qV (yldc U9 rfl rfl (rd_str aD ab hs)) (qV (ylnS U9 rfl) (zqd rfl rfl (zqa rfl (qM rfl ?_))))))))))))); refine qV (yfa fl130_0 rfl) (qV (yld U4 rfl rfl ai rfl) ?_)
    cases lf with
    | false =>
      simp only [Bool.false_eq_true, if_false] at hq; subst hq; refine rEnd (run_false rfl (run_reg rfl (zqm rfl (zqd rfl rfl (zqa rfl (rEnd (run_inBlock (run_reg rfl (zqm rfl (zqd rfl rfl (zqa rfl (rEnd ?_)))))))))))); rw [show ((3 + sumL (ks.take i) 1 : Nat) : Int) + (s.length : Int) + 1 = ((3 + sumL (ks.take (i + 1)) 1 : Nat) : Int) from cV]
      exact (ih (i + 1) _ ⟨rfl, by omega⟩ (by omega)).qb
    | true =>
      simp only [if_true] at hq; subst hq; refine rEnd (run_true rfl (run_reg rfl (zqm rfl (zqd rfl rfl (zqa rfl (rEnd (run_inBlock (run_reg rfl (zqm rfl (zqd rfl rfl (zqa rfl (rEnd ?_)))))))))))); rw [show ((3 + sumL (ks.take i) 3 : Nat) : Int) + (s.length : Int) + 3 = ((3 + sumL (ks.take (i + 1)) 3 : Nat) : Int) from cV]; exact (ih (i + 1) _ ⟨rfl, by omega⟩ (by omega)).qb
   ·have : i = ks.length := by omega
    subst this; rw [List.take_length]; refine run_exit rfl ?_; exact (nM _ _ ⟨rfl, rfl⟩).qb
end
theorem keys_bad {l : List Bytes} {i : Nat} {s : Bytes} (hs : l[i]? = some s) (h : ¬ (1 ≤ s.length ∧ s.length ≤ 64) ∨ (0 < i ∧ ∃ p, l[i - 1]? = some p ∧ lt p s = false)) : ¬ keysOk l := by
 rintro ⟨h1, h2⟩
 have := h1 s (List.mem_of_getElem? hs)
 rcases h with h | ⟨hi, p, hp, af⟩
 ·exact h this
 ·rw [h2.get (by omega) hp hs] at af; cases af
theorem keys_step {l : List Bytes} {i : Nat} {s : Bytes} (h : keysOk (l.take i)) (hs : l[i]? = some s) (hl : 1 ≤ s.length ∧ s.length ≤ 64) (hp : i = 0 ∨ ∃ p, l[i - 1]? = some p ∧ lt p s = true) : keysOk (l.take (i + 1)) := by
 obtain ⟨h1, h2⟩ := h
 refine ⟨fun k hk => ?_, rise_take_succ h2 hs hp⟩
 rcases (mem_take_succ hs).1 hk with hk | rfl
 ·exact h1 k hk
 ·exact hl
section
variable {w : World}
set_option maxHeartbeats 4000000 in
theorem rcheck_ret {n : Nd} {kv vv cv : Value} (hR : NdR w n kv vv cv) (hb : n.Bd) {z : Nat} (hz : sizeOk (z : Int)) :
  Ret Tryz.prog 139 [ndv n kv vv cv, I (z : Int)] w fun v w' => v = I (if NdOk z n then 0 else 1) ∧ Ext w w' := by
 obtain ⟨z1, z2, -⟩ := id hz
 have xe : mostE z ≤ 1100 := by unfold mostE; omega
 have Gg : orderE z ≤ 1100 := by unfold orderE; omega
 have qU := hb.bytes
 obtain ⟨⟨lf, ks, vs, cs⟩, rfl⟩ : ∃ x, x = n := ⟨_, rfl⟩
 obtain ⟨hk, hv, hc⟩ := id hR
 dsimp only at hk hv hc
 obtain ⟨ka, kc, rfl, -⟩ := hk.shape
 obtain ⟨va, vc, rfl, -⟩ := hv.shape
 obtain ⟨ca, cc, rfl, -⟩ := hc.shape
 obtain ⟨b1, b2, b3, b4, b5, b6⟩ := id hb
 dsimp only at b1 b2 b3 b4 b5 b6
 have cJ : ∀ {w' : World}, Ext w w' → ¬ NdOk z ⟨lf, ks, vs, cs⟩ → ∃ v, Ending.returned (I 1) = .returned v ∧ v = I (if NdOk z ⟨lf, ks, vs, cs⟩ then 0 else 1) ∧ Ext w w' := fun hx hn => ⟨_, rfl, by rw [if_neg hn], hx⟩
 refine ret_of_run (e := [(0, _), (1, _)]) Tryz.func139 rfl Tryz.ntmps139 rfl rfl (qN rfl (rValP rfl rfl (pbx rfl rfl) ?_))
 rintro _ w1 ⟨b, rfl, dr, aa, ai⟩
 refine zqa rfl (qM rfl (zqm rfl (zqc [.tmp 13] cf65 rfl (rmost_ok hz _) ?_)))
 rintro _ w1 ⟨rfl, rfl⟩
 refine zqm rfl (qV (yex rfl rfl) (qV (yex rfl rfl) (zqa rfl (zqa rfl (qM rfl (zqm rfl (zqc [.tmp 18] cf87 rfl (rorder_ok hz _) ?_)))))))
 rintro _ w1 ⟨rfl, rfl⟩
 refine zqm rfl (qV (yex rfl rfl) (qV (yex rfl rfl) (zqa rfl (zqa rfl (rEnd (run_seq (qN rfl (zqm rfl (qV (yne rfl rfl) (rEnd (run_if rfl (fun h0 => ?_) (fun h0 => ?_))))))))))))
 ·exact absurd rfl h0
 ·refine run_skip (run_seq (qN rfl (zqa rfl (rEnd (run_block (run_cut2 (fun e' w' => e' = [(1, I (z : Int)), (2, ptr b 0), (4, I 0), (5, I ((mostE z : Nat) : Int)), (7, I ((orderE z : Nat) : Int))] ∧ Ext w1 w' ∧ keysOk ks) ?m8 (fun m8 => ?vr)))))))
  case m8 =>
   rintro e' w2 ⟨rfl, ae, Df⟩; have ay := aa.trans ae; have ak := ae.blk ai; have am := hk.ext ay; have xh := hv.ext ay; have cP := hc.ext ay; refine run_seq (qN rfl (qV (yfa fl130_0 rfl) (qV (yld U4 rfl rfl ak rfl) (rEnd (run_cut (fun e' w' => e' = [(1, I (z : Int)), (2, ptr b 0), (4, I 0)] ∧ Ext w1 w' ∧ (if lf = true then leafOk ⟨lf, ks, vs, cs⟩ (mostE z) else innerOk ⟨lf, ks, vs, cs⟩ (orderE z))) ?kZ (fun kZ => ?vq))))))
   case kZ =>
    rintro e' w3 ⟨rfl, ah, s7⟩; have aG := ah.blk ai; have eR := aa.trans ah; refine run_seq (qN rfl (qV (yldA U130 rfl ti130 rfl (Blk.cells (n := 4) aG (news := [_, _, _, _]) rfl) rfl) (zqc [.tmp 137] cf88 rfl (rbytes_ret (n := ⟨lf, ks, vs, cs⟩) (hR.ext eR) hb) ?_))); rintro _ w4 ⟨rfl, aC⟩; refine zqm rfl (qV (ygt rfl rfl) (rEnd (run_if rfl (fun Il => ?_) (fun Il => ?_))))
    ·refine qN rfl (zqa rfl (rEnd (run_ret Tryz.func139 rfl ?_))); exact cJ (eR.trans aC) (fun h => by have := h.2.1; omega)
    ·refine run_skip (qN rfl (zqa rfl (rEnd (run_ret Tryz.func139 rfl ?_)))); exact ⟨_, rfl, by rw [if_pos ⟨Df, by omega, s7⟩]; rfl, eR.trans aC⟩
   case vq =>
    refine run_cond rfl (fun hl => ?_) (fun hl => ?_)
    ·have fo : lf = true := hl
     have bK : ¬ leafOk ⟨lf, ks, vs, cs⟩ (mostE z) → ¬ NdOk z ⟨lf, ks, vs, cs⟩ := fun h hn => by
      have := hn.2.2; dsimp only at this; rw [if_pos fo] at this; exact h this
     have yS : ∀ {x : Bytes × Bytes}, x ∈ ks.zip vs → ¬ (x.2.length ≤ 4095 ∧ 3 + x.1.length + x.2.length ≤ mostE z) → ¬ leafOk ⟨lf, ks, vs, cs⟩ (mostE z) := fun hx h h2 => h (h2.2.2 _ hx); refine run_seq (qN rfl (qV (yfa fl130_2 rfl) (qV (yld U23 rfl rfl ak rfl) (qV (yln U23 rfl) (qV (yfa fl130_1 rfl) (qV (yld U23 rfl rfl ak rfl) (qV (yln U23 rfl) (qV (yne rfl rfl) (rVal_if (fun h1 => ?_) (fun h1 => ?_))))))))))
     ·refine zqm rfl (qS (qS (qS (qS (qV (ypT rfl rfl) (rEnd (run_true rfl (qN rfl (zqa rfl (rEnd (run_ret Tryz.func139 rfl ?_))))))))))); exact cJ ay (bK (fun h => h1 (by have := h.1; dsimp only at this; omega)))
     ·have ei : vs.length = ks.length := by omega
      refine zqm rfl (qV (yfa fl130_3 rfl) (qV (yld U82 rfl rfl ak rfl) (qV (yln U82 rfl) (qV (yne rfl rfl) (qV (ypF rfl rfl) (rEnd (run_if rfl (fun h2 => ?_) (fun h2 => ?_))))))))
      ·refine qN rfl (zqa rfl (rEnd (run_ret Tryz.func139 rfl ?_))); exact cJ ay (bK (fun h => by have e : cs = [] := h.2.1; rw [e] at h2; simp at h2))
      ·have gW : cs = [] := List.eq_nil_of_length_eq_zero (by omega); refine run_skip (qN rfl (zqa rfl (rEnd (run_block (zqu (α := Nat) (0) (fun i => [(1, I (z : Int)), (2, ptr b 0), (4, I 0), (5, I ((mostE z : Nat) : Int)), (10, I (i : Int))]) (fun i w' => i ≤ vs.length ∧ Ext w1 w' ∧ ∀ x ∈ (ks.zip vs).take i, x.2.length ≤ 4095 ∧ 3 + x.1.length + x.2.length ≤ mostE z) (fun i => vs.length - i) ?hI ?hround)))))
       case hI => exact ⟨Nat.zero_le _, ae, by simp⟩
       case hround =>
        rintro i wi ⟨hi, bC, aH⟩ ih; have eZ := bC.blk ai; have gL := aa.trans bC
        try dsimp only
        refine run_seq (qN rfl (zqm rfl (qV (yfa fl130_2 rfl) (qV (yld U23 rfl rfl eZ rfl) (qV (yln U23 rfl) (qV (ylt rfl rfl) (rEnd (run_if rfl (fun af => ?_) (fun af => ?_)))))))))
        ·have ab : i < vs.length := by omega
         obtain ⟨lb, lo, s, rfl, bG⟩ := rd_gets hv ab; obtain ⟨lb2, lo2, s2, rfl, cB⟩ := rd_gets hk (show i < ks.length by omega); have Bu : (ks.zip vs)[i]? = some (s2, s) := by rw [List.getElem?_zip_eq_some]; exact ⟨cB, bG⟩
         have yL := List.mem_of_getElem? Bu; have gX := b5 s (List.mem_of_getElem? bG); have D4 := b4 s2 (List.mem_of_getElem? cB); have hg := Ext.drew0 wi; refine run_skip (run_seq (run_block (run_seq (run_draw (fun w' => Ext wi w') (by kernel_rfl) rfl (zqt 0 rfl (yfa fl130_2 rfl) hg (qT 1 rfl (fun _ h=>yld U23 rfl rfl (h.blk eZ) rfl) hg (zqt 2 rfl (ymv rfl) hg (zqt 3 rfl (yis U23 ti9 rfl rfl (by omega)) hg (qT 4 rfl (fun _ hS => yldc U9 rfl rfl (rd_str ((hv.ext gL).ext hS) ab bG)) hg (zqt 5 rfl (ylnS U9 rfl) hg (zqt 6 rfl (ygt rfl rfl) hg (rh_if (fun h3 => ?_) (fun h3 => ?_)))))))))))))
         ·refine zqt 7 rfl (ymv rfl) hg (qJ 8 rfl (hg) (qJ 9 rfl (hg) (qJ 10 rfl (hg) (qJ 11 rfl (hg) (qJ 12 rfl (hg) (qJ 13 rfl (hg) (qJ 14 rfl (hg) (qJ 15 rfl (hg) (qJ 16 rfl (hg) (qJ 17 rfl (hg) (qJ 18 rfl (hg) (qJ 19 rfl (hg) (qJ 20 rfl (hg) ?_))))))))))))); refine qJ 21 rfl (hg) (qJ 22 rfl (hg) (qJ 23 rfl (hg) (zqt 24 rfl (ypT rfl rfl) hg (qE (run_true rfl (qN rfl (zqa rfl (rEnd (run_ret Tryz.func139 rfl ?_))))))))); exact cJ (gL.trans hg) (bK (yS yL (fun h => by dsimp only at h; omega)))
         ·refine zqt 7 rfl (ymv rfl) hg (zqt 8 rfl (yfa fl130_1 rfl) hg (qT 9 rfl (fun _ h=>yld U23 rfl rfl (h.blk eZ) rfl) hg (zqt 10 rfl (ymv rfl) hg (zqt 11 rfl (yis U23 ti9 rfl rfl (by omega)) hg (zqt 15 rfl (yfa fl130_2 rfl) hg (qT 16 rfl (fun _ h=>yld U23 rfl rfl (h.blk eZ) rfl) hg (zqt 17 rfl (ymv rfl) hg (zqt 18 rfl (yis U23 ti9 rfl rfl (by omega)) hg (zqt 22 rfl (ymv rfl) hg (qT 12 rfl (fun _ hS => yldc U9 rfl rfl (rd_str ((hk.ext gL).ext hS) (by omega) cB)) hg (zqt 13 rfl (ylnS U9 rfl) hg (zqt 14 rfl (yad rfl rfl (by omega)) hg (qT 19 rfl (fun _ hS => yldc U9 rfl rfl (rd_str ((hv.ext gL).ext hS) ab bG)) hg ?_))))))))))))); refine zqt 20 rfl (ylnS U9 rfl) hg (zqt 21 rfl (yad rfl rfl (by omega)) hg (zqt 23 rfl (ygt rfl rfl) hg (zqt 24 rfl (ypF rfl rfl) hg (qE (run_if rfl (fun h4 => ?_) (fun h4 => ?_))))))
          ·refine qN rfl (zqa rfl (rEnd (run_ret Tryz.func139 rfl ?_))); exact cJ (gL.trans hg) (bK (yS yL (fun h => by dsimp only at h; omega)))
          ·refine run_skip (run_inBlock (run_reg rfl (zqm rfl (zqd rfl rfl (zqa rfl (rEnd ((ih (i + 1) _ ⟨by omega, bC.trans hg, fun x hx => ?_⟩ (by omega)).qb))))))); rcases (mem_take_succ Bu).1 hx with hx | rfl
           ·exact aH x hx
           ·dsimp only; omega
        ·rw [List.take_of_length_le (by rw [List.length_zip]; omega)] at aH; refine run_exit rfl ((kZ _ _ ⟨rfl, bC, ?_⟩).qb); rw [if_pos fo]; exact ⟨ei, gW, aH⟩
    ·have fo : ¬ lf = true := by rw [show lf = false from hl]; decide
     have bK : ¬ innerOk ⟨lf, ks, vs, cs⟩ (orderE z) → ¬ NdOk z ⟨lf, ks, vs, cs⟩ := fun h hn => by
      have := hn.2.2; dsimp only at this; rw [if_neg fo] at this; exact h this
     refine run_seq (qN rfl (qV (yfa fl130_2 rfl) (qV (yld U23 rfl rfl ak rfl) (qV (yln U23 rfl) (qV (yne rfl rfl) (rVal_if (fun h1 => ?_) (fun h1 => ?_)))))))
     ·refine zqm rfl (qS (qS (qS (qS (qS (qS (qS (qS (qV (ypT rfl rfl) (zqm rfl (qS (qS (qS ?_))))))))))))); refine qS (qS (qV (ypT rfl rfl) (rEnd (Run.qb (e := [(1, _), (2, _), (4, _), (123, _)]) ?_)))); refine run_true rfl (qN rfl (zqa rfl (rEnd (run_ret Tryz.func139 rfl ?_)))); exact cJ ay (bK (fun h => by have e : vs = [] := h.1; rw [e] at h1; exact h1 rfl))
     ·have Im : vs = [] := List.eq_nil_of_length_eq_zero (by omega); refine zqm rfl (qV (yfa fl130_3 rfl) (qV (yld U82 rfl rfl ak rfl) (qV (yln U82 rfl) (qV (yfa fl130_1 rfl) (qV (yld U23 rfl rfl ak rfl) (qV (yln U23 rfl) (zqd rfl rfl (qV (yne rfl rfl) (rVal_if (fun h2 => ?_) (fun h2 => ?_))))))))))
      ·refine qV (ypF rfl rfl) (zqm rfl (qS (qS (qS (qS (qS (qV (ypT rfl rfl) (rEnd (Run.qb (e := [(1, _), (2, _), (4, _), (123, _)]) ?_))))))))); refine run_true rfl (qN rfl (zqa rfl (rEnd (run_ret Tryz.func139 rfl ?_)))); exact cJ ay (bK (fun h => h2 (by have := h.2.1; dsimp only at this; omega)))
      ·refine qV (ypF rfl rfl) (zqm rfl (qV (yfa fl130_3 rfl) (qV (yld U82 rfl rfl ak rfl) (qV (yln U82 rfl) (zqm rfl (qV (ygt rfl rfl) (qV (ypF rfl rfl) (rEnd (Run.qb (e := [(1, _), (2, _), (4, _), (123, _)]) ?_))))))))); refine run_if rfl (fun h3 => ?_) (fun h3 => ?_)
       ·refine qN rfl (zqa rfl (rEnd (run_ret Tryz.func139 rfl ?_))); exact cJ ay (bK (fun h => by have := h.2.2.1; dsimp only at this; omega))
       ·refine run_skip (qN rfl (zqa rfl (rEnd (run_block (zqu (α := Nat) (0) (fun i => [(1, I (z : Int)), (2, ptr b 0), (4, I 0), (11, I (i : Int))]) (fun i w' => w' = w2 ∧ i ≤ cs.length ∧ 0 ∉ cs.take i) (fun i => cs.length - i) ?hI ?hround)))))
        case hI => exact ⟨rfl, Nat.zero_le _, by simp⟩
        case hround =>
         rintro i w3 ⟨rfl, hi, aH⟩ ih
         try dsimp only
         refine run_seq (qN rfl (zqm rfl (qV (yfa fl130_3 rfl) (qV (yld U82 rfl rfl ak rfl) (qV (yln U82 rfl) (qV (ylt rfl rfl) (rEnd (run_if rfl (fun af => ?_) (fun af => ?_)))))))))
         ·have ab : i < cs.length := by omega
          obtain ⟨lb, lo, c, rfl, Dg⟩ := rd_getu hc ab; refine run_skip (run_seq (run_block (qN rfl (qV (yfa fl130_3 rfl) (qV (yld U82 rfl rfl ak rfl) (zqm rfl (qV (yis U82 ti89 rfl rfl (by omega)) (qV (yldc U89 rfl rfl (rd_u32 cP ab Dg)) ?_)))))))); unfold u32v; refine qV (yeq rfl rfl) (rEnd (run_if rfl (fun h4 => ?_) (fun h4 => ?_)))
          ·refine qN rfl (zqa rfl (rEnd (run_ret Tryz.func139 rfl (cJ ay (bK (fun h => ?_)))))); have := h.2.2.2 c (List.mem_of_getElem? Dg); omega
          ·refine run_skip (run_inBlock (run_reg rfl (zqm rfl (zqd rfl rfl (zqa rfl (rEnd ((ih (i + 1) _ ⟨rfl, by omega, fun hh => ?_⟩ (by omega)).qb))))))); rcases (mem_take_succ Dg).1 hh with h | h
           ·exact aH h
           ·omega
         ·have : i = cs.length := by omega
          subst this; rw [List.take_length] at aH; refine run_exit rfl ((kZ _ _ ⟨rfl, ae, ?_⟩).qb); rw [if_neg fo]; exact ⟨Im, by dsimp only; omega, by dsimp only; omega, fun c ur e => aH (e ▸ ur)⟩
  case vr =>
   refine zqu (α := Nat) (0) (fun i => [(1, I (z : Int)), (2, ptr b 0), (4, I 0), (5, I ((mostE z : Nat) : Int)), (7, I ((orderE z : Nat) : Int)), (9, I (i : Int))]) (fun i w' => i ≤ ks.length ∧ Ext w1 w' ∧ keysOk (ks.take i)) (fun i => ks.length - i) ?hI ?hround
   case hI => exact ⟨Nat.zero_le _, Ext.refl _, by simp [keysOk, Rise]⟩
   case hround =>
    rintro i wi ⟨hi, bC, dR⟩ ih; have eZ := bC.blk ai; have gL := aa.trans bC
    try dsimp only
    refine run_seq (qN rfl (zqm rfl (qV (yfa fl130_1 rfl) (qV (yld U23 rfl rfl eZ rfl) (qV (yln U23 rfl) (qV (ylt rfl rfl) (rEnd (run_if rfl (fun af => ?_) (fun af => ?_)))))))))
    ·have ab : i < ks.length := by omega
     obtain ⟨lb, lo, s, rfl, hs⟩ := rd_gets hk ab; have hg := Ext.drew0 wi; refine run_skip (run_seq (run_block (run_seq (run_draw (fun w' => Ext wi w') (by kernel_rfl) rfl (zqt 0 rfl (yfa fl130_1 rfl) hg (qT 1 rfl (fun _ h=>yld U23 rfl rfl (h.blk eZ) rfl) hg (zqt 2 rfl (ymv rfl) hg (zqt 3 rfl (yis U23 ti9 rfl rfl (by omega)) hg (qT 4 rfl (fun _ hS => yldc U9 rfl rfl (rd_str ((hk.ext gL).ext hS) ab hs)) hg (zqo 5 [.tmp 35] rfl cf40 rfl (rkey_ret s _) ?_)))))))))); rintro _ w3 ⟨rfl, bu⟩; refine ⟨(by rw [bu]; exact hg), ?_⟩; have ah : Ext wi w3 := by rw [bu]; exact hg
     refine zqt 6 rfl ((by first | exact yntd rfl | exact ynt rfl)) ((by rw [bu]; exact hg)) ?_; refine rh_if (fun h1 => ?_) (fun h1 => ?_)
     ·refine zqt 7 rfl (ymv rfl) ((by rw [bu]; exact hg)) ?_; refine qJ 8 rfl ((by rw [bu]; exact hg)) ?_; refine qJ 9 rfl ((by rw [bu]; exact hg)) ?_; refine qJ 10 rfl ((by rw [bu]; exact hg)) ?_; refine qJ 11 rfl ((by rw [bu]; exact hg)) ?_; refine qJ 12 rfl ((by rw [bu]; exact hg)) ?_; refine qJ 13 rfl ((by rw [bu]; exact hg)) ?_; refine qJ 14 rfl ((by rw [bu]; exact hg)) ?_; refine qJ 15 rfl ((by rw [bu]; exact hg)) ?_; refine qJ 16 rfl ((by rw [bu]; exact hg)) ?_; refine qJ 17 rfl ((by rw [bu]; exact hg)) ?_; refine qJ 18 rfl ((by rw [bu]; exact hg)) ?_; refine qJ 19 rfl ((by rw [bu]; exact hg)) ?_; refine qJ 20 rfl ((by rw [bu]; exact hg)) ?_; refine qJ 21 rfl ((by rw [bu]; exact hg)) ?_; refine qJ 22 rfl ((by rw [bu]; exact hg)) ?_; refine qJ 23 rfl ((by rw [bu]; exact hg)) ?_; refine zqt 24 rfl (ypT rfl rfl) ((by rw [bu]; exact hg)) ?_; refine qE (run_true rfl (qN rfl (zqa rfl (rEnd (run_ret Tryz.func139 rfl ?_))))); exact cJ (gL.trans ah) (fun h => keys_bad hs (.inl h1) h.1)
     ·have gX : 1 ≤ s.length ∧ s.length ≤ 64 := Decidable.not_not.1 h1; refine zqt 7 rfl (ymv rfl) ((by rw [bu]; exact hg)) ?_; refine zqt 8 rfl (ymv rfl) ((by rw [bu]; exact hg)) ?_; refine zqt 9 rfl (ygt rfl rfl) ((by rw [bu]; exact hg)) ?_; refine rh_if (fun h2 => ?_) (fun h2 => ?_)
      ·have rB : i - 1 < ks.length := by omega
       obtain ⟨lb', lo', p, he, hp⟩ := rd_gets hk rB; cases he; refine zqt 10 rfl (ymv rfl) ((by rw [bu]; exact hg)) ?_; refine zqt 11 rfl (yfa fl130_1 rfl) ((by rw [bu]; exact hg)) ?_; refine qT 12 rfl (fun _ h=>yld U23 rfl rfl (h.blk eZ) rfl) ((by rw [bu]; exact hg)) ?_; refine zqt 13 rfl (ymv rfl) ((by rw [bu]; exact hg)) ?_; refine zqt 14 rfl (ysb rfl rfl (by omega)) ((by rw [bu]; exact hg)) ?_; refine zqt 17 rfl (yfa fl130_1 rfl) ((by rw [bu]; exact hg)) ?_; refine qT 18 rfl (fun _ h=>yld U23 rfl rfl (h.blk eZ) rfl) ((by rw [bu]; exact hg)) ?_; refine zqt 19 rfl (ymv rfl) ((by rw [bu]; exact hg)) ?_; rw [show ((i : Int) - 1) = ((i - 1 : Nat) : Int) by omega]; refine zqt 15 rfl (yis U23 ti9 rfl rfl (by omega)) ((by rw [bu]; exact hg)) ?_; refine zqt 20 rfl (yis U23 ti9 rfl rfl (by omega)) ((by rw [bu]; exact hg)) ?_; refine qT 16 rfl (fun _ hS => yldc U9 rfl rfl (rd_str ((hk.ext gL).ext hS) rB hp)) ((by rw [bu]; exact hg)) ?_; refine qT 21 rfl (fun _ hS => yldc U9 rfl rfl (rd_str ((hk.ext gL).ext hS) ab hs)) ((by rw [bu]; exact hg)) ?_; refine zqt 22 rfl (ygeS rfl rfl) ((by rw [bu]; exact hg)) ?_; refine zqt 23 rfl (ypT rfl rfl) ((by rw [bu]; exact hg)) ?_; refine zqt 24 rfl (ypF rfl rfl) ((by rw [bu]; exact hg)) ?_; refine qE (run_cond rfl (fun hq => ?_) (fun hq => ?_))
       ·have iD : lt p s = false := by simpa using hq
        refine qN rfl (zqa rfl (rEnd (run_ret Tryz.func139 rfl ?_))); exact cJ (gL.trans ah) (fun h => keys_bad hs (.inr ⟨by omega, p, hp, iD⟩) h.1)
       ·have iD : lt p s = true := by simpa using hq
        refine run_skip (run_inBlock (run_reg rfl (zqm rfl (zqd rfl rfl (zqa rfl (rEnd ?_)))))); exact (ih (i + 1) w3 ⟨by omega, bC.trans ah, keys_step dR hs gX (.inr ⟨p, hp, iD⟩)⟩ (by omega)).qb
      ·refine zqt 10 rfl (ymv rfl) ((by rw [bu]; exact hg)) ?_; refine qJ 11 rfl ((by rw [bu]; exact hg)) ?_; refine qJ 12 rfl ((by rw [bu]; exact hg)) ?_; refine qJ 13 rfl ((by rw [bu]; exact hg)) ?_; refine qJ 14 rfl ((by rw [bu]; exact hg)) ?_; refine qJ 15 rfl ((by rw [bu]; exact hg)) ?_; refine qJ 16 rfl ((by rw [bu]; exact hg)) ?_; refine qJ 17 rfl ((by rw [bu]; exact hg)) ?_; refine qJ 18 rfl ((by rw [bu]; exact hg)) ?_; refine qJ 19 rfl ((by rw [bu]; exact hg)) ?_; refine qJ 20 rfl ((by rw [bu]; exact hg)) ?_; refine qJ 21 rfl ((by rw [bu]; exact hg)) ?_; refine qJ 22 rfl ((by rw [bu]; exact hg)) ?_; refine zqt 23 rfl (ypF rfl rfl) ((by rw [bu]; exact hg)) ?_; refine zqt 24 rfl (ypF rfl rfl) ((by rw [bu]; exact hg)) ?_; refine qE (run_false rfl (run_skip (run_inBlock (run_reg rfl (zqm rfl (zqd rfl rfl (zqa rfl (rEnd ?_)))))))); exact (ih (i + 1) w3 ⟨by omega, bC.trans ah, keys_step dR hs gX (.inl (by omega))⟩ (by omega)).qb
    ·have : i = ks.length := by omega
     subst this; rw [List.take_length] at dR; refine run_exit rfl ?_; exact (m8 _ _ ⟨rfl, bC, dR⟩).qb
end
theorem lg_none_leaf {z : Nat} {s : Bytes} {bad b1 b2 b3 : Bool} {ks vs : List Bytes} {cs : List Nat} {c : Nat} {r t1 t2 t3 t4 r1 r2 r3 r4 : Bytes} (hz : sizeOk (z : Int)) (hl : s.length = z) (h : Lg z s true ks vs cs (c + 1) r bad) (e1 : tx 1 r bad = (t1, r1, b1)) (e2 : tx 2 r1 b1 = (t2, r2, b2)) (e3 : tx (valB t1) r2 b2 = (t3, r3, b3)) (e4 : tx (valB t2) r3 b3 = (t4, r4, true)) : dec s = none := by
 cases e : dec s with
 | none => rfl
 | some n => cases (lg_end hl (lg_leaf hz h e1 e2 e3 e4) (.inr rfl) e).1
theorem lg_none_inn {z : Nat} {s : Bytes} {bad b1 b2 : Bool} {ks vs : List Bytes} {cs : List Nat} {c : Nat} {r t1 t2 t3 r1 r2 r3 : Bytes} (hz : sizeOk (z : Int)) (hl : s.length = z) (h : Lg z s false ks vs cs (c + 1) r bad) (e1 : tx 1 r bad = (t1, r1, b1)) (e2 : tx (valB t1) r1 b1 = (t2, r2, b2)) (e3 : tx 4 r2 b2 = (t3, r3, true)) : dec s = none := by
 cases e : dec s with
 | none => rfl
 | some n => cases (lg_end hl (lg_inn hz h e1 e2 e3) (.inr rfl) e).1
theorem take_tx {s : Bytes} {n : Nat} {v : Value} (h : v = if s.length < n then .tuple #[S [], S [], .bool false] else .tuple #[S (s.take n), S (s.drop n), .bool true]) : (v = .tuple #[S [], S [], .bool false] ∧ tx n s false = ([], s, true)) ∨ ∃ t r, v = .tuple #[S t, S r, .bool true] ∧ tx n s false = (t, r, false) := by
 by_cases hl : s.length < n
 ·rw [if_pos hl] at h; exact .inl ⟨h, tx_bad (.inr hl)⟩
 ·rw [if_neg hl] at h; exact .inr ⟨_, _, h, tx_ok (by omega)⟩
section
variable {w : World}
set_option maxHeartbeats 4000000 in
theorem rencode_ret {n : Nd} {kv vv cv : Value} (hR : NdR w n kv vv cv) (hb : n.Bd) {z : Nat} (hz : sizeOk (z : Int)) :
  Ret Tryz.prog 116 [ndv n kv vv cv, I (z : Int)] w fun v w' => Ext w w' ∧ ((NdOk z n ∧ v = .tuple #[S (enc z n), I 0]) ∨ (¬ NdOk z n ∧ v = .tuple #[S [], I 1])) := by
 obtain ⟨z1, z2, -⟩ := id hz
 refine ret_of_run (e := [(0, _), (1, _)]) Tryz.func116 rfl Tryz.ntmps116 rfl rfl (qN rfl (rValP rfl rfl (pbx rfl (cs := [.bool n.leaf, kv, vv, cv]) rfl) ?_))
 rintro _ w1 ⟨b, rfl, dr, aa, ai⟩
 refine zqa rfl (zqa rfl (rEnd (run_seq (qN rfl (qV (yldA U130 rfl ti130 rfl (Blk.cells (n := 4) ai (news := [_, _, _, _]) rfl) rfl) (zqm rfl (zqc [.tmp 8, .tmp 9] cf139 rfl (rcheck_ret (hR.ext aa) hb hz) ?_)))))))
 rintro _ w2 ⟨rfl, ae⟩
 have ay := aa.trans ae
 have ak := ae.blk ai
 have kY := hR.ext ay
 have dL : maxLen = 9223372036854775807 := rfl
 by_cases aQ : NdOk z n
 ·rw [if_pos aQ]; refine qV (yne rfl rfl) (rEnd (run_if rfl (fun h0 => ?_) (fun h0 => ?_)))
  ·exact absurd rfl h0
  ·have yO : NdZ z n := ⟨aQ, hb.cs⟩; rcases nd_cases aQ with ⟨es, rfl⟩ | ⟨c, ps, rfl⟩
   ·obtain ⟨n1, n2⟩ := ndz_leaf hz yO; have ic := rawN_length aQ; rw [rawN_leaf] at ic; have fI := aQ.2.1; have rO : (bodyL es).length + 3 ≤ 4096 := by simp at ic; omega
    have hK := kY.keys; have hV := kY.vals; rw [show (leafNd es).keys.length = es.length by simp [leafNd]] at hK; rw [show (leafNd es).vals.length = es.length by simp [leafNd]] at hV; obtain ⟨ka, kc, rfl, -⟩ := hK.shape; obtain ⟨va, vc, rfl, -⟩ := hV.shape; refine run_skip (qN rfl (zqa rfl (rEnd (run_seq (qN rfl (qV (yfa fl130_0 rfl) (qV (yld U4 rfl rfl ak rfl) (qV ((by first | exact yntd rfl | exact ynt rfl)) ?_)))))))); refine rEnd (run_false rfl (run_skip (qN rfl (zqm rfl (qV (yfa fl130_1 rfl) (qV (yld U23 rfl rfl ak rfl) (qV (yln U23 rfl) (qV (ycv32 rfl U3 U89) ?_)))))))); rw [Nat.mod_eq_of_lt (show es.length < 4294967296 by omega)]; refine zqc [.tmp 19, .const (Value.int .i64 2)] cf140 rfl (number07_ret es.length 2 (by omega) (by omega) w2) ?_; rintro _ w3 ⟨rfl, ah⟩; have aG := ah.blk ak; refine qV (ycatS rfl rfl (by first | omega | (simp; done) | (simp; omega))) ?_; refine zqa rfl (rEnd (run_seq (qN rfl (qV (yfa fl130_0 rfl) (qV (yld U4 rfl rfl aG rfl) (qV ((by first | exact yntd rfl | exact ynt rfl)) ?_)))))); refine rEnd (run_false rfl (run_skip (run_seq (qN rfl (zqa rfl (rEnd (run_block (zqu (α := Nat × Bytes) ((0, [1] ++ beN es.length 2)) (fun x => [(1, I (z : Int)), (2, ptr b 0), (6, S x.2), (7, I (x.1 : Int))]) (fun x w' => x.1 ≤ es.length ∧ Ext w2 w' ∧ x.2 = 1 :: (beN es.length 2 ++ bodyL (es.take x.1))) (fun x => es.length - x.1) ?hI ?hround))))))))
    case hI => exact ⟨Nat.zero_le _, ah, by simp [bodyL]⟩
    case hround =>
     rintro ⟨i, sx⟩ wi ⟨hi, bC, mW⟩ ih; dsimp only at hi mW; have eZ := bC.blk ak; have mV := hK.ext bC; have yP := hV.ext bC; have nX := bodyL_take_le es i; have gX : sx.length ≤ 4096 := by rw [mW]; simp; omega
     try dsimp only
     refine run_seq (qN rfl (zqm rfl (qV (yfa fl130_1 rfl) (qV (yld U23 rfl rfl eZ rfl) (qV (yln U23 rfl) (qV (ylt rfl rfl) (rEnd (run_if rfl (fun af => ?_) (fun af => ?_)))))))))
     ·have ab : i < es.length := by omega
      obtain ⟨x, hx⟩ : ∃ x, es[i]? = some x := ⟨_, List.getElem?_eq_getElem ab⟩; obtain ⟨lb, lo, s, rfl, bG⟩ := rd_getsM mV (by simp [leafNd]) ab; obtain ⟨lb2, lo2, s2, rfl, cB⟩ := rd_getsM yP (by simp [leafNd]) ab; have e1 : s = x.1 := by simp [leafNd, hx] at bG; exact bG.symm
      have e2 : s2 = x.2 := by simp [leafNd, hx] at cB; exact cB.symm
      have nV := n2 x (List.mem_of_getElem? hx); refine run_skip (run_seq (run_block (qN rfl (zqm rfl (qV (yfa fl130_1 rfl) (qV (yld U23 rfl rfl eZ rfl) (zqm rfl (qV (yis U23 ti9 rfl rfl (by omega)) (qV (yldc U9 rfl rfl (rd_str mV ab bG)) ?_))))))))); rw [e1]; refine qV (ylnS U9 rfl) (qV (ycv32 rfl U3 U89) ?_); rw [Nat.mod_eq_of_lt (show x.1.length < 4294967296 by omega)]; refine zqc [.tmp 46, .const (Value.int .i64 1)] cf140 rfl (number07_ret x.1.length 1 (by omega) (by omega) wi) ?_; rintro _ w6 ⟨rfl, aO⟩; have mX := bC.trans aO; have bD := aO.blk eZ; refine qV (ycatS rfl rfl (by first | omega | (simp; done) | (simp; omega))) ?_; refine zqa rfl (qM rfl (qV (yfa fl130_0 rfl) (qV (yld U4 rfl rfl bD rfl) (rEnd (run_true rfl ?_))))); have hg := Ext.drew0 w6; refine run_draw (fun w' => Ext w6 w') (by kernel_rfl) rfl (zqt 0 rfl (ymv rfl) hg (zqt 1 rfl (yfa fl130_2 rfl) hg (qT 2 rfl (fun _ h=>yld U23 rfl rfl (h.blk bD) rfl) hg (zqt 3 rfl (ymv rfl) hg (zqt 4 rfl (yis U23 ti9 rfl rfl (by omega)) hg (zqt 10 rfl (yfa fl130_1 rfl) hg (qT 11 rfl (fun _ h=>yld U23 rfl rfl (h.blk bD) rfl) hg (zqt 12 rfl (ymv rfl) hg (zqt 13 rfl (yis U23 ti9 rfl rfl (by omega)) hg (zqt 16 rfl (yfa fl130_2 rfl) hg (qT 17 rfl (fun _ h=>yld U23 rfl rfl (h.blk bD) rfl) hg (zqt 18 rfl (ymv rfl) hg (zqt 19 rfl (yis U23 ti9 rfl rfl (by omega)) hg ?_))))))))))))); refine qT 5 rfl (fun _ hS => yldc U9 rfl rfl (rd_str ((yP.ext aO).ext hS) ab cB)) hg (zqt 6 rfl (ylnS U9 rfl) hg (zqt 7 rfl (ycv32 rfl U3 U89) hg (qT 14 rfl (fun _ hS => yldc U9 rfl rfl (rd_str ((mV.ext aO).ext hS) ab bG)) hg (qT 20 rfl (fun _ hS => yldc U9 rfl rfl (rd_str ((yP.ext aO).ext hS) ab cB)) hg ?_)))); rw [e1, e2]; rw [Nat.mod_eq_of_lt (show x.2.length < 4294967296 by omega)]; refine zqo 8 [.tmp 58, .const (Value.int .i64 2)] rfl cf140 rfl (number07_ret x.2.length 2 (by omega) (by omega) _) ?_; rintro _ w7 ⟨rfl, aF⟩; refine ⟨hg.trans aF, ?_⟩; refine zqt 9 rfl (ycatS rfl rfl (by first | omega | (simp; done) | (simp; omega))) (hg.trans aF) ?_; refine zqt 15 rfl (ycatS rfl rfl (by first | omega | (simp; done) | (simp; omega))) (hg.trans aF) ?_; refine zqt 21 rfl (ycatS rfl rfl (by first | omega | (simp; done) | (simp; omega))) (hg.trans aF) ?_; refine zqt 22 rfl (yas rfl) (hg.trans aF) (qE (run_inBlock (run_reg rfl (zqm rfl (zqd rfl rfl (zqa rfl (rEnd ((ih (i + 1, _) w7 ⟨by dsimp only; omega, mX.trans (hg.trans aF), ?_⟩ (by dsimp only; omega)).qb)))))))); dsimp only; rw [bodyL_snoc hx, mW]; simp
     ·have e : i = es.length := by omega
      subst e; rw [List.take_length] at mW; have aP : sx.length ≤ z := by rw [mW, ic]; exact fI
      refine run_exit rfl (qN rfl (zqm rfl (zqm rfl (zqm rfl (qV (ylnS U9 rfl) (qV (ysb rfl rfl (by omega)) ?_)))))); rw [show ((z : Int) - (sx.length : Int)) = ((z - sx.length : Nat) : Int) by omega]; refine rValP rfl rfl (pmk U123 ti5 rfl rfl rfl (Nat.le_refl _) (by omega) (by omega)) ?_; rintro _ w9 ⟨b9, rfl, ⟨rg, fM, cZ⟩, bJ⟩; refine qV (yB2S (l := List.replicate (z - sx.length) 0) U123 U5 U9 rfl cZ (by simp [u8v]) (by simp)) ?_; refine qV (ycatS rfl rfl (by first | omega | (simp; done) | (simp; omega))) ?_; refine zqa rfl (zqa rfl (rEnd (run_ret Tryz.func116 rfl (⟨_, rfl, (ay.trans bC).trans fM, .inl ⟨aQ, ?_⟩⟩)))); simp only [resVal, enc, rawN_leaf, mW]
   ·obtain ⟨n1, nc, n2⟩ := ndz_inn hz yO; have ic := rawN_length aQ; rw [rawN_inn] at ic; have fI := aQ.2.1; have rO : (bodyI ps).length + 7 ≤ 4096 := by simp at ic; omega
    have hK := kY.keys; have hC := kY.kids; rw [show (innNd c ps).keys.length = ps.length by simp [innNd]] at hK; rw [show (innNd c ps).kids.length = ps.length + 1 by simp [innNd]] at hC; obtain ⟨ka, kc, rfl, -⟩ := hK.shape; obtain ⟨ca, cc, rfl, -⟩ := hC.shape; obtain ⟨cb, co, c0, rfl, gw⟩ := rd_getuN hC (by simp [innNd]) (show 0 < ps.length + 1 by omega); have ec0 : c0 = c := by simp [innNd] at gw; exact gw.symm
    subst ec0; refine run_skip (qN rfl (zqa rfl (rEnd (run_seq (qN rfl (qV (yfa fl130_0 rfl) (qV (yld U4 rfl rfl ak rfl) (qV ((by first | exact yntd rfl | exact ynt rfl)) ?_)))))))); refine rEnd (run_true rfl (run_reg rfl (zqa rfl (qM rfl (zqm rfl (qV (yfa fl130_1 rfl) (qV (yld U23 rfl rfl ak rfl) (qV (yln U23 rfl) (qV (ycv32 rfl U3 U89) ?_))))))))); rw [Nat.mod_eq_of_lt (show ps.length < 4294967296 by omega)]; refine zqc [.tmp 19, .const (Value.int .i64 2)] cf140 rfl (number07_ret ps.length 2 (by omega) (by omega) w2) ?_; rintro _ w3 ⟨rfl, ah⟩; have aG := ah.blk ak; refine qV (ycatS rfl rfl (by first | omega | (simp; done) | (simp; omega))) ?_; refine zqa rfl (rEnd (run_seq (qN rfl (qV (yfa fl130_0 rfl) (qV (yld U4 rfl rfl aG rfl) (qV ((by first | exact yntd rfl | exact ynt rfl)) ?_)))))); refine rEnd (run_true rfl (run_reg rfl (zqm rfl (qV (yfa fl130_3 rfl) (qV (yld U82 rfl rfl aG rfl) (qV (yis U82 ti89 rfl rfl (by omega)) (qV (yldc U89 rfl rfl (rd_u32 (hC.ext ah) (by omega) gw)) (zqc [.tmp 29, .const (Value.int .i64 4)] cf140 rfl (number07_ret c0 4 (by omega) (by omega) w3) ?_)))))))); rintro _ w4 ⟨rfl, aC⟩; refine qV (ycatS rfl rfl (by first | omega | (simp; done) | (simp; omega))) ?_; refine zqa rfl (rEnd (Run.qb (e := [(1, _), (2, _), (4, _), (5, _), (6, _)]) ?_)); refine run_seq (qN rfl (zqa rfl (rEnd (run_block (zqu (α := Nat × Bytes) ((0, ([2] ++ beN ps.length 2) ++ beN c0 4)) (fun x => [(1, I (z : Int)), (2, ptr b 0), (6, S x.2), (7, I (x.1 : Int))]) (fun x w' => x.1 ≤ ps.length ∧ Ext w2 w' ∧ x.2 = 2 :: (beN ps.length 2 ++ (beN c0 4 ++ bodyI (ps.take x.1)))) (fun x => ps.length - x.1) ?hI ?hround)))))
    case hI => exact ⟨Nat.zero_le _, ah.trans aC, by simp [bodyI]⟩
    case hround =>
     rintro ⟨i, sx⟩ wi ⟨hi, bC, mW⟩ ih; dsimp only at hi mW; have eZ := bC.blk ak; have mV := hK.ext bC; have nX := bodyI_take_le ps i; have gX : sx.length ≤ 4096 := by rw [mW]; simp; omega
     try dsimp only
     refine run_seq (qN rfl (zqm rfl (qV (yfa fl130_1 rfl) (qV (yld U23 rfl rfl eZ rfl) (qV (yln U23 rfl) (qV (ylt rfl rfl) (rEnd (run_if rfl (fun af => ?_) (fun af => ?_)))))))))
     ·have ab : i < ps.length := by omega
      obtain ⟨x, hx⟩ : ∃ x, ps[i]? = some x := ⟨_, List.getElem?_eq_getElem ab⟩; obtain ⟨lb, lo, s, rfl, bG⟩ := rd_getsM mV (by simp [innNd]) ab; have e1 : s = x.1 := by simp [innNd, hx] at bG; exact bG.symm
      have cB : (innNd c0 ps).kids[i + 1]? = some x.2 := by simp [innNd, hx]
      have nV := n2 x (List.mem_of_getElem? hx); refine run_skip (run_seq (run_block (qN rfl (zqm rfl (qV (yfa fl130_1 rfl) (qV (yld U23 rfl rfl eZ rfl) (zqm rfl (qV (yis U23 ti9 rfl rfl (by omega)) (qV (yldc U9 rfl rfl (rd_str mV ab bG)) ?_))))))))); rw [e1]; refine qV (ylnS U9 rfl) (qV (ycv32 rfl U3 U89) ?_); rw [Nat.mod_eq_of_lt (show x.1.length < 4294967296 by omega)]; refine zqc [.tmp 46, .const (Value.int .i64 1)] cf140 rfl (number07_ret x.1.length 1 (by omega) (by omega) wi) ?_; rintro _ w6 ⟨rfl, aO⟩; have mX := bC.trans aO; have bD := aO.blk eZ; refine qV (ycatS rfl rfl (by first | omega | (simp; done) | (simp; omega))) ?_; refine zqa rfl (qM rfl (qV (yfa fl130_0 rfl) (qV (yld U4 rfl rfl bD rfl) (rEnd (run_false rfl ?_))))); have hg := Ext.drew0 w6; refine run_draw (fun w' => Ext w6 w') (by kernel_rfl) rfl (zqt 0 rfl (ymv rfl) hg (zqt 1 rfl (yfa fl130_1 rfl) hg (qT 2 rfl (fun _ h=>yld U23 rfl rfl (h.blk bD) rfl) hg (zqt 3 rfl (ymv rfl) hg (zqt 4 rfl (yis U23 ti9 rfl rfl (by omega)) hg (zqt 7 rfl (yfa fl130_3 rfl) hg (qT 8 rfl (fun _ h=>yld U82 rfl rfl (h.blk bD) rfl) hg (zqt 9 rfl (ymv rfl) hg (zqt 10 rfl (yad rfl rfl (by omega)) hg (qT 5 rfl (fun _ hS => yldc U9 rfl rfl (rd_str ((mV.ext aO).ext hS) ab bG)) hg ?_)))))))))); rw [e1]; refine zqt 6 rfl (ycatS rfl rfl (by first | omega | (simp; done) | (simp; omega))) hg ?_; refine zqt 11 rfl (yis U82 ti89 rfl rfl (show i + 1 < ps.length + 1 by omega)) hg ?_; refine qT 12 rfl (fun _ hS => yldc U89 rfl rfl (rd_u32 ((hC.ext mX).ext hS) (by omega) cB)) hg (zqo 13 [.tmp 85, .const (Value.int .i64 4)] rfl cf140 rfl (number07_ret x.2 4 (by omega) (by omega) _) ?_); rintro _ w7 ⟨rfl, aF⟩; refine ⟨hg.trans aF, ?_⟩; refine zqt 14 rfl (ycatS rfl rfl (by first | omega | (simp; done) | (simp; omega))) (hg.trans aF) ?_; refine zqt 15 rfl (yas rfl) (hg.trans aF) (qE (run_inBlock (run_reg rfl (zqm rfl (zqd rfl rfl (zqa rfl (rEnd ((ih (i + 1, _) w7 ⟨by dsimp only; omega, mX.trans (hg.trans aF), ?_⟩ (by dsimp only; omega)).qb)))))))); dsimp only; rw [bodyI_snoc hx, mW]; simp
     ·have e : i = ps.length := by omega
      subst e; rw [List.take_length] at mW; have aP : sx.length ≤ z := by rw [mW, ic]; exact fI
      refine run_exit rfl (qN rfl (zqm rfl (zqm rfl (zqm rfl (qV (ylnS U9 rfl) (qV (ysb rfl rfl (by omega)) ?_)))))); rw [show ((z : Int) - (sx.length : Int)) = ((z - sx.length : Nat) : Int) by omega]; refine rValP rfl rfl (pmk U123 ti5 rfl rfl rfl (Nat.le_refl _) (by omega) (by omega)) ?_; rintro _ w9 ⟨b9, rfl, ⟨rg, fM, cZ⟩, bJ⟩; refine qV (yB2S (l := List.replicate (z - sx.length) 0) U123 U5 U9 rfl cZ (by simp [u8v]) (by simp)) ?_; refine qV (ycatS rfl rfl (by first | omega | (simp; done) | (simp; omega))) ?_; refine zqa rfl (zqa rfl (rEnd (run_ret Tryz.func116 rfl (⟨_, rfl, (ay.trans bC).trans fM, .inl ⟨aQ, ?_⟩⟩)))); simp only [resVal, enc, rawN_inn, mW]
 ·rw [if_neg aQ]; refine qV (yne rfl rfl) (rEnd (run_if rfl (fun h0 => ?_) (fun h0 => ?_)))
  ·refine qN rfl (zqa rfl (zqa rfl (rEnd (run_ret Tryz.func116 rfl ?_)))); exact ⟨_, rfl, ay, .inr ⟨aQ, rfl⟩⟩
  ·exact absurd (by decide) h0
end
structure DdN (w0 w : World) (b4 b5 b6 b9 : Nat) (lf : Bool) (ks vs : List Bytes) (cs : List Nat) (kv vv cv : Value) : Prop where
 blk : Blk w b9 [.bool lf, kv, vv, cv] 130
 k : Sl w kv 9 1 ks.length (ks.map S)
 v : Sl w vv 9 1 vs.length (vs.map S)
 c : Sl w cv 89 1 cs.length (cs.map u32v)
 low : ∀ g, kv.ownBlock = some g ∨ vv.ownBlock = some g ∨ cv.ownBlock = some g → w0.heap.size ≤ g ∧ g ≠ b4 ∧ g ≠ b5 ∧ g ≠ b6 ∧ g ≠ b9
 d2 : ∀ g, kv.ownBlock = some g → vv.ownBlock ≠ some g ∧ cv.ownBlock ≠ some g
 d3 : ∀ g, vv.ownBlock = some g → cv.ownBlock ≠ some g
 n9 : w0.heap.size ≤ b9 ∧ b9 ≠ b4 ∧ b9 ≠ b5 ∧ b9 ≠ b6
 n4 : b4 < w.heap.size ∧ b5 < w.heap.size ∧ b6 < w.heap.size
section
variable {w0 w w' w1 w2 w3 w4 : World} {b4 b5 b6 b9 : Nat} {lf : Bool} {ks vs : List Bytes} {cs : List Nat} {kv vv cv kv2 : Value}
theorem DdN.kp {S : Nat → Prop} (h : DdN w0 w b4 b5 b6 b9 lf ks vs cs kv vv cv) (k : Kp S w w') (hs : ∀ g, S g → g = b4 ∨ g = b5) : DdN w0 w' b4 b5 b6 b9 lf ks vs cs kv vv cv := by
 have hz := k.size
 refine ⟨k.blk h.blk (fun e => (hs _ e).elim h.n9.2.1 h.n9.2.2.1), h.k.kp k (fun g hg e => ?_), h.v.kp k (fun g hg e => ?_), h.c.kp k (fun g hg e => ?_), h.low, h.d2, h.d3, h.n9, by have := h.n4; omega⟩
 ·have := h.low g (.inl hg); exact (hs g e).elim this.2.1 this.2.2.1
 ·have := h.low g (.inr (.inl hg)); exact (hs g e).elim this.2.1 this.2.2.1
 ·have := h.low g (.inr (.inr hg)); exact (hs g e).elim this.2.1 this.2.2.1
theorem DdN.ext (h : DdN w0 w b4 b5 b6 b9 lf ks vs cs kv vv cv) (k : Ext w w') : DdN w0 w' b4 b5 b6 b9 lf ks vs cs kv vv cv := h.kp k (fun _ e => e.elim)
theorem DdN.pushK (h0 : w0.heap.size ≤ w1.heap.size) (h : DdN w0 w1 b4 b5 b6 b9 lf ks vs cs kv vv cv) {x : Bytes} {u : Value} (hx : Ext w1 w2) (hs : Sl w3 u 9 1 (ks ++ [x]).length ((ks ++ [x]).map S)) (hk : Kp (fun g => kv.ownBlock = some g) w2 w3) (ho : ∀ g, u.ownBlock = some g → kv.ownBlock = some g ∨ w2.heap.size ≤ g) (hl : Blk w4 b9 [.bool lf, u, vv, cv] 130) (az : Kp (fun g => g = b9) w3 w4) :
  DdN w0 w4 b4 b5 b6 b9 lf (ks ++ [x]) vs cs u vv cv ∧ Kp (fun g => g = b9 ∨ kv.ownBlock = some g) w1 w4 := by
 have ac : Kp (fun g => g = b9 ∨ kv.ownBlock = some g) w1 w4 := (hx.kp.trans (hk.mono' (fun g e => .inr e))).trans (az.mono' (fun g e => .inl e))
 have hz := hx.size
 have eQ := ac.size
 have rg := h.blk.lt
 have nU := h.n4
 have yT := h.n9
 have hu : ∀ g, u.ownBlock = some g → w0.heap.size ≤ g ∧ g ≠ b4 ∧ g ≠ b5 ∧ g ≠ b6 ∧ g ≠ b9 := fun g hg => by
  rcases ho g hg with e | e
  ·exact h.low g (.inl e)
  ·exact ⟨by omega, by omega, by omega, by omega, by omega⟩
 refine ⟨⟨hl, hs.kp az (fun g hg e => (hu g hg).2.2.2.2 e), h.v.kp ac (fun g hg e => e.elim (h.low g (.inr (.inl hg))).2.2.2.2 (fun e => (h.d2 g e).1 hg)), h.c.kp ac (fun g hg e => e.elim (h.low g (.inr (.inr hg))).2.2.2.2 (fun e => (h.d2 g e).2 hg)), ?_, ?_, ?_, h.n9, by omega⟩, ac⟩
 ·exact fun g hg => by
   rcases hg with hg | hg | hg
   ·exact hu g hg
   ·exact h.low g (.inr (.inl hg))
   ·exact h.low g (.inr (.inr hg))
 ·exact fun g hg => by
   rcases ho g hg with e | e
   ·exact h.d2 g e
   ·exact ⟨fun hg => by have := h.v.lt hg; omega, fun hg => by have := h.c.lt hg; omega⟩
 ·exact h.d3
theorem DdN.pushV (h0 : w0.heap.size ≤ w1.heap.size) (h : DdN w0 w1 b4 b5 b6 b9 lf ks vs cs kv vv cv) {x : Bytes} {u : Value} (hx : Ext w1 w2) (hs : Sl w3 u 9 1 (vs ++ [x]).length ((vs ++ [x]).map S)) (hk : Kp (fun g => vv.ownBlock = some g) w2 w3) (ho : ∀ g, u.ownBlock = some g → vv.ownBlock = some g ∨ w2.heap.size ≤ g) (hl : Blk w4 b9 [.bool lf, kv, u, cv] 130) (az : Kp (fun g => g = b9) w3 w4) :
  DdN w0 w4 b4 b5 b6 b9 lf ks (vs ++ [x]) cs kv u cv ∧ Kp (fun g => g = b9 ∨ vv.ownBlock = some g) w1 w4 := by
 have ac : Kp (fun g => g = b9 ∨ vv.ownBlock = some g) w1 w4 := (hx.kp.trans (hk.mono' (fun g e => .inr e))).trans (az.mono' (fun g e => .inl e))
 have hz := hx.size
 have eQ := ac.size
 have rg := h.blk.lt
 have nU := h.n4
 have yT := h.n9
 have hu : ∀ g, u.ownBlock = some g → w0.heap.size ≤ g ∧ g ≠ b4 ∧ g ≠ b5 ∧ g ≠ b6 ∧ g ≠ b9 := fun g hg => by
  rcases ho g hg with e | e
  ·exact h.low g (.inr (.inl e))
  ·exact ⟨by omega, by omega, by omega, by omega, by omega⟩
 refine ⟨⟨hl, h.k.kp ac (fun g hg e => e.elim (h.low g (.inl hg)).2.2.2.2 (fun e => (h.d2 g hg).1 e)), hs.kp az (fun g hg e => (hu g hg).2.2.2.2 e), h.c.kp ac (fun g hg e => e.elim (h.low g (.inr (.inr hg))).2.2.2.2 (fun e => h.d3 g e hg)), ?_, ?_, ?_, h.n9, by omega⟩, ac⟩
 ·exact fun g hg => by
   rcases hg with hg | hg | hg
   ·exact h.low g (.inl hg)
   ·exact hu g hg
   ·exact h.low g (.inr (.inr hg))
 ·exact fun g hg => ⟨fun ag => by
   rcases ho g ag with e | e
   ·exact (h.d2 g hg).1 e
   ·have := h.k.lt hg; omega, (h.d2 g hg).2⟩
 ·exact fun g hg => by
   rcases ho g hg with e | e
   ·exact h.d3 g e
   ·exact fun hg => by have := h.c.lt hg; omega
theorem DdN.pushC (h0 : w0.heap.size ≤ w1.heap.size) (h : DdN w0 w1 b4 b5 b6 b9 lf ks vs cs kv vv cv) {x : Nat} {u : Value} (hx : Ext w1 w2) (hs : Sl w3 u 89 1 (cs ++ [x]).length ((cs ++ [x]).map u32v)) (hk : Kp (fun g => cv.ownBlock = some g) w2 w3) (ho : ∀ g, u.ownBlock = some g → cv.ownBlock = some g ∨ w2.heap.size ≤ g) (hl : Blk w4 b9 [.bool lf, kv, vv, u] 130) (az : Kp (fun g => g = b9) w3 w4) :
  DdN w0 w4 b4 b5 b6 b9 lf ks vs (cs ++ [x]) kv vv u ∧ Kp (fun g => g = b9 ∨ cv.ownBlock = some g) w1 w4 := by
 have ac : Kp (fun g => g = b9 ∨ cv.ownBlock = some g) w1 w4 := (hx.kp.trans (hk.mono' (fun g e => .inr e))).trans (az.mono' (fun g e => .inl e))
 have hz := hx.size
 have eQ := ac.size
 have rg := h.blk.lt
 have nU := h.n4
 have yT := h.n9
 have hu : ∀ g, u.ownBlock = some g → w0.heap.size ≤ g ∧ g ≠ b4 ∧ g ≠ b5 ∧ g ≠ b6 ∧ g ≠ b9 := fun g hg => by
  rcases ho g hg with e | e
  ·exact h.low g (.inr (.inr e))
  ·exact ⟨by omega, by omega, by omega, by omega, by omega⟩
 refine ⟨⟨hl, h.k.kp ac (fun g hg e => e.elim (h.low g (.inl hg)).2.2.2.2 (fun e => (h.d2 g hg).2 e)), h.v.kp ac (fun g hg e => e.elim (h.low g (.inr (.inl hg))).2.2.2.2 (fun e => h.d3 g hg e)), hs.kp az (fun g hg e => (hu g hg).2.2.2.2 e), ?_, ?_, ?_, h.n9, by omega⟩, ac⟩
 ·exact fun g hg => by
   rcases hg with hg | hg | hg
   ·exact h.low g (.inl hg)
   ·exact h.low g (.inr (.inl hg))
   ·exact hu g hg
 ·exact fun g hg => ⟨(h.d2 g hg).1, fun ag => by
   rcases ho g ag with e | e
   ·exact (h.d2 g hg).2 e
   ·have := h.k.lt hg; omega⟩
 ·exact fun g hg ag => by
   rcases ho g ag with e | e
   ·exact h.d3 g hg e
   ·have := h.v.lt hg; omega
end
section
variable {w : World}
set_option maxHeartbeats 8000000 in
theorem rdecode_ret (s : Bytes) (gX : s.length ≤ 140737488355328) (w : World) : Ret Tryz.prog 86 [S s] w fun v w' => Ext w w' ∧ ((∃ n kv vv cv, dec s = some n ∧ v = .tuple #[ndv n kv vv cv, I 0] ∧ NdP w' n kv vv cv ∧ ∀ g, kv.ownBlock = some g ∨ vv.ownBlock = some g ∨ cv.ownBlock = some g → w.heap.size ≤ g) ∨ (dec s = none ∧ v = .tuple #[.agg #[.bool false, .slice none 0 0, .slice none 0 0, .slice none 0 0], I 4])) := by
 have dL : maxLen = 9223372036854775807 := rfl
 refine ret_of_run (e := [(0, _)]) Tryz.func86 rfl Tryz.ntmps86 rfl rfl (qN rfl (rValP rfl rfl (pal (cs := [_, _, _, _]) ti130 rfl) ?_))
 rintro _ w1 ⟨b2, rfl, cQ, aa, ak⟩
 have eI := aa.size
 have jX := ak.lt
 have cJ : ∀ {w' w'' : World} {cs : List Value}, Ext w1 w' → Kp (fun i => i = b2) w' w'' → Ext w w'' := fun h k => (aa.trans h).trans_new k (fun i hi => by omega)
 refine zqa rfl (rEnd (run_seq (run_seq (run_cut (fun e' w' => ∃ q : Bool, e' = [(0, S s), (2, ptr b2 0), (29, .bool q)] ∧ w' = w1 ∧ (q = true → dec s = none) ∧ (q = false → sizeOk (s.length : Int))) ?k7 (fun k7 => ?DD)))))
 case k7 =>
  rintro e' w1 ⟨q, rfl, rfl, dw, i0⟩; refine run_cond rfl (fun hq => ?_) (fun hq => ?_)
  ·refine qN rfl (qV (ybd (parts := []) (cs := [_, _, _, _]) ti130 rfl sp130 rfl rfl) (rEffP rfl (zstA ti130 rfl rfl rfl rfl ak (by simp)) ?_)); rintro w2 ⟨aG, aw⟩; refine zqa rfl (rEnd (run_retR Tryz.func86 (.cell U130 rfl ti130 rfl (Blk.cells (n := 4) aG (news := [_, _, _, _]) rfl) rfl (.tmp rfl .nil)) ?_)); exact ⟨_, rfl, aa.trans_new aw (fun i hi => by omega), .inr ⟨dw hq, rfl⟩⟩
  ·have hz := i0 hq; obtain ⟨z1, z2, -⟩ := id hz; obtain ⟨s1, gY⟩ : ∃ s1, s.drop 1 = s1 := ⟨_, rfl⟩; have Dh : s1.length + 1 = s.length := by rw [← gY, List.length_drop]; omega
   have rh : 511 ≤ s1.length ∧ s1.length ≤ 4095 := by omega
   have e1 : tx 1 s false = (s.take 1, s1, false) := by rw [tx_ok (by omega), gY]
   have e2 : tx 2 s1 false = (s1.take 2, s1.drop 2, false) := tx_ok (by omega); have e3 : tx 4 (s1.drop 2) false = ((s1.drop 2).take 4, (s1.drop 2).drop 4, false) := tx_ok (by rw [List.length_drop]; omega); obtain ⟨BK, BL⟩ := lg_init hz e1 e2 e3
   have In : valB (s.take 1) = (s.getD 0 0).toNat := by
    cases s with
    | nil => simp at Dh
    | cons a r => simp [valB]
   rw [In] at BK BL; have Di := tx_le e2; have yU := tx_le e3; obtain ⟨N, hN⟩ : ∃ N, valB (s1.take 2) = N := ⟨_, rfl⟩
   have Io : N < 65536 := by
    have := valB_lt (s1.take 2); have h2 : 256 ^ (s1.take 2).length ≤ 256 ^ 2 := Nat.pow_le_pow_right (by omega) Di.1; omega
   refine run_skip (qN rfl (zqm rfl (qV (yixS U9 rfl rfl (by omega)) (qV (yeq rfl rfl) ?_)))); obtain ⟨lf, dE⟩ : ∃ lf, decide ((((s.getD 0 0).toNat : Nat) : Int) = 1) = lf := ⟨_, rfl⟩; rw [dE]; refine qV (ybd (parts := [(0, .tmp 33)]) (cs := [_, _, _, _]) ti130 rfl sp130 rfl rfl) (rValP rfl rfl (pal (cs := [_, _, _, _]) ti130 rfl) ?_); rintro _ w3 ⟨b9, rfl, rg, ah, aG⟩; refine rEffP rfl (zstA ti130 rfl rfl rfl rfl aG (by simp)) ?_; rintro w4 ⟨aW, az⟩; replace aW : Blk w4 b9 [.bool lf, .slice none 0 0, .slice none 0 0, .slice none 0 0] 130 := aW; have aC : Ext w1 w4 := ah.trans_new az (fun i hi => by omega); have jq := aC.size; have yd : DdN w1 w4 b2 b2 b2 b9 lf [] [] [] (.slice none 0 0) (.slice none 0 0) (.slice none 0 0) := ⟨aW, Sl.nil _ _ _, Sl.nil _ _ _, Sl.nil _ _ _, fun g hg => by simp [Value.ownBlock] at hg, fun g hg => by simp [Value.ownBlock] at hg, fun g hg => by simp [Value.ownBlock] at hg, ⟨by omega, by omega, by omega, by omega⟩, by omega⟩; refine qM rfl (zqm rfl (qV (yslS U9 rfl rfl rfl (by omega)) ?_)); rw [gY]; refine zqc [.tmp 36] cf114 rfl (value_ret (s1.take 2) (by omega) w4) ?_; rintro _ w4 ⟨rfl, rfl⟩; rw [hN]; refine zqa rfl (qM rfl (zqm rfl (qV (yslSf U9 rfl rfl (by omega)) (zqa rfl (rEnd (run_seq (qN rfl (qV (yfa fl130_0 rfl) (qV (yld U4 rfl rfl aW rfl) (qV ((by first | exact yntd rfl | exact ynt rfl)) ?_)))))))))); refine rEnd ?_; rw [show s.drop 3 = s1.drop 2 by rw [← gY, List.drop_drop]]; refine run_cut (fun e' w' => ∃ cs cv r, e' = [(0, S s), (2, ptr b2 0), (4, ptr b9 0), (5, I (N : Int)), (6, S r)] ∧ DdN w1 w' b2 b2 b2 b9 lf [] [] cs (.slice none 0 0) (.slice none 0 0) cv ∧ Lg s.length s lf [] [] cs N r false ∧ Ext w1 w' ∧ (∀ c ∈ cs, c < 4294967296) ∧ cs.length ≤ 1 ∧ r.length ≤ s.length) ?qZ (fun qZ => ?DC)
   case qZ =>
    rintro e' w5 ⟨cs0, cv0, r0, rfl, Dj, vt, BM, vu, vw, vx⟩; refine run_seq (qN rfl (zqa rfl (rEnd (run_block (run_cut2 (fun e' w' => ∃ ks vs cs kv vv cv r, e' = [(0, S s), (2, ptr b2 0), (4, ptr b9 0)] ∧ DdN w1 w' b2 b2 b2 b9 lf ks vs cs kv vv cv ∧ Lg s.length s lf ks vs cs 0 r false ∧ Ext w1 w' ∧ Nd.Bd ⟨lf, ks, vs, cs⟩) ?xi (fun xi => ?vC))))))
    case xi =>
     rintro e' w13 ⟨ks, vs, cs, kv, vv, cv, r, rfl, iV, hL, aq, bj⟩; obtain ⟨ka, kac, k7, -⟩ := iV.k.rd.shape; obtain ⟨va, vac, vy, -⟩ := iV.v.rd.shape; obtain ⟨ca, cac, vz, -⟩ := iV.c.rd.shape; subst k7; subst vy; subst vz; have ar := iV.blk; have hR : NdR w13 ⟨lf, ks, vs, cs⟩ (.slice ka ks.length kac) (.slice va vs.length vac) (.slice ca cs.length cac) := ⟨iV.k.rd, iV.v.rd, iV.c.rd⟩; refine qN rfl (qV (yldA U130 rfl ti130 rfl (Blk.cells (n := 4) ar (news := [_, _, _, _]) rfl) rfl) (zqm rfl (qV (ylnS U9 rfl) (zqc [.tmp 137, .tmp 139] cf116 rfl (rencode_ret (n := ⟨lf, ks, vs, cs⟩) hR bj hz) ?_)))); rintro vE w14 ⟨av, vA⟩; have gM := aq.trans av; have pt := av.blk ar; have lC := iV.ext av
     obtain ⟨tE, eE, rfl, yV⟩ : ∃ tE eE, vE = .tuple #[S tE, I eE] ∧ ((NdOk s.length ⟨lf, ks, vs, cs⟩ ∧ tE = enc s.length ⟨lf, ks, vs, cs⟩ ∧ eE = 0) ∨ (¬ NdOk s.length ⟨lf, ks, vs, cs⟩ ∧ eE = 1)) := by
      rcases vA with ⟨h, rfl⟩ | ⟨h, rfl⟩
      ·exact ⟨_, _, rfl, .inl ⟨h, rfl, rfl⟩⟩
      ·exact ⟨_, _, rfl, .inr ⟨h, rfl⟩⟩
     have bK : (eE ≠ 0 ∨ tE ≠ s) → dec s = none := fun h => by
      cases e : dec s with
      | none => rfl
      | some n =>
        obtain ⟨g1, g2⟩ := lg_end rfl hL (.inl rfl) e; obtain ⟨-, g3, g4⟩ := dec_some.1 e; subst g2; rcases yV with ⟨h1, h2, h3⟩ | ⟨h1, -⟩
        ·rcases h with h | h
         ·exact absurd h3 h
         ·rw [h2] at h; exact absurd g4 h
        ·exact absurd g3.ok h1
     refine zqm rfl (qV (yex rfl rfl) (qV (yex rfl rfl) (zqa rfl (zqa rfl (rEnd (run_seq (run_seq (run_cut (fun e' w' => ∃ q : Bool, e' = [(2, ptr b2 0), (4, ptr b9 0), (149, .bool q)] ∧ w' = w14 ∧ (q = true → dec s = none) ∧ (q = false → eE = 0 ∧ tE = s)) ?t8 (fun t8 => ?vB)))))))))
     case t8 =>
      rintro e' w15 ⟨q, rfl, rfl, dw, i0⟩; have pu := gM.blk ak; refine run_cond rfl (fun hq => ?_) (fun hq => ?_)
      ·refine qN rfl (qV (ybd (parts := []) (cs := [_, _, _, _]) ti130 rfl sp130 rfl rfl) (rEffP rfl (zstA ti130 rfl rfl rfl rfl pu (by simp)) ?_)); rintro w16 ⟨cH, fu⟩; refine zqa rfl (rEnd (run_retR Tryz.func86 (.cell U130 rfl ti130 rfl (Blk.cells (n := 4) cH (news := [_, _, _, _]) rfl) rfl (.tmp rfl .nil)) ?_)); exact ⟨_, rfl, (aa.trans gM).trans_new fu (fun i hi => by omega), .inr ⟨dw hq, rfl⟩⟩
      ·obtain ⟨g2, g3⟩ := i0 hq; refine run_skip (qN rfl (qV (yldA U130 rfl ti130 rfl (Blk.cells (n := 4) pt (news := [_, _, _, _]) rfl) rfl) (rEffP rfl (zstA ti130 rfl rfl rfl rfl pu (by simp)) ?_))); rintro w16 ⟨cH, fu⟩; refine zqa rfl (rEnd (run_retR Tryz.func86 (.cell U130 rfl ti130 rfl (Blk.cells (n := 4) cH (news := [_, _, _, _]) rfl) rfl (.tmp rfl .nil)) ?_))
       have lD : dec s = some ⟨lf, ks, vs, cs⟩ := by
        rcases yV with ⟨h1, h2, h3⟩ | ⟨h1, h3⟩
        ·exact dec_some.2 ⟨hz, ⟨h1, bj.cs⟩, by rw [← h2]; exact g3⟩
        ·omega
       have ce : ∀ g, (Value.slice ka ks.length kac).ownBlock = some g ∨ (Value.slice va vs.length vac).ownBlock = some g ∨ (Value.slice ca cs.length cac).ownBlock = some g → w.heap.size ≤ g ∧ g ≠ b2 := fun g hg => by
        have := iV.low g hg; omega
       refine ⟨_, rfl, (aa.trans gM).trans_new fu (fun i hi => by omega), .inl ⟨_, _, _, _, lD, rfl, ⟨lC.k.kp fu (fun g hg => (ce g (.inl hg)).2), lC.v.kp fu (fun g hg => (ce g (.inr (.inl hg))).2), lC.c.kp fu (fun g hg => (ce g (.inr (.inr hg))).2), bj, iV.d2, iV.d3⟩, fun g hg => (ce g hg).1⟩⟩
     case vB =>
      refine run_reg rfl (zqm rfl (qV (yne rfl rfl) (rVal_if (fun pw => ?_) (fun pw => ?_))))
      ·refine zqm rfl (qS (qS (qS (qV (ypT rfl rfl) (rEnd ?_))))); exact (t8 _ _ ⟨true, rfl, rfl, fun _ => bK (.inl pw), fun h => Bool.noConfusion h⟩).qb
      ·refine zqm rfl (zqm rfl (zqm rfl (qV (yneS rfl rfl) (qV (ypF rfl rfl) (rEnd ((t8 _ _ ⟨_, rfl, rfl, ?_, ?_⟩).qb))))))
       ·intro h; exact bK (.inr (by simpa using h))
       ·intro h; exact ⟨by omega, by simpa using h⟩
    case vC =>
     refine zqu (α := Nat × Bytes) ((0, r0)) (fun x => [(0, S s), (2, ptr b2 0), (4, ptr b9 0), (5, I (N : Int)), (6, S x.2), (7, I (x.1 : Int))]) (fun x w' => x.1 ≤ N ∧ ∃ ks vs cs kv vv cv, DdN w1 w' b2 b2 b2 b9 lf ks vs cs kv vv cv ∧ Lg s.length s lf ks vs cs (N - x.1) x.2 false ∧ Ext w1 w' ∧ (∀ c ∈ cs, c < 4294967296) ∧ (∀ k ∈ ks, k.length ≤ 4096) ∧ (∀ k ∈ vs, k.length ≤ 4096) ∧ ks.length + (N - x.1) < 65536 ∧ vs.length ≤ ks.length ∧ cs.length ≤ ks.length + 1 ∧ x.2.length ≤ s.length) (fun x => N - x.1) ?hI ?hround
     case hI => exact ⟨Nat.zero_le _, [], [], cs0, _, _, cv0, Dj, vt, BM, vu, by simp, by simp, by simpa using Io, by simp, by simpa using vw, vx⟩
     case hround =>
      rintro ⟨i, r⟩ wi ⟨hi, ks, vs, cs, kv, vv, cv, iV, hL, bC, s8, kZ, s6, cn, ei, cM, ic⟩ ih; dsimp only at hi hL cn ic; have s9 : Nd.Bd ⟨lf, ks, vs, cs⟩ := ⟨by dsimp only; omega, by dsimp only; omega, by dsimp only; omega, fun k hk => by have := kZ k hk; omega, fun k hk => by have := s6 k hk; omega, s8⟩; have vD := bC.size
      try dsimp only
      refine run_seq (qN rfl (zqm rfl (zqm rfl (qV (ylt rfl rfl) (rEnd (run_if rfl (fun af => ?_) (fun af => ?_)))))))
      ·have ab : i < N := by omega
       obtain ⟨c, hc⟩ : ∃ c, N - i = c + 1 := ⟨N - i - 1, by omega⟩; have cP : N - (i + 1) = c := by omega
       rw [hc] at hL cn; refine run_skip (run_seq (run_block (qN rfl (zqm rfl (zqc [.tmp 60, .const (Value.int .i64 1)] cf115 rfl (take07_ret r 1 wi) ?_))))); rintro va wa ⟨iG, xR⟩; have ie := bC.trans iG; have kU := iV.ext iG
       cases lf with
       | true =>
         rcases take_tx xR with ⟨rfl, ea⟩ | ⟨ta, ra, rfl, ea⟩
         ·refine zqm rfl (qV (yex rfl rfl) (qV (yex rfl rfl) (qV (yex rfl rfl) (zqa rfl (zqa rfl (zqa rfl (qM rfl (zqa rfl (rEnd (run_seq (qN rfl (zqm rfl (zqm rfl ?_))))))))))))); refine qS (qS (qV (ypF rfl rfl) (rEnd (run_false rfl (run_skip (qN rfl (zqa rfl (rEnd (run_seq (qN rfl (zqm rfl (rEnd (run_false rfl ?_))))))))))))); refine run_skip (qN rfl (zqa rfl (rEnd (run_seq (qN rfl (zqm rfl (zqm rfl (qS (qS (qV (ypF rfl rfl) (rEnd (run_false rfl (run_skip ?_))))))))))))); refine run_seq (qN rfl (zqm rfl (zqm rfl (qS (qS (qS (qV (ypF rfl rfl) (rEnd (run_false rfl (run_skip (run_seq (qN rfl (zqm rfl ?_))))))))))))); refine qV ((by first | exact yntd rfl | exact ynt rfl)) ?_; refine rEnd (run_true rfl (qN rfl (qV (ybd (parts := []) (cs := [_, _, _, _]) ti130 rfl sp130 rfl rfl) (rEffP rfl (zstA ti130 rfl rfl rfl rfl (ie.blk ak) (by simp)) ?_)))); rintro wf4 ⟨Dk, Dl⟩; refine zqa rfl (rEnd (run_retR Tryz.func86 (.cell U130 rfl ti130 rfl (Blk.cells (n := 4) Dk (news := [_, _, _, _]) rfl) rfl (.tmp rfl .nil)) ?_)); exact ⟨_, rfl, (aa.trans ie).trans_new Dl (fun i hi => by omega), .inr ⟨lg_none_leaf hz rfl hL ea (tx_bad (.inl rfl)) (tx_bad (.inl rfl)) (tx_bad (.inl rfl)), rfl⟩⟩
         ·have Dm := tx_le ea; have ja := kU.blk; refine zqm rfl (qV (yex (v := S ta) rfl rfl) (qV (yex (v := S ra) rfl rfl) (qV (yex (v := .bool true) rfl rfl) (zqa rfl (zqa rfl (zqa rfl (qM rfl (zqa rfl (rEnd (run_seq (qN rfl (zqm rfl (zqm rfl ?_))))))))))))); refine qV (yfa fl130_0 rfl) (qV (yld U4 rfl rfl ja rfl) (qV (ypT rfl rfl) (rEnd (run_true rfl (run_reg rfl (zqm rfl (zqc [.tmp 71, .const (Value.int .i64 2)] cf115 rfl (take07_ret ra 2 wa) ?_))))))); rintro vb wb ⟨fw, sb⟩; rcases take_tx sb with ⟨rfl, eb⟩ | ⟨tb, rb, rfl, eb⟩
          ·refine zqm rfl (qV (yex rfl rfl) (qV (yex rfl rfl) (qV (yex rfl rfl) (zqa rfl (zqa rfl (zqa rfl (qM rfl (zqa rfl (rEnd (run_seq (qN rfl (zqm rfl (rEnd ?_))))))))))))); refine run_false rfl (run_skip (qN rfl (zqa rfl (rEnd (run_seq (qN rfl (zqm rfl (zqm rfl (qS (qS (qV (ypF rfl rfl) (rEnd (run_false rfl ?_))))))))))))); refine run_skip (run_seq (qN rfl (zqm rfl (zqm rfl (qS (qS (qS (qV (ypF rfl rfl) (rEnd (run_false rfl (run_skip (run_seq (qN rfl ?_))))))))))))); refine zqm rfl (qV ((by first | exact yntd rfl | exact ynt rfl)) ?_); refine rEnd (run_true rfl (qN rfl (qV (ybd (parts := []) (cs := [_, _, _, _]) ti130 rfl sp130 rfl rfl) (rEffP rfl (zstA ti130 rfl rfl rfl rfl ((ie.trans fw).blk ak) (by simp)) ?_)))); rintro wf3 ⟨Dn, Do⟩; refine zqa rfl (rEnd (run_retR Tryz.func86 (.cell U130 rfl ti130 rfl (Blk.cells (n := 4) Dn (news := [_, _, _, _]) rfl) rfl (.tmp rfl .nil)) ?_)); exact ⟨_, rfl, (aa.trans (ie.trans fw)).trans_new Do (fun i hi => by omega), .inr ⟨lg_none_leaf hz rfl hL ea eb (tx_bad (.inl rfl)) (tx_bad (.inl rfl)), rfl⟩⟩
          ·have BN := tx_le eb; have lE := ie.trans fw; have r6 := kU.ext fw; refine zqm rfl (qV (yex (v := S tb) rfl rfl) (qV (yex (v := S rb) rfl rfl) (qV (yex (v := .bool true) rfl rfl) (zqa rfl (zqa rfl (zqa rfl (qM rfl (zqa rfl (rEnd (run_seq (qN rfl (zqm rfl (rEnd ?_))))))))))))); refine run_true rfl (run_reg rfl (zqm rfl (zqm rfl (zqc [.tmp 79] cf114 rfl (value_ret ta (by omega) _) ?_)))); rintro _ wb ⟨rfl, rfl⟩; refine zqc [.tmp 78, .tmp 80] cf115 rfl (take07_ret rb (valB ta) wb) ?_; rintro vc wc ⟨fx, mu⟩; rcases take_tx mu with ⟨rfl, ec⟩ | ⟨tc, rc, rfl, ec⟩
           ·refine zqm rfl (qV (yex rfl rfl) (qV (yex rfl rfl) (qV (yex rfl rfl) (zqa rfl (zqa rfl (zqa rfl (qM rfl (zqa rfl (rEnd (run_seq (qN rfl (zqm rfl (zqm rfl ?_))))))))))))); refine qS (qS (qV (ypF rfl rfl) (rEnd (run_false rfl (run_skip (run_seq (qN rfl (zqm rfl (zqm rfl (qS (qS (qS (qV (ypF rfl rfl) ?_))))))))))))); refine rEnd (run_false rfl (run_skip (run_seq (qN rfl (zqm rfl (qV ((by first | exact yntd rfl | exact ynt rfl)) ?_)))))); refine rEnd (run_true rfl (qN rfl (qV (ybd (parts := []) (cs := [_, _, _, _]) ti130 rfl sp130 rfl rfl) (rEffP rfl (zstA ti130 rfl rfl rfl rfl ((lE.trans fx).blk ak) (by simp)) ?_)))); rintro wf2 ⟨Dp, Dq⟩; refine zqa rfl (rEnd (run_retR Tryz.func86 (.cell U130 rfl ti130 rfl (Blk.cells (n := 4) Dp (news := [_, _, _, _]) rfl) rfl (.tmp rfl .nil)) ?_)); exact ⟨_, rfl, (aa.trans (lE.trans fx)).trans_new Dq (fun i hi => by omega), .inr ⟨lg_none_leaf hz rfl hL ea eb ec (tx_bad (.inl rfl)), rfl⟩⟩
           ·have xj := tx_le ec; have lF := lE.trans fx; have ri := r6.ext fx; have yN := ri.blk; refine zqm rfl (qV (yex (v := S tc) rfl rfl) (qV (yex (v := S rc) rfl rfl) (qV (yex (v := .bool true) rfl rfl) (zqa rfl (zqa rfl (zqa rfl (qM rfl (zqa rfl (rEnd (run_seq (qN rfl (zqm rfl (zqm rfl ?_))))))))))))); refine qV (yfa fl130_0 rfl) (qV (yld U4 rfl rfl yN rfl) (qV (ypT rfl rfl) (rEnd (run_true rfl (run_reg rfl (zqm rfl (zqm rfl (zqc [.tmp 92] cf114 rfl (value_ret tb (by omega) _) ?_)))))))); rintro _ wc ⟨rfl, rfl⟩; refine zqc [.tmp 91, .tmp 93] cf115 rfl (take07_ret rc (valB tb) wc) ?_; rintro vd wd ⟨BO, Ip⟩; rcases take_tx Ip with ⟨rfl, ed⟩ | ⟨td, rd, rfl, ed⟩
            ·refine zqm rfl (qV (yex rfl rfl) (qV (yex rfl rfl) (qV (yex rfl rfl) (zqa rfl (zqa rfl (zqa rfl (rEnd (run_seq (qN rfl (zqm rfl (zqm rfl (qS (qS ?_))))))))))))); refine qS (qV (ypF rfl rfl) (rEnd (run_false rfl (run_skip (run_seq (qN rfl (zqm rfl (qV ((by first | exact yntd rfl | exact ynt rfl)) ?_)))))))); refine rEnd (run_true rfl (qN rfl (qV (ybd (parts := []) (cs := [_, _, _, _]) ti130 rfl sp130 rfl rfl) (rEffP rfl (zstA ti130 rfl rfl rfl rfl ((lF.trans BO).blk ak) (by simp)) ?_)))); rintro wf1 ⟨px, Dr⟩; refine zqa rfl (rEnd (run_retR Tryz.func86 (.cell U130 rfl ti130 rfl (Blk.cells (n := 4) px (news := [_, _, _, _]) rfl) rfl (.tmp rfl .nil)) ?_)); exact ⟨_, rfl, (aa.trans (lF.trans BO)).trans_new Dr (fun i hi => by omega), .inr ⟨lg_none_leaf hz rfl hL ea eb ec ed, rfl⟩⟩
            ·have Iq := tx_le ed; have vF := lF.trans BO; have lG := ri.ext BO; have Gj := lG.blk; have Kv := vF.size; refine zqm rfl (qV (yex (v := S td) rfl rfl) (qV (yex (v := S rd) rfl rfl) (qV (yex (v := .bool true) rfl rfl) (zqa rfl (zqa rfl (zqa rfl (rEnd (run_seq (qN rfl (zqm rfl (zqm rfl (qV (yfa fl130_0 rfl) (qV (yld U4 rfl rfl Gj rfl) ?_))))))))))))); refine qV ((by first | exact yntd rfl | exact ynt rfl)) ?_; refine qV (ypT rfl rfl) (rEnd (run_false rfl (run_skip (run_seq (qN rfl (zqm rfl (qV ((by first | exact yntd rfl | exact ynt rfl)) ?_))))))); refine rEnd (run_false rfl (run_skip (qN rfl (zqm rfl (zqa rfl (qM rfl (qV (yfa fl130_1 rfl) (qV (yld U23 rfl rfl Gj rfl) (zqm rfl (rValP rfl rfl (pbs (parts := [(0, .tmp 116)]) (cs := [_]) (zs := [Value.string ⟨#[]⟩]) U23 ti9 rfl (by kernel_rfl) rfl rfl rfl (by decide)) ?_)))))))))); rintro _ w30 ⟨bq30, rfl, ⟨te, df, tf⟩, k8⟩; refine rValP rfl rfl (pap U23 ti9 rfl (by decide) rfl rfl (lG.k.ext df) k8.rd (by intro c hc; simp at hc; subst hc; rfl) (by omega) (by omega)) ?_; rintro u30 w31 ⟨fN, fO, k9, -⟩; have ke := fO.blk (df.blk lG.blk) (fun e => (lG.low _ (.inl e)).2.2.2.2 rfl); refine qV (yfa fl130_1 rfl) (rEffP rfl (zst ti23 rfl rfl (oneV_sl fN) ke (by simp)) ?_); rintro w32 ⟨kf, kg⟩; have pz := vF.size; have vG : Sl w31 u30 9 1 (ks ++ [tc]).length ((ks ++ [tc]).map S) := by rw [List.length_append, List.map_append]; exact fN
             have vH := DdN.pushK (w4 := w32) (x := tc) pz lG df vG fO k9; have vI := vH kf kg; obtain ⟨cC, iH⟩ := vI; have eS : Ext w1 w32 := vF.trans_new iH (fun i hi => hi.elim (fun e => by have := lG.n9.1; omega) (fun e => (lG.low i (.inl e)).1)); have pA := eS.size; have pB := cC.blk; refine qM rfl (qV (yfa fl130_0 rfl) (qV (yld U4 rfl rfl pB rfl) (rEnd (run_true rfl (run_reg rfl (qV (yfa fl130_2 rfl) (qV (yld U23 rfl rfl pB rfl) (zqm rfl (rValP rfl rfl (pbs (parts := [(0, .tmp 124)]) (cs := [_]) (zs := [Value.string ⟨#[]⟩]) U23 ti9 rfl (by kernel_rfl) rfl rfl rfl (by decide)) ?_))))))))); rintro _ w40 ⟨bq40, rfl, ⟨yW, fP, yX⟩, pC⟩; refine rValP rfl rfl (pap U23 ti9 rfl (by decide) rfl rfl (cC.v.ext fP) pC.rd (by intro c hc; simp at hc; subst hc; rfl) (by omega) (by omega)) ?_; rintro u40 w41 ⟨kh, ki, pD, -⟩; have pE := ki.blk (fP.blk cC.blk) (fun e => (cC.low _ (.inr (.inl e))).2.2.2.2 rfl); refine qV (yfa fl130_2 rfl) (rEffP rfl (zst ti23 rfl rfl (oneV_sl kh) pE (by simp)) ?_); rintro w42 ⟨pF, pG⟩; have yY := eS.size; have vJ : Sl w41 u40 9 1 (vs ++ [td]).length ((vs ++ [td]).map S) := by rw [List.length_append, List.map_append]; exact kh
             have vK := DdN.pushV (w4 := w42) (x := td) yY cC fP vJ ki pD; have vL := vK pF pG; obtain ⟨kj, iI⟩ := vL; have iJ : Ext w1 w42 := eS.trans_new iI (fun i hi => hi.elim (fun e => by have := cC.n9.1; omega) (fun e => (cC.low i (.inr (.inl e))).1)); have tg := iJ.size; refine rEnd (run_inBlock (run_reg rfl (zqm rfl (zqd rfl rfl (zqa rfl (rEnd ((ih (i + 1, rd) w42 ⟨by dsimp only; omega, _, _, _, _, _, _, kj, by dsimp only; rw [cP]; exact lg_leaf hz hL ea eb ec ed, iJ, s8, fun k hk => ?_, fun k hk => ?_, ?_, ?_, ?_, by dsimp only; omega⟩ (by dsimp only; omega)).qb)))))))
             ·rcases List.mem_append.1 hk with hk | hk
              ·exact kZ k hk
              ·simp at hk; subst hk; omega
             ·rcases List.mem_append.1 hk with hk | hk
              ·exact s6 k hk
              ·simp at hk; subst hk; omega
             ·simp; omega
             ·simp; omega
             ·simp; omega
       | false =>
         rcases take_tx xR with ⟨rfl, ea⟩ | ⟨ta, ra, rfl, ea⟩
         ·refine zqm rfl (qV (yex rfl rfl) (qV (yex rfl rfl) (qV (yex rfl rfl) (zqa rfl (zqa rfl (zqa rfl (qM rfl (zqa rfl (rEnd (run_seq (qN rfl (zqm rfl (zqm rfl ?_))))))))))))); refine qS (qS (qV (ypF rfl rfl) (rEnd (run_false rfl (run_skip (qN rfl (zqa rfl (rEnd (run_seq (qN rfl (zqm rfl (rEnd (run_false rfl ?_))))))))))))); refine run_skip (qN rfl (zqa rfl (rEnd (run_seq (qN rfl (zqm rfl (zqm rfl (qS (qS (qV (ypF rfl rfl) (rEnd (run_false rfl (run_skip ?_))))))))))))); refine run_seq (qN rfl (zqm rfl (zqm rfl (qS (qS (qS (qV (ypF rfl rfl) (rEnd (run_false rfl (run_skip (run_seq (qN rfl (zqm rfl ?_))))))))))))); refine qV ((by first | exact yntd rfl | exact ynt rfl)) ?_; refine rEnd (run_true rfl (qN rfl (qV (ybd (parts := []) (cs := [_, _, _, _]) ti130 rfl sp130 rfl rfl) (rEffP rfl (zstA ti130 rfl rfl rfl rfl (ie.blk ak) (by simp)) ?_)))); rintro wf7 ⟨Ds, Dt⟩; refine zqa rfl (rEnd (run_retR Tryz.func86 (.cell U130 rfl ti130 rfl (Blk.cells (n := 4) Ds (news := [_, _, _, _]) rfl) rfl (.tmp rfl .nil)) ?_)); exact ⟨_, rfl, (aa.trans ie).trans_new Dt (fun i hi => by omega), .inr ⟨lg_none_inn hz rfl hL ea (tx_bad (.inl rfl)) (tx_bad (.inl rfl)), rfl⟩⟩
         ·have Dm := tx_le ea; have ja := kU.blk; refine zqm rfl (qV (yex (v := S ta) rfl rfl) (qV (yex (v := S ra) rfl rfl) (qV (yex (v := .bool true) rfl rfl) (zqa rfl (zqa rfl (zqa rfl (qM rfl (zqa rfl (rEnd (run_seq (qN rfl (zqm rfl (zqm rfl ?_))))))))))))); refine qV (yfa fl130_0 rfl) (qV (yld U4 rfl rfl ja rfl) (qV (ypT rfl rfl) (rEnd (run_false rfl (run_skip (qN rfl (zqa rfl (rEnd (run_seq (qN rfl (zqm rfl (rEnd (run_true rfl ?_))))))))))))); refine run_reg rfl (zqm rfl (zqm rfl (zqc [.tmp 79] cf114 rfl (value_ret ta (by omega) _) ?_))); rintro _ wa ⟨rfl, rfl⟩; refine zqc [.tmp 78, .tmp 80] cf115 rfl (take07_ret ra (valB ta) wa) ?_; rintro vb wb ⟨fw, sb⟩; rcases take_tx sb with ⟨rfl, eb⟩ | ⟨tb, rb, rfl, eb⟩
          ·refine zqm rfl (qV (yex rfl rfl) (qV (yex rfl rfl) (qV (yex rfl rfl) (zqa rfl (zqa rfl (zqa rfl (qM rfl (zqa rfl (rEnd (run_seq (qN rfl (zqm rfl (zqm rfl ?_))))))))))))); refine qS (qS (qV (ypF rfl rfl) (rEnd (run_false rfl (run_skip (run_seq (qN rfl (zqm rfl (zqm rfl (qS (qS (qS (qV (ypF rfl rfl) ?_))))))))))))); refine rEnd (run_false rfl (run_skip (run_seq (qN rfl (zqm rfl (qV ((by first | exact yntd rfl | exact ynt rfl)) ?_)))))); refine rEnd (run_true rfl (qN rfl (qV (ybd (parts := []) (cs := [_, _, _, _]) ti130 rfl sp130 rfl rfl) (rEffP rfl (zstA ti130 rfl rfl rfl rfl ((ie.trans fw).blk ak) (by simp)) ?_)))); rintro wf6 ⟨pH, Du⟩; refine zqa rfl (rEnd (run_retR Tryz.func86 (.cell U130 rfl ti130 rfl (Blk.cells (n := 4) pH (news := [_, _, _, _]) rfl) rfl (.tmp rfl .nil)) ?_)); exact ⟨_, rfl, (aa.trans (ie.trans fw)).trans_new Du (fun i hi => by omega), .inr ⟨lg_none_inn hz rfl hL ea eb (tx_bad (.inl rfl)), rfl⟩⟩
          ·have BN := tx_le eb; have lE := ie.trans fw; have r6 := kU.ext fw; have iF := r6.blk; refine zqm rfl (qV (yex (v := S tb) rfl rfl) (qV (yex (v := S rb) rfl rfl) (qV (yex (v := .bool true) rfl rfl) (zqa rfl (zqa rfl (zqa rfl (qM rfl (zqa rfl (rEnd (run_seq (qN rfl (zqm rfl (zqm rfl ?_))))))))))))); refine qV (yfa fl130_0 rfl) (qV (yld U4 rfl rfl iF rfl) (qV (ypT rfl rfl) (rEnd (run_false rfl (run_skip (run_seq (qN rfl (zqm rfl (zqm rfl (qV (yfa fl130_0 rfl) (qV (yld U4 rfl rfl iF rfl) (qV ((by first | exact yntd rfl | exact ynt rfl)) ?_)))))))))))); refine qV (ypT rfl rfl) (rEnd (run_true rfl (run_reg rfl (zqm rfl (zqc [.tmp 105, .const (Value.int .i64 4)] cf115 rfl (take07_ret rb 4 wb) ?_))))); rintro vc wc ⟨fx, mu⟩; rcases take_tx mu with ⟨rfl, ec⟩ | ⟨tc, rc, rfl, ec⟩
           ·refine zqm rfl (qV (yex rfl rfl) (qV (yex rfl rfl) (qV (yex rfl rfl) (zqa rfl (zqa rfl (zqa rfl (rEnd (run_seq (qN rfl (zqm rfl (qV ((by first | exact yntd rfl | exact ynt rfl)) ?_))))))))))); refine rEnd (run_true rfl (qN rfl (qV (ybd (parts := []) (cs := [_, _, _, _]) ti130 rfl sp130 rfl rfl) (rEffP rfl (zstA ti130 rfl rfl rfl rfl ((lE.trans fx).blk ak) (by simp)) ?_)))); rintro wf5 ⟨Dv, Dw⟩; refine zqa rfl (rEnd (run_retR Tryz.func86 (.cell U130 rfl ti130 rfl (Blk.cells (n := 4) Dv (news := [_, _, _, _]) rfl) rfl (.tmp rfl .nil)) ?_)); exact ⟨_, rfl, (aa.trans (lE.trans fx)).trans_new Dw (fun i hi => by omega), .inr ⟨lg_none_inn hz rfl hL ea eb ec, rfl⟩⟩
           ·have xj := tx_le ec; have lF := lE.trans fx; have ri := r6.ext fx; have yN := ri.blk; have bR := lF.size
            have Dx : valB tc < 4294967296 := Nat.lt_of_lt_of_le (valB_lt tc) (by
             have : 256 ^ tc.length ≤ 256 ^ 4 := Nat.pow_le_pow_right (by omega) xj.1
             omega)
            refine zqm rfl (qV (yex (v := S tc) rfl rfl) (qV (yex (v := S rc) rfl rfl) (qV (yex (v := .bool true) rfl rfl) (zqa rfl (zqa rfl (zqa rfl (rEnd (run_seq (qN rfl (zqm rfl (qV ((by first | exact yntd rfl | exact ynt rfl)) ?_))))))))))); refine rEnd (run_false rfl (run_skip (qN rfl (zqm rfl (zqa rfl (qM rfl (qV (yfa fl130_1 rfl) (qV (yld U23 rfl rfl yN rfl) (zqm rfl (rValP rfl rfl (pbs (parts := [(0, .tmp 116)]) (cs := [_]) (zs := [Value.string ⟨#[]⟩]) U23 ti9 rfl (by kernel_rfl) rfl rfl rfl (by decide)) ?_)))))))))); rintro _ w30 ⟨bq30, rfl, ⟨te, df, tf⟩, k8⟩; refine rValP rfl rfl (pap U23 ti9 rfl (by decide) rfl rfl (ri.k.ext df) k8.rd (by intro c hc; simp at hc; subst hc; rfl) (by omega) (by omega)) ?_; rintro u30 w31 ⟨fN, fO, k9, -⟩; have ke := fO.blk (df.blk ri.blk) (fun e => (ri.low _ (.inl e)).2.2.2.2 rfl); refine qV (yfa fl130_1 rfl) (rEffP rfl (zst ti23 rfl rfl (oneV_sl fN) ke (by simp)) ?_); rintro w32 ⟨kf, kg⟩; have pz := lF.size; have vG : Sl w31 u30 9 1 (ks ++ [tb]).length ((ks ++ [tb]).map S) := by rw [List.length_append, List.map_append]; exact fN
            have vH := DdN.pushK (w4 := w32) (x := tb) pz ri df vG fO k9; have vI := vH kf kg; obtain ⟨cC, iH⟩ := vI; have eS : Ext w1 w32 := lF.trans_new iH (fun i hi => hi.elim (fun e => by have := ri.n9.1; omega) (fun e => (ri.low i (.inl e)).1)); have pA := eS.size; have pB := cC.blk; refine qM rfl (qV (yfa fl130_0 rfl) (qV (yld U4 rfl rfl pB rfl) (rEnd (run_false rfl ?_)))); have hg := Ext.drew0 w32; refine run_drawL [6,8] (fun w' => Ext w32 w') (by kernel_rfl) rfl (qL [1, 6, 7, 8] 0 rfl (fun _ h=>yfa fl130_3 rfl) hg (qL [6, 7, 8] 1 rfl (fun _ h=>yld U82 rfl rfl (h.blk pB) rfl) hg (qL [3, 4, 5, 6, 7, 8] 2 rfl (fun _ h=>ymv rfl) hg (hOneL (i := 3) (by kernel_rfl) (nCallL (i := 3) rfl rfl rfl (yc (args := [.tmp 130]) cf114 rfl) (value_ret tc xj.1 _) ?_))))); rintro _ w35 ⟨rfl, vM⟩; refine ⟨(by rw [vM]; exact hg), ?_⟩; have sd : Ext w32 w35 := by rw [vM]; exact hg
            have mY := cC.ext sd; refine qL [5, 6, 7, 8] 4 rfl (fun _ h=>ycv32 rfl U3 U89) ((by rw [vM]; exact hg)) ?_; have Ir : valB tc % 4294967296 = valB tc := Nat.mod_eq_of_lt Dx; simp only [Ir]; refine hOneL (i := 5) (by kernel_rfl) (nValPL (i := 5) rfl rfl rfl (pbs (parts := [(0, .tmp 132)]) (cs := [_]) (zs := [Value.int .u32 0]) U82 ti89 rfl (by kernel_rfl) rfl rfl rfl (by decide)) ?_); rintro _ w36 ⟨b36, rfl, ⟨Is, je, se⟩, Dy⟩; refine ⟨sd.trans je, ?_⟩; refine hLate [6] (by kernel_rfl) (by kernel_rfl) (qO 6 (nValP (i := 6) rfl rfl rfl (pap U82 ti89 rfl (by decide) rfl rfl (mY.c.ext je) Dy.rd (by intro c hc; simp at hc; subst hc; rfl) (by omega) (by omega)) ?_)); rintro u37 w37 ⟨yZ, sf, Dz, -⟩; refine ⟨trivial, ?_⟩; have z6 := sf.blk (je.blk mY.blk) (fun e => (mY.low _ (.inr (.inr e))).2.2.2.2 rfl); refine zqt 7 rfl (yfa fl130_3 rfl) trivial (qO 8 (nEffP (i := 8) rfl rfl (zst ti82 rfl rfl (oneV_sl yZ) z6 (by simp)) ?_)); rintro w38 ⟨DA, DB⟩; refine ⟨trivial, ?_⟩; have Iu := sd.size; have vJ : Sl w37 u37 89 1 (cs ++ [valB tc]).length ((cs ++ [valB tc]).map u32v) := by rw [List.length_append, List.map_append]; exact yZ
            have z7 : w1.heap.size ≤ w35.heap.size := by omega
            have vK := DdN.pushC (w4 := w38) (x := valB tc) z7 mY je vJ sf Dz; have vL := vK DA DB; obtain ⟨kj, iI⟩ := vL; have iJ : Ext w1 w38 := (eS.trans sd).trans_new iI (fun i hi => hi.elim (fun e => by have := mY.n9.1; omega) (fun e => (mY.low i (.inr (.inr e))).1)); refine qE (run_inBlock (run_reg rfl (zqm rfl (zqd rfl rfl (zqa rfl (rEnd ((ih (i + 1, rc) w38 ⟨by dsimp only; omega, _, _, _, _, _, _, kj, by dsimp only; rw [cP]; exact lg_inn hz hL ea eb ec, iJ, fun k hk => ?_, fun k hk => ?_, s6, ?_, ?_, ?_, by dsimp only; omega⟩ (by dsimp only; omega)).qb)))))))
            ·rcases List.mem_append.1 hk with hk | hk
             ·exact s8 k hk
             ·simp at hk; subst hk; omega
            ·rcases List.mem_append.1 hk with hk | hk
             ·exact kZ k hk
             ·simp at hk; subst hk; omega
            ·simp; omega
            ·simp; omega
            ·simp; omega
      ·have : i = N := by omega
       subst this; rw [Nat.sub_self] at hL; refine run_exit rfl ?_; exact (xi _ _ ⟨_, _, _, _, _, _, _, rfl, iV, hL, bC, s9⟩).qb
   case DC =>
    cases lf with
    | true =>
      have fZ : (s.getD 0 0).toNat = 1 := by have := of_decide_eq_true dE; omega
      refine run_false rfl (run_skip ?_)
      exact (qZ _ _ ⟨[], _, s1.drop 2, rfl, yd, by rw [← hN]; exact BK fZ, aC, by simp, by simp, by omega⟩).qb
    | false =>
      have fZ : (s.getD 0 0).toNat ≠ 1 := fun e => of_decide_eq_false dE (by omega); have di : (s1.drop 2).length + 2 = s1.length := by rw [List.length_drop]; omega
      have mu : valB ((s1.drop 2).take 4) < 4294967296 := Nat.lt_of_lt_of_le (valB_lt _) (by
       have : 256 ^ ((s1.drop 2).take 4).length ≤ 256 ^ 4 := Nat.pow_le_pow_right (by omega) yU.1
       omega)
      have ud : ([] : List Nat).length = 0 := rfl; have hg := Ext.drew0 w4; refine run_true rfl (run_seq (run_drawL [7,9] (fun w' => Ext w4 w') (by kernel_rfl) rfl (qL [1, 7, 8, 9] 0 rfl (fun _ h=>yfa fl130_3 rfl) hg (qL [7, 8, 9] 1 rfl (fun _ h=>yld U82 rfl rfl (h.blk aW) rfl) hg (qL [3, 4, 5, 6, 7, 8, 9] 2 rfl (fun _ h=>ymv rfl) hg (qL [4, 5, 6, 7, 8, 9] 3 rfl (fun _ h=>yslSt U9 rfl rfl (by omega)) hg (hOneL (i := 4) (by kernel_rfl) (nCallL (i := 4) rfl rfl rfl (yc (args := [.tmp 46]) cf114 rfl) (value_ret ((s1.drop 2).take 4) yU.1 _) ?_)))))))); rintro _ w5 ⟨rfl, th⟩; refine ⟨(by rw [th]; exact hg), ?_⟩; have a8 : Ext w4 w5 := by rw [th]; exact hg
      have mK := yd.ext a8; refine qL [6, 7, 8, 9] 5 rfl (fun _ h=>ycv32 rfl U3 U89) ((by rw [th]; exact hg)) ?_; rw [Nat.mod_eq_of_lt mu]; refine hOneL (i := 6) (by kernel_rfl) (nValPL (i := 6) rfl rfl rfl (pbs (parts := [(0, .tmp 48)]) (cs := [_]) (zs := [Value.int .u32 0]) U82 ti89 rfl (by kernel_rfl) rfl rfl rfl (by decide)) ?_); rintro _ w6 ⟨b6, rfl, ⟨rI, aO, bD⟩, fW⟩; refine ⟨a8.trans aO, ?_⟩; refine hLate [7] (by kernel_rfl) (by kernel_rfl) (qO 7 (nValP (i := 7) rfl rfl rfl (pap U82 ti89 rfl (by decide) rfl rfl (mK.c.ext aO) fW.rd (by intro c hc; simp at hc; subst hc; rfl) (by omega) (by omega)) ?_)); rintro u7 w7 ⟨cX, bg, km, -⟩; refine ⟨trivial, ?_⟩; have Iv := bg.blk (aO.blk mK.blk) (fun e => (mK.low _ (.inr (.inr e))).2.2.2.2 rfl); refine zqt 8 rfl (yfa fl130_3 rfl) trivial (qO 9 (nEffP (i := 9) rfl rfl (zst ti82 rfl rfl (oneV_sl cX) Iv (by simp)) ?_)); rintro w8 ⟨d8, bc⟩; refine ⟨trivial, ?_⟩; have kW := a8.size; obtain ⟨yC, cR⟩ := DdN.pushC (by omega) mK aO (by rw [List.length_append, List.map_append]; exact cX) bg km d8 bc; have au : Ext w1 w8 := (aC.trans a8).trans_new cR (fun i hi => hi.elim (fun e => by have := mK.n9.1; omega) (fun e => (mK.low i (.inr (.inr e))).1)); refine qE (Run.qb (e := [(0, _), (2, _), (4, _), (5, _), (6, _)]) ?_); refine run_reg rfl (zqm rfl (qV (yslSf U9 rfl rfl (by omega)) (zqa rfl (rEnd ?_)))); exact (qZ _ _ ⟨_, _, (s1.drop 2).drop 4, rfl, yC, by rw [← hN]; exact BL fZ, au, by simpa using mu, by simp, by omega⟩).qb
 case DD =>
  refine run_reg rfl (zqm rfl (qV (ylnS U9 rfl) (zqc [.tmp 17] cf23 rfl (rsize_ret _ w1) ?_))); rintro _ w1 ⟨rfl, rfl⟩; by_cases hz : sizeOk (s.length : Int)
  ·rw [if_pos hz]; have Cp : 0 < s.length := by have := hz.1; omega
   have z8 : ((s.getD 0 0).toNat ≠ 1 ∧ (s.getD 0 0).toNat ≠ 2) → dec s = none := fun h => by
    cases e : dec s with
    | none => rfl
    | some n =>
      obtain ⟨-, g2, g3⟩ := dec_some.1 e; rcases nd_cases g2.ok with ⟨es, rfl⟩ | ⟨c, ps, rfl⟩
      ·rw [enc_leaf] at g3; rw [← g3] at h; exact absurd rfl h.1
      ·rw [enc_inn g2.ok] at g3; rw [← g3] at h; exact absurd rfl h.2
   refine qV (yne rfl rfl) (rVal_if (fun h0 => ?_) (fun h0 => ?_))
   ·exact absurd rfl h0
   ·refine zqm rfl (zqm rfl (qV (yixS U9 rfl rfl (by omega)) (qV (yne rfl rfl) (rVal_if (fun aD => ?_) (fun aD => ?_)))))
    ·refine zqm rfl (zqm rfl (qV (yixS U9 rfl rfl (by omega)) (qV (yne rfl rfl) (rVal_if (fun am => ?_) (fun am => ?_)))))
     ·refine qV (ypT rfl rfl) (qV (ypF rfl rfl) (rEnd ?_)); exact (k7 _ _ ⟨true, rfl, rfl, fun _ => z8 ⟨by omega, by omega⟩, fun h => Bool.noConfusion h⟩).qb
     ·refine qV (ypT rfl rfl) (qV (ypF rfl rfl) (rEnd ?_)); exact (k7 _ _ ⟨false, rfl, rfl, fun h => Bool.noConfusion h, fun _ => hz⟩).qb
    ·refine zqm rfl (qS (qS (qS (qV (ypF rfl rfl) (qV (ypF rfl rfl) (rEnd ?_)))))); exact (k7 _ _ ⟨false, rfl, rfl, fun h => Bool.noConfusion h, fun _ => hz⟩).qb
  ·rw [if_neg hz]; refine qV (yne rfl rfl) (rVal_if (fun h0 => ?_) (fun h0 => ?_))
   ·refine zqm rfl (qS (qS (qS (qS (qS (qS (qS (qS (qV (ypT rfl rfl) (rEnd ?_)))))))))); exact (k7 _ _ ⟨true, rfl, rfl, fun _ => dec_none.2 (fun n h1 _ _ => hz h1), fun h => Bool.noConfusion h⟩).qb
   ·exact absurd (by decide) h0
end
def esC (es : Es) : List Value := es.flatMap fun x => [S x.1, S x.2]
theorem esC_app (a b : Es) : esC (a ++ b) = esC a ++ esC b := by simp [esC]
theorem esC_one (x : Bytes × Bytes) : esC [x] = [S x.1, S x.2] := rfl
def ESl (w : World) (v : Value) (es : Es) : Prop := Sl w v 49 2 es.length (esC es)
structure RgC (w : World) (p : Nat) (m : Nat) (f : Bytes) (bt bl bm bf bp : Nat) (v : Value) (out : Es) : Prop where
 t : Blk w bt [ptr p 0] 24
 l : Blk w bl [v] 45
 m : Blk w bm [I (m : Int)] 3
 f : Blk w bf [S f] 9
 g : Blk w bp [.func (.func 49) #[] #[ptr bt 0, ptr bl 0, ptr bm 0, ptr bf 0, ptr bp 0]] 80
 s : ESl w v out
 n1 : bl ≠ bt ∧ bl ≠ bm ∧ bl ≠ bf ∧ bl ≠ bp
 n2 : ∀ g, v.ownBlock = some g → g ≠ bt ∧ g ≠ bl ∧ g ≠ bm ∧ g ≠ bf ∧ g ≠ bp
theorem RgC.ext {w w' : World} {p m : Nat} {f : Bytes} {bt bl bm bf bp : Nat} {v : Value} {out : Es} (h : RgC w p m f bt bl bm bf bp v out) (k : Ext w w') : RgC w' p m f bt bl bm bf bp v out :=
 ⟨k.blk h.t, k.blk h.l, k.blk h.m, k.blk h.f, k.blk h.g, h.s.ext k, h.n1, h.n2⟩
structure RgQ (w w' : World) (bl : Nat) (v v' : Value) : Prop where
 kp : Kp (fun k => k = bl ∨ v.ownBlock = some k) w w'
 own : ∀ g, v'.ownBlock = some g → v.ownBlock = some g ∨ w.heap.size ≤ g
theorem RgQ.refl (w : World) (bl : Nat) (v : Value) : RgQ w w bl v v := ⟨Kp.refl _ _, fun g hg => .inl hg⟩
theorem RgQ.ext {w w1 w2 : World} {bl : Nat} {v v1 : Value} (h : RgQ w w1 bl v v1) (k : Ext w1 w2) : RgQ w w2 bl v v1 := ⟨h.kp.trans k.kp, h.own⟩
theorem RgQ.trans {w w1 w2 : World} {bl : Nat} {v v1 v2 : Value} (h : RgQ w w1 bl v v1) (k : RgQ w1 w2 bl v1 v2) : RgQ w w2 bl v v2 :=
 ⟨h.kp.trans_new k.kp (fun i hi => by
  rcases hi with e | e
  ·exact .inr (.inl e)
  ·exact (h.own i e).elim (fun e => .inr (.inr e)) .inl), fun g hg => by
  rcases k.own g hg with e | e
  ·exact h.own g e
  ·have := h.kp.size; exact .inr (by omega)⟩
theorem RgC.push {w1 w2 w3 w4 : World} {p m : Nat} {f : Bytes} {bt bl bm bf bp : Nat} {v v2 : Value} {out : Es} {x : Bytes × Bytes} (h : RgC w1 p m f bt bl bm bf bp v out) (hx : Ext w1 w2) (hs : ESl w3 v2 (out ++ [x])) (hk : Kp (fun k => v.ownBlock = some k) w2 w3) (ho : ∀ g, v2.ownBlock = some g → v.ownBlock = some g ∨ w2.heap.size ≤ g) (hl : Blk w4 bl [v2] 45) (az : Kp (fun k => k = bl) w3 w4) : RgC w4 p m f bt bl bm bf bp v2 (out ++ [x]) ∧ RgQ w1 w4 bl v v2 := by
 have ac : Kp (fun k => k = bl ∨ v.ownBlock = some k) w1 w4 := (hx.kp.trans (hk.mono' (fun k h => .inr h))).trans (az.mono' (fun k h => .inl h))
 have hz := hx.size
 have l1 := h.t.lt
 have l2 := h.l.lt
 have l3 := h.m.lt
 have l4 := h.f.lt
 have l5 := h.g.lt
 have aZ : ∀ b, b ≠ bl → (∀ g, v.ownBlock = some g → g ≠ b) → ¬ (b = bl ∨ v.ownBlock = some b) := fun b h1 h2 h => h.elim h1 (fun e => h2 b e rfl)
 refine ⟨⟨ac.blk h.t (aZ _ h.n1.1.symm (fun g hg => (h.n2 g hg).1)), hl, ac.blk h.m (aZ _ h.n1.2.1.symm (fun g hg => (h.n2 g hg).2.2.1)), ac.blk h.f (aZ _ h.n1.2.2.1.symm (fun g hg => (h.n2 g hg).2.2.2.1)), ac.blk h.g (aZ _ h.n1.2.2.2.symm (fun g hg => (h.n2 g hg).2.2.2.2)), ?_, h.n1, fun g hg => ?_⟩, ac, fun g hg => (ho g hg).imp id (fun e => by omega)⟩
 ·refine Sl.kp hs az (fun g hg e => ?_); rcases ho g hg with e' | e'
  ·exact (h.n2 g e').2.1 e
  ·omega
 ·rcases ho g hg with e' | e'
  ·exact h.n2 g e'
  ·exact ⟨by omega, by omega, by omega, by omega, by omega⟩
theorem rd_getsN {w : World} {a : Option Addr} {cap n : Nat} {l : List Bytes} {i : Nat} (h : Rd w (.slice a n cap) 1 n (l.map S)) (hn : n = l.length) (hi : i < n) : ∃ b off s, a = some ⟨b, off, none⟩ ∧ l[i]? = some s := by
 subst hn; exact rd_gets h hi
def RgAt (p : Nat) (m : Nat) (f : Bytes) (bt bl bm bf bp : Nat) (H : Nat) : Prop := ∀ (w : World) (T : Tr) (nb : Int → Nat) (F : Nat → Prop) (no : Int) (lo : Bytes) (hi : Option Bytes) (ns : List Int) (es out : Es) (v : Value),
 TreeA w p T nb F → RgC w p m f bt bl bm bf bp v out → ¬ F bl → (∀ g, v.ownBlock = some g → ¬ F g) → Bn T.size T.nodes H no lo hi ns es → out.length + es.length ≤ 1000000 →
 Ret Tryz.prog 49 [I no, ptr bt 0, ptr bl 0, ptr bm 0, ptr bf 0, ptr bp 0] w fun val w' => val = .tuple #[] ∧ ∃ v', RgC w' p m f bt bl bm bf bp v' (takeR m f out es) ∧ RgQ w w' bl v v'
section
variable {w : World}
set_option maxHeartbeats 4000000 in
theorem rgAt_leaf {p m : Nat} {f : Bytes} {bt bl bm bf bp : Nat} (hm : m ≤ 9223372036854775807) : RgAt p m f bt bl bm bf bp 1 := by
 intro w T nb F no lo hi ns E out v h hc fi vN hB aP
 have hz : sizeOk (T.size : Int) := size_ok h
 obtain ⟨z1, z2, -⟩ := id hz
 obtain ⟨hn, j9, aQ, D8, vi⟩ := hB.leaf (by omega)
 obtain ⟨mN, mC, mO, gv, kn, kc, ko, O⟩ := h.opn
 obtain ⟨q, hq, hM, fj, -⟩ := h.nodeF hn
 obtain ⟨qb, qk, qv, qc⟩ := q
 dsimp only at hq
 subst hq
 have ar := hM.blk
 have hK := hM.keys
 have hV := hM.vals
 dsimp only at ar hK hV
 have ei : (leafNd E).vals.length = E.length := by simp [leafNd]
 have cn : (leafNd E).keys.length = E.length := by simp [leafNd]
 rw [ei] at hV
 rw [cn] at hK
 have dt : E.length ≤ 100000 := by have := hM.bd.kl; omega
 have bW := hc.t
 obtain ⟨ka, kcp, Iw, -⟩ := hK.rd.shape
 obtain ⟨va, vcp, Ix, -⟩ := hV.rd.shape
 subst Iw
 subst Ix
 have xl : ∀ g, Pl.fp ⟨nb no, .slice ka E.length kcp, .slice va E.length vcp, qc⟩ g → F g := fun g hg => (fj g hg).1
 refine ret_of_run (e := [(0, _), (1, _), (2, _), (3, _), (4, _), (5, _)]) Tryz.func49 rfl Tryz.ntmps49 rfl rfl (qN rfl (qV ((by first | exact yld U24 rfl rfl bW rfl | exact yld U24 rfl rfl O.blk rfl | exact yld U24 rfl rfl ar rfl)) ?_))
 refine qV (ynk rfl) (qV (yfa fl74_5 rfl) (qV ((by first | exact yld U71 rfl rfl bW rfl | exact yld U71 rfl rfl O.blk rfl | exact yld U71 rfl rfl ar rfl)) ?_))
 refine zqm rfl (qV (ylk (k := no) (K := KZ) U71 (ky_int U3) ti81 rfl rfl O.nm.l) ?_)
 rw [show (getL kn no).getD (.pointer none) = ptr (nb no) 0 by rw [O.ng no, hn]; rfl]
 refine zqa rfl (rEnd (run_seq (qN rfl (zqm rfl (qV (ynk rfl) (qV (yfa fl84_0 rfl) (qV ((by first | exact yld U4 rfl rfl bW rfl | exact yld U4 rfl rfl O.blk rfl | exact yld U4 rfl rfl ar rfl)) ?_)))))))
 refine rEnd (run_true rfl (run_seq (qN rfl (zqm rfl (qV (ynk rfl) (qV (yfa fl84_1 rfl) (qV ((by first | exact yld U23 rfl rfl bW rfl | exact yld U23 rfl rfl O.blk rfl | exact yld U23 rfl rfl ar rfl)) ?_)))))))
 refine qV (yln U23 rfl) (zqm rfl (rEnd (run_block (zqu (α := Nat) (0) (fun i => [(1, ptr bt 0), (2, ptr bl 0), (3, ptr bm 0), (4, ptr bf 0), (5, ptr bp 0), (7, ptr (nb no) 0), (24, .slice ka E.length kcp), (25, I (E.length : Int)), (26, I (i : Int))]) (fun i w' => i ≤ E.length ∧ ∃ v', RgC w' p m f bt bl bm bf bp v' (takeR m f out (E.take i)) ∧ RgQ w w' bl v v') (fun i => E.length - i) ?hI ?hround))))
 case hI => exact ⟨Nat.zero_le _, v, by rw [List.take_zero, takeR_nil]; exact hc, RgQ.refl _ _ _⟩
 case hround =>
  rintro i w1 ⟨fV, v1, cD, dw⟩ ih; obtain ⟨va1, vc1, fZ, -⟩ := Sl.rd cD.s |>.shape; subst fZ; have vO : ∀ g, F g → ¬ (g = bl ∨ v.ownBlock = some g) := fun g hg e => e.elim (fun e => fi (e ▸ hg)) (fun e => vN g e hg); have xm := hK.kp dw.kp (fun g hg => vO g (xl g (.inr (.inl hg)))); have mZ := hV.kp dw.kp (fun g hg => vO g (xl g (.inr (.inr (.inl hg))))); have cS := dw.kp.blk ar (vO _ (xl _ (.inl rfl))); have ig := cD.l; have g0 := cD.m; have px := cD.f; have nX := takeR_len m f out (E.take i); have DE : (E.take i).length ≤ E.length := by rw [List.length_take]; omega
  try dsimp only
  refine qN rfl (qV (ylt rfl rfl) (rEnd (run_seq (run_if rfl (fun af => ?_) (fun af => ?_)))))
  ·have ab : i < E.length := by omega
   obtain ⟨x, hx⟩ : ∃ x, E[i]? = some x := ⟨_, List.getElem?_eq_getElem ab⟩; obtain ⟨lb, lo', s, rfl, bG⟩ := rd_getsN xm.rd (by simp [leafNd]) ab; obtain ⟨lb2, lo2, s2, rfl, cB⟩ := rd_getsN mZ.rd (by simp [leafNd]) ab; have es : s = x.1 := by simp [leafNd, hx] at bG; exact bG.symm
   have es2 : s2 = x.2 := by simp [leafNd, hx] at cB; exact cB.symm
   have bA : takeR m f out (E.take (i + 1)) = takeR m f (takeR m f out (E.take i)) [x] := by
    obtain ⟨h1, h2⟩ := List.getElem?_eq_some_iff.1 hx; rw [takeR_app, List.take_succ_eq_append_getElem h1, h2]
   refine run_skip (run_seq (run_block (qN rfl (zqm rfl (qV (yis U23 ti9 rfl rfl (by omega)) (qV (yldc U9 rfl rfl (rd_str xm.rd ab bG)) ?_)))))); rw [es]; refine zqa rfl (zqa rfl (qM rfl (qV ((by first | exact yld U45 rfl rfl ig rfl | exact yld U45 rfl rfl g0 rfl | exact yld U45 rfl rfl px rfl)) ?_))); refine qV (yln U45 rfl) (qV ((by first | exact yld U3 rfl rfl ig rfl | exact yld U3 rfl rfl g0 rfl | exact yld U3 rfl rfl px rfl)) ?_); refine qV (ylt rfl rfl) (rVal_if (fun h1 => ?_) (fun h1 => ?_))
   ·refine zqm rfl (zqm rfl (qV ((by first | exact yld U9 rfl rfl ig rfl | exact yld U9 rfl rfl g0 rfl | exact yld U9 rfl rfl px rfl)) ?_)); refine qV (ygeS rfl rfl) (qV (ypT rfl rfl) (rEnd (run_cond rfl (fun h2 => ?_) (fun h2 => ?_))))
    ·have js : lt x.1 f = false := by simpa using h2
     have ew := Ext.drew0 w1; refine run_drawL [11,12] (fun w' => Ext w1 w') (by kernel_rfl) rfl (qL [11, 12] 0 rfl (fun _ h=>(by first | exact yld U45 rfl rfl (h.blk ig) rfl | exact yld U45 rfl rfl (h.blk cS) rfl)) ew ?_); refine qL [9, 10, 11, 12] 1 rfl (fun _ h=>ymv rfl) ew (qL [3, 4, 5, 7, 8, 9, 10, 11, 12] 2 rfl (fun _ h=>ymv rfl) ew (qL [4, 5, 7, 8, 9, 10, 11, 12] 3 rfl (fun _ h=>ynk rfl) ew (qL [5, 7, 8, 9, 10, 11, 12] 4 rfl (fun _ h=>yfa fl84_2 rfl) ew (qL [7, 8, 9, 10, 11, 12] 5 rfl (fun _ h=>(by first | exact yld U23 rfl rfl (h.blk ig) rfl | exact yld U23 rfl rfl (h.blk cS) rfl)) ew ?_)))); refine qL [7, 8, 9, 10, 11, 12] 6 rfl (fun _ h=>ymv rfl) ew (qL [8, 9, 10, 11, 12] 7 rfl (fun _ h=>yis U23 ti9 rfl rfl (by omega)) ew (qL [9, 10, 11, 12] 8 rfl (fun _ h=>yldc U9 rfl rfl (rd_str (mZ.ext h).rd ab cB)) ew ?_)); rw [es2]; refine qL [10, 11, 12] 9 rfl (fun _ h=>ybd (parts := [(0, .tmp 41), (1, .tmp 48)]) (cs := [_, _]) ti49 rfl sp49 rfl rfl) ew (hOneL (i := 10) (by kernel_rfl) (nValPL (i := 10) rfl rfl rfl (pbs (parts := [(0, .tmp 49)]) (cs := [_, _]) (zs := [Value.string ⟨#[]⟩, Value.string ⟨#[]⟩]) U45 ti49 rfl (by kernel_rfl) rfl rfl rfl (by decide)) ?_)); rintro _ w2 ⟨b2, rfl, ⟨cQ, ae, ak⟩, bB⟩; refine ⟨ew.trans ae, ?_⟩; have lx := ew.trans ae; have dL : maxLen = 9223372036854775807 := rfl; refine hLate [11] (by kernel_rfl) (by kernel_rfl) (qO 11 (nValP (i := 11) rfl rfl rfl (pap U45 ti49 rfl (by decide) rfl rfl (Sl.ext cD.s lx) bB.rd (by intro c hc; simp at hc; rcases hc with rfl | rfl <;> rfl) (by omega) (by omega)) ?_)); rintro v2 w3 ⟨bs, aw, gu, -⟩; refine ⟨trivial, ?_⟩; have aG := aw.blk (lx.blk ig) (fun e => (cD.n2 _ e).2.1 rfl); refine qO 12 (nEffP (i := 12) rfl rfl (zst ti45 rfl rfl (oneV_sl bs) aG (by simp)) ?_); rintro w4 ⟨aW, az⟩; refine ⟨trivial, ?_⟩; refine qE (run_inBlock (run_reg rfl (zqd rfl rfl (zqm rfl (rEnd ?_)))))
     have hp := cD.push lx (v2 := v2) (x := x) (by
      unfold ESl; rw [esC_app, esC_one, List.length_append]
      exact bs) aw gu aW az
     exact (ih (i + 1) w4 ⟨by omega, v2, by rw [bA, takeR_one (by omega) js]; exact hp.1, dw.trans hp.2⟩ (by omega)).qb
    ·have js : lt x.1 f = true := by simpa using h2
     refine run_skip (run_inBlock (run_reg rfl (zqd rfl rfl (zqm rfl (rEnd ?_))))); exact (ih (i + 1) w1 ⟨by omega, _, by rw [bA, takeR_not (out := takeR m f out (E.take i)) (es := [x]) (by intro y hy; simp at hy; subst hy; exact js)]; exact cD, dw⟩ (by omega)).qb
   ·refine zqm rfl (qS (qS (qS (qV (ypF rfl rfl) (rEnd (run_false rfl (run_skip (run_inBlock (run_reg rfl (zqd rfl rfl (zqm rfl (rEnd ?_)))))))))))); exact (ih (i + 1) w1 ⟨by omega, _, by rw [bA, takeR_full (out := takeR m f out (E.take i)) (es := [x]) (by omega)]; exact cD, dw⟩ (by omega)).qb
  ·have e : i = E.length := by omega
   subst e; rw [List.take_length] at cD dw; refine run_exit rfl (run_ret Tryz.func49 rfl ?_); exact ⟨_, rfl, rfl, _, cD, dw⟩
theorem flatMap_take_len {α β : Type} (L : List α) (f : α → List β) (i : Nat) : ((L.take i).flatMap f).length ≤ (L.flatMap f).length := by
 conv => rhs; rw [← List.take_append_drop i L, List.flatMap_append, List.length_append]
 omega
set_option maxHeartbeats 4000000 in
theorem rgAt_inner {p m : Nat} {f : Bytes} {bt bl bm bf bp H : Nat} (hm : m ≤ 9223372036854775807) (ih : RgAt p m f bt bl bm bf bp (H + 1)) : RgAt p m f bt bl bm bf bp (H + 2) := by
 intro w T nb F no lo hi ns es out v h hc fi vN hB aP
 have hz : sizeOk (T.size : Int) := size_ok h
 obtain ⟨z1, z2, -⟩ := id hz
 obtain ⟨c, ps, ns1, hn, rfl, dR, Iy, Kw, cA, aR, xn⟩ := hB.inner (by omega)
 obtain ⟨L, hL, kq, rfl, rfl⟩ := (ch_iff hi).1 xn
 obtain ⟨mN, mC, mO, gv, kn, kc, ko, O⟩ := h.opn
 obtain ⟨q, hq, hM, fj, -⟩ := h.nodeF hn
 obtain ⟨qb, qk, qv, qc⟩ := q
 dsimp only at hq
 subst hq
 have ar := hM.blk
 have hC := hM.kids
 dsimp only at ar hC
 have kcl : (innNd c ps).kids.length = ps.length + 1 := by simp [innNd]
 rw [kcl] at hC
 obtain ⟨gc, cc, rfl⟩ := some_of hC (by omega)
 have dv : ps.length ≤ 100000 := by have := hM.bd.cl; omega
 have D6 := wayI_le (ps.map (·.1)) f
 rw [List.length_map] at D6
 have bW := hc.t
 have ti := hc.f
 have Iz := way_before (k := f) hL kq (fun x l u n e s => (Bn.keys s).1)
 have xl : ∀ g, Pl.fp ⟨nb no, qk, qv, .slice (some ⟨gc, 0, none⟩) (ps.length + 1) cc⟩ g → F g := fun g hg => (fj g hg).1
 have pI := h.lt
 refine ret_of_run (e := [(0, _), (1, _), (2, _), (3, _), (4, _), (5, _)]) Tryz.func49 rfl Tryz.ntmps49 rfl rfl (qN rfl (qV ((by first | exact yld U24 rfl rfl bW rfl | exact yld U24 rfl rfl O.blk rfl | exact yld U24 rfl rfl ar rfl | exact yld U24 rfl rfl ti rfl)) ?_))
 refine qV (ynk rfl) (qV (yfa fl74_5 rfl) (qV ((by first | exact yld U71 rfl rfl bW rfl | exact yld U71 rfl rfl O.blk rfl | exact yld U71 rfl rfl ar rfl | exact yld U71 rfl rfl ti rfl)) ?_))
 refine zqm rfl (qV (ylk (k := no) (K := KZ) U71 (ky_int U3) ti81 rfl rfl O.nm.l) ?_)
 rw [show (getL kn no).getD (.pointer none) = ptr (nb no) 0 by rw [O.ng no, hn]; rfl]
 refine zqa rfl (rEnd (run_seq (qN rfl (zqm rfl (qV (ynk rfl) (qV (yfa fl84_0 rfl) (qV ((by first | exact yld U4 rfl rfl bW rfl | exact yld U4 rfl rfl O.blk rfl | exact yld U4 rfl rfl ar rfl | exact yld U4 rfl rfl ti rfl)) ?_)))))))
 refine rEnd (run_false rfl (run_skip (qN rfl (zqm rfl (qV ((by first | exact yld U9 rfl rfl bW rfl | exact yld U9 rfl rfl O.blk rfl | exact yld U9 rfl rfl ar rfl | exact yld U9 rfl rfl ti rfl)) ?_)))))
 refine zqc [.tmp 53, .tmp 54] cf46 rfl (way_ret f ar hM.r hM.bd dR.2) ?_
 rintro _ w ⟨rfl, rfl⟩
 rw [show wayI (innNd c ps).keys f = wayI (ps.map (·.1)) f from rfl]
 refine zqa rfl (rEnd (run_block (zqu (α := Nat) (wayI (ps.map (·.1)) f) (fun i => [(1, ptr bt 0), (2, ptr bl 0), (3, ptr bm 0), (4, ptr bf 0), (5, ptr bp 0), (7, ptr (nb no) 0), (10, I (i : Int))]) (fun i w' => i ≤ ps.length + 1 ∧ ∃ v', RgC w' p m f bt bl bm bf bp v' (takeR m f out ((L.take i).flatMap (·.2))) ∧ RgQ w w' bl v v') (fun i => ps.length + 1 - i) ?hI ?hround)))
 case hI => exact ⟨by omega, v, by rw [takeR_not Iz]; exact hc, RgQ.refl _ _ _⟩
 case hround =>
  rintro i w1 ⟨fV, v1, cD, dw⟩ ihl; obtain ⟨va1, vc1, fZ, -⟩ := Sl.rd cD.s |>.shape; subst fZ; have vO : ∀ g, F g → ¬ (g = bl ∨ v.ownBlock = some g) := fun g hg e => e.elim (fun e => fi (e ▸ hg)) (fun e => vN g e hg); have zd := hC.kp dw.kp (fun g hg => vO g (xl g (.inr (.inr (.inr hg))))); have cS := dw.kp.blk ar (vO _ (xl _ (.inl rfl))); have h1 := h.kp dw.kp vO; have ig := cD.l; have g0 := cD.m; have zf := cD.g; have nX := takeR_len m f out ((L.take i).flatMap (·.2)); have DE := flatMap_take_len L (fun l : List Int × Es => l.2) i
  have tj : (m ≤ (takeR m f out ((L.take i).flatMap (·.2))).length ∨ i = ps.length + 1) → takeR m f out (L.flatMap (·.2)) = takeR m f out ((L.take i).flatMap (·.2)) := fun hd => by
   rcases hd with hd | rfl
   ·conv => lhs; rw [← List.take_append_drop i L, List.flatMap_append, ← takeR_app]
    rw [takeR_full hd]
   ·rw [List.take_of_length_le (by omega)]
  try dsimp only
  refine run_seq (qN rfl (zqm rfl (zqm rfl (qV (ynk rfl) (qV (yfa fl84_3 rfl) (qV ((by first | exact yld U82 rfl rfl cS rfl | exact yld U82 rfl rfl ig rfl | exact yld U82 rfl rfl g0 rfl)) ?_)))))); refine qV (yln U82 rfl) (qV (ylt rfl rfl) (rVal_if (fun IA => ?_) (fun IA => ?_)))
  ·have rB : i < ps.length + 1 := by omega
   refine zqm rfl (qV ((by first | exact yld U45 rfl rfl cS rfl | exact yld U45 rfl rfl ig rfl | exact yld U45 rfl rfl g0 rfl)) ?_); refine qV (yln U45 rfl) (qV ((by first | exact yld U3 rfl rfl cS rfl | exact yld U3 rfl rfl ig rfl | exact yld U3 rfl rfl g0 rfl)) ?_); refine qV (ylt rfl rfl) (rVal_if (fun IB => ?_) (fun IB => ?_))
   ·refine qV (ypT rfl rfl) (rEnd (run_true rfl (run_skip (run_seq (run_block ?_))))); obtain ⟨a, l, u, hb, ha, -, -⟩ := bnds_get hi ps lo c i (by omega); obtain ⟨q1, zg⟩ : ∃ q, L[i]? = some q := ⟨_, List.getElem?_eq_getElem (by omega)⟩; have ja := kq i _ _ hb zg; have vh := hM.bd.cs a (List.mem_of_getElem? (show (innNd c ps).kids[_]? = some a from ha)); have bA := flatMap_take_succ (f := fun l : List Int × Es => l.2) zg; have cq := flatMap_take_len L (fun l : List Int × Es => l.2) (i + 1); rw [bA, List.length_append] at cq; have aE := Ext.drew0 w1; have eI := dw.kp.size; have DF : ∀ g, (Value.slice va1 (takeR m f out ((L.take i).flatMap (·.2))).length vc1).ownBlock = some g → ¬ F g := fun g hg hF => (dw.own g hg).elim (fun e => vN g e hF) (fun e => by have := pI g hF; omega); refine run_drawL [9] (fun w' => Ext w1 w') (by kernel_rfl) rfl (qL [9] 0 rfl (fun _ h=>(by first | exact yld U80 rfl rfl (h.blk cS) rfl | exact yld U80 rfl rfl (h.blk zf) rfl)) aE ?_); refine qL [2, 3, 4, 6, 7, 8, 9] 1 rfl (fun _ h=>ymv rfl) aE (qL [3, 4, 6, 7, 8, 9] 2 rfl (fun _ h=>ynk rfl) aE (qL [4, 6, 7, 8, 9] 3 rfl (fun _ h=>yfa fl84_3 rfl) aE (qL [6, 7, 8, 9] 4 rfl (fun _ h=>(by first | exact yld U82 rfl rfl (h.blk cS) rfl | exact yld U82 rfl rfl (h.blk zf) rfl)) aE ?_))); refine qL [6, 7, 8, 9] 5 rfl (fun _ h=>ymv rfl) aE (qL [7, 8, 9] 6 rfl (fun _ h=>yis U82 ti89 rfl rfl (by omega)) aE (qL [8, 9] 7 rfl (fun _ hS => yldc U89 rfl rfl (rd_u32 ((zd.ext hS).rd) (by omega) ha)) aE (qL [9] 8 rfl (fun _ h=>ycvSi64 rfl U89 U3 (by omega)) aE (hLate [9] (by kernel_rfl) (by kernel_rfl) (qO 9 (nCall (i := 9) rfl rfl rfl (ycv' (args := [.tmp 79]) cf49 rfl rfl) (ih _ T nb F (a : Int) l u _ _ _ _ (h1.ext aE) (cD.ext aE) fi DF ja (by omega)) ?_)))))); rintro _ w2 ⟨rfl, v2, cP, i0⟩; refine ⟨trivial, ?_⟩; refine qE (run_inBlock (run_reg rfl (zqm rfl (zqd rfl rfl (zqa rfl (rEnd ((ihl (i + 1) w2 ⟨by omega, v2, ?_, (dw.ext aE).trans i0⟩ (by omega)).qb))))))); rw [bA, ← takeR_app]; exact cP
   ·refine qV (ypT rfl rfl) (rEnd (run_false rfl (run_exit rfl (run_end Tryz.func49 rfl ?_)))); exact ⟨_, rfl, rfl, _, by rw [tj (.inl (by omega))]; exact cD, dw⟩
  ·refine zqm rfl (qS (qS (qS (qS (qV (ypF rfl rfl) (rEnd (run_false rfl (run_exit rfl (run_end Tryz.func49 rfl ?_))))))))); exact ⟨_, rfl, rfl, _, by rw [tj (.inr (by omega))]; exact cD, dw⟩
theorem rgAt_all {p m : Nat} {f : Bytes} {bt bl bm bf bp : Nat} (hm : m ≤ 9223372036854775807) : ∀ H, RgAt p m f bt bl bm bf bp (H + 1)
 | 0 => rgAt_leaf hm
 | H + 1 => rgAt_inner hm (rgAt_all hm H)
end
def rangeE (es : Es) (f : Bytes) (m : Nat) : Es := (es.filter fun x => !lt x.1 f).take m
theorem takeR_range (m : Nat) (f : Bytes) (es : Es) : takeR m f [] es = rangeE es f m := by simp [takeR, rangeE]
section
variable {w : World} {p : Nat} {T : Tr} {nb : Int → Nat} {F : Nat → Prop}
set_option maxHeartbeats 2000000 in
theorem range_ret (h : TreeA w p T nb F) {H : Nat} {ns : List Int} {es : Es} (hI : Inv T H ns es) (ib : es.length ≤ 900000) (f : Bytes) (m : Int) (hm : m ≤ 9223372036854775807) :
  Ret Tryz.prog 13 [ptr p 0, S f, I m] w fun v w' => Ext w w' ∧ ((m < 0 ∧ v = .tuple #[.slice none 0 0, I 1]) ∨ (0 ≤ m ∧ ∃ lv, v = .tuple #[lv, I 0] ∧ ESl w' lv (rangeE es f m.toNat) ∧ ∀ g, lv.ownBlock = some g → w.heap.size ≤ g)) := by
 have af := h.lt
 refine ret_of_run (e := [(0, _), (1, _), (2, _)]) Tryz.func13 rfl Tryz.ntmps13 rfl rfl (qN rfl (rValP rfl rfl (pbx rfl rfl) ?_))
 rintro _ w1 ⟨bt, rfl, BP, aa, ai⟩
 refine rValP rfl rfl (pbx rfl rfl) ?_
 rintro _ w2 ⟨bf, rfl, BQ, ae, ak⟩
 refine rValP rfl rfl (pbx rfl rfl) ?_
 rintro _ w3 ⟨bm, rfl, mA, ah, aG⟩
 have eI := aa.size
 have eQ := ae.size
 have jK := ah.size
 have bW := (ae.trans ah).blk ai
 have ti := ah.blk ak
 have eR := (aa.trans ae).trans ah
 have l1 := ai.lt
 have l2 := ak.lt
 have l3 := aG.lt
 refine zqa rfl (zqa rfl (rEnd (run_seq (run_block (qN rfl (qV ((by first | exact yld U24 rfl rfl bW rfl | exact yld U24 rfl rfl aG rfl)) ?_))))))
 refine qV (yeqpN U24 rfl rfl) (zqa rfl (rEnd (run_false rfl (qN rfl (qV ((by first | exact yld U3 rfl rfl bW rfl | exact yld U3 rfl rfl aG rfl)) ?_)))))
 refine qV (ylt rfl rfl) (zqa rfl (rEnd (run_if rfl (fun h0 => ?_) (fun h0 => ?_))))
 ·refine qN rfl (zqa rfl (zqa rfl (rEnd (run_ret Tryz.func13 rfl ?_)))); exact ⟨_, rfl, eR, .inl ⟨h0, rfl⟩⟩
 ·obtain ⟨k, rfl⟩ : ∃ k : Nat, m = (k : Int) := ⟨m.toNat, by omega⟩; refine run_skip (run_inBlock (qN rfl (rValP rfl rfl (pal (cs := [_]) ti45 rfl) ?_))); rintro _ w4 ⟨bl, rfl, rO, aC, aW⟩; refine qM rfl (rValP rfl rfl (pal (cs := [_]) ti80 rfl) ?_); rintro _ w5 ⟨bp, rfl, Bz, aJ, bx⟩; refine qM rfl (qV (ymf (first := []) (caps := [.tmp 3, .tmp 8, .tmp 5, .tmp 4, .tmp 9]) rfl rfl) (rEffP rfl (zst ti80 rfl rfl rfl bx (by simp)) ?_)); rintro w6 ⟨bD, bX⟩; have jq := aC.size; have kW := aJ.size; have l4 := aW.lt; have l5 := bx.lt; have je : Ext w3 w6 := (aC.trans aJ).trans_new bX (fun i hi => by omega); have n7 := eR.trans je; have h6 := h.ext n7; obtain ⟨mN, mC, mO, gv, kn, kc, ko, O⟩ := h6.opn; have ey := O.blk; have ii := je.blk bW; have nY : RgC w6 p k f bt bl bm bf bp (.slice none 0 0) [] := ⟨ii, bX.blk (aJ.blk aW) (by omega), je.blk aG, je.blk ti, bD, Sl.nil _ _ _, ⟨by omega, by omega, by omega, by omega⟩, fun g hg => by simp [Value.ownBlock] at hg⟩; have s4 := nY.l; have fi : ¬ F bl := fun e => by have := af _ e; omega
  have nS := n7.size; refine rEnd (run_seq (qN rfl (qV ((by first | exact yld U24 rfl rfl ii rfl | exact yld U24 rfl rfl ey rfl)) ?_))); refine qV (ynk rfl) (qV (yfa fl74_1 rfl) (qV ((by first | exact yld U3 rfl rfl ii rfl | exact yld U3 rfl rfl ey rfl)) ?_)); refine qV (yne rfl rfl) (rEnd (run_cut (fun e' w' => ∃ v', e' = [(8, ptr bl 0)] ∧ RgC w' p k f bt bl bm bf bp v' (rangeE es f k) ∧ RgQ w6 w' bl (.slice none 0 0) v') ?hk (fun hk => ?dN)))
  case hk =>
   rintro e' w7 ⟨v', rfl, jt, nR⟩; have pj := jt.l; obtain ⟨va7, vc7, BR, -⟩ := Sl.rd jt.s |>.shape; subst BR; refine qN rfl (qV (yld U45 rfl rfl pj rfl) (zqa rfl (zqa rfl (rEnd (run_ret Tryz.func13 rfl ?_))))); exact ⟨_, rfl, n7.trans_new nR.kp (fun i hi => hi.elim (fun e => by omega) (fun e => by simp [Value.ownBlock] at e)), .inr ⟨by omega, _, rfl, jt.s, fun g hg => (nR.own g hg).elim (fun e => by simp [Value.ownBlock] at e) (fun e => by omega)⟩⟩
  case dN =>
   refine run_if rfl (fun hr => ?_) (fun hr => ?_)
   ·rcases hI.std with ⟨e, -⟩ | ⟨-, hH, hB, -⟩
    ·exact absurd e hr
    ·obtain ⟨H', rfl⟩ : ∃ H', H = H' + 1 := ⟨H - 1, by omega⟩; have aS := Ext.drew0 w6; have vP := nY.g; refine run_drawL [5] (fun w' => Ext w6 w') (by kernel_rfl) rfl (qL [5] 0 rfl (fun _ h=>(by first | exact yld U80 rfl rfl (h.blk ii) rfl | exact yld U80 rfl rfl (h.blk vP) rfl | exact yld U80 rfl rfl (h.blk ey) rfl)) aS ?_); refine qL [2, 3, 4, 5] 1 rfl (fun _ h=>(by first | exact yld U24 rfl rfl (h.blk ii) rfl | exact yld U24 rfl rfl (h.blk vP) rfl | exact yld U24 rfl rfl (h.blk ey) rfl)) aS ?_; refine qL [3, 4, 5] 2 rfl (fun _ h=>ynk rfl) aS (qL [4, 5] 3 rfl (fun _ h=>yfa fl74_1 rfl) aS (qL [5] 4 rfl (fun _ h=>(by first | exact yld U3 rfl rfl (h.blk ii) rfl | exact yld U3 rfl rfl (h.blk vP) rfl | exact yld U3 rfl rfl (h.blk ey) rfl)) aS ?_)); refine hLate [5] (by kernel_rfl) (by kernel_rfl) (qO 5 (nCall (i := 5) rfl rfl rfl (ycv' (args := [.tmp 26]) cf49 rfl rfl) (rgAt_all (by omega) H' _ T nb F T.root [] none ns es [] _ (h6.ext aS) (nY.ext aS) fi (fun g hg => by simp [Value.ownBlock] at hg) hB (by simp; omega)) ?_)); rintro _ w8 ⟨rfl, v8, rf, Bp⟩; refine ⟨trivial, ?_⟩; rw [takeR_range] at rf; refine qE (Run.qb (e := [(6, _), (7, _), (8, _)]) ?_); exact (hk _ _ ⟨v8, rfl, rf, ((RgQ.refl w6 bl _).ext aS).trans Bp⟩).qb
   ·refine run_skip ?_; rcases hI.std with ⟨-, -, -, rfl⟩ | ⟨e, -⟩
    ·exact (hk _ _ ⟨_, rfl, by simpa [rangeE] using nY, RgQ.refl _ _ _⟩).qb
    ·exact absurd e hr
end
theorem Ch.det {S S' : Int → Bytes → Option Bytes → List Int → Es → Prop} (hS : ∀ x l u n e l' u' n' e', S x l u n e → S' x l' u' n' e' → n = n' ∧ e = e') : ∀ {ps : List (Bytes × Nat)} {lo lo' : Bytes} {hi ab : Option Bytes} {c : Nat} {ns ns' : List Int} {es es' : Es}, Ch S lo hi c ps ns es → Ch S' lo' ab c ps ns' es' → ns = ns' ∧ es = es'
 | [], _, _, _, _, _, _, _, _, _, h, h' => hS _ _ _ _ _ _ _ _ _ h h'
 | (k, d) :: r, _, _, _, _, _, _, _, _, _, h, h' => by
   obtain ⟨n1, n2, e1, e2, rfl, rfl, h1, h2⟩ := h; obtain ⟨n3, n4, e3, e4, rfl, rfl, h3, h4⟩ := h'; obtain ⟨rfl, rfl⟩ := hS _ _ _ _ _ _ _ _ _ h1 h3; obtain ⟨rfl, rfl⟩ := Ch.det hS h2 h4; exact ⟨rfl, rfl⟩
theorem bn_det {z : Nat} {N : Nodes} (hz : sizeOk (z : Int)) : ∀ {h h' : Nat} {no : Int} {lo lo' : Bytes} {hi ab : Option Bytes} {ns ns' : List Int} {es es' : Es}, Bn z N h no lo hi ns es → Bn z N h' no lo' ab ns' es' → h = h' ∧ ns = ns' ∧ es = es'
 | 0, _, _, _, _, _, _, _, _, _, _, s, _ => s.elim
 | _, 0, _, _, _, _, _, _, _, _, _, _, s => s.elim
 | 1, 1, no, _, _, _, _, _, _, _, _, s, s' => by
   obtain ⟨h1, rfl, -⟩ := s.leaf (by have := hz.2.1; omega); obtain ⟨h2, rfl, -⟩ := s'.leaf (by have := hz.2.1; omega); rw [h1] at h2; have e := congrArg (fun n => n.keys.zip n.vals) (oinj h2); simp only [leafNd, zip_es] at e
   exact ⟨rfl, rfl, e⟩
 | 1, h' + 2, no, _, _, _, _, _, _, _, _, s, s' => by
   obtain ⟨h1, -⟩ := s.leaf (by have := hz.2.1; omega); obtain ⟨c, ps, _, h2, -⟩ := s'.inner (by have := hz.1; omega); rw [h1] at h2; have e := congrArg Nd.leaf (oinj h2)
   simp [leafNd, innNd] at e
 | h + 2, 1, no, _, _, _, _, _, _, _, _, s, s' => by
   obtain ⟨h1, -⟩ := s'.leaf (by have := hz.2.1; omega); obtain ⟨c, ps, _, h2, -⟩ := s.inner (by have := hz.1; omega); rw [h1] at h2; have e := congrArg Nd.leaf (oinj h2)
   simp [leafNd, innNd] at e
 | h + 2, h' + 2, no, _, _, _, _, _, _, _, _, s, s' => by
   obtain ⟨c, ps, n1, h1, rfl, -, -, -, -, -, c1⟩ := s.inner (by have := hz.1; omega); obtain ⟨c', ps', n2, h2, rfl, -, -, -, -, -, c2⟩ := s'.inner (by have := hz.1; omega); rw [h1] at h2; have e := oinj h2; have ek : ps.map (·.1) = ps'.map (·.1) := congrArg Nd.keys e; have ec : c :: ps.map (·.2) = c' :: ps'.map (·.2) := congrArg Nd.kids e; obtain ⟨rfl, ec2⟩ := List.cons.inj ec
   have ep : ps = ps' := by
    have a := zip_ps ps; rw [ek, ec2, zip_ps ps'] at a; exact a.symm
   subst ep; obtain ⟨u1, m1, f1, g1⟩ := c1.first; obtain ⟨u2, m2, f2, g2⟩ := c2.first; obtain ⟨e1, -, -⟩ := bn_det hz g1 g2; have e1' : h = h' := by omega
   subst e1'; obtain ⟨rfl, rfl⟩ := Ch.det (S := Bn z N (h + 1)) (S' := Bn z N (h + 1)) (fun x l u n e l' u' n' e' a b => (bn_det hz a b).2) c1 c2; exact ⟨rfl, rfl, rfl⟩
abbrev Pgs := List (Int × Bytes)
def RiseP (l : Pgs) : Prop := l.Pairwise fun a b => a.1 < b.1
theorem RiseP.nodup {l : Pgs} (h : RiseP l) : l.Nodup := h.imp fun h e => by subst e; omega
theorem RiseP.nodup1 {l : Pgs} (h : RiseP l) : (l.map (·.1)).Nodup := List.pairwise_map.2 (h.imp fun h => by omega)
theorem RiseP.uniq {l : Pgs} (h : RiseP l) {a b : Int × Bytes} (ha : a ∈ l) (hb : b ∈ l) (e : a.1 = b.1) : a = b := by
 induction l with
 | nil => cases ha
 | cons x r ih =>
   obtain ⟨h1, h2⟩ := List.pairwise_cons.1 h; rcases List.mem_cons.1 ha with rfl | DG <;> rcases List.mem_cons.1 hb with rfl | rA
   ·rfl
   ·have := h1 b rA; omega
   ·have := h1 a DG; omega
   ·exact ih h2 DG rA
theorem RiseP.ext {l m : Pgs} (hl : RiseP l) (hm : RiseP m) (h : ∀ x, x ∈ l ↔ x ∈ m) : l = m := by
 have hp : l.Perm m := (List.perm_ext_iff_of_nodup hl.nodup hm.nodup).2 h
 exact List.Perm.eq_of_pairwise (le := fun a b : Int × Bytes => a.1 < b.1) (fun a b _ _ h1 h2 => by omega) hl hm hp
theorem RiseP.of_le {l : Pgs} (h : l.Pairwise fun a b => a.1 ≤ b.1) (hn : (l.map (·.1)).Nodup) : RiseP l := by
 have h2 := List.pairwise_map.1 hn
 exact (h.and h2).imp fun ⟨a, b⟩ => by omega
def encAt (z : Nat) (N : Nodes) (x : Int) : Bytes := match N x with
 | some n => enc z n
 | none => []
def pgs (z : Nat) (N : Nodes) (ns : List Int) (p : Int → Bool) : Pgs := ((sortZ ns).filter p).map fun x => (x, encAt z N x)
theorem pgs_mem {z : Nat} {N : Nodes} {ns : List Int} {p : Int → Bool} {x : Int × Bytes} : x ∈ pgs z N ns p ↔ x.1 ∈ ns ∧ p x.1 = true ∧ x.2 = encAt z N x.1 := by
 unfold pgs
 rw [List.mem_map]
 constructor
 ·rintro ⟨y, hy, rfl⟩; rw [List.mem_filter, sortZ_mem] at hy; exact ⟨hy.1, hy.2, rfl⟩
 ·rintro ⟨h1, h2, h3⟩; exact ⟨x.1, by rw [List.mem_filter, sortZ_mem]; exact ⟨h1, h2⟩, by rw [← h3]⟩
theorem pgs_rise {z : Nat} {N : Nodes} {ns : List Int} {p : Int → Bool} (h : ns.Nodup) : RiseP (pgs z N ns p) := by
 unfold pgs
 exact List.pairwise_map.2 ((sortZ_lt h).filter p)
theorem pgs_fst {z : Nat} {N : Nodes} {ns : List Int} {p : Int → Bool} : (pgs z N ns p).map (·.1) = (sortZ ns).filter p := by
 unfold pgs; rw [List.map_map]; simp [Function.comp_def]
theorem pgs_all_len {z : Nat} {N : Nodes} {ns : List Int} : (pgs z N ns fun _ => true).length = ns.length := by
 unfold pgs
 rw [List.length_map, List.filter_eq_self.2 (fun _ _ => rfl), sortZ_len]
theorem pgs_of {z : Nat} {N : Nodes} {ns : List Int} {p : Int → Bool} {l : Pgs} (hn : ns.Nodup) (hl : l.Pairwise fun a b => a.1 ≤ b.1) (bz : (l.map (·.1)).Nodup) (hm : ∀ x, x ∈ l.map (·.1) ↔ x ∈ ns ∧ p x = true) (ht : ∀ x ∈ l, x.2 = encAt z N x.1) : l = pgs z N ns p := by
 refine (RiseP.of_le hl bz).ext (pgs_rise hn) fun x => ?_
 rw [pgs_mem]
 constructor
 ·intro hx; have := (hm x.1).1 (List.mem_map.2 ⟨x, hx, rfl⟩); exact ⟨this.1, this.2, ht x hx⟩
 ·rintro ⟨h1, h2, h3⟩; obtain ⟨y, hy, e⟩ := List.mem_map.1 ((hm x.1).2 ⟨h1, h2⟩); have : y = x := Prod.ext e (by rw [ht y hy, h3, e]); rw [← this]; exact hy

/-! ### Written over one another -/
def writ (fr : List Int) : Pgs → Pgs → Pgs
 | [], c => c
 | s, [] => s.filter fun x => decide (x.1 ∉ fr)
 | a :: s, c :: cs => if c.1 < a.1 then c :: writ fr (a :: s) cs else if c.1 = a.1 then c :: writ fr s cs else if a.1 ∈ fr then writ fr s (c :: cs) else a :: writ fr s (c :: cs)
termination_by s c => s.length + c.length
end Go.Proofs.YtocnhaoilnojmaaGreat
namespace Go.Proofs.YtocnhaoilnojmaaGreat
open Go Go.Proofs Go.Shelf
set_option linter.all false
def sortFA_ren : Go.Shelf.Ren := ⟨fun | 6 => 90 | 15 => 93 | 14 => 117 | 28 => 127 | 29 => 128 | 20 => 141 | 21 => 142 | 22 => 143 | 23 => 144 | 24 => 145 | 25 => 146 | 26 => 147 | 27 => 148 | 46 => 164 | 47 => 150 | 48 => 151 | 49 => 165 | 50 => 166 | 57 => 169 | n => n, fun | 22 => 52 | 24 => 55 | 25 => 135 | 3 => 3 | 39 => 118 | 0 => 0 | 53 => 89 | 55 => 175 | 4 => 4 | 46 => 167 | 45 => 166 | 50 => 85 | 5 => 5 | 9 => 9 | 66 => 188 | 70 => 192 | 76 => 205 | 77 => 206 | n => n, fun | n => n⟩
theorem sortFA : Go.Proofs.SlLaysF0.n6 Tryz.prog sortFA_ren := {
  mixed := by kernel_rfl
  f6 := ⟨Tryz.f90.name, by decide, Tryz.func90.trans (congrArg some (by kernel_rfl))⟩
  f14 := ⟨Tryz.f117.name, by decide, Tryz.func117.trans (congrArg some (by kernel_rfl))⟩
  f15 := Tryz.func93.trans (congrArg some (by kernel_rfl))
  f20 := ⟨Tryz.f141.name, by decide, Tryz.func141.trans (congrArg some (by kernel_rfl))⟩
  f21 := ⟨Tryz.f142.name, by decide, Tryz.func142.trans (congrArg some (by kernel_rfl))⟩
  f22 := ⟨Tryz.f143.name, by decide, Tryz.func143.trans (congrArg some (by kernel_rfl))⟩
  f23 := ⟨Tryz.f144.name, by decide, Tryz.func144.trans (congrArg some (by kernel_rfl))⟩
  f24 := ⟨Tryz.f145.name, by decide, Tryz.func145.trans (congrArg some (by kernel_rfl))⟩
  f25 := ⟨Tryz.f146.name, by decide, Tryz.func146.trans (congrArg some (by kernel_rfl))⟩
  f26 := ⟨Tryz.f147.name, by decide, Tryz.func147.trans (congrArg some (by kernel_rfl))⟩
  f27 := ⟨Tryz.f148.name, by decide, Tryz.func148.trans (congrArg some (by kernel_rfl))⟩
  f28 := Tryz.func127.trans (congrArg some (by kernel_rfl))
  f29 := Tryz.func128.trans (congrArg some (by kernel_rfl))
  f46 := ⟨Tryz.f164.name, by decide, Tryz.func164.trans (congrArg some (by kernel_rfl))⟩
  f47 := Tryz.func150.trans (congrArg some (by kernel_rfl))
  f48 := Tryz.func151.trans (congrArg some (by kernel_rfl))
  f49 := ⟨Tryz.f165.name, by decide, Tryz.func165.trans (congrArg some (by kernel_rfl))⟩
  f50 := ⟨Tryz.f166.name, by decide, Tryz.func166.trans (congrArg some (by kernel_rfl))⟩
  f57 := ⟨Tryz.f169.name, by decide, Tryz.func169.trans (congrArg some (by kernel_rfl))⟩
  t0 := Tryz.underlying0
  a0 := Tryz.isAgg0
  z0 := Tryz.sizeOf0
  v0 := Tryz.zeroValue0
  t3 := Tryz.underlying3
  a3 := Tryz.isAgg3
  z3 := Tryz.sizeOf3
  v3 := Tryz.zeroValue3
  t4 := Tryz.underlying4
  a4 := Tryz.isAgg4
  z4 := Tryz.sizeOf4
  v4 := Tryz.zeroValue4
  t5 := Tryz.underlying5
  a5 := Tryz.isAgg5
  z5 := Tryz.sizeOf5
  v5 := Tryz.zeroValue5
  t9 := Tryz.underlying9
  a9 := Tryz.isAgg9
  z9 := Tryz.sizeOf9
  v9 := Tryz.zeroValue9
  t22 := Tryz.underlying52
  a22 := Tryz.isAgg52
  z22 := Tryz.sizeOf52
  v22 := Tryz.zeroValue52
  t25 := Tryz.underlying135
  a25 := Tryz.isAgg135
  z25 := Tryz.sizeOf135
  v25 := Tryz.zeroValue135
  t39 := Tryz.underlying118
  a39 := Tryz.isAgg118
  z39 := Tryz.sizeOf118
  v39 := Tryz.zeroValue118
  t45 := Tryz.underlying166
  a45 := Tryz.isAgg166
  z45 := Tryz.sizeOf166
  v45 := Tryz.zeroValue166
  t46 := Tryz.underlying167
  a46 := Tryz.isAgg167
  z46 := Tryz.sizeOf167
  v46 := Tryz.zeroValue167
  t50 := Tryz.underlying85
  a50 := Tryz.isAgg85
  z50 := Tryz.sizeOf85
  v50 := Tryz.zeroValue85
  t53 := Tryz.underlying89
  a53 := Tryz.isAgg89
  z53 := Tryz.sizeOf89
  v53 := Tryz.zeroValue89
  t55 := Tryz.underlying175
  a55 := Tryz.isAgg175
  z55 := Tryz.sizeOf175
  v55 := Tryz.zeroValue175
  t66 := Tryz.underlying188
  a66 := Tryz.isAgg188
  z66 := Tryz.sizeOf188
  v66 := Tryz.zeroValue188
  t70 := Tryz.underlying192
  a70 := Tryz.isAgg192
  z70 := Tryz.sizeOf192
  v70 := Tryz.zeroValue192
  t76 := Tryz.underlying205
  a76 := Tryz.isAgg205
  z76 := Tryz.sizeOf205
  v76 := Tryz.zeroValue205
  t77 := Tryz.underlying206
  a77 := Tryz.isAgg206
  z77 := Tryz.sizeOf206
  v77 := Tryz.zeroValue206 }
end Go.Proofs.YtocnhaoilnojmaaGreat
