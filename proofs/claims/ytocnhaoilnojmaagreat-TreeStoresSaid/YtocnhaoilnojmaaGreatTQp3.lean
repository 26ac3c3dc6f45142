/- Texts TrY, TrZ, TrZa, TrZb, TrZc, TrA, TrC, TrCa, TrCb, TrF, ShS, TrSo, TrFa, TrFb, one behind the other (what the statement TreeStores does not use is left out). -/
import Derived.Test.YtocnhaoilnojmaaGreatTQp1
import Derived.Test.YtocnhaoilnojmaaGreatTQp2
import Derived.Shelf.SortM.Plain
import Derived.Test.YtocnhaoilnojmaaGreatProg
import Derived.Sort.OwnSortedInts
namespace Go.Proofs.YtocnhaoilnojmaaGreat
open Go Go.RowKit
set_option linter.all false

section
variable {z h : Nat} {N N' : Nodes} {no : Int} {lo : Bytes} {hi : Option Bytes} {ns : List Int} {es : Es} {c : Nat} {p r ps : List (Bytes × Nat)} {k : Bytes}
theorem getLast_kid : (c :: p.map (·.2)).getLast? = (c :: (p ++ r).map (·.2))[p.length]? := by
 rw [List.getLast?_eq_getElem?, List.map_append]
 simp only [List.length_cons, List.length_map, Nat.add_sub_cancel]
 rw [← List.cons_append, List.getElem?_append_left (by simp)]
theorem Ch.only {nm : List Int} {a : Nat} {q : List (Bytes × Nat)} (hc : Ch (fun x l u n e => x ∈ n ∧ ∀ y ∈ n, y ∈ nm → x = (a : Int)) lo hi c q ns es) : ∀ d ∈ c :: q.map (·.2), (d : Int) ∈ nm → d = a := by
 induction q generalizing lo c ns es with
 | nil =>
   intro d hd hm; simp at hd; subst hd
   exact Int.ofNat.inj (hc.2 _ hc.1 hm)
 | cons q r ih =>
   obtain ⟨k, d'⟩ := q; obtain ⟨m1, m2, f1, f2, rfl, rfl, g1, g2⟩ := hc; intro d hd hm; rcases List.mem_cons.1 hd with rfl | hd
   ·exact Int.ofNat.inj (g1.2 _ g1.1 hm)
   ·exact ih g2 d (by simpa using hd) hm
theorem kid_at (bj : ns.Nodup) (hc : Ch (Bn z N h) lo hi c (p ++ r) ns es) (hR : Rise ((p ++ r).map (·.1))) (cx : ∀ k ∈ (p ++ r).map (·.1), inB lo hi k) (hk : inB lo hi k) (hp : ∀ x ∈ p, lt k x.1 = false) (hr : ∀ x ∈ r, lt k x.1 = true) :
  ∃ a lo' af n1 nm n2 e1 em e2, ns = n1 ++ (nm ++ n2) ∧ es = e1 ++ (em ++ e2) ∧ (c :: (p ++ r).map (·.2))[p.length]? = some a ∧ Bn z N h a lo' af nm em ∧ inB lo' af k ∧ (∀ x ∈ e1, lt x.1 k = true) ∧ (∀ x ∈ e2, lt k x.1 = true) ∧
    (∀ d ∈ c :: (p ++ r).map (·.2), d ≠ a → (d : Int) ∉ nm) ∧ (∀ up, inB lo' af up → lt lo' up = true → inB lo hi up ∧ ∀ m, Rise ((p ++ (up, m) :: r).map (·.1))) ∧
    ∀ (N' : Nodes) seg' nm' em', (∀ x l u n e, Bn z N h x l u n e → ((∀ y ∈ n, y ∈ n1) ∨ (∀ y ∈ n, y ∈ n2)) → Bn z N' h x l u n e) → Ch (Bn z N' h) lo' af a seg' nm' em' → Ch (Bn z N' h) lo hi c (p ++ (seg' ++ r)) (n1 ++ (nm' ++ n2)) (e1 ++ (em' ++ e2)) := by
 obtain ⟨a, lo', af, n1, nm, n2, e1, em, e2, rfl, rfl, ha, iQ, bX, iO, iP, fP, zL, cZ⟩ := Ch.seg (seg := []) hc (fun x l u n e hx => hx.keys.1) hR cx
 have DL : lt k lo' = false := by
  rw [bX]
  cases hg : p.getLast? with
  | none => exact hk.1
  | some x => exact hp x (List.mem_of_getLast? hg)
 have DM : ∀ u, af = some u → lt k u = true := by
  intro u hu; rw [iO] at hu
  cases hg : r.head? with
  | none => rw [hg] at hu; simp at hu; exact hk.2 u hu
  | some x => rw [hg] at hu; simp at hu; rw [← hu]; exact hr x (List.mem_of_mem_head? hg)
 refine ⟨a, lo', af, n1, nm, n2, e1, em, e2, rfl, rfl, by rw [← getLast_kid]; exact ha, iQ, ⟨DL, DM⟩, fun x hx => lt_le_trans (iP x hx) DL, fun x hx => ?_, fun d hd sA uR => sA ?_, fun up lF jO => ?_, fun N' seg' nm' em' => cZ (Bn z N' h) seg' nm' em'⟩
 ·cases hg : r.head? with
  | none =>
    have : r = [] := by simpa using hg
    rw [zL this] at hx; cases hx
  | some y =>
    have hu : af = some y.1 := by rw [iO, hg]; rfl
    exact lt_le_trans (DM _ hu) (fP x hx _ hu)
 ·have dj := List.nodup_append.1 bj; have dZ := List.nodup_append.1 dj.2.1
  have hT : Ch (fun x l u n e => x ∈ n ∧ ∀ y ∈ n, y ∈ nm → x = (a : Int)) lo hi c (p ++ ([] ++ r)) (n1 ++ (nm ++ n2)) (e1 ++ (em ++ e2)) :=
   cZ _ [] nm em (fun x l u n e hx hn => ⟨hx.mem, fun y hy jQ => by
    rcases hn with hn | hn
    ·exact absurd rfl (dj.2.2 y (hn y hy) y (List.mem_append_left _ jQ))
    ·exact absurd rfl (dZ.2.2 y jQ y (hn y hy))⟩) ⟨(show Bn z N h (a : Int) lo' af nm em from iQ).mem, fun _ _ _ => rfl⟩
  exact hT.only d hd uR
 ·have pD : lt lo' lo = false := by
   rw [bX]
   cases hg : p.getLast? with
   | none => exact lt_irrefl _
   | some x => exact (cx x.1 (List.mem_map.2 ⟨x, List.mem_append_left _ (List.mem_of_getLast? hg), rfl⟩)).1
  have eu : ∀ u, hi = some u → lt up u = true := by
   intro u hu
   cases hg : r.head? with
   | none => exact lF.2 u (by rw [iO, hg, hu]; rfl)
   | some x => exact lt_trans (lF.2 x.1 (by rw [iO, hg]; rfl)) ((cx x.1 (List.mem_map.2 ⟨x, List.mem_append_right _ (List.mem_of_mem_head? hg), rfl⟩)).2 u hu)
  refine ⟨⟨le_trans pD (le_of_lt jO), eu⟩, fun m => ?_⟩; rw [List.map_append] at hR; obtain ⟨r1, r2, r3⟩ := List.pairwise_append.1 hR; rw [List.map_append, List.map_cons]; refine List.pairwise_append.2 ⟨r1, List.pairwise_cons.2 ⟨fun y hy => ?_, r2⟩, fun x hx y hy => ?_⟩
  ·cases r with
   | nil => cases hy
   | cons q r =>
     have h1 := lF.2 q.1 (by rw [iO]; rfl); rw [List.map_cons] at hy; rcases List.mem_cons.1 hy with rfl | hy
     ·exact h1
     ·exact lt_trans h1 ((List.pairwise_cons.1 r2).1 y hy)
  ·rcases List.mem_cons.1 hy with rfl | hy
   ·cases hg : p.getLast? with
    | none => have : p = [] := by simpa using hg
              subst this; cases hx
    | some q =>
      have hq : lo' = q.1 := by rw [bX, hg]; rfl
      have zO := List.mem_of_getLast? hg; rw [hq] at jO; obtain ⟨t, rfl⟩ := List.getLast?_eq_some_iff.1 hg; rw [List.map_append] at hx r1; rcases List.mem_append.1 hx with hx | hx
      ·exact lt_trans ((List.pairwise_append.1 r1).2.2 x hx q.1 (by simp)) jO
      ·simp at hx; subst hx; exact jO
   ·exact r3 x hx y hy
theorem part_ok (hc : Ch (Bn z N h) lo hi c ps ns es) (hz : sizeOk z) (fj : keysOk (ps.map (·.1))) (h1 : orderE z < ps.length + 1) (h2 : ps.length + 1 ≤ 2 * orderE z) (h0 : c ≠ 0 ∧ ∀ x ∈ ps, x.2 ≠ 0) (cx : ∀ k ∈ ps.map (·.1), inB lo hi k) :
  ∃ up c2, ps[(ps.length + 1) / 2 - 1]? = some (up, c2) ∧ ∃ n1 n2 e1 e2, ns = n1 ++ n2 ∧ es = e1 ++ e2 ∧
    Ch (Bn z N h) lo (some up) c (ps.take ((ps.length + 1) / 2 - 1)) n1 e1 ∧ Ch (Bn z N h) up hi c2 (ps.drop ((ps.length + 1) / 2)) n2 e2 ∧
    keysOk ((ps.take ((ps.length + 1) / 2 - 1)).map (·.1)) ∧ keysOk ((ps.drop ((ps.length + 1) / 2)).map (·.1)) ∧
    (∀ k ∈ (ps.take ((ps.length + 1) / 2 - 1)).map (·.1), inB lo (some up) k) ∧ (∀ k ∈ (ps.drop ((ps.length + 1) / 2)).map (·.1), inB up hi k) ∧
    (ps.take ((ps.length + 1) / 2 - 1)).length + 1 ≤ orderE z ∧ (ps.drop ((ps.length + 1) / 2)).length + 1 ≤ orderE z ∧
    ¬ (innNd c (ps.take ((ps.length + 1) / 2 - 1))).low z ∧ ¬ (innNd c2 (ps.drop ((ps.length + 1) / 2))).low z ∧ inB lo hi up ∧ lt lo up = true ∧ (1 ≤ up.length ∧ up.length ≤ 64) ∧ c2 ≠ 0 := by
 obtain ⟨z1, z2, -⟩ := hz
 have ho : 8 ≤ orderE z := by unfold orderE; omega
 have hm : (ps.length + 1) / 2 - 1 < ps.length := by omega
 obtain ⟨⟨up, c2⟩, hg⟩ : ∃ q, ps[(ps.length + 1) / 2 - 1]? = some q := ⟨_, List.getElem?_eq_getElem hm⟩
 have bx := List.mem_of_getElem? hg
 have he : ps[(ps.length + 1) / 2 - 1] = (up, c2) := by rw [List.getElem?_eq_getElem hm] at hg; exact oinj hg
 have pE : ps = ps.take ((ps.length + 1) / 2 - 1) ++ (up, c2) :: ps.drop ((ps.length + 1) / 2) := by
  conv => lhs; rw [← List.take_append_drop ((ps.length + 1) / 2 - 1) ps]
  rw [List.drop_eq_getElem_cons hm, he, show (ps.length + 1) / 2 - 1 + 1 = (ps.length + 1) / 2 by omega]
 revert pE hg
 generalize hP : ps.take ((ps.length + 1) / 2 - 1) = P
 generalize hQ : ps.drop ((ps.length + 1) / 2) = Q
 intro hg pE
 have vG : P.length = (ps.length + 1) / 2 - 1 := by rw [← hP, List.length_take]; omega
 have dw : Q.length = ps.length - (ps.length + 1) / 2 := by rw [← hQ, List.length_drop]
 rw [pE] at hc
 obtain ⟨n1, n2, e1, e2, rfl, rfl, c1, c3⟩ := Ch.app.1 hc
 have mT := fj
 rw [pE, List.map_append, List.map_cons] at mT
 obtain ⟨kl, kr⟩ := mT
 obtain ⟨r1, r2, r3⟩ := List.pairwise_append.1 kr
 have r4 := List.pairwise_cons.1 r2
 have dh : ∀ k ∈ P.map (·.1) ++ up :: Q.map (·.1), inB lo hi k := by
  have := cx; rw [pE, List.map_append, List.map_cons] at this; exact this
 have eu := dh up (by simp)
 refine ⟨up, c2, hg, n1, n2, e1, e2, rfl, rfl, c1, c3, ⟨fun k hk => kl k (List.mem_append_left _ hk), r1⟩, ⟨fun k hk => kl k (List.mem_append_right _ (List.mem_cons_of_mem _ hk)), r4.2⟩, fun k hk => ⟨(dh k (List.mem_append_left _ hk)).1, fun u hu => by cases hu; exact r3 k hk up (by simp)⟩, fun k hk => ⟨lt_asymm (r4.1 k hk), (dh k (List.mem_append_right _ (List.mem_cons_of_mem _ hk))).2⟩, by omega, by omega, ?_, ?_, eu, ?_, kl up (by simp), h0.2 _ bx⟩
 ·rw [innNd_low]; omega
 ·rw [innNd_low]; omega
 ·obtain ⟨x, hx⟩ : ∃ x, x ∈ P := by
   cases P with
   | nil => simp at vG; omega
   | cons x _ => exact ⟨x, List.mem_cons_self ..⟩
  have mu : x.1 ∈ P.map (·.1) := List.mem_map.2 ⟨x, hx, rfl⟩; exact le_lt_trans (dh x.1 (List.mem_append_left _ mu)).1 (r3 x.1 mu up (by simp))
end

structure Mid (z h : Nat) (N : Nodes) (no : Int) (lo : Bytes) (hi : Option Bytes) (c : Nat) (ps : List (Bytes × Nat)) (ns : List Int) (es : Es) (x : Nat) : Prop where
 at_ : N no = some (innNd c ps)
 ko : keysOk (ps.map (·.1))
 len : ps.length + 1 ≤ orderE z
 nz : c ≠ 0 ∧ ∀ y ∈ ps, y.2 ≠ 0
 inn : ∀ k ∈ ps.map (·.1), inB lo hi k
 ch : Ch (Bn z N (h + 1)) lo hi c ps ns es
 nd : (no :: ns).Nodup
 full : ∀ d ∈ c :: ps.map (·.2), d ≠ x → Full z N d
section
variable {z h : Nat} {N N' : Nodes} {no : Int} {lo : Bytes} {hi : Option Bytes} {ns : List Int} {es : Es} {c x : Nat} {p r ps : List (Bytes × Nat)} {s : Bytes} {b : Nat}
theorem Mid.done (M : Mid z h N no lo hi c ps ns es x) (hz : sizeOk z) (hx : Full z N x) : Bn z N (h + 2) no lo hi (no :: ns) es :=
 Bn.of_inner (by have := hz.1; omega) M.at_ M.ko M.len M.nz M.inn (fun d hd => by
  by_cases e : d = x
  ·rw [e]; exact hx
  ·exact M.full d hd e) M.ch
theorem Ch.kids_nd {S : Int → Bytes → Option Bytes → List Int → Es → Prop} (hc : Ch S lo hi c ps ns es) (hS : ∀ x l u n e, S x l u n e → x ∈ n) (hn : ns.Nodup) : (c :: ps.map (·.2)).Nodup := by
 induction ps generalizing lo c ns es with
 | nil => simp
 | cons q r ih =>
   obtain ⟨k, d⟩ := q; obtain ⟨n1, n2, e1, e2, rfl, rfl, h1, h2⟩ := hc; have fY := List.nodup_append.1 hn; refine List.nodup_cons.2 ⟨fun hm => ?_, ih h2 fY.2.1⟩; exact fY.2.2 _ (hS _ _ _ _ _ h1) _ (h2.kid hS c (by simpa using hm)) rfl
theorem Mid.pair (M : Mid z h N no lo hi c (p ++ (s, b) :: r) ns es x) (hz : sizeOk z) :
  ∃ a lo' af n1 na nb n2 e1 ea eb e2, ns = n1 ++ ((na ++ nb) ++ n2) ∧ es = e1 ++ ((ea ++ eb) ++ e2) ∧ (c :: (p ++ (s, b) :: r).map (·.2))[p.length]? = some a ∧ a ≠ b ∧
    Bn z N (h + 1) a lo' (some s) na ea ∧ Bn z N (h + 1) b s af nb eb ∧ inB lo' af s ∧ lt s lo = false ∧ (a : Int) ≠ no ∧ (b : Int) ≠ no ∧ (∀ y ∈ na ++ nb, y ∉ n1 ∧ y ∉ n2 ∧ y ≠ no) ∧ (na ++ nb).Nodup ∧
    (∀ d ∈ c :: (p ++ (s, b) :: r).map (·.2), d ≠ a → d ≠ b → (d : Int) ∉ na ++ nb ∧ (d : Int) ≠ no) ∧
    (∀ up, inB lo' af up → lt lo' up = true → inB lo hi up ∧ ∀ m, Rise ((p ++ (up, m) :: r).map (·.1))) ∧
    ∀ (N' : Nodes) seg' nm' em', (∀ y, N y ≠ none → y ∉ na ++ nb → y ≠ no → N' y = N y) → Ch (Bn z N' (h + 1)) lo' af a seg' nm' em' → Ch (Bn z N' (h + 1)) lo hi c (p ++ (seg' ++ r)) (n1 ++ (nm' ++ n2)) (e1 ++ (em' ++ e2)) := by
 have gy := hz
 obtain ⟨z1, z2, -⟩ := gy
 have hc := M.ch
 have fj := M.ko
 have cx := M.inn
 have eR := hc.kids_nd (fun x l u n e hx => hx.mem) (List.nodup_cons.1 M.nd).2
 have uS := hc.kid (fun x l u n e hx => hx.mem)
 have ia := hc
 rw [show p ++ (s, b) :: r = p ++ ([(s, b)] ++ r) from rfl] at ia
 obtain ⟨a, lo', af, n1, nm, n2, e1, em, e2, rfl, rfl, ha, iQ, bX, iO, iP, fP, zL, cZ⟩ := Ch.seg (seg := [(s, b)]) ia (fun x l u n e hx => hx.keys.1) fj.2 cx
 obtain ⟨na, nb, ea, eb, rfl, rfl, ba, bb⟩ := iQ
 have bb : Bn z N (h + 1) (b : Int) s af nb eb := bb
 have gx := List.nodup_cons.1 M.nd
 have dj := List.nodup_append.1 gx.2
 have dZ := List.nodup_append.1 dj.2.1
 have sB := List.nodup_append.1 dZ.1
 have dY : a ≠ b := fun e => by subst e; exact sB.2.2 _ ba.mem _ bb.mem rfl
 have cI : ∀ y ∈ na ++ nb, y ∉ n1 ∧ y ∉ n2 ∧ y ≠ no := fun y hy => ⟨fun h => dj.2.2 y h y (List.mem_append_left _ hy) rfl, fun h => dZ.2.2 y hy y h rfl, fun e => gx.1 (by rw [← e]; exact List.mem_append_right _ (List.mem_append_left _ hy))⟩
 have Fs := cI a (List.mem_append_left _ ba.mem)
 have lE := cI b (List.mem_append_right _ bb.mem)
 have hg : (c :: (p ++ (s, b) :: r).map (·.2))[p.length]? = some a := by rw [← getLast_kid]; exact ha
 have qZ : (c :: (p ++ (s, b) :: r).map (·.2))[p.length + 1]? = some b := by simp
 have mT := fj.2
 rw [List.map_append, List.map_cons] at mT
 obtain ⟨k1, k2, k3⟩ := List.pairwise_append.1 mT
 have k4 := List.pairwise_cons.1 k2
 have hs := cx s (by simp)
 have pD : lt s lo' = false ∧ lt lo' lo = false := by
  rw [bX]
  cases d8 : p.getLast? with
  | none => exact ⟨hs.1, lt_irrefl _⟩
  | some q =>
    have hq : q.1 ∈ p.map (·.1) := List.mem_map.2 ⟨q, List.mem_of_getLast? d8, rfl⟩; exact ⟨lt_asymm (k3 q.1 hq s (by simp)), (cx q.1 (by rw [List.map_append]; exact List.mem_append_left _ hq)).1⟩
 have AJ : ∀ u, af = some u → lt s u = true := fun u hu => by
  rw [iO] at hu
  cases r with
  | nil => simp at hu; exact hs.2 u hu
  | cons q r => simp at hu; rw [← hu]; exact k4.1 q.1 (by simp)
 refine ⟨a, lo', af, n1, na, nb, n2, e1, ea, eb, e2, rfl, rfl, hg, dY, ba, bb, ⟨pD.1, AJ⟩, hs.1, Fs.2.2, lE.2.2, cI, dZ.1, fun d hd sA DN => ?_, fun up lF jO => ?_, fun N' seg' nm' em' mw AK => ?_⟩
 ·-- another kid stands elsewhere
  refine ⟨fun hm => ?_, fun e => gx.1 (by rw [← e]; exact uS d hd)⟩
  -- change the two for one page of the same numbers: kids stay apart
  have p8 : d ∈ c :: (p ++ ([] ++ r) : List (Bytes × Nat)).map (·.2) := by
   simp only [List.nil_append, List.map_append, List.map_cons, List.mem_cons, List.mem_append] at hd ⊢; rcases hd with h | h | h | h
   ·exact .inl h
   ·exact .inr (.inl h)
   ·exact absurd h DN
   ·exact .inr (.inr h)
  -- seen as one page, its number is a's alone
  have hT : Ch (fun x l u n e => x ∈ n ∧ ∀ y ∈ n, y ∈ na ++ nb → x = (a : Int)) lo hi c (p ++ ([] ++ r)) (n1 ++ ((na ++ nb) ++ n2)) (e1 ++ ((ea ++ eb) ++ e2)) :=
   cZ _ [] (na ++ nb) (ea ++ eb) (fun x l u n e hx hn => ⟨hx.mem, fun y hy jQ => by
    rcases hn with hn | hn
    ·exact absurd (hn y hy) (cI y jQ).1
    ·exact absurd (hn y hy) (cI y jQ).2.1⟩) ⟨List.mem_append_left _ ba.mem, fun _ _ _ => rfl⟩
  have key : ∀ {lo c ns es} {q : List (Bytes × Nat)}, Ch (fun x l u n e => x ∈ n ∧ ∀ y ∈ n, y ∈ na ++ nb → x = (a : Int)) lo hi c q ns es → ∀ d ∈ c :: q.map (·.2), (d : Int) ∈ na ++ nb → d = a := by
   intro lo c ns es q
   induction q generalizing lo c ns es with
   | nil =>
     intro h d hd hm; simp at hd; subst hd
     exact Int.ofNat.inj (h.2 _ h.1 hm)
   | cons q r ih =>
     obtain ⟨k, d'⟩ := q; rintro ⟨m1, m2, f1, f2, rfl, rfl, g1, g2⟩ d hd hm; rcases List.mem_cons.1 hd with rfl | hd
     ·exact Int.ofNat.inj (g1.2 _ g1.1 hm)
     ·exact ih g2 d (by simpa using hd) hm
  exact sA (key hT d p8 hm)
 ·refine ⟨⟨le_trans pD.2 (le_of_lt jO), fun u hu => ?_⟩, fun m => ?_⟩
  ·cases r with
   | nil => exact lF.2 u (by rw [iO, hu]; rfl)
   | cons q r => exact lt_trans (lF.2 q.1 (by rw [iO]; rfl)) ((cx q.1 (by simp)).2 u hu)
  ·rw [List.map_append, List.map_cons]; refine List.pairwise_append.2 ⟨k1, List.pairwise_cons.2 ⟨fun y hy => ?_, k4.2⟩, fun x hx y hy => ?_⟩
   ·cases r with
    | nil => cases hy
    | cons q r =>
      have h1 := lF.2 q.1 (by rw [iO]; rfl); rw [List.map_cons] at hy; rcases List.mem_cons.1 hy with rfl | hy
      ·exact h1
      ·exact lt_trans h1 ((List.pairwise_cons.1 k4.2).1 y hy)
   ·rcases List.mem_cons.1 hy with rfl | hy
    ·cases d8 : p.getLast? with
     | none => have : p = [] := by simpa using d8
               subst this; cases hx
     | some q =>
       have hq : lo' = q.1 := by rw [bX, d8]; rfl
       rw [hq] at jO; obtain ⟨t, rfl⟩ := List.getLast?_eq_some_iff.1 d8; rw [List.map_append] at hx k1; rcases List.mem_append.1 hx with hx | hx
       ·exact lt_trans ((List.pairwise_append.1 k1).2.2 x hx q.1 (by simp)) jO
       ·simp at hx; subst hx; exact jO
    ·exact k3 x hx y (List.mem_cons_of_mem _ hy)
 ·refine cZ _ seg' nm' em' (fun x l u n e hx hn => hx.move fun y hy => mw y (hx.some y hy) (fun hm => ?_) (fun e => ?_)) AK
  ·rcases hn with hn | hn
   ·exact (cI y hm).1 (hn y hy)
   ·exact (cI y hm).2.1 (hn y hy)
  ·subst e; rcases hn with hn | hn
   ·exact gx.1 (List.mem_append_left _ (hn y hy))
   ·exact gx.1 (List.mem_append_right _ (List.mem_append_right _ (hn y hy)))
end
section
variable {z h : Nat} {N N2 : Nodes} {no : Int} {lo : Bytes} {hi : Option Bytes} {ns ns2 : List Int} {es : Es} {c x a b : Nat} {p r ps ps2 : List (Bytes × Nat)} {s : Bytes}
theorem keysOk_sub {l m : List Bytes} (h : keysOk m) (hs : l.Sublist m) : keysOk l := ⟨fun k hk => h.1 k (hs.subset hk), h.2.sublist hs⟩
theorem Mid.fin (M : Mid z h N no lo hi c ps ns es x) (hz : sizeOk z) (h1 : N2 no = some (innNd c ps2)) (h2 : keysOk (ps2.map (·.1))) (h3 : ps2.length + 1 ≤ orderE z) (h4 : ∀ y ∈ ps2, y.2 ≠ 0) (h5 : ∀ k ∈ ps2.map (·.1), inB lo hi k) (h6 : Ch (Bn z N2 (h + 1)) lo hi c ps2 ns2 es) (hx : x = a ∨ x = b)
  (hk : ∀ d ∈ c :: ps2.map (·.2), d ≠ a → d ≠ b → d ∈ c :: ps.map (·.2)) (ig : ∀ d ∈ c :: ps.map (·.2), d ≠ a → d ≠ b → N2 (d : Int) = N (d : Int)) (ha : Full z N2 a) (hb : b ∈ c :: ps2.map (·.2) → Full z N2 b) : Bn z N2 (h + 2) no lo hi (no :: ns2) es := by
 refine Bn.of_inner (by have := hz.1; omega) h1 h2 h3 ⟨M.nz.1, h4⟩ h5 (fun d hd => ?_) h6
 by_cases e1 : d = a
 ·rw [e1]; exact ha
 ·by_cases e2 : d = b
  ·subst e2; exact hb hd
  ·have p8 := hk d hd e1 e2; have aT : d ≠ x := fun e => by rcases hx with h | h <;> subst h <;> contradiction
   intro m hm; rw [ig d p8 e1 e2] at hm; exact M.full d p8 aT m hm
theorem join_in {lo' : Bytes} {af : Option Bytes} {ea eb : Es} (h1 : ∀ y ∈ ea, inB lo' (some s) y.1) (h2 : ∀ y ∈ eb, inB s af y.1) (hs : inB lo' af s) : ∀ y ∈ ea ++ eb, inB lo' af y.1 := fun y hy => by
 rcases List.mem_append.1 hy with hy | hy
 ·exact ⟨(h1 y hy).1, fun u hu => lt_trans ((h1 y hy).2 s rfl) (hs.2 u hu)⟩
 ·exact ⟨le_trans hs.1 (h2 y hy).1, (h2 y hy).2⟩
theorem join_es {lo' : Bytes} {af : Option Bytes} {ea eb : Es} (ha : EsOk z ea) (hb : EsOk z eb) (h1 : ∀ y ∈ ea, inB lo' (some s) y.1) (h2 : ∀ y ∈ eb, inB s af y.1) : EsOk z (ea ++ eb) := by
 refine ⟨fun y hy => ?_, ?_⟩
 ·rcases List.mem_append.1 hy with hy | hy
  ·exact ha.one y hy
  ·exact hb.one y hy
 ·rw [List.map_append]; refine List.pairwise_append.2 ⟨ha.rise, hb.rise, fun k hk k' aS => ?_⟩; obtain ⟨y, hy, rfl⟩ := List.mem_map.1 hk; obtain ⟨y', mr, rfl⟩ := List.mem_map.1 aS; exact lt_le_trans ((h1 y hy).2 s rfl) (h2 y' mr).1
theorem mid_sub (M : Mid z h N no lo hi c (p ++ (s, b) :: r) ns es x) : keysOk ((p ++ r).map (·.1)) ∧ (p ++ r).length + 1 ≤ orderE z ∧ (∀ y ∈ p ++ r, y.2 ≠ 0) ∧ ∀ k ∈ (p ++ r).map (·.1), inB lo hi k := by
 have hs : (p ++ r).Sublist (p ++ (s, b) :: r) := (List.Sublist.refl p).append (List.sublist_cons_self _ _)
 have hl := M.len
 simp only [List.length_append, List.length_cons] at hl
 exact ⟨keysOk_sub M.ko (hs.map _), by simp only [List.length_append]; omega, fun y hy => M.nz.2 y (hs.subset hy), fun k hk => M.inn k ((hs.map _).subset hk)⟩
theorem kids_sub : ∀ d ∈ c :: (p ++ r).map (·.2), d ∈ c :: (p ++ (s, b) :: r).map (·.2) := fun d hd => by
 simp only [List.map_append, List.map_cons, List.mem_cons, List.mem_append] at hd ⊢
 rcases hd with h | h | h
 ·exact .inl h
 ·exact .inr (.inl h)
 ·exact .inr (.inr (.inr h))
theorem kids_same {up : Bytes} : ∀ d, d ∈ c :: (p ++ (up, b) :: r).map (·.2) ↔ d ∈ c :: (p ++ (s, b) :: r).map (·.2) := fun d => by
 simp only [List.map_append, List.map_cons]
theorem mid_up {up : Bytes} (M : Mid z h N no lo hi c (p ++ (s, b) :: r) ns es x) (h1 : inB lo hi up) (h2 : Rise ((p ++ (up, b) :: r).map (·.1))) (h3 : 1 ≤ up.length ∧ up.length ≤ 64) : keysOk ((p ++ (up, b) :: r).map (·.1)) ∧ (p ++ (up, b) :: r).length + 1 ≤ orderE z ∧ (∀ y ∈ p ++ (up, b) :: r, y.2 ≠ 0) ∧ ∀ k ∈ (p ++ (up, b) :: r).map (·.1), inB lo hi k := by
 have hl := M.len
 have hb : b ≠ 0 := M.nz.2 (s, b) (by simp)
 simp only [List.length_append, List.length_cons] at hl ⊢
 refine ⟨⟨fun k hk => ?_, h2⟩, hl, fun y hy => ?_, fun k hk => ?_⟩
 ·rw [List.map_append, List.map_cons] at hk; rcases List.mem_append.1 hk with hk | hk
  ·exact M.ko.1 k (by rw [List.map_append]; exact List.mem_append_left _ hk)
  ·rcases List.mem_cons.1 hk with rfl | hk
   ·exact h3
   ·exact M.ko.1 k (by rw [List.map_append, List.map_cons]; exact List.mem_append_right _ (List.mem_cons_of_mem _ hk))
 ·rcases List.mem_append.1 hy with hy | hy
  ·exact M.nz.2 y (List.mem_append_left _ hy)
  ·rcases List.mem_cons.1 hy with rfl | hy
   ·exact hb
   ·exact M.nz.2 y (List.mem_append_right _ (List.mem_cons_of_mem _ hy))
 ·rw [List.map_append, List.map_cons] at hk; rcases List.mem_append.1 hk with hk | hk
  ·exact M.inn k (by rw [List.map_append]; exact List.mem_append_left _ hk)
  ·rcases List.mem_cons.1 hk with rfl | hk
   ·exact h1
   ·exact M.inn k (by rw [List.map_append, List.map_cons]; exact List.mem_append_right _ (List.mem_cons_of_mem _ hk))
theorem ev_merge {n1 nm nm' n2 : List Int} {na nn : Nd} (hn : (no :: (n1 ++ (nm ++ n2))).Nodup) (ha : (a : Int) ∈ nm) (hb : (b : Int) ∈ nm) (dY : (a : Int) ≠ b) (h1 : nm'.Nodup) (h2 : ∀ y, y ∈ nm' ↔ y ∈ nm ∧ y ≠ b) : Ev N (updI (updI (updI N a (some na)) b none) no (some nn)) (no :: (n1 ++ (nm ++ n2))) (no :: (n1 ++ (nm' ++ n2))) := by
 have gx := List.nodup_cons.1 hn
 have dj := List.nodup_append.1 gx.2
 have dZ := List.nodup_append.1 dj.2.1
 have bE : ∀ y ∈ nm', y ∈ nm := fun y hy => ((h2 y).1 hy).1
 have bj : (no :: (n1 ++ (nm' ++ n2))).Nodup := by
  refine List.nodup_cons.2 ⟨fun hm => gx.1 ?_, List.nodup_append.2 ⟨dj.1, List.nodup_append.2 ⟨h1, dZ.2.1, fun u hu v hv => dZ.2.2 u (bE u hu) v hv⟩, fun u hu v hv => dj.2.2 u hu v ?_⟩⟩
  ·simp only [List.mem_append] at hm ⊢; exact hm.imp id (.imp (bE _) id)
  ·simp only [List.mem_append] at hv ⊢; exact hv.imp (bE _) id
 have sC : (b : Int) ∈ no :: (n1 ++ (nm ++ n2)) := List.mem_cons_of_mem _ (List.mem_append_right _ (List.mem_append_left _ hb))
 have sD : (a : Int) ∈ no :: (n1 ++ (nm ++ n2)) := List.mem_cons_of_mem _ (List.mem_append_right _ (List.mem_append_left _ ha))
 refine ((Ev.set hn sD).trans (Ev.del bj (fun y hy => ?_) (fun y hy => ?_) sC)).trans (Ev.set bj (List.mem_cons_self ..))
 ·simp only [List.mem_cons, List.mem_append] at hy ⊢; exact hy.imp id (.imp id (.imp (bE y) id))
 ·by_cases e : y = (b : Int)
  ·exact .inr e
  ·left
   simp only [List.mem_cons, List.mem_append] at hy ⊢; exact hy.imp id (.imp id (.imp (fun h => (h2 y).2 ⟨h, e⟩) id))
theorem ev_even {n1 nm nm' n2 : List Int} {na nb nn : Nd} (hn : (no :: (n1 ++ (nm ++ n2))).Nodup) (ha : (a : Int) ∈ nm) (hb : (b : Int) ∈ nm) (h1 : nm'.Nodup) (h2 : ∀ y, y ∈ nm' ↔ y ∈ nm) : Ev N (updI (updI (updI N a (some na)) b (some nb)) no (some nn)) (no :: (n1 ++ (nm ++ n2))) (no :: (n1 ++ (nm' ++ n2))) := by
 have sC : (b : Int) ∈ no :: (n1 ++ (nm ++ n2)) := List.mem_cons_of_mem _ (List.mem_append_right _ (List.mem_append_left _ hb))
 have sD : (a : Int) ∈ no :: (n1 ++ (nm ++ n2)) := List.mem_cons_of_mem _ (List.mem_append_right _ (List.mem_append_left _ ha))
 have e := ((Ev.set (n := na) (N := N) hn sD).trans (Ev.set (n := nb) hn sC)).trans (Ev.set (n := nn) hn (List.mem_cons_self ..))
 have bx : ∀ y, y ∈ no :: (n1 ++ (nm' ++ n2)) ↔ y ∈ no :: (n1 ++ (nm ++ n2)) := fun y => by simp only [List.mem_cons, List.mem_append, h2 y]
 have gx := List.nodup_cons.1 hn
 have dj := List.nodup_append.1 gx.2
 have dZ := List.nodup_append.1 dj.2.1
 refine ⟨List.nodup_cons.2 ⟨fun hm => gx.1 ?_, List.nodup_append.2 ⟨dj.1, List.nodup_append.2 ⟨h1, dZ.2.1, fun u hu v hv => dZ.2.2 u ((h2 u).1 hu) v hv⟩, fun u hu v hv => dj.2.2 u hu v ?_⟩⟩, fun y hy => e.d1 y ((bx y).1 hy), e.d2, fun y hy => (e.d3 y hy).imp (bx y).2 id⟩
 ·simp only [List.mem_append, h2] at hm ⊢; exact hm
 ·simp only [List.mem_append, h2] at hv ⊢; exact hv

theorem fill_leaf1 {ea eb : Es} (M : Mid z 0 N no lo hi c (p ++ (s, b) :: r) ns es x) (hz : sizeOk z) (hg : (c :: (p ++ (s, b) :: r).map (·.2))[p.length]? = some a) (hx : x = a ∨ x = b) (hA : N (a : Int) = some (leafNd ea)) (hB : N (b : Int) = some (leafNd eb)) (gD : 3 + entB (ea ++ eb) ≤ z) :
  ∃ ns2, Bn z (updI (updI (updI N a (some (leafNd (ea ++ eb)))) b none) no (some (innNd c (p ++ r)))) 2 no lo hi (no :: ns2) es ∧ Ev N (updI (updI (updI N a (some (leafNd (ea ++ eb)))) b none) no (some (innNd c (p ++ r)))) (no :: ns) (no :: ns2) := by
 obtain ⟨a', lo', af, n1, na, nb, n2, e1, ea', eb', e2, rfl, rfl, aw, dY, ba, bb, hs, -, sE, mz, cI, bj, gG, -, cZ⟩ := M.pair hz
 rw [hg] at aw; cases aw
 have gy := hz
 obtain ⟨z1, z2, -⟩ := gy
 have mU := ba.keys.1
 have mV := bb.keys.1
 obtain ⟨vH, rfl, oka, -, -⟩ := ba.leaf (by omega)
 obtain ⟨jN, rfl, okb, -, -⟩ := bb.leaf (by omega)
 have ea_eq : ea = ea' := by
  rw [hA] at vH; have := congrArg (fun n : Nd => n.keys.zip n.vals) (oinj vH)
  simpa [leafNd, zip_es] using this
 have eb_eq : eb = eb' := by
  rw [hB] at jN; have := congrArg (fun n : Nd => n.keys.zip n.vals) (oinj jN)
  simpa [leafNd, zip_es] using this
 subst ea_eq
 subst eb_eq
 have eS : (a : Int) ≠ (b : Int) := fun e => dY (Int.ofNat.inj e)
 obtain ⟨q1, q2, q3, q4⟩ := mid_sub M
 have mW : (updI (updI (updI N a (some (leafNd (ea ++ eb)))) b none) no (some (innNd c (p ++ r)))) (a : Int) = some (leafNd (ea ++ eb)) := by rw [updI_ne sE, updI_ne eS, updI_same]
 have mw : ∀ y, N y ≠ none → y ∉ [(a : Int)] ++ [(b : Int)] → y ≠ no → (updI (updI (updI N a (some (leafNd (ea ++ eb)))) b none) no (some (innNd c (p ++ r)))) y = N y := fun y _ hy jQ => by
  simp at hy; rw [updI_ne jQ, updI_ne hy.2, updI_ne hy.1]
 have aO : ¬ (leafNd (ea ++ eb)).low z := by
  rw [leafNd_low, entB_app]
  have hw : Full z N a ∨ Full z N b := by
   rcases hx with rfl | rfl
   ·exact .inr (M.full b (by simp) (fun e => dY e.symm))
   ·exact .inl (M.full a (List.mem_of_getElem? hg) dY)
  rcases hw with hw | hw
  ·have := hw _ hA; rw [leafNd_low] at this; omega
  ·have := hw _ hB; rw [leafNd_low] at this; omega
 refine ⟨n1 ++ ([(a : Int)] ++ n2), M.fin hz (updI_same _ _ _) q1 q2 q3 q4 (cZ _ [] [(a : Int)] (ea ++ eb) mw ?_) hx (fun d hd _ _ => kids_sub d hd) (fun d hd h1 h2 => ?_) (fun m hm => by rw [mW] at hm; cases hm; exact aO) (fun hb => ?_), ev_merge M.nd (by simp) (by simp) eS (by simp) (fun y => ?_)⟩
 ·exact Bn.of_leaf (by omega) mW (join_es oka okb mU mV) gD (join_in mU mV hs)
 ·have := gG d hd h1 h2; have h3 : (d : Int) ≠ (a : Int) := fun e => h1 (Int.ofNat.inj e); have h4 : (d : Int) ≠ (b : Int) := fun e => h2 (Int.ofNat.inj e); rw [updI_ne this.2, updI_ne h4, updI_ne h3]
 ·intro m hm; rw [updI_ne mz, updI_same] at hm; cases hm
 ·simp only [List.mem_append, List.mem_singleton]; constructor
  ·rintro rfl; exact ⟨.inl rfl, eS⟩
  ·rintro ⟨h | h, h2⟩
   ·exact h
   ·exact absurd h h2
theorem fill_leaf2 {ea eb : Es} (M : Mid z 0 N no lo hi c (p ++ (s, b) :: r) ns es x) (hz : sizeOk z) (hg : (c :: (p ++ (s, b) :: r).map (·.2))[p.length]? = some a) (hx : x = a ∨ x = b) (hA : N (a : Int) = some (leafNd ea)) (hB : N (b : Int) = some (leafNd eb)) (gD : z < 3 + entB (ea ++ eb)) (bL : (leafNd ea).low z ∨ (leafNd eb).low z) :
  ∃ up, ((ea ++ eb)[halfOf (sizes (ea ++ eb))]?).map (·.1) = some up ∧ ∃ ns2, Bn z (updI (updI (updI N a (some (leafNd ((ea ++ eb).take (halfOf (sizes (ea ++ eb))))))) b (some (leafNd ((ea ++ eb).drop (halfOf (sizes (ea ++ eb))))))) no (some (innNd c (p ++ (up, b) :: r)))) 2 no lo hi (no :: ns2) es ∧ Ev N (updI (updI (updI N a (some (leafNd ((ea ++ eb).take (halfOf (sizes (ea ++ eb))))))) b (some (leafNd ((ea ++ eb).drop (halfOf (sizes (ea ++ eb))))))) no (some (innNd c (p ++ (up, b) :: r)))) (no :: ns) (no :: ns2) := by
 obtain ⟨a', lo', af, n1, na, nb, n2, e1, ea', eb', e2, rfl, rfl, aw, dY, ba, bb, hs, -, sE, mz, cI, bj, gG, eu, cZ⟩ := M.pair hz
 rw [hg] at aw; cases aw
 have gy := hz
 obtain ⟨z1, z2, -⟩ := gy
 have mU := ba.keys.1
 have mV := bb.keys.1
 obtain ⟨vH, rfl, oka, la, -⟩ := ba.leaf (by omega)
 obtain ⟨jN, rfl, okb, lb, -⟩ := bb.leaf (by omega)
 have ea_eq : ea = ea' := by
  rw [hA] at vH; have := congrArg (fun n : Nd => n.keys.zip n.vals) (oinj vH)
  simpa [leafNd, zip_es] using this
 have eb_eq : eb = eb' := by
  rw [hB] at jN; have := congrArg (fun n : Nd => n.keys.zip n.vals) (oinj jN)
  simpa [leafNd, zip_es] using this
 subst ea_eq
 subst eb_eq
 have eS : (a : Int) ≠ (b : Int) := fun e => dY (Int.ofNat.inj e)
 have hE := join_es oka okb mU mV
 have hI := join_in mU mV hs
 rw [leafNd_low, leafNd_low] at bL
 obtain ⟨a1, a2, a3, a4, a5, a6⟩ := cut_ok hz hE gD (by rw [entB_app]; unfold mostE; omega)
 revert hE hI a1 a2 a3 a4 a5 a6
 generalize DO : ea ++ eb = E
 generalize halfOf (sizes E) = m
 intro hE hI a1 a2 a3 a4 a5 a6
 have DP : E[m]? = some E[m] := List.getElem?_eq_getElem a2
 have bx : E[m] ∈ E := List.getElem_mem a2
 have eJ : (E.map (·.1))[m]? = some E[m].1 := by rw [List.getElem?_map, DP]; rfl
 have hl : ∀ y ∈ E.take m, lt y.1 E[m].1 = true := fun y hy => by
  obtain ⟨j, hj, rfl⟩ := List.getElem_of_mem hy; have iD : j < m := by simp at hj; omega
  have aZ : (E.map (·.1))[j]? = some ((E.take m)[j]).1 := by rw [List.getElem?_map, List.getElem?_eq_getElem (show j < E.length by omega)]; simp
  exact hE.rise.get iD aZ eJ
 have mQ : ∀ y ∈ E.drop m, lt y.1 E[m].1 = false := fun y hy => by
  obtain ⟨j, hj, rfl⟩ := List.getElem_of_mem hy; simp only [List.getElem_drop]; rcases Nat.eq_zero_or_pos j with h0 | h0
  ·subst h0; exact lt_irrefl _
  ·refine lt_asymm (hE.rise.get (show m < m + j by omega) eJ ?_); rw [List.getElem?_map, List.getElem?_eq_getElem (by simp at hj; omega)]
   rfl
 have sF : lt lo' E[m].1 = true := by
  obtain ⟨y, hy⟩ : ∃ y, y ∈ E.take m := by
   cases Ft : E.take m with
   | nil => have := congrArg List.length Ft; rw [List.length_take, List.length_nil] at this; omega
   | cons y _ => exact ⟨y, List.mem_cons_self ..⟩
  exact le_lt_trans (hI y (List.mem_of_mem_take hy)).1 (hl y hy)
 obtain ⟨u1, u2⟩ := eu E[m].1 (hI _ bx) sF
 obtain ⟨q1, q2, q3, q4⟩ := mid_up M u1 (u2 b) ⟨(hE.one _ bx).1, (hE.one _ bx).2.1⟩
 refine ⟨E[m].1, by rw [DP]; rfl, n1 ++ (([(a : Int)] ++ [(b : Int)]) ++ n2), ?_, ev_even M.nd (by simp) (by simp) (by simp [eS]) (fun y => Iff.rfl)⟩
 have mW : (updI (updI (updI N a (some (leafNd (E.take m)))) b (some (leafNd (E.drop m)))) no (some (innNd c (p ++ (E[m].1, b) :: r)))) (a : Int) = some (leafNd (E.take m)) := by rw [updI_ne sE, updI_ne eS, updI_same]
 have vI : (updI (updI (updI N a (some (leafNd (E.take m)))) b (some (leafNd (E.drop m)))) no (some (innNd c (p ++ (E[m].1, b) :: r)))) (b : Int) = some (leafNd (E.drop m)) := by rw [updI_ne mz, updI_same]
 have iQ := cZ (updI (updI (updI N a (some (leafNd (E.take m)))) b (some (leafNd (E.drop m)))) no (some (innNd c (p ++ (E[m].1, b) :: r)))) [(E[m].1, b)] ([(a : Int)] ++ [(b : Int)]) (E.take m ++ E.drop m) (fun y _ hy jQ => by
   simp at hy
   rw [updI_ne jQ, updI_ne hy.2, updI_ne hy.1]) ⟨[(a : Int)], [(b : Int)], E.take m, E.drop m, rfl, rfl, Bn.of_leaf (by omega) mW (hE.sub (List.take_sublist _ _)) a3 (fun y hy => ⟨(hI y (List.mem_of_mem_take hy)).1, fun u hu => by cases hu; exact hl y hy⟩), Bn.of_leaf (by omega) vI (hE.sub (List.drop_sublist _ _)) a4 (fun y hy => ⟨mQ y hy, (hI y (List.mem_of_mem_drop hy)).2⟩)⟩
 rw [List.take_append_drop] at iQ
 have ao := M.fin hz (updI_same _ _ _) q1 q2 q3 q4 (ns2 := n1 ++ (([(a : Int)] ++ [(b : Int)]) ++ n2)) (N2 := updI (updI (updI N a (some (leafNd (E.take m)))) b (some (leafNd (E.drop m)))) no (some (innNd c (p ++ (E[m].1, b) :: r)))) (by rw [DO]; exact iQ) hx (fun d hd _ _ => (kids_same d).1 hd) (fun d hd h1 h2 => by
  have := gG d hd h1 h2; have h3 : (d : Int) ≠ (a : Int) := fun e => h1 (Int.ofNat.inj e); have h4 : (d : Int) ≠ (b : Int) := fun e => h2 (Int.ofNat.inj e)
  rw [updI_ne this.2, updI_ne h4, updI_ne h3]) (fun m hm => by rw [mW] at hm; cases hm; exact a5) (fun _ m hm => by rw [vI] at hm; cases hm; exact a6)
 rw [DO] at ao
 exact ao
end
section
variable {z h : Nat} {N N2 : Nodes} {no : Int} {lo : Bytes} {hi : Option Bytes} {ns ns2 : List Int} {es : Es} {c x a b : Nat} {p r ps ps2 : List (Bytes × Nat)} {s : Bytes}
theorem innNd_inj {c c' : Nat} {ps ps' : List (Bytes × Nat)} (h : innNd c ps = innNd c' ps') : c = c' ∧ ps = ps' := by
 have h1 : ps.map (·.1) = ps'.map (·.1) := congrArg Nd.keys h
 have h2 : c :: ps.map (·.2) = c' :: ps'.map (·.2) := congrArg Nd.kids h
 obtain ⟨h3, h4⟩ := List.cons.inj h2
 refine ⟨h3, ?_⟩
 have zz : ∀ q : List (Bytes × Nat), q = (q.map (·.1)).zip (q.map (·.2)) := fun q => by
  induction q with
  | nil => rfl
  | cons x r ih => simp only [List.map_cons, List.zip_cons_cons]; rw [← ih]
 rw [zz ps, zz ps', h1, h4]
theorem Bn.ne (hz : sizeOk z) (s : Bn z N h no lo hi ns es) (hf : ∀ m, N no = Option.some m → ¬ m.low z) : es ≠ [] := by
 obtain ⟨z1, z2, -⟩ := hz
 induction h generalizing no lo hi ns es with
 | zero => exact s.elim
 | succ h ih =>
   cases h with
   | zero =>
     obtain ⟨hn, -, -, -, -⟩ := s.leaf (by omega); intro e; have := hf _ hn; rw [leafNd_low, e] at this
     simp at this; omega
   | succ h =>
     obtain ⟨c, ps, ns', hn, rfl, -, -, -, -, aO, hc⟩ := s.inner (by omega)
     cases ps with
     | nil => exact ih hc (aO c (by simp))
     | cons q r =>
       obtain ⟨k, d⟩ := q; obtain ⟨n1, n2, e1, e2, rfl, rfl, h1, h2⟩ := hc; have := ih h1 (aO c (by simp)); intro e; exact this (List.append_eq_nil_iff.1 e).1
theorem keys_gt (hz : sizeOk z) (hc : Ch (Bn z N h) lo hi c ps ns es) (hf : Full z N c) (hr : Rise (ps.map (·.1))) : ∀ k ∈ ps.map (·.1), lt lo k = true := by
 cases ps with
 | nil => intro k hk; cases hk
 | cons q r =>
   obtain ⟨k1, d⟩ := q; obtain ⟨n1, n2, e1, e2, rfl, rfl, h1, h2⟩ := hc; have aT := h1.ne hz hf
   have aC : lt lo k1 = true := by
    cases e1 with
    | nil => exact absurd rfl aT
    | cons y t =>
      have := h1.keys.1 y (List.mem_cons_self ..); exact le_lt_trans this.1 (this.2 k1 rfl)
   intro k hk; rw [List.map_cons] at hk; rcases List.mem_cons.1 hk with rfl | hk
   ·exact aC
   ·exact lt_trans aC ((List.pairwise_cons.1 hr).1 k hk)
theorem inn_join {ca cb : Nat} {pa pb : List (Bytes × Nat)} {lo' : Bytes} {af : Option Bytes} {na nb : List Int} {ea eb : Es} (hz : sizeOk z) (hA : N (a : Int) = some (innNd ca pa)) (hB : N (b : Int) = some (innNd cb pb)) (ba : Bn z N (h + 2) a lo' (some s) na ea) (bb : Bn z N (h + 2) b s af nb eb) (hs : inB lo' af s) (l9 : 1 ≤ s.length ∧ s.length ≤ 64) (bj : (na ++ nb).Nodup) :
  ∃ na' nb', na = (a : Int) :: na' ∧ nb = (b : Int) :: nb' ∧ keysOk ((pa ++ (s, cb) :: pb).map (·.1)) ∧ (ca ≠ 0 ∧ ∀ y ∈ pa ++ (s, cb) :: pb, y.2 ≠ 0) ∧ (∀ k ∈ (pa ++ (s, cb) :: pb).map (·.1), inB lo' af k) ∧ pa.length + 1 ≤ orderE z ∧ pb.length + 1 ≤ orderE z ∧
    (∀ d ∈ ca :: (pa ++ (s, cb) :: pb).map (·.2), Full z N d ∧ (d : Int) ∈ na' ++ nb') ∧
    ∀ N2 : Nodes, (∀ y ∈ na' ++ nb', N2 y = N y) → Ch (Bn z N2 (h + 1)) lo' af ca (pa ++ (s, cb) :: pb) (na' ++ nb') (ea ++ eb) := by
 have gy := hz
 obtain ⟨z1, z2, -⟩ := gy
 obtain ⟨c1, p1, na', h1, rfl, k1, l1, o1, i1, f1, ch1⟩ := ba.inner (by omega)
 obtain ⟨c2, p2, nb', h2, rfl, k2, l2, o2, i2, f2, ch2⟩ := bb.inner (by omega)
 rw [hA] at h1; obtain ⟨rfl, rfl⟩ := innNd_inj (oinj h1)
 rw [hB] at h2; obtain ⟨rfl, rfl⟩ := innNd_inj (oinj h2)
 have mQ := keys_gt hz ch2 (f2 cb (by simp)) k2.2
 have aC := ch1.kid (fun x l u n e hx => hx.mem)
 have am := ch2.kid (fun x l u n e hx => hx.mem)
 refine ⟨na', nb', rfl, rfl, ⟨fun k hk => ?_, ?_⟩, ⟨o1.1, fun y hy => ?_⟩, fun k hk => ?_, l1, l2, fun d hd => ?_, fun N2 mw => ?_⟩
 ·rw [List.map_append, List.map_cons] at hk; rcases List.mem_append.1 hk with hk | hk
  ·exact k1.1 k hk
  ·rcases List.mem_cons.1 hk with rfl | hk
   ·exact l9
   ·exact k2.1 k hk
 ·rw [List.map_append, List.map_cons]; refine List.pairwise_append.2 ⟨k1.2, List.pairwise_cons.2 ⟨mQ, k2.2⟩, fun u hu v hv => ?_⟩; have DQ := (i1 u hu).2 s rfl; rcases List.mem_cons.1 hv with rfl | hv
  ·exact DQ
  ·exact lt_trans DQ (mQ v hv)
 ·rcases List.mem_append.1 hy with hy | hy
  ·exact o1.2 y hy
  ·rcases List.mem_cons.1 hy with rfl | hy
   ·exact o2.1
   ·exact o2.2 y hy
 ·rw [List.map_append, List.map_cons] at hk; rcases List.mem_append.1 hk with hk | hk
  ·exact ⟨(i1 k hk).1, fun u hu => lt_trans ((i1 k hk).2 s rfl) (hs.2 u hu)⟩
  ·rcases List.mem_cons.1 hk with rfl | hk
   ·exact hs
   ·exact ⟨le_trans hs.1 (i2 k hk).1, (i2 k hk).2⟩
 ·simp only [List.map_append, List.map_cons, List.mem_cons, List.mem_append] at hd
  have : d ∈ ca :: pa.map (·.2) ∨ d ∈ cb :: pb.map (·.2) := by
   simp only [List.mem_cons]; rcases hd with h | h | h | h
   ·exact .inl (.inl h)
   ·exact .inl (.inr h)
   ·exact .inr (.inl h)
   ·exact .inr (.inr h)
  rcases this with h | h
  ·exact ⟨f1 d h, List.mem_append_left _ (aC d h)⟩
  ·exact ⟨f2 d h, List.mem_append_right _ (am d h)⟩
 ·exact Ch.app.2 ⟨na', nb', ea, eb, rfl, rfl, ch1.mono (fun x l u n e hx hn => hx.move fun y hy => mw y (List.mem_append_left _ (hn y hy))), ch2.mono (fun x l u n e hx hn => hx.move fun y hy => mw y (List.mem_append_right _ (hn y hy)))⟩
theorem fill_inn1 {ca cb : Nat} {pa pb : List (Bytes × Nat)} (M : Mid z (h + 1) N no lo hi c (p ++ (s, b) :: r) ns es x) (hz : sizeOk z) (hg : (c :: (p ++ (s, b) :: r).map (·.2))[p.length]? = some a) (hx : x = a ∨ x = b) (hA : N (a : Int) = some (innNd ca pa)) (hB : N (b : Int) = some (innNd cb pb)) (gD : (pa ++ (s, cb) :: pb).length + 1 ≤ orderE z) :
  ∃ ns2, Bn z (updI (updI (updI N a (some (innNd ca (pa ++ (s, cb) :: pb)))) b none) no (some (innNd c (p ++ r)))) (h + 3) no lo hi (no :: ns2) es ∧ Ev N (updI (updI (updI N a (some (innNd ca (pa ++ (s, cb) :: pb)))) b none) no (some (innNd c (p ++ r)))) (no :: ns) (no :: ns2) := by
 obtain ⟨a', lo', af, n1, na, nb, n2, e1, ea, eb, e2, rfl, rfl, aw, dY, ba, bb, hs, -, sE, mz, cI, bj, gG, -, cZ⟩ := M.pair hz
 rw [hg] at aw; cases aw
 have gy := hz
 obtain ⟨z1, z2, -⟩ := gy
 have eS : (a : Int) ≠ (b : Int) := fun e => dY (Int.ofNat.inj e)
 have l9 := M.ko.1 s (by simp)
 obtain ⟨na', nb', rfl, rfl, j1, j2, j3, j4, j5, j6, j7⟩ := inn_join hz hA hB ba bb hs l9 bj
 obtain ⟨q1, q2, q3, q4⟩ := mid_sub M
 have mX := bj
 simp only [List.cons_append, List.nodup_cons, List.nodup_append, List.mem_append, List.mem_cons, not_or] at mX
 obtain ⟨⟨d1, d2, d3⟩, d4, ⟨d5, d6⟩, d7⟩ := mX
 have aT : ∀ y ∈ na' ++ nb', y ≠ a ∧ y ≠ b ∧ y ≠ no := fun y hy => by
  rcases List.mem_append.1 hy with hy | hy
  ·exact ⟨fun e => d1 (e ▸ hy), fun e => d7 y hy b (.inl rfl) e, (cI y (by simp [hy])).2.2⟩
  ·exact ⟨fun e => d3 (e ▸ hy), fun e => d5 (e ▸ hy), (cI y (by simp [hy])).2.2⟩
 have mW : (updI (updI (updI N a (some (innNd ca (pa ++ (s, cb) :: pb)))) b none) no (some (innNd c (p ++ r)))) (a : Int) = some (innNd ca (pa ++ (s, cb) :: pb)) := by rw [updI_ne sE, updI_ne eS, updI_same]
 have mw : ∀ y ∈ na' ++ nb', (updI (updI (updI N a (some (innNd ca (pa ++ (s, cb) :: pb)))) b none) no (some (innNd c (p ++ r)))) y = N y := fun y hy => by
  obtain ⟨h1, h2, h3⟩ := aT y hy; rw [updI_ne h3, updI_ne h2, updI_ne h1]
 have aO : ¬ (innNd ca (pa ++ (s, cb) :: pb)).low z := by
  rw [innNd_low]; simp only [List.length_append, List.length_cons]
  have hw : Full z N a ∨ Full z N b := by
   rcases hx with rfl | rfl
   ·exact .inr (M.full b (by simp) (fun e => dY e.symm))
   ·exact .inl (M.full a (List.mem_of_getElem? hg) dY)
  rcases hw with hw | hw
  ·have := hw _ hA; rw [innNd_low] at this; omega
  ·have := hw _ hB; rw [innNd_low] at this; omega
 refine ⟨n1 ++ (((a : Int) :: (na' ++ nb')) ++ n2), M.fin hz (updI_same _ _ _) q1 q2 q3 q4 (cZ _ [] ((a : Int) :: (na' ++ nb')) (ea ++ eb) (fun y _ hy jQ => ?_) ?_) hx (fun d hd _ _ => kids_sub d hd) (fun d hd h1 h2 => ?_) (fun m hm => by rw [mW] at hm; cases hm; exact aO) (fun hb => ?_), ev_merge M.nd (by simp) (by simp) eS ?_ (fun y => ?_)⟩
 ·simp only [List.cons_append, List.mem_cons, List.mem_append, not_or] at hy; rw [updI_ne jQ, updI_ne hy.2.2.1, updI_ne hy.1]
 ·exact Bn.of_inner (by omega) mW j1 gD j2 j3 (fun d hd m hm => by rw [mw _ (j6 d hd).2] at hm; exact (j6 d hd).1 m hm) (j7 _ mw)
 ·have := gG d hd h1 h2; have h3 : (d : Int) ≠ (a : Int) := fun e => h1 (Int.ofNat.inj e); have h4 : (d : Int) ≠ (b : Int) := fun e => h2 (Int.ofNat.inj e); rw [updI_ne this.2, updI_ne h4, updI_ne h3]
 ·intro m hm; rw [updI_ne mz, updI_same] at hm; cases hm
 ·exact List.nodup_cons.2 ⟨fun hm => (aT _ hm).1 rfl, List.nodup_append.2 ⟨d4, d6, fun u hu v hv => d7 u hu v (.inr hv)⟩⟩
 ·simp only [List.cons_append, List.mem_cons, List.mem_append]; constructor
  ·rintro (rfl | h | h)
   ·exact ⟨.inl rfl, eS⟩
   ·exact ⟨.inr (.inl h), (aT y (List.mem_append_left _ h)).2.1⟩
   ·exact ⟨.inr (.inr (.inr h)), (aT y (List.mem_append_right _ h)).2.1⟩
  ·rintro ⟨h | h | h | h, h2⟩
   ·exact .inl h
   ·exact .inr (.inl h)
   ·exact absurd h h2
   ·exact .inr (.inr h)
theorem fill_inn2 {ca cb : Nat} {pa pb : List (Bytes × Nat)} (M : Mid z (h + 1) N no lo hi c (p ++ (s, b) :: r) ns es x) (hz : sizeOk z) (hg : (c :: (p ++ (s, b) :: r).map (·.2))[p.length]? = some a) (hx : x = a ∨ x = b) (hA : N (a : Int) = some (innNd ca pa)) (hB : N (b : Int) = some (innNd cb pb)) (gD : orderE z < (pa ++ (s, cb) :: pb).length + 1) :
  ∃ up c2, (pa ++ (s, cb) :: pb)[((pa ++ (s, cb) :: pb).length + 1) / 2 - 1]? = some (up, c2) ∧ ∃ ns2, Bn z (updI (updI (updI N a (some (innNd ca ((pa ++ (s, cb) :: pb).take (((pa ++ (s, cb) :: pb).length + 1) / 2 - 1))))) b (some (innNd c2 ((pa ++ (s, cb) :: pb).drop (((pa ++ (s, cb) :: pb).length + 1) / 2))))) no (some (innNd c (p ++ (up, b) :: r)))) (h + 3) no lo hi (no :: ns2) es ∧
    Ev N (updI (updI (updI N a (some (innNd ca ((pa ++ (s, cb) :: pb).take (((pa ++ (s, cb) :: pb).length + 1) / 2 - 1))))) b (some (innNd c2 ((pa ++ (s, cb) :: pb).drop (((pa ++ (s, cb) :: pb).length + 1) / 2))))) no (some (innNd c (p ++ (up, b) :: r)))) (no :: ns) (no :: ns2) := by
 obtain ⟨a', lo', af, n1, na, nb, n2, e1, ea, eb, e2, rfl, rfl, aw, dY, ba, bb, hs, -, sE, mz, cI, bj, gG, eu, cZ⟩ := M.pair hz
 rw [hg] at aw; cases aw
 have gy := hz
 obtain ⟨z1, z2, -⟩ := gy
 have eS : (a : Int) ≠ (b : Int) := fun e => dY (Int.ofNat.inj e)
 have l9 := M.ko.1 s (by simp)
 obtain ⟨na', nb', rfl, rfl, j1, j2, j3, j4, j5, j6, j7⟩ := inn_join hz hA hB ba bb hs l9 bj
 have bY : (pa ++ (s, cb) :: pb).length + 1 ≤ 2 * orderE z := by simp only [List.length_append, List.length_cons]; omega
 revert j1 j2 j3 j6 j7 gD bY
 generalize pa ++ (s, cb) :: pb = K
 intro gD j1 j2 j3 j6 j7 bY
 obtain ⟨up, c2, AL, m1, m2, f1, f2, em, ee, -, -, k1, k2, i1, i2, l1, l2, w1, w2, vJ, vK, AM, dE⟩ := part_ok (j7 N (fun _ _ => rfl)) hz j1 gD bY j2 j3
 have DR : ∀ y, y ∈ m1 ++ m2 ↔ y ∈ na' ++ nb' := fun y => by rw [em]
 obtain ⟨u1, u2⟩ := eu up vJ vK
 obtain ⟨q1, q2, q3, q4⟩ := mid_up M u1 (u2 b) AM
 have mX := bj
 simp only [List.cons_append, List.nodup_cons, List.nodup_append, List.mem_append, List.mem_cons, not_or] at mX
 obtain ⟨⟨d1, d2, d3⟩, d4, ⟨d5, d6⟩, d7⟩ := mX
 have aT : ∀ y ∈ na' ++ nb', y ≠ a ∧ y ≠ b ∧ y ≠ no := fun y hy => by
  rcases List.mem_append.1 hy with hy | hy
  ·exact ⟨fun e => d1 (e ▸ hy), fun e => d7 y hy b (.inl rfl) e, (cI y (by simp [hy])).2.2⟩
  ·exact ⟨fun e => d3 (e ▸ hy), fun e => d5 (e ▸ hy), (cI y (by simp [hy])).2.2⟩
 have Fu : (m1 ++ m2).Nodup := by rw [← em]; exact List.nodup_append.2 ⟨d4, d6, fun u hu v hv => d7 u hu v (.inr hv)⟩
 obtain ⟨N2, sG⟩ : ∃ N2, updI (updI (updI N a (some (innNd ca (K.take ((K.length + 1) / 2 - 1))))) b (some (innNd c2 (K.drop ((K.length + 1) / 2))))) no (some (innNd c (p ++ (up, b) :: r))) = N2 := ⟨_, rfl⟩
 have mW : N2 (a : Int) = some (innNd ca (K.take ((K.length + 1) / 2 - 1))) := by rw [← sG, updI_ne sE, updI_ne eS, updI_same]
 have vI : N2 (b : Int) = some (innNd c2 (K.drop ((K.length + 1) / 2))) := by rw [← sG, updI_ne mz, updI_same]
 have zP : N2 no = some (innNd c (p ++ (up, b) :: r)) := by rw [← sG, updI_same]
 have ig : ∀ y : Int, y ≠ a → y ≠ b → y ≠ no → N2 y = N y := fun y h1 h2 h3 => by rw [← sG, updI_ne h3, updI_ne h2, updI_ne h1]
 have mw : ∀ y ∈ na' ++ nb', N2 y = N y := fun y hy => by
  obtain ⟨h1, h2, h3⟩ := aT y hy; exact ig y h1 h2 h3
 obtain ⟨up', c2', vL, m1', m2', f1', f2', em', ee', c1, c3, -⟩ := part_ok (j7 N2 mw) hz j1 gD bY j2 j3
 rw [AL] at vL; cases vL
 have uT : ∀ d ∈ ca :: K.map (·.2), Full z N2 d := fun d hd m hm => by rw [mw _ (j6 d hd).2] at hm; exact (j6 d hd).1 m hm
 have Fv : Bn z N2 (h + 2) a lo' (some up) ((a : Int) :: m1') f1' := Bn.of_inner (by omega) mW k1 l1 ⟨j2.1, fun y hy => j2.2 y (List.mem_of_mem_take hy)⟩ i1 (fun d hd => uT d (by
  rcases List.mem_cons.1 hd with rfl | hd
  ·simp
  ·rw [List.map_take] at hd; exact List.mem_cons_of_mem _ (List.mem_of_mem_take hd))) c1
 have ay : Bn z N2 (h + 2) b up af ((b : Int) :: m2') f2' := Bn.of_inner (by omega) vI k2 l2 ⟨dE, fun y hy => j2.2 y (List.mem_of_mem_drop hy)⟩ i2 (fun d hd => uT d (by
  rcases List.mem_cons.1 hd with rfl | hd
  ·exact List.mem_cons_of_mem _ (List.mem_map.2 ⟨_, List.mem_of_getElem? AL, rfl⟩)
  ·rw [List.map_drop] at hd; exact List.mem_cons_of_mem _ (List.mem_of_mem_drop hd))) c3
 have fZ : ∀ y, y ∈ m1' ++ m2' ↔ y ∈ na' ++ nb' := fun y => by rw [em']
 have vM : (m1' ++ m2').Nodup := by rw [← em']; exact List.nodup_append.2 ⟨d4, d6, fun u hu v hv => d7 u hu v (.inr hv)⟩
 have iQ := cZ N2 [(up, b)] (((a : Int) :: m1') ++ ((b : Int) :: m2')) (f1' ++ f2') (fun y _ hy jQ => by
  simp only [List.cons_append, List.mem_cons, List.mem_append, not_or] at hy
  exact ig y hy.1 hy.2.2.1 jQ) ⟨_, _, f1', f2', rfl, rfl, Fv, ay⟩
 rw [← ee'] at iQ
 refine ⟨up, c2, AL, n1 ++ ((((a : Int) :: m1') ++ ((b : Int) :: m2')) ++ n2), ?_, ?_⟩
 ·rw [sG]; exact M.fin hz zP q1 q2 q3 q4 iQ hx (fun d hd _ _ => (kids_same d).1 hd) (fun d hd h1 h2 => ig d (fun e => h1 (Int.ofNat.inj e)) (fun e => h2 (Int.ofNat.inj e)) (gG d hd h1 h2).2) (fun m hm => by rw [mW] at hm; cases hm; exact w1) (fun _ m hm => by rw [vI] at hm; cases hm; exact w2)
 ·refine ev_even M.nd (by simp) (by simp) ?_ (fun y => ?_)
  ·have hx := List.nodup_append.1 vM; refine List.nodup_append.2 ⟨List.nodup_cons.2 ⟨fun hm => (aT _ ((fZ _).1 (List.mem_append_left _ hm))).1 rfl, hx.1⟩, List.nodup_cons.2 ⟨fun hm => (aT _ ((fZ _).1 (List.mem_append_right _ hm))).2.1 rfl, hx.2.1⟩, fun u hu v hv Fw => ?_⟩; subst Fw; rcases List.mem_cons.1 hu with rfl | hu
   ·rcases List.mem_cons.1 hv with hv | hv
    ·exact eS hv
    ·exact (aT _ ((fZ _).1 (List.mem_append_right _ hv))).1 rfl
   ·rcases List.mem_cons.1 hv with rfl | hv
    ·exact (aT _ ((fZ _).1 (List.mem_append_left _ hu))).2.1 rfl
    ·exact hx.2.2 u hu u hv rfl
  ·have := fZ y; simp only [List.mem_append] at this; simp only [List.cons_append, List.mem_cons, List.mem_append]; constructor
   ·rintro (h | h | h | h)
    ·exact .inl h
    ·rcases this.1 (.inl h) with h | h
     ·exact .inr (.inl h)
     ·exact .inr (.inr (.inr h))
    ·exact .inr (.inr (.inl h))
    ·rcases this.1 (.inr h) with h | h
     ·exact .inr (.inl h)
     ·exact .inr (.inr (.inr h))
   ·rintro (h | h | h | h)
    ·exact .inl h
    ·rcases this.2 (.inl h) with h | h
     ·exact .inr (.inl h)
     ·exact .inr (.inr (.inr h))
    ·exact .inr (.inr (.inl h))
    ·rcases this.2 (.inr h) with h | h
     ·exact .inr (.inl h)
     ·exact .inr (.inr (.inr h))
end
def wayI (l : List Bytes) (k : Bytes) : Nat := if l[pos l k]? = some k then pos l k + 1 else pos l k
theorem wayI_le (l : List Bytes) (k : Bytes) : wayI l k ≤ l.length := by
 unfold wayI
 split
 ·rename_i h
  rcases Nat.lt_or_ge (pos l k) l.length with h' | h'
  ·omega
  ·rw [List.getElem?_eq_none h'] at h; cases h
 ·exact pos_le l k
theorem wayI_lo {l : List Bytes} {k : Bytes} : ∀ x ∈ l.take (wayI l k), lt k x = false := by
 intro x hx
 unfold wayI at hx
 split at hx
 ·rename_i h
  have hl : pos l k < l.length := by
   rcases Nat.lt_or_ge (pos l k) l.length with h' | h'
   ·exact h'
   ·rw [List.getElem?_eq_none h'] at h; cases h
  rw [List.take_succ_eq_append_getElem hl] at hx; rcases List.mem_append.1 hx with hx | hx
  ·exact lt_asymm (pos_lt x hx)
  ·rw [List.getElem?_eq_getElem hl] at h; simp at hx; rw [hx, oinj h]; exact lt_irrefl _
 ·exact lt_asymm (pos_lt x hx)
theorem wayI_hi {l : List Bytes} {k : Bytes} (hr : Rise l) : ∀ x ∈ l.drop (wayI l k), lt k x = true := by
 intro x hx
 unfold wayI at hx
 split at hx
 ·rename_i h
  obtain ⟨j, hj, sy⟩ := List.getElem_of_mem hx; refine hr.get (i := pos l k) (j := pos l k + 1 + j) (by omega) h ?_; have h0 := List.getElem?_eq_getElem hj; rw [sy, List.getElem?_drop] at h0; exact h0
 ·rename_i h
  have h1 := pos_ge hr x hx; rcases lt_tri k x with h2 | h2 | h2
  ·exact h2
  ·exfalso; subst h2
   have hl : pos l k < l.length := by
    rcases Nat.lt_or_ge (pos l k) l.length with h' | h'
    ·exact h'
    ·rw [List.drop_eq_nil_of_le h'] at hx; cases hx
   apply h; obtain ⟨j, hj, sy⟩ := List.getElem_of_mem hx; have h0 := List.getElem?_eq_getElem hj; rw [sy, List.getElem?_drop] at h0
   cases j with
   | zero => exact h0
   | succ j =>
     have hb := pos_ge hr l[pos l k] (by rw [List.drop_eq_getElem_cons hl]; exact List.mem_cons_self ..); have := hr.get (i := pos l k) (j := pos l k + (j + 1)) (by omega) (List.getElem?_eq_getElem hl) h0; rw [this] at hb; cases hb
  ·rw [h1] at h2; cases h2
section
variable {z h : Nat} {N : Nodes} {no : Int} {lo : Bytes} {hi : Option Bytes} {ns : List Int} {es : Es} {k : Bytes}
theorem del_leaf (hz : sizeOk z) (s : Bn z N 1 no lo hi ns es) : Bn z (updI N no (some (leafNd (delE es k)))) 1 no lo hi ns (delE es k) ∧ Ev N (updI N no (some (leafNd (delE es k)))) ns ns := by
 obtain ⟨z1, z2, -⟩ := hz
 obtain ⟨hn, rfl, bi, hb, cx⟩ := s.leaf (by omega)
 have bE : (delE es k).Sublist es := by
  unfold delE; split
  ·conv => rhs; rw [← List.take_append_drop (posE es k) es]
   refine (List.Sublist.refl _).append ?_; rw [← List.drop_drop]; exact List.drop_sublist _ _
  ·exact List.Sublist.refl _
 have pA : entB (delE es k) ≤ entB es := by
  unfold delE; split
  ·have h1 := entB_take_drop es (posE es k); have h2 := entB_take_drop (es.drop (posE es k)) 1; rw [List.drop_drop] at h2; rw [entB_app]; omega
  ·exact Nat.le_refl _
 exact ⟨Bn.of_leaf (by omega) (updI_same _ _ _) (bi.sub bE) (by omega) (fun x hx => cx x (bE.subset hx)), Ev.one (by rw [hn]; simp)⟩
theorem inner_step (hz : sizeOk z) (s : Bn z N (h + 2) no lo hi ns es) (hn : ns.Nodup) (hk : inB lo hi k) : ∃ c ps ns', N no = some (innNd c ps) ∧ ns = no :: ns' ∧ keysOk (ps.map (·.1)) ∧ ps.length + 1 ≤ orderE z ∧ (c ≠ 0 ∧ ∀ y ∈ ps, y.2 ≠ 0) ∧ (∀ d ∈ c :: ps.map (·.2), Full z N d) ∧
  ∃ a lo' af nm em e1 e2, (c :: ps.map (·.2))[wayI (ps.map (·.1)) k]? = some a ∧ Bn z N (h + 1) a lo' af nm em ∧ nm.Nodup ∧ inB lo' af k ∧ no ∉ nm ∧ (∀ y ∈ nm, y ∈ ns) ∧ es = e1 ++ (em ++ e2) ∧ (∀ x ∈ e1, lt x.1 k = true) ∧ (∀ x ∈ e2, lt k x.1 = true) ∧
    (∀ (N1 : Nodes) nm' em', Bn z N1 (h + 1) a lo' af nm' em' → Ev N N1 nm nm' → ∃ ns1, Mid z h N1 no lo hi c ps ns1 (e1 ++ (em' ++ e2)) a ∧ Ev N N1 ns (no :: ns1)) ∧
    (∀ (N1 : Nodes) (up : Bytes) (more : Nat) (n1' n2' : List Int) (f1 f2 : Es), Bn z N1 (h + 1) a lo' (some up) n1' f1 → Bn z N1 (h + 1) (more : Int) up af n2' f2 → Ev N N1 nm (n1' ++ n2') → inB lo' af up → lt lo' up = true → (1 ≤ up.length ∧ up.length ≤ 64) → Full z N1 a → Full z N1 more → more ≠ 0 →
     N1 no = N no ∧ ∃ ns1, Ch (Bn z N1 (h + 1)) lo hi c (ps.take (wayI (ps.map (·.1)) k) ++ (up, more) :: ps.drop (wayI (ps.map (·.1)) k)) ns1 (e1 ++ ((f1 ++ f2) ++ e2)) ∧ keysOk ((ps.take (wayI (ps.map (·.1)) k) ++ (up, more) :: ps.drop (wayI (ps.map (·.1)) k)).map (·.1)) ∧ (∀ u ∈ (ps.take (wayI (ps.map (·.1)) k) ++ (up, more) :: ps.drop (wayI (ps.map (·.1)) k)).map (·.1), inB lo hi u) ∧ (∀ y ∈ ps.take (wayI (ps.map (·.1)) k) ++ (up, more) :: ps.drop (wayI (ps.map (·.1)) k), y.2 ≠ 0) ∧
      (∀ d ∈ c :: (ps.take (wayI (ps.map (·.1)) k) ++ (up, more) :: ps.drop (wayI (ps.map (·.1)) k)).map (·.2), Full z N1 d) ∧ Ev N N1 ns (no :: ns1)) := by
 have gy := hz
 obtain ⟨z1, z2, -⟩ := gy
 have iR := s.some
 obtain ⟨c, ps, ns', cw, rfl, ko, len, nz, inn, full, ch⟩ := s.inner (by omega)
 have dr := wayI_le (ps.map (·.1)) k
 rw [List.length_map] at dr
 obtain ⟨i, ii⟩ : ∃ i, wayI (ps.map (·.1)) k = i := ⟨_, rfl⟩
 have bX := wayI_lo (l := ps.map (·.1)) (k := k)
 have iO := wayI_hi (k := k) ko.2
 rw [ii] at bX iO dr
 have p9 : ps = ps.take i ++ ps.drop i := (List.take_append_drop i ps).symm
 have DS : (ps.take i).length = i := by rw [List.length_take]; omega
 have r5 : Ch (Bn z N (h + 1)) lo hi c (ps.take i ++ ps.drop i) ns' es := by rw [← p9]; exact ch
 have gx := List.nodup_cons.1 hn
 obtain ⟨a, lo', af, n1, nm, n2, e1, em, e2, rfl, rfl, ha, hb, r6, iP, fP, vN, eu, cZ⟩ := kid_at gx.2 r5 (by rw [← p9]; exact ko.2) (by rw [← p9]; exact inn) hk (fun x hx => bX x.1 (by rw [← List.map_take]; exact List.mem_map.2 ⟨x, hx, rfl⟩)) (fun x hx => iO x.1 (by rw [← List.map_drop]; exact List.mem_map.2 ⟨x, hx, rfl⟩))
 rw [← p9, DS] at ha
 have dj := List.nodup_append.1 gx.2
 have dZ := List.nodup_append.1 dj.2.1
 have cI : ∀ y ∈ nm, y ∉ n1 ∧ y ∉ n2 ∧ y ≠ no := fun y hy => ⟨fun h => dj.2.2 y h y (List.mem_append_left _ hy) rfl, fun h => dZ.2.2 y hy y h rfl, fun e => gx.1 (by rw [← e]; exact List.mem_append_right _ (List.mem_append_left _ hy))⟩
 have vO : no ∉ nm := fun h => (cI no h).2.2 rfl
 have uS := ch.kid (fun x l u n e hx => hx.mem)
 have eR := ch.kids_nd (fun x l u n e hx => hx.mem) gx.2
 have gz : ∀ {N1 : Nodes} {nm' : List Int}, Ev N N1 nm nm' → Ev N N1 (no :: (n1 ++ (nm ++ n2))) (no :: (n1 ++ (nm' ++ n2))) := fun {N1 nm'} e => by
  have := e.part (a := no :: n1) (b := n2) (by simpa using hn) (fun x hx => iR x (by simp only [List.mem_cons] at hx; rcases hx with h | h <;> simp [h])) (fun x hx => iR x (by simp [hx]))
  simpa using this
 have iS : ∀ {N1 : Nodes} {nm' : List Int}, Ev N N1 nm nm' → ∀ x l u n e, Bn z N (h + 1) x l u n e → ((∀ y ∈ n, y ∈ n1) ∨ (∀ y ∈ n, y ∈ n2)) → Bn z N1 (h + 1) x l u n e := fun {N1 nm'} e x l u n e' hx hy => hx.keep e (fun y jQ sH => by
  rcases hy with hy | hy
  ·exact (cI y sH).1 (hy y jQ)
  ·exact (cI y sH).2.1 (hy y jQ))
 have pF : ∀ {N1 : Nodes} {nm' : List Int}, Ev N N1 nm nm' → N1 no = N no := fun {N1 nm'} e => e.d2 no (by rw [cw]; simp) vO
 -- a kid beside it is as it was
 have gG : ∀ {N1 : Nodes} {nm' : List Int}, Ev N N1 nm nm' → ∀ d ∈ c :: ps.map (·.2), d ≠ a → Full z N1 d := fun {N1 nm'} e d hd sA m hm => by
  have uR : (d : Int) ∉ nm := vN d (by rw [← p9]; exact hd) sA; rw [e.d2 d (iR d (List.mem_cons_of_mem _ (uS d hd))) uR] at hm; exact full d hd m hm
 refine ⟨c, ps, _, cw, rfl, ko, len, nz, full, ?_⟩
 rw [ii]
 refine ⟨a, lo', af, nm, em, e1, e2, ha, hb, dZ.1, r6, vO, fun y hy => List.mem_cons_of_mem _ (List.mem_append_right _ (List.mem_append_left _ hy)), rfl, iP, fP, fun N1 nm' em' pG e => ?_, fun N1 up more n1' n2' f1 f2 dL cz e lF jO vP lG qY sI => ?_⟩
 ·have iQ := cZ N1 [] nm' em' (iS e) pG; rw [List.nil_append, ← p9] at iQ; exact ⟨_, ⟨by rw [pF e]; exact cw, ko, len, nz, inn, iQ, (gz e).nd, gG e⟩, gz e⟩
 ·have iQ := cZ N1 [(up, more)] (n1' ++ n2') (f1 ++ f2) (iS e) ⟨n1', n2', f1, f2, rfl, rfl, dL, cz⟩; obtain ⟨u1, u2⟩ := eu up lF jO
  have bE : ∀ y ∈ ps.take i ++ (up, more) :: ps.drop i, y = (up, more) ∨ y ∈ ps := fun y hy => by
   rcases List.mem_append.1 hy with hy | hy
   ·exact .inr (List.mem_of_mem_take hy)
   ·rcases List.mem_cons.1 hy with rfl | hy
    ·exact .inl rfl
    ·exact .inr (List.mem_of_mem_drop hy)
  refine ⟨pF e, _, iQ, ⟨fun k' aS => ?_, u2 more⟩, fun k' aS => ?_, fun y hy => ?_, fun d hd => ?_, gz e⟩
  ·obtain ⟨y, hy, rfl⟩ := List.mem_map.1 aS; rcases bE y hy with rfl | hy
   ·exact vP
   ·exact ko.1 y.1 (List.mem_map.2 ⟨y, hy, rfl⟩)
  ·obtain ⟨y, hy, rfl⟩ := List.mem_map.1 aS; rcases bE y hy with rfl | hy
   ·exact u1
   ·exact inn y.1 (List.mem_map.2 ⟨y, hy, rfl⟩)
  ·rcases bE y hy with rfl | hy
   ·exact sI
   ·exact nz.2 y hy
  ·have p8 : d = more ∨ d ∈ c :: ps.map (·.2) := by
    rcases List.mem_cons.1 hd with rfl | hd
    ·exact .inr (List.mem_cons_self ..)
    ·obtain ⟨y, hy, rfl⟩ := List.mem_map.1 hd; rcases bE y hy with rfl | hy
     ·exact .inl rfl
     ·exact .inr (List.mem_cons_of_mem _ (List.mem_map.2 ⟨y, hy, rfl⟩))
   rcases p8 with rfl | p8
   ·exact qY
   ·by_cases ea : d = a
    ·rw [ea]; exact lG
    ·exact gG e d p8 ea
end
set_option maxRecDepth 100000
theorem Nd.bytes_ge (n : Nd) : 3 ≤ n.bytes := by unfold Nd.bytes; omega
section
variable {w : World} {p : Nat} {T : Tr} {nb : Int → Nat} {F : Nat → Prop}
theorem low_ret {mN mC mO : Nat} {gv : Value} {n : Nd} {b : Nat} {kv vv cv : Value} (hB : Blk w p (trCs T mN mC mO gv) 74) (hz : sizeOk T.size) (hN : Blk w b [.bool n.leaf, kv, vv, cv] 84) (hR : NdR w n kv vv cv) (bA : n.Bd) :
  Ret Tryz.prog 77 [ptr p 0, ptr b 0] w fun v w' => v = .bool (decide (n.low T.size)) ∧ Ext w w' := by
 have pA := bA.bytes
 have qU := n.bytes_ge
 have cG := bA.cl
 have gy := hz
 unfold sizeOk at gy
 have ho : orderE T.size ≤ 1000 := by unfold orderE; omega
 obtain ⟨ca, cc, rfl, -⟩ := hR.kids.shape
 refine ret_of_run (e := [(0, _), (1, _)]) Tryz.func77 rfl Tryz.ntmps77 rfl rfl (qN rfl (zqa rfl (rEnd (run_seq (qN rfl (zqm rfl (qV (ynk rfl) (qV (yfa fl84_0 rfl) (qV (yld U4 rfl rfl hN rfl) (rEnd (run_cond rfl (fun gB => ?_) (fun gB => ?_))))))))))))
 ·refine run_seq (run_draw (fun w' => Ext w w') (by kernel_rfl) rfl (zqt 0 rfl (ymv rfl) (Ext.drew0 w) (zqt 1 rfl (ynk rfl) (Ext.drew0 w) (qT 2 rfl (fun _ hS => (by first | exact yldA U84 rfl ti84 rfl (Blk.cells (n := 4) (hS.blk hN) (news := [_, _, _, _]) rfl) rfl | exact yldA U84 rfl ti84 rfl (Blk.cells (n := 4) (hS.blk hB) (news := [_, _, _, _]) rfl) rfl)) (Ext.drew0 w) ?_)))); refine zqt 6 rfl (ymv rfl) (Ext.drew0 w) (zqt 7 rfl (ynk rfl) (Ext.drew0 w) (zqt 8 rfl (yfa fl74_0 rfl) (Ext.drew0 w) (qT 9 rfl (fun _ h=>(by first | exact yld U3 rfl rfl (h.blk hN) rfl | exact yld U3 rfl rfl (h.blk hB) rfl)) (Ext.drew0 w) ?_))); refine zqt 10 rfl (ysb rfl rfl (by omega)) (Ext.drew0 w) (zqo 3 [.tmp 11] rfl cf70 rfl (bytes_ret n kv vv (.slice ca n.kids.length cc) _ (hR.ext (Ext.drew0 w)) bA) ?_); rintro _ w1 ⟨rfl, aa⟩; refine ⟨(Ext.drew0 w).trans aa, ?_⟩; refine zqt 4 rfl (ysb rfl rfl (by omega)) ((Ext.drew0 w).trans aa) (zqt 5 rfl (yml rfl rfl (by omega)) ((Ext.drew0 w).trans aa) (zqt 11 rfl (ylt rfl rfl) ((Ext.drew0 w).trans aa) (zqt 12 rfl (yas rfl) ((Ext.drew0 w).trans aa) (qE (run_ret Tryz.func77 rfl (⟨_, rfl, ?_, (Ext.drew0 w).trans aa⟩)))))); simp only [resVal]
  congr 1
  apply decide_eq_decide.2; unfold Nd.low; rw [if_pos gB]; omega
 ·refine run_skip (run_seq (run_draw (fun w' => Ext w w') (by kernel_rfl) rfl (zqt 0 rfl (ymv rfl) (Ext.drew0 w) (zqt 1 rfl (ynk rfl) (Ext.drew0 w) (zqt 2 rfl (yfa fl84_3 rfl) (Ext.drew0 w) (qT 3 rfl (fun _ h=>(by first | exact yld U82 rfl rfl (h.blk hN) rfl | exact yld U82 rfl rfl (h.blk hB) rfl)) (Ext.drew0 w) ?_)))))); refine zqt 4 rfl (yln U82 rfl) (Ext.drew0 w) (zqt 5 rfl (ymv rfl) (Ext.drew0 w) (zqt 6 rfl (ynk rfl) (Ext.drew0 w) (zqt 7 rfl (yfa fl74_3 rfl) (Ext.drew0 w) (qT 8 rfl (fun _ h=>(by first | exact yld U3 rfl rfl (h.blk hN) rfl | exact yld U3 rfl rfl (h.blk hB) rfl)) (Ext.drew0 w) ?_)))); refine zqt 9 rfl (yad rfl rfl (by omega)) (Ext.drew0 w) (zqt 10 rfl (yqu rfl rfl (by omega)) (Ext.drew0 w) (zqt 11 rfl (ylt rfl rfl) (Ext.drew0 w) (zqt 12 rfl (yas rfl) (Ext.drew0 w) (qE (run_ret Tryz.func77 rfl (⟨_, rfl, ?_, Ext.drew0 w⟩)))))); simp only [resVal]
  congr 1
  apply decide_eq_decide.2; unfold Nd.low; rw [if_neg (by rw [gB]; decide)]; omega
theorem way_ret {n : Nd} {b : Nat} {kv vv cv : Value} (k : Bytes) (hN : Blk w b [.bool n.leaf, kv, vv, cv] 84) (hR : NdR w n kv vv cv) (bA : n.Bd) (hs : Rise n.keys) :
  Ret Tryz.prog 46 [ptr b 0, S k] w fun v w' => v = I (wayI n.keys k : Int) ∧ w' = w := by
 have cy := bA.kl
 have dl := pos_le n.keys k
 refine ret_of_run (e := [(0, _), (1, _)]) Tryz.func46 rfl Tryz.ntmps46 rfl rfl (qN rfl (zqa rfl (qM rfl (zqm rfl (qV (ynk rfl) (qV (yfa fl84_1 rfl) (qV (yld U23 rfl rfl hN rfl) (zqm rfl (zqc [.tmp 11, .tmp 12] cf44 rfl (bsearch_ret n.keys k kv w hR.keys (by omega) hs) ?_)))))))))
 rintro _ w1 ⟨rfl, rfl⟩
 refine zqm rfl (qV (yex rfl rfl) (qV (yex rfl rfl) (zqa rfl (zqa rfl (rEnd (run_seq (qN rfl (zqm rfl (rEnd (run_if rfl (fun h => ?_) (fun h => ?_)))))))))))
 ·refine run_reg rfl (zqm rfl (zqd rfl rfl (zqa rfl (qM rfl (zqm rfl (zqa rfl (rEnd (run_ret Tryz.func46 rfl ?_)))))))); exact ⟨_, rfl, by unfold wayI; rw [if_pos h]; simp [resVal], rfl⟩
 ·refine run_skip (qN rfl (zqm rfl (zqa rfl (rEnd (run_ret Tryz.func46 rfl ?_))))); exact ⟨_, rfl, by unfold wayI; rw [if_neg h]; rfl, rfl⟩
end
section
variable {w : World}
theorem one_of {α : Type} {enc : α → Value} {us : List Value} {l : List α} {n : Nat} (h : us = l.map enc) (h1 : ∀ x, (enc x).oneCell' = true) {c : Value} (hc : c ∈ us.take n) : c.oneCell' = true := by
 have hc := List.mem_of_mem_take hc
 rw [h] at hc
 obtain ⟨x, _, rfl⟩ := List.mem_map.1 hc
 exact h1 x
theorem copiedS_ret {lv : Value} {l : List Bytes} {i j : Nat} (hS : Sl w lv 9 1 l.length (l.map S)) (lA : i < j) (hj : j ≤ l.length) (hl : l.length ≤ 1000000) (iz jz : Int) (uM : iz = (i : Int)) (AN : jz = (j : Int)) :
  Ret Tryz.prog 99 [lv, I iz, I jz] w fun v w' => Sl w' v 9 1 (j - i) (((l.drop i).take (j - i)).map S) ∧ Ext w w' ∧ ∀ k, v.ownBlock = some k → w.heap.size ≤ k := by
 subst uM
 subst AN
 have eP : maxLen = 9223372036854775807 := rfl
 rcases hS.shape with ⟨-, h0⟩ | ⟨g, cap, rfl, iL⟩
 ·omega
 obtain ⟨cur, bJ, -, iJ, cG, di⟩ := hS.row
 rw [Nat.mul_one] at cG di
 refine ret_of_run (e := [(0, _), (1, _), (2, _)]) Tryz.func99 rfl Tryz.ntmps99 rfl rfl (qN rfl (zqa rfl (qM rfl (zqm rfl (zqm rfl (qV (ysb rfl rfl (by omega)) ?_))))))
 rw [show (j : Int) - (i : Int) = ((j - i : Nat) : Int) by omega]
 refine rValP rfl rfl (pmk (c := j - i) (n := j - i) U23 ti9 rfl rfl rfl (Nat.le_refl _) (by omega) (by omega)) ?_
 rintro _ w1 ⟨b, rfl, ⟨hb, aa, aj⟩, eI⟩
 obtain ⟨cur1, et, -, sJ, ij, sK⟩ := eI.row
 rw [Nat.mul_one] at ij sK
 refine zqa rfl (qM rfl (zqm rfl (zqm rfl (zqm rfl (zqm rfl (qV (yslV U23 ti9 rfl rfl rfl (by omega) (by omega)) ?_))))))
 have fV : ((cur.drop (0 + i * 1)).take (j - i)) = ((l.drop i).take (j - i)).map S := by
  rw [List.map_take, List.map_drop, ← di, List.drop_take, List.take_take, show 0 + i * 1 = i by omega, Nat.min_eq_left (by omega)]
 refine rValP rfl rfl (pcpV U23 ti9 rfl rfl et (by omega) ((bJ.ext aa).rd (i := 0 + i * 1) (n := j - i) (by omega)) (fun c hc => one_of fV (fun x => rfl) hc)) ?_
 rintro _ w2 ⟨rfl, fW, am⟩
 refine qM rfl (zqm rfl (zqa rfl (rEnd (run_ret Tryz.func99 rfl ?_))))
 have ao := fW.sl (n := j - i) (cap := j - i) (Nat.le_refl _) sJ (by rw [splice_length _ _ _ (by rw [fV]; simp; omega), ij, Nat.mul_one])
 have aM : (((l.drop i).take (j - i)).map S).length = j - i := by simp; omega
 have e1 : (((l.drop i).take (j - i)).map S).take (j - i) = ((l.drop i).take (j - i)).map S := List.take_of_length_le (by omega)
 rw [fV, e1, Nat.mul_one] at ao
 have := splice_take cur1 (((l.drop i).take (j - i)).map S) 0 (by omega)
 rw [aM, Nat.zero_add, List.take_zero, List.nil_append] at this
 rw [this] at ao
 exact ⟨_, rfl, ao, aa.trans_new am (fun k hk => by omega), fun k hk => by have e : b = k := oinj hk; omega⟩
theorem copiedU_ret {lv : Value} {l : List Nat} {i j : Nat} (hS : Sl w lv 89 1 l.length (l.map u32v)) (lA : i < j) (hj : j ≤ l.length) (hl : l.length ≤ 1000000) (iz jz : Int) (uM : iz = (i : Int)) (AN : jz = (j : Int)) :
  Ret Tryz.prog 102 [lv, I iz, I jz] w fun v w' => Sl w' v 89 1 (j - i) (((l.drop i).take (j - i)).map u32v) ∧ Ext w w' ∧ ∀ k, v.ownBlock = some k → w.heap.size ≤ k := by
 subst uM
 subst AN
 have eP : maxLen = 9223372036854775807 := rfl
 rcases hS.shape with ⟨-, h0⟩ | ⟨g, cap, rfl, iL⟩
 ·omega
 obtain ⟨cur, bJ, -, iJ, cG, di⟩ := hS.row
 rw [Nat.mul_one] at cG di
 refine ret_of_run (e := [(0, _), (1, _), (2, _)]) Tryz.func102 rfl Tryz.ntmps102 rfl rfl (qN rfl (zqa rfl (qM rfl (zqm rfl (zqm rfl (qV (ysb rfl rfl (by omega)) ?_))))))
 rw [show (j : Int) - (i : Int) = ((j - i : Nat) : Int) by omega]
 refine rValP rfl rfl (pmk (c := j - i) (n := j - i) U82 ti89 rfl rfl rfl (Nat.le_refl _) (by omega) (by omega)) ?_
 rintro _ w1 ⟨b, rfl, ⟨hb, aa, aj⟩, eI⟩
 obtain ⟨cur1, et, -, sJ, ij, sK⟩ := eI.row
 rw [Nat.mul_one] at ij sK
 refine zqa rfl (qM rfl (zqm rfl (zqm rfl (zqm rfl (zqm rfl (qV (yslV U82 ti89 rfl rfl rfl (by omega) (by omega)) ?_))))))
 have fV : ((cur.drop (0 + i * 1)).take (j - i)) = ((l.drop i).take (j - i)).map u32v := by
  rw [List.map_take, List.map_drop, ← di, List.drop_take, List.take_take, show 0 + i * 1 = i by omega, Nat.min_eq_left (by omega)]
 refine rValP rfl rfl (pcpV U82 ti89 rfl rfl et (by omega) ((bJ.ext aa).rd (i := 0 + i * 1) (n := j - i) (by omega)) (fun c hc => one_of fV (fun x => rfl) hc)) ?_
 rintro _ w2 ⟨rfl, fW, am⟩
 refine qM rfl (zqm rfl (zqa rfl (rEnd (run_ret Tryz.func102 rfl ?_))))
 have ao := fW.sl (n := j - i) (cap := j - i) (Nat.le_refl _) sJ (by rw [splice_length _ _ _ (by rw [fV]; simp; omega), ij, Nat.mul_one])
 have aM : (((l.drop i).take (j - i)).map u32v).length = j - i := by simp; omega
 have e1 : (((l.drop i).take (j - i)).map u32v).take (j - i) = ((l.drop i).take (j - i)).map u32v := List.take_of_length_le (by omega)
 rw [fV, e1, Nat.mul_one] at ao
 have := splice_take cur1 (((l.drop i).take (j - i)).map u32v) 0 (by omega)
 rw [aM, Nat.zero_add, List.take_zero, List.nil_append] at this
 rw [this] at ao
 exact ⟨_, rfl, ao, aa.trans_new am (fun k hk => by omega), fun k hk => by have e : b = k := oinj hk; omega⟩
theorem halves_ret {n : Nd} {b : Nat} {kv vv cv : Value} (hN : Blk w b [.bool n.leaf, kv, vv, cv] 84) (hR : NdR w n kv vv cv) (bA : n.Bd) (gB : n.leaf = true) (eQ : n.vals.length = n.keys.length) (aT : 1 ≤ n.keys.length) :
  Ret Tryz.prog 98 [ptr b 0] w fun v w' => v = I (halfOf (sizes (n.keys.zip n.vals)) : Int) ∧ Ext w w' := by
 have pA := bA.bytes
 have qU := n.bytes_ge
 have cy := bA.kl
 obtain ⟨E, hE⟩ : ∃ E, n.keys.zip n.vals = E := ⟨_, rfl⟩
 have gD : n.bytes = 3 + entB E := by rw [← hE]; exact leaf_bytes gB eQ
 have sL : E.length = n.keys.length := by rw [← hE]; simp; omega
 obtain ⟨ka, kc, rfl, -⟩ := hR.keys.shape
 obtain ⟨va, vc, rfl, -⟩ := hR.vals.shape
 rw [hE]
 refine ret_of_run (e := [(0, _)]) Tryz.func98 rfl Tryz.ntmps98 rfl rfl (qN rfl (zqa rfl (qM rfl (zqm rfl (qV (ynk rfl) (qV (yldA U84 rfl ti84 rfl (Blk.cells (n := 4) hN (news := [_, _, _, _]) rfl) rfl) (zqc [.tmp 11] cf70 rfl (bytes_ret n (.slice ka n.keys.length kc) (.slice va n.vals.length vc) cv w hR bA) ?_)))))))
 rintro _ w1 ⟨rfl, aa⟩
 rw [gD]
 have e0 : ((3 + entB E : Nat) : Int) - 3 = (entB E : Int) := by omega
 have uU := aa.blk hN
 refine qV (ysb rfl rfl (by omega)) ?_
 rw [e0]
 refine zqa rfl (qM rfl (zqm rfl (zqa rfl (zqa rfl (zqa rfl (rEnd (run_seq (qN rfl (zqm rfl (qV (ynk rfl) (qV (yfa fl84_1 rfl) (qV (yld U23 rfl rfl uU rfl) (qV (yln U23 rfl) ?_)))))))))))))
 refine qV (ysb rfl rfl (by omega)) (zqm rfl (rEnd (run_block ?_)))
 rw [show (n.keys.length : Int) - 1 = ((n.keys.length - 1 : Nat) : Int) by omega]
 refine zqu (α := Nat × Nat × Nat × Nat) ((0, 0, entB E, 1)) (fun x => [(0, ptr b 0), (3, I (entB E : Int)), (4, I (x.2.2.1 : Int)), (5, I (x.2.2.2 : Int)), (6, I (x.2.1 : Int)), (20, I ((n.keys.length - 1 : Nat) : Int)), (21, I (x.1 : Int))]) (fun x w' => x.1 ≤ n.keys.length - 1 ∧ Ext w1 w' ∧ x.2.1 = ((sizes E).take x.1).sum ∧ halfGo (entB E) ((sizes E).drop x.1) x.1 x.2.1 x.2.2.1 x.2.2.2 = halfOf (sizes E)) (fun x => n.keys.length - 1 - x.1) ?hI ?hround
 case hI => exact ⟨Nat.zero_le _, Ext.refl _, rfl, rfl⟩
 case hround =>
  rintro ⟨i, left, best, at'⟩ wi ⟨hi, cA, iN, r7⟩ ih; dsimp only at hi iN r7
  have dr : left ≤ entB E := by
   rw [iN, sizes_take]; have := entB_take_drop E i; omega
  try dsimp only
  refine qN rfl (qV (ylt rfl rfl) (rEnd (run_seq (run_if rfl (fun ah => ?_) (fun ah => ?_)))))
  ·have zQ : i + 1 < n.keys.length := by omega
   have DT := cA.blk uU; have su := (hR.ext aa).ext cA; obtain ⟨kb, ko, k, mY, hk⟩ := rd_gets su.keys (i := i) (by omega); obtain ⟨vb, vo, v, DU, hv⟩ := rd_gets su.vals (i := i) (by omega); cases mY; cases DU; have Fx := bA.ks k (List.mem_of_getElem? hk); have Fy := bA.vs v (List.mem_of_getElem? hv); have Fz : E[i]? = some (k, v) := by rw [← hE, List.getElem?_zip_eq_some]; exact ⟨hk, hv⟩
   have dJ : (sizes E)[i]? = some (3 + k.length + v.length) := by unfold sizes; rw [List.getElem?_map, Fz]; rfl
   have l9 : (sizes E).length = n.keys.length := by unfold sizes; rw [List.length_map]; exact sL
   have cM : (sizes E).drop i = (3 + k.length + v.length) :: (sizes E).drop (i + 1) := by
    rw [List.drop_eq_getElem_cons (by omega)]; rw [List.getElem?_eq_getElem (by omega)] at dJ; rw [oinj dJ]
   obtain ⟨t, r, df⟩ : ∃ t r, (sizes E).drop (i + 1) = t :: r := by
    cases hd : (sizes E).drop (i + 1) with
    | nil => have := congrArg List.length hd; simp at this; omega
    | cons t r => exact ⟨t, r, rfl⟩
   have uP : ((sizes E).take (i + 1)).sum = left + (3 + k.length + v.length) := by
    rw [take_sum_succ _ (show i < (sizes E).length by omega), ← iN]; rw [List.getElem?_eq_getElem (by omega)] at dJ; rw [oinj dJ]
   have FA : left + (3 + k.length + v.length) ≤ entB E := by
    rw [← uP, sizes_take]; have := entB_take_drop E (i + 1); omega
   rw [cM, df] at r7; simp only [halfGo] at r7; refine run_skip (run_seq (run_block (qN rfl (zqm rfl (zqa rfl (rEnd (run_seq (run_draw (fun w' => Ext wi w') (by kernel_rfl) rfl (zqt 0 rfl (ymv rfl) (Ext.drew0 wi) (zqt 1 rfl (ymv rfl) (Ext.drew0 wi) (zqt 2 rfl (ynk rfl) (Ext.drew0 wi) (zqt 3 rfl (yfa fl84_1 rfl) (Ext.drew0 wi) (qT 4 rfl (fun _ h=>yld U23 rfl rfl (h.blk DT) rfl) (Ext.drew0 wi) ?_))))))))))))); refine zqt 5 rfl (ymv rfl) (Ext.drew0 wi) (zqt 6 rfl (yis U23 ti9 rfl rfl (by omega)) (Ext.drew0 wi) (zqt 10 rfl (ymv rfl) (Ext.drew0 wi) (zqt 11 rfl (ynk rfl) (Ext.drew0 wi) (zqt 12 rfl (yfa fl84_2 rfl) (Ext.drew0 wi) (qT 13 rfl (fun _ h=>yld U23 rfl rfl (h.blk DT) rfl) (Ext.drew0 wi) (zqt 14 rfl (ymv rfl) (Ext.drew0 wi) (zqt 15 rfl (yis U23 ti9 rfl rfl (by omega)) (Ext.drew0 wi) (qT 7 rfl (fun _ h=>yldc U9 rfl rfl (rd_str (su.keys.ext h) (by omega) hk)) (Ext.drew0 wi) (zqt 8 rfl (ylnS U9 rfl) (Ext.drew0 wi) (zqt 9 rfl (yad rfl rfl (by omega)) (Ext.drew0 wi) (qT 16 rfl (fun _ h=>yldc U9 rfl rfl (rd_str (su.vals.ext h) (by omega) hv)) (Ext.drew0 wi) (zqt 17 rfl (ylnS U9 rfl) (Ext.drew0 wi) (zqt 18 rfl (yad rfl rfl (by omega)) (Ext.drew0 wi) ?_))))))))))))); refine zqt 19 rfl (yad rfl rfl (by omega)) (Ext.drew0 wi) (zqt 20 rfl (yas rfl) (Ext.drew0 wi) (qE (qN rfl (zqm rfl (qV (yml rfl rfl (by omega)) (zqm rfl (qV (ysb rfl rfl (by omega)) (zqm rfl (zqm rfl (qV (yml rfl rfl (by omega)) (qV (ysb rfl rfl (by omega)) (qV (yma rfl rfl) (zqa rfl ?_))))))))))))); refine qM rfl (zqm rfl (zqm rfl (qV (ylt rfl rfl) (rEnd ?_)))); rw [show max (2 * ((left : Int) + (3 + (k.length : Int) + (v.length : Int))) - (entB E : Int)) ((entB E : Int) - 2 * ((left : Int) + (3 + (k.length : Int) + (v.length : Int)))) = ((apart (entB E) (left + (3 + k.length + v.length)) : Nat) : Int) by unfold apart; omega]; rw [show (left : Int) + (3 + (k.length : Int) + (v.length : Int)) = ((left + (3 + k.length + v.length) : Nat) : Int) by omega]; refine run_if rfl (fun hb => ?_) (fun hb => ?_)
   ·rw [if_pos (by omega)] at r7; refine run_reg rfl (zqm rfl (zqm rfl (zqd rfl rfl (zqa rfl (zqa rfl (rEnd (run_inBlock (run_reg rfl (zqd rfl rfl (zqm rfl (rEnd ?_))))))))))); exact (ih (i + 1, left + (3 + k.length + v.length), apart (entB E) (left + (3 + k.length + v.length)), i + 1) _ ⟨by dsimp only; omega, cA.trans (Ext.drew0 wi), uP.symm, by dsimp only; rw [df]; exact r7⟩ (by dsimp only; omega)).qb
   ·rw [if_neg (by omega)] at r7; refine run_skip (run_inBlock (run_reg rfl (zqd rfl rfl (zqm rfl (rEnd ?_))))); exact (ih (i + 1, left + (3 + k.length + v.length), best, at') _ ⟨by dsimp only; omega, cA.trans (Ext.drew0 wi), uP.symm, by dsimp only; rw [df]; exact r7⟩ (by dsimp only; omega)).qb
  ·have zJ : i = n.keys.length - 1 := by omega
   have ao : halfOf (sizes E) = at' := by
    rw [← r7]; have hl : ((sizes E).drop i).length = 1 := by unfold sizes; simp; omega
    match hd : (sizes E).drop i, hl with
    | [s], _ => rfl
   refine run_exit rfl (qN rfl (zqm rfl (zqa rfl (rEnd (run_ret Tryz.func98 rfl ?_))))); exact ⟨_, rfl, by rw [ao]; rfl, aa.trans cA⟩
end
section
variable {w : World}
theorem some_of {v : Value} {T n} {us : List Value} (h : Sl w v T 1 n us) (h0 : 0 < n) : ∃ g c, v = .slice (some ⟨g, 0, none⟩) n c := by
 rcases h.shape with ⟨-, h1⟩ | ⟨g, c, rfl, -⟩
 ·omega
 ·exact ⟨_, _, rfl⟩
set_option maxHeartbeats 1000000 in
theorem cut_ret {E : Es} {q : Pl} (hM : NdM w (leafNd E) q) (qW : 1 ≤ halfOf (sizes E)) (lB : halfOf (sizes E) < E.length) :
  Ret Tryz.prog 71 [ptr q.b 0] w fun v w' => ∃ kv2 vv2 q', v = .agg #[.bool true, kv2, vv2, .slice none 0 0] ∧ q'.b = q.b ∧ q'.cv = q.cv ∧ NdM w' (leafNd (E.take (halfOf (sizes E)))) q' ∧ Sl w' kv2 9 1 (E.drop (halfOf (sizes E))).length (((E.drop (halfOf (sizes E))).map (·.1)).map S) ∧ Sl w' vv2 9 1 (E.drop (halfOf (sizes E))).length (((E.drop (halfOf (sizes E))).map (·.2)).map S) ∧ Kp (fun k => k = q.b) w w' ∧
   (∀ k, q'.kv.ownBlock = some k → w.heap.size ≤ k) ∧ (∀ k, q'.vv.ownBlock = some k → w.heap.size ≤ k) ∧ (∀ k, kv2.ownBlock = some k → w.heap.size ≤ k ∧ ¬ q'.fp k ∧ vv2.ownBlock ≠ some k) ∧ (∀ k, vv2.ownBlock = some k → w.heap.size ≤ k ∧ ¬ q'.fp k) := by
 obtain ⟨m, hm⟩ : ∃ m, halfOf (sizes E) = m := ⟨_, rfl⟩
 rw [hm] at qW lB ⊢
 have bA := hM.bd
 have sL : E.length ≤ 100000 := by have := bA.kl; simpa [leafNd] using this
 have cy : (leafNd E).keys.length = E.length := by simp [leafNd]
 have eQ : (leafNd E).vals.length = E.length := by simp [leafNd]
 have ah := hM.lt
 obtain ⟨qb, qk, qv, qc⟩ := q
 have iE := hM.blk
 have pH := hM.keys
 have pd := hM.vals
 dsimp only at iE pH pd ⊢
 rcases pH.shape with ⟨-, h0⟩ | ⟨gk, ck, rfl, -⟩
 ·omega
 rcases pd.shape with ⟨-, h0⟩ | ⟨gv, cv, rfl, -⟩
 ·omega
 have AO : qb < w.heap.size := iE.lt
 refine ret_of_run (e := [(0, _)]) Tryz.func71 rfl Tryz.ntmps71 rfl rfl (qN rfl (rValP rfl rfl (pal (cs := [_, _, _, _]) ti84 rfl) ?_))
 rintro _ w1 ⟨b2, rfl, cz, aa, ay⟩
 refine rEnd (run_seq (run_draw (fun w' => Ext w1 w') (by kernel_rfl) rfl (zqt 0 rfl (ymv rfl) (Ext.drew0 w1) (zqt 2 rfl (ymv rfl) (Ext.drew0 w1) (zqt 3 rfl (ynk rfl) (Ext.drew0 w1) (zqt 4 rfl (yfa fl84_1 rfl) (Ext.drew0 w1) (qT 5 rfl (fun _ h=>yld U23 rfl rfl (h.blk (aa.blk iE)) rfl) (Ext.drew0 w1) (zqt 6 rfl (yln U23 rfl) (Ext.drew0 w1) (zqo 1 [.tmp 6] rfl cf98 rfl (halves_ret ((aa.trans (Ext.drew0 w1)).blk iE) (hM.r.ext (aa.trans (Ext.drew0 w1))) bA rfl (by rw [cy, eQ]) (by omega)) ?_)))))))))
 rintro _ w2 ⟨rfl, ad⟩
 refine ⟨(Ext.drew0 w1).trans ad, ?_⟩
 rw [show (leafNd E).keys.zip (leafNd E).vals = E from zip_es E, hm]
 refine zqt 7 rfl (yas rfl) ((Ext.drew0 w1).trans ad) (zqt 8 rfl (yas rfl) ((Ext.drew0 w1).trans ad) (qE (run_seq ?_)))
 rw [cy]
 have bo : Ext w w2 := (aa.trans (Ext.drew0 w1)).trans ad
 have dD := bo.size
 have kg := aa.size
 have dx := ((Ext.drew0 w1).trans ad).blk ay
 have r8 := pH.ext bo
 have AP := pd.ext bo
 have AQ := dx.lt
 refine run_cut (fun e' w' => ∃ b5 kv2 vv2, e' = [(0, ptr qb 0), (2, ptr b2 0), (3, I (m : Int)), (5, ptr b5 0)] ∧ Ext w2 w' ∧ Blk w' b5 [.bool true, kv2, vv2, .slice none 0 0] 84 ∧ Sl w' kv2 9 1 (E.length - m) (((E.drop m).map (·.1)).map S) ∧ Sl w' vv2 9 1 (E.length - m) (((E.drop m).map (·.2)).map S) ∧ (∀ k, kv2.ownBlock = some k → w2.heap.size ≤ k ∧ vv2.ownBlock ≠ some k) ∧ (∀ k, vv2.ownBlock = some k → w2.heap.size ≤ k) ∧ w2.heap.size ≤ b5) ?hk (fun hk => ?dG)
 case hk =>
  rintro _ w3 ⟨b5, kv2, vv2, rfl, ai, bu, lH, lI, dK, fA, pI⟩; obtain ⟨ga, ca, rfl⟩ := some_of lH (by omega); obtain ⟨gb, cb, rfl⟩ := some_of lI (by omega); have r9 := ai.size; have sM := bu.lt; refine run_seq (run_draw (fun w' => Kp (fun k => k = qb) w3 w') (by kernel_rfl) rfl ?_); have d9 := (bo.trans ai).blk iE; have ki := pH.ext (bo.trans ai); have AR := pd.ext (bo.trans ai); have a7 := Ext.drew0 w3; have AS := dK ga rfl; have qZ := fA gb rfl; have AU := lH.lt (g := ga) rfl; have AV := lI.lt (g := gb) rfl
  have ao : ∀ g7 c7 g13 c13 wf, Sl wf (.slice (some ⟨g7, 0, none⟩) (m - 0) c7) 9 1 (m - 0) ((((E.map (·.1)).drop 0).take (m - 0)).map S) → Sl wf (.slice (some ⟨g13, 0, none⟩) (m - 0) c13) 9 1 (m - 0) ((((E.map (·.2)).drop 0).take (m - 0)).map S) → w3.heap.size ≤ g7 → w3.heap.size ≤ g13 → g7 ≠ g13 → Blk wf qb [.bool true, .slice (some ⟨g7, 0, none⟩) (m - 0) c7, .slice (some ⟨g13, 0, none⟩) (m - 0) c13, qc] 84 → Kp (fun k => k = qb ∨ k = b2) w3 wf →
    ∃ kv2 vv2 q', Value.agg #[.bool true, .slice (some ⟨ga, 0, none⟩) (E.length - m) ca, .slice (some ⟨gb, 0, none⟩) (E.length - m) cb, .slice none 0 0] = .agg #[.bool true, kv2, vv2, .slice none 0 0] ∧ Pl.b q' = qb ∧ q'.cv = qc ∧ NdM wf (leafNd (E.take m)) q' ∧ Sl wf kv2 9 1 (E.drop m).length (((E.drop m).map (·.1)).map S) ∧ Sl wf vv2 9 1 (E.drop m).length (((E.drop m).map (·.2)).map S) ∧ Kp (fun k => k = qb) w wf ∧
      (∀ k, q'.kv.ownBlock = some k → w.heap.size ≤ k) ∧ (∀ k, q'.vv.ownBlock = some k → w.heap.size ≤ k) ∧ (∀ k, kv2.ownBlock = some k → w.heap.size ≤ k ∧ ¬ q'.fp k ∧ vv2.ownBlock ≠ some k) ∧ (∀ k, vv2.ownBlock = some k → w.heap.size ≤ k ∧ ¬ q'.fp k) := by
   intro g7 c7 g13 c13 wf hA hB h7 FB aT ik lJ; simp only [Nat.sub_zero, List.drop_zero, ← List.map_take] at hA hB ik; have sN : ∀ k, qc.ownBlock = some k → k < w.heap.size := fun k hk => ah k (.inr (.inr (.inr hk))); have vQ : Kp (fun k => k = qb) w wf := ((bo.trans ai).kp (S := fun k => k = qb)).trans_new lJ (fun i hi => by rcases hi with rfl | rfl; exact .inr rfl; exact .inl (by omega)); have fi : (E.take m).length = m := by simp; omega
   have kh : ∀ k, (k = ga ∨ k = gb) → ¬ Pl.fp ⟨qb, .slice (some ⟨g7, 0, none⟩) m c7, .slice (some ⟨g13, 0, none⟩) m c13, qc⟩ k := by
    rintro k hk (h | h | h | h)
    ·dsimp only at h; omega
    ·have e : g7 = k := oinj h; omega
    ·have e : g13 = k := oinj h; omega
    ·have := sN k h; omega
   refine ⟨_, _, ⟨qb, .slice (some ⟨g7, 0, none⟩) m c7, .slice (some ⟨g13, 0, none⟩) m c13, qc⟩, rfl, rfl, rfl, ⟨ik, ?_, ?_, ?_, ?_, ?_, ?_, ?_⟩, ?_, ?_, vQ, ?_, ?_, ?_, ?_⟩
   ·simpa [leafNd, fi, Nat.min_eq_left (Nat.le_of_lt lB)] using hA
   ·simpa [leafNd, fi, Nat.min_eq_left (Nat.le_of_lt lB)] using hB
   ·exact hM.kids.kp vQ (fun g hg h => hM.d1.2.2 (by rw [hg, h]))
   ·exact ⟨by simp [leafNd]; omega, by simp [leafNd]; omega, by simp [leafNd], fun k hk => bA.ks k (by simp only [leafNd, List.map_take] at hk ⊢; exact List.mem_of_mem_take hk), fun k hk => bA.vs k (by simp only [leafNd, List.map_take] at hk ⊢; exact List.mem_of_mem_take hk), fun k hk => by simp [leafNd] at hk⟩
   ·exact ⟨fun h => by have e : g7 = qb := oinj h; omega, fun h => by have e : g13 = qb := oinj h; omega, hM.d1.2.2⟩
   ·intro k hk; have e : g7 = k := oinj hk; exact ⟨fun h => by have e2 : g13 = k := oinj h; omega, fun h => by have := sN k h; omega⟩
   ·intro k hk h; have e : g13 = k := oinj hk; have := sN k h; omega
   ·have := lH.kp lJ (fun g hg h => by have e : ga = g := oinj hg; omega)
    simpa using this
   ·have := lI.kp lJ (fun g hg h => by have e : gb = g := oinj hg; omega)
    simpa using this
   ·intro k hk; have e : g7 = k := oinj hk; omega
   ·intro k hk; have e : g13 = k := oinj hk; omega
   ·intro k hk; have e : ga = k := oinj hk; exact ⟨by omega, kh k (.inl e.symm), fun h => AS.2 (by rw [h, e])⟩
   ·intro k hk; have e : gb = k := oinj hk; exact ⟨by omega, kh k (.inr e.symm)⟩
  refine zqt 0 rfl (ymv rfl) ((Ext.drew0 w3).kp) (zqt 1 rfl (ymv rfl) ((Ext.drew0 w3).kp) (zqt 2 rfl (ymv rfl) ((Ext.drew0 w3).kp) (zqt 3 rfl (ynk rfl) ((Ext.drew0 w3).kp) (zqt 4 rfl (yfa fl84_1 rfl) ((Ext.drew0 w3).kp) (zqt 6 rfl (ymv rfl) ((Ext.drew0 w3).kp) (zqt 8 rfl (ymv rfl) ((Ext.drew0 w3).kp) (zqt 9 rfl (ynk rfl) ((Ext.drew0 w3).kp) (zqt 10 rfl (yfa fl84_2 rfl) ((Ext.drew0 w3).kp) (zqt 12 rfl (ymv rfl) ((Ext.drew0 w3).kp) (hTwo (i := 5) (j := 11) (by kernel_rfl) ?_ ?_))))))))))
  ·refine nVal (i := 5) rfl rfl rfl (yld U23 rfl rfl (a7.blk d9) rfl) (a7.kp) (hTwo (i := 7) (j := 11) (by kernel_rfl) ?_ ?_)
   ·refine nCall (i := 7) rfl rfl rfl (yc (args := [.tmp 33, .const (Value.int .i64 0), .tmp 34]) cf99 rfl) (copiedS_ret (l := (E.map (·.1))) (i := 0) (j := m) (by have := ki.ext a7; simpa [leafNd] using this) (by omega) (by simp; omega) (by simpa using (by omega : E.length ≤ 1000000)) _ _ rfl rfl) ?_; rintro v7 w7 ⟨gH, aR, pe⟩; refine ⟨(a7.trans aR).kp, ?_⟩; obtain ⟨g7, c7, rfl⟩ := some_of gH (by omega); refine qO 11 (nVal (i := 11) rfl rfl rfl (yld U23 rfl rfl ((a7.trans aR).blk d9) rfl) ((a7.trans aR).kp) (zqo 13 [.tmp 39, .const (Value.int .i64 0), .tmp 40] rfl cf99 rfl (copiedS_ret (l := (E.map (·.2))) (i := 0) (j := m) (by have := AR.ext (a7.trans aR); simpa [leafNd] using this) (by omega) (by simp; omega) (by simpa using (by omega : E.length ≤ 1000000)) _ _ rfl rfl) ?_)); rintro v13 w13 ⟨bQ, au, g0⟩; refine ⟨((a7.trans aR).trans au).kp, ?_⟩; obtain ⟨g13, c13, rfl⟩ := some_of bQ (by omega); refine zqt 14 rfl (ynk rfl) (((a7.trans aR).trans au).kp) (zqt 15 rfl (yfa fl84_1 rfl) (((a7.trans aR).trans au).kp) ?_); have bR := ((a7.trans aR).trans au); refine qO 16 (nEffP (i := 16) rfl rfl (zst ti23 rfl rfl rfl (bR.blk d9) (by simp)) ?_); rintro w8 ⟨da, aU⟩; refine ⟨bR.kp.trans aU, ?_⟩; refine zqt 17 rfl (ynk rfl) (bR.kp.trans aU) (zqt 18 rfl (yfa fl84_2 rfl) (bR.kp.trans aU) (qO 19 (nEffP (i := 19) rfl rfl (zst ti23 rfl rfl rfl da (by simp)) ?_))); rintro w9 ⟨dg, aH⟩; refine ⟨(bR.kp.trans aU).trans aH, ?_⟩; have cB : Kp (fun k => k = qb) w3 w9 := (bR.kp.trans aU).trans aH; have mZ := cB.blk bu (by omega); have gd := cB.blk (ai.blk dx) (by omega); refine qE (qN rfl (qV (yldA U84 rfl ti84 rfl (Blk.cells (n := 4) mZ (news := [_, _, _, _]) rfl) rfl) (rEffP rfl (zstA (news := [.bool true, .slice (some ⟨ga, 0, none⟩) (E.length - m) ca, .slice (some ⟨gb, 0, none⟩) (E.length - m) cb, .slice none 0 0]) ti84 rfl rfl rfl rfl gd (by simp)) ?_))); rintro w10 ⟨bG, aA⟩; refine rEnd (run_retR Tryz.func71 (.cell U84 rfl ti84 rfl (Blk.cells (n := 4) bG (news := [_, _, _, _]) rfl) rfl .nil) ?_); have ge : Kp (fun k => k = qb) w13 w9 := aU.trans aH; have kj := a7.size; have mA := aR.size; have pJ := au.size; have vR := pe g7 rfl; have mB := gH.lt (g := g7) rfl; have n7 := g0 g13 rfl; have n8 := bQ.lt (g := g13) rfl; have il := ge.size; have nf := ((gH.ext au).kp ge (fun g hg h => by have e : g7 = g := oinj hg; omega)).kp aA (fun g hg h => by have e : g7 = g := oinj hg; omega); have iT := (bQ.kp ge (fun g hg h => by have e : g13 = g := oinj hg; omega)).kp aA (fun g hg h => by have e : g13 = g := oinj hg; omega); have jR := aA.blk dg (by omega); exact ⟨_, rfl, ao _ _ _ _ _ nf iT (by omega) (by omega) (by omega) jR ((cB.mono' (fun _ h => .inl h)).trans (aA.mono' (fun _ h => .inr h)))⟩
   ·refine nVal (i := 11) rfl rfl rfl (yld U23 rfl rfl (a7.blk d9) rfl) (a7.kp) (zqo 7 [.tmp 33, .const (Value.int .i64 0), .tmp 34] rfl cf99 rfl (copiedS_ret (l := (E.map (·.1))) (i := 0) (j := m) (by have := ki.ext a7; simpa [leafNd] using this) (by omega) (by simp; omega) (by simpa using (by omega : E.length ≤ 1000000)) _ _ rfl rfl) ?_); rintro v7 w7 ⟨gH, aR, pe⟩; refine ⟨(a7.trans aR).kp, ?_⟩; obtain ⟨g7, c7, rfl⟩ := some_of gH (by omega); refine zqo 13 [.tmp 39, .const (Value.int .i64 0), .tmp 40] rfl cf99 rfl (copiedS_ret (l := (E.map (·.2))) (i := 0) (j := m) (by have := AR.ext (a7.trans aR); simpa [leafNd] using this) (by omega) (by simp; omega) (by simpa using (by omega : E.length ≤ 1000000)) _ _ rfl rfl) ?_; rintro v13 w13 ⟨bQ, au, g0⟩; refine ⟨((a7.trans aR).trans au).kp, ?_⟩; obtain ⟨g13, c13, rfl⟩ := some_of bQ (by omega); refine zqt 14 rfl (ynk rfl) (((a7.trans aR).trans au).kp) (zqt 15 rfl (yfa fl84_1 rfl) (((a7.trans aR).trans au).kp) ?_); have bR := ((a7.trans aR).trans au); refine qO 16 (nEffP (i := 16) rfl rfl (zst ti23 rfl rfl rfl (bR.blk d9) (by simp)) ?_); rintro w8 ⟨da, aU⟩; refine ⟨bR.kp.trans aU, ?_⟩; refine zqt 17 rfl (ynk rfl) (bR.kp.trans aU) (zqt 18 rfl (yfa fl84_2 rfl) (bR.kp.trans aU) (qO 19 (nEffP (i := 19) rfl rfl (zst ti23 rfl rfl rfl da (by simp)) ?_))); rintro w9 ⟨dg, aH⟩; refine ⟨(bR.kp.trans aU).trans aH, ?_⟩; have cB : Kp (fun k => k = qb) w3 w9 := (bR.kp.trans aU).trans aH; have mZ := cB.blk bu (by omega); have gd := cB.blk (ai.blk dx) (by omega); refine qE (qN rfl (qV (yldA U84 rfl ti84 rfl (Blk.cells (n := 4) mZ (news := [_, _, _, _]) rfl) rfl) (rEffP rfl (zstA (news := [.bool true, .slice (some ⟨ga, 0, none⟩) (E.length - m) ca, .slice (some ⟨gb, 0, none⟩) (E.length - m) cb, .slice none 0 0]) ti84 rfl rfl rfl rfl gd (by simp)) ?_))); rintro w10 ⟨bG, aA⟩; refine rEnd (run_retR Tryz.func71 (.cell U84 rfl ti84 rfl (Blk.cells (n := 4) bG (news := [_, _, _, _]) rfl) rfl .nil) ?_); have ge : Kp (fun k => k = qb) w13 w9 := aU.trans aH; have kj := a7.size; have mA := aR.size; have pJ := au.size; have vR := pe g7 rfl; have mB := gH.lt (g := g7) rfl; have n7 := g0 g13 rfl; have n8 := bQ.lt (g := g13) rfl; have il := ge.size; have nf := ((gH.ext au).kp ge (fun g hg h => by have e : g7 = g := oinj hg; omega)).kp aA (fun g hg h => by have e : g7 = g := oinj hg; omega); have iT := (bQ.kp ge (fun g hg h => by have e : g13 = g := oinj hg; omega)).kp aA (fun g hg h => by have e : g13 = g := oinj hg; omega); have jR := aA.blk dg (by omega); exact ⟨_, rfl, ao _ _ _ _ _ nf iT (by omega) (by omega) (by omega) jR ((cB.mono' (fun _ h => .inl h)).trans (aA.mono' (fun _ h => .inr h)))⟩
  ·refine nVal (i := 11) rfl rfl rfl (yld U23 rfl rfl (a7.blk d9) rfl) (a7.kp) (qO 5 (nVal (i := 5) rfl rfl rfl (yld U23 rfl rfl (a7.blk d9) rfl) (a7.kp) (zqo 7 [.tmp 33, .const (Value.int .i64 0), .tmp 34] rfl cf99 rfl (copiedS_ret (l := (E.map (·.1))) (i := 0) (j := m) (by have := ki.ext a7; simpa [leafNd] using this) (by omega) (by simp; omega) (by simpa using (by omega : E.length ≤ 1000000)) _ _ rfl rfl) ?_))); rintro v7 w7 ⟨gH, aR, pe⟩; refine ⟨(a7.trans aR).kp, ?_⟩; obtain ⟨g7, c7, rfl⟩ := some_of gH (by omega); refine zqo 13 [.tmp 39, .const (Value.int .i64 0), .tmp 40] rfl cf99 rfl (copiedS_ret (l := (E.map (·.2))) (i := 0) (j := m) (by have := AR.ext (a7.trans aR); simpa [leafNd] using this) (by omega) (by simp; omega) (by simpa using (by omega : E.length ≤ 1000000)) _ _ rfl rfl) ?_; rintro v13 w13 ⟨bQ, au, g0⟩; refine ⟨((a7.trans aR).trans au).kp, ?_⟩; obtain ⟨g13, c13, rfl⟩ := some_of bQ (by omega); refine zqt 14 rfl (ynk rfl) (((a7.trans aR).trans au).kp) (zqt 15 rfl (yfa fl84_1 rfl) (((a7.trans aR).trans au).kp) ?_); have bR := ((a7.trans aR).trans au); refine qO 16 (nEffP (i := 16) rfl rfl (zst ti23 rfl rfl rfl (bR.blk d9) (by simp)) ?_); rintro w8 ⟨da, aU⟩; refine ⟨bR.kp.trans aU, ?_⟩; refine zqt 17 rfl (ynk rfl) (bR.kp.trans aU) (zqt 18 rfl (yfa fl84_2 rfl) (bR.kp.trans aU) (qO 19 (nEffP (i := 19) rfl rfl (zst ti23 rfl rfl rfl da (by simp)) ?_))); rintro w9 ⟨dg, aH⟩; refine ⟨(bR.kp.trans aU).trans aH, ?_⟩; have cB : Kp (fun k => k = qb) w3 w9 := (bR.kp.trans aU).trans aH; have mZ := cB.blk bu (by omega); have gd := cB.blk (ai.blk dx) (by omega); refine qE (qN rfl (qV (yldA U84 rfl ti84 rfl (Blk.cells (n := 4) mZ (news := [_, _, _, _]) rfl) rfl) (rEffP rfl (zstA (news := [.bool true, .slice (some ⟨ga, 0, none⟩) (E.length - m) ca, .slice (some ⟨gb, 0, none⟩) (E.length - m) cb, .slice none 0 0]) ti84 rfl rfl rfl rfl gd (by simp)) ?_))); rintro w10 ⟨bG, aA⟩; refine rEnd (run_retR Tryz.func71 (.cell U84 rfl ti84 rfl (Blk.cells (n := 4) bG (news := [_, _, _, _]) rfl) rfl .nil) ?_); have ge : Kp (fun k => k = qb) w13 w9 := aU.trans aH; have kj := a7.size; have mA := aR.size; have pJ := au.size; have vR := pe g7 rfl; have mB := gH.lt (g := g7) rfl; have n7 := g0 g13 rfl; have n8 := bQ.lt (g := g13) rfl; have il := ge.size; have nf := ((gH.ext au).kp ge (fun g hg h => by have e : g7 = g := oinj hg; omega)).kp aA (fun g hg h => by have e : g7 = g := oinj hg; omega); have iT := (bQ.kp ge (fun g hg h => by have e : g13 = g := oinj hg; omega)).kp aA (fun g hg h => by have e : g13 = g := oinj hg; omega); have jR := aA.blk dg (by omega); exact ⟨_, rfl, ao _ _ _ _ _ nf iT (by omega) (by omega) (by omega) jR ((cB.mono' (fun _ h => .inl h)).trans (aA.mono' (fun _ h => .inr h)))⟩
 case dG =>
  refine run_draw (fun w' => Ext w2 w') (by kernel_rfl) rfl (zqt 0 rfl (ymv rfl) (Ext.drew0 w2) (zqt 1 rfl (ynk rfl) (Ext.drew0 w2) (zqt 2 rfl (yfa fl84_1 rfl) (Ext.drew0 w2) (qT 3 rfl (fun _ h=>yld U23 rfl rfl (h.blk (bo.blk iE)) rfl) (Ext.drew0 w2) (zqt 4 rfl (ymv rfl) (Ext.drew0 w2) (zqt 5 rfl (ymv rfl) (Ext.drew0 w2) (zqt 7 rfl (ymv rfl) (Ext.drew0 w2) (zqt 8 rfl (ynk rfl) (Ext.drew0 w2) (zqt 9 rfl (yfa fl84_2 rfl) (Ext.drew0 w2) (qT 10 rfl (fun _ h=>yld U23 rfl rfl (h.blk (bo.blk iE)) rfl) (Ext.drew0 w2) (zqt 11 rfl (ymv rfl) (Ext.drew0 w2) (zqt 12 rfl (ymv rfl) (Ext.drew0 w2) ?_)))))))))))); have a7 := Ext.drew0 w2; refine hTwo (i := 6) (j := 15) (by kernel_rfl) ?_ ?_
  ·refine nCall (i := 6) rfl rfl rfl (yc (args := [.tmp 16, .tmp 17, .tmp 18]) cf99 rfl) (copiedS_ret (l := (E.map (·.1))) (i := m) (j := E.length) (by have := r8.ext a7; simpa [leafNd] using this) (by omega) (by simp) (by simpa using (by omega : E.length ≤ 1000000)) _ _ rfl rfl) ?_; rintro v6 w6 ⟨pK, bq, zR⟩; refine ⟨a7.trans bq, ?_⟩; obtain ⟨g6, c6, rfl⟩ := some_of pK (by omega); refine hTwo (i := 13) (j := 15) (by kernel_rfl) ?_ ?_
   ·refine nCall (i := 13) rfl rfl rfl (yc (args := [.tmp 23, .tmp 24, .tmp 25]) cf99 rfl) (copiedS_ret (l := (E.map (·.2))) (i := m) (j := E.length) (by have := AP.ext (a7.trans bq); simpa [leafNd] using this) (by omega) (by simp) (by simpa using (by omega : E.length ≤ 1000000)) _ _ rfl rfl) ?_; rintro v13 w13 ⟨bQ, au, g0⟩; refine ⟨(a7.trans bq).trans au, ?_⟩; obtain ⟨g13, c13, rfl⟩ := some_of bQ (by omega); refine qT 14 rfl (fun _ hS => ybd (parts := [(0, .const (Value.bool true)), (1, .tmp 19), (2, .tmp 26)]) (cs := [_, _, _, _]) ti84 rfl sp84 rfl rfl) ((a7.trans bq).trans au) (qO 15 (nValP (i := 15) rfl rfl rfl (pal (cs := [_, _, _, _]) ti84 rfl) ?_)); rintro _ w15 ⟨b5, rfl, pL, bZ, ev⟩; refine ⟨((a7.trans bq).trans au).trans bZ, ?_⟩; have bR := (((a7.trans bq).trans au).trans bZ); have nh := bq.size; have vS := au.size; have vT := bZ.size; have ni := a7.size; have vU := ((pK.ext au).ext bZ); have km := (bQ.ext bZ); have iU := ev; have pM := pK.lt (g := g6) rfl; have DV := zR g6 rfl; have n8 := bQ.lt (g := g13) rfl; have n7 := g0 g13 rfl; have vV := ev.lt; have sM := iU.lt; have bX : w2.heap.size ≤ b5 := by omega
    refine qO 16 (nEffP (i := 16) rfl rfl (zstA (news := [.bool true, .slice (some ⟨g6, 0, none⟩) (E.length - m) c6, .slice (some ⟨g13, 0, none⟩) (E.length - m) c13, .slice none 0 0]) ti84 rfl rfl rfl rfl iU (by simp)) ?_); rintro w7 ⟨dy, aW⟩; refine ⟨bR.trans_new aW (fun i hi => by rw [hi]; exact bX), ?_⟩; refine qE (Run.qb (e := [(0, _), (2, _), (3, _), (5, _)]) ?_); have aR := bR.trans_new aW (fun i hi => by rw [hi]; exact bX); refine (hk _ _ ⟨b5, _, _, rfl, aR, dy, ?_, ?_, ?_, ?_, bX⟩).qb
    ·have := vU.kp aW (fun g hg h => by have e : g6 = g := oinj hg; omega)
     simpa [List.map_drop, List.take_of_length_le] using this
    ·have := km.kp aW (fun g hg h => by have e : g13 = g := oinj hg; omega)
     simpa [List.map_drop, List.take_of_length_le] using this
    ·intro k hk; have e : g6 = k := oinj hk; exact ⟨by omega, fun h => by have e2 : g13 = k := oinj h; omega⟩
    ·intro k hk; have e : g13 = k := oinj hk; omega
   ·refine nValP (i := 15) rfl rfl rfl (pal (cs := [_, _, _, _]) ti84 rfl) ?_; rintro _ w15 ⟨b5, rfl, pL, bZ, ev⟩; refine ⟨(a7.trans bq).trans bZ, ?_⟩; refine zqo 13 [.tmp 23, .tmp 24, .tmp 25] rfl cf99 rfl (copiedS_ret (l := (E.map (·.2))) (i := m) (j := E.length) (by have := AP.ext ((a7.trans bq).trans bZ); simpa [leafNd] using this) (by omega) (by simp) (by simpa using (by omega : E.length ≤ 1000000)) _ _ rfl rfl) ?_; rintro v13 w13 ⟨bQ, au, g0⟩; refine ⟨((a7.trans bq).trans bZ).trans au, ?_⟩; obtain ⟨g13, c13, rfl⟩ := some_of bQ (by omega); refine qT 14 rfl (fun _ hS => ybd (parts := [(0, .const (Value.bool true)), (1, .tmp 19), (2, .tmp 26)]) (cs := [_, _, _, _]) ti84 rfl sp84 rfl rfl) (((a7.trans bq).trans bZ).trans au) ?_; have bR := (((a7.trans bq).trans bZ).trans au); have nh := bq.size; have vT := bZ.size; have vS := au.size; have ni := a7.size; have vU := ((pK.ext bZ).ext au); have km := bQ; have iU := (au.blk ev); have pM := pK.lt (g := g6) rfl; have DV := zR g6 rfl; have n8 := bQ.lt (g := g13) rfl; have n7 := g0 g13 rfl; have vV := ev.lt; have sM := iU.lt; have bX : w2.heap.size ≤ b5 := by omega
    refine qO 16 (nEffP (i := 16) rfl rfl (zstA (news := [.bool true, .slice (some ⟨g6, 0, none⟩) (E.length - m) c6, .slice (some ⟨g13, 0, none⟩) (E.length - m) c13, .slice none 0 0]) ti84 rfl rfl rfl rfl iU (by simp)) ?_); rintro w7 ⟨dy, aW⟩; refine ⟨bR.trans_new aW (fun i hi => by rw [hi]; exact bX), ?_⟩; refine qE (Run.qb (e := [(0, _), (2, _), (3, _), (5, _)]) ?_); have aR := bR.trans_new aW (fun i hi => by rw [hi]; exact bX); refine (hk _ _ ⟨b5, _, _, rfl, aR, dy, ?_, ?_, ?_, ?_, bX⟩).qb
    ·have := vU.kp aW (fun g hg h => by have e : g6 = g := oinj hg; omega)
     simpa [List.map_drop, List.take_of_length_le] using this
    ·have := km.kp aW (fun g hg h => by have e : g13 = g := oinj hg; omega)
     simpa [List.map_drop, List.take_of_length_le] using this
    ·intro k hk; have e : g6 = k := oinj hk; exact ⟨by omega, fun h => by have e2 : g13 = k := oinj h; omega⟩
    ·intro k hk; have e : g13 = k := oinj hk; omega
  ·refine nValP (i := 15) rfl rfl rfl (pal (cs := [_, _, _, _]) ti84 rfl) ?_; rintro _ w15 ⟨b5, rfl, pL, bZ, ev⟩; refine ⟨a7.trans bZ, ?_⟩; refine zqo 6 [.tmp 16, .tmp 17, .tmp 18] rfl cf99 rfl (copiedS_ret (l := (E.map (·.1))) (i := m) (j := E.length) (by have := r8.ext (a7.trans bZ); simpa [leafNd] using this) (by omega) (by simp) (by simpa using (by omega : E.length ≤ 1000000)) _ _ rfl rfl) ?_; rintro v6 w6 ⟨pK, bq, zR⟩; refine ⟨(a7.trans bZ).trans bq, ?_⟩; obtain ⟨g6, c6, rfl⟩ := some_of pK (by omega); refine zqo 13 [.tmp 23, .tmp 24, .tmp 25] rfl cf99 rfl (copiedS_ret (l := (E.map (·.2))) (i := m) (j := E.length) (by have := AP.ext ((a7.trans bZ).trans bq); simpa [leafNd] using this) (by omega) (by simp) (by simpa using (by omega : E.length ≤ 1000000)) _ _ rfl rfl) ?_; rintro v13 w13 ⟨bQ, au, g0⟩; refine ⟨((a7.trans bZ).trans bq).trans au, ?_⟩; obtain ⟨g13, c13, rfl⟩ := some_of bQ (by omega); refine qT 14 rfl (fun _ hS => ybd (parts := [(0, .const (Value.bool true)), (1, .tmp 19), (2, .tmp 26)]) (cs := [_, _, _, _]) ti84 rfl sp84 rfl rfl) (((a7.trans bZ).trans bq).trans au) ?_; have bR := (((a7.trans bZ).trans bq).trans au); have vT := bZ.size; have nh := bq.size; have vS := au.size; have ni := a7.size; have vU := (pK.ext au); have km := bQ; have iU := (au.blk (bq.blk ev)); have pM := pK.lt (g := g6) rfl; have DV := zR g6 rfl; have n8 := bQ.lt (g := g13) rfl; have n7 := g0 g13 rfl; have vV := ev.lt; have sM := iU.lt; have bX : w2.heap.size ≤ b5 := by omega
   refine qO 16 (nEffP (i := 16) rfl rfl (zstA (news := [.bool true, .slice (some ⟨g6, 0, none⟩) (E.length - m) c6, .slice (some ⟨g13, 0, none⟩) (E.length - m) c13, .slice none 0 0]) ti84 rfl rfl rfl rfl iU (by simp)) ?_); rintro w7 ⟨dy, aW⟩; refine ⟨bR.trans_new aW (fun i hi => by rw [hi]; exact bX), ?_⟩; refine qE (Run.qb (e := [(0, _), (2, _), (3, _), (5, _)]) ?_); have aR := bR.trans_new aW (fun i hi => by rw [hi]; exact bX); refine (hk _ _ ⟨b5, _, _, rfl, aR, dy, ?_, ?_, ?_, ?_, bX⟩).qb
   ·have := vU.kp aW (fun g hg h => by have e : g6 = g := oinj hg; omega)
    simpa [List.map_drop, List.take_of_length_le] using this
   ·have := km.kp aW (fun g hg h => by have e : g13 = g := oinj hg; omega)
    simpa [List.map_drop, List.take_of_length_le] using this
   ·intro k hk; have e : g6 = k := oinj hk; exact ⟨by omega, fun h => by have e2 : g13 = k := oinj h; omega⟩
   ·intro k hk; have e : g13 = k := oinj hk; omega
end
section
variable {w : World}
theorem kids_drop {ps : List (Bytes × Nat)} {m c c2 : Nat} {up : Bytes} (h : ps.drop m = (up, c2) :: ps.drop (m + 1)) : (((c :: ps.map (·.2)).drop (m + 1)).take (ps.length + 1 - (m + 1))).map u32v = (c2 :: (ps.drop (m + 1)).map (·.2)).map u32v := by
 rw [List.drop_succ_cons, ← List.map_drop, h, List.map_cons, List.take_of_length_le]
 have := congrArg List.length h
 simp at this ⊢
 omega
set_option maxHeartbeats 1000000 in
theorem part_ret {c c2 m : Nat} {ps : List (Bytes × Nat)} {up : Bytes} {q : Pl} (hM : NdM w (innNd c ps) q) (h8 : 4 ≤ ps.length) (kq : (ps.length + 1) / 2 - 1 = m) (eu : ps[m]? = some (up, c2)) :
  Ret Tryz.prog 73 [ptr q.b 0] w fun v w' => ∃ kv2 cv2 q', v = .tuple #[S up, .agg #[.bool false, kv2, .slice none 0 0, cv2]] ∧ q'.b = q.b ∧ q'.vv = q.vv ∧ NdM w' (innNd c (ps.take m)) q' ∧ Sl w' kv2 9 1 (ps.drop (m + 1)).length (((ps.drop (m + 1)).map (·.1)).map S) ∧ Sl w' cv2 89 1 ((ps.drop (m + 1)).length + 1) ((c2 :: (ps.drop (m + 1)).map (·.2)).map u32v) ∧ Kp (fun k => k = q.b) w w' ∧
   (∀ k, q'.kv.ownBlock = some k → w.heap.size ≤ k) ∧ (∀ k, q'.cv.ownBlock = some k → w.heap.size ≤ k) ∧ (∀ k, kv2.ownBlock = some k → w.heap.size ≤ k ∧ ¬ q'.fp k ∧ cv2.ownBlock ≠ some k) ∧ (∀ k, cv2.ownBlock = some k → w.heap.size ≤ k ∧ ¬ q'.fp k) := by
 have bA := hM.bd
 have sL : ps.length ≤ 100000 := by have := bA.kl; simpa [innNd] using this
 have cy : (innNd c ps).keys.length = ps.length := by simp [innNd]
 have cG : (innNd c ps).kids.length = ps.length + 1 := by simp [innNd]
 have lB : m + 1 < ps.length := by omega
 have qW : 1 ≤ m := by omega
 have AW : ps.drop m = (up, c2) :: ps.drop (m + 1) := by
  rw [List.drop_eq_getElem_cons (by omega)]; rw [List.getElem?_eq_getElem (by omega)] at eu; rw [oinj eu]
 have AX : (innNd c ps).keys[m]? = some up := by simp [innNd, eu]
 have ah := hM.lt
 obtain ⟨qb, qk, qv, qc⟩ := q
 have iE := hM.blk
 have pH := hM.keys
 have rf := hM.kids
 dsimp only at iE pH rf ⊢
 rcases pH.shape with ⟨-, h0⟩ | ⟨gk, ck, rfl, -⟩
 ·omega
 rcases rf.shape with ⟨-, h0⟩ | ⟨gc, cc, rfl, -⟩
 ·omega
 have AO : qb < w.heap.size := iE.lt
 refine ret_of_run (e := [(0, _)]) Tryz.func73 rfl Tryz.ntmps73 rfl rfl (qN rfl (zqa rfl (rValP rfl rfl (pal (cs := [_, _, _, _]) ti84 rfl) ?_)))
 rintro _ w1 ⟨b2, rfl, cz, aa, ay⟩
 refine rEnd (run_seq (run_draw (fun w' => Ext w1 w') (by kernel_rfl) rfl (zqt 0 rfl (ymv rfl) (Ext.drew0 w1) (zqt 1 rfl (ynk rfl) (Ext.drew0 w1) (zqt 2 rfl (yfa fl84_3 rfl) (Ext.drew0 w1) (qT 3 rfl (fun _ h=>yld U82 rfl rfl (h.blk (aa.blk iE)) rfl) (Ext.drew0 w1) (zqt 4 rfl (yln U82 rfl) (Ext.drew0 w1) (zqt 5 rfl (yqu rfl rfl (by omega)) (Ext.drew0 w1) (zqt 6 rfl (ymv rfl) (Ext.drew0 w1) (zqt 7 rfl (ynk rfl) (Ext.drew0 w1) (zqt 8 rfl (yfa fl84_3 rfl) (Ext.drew0 w1) (qT 9 rfl (fun _ h=>yld U82 rfl rfl (h.blk (aa.blk iE)) rfl) (Ext.drew0 w1) (zqt 10 rfl (yln U82 rfl) (Ext.drew0 w1) ?_)))))))))))))
 refine zqt 11 rfl (yas rfl) (Ext.drew0 w1) (zqt 12 rfl (yas rfl) (Ext.drew0 w1) (qE (run_seq ?_)))
 rw [cG, show (((ps.length + 1 : Nat) : Int)) / 2 = ((m + 1 : Nat) : Int) by omega]
 have bo : Ext w w1.drew := aa.trans (Ext.drew0 w1)
 obtain ⟨w2, ku⟩ : ∃ w2, w1.drew = w2 := ⟨_, rfl⟩
 have dx := (Ext.drew0 w1).blk ay
 rw [ku] at bo dx ⊢
 have dD := bo.size
 have kg := aa.size
 have r8 := pH.ext bo
 have AY := rf.ext bo
 have AQ := dx.lt
 have FC : w1.heap.size ≤ w2.heap.size := by rw [← ku]; exact (Ext.drew0 w1).size
 have DW := ay.lt
 refine run_cut (fun e' w' => ∃ b6 kv2 cv2, e' = [(0, ptr qb 0), (3, ptr b2 0), (4, I ((m + 1 : Nat) : Int)), (6, ptr b6 0)] ∧ Ext w2 w' ∧ Blk w' b6 [.bool false, kv2, .slice none 0 0, cv2] 84 ∧ Sl w' kv2 9 1 (ps.length - (m + 1)) (((ps.drop (m + 1)).map (·.1)).map S) ∧ Sl w' cv2 89 1 (ps.length - (m + 1) + 1) ((c2 :: (ps.drop (m + 1)).map (·.2)).map u32v) ∧ (∀ k, kv2.ownBlock = some k → w2.heap.size ≤ k ∧ cv2.ownBlock ≠ some k) ∧ (∀ k, cv2.ownBlock = some k → w2.heap.size ≤ k) ∧ w2.heap.size ≤ b6) ?hk (fun hk => ?dG)
 case hk =>
  rintro _ w3 ⟨b6, kv2, cv2, rfl, ai, bT, sO, sP, dK, fA, sQ⟩; obtain ⟨ga, ca, rfl⟩ := some_of sO (by omega); obtain ⟨gb, cb, rfl⟩ := some_of sP (by omega); have r9 := ai.size; have sR := bT.lt; have d9 := (bo.trans ai).blk iE; have ki := pH.ext (bo.trans ai); have pN := rf.ext (bo.trans ai); have AS := dK ga rfl; have qZ := fA gb rfl; have AU := sO.lt (g := ga) rfl; have AV := sP.lt (g := gb) rfl
  have ao : ∀ g7 c7 g13 c13 wf, Sl wf (.slice (some ⟨g7, 0, none⟩) (m - 0) c7) 9 1 (m - 0) ((((ps.map (·.1)).drop 0).take (m - 0)).map S) → Sl wf (.slice (some ⟨g13, 0, none⟩) (m + 1 - 0) c13) 89 1 (m + 1 - 0) ((((c :: ps.map (·.2)).drop 0).take (m + 1 - 0)).map u32v) → w3.heap.size ≤ g7 → w3.heap.size ≤ g13 → g7 ≠ g13 → Blk wf qb [.bool false, .slice (some ⟨g7, 0, none⟩) (m - 0) c7, qv, .slice (some ⟨g13, 0, none⟩) (m + 1 - 0) c13] 84 → Kp (fun k => k = qb ∨ k = b2) w3 wf →
    ∃ kv2 cv2 q', Value.tuple #[S up, .agg #[.bool false, .slice (some ⟨ga, 0, none⟩) (ps.length - (m + 1)) ca, .slice none 0 0, .slice (some ⟨gb, 0, none⟩) (ps.length - (m + 1) + 1) cb]] = .tuple #[S up, .agg #[.bool false, kv2, .slice none 0 0, cv2]] ∧ Pl.b q' = qb ∧ q'.vv = qv ∧ NdM wf (innNd c (ps.take m)) q' ∧ Sl wf kv2 9 1 (ps.drop (m + 1)).length (((ps.drop (m + 1)).map (·.1)).map S) ∧ Sl wf cv2 89 1 ((ps.drop (m + 1)).length + 1) ((c2 :: (ps.drop (m + 1)).map (·.2)).map u32v) ∧ Kp (fun k => k = qb) w wf ∧
      (∀ k, q'.kv.ownBlock = some k → w.heap.size ≤ k) ∧ (∀ k, q'.cv.ownBlock = some k → w.heap.size ≤ k) ∧ (∀ k, kv2.ownBlock = some k → w.heap.size ≤ k ∧ ¬ q'.fp k ∧ cv2.ownBlock ≠ some k) ∧ (∀ k, cv2.ownBlock = some k → w.heap.size ≤ k ∧ ¬ q'.fp k) := by
   intro g7 c7 g13 c13 wf hA hB h7 FB aT ik lJ; simp only [Nat.sub_zero, List.drop_zero, ← List.map_take] at hA hB ik; have sS : ∀ k, qv.ownBlock = some k → k < w.heap.size := fun k hk => ah k (.inr (.inr (.inl hk))); have vQ : Kp (fun k => k = qb) w wf := ((bo.trans ai).kp (S := fun k => k = qb)).trans_new lJ (fun i hi => by rcases hi with rfl | rfl; exact .inr rfl; exact .inl (by omega)); have fi : (ps.take m).length = m := by simp; omega
   have kh : ∀ k, (k = ga ∨ k = gb) → ¬ Pl.fp ⟨qb, .slice (some ⟨g7, 0, none⟩) m c7, qv, .slice (some ⟨g13, 0, none⟩) (m + 1) c13⟩ k := by
    rintro k hk (h | h | h | h)
    ·dsimp only at h; omega
    ·have e : g7 = k := oinj h; omega
    ·have := sS k h; omega
    ·have e : g13 = k := oinj h; omega
   have bY : (ps.drop (m + 1)).length = ps.length - (m + 1) := by simp
   refine ⟨_, _, ⟨qb, .slice (some ⟨g7, 0, none⟩) m c7, qv, .slice (some ⟨g13, 0, none⟩) (m + 1) c13⟩, rfl, rfl, rfl, ⟨ik, ?_, ?_, ?_, ?_, ?_, ?_, ?_⟩, ?_, ?_, vQ, ?_, ?_, ?_, ?_⟩
   ·simpa [innNd, fi, Nat.min_eq_left (show m ≤ ps.length by omega)] using hA
   ·have := hM.vals.kp vQ (fun g hg h => hM.d1.2.1 (by rw [hg, h])); exact this
   ·simpa [innNd, fi, Nat.min_eq_left (show m ≤ ps.length by omega)] using hB
   ·exact ⟨by simp [innNd]; omega, by simp [innNd], by simp [innNd]; omega, fun k hk => bA.ks k (by simp only [innNd, List.map_take] at hk ⊢; exact List.mem_of_mem_take hk), fun k hk => by simp [innNd] at hk, fun k hk => bA.cs k (by
     simp only [innNd, List.map_take, List.mem_cons] at hk ⊢; rcases hk with h | h
     ·exact .inl h
     ·exact .inr (List.mem_of_mem_take h))⟩
   ·exact ⟨fun h => by have e : g7 = qb := oinj h; omega, hM.d1.2.1, fun h => by have e : g13 = qb := oinj h; omega⟩
   ·intro k hk; have e : g7 = k := oinj hk; exact ⟨fun h => by have := sS k h; omega, fun h => by have e2 : g13 = k := oinj h; omega⟩
   ·intro k hk h; have e : g13 = k := oinj h; have := sS k hk; omega
   ·have := sO.kp lJ (fun g hg h => by have e : ga = g := oinj hg; omega); rw [bY]; exact this
   ·have := sP.kp lJ (fun g hg h => by have e : gb = g := oinj hg; omega); rw [bY]; exact this
   ·intro k hk; have e : g7 = k := oinj hk; omega
   ·intro k hk; have e : g13 = k := oinj hk; omega
   ·intro k hk; have e : ga = k := oinj hk; exact ⟨by omega, kh k (.inl e.symm), fun h => AS.2 (by rw [h, e])⟩
   ·intro k hk; have e : gb = k := oinj hk; exact ⟨by omega, kh k (.inr e.symm)⟩
  refine qN rfl (zqm rfl (qV (ynk rfl) (qV (yfa fl84_1 rfl) (qV (yld U23 rfl rfl d9 rfl) (zqm rfl (qV (ysb rfl rfl (by omega)) ?_)))))); rw [show ((m + 1 : Nat) : Int) - 1 = (m : Int) by omega]; refine qV (yis U23 ti9 rfl rfl (by omega)) (qV (yldc U9 rfl rfl (rd_str ki.rd (by omega) AX)) (zqa rfl (rEnd (run_seq (run_draw (fun w' => Kp (fun k => k = qb) w3 w') (by kernel_rfl) rfl ?_))))); have a7 := Ext.drew0 w3; refine zqt 0 rfl (ymv rfl) ((Ext.drew0 w3).kp) (zqt 1 rfl (ymv rfl) ((Ext.drew0 w3).kp) (zqt 2 rfl (ymv rfl) ((Ext.drew0 w3).kp) (zqt 3 rfl (ynk rfl) ((Ext.drew0 w3).kp) (zqt 4 rfl (yfa fl84_1 rfl) ((Ext.drew0 w3).kp) (zqt 6 rfl (ymv rfl) ((Ext.drew0 w3).kp) (zqt 7 rfl (ysb rfl rfl (by omega)) ((Ext.drew0 w3).kp) (zqt 9 rfl (ymv rfl) ((Ext.drew0 w3).kp) (zqt 10 rfl (ynk rfl) ((Ext.drew0 w3).kp) (zqt 11 rfl (yfa fl84_3 rfl) ((Ext.drew0 w3).kp) (zqt 13 rfl (ymv rfl) ((Ext.drew0 w3).kp) (hTwo (i := 5) (j := 12) (by kernel_rfl) ?_ ?_)))))))))))
  ·refine nVal (i := 5) rfl rfl rfl (yld U23 rfl rfl (a7.blk d9) rfl) (a7.kp) (hTwo (i := 8) (j := 12) (by kernel_rfl) ?_ ?_)
   ·refine nCall (i := 8) rfl rfl rfl (yc (args := [.tmp 48, .const (Value.int .i64 0), .tmp 50]) cf99 rfl) (copiedS_ret (l := ps.map (·.1)) (i := 0) (j := m) (by have := ki.ext a7; simpa [innNd] using this) (by omega) (by simp; omega) (by simpa using (by omega : ps.length ≤ 1000000)) _ _ rfl (by omega)) ?_; rintro v8 w8 ⟨nj, br, vW⟩; refine ⟨(a7.trans br).kp, ?_⟩; obtain ⟨g8, c8, rfl⟩ := some_of nj (by omega); refine qO 12 (nVal (i := 12) rfl rfl rfl (yld U82 rfl rfl ((a7.trans br).blk d9) rfl) ((a7.trans br).kp) (zqo 14 [.tmp 55, .const (Value.int .i64 0), .tmp 56] rfl cf102 rfl (copiedU_ret (l := c :: ps.map (·.2)) (i := 0) (j := m + 1) (by have := pN.ext (a7.trans br); simpa [innNd] using this) (by omega) (by simp; omega) (by simpa using (by omega : ps.length + 1 ≤ 1000000)) _ _ rfl rfl) ?_)); rintro v14 w14 ⟨cC, ar, gf⟩; refine ⟨((a7.trans br).trans ar).kp, ?_⟩; obtain ⟨g14, c14, rfl⟩ := some_of cC (by omega); refine zqt 15 rfl (ynk rfl) (((a7.trans br).trans ar).kp) (zqt 16 rfl (yfa fl84_1 rfl) (((a7.trans br).trans ar).kp) ?_); have bR := ((a7.trans br).trans ar); refine qO 17 (nEffP (i := 17) rfl rfl (zst ti23 rfl rfl rfl (bR.blk d9) (by simp)) ?_); rintro w15 ⟨ev, bW⟩; refine ⟨bR.kp.trans bW, ?_⟩; refine zqt 18 rfl (ynk rfl) (bR.kp.trans bW) (zqt 19 rfl (yfa fl84_3 rfl) (bR.kp.trans bW) (qO 20 (nEffP (i := 20) rfl rfl (zst ti82 rfl rfl rfl ev (by simp)) ?_))); rintro w9 ⟨dg, aH⟩; refine ⟨(bR.kp.trans bW).trans aH, ?_⟩; have cB : Kp (fun k => k = qb) w3 w9 := (bR.kp.trans bW).trans aH; have nq := cB.blk bT (by omega); have gd := cB.blk (ai.blk dx) (by omega); refine qE (Run.qb (e := [(3, _), (6, _), (7, _)]) ?_); refine run_seq (run_draw (fun w' => Kp (fun k => k = b2) w9 w') (by kernel_rfl) rfl (zqt 0 rfl (ymv rfl) ((Ext.drew0 w9).kp) (qT 1 rfl (fun _ hS => yldA U84 rfl ti84 rfl (Blk.cells (n := 4) (hS.blk nq (by omega)) (news := [_, _, _, _]) rfl) rfl) ((Ext.drew0 w9).kp) (zqt 2 rfl (yas rfl) ((Ext.drew0 w9).kp) (qO 3 (nEffP (i := 3) rfl rfl (zstA (news := [.bool false, .slice (some ⟨ga, 0, none⟩) (ps.length - (m + 1)) ca, .slice none 0 0, .slice (some ⟨gb, 0, none⟩) (ps.length - (m + 1) + 1) cb]) ti84 rfl rfl rfl rfl ((Ext.drew0 w9).blk gd) (by simp)) ?_)))))); rintro w10 ⟨bG, fk⟩; refine ⟨((Ext.drew0 w9).kp).trans fk, ?_⟩; have aA : Kp (fun k => k = b2) w9 w10 := ((Ext.drew0 w9).kp).trans fk; refine qE (run_retR Tryz.func73 (.tmp rfl (.cell U84 rfl ti84 rfl (Blk.cells (n := 4) bG (news := [_, _, _, _]) rfl) rfl .nil)) ?_); have ge : Kp (fun k => k = qb) w14 w9 := bW.trans aH; have kj := a7.size; have mA := br.size; have pJ := ar.size; have DX := vW g8 rfl; have zS := nj.lt (g := g8) rfl; have nr := gf g14 rfl; have nu := cC.lt (g := g14) rfl; have il := ge.size; have nw := ((nj.ext ar).kp ge (fun g hg h => by have e : g8 = g := oinj hg; omega)).kp aA (fun g hg h => by have e : g8 = g := oinj hg; omega); have iV := (cC.kp ge (fun g hg h => by have e : g14 = g := oinj hg; omega)).kp aA (fun g hg h => by have e : g14 = g := oinj hg; omega)
    have jR := aA.blk dg (by omega); exact ⟨_, rfl, ao _ _ _ _ _ nw iV (by omega) (by omega) (by omega) jR ((cB.mono' (fun _ h => .inl h)).trans (aA.mono' (fun _ h => .inr h)))⟩
   ·refine nVal (i := 12) rfl rfl rfl (yld U82 rfl rfl (a7.blk d9) rfl) (a7.kp) (zqo 8 [.tmp 48, .const (Value.int .i64 0), .tmp 50] rfl cf99 rfl (copiedS_ret (l := ps.map (·.1)) (i := 0) (j := m) (by have := ki.ext a7; simpa [innNd] using this) (by omega) (by simp; omega) (by simpa using (by omega : ps.length ≤ 1000000)) _ _ rfl (by omega)) ?_); rintro v8 w8 ⟨nj, br, vW⟩; refine ⟨(a7.trans br).kp, ?_⟩; obtain ⟨g8, c8, rfl⟩ := some_of nj (by omega); refine zqo 14 [.tmp 55, .const (Value.int .i64 0), .tmp 56] rfl cf102 rfl (copiedU_ret (l := c :: ps.map (·.2)) (i := 0) (j := m + 1) (by have := pN.ext (a7.trans br); simpa [innNd] using this) (by omega) (by simp; omega) (by simpa using (by omega : ps.length + 1 ≤ 1000000)) _ _ rfl rfl) ?_; rintro v14 w14 ⟨cC, ar, gf⟩; refine ⟨((a7.trans br).trans ar).kp, ?_⟩; obtain ⟨g14, c14, rfl⟩ := some_of cC (by omega); refine zqt 15 rfl (ynk rfl) (((a7.trans br).trans ar).kp) (zqt 16 rfl (yfa fl84_1 rfl) (((a7.trans br).trans ar).kp) ?_); have bR := ((a7.trans br).trans ar); refine qO 17 (nEffP (i := 17) rfl rfl (zst ti23 rfl rfl rfl (bR.blk d9) (by simp)) ?_); rintro w15 ⟨ev, bW⟩; refine ⟨bR.kp.trans bW, ?_⟩; refine zqt 18 rfl (ynk rfl) (bR.kp.trans bW) (zqt 19 rfl (yfa fl84_3 rfl) (bR.kp.trans bW) (qO 20 (nEffP (i := 20) rfl rfl (zst ti82 rfl rfl rfl ev (by simp)) ?_))); rintro w9 ⟨dg, aH⟩; refine ⟨(bR.kp.trans bW).trans aH, ?_⟩; have cB : Kp (fun k => k = qb) w3 w9 := (bR.kp.trans bW).trans aH; have nq := cB.blk bT (by omega); have gd := cB.blk (ai.blk dx) (by omega); refine qE (Run.qb (e := [(3, _), (6, _), (7, _)]) ?_); refine run_seq (run_draw (fun w' => Kp (fun k => k = b2) w9 w') (by kernel_rfl) rfl (zqt 0 rfl (ymv rfl) ((Ext.drew0 w9).kp) (qT 1 rfl (fun _ hS => yldA U84 rfl ti84 rfl (Blk.cells (n := 4) (hS.blk nq (by omega)) (news := [_, _, _, _]) rfl) rfl) ((Ext.drew0 w9).kp) (zqt 2 rfl (yas rfl) ((Ext.drew0 w9).kp) (qO 3 (nEffP (i := 3) rfl rfl (zstA (news := [.bool false, .slice (some ⟨ga, 0, none⟩) (ps.length - (m + 1)) ca, .slice none 0 0, .slice (some ⟨gb, 0, none⟩) (ps.length - (m + 1) + 1) cb]) ti84 rfl rfl rfl rfl ((Ext.drew0 w9).blk gd) (by simp)) ?_)))))); rintro w10 ⟨bG, fk⟩; refine ⟨((Ext.drew0 w9).kp).trans fk, ?_⟩; have aA : Kp (fun k => k = b2) w9 w10 := ((Ext.drew0 w9).kp).trans fk; refine qE (run_retR Tryz.func73 (.tmp rfl (.cell U84 rfl ti84 rfl (Blk.cells (n := 4) bG (news := [_, _, _, _]) rfl) rfl .nil)) ?_); have ge : Kp (fun k => k = qb) w14 w9 := bW.trans aH; have kj := a7.size; have mA := br.size; have pJ := ar.size; have DX := vW g8 rfl; have zS := nj.lt (g := g8) rfl; have nr := gf g14 rfl; have nu := cC.lt (g := g14) rfl; have il := ge.size; have nw := ((nj.ext ar).kp ge (fun g hg h => by have e : g8 = g := oinj hg; omega)).kp aA (fun g hg h => by have e : g8 = g := oinj hg; omega); have iV := (cC.kp ge (fun g hg h => by have e : g14 = g := oinj hg; omega)).kp aA (fun g hg h => by have e : g14 = g := oinj hg; omega); have jR := aA.blk dg (by omega); exact ⟨_, rfl, ao _ _ _ _ _ nw iV (by omega) (by omega) (by omega) jR ((cB.mono' (fun _ h => .inl h)).trans (aA.mono' (fun _ h => .inr h)))⟩
  ·refine nVal (i := 12) rfl rfl rfl (yld U82 rfl rfl (a7.blk d9) rfl) (a7.kp) (qO 5 (nVal (i := 5) rfl rfl rfl (yld U23 rfl rfl (a7.blk d9) rfl) (a7.kp) (zqo 8 [.tmp 48, .const (Value.int .i64 0), .tmp 50] rfl cf99 rfl (copiedS_ret (l := ps.map (·.1)) (i := 0) (j := m) (by have := ki.ext a7; simpa [innNd] using this) (by omega) (by simp; omega) (by simpa using (by omega : ps.length ≤ 1000000)) _ _ rfl (by omega)) ?_))); rintro v8 w8 ⟨nj, br, vW⟩; refine ⟨(a7.trans br).kp, ?_⟩; obtain ⟨g8, c8, rfl⟩ := some_of nj (by omega); refine zqo 14 [.tmp 55, .const (Value.int .i64 0), .tmp 56] rfl cf102 rfl (copiedU_ret (l := c :: ps.map (·.2)) (i := 0) (j := m + 1) (by have := pN.ext (a7.trans br); simpa [innNd] using this) (by omega) (by simp; omega) (by simpa using (by omega : ps.length + 1 ≤ 1000000)) _ _ rfl rfl) ?_; rintro v14 w14 ⟨cC, ar, gf⟩; refine ⟨((a7.trans br).trans ar).kp, ?_⟩; obtain ⟨g14, c14, rfl⟩ := some_of cC (by omega); refine zqt 15 rfl (ynk rfl) (((a7.trans br).trans ar).kp) (zqt 16 rfl (yfa fl84_1 rfl) (((a7.trans br).trans ar).kp) ?_); have bR := ((a7.trans br).trans ar); refine qO 17 (nEffP (i := 17) rfl rfl (zst ti23 rfl rfl rfl (bR.blk d9) (by simp)) ?_); rintro w15 ⟨ev, bW⟩; refine ⟨bR.kp.trans bW, ?_⟩; refine zqt 18 rfl (ynk rfl) (bR.kp.trans bW) (zqt 19 rfl (yfa fl84_3 rfl) (bR.kp.trans bW) (qO 20 (nEffP (i := 20) rfl rfl (zst ti82 rfl rfl rfl ev (by simp)) ?_))); rintro w9 ⟨dg, aH⟩; refine ⟨(bR.kp.trans bW).trans aH, ?_⟩; have cB : Kp (fun k => k = qb) w3 w9 := (bR.kp.trans bW).trans aH; have nq := cB.blk bT (by omega); have gd := cB.blk (ai.blk dx) (by omega); refine qE (Run.qb (e := [(3, _), (6, _), (7, _)]) ?_); refine run_seq (run_draw (fun w' => Kp (fun k => k = b2) w9 w') (by kernel_rfl) rfl (zqt 0 rfl (ymv rfl) ((Ext.drew0 w9).kp) (qT 1 rfl (fun _ hS => yldA U84 rfl ti84 rfl (Blk.cells (n := 4) (hS.blk nq (by omega)) (news := [_, _, _, _]) rfl) rfl) ((Ext.drew0 w9).kp) (zqt 2 rfl (yas rfl) ((Ext.drew0 w9).kp) (qO 3 (nEffP (i := 3) rfl rfl (zstA (news := [.bool false, .slice (some ⟨ga, 0, none⟩) (ps.length - (m + 1)) ca, .slice none 0 0, .slice (some ⟨gb, 0, none⟩) (ps.length - (m + 1) + 1) cb]) ti84 rfl rfl rfl rfl ((Ext.drew0 w9).blk gd) (by simp)) ?_)))))); rintro w10 ⟨bG, fk⟩; refine ⟨((Ext.drew0 w9).kp).trans fk, ?_⟩; have aA : Kp (fun k => k = b2) w9 w10 := ((Ext.drew0 w9).kp).trans fk; refine qE (run_retR Tryz.func73 (.tmp rfl (.cell U84 rfl ti84 rfl (Blk.cells (n := 4) bG (news := [_, _, _, _]) rfl) rfl .nil)) ?_); have ge : Kp (fun k => k = qb) w14 w9 := bW.trans aH; have kj := a7.size; have mA := br.size; have pJ := ar.size; have DX := vW g8 rfl; have zS := nj.lt (g := g8) rfl; have nr := gf g14 rfl; have nu := cC.lt (g := g14) rfl; have il := ge.size; have nw := ((nj.ext ar).kp ge (fun g hg h => by have e : g8 = g := oinj hg; omega)).kp aA (fun g hg h => by have e : g8 = g := oinj hg; omega); have iV := (cC.kp ge (fun g hg h => by have e : g14 = g := oinj hg; omega)).kp aA (fun g hg h => by have e : g14 = g := oinj hg; omega)
   have jR := aA.blk dg (by omega); exact ⟨_, rfl, ao _ _ _ _ _ nw iV (by omega) (by omega) (by omega) jR ((cB.mono' (fun _ h => .inl h)).trans (aA.mono' (fun _ h => .inr h)))⟩
 case dG =>
  refine run_draw (fun w' => Ext w2 w') (by kernel_rfl) rfl (zqt 0 rfl (ymv rfl) (Ext.drew0 w2) (zqt 1 rfl (ynk rfl) (Ext.drew0 w2) (zqt 2 rfl (yfa fl84_1 rfl) (Ext.drew0 w2) (qT 3 rfl (fun _ h=>yld U23 rfl rfl (h.blk (bo.blk iE)) rfl) (Ext.drew0 w2) (zqt 4 rfl (ymv rfl) (Ext.drew0 w2) (zqt 5 rfl (ymv rfl) (Ext.drew0 w2) (zqt 6 rfl (ysb rfl rfl (by omega)) (Ext.drew0 w2) (zqt 8 rfl (ymv rfl) (Ext.drew0 w2) (zqt 9 rfl (ynk rfl) (Ext.drew0 w2) (zqt 10 rfl (yfa fl84_3 rfl) (Ext.drew0 w2) (qT 11 rfl (fun _ h=>yld U82 rfl rfl (h.blk (bo.blk iE)) rfl) (Ext.drew0 w2) (zqt 12 rfl (ymv rfl) (Ext.drew0 w2) (zqt 13 rfl (ymv rfl) (Ext.drew0 w2) ?_))))))))))))); have a7 := Ext.drew0 w2; refine hTwo (i := 7) (j := 16) (by kernel_rfl) ?_ ?_
  ·refine nCall (i := 7) rfl rfl rfl (yc (args := [.tmp 22, .tmp 23, .tmp 25]) cf99 rfl) (copiedS_ret (l := ps.map (·.1)) (i := m + 1) (j := ps.length) (by have := r8.ext a7; simpa [innNd] using this) (by omega) (by simp) (by simpa using (by omega : ps.length ≤ 1000000)) _ _ rfl (by omega)) ?_; rintro v7 w7 ⟨gH, aR, pe⟩; refine ⟨a7.trans aR, ?_⟩; obtain ⟨g7, c7, rfl⟩ := some_of gH (by omega); refine hTwo (i := 14) (j := 16) (by kernel_rfl) ?_ ?_
   ·refine nCall (i := 14) rfl rfl rfl (yc (args := [.tmp 30, .tmp 31, .tmp 32]) cf102 rfl) (copiedU_ret (l := c :: ps.map (·.2)) (i := m + 1) (j := ps.length + 1) (by have := AY.ext (a7.trans aR); simpa [innNd] using this) (by omega) (by simp) (by simpa using (by omega : ps.length + 1 ≤ 1000000)) _ _ rfl rfl) ?_; rintro v14 w14 ⟨cC, ar, gf⟩; refine ⟨(a7.trans aR).trans ar, ?_⟩; obtain ⟨g14, c14, rfl⟩ := some_of cC (by omega); refine zqt 15 rfl (ybd (parts := [(1, .tmp 26), (3, .tmp 33)]) (cs := [_, _, _, _]) ti84 rfl sp84 rfl rfl) ((a7.trans aR).trans ar) (qO 16 (nValP (i := 16) rfl rfl rfl (pal (cs := [_, _, _, _]) ti84 rfl) ?_)); rintro _ w16 ⟨b6, rfl, kw, ag, cS⟩; refine ⟨((a7.trans aR).trans ar).trans ag, ?_⟩; have bR := (((a7.trans aR).trans ar).trans ag); have kj := aR.size; have vX := ar.size; have pO := ag.size; have ni := a7.size; have vY := ((gH.ext ar).ext ag); have nA := (cC.ext ag); have iW := cS; have mB := gH.lt (g := g7) rfl; have vR := pe g7 rfl; have nu := cC.lt (g := g14) rfl; have nr := gf g14 rfl; have vZ := cS.lt; have sR := iW.lt; have bX : w2.heap.size ≤ b6 := by omega
    refine qO 17 (nEffP (i := 17) rfl rfl (zstA (news := [.bool false, .slice (some ⟨g7, 0, none⟩) (ps.length - (m + 1)) c7, .slice none 0 0, .slice (some ⟨g14, 0, none⟩) (ps.length + 1 - (m + 1)) c14]) ti84 rfl rfl rfl rfl iW (by simp)) ?_); rintro w8 ⟨da, aU⟩; refine ⟨bR.trans_new aU (fun i hi => by rw [hi]; exact bX), ?_⟩; refine qE (Run.qb (e := [(0, _), (2, _), (3, _), (4, _), (6, _)]) ?_); have br := bR.trans_new aU (fun i hi => by rw [hi]; exact bX); refine (hk _ _ ⟨b6, _, _, rfl, br, da, ?_, ?_, ?_, ?_, bX⟩).qb
    ·have := vY.kp aU (fun g hg h => by have e : g7 = g := oinj hg; omega)
     simpa [List.map_drop, List.take_of_length_le] using this
    ·have := nA.kp aU (fun g hg h => by have e : g14 = g := oinj hg; omega); rw [kids_drop AW] at this; rw [show ps.length - (m + 1) + 1 = ps.length + 1 - (m + 1) by omega]; exact this
    ·intro k hk; have e : g7 = k := oinj hk; exact ⟨by omega, fun h => by have e2 : g14 = k := oinj h; omega⟩
    ·intro k hk; have e : g14 = k := oinj hk; omega
   ·refine nValP (i := 16) rfl rfl rfl (pal (cs := [_, _, _, _]) ti84 rfl) ?_; rintro _ w16 ⟨b6, rfl, kw, ag, cS⟩; refine ⟨(a7.trans aR).trans ag, ?_⟩; refine zqo 14 [.tmp 30, .tmp 31, .tmp 32] rfl cf102 rfl (copiedU_ret (l := c :: ps.map (·.2)) (i := m + 1) (j := ps.length + 1) (by have := AY.ext ((a7.trans aR).trans ag); simpa [innNd] using this) (by omega) (by simp) (by simpa using (by omega : ps.length + 1 ≤ 1000000)) _ _ rfl rfl) ?_; rintro v14 w14 ⟨cC, ar, gf⟩; refine ⟨((a7.trans aR).trans ag).trans ar, ?_⟩; obtain ⟨g14, c14, rfl⟩ := some_of cC (by omega); refine zqt 15 rfl (ybd (parts := [(1, .tmp 26), (3, .tmp 33)]) (cs := [_, _, _, _]) ti84 rfl sp84 rfl rfl) (((a7.trans aR).trans ag).trans ar) ?_; have bR := (((a7.trans aR).trans ag).trans ar); have kj := aR.size; have pO := ag.size; have vX := ar.size; have ni := a7.size; have vY := ((gH.ext ag).ext ar); have nA := cC; have iW := (ar.blk cS); have mB := gH.lt (g := g7) rfl; have vR := pe g7 rfl; have nu := cC.lt (g := g14) rfl; have nr := gf g14 rfl; have vZ := cS.lt; have sR := iW.lt; have bX : w2.heap.size ≤ b6 := by omega
    refine qO 17 (nEffP (i := 17) rfl rfl (zstA (news := [.bool false, .slice (some ⟨g7, 0, none⟩) (ps.length - (m + 1)) c7, .slice none 0 0, .slice (some ⟨g14, 0, none⟩) (ps.length + 1 - (m + 1)) c14]) ti84 rfl rfl rfl rfl iW (by simp)) ?_); rintro w8 ⟨da, aU⟩; refine ⟨bR.trans_new aU (fun i hi => by rw [hi]; exact bX), ?_⟩; refine qE (Run.qb (e := [(0, _), (2, _), (3, _), (4, _), (6, _)]) ?_); have br := bR.trans_new aU (fun i hi => by rw [hi]; exact bX); refine (hk _ _ ⟨b6, _, _, rfl, br, da, ?_, ?_, ?_, ?_, bX⟩).qb
    ·have := vY.kp aU (fun g hg h => by have e : g7 = g := oinj hg; omega)
     simpa [List.map_drop, List.take_of_length_le] using this
    ·have := nA.kp aU (fun g hg h => by have e : g14 = g := oinj hg; omega); rw [kids_drop AW] at this; rw [show ps.length - (m + 1) + 1 = ps.length + 1 - (m + 1) by omega]; exact this
    ·intro k hk; have e : g7 = k := oinj hk; exact ⟨by omega, fun h => by have e2 : g14 = k := oinj h; omega⟩
    ·intro k hk; have e : g14 = k := oinj hk; omega
  ·refine nValP (i := 16) rfl rfl rfl (pal (cs := [_, _, _, _]) ti84 rfl) ?_; rintro _ w16 ⟨b6, rfl, kw, ag, cS⟩; refine ⟨a7.trans ag, ?_⟩; refine zqo 7 [.tmp 22, .tmp 23, .tmp 25] rfl cf99 rfl (copiedS_ret (l := ps.map (·.1)) (i := m + 1) (j := ps.length) (by have := r8.ext (a7.trans ag); simpa [innNd] using this) (by omega) (by simp) (by simpa using (by omega : ps.length ≤ 1000000)) _ _ rfl (by omega)) ?_; rintro v7 w7 ⟨gH, aR, pe⟩; refine ⟨(a7.trans ag).trans aR, ?_⟩; obtain ⟨g7, c7, rfl⟩ := some_of gH (by omega); refine zqo 14 [.tmp 30, .tmp 31, .tmp 32] rfl cf102 rfl (copiedU_ret (l := c :: ps.map (·.2)) (i := m + 1) (j := ps.length + 1) (by have := AY.ext ((a7.trans ag).trans aR); simpa [innNd] using this) (by omega) (by simp) (by simpa using (by omega : ps.length + 1 ≤ 1000000)) _ _ rfl rfl) ?_; rintro v14 w14 ⟨cC, ar, gf⟩; refine ⟨((a7.trans ag).trans aR).trans ar, ?_⟩; obtain ⟨g14, c14, rfl⟩ := some_of cC (by omega); refine zqt 15 rfl (ybd (parts := [(1, .tmp 26), (3, .tmp 33)]) (cs := [_, _, _, _]) ti84 rfl sp84 rfl rfl) (((a7.trans ag).trans aR).trans ar) ?_; have bR := (((a7.trans ag).trans aR).trans ar); have pO := ag.size; have kj := aR.size; have vX := ar.size; have ni := a7.size; have vY := (gH.ext ar); have nA := cC; have iW := (ar.blk (aR.blk cS)); have mB := gH.lt (g := g7) rfl; have vR := pe g7 rfl; have nu := cC.lt (g := g14) rfl; have nr := gf g14 rfl; have vZ := cS.lt; have sR := iW.lt; have bX : w2.heap.size ≤ b6 := by omega
   refine qO 17 (nEffP (i := 17) rfl rfl (zstA (news := [.bool false, .slice (some ⟨g7, 0, none⟩) (ps.length - (m + 1)) c7, .slice none 0 0, .slice (some ⟨g14, 0, none⟩) (ps.length + 1 - (m + 1)) c14]) ti84 rfl rfl rfl rfl iW (by simp)) ?_); rintro w8 ⟨da, aU⟩; refine ⟨bR.trans_new aU (fun i hi => by rw [hi]; exact bX), ?_⟩; refine qE (Run.qb (e := [(0, _), (2, _), (3, _), (4, _), (6, _)]) ?_); have br := bR.trans_new aU (fun i hi => by rw [hi]; exact bX); refine (hk _ _ ⟨b6, _, _, rfl, br, da, ?_, ?_, ?_, ?_, bX⟩).qb
   ·have := vY.kp aU (fun g hg h => by have e : g7 = g := oinj hg; omega)
    simpa [List.map_drop, List.take_of_length_le] using this
   ·have := nA.kp aU (fun g hg h => by have e : g14 = g := oinj hg; omega); rw [kids_drop AW] at this; rw [show ps.length - (m + 1) + 1 = ps.length + 1 - (m + 1) by omega]; exact this
   ·intro k hk; have e : g7 = k := oinj hk; exact ⟨by omega, fun h => by have e2 : g14 = k := oinj h; omega⟩
   ·intro k hk; have e : g14 = k := oinj hk; omega
end
section
variable {w : World}
structure NdP (w : World) (n : Nd) (kv vv cv : Value) : Prop where
 keys : Sl w kv 9 1 n.keys.length (n.keys.map S)
 vals : Sl w vv 9 1 n.vals.length (n.vals.map S)
 kids : Sl w cv 89 1 n.kids.length (n.kids.map u32v)
 bd : n.Bd
 d2 : ∀ k, kv.ownBlock = some k → vv.ownBlock ≠ some k ∧ cv.ownBlock ≠ some k
 d3 : ∀ k, vv.ownBlock = some k → cv.ownBlock ≠ some k
def ownP (kv vv cv : Value) (k : Nat) : Prop := kv.ownBlock = some k ∨ vv.ownBlock = some k ∨ cv.ownBlock = some k
theorem NdP.lt {n : Nd} {kv vv cv : Value} (h : NdP w n kv vv cv) {k : Nat} (hk : ownP kv vv cv k) : k < w.heap.size := by
 rcases hk with hk | hk | hk
 ·exact h.keys.lt hk
 ·exact h.vals.lt hk
 ·exact h.kids.lt hk
theorem NdP.kp {S : Nat → Prop} {w' : World} {n : Nd} {kv vv cv : Value} (h : NdP w n kv vv cv) (k : Kp S w w') (hs : ∀ i, ownP kv vv cv i → ¬ S i) : NdP w' n kv vv cv :=
 ⟨h.keys.kp k (fun g hg => hs g (.inl hg)), h.vals.kp k (fun g hg => hs g (.inr (.inl hg))), h.kids.kp k (fun g hg => hs g (.inr (.inr hg))), h.bd, h.d2, h.d3⟩
theorem NdP.at {n : Nd} {kv vv cv : Value} (h : NdP w n kv vv cv) {b : Nat} (hB : Blk w b [.bool n.leaf, kv, vv, cv] 84) (hb : ¬ ownP kv vv cv b) : NdM w n ⟨b, kv, vv, cv⟩ :=
 ⟨hB, h.keys, h.vals, h.kids, h.bd, ⟨fun e => hb (.inl e), fun e => hb (.inr (.inl e)), fun e => hb (.inr (.inr e))⟩, h.d2, h.d3⟩
theorem rd_intT {w : World} {b off n cap : Nat} {l : List Int} {i : Nat} {z : Int} (h : Rd w (.slice (some ⟨b, off, none⟩) n cap) 1 n (l.map I)) (hi : i < n) (hz : l[i]? = some z) : w.cell? ⟨b, off + i * 1, none⟩ = some (I z) := by
 rcases h.2 with ⟨c, -, h0⟩ | ⟨b', off', cap', hv, hc⟩
 ·omega
 ·cases hv; rw [Nat.mul_one]; exact hc i _ (by rw [List.getElem?_map, hz]; rfl)
theorem oneV_sl {v : Value} {T s n} {us : List Value} (h : Sl w v T s n us) : oneV v = true := by
 rcases h.shape with ⟨rfl, -⟩ | ⟨g, c, rfl, -⟩ <;> rfl
set_option maxHeartbeats 1000000 in
theorem fresh_ret {p : Nat} {T : Tr} {nb : Int → Nat} {F : Nat → Prop} (h : TreeA w p T nb F) {no : Int} {gs : List Int} (hg : T.given = no :: gs) (d8 : gs.length ≤ 4294967296) {n : Nd} {kv vv cv : Value} (hP : NdP w n kv vv cv) (hF : ∀ k, ownP kv vv cv k → ¬ F k) (nB : T.nodes no = none) :
  Ret Tryz.prog 67 [ptr p 0, .agg #[.bool n.leaf, kv, vv, cv]] w fun v w' => v = I no ∧ ∃ b F', TreeA w' p ((({ T with given := gs } : Tr).setN no n).mark no) (updI nb no b) F' ∧ Kp F w w' ∧ ∀ k, F' k → F k ∨ w.heap.size ≤ k ∨ ownP kv vv cv k := by
 refine ret_of_run (e := [(0, _), (1, _)]) Tryz.func67 rfl Tryz.ntmps67 rfl rfl (qN rfl (rValP rfl rfl (pbx rfl rfl) ?_))
 rintro _ w1 ⟨b, rfl, hb, aa, aj⟩
 have h1 := h.ext aa
 obtain ⟨mN, mC, mO, gv, kn, kc, ko, O⟩ := h1.opn
 have AZ := O.gs
 have lK : T.given.length = gs.length + 1 := by rw [hg]; rfl
 rcases AZ.shape with ⟨-, h0⟩ | ⟨g, cap, rfl, iL⟩
 ·rw [hg] at h0; simp at h0
 refine zqa rfl (qM rfl (zqm rfl (qV (ynk rfl) (qV (yfa fl74_6 rfl) (qV (yld U34 rfl rfl O.blk rfl) (qV (yis U34 ti3 rfl rfl (by omega)) (qV (yldc U3 rfl rfl (rd_intT (z := no) AZ.rd (by omega) (by rw [hg]; rfl))) ?_)))))))
 refine zqa rfl (qM rfl (zqm rfl (zqm rfl (qV (ynk rfl) (qV (yfa fl74_6 rfl) (qV (yld U34 rfl rfl O.blk rfl) (zqc [.tmp 16, .const (Value.int .i64 0), .const (Value.int .i64 1)] cf94 rfl (delI_ret (i := 0) AZ (fun c hc => by obtain ⟨z, -, rfl⟩ := List.mem_map.1 hc; rfl) (by omega) (by omega)) ?_)))))))
 rintro gv' w2 ⟨aV, am, fA⟩
 have aT := O.ne
 refine qV (ynk rfl) (qV (yfa fl74_6 rfl) (rEffP rfl (zst ti34 rfl rfl (oneV_sl aV) (am.blk O.blk aT.2.2.2) (by simp [trCs])) ?_))
 rintro w3 ⟨aN, ak⟩
 refine rEnd (run_seq ?_)
 have aJ : Sl w3 gv' 3 1 gs.length (gs.map I) := by
  have := aV.kp ak (fun k hk e => aT.2.2.2 (by rw [← e]; exact fA k hk)); rw [hg] at this
  simpa using this
 obtain ⟨F1, h3, hY⟩ := O.setG w3 gv' gs aN aJ ((am.mono' (fun _ h => .inr h)).trans (ak.mono' (fun _ h => .inl h))) (fun k hk => .inl (fA k hk))
 have kx : Kp F w1 w3 := (am.mono' (fun k hk => O.fp.2.2.2.2 k hk)).trans (ak.mono' (fun k hk => by rw [hk]; exact O.fp.1))
 obtain ⟨mN1, mC1, mO1, gv1, kn1, kc1, ko1, O1⟩ := h3.opn
 have cT := O1.ne
 have uV : mN1 ≠ mC1 := O1.ap.1
 refine run_draw (fun w' => Kp (fun k => k = mN1 ∨ k = mC1) w3 w') (by kernel_rfl) rfl (zqt 0 rfl (ymv rfl) ((Ext.drew0 w3).kp) (zqt 1 rfl (ynk rfl) ((Ext.drew0 w3).kp) (zqt 2 rfl (yfa fl74_5 rfl) ((Ext.drew0 w3).kp) (qT 3 rfl (fun _ hS => yld U71 rfl rfl (hS.blk O1.blk (fun h => h.elim (fun e => cT.1 e.symm) (fun e => cT.2.1 e.symm))) rfl) ((Ext.drew0 w3).kp) (zqt 4 rfl (ymv rfl) ((Ext.drew0 w3).kp) (zqt 5 rfl (ymv rfl) ((Ext.drew0 w3).kp) (zqt 6 rfl (ynk rfl) ((Ext.drew0 w3).kp) (zqt 7 rfl (yfa fl74_7 rfl) ((Ext.drew0 w3).kp) (qT 8 rfl (fun _ hS => yld U72 rfl rfl (hS.blk O1.blk (fun h => h.elim (fun e => cT.1 e.symm) (fun e => cT.2.1 e.symm))) rfl) ((Ext.drew0 w3).kp) (zqt 9 rfl (ymv rfl) ((Ext.drew0 w3).kp) ?_))))))))))
 have a7 := Ext.drew0 w3
 refine qO 10 (nValP (i := 10) rfl rfl rfl (pme (k := no) (K := KZ) U71 (ky_int U3) ti81 rfl rfl (O1.nm.kp a7 id)) ?_)
 rintro _ w4 ⟨be, rfl, wd, ax⟩
 refine ⟨(a7.kp).trans (ax.mono' (fun _ h => .inl h)), ?_⟩
 refine zqt 11 rfl (yex rfl rfl) ((a7.kp).trans (ax.mono' (fun _ h => .inl h))) (qO 12 (nEffP (i := 12) rfl rfl (zes rfl rfl rfl wd) ?_))
 rintro w5 ⟨eU, aY⟩
 refine ⟨((a7.kp).trans (ax.mono' (fun _ h => .inl h))).trans (aY.mono' (fun _ h => .inl h)), ?_⟩
 have dz : Kp (fun k => k = mN1) w3 w5 := ((a7.kp).trans ax).trans aY
 have eV := aa.size
 have jS := kx.size
 have lg := dz.size
 have B0 : ¬ ownP kv vv cv b := fun hk => by have := hP.lt hk; omega
 have eW : ∀ k, F k → k < w.heap.size := h.lt
 have we : ∀ k, Pl.fp ⟨b, kv, vv, cv⟩ k → ¬ F1 k := by
  intro k hk aC
  have hq : k < w1.heap.size ∧ ¬ F k := by
   rcases hk with hk | hk
   ·dsimp only at hk; exact ⟨by have := aj.lt; omega, fun e => by have := eW k e; omega⟩
   ·exact ⟨by have := hP.lt hk; omega, hF k hk⟩
  rcases hY k aC with e | e
  ·exact hq.2 e
  ·omega
 have wg : ∀ k, k = mN1 → F1 k := fun k e => by rw [e]; exact O1.fp.2.1
 have uU : NdM w1 n ⟨b, kv, vv, cv⟩ := NdP.at (hP.kp aa (fun _ _ => id)) aj B0
 have rg : NdM w3 n ⟨b, kv, vv, cv⟩ := uU.kp kx (fun k hk pP => by
  rcases hk with hk | hk
  ·dsimp only at hk; have := eW k pP; omega
  ·exact hF k hk pP)
 have uW : NdM w5 n ⟨b, kv, vv, cv⟩ := rg.kp dz (fun k hk e => we k hk (wg k e))
 obtain ⟨F2, h5, ce⟩ := O1.newN w5 _ no n ⟨b, kv, vv, cv⟩ uW eU dz (fun x => by
  rw [getL_put, getL_put]
  by_cases e : x = no <;> simp [e]) nB we
 obtain ⟨mN2, mC2, mO2, gv2, kn2, kc2, ko2, O2⟩ := h5.opn
 have bu := dz.blk O1.blk (fun e => cT.1 e.symm)
 obtain ⟨e1, e2⟩ : mC2 = mC1 ∧ mN2 = mN1 := by
  have := Blk.inj O2.blk bu; simp [trCs] at this; exact ⟨by omega, by omega⟩
 subst e1
 subst e2
 refine qO 13 (nValP (i := 13) rfl rfl rfl (pme (k := no) (K := KZ) U72 (ky_int U3) ti3 rfl rfl O2.cm) ?_)
 rintro _ w6 ⟨be2, rfl, FD, bP⟩
 refine ⟨(dz.mono' (fun _ h => .inl h)).trans (bP.mono' (fun _ h => .inr h)), ?_⟩
 refine zqt 14 rfl (yex rfl rfl) ((dz.mono' (fun _ h => .inl h)).trans (bP.mono' (fun _ h => .inr h))) (qO 15 (nEffP (i := 15) rfl rfl (zes rfl rfl rfl FD) ?_))
 rintro w7 ⟨eK, aW⟩
 refine ⟨((dz.mono' (fun _ h => .inl h)).trans (bP.mono' (fun _ h => .inr h))).trans (aW.mono' (fun _ h => .inr h)), ?_⟩
 refine qE (Run.qb (e := [(4, _), (5, _)]) ?_)
 refine qN rfl (zqm rfl (zqa rfl (rEnd ?_)))
 have gg : Kp (fun k => k = mC2) w5 w7 := bP.trans aW
 have h7 := O2.setC w7 _ (updI T.changed no true) eK gg (fun x => by
  rw [getL_put, getL_put]; by_cases e : x = no
  ·subst e; simp [flag, updI]
  ·rw [if_neg e, if_neg e, O2.cg]; simp [updI, e, Tr.setN])
 refine run_ret Tryz.func67 rfl (⟨_, rfl, rfl, b, F2, h7, ?_, fun k hk => ?_⟩)
 ·have cH : ∀ k, F1 k → w.heap.size ≤ k ∨ F k := fun k hk => (hY k hk).elim .inr (fun e => .inl (by omega)); have a := (aa.kp (S := F)).trans kx; have b' := a.trans_new dz (fun i hi => cH i (wg i hi)); exact b'.trans_new gg (fun i hi => by rw [hi]; exact cH _ O1.fp.2.2.1)
 ·rcases ce k hk with e | e
  ·rcases hY k e with e | e
   ·exact .inl e
   ·exact .inr (.inl (by omega))
  ·rcases e with e | e
   ·dsimp only at e; exact .inr (.inl (by omega))
   ·exact .inr (.inr e)
end
end Go.Proofs.YtocnhaoilnojmaaGreat
namespace Go.Proofs.YtocnhaoilnojmaaGreat
open Go Go.Proofs Go.Shelf
set_option linter.all false
def sortA_ren : Go.Shelf.Ren := ⟨fun | 5 => 62 | 8 => 93 | 7 => 92 | 19 => 127 | 20 => 128 | 10 => 118 | 11 => 119 | 12 => 120 | 13 => 121 | 14 => 122 | 15 => 123 | 16 => 124 | 17 => 125 | 18 => 126 | 30 => 149 | 31 => 150 | 32 => 151 | 33 => 152 | 34 => 153 | 35 => 154 | 40 => 167 | n => n, fun | 23 => 34 | 25 => 3 | 3 => 3 | 32 => 118 | 22 => 34 | 0 => 0 | 44 => 89 | 46 => 175 | 4 => 4 | 36 => 167 | 35 => 166 | 41 => 85 | 5 => 5 | 9 => 9 | 53 => 188 | 57 => 192 | 63 => 205 | 64 => 206 | n => n, fun | n => n⟩
theorem sortA : Go.Proofs.SlLaysM.n5 Tryz.prog sortA_ren := {
  mixed := by kernel_rfl
  f5 := ⟨Tryz.f62.name, by decide, Tryz.func62.trans (congrArg some (by kernel_rfl))⟩
  f7 := ⟨Tryz.f92.name, by decide, Tryz.func92.trans (congrArg some (by kernel_rfl))⟩
  f8 := Tryz.func93.trans (congrArg some (by kernel_rfl))
  f10 := ⟨Tryz.f118.name, by decide, Tryz.func118.trans (congrArg some (by kernel_rfl))⟩
  f11 := ⟨Tryz.f119.name, by decide, Tryz.func119.trans (congrArg some (by kernel_rfl))⟩
  f12 := ⟨Tryz.f120.name, by decide, Tryz.func120.trans (congrArg some (by kernel_rfl))⟩
  f13 := ⟨Tryz.f121.name, by decide, Tryz.func121.trans (congrArg some (by kernel_rfl))⟩
  f14 := ⟨Tryz.f122.name, by decide, Tryz.func122.trans (congrArg some (by kernel_rfl))⟩
  f15 := ⟨Tryz.f123.name, by decide, Tryz.func123.trans (congrArg some (by kernel_rfl))⟩
  f16 := ⟨Tryz.f124.name, by decide, Tryz.func124.trans (congrArg some (by kernel_rfl))⟩
  f17 := ⟨Tryz.f125.name, by decide, Tryz.func125.trans (congrArg some (by kernel_rfl))⟩
  f18 := ⟨Tryz.f126.name, by decide, Tryz.func126.trans (congrArg some (by kernel_rfl))⟩
  f19 := Tryz.func127.trans (congrArg some (by kernel_rfl))
  f20 := Tryz.func128.trans (congrArg some (by kernel_rfl))
  f30 := ⟨Tryz.f149.name, by decide, Tryz.func149.trans (congrArg some (by kernel_rfl))⟩
  f31 := Tryz.func150.trans (congrArg some (by kernel_rfl))
  f32 := Tryz.func151.trans (congrArg some (by kernel_rfl))
  f33 := ⟨Tryz.f152.name, by decide, Tryz.func152.trans (congrArg some (by kernel_rfl))⟩
  f34 := ⟨Tryz.f153.name, by decide, Tryz.func153.trans (congrArg some (by kernel_rfl))⟩
  f35 := ⟨Tryz.f154.name, by decide, Tryz.func154.trans (congrArg some (by kernel_rfl))⟩
  f40 := ⟨Tryz.f167.name, by decide, Tryz.func167.trans (congrArg some (by kernel_rfl))⟩
  t0 := Tryz.underlying0
  a0 := Tryz.isAgg0
  z0 := Tryz.sizeOf0
  v0 := Tryz.zeroValue0
  t3 := Tryz.underlying3
  a3 := Tryz.isAgg3
  z3 := Tryz.sizeOf3
  v3 := Tryz.zeroValue3
  t4 := Tryz.underlying4
  a4 := Tryz.isAgg4
  z4 := Tryz.sizeOf4
  v4 := Tryz.zeroValue4
  t5 := Tryz.underlying5
  a5 := Tryz.isAgg5
  z5 := Tryz.sizeOf5
  v5 := Tryz.zeroValue5
  t9 := Tryz.underlying9
  a9 := Tryz.isAgg9
  z9 := Tryz.sizeOf9
  v9 := Tryz.zeroValue9
  t22 := Tryz.underlying34
  a22 := Tryz.isAgg34
  z22 := Tryz.sizeOf34
  v22 := Tryz.zeroValue34
  t23 := Tryz.underlying34
  a23 := Tryz.isAgg34
  z23 := Tryz.sizeOf34
  v23 := Tryz.zeroValue34
  t25 := Tryz.underlying3
  a25 := Tryz.isAgg3
  z25 := Tryz.sizeOf3
  v25 := Tryz.zeroValue3
  t32 := Tryz.underlying118
  a32 := Tryz.isAgg118
  z32 := Tryz.sizeOf118
  v32 := Tryz.zeroValue118
  t35 := Tryz.underlying166
  a35 := Tryz.isAgg166
  z35 := Tryz.sizeOf166
  v35 := Tryz.zeroValue166
  t36 := Tryz.underlying167
  a36 := Tryz.isAgg167
  z36 := Tryz.sizeOf167
  v36 := Tryz.zeroValue167
  t41 := Tryz.underlying85
  a41 := Tryz.isAgg85
  z41 := Tryz.sizeOf85
  v41 := Tryz.zeroValue85
  t44 := Tryz.underlying89
  a44 := Tryz.isAgg89
  z44 := Tryz.sizeOf89
  v44 := Tryz.zeroValue89
  t46 := Tryz.underlying175
  a46 := Tryz.isAgg175
  z46 := Tryz.sizeOf175
  v46 := Tryz.zeroValue175
  t53 := Tryz.underlying188
  a53 := Tryz.isAgg188
  z53 := Tryz.sizeOf188
  v53 := Tryz.zeroValue188
  t57 := Tryz.underlying192
  a57 := Tryz.isAgg192
  z57 := Tryz.sizeOf192
  v57 := Tryz.zeroValue192
  t63 := Tryz.underlying205
  a63 := Tryz.isAgg205
  z63 := Tryz.sizeOf205
  v63 := Tryz.zeroValue205
  t64 := Tryz.underlying206
  a64 := Tryz.isAgg206
  z64 := Tryz.sizeOf206
  v64 := Tryz.zeroValue206 }
end Go.Proofs.YtocnhaoilnojmaaGreat
namespace Go.Proofs.YtocnhaoilnojmaaGreat
open Go Go.RowKit Go.Shelf
set_option linter.all false
set_option maxRecDepth 100000
section
variable {w : World}
theorem sortI_ret {sv : Value} {l : List Int} (hS : Sl w sv 3 1 l.length (l.map I)) (h0 : 0 < l.length) (hl : l.length ≤ 8589934592) :
  Ret Tryz.prog 62 [sv] w fun v w' => v = .tuple #[] ∧ Sl w' sv 3 1 l.length ((l.mergeSort fun x y => decide (x ≤ y)).map I) ∧ Kp (fun k => sv.ownBlock = some k) w w' := by
 rcases hS.2 with ⟨-, h1⟩ | ⟨g, cap, cur, rfl, hb, hh, hn, hc, hz, ht⟩
 ·omega
 have hH : Go.Sort.Holds (Value.int .i64) w g 0 l.toArray := holds_of_blockI hh (by rw [Nat.mul_one] at ht; exact ht)
 have := AnyM.slices_Sort_int sortA g 0 cap l w hH (hS.lt (g := g) rfl) (by omega)
 refine Calls.mono this fun _ _ ⟨he, n, os, hw⟩ => ⟨_, he, rfl, ?_, ?_⟩
 ·rw [hw]; exact ownsRow_sortedI (List.length_mergeSort _) hb hh hn hc hz
 ·rw [hw]; exact (Kp.of_grown (grownBy_sortedI _)).mono' fun k hk => hk
end
end Go.Proofs.YtocnhaoilnojmaaGreat
namespace Go.Proofs.YtocnhaoilnojmaaGreat
open Go Go.RowKit
set_option linter.all false
set_option maxRecDepth 100000
section
variable {w : World}
def sortZ (l : List Int) : List Int := l.mergeSort fun x y => decide (x ≤ y)
def Tr.dropN (T : Tr) (no : Int) : Tr := { T with nodes := updI T.nodes no none, changed := updI T.changed no false, given := if T.old no then T.given else sortZ (T.given ++ [no]) }
set_option maxHeartbeats 1000000 in
theorem drop_ret {p : Nat} {T : Tr} {nb : Int → Nat} {F : Nat → Prop} (h : TreeA w p T nb F) (no : Int) (d8 : T.given.length ≤ 4294967296) :
  Ret Tryz.prog 79 [ptr p 0, I no] w fun v w' => v = .tuple #[] ∧ ∃ F', TreeA w' p (T.dropN no) nb F' ∧ Kp F w w' ∧ (∀ k, F' k → F k ∨ w.heap.size ≤ k) ∧ ∀ x n q, T.nodes x = some n → NdM w n q → q.b = nb x → NdM w' n q := by
 have eP : maxLen = 9223372036854775807 := rfl
 obtain ⟨mN, mC, mO, gv, kn, kc, ko, O⟩ := h.opn
 refine ret_of_run (e := [(0, _), (1, _)]) Tryz.func79 rfl Tryz.ntmps79 rfl rfl (qN rfl (zqm rfl (qV (ynk rfl) (qV (yfa fl74_5 rfl) (qV (yld U71 rfl rfl O.blk rfl) (zqm rfl (rValP0 rfl (pdel (k := no) (K := KZ) U71 (ky_int U3) rfl rfl O.nm rfl) ?_)))))))
 rintro _ w1 ⟨bC, aC⟩
 obtain ⟨F1, h1, hY⟩ := O.delN w1 _ no bC aC (fun x => getL_del O.nm.2 no x)
 obtain ⟨mN1, mC1, mO1, gv1, kn1, kc1, ko1, O1⟩ := h1.opn
 obtain ⟨e1, e2, e3, e4⟩ : mN1 = mN ∧ gv1 = gv ∧ mC1 = mC ∧ mO1 = mO := by
  have := Blk.inj O1.blk (aC.blk O.blk O.ne.1.symm)
  simpa [trCs] using this
 subst e1 e2 e3 e4
 refine qM rfl (zqm rfl (qV (ynk rfl) (qV (yfa fl74_7 rfl) (qV (yld U72 rfl rfl O1.blk rfl) (zqm rfl (rValP0 rfl (pdel (k := no) (K := KZ) U72 (ky_int U3) rfl rfl O1.cm rfl) ?_))))))
 rintro _ w2 ⟨cf, am⟩
 have h2 := O1.setC w2 _ (updI T.changed no false) cf am (fun x => by
  rw [getL_del O1.cm.2, O1.cg]; by_cases e : x = no
  ·subst e; simp [flag, updI]
  ·rw [if_neg e]; simp [updI, e])
 obtain ⟨mN2, mC2, mO2, gv2, kn2, kc2, ko2, O2⟩ := h2.opn
 obtain ⟨e1, e2, e3, e4⟩ : mN2 = mN1 ∧ gv2 = gv1 ∧ mC2 = mC1 ∧ mO2 = mO1 := by
  have := Blk.inj O2.blk (am.blk O1.blk O1.ne.2.1.symm)
  simpa [trCs] using this
 subst e1 e2 e3 e4
 have rh : Kp (fun k => k = p ∨ k = mN2 ∨ k = mC2 ∨ gv2.ownBlock = some k) w w2 := (aC.mono' (fun k hk => .inr (.inl hk))).trans (am.mono' (fun k hk => .inr (.inr (.inl hk))))
 have iS : ∀ w', Kp (fun k => k = p ∨ k = mN2 ∨ k = mC2 ∨ gv2.ownBlock = some k) w w' → ∀ x n q, T.nodes x = some n → NdM w n q → q.b = nb x → NdM w' n q := fun w' hG x n q hx hq e => hq.kp hG (fun k hk FE => by
  obtain ⟨t1, t2, t3, t4, t5⟩ := O.top x n q hx hq e k hk; rcases FE with a | a | a | a
  ·exact t1 a
  ·exact t2 a
  ·exact t3 a
  ·exact t5 a)
 have gI : Kp F w w2 := (aC.mono' (fun k hk => by rw [hk]; exact O.fp.2.1)).trans (am.mono' (fun k hk => by rw [hk]; exact hY _ O1.fp.2.2.1))
 refine qM rfl (zqm rfl (qV (ynk rfl) (qV (yfa fl74_8 rfl) (qV (yld U72 rfl rfl O2.blk rfl) (zqm rfl (qV (ylk (k := no) (K := KZ) U72 (ky_int U3) ti3 rfl rfl O2.om.l) ?_))))))
 rw [O2.og no]
 obtain ⟨zo, FF, hz⟩ : ∃ zo : Int, (flag (T.old no)).getD (I 0) = I zo ∧ (zo = 0 ↔ T.old no = false) := by
  cases T.old no
  ·exact ⟨0, rfl, by simp⟩
  ·exact ⟨1, rfl, by simp⟩
 rw [FF]
 refine qV (yeq rfl rfl) (rEnd (run_if rfl (fun ni => ?_) (fun ni => ?_)))
 ·have ho := hz.1 ni; refine qN rfl (zqm rfl (zqm rfl (qV (ynk rfl) (qV (yfa fl74_6 rfl) (qV (yld U34 rfl rfl O2.blk rfl) (zqm rfl (rValP rfl rfl (pbs (parts := [(0, .tmp 26)]) (cs := [_]) (zs := [Value.int .i64 0]) U34 ti3 rfl (by kernel_rfl) rfl rfl rfl (by decide)) ?_))))))); rintro _ w4 ⟨b4, rfl, ⟨zT, aX, bs⟩, fo⟩; have DY := O2.gs.ext aX; dsimp only at DY; refine rValP rfl rfl (pap U34 ti3 rfl (by decide) rfl rfl DY fo.rd (by intro c hc; simp at hc; subst hc; rfl) (by omega) (by omega)) ?_; rintro gv5 w5 ⟨bU, aY, iX, -⟩; have pQ := O2.ne; have bu := aY.blk (aX.blk O2.blk) pQ.2.2.2; refine qV (ynk rfl) (qV (yfa fl74_6 rfl) (rEffP rfl (zst ti34 rfl rfl (oneV_sl bU) bu (by simp [trCs])) ?_)); rintro w6 ⟨bT, bP⟩; have jT := aX.size; have lg := aY.size; have nh := bP.size; have FG := gI.size; have dl : p < w2.heap.size := O2.blk.lt
  have ft : Sl w6 gv5 3 1 (T.given ++ [no]).length ((T.given ++ [no]).map I) := by
   have := bU.kp bP (fun k hk e => by
    rw [e] at hk; rcases iX p hk with h | h
    ·exact pQ.2.2.2 h
    ·omega)
   simpa using this
  obtain ⟨F6, h6, sT⟩ := O2.setG w6 gv5 (T.given ++ [no]) bT ft (((aX.kp).trans (aY.mono' (fun _ h => .inr h))).trans (bP.mono' (fun _ h => .inl h))) (fun k hk => by
   rcases iX k hk with h | h
   ·exact .inl h
   ·exact .inr (by omega))
  have aD : Kp F1 w2 w6 := ((aX.kp).trans (aY.mono' (fun k hk => O2.fp.2.2.2.2 k hk))).trans (bP.mono' (fun k hk => by rw [hk]; exact O2.fp.1)); obtain ⟨mN6, mC6, mO6, gv6, kn6, kc6, ko6, O6⟩ := h6.opn; refine rEnd (Run.qb (e := [(0, _)]) ?_); refine run_reg rfl (zqm rfl (qV (ynk rfl) (qV (yfa fl74_6 rfl) (qV (yld U34 rfl rfl O6.blk rfl) (zqc [.tmp 34] cf62 rfl (sortI_ret (l := T.given ++ [no]) O6.gs (by simp) (by simp; omega)) ?_))))); rintro _ w7 ⟨rfl, cP, aW⟩; refine rEnd (run_end Tryz.func79 rfl ?_)
  obtain ⟨F7, h7, pR⟩ := O6.setG w7 gv6 (sortZ (T.given ++ [no])) (aW.blk O6.blk O6.ne.2.2.2) (by
   have e : (sortZ (T.given ++ [no])).length = (T.given ++ [no]).length := List.length_mergeSort _; rw [e]
   exact cP) (aW.mono' (fun _ h => .inr h)) (fun k hk => .inl hk)
  have cH : ∀ k, F6 k → w.heap.size ≤ k ∨ F k := fun k hk => (sT k hk).elim (fun e => .inr (hY k e)) (fun e => .inl (by omega))
  have e6 : gv6 = gv5 := by
   have := Blk.inj O6.blk bT; simp [trCs] at this; exact this.2.1
  subst e6; have FH := (((rh.trans aX.kp).trans (aY.mono' (fun k hk => .inr (.inr (.inr hk))))).trans (bP.mono' (fun k hk => .inl hk))).trans_new aW (fun k hk => (iX k hk).elim (fun e => .inr (.inr (.inr (.inr e)))) (fun e => .inl (by omega))); refine ⟨_, rfl, rfl, F7, ?_, ?_, fun k hk => ?_, iS _ FH⟩
  ·have e : T.dropN no = { T with nodes := updI T.nodes no none, changed := updI T.changed no false, given := sortZ (T.given ++ [no]) } := by simp [Tr.dropN, ho]
   rw [e]; exact h7
  ·exact (gI.trans (aD.mono' hY)).trans_new aW (fun i hi => cH i (O6.fp.2.2.2.2 i hi))
  ·rcases pR k hk with e | e
   ·exact (cH k e).symm
   ·have := aD.size; exact .inr (by omega)
 ·refine run_skip (run_end Tryz.func79 rfl ?_)
  have ho : T.old no = true := by
   cases e : T.old no
   ·exact absurd (hz.2 e) ni
   ·rfl
  refine ⟨_, rfl, rfl, F1, ?_, gI, fun k hk => .inl (hY k hk), iS _ rh⟩; have e : T.dropN no = { T with nodes := updI T.nodes no none, changed := updI T.changed no false } := by simp [Tr.dropN, ho]
  rw [e]; exact h2
end
section
variable {w : World}
theorem Tr.dropN_nodes (T : Tr) {x no : Int} (h : no ≠ x) : (T.dropN x).nodes no = T.nodes no := updI_ne h
set_option maxHeartbeats 1000000 in
theorem gone_ret {p : Nat} {T : Tr} {nb : Int → Nat} {F : Nat → Prop} (h : TreeA w p T nb F) {no : Int} {c x : Nat} {ps : List (Bytes × Nat)} {up : Bytes} {i : Nat} (hn : T.nodes no = some (innNd c ps)) (hi : ps[i]? = some (up, x)) (aT : no ≠ (x : Int)) (d8 : T.given.length ≤ 4294967296) {lv rv : Value} :
  Ret Tryz.prog 131 [ptr p 0, .agg #[ptr (nb no) 0, I (i : Int), lv, rv]] w fun v w' => v = .tuple #[] ∧ ∃ F', TreeA w' p ((T.dropN x).setN no (innNd c (ps.take i ++ ps.drop (i + 1)))) nb F' ∧ Kp F w w' ∧ ∀ k, F' k → F k ∨ w.heap.size ≤ k := by
 obtain ⟨q0, B1, zU, FI, -⟩ := h.node hn
 have cF : i < ps.length := by
  rcases Nat.lt_or_ge i ps.length with h | h
  ·exact h
  ·rw [List.getElem?_eq_none h] at hi; cases hi
 have DZ : (innNd c ps).kids[i + 1]? = some x := by simp [innNd, hi]
 have FJ := zU.bd.cs x (List.mem_of_getElem? DZ)
 have dl : ps.length ≤ 100000 := by have := zU.bd.kl; simpa [innNd] using this
 have cy : (innNd c ps).kids.length = ps.length + 1 := by simp [innNd]
 obtain ⟨qb, qk, qv, qc⟩ := q0
 dsimp only at B1
 subst B1
 have iE := zU.blk
 have rf := zU.kids
 dsimp only at iE rf
 rcases rf.shape with ⟨-, h0⟩ | ⟨gc, cc, rfl, -⟩
 ·omega
 refine ret_of_run (e := [(0, _), (1, _)]) Tryz.func131 rfl Tryz.ntmps131 rfl rfl (qN rfl (rValP rfl rfl (pbx (cs := [ptr (nb no) 0, I (i : Int), lv, rv]) rfl rfl) ?_))
 rintro _ w1 ⟨b, rfl, hb, aa, aj⟩
 have B2 := h.ext aa
 refine rEnd (run_seq ?_)
 have zV : ¬ F b := fun e => by have := h.lt b e; omega
 have a7 := Ext.drew0 w1
 refine run_draw (fun w' => Kp F w1 w') (by kernel_rfl) rfl (zqt 0 rfl (ymv rfl) ((Ext.drew0 w1).kp) (zqt 1 rfl (yfa fl146_0 rfl) ((Ext.drew0 w1).kp) (qT 2 rfl (fun _ h=>yld U81 rfl rfl (h.blk aj zV) rfl) ((Ext.drew0 w1).kp) (zqt 3 rfl (ynk rfl) ((Ext.drew0 w1).kp) (zqt 4 rfl (yfa fl84_3 rfl) ((Ext.drew0 w1).kp) (zqt 6 rfl (yfa fl146_1 rfl) ((Ext.drew0 w1).kp) (qT 7 rfl (fun _ h=>yld U3 rfl rfl (h.blk aj zV) rfl) ((Ext.drew0 w1).kp) (zqt 8 rfl (yad rfl rfl (by omega)) ((Ext.drew0 w1).kp) (qO 5 (nVal (i := 5) rfl rfl rfl (yld U82 rfl rfl ((aa.trans a7).blk iE) rfl) (a7.kp) (zqt 9 rfl (yis U82 ti89 rfl rfl (by omega)) (a7.kp) (qO 10 (nVal (i := 10) rfl rfl rfl (yldc U89 rfl rfl (rd_u32 (rf.ext (aa.trans a7)).rd (by omega) DZ)) (a7.kp) ?_)))))))))))))
 refine zqt 11 rfl (ycvSi64 rfl U89 U3 (by omega)) (a7.kp) (zqo 12 [.tmp 4, .tmp 15] rfl cf79 rfl (drop_ret (B2.ext (Ext.drew0 w1)) (x : Int) d8) ?_)
 rintro _ w2 ⟨rfl, F2, fQ, am, ce, -⟩
 refine ⟨a7.kp.trans am, ?_⟩
 refine qE ?_
 have eX : Kp F w1 w2 := a7.kp.trans am
 have ay := eX.blk aj zV
 obtain ⟨q, E0, hM, eY, sU⟩ := fQ.node (show (T.dropN x).nodes no = some (innNd c ps) by rw [Tr.dropN_nodes T aT]; exact hn)
 obtain ⟨qb, qk2, qv2, qc2⟩ := q
 dsimp only at E0
 subst E0
 have im := hM.blk
 have nC := hM.keys
 have nD := hM.kids
 dsimp only at im nC nD
 have cO : (innNd c ps).keys.length = ps.length := by simp [innNd]
 rcases nC.shape with ⟨-, h0⟩ | ⟨gk, ck, rfl, -⟩
 ·omega
 rcases nD.shape with ⟨-, h0⟩ | ⟨gc2, cc2, rfl, -⟩
 ·omega
 obtain ⟨Q, hQ⟩ : ∃ Q : Nat → Prop, (fun k => k = gk ∨ k = gc2 ∨ k = nb no) = Q := ⟨_, rfl⟩
 have bV : Q (nb no) := by rw [← hQ]; exact .inr (.inr rfl)
 have aQ : Q gk := by rw [← hQ]; exact .inl rfl
 have ew : Q gc2 := by rw [← hQ]; exact .inr (.inl rfl)
 have dt : ∀ k, Q k → Pl.fp ⟨nb no, .slice (some ⟨gk, 0, none⟩) (innNd c ps).keys.length ck, qv2, .slice (some ⟨gc2, 0, none⟩) (innNd c ps).kids.length cc2⟩ k := by
  rw [← hQ]; rintro k (rfl | rfl | rfl)
  ·exact .inr (.inl rfl)
  ·exact .inr (.inr (.inr rfl))
  ·exact .inl rfl
 have eV := aa.size
 have FK := eX.size
 have sV := aj.lt
 have dA : ¬ Q b := fun e => by
  rcases ce b (eY b (dt b e)).1 with h | h
  ·exact zV h
  ·have := a7.size; omega
 have a8 := Ext.drew0 w2
 refine run_draw (fun w' => Kp Q w2 w') (by kernel_rfl) rfl ?_
 have cr : ∀ c' ∈ (innNd c ps).keys.map S, c'.oneCell' = true := fun c' hc => by obtain ⟨z, -, rfl⟩ := List.mem_map.1 hc; rfl
 have ey : ∀ c' ∈ (innNd c ps).kids.map u32v, c'.oneCell' = true := fun c' hc => by obtain ⟨z, -, rfl⟩ := List.mem_map.1 hc; rfl
 have wh := hM.lt
 have df := hM.d2 gk rfl
 have cM := hM.d1
 have sW : gc2 ≠ gk := fun e => df.2 (by rw [e]; rfl)
 have iY : gk ≠ nb no := fun e => cM.1 (by rw [← e]; rfl)
 have ky : gc2 ≠ nb no := fun e => cM.2.2 (by rw [← e]; rfl)
 have ao : ∀ kv' cv' wf, Sl wf kv' 9 1 ((innNd c ps).keys.length - 1) (((innNd c ps).keys.map S).take i ++ ((innNd c ps).keys.map S).drop (i + 1)) → (∀ g, kv'.ownBlock = some g → g = gk) → Sl wf cv' 89 1 ((innNd c ps).kids.length - 1) (((innNd c ps).kids.map u32v).take (i + 1) ++ ((innNd c ps).kids.map u32v).drop (i + 1 + 1)) → (∀ g, cv'.ownBlock = some g → g = gc2) → Blk wf (nb no) [.bool false, kv', qv2, cv'] 84 → Kp Q w2 wf → (∀ k, (k = gk ∨ k = gc2 ∨ k = nb no) → qv2.ownBlock ≠ some k) →
   ∃ F', TreeA wf p ((T.dropN x).setN no (innNd c (ps.take i ++ ps.drop (i + 1)))) nb F' ∧ Kp F w wf ∧ ∀ k, F' k → F k ∨ w.heap.size ≤ k := by
  intro kv' cv' wf hA ri hB rj ik lJ hv; have bA := hM.bd
  have hN : NdM wf (innNd c (ps.take i ++ ps.drop (i + 1))) ⟨nb no, kv', qv2, cv'⟩ := by
   refine ⟨ik, ?_, ?_, ?_, ?_, ⟨fun e => iY (ri _ e).symm, cM.2.1, fun e => ky (rj _ e).symm⟩, fun k hk => ⟨fun e => hv k (.inl (ri k hk)) e, fun e => sW (by rw [← rj k e, ri k hk])⟩, fun k hk e => hv k (.inr (.inl (rj k e))) hk⟩
   ·have e : (innNd c (ps.take i ++ ps.drop (i + 1))).keys.length = (innNd c ps).keys.length - 1 := by simp [innNd]; omega
    rw [e]
    simpa [innNd, List.map_take, List.map_drop] using hA
   ·exact hM.vals.kp lJ (fun g hg e => by rw [← hQ] at e; exact hv g e hg)
   ·have e : (innNd c (ps.take i ++ ps.drop (i + 1))).kids.length = (innNd c ps).kids.length - 1 := by simp [innNd]; omega
    rw [e]
    simpa [innNd, List.map_take, List.map_drop] using hB
   ·exact ⟨by simp [innNd]; omega, by simp [innNd], by simp [innNd]; omega, fun k hk => bA.ks k (by
     simp only [innNd, List.map_append, List.map_take, List.map_drop, List.mem_append] at hk ⊢
     exact hk.elim List.mem_of_mem_take List.mem_of_mem_drop), fun k hk => by simp [innNd] at hk, fun k hk => bA.cs k (by
     simp only [innNd, List.map_append, List.map_take, List.map_drop, List.mem_cons, List.mem_append] at hk ⊢
     exact hk.elim .inl (fun h => .inr (h.elim List.mem_of_mem_take List.mem_of_mem_drop)))⟩
  obtain ⟨F', nE, i0⟩ := sU wf _ ⟨nb no, kv', qv2, cv'⟩ rfl hN (lJ.mono' dt) (fun k hk => by
   rcases hk with hk | hk | hk | hk
   ·dsimp only at hk; rw [hk]; exact .inl (dt _ bV)
   ·rw [ri k hk]; exact .inl (dt _ aQ)
   ·exact .inl (.inr (.inr (.inl hk)))
   ·rw [rj k hk]; exact .inl (dt _ ew))
  have cH : ∀ k, F2 k → w.heap.size ≤ k ∨ F k := fun k hk => (ce k hk).elim .inr (fun e => .inl (by have := a7.size; omega)); refine ⟨F', nE, ?_, fun k hk => ?_⟩
  ·exact ((aa.kp (S := F)).trans eX).trans_new lJ (fun k hk => cH k (eY k (dt k hk)).1)
  ·rcases i0 k hk with e | e
   ·exact (cH k e).symm
   ·exact .inr (by omega)
 refine zqt 0 rfl (yfa fl146_0 rfl) (a8.kp) (qT 1 rfl (fun _ h=>yld U81 rfl rfl (h.blk ay dA) rfl) (a8.kp) (zqt 2 rfl (yfa fl146_0 rfl) (a8.kp) (qT 3 rfl (fun _ h=>yld U81 rfl rfl (h.blk ay dA) rfl) (a8.kp) (zqt 4 rfl (yfa fl146_0 rfl) (a8.kp) (qT 5 rfl (fun _ h=>yld U81 rfl rfl (h.blk ay dA) rfl) (a8.kp) (zqt 6 rfl (ynk rfl) (a8.kp) (zqt 7 rfl (yfa fl84_1 rfl) (a8.kp) (zqt 9 rfl (yfa fl146_1 rfl) (a8.kp) (qT 10 rfl (fun _ h=>yld U3 rfl rfl (h.blk ay dA) rfl) (a8.kp) (zqt 11 rfl (yfa fl146_1 rfl) (a8.kp) (qT 12 rfl (fun _ h=>yld U3 rfl rfl (h.blk ay dA) rfl) (a8.kp) (zqt 13 rfl (yad rfl rfl (by omega)) (a8.kp) (zqt 15 rfl (yfa fl146_0 rfl) (a8.kp) ?_)))))))))))))
 refine qT 16 rfl (fun _ h=>yld U81 rfl rfl (h.blk ay dA) rfl) (a8.kp) (zqt 17 rfl (ynk rfl) (a8.kp) (zqt 18 rfl (yfa fl84_3 rfl) (a8.kp) (zqt 20 rfl (yfa fl146_1 rfl) (a8.kp) (qT 21 rfl (fun _ h=>yld U3 rfl rfl (h.blk ay dA) rfl) (a8.kp) (zqt 22 rfl (yad rfl rfl (by omega)) (a8.kp) (zqt 23 rfl (yfa fl146_1 rfl) (a8.kp) (qT 24 rfl (fun _ h=>yld U3 rfl rfl (h.blk ay dA) rfl) (a8.kp) (zqt 25 rfl (yad rfl rfl (by omega)) (a8.kp) (hTwo (i := 8) (j := 19) (by kernel_rfl) ?_ ?_)))))))))
 ·refine nVal (i := 8) rfl rfl rfl (yld U23 rfl rfl (a8.blk im) rfl) (a8.kp) (hTwo (i := 14) (j := 19) (by kernel_rfl) ?_ ?_)
  ·refine nCall (i := 14) rfl rfl rfl (yc (args := [.tmp 25, .tmp 27, .tmp 30]) cf45 rfl) (delS_ret (i := i) (nC.ext a8) cr (by omega) (by omega)) ?_; rintro kv14 w14 ⟨cQ, ae, dm⟩; refine ⟨a8.kp.trans (ae.mono' (fun _ e => by cases e; exact aQ)), ?_⟩; refine qO 19 (nVal (i := 19) rfl rfl rfl (yld U82 rfl rfl (ae.blk (a8.blk im) (fun e => iY (oinj e))) rfl) ((a8.kp.trans (ae.mono' (fun _ e => by cases e; exact aQ)))) ?_); rw [show (i : Int) + 1 = ((i + 1 : Nat) : Int) by omega, show (i : Int) + 2 = ((i + 1 : Nat) : Int) + 1 by omega]; refine zqo 26 [.tmp 36, .tmp 39, .tmp 42] rfl cf157 rfl (delU_ret (i := i + 1) ((nD.ext a8).kp ae (fun g hg e => sW (by cases hg; exact (oinj e).symm))) ey (by omega) (by omega)) ?_; rintro cv26 w26 ⟨iZ, aD, j0⟩; refine ⟨(a8.kp.trans (ae.mono' (fun _ e => by cases e; exact aQ))).trans (aD.mono' (fun _ e => by cases e; exact ew)), ?_⟩; refine zqt 27 rfl (ynk rfl) ((a8.kp.trans (ae.mono' (fun _ e => by cases e; exact aQ))).trans (aD.mono' (fun _ e => by cases e; exact ew))) ?_; refine zqt 28 rfl (yfa fl84_1 rfl) ((a8.kp.trans (ae.mono' (fun _ e => by cases e; exact aQ))).trans (aD.mono' (fun _ e => by cases e; exact ew))) ?_; have ci : Kp Q w2 w26 := ((a8.kp.trans (ae.mono' (fun _ e => by cases e; exact aQ))).trans (aD.mono' (fun _ e => by cases e; exact ew))); have aq := aD.blk (ae.blk (a8.blk im) (fun e => iY (oinj e))) (fun e => ky (oinj e)); refine qO 29 (nEffP (i := 29) rfl rfl (zst ti23 rfl rfl (oneV_sl cQ) aq (by simp)) ?_); rintro w27 ⟨gi, bD⟩; refine ⟨ci.trans (bD.mono' (fun _ e => by rw [e]; exact bV)), ?_⟩; refine zqt 30 rfl (ynk rfl) (ci.trans (bD.mono' (fun _ e => by rw [e]; exact bV))) ?_; refine zqt 31 rfl (yfa fl84_3 rfl) (ci.trans (bD.mono' (fun _ e => by rw [e]; exact bV))) ?_; refine qO 32 (nEffP (i := 32) rfl rfl (zst ti82 rfl rfl (oneV_sl iZ) gi (by simp)) ?_); rintro w28 ⟨nF, gj⟩; refine ⟨(ci.trans (bD.mono' (fun _ e => by rw [e]; exact bV))).trans (gj.mono' (fun _ e => by rw [e]; exact bV)), ?_⟩; refine qE (Run.qb (e := []) ?_); refine run_end Tryz.func131 rfl ?_; have j8 : Kp (fun k => k = nb no) w26 w28 := bD.trans gj; have hA := (cQ.kp aD (fun g hg e => sW (by have := dm g hg; cases this; exact oinj e))).kp j8 (fun g hg e => iY (by have := dm g hg; cases this; exact e)); have hB := iZ.kp j8 (fun g hg e => ky (by have := j0 g hg; cases this; exact e)); refine ⟨_, rfl, rfl, ao _ _ _ hA (fun g hg => (oinj (dm g hg)).symm) hB (fun g hg => (oinj (j0 g hg)).symm) nF ((ci.trans (bD.mono' (fun _ e => by rw [e]; exact bV))).trans (gj.mono' (fun _ e => by rw [e]; exact bV))) ?_⟩; rintro k (rfl | rfl | rfl) e
   ·exact df.1 e
   ·exact hM.d3 _ e rfl
   ·exact cM.2.1 e
  ·refine nVal (i := 19) rfl rfl rfl (yld U82 rfl rfl (a8.blk im) rfl) (a8.kp) (zqo 14 [.tmp 25, .tmp 27, .tmp 30] rfl cf45 rfl (delS_ret (i := i) (nC.ext a8) cr (by omega) (by omega)) ?_); rintro kv14 w14 ⟨cQ, ae, dm⟩; refine ⟨a8.kp.trans (ae.mono' (fun _ e => by cases e; exact aQ)), ?_⟩; rw [show (i : Int) + 1 = ((i + 1 : Nat) : Int) by omega, show (i : Int) + 2 = ((i + 1 : Nat) : Int) + 1 by omega]; refine zqo 26 [.tmp 36, .tmp 39, .tmp 42] rfl cf157 rfl (delU_ret (i := i + 1) ((nD.ext a8).kp ae (fun g hg e => sW (by cases hg; exact (oinj e).symm))) ey (by omega) (by omega)) ?_; rintro cv26 w26 ⟨iZ, aD, j0⟩; refine ⟨(a8.kp.trans (ae.mono' (fun _ e => by cases e; exact aQ))).trans (aD.mono' (fun _ e => by cases e; exact ew)), ?_⟩; refine zqt 27 rfl (ynk rfl) ((a8.kp.trans (ae.mono' (fun _ e => by cases e; exact aQ))).trans (aD.mono' (fun _ e => by cases e; exact ew))) ?_; refine zqt 28 rfl (yfa fl84_1 rfl) ((a8.kp.trans (ae.mono' (fun _ e => by cases e; exact aQ))).trans (aD.mono' (fun _ e => by cases e; exact ew))) ?_; have ci : Kp Q w2 w26 := ((a8.kp.trans (ae.mono' (fun _ e => by cases e; exact aQ))).trans (aD.mono' (fun _ e => by cases e; exact ew))); have aq := aD.blk (ae.blk (a8.blk im) (fun e => iY (oinj e))) (fun e => ky (oinj e)); refine qO 29 (nEffP (i := 29) rfl rfl (zst ti23 rfl rfl (oneV_sl cQ) aq (by simp)) ?_); rintro w27 ⟨gi, bD⟩; refine ⟨ci.trans (bD.mono' (fun _ e => by rw [e]; exact bV)), ?_⟩; refine zqt 30 rfl (ynk rfl) (ci.trans (bD.mono' (fun _ e => by rw [e]; exact bV))) ?_; refine zqt 31 rfl (yfa fl84_3 rfl) (ci.trans (bD.mono' (fun _ e => by rw [e]; exact bV))) ?_; refine qO 32 (nEffP (i := 32) rfl rfl (zst ti82 rfl rfl (oneV_sl iZ) gi (by simp)) ?_); rintro w28 ⟨nF, gj⟩; refine ⟨(ci.trans (bD.mono' (fun _ e => by rw [e]; exact bV))).trans (gj.mono' (fun _ e => by rw [e]; exact bV)), ?_⟩; refine qE (Run.qb (e := []) ?_); refine run_end Tryz.func131 rfl ?_; have j8 : Kp (fun k => k = nb no) w26 w28 := bD.trans gj; have hA := (cQ.kp aD (fun g hg e => sW (by have := dm g hg; cases this; exact oinj e))).kp j8 (fun g hg e => iY (by have := dm g hg; cases this; exact e)); have hB := iZ.kp j8 (fun g hg e => ky (by have := j0 g hg; cases this; exact e)); refine ⟨_, rfl, rfl, ao _ _ _ hA (fun g hg => (oinj (dm g hg)).symm) hB (fun g hg => (oinj (j0 g hg)).symm) nF ((ci.trans (bD.mono' (fun _ e => by rw [e]; exact bV))).trans (gj.mono' (fun _ e => by rw [e]; exact bV))) ?_⟩; rintro k (rfl | rfl | rfl) e
   ·exact df.1 e
   ·exact hM.d3 _ e rfl
   ·exact cM.2.1 e
 ·refine nVal (i := 19) rfl rfl rfl (yld U82 rfl rfl (a8.blk im) rfl) (a8.kp) (qO 8 (nVal (i := 8) rfl rfl rfl (yld U23 rfl rfl (a8.blk im) rfl) (a8.kp) (zqo 14 [.tmp 25, .tmp 27, .tmp 30] rfl cf45 rfl (delS_ret (i := i) (nC.ext a8) cr (by omega) (by omega)) ?_))); rintro kv14 w14 ⟨cQ, ae, dm⟩; refine ⟨a8.kp.trans (ae.mono' (fun _ e => by cases e; exact aQ)), ?_⟩; rw [show (i : Int) + 1 = ((i + 1 : Nat) : Int) by omega, show (i : Int) + 2 = ((i + 1 : Nat) : Int) + 1 by omega]; refine zqo 26 [.tmp 36, .tmp 39, .tmp 42] rfl cf157 rfl (delU_ret (i := i + 1) ((nD.ext a8).kp ae (fun g hg e => sW (by cases hg; exact (oinj e).symm))) ey (by omega) (by omega)) ?_; rintro cv26 w26 ⟨iZ, aD, j0⟩; refine ⟨(a8.kp.trans (ae.mono' (fun _ e => by cases e; exact aQ))).trans (aD.mono' (fun _ e => by cases e; exact ew)), ?_⟩; refine zqt 27 rfl (ynk rfl) ((a8.kp.trans (ae.mono' (fun _ e => by cases e; exact aQ))).trans (aD.mono' (fun _ e => by cases e; exact ew))) ?_; refine zqt 28 rfl (yfa fl84_1 rfl) ((a8.kp.trans (ae.mono' (fun _ e => by cases e; exact aQ))).trans (aD.mono' (fun _ e => by cases e; exact ew))) ?_; have ci : Kp Q w2 w26 := ((a8.kp.trans (ae.mono' (fun _ e => by cases e; exact aQ))).trans (aD.mono' (fun _ e => by cases e; exact ew))); have aq := aD.blk (ae.blk (a8.blk im) (fun e => iY (oinj e))) (fun e => ky (oinj e)); refine qO 29 (nEffP (i := 29) rfl rfl (zst ti23 rfl rfl (oneV_sl cQ) aq (by simp)) ?_); rintro w27 ⟨gi, bD⟩; refine ⟨ci.trans (bD.mono' (fun _ e => by rw [e]; exact bV)), ?_⟩; refine zqt 30 rfl (ynk rfl) (ci.trans (bD.mono' (fun _ e => by rw [e]; exact bV))) ?_; refine zqt 31 rfl (yfa fl84_3 rfl) (ci.trans (bD.mono' (fun _ e => by rw [e]; exact bV))) ?_; refine qO 32 (nEffP (i := 32) rfl rfl (zst ti82 rfl rfl (oneV_sl iZ) gi (by simp)) ?_); rintro w28 ⟨nF, gj⟩; refine ⟨(ci.trans (bD.mono' (fun _ e => by rw [e]; exact bV))).trans (gj.mono' (fun _ e => by rw [e]; exact bV)), ?_⟩; refine qE (Run.qb (e := []) ?_); refine run_end Tryz.func131 rfl ?_; have j8 : Kp (fun k => k = nb no) w26 w28 := bD.trans gj; have hA := (cQ.kp aD (fun g hg e => sW (by have := dm g hg; cases this; exact oinj e))).kp j8 (fun g hg e => iY (by have := dm g hg; cases this; exact e)); have hB := iZ.kp j8 (fun g hg e => ky (by have := j0 g hg; cases this; exact e)); refine ⟨_, rfl, rfl, ao _ _ _ hA (fun g hg => (oinj (dm g hg)).symm) hB (fun g hg => (oinj (j0 g hg)).symm) nF ((ci.trans (bD.mono' (fun _ e => by rw [e]; exact bV))).trans (gj.mono' (fun _ e => by rw [e]; exact bV))) ?_⟩; rintro k (rfl | rfl | rfl) e
  ·exact df.1 e
  ·exact hM.d3 _ e rfl
  ·exact cM.2.1 e
end
end Go.Proofs.YtocnhaoilnojmaaGreat
