/- Texts TrY, TrZ, TrZa, TrZb, TrZc, TrA, TrC, TrCa, TrCb, TrF, ShS, TrSo, TrFa, TrFb, one behind the other (what the statement TreePlays does not use is left out). -/
import Derived.Test.YtocnhaoilnojmaaGreatTPp1
import Derived.Test.YtocnhaoilnojmaaGreatTPp2
import Derived.Shelf.SortM.Plain
import Derived.Test.YtocnhaoilnojmaaGreatProg
import Derived.Sort.OwnSortedInts
namespace Go.Proofs.YtocnhaoilnojmaaGreat
open Go Go.RowKit
set_option linter.all false

section
variable {z h : Nat} {N N' : Nodes} {no : Int} {lo : Bytes} {hi : Option Bytes} {ns : List Int} {es : Es} {c : Nat} {p r ps : List (Bytes × Nat)} {k : Bytes}
theorem getLast_kid : (c :: p.map (·.2)).getLast? = (c :: (p ++ r).map (·.2))[p.length]? := by
 rw [List.getLast?_eq_getElem?, List.map_append]
 simp only [List.length_cons, List.length_map, Nat.add_sub_cancel]
 rw [← List.cons_append, List.getElem?_append_left (by simp)]
theorem Ch.only {nm : List Int} {a : Nat} {q : List (Bytes × Nat)} (hc : Ch (fun x l u n e => x ∈ n ∧ ∀ y ∈ n, y ∈ nm → x = (a : Int)) lo hi c q ns es) : ∀ d ∈ c :: q.map (·.2), (d : Int) ∈ nm → d = a := by
 induction q generalizing lo c ns es with
 | nil =>
   intro d hd hm
   simp at hd; subst hd
   exact Int.ofNat.inj (hc.2 _ hc.1 hm)
 | cons q r ih =>
   obtain ⟨k, d'⟩ := q
   obtain ⟨m1, m2, f1, f2, rfl, rfl, g1, g2⟩ := hc
   intro d hd hm
   rcases List.mem_cons.1 hd with rfl | hd
   ·exact Int.ofNat.inj (g1.2 _ g1.1 hm)
   ·exact ih g2 d (by simpa using hd) hm
theorem kid_at (hnd : ns.Nodup) (hc : Ch (Bn z N h) lo hi c (p ++ r) ns es) (hR : Rise ((p ++ r).map (·.1))) (hin : ∀ k ∈ (p ++ r).map (·.1), inB lo hi k) (hk : inB lo hi k) (hp : ∀ x ∈ p, lt k x.1 = false) (hr : ∀ x ∈ r, lt k x.1 = true) :
  ∃ a lo' hi' n1 nm n2 e1 em e2, ns = n1 ++ (nm ++ n2) ∧ es = e1 ++ (em ++ e2) ∧ (c :: (p ++ r).map (·.2))[p.length]? = some a ∧ Bn z N h a lo' hi' nm em ∧ inB lo' hi' k ∧ (∀ x ∈ e1, lt x.1 k = true) ∧ (∀ x ∈ e2, lt k x.1 = true) ∧
    (∀ d ∈ c :: (p ++ r).map (·.2), d ≠ a → (d : Int) ∉ nm) ∧ (∀ up, inB lo' hi' up → lt lo' up = true → inB lo hi up ∧ ∀ m, Rise ((p ++ (up, m) :: r).map (·.1))) ∧
    ∀ (N' : Nodes) seg' nm' em', (∀ x l u n e, Bn z N h x l u n e → ((∀ y ∈ n, y ∈ n1) ∨ (∀ y ∈ n, y ∈ n2)) → Bn z N' h x l u n e) → Ch (Bn z N' h) lo' hi' a seg' nm' em' → Ch (Bn z N' h) lo hi c (p ++ (seg' ++ r)) (n1 ++ (nm' ++ n2)) (e1 ++ (em' ++ e2)) := by
 obtain ⟨a, lo', hi', n1, nm, n2, e1, em, e2, rfl, rfl, ha, hch, hlo, hhi, he1, he2, he3, hrep⟩ := Ch.seg (seg := []) hc (fun x l u n e hx => hx.keys.1) hR hin
 have hlk : lt k lo' = false := by
  rw [hlo]
  cases hg : p.getLast? with
  | none => exact hk.1
  | some x => exact hp x (List.mem_of_getLast? hg)
 have hhk : ∀ u, hi' = some u → lt k u = true := by
  intro u hu
  rw [hhi] at hu
  cases hg : r.head? with
  | none => rw [hg] at hu; simp at hu; exact hk.2 u hu
  | some x => rw [hg] at hu; simp at hu; rw [← hu]; exact hr x (List.mem_of_mem_head? hg)
 refine ⟨a, lo', hi', n1, nm, n2, e1, em, e2, rfl, rfl, by rw [← getLast_kid]; exact ha, hch, ⟨hlk, hhk⟩, fun x hx => lt_le_trans (he1 x hx) hlk, fun x hx => ?_, fun d hd hda hdm => hda ?_, fun up hu1 hu2 => ?_, fun N' seg' nm' em' => hrep (Bn z N' h) seg' nm' em'⟩
 ·cases hg : r.head? with
  | none =>
    have : r = [] := by simpa using hg
    rw [he3 this] at hx; cases hx
  | some y =>
    have hu : hi' = some y.1 := by rw [hhi, hg]; rfl
    exact lt_le_trans (hhk _ hu) (he2 x hx _ hu)
 ·have hn1 := List.nodup_append.1 hnd
  have hn2 := List.nodup_append.1 hn1.2.1
  have hT : Ch (fun x l u n e => x ∈ n ∧ ∀ y ∈ n, y ∈ nm → x = (a : Int)) lo hi c (p ++ ([] ++ r)) (n1 ++ (nm ++ n2)) (e1 ++ (em ++ e2)) :=
   hrep _ [] nm em (fun x l u n e hx hn => ⟨hx.mem, fun y hy hyn => by
    rcases hn with hn | hn
    ·exact absurd rfl (hn1.2.2 y (hn y hy) y (List.mem_append_left _ hyn))
    ·exact absurd rfl (hn2.2.2 y hyn y (hn y hy))⟩) ⟨(show Bn z N h (a : Int) lo' hi' nm em from hch).mem, fun _ _ _ => rfl⟩
  exact hT.only d hd hdm
 ·have hlo2 : lt lo' lo = false := by
   rw [hlo]
   cases hg : p.getLast? with
   | none => exact lt_irrefl _
   | some x => exact (hin x.1 (List.mem_map.2 ⟨x, List.mem_append_left _ (List.mem_of_getLast? hg), rfl⟩)).1
  have hup : ∀ u, hi = some u → lt up u = true := by
   intro u hu
   cases hg : r.head? with
   | none => exact hu1.2 u (by rw [hhi, hg, hu]; rfl)
   | some x => exact lt_trans (hu1.2 x.1 (by rw [hhi, hg]; rfl)) ((hin x.1 (List.mem_map.2 ⟨x, List.mem_append_right _ (List.mem_of_mem_head? hg), rfl⟩)).2 u hu)
  refine ⟨⟨le_trans hlo2 (le_of_lt hu2), hup⟩, fun m => ?_⟩
  rw [List.map_append] at hR
  obtain ⟨r1, r2, r3⟩ := List.pairwise_append.1 hR
  rw [List.map_append, List.map_cons]
  refine List.pairwise_append.2 ⟨r1, List.pairwise_cons.2 ⟨fun y hy => ?_, r2⟩, fun x hx y hy => ?_⟩
  ·cases r with
   | nil => cases hy
   | cons q r =>
     have h1 := hu1.2 q.1 (by rw [hhi]; rfl)
     rw [List.map_cons] at hy
     rcases List.mem_cons.1 hy with rfl | hy
     ·exact h1
     ·exact lt_trans h1 ((List.pairwise_cons.1 r2).1 y hy)
  ·rcases List.mem_cons.1 hy with rfl | hy
   ·cases hg : p.getLast? with
    | none => have : p = [] := by simpa using hg
              subst this; cases hx
    | some q =>
      have hq : lo' = q.1 := by rw [hlo, hg]; rfl
      have hqm := List.mem_of_getLast? hg
      rw [hq] at hu2
      obtain ⟨t, rfl⟩ := List.getLast?_eq_some_iff.1 hg
      rw [List.map_append] at hx r1
      rcases List.mem_append.1 hx with hx | hx
      ·exact lt_trans ((List.pairwise_append.1 r1).2.2 x hx q.1 (by simp)) hu2
      ·simp at hx; subst hx; exact hu2
   ·exact r3 x hx y hy
theorem part_ok (hc : Ch (Bn z N h) lo hi c ps ns es) (hz : sizeOk z) (hko : keysOk (ps.map (·.1))) (h1 : orderE z < ps.length + 1) (h2 : ps.length + 1 ≤ 2 * orderE z) (h0 : c ≠ 0 ∧ ∀ x ∈ ps, x.2 ≠ 0) (hin : ∀ k ∈ ps.map (·.1), inB lo hi k) :
  ∃ up c2, ps[(ps.length + 1) / 2 - 1]? = some (up, c2) ∧ ∃ n1 n2 e1 e2, ns = n1 ++ n2 ∧ es = e1 ++ e2 ∧
    Ch (Bn z N h) lo (some up) c (ps.take ((ps.length + 1) / 2 - 1)) n1 e1 ∧ Ch (Bn z N h) up hi c2 (ps.drop ((ps.length + 1) / 2)) n2 e2 ∧
    keysOk ((ps.take ((ps.length + 1) / 2 - 1)).map (·.1)) ∧ keysOk ((ps.drop ((ps.length + 1) / 2)).map (·.1)) ∧
    (∀ k ∈ (ps.take ((ps.length + 1) / 2 - 1)).map (·.1), inB lo (some up) k) ∧ (∀ k ∈ (ps.drop ((ps.length + 1) / 2)).map (·.1), inB up hi k) ∧
    (ps.take ((ps.length + 1) / 2 - 1)).length + 1 ≤ orderE z ∧ (ps.drop ((ps.length + 1) / 2)).length + 1 ≤ orderE z ∧
    ¬ (innNd c (ps.take ((ps.length + 1) / 2 - 1))).low z ∧ ¬ (innNd c2 (ps.drop ((ps.length + 1) / 2))).low z ∧ inB lo hi up ∧ lt lo up = true ∧ (1 ≤ up.length ∧ up.length ≤ 64) ∧ c2 ≠ 0 := by
 obtain ⟨z1, z2, -⟩ := hz
 have ho : 8 ≤ orderE z := by unfold orderE; omega
 have hm : (ps.length + 1) / 2 - 1 < ps.length := by omega
 obtain ⟨⟨up, c2⟩, hg⟩ : ∃ q, ps[(ps.length + 1) / 2 - 1]? = some q := ⟨_, List.getElem?_eq_getElem hm⟩
 have hmem := List.mem_of_getElem? hg
 have he : ps[(ps.length + 1) / 2 - 1] = (up, c2) := by rw [List.getElem?_eq_getElem hm] at hg; exact Option.some.inj hg
 have hsp : ps = ps.take ((ps.length + 1) / 2 - 1) ++ (up, c2) :: ps.drop ((ps.length + 1) / 2) := by
  conv => lhs; rw [← List.take_append_drop ((ps.length + 1) / 2 - 1) ps]
  rw [List.drop_eq_getElem_cons hm, he, show (ps.length + 1) / 2 - 1 + 1 = (ps.length + 1) / 2 by omega]
 revert hsp hg
 generalize hP : ps.take ((ps.length + 1) / 2 - 1) = P
 generalize hQ : ps.drop ((ps.length + 1) / 2) = Q
 intro hg hsp
 have hPl : P.length = (ps.length + 1) / 2 - 1 := by rw [← hP, List.length_take]; omega
 have hQl : Q.length = ps.length - (ps.length + 1) / 2 := by rw [← hQ, List.length_drop]
 rw [hsp] at hc
 obtain ⟨n1, n2, e1, e2, rfl, rfl, c1, c3⟩ := Ch.app.1 hc
 have hko' := hko
 rw [hsp, List.map_append, List.map_cons] at hko'
 obtain ⟨kl, kr⟩ := hko'
 obtain ⟨r1, r2, r3⟩ := List.pairwise_append.1 kr
 have r4 := List.pairwise_cons.1 r2
 have hin' : ∀ k ∈ P.map (·.1) ++ up :: Q.map (·.1), inB lo hi k := by
  have := hin
  rw [hsp, List.map_append, List.map_cons] at this
  exact this
 have hup := hin' up (by simp)
 refine ⟨up, c2, hg, n1, n2, e1, e2, rfl, rfl, c1, c3, ⟨fun k hk => kl k (List.mem_append_left _ hk), r1⟩, ⟨fun k hk => kl k (List.mem_append_right _ (List.mem_cons_of_mem _ hk)), r4.2⟩, fun k hk => ⟨(hin' k (List.mem_append_left _ hk)).1, fun u hu => by cases hu; exact r3 k hk up (by simp)⟩, fun k hk => ⟨lt_asymm (r4.1 k hk), (hin' k (List.mem_append_right _ (List.mem_cons_of_mem _ hk))).2⟩, by omega, by omega, ?_, ?_, hup, ?_, kl up (by simp), h0.2 _ hmem⟩
 ·rw [innNd_low]; omega
 ·rw [innNd_low]; omega
 ·obtain ⟨x, hx⟩ : ∃ x, x ∈ P := by
   cases P with
   | nil => simp at hPl; omega
   | cons x _ => exact ⟨x, List.mem_cons_self ..⟩
  have hxm : x.1 ∈ P.map (·.1) := List.mem_map.2 ⟨x, hx, rfl⟩
  exact le_lt_trans (hin' x.1 (List.mem_append_left _ hxm)).1 (r3 x.1 hxm up (by simp))
end

structure Mid (z h : Nat) (N : Nodes) (no : Int) (lo : Bytes) (hi : Option Bytes) (c : Nat) (ps : List (Bytes × Nat)) (ns : List Int) (es : Es) (x : Nat) : Prop where
 at_ : N no = some (innNd c ps)
 ko : keysOk (ps.map (·.1))
 len : ps.length + 1 ≤ orderE z
 nz : c ≠ 0 ∧ ∀ y ∈ ps, y.2 ≠ 0
 inn : ∀ k ∈ ps.map (·.1), inB lo hi k
 ch : Ch (Bn z N (h + 1)) lo hi c ps ns es
 nd : (no :: ns).Nodup
 full : ∀ d ∈ c :: ps.map (·.2), d ≠ x → Full z N d
section
variable {z h : Nat} {N N' : Nodes} {no : Int} {lo : Bytes} {hi : Option Bytes} {ns : List Int} {es : Es} {c x : Nat} {p r ps : List (Bytes × Nat)} {s : Bytes} {b : Nat}
theorem Mid.done (M : Mid z h N no lo hi c ps ns es x) (hz : sizeOk z) (hx : Full z N x) : Bn z N (h + 2) no lo hi (no :: ns) es :=
 Bn.of_inner (by have := hz.1; omega) M.at_ M.ko M.len M.nz M.inn (fun d hd => by
  by_cases e : d = x
  ·rw [e]; exact hx
  ·exact M.full d hd e) M.ch
theorem Ch.kids_nd {S : Int → Bytes → Option Bytes → List Int → Es → Prop} (hc : Ch S lo hi c ps ns es) (hS : ∀ x l u n e, S x l u n e → x ∈ n) (hn : ns.Nodup) : (c :: ps.map (·.2)).Nodup := by
 induction ps generalizing lo c ns es with
 | nil => simp
 | cons q r ih =>
   obtain ⟨k, d⟩ := q
   obtain ⟨n1, n2, e1, e2, rfl, rfl, h1, h2⟩ := hc
   have hn' := List.nodup_append.1 hn
   refine List.nodup_cons.2 ⟨fun hm => ?_, ih h2 hn'.2.1⟩
   exact hn'.2.2 _ (hS _ _ _ _ _ h1) _ (h2.kid hS c (by simpa using hm)) rfl
theorem Mid.pair (M : Mid z h N no lo hi c (p ++ (s, b) :: r) ns es x) (hz : sizeOk z) :
  ∃ a lo' hi' n1 na nb n2 e1 ea eb e2, ns = n1 ++ ((na ++ nb) ++ n2) ∧ es = e1 ++ ((ea ++ eb) ++ e2) ∧ (c :: (p ++ (s, b) :: r).map (·.2))[p.length]? = some a ∧ a ≠ b ∧
    Bn z N (h + 1) a lo' (some s) na ea ∧ Bn z N (h + 1) b s hi' nb eb ∧ inB lo' hi' s ∧ lt s lo = false ∧ (a : Int) ≠ no ∧ (b : Int) ≠ no ∧ (∀ y ∈ na ++ nb, y ∉ n1 ∧ y ∉ n2 ∧ y ≠ no) ∧ (na ++ nb).Nodup ∧
    (∀ d ∈ c :: (p ++ (s, b) :: r).map (·.2), d ≠ a → d ≠ b → (d : Int) ∉ na ++ nb ∧ (d : Int) ≠ no) ∧
    (∀ up, inB lo' hi' up → lt lo' up = true → inB lo hi up ∧ ∀ m, Rise ((p ++ (up, m) :: r).map (·.1))) ∧
    ∀ (N' : Nodes) seg' nm' em', (∀ y, N y ≠ none → y ∉ na ++ nb → y ≠ no → N' y = N y) → Ch (Bn z N' (h + 1)) lo' hi' a seg' nm' em' → Ch (Bn z N' (h + 1)) lo hi c (p ++ (seg' ++ r)) (n1 ++ (nm' ++ n2)) (e1 ++ (em' ++ e2)) := by
 have hz' := hz
 obtain ⟨z1, z2, -⟩ := hz'
 have hc := M.ch
 have hko := M.ko
 have hin := M.inn
 have hkn := hc.kids_nd (fun x l u n e hx => hx.mem) (List.nodup_cons.1 M.nd).2
 have hkm := hc.kid (fun x l u n e hx => hx.mem)
 have hcs := hc
 rw [show p ++ (s, b) :: r = p ++ ([(s, b)] ++ r) from rfl] at hcs
 obtain ⟨a, lo', hi', n1, nm, n2, e1, em, e2, rfl, rfl, ha, hch, hlo, hhi, he1, he2, he3, hrep⟩ := Ch.seg (seg := [(s, b)]) hcs (fun x l u n e hx => hx.keys.1) hko.2 hin
 obtain ⟨na, nb, ea, eb, rfl, rfl, ba, bb⟩ := hch
 have bb : Bn z N (h + 1) (b : Int) s hi' nb eb := bb
 have hn0 := List.nodup_cons.1 M.nd
 have hn1 := List.nodup_append.1 hn0.2
 have hn2 := List.nodup_append.1 hn1.2.1
 have hn3 := List.nodup_append.1 hn2.1
 have hab : a ≠ b := fun e => by subst e; exact hn3.2.2 _ ba.mem _ bb.mem rfl
 have hnot : ∀ y ∈ na ++ nb, y ∉ n1 ∧ y ∉ n2 ∧ y ≠ no := fun y hy => ⟨fun h => hn1.2.2 y h y (List.mem_append_left _ hy) rfl, fun h => hn2.2.2 y hy y h rfl, fun e => hn0.1 (by rw [← e]; exact List.mem_append_right _ (List.mem_append_left _ hy))⟩
 have ham := hnot a (List.mem_append_left _ ba.mem)
 have hbm := hnot b (List.mem_append_right _ bb.mem)
 have hg : (c :: (p ++ (s, b) :: r).map (·.2))[p.length]? = some a := by rw [← getLast_kid]; exact ha
 have hgb : (c :: (p ++ (s, b) :: r).map (·.2))[p.length + 1]? = some b := by simp
 have hko' := hko.2
 rw [List.map_append, List.map_cons] at hko'
 obtain ⟨k1, k2, k3⟩ := List.pairwise_append.1 hko'
 have k4 := List.pairwise_cons.1 k2
 have hs := hin s (by simp)
 have hlo2 : lt s lo' = false ∧ lt lo' lo = false := by
  rw [hlo]
  cases hgl : p.getLast? with
  | none => exact ⟨hs.1, lt_irrefl _⟩
  | some q =>
    have hq : q.1 ∈ p.map (·.1) := List.mem_map.2 ⟨q, List.mem_of_getLast? hgl, rfl⟩
    exact ⟨lt_asymm (k3 q.1 hq s (by simp)), (hin q.1 (by rw [List.map_append]; exact List.mem_append_left _ hq)).1⟩
 have hhi2 : ∀ u, hi' = some u → lt s u = true := fun u hu => by
  rw [hhi] at hu
  cases r with
  | nil => simp at hu; exact hs.2 u hu
  | cons q r => simp at hu; rw [← hu]; exact k4.1 q.1 (by simp)
 refine ⟨a, lo', hi', n1, na, nb, n2, e1, ea, eb, e2, rfl, rfl, hg, hab, ba, bb, ⟨hlo2.1, hhi2⟩, hs.1, ham.2.2, hbm.2.2, hnot, hn2.1, fun d hd hda hdb => ?_, fun up hu1 hu2 => ?_, fun N' seg' nm' em' hag hch' => ?_⟩
 ·-- another kid stands elsewhere
  refine ⟨fun hm => ?_, fun e => hn0.1 (by rw [← e]; exact hkm d hd)⟩
  -- change the two for one page of the same numbers: kids stay apart
  have hd' : d ∈ c :: (p ++ ([] ++ r) : List (Bytes × Nat)).map (·.2) := by
   simp only [List.nil_append, List.map_append, List.map_cons, List.mem_cons, List.mem_append] at hd ⊢
   rcases hd with h | h | h | h
   ·exact .inl h
   ·exact .inr (.inl h)
   ·exact absurd h hdb
   ·exact .inr (.inr h)
  -- seen as one page, its number is a's alone
  have hT : Ch (fun x l u n e => x ∈ n ∧ ∀ y ∈ n, y ∈ na ++ nb → x = (a : Int)) lo hi c (p ++ ([] ++ r)) (n1 ++ ((na ++ nb) ++ n2)) (e1 ++ ((ea ++ eb) ++ e2)) :=
   hrep _ [] (na ++ nb) (ea ++ eb) (fun x l u n e hx hn => ⟨hx.mem, fun y hy hyn => by
    rcases hn with hn | hn
    ·exact absurd (hn y hy) (hnot y hyn).1
    ·exact absurd (hn y hy) (hnot y hyn).2.1⟩) ⟨List.mem_append_left _ ba.mem, fun _ _ _ => rfl⟩
  have key : ∀ {lo c ns es} {q : List (Bytes × Nat)}, Ch (fun x l u n e => x ∈ n ∧ ∀ y ∈ n, y ∈ na ++ nb → x = (a : Int)) lo hi c q ns es → ∀ d ∈ c :: q.map (·.2), (d : Int) ∈ na ++ nb → d = a := by
   intro lo c ns es q
   induction q generalizing lo c ns es with
   | nil =>
     intro h d hd hm
     simp at hd; subst hd
     exact Int.ofNat.inj (h.2 _ h.1 hm)
   | cons q r ih =>
     obtain ⟨k, d'⟩ := q
     rintro ⟨m1, m2, f1, f2, rfl, rfl, g1, g2⟩ d hd hm
     rcases List.mem_cons.1 hd with rfl | hd
     ·exact Int.ofNat.inj (g1.2 _ g1.1 hm)
     ·exact ih g2 d (by simpa using hd) hm
  exact hda (key hT d hd' hm)
 ·refine ⟨⟨le_trans hlo2.2 (le_of_lt hu2), fun u hu => ?_⟩, fun m => ?_⟩
  ·cases r with
   | nil => exact hu1.2 u (by rw [hhi, hu]; rfl)
   | cons q r => exact lt_trans (hu1.2 q.1 (by rw [hhi]; rfl)) ((hin q.1 (by simp)).2 u hu)
  ·rw [List.map_append, List.map_cons]
   refine List.pairwise_append.2 ⟨k1, List.pairwise_cons.2 ⟨fun y hy => ?_, k4.2⟩, fun x hx y hy => ?_⟩
   ·cases r with
    | nil => cases hy
    | cons q r =>
      have h1 := hu1.2 q.1 (by rw [hhi]; rfl)
      rw [List.map_cons] at hy
      rcases List.mem_cons.1 hy with rfl | hy
      ·exact h1
      ·exact lt_trans h1 ((List.pairwise_cons.1 k4.2).1 y hy)
   ·rcases List.mem_cons.1 hy with rfl | hy
    ·cases hgl : p.getLast? with
     | none => have : p = [] := by simpa using hgl
               subst this; cases hx
     | some q =>
       have hq : lo' = q.1 := by rw [hlo, hgl]; rfl
       rw [hq] at hu2
       obtain ⟨t, rfl⟩ := List.getLast?_eq_some_iff.1 hgl
       rw [List.map_append] at hx k1
       rcases List.mem_append.1 hx with hx | hx
       ·exact lt_trans ((List.pairwise_append.1 k1).2.2 x hx q.1 (by simp)) hu2
       ·simp at hx; subst hx; exact hu2
    ·exact k3 x hx y (List.mem_cons_of_mem _ hy)
 ·refine hrep _ seg' nm' em' (fun x l u n e hx hn => hx.move fun y hy => hag y (hx.some y hy) (fun hm => ?_) (fun e => ?_)) hch'
  ·rcases hn with hn | hn
   ·exact (hnot y hm).1 (hn y hy)
   ·exact (hnot y hm).2.1 (hn y hy)
  ·subst e
   rcases hn with hn | hn
   ·exact hn0.1 (List.mem_append_left _ (hn y hy))
   ·exact hn0.1 (List.mem_append_right _ (List.mem_append_right _ (hn y hy)))
end
section
variable {z h : Nat} {N N2 : Nodes} {no : Int} {lo : Bytes} {hi : Option Bytes} {ns ns2 : List Int} {es : Es} {c x a b : Nat} {p r ps ps2 : List (Bytes × Nat)} {s : Bytes}
theorem keysOk_sub {l m : List Bytes} (h : keysOk m) (hs : l.Sublist m) : keysOk l := ⟨fun k hk => h.1 k (hs.subset hk), h.2.sublist hs⟩
theorem Mid.fin (M : Mid z h N no lo hi c ps ns es x) (hz : sizeOk z) (h1 : N2 no = some (innNd c ps2)) (h2 : keysOk (ps2.map (·.1))) (h3 : ps2.length + 1 ≤ orderE z) (h4 : ∀ y ∈ ps2, y.2 ≠ 0) (h5 : ∀ k ∈ ps2.map (·.1), inB lo hi k) (h6 : Ch (Bn z N2 (h + 1)) lo hi c ps2 ns2 es) (hx : x = a ∨ x = b)
  (hk : ∀ d ∈ c :: ps2.map (·.2), d ≠ a → d ≠ b → d ∈ c :: ps.map (·.2)) (hout : ∀ d ∈ c :: ps.map (·.2), d ≠ a → d ≠ b → N2 (d : Int) = N (d : Int)) (ha : Full z N2 a) (hb : b ∈ c :: ps2.map (·.2) → Full z N2 b) : Bn z N2 (h + 2) no lo hi (no :: ns2) es := by
 refine Bn.of_inner (by have := hz.1; omega) h1 h2 h3 ⟨M.nz.1, h4⟩ h5 (fun d hd => ?_) h6
 by_cases e1 : d = a
 ·rw [e1]; exact ha
 ·by_cases e2 : d = b
  ·subst e2; exact hb hd
  ·have hd' := hk d hd e1 e2
   have hne : d ≠ x := fun e => by rcases hx with h | h <;> subst h <;> contradiction
   intro m hm
   rw [hout d hd' e1 e2] at hm
   exact M.full d hd' hne m hm
theorem join_in {lo' : Bytes} {hi' : Option Bytes} {ea eb : Es} (h1 : ∀ y ∈ ea, inB lo' (some s) y.1) (h2 : ∀ y ∈ eb, inB s hi' y.1) (hs : inB lo' hi' s) : ∀ y ∈ ea ++ eb, inB lo' hi' y.1 := fun y hy => by
 rcases List.mem_append.1 hy with hy | hy
 ·exact ⟨(h1 y hy).1, fun u hu => lt_trans ((h1 y hy).2 s rfl) (hs.2 u hu)⟩
 ·exact ⟨le_trans hs.1 (h2 y hy).1, (h2 y hy).2⟩
theorem join_es {lo' : Bytes} {hi' : Option Bytes} {ea eb : Es} (ha : EsOk z ea) (hb : EsOk z eb) (h1 : ∀ y ∈ ea, inB lo' (some s) y.1) (h2 : ∀ y ∈ eb, inB s hi' y.1) : EsOk z (ea ++ eb) := by
 refine ⟨fun y hy => ?_, ?_⟩
 ·rcases List.mem_append.1 hy with hy | hy
  ·exact ha.one y hy
  ·exact hb.one y hy
 ·rw [List.map_append]
  refine List.pairwise_append.2 ⟨ha.rise, hb.rise, fun k hk k' hk' => ?_⟩
  obtain ⟨y, hy, rfl⟩ := List.mem_map.1 hk
  obtain ⟨y', hy', rfl⟩ := List.mem_map.1 hk'
  exact lt_le_trans ((h1 y hy).2 s rfl) (h2 y' hy').1
theorem mid_sub (M : Mid z h N no lo hi c (p ++ (s, b) :: r) ns es x) : keysOk ((p ++ r).map (·.1)) ∧ (p ++ r).length + 1 ≤ orderE z ∧ (∀ y ∈ p ++ r, y.2 ≠ 0) ∧ ∀ k ∈ (p ++ r).map (·.1), inB lo hi k := by
 have hs : (p ++ r).Sublist (p ++ (s, b) :: r) := (List.Sublist.refl p).append (List.sublist_cons_self _ _)
 have hl := M.len
 simp only [List.length_append, List.length_cons] at hl
 exact ⟨keysOk_sub M.ko (hs.map _), by simp only [List.length_append]; omega, fun y hy => M.nz.2 y (hs.subset hy), fun k hk => M.inn k ((hs.map _).subset hk)⟩
theorem kids_sub : ∀ d ∈ c :: (p ++ r).map (·.2), d ∈ c :: (p ++ (s, b) :: r).map (·.2) := fun d hd => by
 simp only [List.map_append, List.map_cons, List.mem_cons, List.mem_append] at hd ⊢
 rcases hd with h | h | h
 ·exact .inl h
 ·exact .inr (.inl h)
 ·exact .inr (.inr (.inr h))
theorem kids_same {up : Bytes} : ∀ d, d ∈ c :: (p ++ (up, b) :: r).map (·.2) ↔ d ∈ c :: (p ++ (s, b) :: r).map (·.2) := fun d => by
 simp only [List.map_append, List.map_cons]
theorem mid_up {up : Bytes} (M : Mid z h N no lo hi c (p ++ (s, b) :: r) ns es x) (h1 : inB lo hi up) (h2 : Rise ((p ++ (up, b) :: r).map (·.1))) (h3 : 1 ≤ up.length ∧ up.length ≤ 64) : keysOk ((p ++ (up, b) :: r).map (·.1)) ∧ (p ++ (up, b) :: r).length + 1 ≤ orderE z ∧ (∀ y ∈ p ++ (up, b) :: r, y.2 ≠ 0) ∧ ∀ k ∈ (p ++ (up, b) :: r).map (·.1), inB lo hi k := by
 have hl := M.len
 have hb : b ≠ 0 := M.nz.2 (s, b) (by simp)
 simp only [List.length_append, List.length_cons] at hl ⊢
 refine ⟨⟨fun k hk => ?_, h2⟩, hl, fun y hy => ?_, fun k hk => ?_⟩
 ·rw [List.map_append, List.map_cons] at hk
  rcases List.mem_append.1 hk with hk | hk
  ·exact M.ko.1 k (by rw [List.map_append]; exact List.mem_append_left _ hk)
  ·rcases List.mem_cons.1 hk with rfl | hk
   ·exact h3
   ·exact M.ko.1 k (by rw [List.map_append, List.map_cons]; exact List.mem_append_right _ (List.mem_cons_of_mem _ hk))
 ·rcases List.mem_append.1 hy with hy | hy
  ·exact M.nz.2 y (List.mem_append_left _ hy)
  ·rcases List.mem_cons.1 hy with rfl | hy
   ·exact hb
   ·exact M.nz.2 y (List.mem_append_right _ (List.mem_cons_of_mem _ hy))
 ·rw [List.map_append, List.map_cons] at hk
  rcases List.mem_append.1 hk with hk | hk
  ·exact M.inn k (by rw [List.map_append]; exact List.mem_append_left _ hk)
  ·rcases List.mem_cons.1 hk with rfl | hk
   ·exact h1
   ·exact M.inn k (by rw [List.map_append, List.map_cons]; exact List.mem_append_right _ (List.mem_cons_of_mem _ hk))
theorem ev_merge {n1 nm nm' n2 : List Int} {na nn : Nd} (hn : (no :: (n1 ++ (nm ++ n2))).Nodup) (ha : (a : Int) ∈ nm) (hb : (b : Int) ∈ nm) (hab : (a : Int) ≠ b) (h1 : nm'.Nodup) (h2 : ∀ y, y ∈ nm' ↔ y ∈ nm ∧ y ≠ b) : Ev N (updI (updI (updI N a (some na)) b none) no (some nn)) (no :: (n1 ++ (nm ++ n2))) (no :: (n1 ++ (nm' ++ n2))) := by
 have hn0 := List.nodup_cons.1 hn
 have hn1 := List.nodup_append.1 hn0.2
 have hn2 := List.nodup_append.1 hn1.2.1
 have hsub : ∀ y ∈ nm', y ∈ nm := fun y hy => ((h2 y).1 hy).1
 have hnd : (no :: (n1 ++ (nm' ++ n2))).Nodup := by
  refine List.nodup_cons.2 ⟨fun hm => hn0.1 ?_, List.nodup_append.2 ⟨hn1.1, List.nodup_append.2 ⟨h1, hn2.2.1, fun u hu v hv => hn2.2.2 u (hsub u hu) v hv⟩, fun u hu v hv => hn1.2.2 u hu v ?_⟩⟩
  ·simp only [List.mem_append] at hm ⊢
   exact hm.imp id (.imp (hsub _) id)
  ·simp only [List.mem_append] at hv ⊢
   exact hv.imp (hsub _) id
 have hbin : (b : Int) ∈ no :: (n1 ++ (nm ++ n2)) := List.mem_cons_of_mem _ (List.mem_append_right _ (List.mem_append_left _ hb))
 have hain : (a : Int) ∈ no :: (n1 ++ (nm ++ n2)) := List.mem_cons_of_mem _ (List.mem_append_right _ (List.mem_append_left _ ha))
 refine ((Ev.set hn hain).trans (Ev.del hnd (fun y hy => ?_) (fun y hy => ?_) hbin)).trans (Ev.set hnd (List.mem_cons_self ..))
 ·simp only [List.mem_cons, List.mem_append] at hy ⊢
  exact hy.imp id (.imp id (.imp (hsub y) id))
 ·by_cases e : y = (b : Int)
  ·exact .inr e
  ·left
   simp only [List.mem_cons, List.mem_append] at hy ⊢
   exact hy.imp id (.imp id (.imp (fun h => (h2 y).2 ⟨h, e⟩) id))
theorem ev_even {n1 nm nm' n2 : List Int} {na nb nn : Nd} (hn : (no :: (n1 ++ (nm ++ n2))).Nodup) (ha : (a : Int) ∈ nm) (hb : (b : Int) ∈ nm) (h1 : nm'.Nodup) (h2 : ∀ y, y ∈ nm' ↔ y ∈ nm) : Ev N (updI (updI (updI N a (some na)) b (some nb)) no (some nn)) (no :: (n1 ++ (nm ++ n2))) (no :: (n1 ++ (nm' ++ n2))) := by
 have hbin : (b : Int) ∈ no :: (n1 ++ (nm ++ n2)) := List.mem_cons_of_mem _ (List.mem_append_right _ (List.mem_append_left _ hb))
 have hain : (a : Int) ∈ no :: (n1 ++ (nm ++ n2)) := List.mem_cons_of_mem _ (List.mem_append_right _ (List.mem_append_left _ ha))
 have e := ((Ev.set (n := na) (N := N) hn hain).trans (Ev.set (n := nb) hn hbin)).trans (Ev.set (n := nn) hn (List.mem_cons_self ..))
 have hmem : ∀ y, y ∈ no :: (n1 ++ (nm' ++ n2)) ↔ y ∈ no :: (n1 ++ (nm ++ n2)) := fun y => by simp only [List.mem_cons, List.mem_append, h2 y]
 have hn0 := List.nodup_cons.1 hn
 have hn1 := List.nodup_append.1 hn0.2
 have hn2 := List.nodup_append.1 hn1.2.1
 refine ⟨List.nodup_cons.2 ⟨fun hm => hn0.1 ?_, List.nodup_append.2 ⟨hn1.1, List.nodup_append.2 ⟨h1, hn2.2.1, fun u hu v hv => hn2.2.2 u ((h2 u).1 hu) v hv⟩, fun u hu v hv => hn1.2.2 u hu v ?_⟩⟩, fun y hy => e.d1 y ((hmem y).1 hy), e.d2, fun y hy => (e.d3 y hy).imp (hmem y).2 id⟩
 ·simp only [List.mem_append, h2] at hm ⊢; exact hm
 ·simp only [List.mem_append, h2] at hv ⊢; exact hv

theorem fill_leaf1 {ea eb : Es} (M : Mid z 0 N no lo hi c (p ++ (s, b) :: r) ns es x) (hz : sizeOk z) (hg : (c :: (p ++ (s, b) :: r).map (·.2))[p.length]? = some a) (hx : x = a ∨ x = b) (hA : N (a : Int) = some (leafNd ea)) (hB : N (b : Int) = some (leafNd eb)) (hby : 3 + entB (ea ++ eb) ≤ z) :
  ∃ ns2, Bn z (updI (updI (updI N a (some (leafNd (ea ++ eb)))) b none) no (some (innNd c (p ++ r)))) 2 no lo hi (no :: ns2) es ∧ Ev N (updI (updI (updI N a (some (leafNd (ea ++ eb)))) b none) no (some (innNd c (p ++ r)))) (no :: ns) (no :: ns2) := by
 obtain ⟨a', lo', hi', n1, na, nb, n2, e1, ea', eb', e2, rfl, rfl, hg', hab, ba, bb, hs, -, han, hbn, hnot, hnd, hoth, -, hrep⟩ := M.pair hz
 rw [hg] at hg'; cases hg'
 have hz' := hz
 obtain ⟨z1, z2, -⟩ := hz'
 have hin1 := ba.keys.1
 have hin2 := bb.keys.1
 obtain ⟨hA', rfl, oka, -, -⟩ := ba.leaf (by omega)
 obtain ⟨hB', rfl, okb, -, -⟩ := bb.leaf (by omega)
 have ea_eq : ea = ea' := by
  rw [hA] at hA'
  have := congrArg (fun n : Nd => n.keys.zip n.vals) (Option.some.inj hA')
  simpa [leafNd, zip_es] using this
 have eb_eq : eb = eb' := by
  rw [hB] at hB'
  have := congrArg (fun n : Nd => n.keys.zip n.vals) (Option.some.inj hB')
  simpa [leafNd, zip_es] using this
 subst ea_eq
 subst eb_eq
 have hab' : (a : Int) ≠ (b : Int) := fun e => hab (Int.ofNat.inj e)
 obtain ⟨q1, q2, q3, q4⟩ := mid_sub M
 have hNa : (updI (updI (updI N a (some (leafNd (ea ++ eb)))) b none) no (some (innNd c (p ++ r)))) (a : Int) = some (leafNd (ea ++ eb)) := by rw [updI_ne han, updI_ne hab', updI_same]
 have hag : ∀ y, N y ≠ none → y ∉ [(a : Int)] ++ [(b : Int)] → y ≠ no → (updI (updI (updI N a (some (leafNd (ea ++ eb)))) b none) no (some (innNd c (p ++ r)))) y = N y := fun y _ hy hyn => by
  simp at hy
  rw [updI_ne hyn, updI_ne hy.2, updI_ne hy.1]
 have hfull : ¬ (leafNd (ea ++ eb)).low z := by
  rw [leafNd_low, entB_app]
  have hw : Full z N a ∨ Full z N b := by
   rcases hx with rfl | rfl
   ·exact .inr (M.full b (by simp) (fun e => hab e.symm))
   ·exact .inl (M.full a (List.mem_of_getElem? hg) hab)
  rcases hw with hw | hw
  ·have := hw _ hA; rw [leafNd_low] at this; omega
  ·have := hw _ hB; rw [leafNd_low] at this; omega
 refine ⟨n1 ++ ([(a : Int)] ++ n2), M.fin hz (updI_same _ _ _) q1 q2 q3 q4 (hrep _ [] [(a : Int)] (ea ++ eb) hag ?_) hx (fun d hd _ _ => kids_sub d hd) (fun d hd h1 h2 => ?_) (fun m hm => by rw [hNa] at hm; cases hm; exact hfull) (fun hb => ?_), ev_merge M.nd (by simp) (by simp) hab' (by simp) (fun y => ?_)⟩
 ·exact Bn.of_leaf (by omega) hNa (join_es oka okb hin1 hin2) hby (join_in hin1 hin2 hs)
 ·have := hoth d hd h1 h2
  have h3 : (d : Int) ≠ (a : Int) := fun e => h1 (Int.ofNat.inj e)
  have h4 : (d : Int) ≠ (b : Int) := fun e => h2 (Int.ofNat.inj e)
  rw [updI_ne this.2, updI_ne h4, updI_ne h3]
 ·intro m hm
  rw [updI_ne hbn, updI_same] at hm; cases hm
 ·simp only [List.mem_append, List.mem_singleton]
  constructor
  ·rintro rfl; exact ⟨.inl rfl, hab'⟩
  ·rintro ⟨h | h, h2⟩
   ·exact h
   ·exact absurd h h2
theorem fill_leaf2 {ea eb : Es} (M : Mid z 0 N no lo hi c (p ++ (s, b) :: r) ns es x) (hz : sizeOk z) (hg : (c :: (p ++ (s, b) :: r).map (·.2))[p.length]? = some a) (hx : x = a ∨ x = b) (hA : N (a : Int) = some (leafNd ea)) (hB : N (b : Int) = some (leafNd eb)) (hby : z < 3 + entB (ea ++ eb)) (hlow : (leafNd ea).low z ∨ (leafNd eb).low z) :
  ∃ up, ((ea ++ eb)[halfOf (sizes (ea ++ eb))]?).map (·.1) = some up ∧ ∃ ns2, Bn z (updI (updI (updI N a (some (leafNd ((ea ++ eb).take (halfOf (sizes (ea ++ eb))))))) b (some (leafNd ((ea ++ eb).drop (halfOf (sizes (ea ++ eb))))))) no (some (innNd c (p ++ (up, b) :: r)))) 2 no lo hi (no :: ns2) es ∧ Ev N (updI (updI (updI N a (some (leafNd ((ea ++ eb).take (halfOf (sizes (ea ++ eb))))))) b (some (leafNd ((ea ++ eb).drop (halfOf (sizes (ea ++ eb))))))) no (some (innNd c (p ++ (up, b) :: r)))) (no :: ns) (no :: ns2) := by
 obtain ⟨a', lo', hi', n1, na, nb, n2, e1, ea', eb', e2, rfl, rfl, hg', hab, ba, bb, hs, -, han, hbn, hnot, hnd, hoth, hup, hrep⟩ := M.pair hz
 rw [hg] at hg'; cases hg'
 have hz' := hz
 obtain ⟨z1, z2, -⟩ := hz'
 have hin1 := ba.keys.1
 have hin2 := bb.keys.1
 obtain ⟨hA', rfl, oka, la, -⟩ := ba.leaf (by omega)
 obtain ⟨hB', rfl, okb, lb, -⟩ := bb.leaf (by omega)
 have ea_eq : ea = ea' := by
  rw [hA] at hA'
  have := congrArg (fun n : Nd => n.keys.zip n.vals) (Option.some.inj hA')
  simpa [leafNd, zip_es] using this
 have eb_eq : eb = eb' := by
  rw [hB] at hB'
  have := congrArg (fun n : Nd => n.keys.zip n.vals) (Option.some.inj hB')
  simpa [leafNd, zip_es] using this
 subst ea_eq
 subst eb_eq
 have hab' : (a : Int) ≠ (b : Int) := fun e => hab (Int.ofNat.inj e)
 have hE := join_es oka okb hin1 hin2
 have hI := join_in hin1 hin2 hs
 rw [leafNd_low, leafNd_low] at hlow
 obtain ⟨a1, a2, a3, a4, a5, a6⟩ := cut_ok hz hE hby (by rw [entB_app]; unfold mostE; omega)
 revert hE hI a1 a2 a3 a4 a5 a6
 generalize hEe : ea ++ eb = E
 generalize halfOf (sizes E) = m
 intro hE hI a1 a2 a3 a4 a5 a6
 have hgE : E[m]? = some E[m] := List.getElem?_eq_getElem a2
 have hmem : E[m] ∈ E := List.getElem_mem a2
 have hgk : (E.map (·.1))[m]? = some E[m].1 := by rw [List.getElem?_map, hgE]; rfl
 have hl : ∀ y ∈ E.take m, lt y.1 E[m].1 = true := fun y hy => by
  obtain ⟨j, hj, rfl⟩ := List.getElem_of_mem hy
  have hj' : j < m := by simp at hj; omega
  have hx' : (E.map (·.1))[j]? = some ((E.take m)[j]).1 := by rw [List.getElem?_map, List.getElem?_eq_getElem (show j < E.length by omega)]; simp
  exact hE.rise.get hj' hx' hgk
 have hgt : ∀ y ∈ E.drop m, lt y.1 E[m].1 = false := fun y hy => by
  obtain ⟨j, hj, rfl⟩ := List.getElem_of_mem hy
  simp only [List.getElem_drop]
  rcases Nat.eq_zero_or_pos j with h0 | h0
  ·subst h0; exact lt_irrefl _
  ·refine lt_asymm (hE.rise.get (show m < m + j by omega) hgk ?_)
   rw [List.getElem?_map, List.getElem?_eq_getElem (by simp at hj; omega)]
   rfl
 have hlo' : lt lo' E[m].1 = true := by
  obtain ⟨y, hy⟩ : ∃ y, y ∈ E.take m := by
   cases hE' : E.take m with
   | nil => have := congrArg List.length hE'; rw [List.length_take, List.length_nil] at this; omega
   | cons y _ => exact ⟨y, List.mem_cons_self ..⟩
  exact le_lt_trans (hI y (List.mem_of_mem_take hy)).1 (hl y hy)
 obtain ⟨u1, u2⟩ := hup E[m].1 (hI _ hmem) hlo'
 obtain ⟨q1, q2, q3, q4⟩ := mid_up M u1 (u2 b) ⟨(hE.one _ hmem).1, (hE.one _ hmem).2.1⟩
 refine ⟨E[m].1, by rw [hgE]; rfl, n1 ++ (([(a : Int)] ++ [(b : Int)]) ++ n2), ?_, ev_even M.nd (by simp) (by simp) (by simp [hab']) (fun y => Iff.rfl)⟩
 have hNa : (updI (updI (updI N a (some (leafNd (E.take m)))) b (some (leafNd (E.drop m)))) no (some (innNd c (p ++ (E[m].1, b) :: r)))) (a : Int) = some (leafNd (E.take m)) := by rw [updI_ne han, updI_ne hab', updI_same]
 have hNb : (updI (updI (updI N a (some (leafNd (E.take m)))) b (some (leafNd (E.drop m)))) no (some (innNd c (p ++ (E[m].1, b) :: r)))) (b : Int) = some (leafNd (E.drop m)) := by rw [updI_ne hbn, updI_same]
 have hch := hrep (updI (updI (updI N a (some (leafNd (E.take m)))) b (some (leafNd (E.drop m)))) no (some (innNd c (p ++ (E[m].1, b) :: r)))) [(E[m].1, b)] ([(a : Int)] ++ [(b : Int)]) (E.take m ++ E.drop m) (fun y _ hy hyn => by
   simp at hy
   rw [updI_ne hyn, updI_ne hy.2, updI_ne hy.1]) ⟨[(a : Int)], [(b : Int)], E.take m, E.drop m, rfl, rfl, Bn.of_leaf (by omega) hNa (hE.sub (List.take_sublist _ _)) a3 (fun y hy => ⟨(hI y (List.mem_of_mem_take hy)).1, fun u hu => by cases hu; exact hl y hy⟩), Bn.of_leaf (by omega) hNb (hE.sub (List.drop_sublist _ _)) a4 (fun y hy => ⟨hgt y hy, (hI y (List.mem_of_mem_drop hy)).2⟩)⟩
 rw [List.take_append_drop] at hch
 have hfin := M.fin hz (updI_same _ _ _) q1 q2 q3 q4 (ns2 := n1 ++ (([(a : Int)] ++ [(b : Int)]) ++ n2)) (N2 := updI (updI (updI N a (some (leafNd (E.take m)))) b (some (leafNd (E.drop m)))) no (some (innNd c (p ++ (E[m].1, b) :: r)))) (by rw [hEe]; exact hch) hx (fun d hd _ _ => (kids_same d).1 hd) (fun d hd h1 h2 => by
  have := hoth d hd h1 h2
  have h3 : (d : Int) ≠ (a : Int) := fun e => h1 (Int.ofNat.inj e)
  have h4 : (d : Int) ≠ (b : Int) := fun e => h2 (Int.ofNat.inj e)
  rw [updI_ne this.2, updI_ne h4, updI_ne h3]) (fun m hm => by rw [hNa] at hm; cases hm; exact a5) (fun _ m hm => by rw [hNb] at hm; cases hm; exact a6)
 rw [hEe] at hfin
 exact hfin
end
section
variable {z h : Nat} {N N2 : Nodes} {no : Int} {lo : Bytes} {hi : Option Bytes} {ns ns2 : List Int} {es : Es} {c x a b : Nat} {p r ps ps2 : List (Bytes × Nat)} {s : Bytes}
theorem innNd_inj {c c' : Nat} {ps ps' : List (Bytes × Nat)} (h : innNd c ps = innNd c' ps') : c = c' ∧ ps = ps' := by
 have h1 : ps.map (·.1) = ps'.map (·.1) := congrArg Nd.keys h
 have h2 : c :: ps.map (·.2) = c' :: ps'.map (·.2) := congrArg Nd.kids h
 obtain ⟨h3, h4⟩ := List.cons.inj h2
 refine ⟨h3, ?_⟩
 have zz : ∀ q : List (Bytes × Nat), q = (q.map (·.1)).zip (q.map (·.2)) := fun q => by
  induction q with
  | nil => rfl
  | cons x r ih => simp only [List.map_cons, List.zip_cons_cons]; rw [← ih]
 rw [zz ps, zz ps', h1, h4]
theorem Bn.ne (hz : sizeOk z) (s : Bn z N h no lo hi ns es) (hf : ∀ m, N no = Option.some m → ¬ m.low z) : es ≠ [] := by
 obtain ⟨z1, z2, -⟩ := hz
 induction h generalizing no lo hi ns es with
 | zero => exact s.elim
 | succ h ih =>
   cases h with
   | zero =>
     obtain ⟨hn, -, -, -, -⟩ := s.leaf (by omega)
     intro e
     have := hf _ hn
     rw [leafNd_low, e] at this
     simp at this; omega
   | succ h =>
     obtain ⟨c, ps, ns', hn, rfl, -, -, -, -, hfull, hc⟩ := s.inner (by omega)
     cases ps with
     | nil => exact ih hc (hfull c (by simp))
     | cons q r =>
       obtain ⟨k, d⟩ := q
       obtain ⟨n1, n2, e1, e2, rfl, rfl, h1, h2⟩ := hc
       have := ih h1 (hfull c (by simp))
       intro e
       exact this (List.append_eq_nil_iff.1 e).1
theorem keys_gt (hz : sizeOk z) (hc : Ch (Bn z N h) lo hi c ps ns es) (hf : Full z N c) (hr : Rise (ps.map (·.1))) : ∀ k ∈ ps.map (·.1), lt lo k = true := by
 cases ps with
 | nil => intro k hk; cases hk
 | cons q r =>
   obtain ⟨k1, d⟩ := q
   obtain ⟨n1, n2, e1, e2, rfl, rfl, h1, h2⟩ := hc
   have hne := h1.ne hz hf
   have hk1 : lt lo k1 = true := by
    cases e1 with
    | nil => exact absurd rfl hne
    | cons y t =>
      have := h1.keys.1 y (List.mem_cons_self ..)
      exact le_lt_trans this.1 (this.2 k1 rfl)
   intro k hk
   rw [List.map_cons] at hk
   rcases List.mem_cons.1 hk with rfl | hk
   ·exact hk1
   ·exact lt_trans hk1 ((List.pairwise_cons.1 hr).1 k hk)
theorem inn_join {ca cb : Nat} {pa pb : List (Bytes × Nat)} {lo' : Bytes} {hi' : Option Bytes} {na nb : List Int} {ea eb : Es} (hz : sizeOk z) (hA : N (a : Int) = some (innNd ca pa)) (hB : N (b : Int) = some (innNd cb pb)) (ba : Bn z N (h + 2) a lo' (some s) na ea) (bb : Bn z N (h + 2) b s hi' nb eb) (hs : inB lo' hi' s) (hsl : 1 ≤ s.length ∧ s.length ≤ 64) (hnd : (na ++ nb).Nodup) :
  ∃ na' nb', na = (a : Int) :: na' ∧ nb = (b : Int) :: nb' ∧ keysOk ((pa ++ (s, cb) :: pb).map (·.1)) ∧ (ca ≠ 0 ∧ ∀ y ∈ pa ++ (s, cb) :: pb, y.2 ≠ 0) ∧ (∀ k ∈ (pa ++ (s, cb) :: pb).map (·.1), inB lo' hi' k) ∧ pa.length + 1 ≤ orderE z ∧ pb.length + 1 ≤ orderE z ∧
    (∀ d ∈ ca :: (pa ++ (s, cb) :: pb).map (·.2), Full z N d ∧ (d : Int) ∈ na' ++ nb') ∧
    ∀ N2 : Nodes, (∀ y ∈ na' ++ nb', N2 y = N y) → Ch (Bn z N2 (h + 1)) lo' hi' ca (pa ++ (s, cb) :: pb) (na' ++ nb') (ea ++ eb) := by
 have hz' := hz
 obtain ⟨z1, z2, -⟩ := hz'
 obtain ⟨c1, p1, na', h1, rfl, k1, l1, o1, i1, f1, ch1⟩ := ba.inner (by omega)
 obtain ⟨c2, p2, nb', h2, rfl, k2, l2, o2, i2, f2, ch2⟩ := bb.inner (by omega)
 rw [hA] at h1; obtain ⟨rfl, rfl⟩ := innNd_inj (Option.some.inj h1)
 rw [hB] at h2; obtain ⟨rfl, rfl⟩ := innNd_inj (Option.some.inj h2)
 have hgt := keys_gt hz ch2 (f2 cb (by simp)) k2.2
 have hk1 := ch1.kid (fun x l u n e hx => hx.mem)
 have hk2 := ch2.kid (fun x l u n e hx => hx.mem)
 refine ⟨na', nb', rfl, rfl, ⟨fun k hk => ?_, ?_⟩, ⟨o1.1, fun y hy => ?_⟩, fun k hk => ?_, l1, l2, fun d hd => ?_, fun N2 hag => ?_⟩
 ·rw [List.map_append, List.map_cons] at hk
  rcases List.mem_append.1 hk with hk | hk
  ·exact k1.1 k hk
  ·rcases List.mem_cons.1 hk with rfl | hk
   ·exact hsl
   ·exact k2.1 k hk
 ·rw [List.map_append, List.map_cons]
  refine List.pairwise_append.2 ⟨k1.2, List.pairwise_cons.2 ⟨hgt, k2.2⟩, fun u hu v hv => ?_⟩
  have hus := (i1 u hu).2 s rfl
  rcases List.mem_cons.1 hv with rfl | hv
  ·exact hus
  ·exact lt_trans hus (hgt v hv)
 ·rcases List.mem_append.1 hy with hy | hy
  ·exact o1.2 y hy
  ·rcases List.mem_cons.1 hy with rfl | hy
   ·exact o2.1
   ·exact o2.2 y hy
 ·rw [List.map_append, List.map_cons] at hk
  rcases List.mem_append.1 hk with hk | hk
  ·exact ⟨(i1 k hk).1, fun u hu => lt_trans ((i1 k hk).2 s rfl) (hs.2 u hu)⟩
  ·rcases List.mem_cons.1 hk with rfl | hk
   ·exact hs
   ·exact ⟨le_trans hs.1 (i2 k hk).1, (i2 k hk).2⟩
 ·simp only [List.map_append, List.map_cons, List.mem_cons, List.mem_append] at hd
  have : d ∈ ca :: pa.map (·.2) ∨ d ∈ cb :: pb.map (·.2) := by
   simp only [List.mem_cons]
   rcases hd with h | h | h | h
   ·exact .inl (.inl h)
   ·exact .inl (.inr h)
   ·exact .inr (.inl h)
   ·exact .inr (.inr h)
  rcases this with h | h
  ·exact ⟨f1 d h, List.mem_append_left _ (hk1 d h)⟩
  ·exact ⟨f2 d h, List.mem_append_right _ (hk2 d h)⟩
 ·exact Ch.app.2 ⟨na', nb', ea, eb, rfl, rfl, ch1.mono (fun x l u n e hx hn => hx.move fun y hy => hag y (List.mem_append_left _ (hn y hy))), ch2.mono (fun x l u n e hx hn => hx.move fun y hy => hag y (List.mem_append_right _ (hn y hy)))⟩
theorem fill_inn1 {ca cb : Nat} {pa pb : List (Bytes × Nat)} (M : Mid z (h + 1) N no lo hi c (p ++ (s, b) :: r) ns es x) (hz : sizeOk z) (hg : (c :: (p ++ (s, b) :: r).map (·.2))[p.length]? = some a) (hx : x = a ∨ x = b) (hA : N (a : Int) = some (innNd ca pa)) (hB : N (b : Int) = some (innNd cb pb)) (hby : (pa ++ (s, cb) :: pb).length + 1 ≤ orderE z) :
  ∃ ns2, Bn z (updI (updI (updI N a (some (innNd ca (pa ++ (s, cb) :: pb)))) b none) no (some (innNd c (p ++ r)))) (h + 3) no lo hi (no :: ns2) es ∧ Ev N (updI (updI (updI N a (some (innNd ca (pa ++ (s, cb) :: pb)))) b none) no (some (innNd c (p ++ r)))) (no :: ns) (no :: ns2) := by
 obtain ⟨a', lo', hi', n1, na, nb, n2, e1, ea, eb, e2, rfl, rfl, hg', hab, ba, bb, hs, -, han, hbn, hnot, hnd, hoth, -, hrep⟩ := M.pair hz
 rw [hg] at hg'; cases hg'
 have hz' := hz
 obtain ⟨z1, z2, -⟩ := hz'
 have hab' : (a : Int) ≠ (b : Int) := fun e => hab (Int.ofNat.inj e)
 have hsl := M.ko.1 s (by simp)
 obtain ⟨na', nb', rfl, rfl, j1, j2, j3, j4, j5, j6, j7⟩ := inn_join hz hA hB ba bb hs hsl hnd
 obtain ⟨q1, q2, q3, q4⟩ := mid_sub M
 have hnd' := hnd
 simp only [List.cons_append, List.nodup_cons, List.nodup_append, List.mem_append, List.mem_cons, not_or] at hnd'
 obtain ⟨⟨d1, d2, d3⟩, d4, ⟨d5, d6⟩, d7⟩ := hnd'
 have hne : ∀ y ∈ na' ++ nb', y ≠ a ∧ y ≠ b ∧ y ≠ no := fun y hy => by
  rcases List.mem_append.1 hy with hy | hy
  ·exact ⟨fun e => d1 (e ▸ hy), fun e => d7 y hy b (.inl rfl) e, (hnot y (by simp [hy])).2.2⟩
  ·exact ⟨fun e => d3 (e ▸ hy), fun e => d5 (e ▸ hy), (hnot y (by simp [hy])).2.2⟩
 have hNa : (updI (updI (updI N a (some (innNd ca (pa ++ (s, cb) :: pb)))) b none) no (some (innNd c (p ++ r)))) (a : Int) = some (innNd ca (pa ++ (s, cb) :: pb)) := by rw [updI_ne han, updI_ne hab', updI_same]
 have hag : ∀ y ∈ na' ++ nb', (updI (updI (updI N a (some (innNd ca (pa ++ (s, cb) :: pb)))) b none) no (some (innNd c (p ++ r)))) y = N y := fun y hy => by
  obtain ⟨h1, h2, h3⟩ := hne y hy
  rw [updI_ne h3, updI_ne h2, updI_ne h1]
 have hfull : ¬ (innNd ca (pa ++ (s, cb) :: pb)).low z := by
  rw [innNd_low]
  simp only [List.length_append, List.length_cons]
  have hw : Full z N a ∨ Full z N b := by
   rcases hx with rfl | rfl
   ·exact .inr (M.full b (by simp) (fun e => hab e.symm))
   ·exact .inl (M.full a (List.mem_of_getElem? hg) hab)
  rcases hw with hw | hw
  ·have := hw _ hA; rw [innNd_low] at this; omega
  ·have := hw _ hB; rw [innNd_low] at this; omega
 refine ⟨n1 ++ (((a : Int) :: (na' ++ nb')) ++ n2), M.fin hz (updI_same _ _ _) q1 q2 q3 q4 (hrep _ [] ((a : Int) :: (na' ++ nb')) (ea ++ eb) (fun y _ hy hyn => ?_) ?_) hx (fun d hd _ _ => kids_sub d hd) (fun d hd h1 h2 => ?_) (fun m hm => by rw [hNa] at hm; cases hm; exact hfull) (fun hb => ?_), ev_merge M.nd (by simp) (by simp) hab' ?_ (fun y => ?_)⟩
 ·simp only [List.cons_append, List.mem_cons, List.mem_append, not_or] at hy
  rw [updI_ne hyn, updI_ne hy.2.2.1, updI_ne hy.1]
 ·exact Bn.of_inner (by omega) hNa j1 hby j2 j3 (fun d hd m hm => by rw [hag _ (j6 d hd).2] at hm; exact (j6 d hd).1 m hm) (j7 _ hag)
 ·have := hoth d hd h1 h2
  have h3 : (d : Int) ≠ (a : Int) := fun e => h1 (Int.ofNat.inj e)
  have h4 : (d : Int) ≠ (b : Int) := fun e => h2 (Int.ofNat.inj e)
  rw [updI_ne this.2, updI_ne h4, updI_ne h3]
 ·intro m hm
  rw [updI_ne hbn, updI_same] at hm; cases hm
 ·exact List.nodup_cons.2 ⟨fun hm => (hne _ hm).1 rfl, List.nodup_append.2 ⟨d4, d6, fun u hu v hv => d7 u hu v (.inr hv)⟩⟩
 ·simp only [List.cons_append, List.mem_cons, List.mem_append]
  constructor
  ·rintro (rfl | h | h)
   ·exact ⟨.inl rfl, hab'⟩
   ·exact ⟨.inr (.inl h), (hne y (List.mem_append_left _ h)).2.1⟩
   ·exact ⟨.inr (.inr (.inr h)), (hne y (List.mem_append_right _ h)).2.1⟩
  ·rintro ⟨h | h | h | h, h2⟩
   ·exact .inl h
   ·exact .inr (.inl h)
   ·exact absurd h h2
   ·exact .inr (.inr h)
theorem fill_inn2 {ca cb : Nat} {pa pb : List (Bytes × Nat)} (M : Mid z (h + 1) N no lo hi c (p ++ (s, b) :: r) ns es x) (hz : sizeOk z) (hg : (c :: (p ++ (s, b) :: r).map (·.2))[p.length]? = some a) (hx : x = a ∨ x = b) (hA : N (a : Int) = some (innNd ca pa)) (hB : N (b : Int) = some (innNd cb pb)) (hby : orderE z < (pa ++ (s, cb) :: pb).length + 1) :
  ∃ up c2, (pa ++ (s, cb) :: pb)[((pa ++ (s, cb) :: pb).length + 1) / 2 - 1]? = some (up, c2) ∧ ∃ ns2, Bn z (updI (updI (updI N a (some (innNd ca ((pa ++ (s, cb) :: pb).take (((pa ++ (s, cb) :: pb).length + 1) / 2 - 1))))) b (some (innNd c2 ((pa ++ (s, cb) :: pb).drop (((pa ++ (s, cb) :: pb).length + 1) / 2))))) no (some (innNd c (p ++ (up, b) :: r)))) (h + 3) no lo hi (no :: ns2) es ∧
    Ev N (updI (updI (updI N a (some (innNd ca ((pa ++ (s, cb) :: pb).take (((pa ++ (s, cb) :: pb).length + 1) / 2 - 1))))) b (some (innNd c2 ((pa ++ (s, cb) :: pb).drop (((pa ++ (s, cb) :: pb).length + 1) / 2))))) no (some (innNd c (p ++ (up, b) :: r)))) (no :: ns) (no :: ns2) := by
 obtain ⟨a', lo', hi', n1, na, nb, n2, e1, ea, eb, e2, rfl, rfl, hg', hab, ba, bb, hs, -, han, hbn, hnot, hnd, hoth, hup, hrep⟩ := M.pair hz
 rw [hg] at hg'; cases hg'
 have hz' := hz
 obtain ⟨z1, z2, -⟩ := hz'
 have hab' : (a : Int) ≠ (b : Int) := fun e => hab (Int.ofNat.inj e)
 have hsl := M.ko.1 s (by simp)
 obtain ⟨na', nb', rfl, rfl, j1, j2, j3, j4, j5, j6, j7⟩ := inn_join hz hA hB ba bb hs hsl hnd
 have hlen2 : (pa ++ (s, cb) :: pb).length + 1 ≤ 2 * orderE z := by simp only [List.length_append, List.length_cons]; omega
 revert j1 j2 j3 j6 j7 hby hlen2
 generalize pa ++ (s, cb) :: pb = K
 intro hby j1 j2 j3 j6 j7 hlen2
 obtain ⟨up, c2, hgu, m1, m2, f1, f2, em, ee, -, -, k1, k2, i1, i2, l1, l2, w1, w2, hupin, huplo, hupl, hc2⟩ := part_ok (j7 N (fun _ _ => rfl)) hz j1 hby hlen2 j2 j3
 have hmemm : ∀ y, y ∈ m1 ++ m2 ↔ y ∈ na' ++ nb' := fun y => by rw [em]
 obtain ⟨u1, u2⟩ := hup up hupin huplo
 obtain ⟨q1, q2, q3, q4⟩ := mid_up M u1 (u2 b) hupl
 have hnd' := hnd
 simp only [List.cons_append, List.nodup_cons, List.nodup_append, List.mem_append, List.mem_cons, not_or] at hnd'
 obtain ⟨⟨d1, d2, d3⟩, d4, ⟨d5, d6⟩, d7⟩ := hnd'
 have hne : ∀ y ∈ na' ++ nb', y ≠ a ∧ y ≠ b ∧ y ≠ no := fun y hy => by
  rcases List.mem_append.1 hy with hy | hy
  ·exact ⟨fun e => d1 (e ▸ hy), fun e => d7 y hy b (.inl rfl) e, (hnot y (by simp [hy])).2.2⟩
  ·exact ⟨fun e => d3 (e ▸ hy), fun e => d5 (e ▸ hy), (hnot y (by simp [hy])).2.2⟩
 have hndm : (m1 ++ m2).Nodup := by rw [← em]; exact List.nodup_append.2 ⟨d4, d6, fun u hu v hv => d7 u hu v (.inr hv)⟩
 obtain ⟨N2, hN2⟩ : ∃ N2, updI (updI (updI N a (some (innNd ca (K.take ((K.length + 1) / 2 - 1))))) b (some (innNd c2 (K.drop ((K.length + 1) / 2))))) no (some (innNd c (p ++ (up, b) :: r))) = N2 := ⟨_, rfl⟩
 have hNa : N2 (a : Int) = some (innNd ca (K.take ((K.length + 1) / 2 - 1))) := by rw [← hN2, updI_ne han, updI_ne hab', updI_same]
 have hNb : N2 (b : Int) = some (innNd c2 (K.drop ((K.length + 1) / 2))) := by rw [← hN2, updI_ne hbn, updI_same]
 have hNn : N2 no = some (innNd c (p ++ (up, b) :: r)) := by rw [← hN2, updI_same]
 have hout : ∀ y : Int, y ≠ a → y ≠ b → y ≠ no → N2 y = N y := fun y h1 h2 h3 => by rw [← hN2, updI_ne h3, updI_ne h2, updI_ne h1]
 have hag : ∀ y ∈ na' ++ nb', N2 y = N y := fun y hy => by
  obtain ⟨h1, h2, h3⟩ := hne y hy
  exact hout y h1 h2 h3
 obtain ⟨up', c2', hgu', m1', m2', f1', f2', em', ee', c1, c3, -⟩ := part_ok (j7 N2 hag) hz j1 hby hlen2 j2 j3
 rw [hgu] at hgu'; cases hgu'
 have hkf : ∀ d ∈ ca :: K.map (·.2), Full z N2 d := fun d hd m hm => by rw [hag _ (j6 d hd).2] at hm; exact (j6 d hd).1 m hm
 have hA2 : Bn z N2 (h + 2) a lo' (some up) ((a : Int) :: m1') f1' := Bn.of_inner (by omega) hNa k1 l1 ⟨j2.1, fun y hy => j2.2 y (List.mem_of_mem_take hy)⟩ i1 (fun d hd => hkf d (by
  rcases List.mem_cons.1 hd with rfl | hd
  ·simp
  ·rw [List.map_take] at hd; exact List.mem_cons_of_mem _ (List.mem_of_mem_take hd))) c1
 have hB2 : Bn z N2 (h + 2) b up hi' ((b : Int) :: m2') f2' := Bn.of_inner (by omega) hNb k2 l2 ⟨hc2, fun y hy => j2.2 y (List.mem_of_mem_drop hy)⟩ i2 (fun d hd => hkf d (by
  rcases List.mem_cons.1 hd with rfl | hd
  ·exact List.mem_cons_of_mem _ (List.mem_map.2 ⟨_, List.mem_of_getElem? hgu, rfl⟩)
  ·rw [List.map_drop] at hd; exact List.mem_cons_of_mem _ (List.mem_of_mem_drop hd))) c3
 have hmem' : ∀ y, y ∈ m1' ++ m2' ↔ y ∈ na' ++ nb' := fun y => by rw [em']
 have hndm' : (m1' ++ m2').Nodup := by rw [← em']; exact List.nodup_append.2 ⟨d4, d6, fun u hu v hv => d7 u hu v (.inr hv)⟩
 have hch := hrep N2 [(up, b)] (((a : Int) :: m1') ++ ((b : Int) :: m2')) (f1' ++ f2') (fun y _ hy hyn => by
  simp only [List.cons_append, List.mem_cons, List.mem_append, not_or] at hy
  exact hout y hy.1 hy.2.2.1 hyn) ⟨_, _, f1', f2', rfl, rfl, hA2, hB2⟩
 rw [← ee'] at hch
 refine ⟨up, c2, hgu, n1 ++ ((((a : Int) :: m1') ++ ((b : Int) :: m2')) ++ n2), ?_, ?_⟩
 ·rw [hN2]
  exact M.fin hz hNn q1 q2 q3 q4 hch hx (fun d hd _ _ => (kids_same d).1 hd) (fun d hd h1 h2 => hout d (fun e => h1 (Int.ofNat.inj e)) (fun e => h2 (Int.ofNat.inj e)) (hoth d hd h1 h2).2) (fun m hm => by rw [hNa] at hm; cases hm; exact w1) (fun _ m hm => by rw [hNb] at hm; cases hm; exact w2)
 ·refine ev_even M.nd (by simp) (by simp) ?_ (fun y => ?_)
  ·have hx := List.nodup_append.1 hndm'
   refine List.nodup_append.2 ⟨List.nodup_cons.2 ⟨fun hm => (hne _ ((hmem' _).1 (List.mem_append_left _ hm))).1 rfl, hx.1⟩, List.nodup_cons.2 ⟨fun hm => (hne _ ((hmem' _).1 (List.mem_append_right _ hm))).2.1 rfl, hx.2.1⟩, fun u hu v hv huv => ?_⟩
   subst huv
   rcases List.mem_cons.1 hu with rfl | hu
   ·rcases List.mem_cons.1 hv with hv | hv
    ·exact hab' hv
    ·exact (hne _ ((hmem' _).1 (List.mem_append_right _ hv))).1 rfl
   ·rcases List.mem_cons.1 hv with rfl | hv
    ·exact (hne _ ((hmem' _).1 (List.mem_append_left _ hu))).2.1 rfl
    ·exact hx.2.2 u hu u hv rfl
  ·have := hmem' y
   simp only [List.mem_append] at this
   simp only [List.cons_append, List.mem_cons, List.mem_append]
   constructor
   ·rintro (h | h | h | h)
    ·exact .inl h
    ·rcases this.1 (.inl h) with h | h
     ·exact .inr (.inl h)
     ·exact .inr (.inr (.inr h))
    ·exact .inr (.inr (.inl h))
    ·rcases this.1 (.inr h) with h | h
     ·exact .inr (.inl h)
     ·exact .inr (.inr (.inr h))
   ·rintro (h | h | h | h)
    ·exact .inl h
    ·rcases this.2 (.inl h) with h | h
     ·exact .inr (.inl h)
     ·exact .inr (.inr (.inr h))
    ·exact .inr (.inr (.inl h))
    ·rcases this.2 (.inr h) with h | h
     ·exact .inr (.inl h)
     ·exact .inr (.inr (.inr h))
end
def wayI (l : List Bytes) (k : Bytes) : Nat := if l[pos l k]? = some k then pos l k + 1 else pos l k
theorem wayI_le (l : List Bytes) (k : Bytes) : wayI l k ≤ l.length := by
 unfold wayI
 split
 ·rename_i h
  rcases Nat.lt_or_ge (pos l k) l.length with h' | h'
  ·omega
  ·rw [List.getElem?_eq_none h'] at h; cases h
 ·exact pos_le l k
theorem wayI_lo {l : List Bytes} {k : Bytes} : ∀ x ∈ l.take (wayI l k), lt k x = false := by
 intro x hx
 unfold wayI at hx
 split at hx
 ·rename_i h
  have hl : pos l k < l.length := by
   rcases Nat.lt_or_ge (pos l k) l.length with h' | h'
   ·exact h'
   ·rw [List.getElem?_eq_none h'] at h; cases h
  rw [List.take_succ_eq_append_getElem hl] at hx
  rcases List.mem_append.1 hx with hx | hx
  ·exact lt_asymm (pos_lt x hx)
  ·rw [List.getElem?_eq_getElem hl] at h
   simp at hx
   rw [hx, Option.some.inj h]; exact lt_irrefl _
 ·exact lt_asymm (pos_lt x hx)
theorem wayI_hi {l : List Bytes} {k : Bytes} (hr : Rise l) : ∀ x ∈ l.drop (wayI l k), lt k x = true := by
 intro x hx
 unfold wayI at hx
 split at hx
 ·rename_i h
  obtain ⟨j, hj, hje⟩ := List.getElem_of_mem hx
  refine hr.get (i := pos l k) (j := pos l k + 1 + j) (by omega) h ?_
  have h0 := List.getElem?_eq_getElem hj
  rw [hje, List.getElem?_drop] at h0
  exact h0
 ·rename_i h
  have h1 := pos_ge hr x hx
  rcases lt_tri k x with h2 | h2 | h2
  ·exact h2
  ·exfalso
   subst h2
   have hl : pos l k < l.length := by
    rcases Nat.lt_or_ge (pos l k) l.length with h' | h'
    ·exact h'
    ·rw [List.drop_eq_nil_of_le h'] at hx; cases hx
   apply h
   obtain ⟨j, hj, hje⟩ := List.getElem_of_mem hx
   have h0 := List.getElem?_eq_getElem hj
   rw [hje, List.getElem?_drop] at h0
   cases j with
   | zero => exact h0
   | succ j =>
     have hb := pos_ge hr l[pos l k] (by rw [List.drop_eq_getElem_cons hl]; exact List.mem_cons_self ..)
     have := hr.get (i := pos l k) (j := pos l k + (j + 1)) (by omega) (List.getElem?_eq_getElem hl) h0
     rw [this] at hb; cases hb
  ·rw [h1] at h2; cases h2
section
variable {z h : Nat} {N : Nodes} {no : Int} {lo : Bytes} {hi : Option Bytes} {ns : List Int} {es : Es} {k : Bytes}
theorem del_leaf (hz : sizeOk z) (s : Bn z N 1 no lo hi ns es) : Bn z (updI N no (some (leafNd (delE es k)))) 1 no lo hi ns (delE es k) ∧ Ev N (updI N no (some (leafNd (delE es k)))) ns ns := by
 obtain ⟨z1, z2, -⟩ := hz
 obtain ⟨hn, rfl, hok, hb, hin⟩ := s.leaf (by omega)
 have hsub : (delE es k).Sublist es := by
  unfold delE
  split
  ·conv => rhs; rw [← List.take_append_drop (posE es k) es]
   refine (List.Sublist.refl _).append ?_
   rw [← List.drop_drop]
   exact List.drop_sublist _ _
  ·exact List.Sublist.refl _
 have hbb : entB (delE es k) ≤ entB es := by
  unfold delE
  split
  ·have h1 := entB_take_drop es (posE es k)
   have h2 := entB_take_drop (es.drop (posE es k)) 1
   rw [List.drop_drop] at h2
   rw [entB_app]; omega
  ·exact Nat.le_refl _
 exact ⟨Bn.of_leaf (by omega) (updI_same _ _ _) (hok.sub hsub) (by omega) (fun x hx => hin x (hsub.subset hx)), Ev.one (by rw [hn]; simp)⟩
theorem inner_step (hz : sizeOk z) (s : Bn z N (h + 2) no lo hi ns es) (hn : ns.Nodup) (hk : inB lo hi k) : ∃ c ps ns', N no = some (innNd c ps) ∧ ns = no :: ns' ∧ keysOk (ps.map (·.1)) ∧ ps.length + 1 ≤ orderE z ∧ (c ≠ 0 ∧ ∀ y ∈ ps, y.2 ≠ 0) ∧ (∀ d ∈ c :: ps.map (·.2), Full z N d) ∧
  ∃ a lo' hi' nm em e1 e2, (c :: ps.map (·.2))[wayI (ps.map (·.1)) k]? = some a ∧ Bn z N (h + 1) a lo' hi' nm em ∧ nm.Nodup ∧ inB lo' hi' k ∧ no ∉ nm ∧ (∀ y ∈ nm, y ∈ ns) ∧ es = e1 ++ (em ++ e2) ∧ (∀ x ∈ e1, lt x.1 k = true) ∧ (∀ x ∈ e2, lt k x.1 = true) ∧
    (∀ (N1 : Nodes) nm' em', Bn z N1 (h + 1) a lo' hi' nm' em' → Ev N N1 nm nm' → ∃ ns1, Mid z h N1 no lo hi c ps ns1 (e1 ++ (em' ++ e2)) a ∧ Ev N N1 ns (no :: ns1)) ∧
    (∀ (N1 : Nodes) (up : Bytes) (more : Nat) (n1' n2' : List Int) (f1 f2 : Es), Bn z N1 (h + 1) a lo' (some up) n1' f1 → Bn z N1 (h + 1) (more : Int) up hi' n2' f2 → Ev N N1 nm (n1' ++ n2') → inB lo' hi' up → lt lo' up = true → (1 ≤ up.length ∧ up.length ≤ 64) → Full z N1 a → Full z N1 more → more ≠ 0 →
     N1 no = N no ∧ ∃ ns1, Ch (Bn z N1 (h + 1)) lo hi c (ps.take (wayI (ps.map (·.1)) k) ++ (up, more) :: ps.drop (wayI (ps.map (·.1)) k)) ns1 (e1 ++ ((f1 ++ f2) ++ e2)) ∧ keysOk ((ps.take (wayI (ps.map (·.1)) k) ++ (up, more) :: ps.drop (wayI (ps.map (·.1)) k)).map (·.1)) ∧ (∀ u ∈ (ps.take (wayI (ps.map (·.1)) k) ++ (up, more) :: ps.drop (wayI (ps.map (·.1)) k)).map (·.1), inB lo hi u) ∧ (∀ y ∈ ps.take (wayI (ps.map (·.1)) k) ++ (up, more) :: ps.drop (wayI (ps.map (·.1)) k), y.2 ≠ 0) ∧
      (∀ d ∈ c :: (ps.take (wayI (ps.map (·.1)) k) ++ (up, more) :: ps.drop (wayI (ps.map (·.1)) k)).map (·.2), Full z N1 d) ∧ Ev N N1 ns (no :: ns1)) := by
 have hz' := hz
 obtain ⟨z1, z2, -⟩ := hz'
 have hsome := s.some
 obtain ⟨c, ps, ns', hno, rfl, ko, len, nz, inn, full, ch⟩ := s.inner (by omega)
 have hle := wayI_le (ps.map (·.1)) k
 rw [List.length_map] at hle
 obtain ⟨i, hi0⟩ : ∃ i, wayI (ps.map (·.1)) k = i := ⟨_, rfl⟩
 have hlo := wayI_lo (l := ps.map (·.1)) (k := k)
 have hhi := wayI_hi (k := k) ko.2
 rw [hi0] at hlo hhi hle
 have hps : ps = ps.take i ++ ps.drop i := (List.take_append_drop i ps).symm
 have hlp : (ps.take i).length = i := by rw [List.length_take]; omega
 have hc' : Ch (Bn z N (h + 1)) lo hi c (ps.take i ++ ps.drop i) ns' es := by rw [← hps]; exact ch
 have hn0 := List.nodup_cons.1 hn
 obtain ⟨a, lo', hi', n1, nm, n2, e1, em, e2, rfl, rfl, ha, hb, hbk, he1, he2, hothm, hup, hrep⟩ := kid_at hn0.2 hc' (by rw [← hps]; exact ko.2) (by rw [← hps]; exact inn) hk (fun x hx => hlo x.1 (by rw [← List.map_take]; exact List.mem_map.2 ⟨x, hx, rfl⟩)) (fun x hx => hhi x.1 (by rw [← List.map_drop]; exact List.mem_map.2 ⟨x, hx, rfl⟩))
 rw [← hps, hlp] at ha
 have hn1 := List.nodup_append.1 hn0.2
 have hn2 := List.nodup_append.1 hn1.2.1
 have hnot : ∀ y ∈ nm, y ∉ n1 ∧ y ∉ n2 ∧ y ≠ no := fun y hy => ⟨fun h => hn1.2.2 y h y (List.mem_append_left _ hy) rfl, fun h => hn2.2.2 y hy y h rfl, fun e => hn0.1 (by rw [← e]; exact List.mem_append_right _ (List.mem_append_left _ hy))⟩
 have hnom : no ∉ nm := fun h => (hnot no h).2.2 rfl
 have hkm := ch.kid (fun x l u n e hx => hx.mem)
 have hkn := ch.kids_nd (fun x l u n e hx => hx.mem) hn0.2
 have hev : ∀ {N1 : Nodes} {nm' : List Int}, Ev N N1 nm nm' → Ev N N1 (no :: (n1 ++ (nm ++ n2))) (no :: (n1 ++ (nm' ++ n2))) := fun {N1 nm'} e => by
  have := e.part (a := no :: n1) (b := n2) (by simpa using hn) (fun x hx => hsome x (by simp only [List.mem_cons] at hx; rcases hx with h | h <;> simp [h])) (fun x hx => hsome x (by simp [hx]))
  simpa using this
 have hkeep : ∀ {N1 : Nodes} {nm' : List Int}, Ev N N1 nm nm' → ∀ x l u n e, Bn z N (h + 1) x l u n e → ((∀ y ∈ n, y ∈ n1) ∨ (∀ y ∈ n, y ∈ n2)) → Bn z N1 (h + 1) x l u n e := fun {N1 nm'} e x l u n e' hx hy => hx.keep e (fun y hyn hym => by
  rcases hy with hy | hy
  ·exact (hnot y hym).1 (hy y hyn)
  ·exact (hnot y hym).2.1 (hy y hyn))
 have hnoe : ∀ {N1 : Nodes} {nm' : List Int}, Ev N N1 nm nm' → N1 no = N no := fun {N1 nm'} e => e.d2 no (by rw [hno]; simp) hnom
 -- a kid beside it is as it was
 have hoth : ∀ {N1 : Nodes} {nm' : List Int}, Ev N N1 nm nm' → ∀ d ∈ c :: ps.map (·.2), d ≠ a → Full z N1 d := fun {N1 nm'} e d hd hda m hm => by
  have hdm : (d : Int) ∉ nm := hothm d (by rw [← hps]; exact hd) hda
  rw [e.d2 d (hsome d (List.mem_cons_of_mem _ (hkm d hd))) hdm] at hm
  exact full d hd m hm
 refine ⟨c, ps, _, hno, rfl, ko, len, nz, full, ?_⟩
 rw [hi0]
 refine ⟨a, lo', hi', nm, em, e1, e2, ha, hb, hn2.1, hbk, hnom, fun y hy => List.mem_cons_of_mem _ (List.mem_append_right _ (List.mem_append_left _ hy)), rfl, he1, he2, fun N1 nm' em' hb' e => ?_, fun N1 up more n1' n2' f1 f2 hb1 hb2 e hu1 hu2 hu3 hf1 hf2 hm0 => ?_⟩
 ·have hch := hrep N1 [] nm' em' (hkeep e) hb'
  rw [List.nil_append, ← hps] at hch
  exact ⟨_, ⟨by rw [hnoe e]; exact hno, ko, len, nz, inn, hch, (hev e).nd, hoth e⟩, hev e⟩
 ·have hch := hrep N1 [(up, more)] (n1' ++ n2') (f1 ++ f2) (hkeep e) ⟨n1', n2', f1, f2, rfl, rfl, hb1, hb2⟩
  obtain ⟨u1, u2⟩ := hup up hu1 hu2
  have hsub : ∀ y ∈ ps.take i ++ (up, more) :: ps.drop i, y = (up, more) ∨ y ∈ ps := fun y hy => by
   rcases List.mem_append.1 hy with hy | hy
   ·exact .inr (List.mem_of_mem_take hy)
   ·rcases List.mem_cons.1 hy with rfl | hy
    ·exact .inl rfl
    ·exact .inr (List.mem_of_mem_drop hy)
  refine ⟨hnoe e, _, hch, ⟨fun k' hk' => ?_, u2 more⟩, fun k' hk' => ?_, fun y hy => ?_, fun d hd => ?_, hev e⟩
  ·obtain ⟨y, hy, rfl⟩ := List.mem_map.1 hk'
   rcases hsub y hy with rfl | hy
   ·exact hu3
   ·exact ko.1 y.1 (List.mem_map.2 ⟨y, hy, rfl⟩)
  ·obtain ⟨y, hy, rfl⟩ := List.mem_map.1 hk'
   rcases hsub y hy with rfl | hy
   ·exact u1
   ·exact inn y.1 (List.mem_map.2 ⟨y, hy, rfl⟩)
  ·rcases hsub y hy with rfl | hy
   ·exact hm0
   ·exact nz.2 y hy
  ·have hd' : d = more ∨ d ∈ c :: ps.map (·.2) := by
    rcases List.mem_cons.1 hd with rfl | hd
    ·exact .inr (List.mem_cons_self ..)
    ·obtain ⟨y, hy, rfl⟩ := List.mem_map.1 hd
     rcases hsub y hy with rfl | hy
     ·exact .inl rfl
     ·exact .inr (List.mem_cons_of_mem _ (List.mem_map.2 ⟨y, hy, rfl⟩))
   rcases hd' with rfl | hd'
   ·exact hf2
   ·by_cases ea : d = a
    ·rw [ea]; exact hf1
    ·exact hoth e d hd' ea
end
end Go.Proofs.YtocnhaoilnojmaaGreat
namespace Go.Proofs.YtocnhaoilnojmaaGreat
open Go Go.RowKit
set_option linter.all false
set_option maxRecDepth 100000
theorem Nd.bytes_ge (n : Nd) : 3 ≤ n.bytes := by unfold Nd.bytes; omega
section
variable {w : World} {p : Nat} {T : Tr} {nb : Int → Nat} {F : Nat → Prop}
theorem low_ret {mN mC mO : Nat} {gv : Value} {n : Nd} {b : Nat} {kv vv cv : Value} (hB : Blk w p (trCs T mN mC mO gv) 74) (hz : sizeOk T.size) (hN : Blk w b [.bool n.leaf, kv, vv, cv] 84) (hR : NdR w n kv vv cv) (hbd : n.Bd) :
  Ret Tryz.prog 77 [ptr p 0, ptr b 0] w fun v w' => v = .bool (decide (n.low T.size)) ∧ Ext w w' := by
 have hbb := hbd.bytes
 have hge := n.bytes_ge
 have hcl := hbd.cl
 have hz' := hz
 unfold sizeOk at hz'
 have ho : orderE T.size ≤ 1000 := by unfold orderE; omega
 obtain ⟨ca, cc, rfl, -⟩ := hR.kids.shape
 refine ret_of_run (e := [(0, _), (1, _)]) Tryz.func77 rfl Tryz.ntmps77 rfl rfl (qN rfl (qa rfl (rEnd (run_seq (qN rfl (qm rfl (qV (ynk rfl) (qV (yfa fl84_0 rfl) (qV (yld U4 rfl rfl hN rfl) (rEnd (run_cond rfl (fun hlf => ?_) (fun hlf => ?_))))))))))))
 ·refine run_seq (run_draw (fun w' => Ext w w') (by kernel_rfl) rfl (qt 0 rfl (ymv rfl) (Ext.drew0 w) (qt 1 rfl (ynk rfl) (Ext.drew0 w) (qT 2 rfl (fun _ hS => (by first | exact yldA U84 rfl ti84 rfl (Blk.cells (n := 4) (hS.blk hN) (news := [_, _, _, _]) rfl) rfl | exact yldA U84 rfl ti84 rfl (Blk.cells (n := 4) (hS.blk hB) (news := [_, _, _, _]) rfl) rfl)) (Ext.drew0 w) ?_))))
  refine qt 6 rfl (ymv rfl) (Ext.drew0 w) (qt 7 rfl (ynk rfl) (Ext.drew0 w) (qt 8 rfl (yfa fl74_0 rfl) (Ext.drew0 w) (qT 9 rfl (fun _ hS => (by first | exact yld U3 rfl rfl (hS.blk hN) rfl | exact yld U3 rfl rfl (hS.blk hB) rfl)) (Ext.drew0 w) ?_)))
  refine qt 10 rfl (ysb rfl rfl (by omega)) (Ext.drew0 w) (qO 3 (nCall (i := 3) rfl rfl rfl (yc (args := [.tmp 11]) cf70 rfl) (bytes_ret n kv vv (.slice ca n.kids.length cc) _ (hR.ext (Ext.drew0 w)) hbd) ?_))
  rintro _ w1 ⟨rfl, hx1⟩
  refine ⟨(Ext.drew0 w).trans hx1, ?_⟩
  refine qt 4 rfl (ysb rfl rfl (by omega)) ((Ext.drew0 w).trans hx1) (qt 5 rfl (yml rfl rfl (by omega)) ((Ext.drew0 w).trans hx1) (qt 11 rfl (ylt rfl rfl) ((Ext.drew0 w).trans hx1) (qt 12 rfl (yas rfl) ((Ext.drew0 w).trans hx1) (qE (run_ret Tryz.func77 rfl (⟨_, rfl, ?_, (Ext.drew0 w).trans hx1⟩))))))
  simp only [resVal]
  congr 1
  apply decide_eq_decide.2
  unfold Nd.low
  rw [if_pos hlf]
  omega
 ·refine run_skip (run_seq (run_draw (fun w' => Ext w w') (by kernel_rfl) rfl (qt 0 rfl (ymv rfl) (Ext.drew0 w) (qt 1 rfl (ynk rfl) (Ext.drew0 w) (qt 2 rfl (yfa fl84_3 rfl) (Ext.drew0 w) (qT 3 rfl (fun _ hS => (by first | exact yld U82 rfl rfl (hS.blk hN) rfl | exact yld U82 rfl rfl (hS.blk hB) rfl)) (Ext.drew0 w) ?_))))))
  refine qt 4 rfl (yln U82 rfl) (Ext.drew0 w) (qt 5 rfl (ymv rfl) (Ext.drew0 w) (qt 6 rfl (ynk rfl) (Ext.drew0 w) (qt 7 rfl (yfa fl74_3 rfl) (Ext.drew0 w) (qT 8 rfl (fun _ hS => (by first | exact yld U3 rfl rfl (hS.blk hN) rfl | exact yld U3 rfl rfl (hS.blk hB) rfl)) (Ext.drew0 w) ?_))))
  refine qt 9 rfl (yad rfl rfl (by omega)) (Ext.drew0 w) (qt 10 rfl (yqu rfl rfl (by omega)) (Ext.drew0 w) (qt 11 rfl (ylt rfl rfl) (Ext.drew0 w) (qt 12 rfl (yas rfl) (Ext.drew0 w) (qE (run_ret Tryz.func77 rfl (⟨_, rfl, ?_, Ext.drew0 w⟩))))))
  simp only [resVal]
  congr 1
  apply decide_eq_decide.2
  unfold Nd.low
  rw [if_neg (by rw [hlf]; decide)]
  omega
theorem way_ret {n : Nd} {b : Nat} {kv vv cv : Value} (k : Bytes) (hN : Blk w b [.bool n.leaf, kv, vv, cv] 84) (hR : NdR w n kv vv cv) (hbd : n.Bd) (hs : Rise n.keys) :
  Ret Tryz.prog 46 [ptr b 0, S k] w fun v w' => v = I (wayI n.keys k : Int) ∧ w' = w := by
 have hkl := hbd.kl
 have hpl := pos_le n.keys k
 refine ret_of_run (e := [(0, _), (1, _)]) Tryz.func46 rfl Tryz.ntmps46 rfl rfl (qN rfl (qa rfl (qM rfl (qm rfl (qV (ynk rfl) (qV (yfa fl84_1 rfl) (qV (yld U23 rfl rfl hN rfl) (qm rfl (rCall rfl rfl (yc (args := [.tmp 11, .tmp 12]) cf44 rfl) (bsearch_ret n.keys k kv w hR.keys (by omega) hs) ?_)))))))))
 rintro _ w1 ⟨rfl, rfl⟩
 refine qm rfl (qV (yex rfl rfl) (qV (yex rfl rfl) (qa rfl (qa rfl (rEnd (run_seq (qN rfl (qm rfl (rEnd (run_if rfl (fun h => ?_) (fun h => ?_)))))))))))
 ·refine run_reg rfl (qm rfl (qV (yad rfl rfl (by omega)) (qa rfl (qM rfl (qm rfl (qa rfl (rEnd (run_ret Tryz.func46 rfl ?_))))))))
  exact ⟨_, rfl, by unfold wayI; rw [if_pos h]; simp [resVal], rfl⟩
 ·refine run_skip (qN rfl (qm rfl (qa rfl (rEnd (run_ret Tryz.func46 rfl ?_)))))
  exact ⟨_, rfl, by unfold wayI; rw [if_neg h]; rfl, rfl⟩
end
section
variable {w : World}
theorem one_of {α : Type} {enc : α → Value} {us : List Value} {l : List α} {n : Nat} (h : us = l.map enc) (h1 : ∀ x, (enc x).oneCell' = true) {c : Value} (hc : c ∈ us.take n) : c.oneCell' = true := by
 have hc := List.mem_of_mem_take hc
 rw [h] at hc
 obtain ⟨x, _, rfl⟩ := List.mem_map.1 hc
 exact h1 x
theorem copiedS_ret {lv : Value} {l : List Bytes} {i j : Nat} (hS : Sl w lv 9 1 l.length (l.map S)) (hij : i < j) (hj : j ≤ l.length) (hl : l.length ≤ 1000000) (iz jz : Int) (hiz : iz = (i : Int)) (hjz : jz = (j : Int)) :
  Ret Tryz.prog 99 [lv, I iz, I jz] w fun v w' => Sl w' v 9 1 (j - i) (((l.drop i).take (j - i)).map S) ∧ Ext w w' ∧ ∀ k, v.ownBlock = some k → w.heap.size ≤ k := by
 subst hiz
 subst hjz
 have hml : maxLen = 9223372036854775807 := rfl
 rcases hS.shape with ⟨-, h0⟩ | ⟨g, cap, rfl, hcap⟩
 ·omega
 obtain ⟨cur, hrow, -, hcm, hcl, hct⟩ := hS.row
 rw [Nat.mul_one] at hcl hct
 refine ret_of_run (e := [(0, _), (1, _), (2, _)]) Tryz.func99 rfl Tryz.ntmps99 rfl rfl (qN rfl (qa rfl (qM rfl (qm rfl (qm rfl (qV (ysb rfl rfl (by omega)) ?_))))))
 rw [show (j : Int) - (i : Int) = ((j - i : Nat) : Int) by omega]
 refine rValP rfl rfl (pmk (c := j - i) (n := j - i) U23 ti9 rfl rfl rfl (Nat.le_refl _) (by omega) (by omega)) ?_
 rintro _ w1 ⟨b, rfl, ⟨hb, hx1, hB1⟩, hS1⟩
 obtain ⟨cur1, hrow1, -, hcm1, hcl1, hct1⟩ := hS1.row
 rw [Nat.mul_one] at hcl1 hct1
 refine qa rfl (qM rfl (qm rfl (qm rfl (qm rfl (qm rfl (qV (yslV U23 ti9 rfl rfl rfl (by omega) (by omega)) ?_))))))
 have hsrc : ((cur.drop (0 + i * 1)).take (j - i)) = ((l.drop i).take (j - i)).map S := by
  rw [List.map_take, List.map_drop, ← hct, List.drop_take, List.take_take, show 0 + i * 1 = i by omega, Nat.min_eq_left (by omega)]
 refine rValP rfl rfl (pcpV U23 ti9 rfl rfl hrow1 (by omega) ((hrow.ext hx1).rd (i := 0 + i * 1) (n := j - i) (by omega)) (fun c hc => one_of hsrc (fun x => rfl) hc)) ?_
 rintro _ w2 ⟨rfl, hrow2, hk2⟩
 refine qM rfl (qm rfl (qa rfl (rEnd (run_ret Tryz.func99 rfl ?_))))
 have hfin := hrow2.sl (n := j - i) (cap := j - i) (Nat.le_refl _) hcm1 (by rw [splice_length _ _ _ (by rw [hsrc]; simp; omega), hcl1, Nat.mul_one])
 have hlen : (((l.drop i).take (j - i)).map S).length = j - i := by simp; omega
 have e1 : (((l.drop i).take (j - i)).map S).take (j - i) = ((l.drop i).take (j - i)).map S := List.take_of_length_le (by omega)
 rw [hsrc, e1, Nat.mul_one] at hfin
 have := splice_take cur1 (((l.drop i).take (j - i)).map S) 0 (by omega)
 rw [hlen, Nat.zero_add, List.take_zero, List.nil_append] at this
 rw [this] at hfin
 exact ⟨_, rfl, hfin, hx1.trans_new hk2 (fun k hk => by omega), fun k hk => by have e : b = k := Option.some.inj hk; omega⟩
theorem copiedU_ret {lv : Value} {l : List Nat} {i j : Nat} (hS : Sl w lv 89 1 l.length (l.map u32v)) (hij : i < j) (hj : j ≤ l.length) (hl : l.length ≤ 1000000) (iz jz : Int) (hiz : iz = (i : Int)) (hjz : jz = (j : Int)) :
  Ret Tryz.prog 102 [lv, I iz, I jz] w fun v w' => Sl w' v 89 1 (j - i) (((l.drop i).take (j - i)).map u32v) ∧ Ext w w' ∧ ∀ k, v.ownBlock = some k → w.heap.size ≤ k := by
 subst hiz
 subst hjz
 have hml : maxLen = 9223372036854775807 := rfl
 rcases hS.shape with ⟨-, h0⟩ | ⟨g, cap, rfl, hcap⟩
 ·omega
 obtain ⟨cur, hrow, -, hcm, hcl, hct⟩ := hS.row
 rw [Nat.mul_one] at hcl hct
 refine ret_of_run (e := [(0, _), (1, _), (2, _)]) Tryz.func102 rfl Tryz.ntmps102 rfl rfl (qN rfl (qa rfl (qM rfl (qm rfl (qm rfl (qV (ysb rfl rfl (by omega)) ?_))))))
 rw [show (j : Int) - (i : Int) = ((j - i : Nat) : Int) by omega]
 refine rValP rfl rfl (pmk (c := j - i) (n := j - i) U82 ti89 rfl rfl rfl (Nat.le_refl _) (by omega) (by omega)) ?_
 rintro _ w1 ⟨b, rfl, ⟨hb, hx1, hB1⟩, hS1⟩
 obtain ⟨cur1, hrow1, -, hcm1, hcl1, hct1⟩ := hS1.row
 rw [Nat.mul_one] at hcl1 hct1
 refine qa rfl (qM rfl (qm rfl (qm rfl (qm rfl (qm rfl (qV (yslV U82 ti89 rfl rfl rfl (by omega) (by omega)) ?_))))))
 have hsrc : ((cur.drop (0 + i * 1)).take (j - i)) = ((l.drop i).take (j - i)).map u32v := by
  rw [List.map_take, List.map_drop, ← hct, List.drop_take, List.take_take, show 0 + i * 1 = i by omega, Nat.min_eq_left (by omega)]
 refine rValP rfl rfl (pcpV U82 ti89 rfl rfl hrow1 (by omega) ((hrow.ext hx1).rd (i := 0 + i * 1) (n := j - i) (by omega)) (fun c hc => one_of hsrc (fun x => rfl) hc)) ?_
 rintro _ w2 ⟨rfl, hrow2, hk2⟩
 refine qM rfl (qm rfl (qa rfl (rEnd (run_ret Tryz.func102 rfl ?_))))
 have hfin := hrow2.sl (n := j - i) (cap := j - i) (Nat.le_refl _) hcm1 (by rw [splice_length _ _ _ (by rw [hsrc]; simp; omega), hcl1, Nat.mul_one])
 have hlen : (((l.drop i).take (j - i)).map u32v).length = j - i := by simp; omega
 have e1 : (((l.drop i).take (j - i)).map u32v).take (j - i) = ((l.drop i).take (j - i)).map u32v := List.take_of_length_le (by omega)
 rw [hsrc, e1, Nat.mul_one] at hfin
 have := splice_take cur1 (((l.drop i).take (j - i)).map u32v) 0 (by omega)
 rw [hlen, Nat.zero_add, List.take_zero, List.nil_append] at this
 rw [this] at hfin
 exact ⟨_, rfl, hfin, hx1.trans_new hk2 (fun k hk => by omega), fun k hk => by have e : b = k := Option.some.inj hk; omega⟩
theorem halves_ret {n : Nd} {b : Nat} {kv vv cv : Value} (hN : Blk w b [.bool n.leaf, kv, vv, cv] 84) (hR : NdR w n kv vv cv) (hbd : n.Bd) (hlf : n.leaf = true) (hvl : n.vals.length = n.keys.length) (hne : 1 ≤ n.keys.length) :
  Ret Tryz.prog 98 [ptr b 0] w fun v w' => v = I (halfOf (sizes (n.keys.zip n.vals)) : Int) ∧ Ext w w' := by
 have hbb := hbd.bytes
 have hge := n.bytes_ge
 have hkl := hbd.kl
 obtain ⟨E, hE⟩ : ∃ E, n.keys.zip n.vals = E := ⟨_, rfl⟩
 have hby : n.bytes = 3 + entB E := by rw [← hE]; exact leaf_bytes hlf hvl
 have hEl : E.length = n.keys.length := by rw [← hE]; simp; omega
 obtain ⟨ka, kc, rfl, -⟩ := hR.keys.shape
 obtain ⟨va, vc, rfl, -⟩ := hR.vals.shape
 rw [hE]
 refine ret_of_run (e := [(0, _)]) Tryz.func98 rfl Tryz.ntmps98 rfl rfl (qN rfl (qa rfl (qM rfl (qm rfl (qV (ynk rfl) (qV (yldA U84 rfl ti84 rfl (Blk.cells (n := 4) hN (news := [_, _, _, _]) rfl) rfl) (rCall rfl rfl (yc (args := [.tmp 11]) cf70 rfl) (bytes_ret n (.slice ka n.keys.length kc) (.slice va n.vals.length vc) cv w hR hbd) ?_)))))))
 rintro _ w1 ⟨rfl, hx1⟩
 rw [hby]
 have e0 : ((3 + entB E : Nat) : Int) - 3 = (entB E : Int) := by omega
 have hN1 := hx1.blk hN
 refine qV (ysb rfl rfl (by omega)) ?_
 rw [e0]
 refine qa rfl (qM rfl (qm rfl (qa rfl (qa rfl (qa rfl (rEnd (run_seq (qN rfl (qm rfl (qV (ynk rfl) (qV (yfa fl84_1 rfl) (qV (yld U23 rfl rfl hN1 rfl) (qV (yln U23 rfl) ?_)))))))))))))
 refine qV (ysb rfl rfl (by omega)) (qm rfl (rEnd (run_block ?_)))
 rw [show (n.keys.length : Int) - 1 = ((n.keys.length - 1 : Nat) : Int) by omega]
 refine run_loop (α := Nat × Nat × Nat × Nat) ((0, 0, entB E, 1)) (fun x => [(0, ptr b 0), (3, I (entB E : Int)), (4, I (x.2.2.1 : Int)), (5, I (x.2.2.2 : Int)), (6, I (x.2.1 : Int)), (20, I ((n.keys.length - 1 : Nat) : Int)), (21, I (x.1 : Int))]) (fun x w' => x.1 ≤ n.keys.length - 1 ∧ Ext w1 w' ∧ x.2.1 = ((sizes E).take x.1).sum ∧ halfGo (entB E) ((sizes E).drop x.1) x.1 x.2.1 x.2.2.1 x.2.2.2 = halfOf (sizes E)) (fun x => n.keys.length - 1 - x.1) (by repeat (first | exact Sub.nil | refine Sub.cons rfl ?_)) ?hI ?hround
 case hI => exact ⟨Nat.zero_le _, Ext.refl _, rfl, rfl⟩
 case hround =>
  rintro ⟨i, left, best, at'⟩ wi ⟨hi, hxi, hleft, hgo⟩ ih
  dsimp only at hi hleft hgo
  have hle : left ≤ entB E := by
   rw [hleft, sizes_take]; have := entB_take_drop E i; omega
  try dsimp only
  refine qN rfl (qV (ylt rfl rfl) (rEnd (run_seq (run_if rfl (fun hlt => ?_) (fun hlt => ?_)))))
  ·have hi1 : i + 1 < n.keys.length := by omega
   have hNi := hxi.blk hN1
   have hRi := (hR.ext hx1).ext hxi
   obtain ⟨kb, ko, k, hka, hk⟩ := rd_gets hRi.keys (i := i) (by omega)
   obtain ⟨vb, vo, v, hva, hv⟩ := rd_gets hRi.vals (i := i) (by omega)
   cases hka
   cases hva
   have hkl' := hbd.ks k (List.mem_of_getElem? hk)
   have hvl' := hbd.vs v (List.mem_of_getElem? hv)
   have hEi : E[i]? = some (k, v) := by rw [← hE, List.getElem?_zip_eq_some]; exact ⟨hk, hv⟩
   have hsz : (sizes E)[i]? = some (3 + k.length + v.length) := by unfold sizes; rw [List.getElem?_map, hEi]; rfl
   have hsl : (sizes E).length = n.keys.length := by unfold sizes; rw [List.length_map]; exact hEl
   have hd1 : (sizes E).drop i = (3 + k.length + v.length) :: (sizes E).drop (i + 1) := by
    rw [List.drop_eq_getElem_cons (by omega)]
    rw [List.getElem?_eq_getElem (by omega)] at hsz
    rw [Option.some.inj hsz]
   obtain ⟨t, r, hd2⟩ : ∃ t r, (sizes E).drop (i + 1) = t :: r := by
    cases hd : (sizes E).drop (i + 1) with
    | nil => have := congrArg List.length hd; simp at this; omega
    | cons t r => exact ⟨t, r, rfl⟩
   have hts : ((sizes E).take (i + 1)).sum = left + (3 + k.length + v.length) := by
    rw [take_sum_succ _ (show i < (sizes E).length by omega), ← hleft]
    rw [List.getElem?_eq_getElem (by omega)] at hsz
    rw [Option.some.inj hsz]
   have hle2 : left + (3 + k.length + v.length) ≤ entB E := by
    rw [← hts, sizes_take]; have := entB_take_drop E (i + 1); omega
   rw [hd1, hd2] at hgo
   simp only [halfGo] at hgo
   refine run_skip (run_seq (run_block (qN rfl (qm rfl (qa rfl (rEnd (run_seq (run_draw (fun w' => Ext wi w') (by kernel_rfl) rfl (qt 0 rfl (ymv rfl) (Ext.drew0 wi) (qt 1 rfl (ymv rfl) (Ext.drew0 wi) (qt 2 rfl (ynk rfl) (Ext.drew0 wi) (qt 3 rfl (yfa fl84_1 rfl) (Ext.drew0 wi) (qT 4 rfl (fun _ hS => yld U23 rfl rfl (hS.blk hNi) rfl) (Ext.drew0 wi) ?_)))))))))))))
   refine qt 5 rfl (ymv rfl) (Ext.drew0 wi) (qt 6 rfl (yis U23 ti9 rfl rfl (by omega)) (Ext.drew0 wi) (qt 10 rfl (ymv rfl) (Ext.drew0 wi) (qt 11 rfl (ynk rfl) (Ext.drew0 wi) (qt 12 rfl (yfa fl84_2 rfl) (Ext.drew0 wi) (qT 13 rfl (fun _ hS => yld U23 rfl rfl (hS.blk hNi) rfl) (Ext.drew0 wi) (qt 14 rfl (ymv rfl) (Ext.drew0 wi) (qt 15 rfl (yis U23 ti9 rfl rfl (by omega)) (Ext.drew0 wi) (qT 7 rfl (fun _ hS => yldc U9 rfl rfl (rd_str (hRi.keys.ext hS) (by omega) hk)) (Ext.drew0 wi) (qt 8 rfl (ylnS U9 rfl) (Ext.drew0 wi) (qt 9 rfl (yad rfl rfl (by omega)) (Ext.drew0 wi) (qT 16 rfl (fun _ hS => yldc U9 rfl rfl (rd_str (hRi.vals.ext hS) (by omega) hv)) (Ext.drew0 wi) (qt 17 rfl (ylnS U9 rfl) (Ext.drew0 wi) (qt 18 rfl (yad rfl rfl (by omega)) (Ext.drew0 wi) ?_)))))))))))))
   refine qt 19 rfl (yad rfl rfl (by omega)) (Ext.drew0 wi) (qt 20 rfl (yas rfl) (Ext.drew0 wi) (qE (qN rfl (qm rfl (qV (yml rfl rfl (by omega)) (qm rfl (qV (ysb rfl rfl (by omega)) (qm rfl (qm rfl (qV (yml rfl rfl (by omega)) (qV (ysb rfl rfl (by omega)) (qV (yma rfl rfl) (qa rfl ?_)))))))))))))
   refine qM rfl (qm rfl (qm rfl (qV (ylt rfl rfl) (rEnd ?_))))
   rw [show max (2 * ((left : Int) + (3 + (k.length : Int) + (v.length : Int))) - (entB E : Int)) ((entB E : Int) - 2 * ((left : Int) + (3 + (k.length : Int) + (v.length : Int)))) = ((apart (entB E) (left + (3 + k.length + v.length)) : Nat) : Int) by unfold apart; omega]
   rw [show (left : Int) + (3 + (k.length : Int) + (v.length : Int)) = ((left + (3 + k.length + v.length) : Nat) : Int) by omega]
   refine run_if rfl (fun hb => ?_) (fun hb => ?_)
   ·rw [if_pos (by omega)] at hgo
    refine run_reg rfl (qm rfl (qm rfl (qV (yad rfl rfl (by omega)) (qa rfl (qa rfl (rEnd (run_inBlock (run_reg rfl (qV (yad rfl rfl (by omega)) (qm rfl (rEnd ?_)))))))))))
    exact (ih (i + 1, left + (3 + k.length + v.length), apart (entB E) (left + (3 + k.length + v.length)), i + 1) _ ⟨by dsimp only; omega, hxi.trans (Ext.drew0 wi), hts.symm, by dsimp only; rw [hd2]; exact hgo⟩ (by dsimp only; omega)).qb
   ·rw [if_neg (by omega)] at hgo
    refine run_skip (run_inBlock (run_reg rfl (qV (yad rfl rfl (by omega)) (qm rfl (rEnd ?_)))))
    exact (ih (i + 1, left + (3 + k.length + v.length), best, at') _ ⟨by dsimp only; omega, hxi.trans (Ext.drew0 wi), hts.symm, by dsimp only; rw [hd2]; exact hgo⟩ (by dsimp only; omega)).qb
  ·have hie : i = n.keys.length - 1 := by omega
   have hfin : halfOf (sizes E) = at' := by
    rw [← hgo]
    have hl : ((sizes E).drop i).length = 1 := by unfold sizes; simp; omega
    match hd : (sizes E).drop i, hl with
    | [s], _ => rfl
   refine run_exit rfl (qN rfl (qm rfl (qa rfl (rEnd (run_ret Tryz.func98 rfl ?_)))))
   exact ⟨_, rfl, by rw [hfin]; rfl, hx1.trans hxi⟩
end
section
variable {w : World}
theorem some_of {v : Value} {T n} {us : List Value} (h : Sl w v T 1 n us) (h0 : 0 < n) : ∃ g c, v = .slice (some ⟨g, 0, none⟩) n c := by
 rcases h.shape with ⟨-, h1⟩ | ⟨g, c, rfl, -⟩
 ·omega
 ·exact ⟨_, _, rfl⟩
set_option maxHeartbeats 1000000 in
theorem cut_ret {E : Es} {q : Pl} (hM : NdM w (leafNd E) q) (hm1 : 1 ≤ halfOf (sizes E)) (hm2 : halfOf (sizes E) < E.length) :
  Ret Tryz.prog 71 [ptr q.b 0] w fun v w' => ∃ kv2 vv2 q', v = .agg #[.bool true, kv2, vv2, .slice none 0 0] ∧ q'.b = q.b ∧ q'.cv = q.cv ∧ NdM w' (leafNd (E.take (halfOf (sizes E)))) q' ∧ Sl w' kv2 9 1 (E.drop (halfOf (sizes E))).length (((E.drop (halfOf (sizes E))).map (·.1)).map S) ∧ Sl w' vv2 9 1 (E.drop (halfOf (sizes E))).length (((E.drop (halfOf (sizes E))).map (·.2)).map S) ∧ Kp (fun k => k = q.b) w w' ∧
   (∀ k, q'.kv.ownBlock = some k → w.heap.size ≤ k) ∧ (∀ k, q'.vv.ownBlock = some k → w.heap.size ≤ k) ∧ (∀ k, kv2.ownBlock = some k → w.heap.size ≤ k ∧ ¬ q'.fp k ∧ vv2.ownBlock ≠ some k) ∧ (∀ k, vv2.ownBlock = some k → w.heap.size ≤ k ∧ ¬ q'.fp k) := by
 obtain ⟨m, hm⟩ : ∃ m, halfOf (sizes E) = m := ⟨_, rfl⟩
 rw [hm] at hm1 hm2 ⊢
 have hbd := hM.bd
 have hEl : E.length ≤ 100000 := by have := hbd.kl; simpa [leafNd] using this
 have hkl : (leafNd E).keys.length = E.length := by simp [leafNd]
 have hvl : (leafNd E).vals.length = E.length := by simp [leafNd]
 have hlt := hM.lt
 obtain ⟨qb, qk, qv, qc⟩ := q
 have hMb := hM.blk
 have hMk := hM.keys
 have hMv := hM.vals
 dsimp only at hMb hMk hMv ⊢
 rcases hMk.shape with ⟨-, h0⟩ | ⟨gk, ck, rfl, -⟩
 ·omega
 rcases hMv.shape with ⟨-, h0⟩ | ⟨gv, cv, rfl, -⟩
 ·omega
 have hqbl : qb < w.heap.size := hMb.lt
 refine ret_of_run (e := [(0, _)]) Tryz.func71 rfl Tryz.ntmps71 rfl rfl (qN rfl (rValP rfl rfl (pal (cs := [_, _, _, _]) ti84 rfl) ?_))
 rintro _ w1 ⟨b2, rfl, hb2, hx1, hB2⟩
 refine rEnd (run_seq (run_draw (fun w' => Ext w1 w') (by kernel_rfl) rfl (qt 0 rfl (ymv rfl) (Ext.drew0 w1) (qt 2 rfl (ymv rfl) (Ext.drew0 w1) (qt 3 rfl (ynk rfl) (Ext.drew0 w1) (qt 4 rfl (yfa fl84_1 rfl) (Ext.drew0 w1) (qT 5 rfl (fun _ hS => yld U23 rfl rfl (hS.blk (hx1.blk hMb)) rfl) (Ext.drew0 w1) (qt 6 rfl (yln U23 rfl) (Ext.drew0 w1) (qO 1 (nCall (i := 1) rfl rfl rfl (yc (args := [.tmp 6]) cf98 rfl) (halves_ret ((hx1.trans (Ext.drew0 w1)).blk hMb) (hM.r.ext (hx1.trans (Ext.drew0 w1))) hbd rfl (by rw [hkl, hvl]) (by omega)) ?_))))))))))
 rintro _ w2 ⟨rfl, hx2⟩
 refine ⟨(Ext.drew0 w1).trans hx2, ?_⟩
 rw [show (leafNd E).keys.zip (leafNd E).vals = E from zip_es E, hm]
 refine qt 7 rfl (yas rfl) ((Ext.drew0 w1).trans hx2) (qt 8 rfl (yas rfl) ((Ext.drew0 w1).trans hx2) (qE (run_seq ?_)))
 rw [hkl]
 have hx02 : Ext w w2 := (hx1.trans (Ext.drew0 w1)).trans hx2
 have hs2 := hx02.size
 have hs1 := hx1.size
 have hB22 := ((Ext.drew0 w1).trans hx2).blk hB2
 have hK2 := hMk.ext hx02
 have hV2 := hMv.ext hx02
 have hb2l := hB22.lt
 refine run_cut (fun e' w' => ∃ b5 kv2 vv2, e' = [(0, ptr qb 0), (2, ptr b2 0), (3, I (m : Int)), (5, ptr b5 0)] ∧ Ext w2 w' ∧ Blk w' b5 [.bool true, kv2, vv2, .slice none 0 0] 84 ∧ Sl w' kv2 9 1 (E.length - m) (((E.drop m).map (·.1)).map S) ∧ Sl w' vv2 9 1 (E.length - m) (((E.drop m).map (·.2)).map S) ∧ (∀ k, kv2.ownBlock = some k → w2.heap.size ≤ k ∧ vv2.ownBlock ≠ some k) ∧ (∀ k, vv2.ownBlock = some k → w2.heap.size ≤ k) ∧ w2.heap.size ≤ b5) ?hk (fun hk => ?hmain)
 case hk =>
  rintro _ w3 ⟨b5, kv2, vv2, rfl, hx3, hB5, hS5k, hS5v, ho1, ho2, hb5⟩
  obtain ⟨ga, ca, rfl⟩ := some_of hS5k (by omega)
  obtain ⟨gb, cb, rfl⟩ := some_of hS5v (by omega)
  have hs3 := hx3.size
  have hb5l := hB5.lt
  refine run_seq (run_draw (fun w' => Kp (fun k => k = qb) w3 w') (by kernel_rfl) rfl ?_)
  have hMb3 := (hx02.trans hx3).blk hMb
  have hK3 := hMk.ext (hx02.trans hx3)
  have hV3 := hMv.ext (hx02.trans hx3)
  have hg0 : Ext w3 w3.drew := Ext.drew0 w3
  have hga := ho1 ga rfl
  have hgb := ho2 gb rfl
  have hgal := hS5k.lt (g := ga) rfl
  have hgbl := hS5v.lt (g := gb) rfl
  have hfin : ∀ g7 c7 g13 c13 wf, Sl wf (.slice (some ⟨g7, 0, none⟩) (m - 0) c7) 9 1 (m - 0) ((((E.map (·.1)).drop 0).take (m - 0)).map S) → Sl wf (.slice (some ⟨g13, 0, none⟩) (m - 0) c13) 9 1 (m - 0) ((((E.map (·.2)).drop 0).take (m - 0)).map S) → w3.heap.size ≤ g7 → w3.heap.size ≤ g13 → g7 ≠ g13 → Blk wf qb [.bool true, .slice (some ⟨g7, 0, none⟩) (m - 0) c7, .slice (some ⟨g13, 0, none⟩) (m - 0) c13, qc] 84 → Kp (fun k => k = qb ∨ k = b2) w3 wf →
    ∃ kv2 vv2 q', Value.agg #[.bool true, .slice (some ⟨ga, 0, none⟩) (E.length - m) ca, .slice (some ⟨gb, 0, none⟩) (E.length - m) cb, .slice none 0 0] = .agg #[.bool true, kv2, vv2, .slice none 0 0] ∧ Pl.b q' = qb ∧ q'.cv = qc ∧ NdM wf (leafNd (E.take m)) q' ∧ Sl wf kv2 9 1 (E.drop m).length (((E.drop m).map (·.1)).map S) ∧ Sl wf vv2 9 1 (E.drop m).length (((E.drop m).map (·.2)).map S) ∧ Kp (fun k => k = qb) w wf ∧
      (∀ k, q'.kv.ownBlock = some k → w.heap.size ≤ k) ∧ (∀ k, q'.vv.ownBlock = some k → w.heap.size ≤ k) ∧ (∀ k, kv2.ownBlock = some k → w.heap.size ≤ k ∧ ¬ q'.fp k ∧ vv2.ownBlock ≠ some k) ∧ (∀ k, vv2.ownBlock = some k → w.heap.size ≤ k ∧ ¬ q'.fp k) := by
   intro g7 c7 g13 c13 wf hA hB h7 h13 hne hBlk hKp
   simp only [Nat.sub_zero, List.drop_zero, ← List.map_take] at hA hB hBlk
   have hqcl : ∀ k, qc.ownBlock = some k → k < w.heap.size := fun k hk => hlt k (.inr (.inr (.inr hk)))
   have hKw : Kp (fun k => k = qb) w wf := ((hx02.trans hx3).kp (S := fun k => k = qb)).trans_new hKp (fun i hi => by rcases hi with rfl | rfl; exact .inr rfl; exact .inl (by omega))
   have hel : (E.take m).length = m := by simp; omega
   have hnf : ∀ k, (k = ga ∨ k = gb) → ¬ Pl.fp ⟨qb, .slice (some ⟨g7, 0, none⟩) m c7, .slice (some ⟨g13, 0, none⟩) m c13, qc⟩ k := by
    rintro k hk (h | h | h | h)
    ·dsimp only at h; omega
    ·have e : g7 = k := Option.some.inj h
     omega
    ·have e : g13 = k := Option.some.inj h
     omega
    ·have := hqcl k h
     omega
   refine ⟨_, _, ⟨qb, .slice (some ⟨g7, 0, none⟩) m c7, .slice (some ⟨g13, 0, none⟩) m c13, qc⟩, rfl, rfl, rfl, ⟨hBlk, ?_, ?_, ?_, ?_, ?_, ?_, ?_⟩, ?_, ?_, hKw, ?_, ?_, ?_, ?_⟩
   ·simpa [leafNd, hel, Nat.min_eq_left (Nat.le_of_lt hm2)] using hA
   ·simpa [leafNd, hel, Nat.min_eq_left (Nat.le_of_lt hm2)] using hB
   ·exact hM.kids.kp hKw (fun g hg h => hM.d1.2.2 (by rw [hg, h]))
   ·exact ⟨by simp [leafNd]; omega, by simp [leafNd]; omega, by simp [leafNd], fun k hk => hbd.ks k (by simp only [leafNd, List.map_take] at hk ⊢; exact List.mem_of_mem_take hk), fun k hk => hbd.vs k (by simp only [leafNd, List.map_take] at hk ⊢; exact List.mem_of_mem_take hk), fun k hk => by simp [leafNd] at hk⟩
   ·exact ⟨fun h => by have e : g7 = qb := Option.some.inj h; omega, fun h => by have e : g13 = qb := Option.some.inj h; omega, hM.d1.2.2⟩
   ·intro k hk
    have e : g7 = k := Option.some.inj hk
    exact ⟨fun h => by have e2 : g13 = k := Option.some.inj h; omega, fun h => by have := hqcl k h; omega⟩
   ·intro k hk h
    have e : g13 = k := Option.some.inj hk
    have := hqcl k h
    omega
   ·have := hS5k.kp hKp (fun g hg h => by have e : ga = g := Option.some.inj hg; omega)
    simpa using this
   ·have := hS5v.kp hKp (fun g hg h => by have e : gb = g := Option.some.inj hg; omega)
    simpa using this
   ·intro k hk
    have e : g7 = k := Option.some.inj hk
    omega
   ·intro k hk
    have e : g13 = k := Option.some.inj hk
    omega
   ·intro k hk
    have e : ga = k := Option.some.inj hk
    exact ⟨by omega, hnf k (.inl e.symm), fun h => hga.2 (by rw [h, e])⟩
   ·intro k hk
    have e : gb = k := Option.some.inj hk
    exact ⟨by omega, hnf k (.inr e.symm)⟩
  refine qt 0 rfl (ymv rfl) ((Ext.drew0 w3).kp) (qt 1 rfl (ymv rfl) ((Ext.drew0 w3).kp) (qt 2 rfl (ymv rfl) ((Ext.drew0 w3).kp) (qt 3 rfl (ynk rfl) ((Ext.drew0 w3).kp) (qt 4 rfl (yfa fl84_1 rfl) ((Ext.drew0 w3).kp) (qt 6 rfl (ymv rfl) ((Ext.drew0 w3).kp) (qt 8 rfl (ymv rfl) ((Ext.drew0 w3).kp) (qt 9 rfl (ynk rfl) ((Ext.drew0 w3).kp) (qt 10 rfl (yfa fl84_2 rfl) ((Ext.drew0 w3).kp) (qt 12 rfl (ymv rfl) ((Ext.drew0 w3).kp) (hTwo (i := 5) (j := 11) (by kernel_rfl) ?_ ?_))))))))))
  ·refine nVal (i := 5) rfl rfl rfl (yld U23 rfl rfl (hg0.blk hMb3) rfl) (hg0.kp) (hTwo (i := 7) (j := 11) (by kernel_rfl) ?_ ?_)
   ·refine nCall (i := 7) rfl rfl rfl (yc (args := [.tmp 33, .const (Value.int .i64 0), .tmp 34]) cf99 rfl) (copiedS_ret (l := (E.map (·.1))) (i := 0) (j := m) (by have := hK3.ext hg0; simpa [leafNd] using this) (by omega) (by simp; omega) (by simpa using (by omega : E.length ≤ 1000000)) _ _ rfl rfl) ?_
    rintro v7 w7 ⟨hL7, hx7, hO7⟩
    refine ⟨(hg0.trans hx7).kp, ?_⟩
    obtain ⟨g7, c7, rfl⟩ := some_of hL7 (by omega)
    refine qO 11 (nVal (i := 11) rfl rfl rfl (yld U23 rfl rfl ((hg0.trans hx7).blk hMb3) rfl) ((hg0.trans hx7).kp) (qO 13 (nCall (i := 13) rfl rfl rfl (yc (args := [.tmp 39, .const (Value.int .i64 0), .tmp 40]) cf99 rfl) (copiedS_ret (l := (E.map (·.2))) (i := 0) (j := m) (by have := hV3.ext (hg0.trans hx7); simpa [leafNd] using this) (by omega) (by simp; omega) (by simpa using (by omega : E.length ≤ 1000000)) _ _ rfl rfl) ?_)))
    rintro v13 w13 ⟨hL13, hx13, hO13⟩
    refine ⟨((hg0.trans hx7).trans hx13).kp, ?_⟩
    obtain ⟨g13, c13, rfl⟩ := some_of hL13 (by omega)
    refine qt 14 rfl (ynk rfl) (((hg0.trans hx7).trans hx13).kp) (qt 15 rfl (yfa fl84_1 rfl) (((hg0.trans hx7).trans hx13).kp) ?_)
    have hxx := ((hg0.trans hx7).trans hx13)
    refine qO 16 (nEffP (i := 16) rfl rfl (zst ti23 rfl rfl rfl (hxx.blk hMb3) (by simp)) ?_)
    rintro w8 ⟨hB8, hk8⟩
    refine ⟨hxx.kp.trans hk8, ?_⟩
    refine qt 17 rfl (ynk rfl) (hxx.kp.trans hk8) (qt 18 rfl (yfa fl84_2 rfl) (hxx.kp.trans hk8) (qO 19 (nEffP (i := 19) rfl rfl (zst ti23 rfl rfl rfl hB8 (by simp)) ?_)))
    rintro w9 ⟨hB9, hk9⟩
    refine ⟨(hxx.kp.trans hk8).trans hk9, ?_⟩
    have hk39 : Kp (fun k => k = qb) w3 w9 := (hxx.kp.trans hk8).trans hk9
    have hB59 := hk39.blk hB5 (by omega)
    have hB29 := hk39.blk (hx3.blk hB22) (by omega)
    refine qE (qN rfl (qV (yldA U84 rfl ti84 rfl (Blk.cells (n := 4) hB59 (news := [_, _, _, _]) rfl) rfl) (rEffP rfl (zstA (news := [.bool true, .slice (some ⟨ga, 0, none⟩) (E.length - m) ca, .slice (some ⟨gb, 0, none⟩) (E.length - m) cb, .slice none 0 0]) ti84 rfl rfl rfl rfl hB29 (by simp)) ?_)))
    rintro w10 ⟨hB10, hk10⟩
    refine rEnd (run_retR Tryz.func71 (.cell U84 rfl ti84 rfl (Blk.cells (n := 4) hB10 (news := [_, _, _, _]) rfl) rfl .nil) ?_)
    have hk0 : Kp (fun k => k = qb) w13 w9 := hk8.trans hk9
    have hz7 := hg0.size
    have hz8 := hx7.size
    have hz9 := hx13.size
    have hr7 := hO7 g7 rfl
    have hq7 := hL7.lt (g := g7) rfl
    have hr13 := hO13 g13 rfl
    have hq13 := hL13.lt (g := g13) rfl
    have hz10 := hk0.size
    have hL7z := ((hL7.ext hx13).kp hk0 (fun g hg h => by have e : g7 = g := Option.some.inj hg; omega)).kp hk10 (fun g hg h => by have e : g7 = g := Option.some.inj hg; omega)
    have hL13z := (hL13.kp hk0 (fun g hg h => by have e : g13 = g := Option.some.inj hg; omega)).kp hk10 (fun g hg h => by have e : g13 = g := Option.some.inj hg; omega)
    have hBz := hk10.blk hB9 (by omega)
    exact ⟨_, rfl, hfin _ _ _ _ _ hL7z hL13z (by omega) (by omega) (by omega) hBz ((hk39.mono' (fun _ h => .inl h)).trans (hk10.mono' (fun _ h => .inr h)))⟩
   ·refine nVal (i := 11) rfl rfl rfl (yld U23 rfl rfl (hg0.blk hMb3) rfl) (hg0.kp) (qO 7 (nCall (i := 7) rfl rfl rfl (yc (args := [.tmp 33, .const (Value.int .i64 0), .tmp 34]) cf99 rfl) (copiedS_ret (l := (E.map (·.1))) (i := 0) (j := m) (by have := hK3.ext hg0; simpa [leafNd] using this) (by omega) (by simp; omega) (by simpa using (by omega : E.length ≤ 1000000)) _ _ rfl rfl) ?_))
    rintro v7 w7 ⟨hL7, hx7, hO7⟩
    refine ⟨(hg0.trans hx7).kp, ?_⟩
    obtain ⟨g7, c7, rfl⟩ := some_of hL7 (by omega)
    refine qO 13 (nCall (i := 13) rfl rfl rfl (yc (args := [.tmp 39, .const (Value.int .i64 0), .tmp 40]) cf99 rfl) (copiedS_ret (l := (E.map (·.2))) (i := 0) (j := m) (by have := hV3.ext (hg0.trans hx7); simpa [leafNd] using this) (by omega) (by simp; omega) (by simpa using (by omega : E.length ≤ 1000000)) _ _ rfl rfl) ?_)
    rintro v13 w13 ⟨hL13, hx13, hO13⟩
    refine ⟨((hg0.trans hx7).trans hx13).kp, ?_⟩
    obtain ⟨g13, c13, rfl⟩ := some_of hL13 (by omega)
    refine qt 14 rfl (ynk rfl) (((hg0.trans hx7).trans hx13).kp) (qt 15 rfl (yfa fl84_1 rfl) (((hg0.trans hx7).trans hx13).kp) ?_)
    have hxx := ((hg0.trans hx7).trans hx13)
    refine qO 16 (nEffP (i := 16) rfl rfl (zst ti23 rfl rfl rfl (hxx.blk hMb3) (by simp)) ?_)
    rintro w8 ⟨hB8, hk8⟩
    refine ⟨hxx.kp.trans hk8, ?_⟩
    refine qt 17 rfl (ynk rfl) (hxx.kp.trans hk8) (qt 18 rfl (yfa fl84_2 rfl) (hxx.kp.trans hk8) (qO 19 (nEffP (i := 19) rfl rfl (zst ti23 rfl rfl rfl hB8 (by simp)) ?_)))
    rintro w9 ⟨hB9, hk9⟩
    refine ⟨(hxx.kp.trans hk8).trans hk9, ?_⟩
    have hk39 : Kp (fun k => k = qb) w3 w9 := (hxx.kp.trans hk8).trans hk9
    have hB59 := hk39.blk hB5 (by omega)
    have hB29 := hk39.blk (hx3.blk hB22) (by omega)
    refine qE (qN rfl (qV (yldA U84 rfl ti84 rfl (Blk.cells (n := 4) hB59 (news := [_, _, _, _]) rfl) rfl) (rEffP rfl (zstA (news := [.bool true, .slice (some ⟨ga, 0, none⟩) (E.length - m) ca, .slice (some ⟨gb, 0, none⟩) (E.length - m) cb, .slice none 0 0]) ti84 rfl rfl rfl rfl hB29 (by simp)) ?_)))
    rintro w10 ⟨hB10, hk10⟩
    refine rEnd (run_retR Tryz.func71 (.cell U84 rfl ti84 rfl (Blk.cells (n := 4) hB10 (news := [_, _, _, _]) rfl) rfl .nil) ?_)
    have hk0 : Kp (fun k => k = qb) w13 w9 := hk8.trans hk9
    have hz7 := hg0.size
    have hz8 := hx7.size
    have hz9 := hx13.size
    have hr7 := hO7 g7 rfl
    have hq7 := hL7.lt (g := g7) rfl
    have hr13 := hO13 g13 rfl
    have hq13 := hL13.lt (g := g13) rfl
    have hz10 := hk0.size
    have hL7z := ((hL7.ext hx13).kp hk0 (fun g hg h => by have e : g7 = g := Option.some.inj hg; omega)).kp hk10 (fun g hg h => by have e : g7 = g := Option.some.inj hg; omega)
    have hL13z := (hL13.kp hk0 (fun g hg h => by have e : g13 = g := Option.some.inj hg; omega)).kp hk10 (fun g hg h => by have e : g13 = g := Option.some.inj hg; omega)
    have hBz := hk10.blk hB9 (by omega)
    exact ⟨_, rfl, hfin _ _ _ _ _ hL7z hL13z (by omega) (by omega) (by omega) hBz ((hk39.mono' (fun _ h => .inl h)).trans (hk10.mono' (fun _ h => .inr h)))⟩
  ·refine nVal (i := 11) rfl rfl rfl (yld U23 rfl rfl (hg0.blk hMb3) rfl) (hg0.kp) (qO 5 (nVal (i := 5) rfl rfl rfl (yld U23 rfl rfl (hg0.blk hMb3) rfl) (hg0.kp) (qO 7 (nCall (i := 7) rfl rfl rfl (yc (args := [.tmp 33, .const (Value.int .i64 0), .tmp 34]) cf99 rfl) (copiedS_ret (l := (E.map (·.1))) (i := 0) (j := m) (by have := hK3.ext hg0; simpa [leafNd] using this) (by omega) (by simp; omega) (by simpa using (by omega : E.length ≤ 1000000)) _ _ rfl rfl) ?_))))
   rintro v7 w7 ⟨hL7, hx7, hO7⟩
   refine ⟨(hg0.trans hx7).kp, ?_⟩
   obtain ⟨g7, c7, rfl⟩ := some_of hL7 (by omega)
   refine qO 13 (nCall (i := 13) rfl rfl rfl (yc (args := [.tmp 39, .const (Value.int .i64 0), .tmp 40]) cf99 rfl) (copiedS_ret (l := (E.map (·.2))) (i := 0) (j := m) (by have := hV3.ext (hg0.trans hx7); simpa [leafNd] using this) (by omega) (by simp; omega) (by simpa using (by omega : E.length ≤ 1000000)) _ _ rfl rfl) ?_)
   rintro v13 w13 ⟨hL13, hx13, hO13⟩
   refine ⟨((hg0.trans hx7).trans hx13).kp, ?_⟩
   obtain ⟨g13, c13, rfl⟩ := some_of hL13 (by omega)
   refine qt 14 rfl (ynk rfl) (((hg0.trans hx7).trans hx13).kp) (qt 15 rfl (yfa fl84_1 rfl) (((hg0.trans hx7).trans hx13).kp) ?_)
   have hxx := ((hg0.trans hx7).trans hx13)
   refine qO 16 (nEffP (i := 16) rfl rfl (zst ti23 rfl rfl rfl (hxx.blk hMb3) (by simp)) ?_)
   rintro w8 ⟨hB8, hk8⟩
   refine ⟨hxx.kp.trans hk8, ?_⟩
   refine qt 17 rfl (ynk rfl) (hxx.kp.trans hk8) (qt 18 rfl (yfa fl84_2 rfl) (hxx.kp.trans hk8) (qO 19 (nEffP (i := 19) rfl rfl (zst ti23 rfl rfl rfl hB8 (by simp)) ?_)))
   rintro w9 ⟨hB9, hk9⟩
   refine ⟨(hxx.kp.trans hk8).trans hk9, ?_⟩
   have hk39 : Kp (fun k => k = qb) w3 w9 := (hxx.kp.trans hk8).trans hk9
   have hB59 := hk39.blk hB5 (by omega)
   have hB29 := hk39.blk (hx3.blk hB22) (by omega)
   refine qE (qN rfl (qV (yldA U84 rfl ti84 rfl (Blk.cells (n := 4) hB59 (news := [_, _, _, _]) rfl) rfl) (rEffP rfl (zstA (news := [.bool true, .slice (some ⟨ga, 0, none⟩) (E.length - m) ca, .slice (some ⟨gb, 0, none⟩) (E.length - m) cb, .slice none 0 0]) ti84 rfl rfl rfl rfl hB29 (by simp)) ?_)))
   rintro w10 ⟨hB10, hk10⟩
   refine rEnd (run_retR Tryz.func71 (.cell U84 rfl ti84 rfl (Blk.cells (n := 4) hB10 (news := [_, _, _, _]) rfl) rfl .nil) ?_)
   have hk0 : Kp (fun k => k = qb) w13 w9 := hk8.trans hk9
   have hz7 := hg0.size
   have hz8 := hx7.size
   have hz9 := hx13.size
   have hr7 := hO7 g7 rfl
   have hq7 := hL7.lt (g := g7) rfl
   have hr13 := hO13 g13 rfl
   have hq13 := hL13.lt (g := g13) rfl
   have hz10 := hk0.size
   have hL7z := ((hL7.ext hx13).kp hk0 (fun g hg h => by have e : g7 = g := Option.some.inj hg; omega)).kp hk10 (fun g hg h => by have e : g7 = g := Option.some.inj hg; omega)
   have hL13z := (hL13.kp hk0 (fun g hg h => by have e : g13 = g := Option.some.inj hg; omega)).kp hk10 (fun g hg h => by have e : g13 = g := Option.some.inj hg; omega)
   have hBz := hk10.blk hB9 (by omega)
   exact ⟨_, rfl, hfin _ _ _ _ _ hL7z hL13z (by omega) (by omega) (by omega) hBz ((hk39.mono' (fun _ h => .inl h)).trans (hk10.mono' (fun _ h => .inr h)))⟩
 case hmain =>
  refine run_draw (fun w' => Ext w2 w') (by kernel_rfl) rfl (qt 0 rfl (ymv rfl) (Ext.drew0 w2) (qt 1 rfl (ynk rfl) (Ext.drew0 w2) (qt 2 rfl (yfa fl84_1 rfl) (Ext.drew0 w2) (qT 3 rfl (fun _ hS => yld U23 rfl rfl (hS.blk (hx02.blk hMb)) rfl) (Ext.drew0 w2) (qt 4 rfl (ymv rfl) (Ext.drew0 w2) (qt 5 rfl (ymv rfl) (Ext.drew0 w2) (qt 7 rfl (ymv rfl) (Ext.drew0 w2) (qt 8 rfl (ynk rfl) (Ext.drew0 w2) (qt 9 rfl (yfa fl84_2 rfl) (Ext.drew0 w2) (qT 10 rfl (fun _ hS => yld U23 rfl rfl (hS.blk (hx02.blk hMb)) rfl) (Ext.drew0 w2) (qt 11 rfl (ymv rfl) (Ext.drew0 w2) (qt 12 rfl (ymv rfl) (Ext.drew0 w2) ?_))))))))))))
  have hg0 : Ext w2 w2.drew := Ext.drew0 w2
  refine hTwo (i := 6) (j := 15) (by kernel_rfl) ?_ ?_
  ·refine nCall (i := 6) rfl rfl rfl (yc (args := [.tmp 16, .tmp 17, .tmp 18]) cf99 rfl) (copiedS_ret (l := (E.map (·.1))) (i := m) (j := E.length) (by have := hK2.ext hg0; simpa [leafNd] using this) (by omega) (by simp) (by simpa using (by omega : E.length ≤ 1000000)) _ _ rfl rfl) ?_
   rintro v6 w6 ⟨hL6, hx6, hO6⟩
   refine ⟨hg0.trans hx6, ?_⟩
   obtain ⟨g6, c6, rfl⟩ := some_of hL6 (by omega)
   refine hTwo (i := 13) (j := 15) (by kernel_rfl) ?_ ?_
   ·refine nCall (i := 13) rfl rfl rfl (yc (args := [.tmp 23, .tmp 24, .tmp 25]) cf99 rfl) (copiedS_ret (l := (E.map (·.2))) (i := m) (j := E.length) (by have := hV2.ext (hg0.trans hx6); simpa [leafNd] using this) (by omega) (by simp) (by simpa using (by omega : E.length ≤ 1000000)) _ _ rfl rfl) ?_
    rintro v13 w13 ⟨hL13, hx13, hO13⟩
    refine ⟨(hg0.trans hx6).trans hx13, ?_⟩
    obtain ⟨g13, c13, rfl⟩ := some_of hL13 (by omega)
    refine qT 14 rfl (fun _ hS => ybd (parts := [(0, .const (Value.bool true)), (1, .tmp 19), (2, .tmp 26)]) (cs := [_, _, _, _]) ti84 rfl sp84 rfl rfl) ((hg0.trans hx6).trans hx13) (qO 15 (nValP (i := 15) rfl rfl rfl (pal (cs := [_, _, _, _]) ti84 rfl) ?_))
    rintro _ w15 ⟨b5, rfl, hb15, hx15, hB15⟩
    refine ⟨((hg0.trans hx6).trans hx13).trans hx15, ?_⟩
    have hxx := (((hg0.trans hx6).trans hx13).trans hx15)
    have hz6 := hx6.size
    have hz13 := hx13.size
    have hz15 := hx15.size
    have hz0 := hg0.size
    have hA6 := ((hL6.ext hx13).ext hx15)
    have hA13 := (hL13.ext hx15)
    have hA15 := hB15
    have hq6 := hL6.lt (g := g6) rfl
    have hr6 := hO6 g6 rfl
    have hq13 := hL13.lt (g := g13) rfl
    have hr13 := hO13 g13 rfl
    have hb5k := hB15.lt
    have hb5l := hA15.lt
    have hlo : w2.heap.size ≤ b5 := by omega
    refine qO 16 (nEffP (i := 16) rfl rfl (zstA (news := [.bool true, .slice (some ⟨g6, 0, none⟩) (E.length - m) c6, .slice (some ⟨g13, 0, none⟩) (E.length - m) c13, .slice none 0 0]) ti84 rfl rfl rfl rfl hA15 (by simp)) ?_)
    rintro w7 ⟨hB7, hk7⟩
    refine ⟨hxx.trans_new hk7 (fun i hi => by rw [hi]; exact hlo), ?_⟩
    refine qE (Run.qb (e := [(0, _), (2, _), (3, _), (5, _)]) ?_)
    have hx7 := hxx.trans_new hk7 (fun i hi => by rw [hi]; exact hlo)
    refine (hk _ _ ⟨b5, _, _, rfl, hx7, hB7, ?_, ?_, ?_, ?_, hlo⟩).qb
    ·have := hA6.kp hk7 (fun g hg h => by have e : g6 = g := Option.some.inj hg; omega)
     simpa [List.map_drop, List.take_of_length_le] using this
    ·have := hA13.kp hk7 (fun g hg h => by have e : g13 = g := Option.some.inj hg; omega)
     simpa [List.map_drop, List.take_of_length_le] using this
    ·intro k hk
     have e : g6 = k := Option.some.inj hk
     exact ⟨by omega, fun h => by have e2 : g13 = k := Option.some.inj h; omega⟩
    ·intro k hk
     have e : g13 = k := Option.some.inj hk
     omega
   ·refine nValP (i := 15) rfl rfl rfl (pal (cs := [_, _, _, _]) ti84 rfl) ?_
    rintro _ w15 ⟨b5, rfl, hb15, hx15, hB15⟩
    refine ⟨(hg0.trans hx6).trans hx15, ?_⟩
    refine qO 13 (nCall (i := 13) rfl rfl rfl (yc (args := [.tmp 23, .tmp 24, .tmp 25]) cf99 rfl) (copiedS_ret (l := (E.map (·.2))) (i := m) (j := E.length) (by have := hV2.ext ((hg0.trans hx6).trans hx15); simpa [leafNd] using this) (by omega) (by simp) (by simpa using (by omega : E.length ≤ 1000000)) _ _ rfl rfl) ?_)
    rintro v13 w13 ⟨hL13, hx13, hO13⟩
    refine ⟨((hg0.trans hx6).trans hx15).trans hx13, ?_⟩
    obtain ⟨g13, c13, rfl⟩ := some_of hL13 (by omega)
    refine qT 14 rfl (fun _ hS => ybd (parts := [(0, .const (Value.bool true)), (1, .tmp 19), (2, .tmp 26)]) (cs := [_, _, _, _]) ti84 rfl sp84 rfl rfl) (((hg0.trans hx6).trans hx15).trans hx13) ?_
    have hxx := (((hg0.trans hx6).trans hx15).trans hx13)
    have hz6 := hx6.size
    have hz15 := hx15.size
    have hz13 := hx13.size
    have hz0 := hg0.size
    have hA6 := ((hL6.ext hx15).ext hx13)
    have hA13 := hL13
    have hA15 := (hx13.blk hB15)
    have hq6 := hL6.lt (g := g6) rfl
    have hr6 := hO6 g6 rfl
    have hq13 := hL13.lt (g := g13) rfl
    have hr13 := hO13 g13 rfl
    have hb5k := hB15.lt
    have hb5l := hA15.lt
    have hlo : w2.heap.size ≤ b5 := by omega
    refine qO 16 (nEffP (i := 16) rfl rfl (zstA (news := [.bool true, .slice (some ⟨g6, 0, none⟩) (E.length - m) c6, .slice (some ⟨g13, 0, none⟩) (E.length - m) c13, .slice none 0 0]) ti84 rfl rfl rfl rfl hA15 (by simp)) ?_)
    rintro w7 ⟨hB7, hk7⟩
    refine ⟨hxx.trans_new hk7 (fun i hi => by rw [hi]; exact hlo), ?_⟩
    refine qE (Run.qb (e := [(0, _), (2, _), (3, _), (5, _)]) ?_)
    have hx7 := hxx.trans_new hk7 (fun i hi => by rw [hi]; exact hlo)
    refine (hk _ _ ⟨b5, _, _, rfl, hx7, hB7, ?_, ?_, ?_, ?_, hlo⟩).qb
    ·have := hA6.kp hk7 (fun g hg h => by have e : g6 = g := Option.some.inj hg; omega)
     simpa [List.map_drop, List.take_of_length_le] using this
    ·have := hA13.kp hk7 (fun g hg h => by have e : g13 = g := Option.some.inj hg; omega)
     simpa [List.map_drop, List.take_of_length_le] using this
    ·intro k hk
     have e : g6 = k := Option.some.inj hk
     exact ⟨by omega, fun h => by have e2 : g13 = k := Option.some.inj h; omega⟩
    ·intro k hk
     have e : g13 = k := Option.some.inj hk
     omega
  ·refine nValP (i := 15) rfl rfl rfl (pal (cs := [_, _, _, _]) ti84 rfl) ?_
   rintro _ w15 ⟨b5, rfl, hb15, hx15, hB15⟩
   refine ⟨hg0.trans hx15, ?_⟩
   refine qO 6 (nCall (i := 6) rfl rfl rfl (yc (args := [.tmp 16, .tmp 17, .tmp 18]) cf99 rfl) (copiedS_ret (l := (E.map (·.1))) (i := m) (j := E.length) (by have := hK2.ext (hg0.trans hx15); simpa [leafNd] using this) (by omega) (by simp) (by simpa using (by omega : E.length ≤ 1000000)) _ _ rfl rfl) ?_)
   rintro v6 w6 ⟨hL6, hx6, hO6⟩
   refine ⟨(hg0.trans hx15).trans hx6, ?_⟩
   obtain ⟨g6, c6, rfl⟩ := some_of hL6 (by omega)
   refine qO 13 (nCall (i := 13) rfl rfl rfl (yc (args := [.tmp 23, .tmp 24, .tmp 25]) cf99 rfl) (copiedS_ret (l := (E.map (·.2))) (i := m) (j := E.length) (by have := hV2.ext ((hg0.trans hx15).trans hx6); simpa [leafNd] using this) (by omega) (by simp) (by simpa using (by omega : E.length ≤ 1000000)) _ _ rfl rfl) ?_)
   rintro v13 w13 ⟨hL13, hx13, hO13⟩
   refine ⟨((hg0.trans hx15).trans hx6).trans hx13, ?_⟩
   obtain ⟨g13, c13, rfl⟩ := some_of hL13 (by omega)
   refine qT 14 rfl (fun _ hS => ybd (parts := [(0, .const (Value.bool true)), (1, .tmp 19), (2, .tmp 26)]) (cs := [_, _, _, _]) ti84 rfl sp84 rfl rfl) (((hg0.trans hx15).trans hx6).trans hx13) ?_
   have hxx := (((hg0.trans hx15).trans hx6).trans hx13)
   have hz15 := hx15.size
   have hz6 := hx6.size
   have hz13 := hx13.size
   have hz0 := hg0.size
   have hA6 := (hL6.ext hx13)
   have hA13 := hL13
   have hA15 := (hx13.blk (hx6.blk hB15))
   have hq6 := hL6.lt (g := g6) rfl
   have hr6 := hO6 g6 rfl
   have hq13 := hL13.lt (g := g13) rfl
   have hr13 := hO13 g13 rfl
   have hb5k := hB15.lt
   have hb5l := hA15.lt
   have hlo : w2.heap.size ≤ b5 := by omega
   refine qO 16 (nEffP (i := 16) rfl rfl (zstA (news := [.bool true, .slice (some ⟨g6, 0, none⟩) (E.length - m) c6, .slice (some ⟨g13, 0, none⟩) (E.length - m) c13, .slice none 0 0]) ti84 rfl rfl rfl rfl hA15 (by simp)) ?_)
   rintro w7 ⟨hB7, hk7⟩
   refine ⟨hxx.trans_new hk7 (fun i hi => by rw [hi]; exact hlo), ?_⟩
   refine qE (Run.qb (e := [(0, _), (2, _), (3, _), (5, _)]) ?_)
   have hx7 := hxx.trans_new hk7 (fun i hi => by rw [hi]; exact hlo)
   refine (hk _ _ ⟨b5, _, _, rfl, hx7, hB7, ?_, ?_, ?_, ?_, hlo⟩).qb
   ·have := hA6.kp hk7 (fun g hg h => by have e : g6 = g := Option.some.inj hg; omega)
    simpa [List.map_drop, List.take_of_length_le] using this
   ·have := hA13.kp hk7 (fun g hg h => by have e : g13 = g := Option.some.inj hg; omega)
    simpa [List.map_drop, List.take_of_length_le] using this
   ·intro k hk
    have e : g6 = k := Option.some.inj hk
    exact ⟨by omega, fun h => by have e2 : g13 = k := Option.some.inj h; omega⟩
   ·intro k hk
    have e : g13 = k := Option.some.inj hk
    omega
end
section
variable {w : World}
theorem kids_drop {ps : List (Bytes × Nat)} {m c c2 : Nat} {up : Bytes} (h : ps.drop m = (up, c2) :: ps.drop (m + 1)) : (((c :: ps.map (·.2)).drop (m + 1)).take (ps.length + 1 - (m + 1))).map u32v = (c2 :: (ps.drop (m + 1)).map (·.2)).map u32v := by
 rw [List.drop_succ_cons, ← List.map_drop, h, List.map_cons, List.take_of_length_le]
 have := congrArg List.length h
 simp at this ⊢
 omega
set_option maxHeartbeats 1000000 in
theorem part_ret {c c2 m : Nat} {ps : List (Bytes × Nat)} {up : Bytes} {q : Pl} (hM : NdM w (innNd c ps) q) (h8 : 4 ≤ ps.length) (hmm : (ps.length + 1) / 2 - 1 = m) (hup : ps[m]? = some (up, c2)) :
  Ret Tryz.prog 73 [ptr q.b 0] w fun v w' => ∃ kv2 cv2 q', v = .tuple #[S up, .agg #[.bool false, kv2, .slice none 0 0, cv2]] ∧ q'.b = q.b ∧ q'.vv = q.vv ∧ NdM w' (innNd c (ps.take m)) q' ∧ Sl w' kv2 9 1 (ps.drop (m + 1)).length (((ps.drop (m + 1)).map (·.1)).map S) ∧ Sl w' cv2 89 1 ((ps.drop (m + 1)).length + 1) ((c2 :: (ps.drop (m + 1)).map (·.2)).map u32v) ∧ Kp (fun k => k = q.b) w w' ∧
   (∀ k, q'.kv.ownBlock = some k → w.heap.size ≤ k) ∧ (∀ k, q'.cv.ownBlock = some k → w.heap.size ≤ k) ∧ (∀ k, kv2.ownBlock = some k → w.heap.size ≤ k ∧ ¬ q'.fp k ∧ cv2.ownBlock ≠ some k) ∧ (∀ k, cv2.ownBlock = some k → w.heap.size ≤ k ∧ ¬ q'.fp k) := by
 have hbd := hM.bd
 have hEl : ps.length ≤ 100000 := by have := hbd.kl; simpa [innNd] using this
 have hkl : (innNd c ps).keys.length = ps.length := by simp [innNd]
 have hcl : (innNd c ps).kids.length = ps.length + 1 := by simp [innNd]
 have hm2 : m + 1 < ps.length := by omega
 have hm1 : 1 ≤ m := by omega
 have hdr : ps.drop m = (up, c2) :: ps.drop (m + 1) := by
  rw [List.drop_eq_getElem_cons (by omega)]
  rw [List.getElem?_eq_getElem (by omega)] at hup
  rw [Option.some.inj hup]
 have hkup : (innNd c ps).keys[m]? = some up := by simp [innNd, hup]
 have hlt := hM.lt
 obtain ⟨qb, qk, qv, qc⟩ := q
 have hMb := hM.blk
 have hMk := hM.keys
 have hMc := hM.kids
 dsimp only at hMb hMk hMc ⊢
 rcases hMk.shape with ⟨-, h0⟩ | ⟨gk, ck, rfl, -⟩
 ·omega
 rcases hMc.shape with ⟨-, h0⟩ | ⟨gc, cc, rfl, -⟩
 ·omega
 have hqbl : qb < w.heap.size := hMb.lt
 refine ret_of_run (e := [(0, _)]) Tryz.func73 rfl Tryz.ntmps73 rfl rfl (qN rfl (qa rfl (rValP rfl rfl (pal (cs := [_, _, _, _]) ti84 rfl) ?_)))
 rintro _ w1 ⟨b2, rfl, hb2, hx1, hB2⟩
 refine rEnd (run_seq (run_draw (fun w' => Ext w1 w') (by kernel_rfl) rfl (qt 0 rfl (ymv rfl) (Ext.drew0 w1) (qt 1 rfl (ynk rfl) (Ext.drew0 w1) (qt 2 rfl (yfa fl84_3 rfl) (Ext.drew0 w1) (qT 3 rfl (fun _ hS => yld U82 rfl rfl (hS.blk (hx1.blk hMb)) rfl) (Ext.drew0 w1) (qt 4 rfl (yln U82 rfl) (Ext.drew0 w1) (qt 5 rfl (yqu rfl rfl (by omega)) (Ext.drew0 w1) (qt 6 rfl (ymv rfl) (Ext.drew0 w1) (qt 7 rfl (ynk rfl) (Ext.drew0 w1) (qt 8 rfl (yfa fl84_3 rfl) (Ext.drew0 w1) (qT 9 rfl (fun _ hS => yld U82 rfl rfl (hS.blk (hx1.blk hMb)) rfl) (Ext.drew0 w1) (qt 10 rfl (yln U82 rfl) (Ext.drew0 w1) ?_)))))))))))))
 refine qt 11 rfl (yas rfl) (Ext.drew0 w1) (qt 12 rfl (yas rfl) (Ext.drew0 w1) (qE (run_seq ?_)))
 rw [hcl, show (((ps.length + 1 : Nat) : Int)) / 2 = ((m + 1 : Nat) : Int) by omega]
 have hx02 : Ext w w1.drew := hx1.trans (Ext.drew0 w1)
 obtain ⟨w2, hw2⟩ : ∃ w2, w1.drew = w2 := ⟨_, rfl⟩
 have hB22 := (Ext.drew0 w1).blk hB2
 rw [hw2] at hx02 hB22 ⊢
 have hs2 := hx02.size
 have hs1 := hx1.size
 have hK2 := hMk.ext hx02
 have hC2 := hMc.ext hx02
 have hb2l := hB22.lt
 have hs12 : w1.heap.size ≤ w2.heap.size := by rw [← hw2]; exact (Ext.drew0 w1).size
 have hb2l1 := hB2.lt
 refine run_cut (fun e' w' => ∃ b6 kv2 cv2, e' = [(0, ptr qb 0), (3, ptr b2 0), (4, I ((m + 1 : Nat) : Int)), (6, ptr b6 0)] ∧ Ext w2 w' ∧ Blk w' b6 [.bool false, kv2, .slice none 0 0, cv2] 84 ∧ Sl w' kv2 9 1 (ps.length - (m + 1)) (((ps.drop (m + 1)).map (·.1)).map S) ∧ Sl w' cv2 89 1 (ps.length - (m + 1) + 1) ((c2 :: (ps.drop (m + 1)).map (·.2)).map u32v) ∧ (∀ k, kv2.ownBlock = some k → w2.heap.size ≤ k ∧ cv2.ownBlock ≠ some k) ∧ (∀ k, cv2.ownBlock = some k → w2.heap.size ≤ k) ∧ w2.heap.size ≤ b6) ?hk (fun hk => ?hmain)
 case hk =>
  rintro _ w3 ⟨b6, kv2, cv2, rfl, hx3, hB6, hS6k, hS6c, ho1, ho2, hb6⟩
  obtain ⟨ga, ca, rfl⟩ := some_of hS6k (by omega)
  obtain ⟨gb, cb, rfl⟩ := some_of hS6c (by omega)
  have hs3 := hx3.size
  have hb6l := hB6.lt
  have hMb3 := (hx02.trans hx3).blk hMb
  have hK3 := hMk.ext (hx02.trans hx3)
  have hC3 := hMc.ext (hx02.trans hx3)
  have hga := ho1 ga rfl
  have hgb := ho2 gb rfl
  have hgal := hS6k.lt (g := ga) rfl
  have hgbl := hS6c.lt (g := gb) rfl
  have hfin : ∀ g7 c7 g13 c13 wf, Sl wf (.slice (some ⟨g7, 0, none⟩) (m - 0) c7) 9 1 (m - 0) ((((ps.map (·.1)).drop 0).take (m - 0)).map S) → Sl wf (.slice (some ⟨g13, 0, none⟩) (m + 1 - 0) c13) 89 1 (m + 1 - 0) ((((c :: ps.map (·.2)).drop 0).take (m + 1 - 0)).map u32v) → w3.heap.size ≤ g7 → w3.heap.size ≤ g13 → g7 ≠ g13 → Blk wf qb [.bool false, .slice (some ⟨g7, 0, none⟩) (m - 0) c7, qv, .slice (some ⟨g13, 0, none⟩) (m + 1 - 0) c13] 84 → Kp (fun k => k = qb ∨ k = b2) w3 wf →
    ∃ kv2 cv2 q', Value.tuple #[S up, .agg #[.bool false, .slice (some ⟨ga, 0, none⟩) (ps.length - (m + 1)) ca, .slice none 0 0, .slice (some ⟨gb, 0, none⟩) (ps.length - (m + 1) + 1) cb]] = .tuple #[S up, .agg #[.bool false, kv2, .slice none 0 0, cv2]] ∧ Pl.b q' = qb ∧ q'.vv = qv ∧ NdM wf (innNd c (ps.take m)) q' ∧ Sl wf kv2 9 1 (ps.drop (m + 1)).length (((ps.drop (m + 1)).map (·.1)).map S) ∧ Sl wf cv2 89 1 ((ps.drop (m + 1)).length + 1) ((c2 :: (ps.drop (m + 1)).map (·.2)).map u32v) ∧ Kp (fun k => k = qb) w wf ∧
      (∀ k, q'.kv.ownBlock = some k → w.heap.size ≤ k) ∧ (∀ k, q'.cv.ownBlock = some k → w.heap.size ≤ k) ∧ (∀ k, kv2.ownBlock = some k → w.heap.size ≤ k ∧ ¬ q'.fp k ∧ cv2.ownBlock ≠ some k) ∧ (∀ k, cv2.ownBlock = some k → w.heap.size ≤ k ∧ ¬ q'.fp k) := by
   intro g7 c7 g13 c13 wf hA hB h7 h13 hne hBlk hKp
   simp only [Nat.sub_zero, List.drop_zero, ← List.map_take] at hA hB hBlk
   have hqvl : ∀ k, qv.ownBlock = some k → k < w.heap.size := fun k hk => hlt k (.inr (.inr (.inl hk)))
   have hKw : Kp (fun k => k = qb) w wf := ((hx02.trans hx3).kp (S := fun k => k = qb)).trans_new hKp (fun i hi => by rcases hi with rfl | rfl; exact .inr rfl; exact .inl (by omega))
   have hel : (ps.take m).length = m := by simp; omega
   have hnf : ∀ k, (k = ga ∨ k = gb) → ¬ Pl.fp ⟨qb, .slice (some ⟨g7, 0, none⟩) m c7, qv, .slice (some ⟨g13, 0, none⟩) (m + 1) c13⟩ k := by
    rintro k hk (h | h | h | h)
    ·dsimp only at h; omega
    ·have e : g7 = k := Option.some.inj h
     omega
    ·have := hqvl k h
     omega
    ·have e : g13 = k := Option.some.inj h
     omega
   have hlen2 : (ps.drop (m + 1)).length = ps.length - (m + 1) := by simp
   refine ⟨_, _, ⟨qb, .slice (some ⟨g7, 0, none⟩) m c7, qv, .slice (some ⟨g13, 0, none⟩) (m + 1) c13⟩, rfl, rfl, rfl, ⟨hBlk, ?_, ?_, ?_, ?_, ?_, ?_, ?_⟩, ?_, ?_, hKw, ?_, ?_, ?_, ?_⟩
   ·simpa [innNd, hel, Nat.min_eq_left (show m ≤ ps.length by omega)] using hA
   ·have := hM.vals.kp hKw (fun g hg h => hM.d1.2.1 (by rw [hg, h]))
    exact this
   ·simpa [innNd, hel, Nat.min_eq_left (show m ≤ ps.length by omega)] using hB
   ·exact ⟨by simp [innNd]; omega, by simp [innNd], by simp [innNd]; omega, fun k hk => hbd.ks k (by simp only [innNd, List.map_take] at hk ⊢; exact List.mem_of_mem_take hk), fun k hk => by simp [innNd] at hk, fun k hk => hbd.cs k (by
     simp only [innNd, List.map_take, List.mem_cons] at hk ⊢
     rcases hk with h | h
     ·exact .inl h
     ·exact .inr (List.mem_of_mem_take h))⟩
   ·exact ⟨fun h => by have e : g7 = qb := Option.some.inj h; omega, hM.d1.2.1, fun h => by have e : g13 = qb := Option.some.inj h; omega⟩
   ·intro k hk
    have e : g7 = k := Option.some.inj hk
    exact ⟨fun h => by have := hqvl k h; omega, fun h => by have e2 : g13 = k := Option.some.inj h; omega⟩
   ·intro k hk h
    have e : g13 = k := Option.some.inj h
    have := hqvl k hk
    omega
   ·have := hS6k.kp hKp (fun g hg h => by have e : ga = g := Option.some.inj hg; omega)
    rw [hlen2]
    exact this
   ·have := hS6c.kp hKp (fun g hg h => by have e : gb = g := Option.some.inj hg; omega)
    rw [hlen2]
    exact this
   ·intro k hk
    have e : g7 = k := Option.some.inj hk
    omega
   ·intro k hk
    have e : g13 = k := Option.some.inj hk
    omega
   ·intro k hk
    have e : ga = k := Option.some.inj hk
    exact ⟨by omega, hnf k (.inl e.symm), fun h => hga.2 (by rw [h, e])⟩
   ·intro k hk
    have e : gb = k := Option.some.inj hk
    exact ⟨by omega, hnf k (.inr e.symm)⟩
  refine qN rfl (qm rfl (qV (ynk rfl) (qV (yfa fl84_1 rfl) (qV (yld U23 rfl rfl hMb3 rfl) (qm rfl (qV (ysb rfl rfl (by omega)) ?_))))))
  rw [show ((m + 1 : Nat) : Int) - 1 = (m : Int) by omega]
  refine qV (yis U23 ti9 rfl rfl (by omega)) (qV (yldc U9 rfl rfl (rd_str hK3.rd (by omega) hkup)) (qa rfl (rEnd (run_seq (run_draw (fun w' => Kp (fun k => k = qb) w3 w') (by kernel_rfl) rfl ?_)))))
  have hg0 : Ext w3 w3.drew := Ext.drew0 w3
  refine qt 0 rfl (ymv rfl) ((Ext.drew0 w3).kp) (qt 1 rfl (ymv rfl) ((Ext.drew0 w3).kp) (qt 2 rfl (ymv rfl) ((Ext.drew0 w3).kp) (qt 3 rfl (ynk rfl) ((Ext.drew0 w3).kp) (qt 4 rfl (yfa fl84_1 rfl) ((Ext.drew0 w3).kp) (qt 6 rfl (ymv rfl) ((Ext.drew0 w3).kp) (qt 7 rfl (ysb rfl rfl (by omega)) ((Ext.drew0 w3).kp) (qt 9 rfl (ymv rfl) ((Ext.drew0 w3).kp) (qt 10 rfl (ynk rfl) ((Ext.drew0 w3).kp) (qt 11 rfl (yfa fl84_3 rfl) ((Ext.drew0 w3).kp) (qt 13 rfl (ymv rfl) ((Ext.drew0 w3).kp) (hTwo (i := 5) (j := 12) (by kernel_rfl) ?_ ?_)))))))))))
  ·refine nVal (i := 5) rfl rfl rfl (yld U23 rfl rfl (hg0.blk hMb3) rfl) (hg0.kp) (hTwo (i := 8) (j := 12) (by kernel_rfl) ?_ ?_)
   ·refine nCall (i := 8) rfl rfl rfl (yc (args := [.tmp 48, .const (Value.int .i64 0), .tmp 50]) cf99 rfl) (copiedS_ret (l := ps.map (·.1)) (i := 0) (j := m) (by have := hK3.ext hg0; simpa [innNd] using this) (by omega) (by simp; omega) (by simpa using (by omega : ps.length ≤ 1000000)) _ _ rfl (by omega)) ?_
    rintro v8 w8 ⟨hL8, hx8, hO8⟩
    refine ⟨(hg0.trans hx8).kp, ?_⟩
    obtain ⟨g8, c8, rfl⟩ := some_of hL8 (by omega)
    refine qO 12 (nVal (i := 12) rfl rfl rfl (yld U82 rfl rfl ((hg0.trans hx8).blk hMb3) rfl) ((hg0.trans hx8).kp) (qO 14 (nCall (i := 14) rfl rfl rfl (yc (args := [.tmp 55, .const (Value.int .i64 0), .tmp 56]) cf102 rfl) (copiedU_ret (l := c :: ps.map (·.2)) (i := 0) (j := m + 1) (by have := hC3.ext (hg0.trans hx8); simpa [innNd] using this) (by omega) (by simp; omega) (by simpa using (by omega : ps.length + 1 ≤ 1000000)) _ _ rfl rfl) ?_)))
    rintro v14 w14 ⟨hL14, hx14, hO14⟩
    refine ⟨((hg0.trans hx8).trans hx14).kp, ?_⟩
    obtain ⟨g14, c14, rfl⟩ := some_of hL14 (by omega)
    refine qt 15 rfl (ynk rfl) (((hg0.trans hx8).trans hx14).kp) (qt 16 rfl (yfa fl84_1 rfl) (((hg0.trans hx8).trans hx14).kp) ?_)
    have hxx := ((hg0.trans hx8).trans hx14)
    refine qO 17 (nEffP (i := 17) rfl rfl (zst ti23 rfl rfl rfl (hxx.blk hMb3) (by simp)) ?_)
    rintro w15 ⟨hB15, hk15⟩
    refine ⟨hxx.kp.trans hk15, ?_⟩
    refine qt 18 rfl (ynk rfl) (hxx.kp.trans hk15) (qt 19 rfl (yfa fl84_3 rfl) (hxx.kp.trans hk15) (qO 20 (nEffP (i := 20) rfl rfl (zst ti82 rfl rfl rfl hB15 (by simp)) ?_)))
    rintro w9 ⟨hB9, hk9⟩
    refine ⟨(hxx.kp.trans hk15).trans hk9, ?_⟩
    have hk39 : Kp (fun k => k = qb) w3 w9 := (hxx.kp.trans hk15).trans hk9
    have hB69 := hk39.blk hB6 (by omega)
    have hB29 := hk39.blk (hx3.blk hB22) (by omega)
    refine qE (Run.qb (e := [(3, _), (6, _), (7, _)]) ?_)
    refine run_seq (run_draw (fun w' => Kp (fun k => k = b2) w9 w') (by kernel_rfl) rfl (qt 0 rfl (ymv rfl) ((Ext.drew0 w9).kp) (qT 1 rfl (fun _ hS => yldA U84 rfl ti84 rfl (Blk.cells (n := 4) (hS.blk hB69 (by omega)) (news := [_, _, _, _]) rfl) rfl) ((Ext.drew0 w9).kp) (qt 2 rfl (yas rfl) ((Ext.drew0 w9).kp) (qO 3 (nEffP (i := 3) rfl rfl (zstA (news := [.bool false, .slice (some ⟨ga, 0, none⟩) (ps.length - (m + 1)) ca, .slice none 0 0, .slice (some ⟨gb, 0, none⟩) (ps.length - (m + 1) + 1) cb]) ti84 rfl rfl rfl rfl ((Ext.drew0 w9).blk hB29) (by simp)) ?_))))))
    rintro w10 ⟨hB10, hk10'⟩
    refine ⟨((Ext.drew0 w9).kp).trans hk10', ?_⟩
    have hk10 : Kp (fun k => k = b2) w9 w10 := ((Ext.drew0 w9).kp).trans hk10'
    refine qE (run_retR Tryz.func73 (.tmp rfl (.cell U84 rfl ti84 rfl (Blk.cells (n := 4) hB10 (news := [_, _, _, _]) rfl) rfl .nil)) ?_)
    have hk0 : Kp (fun k => k = qb) w14 w9 := hk15.trans hk9
    have hz7 := hg0.size
    have hz8 := hx8.size
    have hz9 := hx14.size
    have hr8 := hO8 g8 rfl
    have hq8 := hL8.lt (g := g8) rfl
    have hr14 := hO14 g14 rfl
    have hq14 := hL14.lt (g := g14) rfl
    have hz10 := hk0.size
    have hL8z := ((hL8.ext hx14).kp hk0 (fun g hg h => by have e : g8 = g := Option.some.inj hg; omega)).kp hk10 (fun g hg h => by have e : g8 = g := Option.some.inj hg; omega)
    have hL14z := (hL14.kp hk0 (fun g hg h => by have e : g14 = g := Option.some.inj hg; omega)).kp hk10 (fun g hg h => by have e : g14 = g := Option.some.inj hg; omega)
    have hBz := hk10.blk hB9 (by omega)
    exact ⟨_, rfl, hfin _ _ _ _ _ hL8z hL14z (by omega) (by omega) (by omega) hBz ((hk39.mono' (fun _ h => .inl h)).trans (hk10.mono' (fun _ h => .inr h)))⟩
   ·refine nVal (i := 12) rfl rfl rfl (yld U82 rfl rfl (hg0.blk hMb3) rfl) (hg0.kp) (qO 8 (nCall (i := 8) rfl rfl rfl (yc (args := [.tmp 48, .const (Value.int .i64 0), .tmp 50]) cf99 rfl) (copiedS_ret (l := ps.map (·.1)) (i := 0) (j := m) (by have := hK3.ext hg0; simpa [innNd] using this) (by omega) (by simp; omega) (by simpa using (by omega : ps.length ≤ 1000000)) _ _ rfl (by omega)) ?_))
    rintro v8 w8 ⟨hL8, hx8, hO8⟩
    refine ⟨(hg0.trans hx8).kp, ?_⟩
    obtain ⟨g8, c8, rfl⟩ := some_of hL8 (by omega)
    refine qO 14 (nCall (i := 14) rfl rfl rfl (yc (args := [.tmp 55, .const (Value.int .i64 0), .tmp 56]) cf102 rfl) (copiedU_ret (l := c :: ps.map (·.2)) (i := 0) (j := m + 1) (by have := hC3.ext (hg0.trans hx8); simpa [innNd] using this) (by omega) (by simp; omega) (by simpa using (by omega : ps.length + 1 ≤ 1000000)) _ _ rfl rfl) ?_)
    rintro v14 w14 ⟨hL14, hx14, hO14⟩
    refine ⟨((hg0.trans hx8).trans hx14).kp, ?_⟩
    obtain ⟨g14, c14, rfl⟩ := some_of hL14 (by omega)
    refine qt 15 rfl (ynk rfl) (((hg0.trans hx8).trans hx14).kp) (qt 16 rfl (yfa fl84_1 rfl) (((hg0.trans hx8).trans hx14).kp) ?_)
    have hxx := ((hg0.trans hx8).trans hx14)
    refine qO 17 (nEffP (i := 17) rfl rfl (zst ti23 rfl rfl rfl (hxx.blk hMb3) (by simp)) ?_)
    rintro w15 ⟨hB15, hk15⟩
    refine ⟨hxx.kp.trans hk15, ?_⟩
    refine qt 18 rfl (ynk rfl) (hxx.kp.trans hk15) (qt 19 rfl (yfa fl84_3 rfl) (hxx.kp.trans hk15) (qO 20 (nEffP (i := 20) rfl rfl (zst ti82 rfl rfl rfl hB15 (by simp)) ?_)))
    rintro w9 ⟨hB9, hk9⟩
    refine ⟨(hxx.kp.trans hk15).trans hk9, ?_⟩
    have hk39 : Kp (fun k => k = qb) w3 w9 := (hxx.kp.trans hk15).trans hk9
    have hB69 := hk39.blk hB6 (by omega)
    have hB29 := hk39.blk (hx3.blk hB22) (by omega)
    refine qE (Run.qb (e := [(3, _), (6, _), (7, _)]) ?_)
    refine run_seq (run_draw (fun w' => Kp (fun k => k = b2) w9 w') (by kernel_rfl) rfl (qt 0 rfl (ymv rfl) ((Ext.drew0 w9).kp) (qT 1 rfl (fun _ hS => yldA U84 rfl ti84 rfl (Blk.cells (n := 4) (hS.blk hB69 (by omega)) (news := [_, _, _, _]) rfl) rfl) ((Ext.drew0 w9).kp) (qt 2 rfl (yas rfl) ((Ext.drew0 w9).kp) (qO 3 (nEffP (i := 3) rfl rfl (zstA (news := [.bool false, .slice (some ⟨ga, 0, none⟩) (ps.length - (m + 1)) ca, .slice none 0 0, .slice (some ⟨gb, 0, none⟩) (ps.length - (m + 1) + 1) cb]) ti84 rfl rfl rfl rfl ((Ext.drew0 w9).blk hB29) (by simp)) ?_))))))
    rintro w10 ⟨hB10, hk10'⟩
    refine ⟨((Ext.drew0 w9).kp).trans hk10', ?_⟩
    have hk10 : Kp (fun k => k = b2) w9 w10 := ((Ext.drew0 w9).kp).trans hk10'
    refine qE (run_retR Tryz.func73 (.tmp rfl (.cell U84 rfl ti84 rfl (Blk.cells (n := 4) hB10 (news := [_, _, _, _]) rfl) rfl .nil)) ?_)
    have hk0 : Kp (fun k => k = qb) w14 w9 := hk15.trans hk9
    have hz7 := hg0.size
    have hz8 := hx8.size
    have hz9 := hx14.size
    have hr8 := hO8 g8 rfl
    have hq8 := hL8.lt (g := g8) rfl
    have hr14 := hO14 g14 rfl
    have hq14 := hL14.lt (g := g14) rfl
    have hz10 := hk0.size
    have hL8z := ((hL8.ext hx14).kp hk0 (fun g hg h => by have e : g8 = g := Option.some.inj hg; omega)).kp hk10 (fun g hg h => by have e : g8 = g := Option.some.inj hg; omega)
    have hL14z := (hL14.kp hk0 (fun g hg h => by have e : g14 = g := Option.some.inj hg; omega)).kp hk10 (fun g hg h => by have e : g14 = g := Option.some.inj hg; omega)
    have hBz := hk10.blk hB9 (by omega)
    exact ⟨_, rfl, hfin _ _ _ _ _ hL8z hL14z (by omega) (by omega) (by omega) hBz ((hk39.mono' (fun _ h => .inl h)).trans (hk10.mono' (fun _ h => .inr h)))⟩
  ·refine nVal (i := 12) rfl rfl rfl (yld U82 rfl rfl (hg0.blk hMb3) rfl) (hg0.kp) (qO 5 (nVal (i := 5) rfl rfl rfl (yld U23 rfl rfl (hg0.blk hMb3) rfl) (hg0.kp) (qO 8 (nCall (i := 8) rfl rfl rfl (yc (args := [.tmp 48, .const (Value.int .i64 0), .tmp 50]) cf99 rfl) (copiedS_ret (l := ps.map (·.1)) (i := 0) (j := m) (by have := hK3.ext hg0; simpa [innNd] using this) (by omega) (by simp; omega) (by simpa using (by omega : ps.length ≤ 1000000)) _ _ rfl (by omega)) ?_))))
   rintro v8 w8 ⟨hL8, hx8, hO8⟩
   refine ⟨(hg0.trans hx8).kp, ?_⟩
   obtain ⟨g8, c8, rfl⟩ := some_of hL8 (by omega)
   refine qO 14 (nCall (i := 14) rfl rfl rfl (yc (args := [.tmp 55, .const (Value.int .i64 0), .tmp 56]) cf102 rfl) (copiedU_ret (l := c :: ps.map (·.2)) (i := 0) (j := m + 1) (by have := hC3.ext (hg0.trans hx8); simpa [innNd] using this) (by omega) (by simp; omega) (by simpa using (by omega : ps.length + 1 ≤ 1000000)) _ _ rfl rfl) ?_)
   rintro v14 w14 ⟨hL14, hx14, hO14⟩
   refine ⟨((hg0.trans hx8).trans hx14).kp, ?_⟩
   obtain ⟨g14, c14, rfl⟩ := some_of hL14 (by omega)
   refine qt 15 rfl (ynk rfl) (((hg0.trans hx8).trans hx14).kp) (qt 16 rfl (yfa fl84_1 rfl) (((hg0.trans hx8).trans hx14).kp) ?_)
   have hxx := ((hg0.trans hx8).trans hx14)
   refine qO 17 (nEffP (i := 17) rfl rfl (zst ti23 rfl rfl rfl (hxx.blk hMb3) (by simp)) ?_)
   rintro w15 ⟨hB15, hk15⟩
   refine ⟨hxx.kp.trans hk15, ?_⟩
   refine qt 18 rfl (ynk rfl) (hxx.kp.trans hk15) (qt 19 rfl (yfa fl84_3 rfl) (hxx.kp.trans hk15) (qO 20 (nEffP (i := 20) rfl rfl (zst ti82 rfl rfl rfl hB15 (by simp)) ?_)))
   rintro w9 ⟨hB9, hk9⟩
   refine ⟨(hxx.kp.trans hk15).trans hk9, ?_⟩
   have hk39 : Kp (fun k => k = qb) w3 w9 := (hxx.kp.trans hk15).trans hk9
   have hB69 := hk39.blk hB6 (by omega)
   have hB29 := hk39.blk (hx3.blk hB22) (by omega)
   refine qE (Run.qb (e := [(3, _), (6, _), (7, _)]) ?_)
   refine run_seq (run_draw (fun w' => Kp (fun k => k = b2) w9 w') (by kernel_rfl) rfl (qt 0 rfl (ymv rfl) ((Ext.drew0 w9).kp) (qT 1 rfl (fun _ hS => yldA U84 rfl ti84 rfl (Blk.cells (n := 4) (hS.blk hB69 (by omega)) (news := [_, _, _, _]) rfl) rfl) ((Ext.drew0 w9).kp) (qt 2 rfl (yas rfl) ((Ext.drew0 w9).kp) (qO 3 (nEffP (i := 3) rfl rfl (zstA (news := [.bool false, .slice (some ⟨ga, 0, none⟩) (ps.length - (m + 1)) ca, .slice none 0 0, .slice (some ⟨gb, 0, none⟩) (ps.length - (m + 1) + 1) cb]) ti84 rfl rfl rfl rfl ((Ext.drew0 w9).blk hB29) (by simp)) ?_))))))
   rintro w10 ⟨hB10, hk10'⟩
   refine ⟨((Ext.drew0 w9).kp).trans hk10', ?_⟩
   have hk10 : Kp (fun k => k = b2) w9 w10 := ((Ext.drew0 w9).kp).trans hk10'
   refine qE (run_retR Tryz.func73 (.tmp rfl (.cell U84 rfl ti84 rfl (Blk.cells (n := 4) hB10 (news := [_, _, _, _]) rfl) rfl .nil)) ?_)
   have hk0 : Kp (fun k => k = qb) w14 w9 := hk15.trans hk9
   have hz7 := hg0.size
   have hz8 := hx8.size
   have hz9 := hx14.size
   have hr8 := hO8 g8 rfl
   have hq8 := hL8.lt (g := g8) rfl
   have hr14 := hO14 g14 rfl
   have hq14 := hL14.lt (g := g14) rfl
   have hz10 := hk0.size
   have hL8z := ((hL8.ext hx14).kp hk0 (fun g hg h => by have e : g8 = g := Option.some.inj hg; omega)).kp hk10 (fun g hg h => by have e : g8 = g := Option.some.inj hg; omega)
   have hL14z := (hL14.kp hk0 (fun g hg h => by have e : g14 = g := Option.some.inj hg; omega)).kp hk10 (fun g hg h => by have e : g14 = g := Option.some.inj hg; omega)
   have hBz := hk10.blk hB9 (by omega)
   exact ⟨_, rfl, hfin _ _ _ _ _ hL8z hL14z (by omega) (by omega) (by omega) hBz ((hk39.mono' (fun _ h => .inl h)).trans (hk10.mono' (fun _ h => .inr h)))⟩
 case hmain =>
  refine run_draw (fun w' => Ext w2 w') (by kernel_rfl) rfl (qt 0 rfl (ymv rfl) (Ext.drew0 w2) (qt 1 rfl (ynk rfl) (Ext.drew0 w2) (qt 2 rfl (yfa fl84_1 rfl) (Ext.drew0 w2) (qT 3 rfl (fun _ hS => yld U23 rfl rfl (hS.blk (hx02.blk hMb)) rfl) (Ext.drew0 w2) (qt 4 rfl (ymv rfl) (Ext.drew0 w2) (qt 5 rfl (ymv rfl) (Ext.drew0 w2) (qt 6 rfl (ysb rfl rfl (by omega)) (Ext.drew0 w2) (qt 8 rfl (ymv rfl) (Ext.drew0 w2) (qt 9 rfl (ynk rfl) (Ext.drew0 w2) (qt 10 rfl (yfa fl84_3 rfl) (Ext.drew0 w2) (qT 11 rfl (fun _ hS => yld U82 rfl rfl (hS.blk (hx02.blk hMb)) rfl) (Ext.drew0 w2) (qt 12 rfl (ymv rfl) (Ext.drew0 w2) (qt 13 rfl (ymv rfl) (Ext.drew0 w2) ?_)))))))))))))
  have hg0 : Ext w2 w2.drew := Ext.drew0 w2
  refine hTwo (i := 7) (j := 16) (by kernel_rfl) ?_ ?_
  ·refine nCall (i := 7) rfl rfl rfl (yc (args := [.tmp 22, .tmp 23, .tmp 25]) cf99 rfl) (copiedS_ret (l := ps.map (·.1)) (i := m + 1) (j := ps.length) (by have := hK2.ext hg0; simpa [innNd] using this) (by omega) (by simp) (by simpa using (by omega : ps.length ≤ 1000000)) _ _ rfl (by omega)) ?_
   rintro v7 w7 ⟨hL7, hx7, hO7⟩
   refine ⟨hg0.trans hx7, ?_⟩
   obtain ⟨g7, c7, rfl⟩ := some_of hL7 (by omega)
   refine hTwo (i := 14) (j := 16) (by kernel_rfl) ?_ ?_
   ·refine nCall (i := 14) rfl rfl rfl (yc (args := [.tmp 30, .tmp 31, .tmp 32]) cf102 rfl) (copiedU_ret (l := c :: ps.map (·.2)) (i := m + 1) (j := ps.length + 1) (by have := hC2.ext (hg0.trans hx7); simpa [innNd] using this) (by omega) (by simp) (by simpa using (by omega : ps.length + 1 ≤ 1000000)) _ _ rfl rfl) ?_
    rintro v14 w14 ⟨hL14, hx14, hO14⟩
    refine ⟨(hg0.trans hx7).trans hx14, ?_⟩
    obtain ⟨g14, c14, rfl⟩ := some_of hL14 (by omega)
    refine qt 15 rfl (ybd (parts := [(1, .tmp 26), (3, .tmp 33)]) (cs := [_, _, _, _]) ti84 rfl sp84 rfl rfl) ((hg0.trans hx7).trans hx14) (qO 16 (nValP (i := 16) rfl rfl rfl (pal (cs := [_, _, _, _]) ti84 rfl) ?_))
    rintro _ w16 ⟨b6, rfl, hb16, hx16, hB16⟩
    refine ⟨((hg0.trans hx7).trans hx14).trans hx16, ?_⟩
    have hxx := (((hg0.trans hx7).trans hx14).trans hx16)
    have hz7 := hx7.size
    have hz14 := hx14.size
    have hz16 := hx16.size
    have hz0 := hg0.size
    have hA7 := ((hL7.ext hx14).ext hx16)
    have hA14 := (hL14.ext hx16)
    have hA16 := hB16
    have hq7 := hL7.lt (g := g7) rfl
    have hr7 := hO7 g7 rfl
    have hq14 := hL14.lt (g := g14) rfl
    have hr14 := hO14 g14 rfl
    have hb6k := hB16.lt
    have hb6l := hA16.lt
    have hlo : w2.heap.size ≤ b6 := by omega
    refine qO 17 (nEffP (i := 17) rfl rfl (zstA (news := [.bool false, .slice (some ⟨g7, 0, none⟩) (ps.length - (m + 1)) c7, .slice none 0 0, .slice (some ⟨g14, 0, none⟩) (ps.length + 1 - (m + 1)) c14]) ti84 rfl rfl rfl rfl hA16 (by simp)) ?_)
    rintro w8 ⟨hB8, hk8⟩
    refine ⟨hxx.trans_new hk8 (fun i hi => by rw [hi]; exact hlo), ?_⟩
    refine qE (Run.qb (e := [(0, _), (2, _), (3, _), (4, _), (6, _)]) ?_)
    have hx8 := hxx.trans_new hk8 (fun i hi => by rw [hi]; exact hlo)
    refine (hk _ _ ⟨b6, _, _, rfl, hx8, hB8, ?_, ?_, ?_, ?_, hlo⟩).qb
    ·have := hA7.kp hk8 (fun g hg h => by have e : g7 = g := Option.some.inj hg; omega)
     simpa [List.map_drop, List.take_of_length_le] using this
    ·have := hA14.kp hk8 (fun g hg h => by have e : g14 = g := Option.some.inj hg; omega)
     rw [kids_drop hdr] at this
     rw [show ps.length - (m + 1) + 1 = ps.length + 1 - (m + 1) by omega]
     exact this
    ·intro k hk
     have e : g7 = k := Option.some.inj hk
     exact ⟨by omega, fun h => by have e2 : g14 = k := Option.some.inj h; omega⟩
    ·intro k hk
     have e : g14 = k := Option.some.inj hk
     omega
   ·refine nValP (i := 16) rfl rfl rfl (pal (cs := [_, _, _, _]) ti84 rfl) ?_
    rintro _ w16 ⟨b6, rfl, hb16, hx16, hB16⟩
    refine ⟨(hg0.trans hx7).trans hx16, ?_⟩
    refine qO 14 (nCall (i := 14) rfl rfl rfl (yc (args := [.tmp 30, .tmp 31, .tmp 32]) cf102 rfl) (copiedU_ret (l := c :: ps.map (·.2)) (i := m + 1) (j := ps.length + 1) (by have := hC2.ext ((hg0.trans hx7).trans hx16); simpa [innNd] using this) (by omega) (by simp) (by simpa using (by omega : ps.length + 1 ≤ 1000000)) _ _ rfl rfl) ?_)
    rintro v14 w14 ⟨hL14, hx14, hO14⟩
    refine ⟨((hg0.trans hx7).trans hx16).trans hx14, ?_⟩
    obtain ⟨g14, c14, rfl⟩ := some_of hL14 (by omega)
    refine qt 15 rfl (ybd (parts := [(1, .tmp 26), (3, .tmp 33)]) (cs := [_, _, _, _]) ti84 rfl sp84 rfl rfl) (((hg0.trans hx7).trans hx16).trans hx14) ?_
    have hxx := (((hg0.trans hx7).trans hx16).trans hx14)
    have hz7 := hx7.size
    have hz16 := hx16.size
    have hz14 := hx14.size
    have hz0 := hg0.size
    have hA7 := ((hL7.ext hx16).ext hx14)
    have hA14 := hL14
    have hA16 := (hx14.blk hB16)
    have hq7 := hL7.lt (g := g7) rfl
    have hr7 := hO7 g7 rfl
    have hq14 := hL14.lt (g := g14) rfl
    have hr14 := hO14 g14 rfl
    have hb6k := hB16.lt
    have hb6l := hA16.lt
    have hlo : w2.heap.size ≤ b6 := by omega
    refine qO 17 (nEffP (i := 17) rfl rfl (zstA (news := [.bool false, .slice (some ⟨g7, 0, none⟩) (ps.length - (m + 1)) c7, .slice none 0 0, .slice (some ⟨g14, 0, none⟩) (ps.length + 1 - (m + 1)) c14]) ti84 rfl rfl rfl rfl hA16 (by simp)) ?_)
    rintro w8 ⟨hB8, hk8⟩
    refine ⟨hxx.trans_new hk8 (fun i hi => by rw [hi]; exact hlo), ?_⟩
    refine qE (Run.qb (e := [(0, _), (2, _), (3, _), (4, _), (6, _)]) ?_)
    have hx8 := hxx.trans_new hk8 (fun i hi => by rw [hi]; exact hlo)
    refine (hk _ _ ⟨b6, _, _, rfl, hx8, hB8, ?_, ?_, ?_, ?_, hlo⟩).qb
    ·have := hA7.kp hk8 (fun g hg h => by have e : g7 = g := Option.some.inj hg; omega)
     simpa [List.map_drop, List.take_of_length_le] using this
    ·have := hA14.kp hk8 (fun g hg h => by have e : g14 = g := Option.some.inj hg; omega)
     rw [kids_drop hdr] at this
     rw [show ps.length - (m + 1) + 1 = ps.length + 1 - (m + 1) by omega]
     exact this
    ·intro k hk
     have e : g7 = k := Option.some.inj hk
     exact ⟨by omega, fun h => by have e2 : g14 = k := Option.some.inj h; omega⟩
    ·intro k hk
     have e : g14 = k := Option.some.inj hk
     omega
  ·refine nValP (i := 16) rfl rfl rfl (pal (cs := [_, _, _, _]) ti84 rfl) ?_
   rintro _ w16 ⟨b6, rfl, hb16, hx16, hB16⟩
   refine ⟨hg0.trans hx16, ?_⟩
   refine qO 7 (nCall (i := 7) rfl rfl rfl (yc (args := [.tmp 22, .tmp 23, .tmp 25]) cf99 rfl) (copiedS_ret (l := ps.map (·.1)) (i := m + 1) (j := ps.length) (by have := hK2.ext (hg0.trans hx16); simpa [innNd] using this) (by omega) (by simp) (by simpa using (by omega : ps.length ≤ 1000000)) _ _ rfl (by omega)) ?_)
   rintro v7 w7 ⟨hL7, hx7, hO7⟩
   refine ⟨(hg0.trans hx16).trans hx7, ?_⟩
   obtain ⟨g7, c7, rfl⟩ := some_of hL7 (by omega)
   refine qO 14 (nCall (i := 14) rfl rfl rfl (yc (args := [.tmp 30, .tmp 31, .tmp 32]) cf102 rfl) (copiedU_ret (l := c :: ps.map (·.2)) (i := m + 1) (j := ps.length + 1) (by have := hC2.ext ((hg0.trans hx16).trans hx7); simpa [innNd] using this) (by omega) (by simp) (by simpa using (by omega : ps.length + 1 ≤ 1000000)) _ _ rfl rfl) ?_)
   rintro v14 w14 ⟨hL14, hx14, hO14⟩
   refine ⟨((hg0.trans hx16).trans hx7).trans hx14, ?_⟩
   obtain ⟨g14, c14, rfl⟩ := some_of hL14 (by omega)
   refine qt 15 rfl (ybd (parts := [(1, .tmp 26), (3, .tmp 33)]) (cs := [_, _, _, _]) ti84 rfl sp84 rfl rfl) (((hg0.trans hx16).trans hx7).trans hx14) ?_
   have hxx := (((hg0.trans hx16).trans hx7).trans hx14)
   have hz16 := hx16.size
   have hz7 := hx7.size
   have hz14 := hx14.size
   have hz0 := hg0.size
   have hA7 := (hL7.ext hx14)
   have hA14 := hL14
   have hA16 := (hx14.blk (hx7.blk hB16))
   have hq7 := hL7.lt (g := g7) rfl
   have hr7 := hO7 g7 rfl
   have hq14 := hL14.lt (g := g14) rfl
   have hr14 := hO14 g14 rfl
   have hb6k := hB16.lt
   have hb6l := hA16.lt
   have hlo : w2.heap.size ≤ b6 := by omega
   refine qO 17 (nEffP (i := 17) rfl rfl (zstA (news := [.bool false, .slice (some ⟨g7, 0, none⟩) (ps.length - (m + 1)) c7, .slice none 0 0, .slice (some ⟨g14, 0, none⟩) (ps.length + 1 - (m + 1)) c14]) ti84 rfl rfl rfl rfl hA16 (by simp)) ?_)
   rintro w8 ⟨hB8, hk8⟩
   refine ⟨hxx.trans_new hk8 (fun i hi => by rw [hi]; exact hlo), ?_⟩
   refine qE (Run.qb (e := [(0, _), (2, _), (3, _), (4, _), (6, _)]) ?_)
   have hx8 := hxx.trans_new hk8 (fun i hi => by rw [hi]; exact hlo)
   refine (hk _ _ ⟨b6, _, _, rfl, hx8, hB8, ?_, ?_, ?_, ?_, hlo⟩).qb
   ·have := hA7.kp hk8 (fun g hg h => by have e : g7 = g := Option.some.inj hg; omega)
    simpa [List.map_drop, List.take_of_length_le] using this
   ·have := hA14.kp hk8 (fun g hg h => by have e : g14 = g := Option.some.inj hg; omega)
    rw [kids_drop hdr] at this
    rw [show ps.length - (m + 1) + 1 = ps.length + 1 - (m + 1) by omega]
    exact this
   ·intro k hk
    have e : g7 = k := Option.some.inj hk
    exact ⟨by omega, fun h => by have e2 : g14 = k := Option.some.inj h; omega⟩
   ·intro k hk
    have e : g14 = k := Option.some.inj hk
    omega
end
section
variable {w : World}
structure NdP (w : World) (n : Nd) (kv vv cv : Value) : Prop where
 keys : Sl w kv 9 1 n.keys.length (n.keys.map S)
 vals : Sl w vv 9 1 n.vals.length (n.vals.map S)
 kids : Sl w cv 89 1 n.kids.length (n.kids.map u32v)
 bd : n.Bd
 d2 : ∀ k, kv.ownBlock = some k → vv.ownBlock ≠ some k ∧ cv.ownBlock ≠ some k
 d3 : ∀ k, vv.ownBlock = some k → cv.ownBlock ≠ some k
def ownP (kv vv cv : Value) (k : Nat) : Prop := kv.ownBlock = some k ∨ vv.ownBlock = some k ∨ cv.ownBlock = some k
theorem NdP.lt {n : Nd} {kv vv cv : Value} (h : NdP w n kv vv cv) {k : Nat} (hk : ownP kv vv cv k) : k < w.heap.size := by
 rcases hk with hk | hk | hk
 ·exact h.keys.lt hk
 ·exact h.vals.lt hk
 ·exact h.kids.lt hk
theorem NdP.kp {S : Nat → Prop} {w' : World} {n : Nd} {kv vv cv : Value} (h : NdP w n kv vv cv) (k : Kp S w w') (hs : ∀ i, ownP kv vv cv i → ¬ S i) : NdP w' n kv vv cv :=
 ⟨h.keys.kp k (fun g hg => hs g (.inl hg)), h.vals.kp k (fun g hg => hs g (.inr (.inl hg))), h.kids.kp k (fun g hg => hs g (.inr (.inr hg))), h.bd, h.d2, h.d3⟩
theorem NdP.at {n : Nd} {kv vv cv : Value} (h : NdP w n kv vv cv) {b : Nat} (hB : Blk w b [.bool n.leaf, kv, vv, cv] 84) (hb : ¬ ownP kv vv cv b) : NdM w n ⟨b, kv, vv, cv⟩ :=
 ⟨hB, h.keys, h.vals, h.kids, h.bd, ⟨fun e => hb (.inl e), fun e => hb (.inr (.inl e)), fun e => hb (.inr (.inr e))⟩, h.d2, h.d3⟩
theorem rd_intT {w : World} {b off n cap : Nat} {l : List Int} {i : Nat} {z : Int} (h : Rd w (.slice (some ⟨b, off, none⟩) n cap) 1 n (l.map I)) (hi : i < n) (hz : l[i]? = some z) : w.cell? ⟨b, off + i * 1, none⟩ = some (I z) := by
 rcases h.2 with ⟨c, -, h0⟩ | ⟨b', off', cap', hv, hc⟩
 ·omega
 ·cases hv
  rw [Nat.mul_one]
  exact hc i _ (by rw [List.getElem?_map, hz]; rfl)
theorem oneV_sl {v : Value} {T s n} {us : List Value} (h : Sl w v T s n us) : oneV v = true := by
 rcases h.shape with ⟨rfl, -⟩ | ⟨g, c, rfl, -⟩ <;> rfl
set_option maxHeartbeats 1000000 in
theorem fresh_ret {p : Nat} {T : Tr} {nb : Int → Nat} {F : Nat → Prop} (h : TreeA w p T nb F) {no : Int} {gs : List Int} (hg : T.given = no :: gs) (hgl : gs.length ≤ 4294967296) {n : Nd} {kv vv cv : Value} (hP : NdP w n kv vv cv) (hF : ∀ k, ownP kv vv cv k → ¬ F k) (hnone : T.nodes no = none) :
  Ret Tryz.prog 67 [ptr p 0, .agg #[.bool n.leaf, kv, vv, cv]] w fun v w' => v = I no ∧ ∃ b F', TreeA w' p ((({ T with given := gs } : Tr).setN no n).mark no) (updI nb no b) F' ∧ Kp F w w' ∧ ∀ k, F' k → F k ∨ w.heap.size ≤ k ∨ ownP kv vv cv k := by
 refine ret_of_run (e := [(0, _), (1, _)]) Tryz.func67 rfl Tryz.ntmps67 rfl rfl (qN rfl (rValP rfl rfl (pbx rfl rfl) ?_))
 rintro _ w1 ⟨b, rfl, hb, hx1, hB1⟩
 have h1 := h.ext hx1
 obtain ⟨mN, mC, mO, gv, kn, kc, ko, O⟩ := h1.opn
 have hGs := O.gs
 have hgl1 : T.given.length = gs.length + 1 := by rw [hg]; rfl
 rcases hGs.shape with ⟨-, h0⟩ | ⟨g, cap, rfl, hcap⟩
 ·rw [hg] at h0; simp at h0
 refine qa rfl (qM rfl (qm rfl (qV (ynk rfl) (qV (yfa fl74_6 rfl) (qV (yld U34 rfl rfl O.blk rfl) (qV (yis U34 ti3 rfl rfl (by omega)) (qV (yldc U3 rfl rfl (rd_intT (z := no) hGs.rd (by omega) (by rw [hg]; rfl))) ?_)))))))
 refine qa rfl (qM rfl (qm rfl (qm rfl (qV (ynk rfl) (qV (yfa fl74_6 rfl) (qV (yld U34 rfl rfl O.blk rfl) (rCall rfl rfl (yc (args := [.tmp 16, .const (Value.int .i64 0), .const (Value.int .i64 1)]) cf94 rfl) (delI_ret (i := 0) hGs (fun c hc => by obtain ⟨z, -, rfl⟩ := List.mem_map.1 hc; rfl) (by omega) (by omega)) ?_)))))))
 rintro gv' w2 ⟨hS2, hk2, ho2⟩
 have hne := O.ne
 refine qV (ynk rfl) (qV (yfa fl74_6 rfl) (rEffP rfl (zst ti34 rfl rfl (oneV_sl hS2) (hk2.blk O.blk hne.2.2.2) (by simp [trCs])) ?_))
 rintro w3 ⟨hB3, hk3⟩
 refine rEnd (run_seq ?_)
 have hS3 : Sl w3 gv' 3 1 gs.length (gs.map I) := by
  have := hS2.kp hk3 (fun k hk e => hne.2.2.2 (by rw [← e]; exact ho2 k hk))
  rw [hg] at this
  simpa using this
 obtain ⟨F1, h3, hF1⟩ := O.setG w3 gv' gs hB3 hS3 ((hk2.mono' (fun _ h => .inr h)).trans (hk3.mono' (fun _ h => .inl h))) (fun k hk => .inl (ho2 k hk))
 have hk13 : Kp F w1 w3 := (hk2.mono' (fun k hk => O.fp.2.2.2.2 k hk)).trans (hk3.mono' (fun k hk => by rw [hk]; exact O.fp.1))
 obtain ⟨mN1, mC1, mO1, gv1, kn1, kc1, ko1, O1⟩ := h3.opn
 have hne1 := O1.ne
 have hap : mN1 ≠ mC1 := O1.ap.1
 refine run_draw (fun w' => Kp (fun k => k = mN1 ∨ k = mC1) w3 w') (by kernel_rfl) rfl (qt 0 rfl (ymv rfl) ((Ext.drew0 w3).kp) (qt 1 rfl (ynk rfl) ((Ext.drew0 w3).kp) (qt 2 rfl (yfa fl74_5 rfl) ((Ext.drew0 w3).kp) (qT 3 rfl (fun _ hS => yld U71 rfl rfl (hS.blk O1.blk (fun h => h.elim (fun e => hne1.1 e.symm) (fun e => hne1.2.1 e.symm))) rfl) ((Ext.drew0 w3).kp) (qt 4 rfl (ymv rfl) ((Ext.drew0 w3).kp) (qt 5 rfl (ymv rfl) ((Ext.drew0 w3).kp) (qt 6 rfl (ynk rfl) ((Ext.drew0 w3).kp) (qt 7 rfl (yfa fl74_7 rfl) ((Ext.drew0 w3).kp) (qT 8 rfl (fun _ hS => yld U72 rfl rfl (hS.blk O1.blk (fun h => h.elim (fun e => hne1.1 e.symm) (fun e => hne1.2.1 e.symm))) rfl) ((Ext.drew0 w3).kp) (qt 9 rfl (ymv rfl) ((Ext.drew0 w3).kp) ?_))))))))))
 have hg0 : Ext w3 w3.drew := Ext.drew0 w3
 refine qO 10 (nValP (i := 10) rfl rfl rfl (pme (k := no) (K := KZ) U71 (ky_int U3) ti81 rfl rfl (O1.nm.kp hg0 id)) ?_)
 rintro _ w4 ⟨be, rfl, hE4, hk4⟩
 refine ⟨(hg0.kp).trans (hk4.mono' (fun _ h => .inl h)), ?_⟩
 refine qt 11 rfl (yex rfl rfl) ((hg0.kp).trans (hk4.mono' (fun _ h => .inl h))) (qO 12 (nEffP (i := 12) rfl rfl (zes rfl rfl rfl hE4) ?_))
 rintro w5 ⟨hM5, hk5⟩
 refine ⟨((hg0.kp).trans (hk4.mono' (fun _ h => .inl h))).trans (hk5.mono' (fun _ h => .inl h)), ?_⟩
 have hk35 : Kp (fun k => k = mN1) w3 w5 := ((hg0.kp).trans hk4).trans hk5
 have hz1 := hx1.size
 have hz3 := hk13.size
 have hz5 := hk35.size
 have hbo : ¬ ownP kv vv cv b := fun hk => by have := hP.lt hk; omega
 have hFl : ∀ k, F k → k < w.heap.size := h.lt
 have hF1' : ∀ k, Pl.fp ⟨b, kv, vv, cv⟩ k → ¬ F1 k := by
  intro k hk hk1
  have hq : k < w1.heap.size ∧ ¬ F k := by
   rcases hk with hk | hk
   ·dsimp only at hk
    exact ⟨by have := hB1.lt; omega, fun e => by have := hFl k e; omega⟩
   ·exact ⟨by have := hP.lt hk; omega, hF k hk⟩
  rcases hF1 k hk1 with e | e
  ·exact hq.2 e
  ·omega
 have hnF1 : ∀ k, k = mN1 → F1 k := fun k e => by rw [e]; exact O1.fp.2.1
 have hN1 : NdM w1 n ⟨b, kv, vv, cv⟩ := NdP.at (hP.kp hx1 (fun _ _ => id)) hB1 hbo
 have hN3 : NdM w3 n ⟨b, kv, vv, cv⟩ := hN1.kp hk13 (fun k hk hFk => by
  rcases hk with hk | hk
  ·dsimp only at hk; have := hFl k hFk; omega
  ·exact hF k hk hFk)
 have hN5 : NdM w5 n ⟨b, kv, vv, cv⟩ := hN3.kp hk35 (fun k hk e => hF1' k hk (hnF1 k e))
 obtain ⟨F2, h5, hF2⟩ := O1.newN w5 _ no n ⟨b, kv, vv, cv⟩ hN5 hM5 hk35 (fun x => by
  rw [getL_put, getL_put]
  by_cases e : x = no <;> simp [e]) hnone hF1'
 obtain ⟨mN2, mC2, mO2, gv2, kn2, kc2, ko2, O2⟩ := h5.opn
 have hB5 := hk35.blk O1.blk (fun e => hne1.1 e.symm)
 obtain ⟨e1, e2⟩ : mC2 = mC1 ∧ mN2 = mN1 := by
  have := Blk.inj O2.blk hB5
  simp [trCs] at this
  exact ⟨by omega, by omega⟩
 subst e1
 subst e2
 refine qO 13 (nValP (i := 13) rfl rfl rfl (pme (k := no) (K := KZ) U72 (ky_int U3) ti3 rfl rfl O2.cm) ?_)
 rintro _ w6 ⟨be2, rfl, hE6, hk6⟩
 refine ⟨(hk35.mono' (fun _ h => .inl h)).trans (hk6.mono' (fun _ h => .inr h)), ?_⟩
 refine qt 14 rfl (yex rfl rfl) ((hk35.mono' (fun _ h => .inl h)).trans (hk6.mono' (fun _ h => .inr h))) (qO 15 (nEffP (i := 15) rfl rfl (zes rfl rfl rfl hE6) ?_))
 rintro w7 ⟨hM7, hk7⟩
 refine ⟨((hk35.mono' (fun _ h => .inl h)).trans (hk6.mono' (fun _ h => .inr h))).trans (hk7.mono' (fun _ h => .inr h)), ?_⟩
 refine qE (Run.qb (e := [(4, _), (5, _)]) ?_)
 refine qN rfl (qm rfl (qa rfl (rEnd ?_)))
 have hk57 : Kp (fun k => k = mC2) w5 w7 := hk6.trans hk7
 have h7 := O2.setC w7 _ (updI T.changed no true) hM7 hk57 (fun x => by
  rw [getL_put, getL_put]
  by_cases e : x = no
  ·subst e; simp [flag, updI]
  ·rw [if_neg e, if_neg e, O2.cg]; simp [updI, e, Tr.setN])
 refine run_ret Tryz.func67 rfl (⟨_, rfl, rfl, b, F2, h7, ?_, fun k hk => ?_⟩)
 ·have hold : ∀ k, F1 k → w.heap.size ≤ k ∨ F k := fun k hk => (hF1 k hk).elim .inr (fun e => .inl (by omega))
  have a := (hx1.kp (S := F)).trans hk13
  have b' := a.trans_new hk35 (fun i hi => hold i (hnF1 i hi))
  exact b'.trans_new hk57 (fun i hi => by rw [hi]; exact hold _ O1.fp.2.2.1)
 ·rcases hF2 k hk with e | e
  ·rcases hF1 k e with e | e
   ·exact .inl e
   ·exact .inr (.inl (by omega))
  ·rcases e with e | e
   ·dsimp only at e; exact .inr (.inl (by omega))
   ·exact .inr (.inr e)
end
end Go.Proofs.YtocnhaoilnojmaaGreat
namespace Go.Proofs.YtocnhaoilnojmaaGreat
open Go Go.Proofs Go.Shelf
set_option linter.all false
def sortA_ren : Go.Shelf.Ren := ⟨fun | 5 => 62 | 8 => 93 | 7 => 92 | 19 => 127 | 20 => 128 | 10 => 118 | 11 => 119 | 12 => 120 | 13 => 121 | 14 => 122 | 15 => 123 | 16 => 124 | 17 => 125 | 18 => 126 | 30 => 149 | 31 => 150 | 32 => 151 | 33 => 152 | 34 => 153 | 35 => 154 | 40 => 167 | n => n, fun | 23 => 34 | 25 => 3 | 3 => 3 | 32 => 118 | 22 => 34 | 0 => 0 | 44 => 89 | 46 => 175 | 4 => 4 | 36 => 167 | 35 => 166 | 41 => 85 | 5 => 5 | 9 => 9 | 53 => 188 | 57 => 192 | 63 => 205 | 64 => 206 | n => n, fun | n => n⟩
theorem sortA : Go.Proofs.SlLaysM.n5 Tryz.prog sortA_ren := {
  mixed := by kernel_rfl
  f5 := ⟨Tryz.f62.name, by decide, Tryz.func62.trans (congrArg some (by kernel_rfl))⟩
  f7 := ⟨Tryz.f92.name, by decide, Tryz.func92.trans (congrArg some (by kernel_rfl))⟩
  f8 := Tryz.func93.trans (congrArg some (by kernel_rfl))
  f10 := ⟨Tryz.f118.name, by decide, Tryz.func118.trans (congrArg some (by kernel_rfl))⟩
  f11 := ⟨Tryz.f119.name, by decide, Tryz.func119.trans (congrArg some (by kernel_rfl))⟩
  f12 := ⟨Tryz.f120.name, by decide, Tryz.func120.trans (congrArg some (by kernel_rfl))⟩
  f13 := ⟨Tryz.f121.name, by decide, Tryz.func121.trans (congrArg some (by kernel_rfl))⟩
  f14 := ⟨Tryz.f122.name, by decide, Tryz.func122.trans (congrArg some (by kernel_rfl))⟩
  f15 := ⟨Tryz.f123.name, by decide, Tryz.func123.trans (congrArg some (by kernel_rfl))⟩
  f16 := ⟨Tryz.f124.name, by decide, Tryz.func124.trans (congrArg some (by kernel_rfl))⟩
  f17 := ⟨Tryz.f125.name, by decide, Tryz.func125.trans (congrArg some (by kernel_rfl))⟩
  f18 := ⟨Tryz.f126.name, by decide, Tryz.func126.trans (congrArg some (by kernel_rfl))⟩
  f19 := Tryz.func127.trans (congrArg some (by kernel_rfl))
  f20 := Tryz.func128.trans (congrArg some (by kernel_rfl))
  f30 := ⟨Tryz.f149.name, by decide, Tryz.func149.trans (congrArg some (by kernel_rfl))⟩
  f31 := Tryz.func150.trans (congrArg some (by kernel_rfl))
  f32 := Tryz.func151.trans (congrArg some (by kernel_rfl))
  f33 := ⟨Tryz.f152.name, by decide, Tryz.func152.trans (congrArg some (by kernel_rfl))⟩
  f34 := ⟨Tryz.f153.name, by decide, Tryz.func153.trans (congrArg some (by kernel_rfl))⟩
  f35 := ⟨Tryz.f154.name, by decide, Tryz.func154.trans (congrArg some (by kernel_rfl))⟩
  f40 := ⟨Tryz.f167.name, by decide, Tryz.func167.trans (congrArg some (by kernel_rfl))⟩
  t0 := Tryz.underlying0
  a0 := Tryz.isAgg0
  z0 := Tryz.sizeOf0
  v0 := Tryz.zeroValue0
  t3 := Tryz.underlying3
  a3 := Tryz.isAgg3
  z3 := Tryz.sizeOf3
  v3 := Tryz.zeroValue3
  t4 := Tryz.underlying4
  a4 := Tryz.isAgg4
  z4 := Tryz.sizeOf4
  v4 := Tryz.zeroValue4
  t5 := Tryz.underlying5
  a5 := Tryz.isAgg5
  z5 := Tryz.sizeOf5
  v5 := Tryz.zeroValue5
  t9 := Tryz.underlying9
  a9 := Tryz.isAgg9
  z9 := Tryz.sizeOf9
  v9 := Tryz.zeroValue9
  t22 := Tryz.underlying34
  a22 := Tryz.isAgg34
  z22 := Tryz.sizeOf34
  v22 := Tryz.zeroValue34
  t23 := Tryz.underlying34
  a23 := Tryz.isAgg34
  z23 := Tryz.sizeOf34
  v23 := Tryz.zeroValue34
  t25 := Tryz.underlying3
  a25 := Tryz.isAgg3
  z25 := Tryz.sizeOf3
  v25 := Tryz.zeroValue3
  t32 := Tryz.underlying118
  a32 := Tryz.isAgg118
  z32 := Tryz.sizeOf118
  v32 := Tryz.zeroValue118
  t35 := Tryz.underlying166
  a35 := Tryz.isAgg166
  z35 := Tryz.sizeOf166
  v35 := Tryz.zeroValue166
  t36 := Tryz.underlying167
  a36 := Tryz.isAgg167
  z36 := Tryz.sizeOf167
  v36 := Tryz.zeroValue167
  t41 := Tryz.underlying85
  a41 := Tryz.isAgg85
  z41 := Tryz.sizeOf85
  v41 := Tryz.zeroValue85
  t44 := Tryz.underlying89
  a44 := Tryz.isAgg89
  z44 := Tryz.sizeOf89
  v44 := Tryz.zeroValue89
  t46 := Tryz.underlying175
  a46 := Tryz.isAgg175
  z46 := Tryz.sizeOf175
  v46 := Tryz.zeroValue175
  t53 := Tryz.underlying188
  a53 := Tryz.isAgg188
  z53 := Tryz.sizeOf188
  v53 := Tryz.zeroValue188
  t57 := Tryz.underlying192
  a57 := Tryz.isAgg192
  z57 := Tryz.sizeOf192
  v57 := Tryz.zeroValue192
  t63 := Tryz.underlying205
  a63 := Tryz.isAgg205
  z63 := Tryz.sizeOf205
  v63 := Tryz.zeroValue205
  t64 := Tryz.underlying206
  a64 := Tryz.isAgg206
  z64 := Tryz.sizeOf206
  v64 := Tryz.zeroValue206 }
end Go.Proofs.YtocnhaoilnojmaaGreat
namespace Go.Proofs.YtocnhaoilnojmaaGreat
open Go Go.RowKit Go.Shelf
set_option linter.all false
set_option maxRecDepth 100000
section
variable {w : World}
theorem sortI_ret {sv : Value} {l : List Int} (hS : Sl w sv 3 1 l.length (l.map I)) (h0 : 0 < l.length) (hl : l.length ≤ 8589934592) :
  Ret Tryz.prog 62 [sv] w fun v w' => v = .tuple #[] ∧ Sl w' sv 3 1 l.length ((l.mergeSort fun x y => decide (x ≤ y)).map I) ∧ Kp (fun k => sv.ownBlock = some k) w w' := by
 rcases hS.2 with ⟨-, h1⟩ | ⟨g, cap, cur, rfl, hb, hh, hn, hc, hz, ht⟩
 ·omega
 have hH : Go.Sort.Holds (Value.int .i64) w g 0 l.toArray := holds_of_blockI hh (by rw [Nat.mul_one] at ht; exact ht)
 have := AnyM.slices_Sort_int sortA g 0 cap l w hH (hS.lt (g := g) rfl) (by omega)
 refine Calls.mono this fun _ _ ⟨he, n, os, hw⟩ => ⟨_, he, rfl, ?_, ?_⟩
 ·rw [hw]
  exact ownsRow_sortedI (List.length_mergeSort _) hb hh hn hc hz
 ·rw [hw]
  exact (Kp.of_grown (grownBy_sortedI _)).mono' fun k hk => hk
end
end Go.Proofs.YtocnhaoilnojmaaGreat
namespace Go.Proofs.YtocnhaoilnojmaaGreat
open Go Go.RowKit
set_option linter.all false
set_option maxRecDepth 100000
section
variable {w : World}
def sortZ (l : List Int) : List Int := l.mergeSort fun x y => decide (x ≤ y)
def Tr.dropN (T : Tr) (no : Int) : Tr := { T with nodes := updI T.nodes no none, changed := updI T.changed no false, given := if T.old no then T.given else sortZ (T.given ++ [no]) }
set_option maxHeartbeats 1000000 in
theorem drop_ret {p : Nat} {T : Tr} {nb : Int → Nat} {F : Nat → Prop} (h : TreeA w p T nb F) (no : Int) (hgl : T.given.length ≤ 4294967296) :
  Ret Tryz.prog 79 [ptr p 0, I no] w fun v w' => v = .tuple #[] ∧ ∃ F', TreeA w' p (T.dropN no) nb F' ∧ Kp F w w' ∧ (∀ k, F' k → F k ∨ w.heap.size ≤ k) ∧ ∀ x n q, T.nodes x = some n → NdM w n q → q.b = nb x → NdM w' n q := by
 have hml : maxLen = 9223372036854775807 := rfl
 obtain ⟨mN, mC, mO, gv, kn, kc, ko, O⟩ := h.opn
 refine ret_of_run (e := [(0, _), (1, _)]) Tryz.func79 rfl Tryz.ntmps79 rfl rfl (qN rfl (qm rfl (qV (ynk rfl) (qV (yfa fl74_5 rfl) (qV (yld U71 rfl rfl O.blk rfl) (qm rfl (rValP0 rfl (pdel (k := no) (K := KZ) U71 (ky_int U3) rfl rfl O.nm rfl) ?_)))))))
 rintro _ w1 ⟨hM1, hk1⟩
 obtain ⟨F1, h1, hF1⟩ := O.delN w1 _ no hM1 hk1 (fun x => getL_del O.nm.2 no x)
 obtain ⟨mN1, mC1, mO1, gv1, kn1, kc1, ko1, O1⟩ := h1.opn
 obtain ⟨e1, e2, e3, e4⟩ : mN1 = mN ∧ gv1 = gv ∧ mC1 = mC ∧ mO1 = mO := by
  have := Blk.inj O1.blk (hk1.blk O.blk O.ne.1.symm)
  simpa [trCs] using this
 subst e1 e2 e3 e4
 refine qM rfl (qm rfl (qV (ynk rfl) (qV (yfa fl74_7 rfl) (qV (yld U72 rfl rfl O1.blk rfl) (qm rfl (rValP0 rfl (pdel (k := no) (K := KZ) U72 (ky_int U3) rfl rfl O1.cm rfl) ?_))))))
 rintro _ w2 ⟨hM2, hk2⟩
 have h2 := O1.setC w2 _ (updI T.changed no false) hM2 hk2 (fun x => by
  rw [getL_del O1.cm.2, O1.cg]
  by_cases e : x = no
  ·subst e; simp [flag, updI]
  ·rw [if_neg e]; simp [updI, e])
 obtain ⟨mN2, mC2, mO2, gv2, kn2, kc2, ko2, O2⟩ := h2.opn
 obtain ⟨e1, e2, e3, e4⟩ : mN2 = mN1 ∧ gv2 = gv1 ∧ mC2 = mC1 ∧ mO2 = mO1 := by
  have := Blk.inj O2.blk (hk2.blk O1.blk O1.ne.2.1.symm)
  simpa [trCs] using this
 subst e1 e2 e3 e4
 have hG2 : Kp (fun k => k = p ∨ k = mN2 ∨ k = mC2 ∨ gv2.ownBlock = some k) w w2 := (hk1.mono' (fun k hk => .inr (.inl hk))).trans (hk2.mono' (fun k hk => .inr (.inr (.inl hk))))
 have hkeep : ∀ w', Kp (fun k => k = p ∨ k = mN2 ∨ k = mC2 ∨ gv2.ownBlock = some k) w w' → ∀ x n q, T.nodes x = some n → NdM w n q → q.b = nb x → NdM w' n q := fun w' hG x n q hx hq e => hq.kp hG (fun k hk hGk => by
  obtain ⟨t1, t2, t3, t4, t5⟩ := O.top x n q hx hq e k hk
  rcases hGk with a | a | a | a
  ·exact t1 a
  ·exact t2 a
  ·exact t3 a
  ·exact t5 a)
 have hk02 : Kp F w w2 := (hk1.mono' (fun k hk => by rw [hk]; exact O.fp.2.1)).trans (hk2.mono' (fun k hk => by rw [hk]; exact hF1 _ O1.fp.2.2.1))
 refine qM rfl (qm rfl (qV (ynk rfl) (qV (yfa fl74_8 rfl) (qV (yld U72 rfl rfl O2.blk rfl) (qm rfl (qV (ylk (k := no) (K := KZ) U72 (ky_int U3) ti3 rfl rfl O2.om.l) ?_))))))
 rw [O2.og no]
 obtain ⟨zo, hzo, hz⟩ : ∃ zo : Int, (flag (T.old no)).getD (I 0) = I zo ∧ (zo = 0 ↔ T.old no = false) := by
  cases T.old no
  ·exact ⟨0, rfl, by simp⟩
  ·exact ⟨1, rfl, by simp⟩
 rw [hzo]
 refine qV (yeq rfl rfl) (rEnd (run_if rfl (fun hz0 => ?_) (fun hz0 => ?_)))
 ·have ho := hz.1 hz0
  refine qN rfl (qm rfl (qm rfl (qV (ynk rfl) (qV (yfa fl74_6 rfl) (qV (yld U34 rfl rfl O2.blk rfl) (qm rfl (rValP rfl rfl (pbs (parts := [(0, .tmp 26)]) (cs := [_]) (zs := [Value.int .i64 0]) U34 ti3 rfl (by kernel_rfl) rfl rfl rfl (by decide)) ?_)))))))
  rintro _ w4 ⟨b4, rfl, ⟨hb4, hx4, hB4⟩, hS4⟩
  have hG4 := O2.gs.ext hx4
  dsimp only at hG4
  refine rValP rfl rfl (pap U34 ti3 rfl (by decide) rfl rfl hG4 hS4.rd (by intro c hc; simp at hc; subst hc; rfl) (by omega) (by omega)) ?_
  rintro gv5 w5 ⟨hS5, hk5, hown5, -⟩
  have hne2 := O2.ne
  have hB5 := hk5.blk (hx4.blk O2.blk) hne2.2.2.2
  refine qV (ynk rfl) (qV (yfa fl74_6 rfl) (rEffP rfl (zst ti34 rfl rfl (oneV_sl hS5) hB5 (by simp [trCs])) ?_))
  rintro w6 ⟨hB6, hk6⟩
  have hz4 := hx4.size
  have hz5 := hk5.size
  have hz6 := hk6.size
  have hz02 := hk02.size
  have hpl : p < w2.heap.size := O2.blk.lt
  have hS6 : Sl w6 gv5 3 1 (T.given ++ [no]).length ((T.given ++ [no]).map I) := by
   have := hS5.kp hk6 (fun k hk e => by
    rw [e] at hk
    rcases hown5 p hk with h | h
    ·exact hne2.2.2.2 h
    ·omega)
   simpa using this
  obtain ⟨F6, h6, hF6⟩ := O2.setG w6 gv5 (T.given ++ [no]) hB6 hS6 (((hx4.kp).trans (hk5.mono' (fun _ h => .inr h))).trans (hk6.mono' (fun _ h => .inl h))) (fun k hk => by
   rcases hown5 k hk with h | h
   ·exact .inl h
   ·exact .inr (by omega))
  have hk26 : Kp F1 w2 w6 := ((hx4.kp).trans (hk5.mono' (fun k hk => O2.fp.2.2.2.2 k hk))).trans (hk6.mono' (fun k hk => by rw [hk]; exact O2.fp.1))
  obtain ⟨mN6, mC6, mO6, gv6, kn6, kc6, ko6, O6⟩ := h6.opn
  refine rEnd (Run.qb (e := [(0, _)]) ?_)
  refine run_reg rfl (qm rfl (qV (ynk rfl) (qV (yfa fl74_6 rfl) (qV (yld U34 rfl rfl O6.blk rfl) (rCall rfl rfl (yc (args := [.tmp 34]) cf62 rfl) (sortI_ret (l := T.given ++ [no]) O6.gs (by simp) (by simp; omega)) ?_)))))
  rintro _ w7 ⟨rfl, hS7, hk7⟩
  refine rEnd (run_end Tryz.func79 rfl ?_)
  obtain ⟨F7, h7, hF7⟩ := O6.setG w7 gv6 (sortZ (T.given ++ [no])) (hk7.blk O6.blk O6.ne.2.2.2) (by
   have e : (sortZ (T.given ++ [no])).length = (T.given ++ [no]).length := List.length_mergeSort _
   rw [e]
   exact hS7) (hk7.mono' (fun _ h => .inr h)) (fun k hk => .inl hk)
  have hold : ∀ k, F6 k → w.heap.size ≤ k ∨ F k := fun k hk => (hF6 k hk).elim (fun e => .inr (hF1 k e)) (fun e => .inl (by omega))
  have e6 : gv6 = gv5 := by
   have := Blk.inj O6.blk hB6
   simp [trCs] at this
   exact this.2.1
  subst e6
  have hG6 := (((hG2.trans hx4.kp).trans (hk5.mono' (fun k hk => .inr (.inr (.inr hk))))).trans (hk6.mono' (fun k hk => .inl hk))).trans_new hk7 (fun k hk => (hown5 k hk).elim (fun e => .inr (.inr (.inr (.inr e)))) (fun e => .inl (by omega)))
  refine ⟨_, rfl, rfl, F7, ?_, ?_, fun k hk => ?_, hkeep _ hG6⟩
  ·have e : T.dropN no = { T with nodes := updI T.nodes no none, changed := updI T.changed no false, given := sortZ (T.given ++ [no]) } := by simp [Tr.dropN, ho]
   rw [e]
   exact h7
  ·exact (hk02.trans (hk26.mono' hF1)).trans_new hk7 (fun i hi => hold i (O6.fp.2.2.2.2 i hi))
  ·rcases hF7 k hk with e | e
   ·exact (hold k e).symm
   ·have := hk26.size; exact .inr (by omega)
 ·refine run_skip (run_end Tryz.func79 rfl ?_)
  have ho : T.old no = true := by
   cases e : T.old no
   ·exact absurd (hz.2 e) hz0
   ·rfl
  refine ⟨_, rfl, rfl, F1, ?_, hk02, fun k hk => .inl (hF1 k hk), hkeep _ hG2⟩
  have e : T.dropN no = { T with nodes := updI T.nodes no none, changed := updI T.changed no false } := by simp [Tr.dropN, ho]
  rw [e]
  exact h2
end
section
variable {w : World}
theorem Tr.dropN_nodes (T : Tr) {x no : Int} (h : no ≠ x) : (T.dropN x).nodes no = T.nodes no := updI_ne h
set_option maxHeartbeats 1000000 in
theorem gone_ret {p : Nat} {T : Tr} {nb : Int → Nat} {F : Nat → Prop} (h : TreeA w p T nb F) {no : Int} {c x : Nat} {ps : List (Bytes × Nat)} {up : Bytes} {i : Nat} (hn : T.nodes no = some (innNd c ps)) (hi : ps[i]? = some (up, x)) (hne : no ≠ (x : Int)) (hgl : T.given.length ≤ 4294967296) {lv rv : Value} :
  Ret Tryz.prog 131 [ptr p 0, .agg #[ptr (nb no) 0, I (i : Int), lv, rv]] w fun v w' => v = .tuple #[] ∧ ∃ F', TreeA w' p ((T.dropN x).setN no (innNd c (ps.take i ++ ps.drop (i + 1)))) nb F' ∧ Kp F w w' ∧ ∀ k, F' k → F k ∨ w.heap.size ≤ k := by
 obtain ⟨q0, hq0, hM0, hqF0, -⟩ := h.node hn
 have hil : i < ps.length := by
  rcases Nat.lt_or_ge i ps.length with h | h
  ·exact h
  ·rw [List.getElem?_eq_none h] at hi; cases hi
 have hxk : (innNd c ps).kids[i + 1]? = some x := by simp [innNd, hi]
 have hx32 := hM0.bd.cs x (List.mem_of_getElem? hxk)
 have hpl : ps.length ≤ 100000 := by have := hM0.bd.kl; simpa [innNd] using this
 have hkl : (innNd c ps).kids.length = ps.length + 1 := by simp [innNd]
 obtain ⟨qb, qk, qv, qc⟩ := q0
 dsimp only at hq0
 subst hq0
 have hMb := hM0.blk
 have hMc := hM0.kids
 dsimp only at hMb hMc
 rcases hMc.shape with ⟨-, h0⟩ | ⟨gc, cc, rfl, -⟩
 ·omega
 refine ret_of_run (e := [(0, _), (1, _)]) Tryz.func131 rfl Tryz.ntmps131 rfl rfl (qN rfl (rValP rfl rfl (pbx (cs := [ptr (nb no) 0, I (i : Int), lv, rv]) rfl rfl) ?_))
 rintro _ w1 ⟨b, rfl, hb, hx1, hB1⟩
 have hT1 := h.ext hx1
 refine rEnd (run_seq ?_)
 have hbF : ¬ F b := fun e => by have := h.lt b e; omega
 have hg0 : Ext w1 w1.drew := Ext.drew0 w1
 refine run_draw (fun w' => Kp F w1 w') (by kernel_rfl) rfl (qt 0 rfl (ymv rfl) ((Ext.drew0 w1).kp) (qt 1 rfl (yfa fl146_0 rfl) ((Ext.drew0 w1).kp) (qT 2 rfl (fun _ hS => yld U81 rfl rfl (hS.blk hB1 hbF) rfl) ((Ext.drew0 w1).kp) (qt 3 rfl (ynk rfl) ((Ext.drew0 w1).kp) (qt 4 rfl (yfa fl84_3 rfl) ((Ext.drew0 w1).kp) (qt 6 rfl (yfa fl146_1 rfl) ((Ext.drew0 w1).kp) (qT 7 rfl (fun _ hS => yld U3 rfl rfl (hS.blk hB1 hbF) rfl) ((Ext.drew0 w1).kp) (qt 8 rfl (yad rfl rfl (by omega)) ((Ext.drew0 w1).kp) (qO 5 (nVal (i := 5) rfl rfl rfl (yld U82 rfl rfl ((hx1.trans hg0).blk hMb) rfl) (hg0.kp) (qt 9 rfl (yis U82 ti89 rfl rfl (by omega)) (hg0.kp) (qO 10 (nVal (i := 10) rfl rfl rfl (yldc U89 rfl rfl (rd_u32 (hMc.ext (hx1.trans hg0)).rd (by omega) hxk)) (hg0.kp) ?_)))))))))))))
 refine qt 11 rfl (ycvSi64 rfl U89 U3 (by omega)) (hg0.kp) (qO 12 (nCall (i := 12) rfl rfl rfl (yc (args := [.tmp 4, .tmp 15]) cf79 rfl) (drop_ret (hT1.ext (Ext.drew0 w1)) (x : Int) hgl) ?_))
 rintro _ w2 ⟨rfl, F2, hT2, hk2, hF2, -⟩
 refine ⟨hg0.kp.trans hk2, ?_⟩
 refine qE ?_
 have hk12 : Kp F w1 w2 := hg0.kp.trans hk2
 have hB2 := hk12.blk hB1 hbF
 obtain ⟨q, hqb, hM, hqF, hclose⟩ := hT2.node (show (T.dropN x).nodes no = some (innNd c ps) by rw [Tr.dropN_nodes T hne]; exact hn)
 obtain ⟨qb, qk2, qv2, qc2⟩ := q
 dsimp only at hqb
 subst hqb
 have hMb2 := hM.blk
 have hMk2 := hM.keys
 have hMc2 := hM.kids
 dsimp only at hMb2 hMk2 hMc2
 have hkk : (innNd c ps).keys.length = ps.length := by simp [innNd]
 rcases hMk2.shape with ⟨-, h0⟩ | ⟨gk, ck, rfl, -⟩
 ·omega
 rcases hMc2.shape with ⟨-, h0⟩ | ⟨gc2, cc2, rfl, -⟩
 ·omega
 obtain ⟨Q, hQ⟩ : ∃ Q : Nat → Prop, (fun k => k = gk ∨ k = gc2 ∨ k = nb no) = Q := ⟨_, rfl⟩
 have hQb : Q (nb no) := by rw [← hQ]; exact .inr (.inr rfl)
 have hQk : Q gk := by rw [← hQ]; exact .inl rfl
 have hQc : Q gc2 := by rw [← hQ]; exact .inr (.inl rfl)
 have hQF : ∀ k, Q k → Pl.fp ⟨nb no, .slice (some ⟨gk, 0, none⟩) (innNd c ps).keys.length ck, qv2, .slice (some ⟨gc2, 0, none⟩) (innNd c ps).kids.length cc2⟩ k := by
  rw [← hQ]
  rintro k (rfl | rfl | rfl)
  ·exact .inr (.inl rfl)
  ·exact .inr (.inr (.inr rfl))
  ·exact .inl rfl
 have hz1 := hx1.size
 have hz12 := hk12.size
 have hbl := hB1.lt
 have hbQ : ¬ Q b := fun e => by
  rcases hF2 b (hqF b (hQF b e)).1 with h | h
  ·exact hbF h
  ·have := hg0.size; omega
 have hg2 : Ext w2 w2.drew := Ext.drew0 w2
 refine run_draw (fun w' => Kp Q w2 w') (by kernel_rfl) rfl ?_
 have hone : ∀ c' ∈ (innNd c ps).keys.map S, c'.oneCell' = true := fun c' hc => by obtain ⟨z, -, rfl⟩ := List.mem_map.1 hc; rfl
 have honeU : ∀ c' ∈ (innNd c ps).kids.map u32v, c'.oneCell' = true := fun c' hc => by obtain ⟨z, -, rfl⟩ := List.mem_map.1 hc; rfl
 have hMlt := hM.lt
 have hd2 := hM.d2 gk rfl
 have hd1 := hM.d1
 have hgc : gc2 ≠ gk := fun e => hd2.2 (by rw [e]; rfl)
 have hgkb : gk ≠ nb no := fun e => hd1.1 (by rw [← e]; rfl)
 have hgcb : gc2 ≠ nb no := fun e => hd1.2.2 (by rw [← e]; rfl)
 have hfin : ∀ kv' cv' wf, Sl wf kv' 9 1 ((innNd c ps).keys.length - 1) (((innNd c ps).keys.map S).take i ++ ((innNd c ps).keys.map S).drop (i + 1)) → (∀ g, kv'.ownBlock = some g → g = gk) → Sl wf cv' 89 1 ((innNd c ps).kids.length - 1) (((innNd c ps).kids.map u32v).take (i + 1) ++ ((innNd c ps).kids.map u32v).drop (i + 1 + 1)) → (∀ g, cv'.ownBlock = some g → g = gc2) → Blk wf (nb no) [.bool false, kv', qv2, cv'] 84 → Kp Q w2 wf → (∀ k, (k = gk ∨ k = gc2 ∨ k = nb no) → qv2.ownBlock ≠ some k) →
   ∃ F', TreeA wf p ((T.dropN x).setN no (innNd c (ps.take i ++ ps.drop (i + 1)))) nb F' ∧ Kp F w wf ∧ ∀ k, F' k → F k ∨ w.heap.size ≤ k := by
  intro kv' cv' wf hA hAo hB hBo hBlk hKp hv
  have hbd := hM.bd
  have hN : NdM wf (innNd c (ps.take i ++ ps.drop (i + 1))) ⟨nb no, kv', qv2, cv'⟩ := by
   refine ⟨hBlk, ?_, ?_, ?_, ?_, ⟨fun e => hgkb (hAo _ e).symm, hd1.2.1, fun e => hgcb (hBo _ e).symm⟩, fun k hk => ⟨fun e => hv k (.inl (hAo k hk)) e, fun e => hgc (by rw [← hBo k e, hAo k hk])⟩, fun k hk e => hv k (.inr (.inl (hBo k e))) hk⟩
   ·have e : (innNd c (ps.take i ++ ps.drop (i + 1))).keys.length = (innNd c ps).keys.length - 1 := by simp [innNd]; omega
    rw [e]
    simpa [innNd, List.map_take, List.map_drop] using hA
   ·exact hM.vals.kp hKp (fun g hg e => by rw [← hQ] at e; exact hv g e hg)
   ·have e : (innNd c (ps.take i ++ ps.drop (i + 1))).kids.length = (innNd c ps).kids.length - 1 := by simp [innNd]; omega
    rw [e]
    simpa [innNd, List.map_take, List.map_drop] using hB
   ·exact ⟨by simp [innNd]; omega, by simp [innNd], by simp [innNd]; omega, fun k hk => hbd.ks k (by
     simp only [innNd, List.map_append, List.map_take, List.map_drop, List.mem_append] at hk ⊢
     exact hk.elim List.mem_of_mem_take List.mem_of_mem_drop), fun k hk => by simp [innNd] at hk, fun k hk => hbd.cs k (by
     simp only [innNd, List.map_append, List.map_take, List.map_drop, List.mem_cons, List.mem_append] at hk ⊢
     exact hk.elim .inl (fun h => .inr (h.elim List.mem_of_mem_take List.mem_of_mem_drop)))⟩
  obtain ⟨F', hT', hF'⟩ := hclose wf _ ⟨nb no, kv', qv2, cv'⟩ rfl hN (hKp.mono' hQF) (fun k hk => by
   rcases hk with hk | hk | hk | hk
   ·dsimp only at hk; rw [hk]; exact .inl (hQF _ hQb)
   ·rw [hAo k hk]; exact .inl (hQF _ hQk)
   ·exact .inl (.inr (.inr (.inl hk)))
   ·rw [hBo k hk]; exact .inl (hQF _ hQc))
  have hold : ∀ k, F2 k → w.heap.size ≤ k ∨ F k := fun k hk => (hF2 k hk).elim .inr (fun e => .inl (by have := hg0.size; omega))
  refine ⟨F', hT', ?_, fun k hk => ?_⟩
  ·exact ((hx1.kp (S := F)).trans hk12).trans_new hKp (fun k hk => hold k (hqF k (hQF k hk)).1)
  ·rcases hF' k hk with e | e
   ·exact (hold k e).symm
   ·exact .inr (by omega)
 refine qt 0 rfl (yfa fl146_0 rfl) (hg2.kp) (qT 1 rfl (fun _ hS => yld U81 rfl rfl (hS.blk hB2 hbQ) rfl) (hg2.kp) (qt 2 rfl (yfa fl146_0 rfl) (hg2.kp) (qT 3 rfl (fun _ hS => yld U81 rfl rfl (hS.blk hB2 hbQ) rfl) (hg2.kp) (qt 4 rfl (yfa fl146_0 rfl) (hg2.kp) (qT 5 rfl (fun _ hS => yld U81 rfl rfl (hS.blk hB2 hbQ) rfl) (hg2.kp) (qt 6 rfl (ynk rfl) (hg2.kp) (qt 7 rfl (yfa fl84_1 rfl) (hg2.kp) (qt 9 rfl (yfa fl146_1 rfl) (hg2.kp) (qT 10 rfl (fun _ hS => yld U3 rfl rfl (hS.blk hB2 hbQ) rfl) (hg2.kp) (qt 11 rfl (yfa fl146_1 rfl) (hg2.kp) (qT 12 rfl (fun _ hS => yld U3 rfl rfl (hS.blk hB2 hbQ) rfl) (hg2.kp) (qt 13 rfl (yad rfl rfl (by omega)) (hg2.kp) (qt 15 rfl (yfa fl146_0 rfl) (hg2.kp) ?_)))))))))))))
 refine qT 16 rfl (fun _ hS => yld U81 rfl rfl (hS.blk hB2 hbQ) rfl) (hg2.kp) (qt 17 rfl (ynk rfl) (hg2.kp) (qt 18 rfl (yfa fl84_3 rfl) (hg2.kp) (qt 20 rfl (yfa fl146_1 rfl) (hg2.kp) (qT 21 rfl (fun _ hS => yld U3 rfl rfl (hS.blk hB2 hbQ) rfl) (hg2.kp) (qt 22 rfl (yad rfl rfl (by omega)) (hg2.kp) (qt 23 rfl (yfa fl146_1 rfl) (hg2.kp) (qT 24 rfl (fun _ hS => yld U3 rfl rfl (hS.blk hB2 hbQ) rfl) (hg2.kp) (qt 25 rfl (yad rfl rfl (by omega)) (hg2.kp) (hTwo (i := 8) (j := 19) (by kernel_rfl) ?_ ?_)))))))))
 ·refine nVal (i := 8) rfl rfl rfl (yld U23 rfl rfl (hg2.blk hMb2) rfl) (hg2.kp) (hTwo (i := 14) (j := 19) (by kernel_rfl) ?_ ?_)
  ·refine nCall (i := 14) rfl rfl rfl (yc (args := [.tmp 25, .tmp 27, .tmp 30]) cf45 rfl) (delS_ret (i := i) (hMk2.ext hg2) hone (by omega) (by omega)) ?_
   rintro kv14 w14 ⟨hS14, hk14, ho14⟩
   refine ⟨hg2.kp.trans (hk14.mono' (fun _ e => by cases e; exact hQk)), ?_⟩
   refine qO 19 (nVal (i := 19) rfl rfl rfl (yld U82 rfl rfl (hk14.blk (hg2.blk hMb2) (fun e => hgkb (Option.some.inj e))) rfl) ((hg2.kp.trans (hk14.mono' (fun _ e => by cases e; exact hQk)))) ?_)
   rw [show (i : Int) + 1 = ((i + 1 : Nat) : Int) by omega, show (i : Int) + 2 = ((i + 1 : Nat) : Int) + 1 by omega]
   refine qO 26 (nCall (i := 26) rfl rfl rfl (yc (args := [.tmp 36, .tmp 39, .tmp 42]) cf157 rfl) (delU_ret (i := i + 1) ((hMc2.ext hg2).kp hk14 (fun g hg e => hgc (by cases hg; exact (Option.some.inj e).symm))) honeU (by omega) (by omega)) ?_)
   rintro cv26 w26 ⟨hS26, hk26, ho26⟩
   refine ⟨(hg2.kp.trans (hk14.mono' (fun _ e => by cases e; exact hQk))).trans (hk26.mono' (fun _ e => by cases e; exact hQc)), ?_⟩
   refine qt 27 rfl (ynk rfl) ((hg2.kp.trans (hk14.mono' (fun _ e => by cases e; exact hQk))).trans (hk26.mono' (fun _ e => by cases e; exact hQc))) ?_
   refine qt 28 rfl (yfa fl84_1 rfl) ((hg2.kp.trans (hk14.mono' (fun _ e => by cases e; exact hQk))).trans (hk26.mono' (fun _ e => by cases e; exact hQc))) ?_
   have hkk26 : Kp Q w2 w26 := ((hg2.kp.trans (hk14.mono' (fun _ e => by cases e; exact hQk))).trans (hk26.mono' (fun _ e => by cases e; exact hQc)))
   have hBn := hk26.blk (hk14.blk (hg2.blk hMb2) (fun e => hgkb (Option.some.inj e))) (fun e => hgcb (Option.some.inj e))
   refine qO 29 (nEffP (i := 29) rfl rfl (zst ti23 rfl rfl (oneV_sl hS14) hBn (by simp)) ?_)
   rintro w27 ⟨hB27, hk27⟩
   refine ⟨hkk26.trans (hk27.mono' (fun _ e => by rw [e]; exact hQb)), ?_⟩
   refine qt 30 rfl (ynk rfl) (hkk26.trans (hk27.mono' (fun _ e => by rw [e]; exact hQb))) ?_
   refine qt 31 rfl (yfa fl84_3 rfl) (hkk26.trans (hk27.mono' (fun _ e => by rw [e]; exact hQb))) ?_
   refine qO 32 (nEffP (i := 32) rfl rfl (zst ti82 rfl rfl (oneV_sl hS26) hB27 (by simp)) ?_)
   rintro w28 ⟨hB28, hk28⟩
   refine ⟨(hkk26.trans (hk27.mono' (fun _ e => by rw [e]; exact hQb))).trans (hk28.mono' (fun _ e => by rw [e]; exact hQb)), ?_⟩
   refine qE (Run.qb (e := []) ?_)
   refine run_end Tryz.func131 rfl ?_
   have hk68 : Kp (fun k => k = nb no) w26 w28 := hk27.trans hk28
   have hA := (hS14.kp hk26 (fun g hg e => hgc (by have := ho14 g hg; cases this; exact Option.some.inj e))).kp hk68 (fun g hg e => hgkb (by have := ho14 g hg; cases this; exact e))
   have hB := hS26.kp hk68 (fun g hg e => hgcb (by have := ho26 g hg; cases this; exact e))
   refine ⟨_, rfl, rfl, hfin _ _ _ hA (fun g hg => (Option.some.inj (ho14 g hg)).symm) hB (fun g hg => (Option.some.inj (ho26 g hg)).symm) hB28 ((hkk26.trans (hk27.mono' (fun _ e => by rw [e]; exact hQb))).trans (hk28.mono' (fun _ e => by rw [e]; exact hQb))) ?_⟩
   rintro k (rfl | rfl | rfl) e
   ·exact hd2.1 e
   ·exact hM.d3 _ e rfl
   ·exact hd1.2.1 e
  ·refine nVal (i := 19) rfl rfl rfl (yld U82 rfl rfl (hg2.blk hMb2) rfl) (hg2.kp) (qO 14 (nCall (i := 14) rfl rfl rfl (yc (args := [.tmp 25, .tmp 27, .tmp 30]) cf45 rfl) (delS_ret (i := i) (hMk2.ext hg2) hone (by omega) (by omega)) ?_))
   rintro kv14 w14 ⟨hS14, hk14, ho14⟩
   refine ⟨hg2.kp.trans (hk14.mono' (fun _ e => by cases e; exact hQk)), ?_⟩
   rw [show (i : Int) + 1 = ((i + 1 : Nat) : Int) by omega, show (i : Int) + 2 = ((i + 1 : Nat) : Int) + 1 by omega]
   refine qO 26 (nCall (i := 26) rfl rfl rfl (yc (args := [.tmp 36, .tmp 39, .tmp 42]) cf157 rfl) (delU_ret (i := i + 1) ((hMc2.ext hg2).kp hk14 (fun g hg e => hgc (by cases hg; exact (Option.some.inj e).symm))) honeU (by omega) (by omega)) ?_)
   rintro cv26 w26 ⟨hS26, hk26, ho26⟩
   refine ⟨(hg2.kp.trans (hk14.mono' (fun _ e => by cases e; exact hQk))).trans (hk26.mono' (fun _ e => by cases e; exact hQc)), ?_⟩
   refine qt 27 rfl (ynk rfl) ((hg2.kp.trans (hk14.mono' (fun _ e => by cases e; exact hQk))).trans (hk26.mono' (fun _ e => by cases e; exact hQc))) ?_
   refine qt 28 rfl (yfa fl84_1 rfl) ((hg2.kp.trans (hk14.mono' (fun _ e => by cases e; exact hQk))).trans (hk26.mono' (fun _ e => by cases e; exact hQc))) ?_
   have hkk26 : Kp Q w2 w26 := ((hg2.kp.trans (hk14.mono' (fun _ e => by cases e; exact hQk))).trans (hk26.mono' (fun _ e => by cases e; exact hQc)))
   have hBn := hk26.blk (hk14.blk (hg2.blk hMb2) (fun e => hgkb (Option.some.inj e))) (fun e => hgcb (Option.some.inj e))
   refine qO 29 (nEffP (i := 29) rfl rfl (zst ti23 rfl rfl (oneV_sl hS14) hBn (by simp)) ?_)
   rintro w27 ⟨hB27, hk27⟩
   refine ⟨hkk26.trans (hk27.mono' (fun _ e => by rw [e]; exact hQb)), ?_⟩
   refine qt 30 rfl (ynk rfl) (hkk26.trans (hk27.mono' (fun _ e => by rw [e]; exact hQb))) ?_
   refine qt 31 rfl (yfa fl84_3 rfl) (hkk26.trans (hk27.mono' (fun _ e => by rw [e]; exact hQb))) ?_
   refine qO 32 (nEffP (i := 32) rfl rfl (zst ti82 rfl rfl (oneV_sl hS26) hB27 (by simp)) ?_)
   rintro w28 ⟨hB28, hk28⟩
   refine ⟨(hkk26.trans (hk27.mono' (fun _ e => by rw [e]; exact hQb))).trans (hk28.mono' (fun _ e => by rw [e]; exact hQb)), ?_⟩
   refine qE (Run.qb (e := []) ?_)
   refine run_end Tryz.func131 rfl ?_
   have hk68 : Kp (fun k => k = nb no) w26 w28 := hk27.trans hk28
   have hA := (hS14.kp hk26 (fun g hg e => hgc (by have := ho14 g hg; cases this; exact Option.some.inj e))).kp hk68 (fun g hg e => hgkb (by have := ho14 g hg; cases this; exact e))
   have hB := hS26.kp hk68 (fun g hg e => hgcb (by have := ho26 g hg; cases this; exact e))
   refine ⟨_, rfl, rfl, hfin _ _ _ hA (fun g hg => (Option.some.inj (ho14 g hg)).symm) hB (fun g hg => (Option.some.inj (ho26 g hg)).symm) hB28 ((hkk26.trans (hk27.mono' (fun _ e => by rw [e]; exact hQb))).trans (hk28.mono' (fun _ e => by rw [e]; exact hQb))) ?_⟩
   rintro k (rfl | rfl | rfl) e
   ·exact hd2.1 e
   ·exact hM.d3 _ e rfl
   ·exact hd1.2.1 e
 ·refine nVal (i := 19) rfl rfl rfl (yld U82 rfl rfl (hg2.blk hMb2) rfl) (hg2.kp) (qO 8 (nVal (i := 8) rfl rfl rfl (yld U23 rfl rfl (hg2.blk hMb2) rfl) (hg2.kp) (qO 14 (nCall (i := 14) rfl rfl rfl (yc (args := [.tmp 25, .tmp 27, .tmp 30]) cf45 rfl) (delS_ret (i := i) (hMk2.ext hg2) hone (by omega) (by omega)) ?_))))
  rintro kv14 w14 ⟨hS14, hk14, ho14⟩
  refine ⟨hg2.kp.trans (hk14.mono' (fun _ e => by cases e; exact hQk)), ?_⟩
  rw [show (i : Int) + 1 = ((i + 1 : Nat) : Int) by omega, show (i : Int) + 2 = ((i + 1 : Nat) : Int) + 1 by omega]
  refine qO 26 (nCall (i := 26) rfl rfl rfl (yc (args := [.tmp 36, .tmp 39, .tmp 42]) cf157 rfl) (delU_ret (i := i + 1) ((hMc2.ext hg2).kp hk14 (fun g hg e => hgc (by cases hg; exact (Option.some.inj e).symm))) honeU (by omega) (by omega)) ?_)
  rintro cv26 w26 ⟨hS26, hk26, ho26⟩
  refine ⟨(hg2.kp.trans (hk14.mono' (fun _ e => by cases e; exact hQk))).trans (hk26.mono' (fun _ e => by cases e; exact hQc)), ?_⟩
  refine qt 27 rfl (ynk rfl) ((hg2.kp.trans (hk14.mono' (fun _ e => by cases e; exact hQk))).trans (hk26.mono' (fun _ e => by cases e; exact hQc))) ?_
  refine qt 28 rfl (yfa fl84_1 rfl) ((hg2.kp.trans (hk14.mono' (fun _ e => by cases e; exact hQk))).trans (hk26.mono' (fun _ e => by cases e; exact hQc))) ?_
  have hkk26 : Kp Q w2 w26 := ((hg2.kp.trans (hk14.mono' (fun _ e => by cases e; exact hQk))).trans (hk26.mono' (fun _ e => by cases e; exact hQc)))
  have hBn := hk26.blk (hk14.blk (hg2.blk hMb2) (fun e => hgkb (Option.some.inj e))) (fun e => hgcb (Option.some.inj e))
  refine qO 29 (nEffP (i := 29) rfl rfl (zst ti23 rfl rfl (oneV_sl hS14) hBn (by simp)) ?_)
  rintro w27 ⟨hB27, hk27⟩
  refine ⟨hkk26.trans (hk27.mono' (fun _ e => by rw [e]; exact hQb)), ?_⟩
  refine qt 30 rfl (ynk rfl) (hkk26.trans (hk27.mono' (fun _ e => by rw [e]; exact hQb))) ?_
  refine qt 31 rfl (yfa fl84_3 rfl) (hkk26.trans (hk27.mono' (fun _ e => by rw [e]; exact hQb))) ?_
  refine qO 32 (nEffP (i := 32) rfl rfl (zst ti82 rfl rfl (oneV_sl hS26) hB27 (by simp)) ?_)
  rintro w28 ⟨hB28, hk28⟩
  refine ⟨(hkk26.trans (hk27.mono' (fun _ e => by rw [e]; exact hQb))).trans (hk28.mono' (fun _ e => by rw [e]; exact hQb)), ?_⟩
  refine qE (Run.qb (e := []) ?_)
  refine run_end Tryz.func131 rfl ?_
  have hk68 : Kp (fun k => k = nb no) w26 w28 := hk27.trans hk28
  have hA := (hS14.kp hk26 (fun g hg e => hgc (by have := ho14 g hg; cases this; exact Option.some.inj e))).kp hk68 (fun g hg e => hgkb (by have := ho14 g hg; cases this; exact e))
  have hB := hS26.kp hk68 (fun g hg e => hgcb (by have := ho26 g hg; cases this; exact e))
  refine ⟨_, rfl, rfl, hfin _ _ _ hA (fun g hg => (Option.some.inj (ho14 g hg)).symm) hB (fun g hg => (Option.some.inj (ho26 g hg)).symm) hB28 ((hkk26.trans (hk27.mono' (fun _ e => by rw [e]; exact hQb))).trans (hk28.mono' (fun _ e => by rw [e]; exact hQb))) ?_⟩
  rintro k (rfl | rfl | rfl) e
  ·exact hd2.1 e
  ·exact hM.d3 _ e rfl
  ·exact hd1.2.1 e
end
end Go.Proofs.YtocnhaoilnojmaaGreat
