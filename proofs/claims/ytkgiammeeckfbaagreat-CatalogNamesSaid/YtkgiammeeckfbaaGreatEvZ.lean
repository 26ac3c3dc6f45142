/- The reckoner where variables of packages are known to hold given values (and are not written). It is of no program. -/
import Derived.Test.YtkgiammeeckfbaaGreatEvY
namespace Go.Proofs.YtkgiammeeckfbaaGreat
open Go Go.RowKit
set_option linter.all false

noncomputable def hLay (G : Nat) : List (Nat × List V) → H
  | [] => h0 G
  | (g, l) :: r => hSet (hLay G r) g (some (.ro l)) fun h => h
theorem hLay_get {G : Nat} : ∀ {L : List (Nat × List V)} {b : Nat} {x : B}, hGet (hLay G L) b = some x → ∃ l, (b, l) ∈ L ∧ x = .ro l
  | [], b, x, h => by
    have hn : hGet (h0 G) b = none := get_new none HD b
    rw [show hLay G [] = h0 G from rfl, hn] at h; cases h
  | (g, l) :: r, b, x, h => by
    rw [show hLay G ((g, l) :: r) = ⟨trPut HD g (hLay G r).t (some (.ro l)), (hLay G r).next⟩ from hSet_eq _ _ _ _] at h
    by_cases hb : b = g
    · subst hb
      have h1 := hGet_put_same h
      cases h1
      exact ⟨l, List.mem_cons_self, rfl⟩
    · rw [hGet_put_ne hb] at h
      obtain ⟨l', hm, e⟩ := hLay_get h
      exact ⟨l', List.mem_cons_of_mem _ hm, e⟩
theorem hLay_next {G : Nat} : ∀ {L : List (Nat × List V)}, (hLay G L).next = G
  | [] => rfl
  | (g, l) :: r => by
    rw [show hLay G ((g, l) :: r) = ⟨trPut HD g (hLay G r).t (some (.ro l)), (hLay G r).next⟩ from hSet_eq _ _ _ _]
    exact hLay_next
def phG (G : Nat) : Ph := fun b => if b < G then some (b, 0, 0) else none
theorem rel_lay {G : Nat} {L : List (Nat × List V)} {w : World} (hL : ∀ p ∈ L, p.1 < G ∧ ∃ us us' T fz, BlkF w p.1 (us ++ us') T fz ∧ CVs (phG G) p.2 us) : Rel G (phG G) (hLay G L) w := by
  refine ⟨fun a b x y p q ha hb hp hq he => ?_, fun b x hb => ?_, fun b hb => ?_, fun g hg => ⟨0, if_pos hg⟩⟩
  · unfold phG at hp hq
    split at hp
    · split at hq
      · cases hp; cases hq; exact he
      · cases hq
    · cases hp
  · obtain ⟨l, hm, rfl⟩ := hLay_get hb
    obtain ⟨hg, us, us', T, fz, hB, hc⟩ := hL _ hm
    exact ⟨_, if_pos hg, rfl, us, us', T, fz, hB, hc⟩
  · rw [hLay_next] at hb
    exact if_neg (by omega)
/-- What is reckoned to be true is true, where the variables hold what they are given. -/
theorem evL_true {P : Program} {G : Nat} {X : Hook P G} {n : Nat} {f : FuncId} {L : List (Nat × List V)} (he : isTrueR (evF P G X n f [] (hLay G L)) = true) (w : World)
    (hL : ∀ p ∈ L, p.1 < G ∧ ∃ us us' T fz, BlkF w p.1 (us ++ us') T fz ∧ CVs (phG G) p.2 us) : Ret P f [] w fun u w' => u = .bool true ∧ Ext w w' := by
  obtain ⟨h', h1⟩ := isTrueR_spec he
  refine (evF_ok h1 (rel_lay hL) .nil).2.mono fun u w' ⟨φ', hp, hc⟩ => ?_
  cases hc
  refine ⟨rfl, hp.kp.mono' fun k ⟨b, x, p, hb, hr, _⟩ => ?_⟩
  obtain ⟨l, _, rfl⟩ := hLay_get hb
  cases hr
end Go.Proofs.YtkgiammeeckfbaaGreat
