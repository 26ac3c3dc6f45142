/- Plain laws of a device that falls. -/
import Derived.Test.YtdapkfppcaaohaaDvE
namespace Go.Proofs.Ytdapkfppcaaohaa
open Go Go.RowKit
set_option linter.all false

/-- What a block has when i writes have met the crash. -/
def Dev.keptTo (D : Dev) (l : List Int) (tn : Int) (mk : UInt8) (i : Nat) (n : Int) : Bytes := ((D.fallTo l tn mk i) n).getD (zeros (512 * D.N))
theorem keptTo_zero (D : Dev) (l : List Int) (tn : Int) (mk : UInt8) (n : Int) : D.keptTo l tn mk 0 n = D.kept n := rfl
theorem keptTo_fall (D : Dev) (l : List Int) (tn : Int) (mk : UInt8) (n : Int) : (D.fall l tn mk).kept n = D.keptTo l tn mk D.cache.length n := rfl
theorem keptTo_succ {D : Dev} {l : List Int} {tn : Int} {mk : UInt8} {i : Nat} {x : Int × Bytes} (hx : D.cache[i]? = some x) (n : Int) : D.keptTo l tn mk (i + 1) n =
    if n = x.1 then (if (i : Int) = tn then mixN mk (D.keptTo l tn mk i n) x.2 D.N else if (i : Int) ∈ l then x.2 else D.keptTo l tn mk i n) else D.keptTo l tn mk i n := by
  unfold Dev.keptTo
  rw [fallTo_at hx]
  by_cases h1 : n = x.1
  · subst h1
    rw [if_pos rfl]
    split
    · simp [upd]
    · split
      · simp [upd]
      · rfl
  · rw [if_neg h1]
    split
    · simp [upd, h1]
    · split
      · simp [upd, h1]
      · rfl
theorem get_lt {α : Type} {l : List α} {i : Nat} (h : i < l.length) : ∃ x, l[i]? = some x ∧ x ∈ l := ⟨l[i], List.getElem?_eq_getElem h, List.getElem_mem h⟩

/-- A block that no write reached is as it was. -/
theorem kept_same (D : Dev) (l : List Int) (tn : Int) (mk : UInt8) (n : Int) (h : ∀ x ∈ D.cache, x.1 ≠ n) : (D.fall l tn mk).kept n = D.kept n := by
  rw [keptTo_fall]
  have : ∀ i, i ≤ D.cache.length → D.keptTo l tn mk i n = D.kept n := by
    intro i
    induction i with
    | zero => intro _; rfl
    | succ i ih =>
      intro hi
      obtain ⟨x, hx, hm⟩ := get_lt (show i < D.cache.length by omega)
      rw [keptTo_succ hx, if_neg (fun e => h x hm e.symm)]
      exact ih (by omega)
  exact this _ (Nat.le_refl _)
/-- With all writes kept and none torn all is there. -/
theorem kept_all (D : Dev) (l : List Int) (tn : Int) (mk : UInt8) (n : Int) (hl : ∀ i, i < D.cache.length → (i : Int) ∈ l) (ht : tn < 0) : (D.fall l tn mk).kept n = D.now n := by
  rw [keptTo_fall]
  have : ∀ i, i ≤ D.cache.length → D.keptTo l tn mk i n = D.nowTo n i := by
    intro i
    induction i with
    | zero => intro _; rfl
    | succ i ih =>
      intro hi
      obtain ⟨x, hx, hm⟩ := get_lt (show i < D.cache.length by omega)
      rw [keptTo_succ hx, nowTo_succ hx, ih (by omega), if_neg (show ¬ (i : Int) = tn by omega), if_pos (hl i (by omega))]
      by_cases e : n = x.1
      · rw [if_pos e, if_pos e.symm]
      · rw [if_neg e, if_neg (fun h => e h.symm)]
  rw [this _ (Nat.le_refl _)]
  simp [Dev.nowTo, Dev.now]

/-- All indices, the last first, twice. -/
def evs (m : Nat) : Nat → List Int
  | 0 => []
  | j + 1 => evs m j ++ [(m : Int) - 1 - j, (m : Int) - 1 - j]
@[simp] theorem evs_length (m : Nat) : ∀ j, (evs m j).length = j * 2
  | 0 => rfl
  | j + 1 => by simp [evs, evs_length m j]; omega
theorem evs_mem (m : Nat) : ∀ j, j ≤ m → ∀ i, m - j ≤ i → i < m → (i : Int) ∈ evs m j
  | 0, _, i, h1, h2 => by omega
  | j + 1, hj, i, h1, h2 => by
    simp only [evs, List.mem_append]
    by_cases h : m - j ≤ i
    · exact .inl (evs_mem m j (by omega) i h h2)
    · right
      have : (i : Int) = (m : Int) - 1 - j := by omega
      simp [this]

/-- A sector of a block. -/
def sec (s : Bytes) (k : Nat) : Bytes := (s.drop (512 * k)).take 512
theorem sec_splB (c x : Bytes) (s k N : Nat) (hc : c.length = 512 * N) (hx : x.length = 512) (hs : s < N) (hk : k < N) : sec (splB c (512 * s) x) k = if k = s then x else sec c k := by
  unfold sec splB
  by_cases h : k = s
  · subst h
    rw [if_pos rfl, List.append_assoc, List.drop_append_of_le_length (by simp; omega)]
    rw [List.drop_eq_nil_of_le (by simp; omega), List.nil_append, List.take_append_of_le_length (by omega), ← hx, List.take_length]
  · rw [if_neg h]
    apply List.ext_getElem?
    intro j
    rw [List.getElem?_take, List.getElem?_take, List.getElem?_drop, List.getElem?_drop]
    by_cases hj : j < 512
    · rw [if_pos hj, if_pos hj]
      rcases Nat.lt_or_gt_of_ne h with hlt | hgt
      · rw [List.append_assoc, List.getElem?_append_left (by simp; omega), List.getElem?_take, if_pos (by omega)]
      · rw [List.getElem?_append_right (by simp; omega), List.getElem?_drop]
        congr 1
        simp
        omega
    · rw [if_neg hj, if_neg hj]
/-- A sector of a torn write is the one's or the other's. -/
theorem sec_mix (mk : UInt8) (a b : Bytes) (N : Nat) (ha : a.length = 512 * N) (hb : b.length = 512 * N) (k : Nat) (hk : k < N) : ∀ s, s ≤ N → sec (mixN mk a b s) k = sec a k ∨ sec (mixN mk a b s) k = sec b k
  | 0, _ => .inl rfl
  | s + 1, h => by
    have ih := sec_mix mk a b N ha hb k hk s (by omega)
    simp only [mixN]
    split
    · rw [sec_splB _ _ s k N (mixN_length mk a b N ha hb s (by omega)) (by simp; omega) (by omega) hk]
      split
      · rename_i e; subst e; exact .inr rfl
      · exact ih
    · exact ih
theorem keptTo_length {D : Dev} (h : D.Ok) (l : List Int) (tn : Int) (mk : UInt8) (n : Int) : ∀ i, i ≤ D.cache.length → (D.keptTo l tn mk i n).length = 512 * D.N
  | 0, _ => h.kept n
  | i + 1, hi => by
    have ih := keptTo_length h l tn mk n i (by omega)
    obtain ⟨x, hx, hm⟩ := get_lt (show i < D.cache.length by omega)
    have hxl := (h.cache x hm).2.2
    rw [keptTo_succ hx]
    split
    · split
      · exact mixN_length mk _ _ D.N ih hxl D.N (Nat.le_refl _)
      · split
        · exact hxl
        · exact ih
    · exact ih
/-- Each sector is what it was, or what a write had there. -/
theorem sec_fall {D : Dev} (h : D.Ok) (l : List Int) (tn : Int) (mk : UInt8) (n : Int) (k : Nat) (hk : k < D.N) : ∀ i, i ≤ D.cache.length → sec (D.keptTo l tn mk i n) k = sec (D.kept n) k ∨ ∃ x ∈ D.cache, x.1 = n ∧ sec (D.keptTo l tn mk i n) k = sec x.2 k
  | 0, _ => .inl rfl
  | i + 1, hi => by
    have ih := sec_fall h l tn mk n k hk i (by omega)
    obtain ⟨x, hx, hm⟩ := get_lt (show i < D.cache.length by omega)
    have hxl := (h.cache x hm).2.2
    rw [keptTo_succ hx]
    split
    · rename_i e
      split
      · rcases sec_mix mk (D.keptTo l tn mk i n) x.2 D.N (keptTo_length h l tn mk n i (by omega)) hxl k hk D.N (Nat.le_refl _) with h' | h'
        · rw [h']; exact ih
        · exact .inr ⟨x, hm, e.symm, h'⟩
      · split
        · exact .inr ⟨x, hm, e.symm, rfl⟩
        · exact ih
    · exact ih
/-- A block is wholly what it was, or one of the writes. -/
def Dev.whole (D : Dev) (s : Bytes) (n : Int) : Prop := s = D.kept n ∨ ∃ x ∈ D.cache, x.1 = n ∧ s = x.2
theorem whole_fall {D : Dev} (l : List Int) (tn : Int) (mk : UInt8) (n : Int) (hn : ∀ (i : Nat) (x : Int × Bytes), D.cache[i]? = some x → (i : Int) = tn → x.1 ≠ n) : ∀ i, i ≤ D.cache.length → D.whole (D.keptTo l tn mk i n) n
  | 0, _ => .inl rfl
  | i + 1, hi => by
    have ih := whole_fall l tn mk n hn i (by omega)
    obtain ⟨x, hx, hm⟩ := get_lt (show i < D.cache.length by omega)
    rw [keptTo_succ hx]
    split
    · rename_i e
      split
      · rename_i e2; exact absurd e.symm (hn i x hx e2)
      · split
        · exact .inr ⟨x, hm, e.symm, rfl⟩
        · exact ih
    · exact ih
/-- One block is torn at most. -/
theorem one_torn (D : Dev) (l : List Int) (tn : Int) (mk : UInt8) (n m : Int) (h1 : ¬ D.whole ((D.fall l tn mk).kept n) n) (h2 : ¬ D.whole ((D.fall l tn mk).kept m) m) : n = m := by
  by_cases hn : ∃ (i : Nat) (x : Int × Bytes), D.cache[i]? = some x ∧ (i : Int) = tn ∧ x.1 = n
  · by_cases hm : ∃ (i : Nat) (x : Int × Bytes), D.cache[i]? = some x ∧ (i : Int) = tn ∧ x.1 = m
    · obtain ⟨i, x, e1, e2, e3⟩ := hn
      obtain ⟨j, y, f1, f2, f3⟩ := hm
      have : i = j := by omega
      subst this
      rw [e1] at f1
      have := Option.some.inj f1
      subst this
      rw [← e3, f3]
    · exact absurd (whole_fall l tn mk m (fun i x hx hi e => hm ⟨i, x, hx, hi, e⟩) _ (Nat.le_refl _)) h2
  · exact absurd (whole_fall l tn mk n (fun i x hx hi e => hn ⟨i, x, hx, hi, e⟩) _ (Nat.le_refl _)) h1
end Go.Proofs.Ytdapkfppcaaohaa
