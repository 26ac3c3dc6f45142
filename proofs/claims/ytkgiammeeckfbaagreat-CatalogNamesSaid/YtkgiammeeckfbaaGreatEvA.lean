/- The reckoner's trees and lists: plain laws. It is of no program. -/
import Derived.Test.YtkgiammeeckfbaaGreatEvD
namespace Go.Proofs.YtkgiammeeckfbaaGreat
open Go Go.RowKit
set_option linter.all false

@[simp] theorem fN_eq {β : Type} (n : Nat) (c : Nat → β) : fN n c = c n := by cases n <;> rfl
theorem lt16 {a : Nat} (h : a < 16) : a = 0 ∨ a = 1 ∨ a = 2 ∨ a = 3 ∨ a = 4 ∨ a = 5 ∨ a = 6 ∨ a = 7 ∨ a = 8 ∨ a = 9 ∨ a = 10 ∨ a = 11 ∨ a = 12 ∨ a = 13 ∨ a = 14 ∨ a = 15 := by omega

theorem upd_id {α β : Type} {a : Nat} (h : a < 16) (x : Nd α) (v : α) (c : Nd α → β) : (upd a).f x v c = c ((upd a).f x v id) := by
  obtain ⟨x0, x1, x2, x3, x4, x5, x6, x7, x8, x9, x10, x11, x12, x13, x14, x15⟩ := x
  rcases lt16 h with rfl | rfl | rfl | rfl | rfl | rfl | rfl | rfl | rfl | rfl | rfl | rfl | rfl | rfl | rfl | rfl <;> rfl

theorem sel_upd {α : Type} {a b : Nat} (h : a < 16) (h' : b < 16) (x : Nd α) (v : α) : (sel b).f ((upd a).f x v id) = if b = a then v else (sel b).f x := by
  obtain ⟨x0, x1, x2, x3, x4, x5, x6, x7, x8, x9, x10, x11, x12, x13, x14, x15⟩ := x
  rcases lt16 h with rfl | rfl | rfl | rfl | rfl | rfl | rfl | rfl | rfl | rfl | rfl | rfl | rfl | rfl | rfl | rfl <;>
    rcases lt16 h' with rfl | rfl | rfl | rfl | rfl | rfl | rfl | rfl | rfl | rfl | rfl | rfl | rfl | rfl | rfl | rfl <;> rfl

theorem sel_nd {α : Type} {b : Nat} (h' : b < 16) (a : α) : (sel b).f (nd a) = a := by
  rcases lt16 h' with rfl | rfl | rfl | rfl | rfl | rfl | rfl | rfl | rfl | rfl | rfl | rfl | rfl | rfl | rfl | rfl <;> rfl

section
variable {α β : Type}
theorem trGet_zero (z : α) (i : Nat) (t : α) : trGet z 0 i t = if i = 0 then t else z := by
  cases i <;> rfl
theorem trGet_succ (z : α) (d i : Nat) (t : Tr α (d + 1)) : trGet z (d + 1) i t = trGet z d (i / 16) ((sel (i % 16)).f t) := by
  show fN (Nat.mod i 16) (fun k => fN (Nat.div i 16) fun j => (trB z d j).f ((sel k).f t)) = _
  rw [fN_eq, fN_eq]; rfl
theorem trSet_zero (i : Nat) (t v : α) (c : α → β) : trSet 0 i t v c = if i = 0 then c v else c t := by
  cases i <;> rfl
theorem trSet_succ (d i : Nat) (t : Tr α (d + 1)) (v : α) (c : Tr α (d + 1) → β) : trSet (d + 1) i t v c = trSet d (i / 16) ((sel (i % 16)).f t) v fun x => (upd (i % 16)).f t x c := by
  show fN (Nat.mod i 16) (fun k => fN (Nat.div i 16) fun j => (trSB α β d j).f ((sel k).f t) v (fun x => (upd k).f t x c)) = _
  rw [fN_eq, fN_eq]; rfl

/-- A place is written. -/
noncomputable def trPut (d i : Nat) (t : Tr α d) (v : α) : Tr α d := trSet d i t v id
theorem trSet_eq : ∀ (d : Nat) {β : Type} (i : Nat) (t : Tr α d) (v : α) (c : Tr α d → β), trSet d i t v c = c (trPut d i t v)
  | 0, _, i, t, v, c => by
    unfold trPut
    rw [trSet_zero, trSet_zero]
    split <;> rfl
  | d + 1, _, i, t, v, c => by
    unfold trPut
    rw [trSet_succ, trSet_succ, trSet_eq d, trSet_eq d, upd_id (Nat.mod_lt _ (by omega))]
theorem trPut_succ (d i : Nat) (t : Tr α (d + 1)) (v : α) : trPut (d + 1) i t v = (upd (i % 16)).f t (trPut d (i / 16) ((sel (i % 16)).f t) v) id := by
  unfold trPut
  rw [trSet_succ, trSet_eq]; rfl
theorem get_put_ne (z : α) : ∀ (d i j : Nat) (t : Tr α d) (v : α), j ≠ i → trGet z d j (trPut d i t v) = trGet z d j t
  | 0, i, j, t, v, h => by
    rw [trGet_zero, trGet_zero]
    split
    · unfold trPut
      rw [trSet_zero, if_neg (by omega)]; rfl
    · rfl
  | d + 1, i, j, t, v, h => by
    rw [trGet_succ, trGet_succ, trPut_succ, sel_upd (Nat.mod_lt _ (by omega)) (Nat.mod_lt _ (by omega))]
    split
    · rename_i he
      rw [get_put_ne z d _ _ _ _ (by omega), he]
    · rfl
theorem get_put_same (z : α) : ∀ (d i : Nat) (t : Tr α d) (v : α), trGet z d i (trPut d i t v) = v ∨ trGet z d i (trPut d i t v) = z
  | 0, i, t, v => by
    rw [trGet_zero]
    split
    · rename_i h; subst h; exact .inl rfl
    · exact .inr rfl
  | d + 1, i, t, v => by
    rw [trGet_succ, trPut_succ, sel_upd (Nat.mod_lt _ (by omega)) (Nat.mod_lt _ (by omega)), if_pos rfl]
    exact get_put_same z d _ _ _
theorem get_new (z : α) : ∀ (d i : Nat), trGet z d i (trNew z d) = z
  | 0, i => by rw [trGet_zero]; split <;> rfl
  | d + 1, i => by
    rw [trGet_succ]
    show trGet z d (i / 16) ((sel (i % 16)).f (nd (trNew z d))) = z
    rw [sel_nd (Nat.mod_lt _ (by omega))]
    exact get_new z d _
end

@[simp] theorem fI_eq {β : Type} (z : Int) (c : Int → β) : fI z c = c z := by cases z <;> simp [fI]
@[simp] theorem fL_eq {α β : Type} (l : List α) (c : List α → β) : fL l c = c l := by
  have : ∀ (l : List α) (c : List α → β), List.rec (motive := fun _ => (List α → β) → β) (fun c => c []) (fun a _ ih c => ih fun r => c (a :: r)) l c = c l := by
    intro l
    induction l with
    | nil => intro c; rfl
    | cons a l ih => intro c; exact ih _
  exact this l c
@[simp] theorem fV_eq {β : Type} (v : V) (c : V → β) : fV v c = c v := by cases v <;> rfl
@[simp] theorem rInt_eq (h : H) (k : IntKind) (z : Int) : rInt h k z = .v (.int k z) h := by simp [rInt]
@[simp] theorem rBool_eq (h : H) (b : Bool) : rBool h b = .v (.bool b) h := by cases b <;> rfl
@[simp] theorem rStr_eq (h : H) (n s : Nat) : rStr h n s = .v (.str n s) h := by simp [rStr]
theorem rV_some {h : H} {n : Nat} {v : V} (hv : v ≠ .und) : rV h n v = .v v h := by
  cases v <;> simp [rV, fV] at *
theorem rV_und (h : H) (n : Nat) : rV h n .und = .bad n := rfl
theorem nat?_eq {β : Type} (z : Int) (c : Nat → β) (no : β) : nat? z c no = if 0 ≤ z then c z.toNat else no := by
  cases z with
  | ofNat n => simp [nat?]
  | negSucc n => simp [nat?]

theorem keq_eq {a b : IntKind} : keq a b = true ↔ a = b := by cases a <;> cases b <;> simp [keq]
theorem ieq_eq (a b : Int) : ieq a b = decide (a = b) := by
  cases a <;> cases b <;> simp [ieq, Nat.beq_eq]
  all_goals rw [Bool.eq_iff_iff]; simp
  omega
theorem ile_eq (a b : Int) : ile a b = decide (a ≤ b) := by
  cases a with
  | ofNat m => cases b with
    | ofNat n => simp only [ile]; rw [Bool.eq_iff_iff]; simp
    | negSucc n => simp only [ile]; symm; simp; omega
  | negSucc m => cases b with
    | ofNat n => simp only [ile]; symm; simp; omega
    | negSucc n => simp only [ile]; rw [Bool.eq_iff_iff]; simp; omega

theorem wrap_bd (k : IntKind) (z : Int) (h1 : k.min ≤ z) (h2 : z ≤ k.max) : k.wrap z = z := by
  cases k <;> simp [IntKind.min, IntKind.max, IntKind.signed, IntKind.bits, IntKind.wrap] at * <;> omega
theorem inR_spec {k : IntKind} {z : Int} (h : inR k z = true) : k.min ≤ z ∧ z ≤ k.max := by
  cases k <;> cases z <;> simp [inR, IntKind.min, IntKind.max, IntKind.signed, IntKind.bits] at * <;> omega
theorem wrp_eq (k : IntKind) (z : Int) : wrp k z = k.wrap z := by
  unfold wrp
  cases h : inR k z with
  | false => rfl
  | true => exact (wrap_bd k z (inR_spec h).1 (inR_spec h).2).symm

theorem beqB_eq (a b : Bool) : beqB a b = (a == b) := by cases a <;> cases b <;> rfl

/-! ### Rows of cells -/
theorem rdK_eq {β : Type} (n d : Nat) (t : Tr V d) (o : Nat) (c : List V → β) : rdK n d t o c = c ((List.range' o n).map fun i => vGet d i t) := by
  have : ∀ (n o : Nat) (c : List V → β), Nat.rec (motive := fun _ => Nat → (List V → β) → β) (fun _ c => c []) (fun _ ih o c => ih (Nat.succ o) fun l => c (vGet d o t :: l)) n o c = c ((List.range' o n).map fun i => vGet d i t) := by
    intro n
    induction n with
    | zero => intro o c; rfl
    | succ n ih => intro o c; rw [List.range'_succ]; exact ih (o + 1) _
  exact this n o c
/-- Values are written, one behind another. -/
noncomputable def wr (d : Nat) : List V → Tr V d → Nat → Tr V d
  | [], t, _ => t
  | v :: l, t, o => wr d l (trPut d o t v) (o + 1)
theorem wrK_eq {β : Type} (l : List V) (d : Nat) (t : Tr V d) (o : Nat) (c : Tr V d → β) : wrK l d t o c = c (wr d l t o) := by
  have : ∀ (l : List V) (t : Tr V d) (o : Nat) (c : Tr V d → β), List.rec (motive := fun _ => Tr V d → Nat → (Tr V d → β) → β) (fun t _ c => c t) (fun v _ ih t o c => trSet d o t v fun t => fN (Nat.succ o) fun o => ih t o c) l t o c = c (wr d l t o) := by
    intro l
    induction l with
    | nil => intro t o c; rfl
    | cons v l ih =>
      intro t o c
      show trSet d o t v (fun t => fN (o + 1) fun o => _) = _
      rw [trSet_eq, fN_eq, ih]; rfl
  exact this l t o c
theorem wr_get (d : Nat) : ∀ (l : List V) (t : Tr V d) (o i : Nat), vGet d i (wr d l t o) = .und ∨ (if o ≤ i ∧ i < o + l.length then l[i - o]? = some (vGet d i (wr d l t o)) else vGet d i (wr d l t o) = vGet d i t)
  | [], t, o, i => by
    right
    rw [if_neg (by simp only [List.length_nil]; omega)]; rfl
  | v :: l, t, o, i => by
    simp only [wr]
    rcases wr_get d l (trPut d o t v) (o + 1) i with h | h
    · exact .inl h
    · by_cases hi : i = o
      · subst hi
        rw [if_neg (by omega)] at h
        rcases get_put_same V.und d i t v with h2 | h2
        · right
          rw [if_pos (by simp), h]
          simp [vGet, h2]
        · left
          rw [h]; exact h2
      · right
        by_cases hr : o + 1 ≤ i ∧ i < o + 1 + l.length
        · rw [if_pos hr] at h
          rw [if_pos (by simp only [List.length_cons]; omega)]
          rw [← h]
          have : i - o = (i - (o + 1)) + 1 := by omega
          rw [this]; simp
        · rw [if_neg hr] at h
          rw [if_neg (by simp only [List.length_cons]; omega), h]
          exact get_put_ne _ _ _ _ _ _ hi
end Go.Proofs.YtkgiammeeckfbaaGreat
