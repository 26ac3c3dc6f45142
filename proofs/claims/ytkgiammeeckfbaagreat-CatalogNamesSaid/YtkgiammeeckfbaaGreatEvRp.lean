/- strings.Repeat as a hook of the reckoner. It is of no program. -/
import Derived.Test.YtkgiammeeckfbaaGreatEvZ
import Derived.Lib.Repeat
namespace Go.Proofs.YtkgiammeeckfbaaGreat
open Go Go.RowKit
set_option linter.all false

def geo (B : Nat) : Nat → Nat
  | 0 => 0
  | c + 1 => 1 + B * geo B c
theorem geo_mul {B : Nat} (hB : 1 ≤ B) : ∀ c, geo B c * (B - 1) = B ^ c - 1
  | 0 => by simp [geo]
  | c + 1 => by
    have h1 : 1 ≤ B ^ c := Nat.one_le_pow _ _ hB
    obtain ⟨k, rfl⟩ : ∃ k, B = k + 1 := ⟨B - 1, by omega⟩
    have ih := geo_mul hB c
    simp only [Nat.add_sub_cancel] at ih ⊢
    obtain ⟨q, hq⟩ : ∃ q, (k + 1) ^ c = q + 1 := ⟨(k + 1) ^ c - 1, by omega⟩
    rw [hq, Nat.add_sub_cancel] at ih
    rw [geo, Nat.add_mul, Nat.one_mul, Nat.mul_assoc, ih, Nat.pow_succ, hq, Nat.add_mul, Nat.mul_add, Nat.add_mul q 1 k, Nat.mul_comm q k]
    omega
theorem geo_div {B : Nat} (hB : 2 ≤ B) (c : Nat) : (B ^ c - 1) / (B - 1) = geo B c := by
  rw [← geo_mul (by omega) c, Nat.mul_div_cancel _ (by omega)]
/-- c copies of n bytes. -/
noncomputable def repN (n s c : Nat) : Nat := Bool.rec (motive := fun _ => Nat) (Nat.mul s (Nat.div (Nat.sub (Nat.pow 256 (Nat.mul n c)) 1) (Nat.sub (Nat.pow 256 n) 1))) 0 (Nat.beq n 0)
theorem rep_lt {n s : Nat} (hs : s < 256 ^ n) : ∀ c, s * geo (256 ^ n) c < 256 ^ (n * c)
  | 0 => by simp [geo]
  | c + 1 => by
    have ih := rep_lt hs c
    have h1 : s * geo (256 ^ n) (c + 1) = s + 256 ^ n * (s * geo (256 ^ n) c) := by
      rw [geo, Nat.mul_add, Nat.mul_one, Nat.mul_left_comm]
    have h2 : 256 ^ (n * (c + 1)) = 256 ^ n * 256 ^ (n * c) := by rw [← Nat.pow_add, Nat.mul_succ, Nat.add_comm]
    rw [h1, h2]
    have h3 : s * geo (256 ^ n) c + 1 ≤ 256 ^ (n * c) := ih
    have h4 := Nat.mul_le_mul_left (256 ^ n) h3
    rw [Nat.mul_add, Nat.mul_one] at h4
    omega
theorem unp_rep {n s : Nat} (hs : s < 256 ^ n) : ∀ c, unp (n * c) (s * geo (256 ^ n) c) = Lib.repeatL (unp n s) c
  | 0 => by simp [geo, Lib.repeatL, unp_zero]
  | c + 1 => by
    have h1 : s * geo (256 ^ n) (c + 1) = s + s * geo (256 ^ n) c * 256 ^ n := by
      rw [geo, Nat.mul_add, Nat.mul_one, Nat.mul_left_comm, Nat.mul_comm (256 ^ n)]
    rw [h1, show n * (c + 1) = n + n * c by rw [Nat.mul_succ, Nat.add_comm], unp_app n (n * c) s _ hs, unp_rep hs c]
    rfl
theorem repN_spec {n s : Nat} (hs : s < 256 ^ n) (c : Nat) : repN n s c < 256 ^ (n * c) ∧ unp (n * c) (repN n s c) = Lib.repeatL (unp n s) c := by
  unfold repN
  cases hb : Nat.beq n 0 with
  | true =>
    have := Nat.eq_of_beq_eq_true hb
    subst this
    simp [unp_zero, Lib.repeatL_nil]
  | false =>
    have hn : n ≠ 0 := fun e => by subst e; simp at hb
    have h2 : 2 ≤ 256 ^ n := by
      obtain ⟨m, rfl⟩ : ∃ m, n = m + 1 := ⟨n - 1, by omega⟩
      have : 1 ≤ 256 ^ m := Nat.one_le_pow _ _ (by omega)
      rw [Nat.pow_succ]; omega
    have he : s * ((256 ^ (n * c) - 1) / (256 ^ n - 1)) = s * geo (256 ^ n) c := by rw [Nat.pow_mul, geo_div h2]
    show s * ((256 ^ (n * c) - 1) / (256 ^ n - 1)) < _ ∧ unp (n * c) (s * ((256 ^ (n * c) - 1) / (256 ^ n - 1))) = _
    rw [he]
    exact ⟨rep_lt hs c, unp_rep hs c⟩

/-- What the library's function does. -/
def RepeatAt (P : Program) (f : Nat) : Prop := CF P f ∧ ∀ (s : ByteArray) (c : Nat) (w : World), c ≤ 9223372036854775807 → s.size * c ≤ 140737488355328 →
  Ret P f [.string s, .int .i64 c] w fun v w' => v = .string ⟨(Lib.repeatL s.data.toList c).toArray⟩ ∧ Ext w w'

noncomputable def xRepeat (args : List V) (h : H) : Res := match args with
  | [.str n s, .int .i64 (.ofNat c)] => cond (and (Nat.ble c 1048576) (Nat.ble (Nat.mul n c) 1048576)) (fN (Nat.mul n c) fun m => fN (repN n s c) fun x => .ok (.str m x) h) (.bad 320 0)
  | _ => .bad 321 0
theorem xRepeat_ok {P : Program} {G : Nat} {f : Nat} (hC : RepeatAt P f) : HkOk P G f xRepeat := by
  intro args h v h' he φ w us r hc
  unfold xRepeat at he
  split at he <;> try cases he
  rename_i n s c
  cases hcnd : and (Nat.ble c 1048576) (Nat.ble (Nat.mul n c) 1048576) with
  | false => rw [hcnd] at he; cases he
  | true =>
  rw [hcnd] at he
  simp only [cond_true, fN_eq] at he
  cases he
  simp only [Bool.and_eq_true] at hcnd
  have h1 := Nat.le_of_ble_eq_true hcnd.1
  have h2 : n * c ≤ 1048576 := Nat.le_of_ble_eq_true hcnd.2
  cases hc with
  | cons a1 hc =>
  cases hc with
  | cons a2 hc =>
  cases hc
  cases a1 with
  | str hs =>
  cases a2
  have hsz : (⟨(unp n s).toArray⟩ : ByteArray).size = n := by
    show (unp n s).toArray.size = n
    simp
  refine .inl ⟨hC.1, (hC.2 ⟨(unp n s).toArray⟩ c w (by omega) (by rw [hsz]; omega)).mono fun u w' ⟨hu, hx⟩ => ?_⟩
  obtain ⟨k1, k2⟩ := repN_spec hs c
  refine ⟨φ, r.ext hx, ?_⟩
  have e : u = S (unp (n * c) (repN n s c)) := by rw [hu, k2]
  rw [e]
  exact .str k1
end Go.Proofs.YtkgiammeeckfbaaGreat
