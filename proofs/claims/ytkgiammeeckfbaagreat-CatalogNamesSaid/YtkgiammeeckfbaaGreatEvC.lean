/- The reckoner's operations on numbers and texts: what they answer is what the program's operations yield. It is of no program. -/
import Derived.Test.YtkgiammeeckfbaaGreatEvB
namespace Go.Proofs.YtkgiammeeckfbaaGreat
open Go Go.RowKit
set_option linter.all false

def RhoR (φ : Ph) (ρ : Operand → V) (e : Env) : Prop := ∀ x, ρ x ≠ .und → ∃ u, look e x = some u ∧ CV φ (ρ x) u
def ROk (P : Program) (G : Nat) (φ : Ph) (h : H) (w : World) (e : Env) (o : Oper) : R → Prop
  | .v x h' => ∃ u w' φ', Y P e o u w w' ∧ Post G φ h w φ' h' w' ∧ CV φ' x u
  | .eff h' => ∃ w' φ', Z P e o w w' ∧ Post G φ h w φ' h' w'
  | .call f args => ∃ us, (CF P f → Yc P e o f us w) ∧ CVs φ args us ∧ ∀ u w', (callFunc f us.toArray).run P w = .ok (.value u) w' → Y P e o u w w'
  | .yld l args => ∃ us l' a N, φ l = some (l', a, N) ∧ CVs φ args us ∧ Yy P e o l' us w
  | .dfr f cap args => ∃ uc ua, CVs φ cap uc ∧ CVs φ args ua ∧ ∀ ρ : Operand → Value, (∀ x v, look e x = some v → ρ x = v) → (execOp ρ o).run P w = .ok (.defer (Dfr.d (.call f uc ua))) w
  | .bad _ => True

section
variable {P : Program} {G : Nat} {φ : Ph} {h : H} {w : World} {e : Env} {d : Option Nat} {ty t t' : TypeId} {pos : String} {aft : Array Edge} {g : Option (Nat × Bool)} {x y : Operand} {ρ : Operand → V}

/-- What an operation answers when the memory stays as it is. -/
theorem ROk.pure {o : Oper} {v : V} {u : Value} (r : Rel G φ h w) (hy : Y P e o u w w) (hc : CV φ v u) : ROk P G φ h w e o (.v v h) := ⟨u, w, φ, hy, Post.refl r, hc⟩
/-- .. and the world is as it was but for what was drawn, or has grown. -/
theorem ROk.pureX {o : Oper} {v : V} {u : Value} {w' : World} (r : Rel G φ h w) (hy : Y P e o u w w') (k : Ext w w') (hc : CV φ v u) : ROk P G φ h w e o (.v v h) := ⟨u, w', φ, hy, r.ext k, hc⟩
theorem rV_ok {o : Oper} {v : V} {n : Nat} (r : Rel G φ h w) (hy : v ≠ .und → ∃ u, Y P e o u w w ∧ CV φ v u) : ROk P G φ h w e o (rV h n v) := by
  by_cases hv : v = .und
  · subst hv; exact trivial
  · rw [rV_some hv]
    obtain ⟨u, h1, h2⟩ := hy hv
    exact ROk.pure r h1 h2
theorem cond_ok {o : Oper} {b : Bool} {p q : R} (h1 : b = true → ROk P G φ h w e o p) (h2 : b = false → ROk P G φ h w e o q) : ROk P G φ h w e o (cond b p q) := by
  cases b with
  | true => exact h1 rfl
  | false => exact h2 rfl
theorem cond_ok' {o : Oper} {b : Bool} {p : R} {n : Nat} (h1 : b = true → ROk P G φ h w e o p) : ROk P G φ h w e o (cond b p (.bad n)) := cond_ok h1 fun _ => trivial

/-- The memory stays as it is, and so does the world. -/
def QOk (P : Program) (φ : Ph) (h : H) (w : World) (e : Env) (o : Oper) : R → Prop
  | .v x h' => h' = h ∧ ∃ u, Y P e o u w w ∧ CV φ x u
  | .bad _ => True
  | _ => False
theorem QOk.pure {o : Oper} {v : V} {u : Value} (hy : Y P e o u w w) (hc : CV φ v u) : QOk P φ h w e o (.v v h) := ⟨rfl, u, hy, hc⟩
theorem QOk.rok {o : Oper} {rr : R} (r : Rel G φ h w) (q : QOk P φ h w e o rr) : ROk P G φ h w e o rr := by
  cases rr with
  | v x h' => obtain ⟨rfl, u, h1, h2⟩ := q; exact ROk.pure r h1 h2
  | bad _ => exact trivial
  | eff _ => exact q.elim
  | call _ _ => exact q.elim
  | yld _ _ => exact q.elim
  | dfr _ _ _ => exact q.elim
theorem rV_q {o : Oper} {v : V} {n : Nat} (hy : v ≠ .und → ∃ u, Y P e o u w w ∧ CV φ v u) : QOk P φ h w e o (rV h n v) := by
  by_cases hv : v = .und
  · subst hv; exact trivial
  · rw [rV_some hv]
    obtain ⟨u, h1, h2⟩ := hy hv
    exact QOk.pure h1 h2
theorem cond_q {o : Oper} {b : Bool} {p q : R} (h1 : b = true → QOk P φ h w e o p) (h2 : b = false → QOk P φ h w e o q) : QOk P φ h w e o (cond b p q) := by
  cases b with
  | true => exact h1 rfl
  | false => exact h2 rfl
theorem cond_q' {o : Oper} {b : Bool} {p : R} {n : Nat} (h1 : b = true → QOk P φ h w e o p) : QOk P φ h w e o (cond b p (.bad n)) := cond_q h1 fun _ => trivial

theorem Y.bin {op : BinOp} {u v r : Value} (hx : look e x = some u) (hy : look e y = some v) (hg : ∀ x y, (eqGuard op t x y u v).run P w = .ok () w) (hb : (binOp op t u v).run P w = .ok r w) :
    Y P e ⟨d, .binOp op t x y t', ty, pos, aft, g⟩ r w w := fun ρ hρ => by
  simp only [execOp, hρ _ _ hx, hρ _ _ hy, Sem.run_bind, hg, Result.andThen_ok, hb, Sem.run_pure]
theorem eqg_run {op : BinOp} {a b : Value} (h1 : (∀ p q, a = .agg p → b = .agg q → False)) (h2 : a = .nilIface → b = .nilIface → False) (x y : Operand) : (eqGuard op t x y a b).run P w = .ok () w := by
  cases op <;> first
    | rfl
    | (cases a <;> first | rfl | (cases b <;> first | rfl | exact (h1 _ _ rfl rfl).elim | exact (h2 rfl rfl).elim))

theorem natLt {k : IntKind} {z : Int} (hz : 0 ≤ z) (hr : inR k z = true) : z.toNat < 2 ^ k.bits := by
  obtain ⟨h1, h2⟩ := inR_spec hr
  have : (z.toNat : Int) < 2 ^ k.bits := by
    rw [Int.toNat_of_nonneg hz]
    cases k <;> simp [IntKind.max, IntKind.signed, IntKind.bits] at h2 ⊢ <;> omega
  exact_mod_cast this
/-- The bits that a number of the kind has if it is not negative. -/
def pbits (k : IntKind) : Nat := if k.signed then k.bits - 1 else k.bits
theorem natLt' {k : IntKind} {z : Int} (hz : 0 ≤ z) (hr : inR k z = true) : z.toNat < 2 ^ pbits k := by
  obtain ⟨h1, h2⟩ := inR_spec hr
  have : (z.toNat : Int) < 2 ^ pbits k := by
    rw [Int.toNat_of_nonneg hz]
    cases k <;> simp [IntKind.max, IntKind.signed, IntKind.bits, pbits] at h2 ⊢ <;> omega
  exact_mod_cast this
theorem wrap_small {k : IntKind} {n : Nat} (hn : n < 2 ^ pbits k) : k.wrap (n : Int) = (n : Int) := by
  have : (n : Int) < 2 ^ pbits k := by exact_mod_cast hn
  refine wrap_bd k _ ?_ ?_ <;> cases k <;> simp [IntKind.min, IntKind.max, IntKind.signed, IntKind.bits, pbits] at this ⊢ <;> omega

/-- The sign of an answer: a value, the memory as it is. -/
def PV (φ : Ph) (P : Program) (w : World) (h : H) (s : Sem Value) : R → Prop
  | .v v h' => h' = h ∧ ∃ u, s.run P w = .ok u w ∧ CV φ v u
  | .bad _ => True
  | _ => False
theorem PV.mk {s : Sem Value} {v : V} {u : Value} (h1 : s.run P w = .ok u w) (h2 : CV φ v u) : PV φ P w h s (.v v h) := ⟨rfl, u, h1, h2⟩
theorem PV.bad {s : Sem Value} {n : Nat} : PV φ P w h s (.bad n) := trivial
theorem PV.ok {s : Sem Value} {o : Oper} {rr : R} (r : Rel G φ h w) (hp : PV φ P w h s rr) (hy : ∀ u, s.run P w = .ok u w → Y P e o u w w) : ROk P G φ h w e o rr := by
  cases rr with
  | v v h' =>
    obtain ⟨rfl, u, e1, e2⟩ := hp
    exact ROk.pure r (hy u e1) e2
  | bad n => exact trivial
  | eff _ => exact hp.elim
  | call _ _ => exact hp.elim
  | yld _ _ => exact hp.elim
  | dfr _ _ _ => exact hp.elim
theorem PV.q {s : Sem Value} {o : Oper} {rr : R} (hp : PV φ P w h s rr) (hy : ∀ u, s.run P w = .ok u w → Y P e o u w w) : QOk P φ h w e o rr := by
  cases rr with
  | v v h' =>
    obtain ⟨rfl, u, e1, e2⟩ := hp
    exact QOk.pure (hy u e1) e2
  | bad n => exact trivial
  | eff _ => exact hp.elim
  | call _ _ => exact hp.elim
  | yld _ _ => exact hp.elim
  | dfr _ _ _ => exact hp.elim
theorem PV.cond {s : Sem Value} {b : Bool} {p q : R} (h1 : b = true → PV φ P w h s p) (h2 : b = false → PV φ P w h s q) : PV φ P w h s (cond b p q) := by
  cases b with
  | true => exact h1 rfl
  | false => exact h2 rfl
theorem PV.nat {s : Sem Value} {z : Int} {c : Nat → R} {no : R} (h1 : 0 ≤ z → PV φ P w h s (c z.toNat)) (h2 : z < 0 → PV φ P w h s no) : PV φ P w h s (nat? z c no) := by
  rw [nat?_eq]
  split
  · rename_i hz; exact h1 hz
  · rename_i hz; exact h2 (by omega)
theorem unN_eq (k : IntKind) (z : Int) : unN k z = (BitVec.ofInt k.bits z).toNat := by
  cases z with
  | ofNat n =>
    show n % 2 ^ k.bits = (BitVec.ofInt k.bits (n : Int)).toNat
    rw [BitVec.ofInt_natCast, BitVec.toNat_ofNat]
  | negSucc n =>
    show 2 ^ k.bits - 1 - n % 2 ^ k.bits = _
    rw [BitVec.toNat_ofInt, Int.negSucc_emod n (by exact_mod_cast Nat.two_pow_pos k.bits)]
    have := Nat.mod_lt n (Nat.two_pow_pos k.bits)
    have e : ((n : Int) % ((2 ^ k.bits : Nat) : Int)) = ((n % 2 ^ k.bits : Nat) : Int) := by simp
    rw [e]
    omega
theorem bitS_and {k : IntKind} {a b : Int} : PV φ P w h (binOp .and t (.int k a) (.int k b)) (bitS h k Nat.land a b) := by
  simp only [bitS, rInt_eq, wrp_eq]
  refine PV.mk ?_ .int
  simp only [binOp_and, intBits_and, Sem.run_pure, bits, BitVec.toNat_and, ← unN_eq]
  rfl
theorem bitS_or {k : IntKind} {a b : Int} : PV φ P w h (binOp .or t (.int k a) (.int k b)) (bitS h k Nat.lor a b) := by
  simp only [bitS, rInt_eq, wrp_eq]
  refine PV.mk ?_ .int
  simp only [binOp_or, intBits_or, Sem.run_pure, bits, BitVec.toNat_or, ← unN_eq]
  rfl
theorem bitS_xor {k : IntKind} {a b : Int} : PV φ P w h (binOp .xor t (.int k a) (.int k b)) (bitS h k Nat.xor a b) := by
  simp only [bitS, rInt_eq, wrp_eq]
  refine PV.mk ?_ .int
  simp only [binOp_xor, intBits_xor, Sem.run_pure, bits, BitVec.toNat_xor, ← unN_eq]
  rfl
theorem bitS_andNot {k : IntKind} {a b : Int} : PV φ P w h (binOp .andNot t (.int k a) (.int k b)) (bitS h k (fun x y => Nat.land x (Nat.sub (Nat.sub (Nat.pow 2 k.bits) 1) y)) a b) := by
  simp only [bitS, rInt_eq, wrp_eq]
  refine PV.mk (u := .int k (k.wrap ((BitVec.ofInt k.bits a &&& ~~~ BitVec.ofInt k.bits b).toNat : Int))) ?_ ?_
  · simp [binOp, Op.intBits]
  · rw [BitVec.toNat_and, BitVec.toNat_not, ← unN_eq, ← unN_eq]
    exact .int
theorem binInt_pv (op : BinOp) (k : IntKind) (a b : Int) (hop : op ≠ .shl ∧ op ≠ .shr) : PV φ P w h (binOp op t (.int k a) (.int k b)) (binInt h op k a b) := by
  cases op with
  | add => simp only [binInt, rInt_eq, wrp_eq]; exact PV.mk (by simp [binOp, Op.intArith]) .int
  | sub => simp only [binInt, rInt_eq, wrp_eq]; exact PV.mk (u := .int k (k.wrap (a - b))) (by simp [binOp, Op.intArith]) .int
  | mul => simp only [binInt, rInt_eq, wrp_eq]; exact PV.mk (by simp [binOp, Op.intArith]) .int
  | quo =>
    simp only [binInt, rInt_eq, wrp_eq, ieq_eq]
    refine PV.cond (fun _ => PV.bad) fun hb => ?_
    have hb : ¬ b = 0 := by simpa using hb
    exact PV.mk (by simp [binOp, Op.intDiv, hb]) .int
  | rem =>
    simp only [binInt, rInt_eq, ieq_eq]
    refine PV.cond (fun _ => PV.bad) fun hb => ?_
    have hb : ¬ b = 0 := by simpa using hb
    exact PV.mk (by simp [binOp, Op.intDiv, hb]) .int
  | and =>
    simp only [binInt, rInt_eq]
    refine PV.nat (fun ha => PV.nat (fun hb => PV.cond (fun hc => ?_) fun _ => PV.bad) fun _ => bitS_and) fun _ => bitS_and
    simp only [Bool.and_eq_true] at hc
    refine PV.mk (u := .int k ((a.toNat &&& b.toNat : Nat) : Int)) ?_ .int
    obtain ⟨m, rfl⟩ : ∃ m : Nat, a = m := ⟨a.toNat, (Int.toNat_of_nonneg ha).symm⟩
    obtain ⟨n, rfl⟩ : ∃ m : Nat, b = m := ⟨b.toNat, (Int.toNat_of_nonneg hb).symm⟩
    have hm := natLt ha hc.1
    have hn := natLt hb hc.2
    have hm' := natLt' ha hc.1
    simp only [Int.toNat_natCast] at *
    simp only [binOp_and, intBits_and, Sem.run_pure, bits, BitVec.toNat_and, ofInt_nat hm, ofInt_nat hn, wrap_small (Nat.lt_of_le_of_lt Nat.and_le_left hm')]
  | or =>
    simp only [binInt, rInt_eq]
    refine PV.nat (fun ha => PV.nat (fun hb => PV.cond (fun hc => ?_) fun _ => PV.bad) fun _ => bitS_or) fun _ => bitS_or
    simp only [Bool.and_eq_true] at hc
    refine PV.mk (u := .int k ((a.toNat ||| b.toNat : Nat) : Int)) ?_ .int
    obtain ⟨m, rfl⟩ : ∃ m : Nat, a = m := ⟨a.toNat, (Int.toNat_of_nonneg ha).symm⟩
    obtain ⟨n, rfl⟩ : ∃ m : Nat, b = m := ⟨b.toNat, (Int.toNat_of_nonneg hb).symm⟩
    have hm := natLt ha hc.1
    have hn := natLt hb hc.2
    have hm' := natLt' ha hc.1
    have hn' := natLt' hb hc.2
    simp only [Int.toNat_natCast] at *
    simp only [binOp_or, intBits_or, Sem.run_pure, bits, BitVec.toNat_or, ofInt_nat hm, ofInt_nat hn, wrap_small (Nat.or_lt_two_pow hm' hn')]
  | xor =>
    simp only [binInt, rInt_eq]
    refine PV.nat (fun ha => PV.nat (fun hb => PV.cond (fun hc => ?_) fun _ => PV.bad) fun _ => bitS_xor) fun _ => bitS_xor
    simp only [Bool.and_eq_true] at hc
    refine PV.mk (u := .int k ((a.toNat ^^^ b.toNat : Nat) : Int)) ?_ .int
    obtain ⟨m, rfl⟩ : ∃ m : Nat, a = m := ⟨a.toNat, (Int.toNat_of_nonneg ha).symm⟩
    obtain ⟨n, rfl⟩ : ∃ m : Nat, b = m := ⟨b.toNat, (Int.toNat_of_nonneg hb).symm⟩
    have hm := natLt ha hc.1
    have hn := natLt hb hc.2
    have hm' := natLt' ha hc.1
    have hn' := natLt' hb hc.2
    simp only [Int.toNat_natCast] at *
    simp only [binOp_xor, intBits_xor, Sem.run_pure, bits, BitVec.toNat_xor, ofInt_nat hm, ofInt_nat hn, wrap_small (Nat.xor_lt_two_pow hm' hn')]
  | andNot => simp only [binInt]; exact bitS_andNot
  | shl => exact absurd rfl hop.1
  | shr => exact absurd rfl hop.2
  | eql =>
    simp only [binInt, rBool_eq, ieq_eq]
    have : (a == b) = decide (a = b) := by by_cases h : a = b <;> simp [h]
    exact PV.mk (by simp [binOp, Op.intCmp, this]) .bool
  | neq =>
    simp only [binInt, rBool_eq, ieq_eq]
    have : (a != b) = !decide (a = b) := by by_cases h : a = b <;> simp [h]
    exact PV.mk (by simp [binOp, Op.intCmp, this]) .bool
  | lss =>
    simp only [binInt, rBool_eq, ile_eq]
    have : (!decide (b ≤ a)) = decide (a < b) := by rw [Bool.eq_iff_iff]; simp
    exact PV.mk (by simp [binOp, Op.intCmp, this]) .bool
  | leq =>
    simp only [binInt, rBool_eq, ile_eq]
    exact PV.mk (by simp [binOp, Op.intCmp]) .bool
  | gtr =>
    simp only [binInt, rBool_eq, ile_eq]
    have : (!decide (a ≤ b)) = decide (b < a) := by rw [Bool.eq_iff_iff]; simp
    exact PV.mk (by simp [binOp, Op.intCmp, this]) .bool
  | geq =>
    simp only [binInt, rBool_eq, ile_eq]
    exact PV.mk (by simp [binOp, Op.intCmp]) .bool

theorem shInt_pv (op : BinOp) (k k' : IntKind) (a b : Int) (hop : op = .shl ∨ op = .shr) : PV φ P w h (binOp op t (.int k a) (.int k' b)) (shInt h op k a b) := by
  unfold shInt
  refine PV.nat (fun hb => PV.nat (fun ha => ?_) fun _ => ?_) fun _ => PV.bad
  rotate_left
  · obtain ⟨n, rfl⟩ : ∃ m : Nat, b = m := ⟨b.toNat, (Int.toNat_of_nonneg hb).symm⟩
    have h0 : ¬ ((n : Int) < 0) := by omega
    have hpw : (Int.ofNat (Nat.pow 2 (Nat.min n k.bits))) = (2 : Int) ^ (min n k.bits) := by
      show ((2 ^ (min n k.bits) : Nat) : Int) = _
      simp
    unfold shNeg
    rcases hop with rfl | rfl
    · simp only [rInt_eq, wrp_eq, Int.toNat_natCast, hpw]
      refine PV.mk (u := .int k (k.wrap (a * 2 ^ (min n k.bits)))) ?_ .int
      simp [binOp, Op.shift, h0]
    · simp only [rInt_eq, Int.toNat_natCast, hpw]
      refine PV.mk (u := .int k (a.fdiv (2 ^ (min n k.bits)))) ?_ .int
      simp [binOp, Op.shift, h0]
  obtain ⟨m, rfl⟩ : ∃ m : Nat, a = m := ⟨a.toNat, (Int.toNat_of_nonneg ha).symm⟩
  obtain ⟨n, rfl⟩ : ∃ m : Nat, b = m := ⟨b.toNat, (Int.toNat_of_nonneg hb).symm⟩
  have h0 : ¬ ((n : Int) < 0) := by omega
  rcases hop with rfl | rfl
  · simp only [rInt_eq, wrp_eq, Int.toNat_natCast]
    refine PV.mk (u := .int k (k.wrap ((m : Int) * 2 ^ (min n k.bits)))) ?_ ?_
    · simp [binOp, Op.shift, h0]
    · have : (Int.ofNat (Nat.mul m (Nat.pow 2 (Nat.min n k.bits)))) = (m : Int) * 2 ^ (min n k.bits) := by
        show ((m * 2 ^ (min n k.bits) : Nat) : Int) = _
        simp
      rw [this]; exact .int
  · simp only [rInt_eq, Int.toNat_natCast]
    refine PV.mk (u := .int k ((m : Int).fdiv (2 ^ (min n k.bits)))) ?_ ?_
    · simp [binOp, Op.shift, h0]
    · have h1 : (0 : Int) ≤ 2 ^ (min n k.bits) := Int.pow_nonneg (by decide)
      have : (Int.ofNat (Nat.div m (Nat.pow 2 (Nat.min n k.bits)))) = (m : Int).fdiv (2 ^ (min n k.bits)) := by
        rw [Int.fdiv_eq_ediv_of_nonneg _ h1]
        show ((m / 2 ^ (min n k.bits) : Nat) : Int) = _
        simp
      rw [this]; exact .int

/-! ### Texts -/
theorem unp_zero (s : Nat) : unp 0 s = [] := rfl
theorem unp_succ (n s : Nat) : unp (n + 1) s = UInt8.ofNat (s % 256) :: unp n (s / 256) := rfl
@[simp] theorem unp_length : ∀ (n s : Nat), (unp n s).length = n
  | 0, _ => rfl
  | n + 1, s => by rw [unp_succ]; simp [unp_length n]
theorem pow256 (n : Nat) : 256 ^ (n + 1) = 256 * 256 ^ n := by rw [Nat.pow_succ]; omega
theorem unp_app : ∀ (n m s t : Nat), s < 256 ^ n → unp (n + m) (s + t * 256 ^ n) = unp n s ++ unp m t
  | 0, m, s, t, hs => by
    have : s = 0 := by simpa using hs
    subst this
    simp [unp_zero]
  | n + 1, m, s, t, hs => by
    rw [pow256] at hs
    rw [show n + 1 + m = (n + m) + 1 from by omega, unp_succ, unp_succ, pow256]
    have e : t * (256 * 256 ^ n) = 256 * (t * 256 ^ n) := by rw [Nat.mul_left_comm]
    have h1 : (s + t * (256 * 256 ^ n)) % 256 = s % 256 := by rw [e]; omega
    have h2 : (s + t * (256 * 256 ^ n)) / 256 = s / 256 + t * 256 ^ n := by rw [e]; omega
    rw [h1, h2, unp_app n m _ _ (by omega)]
    rfl
theorem app_lt {n m s t : Nat} (hs : s < 256 ^ n) (ht : t < 256 ^ m) : s + t * 256 ^ n < 256 ^ (n + m) := by
  rw [Nat.pow_add]
  have : t * 256 ^ n + 256 ^ n ≤ 256 ^ m * 256 ^ n := by
    have := Nat.mul_le_mul_right (256 ^ n) (show t + 1 ≤ 256 ^ m from ht)
    rw [Nat.add_mul, Nat.one_mul] at this; exact this
  rw [Nat.mul_comm (256 ^ n)]
  omega
theorem unp_inj : ∀ (n s t : Nat), s < 256 ^ n → t < 256 ^ n → unp n s = unp n t → s = t
  | 0, s, t, hs, ht, _ => by simp at hs ht; omega
  | n + 1, s, t, hs, ht, he => by
    rw [pow256] at hs ht
    rw [unp_succ, unp_succ] at he
    injection he with h1 h2
    have h3 := unp_inj n _ _ (by omega) (by omega) h2
    have h4 : s % 256 = t % 256 := by
      have := congrArg UInt8.toNat h1
      simp at this
      omega
    omega
theorem unp_drop : ∀ (i n s : Nat), (unp n s).drop i = unp (n - i) (s / 256 ^ i)
  | 0, n, s => by simp
  | i + 1, 0, s => by simp [unp_zero]
  | i + 1, n + 1, s => by
    rw [unp_succ, List.drop_succ_cons, unp_drop i n, Nat.div_div_eq_div_mul, pow256, show n + 1 - (i + 1) = n - i from by omega]
theorem unp_take : ∀ (j n s : Nat), j ≤ n → (unp n s).take j = unp j (s % 256 ^ j)
  | 0, n, s, _ => by simp [unp_zero]
  | j + 1, 0, s, h => by omega
  | j + 1, n + 1, s, h => by
    rw [unp_succ, List.take_succ_cons, unp_take j n _ (by omega), unp_succ, pow256]
    have h1 : s % (256 * 256 ^ j) % 256 = s % 256 := by rw [Nat.mod_mul_right_mod]
    have h2 : s % (256 * 256 ^ j) / 256 = s / 256 % 256 ^ j := by rw [Nat.mod_mul_right_div_self]
    rw [h1, h2]
theorem unp_get : ∀ (n s i : Nat), i < n → (unp n s).getD i 0 = UInt8.ofNat (s / 256 ^ i % 256)
  | 0, _, _, h => by omega
  | n + 1, s, 0, _ => by rw [unp_succ]; simp
  | n + 1, s, i + 1, h => by
    rw [unp_succ, List.getD_cons_succ, unp_get n _ i (by omega), Nat.div_div_eq_div_mul, pow256]
theorem pak_lt : ∀ (l : List UInt8), pak l < 256 ^ l.length
  | [] => by simp [pak]
  | a :: l => by
    have h1 := pak_lt l
    have h2 : a.toNat < 256 := a.toNat_lt
    show a.toNat + 256 * pak l < _
    rw [List.length_cons, pow256]
    omega
theorem unp_pak : ∀ (l : List UInt8), unp l.length (pak l) = l
  | [] => rfl
  | a :: l => by
    have h2 : a.toNat < 256 := a.toNat_lt
    have e : pak (a :: l) = a.toNat + 256 * pak l := rfl
    rw [List.length_cons, unp_succ, e]
    have h3 : (a.toNat + 256 * pak l) % 256 = a.toNat := by omega
    have h4 : (a.toNat + 256 * pak l) / 256 = pak l := by omega
    rw [h3, h4, unp_pak l]
    simp
theorem cv_str (l : List UInt8) : CV φ (.str l.length (pak l)) (S l) := by
  have := CV.str (φ := φ) (pak_lt l)
  rwa [unp_pak] at this

theorem toList_S (l : List UInt8) : (ByteArray.mk l.toArray).toList = l := by simp
theorem binStr_pv (op : BinOp) {n s m t0 : Nat} (hs : s < 256 ^ n) (ht : t0 < 256 ^ m) : PV φ P w h (binOp op t (S (unp n s)) (S (unp m t0))) (binStr h op n s m t0) := by
  have heq : (unp n s == unp m t0) = and (Nat.beq n m) (Nat.beq s t0) := by
    rw [Bool.eq_iff_iff]
    simp only [beq_iff_eq, Bool.and_eq_true, Nat.beq_eq]
    constructor
    · intro he
      have hl : n = m := by have := congrArg List.length he; simpa using this
      subst hl
      exact ⟨rfl, unp_inj n s t0 hs ht he⟩
    · rintro ⟨rfl, rfl⟩; rfl
  cases op with
  | add =>
    simp only [binStr, rStr_eq]
    refine PV.cond (fun hc => ?_) fun _ => PV.bad
    have hc : n + m ≤ 9223372036854775807 := Nat.le_of_ble_eq_true hc
    have h1 : (Op.stringOp .add ⟨(unp n s).toArray⟩ ⟨(unp m t0).toArray⟩).run P w = .ok (.string (⟨(unp n s).toArray⟩ ++ ⟨(unp m t0).toArray⟩)) w := run_string_add_sum w _ _ (by rw [size_S, size_S]; simpa using hc)
    have h2 : ((⟨(unp n s).toArray⟩ : ByteArray) ++ (⟨(unp m t0).toArray⟩ : ByteArray)) = ⟨(unp n s ++ unp m t0).toArray⟩ := by
      apply ByteArray.ext
      apply Array.toList_inj.1
      rw [Joins.data_append]
    refine PV.mk (u := S (unp n s ++ unp m t0)) ?_ ?_
    · show (Op.stringOp .add _ _).run P w = _
      rw [h1, h2]
    · rw [← unp_app n m s t0 hs]
      exact .str (app_lt hs ht)
  | eql =>
    simp only [binStr, rBool_eq]
    refine PV.mk (u := .bool (unp n s == unp m t0)) ?_ (by rw [heq]; exact .bool)
    show (Op.stringOp .eql _ _).run P w = _
    simp [Op.stringOp]
  | neq =>
    simp only [binStr, rBool_eq]
    refine PV.mk (u := .bool (!(unp n s == unp m t0))) ?_ (by rw [heq]; exact .bool)
    show (Op.stringOp .neq _ _).run P w = _
    simp [Op.stringOp]
  | lss =>
    simp only [binStr, rBool_eq]
    refine PV.mk ?_ .bool
    show (Op.stringOp .lss _ _).run P w = _
    simp [Op.stringOp]
  | geq =>
    simp only [binStr, rBool_eq]
    refine PV.mk ?_ .bool
    show (Op.stringOp .geq _ _).run P w = _
    simp [Op.stringOp]
  | _ => exact PV.bad
end
end Go.Proofs.YtkgiammeeckfbaaGreat
