/- What single operations do, over a frame that is a list of known slots; memory by its blocks. It is of no program. -/
import Derived.Test.YtkgiammeeckfbaaGreatReg
import Derived.Lib.Strings
import Derived.Lib.SmallJoins
namespace Go.Proofs.YtkgiammeeckfbaaGreat
open Go Go.RowKit

/-! ### Memory -/

/-- Block b holds these cells, and none of them is frozen. -/
def Blk (w : World) (b : Nat) (cs : List Value) (T : TypeId) : Prop := ∃ fz : Nat × Nat, w.heap[b]? = some (.cells cs.toArray T fz) ∧ ∀ i, i < cs.length → ¬ (fz.1 ≤ i ∧ i < fz.2)

theorem Blk.lt {w : World} {b : Nat} {cs : List Value} {T : TypeId} (h : Blk w b cs T) : b < w.heap.size := by
  obtain ⟨fz, h, -⟩ := h
  rcases Nat.lt_or_ge b w.heap.size with h' | h'
  · exact h'
  · simp [Array.getElem?_eq_none h'] at h

theorem Blk.cell {w : World} {b : Nat} {cs : List Value} {T : TypeId} (h : Blk w b cs T) (i : Nat) : w.cell? ⟨b, i, none⟩ = cs[i]? := by
  obtain ⟨fz, h, -⟩ := h
  simp [World.cell?, h]

theorem Blk.free {w : World} {b : Nat} {cs : List Value} {T : TypeId} (h : Blk w b cs T) {i : Nat} (hi : i < cs.length) : w.frozen? ⟨b, i, none⟩ = false := by
  obtain ⟨fz, h, hf⟩ := h
  have := hf i hi
  simp only [World.frozen?, h]
  simpa using this

/-- All but the blocks of S is as it was; new blocks may have come. -/
structure Kp (S : Nat → Prop) (w w' : World) : Prop where
  os : w'.os = w.os
  tape : w'.tape = w.tape
  output : w'.output = w.output
  size : w.heap.size ≤ w'.heap.size
  block : ∀ k, k < w.heap.size → ¬ S k → w'.heap[k]? = w.heap[k]?

def Ext (w w' : World) : Prop := Kp (fun _ => False) w w'

theorem Kp.refl (S : Nat → Prop) (w : World) : Kp S w w := ⟨rfl, rfl, rfl, Nat.le_refl _, fun _ _ _ => rfl⟩
theorem Kp.trans {S : Nat → Prop} {a b c : World} (h : Kp S a b) (k : Kp S b c) : Kp S a c :=
  ⟨k.os.trans h.os, k.tape.trans h.tape, k.output.trans h.output, Nat.le_trans h.size k.size, fun i hi hs => (k.block i (Nat.lt_of_lt_of_le hi h.size) hs).trans (h.block i hi hs)⟩
theorem Kp.mono {S S' : Nat → Prop} {w w' : World} (h : Kp S w w') (hs : ∀ k, k < w.heap.size → S k → S' k) : Kp S' w w' := ⟨h.os, h.tape, h.output, h.size, fun k hk hn => h.block k hk fun hh => hn (hs k hk hh)⟩
theorem Kp.mono' {S S' : Nat → Prop} {w w' : World} (h : Kp S w w') (hs : ∀ k, S k → S' k) : Kp S' w w' := h.mono fun k _ => hs k
theorem Ext.kp {S : Nat → Prop} {w w' : World} (h : Ext w w') : Kp S w w' := Kp.mono h fun _ _ hh => hh.elim
theorem Ext.refl (w : World) : Ext w w := Kp.refl _ w
theorem Ext.trans {a b c : World} (h : Ext a b) (k : Ext b c) : Ext a c := Kp.trans h k
theorem Kp.drew {S : Nat → Prop} {a w : World} (h : Kp S a w) : Kp S a w.drew := ⟨h.os, h.tape, h.output, h.size, h.block⟩
theorem Ext.drew {a w : World} (h : Ext a w) : Ext a w.drew := Kp.drew h
theorem Ext.drew0 (w : World) : Ext w w.drew := (Ext.refl w).drew
/-- What was written lies in blocks that 'a' did not have yet. -/
theorem Kp.trans_new {S S' : Nat → Prop} {a b c : World} (h : Kp S a b) (k : Kp S' b c) (hs : ∀ i, S' i → a.heap.size ≤ i ∨ S i) : Kp S a c :=
  ⟨k.os.trans h.os, k.tape.trans h.tape, k.output.trans h.output, Nat.le_trans h.size k.size, fun i hi hn =>
    (k.block i (Nat.lt_of_lt_of_le hi h.size) fun hh => by rcases hs i hh with h' | h'; omega; exact hn h').trans (h.block i hi hn)⟩
theorem Ext.trans_new {S' : Nat → Prop} {a b c : World} (h : Ext a b) (k : Kp S' b c) (hs : ∀ i, S' i → a.heap.size ≤ i) : Ext a c := Kp.trans_new h k fun i hi => .inl (hs i hi)
theorem Ext.below {w w' : World} (h : Ext w w') : Below w.heap.size w w' := ⟨h.os, h.tape, h.output, h.size, fun k hk => h.block k hk id⟩
theorem Ext.of_below {w w' : World} (h : Below w.heap.size w w') : Ext w w' := ⟨h.os, h.tape, h.output, h.size, fun k hk _ => h.block k hk⟩

theorem Kp.blk {S : Nat → Prop} {w w' : World} {b : Nat} {cs : List Value} {T : TypeId} (h : Kp S w w') (hb : Blk w b cs T) (hn : ¬ S b) : Blk w' b cs T := by
  have hlt := hb.lt
  obtain ⟨fz, hb, hf⟩ := hb
  exact ⟨fz, by rw [h.block b hlt hn]; exact hb, hf⟩
theorem Ext.blk {w w' : World} {b : Nat} {cs : List Value} {T : TypeId} (h : Ext w w') (hb : Blk w b cs T) : Blk w' b cs T := Kp.blk h hb id
theorem Kp.heap {S : Nat → Prop} {w w' : World} {b : Nat} {o : Obj} (h : Kp S w w') (hb : w.heap[b]? = some o) (hn : ¬ S b) : w'.heap[b]? = some o := by
  have hlt : b < w.heap.size := by
    rcases Nat.lt_or_ge b w.heap.size with h' | h'
    · exact h'
    · simp [Array.getElem?_eq_none h'] at hb
  rw [h.block b hlt hn]; exact hb

theorem ext_alloc (w : World) (o : Obj) : Ext w (w.alloc o) := ⟨rfl, rfl, rfl, by simp, fun k hk _ => by rw [Below.heap_alloc _ _ _ hk]⟩
theorem heap_new (w : World) (o : Obj) : (w.alloc o).heap[w.heap.size]? = some o := by
  show (w.heap.push o)[w.heap.size]? = _
  simp
theorem blk_new (w : World) (cs : List Value) (T : TypeId) : Blk (w.alloc (.cells cs.toArray T)) w.heap.size cs T := ⟨(0, 0), by rw [heap_new], fun i _ h => by simp at h⟩

theorem kp_setCell (w : World) (b i : Nat) (v : Value) : Kp (fun k => k = b) w (w.setCell ⟨b, i, none⟩ v) := ⟨rfl, rfl, rfl, by simp [World.setCell], fun k _ hn => Below.heap_setCell _ _ _ _ hn⟩
theorem blk_setCell {w : World} {b : Nat} {cs : List Value} {T : TypeId} (h : Blk w b cs T) (i : Nat) (v : Value) : Blk (w.setCell ⟨b, i, none⟩ v) b (cs.set i v) T := by
  obtain ⟨fz, h, hf⟩ := h
  refine ⟨fz, ?_, by simpa using hf⟩
  simp [World.setCell, Array.getElem?_modify, h]

/-! ### Types -/

def aggOf : TypeDesc → Bool
  | .struct _ | .array _ _ => true
  | _ => false

/-- A type's row of the table. -/
def TI (P : Program) (t : TypeId) (z : Value) (s bytes : Nat) : Prop := ∃ i, P.info? t = some i ∧ i.zero = some z ∧ i.size = s ∧ i.bytes = bytes
theorem ti_mk {P : Program} {t : TypeId} {z : Value} {s bytes : Nat} (h : (P.info? t).map (fun i => (i.zero, i.size, i.bytes)) = some (some z, s, bytes)) : TI P t z s bytes := info_parts h

section
variable {P : Program} {w : World} {t : TypeId} {z : Value} {s bytes : Nat}
theorem TI.size (h : TI P t z s bytes) : (sizeOf t).run P w = .ok s w := by
  obtain ⟨i, h1, -, h3, -⟩ := h
  simp [sizeOf, typeInfo, program, Sem.run, h1, h3]
theorem TI.zero (h : TI P t z s bytes) : (zeroValue t).run P w = .ok z w := by
  obtain ⟨i, h1, h2, -⟩ := h
  simp [zeroValue, typeInfo, program, Sem.run, h1, h2]
theorem TI.info (h : TI P t z s bytes) : ∃ i, (typeInfo t).run P w = .ok i w ∧ i.bytes = bytes := by
  obtain ⟨i, h1, -, -, h4⟩ := h
  exact ⟨i, by simp [typeInfo, program, Sem.run, h1], h4⟩
theorem run_isAgg {d : TypeDesc} (h : P.underlying t = some d) : (isAgg t).run P w = .ok (aggOf d) w := by
  cases d <;> simp [isAgg, run_underlying h, aggOf]
end

/-- Field i of the struct type t: where it lies, how many cells it has, is it a struct or an array itself. -/
def Fld (P : Program) (t i off n : Nat) (agg : Bool) : Prop := ∃ fs f z bytes d, P.underlying t = some (.struct fs) ∧ fs[i]? = some f ∧ f.offset = off ∧ TI P f.type z n bytes ∧ P.underlying f.type = some d ∧ aggOf d = agg

/-- The integer z is the natural number n. -/
class NatC (z : Int) (n : outParam Nat) : Prop where
  eq : z = (n : Int)
instance natC_cast (n : Nat) : NatC (n : Int) n := ⟨rfl⟩
instance natC_lit (n : Nat) : NatC (no_index (OfNat.ofNat n) : Int) (OfNat.ofNat n) := ⟨rfl⟩
instance natC_add {a b : Int} {m n : Nat} [ha : NatC a m] [hb : NatC b n] : NatC (a + b) (m + n) := ⟨by rw [ha.eq, hb.eq]; simp⟩
instance natC_mul {a b : Int} {m n : Nat} [ha : NatC a m] [hb : NatC b n] : NatC (a * b) (m * n) := ⟨by rw [ha.eq, hb.eq]; simp⟩
instance natC_div {a b : Int} {m n : Nat} [ha : NatC a m] [hb : NatC b n] : NatC (a / b) (m / n) := ⟨by rw [ha.eq, hb.eq]; simp⟩
instance natC_mod {a b : Int} {m n : Nat} [ha : NatC a m] [hb : NatC b n] : NatC (a % b) (m % n) := ⟨by rw [ha.eq, hb.eq]; simp⟩
instance natC_min {a b : Int} {m n : Nat} [ha : NatC a m] [hb : NatC b n] : NatC (min a b) (min m n) := ⟨by rw [ha.eq, hb.eq]; omega⟩
theorem natC_of {z : Int} (h : 0 ≤ z) : NatC z z.toNat := ⟨(Int.toNat_of_nonneg h).symm⟩

/-! ### Single operations -/

abbrev S (l : List UInt8) : Value := .string ⟨l.toArray⟩
abbrev I (n : Int) : Value := .int .i64 n
abbrev ptr (b i : Nat) : Value := .pointer (some ⟨b, i, none⟩)

section
variable {P : Program} {e : Env} {d : Option Nat} {ty t t' : TypeId} {pos : String} {aft : Array Edge} {g : Option (Nat × Bool)} {x y : Operand} {w w' : World} {k k' : IntKind} {a b : Int} {m n : Nat} {u v : Value} {l l' : List UInt8}

theorem ymv (hx : look e x = some v) : Y P e ⟨d, .move x, ty, pos, aft, g⟩ v w w := fun ρ hρ => by simp [execOp, hρ _ _ hx]
theorem yas (hx : look e x = some v) : Y P e ⟨d, .assign x, ty, pos, aft, g⟩ v w w := fun ρ hρ => by simp [execOp, hρ _ _ hx]
theorem ypT {c : Operand} (hc : look e c = some (.bool true)) (hx : look e x = some v) : Y P e ⟨d, .pick c x y, ty, pos, aft, g⟩ v w w := fun ρ hρ => by simp [execOp, hρ _ _ hx, hρ _ _ hc, asBool]
theorem ypF {c : Operand} (hc : look e c = some (.bool false)) (hy : look e y = some v) : Y P e ⟨d, .pick c x y, ty, pos, aft, g⟩ v w w := fun ρ hρ => by simp [execOp, hρ _ _ hy, hρ _ _ hc, asBool]

-- tests on integers
theorem ylt (hx : look e x = some (.int k a)) (hy : look e y = some (.int k b)) : Y P e ⟨d, .binOp .lss t x y t', ty, pos, aft, g⟩ (.bool (decide (a < b))) w w := fun ρ hρ => by simp [execOp, go_sem, hρ _ _ hx, hρ _ _ hy]
theorem yle (hx : look e x = some (.int k a)) (hy : look e y = some (.int k b)) : Y P e ⟨d, .binOp .leq t x y t', ty, pos, aft, g⟩ (.bool (decide (a ≤ b))) w w := fun ρ hρ => by simp [execOp, go_sem, hρ _ _ hx, hρ _ _ hy]
theorem ygt (hx : look e x = some (.int k a)) (hy : look e y = some (.int k b)) : Y P e ⟨d, .binOp .gtr t x y t', ty, pos, aft, g⟩ (.bool (decide (b < a))) w w := fun ρ hρ => by simp [execOp, go_sem, hρ _ _ hx, hρ _ _ hy]
theorem yge (hx : look e x = some (.int k a)) (hy : look e y = some (.int k b)) : Y P e ⟨d, .binOp .geq t x y t', ty, pos, aft, g⟩ (.bool (decide (b ≤ a))) w w := fun ρ hρ => by simp [execOp, go_sem, hρ _ _ hx, hρ _ _ hy]
theorem yeq (hx : look e x = some (.int k a)) (hy : look e y = some (.int k b)) : Y P e ⟨d, .binOp .eql t x y t', ty, pos, aft, g⟩ (.bool (decide (a = b))) w w := fun ρ hρ => by
  have : (a == b) = decide (a = b) := by by_cases h : a = b <;> simp [h]
  simp [execOp, go_sem, hρ _ _ hx, hρ _ _ hy, this]
theorem yne (hx : look e x = some (.int k a)) (hy : look e y = some (.int k b)) : Y P e ⟨d, .binOp .neq t x y t', ty, pos, aft, g⟩ (.bool (decide (a ≠ b))) w w := fun ρ hρ => by
  have : (a != b) = decide (a ≠ b) := by by_cases h : a = b <;> simp [h]
  simp [execOp, go_sem, hρ _ _ hx, hρ _ _ hy, this]

-- arithmetic on int
theorem wrap_i64 {a : Int} (h : -9223372036854775808 ≤ a ∧ a ≤ 9223372036854775807) : IntKind.i64.wrap a = a := by
  simp only [IntKind.wrap, IntKind.bits, IntKind.signed]; simp; omega
theorem yad (hx : look e x = some (I a)) (hy : look e y = some (I b)) (h : -9223372036854775808 ≤ a + b ∧ a + b ≤ 9223372036854775807) : Y P e ⟨d, .binOp .add t x y t', ty, pos, aft, g⟩ (I (a + b)) w w := fun ρ hρ => by simp [execOp, go_sem, hρ _ _ hx, hρ _ _ hy, wrap_i64 h]
theorem ysb (hx : look e x = some (I a)) (hy : look e y = some (I b)) (h : -9223372036854775808 ≤ a - b ∧ a - b ≤ 9223372036854775807) : Y P e ⟨d, .binOp .sub t x y t', ty, pos, aft, g⟩ (I (a - b)) w w := fun ρ hρ => by simp [execOp, go_sem, hρ _ _ hx, hρ _ _ hy, wrap_i64 h]
theorem yml (hx : look e x = some (I a)) (hy : look e y = some (I b)) (h : -9223372036854775808 ≤ a * b ∧ a * b ≤ 9223372036854775807) : Y P e ⟨d, .binOp .mul t x y t', ty, pos, aft, g⟩ (I (a * b)) w w := fun ρ hρ => by simp [execOp, go_sem, hρ _ _ hx, hρ _ _ hy, wrap_i64 h]
/-- '/' and '%' of numbers that are not negative. -/
theorem yqu (hx : look e x = some (I a)) (hy : look e y = some (I b)) (h : 0 ≤ a ∧ 0 < b ∧ a ≤ 9223372036854775807) : Y P e ⟨d, .binOp .quo t x y t', ty, pos, aft, g⟩ (I (a / b)) w w := fun ρ hρ => by
  have h0 : ¬ b = 0 := by omega
  have h1 : a.tdiv b = a / b := Int.tdiv_eq_ediv_of_nonneg h.1
  have h2 : 0 ≤ a / b := Int.ediv_nonneg h.1 (by omega)
  have h3 : a / b ≤ a := Int.ediv_le_self b h.1
  have h4 := wrap_i64 (a := a / b) ⟨by omega, by omega⟩
  simp [execOp, go_sem, hρ _ _ hx, hρ _ _ hy, h0, h1, h4]
theorem yre (hx : look e x = some (I a)) (hy : look e y = some (I b)) (h : 0 ≤ a ∧ 0 < b) : Y P e ⟨d, .binOp .rem t x y t', ty, pos, aft, g⟩ (I (a % b)) w w := fun ρ hρ => by
  have h0 : ¬ b = 0 := by omega
  have h1 : a.tmod b = a % b := Int.tmod_eq_emod_of_nonneg h.1
  simp [execOp, go_sem, hρ _ _ hx, hρ _ _ hy, h0, h1]
/-- '%' of any number. -/
theorem yrt (hx : look e x = some (I a)) (hy : look e y = some (I b)) (h : b ≠ 0) : Y P e ⟨d, .binOp .rem t x y t', ty, pos, aft, g⟩ (I (a.tmod b)) w w := fun ρ hρ => by
  simp [execOp, go_sem, hρ _ _ hx, hρ _ _ hy, h]
theorem yslP (c p : Nat) (hx : look e x = some (I a)) (hy : look e y = some (.int k' (c : Int))) (hc : c ≤ 64) (hp : 2 ^ c = p) (h : -9223372036854775808 ≤ a * p ∧ a * p ≤ 9223372036854775807) : Y P e ⟨d, .binOp .shl t x y t', ty, pos, aft, g⟩ (I (a * p)) w w := fun ρ hρ => by
  have h0 : ¬ ((c : Int) < 0) := by omega
  have hp' : (2 : Int) ^ c = (p : Int) := by rw [← hp]; simp
  simp only [execOp, eqGuard_shl, binOp_shl, hρ _ _ hx, hρ _ _ hy, Op.shift, h0, if_false, Int.toNat_natCast, IntKind.bits, Nat.min_eq_left hc, pure_bind, Sem.run_pure, hp', wrap_i64 h]
theorem ysr (c : Nat) (hx : look e x = some (.int k a)) (hy : look e y = some (.int k' (c : Int))) (hc : c ≤ k.bits) : Y P e ⟨d, .binOp .shr t x y t', ty, pos, aft, g⟩ (.int k (a / 2 ^ c)) w w := fun ρ hρ => by
  have h0 : ¬ ((c : Int) < 0) := by omega
  have h1 : (0 : Int) ≤ 2 ^ c := Int.pow_nonneg (by decide)
  simp only [execOp, eqGuard_shr, binOp_shr, hρ _ _ hx, hρ _ _ hy, Op.shift, h0, if_false, Int.toNat_natCast, Nat.min_eq_left hc, Int.fdiv_eq_ediv_of_nonneg _ h1, pure_bind, Sem.run_pure]

-- numbers without a sign, as natural numbers
theorem yadU' (hx : look e x = some (.int k (m : Int))) (hy : look e y = some (.int k (n : Int))) (hs : k.signed = false) : Y P e ⟨d, .binOp .add t x y t', ty, pos, aft, g⟩ (.int k (((m + n) % 2 ^ k.bits : Nat) : Int)) w w := fun ρ hρ => by
  have : k.wrap ((m : Int) + n) = (((m + n) % 2 ^ k.bits : Nat) : Int) := by simp [IntKind.wrap, hs]
  simp [execOp, go_sem, hρ _ _ hx, hρ _ _ hy, this]
theorem ybsU' (c : Nat) (hx : look e x = some (.int k (m : Int))) (hy : look e y = some (.int k' (c : Int))) (hs : k.signed = false) (hc : c ≤ k.bits) : Y P e ⟨d, .binOp .shl t x y t', ty, pos, aft, g⟩ (.int k (((m * 2 ^ c) % 2 ^ k.bits : Nat) : Int)) w w := fun ρ hρ => by
  have h0 : ¬ ((c : Int) < 0) := by omega
  have : k.wrap ((m : Int) * 2 ^ c) = (((m * 2 ^ c) % 2 ^ k.bits : Nat) : Int) := by simp [IntKind.wrap, hs]
  simp only [execOp, eqGuard_shl, binOp_shl, hρ _ _ hx, hρ _ _ hy, Op.shift, h0, if_false, Int.toNat_natCast, Nat.min_eq_left hc, pure_bind, Sem.run_pure, this]
theorem ysrU' (c : Nat) (hx : look e x = some (.int k (m : Int))) (hy : look e y = some (.int k' (c : Int))) (hc : c ≤ k.bits) : Y P e ⟨d, .binOp .shr t x y t', ty, pos, aft, g⟩ (.int k ((m / 2 ^ c : Nat) : Int)) w w := fun ρ hρ => by
  have := ysr (P := P) (d := d) (t := t) (t' := t') (ty := ty) (pos := pos) (aft := aft) (g := g) (w := w) c hx hy hc ρ hρ
  rw [this]
  simp

theorem ofInt_nat {k : IntKind} (h : m < 2 ^ k.bits) : (BitVec.ofInt k.bits (m : Int)).toNat = m := by
  simp
  exact Nat.mod_eq_of_lt h
theorem wrapU {k : IntKind} (hs : k.signed = false) (h : m < 2 ^ k.bits) : k.wrap (m : Int) = (m : Int) := by
  simp only [IntKind.wrap, hs]
  simp
  exact Int.emod_eq_of_lt (by omega) (by exact_mod_cast h)
theorem yanU' (hx : look e x = some (.int k (m : Int))) (hy : look e y = some (.int k (n : Int))) (hs : k.signed = false) (hm : m < 2 ^ k.bits) (hn : n < 2 ^ k.bits) : Y P e ⟨d, .binOp .and t x y t', ty, pos, aft, g⟩ (.int k ((m &&& n : Nat) : Int)) w w := fun ρ hρ => by
  simp only [execOp, eqGuard_and, binOp_and, intBits_and, hρ _ _ hx, hρ _ _ hy, pure_bind, Sem.run_pure, bits, BitVec.toNat_and, ofInt_nat hm, ofInt_nat hn, wrapU hs (Nat.lt_of_le_of_lt Nat.and_le_left hm)]
theorem yorU' (hx : look e x = some (.int k (m : Int))) (hy : look e y = some (.int k (n : Int))) (hs : k.signed = false) (hm : m < 2 ^ k.bits) (hn : n < 2 ^ k.bits) : Y P e ⟨d, .binOp .or t x y t', ty, pos, aft, g⟩ (.int k ((m ||| n : Nat) : Int)) w w := fun ρ hρ => by
  simp only [execOp, eqGuard_or, binOp_or, intBits_or, hρ _ _ hx, hρ _ _ hy, pure_bind, Sem.run_pure, bits, BitVec.toNat_or, ofInt_nat hm, ofInt_nat hn, wrapU hs (Nat.or_lt_two_pow hm hn)]
theorem yxoU' (hx : look e x = some (.int k (m : Int))) (hy : look e y = some (.int k (n : Int))) (hs : k.signed = false) (hm : m < 2 ^ k.bits) (hn : n < 2 ^ k.bits) : Y P e ⟨d, .binOp .xor t x y t', ty, pos, aft, g⟩ (.int k ((m ^^^ n : Nat) : Int)) w w := fun ρ hρ => by
  simp only [execOp, eqGuard_xor, binOp_xor, intBits_xor, hρ _ _ hx, hρ _ _ hy, pure_bind, Sem.run_pure, bits, BitVec.toNat_xor, ofInt_nat hm, ofInt_nat hn, wrapU hs (Nat.xor_lt_two_pow hm hn)]
/-- '|' and '&' on int, of numbers that are not negative. -/
theorem yor64' (hx : look e x = some (I (m : Int))) (hy : look e y = some (I (n : Int))) (hm : m < 2 ^ 63) (hn : n < 2 ^ 63) : Y P e ⟨d, .binOp .or t x y t', ty, pos, aft, g⟩ (I ((m ||| n : Nat) : Int)) w w := fun ρ hρ => by
  have h1 : m < 2 ^ IntKind.i64.bits := by simp only [IntKind.bits]; omega
  have h2 : n < 2 ^ IntKind.i64.bits := by simp only [IntKind.bits]; omega
  have h3 := Nat.or_lt_two_pow hm hn
  simp only [execOp, eqGuard_or, binOp_or, intBits_or, hρ _ _ hx, hρ _ _ hy, pure_bind, Sem.run_pure, bits, BitVec.toNat_or, ofInt_nat h1, ofInt_nat h2]
  rw [wrap_i64 ⟨by omega, by omega⟩]
theorem yan64' (hx : look e x = some (I (m : Int))) (hy : look e y = some (I (n : Int))) (hm : m < 2 ^ 63) (hn : n < 2 ^ 63) : Y P e ⟨d, .binOp .and t x y t', ty, pos, aft, g⟩ (I ((m &&& n : Nat) : Int)) w w := fun ρ hρ => by
  have h1 : m < 2 ^ IntKind.i64.bits := by simp only [IntKind.bits]; omega
  have h2 : n < 2 ^ IntKind.i64.bits := by simp only [IntKind.bits]; omega
  have h3 : m &&& n ≤ m := Nat.and_le_left
  simp only [execOp, eqGuard_and, binOp_and, intBits_and, hρ _ _ hx, hρ _ _ hy, pure_bind, Sem.run_pure, bits, BitVec.toNat_and, ofInt_nat h1, ofInt_nat h2]
  rw [wrap_i64 ⟨by omega, by omega⟩]
theorem yngU' (hx : look e x = some (.int k (m : Int))) (hs : k.signed = false) (hm : m < 2 ^ k.bits) : Y P e ⟨d, .unOp .neg t x, ty, pos, aft, g⟩ (.int k (((2 ^ k.bits - m) % 2 ^ k.bits : Nat) : Int)) w w := fun ρ hρ => by
  have : k.wrap (0 - (m : Int)) = (((2 ^ k.bits - m) % 2 ^ k.bits : Nat) : Int) := by
    simp only [IntKind.wrap, hs]
    simp
    rw [Int.ofNat_sub (by omega)]
    simp
  simp only [execOp, hρ _ _ hx, pure_bind, Sem.run_pure, Op.unary, Op.intArith, this]
theorem ycoU' (hx : look e x = some (.int k (m : Int))) (hs : k.signed = false) (hm : m < 2 ^ k.bits) : Y P e ⟨d, .unOp .xor t x, ty, pos, aft, g⟩ (.int k (((2 ^ k.bits - 1) ^^^ m : Nat) : Int)) w w := fun ρ hρ => by
  have hmax : k.max = ((2 ^ k.bits - 1 : Nat) : Int) := by cases k <;> simp_all [IntKind.max, IntKind.signed, IntKind.bits]
  have hp : 2 ^ k.bits - 1 < 2 ^ k.bits := by have := Nat.two_pow_pos k.bits; omega
  simp only [execOp, hρ _ _ hx, pure_bind, Sem.run_pure, Op.unary, hs, Bool.false_eq_true, if_false, hmax, intBits_xor, bits, BitVec.toNat_xor, ofInt_nat hm, ofInt_nat hp, wrapU hs (Nat.xor_lt_two_pow hp hm)]
theorem yng (hx : look e x = some (I a)) (h : -9223372036854775807 ≤ a) (h' : a ≤ 9223372036854775807) : Y P e ⟨d, .unOp .neg t x, ty, pos, aft, g⟩ (I (-a)) w w := fun ρ hρ => by
  simp [execOp, go_sem, hρ _ _ hx, Op.unary, wrap_i64 (a := -a) ⟨by omega, by omega⟩]
theorem ynt {c : Bool} (hx : look e x = some (.bool c)) : Y P e ⟨d, .unOp .not t x, ty, pos, aft, g⟩ (.bool (!c)) w w := fun ρ hρ => by simp [execOp, hρ _ _ hx, Op.unary]
theorem yntd {p : Prop} [Decidable p] (hx : look e x = some (.bool (decide p))) : Y P e ⟨d, .unOp .not t x, ty, pos, aft, g⟩ (.bool (decide ¬ p)) w w := fun ρ hρ => by simp [execOp, hρ _ _ hx, Op.unary]

-- conversions of numbers
theorem ycv (hx : look e x = some (.int k a)) (hs : P.underlying t = some (.int k)) (hd : P.underlying t' = some (.int k')) (h : k'.wrap a = b) : Y P e ⟨d, .convert t t' x, ty, pos, aft, g⟩ (.int k' b) w w := fun ρ hρ => by
  simp [execOp, hρ _ _ hx, convert, run_underlying hs, run_underlying hd, Conv.intToInt, h]
theorem ycvU' (hx : look e x = some (.int k (m : Int))) (hs : P.underlying t = some (.int k)) (hd : P.underlying t' = some (.int k')) (h : k'.signed = false) : Y P e ⟨d, .convert t t' x, ty, pos, aft, g⟩ (.int k' ((m % 2 ^ k'.bits : Nat) : Int)) w w :=
  ycv hx hs hd (by simp [IntKind.wrap, h])
/-- .. that stay what they are. -/
theorem ycvS (hx : look e x = some (.int k a)) (hs : P.underlying t = some (.int k)) (hd : P.underlying t' = some (.int k')) (h : k'.min ≤ a ∧ a ≤ k'.max) : Y P e ⟨d, .convert t t' x, ty, pos, aft, g⟩ (.int k' a) w w :=
  ycv hx hs hd (by cases k' <;> simp only [IntKind.wrap, IntKind.bits, IntKind.signed, IntKind.min, IntKind.max] at * <;> simp at * <;> omega)

-- strings
theorem size_S (l : List UInt8) : (ByteArray.mk l.toArray).size = l.length := by simp [ByteArray.size]
theorem ylnS (ht : P.underlying t = some .string) (hx : look e x = some (S l)) : Y P e ⟨d, .call ⟨.builtin .len, #[x], #[t]⟩, ty, pos, aft, g⟩ (I (l.length : Int)) w w := fun ρ hρ => by
  simp [go_sem, hρ _ _ hx, run_len_string w t ty _ ht, size_S]
theorem yixS' (ht : P.underlying t = some .string) (hx : look e x = some (S l)) (hy : look e y = some (.int k (n : Int))) (hn : n < l.length) : Y P e ⟨d, .index t x y, ty, pos, aft, g⟩ (.int .u8 ((l.getD n 0).toNat : Int)) w w := fun ρ hρ => by
  have h1 : (0 : Int) ≤ (n : Int) ∧ (n : Int) < ((ByteArray.mk l.toArray).size : Int) := by rw [size_S]; omega
  have h2 : ((ByteArray.mk l.toArray)[n]'(by rw [size_S]; exact hn)) = l.getD n 0 := by
    simp [List.getD, hn]
    rfl
  simp only [execOp, hρ _ _ hx, hρ _ _ hy, run_index_string w t _ k _ ht, Sem.run_bind, dif_pos h1, Result.andThen_ok, Sem.run_pure, Int.toNat_natCast, h2]
theorem ycatS (hx : look e x = some (S l)) (hy : look e y = some (S l')) (h : l.length + l'.length ≤ 9223372036854775807) : Y P e ⟨d, .binOp .add t x y t', ty, pos, aft, g⟩ (S (l ++ l')) w w := fun ρ hρ => by
  have h1 : (Op.stringOp .add ⟨l.toArray⟩ ⟨l'.toArray⟩).run P w = .ok (.string (⟨l.toArray⟩ ++ ⟨l'.toArray⟩)) w := run_string_add_sum w _ _ (by rw [size_S, size_S]; exact h)
  have h2 : ((⟨l.toArray⟩ : ByteArray) ++ (⟨l'.toArray⟩ : ByteArray)) = ⟨(l ++ l').toArray⟩ := by
    apply ByteArray.ext
    apply Array.toList_inj.1
    rw [Joins.data_append]
  simp only [execOp, hρ _ _ hx, hρ _ _ hy, eqGuard_add, binOp_string_add, pure_bind, Sem.run_bind, h1, h2, Result.andThen_ok, Sem.run_pure]
theorem yeqS (hx : look e x = some (S l)) (hy : look e y = some (S l')) : Y P e ⟨d, .binOp .eql t x y t', ty, pos, aft, g⟩ (.bool (decide (l = l'))) w w := fun ρ hρ => by
  have : (l == l') = decide (l = l') := by by_cases h : l = l' <;> simp [h]
  simp [execOp, go_sem, hρ _ _ hx, hρ _ _ hy, this]
theorem yneS (hx : look e x = some (S l)) (hy : look e y = some (S l')) : Y P e ⟨d, .binOp .neq t x y t', ty, pos, aft, g⟩ (.bool (decide (l ≠ l'))) w w := fun ρ hρ => by
  have : (!(l == l')) = decide (l ≠ l') := by by_cases h : l = l' <;> simp [h]
  simp [execOp, go_sem, hρ _ _ hx, hρ _ _ hy, this]

theorem extract_S (l : List UInt8) (i j : Nat) : (ByteArray.mk l.toArray).extract i j = ⟨((l.drop i).take (j - i)).toArray⟩ := by
  apply ByteArray.ext
  apply Array.toList_inj.1
  rw [Lib.extract_data]
/-- 's[i:j]', 's[i:]', 's[:j]' -/
theorem yslS' {y' : Operand} {i j : Nat} (ht : P.underlying t = some .string) (hx : look e x = some (S l)) (hy : look e y = some (.int k (i : Int))) (hy' : look e y' = some (.int k' (j : Int))) (h : i ≤ j ∧ j ≤ l.length) :
    Y P e ⟨d, .slice t x (some y) (some y') none, ty, pos, aft, g⟩ (S ((l.drop i).take (j - i))) w w := fun ρ hρ => by
  have h1 : ∀ w, (Instr.sliceBound (.int k' (j : Int)) (ByteArray.mk l.toArray).size .sliceAlen).run P w = .ok j w := fun w => by rw [run_sliceBound _ _ _ _ _ (by omega) (by rw [size_S]; omega)]; simp
  have h2 : ∀ w, (Instr.sliceBound (.int k (i : Int)) j .sliceB).run P w = .ok i w := fun w => by rw [run_sliceBound _ _ _ _ _ (by omega) (by omega)]; simp
  simp [execOp, hρ _ _ hx, hρ _ _ hy, hρ _ _ hy', Instr.sliceAt, run_underlying ht, Instr.slice, Instr.sliceBounds, h1, h2, extract_S]
theorem yslSf' {i : Nat} (ht : P.underlying t = some .string) (hx : look e x = some (S l)) (hy : look e y = some (.int k (i : Int))) (h : i ≤ l.length) :
    Y P e ⟨d, .slice t x (some y) none none, ty, pos, aft, g⟩ (S (l.drop i)) w w := fun ρ hρ => by
  have h2 : ∀ w, (Instr.sliceBound (.int k (i : Int)) l.length .sliceB).run P w = .ok i w := fun w => by rw [run_sliceBound _ _ _ _ _ (by omega) (by omega)]; simp
  have h3 : (l.drop i).take (l.length - i) = l.drop i := List.take_of_length_le (by simp)
  simp [execOp, hρ _ _ hx, hρ _ _ hy, Instr.sliceAt, run_underlying ht, Instr.slice, Instr.sliceBounds, h2, extract_S, size_S, h3]
theorem yslSt' {j : Nat} (ht : P.underlying t = some .string) (hx : look e x = some (S l)) (hy : look e y = some (.int k (j : Int))) (h : j ≤ l.length) :
    Y P e ⟨d, .slice t x none (some y) none, ty, pos, aft, g⟩ (S (l.take j)) w w := fun ρ hρ => by
  have h1 : ∀ w, (Instr.sliceBound (.int k (j : Int)) (ByteArray.mk l.toArray).size .sliceAlen).run P w = .ok j w := fun w => by rw [run_sliceBound _ _ _ _ _ (by omega) (by rw [size_S]; omega)]; simp
  simp [execOp, hρ _ _ hx, hρ _ _ hy, Instr.sliceAt, run_underlying ht, Instr.slice, Instr.sliceBounds, h1, extract_S]

theorem ymi (hx : look e x = some (I a)) (hy : look e y = some (I b)) {ts : Array TypeId} : Y P e ⟨d, .call ⟨.builtin .min, #[x, y], ts⟩, ty, pos, aft, g⟩ (I (min a b)) w w := fun ρ hρ => by
  have : (if b < a then b else a) = min a b := by omega
  simp [go_sem, hρ _ _ hx, hρ _ _ hy, Builtin.min_, Builtin.min2, this]
theorem yma (hx : look e x = some (I a)) (hy : look e y = some (I b)) {ts : Array TypeId} : Y P e ⟨d, .call ⟨.builtin .max, #[x, y], ts⟩, ty, pos, aft, g⟩ (I (max a b)) w w := fun ρ hρ => by
  have : (if a < b then b else a) = max a b := by omega
  simp [go_sem, hρ _ _ hx, hρ _ _ hy, Builtin.max_, Builtin.max2, this]

-- the same with the numbers written out
theorem yad8' (hx : look e x = some (.int .u8 (m : Int))) (hy : look e y = some (.int .u8 (n : Int))) : Y P e ⟨d, .binOp .add t x y t', ty, pos, aft, g⟩ (.int .u8 (((m + n) % 256 : Nat) : Int)) w w := yadU' hx hy rfl
theorem yad32' (hx : look e x = some (.int .u32 (m : Int))) (hy : look e y = some (.int .u32 (n : Int))) : Y P e ⟨d, .binOp .add t x y t', ty, pos, aft, g⟩ (.int .u32 (((m + n) % 4294967296 : Nat) : Int)) w w := yadU' hx hy rfl
theorem yad64' (hx : look e x = some (.int .u64 (m : Int))) (hy : look e y = some (.int .u64 (n : Int))) : Y P e ⟨d, .binOp .add t x y t', ty, pos, aft, g⟩ (.int .u64 (((m + n) % 18446744073709551616 : Nat) : Int)) w w := yadU' hx hy rfl
theorem yan8' (hx : look e x = some (.int .u8 (m : Int))) (hy : look e y = some (.int .u8 (n : Int))) (hm : m < 256) (hn : n < 256) : Y P e ⟨d, .binOp .and t x y t', ty, pos, aft, g⟩ (.int .u8 ((m &&& n : Nat) : Int)) w w := yanU' hx hy rfl hm hn
theorem yan32' (hx : look e x = some (.int .u32 (m : Int))) (hy : look e y = some (.int .u32 (n : Int))) (hm : m < 4294967296) (hn : n < 4294967296) : Y P e ⟨d, .binOp .and t x y t', ty, pos, aft, g⟩ (.int .u32 ((m &&& n : Nat) : Int)) w w := yanU' hx hy rfl hm hn
theorem yan64u' (hx : look e x = some (.int .u64 (m : Int))) (hy : look e y = some (.int .u64 (n : Int))) (hm : m < 18446744073709551616) (hn : n < 18446744073709551616) : Y P e ⟨d, .binOp .and t x y t', ty, pos, aft, g⟩ (.int .u64 ((m &&& n : Nat) : Int)) w w := yanU' hx hy rfl hm hn
theorem yor8' (hx : look e x = some (.int .u8 (m : Int))) (hy : look e y = some (.int .u8 (n : Int))) (hm : m < 256) (hn : n < 256) : Y P e ⟨d, .binOp .or t x y t', ty, pos, aft, g⟩ (.int .u8 ((m ||| n : Nat) : Int)) w w := yorU' hx hy rfl hm hn
theorem yor32' (hx : look e x = some (.int .u32 (m : Int))) (hy : look e y = some (.int .u32 (n : Int))) (hm : m < 4294967296) (hn : n < 4294967296) : Y P e ⟨d, .binOp .or t x y t', ty, pos, aft, g⟩ (.int .u32 ((m ||| n : Nat) : Int)) w w := yorU' hx hy rfl hm hn
theorem yor64u' (hx : look e x = some (.int .u64 (m : Int))) (hy : look e y = some (.int .u64 (n : Int))) (hm : m < 18446744073709551616) (hn : n < 18446744073709551616) : Y P e ⟨d, .binOp .or t x y t', ty, pos, aft, g⟩ (.int .u64 ((m ||| n : Nat) : Int)) w w := yorU' hx hy rfl hm hn
theorem yxo8' (hx : look e x = some (.int .u8 (m : Int))) (hy : look e y = some (.int .u8 (n : Int))) (hm : m < 256) (hn : n < 256) : Y P e ⟨d, .binOp .xor t x y t', ty, pos, aft, g⟩ (.int .u8 ((m ^^^ n : Nat) : Int)) w w := yxoU' hx hy rfl hm hn
theorem yxo32' (hx : look e x = some (.int .u32 (m : Int))) (hy : look e y = some (.int .u32 (n : Int))) (hm : m < 4294967296) (hn : n < 4294967296) : Y P e ⟨d, .binOp .xor t x y t', ty, pos, aft, g⟩ (.int .u32 ((m ^^^ n : Nat) : Int)) w w := yxoU' hx hy rfl hm hn
theorem yxo64u' (hx : look e x = some (.int .u64 (m : Int))) (hy : look e y = some (.int .u64 (n : Int))) (hm : m < 18446744073709551616) (hn : n < 18446744073709551616) : Y P e ⟨d, .binOp .xor t x y t', ty, pos, aft, g⟩ (.int .u64 ((m ^^^ n : Nat) : Int)) w w := yxoU' hx hy rfl hm hn
theorem yng32' (hx : look e x = some (.int .u32 (m : Int))) (hm : m < 4294967296) : Y P e ⟨d, .unOp .neg t x, ty, pos, aft, g⟩ (.int .u32 (((4294967296 - m) % 4294967296 : Nat) : Int)) w w := yngU' hx rfl hm
theorem yng64u' (hx : look e x = some (.int .u64 (m : Int))) (hm : m < 18446744073709551616) : Y P e ⟨d, .unOp .neg t x, ty, pos, aft, g⟩ (.int .u64 (((18446744073709551616 - m) % 18446744073709551616 : Nat) : Int)) w w := yngU' hx rfl hm
theorem yco32' (hx : look e x = some (.int .u32 (m : Int))) (hm : m < 4294967296) : Y P e ⟨d, .unOp .xor t x, ty, pos, aft, g⟩ (.int .u32 ((4294967295 ^^^ m : Nat) : Int)) w w := ycoU' hx rfl hm
theorem yco64u' (hx : look e x = some (.int .u64 (m : Int))) (hm : m < 18446744073709551616) : Y P e ⟨d, .unOp .xor t x, ty, pos, aft, g⟩ (.int .u64 ((18446744073709551615 ^^^ m : Nat) : Int)) w w := ycoU' hx rfl hm
theorem ysl8' (c : Nat) (hx : look e x = some (.int .u8 (m : Int))) (hy : look e y = some (.int k' (c : Int))) (hc : c ≤ 8) : Y P e ⟨d, .binOp .shl t x y t', ty, pos, aft, g⟩ (.int .u8 (((m * 2 ^ c) % 256 : Nat) : Int)) w w := ybsU' c hx hy rfl hc
theorem ysl32' (c : Nat) (hx : look e x = some (.int .u32 (m : Int))) (hy : look e y = some (.int k' (c : Int))) (hc : c ≤ 32) : Y P e ⟨d, .binOp .shl t x y t', ty, pos, aft, g⟩ (.int .u32 (((m * 2 ^ c) % 4294967296 : Nat) : Int)) w w := ybsU' c hx hy rfl hc
theorem ysl64u' (c : Nat) (hx : look e x = some (.int .u64 (m : Int))) (hy : look e y = some (.int k' (c : Int))) (hc : c ≤ 64) : Y P e ⟨d, .binOp .shl t x y t', ty, pos, aft, g⟩ (.int .u64 (((m * 2 ^ c) % 18446744073709551616 : Nat) : Int)) w w := ybsU' c hx hy rfl hc
theorem ycv8' (hx : look e x = some (.int k (m : Int))) (hs : P.underlying t = some (.int k)) (hd : P.underlying t' = some (.int .u8)) : Y P e ⟨d, .convert t t' x, ty, pos, aft, g⟩ (.int .u8 ((m % 256 : Nat) : Int)) w w := ycvU' hx hs hd rfl
theorem ycv16' (hx : look e x = some (.int k (m : Int))) (hs : P.underlying t = some (.int k)) (hd : P.underlying t' = some (.int .u16)) : Y P e ⟨d, .convert t t' x, ty, pos, aft, g⟩ (.int .u16 ((m % 65536 : Nat) : Int)) w w := ycvU' hx hs hd rfl
theorem ycv32' (hx : look e x = some (.int k (m : Int))) (hs : P.underlying t = some (.int k)) (hd : P.underlying t' = some (.int .u32)) : Y P e ⟨d, .convert t t' x, ty, pos, aft, g⟩ (.int .u32 ((m % 4294967296 : Nat) : Int)) w w := ycvU' hx hs hd rfl
theorem ycv64' (hx : look e x = some (.int k (m : Int))) (hs : P.underlying t = some (.int k)) (hd : P.underlying t' = some (.int .u64)) : Y P e ⟨d, .convert t t' x, ty, pos, aft, g⟩ (.int .u64 ((m % 18446744073709551616 : Nat) : Int)) w w := ycvU' hx hs hd rfl
theorem ycvSi64 (hx : look e x = some (.int k a)) (hs : P.underlying t = some (.int k)) (hd : P.underlying t' = some (.int .i64)) (h : -9223372036854775808 ≤ a ∧ a ≤ 9223372036854775807) : Y P e ⟨d, .convert t t' x, ty, pos, aft, g⟩ (.int .i64 a) w w := ycvS hx hs hd h
theorem ycvSu64 (hx : look e x = some (.int k a)) (hs : P.underlying t = some (.int k)) (hd : P.underlying t' = some (.int .u64)) (h : 0 ≤ a ∧ a ≤ 18446744073709551615) : Y P e ⟨d, .convert t t' x, ty, pos, aft, g⟩ (.int .u64 a) w w := ycvS hx hs hd h
theorem ycvSu32 (hx : look e x = some (.int k a)) (hs : P.underlying t = some (.int k)) (hd : P.underlying t' = some (.int .u32)) (h : 0 ≤ a ∧ a ≤ 4294967295) : Y P e ⟨d, .convert t t' x, ty, pos, aft, g⟩ (.int .u32 a) w w := ycvS hx hs hd h
theorem ycvSi32 (hx : look e x = some (.int k a)) (hs : P.underlying t = some (.int k)) (hd : P.underlying t' = some (.int .i32)) (h : -2147483648 ≤ a ∧ a ≤ 2147483647) : Y P e ⟨d, .convert t t' x, ty, pos, aft, g⟩ (.int .i32 a) w w := ycvS hx hs hd h
theorem ycvSu16 (hx : look e x = some (.int k a)) (hs : P.underlying t = some (.int k)) (hd : P.underlying t' = some (.int .u16)) (h : 0 ≤ a ∧ a ≤ 65535) : Y P e ⟨d, .convert t t' x, ty, pos, aft, g⟩ (.int .u16 a) w w := ycvS hx hs hd h
/-- A byte stays what it is, in whatever kind but int8. -/
theorem ycvB {c : UInt8} (hx : look e x = some (.int .u8 (c.toNat : Int))) (hs : P.underlying t = some (.int .u8)) (hd : P.underlying t' = some (.int k')) (hk : 255 ≤ k'.max) : Y P e ⟨d, .convert t t' x, ty, pos, aft, g⟩ (.int k' (c.toNat : Int)) w w :=
  ycvS hx hs hd ⟨by have : k'.min ≤ 0 := by cases k' <;> decide
                    omega, by have := c.toNat_lt; omega⟩

-- .. of whatever integers that are natural numbers
section
variable {za zb : Int} [ha : NatC za m] [hb : NatC zb n]
theorem ysl (c p : Nat) (hx : look e x = some (I za)) (hy : look e y = some (.int k' (c : Int))) (hc : c ≤ 64) (hp : 2 ^ c = p) (h : m * p ≤ 9223372036854775807) : Y P e ⟨d, .binOp .shl t x y t', ty, pos, aft, g⟩ (I ((m * p : Nat) : Int)) w w := by
  obtain ⟨rfl⟩ := ha
  have := yslP (P := P) (d := d) (t := t) (t' := t') (ty := ty) (pos := pos) (aft := aft) (g := g) (w := w) c p hx hy hc hp ⟨by rw [← Int.natCast_mul]; omega, by rw [← Int.natCast_mul]; omega⟩
  rw [Int.natCast_mul]
  exact this
theorem ysrN (c p : Nat) (hx : look e x = some (.int k za)) (hy : look e y = some (.int k' (c : Int))) (hc : c ≤ k.bits) (hp : 2 ^ c = p) : Y P e ⟨d, .binOp .shr t x y t', ty, pos, aft, g⟩ (.int k ((m / p : Nat) : Int)) w w := by
  obtain ⟨rfl⟩ := ha; subst hp; exact ysrU' c hx hy hc
theorem ysl8 (c p : Nat) (hx : look e x = some (.int .u8 za)) (hy : look e y = some (.int k' (c : Int))) (hc : c ≤ 8) (hp : 2 ^ c = p) : Y P e ⟨d, .binOp .shl t x y t', ty, pos, aft, g⟩ (.int .u8 (((m * p) % 256 : Nat) : Int)) w w := by
  obtain ⟨rfl⟩ := ha; subst hp; exact ysl8' c hx hy hc
theorem ysl32 (c p : Nat) (hx : look e x = some (.int .u32 za)) (hy : look e y = some (.int k' (c : Int))) (hc : c ≤ 32) (hp : 2 ^ c = p) : Y P e ⟨d, .binOp .shl t x y t', ty, pos, aft, g⟩ (.int .u32 (((m * p) % 4294967296 : Nat) : Int)) w w := by
  obtain ⟨rfl⟩ := ha; subst hp; exact ysl32' c hx hy hc
theorem ysl64u (c p : Nat) (hx : look e x = some (.int .u64 za)) (hy : look e y = some (.int k' (c : Int))) (hc : c ≤ 64) (hp : 2 ^ c = p) : Y P e ⟨d, .binOp .shl t x y t', ty, pos, aft, g⟩ (.int .u64 (((m * p) % 18446744073709551616 : Nat) : Int)) w w := by
  obtain ⟨rfl⟩ := ha; subst hp; exact ysl64u' c hx hy hc
theorem yad8 (hx : look e x = some (.int .u8 za)) (hy : look e y = some (.int .u8 zb)) : Y P e ⟨d, .binOp .add t x y t', ty, pos, aft, g⟩ (.int .u8 (((m + n) % 256 : Nat) : Int)) w w := by obtain ⟨rfl⟩ := ha; obtain ⟨rfl⟩ := hb; exact yad8' hx hy
theorem yad32 (hx : look e x = some (.int .u32 za)) (hy : look e y = some (.int .u32 zb)) : Y P e ⟨d, .binOp .add t x y t', ty, pos, aft, g⟩ (.int .u32 (((m + n) % 4294967296 : Nat) : Int)) w w := by obtain ⟨rfl⟩ := ha; obtain ⟨rfl⟩ := hb; exact yad32' hx hy
theorem yad64 (hx : look e x = some (.int .u64 za)) (hy : look e y = some (.int .u64 zb)) : Y P e ⟨d, .binOp .add t x y t', ty, pos, aft, g⟩ (.int .u64 (((m + n) % 18446744073709551616 : Nat) : Int)) w w := by obtain ⟨rfl⟩ := ha; obtain ⟨rfl⟩ := hb; exact yad64' hx hy
theorem yan8 (hx : look e x = some (.int .u8 za)) (hy : look e y = some (.int .u8 zb)) (hm : m < 256) (hn : n < 256) : Y P e ⟨d, .binOp .and t x y t', ty, pos, aft, g⟩ (.int .u8 ((m &&& n : Nat) : Int)) w w := by obtain ⟨rfl⟩ := ha; obtain ⟨rfl⟩ := hb; exact yan8' hx hy hm hn
theorem yan32 (hx : look e x = some (.int .u32 za)) (hy : look e y = some (.int .u32 zb)) (hm : m < 4294967296) (hn : n < 4294967296) : Y P e ⟨d, .binOp .and t x y t', ty, pos, aft, g⟩ (.int .u32 ((m &&& n : Nat) : Int)) w w := by obtain ⟨rfl⟩ := ha; obtain ⟨rfl⟩ := hb; exact yan32' hx hy hm hn
theorem yan64u (hx : look e x = some (.int .u64 za)) (hy : look e y = some (.int .u64 zb)) (hm : m < 18446744073709551616) (hn : n < 18446744073709551616) : Y P e ⟨d, .binOp .and t x y t', ty, pos, aft, g⟩ (.int .u64 ((m &&& n : Nat) : Int)) w w := by obtain ⟨rfl⟩ := ha; obtain ⟨rfl⟩ := hb; exact yan64u' hx hy hm hn
theorem yor8 (hx : look e x = some (.int .u8 za)) (hy : look e y = some (.int .u8 zb)) (hm : m < 256) (hn : n < 256) : Y P e ⟨d, .binOp .or t x y t', ty, pos, aft, g⟩ (.int .u8 ((m ||| n : Nat) : Int)) w w := by obtain ⟨rfl⟩ := ha; obtain ⟨rfl⟩ := hb; exact yor8' hx hy hm hn
theorem yor32 (hx : look e x = some (.int .u32 za)) (hy : look e y = some (.int .u32 zb)) (hm : m < 4294967296) (hn : n < 4294967296) : Y P e ⟨d, .binOp .or t x y t', ty, pos, aft, g⟩ (.int .u32 ((m ||| n : Nat) : Int)) w w := by obtain ⟨rfl⟩ := ha; obtain ⟨rfl⟩ := hb; exact yor32' hx hy hm hn
theorem yor64u (hx : look e x = some (.int .u64 za)) (hy : look e y = some (.int .u64 zb)) (hm : m < 18446744073709551616) (hn : n < 18446744073709551616) : Y P e ⟨d, .binOp .or t x y t', ty, pos, aft, g⟩ (.int .u64 ((m ||| n : Nat) : Int)) w w := by obtain ⟨rfl⟩ := ha; obtain ⟨rfl⟩ := hb; exact yor64u' hx hy hm hn
theorem yxo8 (hx : look e x = some (.int .u8 za)) (hy : look e y = some (.int .u8 zb)) (hm : m < 256) (hn : n < 256) : Y P e ⟨d, .binOp .xor t x y t', ty, pos, aft, g⟩ (.int .u8 ((m ^^^ n : Nat) : Int)) w w := by obtain ⟨rfl⟩ := ha; obtain ⟨rfl⟩ := hb; exact yxo8' hx hy hm hn
theorem yxo32 (hx : look e x = some (.int .u32 za)) (hy : look e y = some (.int .u32 zb)) (hm : m < 4294967296) (hn : n < 4294967296) : Y P e ⟨d, .binOp .xor t x y t', ty, pos, aft, g⟩ (.int .u32 ((m ^^^ n : Nat) : Int)) w w := by obtain ⟨rfl⟩ := ha; obtain ⟨rfl⟩ := hb; exact yxo32' hx hy hm hn
theorem yxo64u (hx : look e x = some (.int .u64 za)) (hy : look e y = some (.int .u64 zb)) (hm : m < 18446744073709551616) (hn : n < 18446744073709551616) : Y P e ⟨d, .binOp .xor t x y t', ty, pos, aft, g⟩ (.int .u64 ((m ^^^ n : Nat) : Int)) w w := by obtain ⟨rfl⟩ := ha; obtain ⟨rfl⟩ := hb; exact yxo64u' hx hy hm hn
theorem yor64 (hx : look e x = some (I za)) (hy : look e y = some (I zb)) (hm : m ≤ 9223372036854775807) (hn : n ≤ 9223372036854775807) : Y P e ⟨d, .binOp .or t x y t', ty, pos, aft, g⟩ (I ((m ||| n : Nat) : Int)) w w := by obtain ⟨rfl⟩ := ha; obtain ⟨rfl⟩ := hb; exact yor64' hx hy (by omega) (by omega)
theorem yan64 (hx : look e x = some (I za)) (hy : look e y = some (I zb)) (hm : m ≤ 9223372036854775807) (hn : n ≤ 9223372036854775807) : Y P e ⟨d, .binOp .and t x y t', ty, pos, aft, g⟩ (I ((m &&& n : Nat) : Int)) w w := by obtain ⟨rfl⟩ := ha; obtain ⟨rfl⟩ := hb; exact yan64' hx hy (by omega) (by omega)
theorem yng32 (hx : look e x = some (.int .u32 za)) (hm : m < 4294967296) : Y P e ⟨d, .unOp .neg t x, ty, pos, aft, g⟩ (.int .u32 (((4294967296 - m) % 4294967296 : Nat) : Int)) w w := by obtain ⟨rfl⟩ := ha; exact yng32' hx hm
theorem yng64u (hx : look e x = some (.int .u64 za)) (hm : m < 18446744073709551616) : Y P e ⟨d, .unOp .neg t x, ty, pos, aft, g⟩ (.int .u64 (((18446744073709551616 - m) % 18446744073709551616 : Nat) : Int)) w w := by obtain ⟨rfl⟩ := ha; exact yng64u' hx hm
theorem yco32 (hx : look e x = some (.int .u32 za)) (hm : m < 4294967296) : Y P e ⟨d, .unOp .xor t x, ty, pos, aft, g⟩ (.int .u32 ((4294967295 ^^^ m : Nat) : Int)) w w := by obtain ⟨rfl⟩ := ha; exact yco32' hx hm
theorem yco64u (hx : look e x = some (.int .u64 za)) (hm : m < 18446744073709551616) : Y P e ⟨d, .unOp .xor t x, ty, pos, aft, g⟩ (.int .u64 ((18446744073709551615 ^^^ m : Nat) : Int)) w w := by obtain ⟨rfl⟩ := ha; exact yco64u' hx hm
theorem ycv8 (hx : look e x = some (.int k za)) (hs : P.underlying t = some (.int k)) (hd : P.underlying t' = some (.int .u8)) : Y P e ⟨d, .convert t t' x, ty, pos, aft, g⟩ (.int .u8 ((m % 256 : Nat) : Int)) w w := by obtain ⟨rfl⟩ := ha; exact ycv8' hx hs hd
theorem ycv16 (hx : look e x = some (.int k za)) (hs : P.underlying t = some (.int k)) (hd : P.underlying t' = some (.int .u16)) : Y P e ⟨d, .convert t t' x, ty, pos, aft, g⟩ (.int .u16 ((m % 65536 : Nat) : Int)) w w := by obtain ⟨rfl⟩ := ha; exact ycv16' hx hs hd
theorem ycv32 (hx : look e x = some (.int k za)) (hs : P.underlying t = some (.int k)) (hd : P.underlying t' = some (.int .u32)) : Y P e ⟨d, .convert t t' x, ty, pos, aft, g⟩ (.int .u32 ((m % 4294967296 : Nat) : Int)) w w := by obtain ⟨rfl⟩ := ha; exact ycv32' hx hs hd
theorem ycv64 (hx : look e x = some (.int k za)) (hs : P.underlying t = some (.int k)) (hd : P.underlying t' = some (.int .u64)) : Y P e ⟨d, .convert t t' x, ty, pos, aft, g⟩ (.int .u64 ((m % 18446744073709551616 : Nat) : Int)) w w := by obtain ⟨rfl⟩ := ha; exact ycv64' hx hs hd
theorem yixS (ht : P.underlying t = some .string) (hx : look e x = some (S l)) (hy : look e y = some (.int k za)) (hn : m < l.length) : Y P e ⟨d, .index t x y, ty, pos, aft, g⟩ (.int .u8 ((l.getD m 0).toNat : Int)) w w := by obtain ⟨rfl⟩ := ha; exact yixS' ht hx hy hn
theorem yslS {y' : Operand} (ht : P.underlying t = some .string) (hx : look e x = some (S l)) (hy : look e y = some (.int k za)) (hy' : look e y' = some (.int k' zb)) (h : m ≤ n ∧ n ≤ l.length) :
    Y P e ⟨d, .slice t x (some y) (some y') none, ty, pos, aft, g⟩ (S ((l.drop m).take (n - m))) w w := by obtain ⟨rfl⟩ := ha; obtain ⟨rfl⟩ := hb; exact yslS' ht hx hy hy' h
theorem yslSf (ht : P.underlying t = some .string) (hx : look e x = some (S l)) (hy : look e y = some (.int k za)) (h : m ≤ l.length) :
    Y P e ⟨d, .slice t x (some y) none none, ty, pos, aft, g⟩ (S (l.drop m)) w w := by obtain ⟨rfl⟩ := ha; exact yslSf' ht hx hy h
theorem yslSt (ht : P.underlying t = some .string) (hx : look e x = some (S l)) (hy : look e y = some (.int k za)) (h : m ≤ l.length) :
    Y P e ⟨d, .slice t x none (some y) none, ty, pos, aft, g⟩ (S (l.take m)) w w := by obtain ⟨rfl⟩ := ha; exact yslSt' ht hx hy h
end
theorem ycvSt (hx : look e x = some (S l)) (hs : P.underlying t = some .string) (hd : P.underlying t' = some .string) : Y P e ⟨d, .convert t t' x, ty, pos, aft, g⟩ (S l) w w := fun ρ hρ => by
  simp [execOp, hρ _ _ hx, convert, run_underlying hs, run_underlying hd]

end
end Go.Proofs.YtkgiammeeckfbaaGreat
