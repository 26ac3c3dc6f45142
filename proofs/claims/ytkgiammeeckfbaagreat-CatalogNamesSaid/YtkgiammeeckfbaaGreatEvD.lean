/- A reckoner for the kernel: what a function answers, reckoned from its text, over a memory whose blocks are numbered afresh. Definitions. It is of no program. -/
import Derived.Test.YtkgiammeeckfbaaGreatIter
namespace Go.Proofs.YtkgiammeeckfbaaGreat
open Go Go.RowKit
set_option linter.all false
noncomputable section

/-! ### Wide trees -/
structure Bx (α : Type) where
  f : α
structure Nd (α : Type) where
  a0 : α
  a1 : α
  a2 : α
  a3 : α
  a4 : α
  a5 : α
  a6 : α
  a7 : α
  a8 : α
  a9 : α
  a10 : α
  a11 : α
  a12 : α
  a13 : α
  a14 : α
  a15 : α
def sel {α : Type} (n : Nat) : Bx (Nd α → α) :=
  Nat.rec (motive := fun _ => Bx (Nd α → α)) ⟨fun e => e.a0⟩ (fun n _ =>
  Nat.rec (motive := fun _ => Bx (Nd α → α)) ⟨fun e => e.a1⟩ (fun n _ =>
  Nat.rec (motive := fun _ => Bx (Nd α → α)) ⟨fun e => e.a2⟩ (fun n _ =>
  Nat.rec (motive := fun _ => Bx (Nd α → α)) ⟨fun e => e.a3⟩ (fun n _ =>
  Nat.rec (motive := fun _ => Bx (Nd α → α)) ⟨fun e => e.a4⟩ (fun n _ =>
  Nat.rec (motive := fun _ => Bx (Nd α → α)) ⟨fun e => e.a5⟩ (fun n _ =>
  Nat.rec (motive := fun _ => Bx (Nd α → α)) ⟨fun e => e.a6⟩ (fun n _ =>
  Nat.rec (motive := fun _ => Bx (Nd α → α)) ⟨fun e => e.a7⟩ (fun n _ =>
  Nat.rec (motive := fun _ => Bx (Nd α → α)) ⟨fun e => e.a8⟩ (fun n _ =>
  Nat.rec (motive := fun _ => Bx (Nd α → α)) ⟨fun e => e.a9⟩ (fun n _ =>
  Nat.rec (motive := fun _ => Bx (Nd α → α)) ⟨fun e => e.a10⟩ (fun n _ =>
  Nat.rec (motive := fun _ => Bx (Nd α → α)) ⟨fun e => e.a11⟩ (fun n _ =>
  Nat.rec (motive := fun _ => Bx (Nd α → α)) ⟨fun e => e.a12⟩ (fun n _ =>
  Nat.rec (motive := fun _ => Bx (Nd α → α)) ⟨fun e => e.a13⟩ (fun n _ =>
  Nat.rec (motive := fun _ => Bx (Nd α → α)) ⟨fun e => e.a14⟩ (fun n _ =>
  ⟨fun e => e.a15⟩) n) n) n) n) n) n) n) n) n) n) n) n) n) n) n
def upd {α β : Type} (n : Nat) : Bx (Nd α → α → (Nd α → β) → β) :=
  Nat.rec (motive := fun _ => Bx (Nd α → α → (Nd α → β) → β)) ⟨fun e v c => Nd.rec (motive := fun _ => α → (Nd α → β) → β) (fun _ a1 a2 a3 a4 a5 a6 a7 a8 a9 a10 a11 a12 a13 a14 a15 v c => c ⟨v, a1, a2, a3, a4, a5, a6, a7, a8, a9, a10, a11, a12, a13, a14, a15⟩) e v c⟩ (fun n _ =>
  Nat.rec (motive := fun _ => Bx (Nd α → α → (Nd α → β) → β)) ⟨fun e v c => Nd.rec (motive := fun _ => α → (Nd α → β) → β) (fun a0 _ a2 a3 a4 a5 a6 a7 a8 a9 a10 a11 a12 a13 a14 a15 v c => c ⟨a0, v, a2, a3, a4, a5, a6, a7, a8, a9, a10, a11, a12, a13, a14, a15⟩) e v c⟩ (fun n _ =>
  Nat.rec (motive := fun _ => Bx (Nd α → α → (Nd α → β) → β)) ⟨fun e v c => Nd.rec (motive := fun _ => α → (Nd α → β) → β) (fun a0 a1 _ a3 a4 a5 a6 a7 a8 a9 a10 a11 a12 a13 a14 a15 v c => c ⟨a0, a1, v, a3, a4, a5, a6, a7, a8, a9, a10, a11, a12, a13, a14, a15⟩) e v c⟩ (fun n _ =>
  Nat.rec (motive := fun _ => Bx (Nd α → α → (Nd α → β) → β)) ⟨fun e v c => Nd.rec (motive := fun _ => α → (Nd α → β) → β) (fun a0 a1 a2 _ a4 a5 a6 a7 a8 a9 a10 a11 a12 a13 a14 a15 v c => c ⟨a0, a1, a2, v, a4, a5, a6, a7, a8, a9, a10, a11, a12, a13, a14, a15⟩) e v c⟩ (fun n _ =>
  Nat.rec (motive := fun _ => Bx (Nd α → α → (Nd α → β) → β)) ⟨fun e v c => Nd.rec (motive := fun _ => α → (Nd α → β) → β) (fun a0 a1 a2 a3 _ a5 a6 a7 a8 a9 a10 a11 a12 a13 a14 a15 v c => c ⟨a0, a1, a2, a3, v, a5, a6, a7, a8, a9, a10, a11, a12, a13, a14, a15⟩) e v c⟩ (fun n _ =>
  Nat.rec (motive := fun _ => Bx (Nd α → α → (Nd α → β) → β)) ⟨fun e v c => Nd.rec (motive := fun _ => α → (Nd α → β) → β) (fun a0 a1 a2 a3 a4 _ a6 a7 a8 a9 a10 a11 a12 a13 a14 a15 v c => c ⟨a0, a1, a2, a3, a4, v, a6, a7, a8, a9, a10, a11, a12, a13, a14, a15⟩) e v c⟩ (fun n _ =>
  Nat.rec (motive := fun _ => Bx (Nd α → α → (Nd α → β) → β)) ⟨fun e v c => Nd.rec (motive := fun _ => α → (Nd α → β) → β) (fun a0 a1 a2 a3 a4 a5 _ a7 a8 a9 a10 a11 a12 a13 a14 a15 v c => c ⟨a0, a1, a2, a3, a4, a5, v, a7, a8, a9, a10, a11, a12, a13, a14, a15⟩) e v c⟩ (fun n _ =>
  Nat.rec (motive := fun _ => Bx (Nd α → α → (Nd α → β) → β)) ⟨fun e v c => Nd.rec (motive := fun _ => α → (Nd α → β) → β) (fun a0 a1 a2 a3 a4 a5 a6 _ a8 a9 a10 a11 a12 a13 a14 a15 v c => c ⟨a0, a1, a2, a3, a4, a5, a6, v, a8, a9, a10, a11, a12, a13, a14, a15⟩) e v c⟩ (fun n _ =>
  Nat.rec (motive := fun _ => Bx (Nd α → α → (Nd α → β) → β)) ⟨fun e v c => Nd.rec (motive := fun _ => α → (Nd α → β) → β) (fun a0 a1 a2 a3 a4 a5 a6 a7 _ a9 a10 a11 a12 a13 a14 a15 v c => c ⟨a0, a1, a2, a3, a4, a5, a6, a7, v, a9, a10, a11, a12, a13, a14, a15⟩) e v c⟩ (fun n _ =>
  Nat.rec (motive := fun _ => Bx (Nd α → α → (Nd α → β) → β)) ⟨fun e v c => Nd.rec (motive := fun _ => α → (Nd α → β) → β) (fun a0 a1 a2 a3 a4 a5 a6 a7 a8 _ a10 a11 a12 a13 a14 a15 v c => c ⟨a0, a1, a2, a3, a4, a5, a6, a7, a8, v, a10, a11, a12, a13, a14, a15⟩) e v c⟩ (fun n _ =>
  Nat.rec (motive := fun _ => Bx (Nd α → α → (Nd α → β) → β)) ⟨fun e v c => Nd.rec (motive := fun _ => α → (Nd α → β) → β) (fun a0 a1 a2 a3 a4 a5 a6 a7 a8 a9 _ a11 a12 a13 a14 a15 v c => c ⟨a0, a1, a2, a3, a4, a5, a6, a7, a8, a9, v, a11, a12, a13, a14, a15⟩) e v c⟩ (fun n _ =>
  Nat.rec (motive := fun _ => Bx (Nd α → α → (Nd α → β) → β)) ⟨fun e v c => Nd.rec (motive := fun _ => α → (Nd α → β) → β) (fun a0 a1 a2 a3 a4 a5 a6 a7 a8 a9 a10 _ a12 a13 a14 a15 v c => c ⟨a0, a1, a2, a3, a4, a5, a6, a7, a8, a9, a10, v, a12, a13, a14, a15⟩) e v c⟩ (fun n _ =>
  Nat.rec (motive := fun _ => Bx (Nd α → α → (Nd α → β) → β)) ⟨fun e v c => Nd.rec (motive := fun _ => α → (Nd α → β) → β) (fun a0 a1 a2 a3 a4 a5 a6 a7 a8 a9 a10 a11 _ a13 a14 a15 v c => c ⟨a0, a1, a2, a3, a4, a5, a6, a7, a8, a9, a10, a11, v, a13, a14, a15⟩) e v c⟩ (fun n _ =>
  Nat.rec (motive := fun _ => Bx (Nd α → α → (Nd α → β) → β)) ⟨fun e v c => Nd.rec (motive := fun _ => α → (Nd α → β) → β) (fun a0 a1 a2 a3 a4 a5 a6 a7 a8 a9 a10 a11 a12 _ a14 a15 v c => c ⟨a0, a1, a2, a3, a4, a5, a6, a7, a8, a9, a10, a11, a12, v, a14, a15⟩) e v c⟩ (fun n _ =>
  Nat.rec (motive := fun _ => Bx (Nd α → α → (Nd α → β) → β)) ⟨fun e v c => Nd.rec (motive := fun _ => α → (Nd α → β) → β) (fun a0 a1 a2 a3 a4 a5 a6 a7 a8 a9 a10 a11 a12 a13 _ a15 v c => c ⟨a0, a1, a2, a3, a4, a5, a6, a7, a8, a9, a10, a11, a12, a13, v, a15⟩) e v c⟩ (fun n _ =>
  ⟨fun e v c => Nd.rec (motive := fun _ => α → (Nd α → β) → β) (fun a0 a1 a2 a3 a4 a5 a6 a7 a8 a9 a10 a11 a12 a13 a14 _ v c => c ⟨a0, a1, a2, a3, a4, a5, a6, a7, a8, a9, a10, a11, a12, a13, a14, v⟩) e v c⟩) n) n) n) n) n) n) n) n) n) n) n) n) n) n) n

/-- The numbers are reckoned out. -/
def fN {β : Type} (n : Nat) (c : Nat → β) : β := Nat.rec (motive := fun _ => β) (c 0) (fun m _ => c (Nat.succ m)) n
/-- A tree of d levels: 16 ^ d places. -/
@[reducible] def Tr (α : Type) (d : Nat) : Type := Nat.rec (motive := fun _ => Type) α (fun _ t => Nd t) d
def nd {α : Type} (a : α) : Nd α := ⟨a, a, a, a, a, a, a, a, a, a, a, a, a, a, a, a⟩
def trNew {α : Type} (a : α) (d : Nat) : Tr α d := Nat.rec (motive := fun d => Tr α d) a (fun _ t => nd t) d
def trB {α : Type} (z : α) (d : Nat) : Nat → Bx (Tr α d → α) :=
  Nat.rec (motive := fun d => Nat → Bx (Tr α d → α)) (fun i => Nat.rec (motive := fun _ => Bx (α → α)) ⟨fun t => t⟩ (fun _ _ => ⟨fun _ => z⟩) i) (fun d ih i => ⟨fun t => fN (Nat.mod i 16) fun k => fN (Nat.div i 16) fun j => (ih j).f ((sel k).f t)⟩) d
def trGet {α : Type} (z : α) (d i : Nat) (t : Tr α d) : α := (trB z d i).f t
def trSB (α β : Type) (d : Nat) : Nat → Bx (Tr α d → α → (Tr α d → β) → β) :=
  Nat.rec (motive := fun d => Nat → Bx (Tr α d → α → (Tr α d → β) → β)) (fun i => Nat.rec (motive := fun _ => Bx (α → α → (α → β) → β)) ⟨fun _ v c => c v⟩ (fun _ _ => ⟨fun t _ c => c t⟩) i)
    (fun d ih i => ⟨fun t v c => fN (Nat.mod i 16) fun k => fN (Nat.div i 16) fun j => (ih j).f ((sel k).f t) v (fun x => (upd k).f t x c)⟩) d
def trSet {α β : Type} (d i : Nat) (t : Tr α d) (v : α) (c : Tr α d → β) : β := (trSB α β d i).f t v c
/-- So many levels hold n places. -/
def lvls (n : Nat) : Nat := cond (Nat.ble n 1) 0 (cond (Nat.ble n 16) 1 (cond (Nat.ble n 256) 2 (cond (Nat.ble n 4096) 3 (cond (Nat.ble n 65536) 4 5))))

/-! ### Values -/
inductive NK where
  | ptr | sl | map | fn | ifc
inductive V where
  | int (k : IntKind) (n : Int)
  | bool (b : Bool)
  | str (n s : Nat)
  | ptr (b o : Nat)
  | sl (b off len kc es : Nat) (op : Bool)
  | es (b es : Nat)
  | map (b : Nat)
  | nil (k : NK)
  | fn (f : Nat) (first caps : List V)
  | yld (l : Nat)
  | ifc (t : Nat) (v : V)
  | mth (nm : String) (x : V)
  | agg (l : List V)
  | tup (l : List V)
  | und

def fI {β : Type} (z : Int) (c : Int → β) : β := Int.rec (motive := fun _ => β) (fun n => fN n fun n => c (.ofNat n)) (fun n => fN n fun n => c (.negSucc n)) z
def fB {β : Type} (b : Bool) (c : Bool → β) : β := Bool.rec (motive := fun _ => β) (c false) (c true) b
/-- A list's elements are reckoned out, one after another. -/
def fL {α β : Type} (l : List α) (c : List α → β) : β := List.rec (motive := fun _ => (List α → β) → β) (fun c => c []) (fun a _ ih c => ih fun r => c (a :: r)) l c

/-- The bytes of a text that is packed into a number. -/
def unp (n : Nat) : Nat → List UInt8 := Nat.rec (motive := fun _ => Nat → List UInt8) (fun _ => []) (fun _ ih s => UInt8.ofNat (s % 256) :: ih (s / 256)) n
def pak : List UInt8 → Nat := fun l => List.rec (motive := fun _ => Nat) 0 (fun a _ ih => Nat.add a.toNat (Nat.mul 256 ih)) l

def ofV : Value → V
  | .bool b => .bool b
  | .int k n => .int k n
  | .string s => .str s.size (pak s.data.toList)
  | .pointer none => .nil .ptr
  | .slice none 0 0 => .nil .sl
  | .map none => .nil .map
  | .nilFunc => .nil .fn
  | .nilIface => .nil .ifc
  | _ => .und
/-- A value's cells. -/
def cellsOf (v : V) : List V := match v with
  | .agg l => l
  | v => [v]
def zeroB : Value → List V
  | .agg cs => cs.toList.map ofV
  | v => [ofV v]

def zV : Value → V
  | .agg cs => .agg (cs.toList.map ofV)
  | v => ofV v

/-! ### Memory -/
inductive B where
  | cells (n d : Nat) (t : Tr V d) (ty : TypeId) (st : Bool)
  | ro (l : List V)
  | map (es : List (V × V × Nat)) (clock : Nat)
  | loop (st : LoopState) (pend : Option Code) (f ed : Nat) (E : Tr V ed) (n : Nat) (ps : List Tmp) (assign body : Code)
  | dfr
  | shut
  | miter (m : Nat) (since : Nat) (seen : List Nat) (last : Nat)
  | siter (n s pos : Nat)
  | byt (n s : Nat) (ty : TypeId) (st : Bool)
  /-- A map whose entries' order is not known, nor their stamps. -/
  | umap (es : List (V × V))
abbrev HD : Nat := 4
structure H where
  t : Tr (Option B) HD
  next : Nat

def hGet (h : H) (b : Nat) : Option B := trGet none HD b h.t
def vGet (d i : Nat) (t : Tr V d) : V := trGet .und d i t
def hSet {β : Type} (h : H) (b : Nat) (x : Option B) (c : H → β) : β := H.rec (motive := fun _ => β) (fun t n => trSet HD b t x fun t' => c ⟨t', n⟩) h
def hNew {β : Type} (h : H) (x : B) (c : Nat → H → β) : β := H.rec (motive := fun _ => β) (fun t n => trSet HD n t (some x) fun t' => fN (Nat.succ n) fun n' => c n ⟨t', n'⟩) h

/-! ### Types -/
def tsz (P : Program) (t : TypeId) : Nat := match P.info? t with | some i => i.size | none => 0
def tbytes (P : Program) (t : TypeId) : Nat := match P.info? t with | some i => i.bytes | none => 0
def tzero (P : Program) (t : TypeId) : Option (List V) := match P.info? t with | some i => i.zero.map zeroB | none => none
def tzv (P : Program) (t : TypeId) : Option V := match P.info? t with | some i => i.zero.map zV | none => none
def tagg (P : Program) (t : TypeId) : Option Bool := (P.underlying t).map aggOf
/-- A field: where it lies, its size, is it a struct or an array. -/
def tfld (P : Program) (t i : Nat) : Option (Nat × Nat × Bool) := match P.underlying t with
  | some (.struct fs) => match fs[i]? with
    | some f => match tagg P f.type with
      | some a => some (f.offset, tsz P f.type, a)
      | none => none
    | none => none
  | _ => none
inductive R where
  | v (x : V) (h : H)
  | eff (h : H)
  | call (f : Nat) (args : List V)
  | yld (l : Nat) (args : List V)
  | dfr (f : Nat) (cap args : List V)
  | bad (n : Nat)

/-! ### Numbers -/
def inR (k : IntKind) (z : Int) : Bool := match k with
  | .i64 => Int.rec (motive := fun _ => Bool) (fun n => Nat.ble n 9223372036854775807) (fun n => Nat.ble n 9223372036854775807) z
  | .u64 => Int.rec (motive := fun _ => Bool) (fun n => Nat.ble n 18446744073709551615) (fun _ => false) z
  | .u32 => Int.rec (motive := fun _ => Bool) (fun n => Nat.ble n 4294967295) (fun _ => false) z
  | .u8 => Int.rec (motive := fun _ => Bool) (fun n => Nat.ble n 255) (fun _ => false) z
  | _ => false
def wrp (k : IntKind) (z : Int) : Int := cond (inR k z) z (k.wrap z)
def ile (a b : Int) : Bool := Int.rec (motive := fun _ => Bool) (fun m => Int.rec (motive := fun _ => Bool) (fun n => Nat.ble m n) (fun _ => false) b) (fun m => Int.rec (motive := fun _ => Bool) (fun _ => true) (fun n => Nat.ble n m) b) a
def ieq (a b : Int) : Bool := Int.rec (motive := fun _ => Bool) (fun m => Int.rec (motive := fun _ => Bool) (fun n => Nat.beq m n) (fun _ => false) b) (fun m => Int.rec (motive := fun _ => Bool) (fun _ => false) (fun n => Nat.beq m n) b) a
def keq (a b : IntKind) : Bool := match a, b with
  | .i8, .i8 | .i16, .i16 | .i32, .i32 | .i64, .i64 | .u8, .u8 | .u16, .u16 | .u32, .u32 | .u64, .u64 => true
  | _, _ => false
/-- A number that is not negative. -/
def nat? {β : Type} (z : Int) (c : Nat → β) (no : β) : β := Int.rec (motive := fun _ => β) (fun n => c n) (fun _ => no) z

def rInt (h : H) (k : IntKind) (z : Int) : R := fI z fun z => .v (.int k z) h
def rBool (h : H) (b : Bool) : R := Bool.rec (motive := fun _ => R) (.v (.bool false) h) (.v (.bool true) h) b
def rStr (h : H) (n s : Nat) : R := fN n fun n => fN s fun s => .v (.str n s) h
/-- A number of a kind, as one that is not below nought. -/
def unN (k : IntKind) (z : Int) : Nat := Int.rec (motive := fun _ => Nat) (fun n => Nat.mod n (Nat.pow 2 k.bits)) (fun n => Nat.sub (Nat.sub (Nat.pow 2 k.bits) 1) (Nat.mod n (Nat.pow 2 k.bits))) z
/-- Bits of numbers, some of which are below nought. -/
def bitS (h : H) (k : IntKind) (f : Nat → Nat → Nat) (a b : Int) : R := rInt h k (wrp k (.ofNat (f (unN k a) (unN k b))))
/-- Two numbers of one kind. -/
def binInt (h : H) (op : BinOp) (k : IntKind) (a b : Int) : R := match op with
  | .add => rInt h k (wrp k (Int.add a b))
  | .sub => rInt h k (wrp k (Int.sub a b))
  | .mul => rInt h k (wrp k (Int.mul a b))
  | .quo => cond (ieq b 0) (.bad 1) (rInt h k (wrp k (Int.tdiv a b)))
  | .rem => cond (ieq b 0) (.bad 2) (rInt h k (Int.tmod a b))
  | .and => nat? a (fun m => nat? b (fun n => cond (and (inR k a) (inR k b)) (rInt h k (.ofNat (Nat.land m n))) (.bad 3)) (bitS h k Nat.land a b)) (bitS h k Nat.land a b)
  | .or => nat? a (fun m => nat? b (fun n => cond (and (inR k a) (inR k b)) (rInt h k (.ofNat (Nat.lor m n))) (.bad 3)) (bitS h k Nat.lor a b)) (bitS h k Nat.lor a b)
  | .xor => nat? a (fun m => nat? b (fun n => cond (and (inR k a) (inR k b)) (rInt h k (.ofNat (Nat.xor m n))) (.bad 3)) (bitS h k Nat.xor a b)) (bitS h k Nat.xor a b)
  | .andNot => bitS h k (fun x y => Nat.land x (Nat.sub (Nat.sub (Nat.pow 2 k.bits) 1) y)) a b
  | .eql => rBool h (ieq a b)
  | .neq => rBool h (not (ieq a b))
  | .lss => rBool h (not (ile b a))
  | .leq => rBool h (ile a b)
  | .gtr => rBool h (not (ile a b))
  | .geq => rBool h (ile b a)
  | _ => .bad 4
/-- A number below nought is shifted. -/
def shNeg (h : H) (op : BinOp) (k : IntKind) (a : Int) (n : Nat) : R := match op with
  | .shl => rInt h k (wrp k (Int.mul a (.ofNat (Nat.pow 2 (Nat.min n k.bits)))))
  | .shr => rInt h k (Int.fdiv a (.ofNat (Nat.pow 2 (Nat.min n k.bits))))
  | _ => .bad 5
def shInt (h : H) (op : BinOp) (k : IntKind) (a b : Int) : R := nat? b (fun n => nat? a (fun m => match op with
  | .shl => rInt h k (wrp k (.ofNat (Nat.mul m (Nat.pow 2 (Nat.min n k.bits)))))
  | .shr => rInt h k (.ofNat (Nat.div m (Nat.pow 2 (Nat.min n k.bits))))
  | _ => .bad 5) (shNeg h op k a n)) (.bad 7)
def binStr (h : H) (op : BinOp) (n s m t : Nat) : R := match op with
  | .add => cond (Nat.ble (Nat.add n m) 9223372036854775807) (rStr h (Nat.add n m) (Nat.add s (Nat.mul t (Nat.pow 256 n)))) (.bad 8)
  | .eql => rBool h (and (Nat.beq n m) (Nat.beq s t))
  | .neq => rBool h (not (and (Nat.beq n m) (Nat.beq s t)))
  | .lss => rBool h (Op.bytesLess (unp n s) (unp m t))
  | .geq => rBool h (not (Op.bytesLess (unp n s) (unp m t)))
  | _ => .bad 9
def beqB (a b : Bool) : Bool := Bool.rec (motive := fun _ => Bool) (not b) b a
/-- Are two values of a type that is no struct and no array equal? -/
def eq1 (P : Program) (h : H) (t : TypeId) (a b : V) : Option Bool := match P.underlying t with
  | some .bool => match a, b with
    | .bool a, .bool b => some (beqB a b)
    | _, _ => none
  | some (.int _) => match a, b with
    | .int k a, .int k' b => cond (keq k k') (some (ieq a b)) none
    | _, _ => none
  | some .string => match a, b with
    | .str n s, .str m t => some (and (Nat.beq n m) (Nat.beq s t))
    | _, _ => none
  | some (.pointer e) => match a, b with
    | .nil .ptr, .nil .ptr => some true
    | .nil .ptr, .ptr _ _ => some false
    | .ptr _ _, .nil .ptr => some false
    | .ptr b o, .ptr b' o' => match hGet h b, hGet h b' with
      | some (.cells _ _ _ _ false), some (.cells _ _ _ _ false) => cond (Nat.blt 0 (tsz P e)) (some (and (Nat.beq b b') (Nat.beq o o'))) none
      | _, _ => none
    | _, _ => none
  | some (.slice _) => match a, b with
    | .nil .sl, .nil .sl => some true
    | .nil .sl, .sl _ _ _ _ _ _ | .nil .sl, .es _ _ | .sl _ _ _ _ _ _, .nil .sl | .es _ _, .nil .sl => some false
    | _, _ => none
  | some (.map _ _) => match a, b with
    | .nil .map, .nil .map => some true
    | .nil .map, .map _ | .map _, .nil .map => some false
    | _, _ => none
  | some (.func _ _ _) => match a, b with
    | .nil .fn, .nil .fn => some true
    | .nil .fn, .fn _ _ _ | .nil .fn, .yld _ | .fn _ _ _, .nil .fn | .yld _, .nil .fn => some false
    | _, _ => none
  | some (.interface ms) => match a, b with
    | .nil .ifc, .nil .ifc => cond ms.isEmpty (some true) none
    | .nil .ifc, .ifc _ _ | .ifc _ _, .nil .ifc => some false
    | _, _ => none
  | _ => none
/-- A part of a struct. -/
def partV (P : Program) (f : Field) (l : List V) : Option V := match tagg P f.type with
  | some true => some (.agg ((l.drop f.offset).take (tsz P f.type)))
  | some false => l[f.offset]?
  | none => none
def eqT (P : Program) (h : H) (n : Nat) : TypeId → V → V → Option Bool :=
  Nat.rec (motive := fun _ => TypeId → V → V → Option Bool) (fun _ _ _ => none) (fun _ ih t a b => match a, b with
    | .agg l, .agg m => match P.underlying t with
      | some (.struct fs) => cond (P.stoodInHeld t) none
        (List.rec (motive := fun _ => Option Bool) (some true) (fun f _ rest => cond (f.name == "_") rest (match partV P f l, partV P f m with
          | some x, some y => match ih f.type x y with
            | some true => rest
            | some false => some false
            | none => none
          | _, _ => none)) fs.toList)
      | _ => none
    | a, b => eq1 P h t a b) n
/-- Comparing values of this type asks nothing of interfaces. -/
def gOk (P : Program) (t : TypeId) (a : V) : Bool := match a with
  | .agg _ => not (P.eqGuardType P.depth t)
  | _ => true
def rOB (h : H) (n : Nat) : Option Bool → R
  | some b => rBool h b
  | none => .bad n
def bin (P : Program) (h : H) (op : BinOp) (t : TypeId) (a b : V) : R := match a, b with
  | .int k a, .int k' b => match op with
    | .shl | .shr => shInt h op k a b
    | _ => cond (keq k k') (binInt h op k a b) (.bad 10)
  | .str n s, .str m t => binStr h op n s m t
  | a, b => match op with
    | .eql => cond (gOk P t a) (rOB h 11 (eqT P h 8 t a b)) (.bad 11)
    | .neq => cond (gOk P t a) (rOB h 12 ((eqT P h 8 t a b).map not)) (.bad 12)
    | _ => .bad 13
def un (h : H) (op : UnOp) (a : V) : R := match op, a with
  | .not, .bool b => rBool h (not b)
  | .neg, .int k n => rInt h k (wrp k (Int.neg n))
  | .xor, .int k n => cond k.signed (.bad 14) (nat? n (fun m => cond (inR k n) (rInt h k (.ofNat (Nat.xor (Nat.sub (Nat.pow 2 k.bits) 1) m))) (.bad 15)) (.bad 15))
  | _, _ => .bad 16

/-! ### Cells -/
/-- So many cells from o on. -/
def rdK {β : Type} (n : Nat) (d : Nat) (t : Tr V d) (o : Nat) (c : List V → β) : β :=
  Nat.rec (motive := fun _ => Nat → (List V → β) → β) (fun _ c => c []) (fun _ ih o c => ih (Nat.succ o) fun l => c (vGet d o t :: l)) n o c
def wrK {β : Type} (l : List V) (d : Nat) (t : Tr V d) (o : Nat) (c : Tr V d → β) : β :=
  List.rec (motive := fun _ => Tr V d → Nat → (Tr V d → β) → β) (fun t _ c => c t) (fun v _ ih t o c => trSet d o t v fun t => fN (Nat.succ o) fun o => ih t o c) l t o c
def one (v : V) : Bool := match v with | .agg _ | .tup _ | .und => false | _ => true
def ones (l : List V) : Bool := List.rec (motive := fun _ => Bool) true (fun v _ ih => and (one v) ih) l
/-- A new block of these cells. -/
def newCells {β : Type} (h : H) (l : List V) (ty : TypeId) (st : Bool) (c : Nat → H → β) : β :=
  fN (List.length l) fun n => fN (lvls n) fun d => wrK l d (trNew .und d) 0 fun t => hNew h (.cells n d t ty st) c
def fV {β : Type} (v : V) (c : V → β) : β := match v with
  | .int k n => c (.int k n)
  | .bool b => c (.bool b)
  | .str n s => c (.str n s)
  | .ptr b o => c (.ptr b o)
  | .sl b o l k e p => c (.sl b o l k e p)
  | .es b e => c (.es b e)
  | .map b => c (.map b)
  | .nil k => c (.nil k)
  | .fn f p q => c (.fn f p q)
  | .yld l => c (.yld l)
  | .ifc t v => c (.ifc t v)
  | .mth a x => c (.mth a x)
  | .agg l => c (.agg l)
  | .tup l => c (.tup l)
  | .und => c .und
def rV (h : H) (n : Nat) (v : V) : R := match v with
  | .und => .bad n
  | v => fV v fun v => .v v h
def loadV (P : Program) (h : H) (t : TypeId) (a : V) : R := match a with
  | .ptr b o => match hGet h b with
    | some (.cells n d tr _ _) => match tagg P t with
      | some false => cond (Nat.blt o n) (rV h 17 (vGet d o tr)) (.bad 18)
      | some true => cond (Nat.ble (Nat.add o (tsz P t)) n) (rdK (tsz P t) d tr o fun l => .v (.agg l) h) (.bad 19)
      | none => .bad 20
    | some (.ro l) => match tagg P t with
      | some false => match l[o]? with
        | some v => rV h 17 v
        | none => .bad 18
      | some true => cond (Nat.ble (Nat.add o (tsz P t)) l.length) (fL ((l.drop o).take (tsz P t)) fun l => .v (.agg l) h) (.bad 19)
      | none => .bad 20
    | _ => .bad 21
  | _ => .bad 22
def storeV (P : Program) (h : H) (t : TypeId) (a v : V) : R := match a with
  | .ptr b o => match hGet h b with
    | some (.cells n d tr ty st) => fL (cellsOf v) fun l => cond (and (Nat.blt 0 (tsz P t)) (and (and (Nat.beq l.length (tsz P t)) (ones l)) (Nat.ble (Nat.add o l.length) n)))
        (wrK l d tr o fun tr => hSet h b (some (.cells n d tr ty st)) fun h => .eff h) (.bad 23)
    | _ => .bad 24
  | _ => .bad 25
/-- A block of these cells. -/
def newB {β : Type} (l : List V) (ty : TypeId) (st : Bool) (c : B → β) : β := fN (List.length l) fun n => fN (lvls n) fun d => wrK l d (trNew .und d) 0 fun t => c (.cells n d t ty st)
/-- What an operation makes: a block, and by its number a value. -/
abbrev Nw := Option (B × (Nat → V))
def allocN (P : Program) (t : TypeId) : Nw := match tzero P t with
  | some l => fL l fun l => cond (ones l) (newB l t false fun x => some (x, fun b => .ptr b 0)) none
  | none => none
def boxN (t : TypeId) (v : V) : Nw := fL (cellsOf v) fun l => cond (ones l) (newB l t false fun x => some (x, fun b => .ptr b 0)) none
/-- Parts are laid over cells. -/
def lay (l : List V) (o : Nat) (new : List V) : List V := l.take o ++ new ++ l.drop (o + new.length)
def fillV (pl : Nat → Option (Nat × Nat)) (l : List V) : List (Nat × V) → Option (List V)
  | [] => some l
  | (i, v) :: r => match pl i with
    | none => none
    | some (o, s) => cond (and (Nat.beq (cellsOf v).length s) (Nat.ble (Nat.add o s) l.length)) (fillV pl (lay l o (cellsOf v)) r) none
/-- Operands that are known. -/
def knownK {β : Type} (ρ : Operand → V) (l : List Operand) (c : List V → β) (no : β) : β := List.rec (motive := fun _ => (List V → β) → β) (fun c => c []) (fun x _ ih c => match ρ x with
  | .und => no
  | v => fV v fun v => ih fun r => c (v :: r)) l c
def partsK {β : Type} (ρ : Operand → V) (l : List (Nat × Operand)) (c : List (Nat × V) → β) (no : β) : β := List.rec (motive := fun _ => (List (Nat × V) → β) → β) (fun c => c []) (fun p _ ih c => match ρ p.2 with
  | .und => no
  | v => fV v fun v => ih fun r => c ((p.1, v) :: r)) l c
/-- All fields' types are known. -/
def fldsOk (P : Program) (l : List Field) : Bool := List.rec (motive := fun _ => Bool) true (fun f _ ih => and (tagg P f.type).isSome ih) l
def buildV (P : Program) (h : H) (t : TypeId) (ps : List (Nat × V)) : R := match tzero P t with
  | some z => match P.underlying t with
    | some (.struct fs) => cond (fldsOk P fs.toList) (match fillV (fun i => (tfld P t i).map fun f => (f.1, f.2.1)) z ps with
      | some l => fL l fun l => cond (and (ones z) (ones l)) (.v (.agg l) h) (.bad 29)
      | none => .bad 30) (.bad 30)
    | some (.array _ e) => match fillV (fun i => some (i * tsz P e, tsz P e)) z ps with
      | some l => fL l fun l => cond (and (Nat.blt 0 (tsz P e)) (and (ones z) (ones l))) (.v (.agg l) h) (.bad 31)
      | none => .bad 32
    | _ => .bad 33
  | none => .bad 34
def repl (l : List V) (n : Nat) : List V := Nat.rec (motive := fun _ => List V) [] (fun _ ih => l ++ ih) n
def buildSlN (P : Program) (t : TypeId) (len : Nat) (ps : List (Nat × V)) : Nw := match P.underlying t with
  | some (.slice e) => match tzero P e with
    | some z => cond (and (ones z) (and (Nat.beq z.length (tsz P e)) (Nat.ble (Nat.mul len (tsz P e)) 16777216))) (match fillV (fun i => some (i * tsz P e, tsz P e)) (repl z len) ps with
      | some l => fL l fun l => cond (ones l) (newB l e false fun x => fN (tsz P e) fun s => some (x, fun b => .sl b 0 len len s false)) none
      | none => none) none
    | none => none
  | _ => none
def makeSlN (P : Program) (t : TypeId) (l c : V) : Nw := match l, c with
  | .int _ l, .int _ c => nat? l (fun l => nat? c (fun c => match P.underlying t with
    | some (.slice e) => match tzero P e with
      | some z => cond (and (Nat.beq z.length (tsz P e)) (and (Nat.ble l c) (and (Nat.ble c 1073741824) (Nat.ble (Nat.mul (tbytes P e) c) 281474976710656)))) (fL (repl z c) fun cs => cond (ones cs) (newB cs e false fun x => fN (tsz P e) fun s => some (x, fun b => .sl b 0 l c s false)) none) none
      | none => none
    | _ => none) none) none
  | _, _ => none
def nwR (h : H) (n : Nat) : Nw → R
  | some (x, mk) => hNew h x fun b h => .v (mk b) h
  | none => .bad n
def fldAddr (P : Program) (h : H) (t : TypeId) (x : V) (i : Nat) : R := match x with
  | .ptr b o => match tfld P t i with
    | some (off, s, _) => cond (Nat.blt 0 s) (fN (Nat.add o off) fun o => .v (.ptr b o) h) (.bad 47)
    | none => .bad 48
  | _ => .bad 49
def fldV (P : Program) (h : H) (t : TypeId) (x : V) (i : Nat) : R := match x with
  | .agg l => match tfld P t i with
    | some (off, s, false) => match l[off]? with
      | some v => rV h 50 v
      | none => .bad 51
    | some (off, s, true) => fL ((l.drop off).take s) fun l => .v (.agg l) h
    | none => .bad 52
  | _ => .bad 53
def ixAddr (P : Program) (h : H) (t : TypeId) (x i : V) : R := match i with
  | .int _ z => nat? z (fun i => match x with
    | .ptr b o => match P.underlying t with
      | some (.array n e) => cond (and (Nat.blt i n) (Nat.blt 0 (tsz P e))) (fN (Nat.add o (Nat.mul i (tsz P e))) fun o => .v (.ptr b o) h) (.bad 54)
      | _ => .bad 55
    | .sl b o len _ es _ => match P.underlying t with
      | some (.slice e) => cond (and (Nat.blt i len) (and (Nat.blt 0 es) (Nat.beq es (tsz P e)))) (fN (Nat.add o (Nat.mul i es)) fun o => .v (.ptr b o) h) (.bad 56)
      | _ => .bad 57
    | _ => .bad 58) (.bad 59)
  | _ => .bad 60
def ixV (P : Program) (h : H) (t : TypeId) (x i : V) : R := match i with
  | .int _ z => nat? z (fun i => match x with
    | .str n s => match P.underlying t with
      | some .string => cond (Nat.blt i n) (rInt h .u8 (.ofNat (Nat.mod (Nat.div s (Nat.pow 256 i)) 256))) (.bad 61)
      | _ => .bad 61
    | .agg l => match P.underlying t with
      | some (.array n e) => match tagg P e with
        | some false => cond (and (Nat.blt i n) (Nat.beq (tsz P e) 1)) (match l[i]? with | some v => rV h 62 v | none => .bad 63) (.bad 64)
        | some true => cond (Nat.blt i n) (fL ((l.drop (Nat.mul i (tsz P e))).take (tsz P e)) fun l => .v (.agg l) h) (.bad 65)
        | none => .bad 65
      | _ => .bad 66
    | _ => .bad 67) (.bad 68)
  | _ => .bad 69
/-- A bound: a number, or what stands in its place. -/
def bnd (v : Option V) (dflt : Nat) : Option Nat := match v with
  | none => some dflt
  | some (.int _ z) => nat? z some none
  | _ => none
def slV (P : Program) (h : H) (t : TypeId) (x : V) (lo hi mx : Option V) : R := match x with
  | .str n s => match P.underlying t, mx, bnd lo 0, bnd hi n with
    | some .string, none, some l, some r => cond (and (Nat.ble l r) (Nat.ble r n)) (rStr h (Nat.sub r l) (Nat.mod (Nat.div s (Nat.pow 256 l)) (Nat.pow 256 (Nat.sub r l)))) (.bad 70)
    | _, _, _, _ => .bad 71
  | .ptr b o => match P.underlying t, mx, hGet h b with
    | some (.array n e), none, some (.cells nb _ _ _ _) => match bnd lo 0, bnd hi n with
      | some l, some r => cond (and (and (Nat.ble l r) (Nat.ble r n)) (and (Nat.blt l n) (and (Nat.blt 0 (tsz P e)) (Nat.ble (Nat.add o (Nat.mul n (tsz P e))) nb)))) (fN (Nat.add o (Nat.mul l (tsz P e))) fun o => fN (Nat.sub r l) fun len => fN (Nat.sub n l) fun c => fN (tsz P e) fun es => .v (.sl b o len c es false) h) (.bad 72)
      | _, _ => .bad 73
    | _, _, _ => .bad 74
  | .sl b o len kc es op => match P.underlying t with
    | some (.slice e) => cond (and (Nat.blt 0 es) (Nat.beq es (tsz P e))) (match mx with
      | none => match bnd lo 0, bnd hi len with
        | some l, some r => cond (and (Nat.ble l r) (Nat.ble r kc)) (cond (Nat.beq l kc) (cond op (.v (.es b es) h) (.v (.sl b o 0 0 es false) h)) (fN (Nat.add o (Nat.mul l es)) fun o => fN (Nat.sub r l) fun len => fN (Nat.sub kc l) fun kc => .v (.sl b o len kc es op) h)) (.bad 76)
        | _, _ => .bad 77
      | some m => match hi with
        | some hi => match bnd lo 0, bnd (some hi) 0, bnd (some m) 0 with
          | some l, some r, some m => cond (and (and (Nat.ble l r) (Nat.ble r m)) (and (Nat.ble m kc) (Nat.blt l m))) (fN (Nat.add o (Nat.mul l es)) fun o => fN (Nat.sub r l) fun len => fN (Nat.sub m l) fun kc => .v (.sl b o len kc es false) h) (.bad 78)
          | _, _, _ => .bad 79
        | none => .bad 79) (.bad 75)
    | _ => .bad 75
  | .es b es => match P.underlying t, bnd lo 0, bnd hi 0, mx with
    | some (.slice e), some 0, some 0, none => cond (Nat.blt 0 (tsz P e)) (.v (.es b es) h) (.bad 80)
    | _, _, _, _ => .bad 80
  | .nil .sl => match P.underlying t, bnd lo 0, bnd hi 0, mx with
    | some (.slice e), some 0, some 0, none => cond (Nat.blt 0 (tsz P e)) (.v (.nil .sl) h) (.bad 80)
    | _, _, _, _ => .bad 80
  | _ => .bad 81
/-- The cells of a slice, or of a text. -/
def elems {β : Type} (P : Program) (h : H) (v : V) (es : Nat) (c : Nat → List V → β) (no : β) : β := match v with
  | .nil .sl => c 0 []
  | .es _ _ => c 0 []
  | .sl b o len _ es' _ => match hGet h b with
    | some (.cells n d tr _ _) => cond (and (Nat.beq es es') (Nat.ble (Nat.add o (Nat.mul len es)) n)) (rdK (Nat.mul len es) d tr o fun l => c len l) no
    | _ => no
  | .str n s => cond (Nat.beq es 1) (fL ((unp n s).map fun b => .int .u8 (.ofNat b.toNat)) fun l => c n l) no
  | _ => no
def grow (h : H) (l : List V) (n es : Nat) (e : TypeId) : R := cond (ones l) (newCells h l e true fun b h => .v (.sl b 0 n n es true) h) (.bad 82)
def zOk (P : Program) (e es : Nat) : Bool := match tzero P e with
  | some z => Nat.beq z.length es
  | none => false
def srcOk (P : Program) (t : TypeId) (y : V) (es : Nat) : Bool := match P.underlying t, y with
  | some (.slice _), .sl _ _ _ _ _ _ | some (.slice _), .es _ _ | some (.slice _), .nil .sl => true
  | some .string, .str _ _ => Nat.beq es 1
  | _, _ => false
/-- m elements, these cells, behind the others. -/
def appC (P : Program) (h : H) (e es : Nat) (x : V) (m : Nat) (new : List V) : R := cond (ones new) (match x with
    | .nil .sl => cond (Nat.beq m 0) (.v (.nil .sl) h) (cond (Nat.ble m 1073741824) (grow h new m es e) (.bad 83))
    | .es b es' => cond (and (Nat.beq es es') (Nat.ble m 1073741824)) (cond (Nat.beq m 0) (.v (.es b es) h) (match hGet h b with
      | some (.cells _ _ _ ty _) => cond (Nat.beq ty e) (hSet h b none fun h => grow h new m es e) (.bad 249)
      | _ => .bad 84)) (.bad 83)
    | .sl b o len kc es' op => match hGet h b with
      | some (.cells n d tr ty st) => fN (Nat.add len m) fun need => cond (and (Nat.beq es es') (Nat.ble (Nat.add o (Nat.mul len es)) n)) (cond (Nat.ble need kc)
        (cond (Nat.ble (Nat.add o (Nat.mul need es)) n) (wrK new d tr (Nat.add o (Nat.mul len es)) fun tr => hSet h b (some (.cells n d tr ty st)) fun h => .v (.sl b o need kc es op) h) (.bad 84))
        (cond (Nat.ble need 1073741824) (rdK (Nat.mul len es) d tr o fun old => cond op
            (cond (Nat.beq ty e) (hSet h b none fun h => grow h (old ++ new) need es e) (.bad 249))
            (grow h (old ++ new) need es e)) (.bad 87))) (.bad 86)
      | _ => .bad 85
    | _ => .bad 88) (.bad 89)
def appV (P : Program) (h : H) (t t' : TypeId) (x y : V) : R := match P.underlying t with
  | some (.slice e) => fN (tsz P e) fun es => cond (and (and (Nat.blt 0 es) (Nat.ble (tbytes P e) 65536)) (and (zOk P e es) (srcOk P t' y es))) (elems P h y es (fun m new => appC P h e es x m new) (.bad 89)) (.bad 90)
  | _ => .bad 91
/-- So many zeros behind the others (append of what make has made). -/
def appN (P : Program) (h : H) (t t' : TypeId) (x : V) (n : Nat) : R := match P.underlying t, P.underlying t' with
  | some (.slice e), some (.int _) => match tzero P e with
    | some z => fN (tsz P e) fun es => cond (and (and (Nat.blt 0 es) (Nat.ble (tbytes P e) 65536)) (and (and (Nat.beq z.length es) (ones z)) (Nat.ble n 1073741824))) (fL (repl z n) fun new => appC P h e es x n new) (.bad 90)
    | none => .bad 90
  | _, _ => .bad 91
def copyV (P : Program) (h : H) (t : TypeId) (x y : V) : R := match P.underlying t with
  | some (.slice e) => match x with
    | .nil .sl | .es _ _ => cond (Nat.blt 0 (tsz P e)) (elems P h y (tsz P e) (fun _ _ => .v (.int .i64 0) h) (.bad 95)) (.bad 95)
    | .sl b o len _ es _ => cond (and (Nat.blt 0 es) (Nat.beq es (tsz P e))) (elems P h y es (fun m new => match hGet h b with
      | some (.cells n d tr ty st) => cond (and (ones new) (Nat.ble (Nat.add o (Nat.mul len es)) n))
        (fL (new.take (Nat.mul (Nat.min m len) es)) fun new => wrK new d tr o fun tr => hSet h b (some (.cells n d tr ty st)) fun h => rInt h .i64 (.ofNat (Nat.min m len))) (.bad 92)
      | _ => .bad 93) (.bad 94)) (.bad 95)
    | _ => .bad 96
  | _ => .bad 97
/-- A slice's cells are made zero; a map is emptied. -/
def clearV (P : Program) (h : H) (t : TypeId) (x : V) : R := match P.underlying t with
  | some (.slice e) => match x with
    | .nil .sl | .es _ _ => .v (.tup []) h
    | .sl b o len _ es _ => match tzero P e with
      | some z => match hGet h b with
        | some (.cells n d tr ty st) => cond (and (and (Nat.beq es z.length) (ones z)) (and (Nat.ble (Nat.add o (Nat.mul len es)) n) (Nat.blt 0 len)))
          (wrK (repl z len) d tr o fun tr => hSet h b (some (.cells n d tr ty st)) fun h => .v (.tup []) h) (cond (Nat.beq len 0) (.v (.tup []) h) (.bad 226))
        | _ => .bad 227
      | none => .bad 228
    | _ => .bad 229
  | some (.map _ _) => match x with
    | .nil .map => .v (.tup []) h
    | .map b => match hGet h b with
      | some (.map _ cl) => hSet h b (some (.map [] cl)) fun h => .v (.tup []) h
      | _ => .bad 230
    | _ => .bad 231
  | _ => .bad 232
/-- Bytes are packed. -/
def packK {β : Type} (l : List V) (c : Nat → β) (no : β) : β :=
  List.rec (motive := fun _ => (Nat → β) → β) (fun c => c 0) (fun v _ ih c => ih fun s => match v with
    | .int .u8 z => nat? z (fun n => cond (Nat.blt n 256) (fN (Nat.add n (Nat.mul 256 s)) c) no) no
    | _ => no) l c
/-- Pointers that are looked at as others: they stay what they are. -/
def cvU (P : Program) (h : H) (s t : TypeId) (x : V) : R := match P.underlying s, P.underlying t with
  | some (.pointer a), some .unsafePointer => match x with
    | .nil .ptr => .v (.nil .ptr) h
    | .ptr b o => match hGet h b with
      | some (.cells n _ _ _ false) => cond (and (Nat.blt o n) (Nat.blt 0 (tsz P a))) (.v (.ptr b o) h) (.bad 250)
      | _ => .bad 250
    | _ => .bad 250
  | some .unsafePointer, some (.pointer u) => match x with
    | .nil .ptr => .v (.nil .ptr) h
    | .ptr b o => match hGet h b with
      | some (.cells n _ _ ty false) => cond (and (Nat.blt 0 (tsz P u)) (liesAt P P.depth ty (n / P.cellsOf ty) o u 1)) (.v (.ptr b o) h) (.bad 251)
      | _ => .bad 251
    | _ => .bad 251
  | _, _ => .bad 104
def conv (P : Program) (h : H) (s t : TypeId) (x : V) : R := match P.underlying s, P.underlying t, x with
  | some _, some (.int k), .int _ z => rInt h k (wrp k z)
  | some _, some .string, .str n s => .v (.str n s) h
  | some .string, some (.slice e), .str n s => match P.underlying e with
    | some (.int .u8) => fL ((unp n s).map fun b => V.int .u8 (.ofNat b.toNat)) fun l => newCells h l e true fun b h => .v (.sl b 0 n n 1 true) h
    | _ => .bad 98
  | some (.slice e), some .string, .nil .sl => match P.underlying e with
    | some (.int .u8) => .v (.str 0 0) h
    | _ => .bad 99
  | some (.slice e), some .string, .es _ _ => match P.underlying e with
    | some (.int .u8) => .v (.str 0 0) h
    | _ => .bad 99
  | some (.slice e), some .string, .sl b o len _ es _ => match P.underlying e, hGet h b with
    | some (.int .u8), some (.cells n d tr _ _) => cond (and (Nat.beq es 1) (Nat.ble (Nat.add o len) n)) (rdK len d tr o fun l => packK l (fun s => .v (.str len s) h) (.bad 100)) (.bad 101)
    | _, _ => .bad 103
  | _, _, _ => cvU P h s t x

/-! ### Bytes that are packed -/
def byA (s o : Nat) : Nat := Nat.mod (Nat.shiftRight s (Nat.mul 8 o)) 256
/-- n bytes from o on. -/
def byS (s o n : Nat) : Nat := Nat.mod (Nat.shiftRight s (Nat.mul 8 o)) (Nat.pow 256 n)
/-- The n bytes at o are others. -/
def byP (s o n x : Nat) : Nat := Nat.add (Nat.sub s (Nat.shiftLeft (byS s o n) (Nat.mul 8 o))) (Nat.shiftLeft x (Nat.mul 8 o))
/-- Behind n bytes there are others. -/
def byC (s n x : Nat) : Nat := Nat.add s (Nat.shiftLeft x (Nat.mul 8 n))
def isU8 (P : Program) (e : TypeId) : Bool := match P.underlying e with
  | some (.int .u8) => match tzero P e with
    | some [.int .u8 z] => and (ieq z 0) (and (Nat.beq (tsz P e) 1) (Nat.ble (tbytes P e) 65536))
    | _ => false
  | _ => false
def loadY (P : Program) (h : H) (t n s o : Nat) : R := match tagg P t with
  | some false => cond (Nat.blt o n) (fN (byA s o) fun x => .v (.int .u8 (.ofNat x)) h) (.bad 18)
  | _ => .bad 20
def loadB (P : Program) (h : H) (t : TypeId) (a : V) : R := match a with
  | .ptr b o => match hGet h b with
    | some (.byt n s _ _) => loadY P h t n s o
    | _ => loadV P h t a
  | _ => loadV P h t a
def storeY (P : Program) (h : H) (t b o n s : Nat) (ty : TypeId) (st : Bool) (v : V) : R := match v with
  | .int .u8 (.ofNat x) => cond (and (Nat.beq (tsz P t) 1) (and (Nat.blt x 256) (Nat.blt o n))) (fN (byP s o 1 x) fun s => hSet h b (some (.byt n s ty st)) fun h => .eff h) (.bad 23)
  | _ => .bad 23
def storeB (P : Program) (h : H) (t : TypeId) (a v : V) : R := match a with
  | .ptr b o => match hGet h b with
    | some (.byt n s ty st) => storeY P h t b o n s ty st v
    | _ => storeV P h t a v
  | _ => storeV P h t a v
/-- A new row of bytes. -/
def growY (h : H) (n s : Nat) (e : TypeId) : R := cond (Nat.ble n 1048576) (fN n fun n => fN s fun s => hNew h (.byt n s e true) fun b h => .v (.sl b 0 n n 1 true) h) (.bad 82)
def makeSlB (P : Program) (t : TypeId) (l c : V) : Nw := match P.underlying t with
  | some (.slice e) => cond (isU8 P e) (match l, c with
    | .int _ (.ofNat l), .int _ (.ofNat c) => cond (and (Nat.ble l c) (Nat.ble c 1048576)) (fN l fun l => fN c fun c => some (.byt c 0 e false, fun b => .sl b 0 l c 1 false)) none
    | _, _ => none) (makeSlN P t l c)
  | _ => none
def buildSlB (P : Program) (t : TypeId) (len : Nat) (ps : List (Nat × V)) : Nw := match P.underlying t with
  | some (.slice e) => cond (and (isU8 P e) (Nat.ble len 1048576)) (match fillV (fun i => some (i * tsz P e, tsz P e)) (repl [.int .u8 0] len) ps with
      | some l => packK l (fun s => cond (Nat.beq l.length len) (some (.byt len s e false, fun b => .sl b 0 len len 1 false)) none) none
      | none => none) (buildSlN P t len ps)
  | _ => none
def convB (P : Program) (h : H) (s t : TypeId) (x : V) : R := match x with
  | .str n v => match P.underlying s, P.underlying t with
    | some .string, some (.slice e) => cond (isU8 P e) (growY h n v e) (conv P h s t x)
    | _, _ => conv P h s t x
  | .sl b o len _ es _ => match hGet h b with
    | some (.byt n v _ _) => match P.underlying s, P.underlying t with
      | some (.slice e), some .string => match P.underlying e with
        | some (.int .u8) => cond (and (Nat.beq es 1) (Nat.ble (Nat.add o len) n)) (fN (byS v o len) fun v => .v (.str len v) h) (.bad 101)
        | _ => .bad 103
      | _, _ => .bad 103
    | _ => conv P h s t x
  | _ => conv P h s t x
/-- The bytes of a source. -/
def srcK {β : Type} (h : H) (y : V) (c : Nat → Nat → β) (no : β) : β := match y with
  | .nil .sl => c 0 0
  | .es _ _ => c 0 0
  | .str n s => c n s
  | .sl b o len _ es _ => match hGet h b with
    | some (.byt n s _ _) => cond (and (Nat.beq es 1) (Nat.ble (Nat.add o len) n)) (fN (byS s o len) fun s => c len s) no
    | some (.cells n d tr _ _) => cond (and (Nat.beq es 1) (Nat.ble (Nat.add o len) n)) (rdK len d tr o fun l => packK l (fun s => c len s) no) no
    | _ => no
  | _ => no
def appZ (h : H) (e : TypeId) (x : V) (m new : Nat) : R := match x with
  | .nil .sl => cond (Nat.beq m 0) (.v (.nil .sl) h) (growY h m new e)
  | .sl b o len kc es' op => match hGet h b with
    | some (.byt n s ty st) => fN (Nat.add len m) fun need => cond (and (Nat.beq 1 es') (Nat.ble (Nat.add o len) n)) (cond (Nat.ble need kc)
      (cond (Nat.ble (Nat.add o need) n) (fN (byP s (Nat.add o len) m new) fun s => hSet h b (some (.byt n s ty st)) fun h => .v (.sl b o need kc 1 op) h) (.bad 84))
      (fN (byC (byS s o len) len new) fun s => cond op (cond (Nat.beq ty e) (hSet h b none fun h => growY h need s e) (.bad 249)) (growY h need s e))) (.bad 86)
    | _ => .bad 85
  | _ => .bad 88
def appY (P : Program) (h : H) (t' : TypeId) (e : TypeId) (x y : V) : R := cond (and (isU8 P e) (and (zOk P e 1) (srcOk P t' y 1))) (srcK h y (fun m new => appZ h e x m new) (.bad 89)) (.bad 89)
/-- Is it a row of packed bytes, or nothing yet? -/
def toY (h : H) (x : V) : Bool := match x with
  | .nil .sl => true
  | .sl b _ _ _ _ _ => match hGet h b with
    | some (.byt _ _ _ _) => true
    | _ => false
  | _ => false
def appB (P : Program) (h : H) (t t' : TypeId) (x y : V) : R := match P.underlying t with
  | some (.slice e) => match y with
    | .int _ (.ofNat n) => cond (and (isU8 P e) (toY h x)) (match P.underlying t' with
      | some (.int _) => cond (and (zOk P e 1) (Nat.ble n 1048576)) (appZ h e x n 0) (.bad 90)
      | _ => .bad 91) (appN P h t t' x n)
    | _ => cond (and (isU8 P e) (toY h x)) (appY P h t' e x y) (appV P h t t' x y)
  | _ => .bad 91
def copyB (P : Program) (h : H) (t : TypeId) (x y : V) : R := match P.underlying t with
  | some (.slice e) => match x with
    | .sl b o len _ es _ => match hGet h b with
      | some (.byt n s ty st) => cond (and (isU8 P e) (and (Nat.beq es 1) (Nat.ble (Nat.add o len) n))) (srcK h y (fun m new => fN (Nat.min m len) fun k => fN (byP s o k (Nat.mod new (Nat.pow 256 k))) fun s => hSet h b (some (.byt n s ty st)) fun h => .v (.int .i64 (.ofNat k)) h) (.bad 94)) (.bad 92)
      | _ => copyV P h t x y
    | _ => copyV P h t x y
  | _ => .bad 97
def clearB (P : Program) (h : H) (t : TypeId) (x : V) : R := match x with
  | .sl b o len _ es _ => match hGet h b with
    | some (.byt n s ty st) => match P.underlying t with
      | some (.slice e) => cond (and (isU8 P e) (and (Nat.beq es 1) (Nat.ble (Nat.add o len) n))) (cond (Nat.beq len 0) (.v (.tup []) h) (fN (byP s o len 0) fun s => hSet h b (some (.byt n s ty st)) fun h => .v (.tup []) h)) (.bad 226)
      | _ => .bad 229
    | _ => clearV P h t x
  | _ => clearV P h t x
/-! ### Maps -/
def keyEq (a b : V) : Option Bool := match a, b with
  | .int k a, .int k' b => cond (keq k k') (some (ieq a b)) none
  | .str n s, .str m t => some (and (Nat.beq n m) (Nat.beq s t))
  | _, _ => none
/-- Keys of such types are numbers and texts. -/
def keyOk (P : Program) (t : TypeId) (k : V) : Bool := match P.underlying t, k with
  | some (.int _), .int _ _ => true
  | some .string, .str _ _ => true
  | _, _ => false
def mFindI {β : Type} (k : V) (es : List (V × V × Nat)) (yes : Nat → V → β) (no : β) (bad : β) : Nat → β :=
  List.rec (motive := fun _ => Nat → β) (fun _ => no) (fun e _ ih i => match keyEq k e.1 with
    | some true => yes i e.2.1
    | some false => ih (Nat.succ i)
    | none => bad) es
/-- The entry of a key in a list without order. -/
def uFindI {β : Type} (k : V) (es : List (V × V)) (yes : V → β) (no bad : β) : β :=
  List.rec (motive := fun _ => β) no (fun e _ ih => match keyEq k e.1 with
    | some true => yes e.2
    | some false => ih
    | none => bad) es
def lkV (P : Program) (h : H) (t : TypeId) (x k : V) (ok : Bool) : R := match P.underlying t with
  | some (.map kt e) => match tzv P e with
    | some z => cond (and (keyOk P kt k) (ones (cellsOf z))) (match x with
      | .nil .map => cond ok (.v (.tup [z, .bool false]) h) (fV z fun v => .v v h)
      | .map b => match hGet h b with
        | some (.map es _) => mFindI k es (fun _ v => cond ok (.v (.tup [v, .bool true]) h) (rV h 106 v)) (cond ok (.v (.tup [z, .bool false]) h) (fV z fun v => .v v h)) (.bad 107) 0
        | some (.umap es) => uFindI k es (fun v => cond ok (.v (.tup [v, .bool true]) h) (rV h 106 v)) (cond ok (.v (.tup [z, .bool false]) h) (fV z fun v => .v v h)) (.bad 107)
        | _ => .bad 108
      | _ => .bad 109) (.bad 110)
    | _ => .bad 110
  | _ => .bad 111
def mSet (es : List (V × V × Nat)) (i : Nat) (v : V) : List (V × V × Nat) := match es, i with
  | [], _ => []
  | e :: r, 0 => (e.1, v, e.2.2) :: r
  | e :: r, i + 1 => e :: mSet r i v
def mDel (es : List (V × V × Nat)) (i : Nat) : List (V × V × Nat) := match es, i with
  | [], _ => []
  | e :: r, 0 => r
  | e :: r, i + 1 => e :: mDel r i
def muV (P : Program) (h : H) (t : TypeId) (x k v : V) : R := match P.underlying t with
  | some (.map kt _) => cond (keyOk P kt k) (match x with
    | .map b => match v with
      | .und => .bad 112
      | v => match hGet h b with
        | some (.map es cl) => mFindI k es (fun i _ => fL (mSet es i v) fun es => hSet h b (some (.map es cl)) fun h => .eff h)
          (fL (es ++ [(k, v, cl)]) fun es => fN (Nat.succ cl) fun cl => hSet h b (some (.map es cl)) fun h => .eff h) (.bad 112) 0
        | _ => .bad 113
    | _ => .bad 114) (.bad 114)
  | _ => .bad 114
def delV (P : Program) (h : H) (t : TypeId) (x k : V) : R := match P.underlying t with
  | some (.map kt _) => cond (keyOk P kt k) (match x with
    | .nil .map => .v (.tup []) h
    | .map b => match hGet h b with
      | some (.map es cl) => mFindI k es (fun i _ => fL (mDel es i) fun es => hSet h b (some (.map es cl)) fun h => .v (.tup []) h) (.v (.tup []) h) (.bad 115) 0
      | _ => .bad 116
    | _ => .bad 117) (.bad 117)
  | _ => .bad 117
def meV (P : Program) (h : H) (t : TypeId) (x k : V) : R := match P.underlying t with
  | some (.map kt e) => match tzv P e with
    | some z => cond (and (keyOk P kt k) (ones (cellsOf z))) (match x with
      | .map b => match hGet h b with
        | some (.map es cl) => mFindI k es (fun i v => match es[i]? with
          | some e => fN e.2.2 fun n => .v (.tup [v, .int .i64 (.ofNat n)]) h
          | none => .bad 118)
          (fL (es ++ [(k, z, cl)]) fun es => fN (Nat.succ cl) fun cl' => hSet h b (some (.map es cl')) fun h => .v (.tup [z, .int .i64 (.ofNat cl)]) h) (.bad 121) 0
        | _ => .bad 122
      | _ => .bad 123) (.bad 123)
    | _ => .bad 119
  | _ => .bad 120
def mBorn (es : List (V × V × Nat)) (n : Nat) : Option Nat := es.findIdx? fun e => Nat.beq e.2.2 n
def esV (h : H) (x st v : V) : R := match x, st with
  | .map b, .int _ z => nat? z (fun n => match v with
    | .und => .bad 124
    | v => match hGet h b with
      | some (.map es cl) => match mBorn es n with
        | some i => fL (mSet es i v) fun es => hSet h b (some (.map es cl)) fun h => .eff h
        | none => .bad 124
      | _ => .bad 125) (.bad 126)
  | _, _ => .bad 127

def lenV (P : Program) (h : H) (t : TypeId) (x : V) : R := match P.underlying t with
  | some .string => match x with
    | .str n _ => rInt h .i64 (.ofNat n)
    | _ => .bad 128
  | some (.slice _) => match x with
    | .sl _ _ n _ _ _ => rInt h .i64 (.ofNat n)
    | .es _ _ | .nil .sl => .v (.int .i64 0) h
    | _ => .bad 128
  | some (.map _ _) => match x with
    | .nil .map => .v (.int .i64 0) h
    | .map b => match hGet h b with
      | some (.map es _) => rInt h .i64 (.ofNat es.length)
      | _ => .bad 128
    | _ => .bad 128
  | some (.array n _) => rInt h .i64 (.ofNat n)
  | some (.pointer a) => match P.underlying a with
    | some (.array n _) => rInt h .i64 (.ofNat n)
    | _ => .bad 129
  | _ => .bad 130
def capV (P : Program) (h : H) (t : TypeId) (x : V) : R := match P.underlying t with
  | some (.slice _) => match x with
    | .sl _ _ _ c _ false => rInt h .i64 (.ofNat c)
    | .nil .sl => .v (.int .i64 0) h
    | _ => .bad 131
  | _ => .bad 131
def lo (a b : Int) : Int := cond (ile a b) a b
def hi (a b : Int) : Int := cond (ile b a) a b
def mm (h : H) (mn : Bool) : List V → R
  | [.int k a, .int k' b, .int k'' c] => cond (and (keq k k') (keq k k'')) (rInt h k (cond mn (lo (lo a b) c) (hi (hi a b) c))) (.bad 132)
  | [.int k a, .int k' b] => cond (keq k k') (rInt h k (cond mn (cond (ile a b) a b) (cond (ile b a) a b))) (.bad 132)
  | _ => .bad 133
def sdV (h : H) (x : V) : R := match x with
  | .nil .sl => .v (.nil .ptr) h
  | .sl b o _ kc _ _ => cond (Nat.blt 0 kc) (.v (.ptr b o) h) (.bad 252)
  | _ => .bad 252
/-- A text is made of a row of bytes, which is shut from then on. -/
def usV (P : Program) (h : H) (t : TypeId) (x y : V) : R := match x, y with
  | .nil .ptr, .int .i64 z => cond (ieq z 0) (.v (.str 0 0) h) (.bad 253)
  | .ptr b o, .int .i64 z => nat? z (fun n => Nat.rec (motive := fun _ => R) (.v (.str 0 0) h) (fun _ _ => match hGet h b, P.underlying t with
    | some (.cells n0 d tr ty _), some (.pointer e) => cond (and (and (Nat.beq ty e) (Nat.beq (P.cellsOf e) 1)) (and (Nat.ble (Nat.add o n) n0) (Nat.ble n 9223372036854775807)))
      (rdK n d tr o fun l => packK l (fun s => hSet h b none fun h => .v (.str n s) h) (.bad 254)) (.bad 255)
    | _, _ => .bad 256) n) (.bad 257)
  | _, _ => .bad 258
def usB (P : Program) (h : H) (t : TypeId) (x y : V) : R := match x with
  | .ptr b o => match hGet h b with
    | some (.byt n0 s ty _) => match y, P.underlying t with
      | .int .i64 (.ofNat (Nat.succ n)), some (.pointer e) => cond (and (and (Nat.beq ty e) (Nat.beq (P.cellsOf e) 1)) (and (Nat.ble (Nat.add o (Nat.succ n)) n0) (Nat.ble (Nat.succ n) 9223372036854775807)))
        (fN (byS s o (Nat.succ n)) fun s => hSet h b none fun h => .v (.str (Nat.succ n) s) h) (.bad 255)
      | _, _ => .bad 256
    | _ => usV P h t x y
  | _ => usV P h t x y
def blt (P : Program) (h : H) (b : Builtin) (ts : List TypeId) (args : List V) : R := match b, args with
  | .len, [x] => match ts with
    | [t] => lenV P h t x
    | _ => .bad 134
  | .cap, [x] => match ts with
    | [t] => capV P h t x
    | _ => .bad 134
  | .append, [x, y] => match ts with
    | [t, t'] => appB P h t t' x y
    | _ => .bad 134
  | .copy, [x, y] => match ts with
    | [t, _] => copyB P h t x y
    | _ => .bad 134
  | .min, l => mm h true l
  | .max, l => mm h false l
  | .clear, [x] => match ts with
    | [t] => clearB P h t x
    | _ => .bad 134
  | .delete, [x, k] => match ts with
    | [t, _] => delV P h t x k
    | _ => .bad 134
  | .unsafeSliceData, [x] => sdV h x
  | .unsafeString, [x, y] => match ts with
    | [t, _] => usB P h t x y
    | _ => .bad 134
  | _, _ => .bad 134
def mi (P : Program) (h : H) (t : TypeId) (x : V) : R := match x with
  | .und => .bad 135
  | x => match P.underlying t with
    | some (.interface _) => .bad 135
    | some _ => .v (.ifc t x) h
    | none => .bad 136
def ta (P : Program) (h : H) (x : V) (t : TypeId) (ok : Bool) : R := match x with
  | .ifc u v => match P.underlying t with
    | some (.interface _) => .bad 137
    | some _ => cond (Nat.beq t u) (cond ok (.v (.tup [v, .bool true]) h) (rV h 138 v)) (.bad 139)
    | none => .bad 137
  | _ => .bad 140
/-- A method of a type's own: of a pointer by a pointer, or of a value by a value. -/
def methV (P : Program) (t : TypeId) (name : String) : Option FuncId := match P.info? t with
  | some i => match i.methods.toList.find? (·.name == name) with
    | some m => match m.path.toList, m.func with
      | [], some (f, pr) => match P.underlying t with
        | some (.pointer _) => cond pr (some f) none
        | some _ => cond pr none (some f)
        | none => none
      | _, _ => none
    | none => none
  | none => none
def invV (P : Program) (name : String) (args : List V) (x : V) : R := match x with
  | .ifc t v => match methV P t name with
    | some f => fL (v :: args) fun l => .call f l
    | none => .bad 247
  | _ => .bad 248
def callV (P : Program) (args : List V) (f : V) : R := match f with
  | .fn f p q => fL (p ++ args ++ q) fun l => .call f l
  | .yld l => .yld l args
  | .mth nm x => invV P nm args x
  | _ => .bad 141
def evCall (P : Program) (ρ : Operand → V) (c : Call) (h : H) : R := match c.callee with
  | .value f => knownK ρ c.args.toList (fun l => callV P l (ρ f)) (.bad 142)
  | .builtin b => knownK ρ c.args.toList (fun l => blt P h b c.argTypes.toList l) (.bad 142)
  | .invoke x name => knownK ρ c.args.toList (fun l => invV P name l (ρ x)) (.bad 142)
def dfrV (args : List V) (f : V) : R := match f with
  | .fn f p q => fL (p ++ args) fun l => .dfr f q l
  | _ => .bad 244
def evDefer (ρ : Operand → V) (c : Call) : R := match c.callee with
  | .value f => knownK ρ c.args.toList (fun l => dfrV l (ρ f)) (.bad 244)
  | _ => .bad 244
def mthV (P : Program) (h : H) (nm : String) (y : V) : R := match y with
  | .ifc t v => cond (methV P t nm).isSome (.v (.mth nm (.ifc t v)) h) (.bad 280)
  | _ => .bad 281
def mkM (h : H) (nm : String) (p : List V) (q : List Operand) : R := match p, q with
  | [v], [] => .v (.mth nm v) h
  | _, _ => .bad 282
/-! Maps whose keys are flat structs. -/
def cellEq (a b : V) : Bool := match a, b with
  | .int k a, .int k' b => and (keq k k') (ieq a b)
  | .str n s, .str m t => and (Nat.beq n m) (Nat.beq s t)
  | .bool a, .bool b => beqB a b
  | _, _ => false
def cellsEq : List V → List V → Bool
  | [], [] => true
  | a :: l, b :: m => and (cellEq a b) (cellsEq l m)
  | _, _ => false
/-- Is it a key of such a type? -/
def kOkS (P : Program) (kt : TypeId) (l : List V) : Bool := match P.underlying kt with
  | some (.struct fs) => fs.toList.all fun f => match P.underlying f.type with
    | some (.int _) | some .string | some .bool => (partV P f l).isSome
    | _ => false
  | _ => false
/-- Two such keys. -/
def kEqS (P : Program) (h : H) (kt : TypeId) (l : List V) (b : V) : Option Bool := match b with
  | .agg m => match eqT P h 8 kt (.agg l) (.agg m) with
    | some true => cond (cellsEq l m) (some true) none
    | r => r
  | _ => none
def mFindS {β : Type} (P : Program) (h : H) (kt : TypeId) (l : List V) (es : List (V × V × Nat)) (yes : Nat → V → β) (no : β) (bad : β) : Nat → β :=
  List.rec (motive := fun _ => Nat → β) (fun _ => no) (fun e _ ih i => match kEqS P h kt l e.1 with
    | some true => yes i e.2.1
    | some false => ih (Nat.succ i)
    | none => bad) es
def lkS (P : Program) (h : H) (t : TypeId) (x : V) (l : List V) (ok : Bool) : R := match P.underlying t with
  | some (.map kt e) => match tzv P e with
    | some z => cond (and (kOkS P kt l) (ones (cellsOf z))) (match x with
      | .map b => match hGet h b with
        | some (.map es _) => mFindS P h kt l es (fun _ v => cond ok (.v (.tup [v, .bool true]) h) (rV h 106 v)) (cond ok (.v (.tup [z, .bool false]) h) (fV z fun v => .v v h)) (.bad 107) 0
        | _ => .bad 108
      | _ => .bad 109) (.bad 110)
    | none => .bad 110
  | _ => .bad 111
def meS (P : Program) (h : H) (t : TypeId) (x : V) (l : List V) : R := match P.underlying t with
  | some (.map kt e) => match tzv P e with
    | some z => cond (and (kOkS P kt l) (ones (cellsOf z))) (match x with
      | .map b => match hGet h b with
        | some (.map es cl) => mFindS P h kt l es (fun i v => match es[i]? with
          | some e => fN e.2.2 fun n => .v (.tup [v, .int .i64 (.ofNat n)]) h
          | none => .bad 118)
          (fL (es ++ [(.agg l, z, cl)]) fun es => fN (Nat.succ cl) fun cl' => hSet h b (some (.map es cl')) fun h => .v (.tup [z, .int .i64 (.ofNat cl)]) h) (.bad 121) 0
        | _ => .bad 122
      | _ => .bad 123) (.bad 123)
    | none => .bad 119
  | _ => .bad 120
def lkW (P : Program) (h : H) (t : TypeId) (x k : V) (ok : Bool) : R := match k with
  | .agg l => lkS P h t x l ok
  | k => lkV P h t x k ok
def meW (P : Program) (h : H) (t : TypeId) (x k : V) : R := match k with
  | .agg l => meS P h t x l
  | k => meV P h t x k
def nodupN : List Nat → Bool
  | [] => true
  | a :: l => and (not (l.contains a)) (nodupN l)
/-- A loop over a map begins. -/
def rgV (P : Program) (h : H) (t : TypeId) (x : V) : R := match P.underlying t with
  | some (.map _ _) => match x with
    | .map b => match hGet h b with
      | some (.map _ cl) => hNew h (.miter b cl [] cl) fun i h => .v (.ptr i 0) h
      | _ => .bad 340
    | _ => .bad 341
  | _ => .bad 341
/-- The entries that are left. -/
def leftV (es : List (V × V × Nat)) (seen : List Nat) : List (V × V × Nat) := es.filter fun e => not (seen.contains e.2.2)
def nx1 (h : H) (i m since : Nat) (seen : List Nat) (cl : Nat) : List (V × V × Nat) → R
  | [] => .v (.tup [.bool false]) h
  | [e] => fL (seen ++ [e.2.2]) fun seen => hSet h i (some (.miter m since seen cl)) fun h => .v (.tup [.bool true, e.1, e.2.1]) h
  | _ => .bad 342
/-- The next entry, where no more than one is left. -/
def nxV (h : H) (x : V) (isS : Bool) : R := match x with
  | .ptr i 0 => match isS with
    | false => match hGet h i with
      | some (.miter m since seen last) => match hGet h m with
        | some (.map es cl) => cond (and (es.all fun e => Nat.blt e.2.2 since) (Nat.ble since last)) (nx1 h i m since seen cl (leftV es seen)) (.bad 343)
        | _ => .bad 344
      | _ => .bad 345
    | true => .bad 346
  | _ => .bad 346
/-- The entry that came last. -/
def enV (h : H) (x : V) : R := match x with
  | .ptr i 0 => match hGet h i with
    | some (.miter m _ seen last) => match hGet h m with
      | some (.map es cl) => match seen.reverse with
        | n :: _ => cond (and (Nat.beq last cl) (nodupN (es.map fun e => e.2.2))) (match es.find? fun e => Nat.beq e.2.2 n with
          | some e => .v (.tup [e.1, e.2.1]) h
          | none => .bad 350) (.bad 347)
        | [] => .bad 348
      | _ => .bad 349
    | _ => .bad 349
  | _ => .bad 346
def evOp (P : Program) (ρ : Operand → V) (o : Op) (h : H) : R := match o with
  | .move x | .assign x => rV h 143 (ρ x)
  | .pick c a b => match ρ c with
    | .bool true => rV h 144 (ρ a)
    | .bool false => rV h 145 (ρ b)
    | _ => .bad 146
  | .alloc t => nwR h 26 (allocN P t)
  | .box t x => nwR h 28 (boxN t (ρ x))
  | .build t ps => partsK ρ ps.toList (buildV P h t) (.bad 142)
  | .buildSlice t n ps => nwR h 35 (partsK ρ ps.toList (buildSlB P t n) none)
  | .load t a => loadB P h t (ρ a)
  | .store t a x => storeB P h t (ρ a) (ρ x)
  | .nilCheck x => match ρ x with
    | .nil _ => .bad 147
    | .mth nm y => mthV P h nm y
    | v => rV h 148 v
  | .binOp op t x y _ => bin P h op t (ρ x) (ρ y)
  | .unOp op _ x => un h op (ρ x)
  | .convert s t x => convB P h s t (ρ x)
  | .makeInterface t x => mi P h t (ρ x)
  | .makeFunc (.func f) a b => knownK ρ a.toList (fun p => knownK ρ b.toList (fun q => .v (.fn f p q) h) (.bad 142)) (.bad 142)
  | .makeFunc (.method nm) a b => knownK ρ a.toList (fun p => mkM h nm p b.toList) (.bad 142)
  | .makeMap _ none => nwR h 0 (some (.map [] 0, fun b => .map b))
  | .makeSlice t l c => nwR h 40 (makeSlB P t (ρ l) (ρ c))
  | .slice t x lo hi mx => slV P h t (ρ x) (lo.map ρ) (hi.map ρ) (mx.map ρ)
  | .fieldAddr t x i => fldAddr P h t (ρ x) i
  | .field t x i => fldV P h t (ρ x) i
  | .indexAddr t x i => ixAddr P h t (ρ x) (ρ i)
  | .index t x i => ixV P h t (ρ x) (ρ i)
  | .lookup t x k ok => lkW P h t (ρ x) (ρ k) ok
  | .mapUpdate t m k v | .insert t m k v => muV P h t (ρ m) (ρ k) (ρ v)
  | .mapEntry t m k => meW P h t (ρ m) (ρ k)
  | .entryStore _ m s v => esV h (ρ m) (ρ s) (ρ v)
  | .typeAssert x _ t ok => ta P h (ρ x) t ok
  | .extract t i => match ρ t with
    | .tup l => match l[i]? with
      | some v => rV h 149 v
      | none => .bad 150
    | _ => .bad 151
  | .call c => evCall P ρ c h
  | .defer c => evDefer ρ c
  | .range t x => rgV P h t (ρ x)
  | .next it s => nxV h (ρ it) s
  | .entry it => enV h (ρ it)
  | _ => .bad 152

/-- Builtins that only read. -/
def rdB : Builtin → Bool
  | .len | .cap | .min | .max => true
  | _ => false
/-- Operations that only read. -/
def rdOp (P : Program) : Op → Bool
  | .move _ | .assign _ | .pick .. | .build .. | .load .. | .nilCheck _ | .binOp .. | .unOp .. | .makeInterface .. | .slice .. | .fieldAddr .. | .field .. | .indexAddr .. | .index .. | .lookup .. | .typeAssert .. | .extract .. => true
  | .makeFunc .. => true
  | .convert _ t _ => match P.underlying t with | some (.slice _) => false | _ => true
  | .call c => match c.callee with | .builtin b => rdB b | _ => false
  | _ => false
/-- Operations that make a block, and do nothing else. -/
def alOp (P : Program) (ρ : Operand → V) : Op → Nw
  | .alloc t => allocN P t
  | .box t x => boxN t (ρ x)
  | .buildSlice t n ps => partsK ρ ps.toList (buildSlB P t n) none
  | .makeMap _ none => some (.map [] 0, fun b => .map b)
  | .makeSlice t l c => makeSlB P t (ρ l) (ρ c)
  | _ => none
def isAl : Op → Bool
  | .alloc _ | .box .. | .buildSlice .. | .makeMap _ none | .makeSlice .. => true
  | _ => false

end
end Go.Proofs.YtkgiammeeckfbaaGreat
