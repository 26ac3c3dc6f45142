/- The reckoner's operations in a form that the kernel goes through quickly: each choice is made ahead of what it is made of. It is of no program. -/
import Derived.Test.YtkgiammeeckfbaaGreatEvK
namespace Go.Proofs.YtkgiammeeckfbaaGreat
open Go Go.RowKit
set_option linter.all false
noncomputable section

def opF (x : Operand) : Nat → (d : Nat) → Tr V d → V := @Operand.rec (fun _ => Nat → (d : Nat) → Tr V d → V) (fun i _ d E => vGet d i E) (fun v _ _ _ => ofV v) (fun g G _ _ => cond (Nat.blt g G) (.ptr g 0) .und) (fun f _ _ _ => .fn f [] []) x
def rVF (v : V) : H → Nat → R := @V.rec (fun _ => H → Nat → R) (fun _ => PUnit) (fun x1 x2 => fun h _ => R.v (V.int x1 x2) h) (fun x1 => fun h _ => R.v (V.bool x1) h) (fun x1 x2 => fun h _ => R.v (V.str x1 x2) h) (fun x1 x2 => fun h _ => R.v (V.ptr x1 x2) h) (fun x1 x2 x3 x4 x5 x6 => fun h _ => R.v (V.sl x1 x2 x3 x4 x5 x6) h) (fun x1 x2 => fun h _ => R.v (V.es x1 x2) h) (fun x1 => fun h _ => R.v (V.map x1) h) (fun x1 => fun h _ => R.v (V.nil x1) h) (fun x1 x2 x3 _ _ => fun h _ => R.v (V.fn x1 x2 x3) h) (fun x1 => fun h _ => R.v (V.yld x1) h) (fun x1 x2 _ => fun h _ => R.v (V.ifc x1 x2) h) (fun x1 x2 _ => fun h _ => R.v (V.mth x1 x2) h) (fun x1 _ => fun h _ => R.v (V.agg x1) h) (fun x1 _ => fun h _ => R.v (V.tup x1) h) (fun _ m => R.bad m) PUnit.unit (fun _ _ _ _ => PUnit.unit) v
theorem rVF_eq (v : V) (h : H) (n : Nat) : rVF v h n = rV h n v := by cases v <;> rfl
def keqF (a : IntKind) : IntKind → Bool := @IntKind.rec (fun _ => IntKind → Bool) (fun b => @IntKind.rec (fun _ => Bool) true false false false false false false false b) (fun b => @IntKind.rec (fun _ => Bool) false true false false false false false false b) (fun b => @IntKind.rec (fun _ => Bool) false false true false false false false false b) (fun b => @IntKind.rec (fun _ => Bool) false false false true false false false false b) (fun b => @IntKind.rec (fun _ => Bool) false false false false true false false false b) (fun b => @IntKind.rec (fun _ => Bool) false false false false false true false false b) (fun b => @IntKind.rec (fun _ => Bool) false false false false false false true false b) (fun b => @IntKind.rec (fun _ => Bool) false false false false false false false true b) a
theorem keqF_eq (a b : IntKind) : keqF a b = keq a b := by cases a <;> cases b <;> rfl
def inRF (k : IntKind) : Int → Bool := @IntKind.rec (fun _ => Int → Bool) (fun _ => false) (fun _ => false) (fun _ => false) (fun z => @Int.rec (fun _ => Bool) (fun n => Nat.ble n 9223372036854775807) (fun n => Nat.ble n 9223372036854775807) z) (fun z => @Int.rec (fun _ => Bool) (fun n => Nat.ble n 255) (fun _ => false) z) (fun _ => false) (fun z => @Int.rec (fun _ => Bool) (fun n => Nat.ble n 4294967295) (fun _ => false) z) (fun z => @Int.rec (fun _ => Bool) (fun n => Nat.ble n 18446744073709551615) (fun _ => false) z) k
theorem inRF_eq (k : IntKind) (z : Int) : inRF k z = inR k z := by cases k <;> rfl
def wrpF (k : IntKind) (z : Int) : Int := @Bool.rec (fun _ => IntKind → Int → Int) (fun k z => k.wrap z) (fun _ z => z) (inRF k z) k z
theorem wrpF_eq (k : IntKind) (z : Int) : wrpF k z = wrp k z := by unfold wrpF wrp; rw [inRF_eq]; cases inR k z <;> rfl
/-- A number is reckoned out and answered. -/
def rIntF (z : Int) : IntKind → H → R := @Int.rec (fun _ => IntKind → H → R) (fun n => @Nat.rec (fun _ => IntKind → H → R) (fun k h => .v (.int k (.ofNat 0)) h) (fun m _ k h => .v (.int k (.ofNat (Nat.succ m))) h) n) (fun n => @Nat.rec (fun _ => IntKind → H → R) (fun k h => .v (.int k (.negSucc 0)) h) (fun m _ k h => .v (.int k (.negSucc (Nat.succ m))) h) n) z
theorem rIntF_eq (h : H) (k : IntKind) (z : Int) : rIntF z k h = rInt h k z := by cases z <;> (rename_i n; cases n <;> rfl)
def rBoolF (b : Bool) : H → R := @Bool.rec (fun _ => H → R) (fun h => .v (.bool false) h) (fun h => .v (.bool true) h) b
theorem rBoolF_eq (h : H) (b : Bool) : rBoolF b h = rBool h b := by cases b <;> rfl
def condF (b : Bool) : R → R → R := @Bool.rec (fun _ => R → R → R) (fun _ y => y) (fun x _ => x) b
theorem condF_eq (b : Bool) (x y : R) : condF b x y = cond b x y := by cases b <;> rfl

def bitJ (b : Int) : Nat → (Nat → Nat → Nat) → IntKind → H → R := @Int.rec (fun _ => Nat → (Nat → Nat → Nat) → IntKind → H → R) (fun n m f k h => condF (and (inRF k (.ofNat m)) (inRF k (.ofNat n))) (rIntF (.ofNat (f m n)) k h) (.bad 3)) (fun n m f k h => bitS h k f (.ofNat m) (.negSucc n)) b
def bitF (a : Int) : Int → (Nat → Nat → Nat) → IntKind → H → R := @Int.rec (fun _ => Int → (Nat → Nat → Nat) → IntKind → H → R) (fun m b f k h => bitJ b m f k h) (fun m b f k h => bitS h k f (.negSucc m) b) a
def shlJ (b : Int) : Int → IntKind → H → R := @Int.rec (fun _ => Int → IntKind → H → R) (fun n a k h => @Int.rec (fun _ => Nat → IntKind → H → R) (fun m n k h => rIntF (wrpF k (.ofNat (Nat.mul m (Nat.pow 2 (Nat.min n k.bits))))) k h) (fun m n k h => shNeg h .shl k (.negSucc m) n) a n k h) (fun _ _ _ _ => .bad 7) b
def shrJ (b : Int) : Int → IntKind → H → R := @Int.rec (fun _ => Int → IntKind → H → R) (fun n a k h => @Int.rec (fun _ => Nat → IntKind → H → R) (fun m n k h => rIntF (.ofNat (Nat.div m (Nat.pow 2 (Nat.min n k.bits)))) k h) (fun m n k h => shNeg h .shr k (.negSucc m) n) a n k h) (fun _ _ _ _ => .bad 7) b
theorem and_inR (k : IntKind) (a b : Int) (x y : R) : cond (and (inR k a) (inR k b)) x y = cond (and (inRF k a) (inRF k b)) x y := by rw [inRF_eq, inRF_eq]
theorem bitF_and (a b : Int) (k : IntKind) (h : H) : bitF a b Nat.land k h = binInt h .and k a b := by cases a <;> cases b <;> simp only [bitF, bitJ, binInt, nat?, condF_eq, rIntF_eq, inRF_eq]
theorem bitF_or (a b : Int) (k : IntKind) (h : H) : bitF a b Nat.lor k h = binInt h .or k a b := by cases a <;> cases b <;> simp only [bitF, bitJ, binInt, nat?, condF_eq, rIntF_eq, inRF_eq]
theorem bitF_xor (a b : Int) (k : IntKind) (h : H) : bitF a b Nat.xor k h = binInt h .xor k a b := by cases a <;> cases b <;> simp only [bitF, bitJ, binInt, nat?, condF_eq, rIntF_eq, inRF_eq]
theorem shlJ_eq (a b : Int) (k : IntKind) (h : H) : shlJ b a k h = shInt h .shl k a b := by cases b <;> cases a <;> simp only [shlJ, shInt, nat?, rIntF_eq, wrpF_eq]
theorem shrJ_eq (a b : Int) (k : IntKind) (h : H) : shrJ b a k h = shInt h .shr k a b := by cases b <;> cases a <;> simp only [shrJ, shInt, nat?, rIntF_eq, wrpF_eq]
def addF (a : Int) : Int → Int := @Int.rec (fun _ => Int → Int) (fun m b => @Int.rec (fun _ => Nat → Int) (fun n m => .ofNat (Nat.add m n)) (fun n m => Int.add (.ofNat m) (.negSucc n)) b m) (fun m b => Int.add (.negSucc m) b) a
theorem addF_eq (a b : Int) : addF a b = Int.add a b := by cases a <;> cases b <;> rfl
def subF (a : Int) : Int → Int := @Int.rec (fun _ => Int → Int) (fun m b => @Int.rec (fun _ => Nat → Int) (fun n m => @Bool.rec (fun _ => Nat → Nat → Int) (fun m n => Int.sub (.ofNat m) (.ofNat n)) (fun m n => .ofNat (Nat.sub m n)) (Nat.ble n m) m n) (fun n m => Int.sub (.ofNat m) (.negSucc n)) b m) (fun m b => Int.sub (.negSucc m) b) a
theorem subF_eq (a b : Int) : subF a b = Int.sub a b := by
  cases a with
  | negSucc m => rfl
  | ofNat m =>
    cases b with
    | negSucc n => rfl
    | ofNat n =>
      simp only [subF]
      cases hb : Nat.ble n m with
      | false => rfl
      | true =>
        have := Nat.le_of_ble_eq_true hb
        show Int.ofNat (m - n) = (m : Int) - (n : Int)
        simp only [Int.ofNat_eq_natCast]; omega
def mulF (a : Int) : Int → Int := @Int.rec (fun _ => Int → Int) (fun m b => @Int.rec (fun _ => Nat → Int) (fun n m => .ofNat (Nat.mul m n)) (fun n m => Int.mul (.ofNat m) (.negSucc n)) b m) (fun m b => Int.mul (.negSucc m) b) a
theorem mulF_eq (a b : Int) : mulF a b = Int.mul a b := by cases a <;> cases b <;> rfl

def binIF (op : BinOp) : H → IntKind → IntKind → Int → Int → R := @BinOp.rec (fun _ => H → IntKind → IntKind → Int → Int → R) (fun h k k' a b => condF (keqF k k') (rIntF (wrpF k (addF a b)) k h) (.bad 10)) (fun h k k' a b => condF (keqF k k') (rIntF (wrpF k (subF a b)) k h) (.bad 10)) (fun h k k' a b => condF (keqF k k') (rIntF (wrpF k (mulF a b)) k h) (.bad 10)) (fun h k k' a b => condF (keqF k k') (binInt h .quo k a b) (.bad 10)) (fun h k k' a b => condF (keqF k k') (binInt h .rem k a b) (.bad 10)) (fun h k k' a b => condF (keqF k k') (bitF a b Nat.land k h) (.bad 10)) (fun h k k' a b => condF (keqF k k') (bitF a b Nat.lor k h) (.bad 10)) (fun h k k' a b => condF (keqF k k') (bitF a b Nat.xor k h) (.bad 10)) (fun h k _ a b => shlJ b a k h) (fun h k _ a b => shrJ b a k h) (fun h k k' a b => condF (keqF k k') (binInt h .andNot k a b) (.bad 10)) (fun h k k' a b => condF (keqF k k') (rBoolF (ieq a b) h) (.bad 10)) (fun h k k' a b => condF (keqF k k') (rBoolF (not (ieq a b)) h) (.bad 10)) (fun h k k' a b => condF (keqF k k') (rBoolF (not (ile b a)) h) (.bad 10)) (fun h k k' a b => condF (keqF k k') (rBoolF (ile a b) h) (.bad 10)) (fun h k k' a b => condF (keqF k k') (rBoolF (not (ile a b)) h) (.bad 10)) (fun h k k' a b => condF (keqF k k') (rBoolF (ile b a) h) (.bad 10)) op
theorem binIF_eq (op : BinOp) (h : H) (k k' : IntKind) (a b : Int) : binIF op h k k' a b = (match op with | .shl | .shr => shInt h op k a b | _ => cond (keq k k') (binInt h op k a b) (.bad 10)) := by
  cases op <;> first | (simp only [binIF, condF_eq, keqF_eq, bitF_and, bitF_or, bitF_xor, shlJ_eq, shrJ_eq]; done) | simp only [binIF, condF_eq, keqF_eq, rIntF_eq, rBoolF_eq, wrpF_eq, addF_eq, subF_eq, mulF_eq, binInt]
def binJ (b : V) : IntKind → Int → Program → H → BinOp → TypeId → R := @V.rec (fun _ => IntKind → Int → Program → H → BinOp → TypeId → R) (fun _ => PUnit) (fun k' b => fun k a _ h op _ => binIF op h k k' a b) (fun x1 => fun k a P h op t => bin P h op t (.int k a) (V.bool x1)) (fun x1 x2 => fun k a P h op t => bin P h op t (.int k a) (V.str x1 x2)) (fun x1 x2 => fun k a P h op t => bin P h op t (.int k a) (V.ptr x1 x2)) (fun x1 x2 x3 x4 x5 x6 => fun k a P h op t => bin P h op t (.int k a) (V.sl x1 x2 x3 x4 x5 x6)) (fun x1 x2 => fun k a P h op t => bin P h op t (.int k a) (V.es x1 x2)) (fun x1 => fun k a P h op t => bin P h op t (.int k a) (V.map x1)) (fun x1 => fun k a P h op t => bin P h op t (.int k a) (V.nil x1)) (fun x1 x2 x3 _ _ => fun k a P h op t => bin P h op t (.int k a) (V.fn x1 x2 x3)) (fun x1 => fun k a P h op t => bin P h op t (.int k a) (V.yld x1)) (fun x1 x2 _ => fun k a P h op t => bin P h op t (.int k a) (V.ifc x1 x2)) (fun x1 x2 _ => fun k a P h op t => bin P h op t (.int k a) (V.mth x1 x2)) (fun x1 _ => fun k a P h op t => bin P h op t (.int k a) (V.agg x1)) (fun x1 _ => fun k a P h op t => bin P h op t (.int k a) (V.tup x1)) (fun k a P h op t => bin P h op t (.int k a) V.und) PUnit.unit (fun _ _ _ _ => PUnit.unit) b
def binF (a : V) : V → Program → H → BinOp → TypeId → R := @V.rec (fun _ => V → Program → H → BinOp → TypeId → R) (fun _ => PUnit) (fun k n => fun b P h op t => binJ b k n P h op t) (fun x1 => fun b P h op t => bin P h op t (V.bool x1) b) (fun x1 x2 => fun b P h op t => bin P h op t (V.str x1 x2) b) (fun x1 x2 => fun b P h op t => bin P h op t (V.ptr x1 x2) b) (fun x1 x2 x3 x4 x5 x6 => fun b P h op t => bin P h op t (V.sl x1 x2 x3 x4 x5 x6) b) (fun x1 x2 => fun b P h op t => bin P h op t (V.es x1 x2) b) (fun x1 => fun b P h op t => bin P h op t (V.map x1) b) (fun x1 => fun b P h op t => bin P h op t (V.nil x1) b) (fun x1 x2 x3 _ _ => fun b P h op t => bin P h op t (V.fn x1 x2 x3) b) (fun x1 => fun b P h op t => bin P h op t (V.yld x1) b) (fun x1 x2 _ => fun b P h op t => bin P h op t (V.ifc x1 x2) b) (fun x1 x2 _ => fun b P h op t => bin P h op t (V.mth x1 x2) b) (fun x1 _ => fun b P h op t => bin P h op t (V.agg x1) b) (fun x1 _ => fun b P h op t => bin P h op t (V.tup x1) b) (fun b P h op t => bin P h op t V.und b) PUnit.unit (fun _ _ _ _ => PUnit.unit) a
theorem binF_eq (P : Program) (h : H) (op : BinOp) (t : TypeId) (a b : V) : binF a b P h op t = bin P h op t a b := by
  cases a <;> try rfl
  cases b <;> try rfl
  exact binIF_eq ..

/-- What a cell of a block holds. -/
def ldC (a : Option Bool) : (n d : Nat) → Tr V d → Nat → Program → H → TypeId → R := @Option.rec Bool (fun _ => (n d : Nat) → Tr V d → Nat → Program → H → TypeId → R) (fun _ _ _ _ _ _ _ => .bad 20)
  (fun b => @Bool.rec (fun _ => (n d : Nat) → Tr V d → Nat → Program → H → TypeId → R) (fun n d tr o _ h _ => condF (Nat.blt o n) (rVF (vGet d o tr) h 17) (.bad 18)) (fun n d tr o P h t => condF (Nat.ble (Nat.add o (tsz P t)) n) (rdK (tsz P t) d tr o fun l => .v (.agg l) h) (.bad 19)) b) a
def ldB (x : B) : Nat → Program → H → TypeId → V → R := @B.rec (fun _ => Nat → Program → H → TypeId → V → R) (fun n d tr _ _ o P h t _ => ldC (tagg P t) n d tr o P h t) (fun _ _ P h t a => loadV P h t a) (fun _ _ _ P h t a => loadV P h t a) (fun _ _ _ _ _ _ _ _ _ _ P h t a => loadV P h t a) (fun _ P h t a => loadV P h t a) (fun _ P h t a => loadV P h t a) (fun _ _ _ _ _ P h t a => loadV P h t a) (fun _ _ _ _ P h t a => loadV P h t a) (fun n s _ _ o P h t _ => loadY P h t n s o) (fun _ _ P h t a => loadV P h t a) x
def ldO (x : Option B) : Nat → Program → H → TypeId → V → R := @Option.rec B (fun _ => Nat → Program → H → TypeId → V → R) (fun _ _ _ _ _ => .bad 21) (fun x o P h t a => ldB x o P h t a) x

def loadF (a : V) : Program → H → TypeId → R := @V.rec (fun _ => Program → H → TypeId → R) (fun _ => PUnit) (fun x1 x2 => fun _ _ _ => .bad 22) (fun x1 => fun _ _ _ => .bad 22) (fun x1 x2 => fun _ _ _ => .bad 22) (fun b o => fun P h t => ldO (hGet h b) o P h t (.ptr b o)) (fun x1 x2 x3 x4 x5 x6 => fun _ _ _ => .bad 22) (fun x1 x2 => fun _ _ _ => .bad 22) (fun x1 => fun _ _ _ => .bad 22) (fun x1 => fun _ _ _ => .bad 22) (fun x1 x2 x3 _ _ => fun _ _ _ => .bad 22) (fun x1 => fun _ _ _ => .bad 22) (fun x1 x2 _ => fun _ _ _ => .bad 22) (fun x1 x2 _ => fun _ _ _ => .bad 22) (fun x1 _ => fun _ _ _ => .bad 22) (fun x1 _ => fun _ _ _ => .bad 22) (fun _ _ _ => .bad 22) PUnit.unit (fun _ _ _ _ => PUnit.unit) a
theorem loadF_eq (P : Program) (h : H) (t : TypeId) (a : V) : loadF a P h t = loadB P h t a := by
  cases a <;> try rfl
  rename_i b o
  show ldO (hGet h b) o P h t (.ptr b o) = _
  cases hb : hGet h b with
  | none => simp [ldO, loadB, loadV, hb]
  | some x =>
    cases x <;> try (simp only [ldO, ldB, loadB, hb]; done)
    rename_i n d tr ty st
    show ldC (tagg P t) n d tr o P h t = _
    unfold loadB loadV
    simp only [hb]
    cases ht : tagg P t with
    | none => rfl
    | some q =>
      cases q with
      | false => simp only [ldC, condF_eq, rVF_eq]
      | true => simp only [ldC, condF_eq]

def cvK (P : Program) (s t : TypeId) : Option IntKind := match P.underlying s, P.underlying t with
  | some _, some (.int k) => some k
  | _, _ => none
def cvJ (q : Option IntKind) : IntKind → Int → Program → H → TypeId → TypeId → R := @Option.rec IntKind (fun _ => IntKind → Int → Program → H → TypeId → TypeId → R) (fun k z P h s t => conv P h s t (.int k z)) (fun k _ z _ h _ _ => rIntF (wrpF k z) k h) q

def convF (x : V) : Program → H → TypeId → TypeId → R := @V.rec (fun _ => Program → H → TypeId → TypeId → R) (fun _ => PUnit) (fun k z => fun P h s t => cvJ (cvK P s t) k z P h s t) (fun x1 => fun P h s t => convB P h s t (V.bool x1)) (fun x1 x2 => fun P h s t => convB P h s t (V.str x1 x2)) (fun x1 x2 => fun P h s t => convB P h s t (V.ptr x1 x2)) (fun x1 x2 x3 x4 x5 x6 => fun P h s t => convB P h s t (V.sl x1 x2 x3 x4 x5 x6)) (fun x1 x2 => fun P h s t => convB P h s t (V.es x1 x2)) (fun x1 => fun P h s t => convB P h s t (V.map x1)) (fun x1 => fun P h s t => convB P h s t (V.nil x1)) (fun x1 x2 x3 _ _ => fun P h s t => convB P h s t (V.fn x1 x2 x3)) (fun x1 => fun P h s t => convB P h s t (V.yld x1)) (fun x1 x2 _ => fun P h s t => convB P h s t (V.ifc x1 x2)) (fun x1 x2 _ => fun P h s t => convB P h s t (V.mth x1 x2)) (fun x1 _ => fun P h s t => convB P h s t (V.agg x1)) (fun x1 _ => fun P h s t => convB P h s t (V.tup x1)) (fun P h s t => convB P h s t V.und) PUnit.unit (fun _ _ _ _ => PUnit.unit) x
theorem convF_eq (P : Program) (h : H) (s t : TypeId) (x : V) : convF x P h s t = convB P h s t x := by
  cases x <;> try rfl
  rename_i k z
  show cvJ (cvK P s t) k z P h s t = _
  cases hq : cvK P s t with
  | none => rfl
  | some k' =>
    unfold cvK at hq
    split at hq <;> cases hq
    rename_i h1 h2
    simp only [cvJ, rIntF_eq, wrpF_eq, convB, conv, h1, h2]
def unI (op : UnOp) : IntKind → Int → H → R := @UnOp.rec (fun _ => IntKind → Int → H → R) (fun k n h => rIntF (wrpF k (Int.neg n)) k h) (fun k n h => un h .xor (.int k n)) (fun k n h => un h .not (.int k n)) (fun k n h => un h .plus (.int k n)) op
def unB (op : UnOp) : Bool → H → R := @UnOp.rec (fun _ => Bool → H → R) (fun b h => un h .neg (.bool b)) (fun b h => un h .xor (.bool b)) (fun b h => rBoolF (not b) h) (fun b h => un h .plus (.bool b)) op

def unF (x : V) : H → UnOp → R := @V.rec (fun _ => H → UnOp → R) (fun _ => PUnit) (fun k n => fun h op => unI op k n h) (fun b => fun h op => unB op b h) (fun x1 x2 => fun h op => un h op (V.str x1 x2)) (fun x1 x2 => fun h op => un h op (V.ptr x1 x2)) (fun x1 x2 x3 x4 x5 x6 => fun h op => un h op (V.sl x1 x2 x3 x4 x5 x6)) (fun x1 x2 => fun h op => un h op (V.es x1 x2)) (fun x1 => fun h op => un h op (V.map x1)) (fun x1 => fun h op => un h op (V.nil x1)) (fun x1 x2 x3 _ _ => fun h op => un h op (V.fn x1 x2 x3)) (fun x1 => fun h op => un h op (V.yld x1)) (fun x1 x2 _ => fun h op => un h op (V.ifc x1 x2)) (fun x1 x2 _ => fun h op => un h op (V.mth x1 x2)) (fun x1 _ => fun h op => un h op (V.agg x1)) (fun x1 _ => fun h op => un h op (V.tup x1)) (fun h op => un h op V.und) PUnit.unit (fun _ _ _ _ => PUnit.unit) x
theorem unF_eq (h : H) (op : UnOp) (x : V) : unF x h op = un h op x := by
  cases x <;> try rfl
  · cases op <;> first | rfl | simp only [unF, unI, un, rIntF_eq, wrpF_eq]
  · cases op <;> first | rfl | simp only [unF, unB, un, rBoolF_eq]
def faJ (q : Option (Nat × Nat × Bool)) : Nat → Nat → H → R := @Option.rec (Nat × Nat × Bool) (fun _ => Nat → Nat → H → R) (fun _ _ _ => .bad 48) (fun q b o h => condF (Nat.blt 0 q.2.1) (fN (Nat.add o q.1) fun o => .v (.ptr b o) h) (.bad 47)) q

def faF (x : V) : Program → H → TypeId → Nat → R := @V.rec (fun _ => Program → H → TypeId → Nat → R) (fun _ => PUnit) (fun x1 x2 => fun _ _ _ _ => .bad 49) (fun x1 => fun _ _ _ _ => .bad 49) (fun x1 x2 => fun _ _ _ _ => .bad 49) (fun b o => fun P h t i => faJ (tfld P t i) b o h) (fun x1 x2 x3 x4 x5 x6 => fun _ _ _ _ => .bad 49) (fun x1 x2 => fun _ _ _ _ => .bad 49) (fun x1 => fun _ _ _ _ => .bad 49) (fun x1 => fun _ _ _ _ => .bad 49) (fun x1 x2 x3 _ _ => fun _ _ _ _ => .bad 49) (fun x1 => fun _ _ _ _ => .bad 49) (fun x1 x2 _ => fun _ _ _ _ => .bad 49) (fun x1 x2 _ => fun _ _ _ _ => .bad 49) (fun x1 _ => fun _ _ _ _ => .bad 49) (fun x1 _ => fun _ _ _ _ => .bad 49) (fun _ _ _ _ => .bad 49) PUnit.unit (fun _ _ _ _ => PUnit.unit) x
theorem faF_eq (P : Program) (h : H) (t i : Nat) (x : V) : faF x P h t i = fldAddr P h t x i := by
  cases x <;> try rfl
  rename_i b o
  show faJ (tfld P t i) b o h = _
  simp only [fldAddr]
  cases tfld P t i with
  | none => rfl
  | some q => obtain ⟨a, b, c⟩ := q; simp only [faJ, condF_eq]
def slE (P : Program) (t : TypeId) : Option Nat := match P.underlying t with
  | some (.slice e) => some (tsz P e)
  | _ => none
def ixJ (q : Option Nat) : Nat → Nat → Nat → Nat → Nat → H → R := @Option.rec Nat (fun _ => Nat → Nat → Nat → Nat → Nat → H → R) (fun _ _ _ _ _ _ => .bad 57) (fun sz b o len es i h => condF (and (Nat.blt i len) (and (Nat.blt 0 es) (Nat.beq es sz))) (fN (Nat.add o (Nat.mul i es)) fun o => .v (.ptr b o) h) (.bad 56)) q
def ixN (z : Int) : IntKind → Nat → Nat → Nat → Nat → Nat → Bool → Program → H → TypeId → R := @Int.rec (fun _ => IntKind → Nat → Nat → Nat → Nat → Nat → Bool → Program → H → TypeId → R) (fun i _ b o len _ es _ P h t => ixJ (slE P t) b o len es i h) (fun _ _ _ _ _ _ _ _ _ _ _ => .bad 59) z

def ixI (x : V) : IntKind → Int → Program → H → TypeId → R := @V.rec (fun _ => IntKind → Int → Program → H → TypeId → R) (fun _ => PUnit) (fun x1 x2 => fun k z P h t => ixAddr P h t (V.int x1 x2) (.int k z)) (fun x1 => fun k z P h t => ixAddr P h t (V.bool x1) (.int k z)) (fun x1 x2 => fun k z P h t => ixAddr P h t (V.str x1 x2) (.int k z)) (fun x1 x2 => fun k z P h t => ixAddr P h t (V.ptr x1 x2) (.int k z)) (fun b o len kc es op => fun k z P h t => ixN z k b o len kc es op P h t) (fun x1 x2 => fun k z P h t => ixAddr P h t (V.es x1 x2) (.int k z)) (fun x1 => fun k z P h t => ixAddr P h t (V.map x1) (.int k z)) (fun x1 => fun k z P h t => ixAddr P h t (V.nil x1) (.int k z)) (fun x1 x2 x3 _ _ => fun k z P h t => ixAddr P h t (V.fn x1 x2 x3) (.int k z)) (fun x1 => fun k z P h t => ixAddr P h t (V.yld x1) (.int k z)) (fun x1 x2 _ => fun k z P h t => ixAddr P h t (V.ifc x1 x2) (.int k z)) (fun x1 x2 _ => fun k z P h t => ixAddr P h t (V.mth x1 x2) (.int k z)) (fun x1 _ => fun k z P h t => ixAddr P h t (V.agg x1) (.int k z)) (fun x1 _ => fun k z P h t => ixAddr P h t (V.tup x1) (.int k z)) (fun k z P h t => ixAddr P h t V.und (.int k z)) PUnit.unit (fun _ _ _ _ => PUnit.unit) x
def ixF (i : V) : V → Program → H → TypeId → R := @V.rec (fun _ => V → Program → H → TypeId → R) (fun _ => PUnit) (fun k z => fun x P h t => ixI x k z P h t) (fun x1 => fun _ _ _ _ => .bad 60) (fun x1 x2 => fun _ _ _ _ => .bad 60) (fun x1 x2 => fun _ _ _ _ => .bad 60) (fun x1 x2 x3 x4 x5 x6 => fun _ _ _ _ => .bad 60) (fun x1 x2 => fun _ _ _ _ => .bad 60) (fun x1 => fun _ _ _ _ => .bad 60) (fun x1 => fun _ _ _ _ => .bad 60) (fun x1 x2 x3 _ _ => fun _ _ _ _ => .bad 60) (fun x1 => fun _ _ _ _ => .bad 60) (fun x1 x2 _ => fun _ _ _ _ => .bad 60) (fun x1 x2 _ => fun _ _ _ _ => .bad 60) (fun x1 _ => fun _ _ _ _ => .bad 60) (fun x1 _ => fun _ _ _ _ => .bad 60) (fun _ _ _ _ => .bad 60) PUnit.unit (fun _ _ _ _ => PUnit.unit) i
theorem ixF_eq (P : Program) (h : H) (t : TypeId) (x i : V) : ixF i x P h t = ixAddr P h t x i := by
  cases i <;> try rfl
  rename_i k z
  cases x <;> try rfl
  rename_i b o len kc es op
  cases z with
  | negSucc n => rfl
  | ofNat i =>
    show ixJ (slE P t) b o len es i h = _
    simp only [ixAddr, nat?, slE]
    cases P.underlying t with
    | none => rfl
    | some td => cases td <;> first | rfl | simp only [ixJ, condF_eq]

def stC (b0 : Bool) : V → Nat → (n d : Nat) → Tr V d → TypeId → Bool → Nat → H → R := @Bool.rec (fun _ => V → Nat → (n d : Nat) → Tr V d → TypeId → Bool → Nat → H → R) (fun _ _ _ _ _ _ _ _ _ => .bad 23) (fun v b n d tr ty st o h => trSet d o tr v fun tr => hSet h b (some (.cells n d tr ty st)) fun h => .eff h) b0
def stB (x : B) : V → Nat → Nat → Program → H → TypeId → R := @B.rec (fun _ => V → Nat → Nat → Program → H → TypeId → R) (fun n d tr ty st v b o P h t => stC (and (Nat.beq 1 (tsz P t)) (Nat.ble (Nat.add o 1) n)) v b n d tr ty st o h) (fun _ v b o P h t => storeV P h t (.ptr b o) v) (fun _ _ v b o P h t => storeV P h t (.ptr b o) v) (fun _ _ _ _ _ _ _ _ _ v b o P h t => storeV P h t (.ptr b o) v) (fun v b o P h t => storeV P h t (.ptr b o) v) (fun v b o P h t => storeV P h t (.ptr b o) v) (fun _ _ _ _ v b o P h t => storeV P h t (.ptr b o) v) (fun _ _ _ v b o P h t => storeV P h t (.ptr b o) v) (fun n s ty st v b o P h t => storeY P h t b o n s ty st v) (fun _ v b o P h t => storeV P h t (.ptr b o) v) x
def stO (x : Option B) : V → Nat → Nat → Program → H → TypeId → R := @Option.rec B (fun _ => V → Nat → Nat → Program → H → TypeId → R) (fun _ _ _ _ _ _ => .bad 24) (fun x v b o P h t => stB x v b o P h t) x

def stV (v : V) : Nat → Nat → Program → H → TypeId → R := @V.rec (fun _ => Nat → Nat → Program → H → TypeId → R) (fun _ => PUnit) (fun x1 x2 => fun b o P h t => stO (hGet h b) (V.int x1 x2) b o P h t) (fun x1 => fun b o P h t => stO (hGet h b) (V.bool x1) b o P h t) (fun x1 x2 => fun b o P h t => stO (hGet h b) (V.str x1 x2) b o P h t) (fun x1 x2 => fun b o P h t => stO (hGet h b) (V.ptr x1 x2) b o P h t) (fun x1 x2 x3 x4 x5 x6 => fun b o P h t => stO (hGet h b) (V.sl x1 x2 x3 x4 x5 x6) b o P h t) (fun x1 x2 => fun b o P h t => stO (hGet h b) (V.es x1 x2) b o P h t) (fun x1 => fun b o P h t => stO (hGet h b) (V.map x1) b o P h t) (fun x1 => fun b o P h t => stO (hGet h b) (V.nil x1) b o P h t) (fun x1 x2 x3 _ _ => fun b o P h t => stO (hGet h b) (V.fn x1 x2 x3) b o P h t) (fun x1 => fun b o P h t => stO (hGet h b) (V.yld x1) b o P h t) (fun x1 x2 _ => fun b o P h t => stO (hGet h b) (V.ifc x1 x2) b o P h t) (fun x1 x2 _ => fun b o P h t => stO (hGet h b) (V.mth x1 x2) b o P h t) (fun x1 _ => fun b o P h t => storeB P h t (.ptr b o) (V.agg x1)) (fun x1 _ => fun b o P h t => storeB P h t (.ptr b o) (V.tup x1)) (fun b o P h t => storeB P h t (.ptr b o) V.und) PUnit.unit (fun _ _ _ _ => PUnit.unit) v
def stF (a : V) : V → Program → H → TypeId → R := @V.rec (fun _ => V → Program → H → TypeId → R) (fun _ => PUnit) (fun x1 x2 => fun _ _ _ _ => .bad 25) (fun x1 => fun _ _ _ _ => .bad 25) (fun x1 x2 => fun _ _ _ _ => .bad 25) (fun b o => fun v P h t => stV v b o P h t) (fun x1 x2 x3 x4 x5 x6 => fun _ _ _ _ => .bad 25) (fun x1 x2 => fun _ _ _ _ => .bad 25) (fun x1 => fun _ _ _ _ => .bad 25) (fun x1 => fun _ _ _ _ => .bad 25) (fun x1 x2 x3 _ _ => fun _ _ _ _ => .bad 25) (fun x1 => fun _ _ _ _ => .bad 25) (fun x1 x2 _ => fun _ _ _ _ => .bad 25) (fun x1 x2 _ => fun _ _ _ _ => .bad 25) (fun x1 _ => fun _ _ _ _ => .bad 25) (fun x1 _ => fun _ _ _ _ => .bad 25) (fun _ _ _ _ => .bad 25) PUnit.unit (fun _ _ _ _ => PUnit.unit) a
theorem stO_eq (P : Program) (h : H) (t : TypeId) (v : V) (b o : Nat) (h1 : cellsOf v = [v]) (h2 : one v = true) : stO (hGet h b) v b o P h t = storeB P h t (.ptr b o) v := by
  cases hb : hGet h b with
  | none => simp [stO, storeB, storeV, hb]
  | some x =>
    cases x with
    | cells n d tr ty st =>
      show stC (and (Nat.beq 1 (tsz P t)) (Nat.ble (Nat.add o 1) n)) v b n d tr ty st o h = _
      have e1 : ones [v] = true := by show (one v && true) = true; simp [h2]
      have e2 : (and (Nat.blt 0 (tsz P t)) (and (and (Nat.beq [v].length (tsz P t)) (ones [v])) (Nat.ble (Nat.add o [v].length) n))) = (and (Nat.beq 1 (tsz P t)) (Nat.ble (Nat.add o 1) n)) := by
        rw [e1]
        simp only [List.length_singleton]
        cases hq : Nat.beq 1 (tsz P t) with
        | false => simp
        | true =>
          have := Nat.eq_of_beq_eq_true hq
          rw [← this]; rfl
      simp only [storeB, storeV, hb, fL_eq, h1]
      rw [e2]
      cases (and (Nat.beq 1 (tsz P t)) (Nat.ble (Nat.add o 1) n)) with
      | false => rfl
      | true =>
        show trSet d o tr v _ = wrK [v] d tr o _
        show _ = trSet d o tr v fun t => fN (Nat.succ o) fun o => _
        rw [trSet_eq, trSet_eq, fN_eq]
    | _ => simp only [stO, stB, storeB, hb]
theorem stF_eq (P : Program) (h : H) (t : TypeId) (a v : V) : stF a v P h t = storeB P h t a v := by
  cases a <;> try rfl
  cases v <;> first | rfl | exact stO_eq _ _ _ _ _ _ rfl rfl

def evOpF (o : Op) : Program → (Operand → V) → H → R := @Op.rec (fun _ => Program → (Operand → V) → H → R)
  (fun x P ρ h => rVF (ρ x) h 143)
  (fun x P ρ h => rVF (ρ x) h 143)
  (fun c a b P ρ h => evOp P ρ (.pick c a b) h)
  (fun e P ρ h => evOp P ρ (.alloc e) h)
  (fun e v P ρ h => evOp P ρ (.box e v) h)
  (fun t ps P ρ h => evOp P ρ (.build t ps) h)
  (fun t l ps P ρ h => evOp P ρ (.buildSlice t l ps) h)
  (fun t m k v P ρ h => evOp P ρ (.insert t m k v) h)
  (fun t a P ρ h => loadF (ρ a) P h t)
  (fun t a x P ρ h => stF (ρ a) (ρ x) P h t)
  (fun g P ρ h => evOp P ρ (.ready g) h)
  (fun g P ρ h => evOp P ρ (.waits g) h)
  (fun x P ρ h => evOp P ρ (.nilCheck x) h)
  (fun op t x y yt P ρ h => binF (ρ x) (ρ y) P h op t)
  (fun op t x P ρ h => unF (ρ x) h op)
  (fun s t x P ρ h => convF (ρ x) P h s t)
  (fun t x P ρ h => evOp P ρ (.sliceToArrayPointer t x) h)
  (fun t x P ρ h => evOp P ρ (.makeInterface t x) h)
  (fun f a b P ρ h => evOp P ρ (.makeFunc f a b) h)
  (fun t r P ρ h => evOp P ρ (.makeMap t r) h)
  (fun t s P ρ h => evOp P ρ (.makeChan t s) h)
  (fun t l c P ρ h => evOp P ρ (.makeSlice t l c) h)
  (fun t x lo hi mx P ρ h => evOp P ρ (.slice t x lo hi mx) h)
  (fun t x i P ρ h => faF (ρ x) P h t i)
  (fun t x i P ρ h => fldV P h t (ρ x) i)
  (fun t x i P ρ h => ixF (ρ i) (ρ x) P h t)
  (fun t x i P ρ h => ixV P h t (ρ x) (ρ i))
  (fun t x k ok P ρ h => evOp P ρ (.lookup t x k ok) h)
  (fun t m k v P ρ h => evOp P ρ (.mapUpdate t m k v) h)
  (fun t m k P ρ h => evOp P ρ (.mapEntry t m k) h)
  (fun t m s v P ρ h => evOp P ρ (.entryStore t m s v) h)
  (fun t x P ρ h => evOp P ρ (.range t x) h)
  (fun i s P ρ h => evOp P ρ (.next i s) h)
  (fun i P ρ h => evOp P ρ (.entry i) h)
  (fun x t a ok P ρ h => evOp P ρ (.typeAssert x t a ok) h)
  (fun t i P ρ h => evOp P ρ (.extract t i) h)
  (fun c P ρ h => evCall P ρ c h)
  (fun c P ρ h => evOp P ρ (.go c) h)
  (fun c P ρ h => evOp P ρ (.defer c) h)
  (fun x P ρ h => evOp P ρ (.panic x) h)
  (fun c x P ρ h => evOp P ρ (.send c x) h)
  (fun t c ok P ρ h => evOp P ρ (.recv t c ok) h)
  (fun cs b P ρ h => evOp P ρ (.select cs b) h) o
theorem evOpF_eq (P : Program) (ρ : Operand → V) (o : Op) (h : H) : evOpF o P ρ h = evOp P ρ o h := by
  cases o <;> first | rfl | exact rVF_eq .. | exact loadF_eq .. | exact binF_eq .. | exact stF_eq .. | exact unF_eq .. | exact convF_eq .. | exact faF_eq .. | exact ixF_eq ..
end
end Go.Proofs.YtkgiammeeckfbaaGreat
