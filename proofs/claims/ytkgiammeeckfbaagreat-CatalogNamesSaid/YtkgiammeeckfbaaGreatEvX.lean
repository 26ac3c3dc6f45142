/- A reckoner for the kernel: functions. Definitions. It is of no program. -/
import Derived.Test.YtkgiammeeckfbaaGreatEvW
namespace Go.Proofs.YtkgiammeeckfbaaGreat
open Go Go.RowKit
set_option linter.all false
noncomputable section

/-! ### Functions -/
inductive Res where
  | ok (v : V) (h : H)
  | bad (n : Nat) (at' : Nat)
/-- A function of the program that returns, or one without a body that answers at once. -/
def Dn (P : Program) (f : FuncId) (us : List Value) (w : World) (Q : Value → World → Prop) : Prop := (CF P f ∧ Ret P f us w Q) ∨ ∃ u w', (callFunc f us.toArray).run P w = .ok (.value u) w' ∧ Q u w'
/-- Functions that are not walked, but known: what they answer, and that they do. -/
structure Hook (P : Program) (G : Nat) where
  fn : FuncId → Option (List V → H → Option Res)
  ok : ∀ f g, fn f = some g → ∀ args h v h', g args h = some (.ok v h') → ∀ φ w us, Rel G φ h w → CVs φ args us → Dn P f us w fun u w' => ∃ φ', Post G φ h w φ' h' w' ∧ CV φ' v u
  /-- Deferred functions that are known, while the frame below returns. -/
  dfn : FuncId → Option (List V → H → Res)
  dok : ∀ f g, dfn f = some g → ∀ args h v h', g args h = .ok v h' → ∀ φ w us, Rel G φ h w → CVs φ args us → CF P f ∧ RetD P f us w fun u w' => ∃ φ', Post G φ h w φ' h' w' ∧ CV φ' v u
/-- None. -/
def Hook.none (P : Program) (G : Nat) : Hook P G := ⟨fun _ => Option.none, fun _ _ h => (by cases h), fun _ => Option.none, fun _ _ h => (by cases h)⟩
structure Fr where
  f : FuncId
  d : Nat
  n : Nat
  res : List ResultVar
  rd : Option Nat
  dk : Bool
/-- What has been deferred. -/
inductive DV where
  | mk (m : Nat)
  | call (f : Nat) (cap args : List V)
def opV (G d : Nat) (E : Tr V d) (x : Operand) : V := match x with
  | .tmp i => vGet d i E
  | .const v => ofV v
  | .global g => cond (Nat.blt g G) (.ptr g 0) .und
  | .func f => .fn f [] []
/-- Is the operation to be carried out? -/
def wants (d : Nat) (E : Tr V d) (ops : List Oper) (g : Option (Nat × Bool)) : Option Bool := match g with
  | none => some true
  | some (j, b) => match ops[j]? with
    | some o => match o.dst with
      | some i => match vGet d i E with
        | .bool c => some (beqB b c)
        | .tup _ => some false
        | _ => none
      | none => none
    | none => none
def dstV {β : Type} (d : Nat) (E : Tr V d) (dst : Option Nat) (v : V) (c : Tr V d → β) : β := match dst with
  | none => c E
  | some i => trSet d i E v c
def fnOf (P : Program) (f : FuncId) : Option Func := P.funcs[f]?
def bodyOf (P : Program) (f : FuncId) : Option (Code × Nat × Nat × List ResultVar) := match P.funcs[f]? with
  | some fn => match fn.body with
    | some c => cond (fn.name == "runtime.NumGoroutine") none (some (c, fn.ntmps, lvls fn.ntmps, fn.results.toList))
    | none => none
  | none => none
/-- What a function has for its results. -/
def resV (P : Program) (d : Nat) (E : Tr V d) (h : H) : List ResultVar → Option (List V)
  | [] => some []
  | r :: l => match resV P d E h l with
    | none => none
    | some vs => match r with
      | .tmp t => match vGet d t E with
        | .und => none
        | v => some (v :: vs)
      | .cell a t => match loadV P h t (vGet d a E) with
        | .v v _ => some (v :: vs)
        | _ => none
def resOne : List V → V
  | [v] => v
  | l => .tup l
abbrev RunT := List Oper → List Oper → List Item → (fr : Fr) → Tr V fr.d → List DV → H → Res
/-- A deferred function is entered. -/
def enterD0 (P : Program) (ih : RunT) (f : FuncId) (args : List V) (h : H) : Res := match bodyOf P f with
  | some (c, n, d, res) => cond (Nat.ble args.length n) (wrK args d (trNew .und d) 0 fun E => ih [] [] [.code c] ⟨f, d, n, res, none, true⟩ E [] h) (.bad 240 f)
  | none => .bad 241 f
def enterD (P : Program) (G : Nat) (X : Hook P G) (ih : RunT) (f : FuncId) (args : List V) (h : H) : Res := match X.dfn f with
  | some g => g args h
  | none => enterD0 P ih f args h
/-- What was deferred is done. -/
def leaveAll (P : Program) (G : Nat) (X : Hook P G) (ih : RunT) (ms : List DV) (h : H) (c : H → Res) : Res := List.rec (motive := fun _ => H → Res) (fun h => c h) (fun m _ go h => match m with
  | .mk m => match hGet h m with
    | some .dfr => hSet h m (some .shut) go
    | _ => .bad 201 0
  | .call f cap args => fL (args ++ cap) fun l => match enterD P G X ih f l h with
    | .ok _ h => go h
    | .bad n a => .bad n a) ms h
def retF (P : Program) (G : Nat) (X : Hook P G) (ih : RunT) (fr : Fr) (E : Tr V fr.d) (ms : List DV) (h : H) : Res := cond (and fr.dk (not ms.isEmpty)) (.bad 242 fr.f) (leaveAll P G X ih ms h (fun h => match resV P fr.d E h fr.res with
  | some l => fL l fun l => .ok (resOne l) h
  | none => .bad 200 fr.f))
/-- A function is entered. -/
def enterN (P : Program) (ih : RunT) (f : FuncId) (args : List V) (h : H) : Res := match bodyOf P f with
  | some (c, n, d, res) => cond (Nat.ble args.length n) (wrK args d (trNew .und d) 0 fun E => ih [] [] [.code c] ⟨f, d, n, res, none, false⟩ E [] h) (.bad 202 f)
  | none => .bad 203 f
def enterF (P : Program) (G : Nat) (X : Hook P G) (ih : RunT) (f : FuncId) (args : List V) (h : H) : Res := match X.fn f with
  | some g => match g args h with
    | some r => r
    | none => enterN P ih f args h
  | none => enterN P ih f args h
/-- A round of a loop over a function ends. -/
def endRound (fr : Fr) (l : Nat) (jump : Option Code) (h : H) : Res := match hGet h l with
  | some (.loop st pend f ed E n ps a b) => hSet h l (some (.loop (match jump with | none => .ready | some _ => .done) jump f ed E n ps a b)) fun h => .ok (.bool jump.isNone) h
  | _ => .bad 204 fr.f
def bindV {β : Type} (d : Nat) (E : Tr V d) (ps : List Tmp) (args : List V) (c : Tr V d → β) (no : β) : β := match ps, args with
  | p :: ps, v :: vs => trSet d p E v fun E => bindV d E ps vs c no
  | [], [] => c E
  | _, _ => no
def roundF (P : Program) (ih : RunT) (l : Nat) (args : List V) (h : H) : Res := match hGet h l with
  | some (.loop .ready _ f ed E n ps a b) => cond (ps.all (Nat.blt · n)) (bindV ed E ps args (fun E => ih [] [] [.code a, .beginRound, .code b] ⟨f, ed, n, [], some l, false⟩ E [] h) (.bad 205 f)) (.bad 220 f)
  | _ => .bad 206 l
def stepOp (P : Program) (G : Nat) (X : Hook P G) (ih : RunT) (ops : List Oper) (o : Oper) (rest : List Oper) (k : List Item) (fr : Fr) (E : Tr V fr.d) (ms : List DV) (h : H) : Res :=
  match wants fr.d E ops o.guard with
  | some true => match evOp P (opV G fr.d E) o.op h with
    | .v x h => dstV fr.d E o.dst x fun E => ih ops rest k fr E ms h
    | .eff h => match o.dst with
      | none => ih ops rest k fr E ms h
      | some _ => .bad 219 fr.f
    | .call f args => match enterF P G X ih f args h with
      | .ok x h => dstV fr.d E o.dst x fun E => ih ops rest k fr E ms h
      | .bad n a => .bad n a
    | .yld l args => match roundF P ih l args h with
      | .ok x h => dstV fr.d E o.dst x fun E => ih ops rest k fr E ms h
      | .bad n a => .bad n a
    | .dfr f cap args => match o.dst, fr.rd with
      | none, none => ih ops rest k fr E (.call f cap args :: ms) h
      | _, _ => .bad 245 fr.f
    | .bad n => .bad n fr.f
  | some false => dstV fr.d E o.dst (.tup []) fun E => ih ops rest k fr E ms h
  | none => .bad 207 fr.f
def leave (P : Program) (G : Nat) (X : Hook P G) (ih : RunT) (jump : Option Code) (fr : Fr) (E : Tr V fr.d) (ms : List DV) (h : H) : Res := match fr.rd with
  | some l => endRound fr l jump h
  | none => match jump with
    | none | some .ret => retF P G X ih fr E ms h
    | _ => .bad 208 fr.f
/-- A loop over a function. -/
def rangeF (P : Program) (G : Nat) (X : Hook P G) (ih : RunT) (fv : Operand) (ps : List Tmp) (a b : Code) (k : List Item) (fr : Fr) (E : Tr V fr.d) (ms : List DV) (h : H) : Res := match opV G fr.d E fv with
  | .fn f p q => hNew h (.loop .ready none fr.f fr.d E fr.n ps a b) fun l h => fL (p ++ [.yld l] ++ q) fun args => match enterN P ih f args h with
    | .ok _ h => match hGet h l with
      | some (.loop .busy _ _ _ _ _ _ _ _) => .bad 211 fr.f
      | some (.loop _ pend _ _ _ _ _ _ _) => hSet h l none fun h => ih [] [] ((pend.map Item.code).toList ++ k) fr E ms h
      | _ => .bad 211 fr.f
    | .bad n a => .bad n a
  | _ => .bad 212 fr.f
/-! ### Regions that draw their order -/
def ancOf (acc : List Nat) (l : List Edge) : Nat := List.rec (motive := fun _ => Nat) 0 (fun e _ s => cond (Region.binds .any e) (Nat.lor s (Nat.lor (Nat.pow 2 e.on) (acc.getD e.on 0))) s) l
def ancs (ops : List Oper) : List Nat → List Nat := List.rec (motive := fun _ => List Nat → List Nat) (fun acc => acc) (fun o _ ih acc => ih (acc ++ [ancOf acc o.after.toList])) ops
/-- What has to be done ahead of operation j: a set of bits. -/
def anc (ops : List Oper) (j : Nat) : Nat := (ancs ops []).getD j 0
def opAt (ops : List Oper) (j : Nat) : Option Oper := ops[j]?
def isRd (P : Program) (ops : List Oper) (j : Nat) : Bool := match ops[j]? with | some o => rdOp P o.op | none => false
def isAlAt (ops : List Oper) (j : Nat) : Bool := match ops[j]? with | some o => isAl o.op | none => false
/-- Operations that act: they are carried out in one order. -/
def isE (P : Program) (ops : List Oper) (j : Nat) : Bool := and (not (isRd P ops j)) (not (isAlAt ops j))
def es (P : Program) (ops : List Oper) : List Nat := (List.range ops.length).filter (isE P ops)
def frees (P : Program) (ops : List Oper) : List Nat := (List.range ops.length).filter fun j => and (not (isRd P ops j)) (not (isE P ops j))
def rk (P : Program) (ops : List Oper) (j : Nat) : Nat := (frees P ops).findIdx fun i => Nat.beq i j
def nFree (P : Program) (ops : List Oper) : Nat := (frees P ops).length
/-- Up to so many acting operations the operation j may come; behind so many it comes at least. -/
def cMax (P : Program) (ops : List Oper) (j : Nat) : Nat := (es P ops).findIdx fun e => (anc ops e).testBit j
def cMinL (m : Nat) (l : List Nat) : Nat → Nat → Nat := List.rec (motive := fun _ => Nat → Nat → Nat) (fun _ r => r) (fun e _ ih i r => ih (i + 1) (cond (m.testBit e) (i + 1) r)) l
def cMin (P : Program) (ops : List Oper) (j : Nat) : Nat := cMinL (anc ops j) (es P ops) 0 0
def chained (ops : List Oper) : List Nat → Bool
  | a :: b :: l => and ((anc ops b).testBit a) (chained ops (b :: l))
  | _ => true
def tmpsOf (l : List Operand) : List Nat := l.filterMap fun | .tmp t => some t | _ => none
def readsOf (ops : List Oper) (o : Oper) : List Nat := tmpsOf o.op.operands.toList ++ (match o.guard with
  | some (i, _) => (match ops[i]? with | some g => g.dst.toList | none => [])
  | none => [])
def slotsOk (ops : List Oper) : Bool := (List.range ops.length).all fun j => match ops[j]? with
  | some o => (readsOf ops o).all fun t => (List.range ops.length).all fun i => match ops[i]? with
    | some q => match q.dst with
      | some s => cond (Nat.beq s t) (or ((anc ops j).testBit i) (or (Nat.beq i j) ((anc ops i).testBit j))) true
      | none => true
    | none => true
  | none => true
def dstsOf (ops : List Oper) : List Nat := ops.filterMap (·.dst)
def nodupB : List Nat → Bool
  | [] => true
  | a :: l => and (l.all fun b => not (Nat.beq a b)) (nodupB l)
def backOk (ops : List Oper) : Bool := (List.range ops.length).all fun j => Nat.blt (anc ops j) (Nat.pow 2 j)
def stOk (P : Program) (n : Nat) (ops : List Oper) : Bool := and (and (dstsOk n ops) (calm ops)) (and (and (nodupB (dstsOf ops)) (backOk ops)) (and (chained ops (es P ops)) (slotsOk ops)))
/-- Blocks are laid into the memory. -/
def addAll {β : Type} (P : Program) (ops : List Oper) (b0 : Nat) (al : List (Nat × B)) (h : H) (c : H → β) : β := List.rec (motive := fun _ => H → β) (fun h => c h) (fun p _ ih h => hSet h (Nat.add b0 (rk P ops p.1)) (some p.2) ih) al h
def vEqs (f : V → V → Bool) (l : List V) : List V → Bool := List.rec (motive := fun _ => List V → Bool) (fun m => m.isEmpty) (fun a _ ih m => match m with | [] => false | b :: m => and (f a b) (ih m)) l
def nkEq : NK → NK → Bool
  | .ptr, .ptr | .sl, .sl | .map, .map | .fn, .fn | .ifc, .ifc => true
  | _, _ => false
def vEq (n : Nat) : V → V → Bool := Nat.rec (motive := fun _ => V → V → Bool) (fun _ _ => false) (fun _ ih a b => match a, b with
  | .int k a, .int k' b => and (keq k k') (ieq a b)
  | .bool a, .bool b => beqB a b
  | .str n s, .str m t => and (Nat.beq n m) (Nat.beq s t)
  | .ptr b o, .ptr b' o' => and (Nat.beq b b') (Nat.beq o o')
  | .sl b o l k e p, .sl b' o' l' k' e' p' => and (and (and (Nat.beq b b') (Nat.beq o o')) (and (Nat.beq l l') (Nat.beq k k'))) (and (Nat.beq e e') (beqB p p'))
  | .es b e, .es b' e' => and (Nat.beq b b') (Nat.beq e e')
  | .map b, .map b' => Nat.beq b b'
  | .nil k, .nil k' => nkEq k k'
  | .fn f p q, .fn f' p' q' => and (Nat.beq f f') (and (vEqs ih p p') (vEqs ih q q'))
  | .yld l, .yld l' => Nat.beq l l'
  | .ifc t v, .ifc t' v' => and (Nat.beq t t') (ih v v')
  | .mth a x, .mth b y => and (a == b) (ih x y)
  | .agg l, .agg m => vEqs ih l m
  | .tup l, .tup m => vEqs ih l m
  | _, _ => false) n
abbrev DrawT (fr : Fr) := Tr V fr.d → H → List H → List (Nat × B) → List (Tr V fr.d) → Res
/-- The blocks that come into the memory with the acting operation of number c; those that come later. -/
def joinB (P : Program) (ops : List Oper) (c : Nat) (p : Nat × B) : Bool := Nat.beq (cMax P ops p.1) c
def lateB (P : Program) (ops : List Oper) (c : Nat) (p : Nat × B) : Bool := Nat.ble c (cMax P ops p.1)
/-- The region in the order of the text; the memory behind each acting operation is kept. -/
def drawGo (P : Program) (G : Nat) (X : Hook P G) (ih : RunT) (ops : List Oper) (b0 : Nat) (fr : Fr) (cont : DrawT fr) (l : List Oper) : Nat → Tr V fr.d → H → H → List H → List (Nat × B) → List (Tr V fr.d) → Res :=
  List.rec (motive := fun _ => Nat → Tr V fr.d → H → H → List H → List (Nat × B) → List (Tr V fr.d) → Res) (fun _ E cur _ hs al Es => cont E cur hs al Es) (fun o _ go j E0 cur ful hs al Es =>
    match wants fr.d E0 ops o.guard with
    | some true => match isRd P ops j with
      | true => match evOp P (opV G fr.d E0) o.op ful with
        | .v x _ => dstV fr.d E0 o.dst x fun E => go (Nat.succ j) E cur ful hs al (E0 :: Es)
        | .bad n => .bad n fr.f
        | _ => .bad 222 fr.f
      | false => match isE P ops j with
        | false => match alOp P (opV G fr.d E0) o.op with
          | some (x, mk) => dstV fr.d E0 o.dst (mk (Nat.add b0 (rk P ops j))) fun E => hSet ful (Nat.add b0 (rk P ops j)) (some x) fun ful => go (Nat.succ j) E cur ful hs ((j, x) :: al) (E0 :: Es)
          | none => .bad 223 fr.f
        | true => addAll P ops b0 (al.filter (joinB P ops (List.length hs))) cur fun cur => match evOp P (opV G fr.d E0) o.op cur with
          | .v x h => dstV fr.d E0 o.dst x fun E => addAll P ops b0 (al.filter (lateB P ops (Nat.succ (List.length hs)))) h fun ful => go (Nat.succ j) E h ful (h :: hs) al (E0 :: Es)
          | .eff h => match o.dst with
            | none => addAll P ops b0 (al.filter (lateB P ops (Nat.succ (List.length hs)))) h fun ful => go (Nat.succ j) E0 h ful (h :: hs) al (E0 :: Es)
            | some _ => .bad 219 fr.f
          | .call f args => match enterF P G X ih f args cur with
            | .ok x h => dstV fr.d E0 o.dst x fun E => addAll P ops b0 (al.filter (lateB P ops (Nat.succ (List.length hs)))) h fun ful => go (Nat.succ j) E h ful (h :: hs) al (E0 :: Es)
            | .bad n a => .bad n a
          | .yld l args => match roundF P ih l args cur with
            | .ok x h => dstV fr.d E0 o.dst x fun E => addAll P ops b0 (al.filter (lateB P ops (Nat.succ (List.length hs)))) h fun ful => go (Nat.succ j) E h ful (h :: hs) al (E0 :: Es)
            | .bad n a => .bad n a
          | .dfr _ _ _ => .bad 243 fr.f
          | .bad n => .bad n fr.f
    | some false => dstV fr.d E0 o.dst (.tup []) fun E => match isE P ops j with
      | true => addAll P ops b0 (al.filter (joinB P ops (List.length hs))) cur fun cur => go (Nat.succ j) E cur ful (cur :: hs) al (E0 :: Es)
      | false => go (Nat.succ j) E cur ful hs al (E0 :: Es)
    | none => .bad 207 fr.f) l
/-- Does operation j read the same behind each number of acting operations at which it may come? -/
def readOk (P : Program) (G : Nat) (ops : List Oper) (b0 : Nat) (d : Nat) (E Ej : Tr V d) (hh : List H) (al : List (Nat × B)) (j : Nat) (o : Oper) (c : Nat) : Bool := match hh[c]? with
  | some h => addAll P ops b0 (al.filter fun p => and ((anc ops j).testBit p.1) (lateB P ops c p)) h fun h => match evOp P (opV G d Ej) o.op h with
    | .v x _ => match o.dst with
      | some t => vEq 20 x (vGet d t E)
      | none => true
    | _ => false
  | none => false
def readsOk (P : Program) (G : Nat) (ops : List Oper) (b0 : Nat) (d : Nat) (E : Tr V d) (hh : List H) (al : List (Nat × B)) (Es : List (Tr V d)) : Bool := (List.range ops.length).all fun j => match ops[j]? with
  | some o => cond (isRd P ops j) (match Es[j]? with
    | some Ej => (match wants d Ej ops o.guard with
      | some true => (List.range' (cMin P ops j) (Nat.sub (Nat.succ (cMax P ops j)) (cMin P ops j))).all (readOk P G ops b0 d E Ej hh al j o)
      | _ => true)
    | none => false) true
  | none => true
/-- A region that draws its order. -/
def drawn (P : Program) (G : Nat) (X : Hook P G) (ih : RunT) (ops : List Oper) (k : List Item) (fr : Fr) (E : Tr V fr.d) (ms : List DV) (h : H) : Res :=
  cond (and (P.follows .mixedOrders) (stOk P fr.n ops)) (fN (Nat.add h.next (nFree P ops)) fun nx =>
    drawGo P G X ih ops h.next fr (fun E cur hs al Es => cond (readsOk P G ops h.next fr.d E ((⟨h.t, nx⟩ : H) :: hs.reverse) al Es.reverse) (addAll P ops h.next (al.filter (lateB P ops (List.length hs))) cur fun hF => ih [] [] k fr E ms hF) (.bad 224 fr.f)) ops 0 E ⟨h.t, nx⟩ ⟨h.t, nx⟩ [] [] []) (.bad 225 fr.f)
def stepC (P : Program) (G : Nat) (X : Hook P G) (ih : RunT) (c : Code) (k : List Item) (fr : Fr) (E : Tr V fr.d) (ms : List DV) (h : H) : Res := match c with
  | .skip | .label _ => ih [] [] k fr E ms h
  | .region _ ops false => cond (dstsOk fr.n ops.toList) (ih ops.toList ops.toList k fr E ms h) (.bad 218 fr.f)
  | .region _ ops true => drawn P G X ih ops.toList k fr E ms h
  | .seq a b => ih [] [] (.code a :: .code b :: k) fr E ms h
  | .cond c a b => match opV G fr.d E c with
    | .bool true => ih [] [] (.code a :: k) fr E ms h
    | .bool false => ih [] [] (.code b :: k) fr E ms h
    | _ => .bad 209 fr.f
  | .block id b => ih [] [] (.code b :: .inBlock id :: k) fr E ms h
  | .loop b => ih [] [] (.code b :: .inLoop b :: k) fr E ms h
  | .exit id => match exitTo id k with
    | some k => ih [] [] k fr E ms h
    | none => leave P G X ih (some (.exit id)) fr E ms h
  | .goto l => match gotoIn l k with
    | some k => ih [] [] k fr E ms h
    | none => .bad 210 fr.f
  | .scope b => ih [] [] (.code b :: .inScope b :: k) fr E ms h
  | .ret => leave P G X ih (some .ret) fr E ms h
  | .rangeFunc fv ps a b => match fr.rd with
    | none => cond fr.dk (.bad 246 fr.f) (hNew h .dfr fun m h => rangeF P G X ih fv ps.toList a b k fr E (.mk m :: ms) h)
    | some l => match hGet h l with
      | some (.loop _ _ _ _ _ _ _ _ _) => rangeF P G X ih fv ps.toList a b k fr E ms h
      | _ => .bad 221 fr.f
  | _ => .bad 213 fr.f
def stepI (P : Program) (G : Nat) (X : Hook P G) (ih : RunT) (k : List Item) (fr : Fr) (E : Tr V fr.d) (ms : List DV) (h : H) : Res := match k with
  | [] => leave P G X ih none fr E ms h
  | .code c :: k => stepC P G X ih c k fr E ms h
  | .inBlock _ :: k => ih [] [] k fr E ms h
  | .inScope _ :: k => ih [] [] k fr E ms h
  | .inLoop b :: k => ih [] [] (.code b :: .inLoop b :: k) fr E ms h
  | .beginRound :: k => match fr.rd with
    | some l => match hGet h l with
      | some (.loop .ready pend f ed E' n ps a b) => hSet h l (some (.loop .busy pend f ed E' n ps a b)) fun h => ih [] [] k fr E ms h
      | _ => .bad 214 fr.f
    | none => .bad 215 fr.f
  | _ => .bad 216 fr.f
/-! The same steps in a form that the kernel goes through quickly. -/
def dstF (dst : Option Nat) : (d : Nat) → Tr V d → V → (Tr V d → Res) → Res := @Option.rec Nat (fun _ => (d : Nat) → Tr V d → V → (Tr V d → Res) → Res) (fun _ E _ c => c E) (fun i d E v c => trSet d i E v c) dst
theorem dstF_eq (dst : Option Nat) (d : Nat) (E : Tr V d) (v : V) (c : Tr V d → Res) : dstF dst d E v c = dstV d E dst v c := by cases dst <;> rfl
def resF (r : Res) : (V → H → Res) → Res := @Res.rec (fun _ => (V → H → Res) → Res) (fun x h c => c x h) (fun n a _ => .bad n a) r
theorem resF_eq (r : Res) (c : V → H → Res) : resF r c = (match r with | .ok x h => c x h | .bad n a => .bad n a) := by cases r <;> rfl
def enterB (b : Option (Code × Nat × Nat × List ResultVar)) : RunT → Nat → List V → H → Res := @Option.rec (Code × Nat × Nat × List ResultVar) (fun _ => RunT → Nat → List V → H → Res) (fun _ f _ _ => .bad 203 f)
  (fun b ih f args h => @Bool.rec (fun _ => (Code × Nat × Nat × List ResultVar) → RunT → Nat → List V → H → Res) (fun _ _ f _ _ => .bad 202 f) (fun b ih f args h => wrK args b.2.2.1 (trNew .und b.2.2.1) 0 fun E => ih [] [] [.code b.1] ⟨f, b.2.2.1, b.2.1, b.2.2.2, none, false⟩ E [] h) (Nat.ble args.length b.2.1) b ih f args h) b
theorem enterB_eq (P : Program) (ih : RunT) (f : Nat) (args : List V) (h : H) : enterB (bodyOf P f) ih f args h = enterN P ih f args h := by
  unfold enterN
  cases bodyOf P f with
  | none => rfl
  | some b =>
    obtain ⟨c, n, d, res⟩ := b
    simp only [enterB]
    cases Nat.ble args.length n <;> rfl
def enterO (r : Option Res) : Program → RunT → Nat → List V → H → Res := @Option.rec Res (fun _ => Program → RunT → Nat → List V → H → Res) (fun P ih f args h => enterB (bodyOf P f) ih f args h) (fun r _ _ _ _ _ => r) r
def enterFF (P : Program) (G : Nat) (X : Hook P G) (ih : RunT) (f : FuncId) (args : List V) (h : H) : Res := @Option.rec (List V → H → Option Res) (fun _ => Program → RunT → Nat → List V → H → Res) (fun P ih f args h => enterB (bodyOf P f) ih f args h) (fun g P ih f args h => enterO (g args h) P ih f args h) (X.fn f) P ih f args h
theorem enterFF_eq (P : Program) (G : Nat) (X : Hook P G) (ih : RunT) (f : FuncId) (args : List V) (h : H) : enterFF P G X ih f args h = enterF P G X ih f args h := by
  unfold enterFF enterF
  cases X.fn f with
  | none => exact enterB_eq ..
  | some g =>
    show enterO (g args h) P ih f args h = _
    simp only
    cases g args h with
    | none => exact enterB_eq ..
    | some r => rfl
def actF (r : R) : (P : Program) → (G : Nat) → Hook P G → RunT → List Oper → Option Nat → List Oper → List Item → (fr : Fr) → Tr V fr.d → List DV → H → Res := @R.rec (fun _ => (P : Program) → (G : Nat) → Hook P G → RunT → List Oper → Option Nat → List Oper → List Item → (fr : Fr) → Tr V fr.d → List DV → H → Res)
  (fun x h _ _ _ ih ops dst rest k fr E ms _ => dstF dst fr.d E x fun E => ih ops rest k fr E ms h)
  (fun h _ _ _ ih ops dst rest k fr E ms _ => @Option.rec Nat (fun _ => Res) (ih ops rest k fr E ms h) (fun _ => .bad 219 fr.f) dst)
  (fun f args P G X ih ops dst rest k fr E ms h => resF (enterFF P G X ih f args h) fun x h => dstF dst fr.d E x fun E => ih ops rest k fr E ms h)
  (fun l args P _ _ ih ops dst rest k fr E ms h => resF (roundF P ih l args h) fun x h => dstF dst fr.d E x fun E => ih ops rest k fr E ms h)
  (fun f cap args _ _ _ ih ops dst rest k fr E ms h => match dst, fr.rd with
      | none, none => ih ops rest k fr E (.call f cap args :: ms) h
      | _, _ => .bad 245 fr.f)
  (fun n _ _ _ _ _ _ _ _ fr _ _ _ => .bad n fr.f) r
def goF : (P : Program) → (G : Nat) → Hook P G → RunT → List Oper → Oper → List Oper → List Item → (fr : Fr) → Tr V fr.d → List DV → H → Res := fun P G X ih ops o rest k fr E ms h => actF (evOpF o.op P (fun x => opF x G fr.d E) h) P G X ih ops o.dst rest k fr E ms h
def gdF (g : Option Bool) : (P : Program) → (G : Nat) → Hook P G → RunT → List Oper → Oper → List Oper → List Item → (fr : Fr) → Tr V fr.d → List DV → H → Res := @Option.rec Bool (fun _ => (P : Program) → (G : Nat) → Hook P G → RunT → List Oper → Oper → List Oper → List Item → (fr : Fr) → Tr V fr.d → List DV → H → Res) (fun _ _ _ _ _ _ _ _ fr _ _ _ => .bad 207 fr.f)
  (fun b => @Bool.rec (fun _ => (P : Program) → (G : Nat) → Hook P G → RunT → List Oper → Oper → List Oper → List Item → (fr : Fr) → Tr V fr.d → List DV → H → Res) (fun _ _ _ ih ops o rest k fr E ms h => dstF o.dst fr.d E (.tup []) fun E => ih ops rest k fr E ms h) goF b) g
def stepOpF (g : Option (Nat × Bool)) : (P : Program) → (G : Nat) → Hook P G → RunT → List Oper → Oper → List Oper → List Item → (fr : Fr) → Tr V fr.d → List DV → H → Res := @Option.rec (Nat × Bool) (fun _ => (P : Program) → (G : Nat) → Hook P G → RunT → List Oper → Oper → List Oper → List Item → (fr : Fr) → Tr V fr.d → List DV → H → Res) goF (fun g P G X ih ops o rest k fr E ms h => gdF (wants fr.d E ops (some g)) P G X ih ops o rest k fr E ms h) g
theorem opF_eq (G d : Nat) (E : Tr V d) : (fun x => opF x G d E) = opV G d E := by funext x; cases x <;> rfl
theorem stepOpF_eq (P : Program) (G : Nat) (X : Hook P G) (ih : RunT) (ops : List Oper) (o : Oper) (rest : List Oper) (k : List Item) (fr : Fr) (E : Tr V fr.d) (ms : List DV) (h : H) : stepOpF o.guard P G X ih ops o rest k fr E ms h = stepOp P G X ih ops o rest k fr E ms h := by
  have hgo : ∀ g, wants fr.d E ops g = some true → goF P G X ih ops o rest k fr E ms h = (match wants fr.d E ops g with
    | some true => match evOp P (opV G fr.d E) o.op h with
      | .v x h => dstV fr.d E o.dst x fun E => ih ops rest k fr E ms h
      | .eff h => match o.dst with
        | none => ih ops rest k fr E ms h
        | some _ => .bad 219 fr.f
      | .call f args => match enterF P G X ih f args h with
        | .ok x h => dstV fr.d E o.dst x fun E => ih ops rest k fr E ms h
        | .bad n a => .bad n a
      | .yld l args => match roundF P ih l args h with
        | .ok x h => dstV fr.d E o.dst x fun E => ih ops rest k fr E ms h
        | .bad n a => .bad n a
      | .dfr f cap args => match o.dst, fr.rd with
        | none, none => ih ops rest k fr E (.call f cap args :: ms) h
        | _, _ => .bad 245 fr.f
      | .bad n => .bad n fr.f
    | some false => dstV fr.d E o.dst (.tup []) fun E => ih ops rest k fr E ms h
    | none => .bad 207 fr.f) := fun g hg => by
    rw [hg]
    simp only
    unfold goF
    rw [opF_eq, evOpF_eq]
    cases evOp P (opV G fr.d E) o.op h with
    | v x h1 => exact dstF_eq ..
    | eff h1 => show @Option.rec _ _ _ _ o.dst = _; cases o.dst <;> rfl
    | call f args =>
      show resF (enterFF P G X ih f args h) _ = _
      simp only
      rw [enterFF_eq]
      generalize enterF P G X ih f args h = r
      cases r with
      | ok x h1 => exact dstF_eq ..
      | bad n a => rfl
    | yld l args =>
      show resF (roundF P ih l args h) _ = _
      simp only
      generalize roundF P ih l args h = r
      cases r with
      | ok x h1 => exact dstF_eq ..
      | bad n a => rfl
    | dfr f cap args => rfl
    | bad n => rfl
  unfold stepOp
  cases hg : o.guard with
  | none => exact hgo none rfl
  | some g =>
    show gdF (wants fr.d E ops (some g)) P G X ih ops o rest k fr E ms h = _
    cases hw : wants fr.d E ops (some g) with
    | none => rfl
    | some b =>
      cases b with
      | false => exact dstF_eq ..
      | true =>
        have := hgo (some g) hw
        rw [hw] at this
        exact this
def cdF (v : V) : Code → Code → RunT → List Item → (fr : Fr) → Tr V fr.d → List DV → H → Res := @V.rec (fun _ => Code → Code → RunT → List Item → (fr : Fr) → Tr V fr.d → List DV → H → Res) (fun _ => PUnit) (fun x1 x2 => fun _ _ _ _ fr _ _ _ => .bad 209 fr.f) (fun t => fun a b => @Bool.rec (fun _ => RunT → List Item → (fr : Fr) → Tr V fr.d → List DV → H → Res) (fun ih k fr E ms h => ih [] [] (.code b :: k) fr E ms h) (fun ih k fr E ms h => ih [] [] (.code a :: k) fr E ms h) t) (fun x1 x2 => fun _ _ _ _ fr _ _ _ => .bad 209 fr.f) (fun x1 x2 => fun _ _ _ _ fr _ _ _ => .bad 209 fr.f) (fun x1 x2 x3 x4 x5 x6 => fun _ _ _ _ fr _ _ _ => .bad 209 fr.f) (fun x1 x2 => fun _ _ _ _ fr _ _ _ => .bad 209 fr.f) (fun x1 => fun _ _ _ _ fr _ _ _ => .bad 209 fr.f) (fun x1 => fun _ _ _ _ fr _ _ _ => .bad 209 fr.f) (fun x1 x2 x3 _ _ => fun _ _ _ _ fr _ _ _ => .bad 209 fr.f) (fun x1 => fun _ _ _ _ fr _ _ _ => .bad 209 fr.f) (fun x1 x2 _ => fun _ _ _ _ fr _ _ _ => .bad 209 fr.f) (fun x1 x2 _ => fun _ _ _ _ fr _ _ _ => .bad 209 fr.f) (fun x1 _ => fun _ _ _ _ fr _ _ _ => .bad 209 fr.f) (fun x1 _ => fun _ _ _ _ fr _ _ _ => .bad 209 fr.f) (fun _ _ _ _ fr _ _ _ => .bad 209 fr.f) PUnit.unit (fun _ _ _ _ => PUnit.unit) v
def rgF (dr : Bool) : Array Oper → (P : Program) → (G : Nat) → Hook P G → RunT → List Item → (fr : Fr) → Tr V fr.d → List DV → H → Res := @Bool.rec (fun _ => Array Oper → (P : Program) → (G : Nat) → Hook P G → RunT → List Item → (fr : Fr) → Tr V fr.d → List DV → H → Res) (fun ops _ _ _ ih k fr E ms h => @Bool.rec (fun _ => List Oper → RunT → List Item → (fr : Fr) → Tr V fr.d → List DV → H → Res) (fun _ _ _ fr _ _ _ => .bad 218 fr.f) (fun ops ih k fr E ms h => ih ops ops k fr E ms h) (dstsOk fr.n ops.toList) ops.toList ih k fr E ms h)
  (fun ops P G X ih k fr E ms h => drawn P G X ih ops.toList k fr E ms h) dr
def stepCF (c : Code) : (P : Program) → (G : Nat) → Hook P G → RunT → List Item → (fr : Fr) → Tr V fr.d → List DV → H → Res := @Code.rec (fun _ => (P : Program) → (G : Nat) → Hook P G → RunT → List Item → (fr : Fr) → Tr V fr.d → List DV → H → Res)
  (fun _ _ _ ih k fr E ms h => ih [] [] k fr E ms h)
  (fun _ ops dr P G X ih k fr E ms h => rgF dr ops P G X ih k fr E ms h)
  (fun a b _ _ _ _ _ ih k fr E ms h => ih [] [] (.code a :: .code b :: k) fr E ms h)
  (fun c a b _ _ _ G _ ih k fr E ms h => cdF (opF c G fr.d E) a b ih k fr E ms h)
  (fun id b _ _ _ _ ih k fr E ms h => ih [] [] (.code b :: .inBlock id :: k) fr E ms h)
  (fun b _ _ _ _ ih k fr E ms h => ih [] [] (.code b :: .inLoop b :: k) fr E ms h)
  (fun f ps a b _ _ P G X ih k fr E ms h => stepC P G X ih (.rangeFunc f ps a b) k fr E ms h)
  (fun id P G X ih k fr E ms h => stepC P G X ih (.exit id) k fr E ms h)
  (fun b _ P G X ih k fr E ms h => stepC P G X ih (.scope b) k fr E ms h)
  (fun _ _ _ _ ih k fr E ms h => ih [] [] k fr E ms h)
  (fun l P G X ih k fr E ms h => stepC P G X ih (.goto l) k fr E ms h)
  (fun P G X ih _ fr E ms h => leave P G X ih (some .ret) fr E ms h)
  (fun w P G X ih k fr E ms h => stepC P G X ih (.refuse w) k fr E ms h) c
theorem stepCF_eq (P : Program) (G : Nat) (X : Hook P G) (ih : RunT) (c : Code) (k : List Item) (fr : Fr) (E : Tr V fr.d) (ms : List DV) (h : H) : stepCF c P G X ih k fr E ms h = stepC P G X ih c k fr E ms h := by
  cases c <;> try rfl
  · rename_i id ops dr
    cases dr with
    | true => rfl
    | false =>
      simp only [stepCF, rgF, stepC]
      cases dstsOk fr.n ops.toList <;> rfl
  · rename_i c a b
    show cdF (opF c G fr.d E) a b ih k fr E ms h = _
    have := congrFun (opF_eq G fr.d E) c
    unfold stepC
    simp only at this ⊢
    rw [this]
    cases opV G fr.d E c <;> try rfl
    rename_i t
    cases t <;> rfl
def itF (i : Item) : (P : Program) → (G : Nat) → Hook P G → RunT → List Item → (fr : Fr) → Tr V fr.d → List DV → H → Res := @Item.rec (fun _ => (P : Program) → (G : Nat) → Hook P G → RunT → List Item → (fr : Fr) → Tr V fr.d → List DV → H → Res)
  (fun c P G X ih k fr E ms h => stepCF c P G X ih k fr E ms h)
  (fun _ _ _ _ ih k fr E ms h => ih [] [] k fr E ms h)
  (fun b _ _ _ ih k fr E ms h => ih [] [] (.code b :: .inLoop b :: k) fr E ms h)
  (fun b P G X ih k fr E ms h => stepI P G X ih (.inScope b :: k) fr E ms h)
  (fun a b P G X ih k fr E ms h => stepI P G X ih (.inRegion a b :: k) fr E ms h)
  (fun l P G X ih k fr E ms h => stepI P G X ih (.inRangeFunc l :: k) fr E ms h)
  (fun l P G X ih k fr E ms h => stepI P G X ih (.endRangeFunc l :: k) fr E ms h)
  (fun P G X ih k fr E ms h => stepI P G X ih (.beginRound :: k) fr E ms h)
  (fun a b c d P G X ih k fr E ms h => stepI P G X ih (.call a b c d :: k) fr E ms h)
  (fun a b P G X ih k fr E ms h => stepI P G X ih (.extern a b :: k) fr E ms h) i
def stepIF (k : List Item) : (P : Program) → (G : Nat) → Hook P G → RunT → (fr : Fr) → Tr V fr.d → List DV → H → Res := @List.rec Item (fun _ => (P : Program) → (G : Nat) → Hook P G → RunT → (fr : Fr) → Tr V fr.d → List DV → H → Res)
  (fun P G X ih fr E ms h => leave P G X ih none fr E ms h) (fun i k _ P G X ih fr E ms h => itF i P G X ih k fr E ms h) k
theorem stepIF_eq (P : Program) (G : Nat) (X : Hook P G) (ih : RunT) (k : List Item) (fr : Fr) (E : Tr V fr.d) (ms : List DV) (h : H) : stepIF k P G X ih fr E ms h = stepI P G X ih k fr E ms h := by
  cases k with
  | nil => rfl
  | cons i k =>
    show itF i P G X ih k fr E ms h = _
    cases i <;> try rfl
    exact stepCF_eq ..
def run (P : Program) (G : Nat) (X : Hook P G) (fuel : Nat) : RunT := @Nat.rec (fun _ => RunT) (fun _ _ _ fr _ _ _ => .bad 217 fr.f) (fun _ ih ops rest k fr E ms h => @List.rec Oper (fun _ => RunT → List Oper → List Item → (fr : Fr) → Tr V fr.d → List DV → H → Res)
  (fun ih _ k fr E ms h => stepIF k P G X ih fr E ms h) (fun o rest _ ih ops k fr E ms h => stepOpF o.guard P G X ih ops o rest k fr E ms h) rest ih ops k fr E ms h) fuel
def evF (P : Program) (G : Nat) (X : Hook P G) (fuel : Nat) (f : FuncId) (args : List V) (h : H) : Res := enterN P (run P G X fuel) f args h
def isTrueR (r : Res) : Bool := match r with
  | .ok (.bool b) _ => b
  | _ => false
def h0 (G : Nat) : H := ⟨trNew none HD, G⟩
end
end Go.Proofs.YtkgiammeeckfbaaGreat
