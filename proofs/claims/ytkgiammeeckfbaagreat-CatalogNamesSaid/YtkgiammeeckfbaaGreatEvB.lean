/- The reckoner's memory and the world's: how they hang together. It is of no program. -/
import Derived.Test.YtkgiammeeckfbaaGreatEvA
import Derived.Test.YtkgiammeeckfbaaGreatOps
namespace Go.Proofs.YtkgiammeeckfbaaGreat
open Go Go.RowKit
set_option linter.all false

/-- Where a block lies: in which block of the world, from which cell on, and how many cells that block has. -/
abbrev Ph := Nat → Option (Nat × Nat × Nat)
mutual
inductive CV (φ : Ph) : V → Value → Prop
  | int {k : IntKind} {n : Int} : CV φ (.int k n) (.int k n)
  | bool {b : Bool} : CV φ (.bool b) (.bool b)
  | str {n s : Nat} : s < 256 ^ n → CV φ (.str n s) (S (unp n s))
  | ptr {b o b' a N : Nat} : φ b = some (b', a, N) → CV φ (.ptr b o) (ptr b' (a + o))
  | sl {b o len kc es : Nat} {op : Bool} {b' a N c' : Nat} : φ b = some (b', a, N) → len ≤ kc → kc ≤ c' → (op = false → c' = kc) → a + o + c' * es ≤ N →
      CV φ (.sl b o len kc es op) (.slice (some ⟨b', a + o, none⟩) len c')
  | es {b es b' a N off c' : Nat} : φ b = some (b', a, N) → off + c' * es ≤ N → CV φ (.es b es) (.slice (some ⟨b', off, none⟩) 0 c')
  | map {b b' a N : Nat} : φ b = some (b', a, N) → CV φ (.map b) (.map (some b'))
  | nptr : CV φ (.nil .ptr) (.pointer none)
  | nsl : CV φ (.nil .sl) (.slice none 0 0)
  | nmap : CV φ (.nil .map) (.map none)
  | nfn : CV φ (.nil .fn) .nilFunc
  | nifc : CV φ (.nil .ifc) .nilIface
  | fn {f : Nat} {p q : List V} {us vs : List Value} : CVs φ p us → CVs φ q vs → CV φ (.fn f p q) (.func (.func f) us.toArray vs.toArray)
  | yld {l l' a N : Nat} : φ l = some (l', a, N) → CV φ (.yld l) (.func (.yield l') #[] #[])
  | ifc {t : Nat} {v : V} {u : Value} : CV φ v u → CV φ (.ifc t v) (.iface t u)
  | mth {nm : String} {v : V} {u : Value} : CV φ v u → CV φ (.mth nm v) (.func (.method nm) #[u] #[])
  | agg {l : List V} {us : List Value} : CVs φ l us → CV φ (.agg l) (.agg us.toArray)
  | tup {l : List V} {us : List Value} : CVs φ l us → CV φ (.tup l) (.tuple us.toArray)
  | und {u : Value} : CV φ .und u
inductive CVs (φ : Ph) : List V → List Value → Prop
  | nil : CVs φ [] []
  | cons {v : V} {l : List V} {u : Value} {us : List Value} : CV φ v u → CVs φ l us → CVs φ (v :: l) (u :: us)
end

def Sb (φ φ' : Ph) : Prop := ∀ b p, φ b = some p → φ' b = some p
theorem Sb.refl (φ : Ph) : Sb φ φ := fun _ _ h => h
theorem Sb.trans {φ φ' φ'' : Ph} (h : Sb φ φ') (k : Sb φ' φ'') : Sb φ φ'' := fun b p hb => k b p (h b p hb)
mutual
theorem CV.mono {φ φ' : Ph} (hs : Sb φ φ') : ∀ {v : V} {u : Value}, CV φ v u → CV φ' v u
  | _, _, .int => .int
  | _, _, .bool => .bool
  | _, _, .str h => .str h
  | _, _, .ptr h => .ptr (hs _ _ h)
  | _, _, .sl h h1 h2 h3 h4 => .sl (hs _ _ h) h1 h2 h3 h4
  | _, _, .es h h1 => .es (hs _ _ h) h1
  | _, _, .map h => .map (hs _ _ h)
  | _, _, .nptr => .nptr
  | _, _, .nsl => .nsl
  | _, _, .nmap => .nmap
  | _, _, .nfn => .nfn
  | _, _, .nifc => .nifc
  | _, _, .fn h k => .fn (CVs.mono hs h) (CVs.mono hs k)
  | _, _, .yld h => .yld (hs _ _ h)
  | _, _, .ifc h => .ifc (CV.mono hs h)
  | _, _, .mth h => .mth (CV.mono hs h)
  | _, _, .agg h => .agg (CVs.mono hs h)
  | _, _, .tup h => .tup (CVs.mono hs h)
  | _, _, .und => .und
theorem CVs.mono {φ φ' : Ph} (hs : Sb φ φ') : ∀ {l : List V} {us : List Value}, CVs φ l us → CVs φ' l us
  | _, _, .nil => .nil
  | _, _, .cons h k => .cons (CV.mono hs h) (CVs.mono hs k)
end
theorem CVs.len {φ : Ph} : ∀ {l : List V} {us : List Value}, CVs φ l us → us.length = l.length
  | _, _, .nil => rfl
  | _, _, .cons _ k => by simp [CVs.len k]
theorem CVs.append {φ : Ph} : ∀ {l m : List V} {us vs : List Value}, CVs φ l us → CVs φ m vs → CVs φ (l ++ m) (us ++ vs)
  | _, _, _, _, .nil, k => k
  | _, _, _, _, .cons h k, k' => .cons h (CVs.append k k')
theorem CVs.get {φ : Ph} : ∀ {l : List V} {us : List Value} {i : Nat} {v : V}, CVs φ l us → l[i]? = some v → ∃ u, us[i]? = some u ∧ CV φ v u
  | _, _, _, _, .nil, h => by simp at h
  | _, _, 0, _, .cons h k, e => by simp at e; subst e; exact ⟨_, rfl, h⟩
  | _, _, i + 1, _, .cons h k, e => by
    simp at e
    obtain ⟨u, h1, h2⟩ := CVs.get k e
    exact ⟨u, by simpa using h1, h2⟩
theorem CVs.take {φ : Ph} : ∀ {l : List V} {us : List Value} (n : Nat), CVs φ l us → CVs φ (l.take n) (us.take n)
  | _, _, 0, _ => by simpa using CVs.nil
  | _, _, n + 1, .nil => by simpa using CVs.nil
  | _, _, n + 1, .cons h k => by simpa using CVs.cons h (CVs.take n k)
theorem CVs.drop {φ : Ph} : ∀ {l : List V} {us : List Value} (n : Nat), CVs φ l us → CVs φ (l.drop n) (us.drop n)
  | _, _, 0, h => by simpa using h
  | _, _, n + 1, .nil => by simpa using CVs.nil
  | _, _, n + 1, .cons h k => by simpa using CVs.drop n k

/-- A block of cells. -/
def BlkF (w : World) (b : Nat) (us : List Value) (T : TypeId) (fz : Nat × Nat) : Prop := w.heap[b]? = some (.cells us.toArray T fz) ∧ ∀ i, i < us.length → ¬ (fz.1 ≤ i ∧ i < fz.2)
theorem BlkF.blk {w : World} {b : Nat} {us : List Value} {T : TypeId} {fz : Nat × Nat} (h : BlkF w b us T fz) : Blk w b us T := ⟨fz, h⟩
theorem BlkF.lt {w : World} {b : Nat} {us : List Value} {T : TypeId} {fz : Nat × Nat} (h : BlkF w b us T fz) : b < w.heap.size := h.blk.lt
theorem BlkF.set {w : World} {b : Nat} {us : List Value} {T : TypeId} {fz : Nat × Nat} (h : BlkF w b us T fz) (i : Nat) (v : Value) : BlkF (w.setCell ⟨b, i, none⟩ v) b (us.set i v) T fz := by
  obtain ⟨h, hf⟩ := h
  refine ⟨?_, by simpa using hf⟩
  simp [World.setCell, Array.getElem?_modify, h]

/-- The cells of a tree, as far as they are known. -/
def TrR (φ : Ph) (n d : Nat) (t : Tr V d) (us : List Value) (a : Nat) : Prop := ∀ i, i < n → ∃ u, us[a + i]? = some u ∧ CV φ (vGet d i t) u
/-- A map's entries. -/
inductive MR (φ : Ph) : List (V × V × Nat) → List MapEntry → Prop
  | nil : MR φ [] []
  | cons {k v : V} {n : Nat} {e : MapEntry} {l : List (V × V × Nat)} {es : List MapEntry} : CV φ k e.key → CV φ v e.val → e.born = n → MR φ l es → MR φ ((k, v, n) :: l) (e :: es)
theorem MR.mono {φ φ' : Ph} (hs : Sb φ φ') : ∀ {l : List (V × V × Nat)} {es : List MapEntry}, MR φ l es → MR φ' l es
  | _, _, .nil => .nil
  | _, _, .cons h1 h2 h3 k => .cons (h1.mono hs) (h2.mono hs) h3 (MR.mono hs k)

/-- A block's type is known; one that is no row was laid by the program, and is wholly known. -/
def StT (st : Bool) (n : Nat) (p : Nat × Nat × Nat) (ty T : TypeId) (fz : Nat × Nat) : Prop := T = ty ∧ (st = false → fz = (0, 0) ∧ p.2.1 = 0 ∧ n = p.2.2)
/-- A map's entries in any order, with any stamps; the keys are numbers of one kind, no two alike. -/
def UR (φ : Ph) (es : List (V × V)) (arr : List MapEntry) : Prop := ∃ es' : List (V × V × Nat), MR φ es' arr ∧ (es'.map fun e => (e.1, e.2.1)).Perm es ∧ (∃ kk, ∀ e ∈ es, ∃ n, e.1 = .int kk n) ∧ es.Pairwise fun a b => a.1 ≠ b.1
theorem UR.mono {φ φ' : Ph} (hs : Sb φ φ') {es : List (V × V)} {arr : List MapEntry} : UR φ es arr → UR φ' es arr := fun ⟨l, h, k⟩ => ⟨l, h.mono hs, k⟩
def BR (φ : Ph) (x : B) (p : Nat × Nat × Nat) (w : World) : Prop := match x with
  | .cells n d t ty st => p.2.1 + n ≤ p.2.2 ∧ ∃ us T fz, BlkF w p.1 us T fz ∧ us.length = p.2.2 ∧ TrR φ n d t us p.2.1 ∧ StT st n p ty T fz
  | .ro l => p.2.1 = 0 ∧ ∃ us us' T fz, BlkF w p.1 (us ++ us') T fz ∧ CVs φ l us
  | .map es cl => ∃ arr : Array MapEntry, w.heap[p.1]? = some (.map arr cl) ∧ MR φ es arr.toList
  | .loop st pend f ed E n ps a b => ∃ r : Loop, w.heap[p.1]? = some (.loop r) ∧ r.state = st ∧ r.pending = pend ∧ r.fn = f ∧ r.params = ps.toArray ∧ r.assign = a ∧ r.body = b ∧ r.tmps.size = n ∧
      ∀ i, CV φ (vGet ed i E) (r.tmps.getD i undef)
  | .dfr => w.heap[p.1]? = some (.deferred (some []))
  | .shut => p.1 < w.heap.size
  | .miter m since seen last => p.2.1 = 0 ∧ ∃ m' a N, φ m = some (m', a, N) ∧ w.heap[p.1]? = some (.mapIter (some m') since seen.toArray last)
  | .siter n s pos => s < 256 ^ n ∧ w.heap[p.1]? = some (.stringIter ⟨(unp n s).toArray⟩ pos)
  | .umap es => ∃ (arr : Array MapEntry) (cl : Nat), w.heap[p.1]? = some (.map arr cl) ∧ UR φ es arr.toList
  | .byt n s ty st => p.2.1 + n ≤ p.2.2 ∧ ∃ us T fz, BlkF w p.1 us T fz ∧ us.length = p.2.2 ∧ (∀ i, i < n → us[p.2.1 + i]? = some (.int .u8 ((s / 256 ^ i % 256 : Nat) : Int))) ∧ StT st n p ty T fz

theorem BR.lt {φ : Ph} {x : B} {p : Nat × Nat × Nat} {w : World} (h : BR φ x p w) : p.1 < w.heap.size := by
  cases x with
  | cells n d t ty st => obtain ⟨-, us, T, fz, h, -⟩ := h; exact h.lt
  | ro l => obtain ⟨-, us, us', T, fz, h, -⟩ := h; exact h.lt
  | map es cl => obtain ⟨arr, h, -⟩ := h; exact lt_of_heap h
  | loop st pend f ed E n ps a b => obtain ⟨r, h, -⟩ := h; exact lt_of_heap h
  | dfr => exact lt_of_heap h
  | shut => exact h
  | miter m since seen last => obtain ⟨-, m', a, N, -, h⟩ := h; exact lt_of_heap h
  | siter n s pos => exact lt_of_heap h.2
  | umap es => obtain ⟨arr, cl, h, -⟩ := h; exact lt_of_heap h
  | byt n s ty st => obtain ⟨-, us, T, fz, h, -⟩ := h; exact h.lt

theorem BR.kp {φ φ' : Ph} {x : B} {p : Nat × Nat × Nat} {w w' : World} {S : Nat → Prop} (h : BR φ x p w) (hs : Sb φ φ') (k : Kp S w w') (hn : ¬ S p.1) : BR φ' x p w' := by
  have hlt := h.lt
  have hb : w'.heap[p.1]? = w.heap[p.1]? := k.block _ hlt hn
  cases x with
  | cells n d t ty st =>
    obtain ⟨h1, us, T, fz, ⟨h2, h3⟩, h4, h5, h6⟩ := h
    exact ⟨h1, us, T, fz, ⟨by rw [hb]; exact h2, h3⟩, h4, fun i hi => let ⟨u, a, b⟩ := h5 i hi; ⟨u, a, b.mono hs⟩, h6⟩
  | ro l =>
    obtain ⟨h0, us, us', T, fz, ⟨h2, h3⟩, h5⟩ := h
    exact ⟨h0, us, us', T, fz, ⟨by rw [hb]; exact h2, h3⟩, h5.mono hs⟩
  | map es cl => obtain ⟨arr, h, h2⟩ := h; exact ⟨arr, by rw [hb]; exact h, h2.mono hs⟩
  | loop st pend f ed E n ps a b =>
    obtain ⟨r, h, h1, h2, h3, h4, h5, h6, h7, h8⟩ := h
    exact ⟨r, by rw [hb]; exact h, h1, h2, h3, h4, h5, h6, h7, fun i => (h8 i).mono hs⟩
  | dfr => exact hb.trans h
  | shut => exact Nat.lt_of_lt_of_le hlt k.size
  | miter m since seen last => obtain ⟨h0, m', a, N, h1, h2⟩ := h; exact ⟨h0, m', a, N, hs _ _ h1, hb.trans h2⟩
  | siter n s pos => exact ⟨h.1, hb.trans h.2⟩
  | umap es => obtain ⟨arr, cl, h, h2⟩ := h; exact ⟨arr, cl, by rw [hb]; exact h, h2.mono hs⟩
  | byt n s ty st =>
    obtain ⟨h1, us, T, fz, ⟨h2, h3⟩, h4, h5, h6⟩ := h
    exact ⟨h1, us, T, fz, ⟨by rw [hb]; exact h2, h3⟩, h4, h5, h6⟩

structure Rel (G : Nat) (φ : Ph) (h : H) (w : World) : Prop where
  inj : ∀ a b x y p q, hGet h a = some x → hGet h b = some y → φ a = some p → φ b = some q → p.1 = q.1 → a = b
  blk : ∀ b x, hGet h b = some x → ∃ p, φ b = some p ∧ BR φ x p w
  fresh : ∀ b, h.next ≤ b → φ b = none
  glob : ∀ g, g < G → ∃ N, φ g = some (g, 0, N)

def isRo : B → Bool
  | .ro _ => true
  | _ => false
/-- The world's blocks that the memory holds, and may write. -/
def foot (φ : Ph) (h : H) (k : Nat) : Prop := ∃ b x p, hGet h b = some x ∧ isRo x = false ∧ φ b = some p ∧ p.1 = k

/-- What of the reckoner's memory stays: numbers that are taken keep their places, blocks that are gone stay so, and none becomes read-only. -/
structure Hp (φ : Ph) (h : H) (φ' : Ph) (h' : H) : Prop where
  dm : ∀ b, b < h.next → φ' b = φ b
  nx : h.next ≤ h'.next
  od : ∀ b, b < h.next → hGet h b = none → hGet h' b = none
  ro : ∀ b l, hGet h' b = some (.ro l) → hGet h b = some (.ro l)
theorem Hp.refl (φ : Ph) (h : H) : Hp φ h φ h := ⟨fun _ _ => rfl, Nat.le_refl _, fun _ _ e => e, fun _ _ e => e⟩
theorem Hp.trans {φ φ' φ'' : Ph} {h h' h'' : H} (p : Hp φ h φ' h') (q : Hp φ' h' φ'' h'') : Hp φ h φ'' h'' :=
  ⟨fun b hb => (q.dm b (Nat.lt_of_lt_of_le hb p.nx)).trans (p.dm b hb), Nat.le_trans p.nx q.nx, fun b hb e => q.od b (Nat.lt_of_lt_of_le hb p.nx) (p.od b hb e), fun b l e => p.ro b l (q.ro b l e)⟩
structure Post (G : Nat) (φ : Ph) (h : H) (w : World) (φ' : Ph) (h' : H) (w' : World) : Prop where
  sb : Sb φ φ'
  rel : Rel G φ' h' w'
  kp : Kp (foot φ h) w w'
  ft : ∀ k, foot φ' h' k → foot φ h k ∨ w.heap.size ≤ k
  hp : Hp φ h φ' h'
theorem Post.refl {G : Nat} {φ : Ph} {h : H} {w : World} (r : Rel G φ h w) : Post G φ h w φ h w := ⟨Sb.refl φ, r, Kp.refl _ w, fun _ h => .inl h, Hp.refl φ h⟩
theorem Post.trans {G : Nat} {φ φ' φ'' : Ph} {h h' h'' : H} {w w' w'' : World} (p : Post G φ h w φ' h' w') (q : Post G φ' h' w' φ'' h'' w'') : Post G φ h w φ'' h'' w'' :=
  ⟨p.sb.trans q.sb, q.rel, p.kp.trans_new q.kp fun i hi => (p.ft i hi).symm, fun k hk => by
    rcases q.ft k hk with h1 | h1
    · exact p.ft k h1
    · exact .inr (Nat.le_trans p.kp.size h1), p.hp.trans q.hp⟩

theorem hGet_put_ne {h : H} {b c : Nat} {x : Option B} {n : Nat} (hne : c ≠ b) : hGet ⟨trPut HD b h.t x, n⟩ c = hGet h c := get_put_ne _ _ _ _ _ _ hne
theorem hGet_put_same {h : H} {b : Nat} {x : Option B} {y : B} {n : Nat} (hy : hGet ⟨trPut HD b h.t x, n⟩ b = some y) : x = some y := by
  rcases get_put_same none HD b h.t x with h1 | h1
  · exact h1.symm.trans hy
  · have := h1.symm.trans hy; cases this
theorem hSet_eq {β : Type} (h : H) (b : Nat) (x : Option B) (c : H → β) : hSet h b x c = c ⟨trPut HD b h.t x, h.next⟩ := by
  obtain ⟨t, n⟩ := h
  show trSet HD b t x (fun t' => c ⟨t', n⟩) = _
  rw [trSet_eq]
theorem hNew_eq {β : Type} (h : H) (x : B) (c : Nat → H → β) : hNew h x c = c h.next ⟨trPut HD h.next h.t (some x), h.next + 1⟩ := by
  obtain ⟨t, n⟩ := h
  show trSet HD n t (some x) (fun t' => fN (Nat.succ n) fun n' => c n ⟨t', n'⟩) = _
  rw [trSet_eq, fN_eq]

section
variable {G : Nat} {φ : Ph} {h : H} {w : World}

theorem Hp.put {b : Nat} {x y : B} (hb : hGet h b = some x) (hy : isRo y = false) : Hp φ h φ ⟨trPut HD b h.t (some y), h.next⟩ := by
  refine ⟨fun _ _ => rfl, Nat.le_refl _, fun c hc e => ?_, fun c l e => ?_⟩
  · by_cases h1 : c = b
    · subst h1; rw [hb] at e; cases e
    · rw [hGet_put_ne h1]; exact e
  · by_cases h1 : c = b
    · subst h1
      have := hGet_put_same e
      cases this; cases hy
    · rwa [hGet_put_ne h1] at e
theorem Hp.del (b : Nat) : Hp φ h φ ⟨trPut HD b h.t none, h.next⟩ := by
  refine ⟨fun _ _ => rfl, Nat.le_refl _, fun c hc e => ?_, fun c l e => ?_⟩
  · by_cases h1 : c = b
    · subst h1
      cases hq : hGet ⟨trPut HD c h.t none, h.next⟩ c with
      | none => rfl
      | some z => have := hGet_put_same hq; cases this
    · rw [hGet_put_ne h1]; exact e
  · by_cases h1 : c = b
    · subst h1
      have := hGet_put_same e
      cases this
    · rwa [hGet_put_ne h1] at e
def addPh (φ : Ph) (b : Nat) (p : Nat × Nat × Nat) : Ph := fun c => if c = b then some p else φ c
theorem addPh_sb (r : Rel G φ h w) (p : Nat × Nat × Nat) : Sb φ (addPh φ h.next p) := fun b q hb => by
  unfold addPh
  split
  · rename_i e
    rw [e, r.fresh _ (Nat.le_refl _)] at hb; cases hb
  · exact hb
theorem addPh_same (φ : Ph) (b : Nat) (p : Nat × Nat × Nat) : addPh φ b p b = some p := if_pos rfl

theorem Hp.new {x : B} (p : Nat × Nat × Nat) (hx : isRo x = false) : Hp φ h (addPh φ h.next p) ⟨trPut HD h.next h.t (some x), h.next + 1⟩ := by
  refine ⟨fun b hb => ?_, Nat.le_succ _, fun c hc e => ?_, fun c l e => ?_⟩
  · unfold addPh; rw [if_neg (by omega)]
  · rw [hGet_put_ne (by omega)]; exact e
  · by_cases h1 : c = h.next
    · subst h1
      have := hGet_put_same e
      cases this; cases hx
    · rwa [hGet_put_ne h1] at e
theorem Rel.next_none (r : Rel G φ h w) {b : Nat} {p : Nat × Nat × Nat} (hb : φ b = some p) : b < h.next := by
  rcases Nat.lt_or_ge b h.next with h1 | h1
  · exact h1
  · rw [r.fresh b h1] at hb; cases hb

/-- The heap as before: nothing has changed in the reckoner's memory, the world has grown. -/
theorem Rel.ext {w' : World} (r : Rel G φ h w) (k : Ext w w') : Post G φ h w φ h w' :=
  ⟨Sb.refl φ, ⟨r.inj, fun b x hb => let ⟨p, h1, h2⟩ := r.blk b x hb; ⟨p, h1, h2.kp (Sb.refl φ) k id⟩, r.fresh, r.glob⟩, k.kp, fun _ h => .inl h, Hp.refl φ h⟩

/-- A block is new. -/
theorem Rel.new (r : Rel G φ h w) {x : B} {w' : World} {b' a N : Nat} (k : Ext w w') (hb' : w.heap.size ≤ b') (hx : BR (addPh φ h.next (b', a, N)) x (b', a, N) w') (hxr : isRo x = false := by rfl) :
    Post G φ h w (addPh φ h.next (b', a, N)) ⟨trPut HD h.next h.t (some x), h.next + 1⟩ w' := by
  have hsb := addPh_sb r (b', a, N)
  have hold : ∀ b y, b ≠ h.next → hGet ⟨trPut HD h.next h.t (some x), h.next + 1⟩ b = some y → hGet h b = some y := fun b y hn hy => by rwa [hGet_put_ne hn] at hy
  have hph : ∀ b q, b ≠ h.next → addPh φ h.next (b', a, N) b = some q → φ b = some q := fun b q hn hq => by unfold addPh at hq; rwa [if_neg hn] at hq
  refine ⟨hsb, ⟨fun c d y z p q hc hd hp hq e => ?_, fun c y hc => ?_, fun c hc => ?_, fun g hg => ?_⟩, k.kp, fun j ⟨c, y, p, hc, hro, hp, e⟩ => ?_, Hp.new _ hxr⟩
  · by_cases h1 : c = h.next
    · by_cases h2 : d = h.next
      · rw [h1, h2]
      · exfalso
        subst h1
        rw [addPh_same] at hp
        cases hp
        obtain ⟨q', hq', hbr⟩ := r.blk _ _ (hold _ _ h2 hd)
        have := hph _ _ h2 hq
        rw [this] at hq'; cases hq'
        have := hbr.lt
        simp only at e; omega
    · by_cases h2 : d = h.next
      · exfalso
        subst h2
        rw [addPh_same] at hq
        cases hq
        obtain ⟨q', hq', hbr⟩ := r.blk _ _ (hold _ _ h1 hc)
        have := hph _ _ h1 hp
        rw [this] at hq'; cases hq'
        have := hbr.lt
        simp only at e; omega
      · exact r.inj _ _ _ _ _ _ (hold _ _ h1 hc) (hold _ _ h2 hd) (hph _ _ h1 hp) (hph _ _ h2 hq) e
  · by_cases h1 : c = h.next
    · subst h1
      have := hGet_put_same hc
      cases this
      exact ⟨_, addPh_same _ _ _, hx⟩
    · obtain ⟨p, hp, hbr⟩ := r.blk _ _ (hold _ _ h1 hc)
      exact ⟨p, hsb _ _ hp, hbr.kp hsb k id⟩
  · show (if c = h.next then _ else _) = none
    have hc' : h.next + 1 ≤ c := hc
    rw [if_neg (by omega), r.fresh c (by omega)]
  · obtain ⟨N', h1⟩ := r.glob g hg
    exact ⟨N', hsb _ _ h1⟩
  · by_cases h1 : c = h.next
    · subst h1
      rw [addPh_same] at hp
      cases hp
      exact .inr (e ▸ hb')
    · exact .inl ⟨c, y, p, hold _ _ h1 hc, hro, hph _ _ h1 hp, e⟩

/-- A block is written. -/
theorem Rel.upd (r : Rel G φ h w) {b : Nat} {x y : B} {p : Nat × Nat × Nat} {w' : World} (hb : hGet h b = some x) (hro : isRo x = false) (hp : φ b = some p) (k : Kp (fun i => i = p.1) w w') (hy : BR φ y p w') (hyr : isRo y = false := by rfl) :
    Post G φ h w φ ⟨trPut HD b h.t (some y), h.next⟩ w' := by
  refine ⟨Sb.refl φ, ⟨fun c d y' z q q' hc hd hq hq' e => ?_, fun c y' hc => ?_, r.fresh, r.glob⟩, k.mono' fun i hi => ⟨b, x, p, hb, hro, hp, hi.symm⟩, fun j ⟨c, y', q, hc, hro', hq, e⟩ => .inl ?_, Hp.put hb hyr⟩
  · have hx : ∀ c y', hGet ⟨trPut HD b h.t (some y), h.next⟩ c = some y' → ∃ x', hGet h c = some x' := fun c y' hc => by
      by_cases h1 : c = b
      · exact ⟨x, h1 ▸ hb⟩
      · exact ⟨y', by rwa [hGet_put_ne h1] at hc⟩
    obtain ⟨_, h1⟩ := hx _ _ hc
    obtain ⟨_, h2⟩ := hx _ _ hd
    exact r.inj _ _ _ _ _ _ h1 h2 hq hq' e
  · by_cases h1 : c = b
    · subst h1
      have := hGet_put_same hc
      cases this
      exact ⟨p, hp, hy⟩
    · rw [hGet_put_ne h1] at hc
      obtain ⟨q, hq, hbr⟩ := r.blk _ _ hc
      refine ⟨q, hq, hbr.kp (Sb.refl φ) k fun e => h1 ?_⟩
      exact r.inj _ _ _ _ _ _ hc hb hq hp e
  · by_cases h1 : c = b
    · subst h1
      rw [hp] at hq; cases hq
      exact ⟨c, x, p, hb, hro, hp, e⟩
    · rw [hGet_put_ne h1] at hc
      exact ⟨c, y', q, hc, hro', hq, e⟩

/-- A block is forgotten. -/
theorem Rel.del (r : Rel G φ h w) (b : Nat) : Post G φ h w φ ⟨trPut HD b h.t none, h.next⟩ w := by
  have hx : ∀ c y', hGet ⟨trPut HD b h.t none, h.next⟩ c = some y' → c ≠ b ∧ hGet h c = some y' := fun c y' hc => by
    by_cases h1 : c = b
    · subst h1
      have := hGet_put_same hc; cases this
    · exact ⟨h1, by rwa [hGet_put_ne h1] at hc⟩
  exact ⟨Sb.refl φ, ⟨fun c d y' z q q' hc hd hq hq' e => r.inj _ _ _ _ _ _ (hx _ _ hc).2 (hx _ _ hd).2 hq hq' e, fun c y' hc => r.blk _ _ (hx _ _ hc).2, r.fresh, r.glob⟩, Kp.refl _ w,
    fun j ⟨c, y', q, hc, hro', hq, e⟩ => .inl ⟨c, y', q, (hx _ _ hc).2, hro', hq, e⟩, Hp.del b⟩
/-- A block is changed by the machine, and forgotten. -/
theorem Rel.delw {φ : Ph} {h : H} {w : World} (r : Rel G φ h w) {b : Nat} {x : B} {p : Nat × Nat × Nat} {w' : World} (hb : hGet h b = some x) (hro : isRo x = false) (hp : φ b = some p) (k : Kp (fun i => i = p.1) w w') : Post G φ h w φ ⟨trPut HD b h.t none, h.next⟩ w' := by
  have hx : ∀ c y', hGet ⟨trPut HD b h.t none, h.next⟩ c = some y' → c ≠ b ∧ hGet h c = some y' := fun c y' hc => by
    by_cases h1 : c = b
    · subst h1
      have := hGet_put_same hc; cases this
    · exact ⟨h1, by rwa [hGet_put_ne h1] at hc⟩
  refine ⟨Sb.refl φ, ⟨fun c d y' z q q' hc hd hq hq' e => r.inj _ _ _ _ _ _ (hx _ _ hc).2 (hx _ _ hd).2 hq hq' e, fun c y' hc => ?_, r.fresh, r.glob⟩, k.mono' fun i hi => ⟨b, x, p, hb, hro, hp, hi.symm⟩, fun j ⟨c, y', q, hc, hro', hq, e⟩ => .inl ⟨c, y', q, (hx _ _ hc).2, hro', hq, e⟩, Hp.del b⟩
  obtain ⟨h1, h2⟩ := hx _ _ hc
  obtain ⟨q, hq, hbr⟩ := r.blk _ _ h2
  exact ⟨q, hq, hbr.kp (Sb.refl φ) k fun e => h1 (r.inj _ _ _ _ _ _ h2 hb hq hp e)⟩
end
end Go.Proofs.YtkgiammeeckfbaaGreat
