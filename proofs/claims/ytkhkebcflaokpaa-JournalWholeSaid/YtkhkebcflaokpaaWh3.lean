/- Texts Ops, EvB, EvC, EvE, EvF, EvG, one behind the other (what the statement JournalWhole does not use is left out). -/
import Derived.Test.YtkhkebcflaokpaaWh2
import Derived.Laws.Externs
import Derived.MapKept
import Derived.Deep.AppendSrc
namespace Go.Proofs.Ytkhkebcflaokpaa
open Go Go.RowKit
set_option linter.all false

theorem bytes_whole (l : List UInt8) (rest : List Value) (n : Nat) (hn : n = l.length) : ((l.map u8v ++ rest).drop 0).take n = l.map u8v := by
  subst hn; simp
/-- Cells of a slice of one's own. -/
theorem Sl.part {w : World} {g n cap e size i k : Nat} {cs news : List Value} (h : Sl w (.slice (some ⟨g, 0, none⟩) n cap) e size n cs) (hn : (cs.drop i).take k = news) : ∀ j u, news[j]? = some u → w.cell? ⟨g, 0 + i + j, none⟩ = some u := fun j u hj => by
  have hc := World.ownsRow.cells h (g := g) rfl (i + j) u (by
    subst hn
    rw [List.getElem?_take] at hj
    split at hj
    · rwa [List.getElem?_drop] at hj
    · cases hj)
  rw [add_off] at hc
  rw [show 0 + i + j = 0 + (i + j) by omega]
  exact hc

section
variable {P : Program} {e : Env} {d : Option Nat} {ty t t' kt el : TypeId} {pos : String} {aft : Array Edge} {g : Option (Nat × Bool)} {x y u : Operand} {w : World}

theorem eqg_p {op : BinOp} {p : Option Addr} {v : Value} : eqGuard op t x y (.pointer p) v = pure () := by cases op <;> rfl
theorem eqg_s {op : BinOp} {a : Option Addr} {n c : Nat} {v : Value} : eqGuard op t x y (.slice a n c) v = pure () := by cases op <;> rfl
theorem binOp_eql_p {p : Option Addr} {v : Value} : binOp .eql t (.pointer p) v = (do pure (.bool (← Op.equal t (.pointer p) v))) := rfl
theorem binOp_eql_s {a : Option Addr} {n c : Nat} {v : Value} : binOp .eql t (.slice a n c) v = (do pure (.bool (← Op.equal t (.slice a n c) v))) := rfl
theorem eq_p {p : Option Addr} (ht : P.underlying t = some (.pointer el)) : (Op.equal t (.pointer p) (.pointer none)).run P w = .ok p.isNone w :=
  run_equalIn_pointer_nil (P := P) (w := w) 9999 t p (by simp [Program.pointee, ht])
theorem eq_s {a : Option Addr} {n c : Nat} (ht : P.underlying t = some (.slice el)) : (Op.equal t (.slice a n c) (.slice none 0 0)).run P w = .ok a.isNone w :=
  run_equalIn_slice_nil (P := P) (w := w) 9999 t el a n c ht
theorem yeqpN {p : Option Addr} (ht : P.underlying t = some (.pointer el)) (hx : look e x = some (.pointer p)) (hy : look e y = some (.pointer none)) : Y P e ⟨d, .binOp .eql t x y t', ty, pos, aft, g⟩ (.bool p.isNone) w w := fun ρ hρ => by
  simp only [execOp, hρ _ _ hx, hρ _ _ hy, eqg_p, binOp_eql_p, pure_bind, Sem.run_bind, eq_p ht, Result.andThen, Sem.run_pure]
theorem yeqsN {a : Option Addr} {n c : Nat} (ht : P.underlying t = some (.slice el)) (hx : look e x = some (.slice a n c)) (hy : look e y = some (.slice none 0 0)) : Y P e ⟨d, .binOp .eql t x y t', ty, pos, aft, g⟩ (.bool a.isNone) w w := fun ρ hρ => by
  simp only [execOp, hρ _ _ hx, hρ _ _ hy, eqg_s, binOp_eql_s, pure_bind, Sem.run_bind, eq_s ht, Result.andThen, Sem.run_pure]
/-- s[i:j] of a slice. -/
theorem yslV {z : Value} {size bytes b m n cap i j : Nat} {k k' : IntKind} {za zb : Int} [hza : NatC za i] [hzb : NatC zb j] (ht : P.underlying t = some (.slice el)) (hs : TI P el z size bytes) (hx : look e x = some (.slice (some ⟨b, m, none⟩) n cap))
    (hy : look e y = some (.int k za)) (hu : look e u = some (.int k' zb)) (h : i ≤ j ∧ j ≤ cap) (hlt : i < cap) :
    Y P e ⟨d, .slice t x (some y) (some u) none, ty, pos, aft, g⟩ (.slice (some ⟨b, m + i * size, none⟩) (j - i) (cap - i)) w w := fun ρ hρ => by
  obtain ⟨rfl⟩ := hza
  obtain ⟨rfl⟩ := hzb
  have hsz := hs.size (w := w)
  have h1 : ∀ w, (Instr.sliceBound (.int k' (j : Int)) cap .sliceAcap).run P w = .ok j w := fun w => by rw [run_sliceBound _ _ _ _ _ (by omega) (by omega)]; simp
  have h2 : ∀ w, (Instr.sliceBound (.int k (i : Int)) j .sliceB).run P w = .ok i w := fun w => by rw [run_sliceBound _ _ _ _ _ (by omega) (by omega)]; simp
  have hne : ¬ cap = i := by omega
  simp [execOp, hρ _ _ hx, hρ _ _ hy, hρ _ _ hu, Instr.sliceAt, run_underlying ht, Instr.slice, Instr.sliceBounds, h1, h2, hsz, hne, add_off]
theorem yslVf {z : Value} {size bytes b m n cap i : Nat} {k : IntKind} {za : Int} [hza : NatC za i] (ht : P.underlying t = some (.slice el)) (hs : TI P el z size bytes) (hx : look e x = some (.slice (some ⟨b, m, none⟩) n cap))
    (hy : look e y = some (.int k za)) (h : i ≤ n) (hlt : i < cap) :
    Y P e ⟨d, .slice t x (some y) none none, ty, pos, aft, g⟩ (.slice (some ⟨b, m + i * size, none⟩) (n - i) (cap - i)) w w := fun ρ hρ => by
  obtain ⟨rfl⟩ := hza
  have hsz := hs.size (w := w)
  have h2 : ∀ w, (Instr.sliceBound (.int k (i : Int)) n .sliceB).run P w = .ok i w := fun w => by rw [run_sliceBound _ _ _ _ _ (by omega) (by omega)]; simp
  have hne : ¬ cap = i := by omega
  simp [execOp, hρ _ _ hx, hρ _ _ hy, Instr.sliceAt, run_underlying ht, Instr.slice, Instr.sliceBounds, h2, hsz, hne, add_off]
/-- copy(dst, s) of a string. -/
theorem pcpS {z : Value} {bytes b i n cap : Nat} {ts : TypeId} {T : TypeId} {cs : List Value} {l : List UInt8} (ht : P.underlying t = some (.slice el)) (hs : TI P el z 1 bytes) (hx : look e x = some (.slice (some ⟨b, i, none⟩) n cap)) (hy : look e y = some (S l))
    (hB : Blk w b cs T) (hi : i + n ≤ cs.length) :
    Yp P e ⟨d, .call ⟨.builtin .copy, #[x, y], #[t, ts]⟩, ty, pos, aft, g⟩ w fun v w' => v = I ((min l.length n : Nat) : Int) ∧ Blk w' b (splice cs i ((l.take n).map u8v)) T ∧ Kp (fun k => k = b) w w' := by
  obtain ⟨w', hr, hB', hk⟩ := run_storeCells_blk (P := P) i ((l.take n).map u8v) 0 cs w hB (by simp; omega) (fun u hu => by rw [List.mem_map] at hu; obtain ⟨_, _, rfl⟩ := hu; rfl)
  refine ⟨_, w', fun ρ hρ => ?_, rfl, by simpa using hB', hk⟩
  have hsz := hs.size (w := w)
  have e1 : ((ByteArray.mk l.toArray).extract 0 (Nat.min (ByteArray.mk l.toArray).size n)).data.map (fun b : UInt8 => Value.int .u8 (b.toNat : Int)) = ((l.take n).map u8v).toArray := by
    rw [extract_S]
    simp only [size_S, Nat.sub_zero, List.drop_zero]
    have e2 : l.take (Nat.min l.length n) = l.take n := by
      rcases Nat.le_total l.length n with h | h
      · rw [show Nat.min l.length n = l.length from Nat.min_eq_left h, List.take_length, List.take_of_length_le h]
      · rw [show Nat.min l.length n = n from Nat.min_eq_right h]
    rw [e2]
    simp
    rfl
  have hc : (Builtin.copy_ #[t, ts] ty #[.slice (some ⟨b, i, none⟩) n cap, S l]).run P w = .ok (I ((min l.length n : Nat) : Int)) w' := by
    unfold Builtin.copy_
    simp only [S, Builtin.lenOf, Builtin.firstCells, List.getElem?_toArray, List.getElem?_cons_zero, List.getElem?_cons_succ, pure_bind, Sem.run_bind, run_underlying ht, Result.andThen, Sem.run_pure, hsz, e1, hr]
    rw [size_S]
    rfl
  simp [execOp, resolve, invoke, builtin, hρ _ _ hx, hρ _ _ hy, hc]
/-- A store into a slice of one's own. -/
theorem zstSl {g' : Option (Nat × Bool)} {z v : Value} {size bytes g n cap j : Nat} {cs : List Value} (hs : TI P t z 1 bytes) (hx : look e x = some (ptr g j)) (hy : look e y = some v) (hv : oneV v = true) (hS : Sl w (.slice (some ⟨g, 0, none⟩) n cap) el size n cs) (hj : j < cs.length) :
    Zp P e ⟨d, .store t x y, ty, pos, aft, g'⟩ w fun w' => Sl w' (.slice (some ⟨g, 0, none⟩) n cap) el size n (cs.set j v) ∧ Kp (fun k => k = g) w w' := by
  obtain ⟨hlen, ⟨hz, -⟩ | ⟨g1, cap1, cur, hv1, hb, hg, hn, hm, hsz, htk⟩⟩ := hS
  · cases hz
  cases hv1
  have hjc : j < cur.size := by
    have : cs.length ≤ cur.toList.length := by rw [← htk]; simp; omega
    simp at this; omega
  have hc : w.cell? ⟨g, j, none⟩ = some cur[j] := by simp [World.cell?, hg, hjc]
  have hf : w.frozen? ⟨g, j, none⟩ = false := by simp [World.frozen?, hg]
  refine ⟨w.setCell ⟨g, j, none⟩ v, fun ρ hρ => zstc hs hx hy hv hc hf ρ hρ, ⟨by simpa using hlen, .inr ⟨g, cap, cur.setIfInBounds j v, rfl, hb, Joins.block_setCell hg v, hn, hm, by simpa using hsz, ?_⟩⟩, kp_setCell w g j v⟩
  rw [Array.toList_setIfInBounds, ← htk, List.take_set]
end
end Go.Proofs.Ytkhkebcflaokpaa
namespace Go.Proofs.Ytkhkebcflaokpaa
open Go Go.RowKit
set_option linter.all false

/-- Where a block lies: in which block of the world, from which cell on, and how many cells that block has. -/
abbrev Ph := Nat → Option (Nat × Nat × Nat)
mutual
inductive CV (φ : Ph) : V → Value → Prop
  | int {k : IntKind} {n : Int} : CV φ (.int k n) (.int k n)
  | bool {b : Bool} : CV φ (.bool b) (.bool b)
  | str {n s : Nat} : s < 256 ^ n → CV φ (.str n s) (S (unp n s))
  | ptr {b o b' a N : Nat} : φ b = some (b', a, N) → CV φ (.ptr b o) (ptr b' (a + o))
  | sl {b o len kc es : Nat} {op : Bool} {b' a N c' : Nat} : φ b = some (b', a, N) → len ≤ kc → kc ≤ c' → (op = false → c' = kc) → a + o + c' * es ≤ N →
      CV φ (.sl b o len kc es op) (.slice (some ⟨b', a + o, none⟩) len c')
  | es {b es b' a N off c' : Nat} : φ b = some (b', a, N) → off + c' * es ≤ N → CV φ (.es b es) (.slice (some ⟨b', off, none⟩) 0 c')
  | map {b b' a N : Nat} : φ b = some (b', a, N) → CV φ (.map b) (.map (some b'))
  | nptr : CV φ (.nil .ptr) (.pointer none)
  | nsl : CV φ (.nil .sl) (.slice none 0 0)
  | nmap : CV φ (.nil .map) (.map none)
  | nfn : CV φ (.nil .fn) .nilFunc
  | nifc : CV φ (.nil .ifc) .nilIface
  | fn {f : Nat} {p q : List V} {us vs : List Value} : CVs φ p us → CVs φ q vs → CV φ (.fn f p q) (.func (.func f) us.toArray vs.toArray)
  | yld {l l' a N : Nat} : φ l = some (l', a, N) → CV φ (.yld l) (.func (.yield l') #[] #[])
  | ifc {t : Nat} {v : V} {u : Value} : CV φ v u → CV φ (.ifc t v) (.iface t u)
  | mth {nm : String} {v : V} {u : Value} : CV φ v u → CV φ (.mth nm v) (.func (.method nm) #[u] #[])
  | agg {l : List V} {us : List Value} : CVs φ l us → CV φ (.agg l) (.agg us.toArray)
  | tup {l : List V} {us : List Value} : CVs φ l us → CV φ (.tup l) (.tuple us.toArray)
  | und {u : Value} : CV φ .und u
inductive CVs (φ : Ph) : List V → List Value → Prop
  | nil : CVs φ [] []
  | cons {v : V} {l : List V} {u : Value} {us : List Value} : CV φ v u → CVs φ l us → CVs φ (v :: l) (u :: us)
end

def Sb (φ φ' : Ph) : Prop := ∀ b p, φ b = some p → φ' b = some p
theorem Sb.refl (φ : Ph) : Sb φ φ := fun _ _ h => h
theorem Sb.trans {φ φ' φ'' : Ph} (h : Sb φ φ') (k : Sb φ' φ'') : Sb φ φ'' := fun b p hb => k b p (h b p hb)
mutual
theorem CV.mono {φ φ' : Ph} (hs : Sb φ φ') : ∀ {v : V} {u : Value}, CV φ v u → CV φ' v u
  | _, _, .int => .int
  | _, _, .bool => .bool
  | _, _, .str h => .str h
  | _, _, .ptr h => .ptr (hs _ _ h)
  | _, _, .sl h h1 h2 h3 h4 => .sl (hs _ _ h) h1 h2 h3 h4
  | _, _, .es h h1 => .es (hs _ _ h) h1
  | _, _, .map h => .map (hs _ _ h)
  | _, _, .nptr => .nptr
  | _, _, .nsl => .nsl
  | _, _, .nmap => .nmap
  | _, _, .nfn => .nfn
  | _, _, .nifc => .nifc
  | _, _, .fn h k => .fn (CVs.mono hs h) (CVs.mono hs k)
  | _, _, .yld h => .yld (hs _ _ h)
  | _, _, .ifc h => .ifc (CV.mono hs h)
  | _, _, .mth h => .mth (CV.mono hs h)
  | _, _, .agg h => .agg (CVs.mono hs h)
  | _, _, .tup h => .tup (CVs.mono hs h)
  | _, _, .und => .und
theorem CVs.mono {φ φ' : Ph} (hs : Sb φ φ') : ∀ {l : List V} {us : List Value}, CVs φ l us → CVs φ' l us
  | _, _, .nil => .nil
  | _, _, .cons h k => .cons (CV.mono hs h) (CVs.mono hs k)
end
theorem CVs.len {φ : Ph} : ∀ {l : List V} {us : List Value}, CVs φ l us → us.length = l.length
  | _, _, .nil => rfl
  | _, _, .cons _ k => by simp [CVs.len k]
theorem CVs.append {φ : Ph} : ∀ {l m : List V} {us vs : List Value}, CVs φ l us → CVs φ m vs → CVs φ (l ++ m) (us ++ vs)
  | _, _, _, _, .nil, k => k
  | _, _, _, _, .cons h k, k' => .cons h (CVs.append k k')
theorem CVs.get {φ : Ph} : ∀ {l : List V} {us : List Value} {i : Nat} {v : V}, CVs φ l us → l[i]? = some v → ∃ u, us[i]? = some u ∧ CV φ v u
  | _, _, _, _, .nil, h => by simp at h
  | _, _, 0, _, .cons h k, e => by simp at e; subst e; exact ⟨_, rfl, h⟩
  | _, _, i + 1, _, .cons h k, e => by
    simp at e
    obtain ⟨u, h1, h2⟩ := CVs.get k e
    exact ⟨u, by simpa using h1, h2⟩
theorem CVs.take {φ : Ph} : ∀ {l : List V} {us : List Value} (n : Nat), CVs φ l us → CVs φ (l.take n) (us.take n)
  | _, _, 0, _ => by simpa using CVs.nil
  | _, _, n + 1, .nil => by simpa using CVs.nil
  | _, _, n + 1, .cons h k => by simpa using CVs.cons h (CVs.take n k)
theorem CVs.drop {φ : Ph} : ∀ {l : List V} {us : List Value} (n : Nat), CVs φ l us → CVs φ (l.drop n) (us.drop n)
  | _, _, 0, h => by simpa using h
  | _, _, n + 1, .nil => by simpa using CVs.nil
  | _, _, n + 1, .cons h k => by simpa using CVs.drop n k

/-- A block of cells. -/
def BlkF (w : World) (b : Nat) (us : List Value) (T : TypeId) (fz : Nat × Nat) : Prop := w.heap[b]? = some (.cells us.toArray T fz) ∧ ∀ i, i < us.length → ¬ (fz.1 ≤ i ∧ i < fz.2)
theorem BlkF.blk {w : World} {b : Nat} {us : List Value} {T : TypeId} {fz : Nat × Nat} (h : BlkF w b us T fz) : Blk w b us T := ⟨fz, h⟩
theorem BlkF.lt {w : World} {b : Nat} {us : List Value} {T : TypeId} {fz : Nat × Nat} (h : BlkF w b us T fz) : b < w.heap.size := h.blk.lt
theorem BlkF.set {w : World} {b : Nat} {us : List Value} {T : TypeId} {fz : Nat × Nat} (h : BlkF w b us T fz) (i : Nat) (v : Value) : BlkF (w.setCell ⟨b, i, none⟩ v) b (us.set i v) T fz := by
  obtain ⟨h, hf⟩ := h
  refine ⟨?_, by simpa using hf⟩
  simp [World.setCell, Array.getElem?_modify, h]

/-- The cells of a tree, as far as they are known. -/
def TrR (φ : Ph) (n d : Nat) (t : Tr V d) (us : List Value) (a : Nat) : Prop := ∀ i, i < n → ∃ u, us[a + i]? = some u ∧ CV φ (vGet d i t) u
/-- A map's entries. -/
inductive MR (φ : Ph) : List (V × V × Nat) → List MapEntry → Prop
  | nil : MR φ [] []
  | cons {k v : V} {n : Nat} {e : MapEntry} {l : List (V × V × Nat)} {es : List MapEntry} : CV φ k e.key → CV φ v e.val → e.born = n → MR φ l es → MR φ ((k, v, n) :: l) (e :: es)
theorem MR.mono {φ φ' : Ph} (hs : Sb φ φ') : ∀ {l : List (V × V × Nat)} {es : List MapEntry}, MR φ l es → MR φ' l es
  | _, _, .nil => .nil
  | _, _, .cons h1 h2 h3 k => .cons (h1.mono hs) (h2.mono hs) h3 (MR.mono hs k)

/-- A block's type is known; one that is no row was laid by the program, and is wholly known. -/
def StT (st : Bool) (n : Nat) (p : Nat × Nat × Nat) (ty T : TypeId) (fz : Nat × Nat) : Prop := T = ty ∧ (st = false → fz = (0, 0) ∧ p.2.1 = 0 ∧ n = p.2.2)
/-- A map's entries in any order, with any stamps; the keys are numbers of one kind, no two alike. -/
def UR (φ : Ph) (es : List (V × V)) (arr : List MapEntry) : Prop := ∃ es' : List (V × V × Nat), MR φ es' arr ∧ (es'.map fun e => (e.1, e.2.1)).Perm es ∧ (∃ kk, ∀ e ∈ es, ∃ n, e.1 = .int kk n) ∧ es.Pairwise fun a b => a.1 ≠ b.1
theorem UR.mono {φ φ' : Ph} (hs : Sb φ φ') {es : List (V × V)} {arr : List MapEntry} : UR φ es arr → UR φ' es arr := fun ⟨l, h, k⟩ => ⟨l, h.mono hs, k⟩
def BR (φ : Ph) (x : B) (p : Nat × Nat × Nat) (w : World) : Prop := match x with
  | .cells n d t ty st => p.2.1 + n ≤ p.2.2 ∧ ∃ us T fz, BlkF w p.1 us T fz ∧ us.length = p.2.2 ∧ TrR φ n d t us p.2.1 ∧ StT st n p ty T fz
  | .ro l => p.2.1 = 0 ∧ ∃ us us' T fz, BlkF w p.1 (us ++ us') T fz ∧ CVs φ l us
  | .map es cl => ∃ arr : Array MapEntry, w.heap[p.1]? = some (.map arr cl) ∧ MR φ es arr.toList
  | .loop st pend f ed E n ps a b => ∃ r : Loop, w.heap[p.1]? = some (.loop r) ∧ r.state = st ∧ r.pending = pend ∧ r.fn = f ∧ r.params = ps.toArray ∧ r.assign = a ∧ r.body = b ∧ r.tmps.size = n ∧
      ∀ i, CV φ (vGet ed i E) (r.tmps.getD i undef)
  | .dfr => w.heap[p.1]? = some (.deferred (some []))
  | .shut => p.1 < w.heap.size
  | .miter m since seen last => p.2.1 = 0 ∧ ∃ m' a N, φ m = some (m', a, N) ∧ w.heap[p.1]? = some (.mapIter (some m') since seen.toArray last)
  | .siter n s pos => s < 256 ^ n ∧ w.heap[p.1]? = some (.stringIter ⟨(unp n s).toArray⟩ pos)
  | .umap es => ∃ (arr : Array MapEntry) (cl : Nat), w.heap[p.1]? = some (.map arr cl) ∧ UR φ es arr.toList
  | .byt n s ty st => p.2.1 + n ≤ p.2.2 ∧ ∃ us T fz, BlkF w p.1 us T fz ∧ us.length = p.2.2 ∧ (∀ i, i < n → us[p.2.1 + i]? = some (.int .u8 ((s / 256 ^ i % 256 : Nat) : Int))) ∧ StT st n p ty T fz

theorem BR.lt {φ : Ph} {x : B} {p : Nat × Nat × Nat} {w : World} (h : BR φ x p w) : p.1 < w.heap.size := by
  cases x with
  | cells n d t ty st => obtain ⟨-, us, T, fz, h, -⟩ := h; exact h.lt
  | ro l => obtain ⟨-, us, us', T, fz, h, -⟩ := h; exact h.lt
  | map es cl => obtain ⟨arr, h, -⟩ := h; exact lt_of_heap h
  | loop st pend f ed E n ps a b => obtain ⟨r, h, -⟩ := h; exact lt_of_heap h
  | dfr => exact lt_of_heap h
  | shut => exact h
  | miter m since seen last => obtain ⟨-, m', a, N, -, h⟩ := h; exact lt_of_heap h
  | siter n s pos => exact lt_of_heap h.2
  | umap es => obtain ⟨arr, cl, h, -⟩ := h; exact lt_of_heap h
  | byt n s ty st => obtain ⟨-, us, T, fz, h, -⟩ := h; exact h.lt

theorem BR.kp {φ φ' : Ph} {x : B} {p : Nat × Nat × Nat} {w w' : World} {S : Nat → Prop} (h : BR φ x p w) (hs : Sb φ φ') (k : Kp S w w') (hn : ¬ S p.1) : BR φ' x p w' := by
  have hlt := h.lt
  have hb : w'.heap[p.1]? = w.heap[p.1]? := k.block _ hlt hn
  cases x with
  | cells n d t ty st =>
    obtain ⟨h1, us, T, fz, ⟨h2, h3⟩, h4, h5, h6⟩ := h
    exact ⟨h1, us, T, fz, ⟨by rw [hb]; exact h2, h3⟩, h4, fun i hi => let ⟨u, a, b⟩ := h5 i hi; ⟨u, a, b.mono hs⟩, h6⟩
  | ro l =>
    obtain ⟨h0, us, us', T, fz, ⟨h2, h3⟩, h5⟩ := h
    exact ⟨h0, us, us', T, fz, ⟨by rw [hb]; exact h2, h3⟩, h5.mono hs⟩
  | map es cl => obtain ⟨arr, h, h2⟩ := h; exact ⟨arr, by rw [hb]; exact h, h2.mono hs⟩
  | loop st pend f ed E n ps a b =>
    obtain ⟨r, h, h1, h2, h3, h4, h5, h6, h7, h8⟩ := h
    exact ⟨r, by rw [hb]; exact h, h1, h2, h3, h4, h5, h6, h7, fun i => (h8 i).mono hs⟩
  | dfr => exact hb.trans h
  | shut => exact Nat.lt_of_lt_of_le hlt k.size
  | miter m since seen last => obtain ⟨h0, m', a, N, h1, h2⟩ := h; exact ⟨h0, m', a, N, hs _ _ h1, hb.trans h2⟩
  | siter n s pos => exact ⟨h.1, hb.trans h.2⟩
  | umap es => obtain ⟨arr, cl, h, h2⟩ := h; exact ⟨arr, cl, by rw [hb]; exact h, h2.mono hs⟩
  | byt n s ty st =>
    obtain ⟨h1, us, T, fz, ⟨h2, h3⟩, h4, h5, h6⟩ := h
    exact ⟨h1, us, T, fz, ⟨by rw [hb]; exact h2, h3⟩, h4, h5, h6⟩

structure Rel (G : Nat) (φ : Ph) (h : H) (w : World) : Prop where
  inj : ∀ a b x y p q, hGet h a = some x → hGet h b = some y → φ a = some p → φ b = some q → p.1 = q.1 → a = b
  blk : ∀ b x, hGet h b = some x → ∃ p, φ b = some p ∧ BR φ x p w
  fresh : ∀ b, h.next ≤ b → φ b = none
  glob : ∀ g, g < G → ∃ N, φ g = some (g, 0, N)

def isRo : B → Bool
  | .ro _ => true
  | _ => false
/-- The world's blocks that the memory holds, and may write. -/
def foot (φ : Ph) (h : H) (k : Nat) : Prop := ∃ b x p, hGet h b = some x ∧ isRo x = false ∧ φ b = some p ∧ p.1 = k

/-- What of the reckoner's memory stays: numbers that are taken keep their places, blocks that are gone stay so, and none becomes read-only. -/
structure Hp (φ : Ph) (h : H) (φ' : Ph) (h' : H) : Prop where
  dm : ∀ b, b < h.next → φ' b = φ b
  nx : h.next ≤ h'.next
  od : ∀ b, b < h.next → hGet h b = none → hGet h' b = none
  ro : ∀ b l, hGet h' b = some (.ro l) → hGet h b = some (.ro l)
theorem Hp.refl (φ : Ph) (h : H) : Hp φ h φ h := ⟨fun _ _ => rfl, Nat.le_refl _, fun _ _ e => e, fun _ _ e => e⟩
theorem Hp.trans {φ φ' φ'' : Ph} {h h' h'' : H} (p : Hp φ h φ' h') (q : Hp φ' h' φ'' h'') : Hp φ h φ'' h'' :=
  ⟨fun b hb => (q.dm b (Nat.lt_of_lt_of_le hb p.nx)).trans (p.dm b hb), Nat.le_trans p.nx q.nx, fun b hb e => q.od b (Nat.lt_of_lt_of_le hb p.nx) (p.od b hb e), fun b l e => p.ro b l (q.ro b l e)⟩
structure Post (G : Nat) (φ : Ph) (h : H) (w : World) (φ' : Ph) (h' : H) (w' : World) : Prop where
  sb : Sb φ φ'
  rel : Rel G φ' h' w'
  kp : Kp (foot φ h) w w'
  ft : ∀ k, foot φ' h' k → foot φ h k ∨ w.heap.size ≤ k
  hp : Hp φ h φ' h'
theorem Post.refl {G : Nat} {φ : Ph} {h : H} {w : World} (r : Rel G φ h w) : Post G φ h w φ h w := ⟨Sb.refl φ, r, Kp.refl _ w, fun _ h => .inl h, Hp.refl φ h⟩
theorem Post.trans {G : Nat} {φ φ' φ'' : Ph} {h h' h'' : H} {w w' w'' : World} (p : Post G φ h w φ' h' w') (q : Post G φ' h' w' φ'' h'' w'') : Post G φ h w φ'' h'' w'' :=
  ⟨p.sb.trans q.sb, q.rel, p.kp.trans_new q.kp fun i hi => (p.ft i hi).symm, fun k hk => by
    rcases q.ft k hk with h1 | h1
    · exact p.ft k h1
    · exact .inr (Nat.le_trans p.kp.size h1), p.hp.trans q.hp⟩

theorem hGet_put_ne {h : H} {b c : Nat} {x : Option B} {n : Nat} (hne : c ≠ b) : hGet ⟨trPut HD b h.t x, n⟩ c = hGet h c := get_put_ne _ _ _ _ _ _ hne
theorem hGet_put_same {h : H} {b : Nat} {x : Option B} {y : B} {n : Nat} (hy : hGet ⟨trPut HD b h.t x, n⟩ b = some y) : x = some y := by
  rcases get_put_same none HD b h.t x with h1 | h1
  · exact h1.symm.trans hy
  · have := h1.symm.trans hy; cases this
theorem hSet_eq {β : Type} (h : H) (b : Nat) (x : Option B) (c : H → β) : hSet h b x c = c ⟨trPut HD b h.t x, h.next⟩ := by
  obtain ⟨t, n⟩ := h
  show trSet HD b t x (fun t' => c ⟨t', n⟩) = _
  rw [trSet_eq]
theorem hNew_eq {β : Type} (h : H) (x : B) (c : Nat → H → β) : hNew h x c = c h.next ⟨trPut HD h.next h.t (some x), h.next + 1⟩ := by
  obtain ⟨t, n⟩ := h
  show trSet HD n t (some x) (fun t' => fN (Nat.succ n) fun n' => c n ⟨t', n'⟩) = _
  rw [trSet_eq, fN_eq]

section
variable {G : Nat} {φ : Ph} {h : H} {w : World}

theorem Hp.put {b : Nat} {x y : B} (hb : hGet h b = some x) (hy : isRo y = false) : Hp φ h φ ⟨trPut HD b h.t (some y), h.next⟩ := by
  refine ⟨fun _ _ => rfl, Nat.le_refl _, fun c hc e => ?_, fun c l e => ?_⟩
  · by_cases h1 : c = b
    · subst h1; rw [hb] at e; cases e
    · rw [hGet_put_ne h1]; exact e
  · by_cases h1 : c = b
    · subst h1
      have := hGet_put_same e
      cases this; cases hy
    · rwa [hGet_put_ne h1] at e
theorem Hp.del (b : Nat) : Hp φ h φ ⟨trPut HD b h.t none, h.next⟩ := by
  refine ⟨fun _ _ => rfl, Nat.le_refl _, fun c hc e => ?_, fun c l e => ?_⟩
  · by_cases h1 : c = b
    · subst h1
      cases hq : hGet ⟨trPut HD c h.t none, h.next⟩ c with
      | none => rfl
      | some z => have := hGet_put_same hq; cases this
    · rw [hGet_put_ne h1]; exact e
  · by_cases h1 : c = b
    · subst h1
      have := hGet_put_same e
      cases this
    · rwa [hGet_put_ne h1] at e
def addPh (φ : Ph) (b : Nat) (p : Nat × Nat × Nat) : Ph := fun c => if c = b then some p else φ c
theorem addPh_sb (r : Rel G φ h w) (p : Nat × Nat × Nat) : Sb φ (addPh φ h.next p) := fun b q hb => by
  unfold addPh
  split
  · rename_i e
    rw [e, r.fresh _ (Nat.le_refl _)] at hb; cases hb
  · exact hb
theorem addPh_same (φ : Ph) (b : Nat) (p : Nat × Nat × Nat) : addPh φ b p b = some p := if_pos rfl

theorem Hp.new {x : B} (p : Nat × Nat × Nat) (hx : isRo x = false) : Hp φ h (addPh φ h.next p) ⟨trPut HD h.next h.t (some x), h.next + 1⟩ := by
  refine ⟨fun b hb => ?_, Nat.le_succ _, fun c hc e => ?_, fun c l e => ?_⟩
  · unfold addPh; rw [if_neg (by omega)]
  · rw [hGet_put_ne (by omega)]; exact e
  · by_cases h1 : c = h.next
    · subst h1
      have := hGet_put_same e
      cases this; cases hx
    · rwa [hGet_put_ne h1] at e
theorem Rel.next_none (r : Rel G φ h w) {b : Nat} {p : Nat × Nat × Nat} (hb : φ b = some p) : b < h.next := by
  rcases Nat.lt_or_ge b h.next with h1 | h1
  · exact h1
  · rw [r.fresh b h1] at hb; cases hb

/-- The heap as before: nothing has changed in the reckoner's memory, the world has grown. -/
theorem Rel.ext {w' : World} (r : Rel G φ h w) (k : Ext w w') : Post G φ h w φ h w' :=
  ⟨Sb.refl φ, ⟨r.inj, fun b x hb => let ⟨p, h1, h2⟩ := r.blk b x hb; ⟨p, h1, h2.kp (Sb.refl φ) k id⟩, r.fresh, r.glob⟩, k.kp, fun _ h => .inl h, Hp.refl φ h⟩

/-- A block is new. -/
theorem Rel.new (r : Rel G φ h w) {x : B} {w' : World} {b' a N : Nat} (k : Ext w w') (hb' : w.heap.size ≤ b') (hx : BR (addPh φ h.next (b', a, N)) x (b', a, N) w') (hxr : isRo x = false := by rfl) :
    Post G φ h w (addPh φ h.next (b', a, N)) ⟨trPut HD h.next h.t (some x), h.next + 1⟩ w' := by
  have hsb := addPh_sb r (b', a, N)
  have hold : ∀ b y, b ≠ h.next → hGet ⟨trPut HD h.next h.t (some x), h.next + 1⟩ b = some y → hGet h b = some y := fun b y hn hy => by rwa [hGet_put_ne hn] at hy
  have hph : ∀ b q, b ≠ h.next → addPh φ h.next (b', a, N) b = some q → φ b = some q := fun b q hn hq => by unfold addPh at hq; rwa [if_neg hn] at hq
  refine ⟨hsb, ⟨fun c d y z p q hc hd hp hq e => ?_, fun c y hc => ?_, fun c hc => ?_, fun g hg => ?_⟩, k.kp, fun j ⟨c, y, p, hc, hro, hp, e⟩ => ?_, Hp.new _ hxr⟩
  · by_cases h1 : c = h.next
    · by_cases h2 : d = h.next
      · rw [h1, h2]
      · exfalso
        subst h1
        rw [addPh_same] at hp
        cases hp
        obtain ⟨q', hq', hbr⟩ := r.blk _ _ (hold _ _ h2 hd)
        have := hph _ _ h2 hq
        rw [this] at hq'; cases hq'
        have := hbr.lt
        simp only at e; omega
    · by_cases h2 : d = h.next
      · exfalso
        subst h2
        rw [addPh_same] at hq
        cases hq
        obtain ⟨q', hq', hbr⟩ := r.blk _ _ (hold _ _ h1 hc)
        have := hph _ _ h1 hp
        rw [this] at hq'; cases hq'
        have := hbr.lt
        simp only at e; omega
      · exact r.inj _ _ _ _ _ _ (hold _ _ h1 hc) (hold _ _ h2 hd) (hph _ _ h1 hp) (hph _ _ h2 hq) e
  · by_cases h1 : c = h.next
    · subst h1
      have := hGet_put_same hc
      cases this
      exact ⟨_, addPh_same _ _ _, hx⟩
    · obtain ⟨p, hp, hbr⟩ := r.blk _ _ (hold _ _ h1 hc)
      exact ⟨p, hsb _ _ hp, hbr.kp hsb k id⟩
  · show (if c = h.next then _ else _) = none
    have hc' : h.next + 1 ≤ c := hc
    rw [if_neg (by omega), r.fresh c (by omega)]
  · obtain ⟨N', h1⟩ := r.glob g hg
    exact ⟨N', hsb _ _ h1⟩
  · by_cases h1 : c = h.next
    · subst h1
      rw [addPh_same] at hp
      cases hp
      exact .inr (e ▸ hb')
    · exact .inl ⟨c, y, p, hold _ _ h1 hc, hro, hph _ _ h1 hp, e⟩

/-- A block is written. -/
theorem Rel.updE (r : Rel G φ h w) {b : Nat} {x y : B} {p : Nat × Nat × Nat} {w' : World} (hb : hGet h b = some x) (hro : isRo x = false) (hp : φ b = some p) (k : Kp (fun i => i = p.1) w w') (hy : BR φ y p w') (hyr : isRo y = false := by rfl) :
    Post G φ h w φ ⟨trPut HD b h.t (some y), h.next⟩ w' := by
  refine ⟨Sb.refl φ, ⟨fun c d y' z q q' hc hd hq hq' e => ?_, fun c y' hc => ?_, r.fresh, r.glob⟩, k.mono' fun i hi => ⟨b, x, p, hb, hro, hp, hi.symm⟩, fun j ⟨c, y', q, hc, hro', hq, e⟩ => .inl ?_, Hp.put hb hyr⟩
  · have hx : ∀ c y', hGet ⟨trPut HD b h.t (some y), h.next⟩ c = some y' → ∃ x', hGet h c = some x' := fun c y' hc => by
      by_cases h1 : c = b
      · exact ⟨x, h1 ▸ hb⟩
      · exact ⟨y', by rwa [hGet_put_ne h1] at hc⟩
    obtain ⟨_, h1⟩ := hx _ _ hc
    obtain ⟨_, h2⟩ := hx _ _ hd
    exact r.inj _ _ _ _ _ _ h1 h2 hq hq' e
  · by_cases h1 : c = b
    · subst h1
      have := hGet_put_same hc
      cases this
      exact ⟨p, hp, hy⟩
    · rw [hGet_put_ne h1] at hc
      obtain ⟨q, hq, hbr⟩ := r.blk _ _ hc
      refine ⟨q, hq, hbr.kp (Sb.refl φ) k fun e => h1 ?_⟩
      exact r.inj _ _ _ _ _ _ hc hb hq hp e
  · by_cases h1 : c = b
    · subst h1
      rw [hp] at hq; cases hq
      exact ⟨c, x, p, hb, hro, hp, e⟩
    · rw [hGet_put_ne h1] at hc
      exact ⟨c, y', q, hc, hro', hq, e⟩

/-- A block is forgotten. -/
theorem Rel.del (r : Rel G φ h w) (b : Nat) : Post G φ h w φ ⟨trPut HD b h.t none, h.next⟩ w := by
  have hx : ∀ c y', hGet ⟨trPut HD b h.t none, h.next⟩ c = some y' → c ≠ b ∧ hGet h c = some y' := fun c y' hc => by
    by_cases h1 : c = b
    · subst h1
      have := hGet_put_same hc; cases this
    · exact ⟨h1, by rwa [hGet_put_ne h1] at hc⟩
  exact ⟨Sb.refl φ, ⟨fun c d y' z q q' hc hd hq hq' e => r.inj _ _ _ _ _ _ (hx _ _ hc).2 (hx _ _ hd).2 hq hq' e, fun c y' hc => r.blk _ _ (hx _ _ hc).2, r.fresh, r.glob⟩, Kp.refl _ w,
    fun j ⟨c, y', q, hc, hro', hq, e⟩ => .inl ⟨c, y', q, (hx _ _ hc).2, hro', hq, e⟩, Hp.del b⟩
/-- A block is changed by the machine, and forgotten. -/
theorem Rel.delw {φ : Ph} {h : H} {w : World} (r : Rel G φ h w) {b : Nat} {x : B} {p : Nat × Nat × Nat} {w' : World} (hb : hGet h b = some x) (hro : isRo x = false) (hp : φ b = some p) (k : Kp (fun i => i = p.1) w w') : Post G φ h w φ ⟨trPut HD b h.t none, h.next⟩ w' := by
  have hx : ∀ c y', hGet ⟨trPut HD b h.t none, h.next⟩ c = some y' → c ≠ b ∧ hGet h c = some y' := fun c y' hc => by
    by_cases h1 : c = b
    · subst h1
      have := hGet_put_same hc; cases this
    · exact ⟨h1, by rwa [hGet_put_ne h1] at hc⟩
  refine ⟨Sb.refl φ, ⟨fun c d y' z q q' hc hd hq hq' e => r.inj _ _ _ _ _ _ (hx _ _ hc).2 (hx _ _ hd).2 hq hq' e, fun c y' hc => ?_, r.fresh, r.glob⟩, k.mono' fun i hi => ⟨b, x, p, hb, hro, hp, hi.symm⟩, fun j ⟨c, y', q, hc, hro', hq, e⟩ => .inl ⟨c, y', q, (hx _ _ hc).2, hro', hq, e⟩, Hp.del b⟩
  obtain ⟨h1, h2⟩ := hx _ _ hc
  obtain ⟨q, hq, hbr⟩ := r.blk _ _ h2
  exact ⟨q, hq, hbr.kp (Sb.refl φ) k fun e => h1 (r.inj _ _ _ _ _ _ h2 hb hq hp e)⟩
end
end Go.Proofs.Ytkhkebcflaokpaa
namespace Go.Proofs.Ytkhkebcflaokpaa
open Go Go.RowKit
set_option linter.all false

def RhoR (φ : Ph) (ρ : Operand → V) (e : Env) : Prop := ∀ x, ρ x ≠ .und → ∃ u, look e x = some u ∧ CV φ (ρ x) u
def ROk (P : Program) (G : Nat) (φ : Ph) (h : H) (w : World) (e : Env) (o : Oper) : R → Prop
  | .v x h' => ∃ u w' φ', Y P e o u w w' ∧ Post G φ h w φ' h' w' ∧ CV φ' x u
  | .eff h' => ∃ w' φ', Z P e o w w' ∧ Post G φ h w φ' h' w'
  | .call f args => ∃ us, (CF P f → Yc P e o f us w) ∧ CVs φ args us ∧ ∀ u w', (callFunc f us.toArray).run P w = .ok (.value u) w' → Y P e o u w w'
  | .yld l args => ∃ us l' a N, φ l = some (l', a, N) ∧ CVs φ args us ∧ Yy P e o l' us w
  | .dfr f cap args => ∃ uc ua, CVs φ cap uc ∧ CVs φ args ua ∧ ∀ ρ : Operand → Value, (∀ x v, look e x = some v → ρ x = v) → (execOp ρ o).run P w = .ok (.defer (Dfr.d (.call f uc ua))) w
  | .bad _ => True

section
variable {P : Program} {G : Nat} {φ : Ph} {h : H} {w : World} {e : Env} {d : Option Nat} {ty t t' : TypeId} {pos : String} {aft : Array Edge} {g : Option (Nat × Bool)} {x y : Operand} {ρ : Operand → V}

/-- What an operation answers when the memory stays as it is. -/
theorem ROk.pure {o : Oper} {v : V} {u : Value} (r : Rel G φ h w) (hy : Y P e o u w w) (hc : CV φ v u) : ROk P G φ h w e o (.v v h) := ⟨u, w, φ, hy, Post.refl r, hc⟩
theorem rV_ok {o : Oper} {v : V} {n : Nat} (r : Rel G φ h w) (hy : v ≠ .und → ∃ u, Y P e o u w w ∧ CV φ v u) : ROk P G φ h w e o (rV h n v) := by
  by_cases hv : v = .und
  · subst hv; exact trivial
  · rw [rV_some hv]
    obtain ⟨u, h1, h2⟩ := hy hv
    exact ROk.pure r h1 h2
theorem cond_ok {o : Oper} {b : Bool} {p q : R} (h1 : b = true → ROk P G φ h w e o p) (h2 : b = false → ROk P G φ h w e o q) : ROk P G φ h w e o (cond b p q) := by
  cases b with
  | true => exact h1 rfl
  | false => exact h2 rfl
theorem cond_ok' {o : Oper} {b : Bool} {p : R} {n : Nat} (h1 : b = true → ROk P G φ h w e o p) : ROk P G φ h w e o (cond b p (.bad n)) := cond_ok h1 fun _ => trivial

/-- The memory stays as it is, and so does the world. -/
def QOk (P : Program) (φ : Ph) (h : H) (w : World) (e : Env) (o : Oper) : R → Prop
  | .v x h' => h' = h ∧ ∃ u, Y P e o u w w ∧ CV φ x u
  | .bad _ => True
  | _ => False
theorem QOk.pure {o : Oper} {v : V} {u : Value} (hy : Y P e o u w w) (hc : CV φ v u) : QOk P φ h w e o (.v v h) := ⟨rfl, u, hy, hc⟩
theorem QOk.rok {o : Oper} {rr : R} (r : Rel G φ h w) (q : QOk P φ h w e o rr) : ROk P G φ h w e o rr := by
  cases rr with
  | v x h' => obtain ⟨rfl, u, h1, h2⟩ := q; exact ROk.pure r h1 h2
  | bad _ => exact trivial
  | eff _ => exact q.elim
  | call _ _ => exact q.elim
  | yld _ _ => exact q.elim
  | dfr _ _ _ => exact q.elim
theorem rV_q {o : Oper} {v : V} {n : Nat} (hy : v ≠ .und → ∃ u, Y P e o u w w ∧ CV φ v u) : QOk P φ h w e o (rV h n v) := by
  by_cases hv : v = .und
  · subst hv; exact trivial
  · rw [rV_some hv]
    obtain ⟨u, h1, h2⟩ := hy hv
    exact QOk.pure h1 h2
theorem cond_q {o : Oper} {b : Bool} {p q : R} (h1 : b = true → QOk P φ h w e o p) (h2 : b = false → QOk P φ h w e o q) : QOk P φ h w e o (cond b p q) := by
  cases b with
  | true => exact h1 rfl
  | false => exact h2 rfl
theorem cond_q' {o : Oper} {b : Bool} {p : R} {n : Nat} (h1 : b = true → QOk P φ h w e o p) : QOk P φ h w e o (cond b p (.bad n)) := cond_q h1 fun _ => trivial

theorem Y.bin {op : BinOp} {u v r : Value} (hx : look e x = some u) (hy : look e y = some v) (hg : ∀ x y, (eqGuard op t x y u v).run P w = .ok () w) (hb : (binOp op t u v).run P w = .ok r w) :
    Y P e ⟨d, .binOp op t x y t', ty, pos, aft, g⟩ r w w := fun ρ hρ => by
  simp only [execOp, hρ _ _ hx, hρ _ _ hy, Sem.run_bind, hg, Result.andThen_ok, hb, Sem.run_pure]
theorem eqg_run {op : BinOp} {a b : Value} (h1 : (∀ p q, a = .agg p → b = .agg q → False)) (h2 : a = .nilIface → b = .nilIface → False) (x y : Operand) : (eqGuard op t x y a b).run P w = .ok () w := by
  cases op <;> first
    | rfl
    | (cases a <;> first | rfl | (cases b <;> first | rfl | exact (h1 _ _ rfl rfl).elim | exact (h2 rfl rfl).elim))

theorem natLt {k : IntKind} {z : Int} (hz : 0 ≤ z) (hr : inR k z = true) : z.toNat < 2 ^ k.bits := by
  obtain ⟨h1, h2⟩ := inR_spec hr
  have : (z.toNat : Int) < 2 ^ k.bits := by
    rw [Int.toNat_of_nonneg hz]
    cases k <;> simp [IntKind.max, IntKind.signed, IntKind.bits] at h2 ⊢ <;> omega
  exact_mod_cast this
/-- The bits that a number of the kind has if it is not negative. -/
def pbits (k : IntKind) : Nat := if k.signed then k.bits - 1 else k.bits
theorem natLt' {k : IntKind} {z : Int} (hz : 0 ≤ z) (hr : inR k z = true) : z.toNat < 2 ^ pbits k := by
  obtain ⟨h1, h2⟩ := inR_spec hr
  have : (z.toNat : Int) < 2 ^ pbits k := by
    rw [Int.toNat_of_nonneg hz]
    cases k <;> simp [IntKind.max, IntKind.signed, IntKind.bits, pbits] at h2 ⊢ <;> omega
  exact_mod_cast this
theorem wrap_small {k : IntKind} {n : Nat} (hn : n < 2 ^ pbits k) : k.wrap (n : Int) = (n : Int) := by
  have : (n : Int) < 2 ^ pbits k := by exact_mod_cast hn
  refine wrap_bd k _ ?_ ?_ <;> cases k <;> simp [IntKind.min, IntKind.max, IntKind.signed, IntKind.bits, pbits] at this ⊢ <;> omega

/-- The sign of an answer: a value, the memory as it is. -/
def PV (φ : Ph) (P : Program) (w : World) (h : H) (s : Sem Value) : R → Prop
  | .v v h' => h' = h ∧ ∃ u, s.run P w = .ok u w ∧ CV φ v u
  | .bad _ => True
  | _ => False
theorem PV.mk {s : Sem Value} {v : V} {u : Value} (h1 : s.run P w = .ok u w) (h2 : CV φ v u) : PV φ P w h s (.v v h) := ⟨rfl, u, h1, h2⟩
theorem PV.bad {s : Sem Value} {n : Nat} : PV φ P w h s (.bad n) := trivial
theorem PV.ok {s : Sem Value} {o : Oper} {rr : R} (r : Rel G φ h w) (hp : PV φ P w h s rr) (hy : ∀ u, s.run P w = .ok u w → Y P e o u w w) : ROk P G φ h w e o rr := by
  cases rr with
  | v v h' =>
    obtain ⟨rfl, u, e1, e2⟩ := hp
    exact ROk.pure r (hy u e1) e2
  | bad n => exact trivial
  | eff _ => exact hp.elim
  | call _ _ => exact hp.elim
  | yld _ _ => exact hp.elim
  | dfr _ _ _ => exact hp.elim
theorem PV.q {s : Sem Value} {o : Oper} {rr : R} (hp : PV φ P w h s rr) (hy : ∀ u, s.run P w = .ok u w → Y P e o u w w) : QOk P φ h w e o rr := by
  cases rr with
  | v v h' =>
    obtain ⟨rfl, u, e1, e2⟩ := hp
    exact QOk.pure (hy u e1) e2
  | bad n => exact trivial
  | eff _ => exact hp.elim
  | call _ _ => exact hp.elim
  | yld _ _ => exact hp.elim
  | dfr _ _ _ => exact hp.elim
theorem PV.cond {s : Sem Value} {b : Bool} {p q : R} (h1 : b = true → PV φ P w h s p) (h2 : b = false → PV φ P w h s q) : PV φ P w h s (cond b p q) := by
  cases b with
  | true => exact h1 rfl
  | false => exact h2 rfl
theorem PV.nat {s : Sem Value} {z : Int} {c : Nat → R} {no : R} (h1 : 0 ≤ z → PV φ P w h s (c z.toNat)) (h2 : z < 0 → PV φ P w h s no) : PV φ P w h s (nat? z c no) := by
  rw [nat?_eq]
  split
  · rename_i hz; exact h1 hz
  · rename_i hz; exact h2 (by omega)
theorem unN_eq (k : IntKind) (z : Int) : unN k z = (BitVec.ofInt k.bits z).toNat := by
  cases z with
  | ofNat n =>
    show n % 2 ^ k.bits = (BitVec.ofInt k.bits (n : Int)).toNat
    rw [BitVec.ofInt_natCast, BitVec.toNat_ofNat]
  | negSucc n =>
    show 2 ^ k.bits - 1 - n % 2 ^ k.bits = _
    rw [BitVec.toNat_ofInt, Int.negSucc_emod n (by exact_mod_cast Nat.two_pow_pos k.bits)]
    have := Nat.mod_lt n (Nat.two_pow_pos k.bits)
    have e : ((n : Int) % ((2 ^ k.bits : Nat) : Int)) = ((n % 2 ^ k.bits : Nat) : Int) := by simp
    rw [e]
    omega
theorem bitS_and {k : IntKind} {a b : Int} : PV φ P w h (binOp .and t (.int k a) (.int k b)) (bitS h k Nat.land a b) := by
  simp only [bitS, rInt_eq, wrp_eq]
  refine PV.mk ?_ .int
  simp only [binOp_and, intBits_and, Sem.run_pure, bits, BitVec.toNat_and, ← unN_eq]
  rfl
theorem bitS_or {k : IntKind} {a b : Int} : PV φ P w h (binOp .or t (.int k a) (.int k b)) (bitS h k Nat.lor a b) := by
  simp only [bitS, rInt_eq, wrp_eq]
  refine PV.mk ?_ .int
  simp only [binOp_or, intBits_or, Sem.run_pure, bits, BitVec.toNat_or, ← unN_eq]
  rfl
theorem bitS_xor {k : IntKind} {a b : Int} : PV φ P w h (binOp .xor t (.int k a) (.int k b)) (bitS h k Nat.xor a b) := by
  simp only [bitS, rInt_eq, wrp_eq]
  refine PV.mk ?_ .int
  simp only [binOp_xor, intBits_xor, Sem.run_pure, bits, BitVec.toNat_xor, ← unN_eq]
  rfl
theorem bitS_andNot {k : IntKind} {a b : Int} : PV φ P w h (binOp .andNot t (.int k a) (.int k b)) (bitS h k (fun x y => Nat.land x (Nat.sub (Nat.sub (Nat.pow 2 k.bits) 1) y)) a b) := by
  simp only [bitS, rInt_eq, wrp_eq]
  refine PV.mk (u := .int k (k.wrap ((BitVec.ofInt k.bits a &&& ~~~ BitVec.ofInt k.bits b).toNat : Int))) ?_ ?_
  · simp [binOp, Op.intBits]
  · rw [BitVec.toNat_and, BitVec.toNat_not, ← unN_eq, ← unN_eq]
    exact .int
theorem binInt_pv (op : BinOp) (k : IntKind) (a b : Int) (hop : op ≠ .shl ∧ op ≠ .shr) : PV φ P w h (binOp op t (.int k a) (.int k b)) (binInt h op k a b) := by
  cases op with
  | add => simp only [binInt, rInt_eq, wrp_eq]; exact PV.mk (by simp [binOp, Op.intArith]) .int
  | sub => simp only [binInt, rInt_eq, wrp_eq]; exact PV.mk (u := .int k (k.wrap (a - b))) (by simp [binOp, Op.intArith]) .int
  | mul => simp only [binInt, rInt_eq, wrp_eq]; exact PV.mk (by simp [binOp, Op.intArith]) .int
  | quo =>
    simp only [binInt, rInt_eq, wrp_eq, ieq_eq]
    refine PV.cond (fun _ => PV.bad) fun hb => ?_
    have hb : ¬ b = 0 := by simpa using hb
    exact PV.mk (by simp [binOp, Op.intDiv, hb]) .int
  | rem =>
    simp only [binInt, rInt_eq, ieq_eq]
    refine PV.cond (fun _ => PV.bad) fun hb => ?_
    have hb : ¬ b = 0 := by simpa using hb
    exact PV.mk (by simp [binOp, Op.intDiv, hb]) .int
  | and =>
    simp only [binInt, rInt_eq]
    refine PV.nat (fun ha => PV.nat (fun hb => PV.cond (fun hc => ?_) fun _ => PV.bad) fun _ => bitS_and) fun _ => bitS_and
    simp only [Bool.and_eq_true] at hc
    refine PV.mk (u := .int k ((a.toNat &&& b.toNat : Nat) : Int)) ?_ .int
    obtain ⟨m, rfl⟩ : ∃ m : Nat, a = m := ⟨a.toNat, (Int.toNat_of_nonneg ha).symm⟩
    obtain ⟨n, rfl⟩ : ∃ m : Nat, b = m := ⟨b.toNat, (Int.toNat_of_nonneg hb).symm⟩
    have hm := natLt ha hc.1
    have hn := natLt hb hc.2
    have hm' := natLt' ha hc.1
    simp only [Int.toNat_natCast] at *
    simp only [binOp_and, intBits_and, Sem.run_pure, bits, BitVec.toNat_and, ofInt_nat hm, ofInt_nat hn, wrap_small (Nat.lt_of_le_of_lt Nat.and_le_left hm')]
  | or =>
    simp only [binInt, rInt_eq]
    refine PV.nat (fun ha => PV.nat (fun hb => PV.cond (fun hc => ?_) fun _ => PV.bad) fun _ => bitS_or) fun _ => bitS_or
    simp only [Bool.and_eq_true] at hc
    refine PV.mk (u := .int k ((a.toNat ||| b.toNat : Nat) : Int)) ?_ .int
    obtain ⟨m, rfl⟩ : ∃ m : Nat, a = m := ⟨a.toNat, (Int.toNat_of_nonneg ha).symm⟩
    obtain ⟨n, rfl⟩ : ∃ m : Nat, b = m := ⟨b.toNat, (Int.toNat_of_nonneg hb).symm⟩
    have hm := natLt ha hc.1
    have hn := natLt hb hc.2
    have hm' := natLt' ha hc.1
    have hn' := natLt' hb hc.2
    simp only [Int.toNat_natCast] at *
    simp only [binOp_or, intBits_or, Sem.run_pure, bits, BitVec.toNat_or, ofInt_nat hm, ofInt_nat hn, wrap_small (Nat.or_lt_two_pow hm' hn')]
  | xor =>
    simp only [binInt, rInt_eq]
    refine PV.nat (fun ha => PV.nat (fun hb => PV.cond (fun hc => ?_) fun _ => PV.bad) fun _ => bitS_xor) fun _ => bitS_xor
    simp only [Bool.and_eq_true] at hc
    refine PV.mk (u := .int k ((a.toNat ^^^ b.toNat : Nat) : Int)) ?_ .int
    obtain ⟨m, rfl⟩ : ∃ m : Nat, a = m := ⟨a.toNat, (Int.toNat_of_nonneg ha).symm⟩
    obtain ⟨n, rfl⟩ : ∃ m : Nat, b = m := ⟨b.toNat, (Int.toNat_of_nonneg hb).symm⟩
    have hm := natLt ha hc.1
    have hn := natLt hb hc.2
    have hm' := natLt' ha hc.1
    have hn' := natLt' hb hc.2
    simp only [Int.toNat_natCast] at *
    simp only [binOp_xor, intBits_xor, Sem.run_pure, bits, BitVec.toNat_xor, ofInt_nat hm, ofInt_nat hn, wrap_small (Nat.xor_lt_two_pow hm' hn')]
  | andNot => simp only [binInt]; exact bitS_andNot
  | shl => exact absurd rfl hop.1
  | shr => exact absurd rfl hop.2
  | eql =>
    simp only [binInt, rBool_eq, ieq_eq]
    have : (a == b) = decide (a = b) := by by_cases h : a = b <;> simp [h]
    exact PV.mk (by simp [binOp, Op.intCmp, this]) .bool
  | neq =>
    simp only [binInt, rBool_eq, ieq_eq]
    have : (a != b) = !decide (a = b) := by by_cases h : a = b <;> simp [h]
    exact PV.mk (by simp [binOp, Op.intCmp, this]) .bool
  | lss =>
    simp only [binInt, rBool_eq, ile_eq]
    have : (!decide (b ≤ a)) = decide (a < b) := by rw [Bool.eq_iff_iff]; simp
    exact PV.mk (by simp [binOp, Op.intCmp, this]) .bool
  | leq =>
    simp only [binInt, rBool_eq, ile_eq]
    exact PV.mk (by simp [binOp, Op.intCmp]) .bool
  | gtr =>
    simp only [binInt, rBool_eq, ile_eq]
    have : (!decide (a ≤ b)) = decide (b < a) := by rw [Bool.eq_iff_iff]; simp
    exact PV.mk (by simp [binOp, Op.intCmp, this]) .bool
  | geq =>
    simp only [binInt, rBool_eq, ile_eq]
    exact PV.mk (by simp [binOp, Op.intCmp]) .bool

theorem shInt_pv (op : BinOp) (k k' : IntKind) (a b : Int) (hop : op = .shl ∨ op = .shr) : PV φ P w h (binOp op t (.int k a) (.int k' b)) (shInt h op k a b) := by
  unfold shInt
  refine PV.nat (fun hb => PV.nat (fun ha => ?_) fun _ => ?_) fun _ => PV.bad
  rotate_left
  · obtain ⟨n, rfl⟩ : ∃ m : Nat, b = m := ⟨b.toNat, (Int.toNat_of_nonneg hb).symm⟩
    have h0 : ¬ ((n : Int) < 0) := by omega
    have hpw : (Int.ofNat (Nat.pow 2 (Nat.min n k.bits))) = (2 : Int) ^ (min n k.bits) := by
      show ((2 ^ (min n k.bits) : Nat) : Int) = _
      simp
    unfold shNeg
    rcases hop with rfl | rfl
    · simp only [rInt_eq, wrp_eq, Int.toNat_natCast, hpw]
      refine PV.mk (u := .int k (k.wrap (a * 2 ^ (min n k.bits)))) ?_ .int
      simp [binOp, Op.shift, h0]
    · simp only [rInt_eq, Int.toNat_natCast, hpw]
      refine PV.mk (u := .int k (a.fdiv (2 ^ (min n k.bits)))) ?_ .int
      simp [binOp, Op.shift, h0]
  obtain ⟨m, rfl⟩ : ∃ m : Nat, a = m := ⟨a.toNat, (Int.toNat_of_nonneg ha).symm⟩
  obtain ⟨n, rfl⟩ : ∃ m : Nat, b = m := ⟨b.toNat, (Int.toNat_of_nonneg hb).symm⟩
  have h0 : ¬ ((n : Int) < 0) := by omega
  rcases hop with rfl | rfl
  · simp only [rInt_eq, wrp_eq, Int.toNat_natCast]
    refine PV.mk (u := .int k (k.wrap ((m : Int) * 2 ^ (min n k.bits)))) ?_ ?_
    · simp [binOp, Op.shift, h0]
    · have : (Int.ofNat (Nat.mul m (Nat.pow 2 (Nat.min n k.bits)))) = (m : Int) * 2 ^ (min n k.bits) := by
        show ((m * 2 ^ (min n k.bits) : Nat) : Int) = _
        simp
      rw [this]; exact .int
  · simp only [rInt_eq, Int.toNat_natCast]
    refine PV.mk (u := .int k ((m : Int).fdiv (2 ^ (min n k.bits)))) ?_ ?_
    · simp [binOp, Op.shift, h0]
    · have h1 : (0 : Int) ≤ 2 ^ (min n k.bits) := Int.pow_nonneg (by decide)
      have : (Int.ofNat (Nat.div m (Nat.pow 2 (Nat.min n k.bits)))) = (m : Int).fdiv (2 ^ (min n k.bits)) := by
        rw [Int.fdiv_eq_ediv_of_nonneg _ h1]
        show ((m / 2 ^ (min n k.bits) : Nat) : Int) = _
        simp
      rw [this]; exact .int

/-! ### Texts -/
theorem unp_zero (s : Nat) : unp 0 s = [] := rfl
theorem unp_succ (n s : Nat) : unp (n + 1) s = UInt8.ofNat (s % 256) :: unp n (s / 256) := rfl
@[simp] theorem unp_length : ∀ (n s : Nat), (unp n s).length = n
  | 0, _ => rfl
  | n + 1, s => by rw [unp_succ]; simp [unp_length n]
theorem pow256 (n : Nat) : 256 ^ (n + 1) = 256 * 256 ^ n := by rw [Nat.pow_succ]; omega
theorem unp_app : ∀ (n m s t : Nat), s < 256 ^ n → unp (n + m) (s + t * 256 ^ n) = unp n s ++ unp m t
  | 0, m, s, t, hs => by
    have : s = 0 := by simpa using hs
    subst this
    simp [unp_zero]
  | n + 1, m, s, t, hs => by
    rw [pow256] at hs
    rw [show n + 1 + m = (n + m) + 1 from by omega, unp_succ, unp_succ, pow256]
    have e : t * (256 * 256 ^ n) = 256 * (t * 256 ^ n) := by rw [Nat.mul_left_comm]
    have h1 : (s + t * (256 * 256 ^ n)) % 256 = s % 256 := by rw [e]; omega
    have h2 : (s + t * (256 * 256 ^ n)) / 256 = s / 256 + t * 256 ^ n := by rw [e]; omega
    rw [h1, h2, unp_app n m _ _ (by omega)]
    rfl
theorem app_lt {n m s t : Nat} (hs : s < 256 ^ n) (ht : t < 256 ^ m) : s + t * 256 ^ n < 256 ^ (n + m) := by
  rw [Nat.pow_add]
  have : t * 256 ^ n + 256 ^ n ≤ 256 ^ m * 256 ^ n := by
    have := Nat.mul_le_mul_right (256 ^ n) (show t + 1 ≤ 256 ^ m from ht)
    rw [Nat.add_mul, Nat.one_mul] at this; exact this
  rw [Nat.mul_comm (256 ^ n)]
  omega
theorem unp_inj : ∀ (n s t : Nat), s < 256 ^ n → t < 256 ^ n → unp n s = unp n t → s = t
  | 0, s, t, hs, ht, _ => by simp at hs ht; omega
  | n + 1, s, t, hs, ht, he => by
    rw [pow256] at hs ht
    rw [unp_succ, unp_succ] at he
    injection he with h1 h2
    have h3 := unp_inj n _ _ (by omega) (by omega) h2
    have h4 : s % 256 = t % 256 := by
      have := congrArg UInt8.toNat h1
      simp at this
      omega
    omega
theorem unp_drop : ∀ (i n s : Nat), (unp n s).drop i = unp (n - i) (s / 256 ^ i)
  | 0, n, s => by simp
  | i + 1, 0, s => by simp [unp_zero]
  | i + 1, n + 1, s => by
    rw [unp_succ, List.drop_succ_cons, unp_drop i n, Nat.div_div_eq_div_mul, pow256, show n + 1 - (i + 1) = n - i from by omega]
theorem unp_take : ∀ (j n s : Nat), j ≤ n → (unp n s).take j = unp j (s % 256 ^ j)
  | 0, n, s, _ => by simp [unp_zero]
  | j + 1, 0, s, h => by omega
  | j + 1, n + 1, s, h => by
    rw [unp_succ, List.take_succ_cons, unp_take j n _ (by omega), unp_succ, pow256]
    have h1 : s % (256 * 256 ^ j) % 256 = s % 256 := by rw [Nat.mod_mul_right_mod]
    have h2 : s % (256 * 256 ^ j) / 256 = s / 256 % 256 ^ j := by rw [Nat.mod_mul_right_div_self]
    rw [h1, h2]
theorem unp_get : ∀ (n s i : Nat), i < n → (unp n s).getD i 0 = UInt8.ofNat (s / 256 ^ i % 256)
  | 0, _, _, h => by omega
  | n + 1, s, 0, _ => by rw [unp_succ]; simp
  | n + 1, s, i + 1, h => by
    rw [unp_succ, List.getD_cons_succ, unp_get n _ i (by omega), Nat.div_div_eq_div_mul, pow256]
theorem pak_lt : ∀ (l : List UInt8), pak l < 256 ^ l.length
  | [] => by simp [pak]
  | a :: l => by
    have h1 := pak_lt l
    have h2 : a.toNat < 256 := a.toNat_lt
    show a.toNat + 256 * pak l < _
    rw [List.length_cons, pow256]
    omega
theorem unp_pak : ∀ (l : List UInt8), unp l.length (pak l) = l
  | [] => rfl
  | a :: l => by
    have h2 : a.toNat < 256 := a.toNat_lt
    have e : pak (a :: l) = a.toNat + 256 * pak l := rfl
    rw [List.length_cons, unp_succ, e]
    have h3 : (a.toNat + 256 * pak l) % 256 = a.toNat := by omega
    have h4 : (a.toNat + 256 * pak l) / 256 = pak l := by omega
    rw [h3, h4, unp_pak l]
    simp
theorem cv_str (l : List UInt8) : CV φ (.str l.length (pak l)) (S l) := by
  have := CV.str (φ := φ) (pak_lt l)
  rwa [unp_pak] at this

theorem binStr_pv (op : BinOp) {n s m t0 : Nat} (hs : s < 256 ^ n) (ht : t0 < 256 ^ m) : PV φ P w h (binOp op t (S (unp n s)) (S (unp m t0))) (binStr h op n s m t0) := by
  have heq : (unp n s == unp m t0) = and (Nat.beq n m) (Nat.beq s t0) := by
    rw [Bool.eq_iff_iff]
    simp only [beq_iff_eq, Bool.and_eq_true, Nat.beq_eq]
    constructor
    · intro he
      have hl : n = m := by have := congrArg List.length he; simpa using this
      subst hl
      exact ⟨rfl, unp_inj n s t0 hs ht he⟩
    · rintro ⟨rfl, rfl⟩; rfl
  cases op with
  | add =>
    simp only [binStr, rStr_eq]
    refine PV.cond (fun hc => ?_) fun _ => PV.bad
    have hc : n + m ≤ 9223372036854775807 := Nat.le_of_ble_eq_true hc
    have h1 : (Op.stringOp .add ⟨(unp n s).toArray⟩ ⟨(unp m t0).toArray⟩).run P w = .ok (.string (⟨(unp n s).toArray⟩ ++ ⟨(unp m t0).toArray⟩)) w := run_string_add_sum w _ _ (by rw [size_S, size_S]; simpa using hc)
    have h2 : ((⟨(unp n s).toArray⟩ : ByteArray) ++ (⟨(unp m t0).toArray⟩ : ByteArray)) = ⟨(unp n s ++ unp m t0).toArray⟩ := by
      apply ByteArray.ext
      apply Array.toList_inj.1
      rw [Joins.data_append]
    refine PV.mk (u := S (unp n s ++ unp m t0)) ?_ ?_
    · show (Op.stringOp .add _ _).run P w = _
      rw [h1, h2]
    · rw [← unp_app n m s t0 hs]
      exact .str (app_lt hs ht)
  | eql =>
    simp only [binStr, rBool_eq]
    refine PV.mk (u := .bool (unp n s == unp m t0)) ?_ (by rw [heq]; exact .bool)
    show (Op.stringOp .eql _ _).run P w = _
    simp [Op.stringOp]
  | neq =>
    simp only [binStr, rBool_eq]
    refine PV.mk (u := .bool (!(unp n s == unp m t0))) ?_ (by rw [heq]; exact .bool)
    show (Op.stringOp .neq _ _).run P w = _
    simp [Op.stringOp]
  | lss =>
    simp only [binStr, rBool_eq]
    refine PV.mk ?_ .bool
    show (Op.stringOp .lss _ _).run P w = _
    simp [Op.stringOp]
  | geq =>
    simp only [binStr, rBool_eq]
    refine PV.mk ?_ .bool
    show (Op.stringOp .geq _ _).run P w = _
    simp [Op.stringOp]
  | _ => exact PV.bad
end
end Go.Proofs.Ytkhkebcflaokpaa
namespace Go.Proofs.Ytkhkebcflaokpaa
open Go Go.RowKit
set_option linter.all false

/-! ### Types -/
section
variable {P : Program} {w : World} {t : TypeId}
theorem info_of_und {td : TypeDesc} (h : P.underlying t = some td) : ∃ i, P.info? t = some i := by
  unfold Program.underlying at h
  cases hi : P.info? t with
  | none => rw [hi] at h; cases h
  | some i => exact ⟨i, rfl⟩
theorem run_sz {td : TypeDesc} (h : P.underlying t = some td) (w : World) : (sizeOf t).run P w = .ok (tsz P t) w := by
  obtain ⟨i, hi⟩ := info_of_und h
  simp [sizeOf, typeInfo, program, Sem.run, hi, tsz]
theorem run_sz' (h : 0 < tsz P t) (w : World) : (sizeOf t).run P w = .ok (tsz P t) w := by
  unfold tsz at h
  cases hi : P.info? t with
  | none => rw [hi] at h; simp at h
  | some i => simp [sizeOf, typeInfo, program, Sem.run, hi, tsz]
theorem tagg_some {a : Bool} (h : tagg P t = some a) : ∃ td, P.underlying t = some td ∧ aggOf td = a := by
  unfold tagg at h
  cases hu : P.underlying t with
  | none => rw [hu] at h; cases h
  | some td => rw [hu] at h; exact ⟨td, rfl, by simpa using h⟩
theorem ti_of {l : List V} (h : tzero P t = some l) : ∃ z, TI P t z (tsz P t) (tbytes P t) ∧ l = zeroB z := by
  unfold tzero at h
  cases hi : P.info? t with
  | none => rw [hi] at h; cases h
  | some i =>
    rw [hi] at h
    simp only at h
    cases hz : i.zero with
    | none => rw [hz] at h; cases h
    | some z =>
      rw [hz] at h
      simp at h
      exact ⟨z, ⟨i, hi, hz, by simp [tsz, hi], by simp [tbytes, hi]⟩, h.symm⟩
end

section
variable {φ : Ph}
theorem one_not {v : V} (h : one v = true) : v ≠ .und := by intro e; subst e; cases h
theorem cv_one {v : V} {u : Value} (h : CV φ v u) (ho : one v = true) : oneV u = true := by
  cases h <;> first | rfl | cases ho
theorem cvs_one : ∀ {l : List V} {us : List Value}, CVs φ l us → ones l = true → ∀ u ∈ us, oneV u = true
  | _, _, .nil, _, u, hu => by cases hu
  | _, _, .cons (v := v) (l := l) h k, ho, u, hu => by
    have h' : (one v && ones l) = true := ho
    simp only [Bool.and_eq_true] at h'
    rcases List.mem_cons.1 hu with rfl | hu
    · exact cv_one h h'.1
    · exact cvs_one k h'.2 u hu
theorem cv_ofV {u : Value} (h : ofV u ≠ .und) : CV φ (ofV u) u := by
  unfold ofV at h ⊢
  split at h
  all_goals first | exact .bool | exact .int | exact .nptr | exact .nsl | exact .nmap | exact .nfn | exact .nifc | exact absurd rfl h | skip
  rename_i s
  obtain ⟨⟨l⟩⟩ := s
  have := cv_str (φ := φ) l
  simpa [ByteArray.size] using this
theorem cvs_ofV : ∀ {l : List Value}, ones (l.map ofV) = true → CVs φ (l.map ofV) l
  | [], _ => .nil
  | u :: l, h => by
    have h' : (one (ofV u) && ones (l.map ofV)) = true := h
    simp only [Bool.and_eq_true] at h'
    exact .cons (cv_ofV (one_not h'.1)) (cvs_ofV h'.2)
theorem cvs_zero {z : Value} (h : ones (zeroB z) = true) : CVs φ (zeroB z) z.cells.toList := by
  unfold zeroB at h ⊢
  split at h
  · exact cvs_ofV h
  · rename_i hn
    have h' : (one (ofV z) && true) = true := h
    simp only [Bool.and_true] at h'
    have : z.cells.toList = [z] := by cases z <;> first | rfl | exact (hn _ rfl).elim
    rw [this]
    exact .cons (cv_ofV (one_not h')) .nil
theorem cv_cells {v : V} {u : Value} (h : CV φ v u) (hv : v ≠ .und) : CVs φ (cellsOf v) u.cells.toList := by
  cases h with
  | und => exact absurd rfl hv
  | agg k => exact k
  | int => exact .cons .int .nil
  | bool => exact .cons .bool .nil
  | str h => exact .cons (.str h) .nil
  | ptr h => exact .cons (.ptr h) .nil
  | sl h h1 h2 h3 h4 => exact .cons (.sl h h1 h2 h3 h4) .nil
  | es h h1 => exact .cons (.es h h1) .nil
  | map h => exact .cons (.map h) .nil
  | nptr => exact .cons .nptr .nil
  | nsl => exact .cons .nsl .nil
  | nmap => exact .cons .nmap .nil
  | nfn => exact .cons .nfn .nil
  | nifc => exact .cons .nifc .nil
  | fn h k => exact .cons (.fn h k) .nil
  | yld h => exact .cons (.yld h) .nil
  | ifc h => exact .cons (.ifc h) .nil
  | mth h => exact .cons (.mth h) .nil
  | tup h => exact .cons (.tup h) .nil
end

/-! ### Cells -/
theorem splice_get (us vs : List Value) (k j : Nat) (h : k + vs.length ≤ us.length) : (splice us k vs)[j]? = if k ≤ j ∧ j < k + vs.length then vs[j - k]? else us[j]? := by
  unfold splice
  rw [List.append_assoc, List.getElem?_append]
  simp only [List.length_take, Nat.min_eq_left (show k ≤ us.length by omega)]
  by_cases h1 : j < k
  · rw [if_pos h1, if_neg (by omega), List.getElem?_take, if_pos h1]
  · rw [if_neg h1, List.getElem?_append]
    by_cases h2 : j - k < vs.length
    · rw [if_pos h2, if_pos (by omega)]
    · rw [if_neg h2, if_neg (by omega), List.getElem?_drop]
      congr 1; omega
theorem splice_len (us vs : List Value) (k : Nat) (h : k + vs.length ≤ us.length) : (splice us k vs).length = us.length := by
  simp [splice]; omega

section
variable {φ : Ph} {n d : Nat} {t : Tr V d} {us : List Value} {a : Nat}
theorem TrR.wrE {l : List V} {vs : List Value} {o : Nat} (h : TrR φ n d t us a) (hc : CVs φ l vs) (ho : o + l.length ≤ n) (hn : a + n ≤ us.length) : TrR φ n d (wrE d l t o) (splice us (a + o) vs) a := by
  have hlen := hc.len
  intro i hi
  rcases wr_get d l t o i with h1 | h1
  · rw [h1]
    have hlt : a + i < (splice us (a + o) vs).length := by rw [splice_len _ _ _ (by omega)]; omega
    exact ⟨_, List.getElem?_eq_getElem hlt, .und⟩
  · rw [splice_get _ _ _ _ (by omega)]
    by_cases hr : o ≤ i ∧ i < o + l.length
    · rw [if_pos hr] at h1
      rw [if_pos (by omega)]
      obtain ⟨u, e1, e2⟩ := hc.get h1
      exact ⟨u, by rw [← e1]; congr 1; omega, e2⟩
    · rw [if_neg hr] at h1
      rw [if_neg (by omega), h1]
      exact h i hi
theorem TrR.new {l : List V} {vs : List Value} (hc : CVs φ l vs) (a : Nat) (pre post : List Value) (ha : pre.length = a) : TrR φ l.length d (Proofs.Ytkhkebcflaokpaa.wrE d l (trNew .und d) 0) (pre ++ vs ++ post) a := by
  have hlen := hc.len
  intro i hi
  rcases wr_get d l (trNew .und d) 0 i with h1 | h1
  · rw [h1]
    have hlt : a + i < (pre ++ vs ++ post).length := by simp; omega
    exact ⟨_, List.getElem?_eq_getElem hlt, .und⟩
  · rw [if_pos (by omega)] at h1
    obtain ⟨u, e1, e2⟩ := hc.get h1
    refine ⟨u, ?_, e2⟩
    rw [List.append_assoc, List.getElem?_append_right (by omega), ha, List.getElem?_append_left (by simp at e1 ⊢; omega)]
    rw [← e1]; congr 1; omega
theorem TrR.read {m o : Nat} (h : TrR φ n d t us a) (hm : o + m ≤ n) :
    CVs φ ((List.range' o m).map fun i => vGet d i t) ((us.drop (a + o)).take m) := by
  induction m generalizing o with
  | zero => simpa using CVs.nil
  | succ m ih =>
    rw [List.range'_succ, List.map_cons]
    obtain ⟨u, e1, e2⟩ := h o (by omega)
    have := ih (o := o + 1) (by omega)
    have e3 : (us.drop (a + o)).take (m + 1) = u :: (us.drop (a + (o + 1))).take m := by
      have hlt : a + o < us.length := by
        rcases Nat.lt_or_ge (a + o) us.length with h' | h'
        · exact h'
        · rw [List.getElem?_eq_none h'] at e1; cases e1
      rw [List.drop_eq_getElem_cons hlt, List.take_succ_cons]
      congr 1
      rw [List.getElem?_eq_getElem hlt] at e1
      exact Option.some.inj e1
    rw [e3]
    exact .cons e2 this
end

theorem BlkF.cell {w : World} {b : Nat} {us : List Value} {T : TypeId} {fz : Nat × Nat} (h : BlkF w b us T fz) (i : Nat) : w.cell? ⟨b, i, none⟩ = us[i]? := h.blk.cell i

theorem run_storeCells_blkF {P : Program} {b : Nat} {T : TypeId} {fz : Nat × Nat} (o : Nat) : ∀ (vs : List Value) (i : Nat) (cs : List Value) (w : World), BlkF w b cs T fz → o + i + vs.length ≤ cs.length → (∀ v ∈ vs, v.oneCell' = true) →
    ∃ w', (storeCells ⟨b, o, none⟩ vs i).run P w = .ok () w' ∧ BlkF w' b (splice cs (o + i) vs) T fz ∧ Kp (fun k => k = b) w w'
  | [], i, cs, w, hB, _, _ => ⟨w, rfl, by simpa [splice] using hB, Kp.refl _ _⟩
  | v :: r, i, cs, w, hB, hl, h1 => by
    simp only [List.length_cons] at hl
    have hlt : o + i < cs.length := by omega
    have hc : w.cell? ⟨b, o + i, none⟩ = some cs[o + i] := by rw [hB.cell]; simp [hlt]
    have hf := hB.blk.free hlt
    obtain ⟨w', hr, hB', hk⟩ := run_storeCells_blkF (P := P) o r (i + 1) (cs.set (o + i) v) _ (hB.set (o + i) v) (by simp; omega) (fun u hu => h1 u (List.mem_cons_of_mem _ hu))
    refine ⟨w', ?_, ?_, (kp_setCell w b (o + i) v).trans hk⟩
    · simp only [storeCells, Sem.run_bind, add_off, run_store P w _ v _ (h1 v (List.mem_cons_self ..)), hc, hf]
      simpa using hr
    · have he : splice (cs.set (o + i) v) (o + (i + 1)) r = splice cs (o + i) (v :: r) := by
        apply List.ext_getElem?
        intro j
        rw [splice_get _ _ _ _ (by simp; omega), splice_get _ _ _ _ (by simp; omega)]
        simp only [List.length_cons]
        by_cases hj : j = o + i
        · subst hj
          rw [if_neg (by omega), if_pos (by omega)]
          simp [hlt]
        · by_cases h2 : o + (i + 1) ≤ j ∧ j < o + (i + 1) + r.length
          · rw [if_pos h2, if_pos (by omega), show j - (o + i) = (j - (o + (i + 1))) + 1 from by omega]
            simp
          · rw [if_neg h2, if_neg (by omega), List.getElem?_set_ne (by omega)]
      rw [← he]
      exact hB'

section
variable {P : Program} {G : Nat} {φ : Ph} {h : H} {w : World} {e : Env} {d : Option Nat} {ty t t' : TypeId} {pos : String} {aft : Array Edge} {g : Option (Nat × Bool)} {x y : Operand} {v v1 v2 : V} {u u1 u2 : Value}

/-- What the memory says of an address. -/
theorem Rel.cells (r : Rel G φ h w) {b n d : Nat} {t : Tr V d} {ty : TypeId} {st : Bool} (hb : hGet h b = some (.cells n d t ty st)) {p : Nat × Nat × Nat} (hp : φ b = some p) :
    p.2.1 + n ≤ p.2.2 ∧ ∃ us T fz, BlkF w p.1 us T fz ∧ us.length = p.2.2 ∧ TrR φ n d t us p.2.1 ∧ StT st n p ty T fz := by
  obtain ⟨q, hq, hbr⟩ := r.blk _ _ hb
  rw [hp] at hq; cases hq
  exact hbr

/-- What is known of an operand. -/
abbrev Kn (φ : Ph) (e : Env) (x : Operand) (v : V) : Prop := v ≠ .und → ∃ u, look e x = some u ∧ CV φ v u

theorem PV.rV {s : Sem Value} {n : Nat} {v : V} (hy : v ≠ .und → ∃ u, s.run P w = .ok u w ∧ CV φ v u) : PV φ P w h s (rV h n v) := by
  by_cases hv : v = .und
  · subst hv; exact trivial
  · rw [rV_some hv]
    obtain ⟨u, h1, h2⟩ := hy hv
    exact PV.mk h1 h2
theorem PV.cnd {s : Sem Value} {b : Bool} {p : R} {n : Nat} (h1 : b = true → PV φ P w h s p) : PV φ P w h s (_root_.cond b p (.bad n)) := PV.cond h1 fun _ => PV.bad
theorem run_load1 {td : TypeDesc} {b i : Nat} {v : Value} (hu : P.underlying t = some td) (ha : aggOf td = false) (hc : w.cell? ⟨b, i, none⟩ = some v) : (Instr.loadAt t (ptr b i)).run P w = .ok v w := by
  simp only [Instr.loadAt, Instr.sureAddr, loadVar, pure_bind, Sem.run_bind, run_isAgg hu, ha, Result.andThen_ok, Bool.false_eq_true, if_false, run_load, hc]
theorem run_loadA {td : TypeDesc} {b i : Nat} {vs : List Value} (hu : P.underlying t = some td) (ha : aggOf td = true) (hc : ∀ j v, vs[j]? = some v → w.cell? ⟨b, i + j, none⟩ = some v) (hl : vs.length = tsz P t) : (Instr.loadAt t (ptr b i)).run P w = .ok (.agg vs.toArray) w := by
  have hr := run_loadCells_list (P := P) w ⟨b, i, none⟩ vs (fun j v hj => by rw [add_off]; exact hc j v hj)
  rw [hl] at hr
  simp only [Instr.loadAt, Instr.sureAddr, loadVar, pure_bind, Sem.run_bind, run_isAgg hu, ha, Result.andThen_ok, if_true, run_sz hu, hr, Sem.run_pure]

theorem loadV_pv (r : Rel G φ h w) (hc : CV φ v u) (hv : v ≠ .und) : PV φ P w h (Instr.loadAt t u) (loadV P h t v) := by
  unfold loadV
  split <;> try exact trivial
  rename_i b o
  cases hc with
  | @ptr _ _ b' a N hp =>
  split <;> try exact trivial
  · rename_i n dd tr ty' st hb
    obtain ⟨hN, us, T, fz, hB, hlen, hT, -⟩ := r.cells hb hp
    split <;> try exact trivial
    · rename_i ha
      obtain ⟨td, hu, ha⟩ := tagg_some ha
      refine PV.cnd fun ho => PV.rV fun hv => ?_
      have ho : o < n := by simpa using ho
      obtain ⟨u, e1, e2⟩ := hT o ho
      exact ⟨u, run_load1 hu ha (by rw [hB.cell]; exact e1), e2⟩
    · rename_i ha
      obtain ⟨td, hu, ha⟩ := tagg_some ha
      refine PV.cnd fun ho => ?_
      have ho : o + tsz P t ≤ n := Nat.le_of_ble_eq_true ho
      rw [rdK_eq]
      have hc := hT.read ho
      exact PV.mk (run_loadA hu ha (fun j v hj => hB.blk.cells rfl j v hj) (by rw [hc.len]; simp)) (.agg hc)
  · rename_i l hb
    obtain ⟨q, hq, h0, us, us', T, fz, hB, hcs⟩ := r.blk _ _ hb
    rw [hp] at hq; cases hq
    simp only at h0 hB
    subst h0
    split <;> try exact trivial
    · rename_i ha
      obtain ⟨td, hu, ha⟩ := tagg_some ha
      split <;> try exact trivial
      rename_i v hv
      refine PV.rV fun _ => ?_
      obtain ⟨u, e1, e2⟩ := hcs.get hv
      refine ⟨u, run_load1 hu ha ?_, e2⟩
      rw [hB.cell, Nat.zero_add, List.getElem?_append_left (by rw [hcs.len]; exact (List.getElem?_eq_some_iff.1 hv).1)]
      exact e1
    · rename_i ha
      obtain ⟨td, hu, ha⟩ := tagg_some ha
      refine PV.cnd fun ho => ?_
      have ho : o + tsz P t ≤ l.length := Nat.le_of_ble_eq_true ho
      rw [fL_eq]
      have hc := CVs.take (tsz P t) (CVs.drop o hcs)
      refine PV.mk (run_loadA hu ha (fun j v hj => by
        rw [hB.cell, Nat.zero_add]
        rw [List.getElem?_take] at hj
        split at hj
        · rw [List.getElem?_drop] at hj
          rw [List.getElem?_append_left (List.getElem?_eq_some_iff.1 hj).1]
          exact hj
        · cases hj) (by rw [hc.len, List.length_take, List.length_drop, Nat.min_eq_left (by omega)])) (.agg hc)
theorem loadV_ok (r : Rel G φ h w) (hx : Kn φ e x v) : QOk P φ h w e ⟨d, .load t x, ty, pos, aft, g⟩ (loadV P h t v) := by
  by_cases hv : v = .und
  · subst hv; exact trivial
  · obtain ⟨u, hx, hc⟩ := hx hv
    exact PV.q (loadV_pv r hc hv) fun u' h1 ρ hρ => by
      simp only [execOp, hρ _ _ hx, Sem.run_bind, h1, Result.andThen_ok, Sem.run_pure]
theorem und_ones {v : V} (h : ones (cellsOf v) = true) : v ≠ .und := by intro e; subst e; cases h

theorem storeV_ok (r : Rel G φ h w) (hx : Kn φ e x v1) (hy : Kn φ e y v2) : ROk P G φ h w e ⟨d, .store t x y, ty, pos, aft, g⟩ (storeV P h t v1 v2) := by
  unfold storeV
  split <;> try exact trivial
  rename_i b o
  obtain ⟨u1, hx, hc⟩ := hx (by simp)
  cases hc with
  | @ptr _ _ b' a N hp =>
  split <;> try exact trivial
  rename_i n dd tr ty' st hb
  rw [fL_eq]
  refine cond_ok' fun hh => ?_
  simp only [Bool.and_eq_true] at hh
  obtain ⟨h0, ⟨h1, h2⟩, h3⟩ := hh
  have h0 : 0 < tsz P t := by simpa using h0
  have h1 := Nat.eq_of_beq_eq_true h1
  have h3 := Nat.le_of_ble_eq_true h3
  have hv2 := und_ones h2
  obtain ⟨u2, hy, hc2⟩ := hy hv2
  have hcs := cv_cells hc2 hv2
  obtain ⟨hN, us, T, fz, hB, hlen, hT, hst⟩ := r.cells hb hp
  simp only at hN hB hlen hT
  have h3' : o + (cellsOf v2).length ≤ n := h3
  have hl2 := hcs.len
  rw [wrK_eq, hSet_eq]
  obtain ⟨w', hr, hB', hk⟩ := run_storeCells_blkF (P := P) (a + o) u2.cells.toList 0 us w hB (by omega) (fun u hu => oneV_one (cvs_one hcs h2 u hu))
  simp only [Nat.add_zero] at hB'
  refine ⟨w', φ, fun ρ hρ => ?_, r.updE hb rfl hp hk ⟨hN, _, T, fz, hB', by rw [splice_len _ _ _ (by omega)]; exact hlen, hT.wrE hcs h3' (by omega), hst⟩⟩
  have hz : ¬ (u2.cells.size ≠ tsz P t) := by
    rw [← Array.length_toList, hl2, h1]; simp
  have hs := run_sz' h0 w
  simp only [execOp, hρ _ _ hx, hρ _ _ hy, Instr.storeAt, Instr.sureAddr, storeVar, pure_bind, Sem.run_bind, hs, Result.andThen_ok, Sem.run_ite, if_neg hz]
  simp [hr]

/-! ### New blocks -/
theorem newCells_eq {β : Type} (h : H) (l : List V) (ty : TypeId) (st : Bool) (c : Nat → H → β) :
    newCells h l ty st c = c h.next ⟨trPut HD h.next h.t (some (.cells l.length (lvls l.length) (wrE (lvls l.length) l (trNew .und (lvls l.length)) 0) ty st)), h.next + 1⟩ := by
  unfold newCells
  rw [fN_eq, fN_eq, wrK_eq, hNew_eq]
theorem BlkF.new (w : World) (cs : List Value) (T : TypeId) : BlkF (w.alloc (.cells cs.toArray T)) w.heap.size cs T (0, 0) := ⟨by rw [heap_new], fun i _ h => by simp at h⟩
theorem newB_eq {β : Type} (l : List V) (ty : TypeId) (st : Bool) (c : B → β) : newB l ty st c = c (.cells l.length (lvls l.length) (wrE (lvls l.length) l (trNew .und (lvls l.length)) 0) ty st) := by
  unfold newB
  rw [fN_eq, fN_eq, wrK_eq]
/-- What an operation makes that makes a block and does nothing else. -/
def NwOk (P : Program) (φ : Ph) (w : World) (e : Env) (o : Oper) : Nw → Prop
  | some (x, mk) => ∃ obj u N, Y P e o u w (w.alloc obj) ∧ isRo x = false ∧ (∀ φ', Sb φ φ' → BR φ' x (w.heap.size, 0, N) (w.alloc obj)) ∧ ∀ φ' b, φ' b = some (w.heap.size, 0, N) → CV φ' (mk b) u
  | none => True
theorem NwOk.rok {o : Oper} {q : Nw} {n : Nat} (k : NwOk P φ w e o q) (r : Rel G φ h w) : ROk P G φ h w e o (nwR h n q) := by
  cases q with
  | none => exact trivial
  | some p =>
    obtain ⟨x, mk⟩ := p
    obtain ⟨obj, u, N, hy, hro, hb, hc⟩ := k
    show ROk P G φ h w e o (hNew h x fun b h => .v (mk b) h)
    rw [hNew_eq]
    exact ⟨u, _, _, hy, r.new (a := 0) (N := N) (ext_alloc w obj) (Nat.le_refl _) (hb _ (addPh_sb r _)) hro, hc _ _ (addPh_same _ _ _)⟩
theorem NwOk.cnd {o : Oper} {b : Bool} {q : Nw} (h1 : b = true → NwOk P φ w e o q) : NwOk P φ w e o (cond b q none) := by
  cases b with
  | true => exact h1 rfl
  | false => exact trivial
theorem NwOk.cells {o : Oper} {l : List V} {vs : List Value} {T : TypeId} {st : Bool} {mk : Nat → V} {u : Value} (hc : CVs φ l vs) (hy : Y P e o u w (w.alloc (.cells vs.toArray T))) (hm : ∀ φ' b, φ' b = some (w.heap.size, 0, l.length) → CV φ' (mk b) u) :
    NwOk P φ w e o (some (.cells l.length (lvls l.length) (wrE (lvls l.length) l (trNew .und (lvls l.length)) 0) T st, mk)) := by
  refine ⟨_, u, l.length, hy, rfl, fun φ' hs => ⟨by simp, vs, T, (0, 0), BlkF.new w vs T, hc.len, ?_, rfl, fun _ => ⟨rfl, rfl, rfl⟩⟩, hm⟩
  have := TrR.new (d := lvls l.length) (hc.mono hs) 0 [] [] rfl
  simpa using this

theorem allocN_ok : NwOk P φ w e ⟨d, .alloc t, ty, pos, aft, g⟩ (allocN P t) := by
  unfold allocN
  split <;> try exact trivial
  rename_i l hz
  obtain ⟨z, hs, rfl⟩ := ti_of hz
  rw [fL_eq]
  refine NwOk.cnd fun ho => ?_
  rw [newB_eq]
  refine NwOk.cells (T := t) (u := ptr w.heap.size 0) (cvs_zero (φ := φ) ho) (fun ρ hρ => ?_) fun φ' b hb => .ptr (b' := w.heap.size) (a := 0) hb
  simp [execOp, Instr.alloc, hs.zero, newVar, newRow, newObj, Sem.run]
theorem boxN_ok (hx : Kn φ e x v) : NwOk P φ w e ⟨d, .box t x, ty, pos, aft, g⟩ (boxN t v) := by
  unfold boxN
  rw [fL_eq]
  refine NwOk.cnd fun ho => ?_
  rw [newB_eq]
  have hv := und_ones ho
  obtain ⟨u, hx, hc⟩ := hx hv
  refine NwOk.cells (T := t) (u := ptr w.heap.size 0) (cv_cells hc hv) (fun ρ hρ => ?_) fun φ' b hb => .ptr (b' := w.heap.size) (a := 0) hb
  simp [execOp, hρ _ _ hx, Instr.box, newVar, newRow, newObj, Sem.run]

/-! ### Parts -/
def PR (φ : Ph) (ps : List (Nat × V)) (us : List (Nat × Value)) : Prop := ps.map (·.1) = us.map (·.1) ∧ CVs φ (ps.map (·.2)) (us.map (·.2))
theorem knownK_eq {β : Type} (ρ : Operand → V) (l : List Operand) (c : List V → β) (no : β) : (knownK ρ l c no = no) ∨ ((∀ x ∈ l, ρ x ≠ .und) ∧ knownK ρ l c no = c (l.map ρ)) := by
  have : ∀ (l : List Operand) (c : List V → β), (knownK ρ l c no = no) ∨ ((∀ x ∈ l, ρ x ≠ .und) ∧ knownK ρ l c no = c (l.map ρ)) := by
    intro l
    induction l with
    | nil => intro c; exact .inr ⟨(fun _ h => by cases h), rfl⟩
    | cons x l ih =>
      intro c
      by_cases hx : ρ x = .und
      · left
        show (match ρ x with | .und => no | v => fV v fun v => knownK ρ l (fun r => c (v :: r)) no) = no
        rw [hx]
      · have he : knownK ρ (x :: l) c no = knownK ρ l (fun r => c (ρ x :: r)) no := by
          show (match ρ x with | .und => no | v => fV v fun v => knownK ρ l (fun r => c (v :: r)) no) = _
          split
          · rename_i h'; exact absurd h' hx
          · rw [fV_eq]
        rcases ih fun r => c (ρ x :: r) with h1 | ⟨h1, h2⟩
        · left; rw [he, h1]
        · right
          refine ⟨fun z hz => ?_, by rw [he, h2]; rfl⟩
          rcases List.mem_cons.1 hz with rfl | hz
          · exact hx
          · exact h1 z hz
  exact this l c
theorem partsK_eq {β : Type} (ρ : Operand → V) (l : List (Nat × Operand)) (c : List (Nat × V) → β) (no : β) : (partsK ρ l c no = no) ∨ ((∀ p ∈ l, ρ p.2 ≠ .und) ∧ partsK ρ l c no = c (l.map fun p => (p.1, ρ p.2))) := by
  have : ∀ (l : List (Nat × Operand)) (c : List (Nat × V) → β), (partsK ρ l c no = no) ∨ ((∀ p ∈ l, ρ p.2 ≠ .und) ∧ partsK ρ l c no = c (l.map fun p => (p.1, ρ p.2))) := by
    intro l
    induction l with
    | nil => intro c; exact .inr ⟨(fun _ h => by cases h), rfl⟩
    | cons x l ih =>
      intro c
      by_cases hx : ρ x.2 = .und
      · left
        show (match ρ x.2 with | .und => no | v => fV v fun v => partsK ρ l (fun r => c ((x.1, v) :: r)) no) = no
        rw [hx]
      · have he : partsK ρ (x :: l) c no = partsK ρ l (fun r => c ((x.1, ρ x.2) :: r)) no := by
          show (match ρ x.2 with | .und => no | v => fV v fun v => partsK ρ l (fun r => c ((x.1, v) :: r)) no) = _
          split
          · rename_i h'; exact absurd h' hx
          · rw [fV_eq]
        rcases ih fun r => c ((x.1, ρ x.2) :: r) with h1 | ⟨h1, h2⟩
        · left; rw [he, h1]
        · right
          refine ⟨fun z hz => ?_, by rw [he, h2]; rfl⟩
          rcases List.mem_cons.1 hz with rfl | hz
          · exact hx
          · exact h1 z hz
  exact this l c
theorem looks_of {ρ : Operand → V} (hρ : RhoR φ ρ e) : ∀ {l : List Operand}, (∀ x ∈ l, ρ x ≠ .und) → ∃ us, looks e l = some us ∧ CVs φ (l.map ρ) us
  | [], _ => ⟨[], rfl, .nil⟩
  | x :: l, h => by
    obtain ⟨u, h1, h2⟩ := hρ x (h x (List.mem_cons_self ..))
    obtain ⟨us, h3, h4⟩ := looks_of hρ (l := l) fun y hy => h y (List.mem_cons_of_mem _ hy)
    exact ⟨u :: us, by simp [looks, h1, h3], .cons h2 h4⟩
theorem lookp_of {ρ : Operand → V} (hρ : RhoR φ ρ e) : ∀ {l : List (Nat × Operand)}, (∀ p ∈ l, ρ p.2 ≠ .und) → ∃ us, lookp e l = some us ∧ PR φ (l.map fun p => (p.1, ρ p.2)) us
  | [], _ => ⟨[], rfl, rfl, .nil⟩
  | x :: l, h => by
    obtain ⟨u, h1, h2⟩ := hρ x.2 (h x (List.mem_cons_self ..))
    obtain ⟨us, h3, h4, h5⟩ := lookp_of hρ (l := l) fun y hy => h y (List.mem_cons_of_mem _ hy)
    exact ⟨(x.1, u) :: us, by obtain ⟨i, o⟩ := x; simp [lookp, h1, h3], by simp [h4], .cons h2 h5⟩

theorem lay_cvs {l new : List V} {cs vs : List Value} (o : Nat) (h : CVs φ l cs) (k : CVs φ new vs) : CVs φ (lay l o new) (splice cs o vs) := by
  unfold lay splice
  rw [k.len]
  exact ((h.take o).append k).append (h.drop _)
theorem fillV_ok {pl : Nat → Option (Nat × Nat)} : ∀ {ps : List (Nat × V)} {us : List (Nat × Value)} {l l' : List V} {cs : List Value}, (∀ v ∈ ps.map (·.2), v ≠ .und) → PR φ ps us → CVs φ l cs → fillV pl l ps = some l' → ∃ cs', bl pl cs us = some cs' ∧ CVs φ l' cs'
  | [], [], l, l', cs, _, _, hc, h => by simp [fillV] at h; subst h; exact ⟨cs, rfl, hc⟩
  | [], _ :: _, _, _, _, _, hp, _, _ => by have := hp.1; simp at this
  | _ :: _, [], _, _, _, _, hp, _, _ => by have := hp.1; simp at this
  | (i, v) :: ps, (j, u) :: us, l, l', cs, hk, hp, hc, h => by
    obtain ⟨h1, h2⟩ := hp
    simp only [List.map_cons, List.cons.injEq] at h1
    obtain ⟨rfl, h1⟩ := h1
    cases h2 with
    | cons hvu h2 =>
    have hcv := cv_cells hvu (hk v (by simp))
    simp only [fillV] at h
    cases hpl : pl i with
    | none => rw [hpl] at h; cases h
    | some q =>
      obtain ⟨o, s⟩ := q
      rw [hpl] at h
      simp only at h
      cases hb : and (Nat.beq (cellsOf v).length s) (Nat.ble (Nat.add o s) l.length) with
      | false => rw [hb] at h; cases h
      | true =>
        rw [hb] at h
        simp only [cond_true] at h
        obtain ⟨cs', e1, e2⟩ := fillV_ok (fun v hv => hk v (List.mem_cons_of_mem _ hv)) ⟨h1, h2⟩ (lay_cvs o hc hcv) h
        refine ⟨cs', ?_, e2⟩
        simp only [bl, hpl, hcv.len, hc.len]
        have hb' : (Nat.beq (cellsOf v).length s && Nat.ble (o + s) l.length) = true := hb
        rw [hb']
        exact e1

theorem fldsOk_all : ∀ {l : List Field}, fldsOk P l = true → ∀ f ∈ l, ∃ a, tagg P f.type = some a
  | [], _, f, hf => by cases hf
  | a :: l, h, f, hf => by
    have h' : ((tagg P a.type).isSome && fldsOk P l) = true := h
    simp only [Bool.and_eq_true] at h'
    rcases List.mem_cons.1 hf with rfl | hf
    · exact Option.isSome_iff_exists.1 h'.1
    · exact fldsOk_all h'.2 f hf
theorem run_places {w : World} : ∀ {l : List Field}, fldsOk P l = true → (l.mapM fun f => do pure (f.offset, ← sizeOf f.type) : Sem (List (Nat × Nat))).run P w = .ok (l.map fun f => (f.offset, tsz P f.type)) w
  | [], _ => by simp
  | a :: l, h => by
    have h' : ((tagg P a.type).isSome && fldsOk P l) = true := h
    simp only [Bool.and_eq_true] at h'
    obtain ⟨b, hb⟩ := Option.isSome_iff_exists.1 h'.1
    obtain ⟨td, hu, -⟩ := tagg_some hb
    rw [List.mapM_cons]
    simp only [Sem.run_bind, run_sz hu, Result.andThen, Sem.run_pure, run_places h'.2, List.map_cons]
theorem tfld_eq {fs : Array Field} (ht : P.underlying t = some (.struct fs)) (hf : fldsOk P fs.toList = true) (i : Nat) : (tfld P t i).map (fun f => (f.1, f.2.1)) = (fs.toList.map fun f => (f.offset, tsz P f.type))[i]? := by
  simp only [tfld, ht]
  cases hi : fs[i]? with
  | none => simp [hi]
  | some f =>
    obtain ⟨a, ha⟩ := fldsOk_all hf f (by rw [← Array.getElem?_toList] at hi; exact List.mem_of_getElem? hi)
    simp [ha, hi]

theorem buildV_ok {ps : List (Nat × V)} {us : List (Nat × Value)} {parts : List (Nat × Operand)} (r : Rel G φ h w) (hk : ∀ v ∈ ps.map (·.2), v ≠ .und) (hp : lookp e parts = some us) (hpr : PR φ ps us) :
    QOk P φ h w e ⟨d, .build t parts.toArray, ty, pos, aft, g⟩ (buildV P h t ps) := by
  unfold buildV
  split <;> try exact trivial
  rename_i z hz
  obtain ⟨z, hs, rfl⟩ := ti_of hz
  split <;> try exact trivial
  · rename_i fs ht
    refine cond_q' fun hf => ?_
    split <;> try exact trivial
    rename_i l hl
    rw [fL_eq]
    refine cond_q' fun ho => ?_
    simp only [Bool.and_eq_true] at ho
    have hzc := cvs_zero (φ := φ) ho.1
    have hpl : (fun i => (tfld P t i).map fun f => (f.1, f.2.1)) = fun i => (fs.toList.map fun f => (f.offset, tsz P f.type))[i]? := funext (tfld_eq ht hf)
    rw [hpl] at hl
    obtain ⟨cs', e1, e2⟩ := fillV_ok hk hpr hzc hl
    refine QOk.pure (ybd (pl := fs.toList.map fun f => (f.offset, tsz P f.type)) hs (Array.toArray_toList).symm ⟨fs, ht, fun w => ?_⟩ hp e1) (.agg e2)
    rw [← Array.toArray_toList (xs := fs), List.mapM_toArray]
    simp only [Sem.run_bind, map_eq_pure_bind, run_places hf, Result.andThen, Sem.run_pure]
  · rename_i m el ht
    split <;> try exact trivial
    rename_i l hl
    rw [fL_eq]
    refine cond_q' fun ho => ?_
    simp only [Bool.and_eq_true] at ho
    have hzc := cvs_zero (φ := φ) ho.2.1
    obtain ⟨cs', e1, e2⟩ := fillV_ok hk hpr hzc hl
    refine QOk.pure (fun ρ hρ => ?_) (.agg e2)
    have hf := fill_bl us z.cells.toList cs' e1
    rw [Array.toArray_toList] at hf
    simp only [execOp, lookp_arr hρ hp, Instr.build, Sem.run_bind, hs.zero, Result.andThen_ok, run_underlying ht, run_sz' (show 0 < tsz P el by simpa using ho.1) w, hf, Sem.run_pure]
end
end Go.Proofs.Ytkhkebcflaokpaa
namespace Go.Proofs.Ytkhkebcflaokpaa
open Go Go.RowKit
set_option linter.all false

section
variable {P : Program} {G : Nat} {φ : Ph} {h : H} {w : World} {e : Env} {d : Option Nat} {ty t t' : TypeId} {pos : String} {aft : Array Edge} {g : Option (Nat × Bool)} {x y : Operand} {v v1 v2 : V} {u u1 u2 : Value}

theorem repl_len (l : List V) : ∀ n, (repl l n).length = n * l.length
  | 0 => by show ([] : List V).length = _; simp
  | n + 1 => by
    show (l ++ repl l n).length = _
    rw [List.length_append, repl_len l n, Nat.add_mul]; omega
theorem repl_cvs {l : List V} {us : List Value} (hc : CVs φ l us) : ∀ n, CVs φ (repl l n) ((List.replicate n us).flatten)
  | 0 => CVs.nil
  | n + 1 => by
    show CVs φ (l ++ repl l n) _
    rw [List.replicate_succ, List.flatten_cons]
    exact hc.append (repl_cvs hc n)
theorem flat_get (us : List Value) : ∀ (n i : Nat), i < n * us.length → ((List.replicate n us).flatten)[i]? = us[i % us.length]?
  | 0, i, h => by omega
  | n + 1, i, h => by
    rw [List.replicate_succ, List.flatten_cons, List.getElem?_append]
    have h' : i < n * us.length + us.length := by rw [Nat.add_mul] at h; omega
    split
    · rename_i hi; rw [Nat.mod_eq_of_lt hi]
    · rename_i hi
      rw [flat_get us n (i - us.length) (by omega)]
      rw [← Nat.mod_eq_sub_mod (Nat.le_of_not_lt hi)]
theorem range_rep (z : Array Value) (n : Nat) : ((Array.range (n * z.size)).map (z[· % z.size]!)) = ((List.replicate n z.toList).flatten).toArray := by
  apply Array.toList_inj.1
  apply List.ext_getElem?
  intro i
  simp only [Array.toList_map, Array.toList_range]
  by_cases hi : i < n * z.size
  · have hz : 0 < z.size := by
      rcases Nat.eq_zero_or_pos z.size with h0 | h0
      · rw [h0] at hi; omega
      · exact h0
    rw [flat_get _ _ _ (by simpa using hi)]
    simp only [List.getElem?_map, List.getElem?_range hi, Option.map_some]
    have hm : i % z.size < z.size := Nat.mod_lt _ hz
    simp [hm]
  · rw [List.getElem?_eq_none (by simp; omega), List.getElem?_eq_none (by simp; omega)]

theorem lay_len {l new : List V} {o : Nat} (h : o + new.length ≤ l.length) : (lay l o new).length = l.length := by
  simp [lay]; omega
theorem fillV_len {pl : Nat → Option (Nat × Nat)} : ∀ {ps : List (Nat × V)} {l l' : List V} {n : Nat}, fillV pl l ps = some l' → l.length = n → l'.length = n
  | [], l, l', n, h, hn => by simp [fillV] at h; subst h; exact hn
  | (i, v) :: ps, l, l', n, h, hn => by
    simp only [fillV] at h
    cases hpl : pl i with
    | none => rw [hpl] at h; cases h
    | some q =>
      obtain ⟨o, s⟩ := q
      rw [hpl] at h
      simp only at h
      cases hb : and (Nat.beq (cellsOf v).length s) (Nat.ble (Nat.add o s) l.length) with
      | false => rw [hb] at h; cases h
      | true =>
        rw [hb] at h
        simp only [Bool.and_eq_true] at hb
        have h1 := Nat.eq_of_beq_eq_true hb.1
        have h2 : o + s ≤ l.length := Nat.le_of_ble_eq_true hb.2
        exact fillV_len h (by rw [lay_len (by omega)]; exact hn)

theorem buildSlN_ok {n : Nat} {ps : List (Nat × V)} {us : List (Nat × Value)} {parts : List (Nat × Operand)} (hk : ∀ v ∈ ps.map (·.2), v ≠ .und) (hp : lookp e parts = some us) (hpr : PR φ ps us) :
    NwOk P φ w e ⟨d, .buildSlice t n parts.toArray, ty, pos, aft, g⟩ (buildSlN P t n ps) := by
  unfold buildSlN
  split <;> try exact trivial
  rename_i el ht
  split <;> try exact trivial
  rename_i z hz
  obtain ⟨z, hs, rfl⟩ := ti_of hz
  refine NwOk.cnd fun h1 => ?_
  simp only [Bool.and_eq_true] at h1
  obtain ⟨hz1, hz2, hsm⟩ := h1
  have hz2 := Nat.eq_of_beq_eq_true hz2
  split <;> try exact trivial
  rename_i l hl
  rw [fL_eq]
  refine NwOk.cnd fun ho => ?_
  rw [newB_eq]
  simp only [fN_eq]
  have hzc := cvs_zero (φ := φ) hz1
  have hsz : z.cells.size = tsz P el := by rw [← Array.length_toList, hzc.len, hz2]
  obtain ⟨cs', e1, e2⟩ := fillV_ok hk hpr (repl_cvs hzc n) hl
  have hf := fill_bl us _ cs' e1
  have hlen : l.length = n * tsz P el := by
    exact fillV_len hl (by rw [repl_len, hz2])
  refine NwOk.cells (T := el) (u := .slice (some ⟨w.heap.size, 0, none⟩) n n) e2 (fun ρ hρ => ?_) fun φ' b hb => .sl (b' := w.heap.size) (a := 0) (c' := n) hb (Nat.le_refl _) (Nat.le_refl _) (fun _ => rfl) (by rw [hlen]; simp)
  have h24 : ¬ n * tsz P el > 2 ^ 24 := by have := Nat.le_of_ble_eq_true hsm; simp only [Nat.mul_eq] at this; omega
  simp only [execOp, lookp_arr hρ hp, Instr.buildSlice, Sem.run_bind, run_underlying ht, Result.andThen_ok, hs.size, Sem.run_ite, if_neg h24, Sem.run_pure]
  rw [← range_rep, hsz] at hf
  by_cases h0 : n * tsz P el = 0
  · rw [h0] at hf
    simp [Array.range_zero'] at hf
    simp [h0, newRow, newObj, Sem.run, Array.range_zero', hf]
  · rw [← hsz] at hf h0 ⊢
    simp [h0, newRow, newObj, Sem.run, hf, hs.zero]
theorem ones_append {l m : List V} : ones (l ++ m) = (ones l && ones m) := by
  induction l with
  | nil => rfl
  | cons a l ih =>
    show (one a && ones (l ++ m)) = ((one a && ones l) && ones m)
    rw [ih, Bool.and_assoc]
theorem ones_left {l : List V} {n : Nat} (h : ones (repl l (n + 1)) = true) : ones l = true := by
  have : ones (l ++ repl l n) = true := h
  rw [ones_append, Bool.and_eq_true] at this
  exact this.1
theorem makeSlN_ok (hx : Kn φ e x v1) (hy : Kn φ e y v2) : NwOk P φ w e ⟨d, .makeSlice t x y, ty, pos, aft, g⟩ (makeSlN P t v1 v2) := by
  unfold makeSlN
  split <;> try exact trivial
  rename_i k l k' c
  obtain ⟨u1, hx, hc1⟩ := hx (by simp)
  obtain ⟨u2, hy, hc2⟩ := hy (by simp)
  cases hc1
  cases hc2
  rw [nat?_eq]
  split <;> try exact trivial
  rename_i hl
  rw [nat?_eq]
  split <;> try exact trivial
  rename_i hc
  obtain ⟨l, rfl⟩ : ∃ m : Nat, l = m := ⟨l.toNat, (Int.toNat_of_nonneg hl).symm⟩
  obtain ⟨c, rfl⟩ : ∃ m : Nat, c = m := ⟨c.toNat, (Int.toNat_of_nonneg hc).symm⟩
  simp only [Int.toNat_natCast]
  split <;> try exact trivial
  rename_i el ht
  split <;> try exact trivial
  rename_i z hz
  obtain ⟨z, hs, rfl⟩ := ti_of hz
  refine NwOk.cnd fun h1 => ?_
  simp only [Bool.and_eq_true] at h1
  obtain ⟨hz2, h1, h2, h3⟩ := h1
  have hz2 := Nat.eq_of_beq_eq_true hz2
  have h1 := Nat.le_of_ble_eq_true h1
  have h2 := Nat.le_of_ble_eq_true h2
  have h3 := Nat.le_of_ble_eq_true h3
  rw [fL_eq]
  refine NwOk.cnd fun ho => ?_
  rw [newB_eq]
  simp only [fN_eq]
  obtain ⟨i, hi, hiz, his, hib⟩ := hs
  have hr := run_make (P := P) w t el i z ht hi hiz k k' l c (by omega) (by omega) (by rw [hib, ← Int.natCast_mul]; exact Int.ofNat_le.2 h3) (by omega)
  rw [his] at hr
  simp only [Int.toNat_natCast] at hr
  by_cases hc0 : c = 0
  · subst hc0
    have hcells : madeCells z.cells (0 * tsz P el) = #[] := by simp [madeCells]
    rw [hcells] at hr
    refine NwOk.cells (T := el) (u := .slice (some ⟨w.heap.size, 0, none⟩) l 0) (l := repl (zeroB z) 0) (vs := []) CVs.nil (fun ρ hρ => ?_) fun φ' b hb => .sl (b' := w.heap.size) (a := 0) (c' := 0) hb h1 (Nat.le_refl _) (fun _ => rfl) (by simp)
    simp only [execOp, hρ _ _ hx, hρ _ _ hy, Sem.run_bind, hr, Result.andThen_ok, Sem.run_pure]
  · have hz1 : ones (zeroB z) = true := by
      obtain ⟨c', rfl⟩ : ∃ c', c = c' + 1 := ⟨c - 1, by omega⟩
      exact ones_left ho
    have hzc := cvs_zero (φ := φ) hz1
    have hsz : z.cells.size = tsz P el := by rw [← Array.length_toList, hzc.len, hz2]
    have hcells : madeCells z.cells (c * tsz P el) = ((List.replicate c z.cells.toList).flatten).toArray := by
      unfold madeCells; rw [← hsz]; exact range_rep _ _
    rw [hcells] at hr
    refine NwOk.cells (T := el) (u := .slice (some ⟨w.heap.size, 0, none⟩) l c) (repl_cvs hzc c) (fun ρ hρ => ?_) fun φ' b hb => .sl (b' := w.heap.size) (a := 0) (c' := c) hb h1 (Nat.le_refl _) (fun _ => rfl) (by rw [repl_len, hz2]; simp)
    simp only [execOp, hρ _ _ hx, hρ _ _ hy, Sem.run_bind, hr, Result.andThen_ok, Sem.run_pure]

/-! ### Fields and elements -/
theorem tfld_some {i off s : Nat} {a : Bool} (hf : tfld P t i = some (off, s, a)) : ∃ fs f td, P.underlying t = some (.struct fs) ∧ fs[i]? = some f ∧ f.offset = off ∧ tsz P f.type = s ∧ P.underlying f.type = some td ∧ aggOf td = a := by
  unfold tfld at hf
  split at hf <;> try cases hf
  rename_i fs ht
  split at hf <;> try cases hf
  rename_i f hi
  split at hf <;> try cases hf
  rename_i a ha
  obtain ⟨td, hu, ha⟩ := tagg_some ha
  exact ⟨fs, f, td, ht, hi, rfl, rfl, hu, ha⟩
theorem fldAddr_ok {i : Nat} (r : Rel G φ h w) (hx : Kn φ e x v) : QOk P φ h w e ⟨d, .fieldAddr t x i, ty, pos, aft, g⟩ (fldAddr P h t v i) := by
  unfold fldAddr
  split <;> try exact trivial
  rename_i b o
  obtain ⟨u, hx, hc⟩ := hx (by simp)
  cases hc with
  | @ptr _ _ b' a N hp =>
  split <;> try exact trivial
  rename_i off s ag hf
  obtain ⟨fs, f, td, h1, h2, h3, h4, h5, h6⟩ := tfld_some hf
  refine cond_q' fun hs => ?_
  have hs : 0 < s := by simpa using hs
  rw [fN_eq]
  refine QOk.pure (u := ptr b' (a + (o + off))) (fun ρ hρ => ?_) (.ptr hp)
  have hsz := run_sz h5 w
  have h0 : tsz P f.type ≠ 0 := by omega
  simp [execOp, hρ _ _ hx, Instr.fieldAt, run_underlying h1, h2, Instr.sureAddr, fieldPlace, hsz, add_off, h3, h0, Nat.add_assoc]
theorem fldV_ok {i : Nat} (r : Rel G φ h w) (hx : Kn φ e x v) : QOk P φ h w e ⟨d, .field t x i, ty, pos, aft, g⟩ (fldV P h t v i) := by
  unfold fldV
  split <;> try exact trivial
  rename_i l
  obtain ⟨u, hx, hc⟩ := hx (by simp)
  cases hc with
  | @agg _ us hc =>
  split <;> try exact trivial
  · rename_i off s hf
    obtain ⟨fs, f, td, h1, h2, h3, h4, h5, h6⟩ := tfld_some hf
    split <;> try exact trivial
    rename_i v hv
    obtain ⟨u, e1, e2⟩ := hc.get hv
    refine rV_q fun _ => ⟨u, fun ρ hρ => ?_, e2⟩
    simp [execOp, hρ _ _ hx, Instr.field, run_underlying h1, h2, part, run_isAgg h5, h6, asAgg, h3, e1]
  · rename_i off s hf
    obtain ⟨fs, f, td, h1, h2, h3, h4, h5, h6⟩ := tfld_some hf
    rw [fL_eq]
    refine QOk.pure (u := .agg (((us.drop off).take s).toArray)) (fun ρ hρ => ?_) (.agg ((hc.drop off).take s))
    have hsz := run_sz h5 w
    simp [execOp, hρ _ _ hx, Instr.field, run_underlying h1, h2, part, run_isAgg h5, h6, asAgg, h3, hsz, h4]
theorem ixAddr_ok (r : Rel G φ h w) (hx : Kn φ e x v1) (hy : Kn φ e y v2) : QOk P φ h w e ⟨d, .indexAddr t x y, ty, pos, aft, g⟩ (ixAddr P h t v1 v2) := by
  unfold ixAddr
  split <;> try exact trivial
  rename_i k z
  obtain ⟨u2, hy, hc2⟩ := hy (by simp)
  cases hc2
  rw [nat?_eq]
  split <;> try exact trivial
  rename_i hz
  obtain ⟨i, rfl⟩ : ∃ m : Nat, z = m := ⟨z.toNat, (Int.toNat_of_nonneg hz).symm⟩
  simp only [Int.toNat_natCast]
  split <;> try exact trivial
  · rename_i b o
    obtain ⟨u1, hx, hc1⟩ := hx (by simp)
    cases hc1 with
    | @ptr _ _ b' a N hp =>
    split <;> try exact trivial
    rename_i n el ht
    refine cond_q' fun hh => ?_
    simp only [Bool.and_eq_true] at hh
    have hi : i < n := by simpa using hh.1
    have hs := run_sz' (show 0 < tsz P el by simpa using hh.2) w
    rw [fN_eq]
    refine QOk.pure (u := ptr b' (a + (o + i * tsz P el))) (fun ρ hρ => ?_) (.ptr hp)
    simp [execOp, hρ _ _ hx, hρ _ _ hy, Instr.indexAt, asIntOf, run_underlying ht, Instr.sureAddr, hi, hs, add_off, Nat.add_assoc]
  · rename_i b o len kc es op
    obtain ⟨u1, hx, hc1⟩ := hx (by simp)
    cases hc1 with
    | @sl _ _ _ _ _ _ b' a N c' hp q1 q2 q3 q4 =>
    split <;> try exact trivial
    rename_i el ht
    refine cond_q' fun hh => ?_
    simp only [Bool.and_eq_true] at hh
    have hi : i < len := by simpa using hh.1
    have he : es = tsz P el := Nat.eq_of_beq_eq_true hh.2.2
    have hs := run_sz' (show 0 < tsz P el by rw [← he]; simpa using hh.2.1) w
    rw [fN_eq]
    refine QOk.pure (u := ptr b' (a + (o + i * es))) (fun ρ hρ => ?_) (.ptr hp)
    simp [execOp, hρ _ _ hx, hρ _ _ hy, Instr.indexAt, asIntOf, run_underlying ht, hi, hs, add_off, Nat.add_assoc, he]
theorem ixV_ok (r : Rel G φ h w) (hx : Kn φ e x v1) (hy : Kn φ e y v2) : QOk P φ h w e ⟨d, .index t x y, ty, pos, aft, g⟩ (ixV P h t v1 v2) := by
  unfold ixV
  split <;> try exact trivial
  rename_i k z
  obtain ⟨u2, hy, hc2⟩ := hy (by simp)
  cases hc2
  rw [nat?_eq]
  split <;> try exact trivial
  rename_i hz
  obtain ⟨i, rfl⟩ : ∃ m : Nat, z = m := ⟨z.toNat, (Int.toNat_of_nonneg hz).symm⟩
  simp only [Int.toNat_natCast]
  split <;> try exact trivial
  · rename_i n s
    obtain ⟨u1, hx, hc1⟩ := hx (by simp)
    cases hc1
    split <;> try exact trivial
    rename_i ht
    refine cond_q' fun hi => ?_
    have hi : i < n := by simpa using hi
    rw [rInt_eq]
    have hb : (.ofNat (Nat.mod (Nat.div s (Nat.pow 256 i)) 256) : Int) = (((unp n s).getD i 0).toNat : Int) := by
      rw [unp_get n s i hi]
      show ((s / 256 ^ i % 256 : Nat) : Int) = _
      simp
    rw [hb]
    exact QOk.pure (yixS' ht hx hy (by simpa using hi)) .int
  · rename_i l
    obtain ⟨u1, hx, hc1⟩ := hx (by simp)
    cases hc1 with
    | @agg _ us hc =>
    split <;> try exact trivial
    rename_i n el ht
    split <;> try exact trivial
    · rename_i ha
      obtain ⟨td, hu, ha⟩ := tagg_some ha
      refine cond_q' fun hh => ?_
      simp only [Bool.and_eq_true] at hh
      have hi : i < n := by simpa using hh.1
      have h1 : tsz P el = 1 := Nat.eq_of_beq_eq_true hh.2
      split <;> try exact trivial
      rename_i v hv
      obtain ⟨u, e1, e2⟩ := hc.get hv
      refine rV_q fun _ => ⟨u, fun ρ hρ => ?_, e2⟩
      have hs := run_sz hu w
      simp [execOp, hρ _ _ hx, hρ _ _ hy, Instr.index, asIntOf, run_underlying ht, hi, hs, h1, part, run_isAgg hu, ha, e1]
    · rename_i ha
      obtain ⟨td, hu, ha⟩ := tagg_some ha
      refine cond_q' fun hh => ?_
      have hi : i < n := by simpa using hh
      rw [fL_eq]
      refine QOk.pure (u := .agg (((us.drop (i * tsz P el)).take (tsz P el)).toArray)) (fun ρ hρ => ?_) (.agg ((hc.drop _).take _))
      have hs := run_sz hu w
      simp [execOp, hρ _ _ hx, hρ _ _ hy, Instr.index, asIntOf, run_underlying ht, hi, hs, part, run_isAgg hu, ha]
end
end Go.Proofs.Ytkhkebcflaokpaa
namespace Go.Proofs.Ytkhkebcflaokpaa
open Go Go.RowKit
set_option linter.all false

section
variable {P : Program} {G : Nat} {φ : Ph} {h : H} {w : World} {e : Env} {d : Option Nat} {ty t t' : TypeId} {pos : String} {aft : Array Edge} {g : Option (Nat × Bool)} {x y : Operand} {v v1 v2 : V} {u u1 u2 : Value} {ρ : Operand → V}

/-- A bound, or what stands in its place. -/
def Bd (e : Env) (lo : Option Operand) (l dflt : Nat) : Prop := (lo = none ∧ l = dflt) ∨ ∃ o k, lo = some o ∧ look e o = some (.int k (l : Int))
theorem bnd_spec (hρ : RhoR φ ρ e) {lo : Option Operand} {l dflt : Nat} (hb : bnd (lo.map ρ) dflt = some l) : Bd e lo l dflt := by
  cases lo with
  | none => left; simp [bnd] at hb; exact ⟨rfl, hb.symm⟩
  | some o =>
    right
    simp only [Option.map_some, bnd] at hb
    split at hb
    · rename_i he; cases he
    · rename_i k z he
      simp only [Option.some.injEq] at he
      rw [nat?_eq] at hb
      split at hb
      · rename_i hz
        simp at hb
        obtain ⟨u, h1, h2⟩ := hρ o (by rw [he]; simp)
        rw [he] at h2
        cases h2
        exact ⟨o, k, rfl, by rw [h1, ← hb, Int.toNat_of_nonneg hz]⟩
      · cases hb
    · cases hb
theorem run_bound {k : IntKind} {l y : Nat} {code : BoundsCode} (h : l ≤ y) : (Instr.sliceBound (.int k (l : Int)) y code).run P w = .ok l w := by
  have : (0 : Int) ≤ (l : Int) ∧ (l : Int) ≤ (y : Int) := by omega
  simp [Instr.sliceBound, asIntOf, h]
theorem run_bounds {isSl : Bool} {len cap l r : Nat} {lo hi : Option Operand} {ρ : Operand → Value} (hρ : ∀ x v, look e x = some v → ρ x = v) (h1 : Bd e lo l 0) (h2 : Bd e hi r len) (h3 : l ≤ r) (h4 : r ≤ cap) :
    (Instr.sliceBounds isSl len cap (lo.map ρ) (hi.map ρ) none).run P w = .ok (l, r, cap) w := by
  rcases h1 with ⟨rfl, rfl⟩ | ⟨o1, k1, rfl, e1⟩ <;> rcases h2 with ⟨rfl, rfl⟩ | ⟨o2, k2, rfl, e2⟩
  · simp [Instr.sliceBounds]
  · simp only [Instr.sliceBounds, Option.map_none, Option.map_some, hρ _ _ e2, Sem.run_bind, Sem.run_pure, Result.andThen_ok, run_bound h4]
  · simp only [Instr.sliceBounds, Option.map_none, Option.map_some, hρ _ _ e1, Sem.run_bind, Sem.run_pure, Result.andThen_ok, run_bound h3]
  · simp only [Instr.sliceBounds, Option.map_none, Option.map_some, hρ _ _ e1, hρ _ _ e2, Sem.run_bind, Sem.run_pure, Result.andThen_ok, run_bound h3, run_bound h4]
theorem run_bounds3 {isSl : Bool} {len cap l r m : Nat} {lo hi mx : Option Operand} {ρ : Operand → Value} {o2 o3 : Operand} {k2 k3 : IntKind} (hρ : ∀ x v, look e x = some v → ρ x = v) (h1 : Bd e lo l 0) (h2 : hi = some o2 ∧ look e o2 = some (.int k2 (r : Int))) (h2' : mx = some o3 ∧ look e o3 = some (.int k3 (m : Int)))
    (h3 : l ≤ r) (h4 : r ≤ m) (h5 : m ≤ cap) : (Instr.sliceBounds isSl len cap (lo.map ρ) (hi.map ρ) (mx.map ρ)).run P w = .ok (l, r, m) w := by
  obtain ⟨rfl, e2⟩ := h2
  obtain ⟨rfl, e3⟩ := h2'
  rcases h1 with ⟨rfl, rfl⟩ | ⟨o1, k1, rfl, e1⟩
  · simp only [Instr.sliceBounds, Option.map_none, Option.map_some, hρ _ _ e2, hρ _ _ e3, Sem.run_bind, Sem.run_pure, Result.andThen_ok, run_bound h4, run_bound h5]
  · simp only [Instr.sliceBounds, Option.map_none, Option.map_some, hρ _ _ e1, hρ _ _ e2, hρ _ _ e3, Sem.run_bind, Sem.run_pure, Result.andThen_ok, run_bound h3, run_bound h4, run_bound h5]

theorem slV_ok {lo hi mx : Option Operand} (r : Rel G φ h w) (hρ : RhoR φ ρ e) : QOk P φ h w e ⟨d, .slice t x lo hi mx, ty, pos, aft, g⟩ (slV P h t (ρ x) (lo.map ρ) (hi.map ρ) (mx.map ρ)) := by
  have hx0 := hρ x
  generalize ρ x = v at hx0
  unfold slV
  split <;> try exact trivial
  · rename_i n s
    obtain ⟨u, hx, hc⟩ := hx0 (by simp)
    cases hc with
    | str hs =>
    split <;> try exact trivial
    rename_i l j ht hm hl hr
    have hm : mx = none := by cases mx with | none => rfl | some _ => simp at hm
    subst hm
    have hl := bnd_spec hρ hl
    have hr := bnd_spec hρ hr
    refine cond_q' fun hh => ?_
    simp only [Bool.and_eq_true] at hh
    have h1 : l ≤ j := Nat.le_of_ble_eq_true hh.1
    have h2 : j ≤ n := Nat.le_of_ble_eq_true hh.2
    rw [rStr_eq]
    have he : ((unp n s).drop l).take (j - l) = unp (j - l) (s / 256 ^ l % 256 ^ (j - l)) := by
      rw [unp_drop, unp_take _ _ _ (by omega)]
    refine QOk.pure (u := S (((unp n s).drop l).take (j - l))) (fun ρ hρ' => ?_) (by rw [he]; exact .str (Nat.mod_lt _ (Nat.pow_pos (by decide))))
    have hb := run_bounds (P := P) (w := w) (isSl := false) (len := n) (cap := n) hρ' hl hr h1 h2
    have hsz : (ByteArray.mk (unp n s).toArray).size = n := by rw [size_S]; simp
    simp only [execOp, hρ' _ _ hx, Instr.sliceAt, run_underlying ht, Sem.run_bind, Result.andThen_ok, Instr.slice, Option.map_none, Option.isSome_none, Bool.false_eq_true, if_false, Sem.run_ite, Sem.run_pure, hsz, hb, extract_S]
  · rename_i b o
    obtain ⟨u, hx, hc⟩ := hx0 (by simp)
    cases hc with
    | @ptr _ _ b' a N hp =>
    split <;> try exact trivial
    rename_i n el nb _ _ _ _ ht hm hb
    have hm : mx = none := by cases mx with | none => rfl | some _ => simp at hm
    subst hm
    split <;> try exact trivial
    rename_i l j hl hr
    have hl := bnd_spec hρ hl
    have hr := bnd_spec hρ hr
    refine cond_q' fun hh => ?_
    simp only [Bool.and_eq_true] at hh
    obtain ⟨⟨h1, h2⟩, h3, h4, h5⟩ := hh
    have h1 := Nat.le_of_ble_eq_true h1
    have h2 := Nat.le_of_ble_eq_true h2
    have h3 : l < n := by simpa using h3
    have h4 : 0 < tsz P el := by simpa using h4
    have h5 : o + n * tsz P el ≤ nb := Nat.le_of_ble_eq_true h5
    obtain ⟨hN, -⟩ := r.cells hb hp
    simp only at hN
    simp only [fN_eq]
    have e1 : l * tsz P el + (n - l) * tsz P el = n * tsz P el := by rw [← Nat.add_mul]; congr 1; omega
    refine QOk.pure (u := .slice (some ⟨b', a + (o + l * tsz P el), none⟩) (j - l) (n - l)) (fun ρ hρ' => ?_) (.sl hp (Nat.sub_le_sub_right h2 l) (Nat.le_refl _) (fun _ => rfl) (by simp only [Nat.add_eq, Nat.mul_eq]; omega))
    have hbd := run_bounds (P := P) (w := w) (isSl := false) (len := n) (cap := n) hρ' hl hr h1 h2
    have hs := run_sz' h4 w
    have hne : ¬ n = l := by omega
    simp only [execOp, hρ' _ _ hx, Instr.sliceAt, run_underlying ht, Sem.run_bind, Result.andThen_ok, Instr.sureAddr, Sem.run_pure, Option.map_none, hbd, hs, hne, if_false, add_off, Nat.add_assoc]
  · rename_i b o len kc es op
    obtain ⟨u, hx, hc⟩ := hx0 (by simp)
    cases hc with
    | @sl _ _ _ _ _ _ b' a N c' hp q1 q2 q3 q4 =>
    split <;> try exact trivial
    rename_i el ht
    refine cond_q' fun hh => ?_
    simp only [Bool.and_eq_true] at hh
    have h0 : 0 < es := by simpa using hh.1
    have hes : es = tsz P el := Nat.eq_of_beq_eq_true hh.2
    have hs := run_sz' (show 0 < tsz P el by omega) w
    split
    · rename_i hm
      have hm : mx = none := by cases mx with | none => rfl | some _ => simp at hm
      subst hm
      split <;> try exact trivial
      rename_i l j hl hr
      have hl := bnd_spec hρ hl
      have hr := bnd_spec hρ hr
      refine cond_q' fun hh => ?_
      simp only [Bool.and_eq_true] at hh
      have h1 := Nat.le_of_ble_eq_true hh.1
      have h2 := Nat.le_of_ble_eq_true hh.2
      have hbd : ∀ {ρ : Operand → Value}, (∀ x v, look e x = some v → ρ x = v) → _ := fun {ρ} hρ' => run_bounds (P := P) (w := w) (isSl := true) (len := len) (cap := c') hρ' hl hr h1 (by omega)
      refine cond_q (fun hlk => ?_) fun hlk => ?_
      · have hlk := Nat.eq_of_beq_eq_true hlk
        subst hlk
        have hj : j = l := by omega
        subst hj
        refine cond_q (fun hop => ?_) fun hop => ?_
        · by_cases hcl : c' = j
          · subst hcl
            refine QOk.pure (u := .slice (some ⟨b', a + o, none⟩) 0 0) (fun ρ hρ' => ?_) (.es hp (by simp; omega))
            simp only [execOp, hρ' _ _ hx, Instr.sliceAt, run_underlying ht, Sem.run_bind, Result.andThen_ok, Instr.slice, Option.map_none, hbd hρ', hs, Sem.run_pure, if_true, Nat.sub_self]
          · refine QOk.pure (u := .slice (some ⟨b', a + o + j * es, none⟩) 0 (c' - j)) (fun ρ hρ' => ?_) (.es hp ?_)
            · simp only [execOp, hρ' _ _ hx, Instr.sliceAt, run_underlying ht, Sem.run_bind, Result.andThen_ok, Instr.slice, Option.map_none, hbd hρ', hs, Sem.run_pure, hcl, if_false, Nat.sub_self, Option.map_some, add_off, hes]
            · have e1 : j * es + (c' - j) * es = c' * es := by rw [← Nat.add_mul]; congr 1; omega
              omega
        · have hck := q3 hop
          subst hck
          refine QOk.pure (u := .slice (some ⟨b', a + o, none⟩) 0 0) (fun ρ hρ' => ?_) (.sl hp (Nat.le_refl _) (Nat.le_refl _) (fun _ => rfl) (by simp; omega))
          simp only [execOp, hρ' _ _ hx, Instr.sliceAt, run_underlying ht, Sem.run_bind, Result.andThen_ok, Instr.slice, Option.map_none, hbd hρ', hs, Sem.run_pure, if_true, Nat.sub_self]
      · have hlk : ¬ l = kc := fun h => by rw [h] at hlk; simp at hlk
        have hne : ¬ c' = l := by omega
        simp only [fN_eq]
        have e1 : l * es + (c' - l) * es = c' * es := by rw [← Nat.add_mul]; congr 1; omega
        refine QOk.pure (u := .slice (some ⟨b', a + (o + l * es), none⟩) (j - l) (c' - l)) (fun ρ hρ' => ?_) (.sl hp (Nat.sub_le_sub_right h2 l) (Nat.sub_le_sub_right q2 l) (fun hop => by rw [q3 hop]; rfl) (by simp only [Nat.add_eq, Nat.mul_eq]; omega))
        simp only [execOp, hρ' _ _ hx, Instr.sliceAt, run_underlying ht, Sem.run_bind, Result.andThen_ok, Instr.slice, Option.map_none, hbd hρ', hs, Sem.run_pure, hne, if_false, Option.map_some, add_off, ← hes, Nat.add_assoc]
    · rename_i m hm
      split <;> try exact trivial
      rename_i hi' hhi
      split <;> try exact trivial
      rename_i l j m' hl hr hmm
      have hl := bnd_spec hρ hl
      rw [← hhi] at hr
      rw [← hm] at hmm
      have hr := bnd_spec hρ hr
      have hmm := bnd_spec hρ hmm
      refine cond_q' fun hh => ?_
      simp only [Bool.and_eq_true] at hh
      obtain ⟨⟨h1, h2⟩, h3, h4⟩ := hh
      have h1 := Nat.le_of_ble_eq_true h1
      have h2 := Nat.le_of_ble_eq_true h2
      have h3 := Nat.le_of_ble_eq_true h3
      have h4 : l < m' := by simpa using h4
      rcases hr with ⟨rfl, -⟩ | ⟨o2, k2, hhi2, e2⟩
      · simp at hhi
      rcases hmm with ⟨rfl, -⟩ | ⟨o3, k3, hmx2, e3⟩
      · simp at hm
      have hne : ¬ m' = l := by omega
      simp only [fN_eq]
      have e1 : l * es + (m' - l) * es = m' * es := by rw [← Nat.add_mul]; congr 1; omega
      have e4 : m' * es ≤ c' * es := Nat.mul_le_mul_right _ (by omega)
      refine QOk.pure (u := .slice (some ⟨b', a + (o + l * es), none⟩) (j - l) (m' - l)) (fun ρ hρ' => ?_) (.sl hp (Nat.sub_le_sub_right h2 l) (Nat.le_refl _) (fun _ => rfl) (by simp only [Nat.add_eq, Nat.mul_eq]; omega))
      have hbd := run_bounds3 (P := P) (w := w) (isSl := true) (len := len) (cap := c') hρ' hl ⟨hhi2, e2⟩ ⟨hmx2, e3⟩ h1 h2 (by omega)
      simp only [execOp, hρ' _ _ hx, Instr.sliceAt, run_underlying ht, Sem.run_bind, Result.andThen_ok, Instr.slice, hbd, hs, Sem.run_pure, hne, if_false, Option.map_some, add_off, ← hes, Nat.add_assoc]
  · rename_i b es
    obtain ⟨u, hx, hc⟩ := hx0 (by simp)
    cases hc with
    | @es _ _ b' a N off c' hp hN =>
    split <;> try exact trivial
    rename_i el ht hl hr hm
    have hm : mx = none := by cases mx with | none => rfl | some _ => simp at hm
    subst hm
    have hl := bnd_spec hρ hl
    have hr := bnd_spec hρ hr
    refine cond_q' fun h4 => ?_
    have hs := run_sz' (show 0 < tsz P el by simpa using h4) w
    refine QOk.pure (u := .slice (some ⟨b', off, none⟩) 0 c') (fun ρ hρ' => ?_) (.es hp hN)
    have hbd := run_bounds (P := P) (w := w) (isSl := true) (len := 0) (cap := c') hρ' hl hr (Nat.le_refl _) (Nat.zero_le _)
    have hz : ∀ b, (if b = 0 then some (⟨b', off, none⟩ : Addr) else Option.map (fun x => x.add (0 * tsz P el)) (some (⟨b', off, none⟩ : Addr))) = some ⟨b', off, none⟩ := fun b => by split <;> simp [Addr.add]
    simp only [execOp, hρ' _ _ hx, Instr.sliceAt, run_underlying ht, Sem.run_bind, Result.andThen_ok, Instr.slice, Option.map_none, hbd, hs, Sem.run_pure, hz, Nat.sub_zero]
  · obtain ⟨u, hx, hc⟩ := hx0 (by simp)
    cases hc
    split <;> try exact trivial
    rename_i el ht hl hr hm
    have hm : mx = none := by cases mx with | none => rfl | some _ => simp at hm
    subst hm
    have hl := bnd_spec hρ hl
    have hr := bnd_spec hρ hr
    refine cond_q' fun h4 => ?_
    have hs := run_sz' (show 0 < tsz P el by simpa using h4) w
    refine QOk.pure (u := .slice none 0 0) (fun ρ hρ' => ?_) .nsl
    have hbd := run_bounds (P := P) (w := w) (isSl := true) (len := 0) (cap := 0) hρ' hl hr (Nat.le_refl _) (Nat.zero_le _)
    simp only [execOp, hρ' _ _ hx, Instr.sliceAt, run_underlying ht, Sem.run_bind, Result.andThen_ok, Instr.slice, Option.map_none, hbd, hs, Sem.run_pure, if_true, Nat.sub_zero]

/-! ### Elements -/
/-- What append and copy read of a value: m elements of size es, these cells. -/
structure Elm (P : Program) (es : Nat) (u : Value) (m : Nat) (news : List Value) (w : World) : Prop where
  len : ∀ w' : World, (Builtin.lenOf u).run P w' = .ok m w'
  first : ∀ k w', k ≤ m → w'.heap = w.heap → (Builtin.firstCells es k u).run P w' = .ok (news.take (k * es)).toArray w'
  newsLen : news.length = m * es

theorem elm_slice {b' off len c es : Nat} {news : List Value} (hl : news.length = len * es) (hc : ∀ j u, news[j]? = some u → w.cell? ⟨b', off + j, none⟩ = some u) : Elm P es (.slice (some ⟨b', off, none⟩) len c) len news w := by
  refine ⟨fun _ => rfl, fun k w' hk hw => ?_, hl⟩
  have hr := run_loadCells_list (P := P) w' ⟨b', off, none⟩ (news.take (k * es)) (fun j v hj => by
    rw [add_off]
    rw [List.getElem?_take] at hj
    split at hj
    · have := hc j v hj
      rw [← this]
      simp only [World.cell?, hw]
    · cases hj)
  rw [List.length_take, Nat.min_eq_left (by rw [hl]; exact Nat.mul_le_mul_right _ hk)] at hr
  exact hr
theorem elm_nil (es c : Nat) : Elm P es (.slice none 0 c) 0 [] w :=
  ⟨fun _ => rfl, fun k w' hk _ => by simp [Builtin.firstCells], by simp⟩
theorem u8_cvs (l : List UInt8) : CVs φ (l.map fun b => V.int .u8 (.ofNat b.toNat)) (l.map u8v) := by
  induction l with
  | nil => exact .nil
  | cons a l ih => exact .cons .int ih
theorem elm_str (l : List UInt8) : Elm P 1 (S l) l.length (l.map u8v) w := by
  refine ⟨fun w' => ?_, fun k w' hk _ => ?_, by simp⟩
  · simp only [Builtin.lenOf, Sem.run_pure, size_S]
  · simp only [Builtin.firstCells, Sem.run_pure, extract_S, Nat.mul_one]
    congr 1
    apply Array.toList_inj.1
    simp [List.map_take]
    rfl

theorem elems_eq {β : Type} {es : Nat} (r : Rel G φ h w) (hc : CV φ v u) (c : Nat → List V → β) (no : β) :
    elems P h v es c no = no ∨ ∃ m l news, elems P h v es c no = c m l ∧ CVs φ l news ∧ Elm P es u m news w := by
  unfold elems
  split
  · cases hc
    exact .inr ⟨0, [], [], rfl, .nil, elm_nil es 0⟩
  · cases hc with
    | @es _ _ b' a N off c' hp hN => exact .inr ⟨0, [], [], rfl, .nil, elm_slice (by simp) (fun j u h => by simp at h)⟩
  · rename_i b o len kc es' op
    cases hc with
    | @sl _ _ _ _ _ _ b' a N c' hp q1 q2 q3 q4 =>
    split
    · rename_i n dd tr ty' st hb
      obtain ⟨hN, us, T, fz, hB, hlen, hT, -⟩ := r.cells hb hp
      cases hcd : and (Nat.beq es es') (Nat.ble (Nat.add o (Nat.mul len es)) n) with
      | false => exact .inl rfl
      | true =>
        right
        simp only [Bool.and_eq_true] at hcd
        have h1 := Nat.eq_of_beq_eq_true hcd.1
        have h2 : o + len * es ≤ n := Nat.le_of_ble_eq_true hcd.2
        simp only [cond_true, rdK_eq]
        have hcv := hT.read h2
        refine ⟨len, _, _, rfl, hcv, elm_slice ?_ (hB.blk.cells rfl)⟩
        rw [hcv.len]; simp
    · exact .inl rfl
  · rename_i n s
    cases hc with
    | str hs =>
    cases hcd : Nat.beq es 1 with
    | false => exact .inl rfl
    | true =>
      right
      have := Nat.eq_of_beq_eq_true hcd
      subst this
      simp only [cond_true, fL_eq]
      have := elm_str (P := P) (w := w) (unp n s)
      rw [unp_length] at this
      exact ⟨n, _, _, rfl, u8_cvs _, this⟩
  · exact .inl rfl

theorem Elm.src {es m : Nat} {news : List Value} {t : TypeId} {v : V} (hE : Elm P es u m news w) (hs : srcOk P t v es = true) (h1 : ∀ c ∈ news, c.oneCell' = true) : Src P es t u m news w := by
  have hk : (∃ e', P.underlying t = some (.slice e')) ∨ P.underlying t = some .string := by
    unfold srcOk at hs
    split at hs
    · rename_i e' _ _ _ _ _ _ hu; exact .inl ⟨e', hu⟩
    · rename_i e' _ _ hu; exact .inl ⟨e', hu⟩
    · rename_i e' hu; exact .inl ⟨e', hu⟩
    · rename_i hu; exact .inr hu
    · cases hs
  have hf := hE.first m
  rw [List.take_of_length_le (by rw [hE.newsLen]; exact Nat.le_refl _)] at hf
  exact ⟨hk, hE.len, hf w (Nat.le_refl _) rfl, hf w.drew (Nat.le_refl _) rfl, hE.newsLen, h1⟩

/-- What a builtin answers. -/
def BOk (P : Program) (G : Nat) (φ : Ph) (h : H) (w : World) (s : Sem Value) : R → Prop
  | .v x h' => ∃ u w' φ', s.run P w = .ok u w' ∧ Post G φ h w φ' h' w' ∧ CV φ' x u
  | .bad _ => True
  | _ => False
theorem BOk.pure {s : Sem Value} {v : V} {u : Value} (r : Rel G φ h w) (hy : s.run P w = .ok u w) (hc : CV φ v u) : BOk P G φ h w s (.v v h) := ⟨u, w, φ, hy, Post.refl r, hc⟩
theorem BOk.cnd {s : Sem Value} {b : Bool} {p q : R} (h1 : b = true → BOk P G φ h w s p) (h2 : b = false → BOk P G φ h w s q) : BOk P G φ h w s (cond b p q) := by
  cases b with
  | true => exact h1 rfl
  | false => exact h2 rfl
theorem BOk.cnd' {s : Sem Value} {b : Bool} {p : R} {n : Nat} (h1 : b = true → BOk P G φ h w s p) : BOk P G φ h w s (cond b p (.bad n)) := BOk.cnd h1 fun _ => trivial

/-- A builtin that changes nothing. -/
def QB (P : Program) (φ : Ph) (h : H) (w : World) (s : Sem Value) : R → Prop
  | .v x h' => h' = h ∧ ∃ u, s.run P w = .ok u w ∧ CV φ x u
  | .bad _ => True
  | _ => False
theorem QB.pure {s : Sem Value} {v : V} {u : Value} (hy : s.run P w = .ok u w) (hc : CV φ v u) : QB P φ h w s (.v v h) := ⟨rfl, u, hy, hc⟩
theorem QB.cnd {s : Sem Value} {b : Bool} {p q : R} (h1 : b = true → QB P φ h w s p) (h2 : b = false → QB P φ h w s q) : QB P φ h w s (cond b p q) := by
  cases b with
  | true => exact h1 rfl
  | false => exact h2 rfl
theorem QB.cnd' {s : Sem Value} {b : Bool} {p : R} {n : Nat} (h1 : b = true → QB P φ h w s p) : QB P φ h w s (cond b p (.bad n)) := QB.cnd h1 fun _ => trivial
theorem QB.bok {s : Sem Value} {rr : R} (r : Rel G φ h w) (q : QB P φ h w s rr) : BOk P G φ h w s rr := by
  cases rr with
  | v x h' => obtain ⟨rfl, u, h1, h2⟩ := q; exact BOk.pure r h1 h2
  | bad _ => exact trivial
  | eff _ => exact q.elim
  | call _ _ => exact q.elim
  | yld _ _ => exact q.elim
  | dfr _ _ _ => exact q.elim
theorem BOk.after {s : Sem Value} {h1 : H} {q : R} (p : Post G φ h w φ h1 w) (k : BOk P G φ h1 w s q) : BOk P G φ h w s q := by
  cases q with
  | v x h' => obtain ⟨u, w', φ', h1, h2, h3⟩ := k; exact ⟨u, w', φ', h1, p.trans h2, h3⟩
  | bad n => exact trivial
  | eff _ => exact k.elim
  | call _ _ => exact k.elim
  | yld _ _ => exact k.elim
  | dfr _ _ _ => exact k.elim

/-- A block gets a new number. -/
theorem Rel.renew (r : Rel G φ h w) {b : Nat} {x y : B} {p : Nat × Nat × Nat} {a N : Nat} {w' : World} (hb : hGet h b = some x) (hro : isRo x = false) (hp : φ b = some p) (k : Kp (fun i => i = p.1) w w')
    (hy : BR (addPh φ h.next (p.1, a, N)) y (p.1, a, N) w') (hyr : isRo y = false := by rfl) : Post G φ h w (addPh φ h.next (p.1, a, N)) ⟨trPut HD h.next (trPut HD b h.t none) (some y), h.next + 1⟩ w' := by
  have hsb := addPh_sb r (p.1, a, N)
  have hbn : b ≠ h.next := fun e => by have := r.next_none hp; omega
  have hold : ∀ c z, c ≠ h.next → hGet ⟨trPut HD h.next (trPut HD b h.t none) (some y), h.next + 1⟩ c = some z → c ≠ b ∧ hGet h c = some z := fun c z hn hz => by
    have h1 : hGet ⟨trPut HD b h.t none, h.next⟩ c = some z := by
      have := hGet_put_ne (h := ⟨trPut HD b h.t none, h.next⟩) (x := some y) (n := h.next + 1) hn
      rw [← this]; exact hz
    by_cases e : c = b
    · subst e
      have := hGet_put_same h1; cases this
    · exact ⟨e, by rwa [hGet_put_ne e] at h1⟩
  have hph : ∀ c q, c ≠ h.next → addPh φ h.next (p.1, a, N) c = some q → φ c = some q := fun c q hn hq => by unfold addPh at hq; rwa [if_neg hn] at hq
  refine ⟨hsb, ⟨fun c d' z z' q q' hc hd hq hq' e => ?_, fun c z hc => ?_, fun c hc => ?_, fun g hg => ?_⟩, k.mono' fun i hi => ⟨b, x, p, hb, hro, hp, hi.symm⟩, fun j ⟨c, z, q, hc, hro', hq, e⟩ => .inl ?_, (Hp.del b).trans (Hp.new (h := ⟨trPut HD b h.t none, h.next⟩) _ hyr)⟩
  · by_cases h1 : c = h.next
    · by_cases h2 : d' = h.next
      · rw [h1, h2]
      · exfalso
        subst h1
        rw [addPh_same] at hq
        cases hq
        have hh := hold _ _ h2 hd
        exact hh.1 (r.inj _ _ _ _ _ _ hh.2 hb (hph _ _ h2 hq') hp e.symm)
    · by_cases h2 : d' = h.next
      · exfalso
        subst h2
        rw [addPh_same] at hq'
        cases hq'
        have hh := hold _ _ h1 hc
        exact hh.1 (r.inj _ _ _ _ _ _ hh.2 hb (hph _ _ h1 hq) hp e)
      · exact r.inj _ _ _ _ _ _ (hold _ _ h1 hc).2 (hold _ _ h2 hd).2 (hph _ _ h1 hq) (hph _ _ h2 hq') e
  · by_cases h1 : c = h.next
    · subst h1
      have := hGet_put_same (h := ⟨trPut HD b h.t none, h.next⟩) hc
      cases this
      exact ⟨_, addPh_same _ _ _, hy⟩
    · have hh := hold _ _ h1 hc
      obtain ⟨q, hq, hbr⟩ := r.blk _ _ hh.2
      exact ⟨q, hsb _ _ hq, hbr.kp hsb k fun e => hh.1 (r.inj _ _ _ _ _ _ hh.2 hb hq hp e)⟩
  · show (if c = h.next then _ else _) = none
    have hc' : h.next + 1 ≤ c := hc
    rw [if_neg (by omega), r.fresh c (by omega)]
  · obtain ⟨N', h1⟩ := r.glob g hg
    exact ⟨N', hsb _ _ h1⟩
  · by_cases h1 : c = h.next
    · subst h1
      rw [addPh_same] at hq
      cases hq
      exact ⟨b, x, p, hb, hro, hp, e⟩
    · have hh := hold _ _ h1 hc
      exact ⟨c, z, q, hh.2, hro', hph _ _ h1 hq, e⟩

/-- A new row, of which the first cells are known. -/
theorem Rel.grown (r : Rel G φ h w) {l : List V} {vs : List Value} (hc : CVs φ l vs) (post : Array Value) (T : TypeId) (st : Bool) (fz : Nat × Nat) (hfz : ∀ i, i < vs.length + post.size → ¬ (fz.1 ≤ i ∧ i < fz.2)) (hst : st = false → fz = (0, 0) ∧ post.size = 0) :
    Post G φ h w (addPh φ h.next (w.heap.size, 0, l.length + post.size)) ⟨trPut HD h.next h.t (some (.cells l.length (lvls l.length) (wrE (lvls l.length) l (trNew .und (lvls l.length)) 0) T st)), h.next + 1⟩ (w.drew.alloc (.cells (vs.toArray ++ post) T fz)) := by
  have he : vs.toArray ++ post = (vs ++ post.toList).toArray := by
    apply Array.toList_inj.1; simp
  refine r.new ((Ext.drew0 w).trans (ext_alloc w.drew _)) (Nat.le_refl _) ⟨by simp, vs ++ post.toList, T, fz, ⟨?_, fun i hi => hfz i (by simpa using hi)⟩, by simp [hc.len], ?_, rfl, fun h => ⟨(hst h).1, rfl, by rw [(hst h).2]; rfl⟩⟩
  · have := heap_new w.drew (.cells (vs.toArray ++ post) T fz)
    rw [he] at this ⊢
    exact this
  · have := TrR.new (d := lvls l.length) (hc.mono (addPh_sb r (w.heap.size, 0, l.length + post.size))) 0 [] post.toList rfl
    simpa using this

theorem zOk_spec {el es : Nat} (hz : zOk P el es = true) : ∃ i z, P.info? el = some i ∧ i.zero = some z ∧ i.size = tsz P el ∧ i.bytes = tbytes P el ∧ z.cells.size = es := by
  unfold zOk at hz
  split at hz
  · rename_i l hl
    obtain ⟨z, ⟨i, h1, h2, h3, h4⟩, rfl⟩ := ti_of hl
    refine ⟨i, z, h1, h2, h3, h4, ?_⟩
    have := Nat.eq_of_beq_eq_true hz
    rw [← this]
    unfold zeroB
    split
    · simp [Value.cells]
    · rename_i hn
      cases z <;> first | rfl | exact (hn _ rfl).elim
  · cases hz

theorem grow_ok {s : Sem Value} {l : List V} {vs : List Value} {n es el : Nat} {z : Value} (r : Rel G φ h w) (hc : CVs φ l vs) (hl : l.length = n * es) (hz : z.cells.size = es) {sCap : Nat}
    (hs : s.run P w = .ok (.slice (some ⟨w.heap.size, 0, none⟩) n (grownCap w n sCap el)) (w.drew.alloc (.cells (vs.toArray ++ Builtin.zeroCells z.cells (grownCap w n sCap el - n)) el))) :
    BOk P G φ h w s (growE h l n es el) := by
  unfold growE
  refine BOk.cnd' fun ho => ?_
  rw [newCells_eq]
  have hge := grownCap_ge w n sCap el
  have hzs : (Builtin.zeroCells z.cells (grownCap w n sCap el - n)).size = (grownCap w n sCap el - n) * es := by rw [size_zeroCells, hz]
  refine ⟨_, _, _, hs, r.grown hc (Builtin.zeroCells z.cells (grownCap w n sCap el - n)) el true (0, 0) (fun i _ hh => by simp at hh) (fun hh => by cases hh), ?_⟩
  refine .sl (a := 0) (addPh_same _ _ _) (Nat.le_refl _) hge (fun hh => by cases hh) ?_
  rw [hl, hzs, ← Nat.add_mul]
  have : n + (grownCap w n sCap el - n) = grownCap w n sCap el := by omega
  rw [this]; simp
end
end Go.Proofs.Ytkhkebcflaokpaa
