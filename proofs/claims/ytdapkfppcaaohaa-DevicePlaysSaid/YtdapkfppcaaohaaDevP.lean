/- The device of blocks, as plain data, and how it lies in memory. -/
import Derived.Test.YtdapkfppcaaohaaOps
import Derived.Test.YtdapkfppcaaohaaTypes
namespace Go.Proofs.Ytdapkfppcaaohaa
open Go Go.RowKit
set_option linter.all false
set_option maxRecDepth 100000

abbrev Bytes := List UInt8

structure Dev where
  due : Int
  keep : List Int
  torn : Int
  mask : UInt8
  B : Nat
  N : Nat
  sf : Int → Option Bytes
  cache : List (Int × Bytes)
  down : Bool
  calls : Int
  reads : Int

def zeros (n : Nat) : Bytes := List.replicate n 0
def Dev.kept (D : Dev) (n : Int) : Bytes := (D.sf n).getD (zeros (512 * D.N))
def lastW (l : List (Int × Bytes)) (n : Int) : Option Bytes := (l.reverse.find? fun x => x.1 == n).map (·.2)
def Dev.now (D : Dev) (n : Int) : Bytes := (lastW D.cache n).getD (D.kept n)
def Dev.has (D : Dev) (n : Int) : Bool := decide (0 ≤ n ∧ n < (D.B : Int))

/-- A call is counted. -/
def Dev.count (D : Dev) : Dev := { D with calls := D.calls + 1, due := if D.due = 0 then 0 else D.due - 1 }

structure Dev.Ok (D : Dev) : Prop where
  hB : 16 ≤ D.B ∧ D.B ≤ 4096
  hN : 1 ≤ D.N ∧ D.N ≤ 8
  due : 0 ≤ D.due ∧ D.due ≤ 9223372036854775807
  sf : ∀ n s, D.sf n = some s → 0 ≤ n ∧ n < (D.B : Int) ∧ s.length = 512 * D.N
  cache : ∀ x ∈ D.cache, 0 ≤ x.1 ∧ x.1 < (D.B : Int) ∧ x.2.length = 512 * D.N
  len : 0 ≤ D.calls
  reads : 0 ≤ D.reads

/-- The counts are not beyond all bounds. -/
def Dev.Bd (D : Dev) : Prop := D.calls < 1000000000000 ∧ D.cache.length < 1000000000000 ∧ D.reads < 1000000000000

def wr (x : Int × Bytes) : List Value := [I x.1, S x.2]
def wrs (l : List (Int × Bytes)) : List Value := l.flatMap wr
@[simp] theorem wrs_length (l : List (Int × Bytes)) : (wrs l).length = l.length * 2 := by
  induction l with
  | nil => rfl
  | cons x r ih => simp [wrs, wr, List.flatMap_cons] at ih ⊢; omega

/-- The device's own block. -/
def devCs (kp ca : Value) (m : Nat) (D : Dev) : List Value := [I D.due, kp, I D.torn, u8v D.mask, I (D.B : Int), I (D.N : Int), .map (some m), ca, .bool D.down, I D.calls, I D.reads]

@[simp] theorem devCs_length (kp ca : Value) (m : Nat) (D : Dev) : (devCs kp ca m D).length = 11 := rfl

abbrev KI : Int → Value := fun z => .int .i64 z

structure DevM (w : World) (p m : Nat) (kp ca : Value) (D : Dev) : Prop where
  blk : Blk w p (devCs kp ca m D) 108
  map : ∃ kv, MapL KI w m kv ∧ ∀ n, getL kv n = (D.sf n).map S
  cache : Sl w ca 114 2 D.cache.length (wrs D.cache)
  keep : Sl w kp 3 1 D.keep.length (D.keep.map I)
  ok : D.Ok

def fpD (p m : Nat) (kp ca : Value) : Nat → Prop := fun k => k = p ∨ k = m ∨ ca.ownBlock = some k ∨ kp.ownBlock = some k

/-- The device D lies at p, in the blocks F. -/
def DevA (w : World) (p : Nat) (D : Dev) (F : Nat → Prop) : Prop := ∃ m kp ca, DevM w p m kp ca D ∧ ∀ k, F k ↔ fpD p m kp ca k

/-- The world has turned at the blocks F alone, which are F' now. -/
def Upd (F F' : Nat → Prop) (w w' : World) : Prop := Kp F w w' ∧ ∀ k, F' k → F k ∨ w.heap.size ≤ k
theorem Upd.refl (F : Nat → Prop) (w : World) : Upd F F w w := ⟨Kp.refl F w, fun _ h => .inl h⟩
theorem Upd.trans {F F' F'' : Nat → Prop} {a b c : World} (h : Upd F F' a b) (k : Upd F' F'' b c) : Upd F F'' a c :=
  ⟨h.1.trans_new k.1 fun i hi => (h.2 i hi).symm, fun i hi => by
    rcases k.2 i hi with h' | h'
    · exact h.2 i h'
    · exact .inr (Nat.le_trans h.1.size h')⟩
theorem Ext.upd {F : Nat → Prop} {w w' : World} (h : Ext w w') : Upd F F w w' := ⟨h.kp, fun _ h => .inl h⟩

theorem DevM.pm {w : World} {p m : Nat} {kp ca : Value} {D : Dev} (h : DevM w p m kp ca D) : ¬ p = m := fun e => by
  obtain ⟨kv, ⟨⟨es, c, hh, -⟩, -⟩, -⟩ := h.map
  obtain ⟨fz, hb, -⟩ := h.blk
  rw [e] at hb; rw [hb] at hh; cases hh
theorem sl_block {w : World} {v : Value} {e size n : Nat} {cs : List Value} {b : Nat} (h : Sl w v e size n cs) (hb : v.ownBlock = some b) : ∃ xs fz, w.heap[b]? = some (.cells xs e fz) := by
  rcases h.2 with ⟨hz, -⟩ | ⟨g, cap, cur, hv, -, hg, -⟩
  · rw [hz] at hb; cases hb
  · rw [hv] at hb; cases hb; exact ⟨_, _, hg⟩
theorem DevM.kp {S : Nat → Prop} {w w' : World} {p m : Nat} {kp ca : Value} {D : Dev} (h : DevM w p m kp ca D) (k : Kp S w w') (hn : ∀ i, fpD p m kp ca i → ¬ S i) : DevM w' p m kp ca D :=
  ⟨k.blk h.blk (hn p (.inl rfl)), let ⟨kv, h1, h2⟩ := h.map; ⟨kv, k.map h1 (hn m (.inr (.inl rfl))), h2⟩, h.cache.kp k fun g hg => hn g (.inr (.inr (.inl hg))), h.keep.kp k fun g hg => hn g (.inr (.inr (.inr hg))), h.ok⟩
theorem DevM.ext {w w' : World} {p m : Nat} {kp ca : Value} {D : Dev} (h : DevM w p m kp ca D) (k : Ext w w') : DevM w' p m kp ca D := h.kp k fun _ _ => id
theorem Dev.Ok.count {D : Dev} (h : D.Ok) : D.count.Ok := by
  have := h.due
  have := h.len
  refine ⟨h.hB, h.hN, ?_, h.sf, h.cache, ?_, h.reads⟩
  · simp only [Dev.count]; split <;> omega
  · simp only [Dev.count]; omega
/-- The device's own block has turned, and nothing else. -/
theorem DevM.turn {w w' : World} {p m : Nat} {kp ca : Value} {D D' : Dev} (h : DevM w p m kp ca D) (hb : Blk w' p (devCs kp ca m D') 108) (k : Kp (fun i => i = p) w w') (h1 : D'.sf = D.sf) (h2 : D'.cache = D.cache) (h3 : D'.keep = D.keep) (h4 : D'.N = D.N) (hok : D'.Ok) : DevM w' p m kp ca D' := by
  obtain ⟨fz, hp, -⟩ := h.blk
  refine ⟨hb, let ⟨kv, hm, hs⟩ := h.map; ⟨kv, k.map hm fun e => h.pm e.symm, by rw [h1]; exact hs⟩, ?_, ?_, hok⟩
  · rw [h2]
    refine h.cache.kp k fun g hg hgp => ?_
    obtain ⟨xs, fz', hx⟩ := sl_block h.cache hg
    rw [hgp, hp] at hx; cases hx
  · rw [h3]
    refine h.keep.kp k fun g hg hgp => ?_
    obtain ⟨xs, fz', hx⟩ := sl_block h.keep hg
    rw [hgp, hp] at hx; cases hx
def upd (f : Int → Option Bytes) (n : Int) (s : Bytes) : Int → Option Bytes := fun x => if x = n then some s else f x
def splB (c : Bytes) (i : Nat) (x : Bytes) : Bytes := c.take i ++ x ++ c.drop (i + x.length)
/-- A torn write: the first s sectors. -/
def mixN (mask : UInt8) (a b : Bytes) : Nat → Bytes
  | 0 => a
  | s + 1 => if mask.toNat / 2 ^ s % 2 = 1 then splB (mixN mask a b s) (512 * s) ((b.drop (512 * s)).take 512) else mixN mask a b s
theorem splB_length (c x : Bytes) (i : Nat) (h : i + x.length ≤ c.length) : (splB c i x).length = c.length := by
  simp [splB]; omega
theorem mixN_length (mask : UInt8) (a b : Bytes) (N : Nat) (ha : a.length = 512 * N) (hb : b.length = 512 * N) : ∀ s, s ≤ N → (mixN mask a b s).length = 512 * N
  | 0, _ => ha
  | s + 1, h => by
    have ih := mixN_length mask a b N ha hb s (by omega)
    simp only [mixN]
    split
    · rw [splB_length _ _ _ (by simp [ih]; omega), ih]
    · exact ih
/-- What is safe when the first i writes of the cache have met the crash. -/
def Dev.fallTo (D : Dev) (l : List Int) (tn : Int) (mk : UInt8) : Nat → (Int → Option Bytes)
  | 0 => D.sf
  | i + 1 => match D.cache[i]? with
    | none => D.fallTo l tn mk i
    | some x => if (i : Int) = tn then upd (D.fallTo l tn mk i) x.1 (mixN mk (((D.fallTo l tn mk i) x.1).getD (zeros (512 * D.N))) x.2 D.N)
      else if (i : Int) ∈ l then upd (D.fallTo l tn mk i) x.1 x.2 else D.fallTo l tn mk i
def Dev.fall (D : Dev) (l : List Int) (tn : Int) (mk : UInt8) : Dev :=
  { D with sf := D.fallTo l tn mk D.cache.length, cache := [], due := 0, keep := [], torn := 0, mask := 0, down := true }

theorem Dev.Ok.put {D : Dev} (h : D.Ok) {n : Int} {s : Bytes} (hn : 0 ≤ n ∧ n < (D.B : Int)) (hs : s.length = 512 * D.N) : Dev.Ok { D with sf := upd D.sf n s } :=
  ⟨h.hB, h.hN, h.due, fun x t hx => by
    simp only [upd] at hx
    split at hx
    · rename_i e
      cases hx; exact ⟨by omega, by rw [e]; exact hn.2, hs⟩
    · exact h.sf x t hx, h.cache, h.len, h.reads⟩
theorem Dev.Ok.kept {D : Dev} (h : D.Ok) (n : Int) : (D.kept n).length = 512 * D.N := by
  unfold Dev.kept
  cases hs : D.sf n with
  | none => simp [zeros]
  | some s => exact (h.sf n s hs).2.2

/-- The map has been written. -/
theorem DevM.put {w w' : World} {p m : Nat} {kp ca : Value} {D : Dev} {kv : List (Int × Value)} {n : Int} {s : Bytes} (h : DevM w p m kp ca D) (hs : ∀ n, getL kv n = (D.sf n).map S) (hm : MapL KI w' m (putL kv n (S s))) (k : Kp (fun i => i = m) w w')
    (hok : Dev.Ok { D with sf := upd D.sf n s }) : DevM w' p m kp ca { D with sf := upd D.sf n s } := by
  obtain ⟨kv0, ⟨⟨es, c, hh, -⟩, -⟩, -⟩ := h.map
  refine ⟨k.blk h.blk h.pm, ⟨_, hm, fun x => ?_⟩, ?_, ?_, hok⟩
  · rw [getL_put, hs x]
    simp only [upd]
    split <;> rfl
  · refine h.cache.kp k fun g hg hgp => ?_
    obtain ⟨xs, fz', hx⟩ := sl_block h.cache hg
    rw [hgp, hh] at hx; cases hx
  · refine h.keep.kp k fun g hg hgp => ?_
    obtain ⟨xs, fz', hx⟩ := sl_block h.keep hg
    rw [hgp, hh] at hx; cases hx
/-- What reads as a slice reads on when a map is written. -/
theorem Rd.kpm {w w' : World} {v : Value} {size n m : Nat} {cs : List Value} {kv : List (Int × Value)} (h : Rd w v size n cs) (hm : MapL KI w m kv) (k : Kp (fun i => i = m) w w') : Rd w' v size n cs := by
  obtain ⟨h1, h2⟩ := h
  refine ⟨h1, h2.imp id fun ⟨b, off, cap, hv, hc⟩ => ⟨b, off, cap, hv, fun j u hj => ?_⟩⟩
  have hcj := hc j u hj
  obtain ⟨⟨es, c, hh, -⟩, -⟩ := hm
  have hne : ¬ b = m := fun e => by
    rw [e] at hcj
    simp [World.cell?, hh] at hcj
  have hlt : b < w.heap.size := by
    rcases Nat.lt_or_ge b w.heap.size with h' | h'
    · exact h'
    · simp [World.cell?, Array.getElem?_eq_none h'] at hcj
  rw [← hcj]
  simp only [World.cell?, k.block b hlt hne]
theorem DevM.sepc {w : World} {p m : Nat} {kp ca : Value} {D : Dev} (h : DevM w p m kp ca D) {g : Nat} (hg : ca.ownBlock = some g) : ¬ g = p ∧ ¬ g = m ∧ ¬ kp.ownBlock = some g := by
  obtain ⟨xs, fz', hx⟩ := sl_block h.cache hg
  refine ⟨fun e => ?_, fun e => ?_, fun e => ?_⟩
  · obtain ⟨fz, hb, -⟩ := h.blk
    rw [e, hb] at hx; cases hx
  · obtain ⟨kv, ⟨⟨es, c, hh, -⟩, -⟩, -⟩ := h.map
    rw [e, hh] at hx; cases hx
  · obtain ⟨ys, fy, hy⟩ := sl_block h.keep e
    rw [hx] at hy; cases hy
theorem DevM.sepk {w : World} {p m : Nat} {kp ca : Value} {D : Dev} (h : DevM w p m kp ca D) {g : Nat} (hg : kp.ownBlock = some g) : ¬ g = p ∧ ¬ g = m ∧ ¬ ca.ownBlock = some g := by
  obtain ⟨xs, fz', hx⟩ := sl_block h.keep hg
  refine ⟨fun e => ?_, fun e => ?_, fun e => ?_⟩
  · obtain ⟨fz, hb, -⟩ := h.blk
    rw [e, hb] at hx; cases hx
  · obtain ⟨kv, ⟨⟨es, c, hh, -⟩, -⟩, -⟩ := h.map
    rw [e, hh] at hx; cases hx
  · obtain ⟨ys, fy, hy⟩ := sl_block h.cache e
    rw [hx] at hy; cases hy
theorem DevM.lt {w : World} {p m : Nat} {kp ca : Value} {D : Dev} (h : DevM w p m kp ca D) : ∀ k, fpD p m kp ca k → k < w.heap.size := by
  intro k hk
  rcases hk with rfl | rfl | hc | hc
  · exact h.blk.lt
  · obtain ⟨kv, hm, -⟩ := h.map; exact hm.lt
  · exact h.cache.lt hc
  · exact h.keep.lt hc
theorem DevA.kp {S F : Nat → Prop} {w w' : World} {p : Nat} {D : Dev} (h : DevA w p D F) (k : Kp S w w') (hn : ∀ i, F i → ¬ S i) : DevA w' p D F := by
  obtain ⟨m, kp, ca, h1, h2⟩ := h
  exact ⟨m, kp, ca, h1.kp k fun i hi => hn i ((h2 i).2 hi), h2⟩
theorem DevA.ext {F : Nat → Prop} {w w' : World} {p : Nat} {D : Dev} (h : DevA w p D F) (k : Ext w w') : DevA w' p D F := h.kp k fun _ _ => id
theorem DevA.lt {F : Nat → Prop} {w : World} {p : Nat} {D : Dev} (h : DevA w p D F) : ∀ k, F k → k < w.heap.size := by
  obtain ⟨m, kp, ca, h1, h2⟩ := h
  intro k hk
  rcases (h2 k).1 hk with rfl | rfl | hc | hc
  · exact h1.blk.lt
  · obtain ⟨kv, hm, -⟩ := h1.map; exact hm.lt
  · exact h1.cache.lt hc
  · exact h1.keep.lt hc
end Go.Proofs.Ytdapkfppcaaohaa
