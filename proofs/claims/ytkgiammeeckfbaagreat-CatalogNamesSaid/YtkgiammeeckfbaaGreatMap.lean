/- Maps: what a lookup, a store, len, a deletion do, by the map's content as a function. It is of no program. -/
import Derived.Test.YtkgiammeeckfbaaGreatIter
namespace Go.Proofs.YtkgiammeeckfbaaGreat
open Go Go.RowKit
set_option linter.all false

/-- The values K a are the keys of a map's key type kt. -/
structure Ky (P : Program) (kt : TypeId) {κ : Type} [DecidableEq κ] (K : κ → Value) : Prop where
  same : ∃ td, P.underlying kt = some td ∧ (∀ a b, Instr.sameNow td (K a) (K b) = some (decide (a = b))) ∧ ∀ w e n a, (Instr.checkKey e (n + 1) kt (K a)).run P w = .ok () w
  bits : ∀ a, Instr.sameBits 10000 (K a) (K a) = true

theorem ky_int {P : Program} {kt : TypeId} {k : IntKind} (h : P.underlying kt = some (.int k)) : Ky P kt (fun z : Int => Value.int k z) := by
  refine ⟨⟨_, h, fun a b => ?_, fun w e n a => ?_⟩, fun a => ?_⟩
  · have : (a == b) = decide (a = b) := by by_cases hab : a = b <;> simp [hab]
    simp [Instr.sameNow, this]
  · simp [Instr.checkKey, run_underlying h]
  · simp [Instr.sameBits]
theorem beqS (a b : List UInt8) : ((⟨a.toArray⟩ : ByteArray) == ⟨b.toArray⟩) = decide (a = b) := by
  have h : ((⟨a.toArray⟩ : ByteArray) == ⟨b.toArray⟩) = (a.toArray == b.toArray) := rfl
  rw [h]
  by_cases hab : a = b <;> simp [hab]
theorem ky_str {P : Program} {kt : TypeId} (h : P.underlying kt = some .string) : Ky P kt S := by
  refine ⟨⟨_, h, fun a b => ?_, fun w e n a => ?_⟩, fun a => ?_⟩
  · simp [Instr.sameNow, S, beqS]
  · simp [Instr.checkKey, S, run_underlying h]
  · simp [Instr.sameBits, S, beqS]

section
variable {κ : Type} [DecidableEq κ]

def getL : List (κ × Value) → κ → Option Value
  | [], _ => none
  | (a, v) :: r, k => if k = a then some v else getL r k
def putL : List (κ × Value) → κ → Value → List (κ × Value)
  | [], k, v => [(k, v)]
  | (a, u) :: r, k, v => if k = a then (a, v) :: r else (a, u) :: putL r k v

theorem getL_put (kv : List (κ × Value)) (k : κ) (v : Value) (x : κ) : getL (putL kv k v) x = if x = k then some v else getL kv x := by
  induction kv with
  | nil => simp [putL, getL]
  | cons p r ih =>
    obtain ⟨a, u⟩ := p
    simp only [putL]
    by_cases h : k = a
    · subst h
      simp only [if_true, getL]
      by_cases hx : x = k <;> simp [hx]
    · simp only [h, if_false, getL, ih]
      by_cases hx : x = a
      · subst hx; simp [Ne.symm h]
      · simp [hx]
theorem getL_notin {kv : List (κ × Value)} {k : κ} (h : getL kv k = none) : k ∉ kv.map (·.1) := by
  induction kv with
  | nil => simp
  | cons p r ih =>
    obtain ⟨a, u⟩ := p
    simp only [getL] at h
    split at h
    · cases h
    · rename_i hne
      simp only [List.map_cons, List.mem_cons, not_or]
      exact ⟨hne, ih h⟩
theorem putL_keys (kv : List (κ × Value)) (k : κ) (v : Value) : (getL kv k).isSome = true → (putL kv k v).map (·.1) = kv.map (·.1) := by
  induction kv with
  | nil => simp [getL]
  | cons p r ih =>
    obtain ⟨a, u⟩ := p
    simp only [putL, getL]
    by_cases h : k = a
    · simp [h]
    · simp only [h, if_false]; intro hh; simp [ih hh]
theorem putL_new (kv : List (κ × Value)) (k : κ) (v : Value) : getL kv k = none → putL kv k v = kv ++ [(k, v)] := by
  induction kv with
  | nil => simp [putL]
  | cons p r ih =>
    obtain ⟨a, u⟩ := p
    simp only [putL, getL]
    by_cases h : k = a
    · simp [h]
    · simp only [h, if_false]; intro hh; simp [ih hh]

/-- The entries of a map are these pairs. -/
def Ents (K : κ → Value) (es : List MapEntry) (kv : List (κ × Value)) : Prop := es.map (fun e => (e.key, e.val)) = kv.map (fun p => (K p.1, p.2))

/-- Block m is a map whose entries are these, in the order in which they came. -/
def MapL (K : κ → Value) (w : World) (m : Nat) (kv : List (κ × Value)) : Prop := (∃ es clock, w.heap[m]? = some (.map es clock) ∧ Ents K es.toList kv) ∧ (kv.map (·.1)).Nodup

theorem MapL.lt {K : κ → Value} {w : World} {m : Nat} {kv : List (κ × Value)} (h : MapL K w m kv) : m < w.heap.size := by
  obtain ⟨⟨es, c, h, -⟩, -⟩ := h; exact lt_of_heap h
theorem Kp.map {K : κ → Value} {S : Nat → Prop} {w w' : World} {m : Nat} {kv : List (κ × Value)} (k : Kp S w w') (h : MapL K w m kv) (hn : ¬ S m) : MapL K w' m kv := by
  obtain ⟨⟨es, c, h, he⟩, hd⟩ := h
  exact ⟨⟨es, c, k.heap h hn, he⟩, hd⟩
theorem Ext.map {K : κ → Value} {w w' : World} {m : Nat} {kv : List (κ × Value)} (k : Ext w w') (h : MapL K w m kv) : MapL K w' m kv := Kp.map k h id

theorem findNow_none {td : TypeDesc} {K : κ → Value} (hs : ∀ a b, Instr.sameNow td (K a) (K b) = some (decide (a = b))) : ∀ {es : List MapEntry} {kv : List (κ × Value)} (i : Nat) {k : κ}, Ents K es kv → getL kv k = none →
    Instr.findNow td (K k) es i = some none
  | [], [], _, _, _, _ => rfl
  | e :: es, (a, v) :: kv, i, k, h, hg => by
    simp only [Ents, List.map_cons, List.cons.injEq, Prod.mk.injEq] at h
    simp only [getL] at hg
    split at hg
    · cases hg
    · rename_i hne
      simp only [Instr.findNow, h.1.1, hs, hne, decide_false]
      exact findNow_none hs (i + 1) h.2 hg
  | [], _ :: _, _, _, h, _ => by simp [Ents] at h
  | _ :: _, [], _, _, h, _ => by simp [Ents] at h

theorem findNow_some {td : TypeDesc} {K : κ → Value} (hs : ∀ a b, Instr.sameNow td (K a) (K b) = some (decide (a = b))) : ∀ {es : List MapEntry} {kv : List (κ × Value)} (i : Nat) {k : κ} {v : Value}, Ents K es kv → getL kv k = some v →
    ∃ j, Instr.findNow td (K k) es i = some (some (i + j, v)) ∧ (∃ e, es[j]? = some e ∧ e.key = K k) ∧ ∀ u, Ents K (es.modify j fun e => { e with key := K k, val := u }) (putL kv k u)
  | e :: es, (a, v') :: kv, i, k, v, h, hg => by
    simp only [Ents, List.map_cons, List.cons.injEq, Prod.mk.injEq] at h
    simp only [getL] at hg
    split at hg
    · rename_i he
      subst he
      cases hg
      refine ⟨0, by simp [Instr.findNow, h.1.1, hs, h.1.2], ⟨e, rfl, h.1.1⟩, fun u => ?_⟩
      simp only [Ents, putL, if_true, List.modify_cons, List.map_cons, List.modify_zero_cons]
      simp [h.2]
    · rename_i hne
      obtain ⟨j, h1, ⟨e', h2, h3⟩, h4⟩ := findNow_some hs (i + 1) h.2 hg
      refine ⟨j + 1, ?_, ⟨e', by simpa using h2, h3⟩, fun u => ?_⟩
      · simp only [Instr.findNow, h.1.1, hs, hne, decide_false, h1]
        congr 3; omega
      · simp only [putL, hne, if_false, List.modify_succ_cons, Ents, List.map_cons, List.cons.injEq, Prod.mk.injEq]
        exact ⟨h.1, h4 u⟩
  | [], [], _, _, _, _, hg => by simp [getL] at hg
  | [], _ :: _, _, _, _, h, _ => by simp [Ents] at h
  | _ :: _, [], _, _, _, h, _ => by simp [Ents] at h

variable {P : Program} {e : Env} {d : Option Nat} {ty t kt el : TypeId} {pos : String} {aft : Array Edge} {g : Option (Nat × Bool)} {x y u : Operand} {w : World} {m : Nat} {kv : List (κ × Value)} {K : κ → Value} {z : Value} {size bytes : Nat} {k : κ} {v : Value}

theorem findKey_none (hK : Ky P kt K) {es : Array MapEntry} (h : Ents K es.toList kv) (hg : getL kv k = none) : (Instr.findKey kt (K k) es.toList).run P w = .ok none w := by
  obtain ⟨⟨td, hu, hs, -⟩, -⟩ := hK
  simp [Instr.findKey, run_underlying hu, findNow_none hs 0 h hg]
theorem findKey_some (hK : Ky P kt K) {es : Array MapEntry} (h : Ents K es.toList kv) (hg : getL kv k = some v) :
    ∃ j, (Instr.findKey kt (K k) es.toList).run P w = .ok (some (j, v)) w ∧ (∃ e, es[j]? = some e ∧ e.key = K k) ∧ ∀ u, Ents K (es.modify j fun e => { e with key := K k, val := u }).toList (putL kv k u) := by
  obtain ⟨⟨td, hu, hs, -⟩, -⟩ := hK
  obtain ⟨j, h1, h2, h3⟩ := findNow_some hs 0 h hg
  refine ⟨j, ?_, by simpa using h2, fun u => by simpa using h3 u⟩
  simp [Instr.findKey, run_underlying hu, h1]

/-- m[k], and whether it is there. -/
theorem ylk2 (ht : P.underlying t = some (.map kt el)) (hK : Ky P kt K) (hz : TI P el z size bytes) (hx : look e x = some (.map (some m))) (hy : look e y = some (K k)) (hm : MapL K w m kv) :
    Y P e ⟨d, .lookup t x y true, ty, pos, aft, g⟩ (.tuple #[(getL kv k).getD z, .bool (getL kv k).isSome]) w w := fun ρ hρ => by
  obtain ⟨⟨es, c, hh, he⟩, -⟩ := hm
  have hzv := hz.zero (w := w)
  have hck := fun b => hK.same.choose_spec.2.2 w b 9999 k
  have hg : (getObj m).run P w = .ok (.map es c) w := by simp [getObj, Sem.run, hh]
  cases hgk : getL kv k with
  | none =>
    have hf := findKey_none (P := P) (w := w) hK he hgk
    simp [execOp, hρ _ _ hx, hρ _ _ hy, Instr.lookup, run_underlying ht, hg, hck, hf, hzv]
  | some v =>
    obtain ⟨j, hf, -⟩ := findKey_some (P := P) (w := w) hK he hgk
    simp [execOp, hρ _ _ hx, hρ _ _ hy, Instr.lookup, run_underlying ht, hg, hck, hf]
/-- m[k]. -/
theorem ylk (ht : P.underlying t = some (.map kt el)) (hK : Ky P kt K) (hz : TI P el z size bytes) (hx : look e x = some (.map (some m))) (hy : look e y = some (K k)) (hm : MapL K w m kv) :
    Y P e ⟨d, .lookup t x y false, ty, pos, aft, g⟩ ((getL kv k).getD z) w w := fun ρ hρ => by
  obtain ⟨⟨es, c, hh, he⟩, -⟩ := hm
  have hzv := hz.zero (w := w)
  have hck := fun b => hK.same.choose_spec.2.2 w b 9999 k
  have hg : (getObj m).run P w = .ok (.map es c) w := by simp [getObj, Sem.run, hh]
  cases hgk : getL kv k with
  | none =>
    have hf := findKey_none (P := P) (w := w) hK he hgk
    simp [execOp, hρ _ _ hx, hρ _ _ hy, Instr.lookup, run_underlying ht, hg, hck, hf, hzv]
  | some v =>
    obtain ⟨j, hf, -⟩ := findKey_some (P := P) (w := w) hK he hgk
    simp [execOp, hρ _ _ hx, hρ _ _ hy, Instr.lookup, run_underlying ht, hg, hck, hf]

/-- m[k] = v. -/
theorem zmu (ht : P.underlying t = some (.map kt el)) (hK : Ky P kt K) (hx : look e x = some (.map (some m))) (hy : look e y = some (K k)) (hu : look e u = some v) (hm : MapL K w m kv) :
    Zp P e ⟨d, .mapUpdate t x y u, ty, pos, aft, g⟩ w fun w' => MapL K w' m (putL kv k v) ∧ Kp (fun i => i = m) w w' := by
  have hlt := hm.lt
  obtain ⟨⟨es, c, hh, he⟩, hd⟩ := hm
  have hck := fun b => hK.same.choose_spec.2.2 w b 9999 k
  have hg : (getObj m).run P w = .ok (.map es c) w := by simp [getObj, Sem.run, hh]
  have hset : ∀ o, (setObj m o).run P w = .ok () (w.putObj m o) := fun o => by simp [setObj, Sem.run, hh, World.putObj]
  cases hgk : getL kv k with
  | none =>
    have hf := findKey_none (P := P) (w := w) hK he hgk
    refine ⟨w.putObj m (.map (es.push { key := K k, val := v, born := c }) (c + 1)), fun ρ hρ => ?_, ⟨⟨_, _, World.putObj_heap_same hlt, ?_⟩, ?_⟩, kp_putObj w m _⟩
    · simp [execOp, hρ _ _ hx, hρ _ _ hy, hρ _ _ hu, Instr.mapUpdate, run_underlying ht, hg, hck, hf, hset]
    · rw [putL_new _ _ _ hgk]
      simpa [Ents] using he
    · rw [putL_new _ _ _ hgk, List.map_append, List.nodup_append]
      refine ⟨hd, by simp, fun a ha b hb hab => ?_⟩
      simp at hb
      subst hb; subst hab
      exact getL_notin hgk ha
  | some v0 =>
    obtain ⟨j, hf, ⟨ej, hej, hkey⟩, hents⟩ := findKey_some (P := P) (w := w) hK he hgk
    refine ⟨w.putObj m (.map (es.modify j fun e => { e with key := K k, val := v }) c), fun ρ hρ => ?_, ⟨⟨_, _, World.putObj_heap_same hlt, hents v⟩, ?_⟩, kp_putObj w m _⟩
    · simp [execOp, hρ _ _ hx, hρ _ _ hy, hρ _ _ hu, Instr.mapUpdate, run_underlying ht, hg, hck, hf, hset, hej, hkey, Instr.keyThatStays, hK.bits]
    · rw [putL_keys _ _ _ (by rw [hgk]; rfl)]
      exact hd
end
end Go.Proofs.YtkgiammeeckfbaaGreat
