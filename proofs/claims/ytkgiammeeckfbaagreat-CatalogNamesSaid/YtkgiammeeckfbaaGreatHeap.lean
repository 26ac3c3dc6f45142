/- Operations on memory: loads, stores, new variables, slices, append, closures and calls. It is of no program. -/
import Derived.Test.YtkgiammeeckfbaaGreatMem
namespace Go.Proofs.YtkgiammeeckfbaaGreat
open Go Go.RowKit

/-- An operation yields some value and some world, of which this holds. -/
def Yp (P : Program) (e : Env) (o : Oper) (w : World) (Post : Value → World → Prop) : Prop := ∃ v w', Y P e o v w w' ∧ Post v w'
def Zp (P : Program) (e : Env) (o : Oper) (w : World) (Post : World → Prop) : Prop := ∃ w', Z P e o w w' ∧ Post w'

section
variable {D : RC} {l : List Oper} {e : Env} {w : World} {d : Nat} {op : Op} {ty : TypeId} {pos : String} {aft : Array Edge} {g : Option (Nat × Bool)}
theorem rValP {Post : Value → World → Prop} (ho : okw D e g true = true) (hd : Nat.blt d D.C.n = true) (hy : Yp D.C.P e ⟨some d, op, ty, pos, aft, g⟩ w Post) (h : ∀ v w', Post v w' → RL D l ((d, v) :: e) w') :
    RL D (⟨some d, op, ty, pos, aft, g⟩ :: l) e w := by
  obtain ⟨v, w', hy, hp⟩ := hy
  exact rVal ho hd hy (h v w' hp)
theorem rValP0 {Post : Value → World → Prop} (ho : okw D e g true = true) (hy : Yp D.C.P e ⟨none, op, ty, pos, aft, g⟩ w Post) (h : ∀ v w', Post v w' → RL D l e w') :
    RL D (⟨none, op, ty, pos, aft, g⟩ :: l) e w := by
  obtain ⟨v, w', hy, hp⟩ := hy
  exact rVal0 ho hy (h v w' hp)
theorem rEffP {Post : World → Prop} (ho : okw D e g true = true) (hy : Zp D.C.P e ⟨none, op, ty, pos, aft, g⟩ w Post) (h : ∀ w', Post w' → RL D l e w') :
    RL D (⟨none, op, ty, pos, aft, g⟩ :: l) e w := by
  obtain ⟨w', hy, hp⟩ := hy
  exact rEff ho hy (h w' hp)
end
section
variable {D : RC} {S : World → Prop} {e : Env} {w : World} {d i fuel : Nat} {op : Op} {ty : TypeId} {pos : String} {aft : Array Edge} {g : Option (Nat × Bool)} {listed : Array Bool}
theorem nValP {Post : Value → World → Prop} (hi : D.ops[i]? = some ⟨some d, op, ty, pos, aft, g⟩) (ho : okw D e g true = true) (hd : Nat.blt d D.C.n = true)
    (hy : Yp D.C.P e ⟨some d, op, ty, pos, aft, g⟩ w Post) (h : ∀ v w', Post v w' → S w' ∧ RH D S fuel (listed.setIfInBounds i true) ((d, v) :: e) w') : Nx D S fuel listed e w i := by
  obtain ⟨v, w', hy, hp⟩ := hy
  exact nVal hi ho hd hy (h v w' hp).1 (h v w' hp).2
theorem nEffP {Post : World → Prop} (hi : D.ops[i]? = some ⟨none, op, ty, pos, aft, g⟩) (ho : okw D e g true = true)
    (hy : Zp D.C.P e ⟨none, op, ty, pos, aft, g⟩ w Post) (h : ∀ w', Post w' → S w' ∧ RH D S fuel (listed.setIfInBounds i true) e w') : Nx D S fuel listed e w i := by
  obtain ⟨w', hy, hp⟩ := hy
  exact nEff hi ho hy (h w' hp).1 (h w' hp).2
theorem nValP0 {Post : Value → World → Prop} (hi : D.ops[i]? = some ⟨none, op, ty, pos, aft, g⟩) (ho : okw D e g true = true)
    (hy : Yp D.C.P e ⟨none, op, ty, pos, aft, g⟩ w Post) (h : ∀ v w', Post v w' → S w' ∧ RH D S fuel (listed.setIfInBounds i true) e w') : Nx D S fuel listed e w i := by
  obtain ⟨v, w', hy, hp⟩ := hy
  exact nVal0 hi ho hy (h v w' hp).1 (h v w' hp).2
end

theorem add_off (b i j : Nat) : (⟨b, i, none⟩ : Addr).add j = ⟨b, i + j, none⟩ := by
  unfold Addr.add
  split
  · simp_all
  · rfl

/-! ### Slices -/

/-- A slice that can be read: its elements' cells. -/
def Rd (w : World) (v : Value) (size n : Nat) (cs : List Value) : Prop :=
  cs.length = n * size ∧ ((∃ c : Option Addr × Nat, v = .slice c.1 0 c.2 ∧ n = 0) ∨ ∃ b off cap, v = .slice (some ⟨b, off, none⟩) n cap ∧ ∀ j u, cs[j]? = some u → w.cell? ⟨b, off + j, none⟩ = some u)
/-- A slice of the call's own, at the head of its block. -/
def Sl (w : World) (v : Value) (e : TypeId) (size n : Nat) (cs : List Value) : Prop := w.ownsRow 0 e size v n cs

section
variable {w w' : World} {v : Value} {e size n : Nat} {cs : List Value} {S : Nat → Prop}
theorem Sl.len (h : Sl w v e size n cs) : cs.length = n * size := h.1
theorem Sl.lt (h : Sl w v e size n cs) {g : Nat} (hg : v.ownBlock = some g) : g < w.heap.size := (World.ownsRow.lt h g hg).2
theorem Sl.nil (w : World) (e size : Nat) : Sl w (.slice none 0 0) e size 0 [] := World.ownsRow_nil w 0 e size
theorem Sl.kp (h : Sl w v e size n cs) (k : Kp S w w') (hn : ∀ g, v.ownBlock = some g → ¬ S g) : Sl w' v e size n cs := by
  refine ⟨h.1, ?_⟩
  rcases h.2 with hz | ⟨g, cap, cur, rfl, hb, hg, r⟩
  · exact .inl hz
  · exact .inr ⟨g, cap, cur, rfl, hb, k.heap hg (hn g rfl), r⟩
theorem Sl.ext (h : Sl w v e size n cs) (k : Ext w w') : Sl w' v e size n cs := h.kp k fun _ _ => id
theorem Sl.rd (h : Sl w v e size n cs) : Rd w v size n cs := by
  refine ⟨h.1, ?_⟩
  rcases h.2 with ⟨hz, hn⟩ | ⟨g, cap, cur, hv, hb, hg, hn, hm, hs, ht⟩
  · exact .inl ⟨(none, 0), hz, hn⟩
  · refine .inr ⟨g, 0, cap, hv, fun j u hu => ?_⟩
    have hc := World.ownsRow.cells h (g := g) (by rw [hv]; rfl) j u hu
    rw [add_off] at hc
    exact hc
theorem Sl.shape (h : Sl w v e size n cs) : (v = .slice none 0 0 ∧ n = 0) ∨ ∃ g cap, v = .slice (some ⟨g, 0, none⟩) n cap ∧ n ≤ cap := by
  rcases h.2 with hz | ⟨g, cap, cur, hv, hb, hg, hn, r⟩
  · exact .inl hz
  · exact .inr ⟨g, cap, hv, hn⟩
theorem Rd.len (h : Rd w v size n cs) : cs.length = n * size := h.1
theorem Rd.kp (h : Rd w v size n cs) (k : Kp S w w') (hn : ∀ g, v.ownBlock = some g → ¬ S g) : Rd w' v size n cs := by
  refine ⟨h.1, ?_⟩
  rcases h.2 with hz | ⟨b, off, cap, rfl, hc⟩
  · exact .inl hz
  · refine .inr ⟨b, off, cap, rfl, fun j u hu => ?_⟩
    have h1 := hc j u hu
    have hlt : b < w.heap.size := World.block_lt_of_cell? w _ h1
    rw [World.cell?_of_block (w := w) (a := ⟨b, off + j, none⟩) (k.block b hlt (hn b rfl))]
    exact h1
theorem Rd.ext (h : Rd w v size n cs) (k : Ext w w') : Rd w' v size n cs := h.kp k fun _ _ => id
theorem Rd.shape (h : Rd w v size n cs) : ∃ a cap, v = .slice a n cap ∧ (a = none → n = 0) := by
  rcases h.2 with ⟨c, hv, hn⟩ | ⟨b, off, cap, hv, -⟩
  · subst hn; exact ⟨c.1, c.2, hv, fun _ => rfl⟩
  · exact ⟨_, cap, hv, fun h => by cases h⟩
end

theorem Kp.of_grown {w w' : World} {row : Option Nat} (h : w.grownBy w' row) : Kp (fun k => row = some k) w w' :=
  ⟨h.os, h.tape, h.output, h.size, fun k hk hn => h.block k hk fun hh => hn hh.symm⟩

/-- append of what can be read to a slice of the call's own. -/
theorem run_app {P : Program} (w : World) (t ty e : TypeId) (i : TypeInfo) (z : Value) (size bytes : Nat) (ht : P.underlying t = some (.slice e)) (hi : P.info? e = some i) (hz : i.zero = some z)
    (hsize : i.size = size) (hby : i.bytes = bytes) (hzs : z.cells.size = size) (hsz : 0 < size)
    (v : Value) (n : Nat) (xs : List Value) (hown : Sl w v e size n xs) (x : Value) (m : Nat) (news : List Value) (hrd : Rd w x size m news) (h1 : ∀ u ∈ news, u.oneCell' = true)
    (hbytes : (n + m) * bytes ≤ 140737488355328) (h63 : n + m ≤ maxLen) :
    ∃ v' w', (Builtin.append_ #[t, t] ty #[v, x]).run P w = .ok v' w' ∧ Sl w' v' e size (n + m) (xs ++ news) ∧ Kp (fun k => v.ownBlock = some k) w w' ∧
      (∀ g, v'.ownBlock = some g → v.ownBlock = some g ∨ w.heap.size ≤ g) ∧ (v' = .slice none 0 0 ↔ v = .slice none 0 0 ∧ m = 0) := by
  subst hsize
  subst hby
  have hsmall : n + m ≤ 9223372036854775807 := by simp only [maxLen] at h63; omega
  rcases hrd.2 with ⟨⟨ca, c⟩, rfl, rfl⟩ | ⟨b, off, cap, rfl, hcells⟩
  · have hnil : news = [] := List.eq_nil_of_length_eq_zero (by simpa using hrd.1)
    subst hnil
    have hr : (Builtin.append_ #[t, t] ty #[v, .slice ca 0 c]).run P w = .ok v w := by
      cases ca <;>
      rcases hown.2 with ⟨rfl, rfl⟩ | ⟨g, cap, cur, rfl, hbg, hg, hnc, hcm, hcs, htake⟩
      · simp [Builtin.append_, run_underlying ht, sizeOf, typeInfo, hi, Builtin.lenOf, Builtin.firstCells]
      · simp [Builtin.append_, run_underlying ht, sizeOf, typeInfo, hi, Builtin.lenOf, Builtin.firstCells, hnc, storeCells]
      · simp [Builtin.append_, run_underlying ht, sizeOf, typeInfo, hi, Builtin.lenOf, Builtin.firstCells, loadCells, loadCellsFrom]
      · simp [Builtin.append_, run_underlying ht, sizeOf, typeInfo, hi, Builtin.lenOf, Builtin.firstCells, hnc, storeCells, loadCells, loadCellsFrom]
    exact ⟨v, w, hr, by simpa using hown, Kp.refl _ _, fun g hg => .inl hg, by simp⟩
  · have hnews : ∀ j u, news[j]? = some u → w.cell? ((⟨b, off, none⟩ : Addr).add j) = some u := fun j u hu => by rw [add_off]; exact hcells j u hu
    rcases hown.2 with ⟨rfl, rfl⟩ | ⟨g, cap', cur, rfl, hbg, hg, hnc, hcm, hcs, htake⟩
    · have hx : xs = [] := List.eq_nil_of_length_eq_zero (by simpa using hown.1)
      subst hx
      by_cases hm : m = 0
      · subst hm
        have hn : news = [] := List.eq_nil_of_length_eq_zero (by simpa using hrd.1)
        subst hn
        refine ⟨.slice none 0 0, w, ?_, Sl.nil w e i.size, Kp.refl _ _, by simp [Value.ownBlock], by simp⟩
        simp [Builtin.append_, run_underlying ht, sizeOf, typeInfo, hi, Builtin.lenOf, Builtin.firstCells, loadCells, loadCellsFrom]
      · have hr := run_append_nil (P := P) w t ty e i z ht hi hz ⟨b, off, none⟩ m cap news hrd.1 hnews (by omega) (by omega) (by have hb := hbytes; simp only [Nat.zero_add] at hb; omega)
        obtain ⟨v', w', hr', ho', hg', hnil'⟩ := run_append_own (P := P) w w.heap.size t ty e i z i.size i.bytes ht hi hz rfl rfl hzs hsz (.slice none 0 0) 0 [] (World.ownsRow_nil w w.heap.size e i.size) ⟨b, off, none⟩ m cap news hrd.1 hnews h1 h63 hbytes (Nat.le_refl _)
        refine ⟨v', w', hr', ⟨ho'.1, ?_⟩, Kp.of_grown hg', fun g hg => .inr (World.ownsRow.lt ho' g hg).1, hnil'⟩
        rcases ho'.2 with hz' | ⟨g, cap2, cur2, hv2, hb2, hr2⟩
        · exact .inl hz'
        · exact .inr ⟨g, cap2, cur2, hv2, Nat.zero_le _, hr2⟩
    · by_cases hroom : n + m ≤ cap'
      · obtain ⟨w', hr', ho', hg'⟩ := run_append_fits (P := P) w 0 t ty e i i.size ht hi rfl g n cap' xs hown ⟨b, off, none⟩ m cap news hrd.1 hnews h1 hroom
        exact ⟨_, w', hr', ho', Kp.of_grown hg', fun g' hg' => .inl (by simpa [Value.ownBlock] using hg'), by simp⟩
      · have holds : ∀ j u, xs[j]? = some u → w.cell? ((⟨g, 0, none⟩ : Addr).add j) = some u := World.ownsRow.cells hown (g := g) rfl
        have hr := run_append_grow (P := P) w t ty e i z ht hi hz ⟨g, 0, none⟩ n cap' xs hown.1 holds ⟨b, off, none⟩ m cap news hrd.1 hnews (by omega) (by omega) (growslice_fits (by omega) hbytes)
        have hge := grownCap_ge w (n + m) cap' e
        have hlen : (xs ++ news).length = (n + m) * i.size := by rw [List.length_append, hown.1, hrd.1, Nat.add_mul]
        refine ⟨_, _, hr, ⟨hlen, .inr ⟨w.heap.size, _, _, rfl, Nat.zero_le _, heap_alloc_new w.drew _, hge, grownCap_le_maxLen w (n + m) cap' e h63, ?_, ?_⟩⟩, ?_, fun g' hg' => .inr (by simp [Value.ownBlock] at hg'; omega), by simp⟩
        · simp only [Array.size_append, List.size_toArray, size_zeroCells, hzs, hown.1, hrd.1, ← Nat.add_mul]
          congr 1
          omega
        · simp only [Array.toList_append, List.append_assoc]
          rw [← List.append_assoc, ← hlen]
          exact List.take_left
        · exact ⟨rfl, rfl, rfl, by simp, fun k hk _ => Below.heap_alloc w.drew _ k hk⟩

section
variable {P : Program} {e : Env} {d : Option Nat} {ty t t' el : TypeId} {pos : String} {aft : Array Edge} {g : Option (Nat × Bool)} {x y : Operand} {w w' : World} {k k' : IntKind} {m n : Nat} {u v z : Value} {l : List UInt8} {cs news : List Value} {b i size bytes off : Nat} {T : TypeId} {td : TypeDesc} {agg : Bool}

/-! ### Loads and stores -/

theorem yld (hu : P.underlying t = some td) (ha : aggOf td = false) (hx : look e x = some (ptr b i)) (hB : Blk w b cs T) (hi : cs[i]? = some v) : Y P e ⟨d, .load t x, ty, pos, aft, g⟩ v w w := fun ρ hρ => by
  have hc : w.cell? ⟨b, i, none⟩ = some v := by rw [hB.cell]; exact hi
  simp only [execOp, hρ _ _ hx, Instr.loadAt, Instr.sureAddr, loadVar, pure_bind, Sem.run_bind, run_isAgg hu, ha, Result.andThen_ok, Bool.false_eq_true, if_false, run_load, hc, Sem.run_pure]
/-- .. by the cell alone. -/
theorem yldc (hu : P.underlying t = some td) (ha : aggOf td = false) {a : Addr} (hx : look e x = some (.pointer (some a))) (hc : w.cell? a = some v) : Y P e ⟨d, .load t x, ty, pos, aft, g⟩ v w w := fun ρ hρ => by
  simp only [execOp, hρ _ _ hx, Instr.loadAt, Instr.sureAddr, loadVar, pure_bind, Sem.run_bind, run_isAgg hu, ha, Result.andThen_ok, Bool.false_eq_true, if_false, run_load, hc, Sem.run_pure]
/-- A struct or an array, loaded whole. -/
theorem yldA (hu : P.underlying t = some td) (ha : aggOf td = true) (hs : TI P t z n bytes) (hx : look e x = some (ptr b i)) (hc : ∀ j u, news[j]? = some u → w.cell? ⟨b, i + j, none⟩ = some u) (hn : news.length = n) :
    Y P e ⟨d, .load t x, ty, pos, aft, g⟩ (.agg news.toArray) w w := fun ρ hρ => by
  have hl := run_loadCells_list (P := P) w ⟨b, i, none⟩ news (fun j v hj => by rw [add_off]; exact hc j v hj)
  rw [hn] at hl
  simp only [execOp, hρ _ _ hx, Instr.loadAt, Instr.sureAddr, loadVar, pure_bind, Sem.run_bind, run_isAgg hu, ha, Result.andThen_ok, if_true, hs.size, hl, Sem.run_pure]
theorem Blk.cells (hB : Blk w b cs T) (hn : (cs.drop i).take n = news) : ∀ j u, news[j]? = some u → w.cell? ⟨b, i + j, none⟩ = some u := fun j u hj => by
  subst hn
  rw [hB.cell]
  rw [List.getElem?_take] at hj
  split at hj
  · simpa using hj
  · cases hj

def oneV : Value → Bool
  | .agg _ | .tuple _ => false
  | _ => true
theorem oneV_cells (h : oneV v = true) : v.cells = #[v] := by cases v <;> simp_all [oneV, Value.cells]
theorem oneV_one (h : oneV v = true) : v.oneCell' = true := by cases v <;> simp_all [oneV, Value.oneCell']

theorem zst (hs : TI P t z 1 bytes) (hx : look e x = some (ptr b i)) (hy : look e y = some v) (hv : oneV v = true) (hB : Blk w b cs T) (hi : i < cs.length) :
    Zp P e ⟨d, .store t x y, ty, pos, aft, g⟩ w fun w' => Blk w' b (cs.set i v) T ∧ Kp (fun k => k = b) w w' := by
  refine ⟨w.setCell ⟨b, i, none⟩ v, fun ρ hρ => ?_, blk_setCell hB i v, kp_setCell w b i v⟩
  have hc : w.cell? ⟨b, i, none⟩ = some cs[i] := by rw [hB.cell]; simp [hi]
  have hf := hB.free hi
  have h0 : (⟨b, i, none⟩ : Addr).add 0 = ⟨b, i, none⟩ := by rw [add_off]; simp
  simp only [execOp, hρ _ _ hx, hρ _ _ hy, Instr.storeAt, Instr.sureAddr, storeVar, pure_bind, Sem.run_bind, hs.size, Result.andThen_ok, oneV_cells hv]
  simp [storeCells, h0, run_store P w _ v _ (oneV_one hv), hc, hf]
/-- A store by the cell alone: the world behind it is told. -/
theorem zstc (hs : TI P t z 1 bytes) {a : Addr} (hx : look e x = some (.pointer (some a))) (hy : look e y = some v) (hv : oneV v = true) (hc : w.cell? a = some u) (hf : w.frozen? a = false) :
    Z P e ⟨d, .store t x y, ty, pos, aft, g⟩ w (w.setCell a v) := fun ρ hρ => by
  have h0 : a.add 0 = a := by simp [Addr.add]
  simp only [execOp, hρ _ _ hx, hρ _ _ hy, Instr.storeAt, Instr.sureAddr, storeVar, pure_bind, Sem.run_bind, hs.size, Result.andThen_ok, oneV_cells hv]
  simp [storeCells, h0, run_store P w _ v _ (oneV_one hv), hc, hf]

def splice (cs : List Value) (i : Nat) (vs : List Value) : List Value := cs.take i ++ vs ++ cs.drop (i + vs.length)

theorem run_storeCells_blk {P : Program} {b : Nat} {T : TypeId} (o : Nat) : ∀ (vs : List Value) (i : Nat) (cs : List Value) (w : World), Blk w b cs T → o + i + vs.length ≤ cs.length → (∀ v ∈ vs, v.oneCell' = true) →
    ∃ w', (storeCells ⟨b, o, none⟩ vs i).run P w = .ok () w' ∧ Blk w' b (splice cs (o + i) vs) T ∧ Kp (fun k => k = b) w w'
  | [], i, cs, w, hB, _, _ => ⟨w, rfl, by simpa [splice] using hB, Kp.refl _ _⟩
  | v :: r, i, cs, w, hB, hl, h1 => by
    simp only [List.length_cons] at hl
    have hlt : o + i < cs.length := by omega
    have hc : w.cell? ⟨b, o + i, none⟩ = some cs[o + i] := by rw [hB.cell]; simp [hlt]
    have hf := hB.free hlt
    obtain ⟨w', hr, hB', hk⟩ := run_storeCells_blk (P := P) o r (i + 1) (cs.set (o + i) v) _ (blk_setCell hB (o + i) v) (by simp; omega) (fun u hu => h1 u (List.mem_cons_of_mem _ hu))
    refine ⟨w', ?_, ?_, (kp_setCell w b (o + i) v).trans hk⟩
    · simp only [storeCells, Sem.run_bind, add_off, run_store P w _ v _ (h1 v (List.mem_cons_self ..)), hc, hf]
      simpa using hr
    · have he : splice (cs.set (o + i) v) (o + (i + 1)) r = splice cs (o + i) (v :: r) := by
        simp only [splice, List.length_cons]
        have e1 : (cs.set (o + i) v).take (o + (i + 1)) = cs.take (o + i) ++ [v] := by
          rw [show o + (i + 1) = (o + i) + 1 from by omega, List.take_succ_eq_append_getElem (by simpa using hlt)]
          simp only [List.take_set, List.getElem_set_self]
          rw [List.set_eq_of_length_le (by simp; omega)]
        have e2 : (cs.set (o + i) v).drop (o + (i + 1) + r.length) = cs.drop (o + i + (r.length + 1)) := by
          rw [List.drop_set_of_lt (by omega)]
          congr 1
          omega
        rw [e1, e2]
        simp
      rw [← he]
      exact hB'

theorem zstA (hs : TI P t z n bytes) (hx : look e x = some (ptr b i)) (hy : look e y = some (.agg news.toArray)) (hv : news.all oneV = true) (hn : news.length = n) (hB : Blk w b cs T) (hi : i + n ≤ cs.length) :
    Zp P e ⟨d, .store t x y, ty, pos, aft, g⟩ w fun w' => Blk w' b (splice cs i news) T ∧ Kp (fun k => k = b) w w' := by
  obtain ⟨w', hr, hB', hk⟩ := run_storeCells_blk (P := P) i news 0 cs w hB (by omega) (fun u hu => oneV_one (by have := List.all_eq_true.1 hv u hu; exact this))
  refine ⟨w', fun ρ hρ => ?_, by simpa using hB', hk⟩
  simp only [execOp, hρ _ _ hx, hρ _ _ hy, Instr.storeAt, Instr.sureAddr, storeVar, pure_bind, Sem.run_bind, hs.size, Result.andThen_ok, Value.cells]
  simp [hn, hr]

/-! ### New variables -/

def NewB (w : World) (b : Nat) (cs : List Value) (T : TypeId) (w' : World) : Prop := b = w.heap.size ∧ Ext w w' ∧ Blk w' b cs T
theorem NewB.mk' (w : World) (cs : List Value) (T : TypeId) : NewB w w.heap.size cs T (w.alloc (.cells cs.toArray T)) := ⟨rfl, ext_alloc w _, blk_new w cs T⟩

theorem pbx (hx : look e x = some v) (hv : v.cells = cs.toArray) : Yp P e ⟨d, .box t x, ty, pos, aft, g⟩ w fun v' w' => ∃ b, v' = ptr b 0 ∧ NewB w b cs t w' := by
  refine ⟨_, _, fun ρ hρ => ?_, w.heap.size, rfl, NewB.mk' w cs t⟩
  simp [execOp, hρ _ _ hx, Instr.box, newVar, newRow, newObj, Sem.run, hv]
theorem pal (hs : TI P t z n bytes) (hz : z.cells = cs.toArray) : Yp P e ⟨d, .alloc t, ty, pos, aft, g⟩ w fun v' w' => ∃ b, v' = ptr b 0 ∧ NewB w b cs t w' := by
  refine ⟨_, _, fun ρ hρ => ?_, w.heap.size, rfl, NewB.mk' w cs t⟩
  simp [execOp, Instr.alloc, hs.zero, newVar, newRow, newObj, Sem.run, hz]
theorem pmm : Yp P e ⟨d, .makeMap t none, ty, pos, aft, g⟩ w fun v' w' => ∃ b, v' = .map (some b) ∧ b = w.heap.size ∧ Ext w w' ∧ w'.heap[b]? = some (.map #[] 0) := by
  refine ⟨_, _, fun ρ hρ => ?_, w.heap.size, rfl, rfl, ext_alloc w _, heap_new w _⟩
  simp [execOp, Instr.makeMap, newObj, Sem.run]

/-- Parts laid into a row of cells. -/
def bl (pl : Nat → Option (Nat × Nat)) : List Value → List (Nat × Value) → Option (List Value)
  | cs, [] => some cs
  | cs, (i, v) :: r => match pl i with
    | none => none
    | some (off, size) => match Nat.beq v.cells.toList.length size && Nat.ble (off + size) cs.length with
      | true => bl pl (splice cs off v.cells.toList) r
      | false => none

theorem fill_fold (off : Nat) : ∀ (vs : List Value) (j : Nat) (cs : List Value), off + j + vs.length ≤ cs.length →
    ((vs.zipIdx j).foldl (fun (cs : Array Value) (p : Value × Nat) => cs.setIfInBounds (off + p.2) p.1) cs.toArray) = (splice cs (off + j) vs).toArray
  | [], j, cs, _ => by simp [splice]
  | v :: r, j, cs, h => by
    simp only [List.length_cons] at h
    simp only [List.zipIdx_cons, List.foldl_cons, List.setIfInBounds_toArray]
    rw [fill_fold off r (j + 1) (cs.set (off + j) v) (by simp; omega)]
    congr 1
    have hlt : off + j < cs.length := by omega
    simp only [splice, List.length_cons]
    have e1 : (cs.set (off + j) v).take (off + (j + 1)) = cs.take (off + j) ++ [v] := by
      rw [show off + (j + 1) = (off + j) + 1 from by omega, List.take_succ_eq_append_getElem (by simpa using hlt)]
      simp only [List.take_set, List.getElem_set_self]
      rw [List.set_eq_of_length_le (by simp; omega)]
    have e2 : (cs.set (off + j) v).drop (off + (j + 1) + r.length) = cs.drop (off + j + (r.length + 1)) := by
      rw [List.drop_set_of_lt (by omega)]
      congr 1
      omega
    rw [e1, e2]
    simp

theorem fill_bl {pl : Nat → Option (Nat × Nat)} : ∀ (vs : List (Nat × Value)) (cs cs' : List Value), bl pl cs vs = some cs' → Instr.fill pl cs.toArray vs = some cs'.toArray
  | [], cs, cs', h => by simp [bl] at h; simp [Instr.fill, h]
  | (i, v) :: r, cs, cs', h => by
    simp only [bl] at h
    simp only [Instr.fill]
    split at h
    · cases h
    · rename_i off size hpl
      split at h
      · rename_i hb
        simp only [Bool.and_eq_true] at hb
        have h1 : v.cells.toList.length = size := Nat.eq_of_beq_eq_true hb.1
        have h2 : off + size ≤ cs.length := Nat.le_of_ble_eq_true hb.2
        simp only [hpl]
        have hs : v.cells.size = size := by simpa using h1
        have hc : (decide (v.cells.size ≠ size) || decide (off + v.cells.size > cs.toArray.size)) = false := by simp; omega
        rw [if_neg (by rw [hc]; simp)]
        have hf := fill_fold off v.cells.toList 0 cs (by simp only [Nat.add_zero]; rw [h1]; exact h2)
        simp only [Nat.add_zero] at hf
        have hz : (v.cells.zipIdx.foldl (fun (cs : Array Value) (p : Value × Nat) => cs.setIfInBounds (off + p.2) p.1) cs.toArray) = (splice cs off v.cells.toList).toArray := by
          rw [← Array.foldl_toList, Array.toList_zipIdx]
          exact hf
        have := fill_bl r _ cs' h
        rw [← hz] at this
        exact this
      · cases h

theorem parts_map {e : Env} {ρ : Operand → Value} (hρ : ∀ x v, look e x = some v → ρ x = v) : ∀ (l : List (Nat × Operand)) (us : List (Nat × Value)),
    l.mapM (fun p => (look e p.2).map fun v => (p.1, v)) = some us → l.map (fun p => (p.1, ρ p.2)) = us := by
  intro l
  induction l with
  | nil => intro us h; simp at h; simp [h]
  | cons q r ih =>
    intro us h
    simp only [List.mapM_cons] at h
    cases hq : look e q.2 with
    | none => simp [hq] at h
    | some v =>
      cases hr : r.mapM (fun p => (look e p.2).map fun v => (p.1, v)) with
      | none => simp [hq, hr] at h
      | some vs =>
        simp [hq, hr] at h
        subst h
        simp [hρ _ _ hq, ih vs hr]

def lookp (e : Env) : List (Nat × Operand) → Option (List (Nat × Value))
  | [] => some []
  | (i, x) :: r => match look e x, lookp e r with
    | some v, some vs => some ((i, v) :: vs)
    | _, _ => none
theorem lookp_map {e : Env} {ρ : Operand → Value} (hρ : ∀ x v, look e x = some v → ρ x = v) : ∀ (l : List (Nat × Operand)) (us : List (Nat × Value)), lookp e l = some us → l.map (fun p => (p.1, ρ p.2)) = us
  | [], us, h => by simp [lookp] at h; simp [h]
  | (i, x) :: r, us, h => by
    simp only [lookp] at h
    split at h
    · rename_i v vs hv hvs
      simp at h
      subst h
      simp [hρ _ _ hv, lookp_map hρ r vs hvs]
    · cases h
theorem lookp_arr {e : Env} {ρ : Operand → Value} (hρ : ∀ x v, look e x = some v → ρ x = v) {l : List (Nat × Operand)} {us : List (Nat × Value)} (h : lookp e l = some us) :
    (l.toArray.map fun x => match x with | (i, x) => (i, ρ x)) = us.toArray := by
  apply Array.toList_inj.1
  simp only [Array.toList_map]
  exact lookp_map hρ l us h

/-- The places of the fields of the struct type t. -/
def SP (P : Program) (t : TypeId) (pl : List (Nat × Nat)) : Prop := ∃ fs : Array Field, P.underlying t = some (.struct fs) ∧ ∀ w, (fs.mapM fun f => do pure (f.offset, ← sizeOf f.type) : Sem (Array (Nat × Nat))).run P w = .ok pl.toArray w

/-- A struct, given by some of its fields. -/
theorem ybd {parts : List (Nat × Operand)} {vs : List (Nat × Value)} {pl : List (Nat × Nat)} {zs : List Value} (hs : TI P t z n bytes) (hz : z.cells = zs.toArray) (hpl : SP P t pl) (hp : lookp e parts = some vs) (h : bl (pl[·]?) zs vs = some cs) :
    Y P e ⟨d, .build t parts.toArray, ty, pos, aft, g⟩ (.agg cs.toArray) w w := fun ρ hρ => by
  obtain ⟨fs, h1, h2⟩ := hpl
  have hf := fill_bl vs zs cs h
  have hf' : Instr.fill (pl.toArray[·]?) z.cells vs = some cs.toArray := by rw [hz]; simpa using hf
  simp only [execOp, lookp_arr hρ hp, Instr.build, Sem.run_bind, hs.zero, Result.andThen_ok, run_underlying h1, h2, hf', Sem.run_pure]
/-- An array, given by some of its elements. -/
theorem ybdA {parts : List (Nat × Operand)} {vs : List (Nat × Value)} {zs : List Value} {len : Nat} {ze : Value} {be : Nat} (hs : TI P t z n bytes) (hz : z.cells = zs.toArray) (ht : P.underlying t = some (.array len el)) (he : TI P el ze size be) (hp : lookp e parts = some vs) (h : bl (fun i => some (i * size, size)) zs vs = some cs) :
    Y P e ⟨d, .build t parts.toArray, ty, pos, aft, g⟩ (.agg cs.toArray) w w := fun ρ hρ => by
  have hf := fill_bl vs zs cs h
  rw [← hz] at hf
  simp only [execOp, lookp_arr hρ hp, Instr.build, Sem.run_bind, hs.zero, Result.andThen_ok, run_underlying ht, he.size, hf, Sem.run_pure]

/-- A slice, given by its elements. -/
theorem pbs {parts : List (Nat × Operand)} {vs : List (Nat × Value)} {len : Nat} {ze : Value} {be : Nat} {zs : List Value} (ht : P.underlying t = some (.slice el)) (he : TI P el ze size be) (hsm : Nat.ble (len * size) 16777216 = true)
    (hzs : (Array.range (len * size)).map ((if len * size = 0 then #[] else ze.cells)[· % (if len * size = 0 then #[] else ze.cells).size]!) = zs.toArray) (hp : lookp e parts = some vs) (h : bl (fun i => some (i * size, size)) zs vs = some cs) (hl : cs.length = len * size) (hm : len ≤ maxLen) :
    Yp P e ⟨d, .buildSlice t len parts.toArray, ty, pos, aft, g⟩ w fun v' w' => ∃ b, v' = .slice (some ⟨b, 0, none⟩) len len ∧ NewB w b cs el w' ∧ Sl w' v' el size len cs := by
  refine ⟨_, _, fun ρ hρ => ?_, w.heap.size, rfl, NewB.mk' w cs el, ⟨hl, .inr ⟨w.heap.size, len, cs.toArray, rfl, Nat.zero_le _, heap_new w _, Nat.le_refl _, hm, by simpa using hl, by simp [← hl]⟩⟩⟩
  have hf := fill_bl vs zs cs h
  rw [← hzs] at hf
  have h24 : ¬ len * size > 2 ^ 24 := by have := Nat.le_of_ble_eq_true hsm; omega
  simp only [execOp, lookp_arr hρ hp, Instr.buildSlice, Sem.run_bind, run_underlying ht, Result.andThen_ok, he.size, Sem.run_ite, if_neg h24, Sem.run_pure]
  by_cases h0 : len * size = 0
  · simp only [h0, if_true] at hf
    simp [Array.range_zero'] at hf
    simp [h0, newRow, newObj, Sem.run, Array.range_zero', hf]
  · simp only [h0, if_false] at hf
    simp [h0, newRow, newObj, Sem.run, hf, he.zero]

theorem madeCells_one (z : Value) (n : Nat) (h : oneV z = true) : (madeCells z.cells n).toList = List.replicate n z := by
  rw [oneV_cells h]
  apply List.ext_getElem
  · simp [madeCells]
  · intro j h1 h2
    simp [madeCells, Nat.mod_one]

/-- make([]T, n, c), T of one cell. -/
theorem pmk {za zb : Int} {c : Nat} [hza : NatC za n] [hb' : NatC zb c] (ht : P.underlying t = some (.slice el)) (hs : TI P el z 1 bytes) (hz : oneV z = true) (hx : look e x = some (.int k za)) (hy : look e y = some (.int k' zb)) (hnc : n ≤ c) (hb : bytes * c ≤ 281474976710656) (hm : c ≤ maxLen) :
    Yp P e ⟨d, .makeSlice t x y, ty, pos, aft, g⟩ w fun v' w' => ∃ b, v' = .slice (some ⟨b, 0, none⟩) n c ∧ NewB w b (List.replicate c z) el w' ∧ Sl w' v' el 1 n (List.replicate n z) := by
  obtain ⟨rfl⟩ := hza
  obtain ⟨rfl⟩ := hb'
  obtain ⟨i, hi, hiz, his, hib⟩ := hs
  have hr := run_make (P := P) w t el i z ht hi hiz k k' n c (by omega) (by omega) (by rw [hib, ← Int.natCast_mul]; exact Int.ofNat_le.2 hb) (by simp only [maxLen] at hm; omega)
  have hcells := madeCells_one z c hz
  have hcells' : madeCells z.cells c = (List.replicate c z).toArray := by rw [← hcells]
  rw [his] at hr
  simp only [Int.toNat_natCast, Nat.mul_one, hcells'] at hr
  refine ⟨_, _, fun ρ hρ => ?_, w.heap.size, rfl, NewB.mk' w (List.replicate c z) el, ⟨by simp, .inr ⟨w.heap.size, c, _, rfl, Nat.zero_le _, heap_new w _, hnc, hm, by simp, ?_⟩⟩⟩
  · simp only [execOp, hρ _ _ hx, hρ _ _ hy, Sem.run_bind, hr, Result.andThen_ok, Sem.run_pure]
  · simp [List.take_replicate, Nat.min_eq_left hnc]

/-! ### Addresses, fields, parts -/

theorem yfa (hf : Fld P t i off (n + 1) agg) (hx : look e x = some (ptr b m)) : Y P e ⟨d, .fieldAddr t x i, ty, pos, aft, g⟩ (ptr b (m + off)) w w := fun ρ hρ => by
  obtain ⟨fs, f, z, bytes, dd, h1, h2, h3, h4, h5, h6⟩ := hf
  have hs := h4.size (w := w)
  simp [execOp, hρ _ _ hx, Instr.fieldAt, run_underlying h1, h2, Instr.sureAddr, fieldPlace, hs, add_off, h3]
theorem yfd {vs : Array Value} (hf : Fld P t i off n false) (hx : look e x = some (.agg vs)) (hv : vs[off]? = some v) : Y P e ⟨d, .field t x i, ty, pos, aft, g⟩ v w w := fun ρ hρ => by
  obtain ⟨fs, f, z, bytes, dd, h1, h2, h3, h4, h5, h6⟩ := hf
  simp [execOp, hρ _ _ hx, Instr.field, run_underlying h1, h2, part, run_isAgg h5, h6, asAgg, h3, hv]
theorem yfdA {vs : Array Value} (hf : Fld P t i off n true) (hx : look e x = some (.agg vs)) : Y P e ⟨d, .field t x i, ty, pos, aft, g⟩ (.agg (vs.extract off (off + n))) w w := fun ρ hρ => by
  obtain ⟨fs, f, z, bytes, dd, h1, h2, h3, h4, h5, h6⟩ := hf
  have hs := h4.size (w := w)
  simp [execOp, hρ _ _ hx, Instr.field, run_underlying h1, h2, part, run_isAgg h5, h6, asAgg, h3, hs]
theorem yia {za : Int} [hza : NatC za n] {len : Nat} (ht : P.underlying t = some (.array len el)) (hs : TI P el z size bytes) (hx : look e x = some (ptr b m)) (hy : look e y = some (.int k za)) (hn : n < len) :
    Y P e ⟨d, .indexAddr t x y, ty, pos, aft, g⟩ (ptr b (m + n * size)) w w := fun ρ hρ => by
  obtain ⟨rfl⟩ := hza
  have h0 : (0 : Int) ≤ (n : Int) ∧ (n : Int) < (len : Int) := by omega
  have hs := hs.size (w := w)
  simp [execOp, hρ _ _ hx, hρ _ _ hy, Instr.indexAt, asIntOf, run_underlying ht, Instr.sureAddr, hn, hs, add_off]
theorem yis {za : Int} [hza : NatC za n] {len cap : Nat} (ht : P.underlying t = some (.slice el)) (hs : TI P el z size bytes) (hx : look e x = some (.slice (some ⟨b, m, none⟩) len cap)) (hy : look e y = some (.int k za)) (hn : n < len) :
    Y P e ⟨d, .indexAddr t x y, ty, pos, aft, g⟩ (ptr b (m + n * size)) w w := fun ρ hρ => by
  obtain ⟨rfl⟩ := hza
  have h0 : (0 : Int) ≤ (n : Int) ∧ (n : Int) < (len : Int) := by omega
  have hs := hs.size (w := w)
  simp [execOp, hρ _ _ hx, hρ _ _ hy, Instr.indexAt, asIntOf, run_underlying ht, hn, hs, add_off]
theorem yxa {za : Int} [hza : NatC za n] {len : Nat} {vs : Array Value} (ht : P.underlying t = some (.array len el)) (hs : TI P el z 1 bytes) (hu : P.underlying el = some td) (ha : aggOf td = false) (hx : look e x = some (.agg vs)) (hy : look e y = some (.int k za)) (hn : n < len) (hv : vs[n]? = some v) :
    Y P e ⟨d, .index t x y, ty, pos, aft, g⟩ v w w := fun ρ hρ => by
  obtain ⟨rfl⟩ := hza
  have hs := hs.size (w := w)
  simp [execOp, hρ _ _ hx, hρ _ _ hy, Instr.index, asIntOf, run_underlying ht, hn, hs, part, run_isAgg hu, ha, hv]
theorem yex {vs : Array Value} (hx : look e x = some (.tuple vs)) (hv : vs[i]? = some v) : Y P e ⟨d, .extract x i, ty, pos, aft, g⟩ v w w := fun ρ hρ => by
  simp [execOp, hρ _ _ hx, Instr.extract, hv]
theorem ync {a : Addr} (hx : look e x = some (.pointer (some a))) : Y P e ⟨d, .nilCheck x, ty, pos, aft, g⟩ (.pointer (some a)) w w := fun ρ hρ => by simp [execOp, hρ _ _ hx]
theorem yncf {f : FuncId} {p q : Array Value} (hx : look e x = some (.func (.func f) p q)) : Y P e ⟨d, .nilCheck x, ty, pos, aft, g⟩ (.func (.func f) p q) w w := fun ρ hρ => by simp [execOp, hρ _ _ hx]
theorem yln (ht : P.underlying t = some (.slice el)) {a : Option Addr} {len cap : Nat} (hx : look e x = some (.slice a len cap)) : Y P e ⟨d, .call ⟨.builtin .len, #[x], #[t]⟩, ty, pos, aft, g⟩ (I (len : Int)) w w := fun ρ hρ => by
  simp [execOp, resolve, invoke, builtin, hρ _ _ hx, Builtin.len_, run_underlying ht, goInt]
theorem ylnA (ht : P.underlying t = some (.array n el)) (hx : look e x = some v) : Y P e ⟨d, .call ⟨.builtin .len, #[x], #[t]⟩, ty, pos, aft, g⟩ (I (n : Int)) w w := fun ρ hρ => by
  simp [execOp, resolve, invoke, builtin, hρ _ _ hx, Builtin.len_, run_underlying ht, goInt]
theorem yeqb {p q : Bool} (hx : look e x = some (.bool p)) (hy : look e y = some (.bool q)) (ht : P.underlying t = some .bool) : Y P e ⟨d, .binOp .eql t x y t', ty, pos, aft, g⟩ (.bool (p == q)) w w := fun ρ hρ => by
  simp [execOp, hρ _ _ hx, hρ _ _ hy, eqGuard_at_bool, run_eql_bool w t p q ht]
end

/-! ### Calls -/

/-- Function f has a body. -/
def CF (P : Program) (f : FuncId) : Prop := ∃ fn, P.funcs[f]? = some fn ∧ (fn.name == "runtime.NumGoroutine") = false ∧ fn.body.isNone = false
section
variable {P : Program} {e : Env} {d : Option Nat} {ty : TypeId} {pos : String} {aft : Array Edge} {g : Option (Nat × Bool)} {w : World} {f : FuncId}
def looks (e : Env) : List Operand → Option (List Value)
  | [] => some []
  | x :: r => match look e x, looks e r with
    | some v, some vs => some (v :: vs)
    | _, _ => none
theorem looks_map {ρ : Operand → Value} (hρ : ∀ x v, look e x = some v → ρ x = v) : ∀ (xs : List Operand) (vs : List Value), looks e xs = some vs → xs.map ρ = vs
  | [], vs, h => by simp [looks] at h; simp [h]
  | x :: r, vs, h => by
    simp only [looks] at h
    split at h
    · rename_i v us hv hus
      simp at h
      subst h
      simp [hρ _ _ hv, looks_map hρ r us hus]
    · cases h
theorem run_callFunc (h : CF P f) (args : Array Value) : (callFunc f args).run P w = .ok (.enter f args) w := by
  obtain ⟨fn, h1, h2, h3⟩ := h
  have h2' : ¬ fn.name = "runtime.NumGoroutine" := by simpa using h2
  have h3' : ¬ fn.body = none := by intro hh; simp [hh] at h3
  simp [callFunc, program, Sem.run, h1, h2', h3']
/-- A call of a function by its name. -/
theorem yc {args : List Operand} {ts : Array TypeId} {vs : List Value} (hf : CF P f) (ha : looks e args = some vs) : Yc P e ⟨d, .call ⟨.value (.func f), args.toArray, ts⟩, ty, pos, aft, g⟩ f vs w := fun ρ hρ => by
  have h0 : ρ (.func f) = .func (.func f) #[] #[] := hρ _ _ rfl
  have hm := looks_map hρ _ _ ha
  simp [execOp, resolve, h0, Deferred.ofValue, invoke, run_callFunc hf, hm]
/-- A call of a function value. -/
theorem ycv' {fv : Operand} {args : List Operand} {ts : Array TypeId} {vs p q : List Value} (hf : CF P f) (hv : look e fv = some (.func (.func f) p.toArray q.toArray)) (ha : looks e args = some vs) :
    Yc P e ⟨d, .call ⟨.value fv, args.toArray, ts⟩, ty, pos, aft, g⟩ f (p ++ vs ++ q) w := fun ρ hρ => by
  have h0 := hρ _ _ hv
  have hm := looks_map hρ _ _ ha
  simp [execOp, resolve, h0, Deferred.ofValue, invoke, run_callFunc hf, hm]
theorem ymf {first caps : List Operand} {p q : List Value} (hp : looks e first = some p) (hq : looks e caps = some q) : Y P e ⟨d, .makeFunc (.func f) first.toArray caps.toArray, ty, pos, aft, g⟩ (.func (.func f) p.toArray q.toArray) w w := fun ρ hρ => by
  simp [execOp, Instr.makeFunc, looks_map hρ _ _ hp, looks_map hρ _ _ hq]
theorem pap {t el : TypeId} {x y : Operand} {z : Value} {size bytes n m : Nat} {u v : Value} {cs news : List Value} (ht : P.underlying t = some (.slice el)) (hs : TI P el z size bytes) (hzs : z.cells.size = size) (hsz : 0 < size)
    (hx : look e x = some v) (hy : look e y = some u) (hv : Sl w v el size n cs) (hu : Rd w u size m news) (h1 : ∀ c ∈ news, c.oneCell' = true) (hb : (n + m) * bytes ≤ 140737488355328) (hm : n + m ≤ maxLen) :
    Yp P e ⟨d, .call ⟨.builtin .append, #[x, y], #[t, t]⟩, ty, pos, aft, g⟩ w fun v' w' => Sl w' v' el size (n + m) (cs ++ news) ∧ Kp (fun k => v.ownBlock = some k) w w' ∧
      (∀ g, v'.ownBlock = some g → v.ownBlock = some g ∨ w.heap.size ≤ g) ∧ (v' = .slice none 0 0 ↔ v = .slice none 0 0 ∧ m = 0) := by
  obtain ⟨i, hi, hiz, his, hib⟩ := hs
  obtain ⟨v', w', hr, hrest⟩ := run_app (P := P) w t ty el i z size bytes ht hi hiz his hib hzs hsz v n cs hv u m news hu h1 hb hm
  refine ⟨v', w', fun ρ hρ => ?_, hrest⟩
  simp [execOp, resolve, invoke, builtin, hρ _ _ hx, hρ _ _ hy, hr]
end
/-! ### Strings and bytes -/
def u8v (c : UInt8) : Value := .int .u8 (c.toNat : Int)
section
variable {P : Program} {e : Env} {d : Option Nat} {ty t t' el : TypeId} {pos : String} {aft : Array Edge} {g : Option (Nat × Bool)} {x : Operand} {w : World} {l : List UInt8} {cs : List Value} {b i n cap : Nat} {T : TypeId}
theorem pS2B (hs : P.underlying t = some .string) (hd : P.underlying t' = some (.slice el)) (he : P.underlying el = some (.int .u8)) (hx : look e x = some (S l)) :
    Yp P e ⟨d, .convert t t' x, ty, pos, aft, g⟩ w fun v' w' => ∃ b cap rest, v' = .slice (some ⟨b, 0, none⟩) l.length cap ∧ NewB w b (l.map u8v ++ rest) el w' ∧ l.length + rest.length = cap := by
  have hr := run_bytes_of_string (P := P) w t t' el ⟨l.toArray⟩ hs hd he
  rw [size_S] at hr
  have hge := grownCap_ge w l.length 0 el
  have hrow : bytesRow ⟨l.toArray⟩ (grownCap w l.length 0 el) = (l.map u8v ++ List.replicate (grownCap w l.length 0 el - l.length) (Value.int .u8 0)).toArray := by
    simp [bytesRow, size_S, u8v]
  refine ⟨_, w.drew.alloc (.cells (bytesRow ⟨l.toArray⟩ (grownCap w l.length 0 el)) el ((bytesRow ⟨l.toArray⟩ (grownCap w l.length 0 el)).size, (bytesRow ⟨l.toArray⟩ (grownCap w l.length 0 el)).size + 1)), fun ρ hρ => ?_, w.heap.size, grownCap w l.length 0 el, List.replicate (grownCap w l.length 0 el - l.length) (Value.int .u8 0), rfl, ⟨rfl, ?_, ?_⟩, by simp; omega⟩
  · simp only [execOp, hρ _ _ hx, Sem.run_bind, hr, Result.andThen_ok, Sem.run_pure]
  · exact (Ext.drew0 w).trans (ext_alloc w.drew _)
  · refine ⟨_, by rw [← hrow]; exact heap_new w.drew _, fun j hj => ?_⟩
    rw [hrow]
    simp only [List.size_toArray]
    omega
theorem yB2S (hs : P.underlying t = some (.slice el)) (he : P.underlying el = some (.int .u8)) (hd : P.underlying t' = some .string) (hx : look e x = some (.slice (some ⟨b, i, none⟩) n cap)) (hB : Blk w b cs T) (hl : (cs.drop i).take n = l.map u8v) (hn : l.length = n) :
    Y P e ⟨d, .convert t t' x, ty, pos, aft, g⟩ (S l) w w := fun ρ hρ => by
  have hc := hB.cells hl
  have hr := run_convert_bytes_back (P := P) w t t' el ⟨b, i, none⟩ cap l hs he hd (fun j hj => by rw [add_off]; exact hc j _ (by simp [hj, u8v]))
  rw [hn] at hr
  simp only [execOp, hρ _ _ hx, Sem.run_bind, hr, Result.andThen_ok, Sem.run_pure]
end
/-! ### Results that lie in memory -/
inductive ResR (P : Program) (w : World) (e : Env) : List ResultVar → List Value → Prop where
  | nil : ResR P w e [] []
  | tmp {t : Tmp} {v : Value} {rs : List ResultVar} {vs : List Value} (h : fnd e t = some v) (hr : ResR P w e rs vs) : ResR P w e (.tmp t :: rs) (v :: vs)
  | cell {x : Tmp} {t : TypeId} {td : TypeDesc} {z : Value} {n bytes b i : Nat} {news : List Value} {rs : List ResultVar} {vs : List Value} (hu : P.underlying t = some td) (ha : aggOf td = true) (hs : TI P t z n bytes)
      (h : fnd e x = some (ptr b i)) (hc : ∀ j u, news[j]? = some u → w.cell? ⟨b, i + j, none⟩ = some u) (hn : news.length = n) (hr : ResR P w e rs vs) : ResR P w e (.cell x t :: rs) (.agg news.toArray :: vs)
  | cell1 {x : Tmp} {t : TypeId} {td : TypeDesc} {b i : Nat} {v : Value} {rs : List ResultVar} {vs : List Value} (hu : P.underlying t = some td) (ha : aggOf td = false)
      (h : fnd e x = some (ptr b i)) (hc : w.cell? ⟨b, i, none⟩ = some v) (hr : ResR P w e rs vs) : ResR P w e (.cell x t :: rs) (v :: vs)

theorem ResR.run {P : Program} {w : World} {e : Env} {n : Nat} {ms : List Dfr} {a : Act} (ha : EOk n ms e a) : ∀ {rs : List ResultVar} {vs : List Value}, ResR P w e rs vs → Sem.run P (rs.mapM (resM a)) w = .ok vs w := by
  intro rs vs h
  induction h with
  | nil => simp
  | @tmp t v rs vs h hr ih =>
    have hg : resM a (.tmp t) = pure v := by simp only [resM]; rw [ha.get _ _ h]
    rw [List.mapM_cons, hg]
    simp only [pure_bind, Sem.run_bind, ih, Result.andThen, Sem.run_pure]
  | @cell x t td z n bytes b i news rs vs hu hA hs h hc hn hr ih =>
    have hg := ha.get _ _ h
    have hl := run_loadCells_list (P := P) w ⟨b, i, none⟩ news (fun j v hj => by rw [add_off]; exact hc j v hj)
    rw [hn] at hl
    have h1 : Sem.run P (resM a (.cell x t)) w = .ok (.agg news.toArray) w := by
      simp only [resM, hg, asAddr, pure_bind, loadVar, Sem.run_bind, run_isAgg hu, hA, Result.andThen_ok, if_true, hs.size, hl, Sem.run_pure]
    rw [List.mapM_cons]
    simp only [Sem.run_bind, h1, ih, Result.andThen, Sem.run_pure]
  | @cell1 x t td b i v rs vs hu hA h hc hr ih =>
    have hg := ha.get _ _ h
    have h1 : Sem.run P (resM a (.cell x t)) w = .ok v w := by
      simp only [resM, hg, asAddr, pure_bind, loadVar, Sem.run_bind, run_isAgg hu, hA, Result.andThen_ok, Bool.false_eq_true, if_false, run_load, hc]
    rw [List.mapM_cons]
    simp only [Sem.run_bind, h1, ih, Result.andThen, Sem.run_pure]

theorem resultsR_run {n : Nat} {ms : List Dfr} {e : Env} {a : Act} (ha : EOk n ms e a) (P : Program) (w : World) (fn : Func) (vs : List Value) (h : ResR P w e fn.results.toList vs) :
    (results fn a.tmps).run P w = .ok (resVal vs) w := by
  have hm := ResR.run ha h
  have he : results fn a.tmps = (do
      let us ← fn.results.mapM (resM a)
      pure (if h : us.size = 1 then us[0] else .tuple us)) := rfl
  rw [he, ← Array.toArray_toList (xs := fn.results), List.mapM_toArray]
  simp only [Sem.run_bind, map_eq_pure_bind, hm, Result.andThen, Sem.run_pure]
  cases vs with
  | nil => simp [resVal]
  | cons v r => cases r with
    | nil => simp [resVal]
    | cons u r => simp [resVal]

section
variable {P : Program} {f : FuncId} {R : Value → World → Prop} {n : Nat} {k : List Item} {e : Env} {w : World} {fn : Func} {vs : List Value}
theorem run_retR (hf : P.funcs[f]? = some fn) (hr : ResR P w e fn.results.toList vs) (hR : RetX R (.returned (resVal vs)) w) : Run ⟨P, f, R, n, none, [], false⟩ (.code .ret :: k) e w :=
  run_retS rfl hf List.nodup_nil (fun _ h => by cases h) fun a ha => ⟨_, resultsR_run ha P w fn vs hr, hR⟩
theorem run_retRM {ms : List Dfr} (hn : ms.Nodup) (hm : MarkedE ms w) (hf : P.funcs[f]? = some fn) (hr : ResR P (shutM ms w) e fn.results.toList vs) (hR : RetX R (.returned (resVal vs)) (shutM ms w)) : Run ⟨P, f, R, n, none, ms, false⟩ (.code .ret :: k) e w :=
  run_retS rfl hf hn hm fun a ha => ⟨_, resultsR_run ha P _ fn vs hr, hR⟩
end

section
variable {P : Program} {e : Env} {d : Option Nat} {ty t t' : TypeId} {pos : String} {aft : Array Edge} {g : Option (Nat × Bool)} {x y : Operand} {w : World} {k : IntKind} {za zb : Int} {m n : Nat} [ha : NatC za m] [hb : NatC zb n]
/-- 'a[:]' of an array. -/
theorem yslArr {n : Nat} {z : Value} {size bytes b i : Nat} {el : TypeId} (ht : P.underlying t = some (.array n el)) (he : TI P el z size bytes) (hx : look e x = some (ptr b i)) :
    Y P e ⟨d, .slice t x none none none, ty, pos, aft, g⟩ (.slice (some ⟨b, i, none⟩) n n) w w := fun ρ hρ => by
  have hs := he.size (w := w)
  simp [execOp, hρ _ _ hx, Instr.sliceAt, run_underlying ht, Instr.sureAddr, Instr.sliceBounds, hs, add_off]
theorem yquU (hx : look e x = some (.int k za)) (hy : look e y = some (.int k zb)) (hs : k.signed = false) (hm : m < 2 ^ k.bits) (hn : 0 < n) : Y P e ⟨d, .binOp .quo t x y t', ty, pos, aft, g⟩ (.int k ((m / n : Nat) : Int)) w w := fun ρ hρ => by
  obtain ⟨rfl⟩ := ha
  obtain ⟨rfl⟩ := hb
  have h0 : ¬ ((n : Int) = 0) := by omega
  have h1 : ((m : Int)).tdiv (n : Int) = ((m / n : Nat) : Int) := by rw [Int.tdiv_eq_ediv_of_nonneg (by omega)]; simp
  have h2 := wrapU hs (Nat.lt_of_le_of_lt (Nat.div_le_self m n) hm)
  simp only [execOp, eqGuard_quo, binOp_quo, Op.intDiv, hρ _ _ hx, hρ _ _ hy, h0, if_false, pure_bind, Sem.run_pure, h1, h2]
theorem yreU (hx : look e x = some (.int k za)) (hy : look e y = some (.int k zb)) (hn : 0 < n) : Y P e ⟨d, .binOp .rem t x y t', ty, pos, aft, g⟩ (.int k ((m % n : Nat) : Int)) w w := fun ρ hρ => by
  obtain ⟨rfl⟩ := ha
  obtain ⟨rfl⟩ := hb
  have h0 : ¬ ((n : Int) = 0) := by omega
  have h1 : ((m : Int)).tmod (n : Int) = ((m % n : Nat) : Int) := by rw [Int.tmod_eq_emod_of_nonneg (by omega)]; simp
  simp only [execOp, eqGuard_rem, binOp_rem, Op.intDiv, hρ _ _ hx, hρ _ _ hy, h0, if_false, pure_bind, Sem.run_pure, h1]
end
end Go.Proofs.YtkgiammeeckfbaaGreat
