/- Operations on nil, on interfaces that hold a map, on lengths of maps; copy; sums of bytes. It is of no program. -/
import Derived.Test.YtkgiammeeckfbaaGreatMap
import Derived.Laws.Externs
import Derived.MapKept
namespace Go.Proofs.YtkgiammeeckfbaaGreat
open Go Go.RowKit
set_option linter.all false

theorem bytes_whole (l : List UInt8) (rest : List Value) (n : Nat) (hn : n = l.length) : ((l.map u8v ++ rest).drop 0).take n = l.map u8v := by
  subst hn; simp
/-- Cells of a slice of one's own. -/
theorem Sl.part {w : World} {g n cap e size i k : Nat} {cs news : List Value} (h : Sl w (.slice (some ⟨g, 0, none⟩) n cap) e size n cs) (hn : (cs.drop i).take k = news) : ∀ j u, news[j]? = some u → w.cell? ⟨g, 0 + i + j, none⟩ = some u := fun j u hj => by
  have hc := World.ownsRow.cells h (g := g) rfl (i + j) u (by
    subst hn
    rw [List.getElem?_take] at hj
    split at hj
    · rwa [List.getElem?_drop] at hj
    · cases hj)
  rw [add_off] at hc
  rw [show 0 + i + j = 0 + (i + j) by omega]
  exact hc

section
variable {P : Program} {e : Env} {d : Option Nat} {ty t t' kt el : TypeId} {pos : String} {aft : Array Edge} {g : Option (Nat × Bool)} {x y u : Operand} {w : World}

theorem eqg_p {op : BinOp} {p : Option Addr} {v : Value} : eqGuard op t x y (.pointer p) v = pure () := by cases op <;> rfl
theorem eqg_m {op : BinOp} {p : Option Nat} {v : Value} : eqGuard op t x y (.map p) v = pure () := by cases op <;> rfl
theorem eqg_s {op : BinOp} {a : Option Addr} {n c : Nat} {v : Value} : eqGuard op t x y (.slice a n c) v = pure () := by cases op <;> rfl
theorem binOp_eql_p {p : Option Addr} {v : Value} : binOp .eql t (.pointer p) v = (do pure (.bool (← Op.equal t (.pointer p) v))) := rfl
theorem binOp_neq_p {p : Option Addr} {v : Value} : binOp .neq t (.pointer p) v = (do pure (.bool (!(← Op.equal t (.pointer p) v)))) := rfl
theorem binOp_eql_m {p : Option Nat} {v : Value} : binOp .eql t (.map p) v = (do pure (.bool (← Op.equal t (.map p) v))) := rfl
theorem binOp_eql_s {a : Option Addr} {n c : Nat} {v : Value} : binOp .eql t (.slice a n c) v = (do pure (.bool (← Op.equal t (.slice a n c) v))) := rfl
theorem binOp_neq_s {a : Option Addr} {n c : Nat} {v : Value} : binOp .neq t (.slice a n c) v = (do pure (.bool (!(← Op.equal t (.slice a n c) v)))) := rfl
theorem eq_p {p : Option Addr} (ht : P.underlying t = some (.pointer el)) : (Op.equal t (.pointer p) (.pointer none)).run P w = .ok p.isNone w :=
  run_equalIn_pointer_nil (P := P) (w := w) 9999 t p (by simp [Program.pointee, ht])
theorem eq_m {p : Option Nat} (ht : P.underlying t = some (.map kt el)) : (Op.equal t (.map p) (.map none)).run P w = .ok p.isNone w :=
  run_equalIn_map_nil (P := P) (w := w) 9999 t kt el p ht
theorem eq_s {a : Option Addr} {n c : Nat} (ht : P.underlying t = some (.slice el)) : (Op.equal t (.slice a n c) (.slice none 0 0)).run P w = .ok a.isNone w :=
  run_equalIn_slice_nil (P := P) (w := w) 9999 t el a n c ht
theorem yeqpN {p : Option Addr} (ht : P.underlying t = some (.pointer el)) (hx : look e x = some (.pointer p)) (hy : look e y = some (.pointer none)) : Y P e ⟨d, .binOp .eql t x y t', ty, pos, aft, g⟩ (.bool p.isNone) w w := fun ρ hρ => by
  simp only [execOp, hρ _ _ hx, hρ _ _ hy, eqg_p, binOp_eql_p, pure_bind, Sem.run_bind, eq_p ht, Result.andThen, Sem.run_pure]
theorem ynepN {p : Option Addr} (ht : P.underlying t = some (.pointer el)) (hx : look e x = some (.pointer p)) (hy : look e y = some (.pointer none)) : Y P e ⟨d, .binOp .neq t x y t', ty, pos, aft, g⟩ (.bool (!p.isNone)) w w := fun ρ hρ => by
  simp only [execOp, hρ _ _ hx, hρ _ _ hy, eqg_p, binOp_neq_p, pure_bind, Sem.run_bind, eq_p ht, Result.andThen, Sem.run_pure]
theorem yeqmN {p : Option Nat} (ht : P.underlying t = some (.map kt el)) (hx : look e x = some (.map p)) (hy : look e y = some (.map none)) : Y P e ⟨d, .binOp .eql t x y t', ty, pos, aft, g⟩ (.bool p.isNone) w w := fun ρ hρ => by
  simp only [execOp, hρ _ _ hx, hρ _ _ hy, eqg_m, binOp_eql_m, pure_bind, Sem.run_bind, eq_m ht, Result.andThen, Sem.run_pure]
theorem yeqsN {a : Option Addr} {n c : Nat} (ht : P.underlying t = some (.slice el)) (hx : look e x = some (.slice a n c)) (hy : look e y = some (.slice none 0 0)) : Y P e ⟨d, .binOp .eql t x y t', ty, pos, aft, g⟩ (.bool a.isNone) w w := fun ρ hρ => by
  simp only [execOp, hρ _ _ hx, hρ _ _ hy, eqg_s, binOp_eql_s, pure_bind, Sem.run_bind, eq_s ht, Result.andThen, Sem.run_pure]
theorem ynesN {a : Option Addr} {n c : Nat} (ht : P.underlying t = some (.slice el)) (hx : look e x = some (.slice a n c)) (hy : look e y = some (.slice none 0 0)) : Y P e ⟨d, .binOp .neq t x y t', ty, pos, aft, g⟩ (.bool (!a.isNone)) w w := fun ρ hρ => by
  simp only [execOp, hρ _ _ hx, hρ _ _ hy, eqg_s, binOp_neq_s, pure_bind, Sem.run_bind, eq_s ht, Result.andThen, Sem.run_pure]
theorem ymkM {v : Value} (ht : P.underlying t = some (.map kt el)) (hx : look e x = some v) : Y P e ⟨d, .makeInterface t x, ty, pos, aft, g⟩ (.iface t v) w w := fun ρ hρ => by
  simp [execOp, hρ _ _ hx, Instr.makeInterface, run_underlying ht]
theorem ytaM {v : Value} (ht : P.underlying t = some (.map kt el)) (hx : look e x = some (.iface t v)) : Y P e ⟨d, .typeAssert x t' t false, ty, pos, aft, g⟩ v w w := fun ρ hρ => by
  simp [execOp, hρ _ _ hx, Instr.typeAssert, run_underlying ht, go_sem, Result.andThen]
/-- s[i:j] of a slice. -/
theorem yslV {z : Value} {size bytes b m n cap i j : Nat} {k k' : IntKind} {za zb : Int} [hza : NatC za i] [hzb : NatC zb j] (ht : P.underlying t = some (.slice el)) (hs : TI P el z size bytes) (hx : look e x = some (.slice (some ⟨b, m, none⟩) n cap))
    (hy : look e y = some (.int k za)) (hu : look e u = some (.int k' zb)) (h : i ≤ j ∧ j ≤ cap) (hlt : i < cap) :
    Y P e ⟨d, .slice t x (some y) (some u) none, ty, pos, aft, g⟩ (.slice (some ⟨b, m + i * size, none⟩) (j - i) (cap - i)) w w := fun ρ hρ => by
  obtain ⟨rfl⟩ := hza
  obtain ⟨rfl⟩ := hzb
  have hsz := hs.size (w := w)
  have h1 : ∀ w, (Instr.sliceBound (.int k' (j : Int)) cap .sliceAcap).run P w = .ok j w := fun w => by rw [run_sliceBound _ _ _ _ _ (by omega) (by omega)]; simp
  have h2 : ∀ w, (Instr.sliceBound (.int k (i : Int)) j .sliceB).run P w = .ok i w := fun w => by rw [run_sliceBound _ _ _ _ _ (by omega) (by omega)]; simp
  have hne : ¬ cap = i := by omega
  simp [execOp, hρ _ _ hx, hρ _ _ hy, hρ _ _ hu, Instr.sliceAt, run_underlying ht, Instr.slice, Instr.sliceBounds, h1, h2, hsz, hne, add_off]
theorem yslVf {z : Value} {size bytes b m n cap i : Nat} {k : IntKind} {za : Int} [hza : NatC za i] (ht : P.underlying t = some (.slice el)) (hs : TI P el z size bytes) (hx : look e x = some (.slice (some ⟨b, m, none⟩) n cap))
    (hy : look e y = some (.int k za)) (h : i ≤ n) (hlt : i < cap) :
    Y P e ⟨d, .slice t x (some y) none none, ty, pos, aft, g⟩ (.slice (some ⟨b, m + i * size, none⟩) (n - i) (cap - i)) w w := fun ρ hρ => by
  obtain ⟨rfl⟩ := hza
  have hsz := hs.size (w := w)
  have h2 : ∀ w, (Instr.sliceBound (.int k (i : Int)) n .sliceB).run P w = .ok i w := fun w => by rw [run_sliceBound _ _ _ _ _ (by omega) (by omega)]; simp
  have hne : ¬ cap = i := by omega
  simp [execOp, hρ _ _ hx, hρ _ _ hy, Instr.sliceAt, run_underlying ht, Instr.slice, Instr.sliceBounds, h2, hsz, hne, add_off]
theorem yslVt {z : Value} {size bytes b m n cap j : Nat} {k : IntKind} {zb : Int} [hzb : NatC zb j] (ht : P.underlying t = some (.slice el)) (hs : TI P el z size bytes) (hx : look e x = some (.slice (some ⟨b, m, none⟩) n cap))
    (hu : look e u = some (.int k zb)) (h : j ≤ cap) :
    Y P e ⟨d, .slice t x none (some u) none, ty, pos, aft, g⟩ (.slice (some ⟨b, m, none⟩) j cap) w w := fun ρ hρ => by
  obtain ⟨rfl⟩ := hzb
  have hsz := hs.size (w := w)
  have h1 : ∀ w, (Instr.sliceBound (.int k (j : Int)) cap .sliceAcap).run P w = .ok j w := fun w => by rw [run_sliceBound _ _ _ _ _ (by omega) (by omega)]; simp
  simp [execOp, hρ _ _ hx, hρ _ _ hu, Instr.sliceAt, run_underlying ht, Instr.slice, Instr.sliceBounds, h1, hsz, add_off]
/-- copy(dst, s) of a string. -/
theorem pcpS {z : Value} {bytes b i n cap : Nat} {ts : TypeId} {T : TypeId} {cs : List Value} {l : List UInt8} (ht : P.underlying t = some (.slice el)) (hs : TI P el z 1 bytes) (hx : look e x = some (.slice (some ⟨b, i, none⟩) n cap)) (hy : look e y = some (S l))
    (hB : Blk w b cs T) (hi : i + n ≤ cs.length) :
    Yp P e ⟨d, .call ⟨.builtin .copy, #[x, y], #[t, ts]⟩, ty, pos, aft, g⟩ w fun v w' => v = I ((min l.length n : Nat) : Int) ∧ Blk w' b (splice cs i ((l.take n).map u8v)) T ∧ Kp (fun k => k = b) w w' := by
  obtain ⟨w', hr, hB', hk⟩ := run_storeCells_blk (P := P) i ((l.take n).map u8v) 0 cs w hB (by simp; omega) (fun u hu => by rw [List.mem_map] at hu; obtain ⟨_, _, rfl⟩ := hu; rfl)
  refine ⟨_, w', fun ρ hρ => ?_, rfl, by simpa using hB', hk⟩
  have hsz := hs.size (w := w)
  have e1 : ((ByteArray.mk l.toArray).extract 0 (Nat.min (ByteArray.mk l.toArray).size n)).data.map (fun b : UInt8 => Value.int .u8 (b.toNat : Int)) = ((l.take n).map u8v).toArray := by
    rw [extract_S]
    simp only [size_S, Nat.sub_zero, List.drop_zero]
    have e2 : l.take (Nat.min l.length n) = l.take n := by
      rcases Nat.le_total l.length n with h | h
      · rw [show Nat.min l.length n = l.length from Nat.min_eq_left h, List.take_length, List.take_of_length_le h]
      · rw [show Nat.min l.length n = n from Nat.min_eq_right h]
    rw [e2]
    simp
    rfl
  have hc : (Builtin.copy_ #[t, ts] ty #[.slice (some ⟨b, i, none⟩) n cap, S l]).run P w = .ok (I ((min l.length n : Nat) : Int)) w' := by
    unfold Builtin.copy_
    simp only [S, Builtin.lenOf, Builtin.firstCells, List.getElem?_toArray, List.getElem?_cons_zero, List.getElem?_cons_succ, pure_bind, Sem.run_bind, run_underlying ht, Result.andThen, Sem.run_pure, hsz, e1, hr]
    rw [size_S]
    rfl
  simp [execOp, resolve, invoke, builtin, hρ _ _ hx, hρ _ _ hy, hc]
/-- What reads as a slice reads on when another block is written. -/
theorem Rd.kpb {w w' : World} {v : Value} {size n b : Nat} {cs : List Value} (h : Rd w v size n cs) (k : Kp (fun i => i = b) w w') (hne : v.ownBlock ≠ some b) : Rd w' v size n cs :=
  h.kp k fun g hg hgb => hne (by rw [hg, hgb])
/-- A store into a slice of one's own. -/
theorem zstSl {g' : Option (Nat × Bool)} {z v : Value} {size bytes g n cap j : Nat} {cs : List Value} (hs : TI P t z 1 bytes) (hx : look e x = some (ptr g j)) (hy : look e y = some v) (hv : oneV v = true) (hS : Sl w (.slice (some ⟨g, 0, none⟩) n cap) el size n cs) (hj : j < cs.length) :
    Zp P e ⟨d, .store t x y, ty, pos, aft, g'⟩ w fun w' => Sl w' (.slice (some ⟨g, 0, none⟩) n cap) el size n (cs.set j v) ∧ Kp (fun k => k = g) w w' := by
  obtain ⟨hlen, ⟨hz, -⟩ | ⟨g1, cap1, cur, hv1, hb, hg, hn, hm, hsz, htk⟩⟩ := hS
  · cases hz
  cases hv1
  have hjc : j < cur.size := by
    have : cs.length ≤ cur.toList.length := by rw [← htk]; simp; omega
    simp at this; omega
  have hc : w.cell? ⟨g, j, none⟩ = some cur[j] := by simp [World.cell?, hg, hjc]
  have hf : w.frozen? ⟨g, j, none⟩ = false := by simp [World.frozen?, hg]
  refine ⟨w.setCell ⟨g, j, none⟩ v, fun ρ hρ => zstc hs hx hy hv hc hf ρ hρ, ⟨by simpa using hlen, .inr ⟨g, cap, cur.setIfInBounds j v, rfl, hb, Joins.block_setCell hg v, hn, hm, by simpa using hsz, ?_⟩⟩, kp_setCell w g j v⟩
  rw [Array.toList_setIfInBounds, ← htk, List.take_set]
/-- The clone of a map. -/
theorem pcl {f : FuncId} {fn : Func} {ts : Array TypeId} {m : Nat} {κ : Type} [DecidableEq κ] {K : κ → Value} {kv : List (κ × Value)} (hf : P.funcs[f]? = some fn) (hname : (fn.name == "runtime.NumGoroutine") = false) (hb : fn.body.isNone = true)
    (hn : Extern.findNext fn = none) (he : Extern.find fn = some Extern.MapsClone.clone) (hx : look e x = some (.iface t (.map (some m)))) (hm : MapL K w m kv) :
    Yp P e ⟨d, .call ⟨.value (.func f), #[x], ts⟩, ty, pos, aft, g⟩ w fun v w' => ∃ m', v = .iface t (.map (some m')) ∧ m' = w.heap.size ∧ Ext w w' ∧ MapL K w' m' kv := by
  obtain ⟨⟨es, c, hh, hE⟩, hd⟩ := hm
  have hr : (Extern.MapsClone.clone #[.iface t (.map (some m))]).run P w = .ok (.iface t (.map (some w.heap.size))) (w.alloc (.map es c)) := by
    have e : Extern.MapsClone.clone #[.iface t (.map (some m))] = (getObj m >>= fun o => match o with
        | .map entries clock => (newObj (.map entries clock) >>= fun n => pure (.iface t (.map (some n))))
        | _ => stuck "maps.clone: a map expected") := rfl
    rw [e]
    simp [MapKept.run_getObj_map hh, Result.andThen, go_sem]
  refine ⟨_, w.alloc (.map es c), fun ρ hρ => ?_, w.heap.size, rfl, rfl, ext_alloc w _, ⟨⟨es, c, World.alloc_heap_new w _, hE⟩, hd⟩⟩
  have h0 : ρ (.func f) = .func (.func f) #[] #[] := hρ _ _ rfl
  simp [execOp, resolve, h0, hρ _ _ hx, Deferred.ofValue, invoke, run_callFunc_extern hf hname hb hn he, hr, Result.andThen]
end
end Go.Proofs.YtkgiammeeckfbaaGreat
