/- The reckoner's loops over maps: a map's iterator, where no more than one entry is left. It is of no program. -/
import Derived.Test.YtkgiammeeckfbaaGreatEvI
import Derived.Maps.RangeRun
namespace Go.Proofs.YtkgiammeeckfbaaGreat
open Go Go.RowKit
set_option linter.all false

section
variable {P : Program} {G : Nat} {φ : Ph} {h : H} {w : World} {e : Env} {d : Option Nat} {ty t : TypeId} {pos : String} {aft : Array Edge} {g : Option (Nat × Bool)} {x : Operand} {v1 : V}
theorem rgV_ok (r : Rel G φ h w) (hx : Kn φ e x v1) : ROk P G φ h w e ⟨d, .range t x, ty, pos, aft, g⟩ (rgV P h t v1) := by
  unfold rgV
  split <;> try exact trivial
  rename_i kt el ht
  split <;> try exact trivial
  rename_i b
  obtain ⟨u1, hx, hc1⟩ := hx (by simp)
  cases hc1 with
  | @map _ b' a N hp =>
  split <;> try exact trivial
  rename_i es cl hb
  obtain ⟨arr, hm, hM⟩ := r.mapAt hb hp
  rw [hNew_eq]
  have k : Ext w (w.alloc (.mapIter (some b') cl #[] cl)) := ext_alloc w _
  refine ⟨ptr w.heap.size (0 + 0), _, _, fun ρ hρ => ?_, r.new (x := .miter b cl [] cl) (b' := w.heap.size) (a := 0) (N := 0) k (Nat.le_refl _) ⟨rfl, b', a, N, addPh_sb r _ _ _ hp, heap_new w _⟩, .ptr (addPh_same _ _ _)⟩
  simp [execOp, hρ _ _ hx, Instr.range, run_underlying ht, run_getMap hm, newObj, Sem.run]
theorem leftV_ok {es : List (V × V × Nat)} {ents : List MapEntry} (seen : List Nat) (hM : MR φ es ents) : MR φ (leftV es seen) (ents.filter fun e => !seen.contains e.born) := by
  induction hM with
  | nil => exact .nil
  | @cons k v n e l ents h1 h2 h3 hM ih =>
    simp only [leftV, List.filter_cons] at ih ⊢
    rw [h3]
    cases seen.contains n with
    | true => simpa using ih
    | false => simpa using MR.cons h1 h2 h3 ih
theorem borns_lt {es : List (V × V × Nat)} {ents : List MapEntry} {s : Nat} (hM : MR φ es ents) (h : es.all (fun e => Nat.blt e.2.2 s) = true) : ∀ x ∈ ents, x.born < s := by
  induction hM with
  | nil => intro x hx; simp at hx
  | @cons k v n e l ents h1 h2 h3 hM ih =>
    simp only [List.all_cons, Bool.and_eq_true] at h
    intro x hx
    rcases List.mem_cons.1 hx with rfl | hx
    · rw [h3]; exact Nat.le_of_ble_eq_true h.1
    · exact ih h.2 x hx
theorem left_toList (arr : Array MapEntry) (seen : List Nat) : (leftOf arr seen.toArray).toList = arr.toList.filter fun e => !seen.contains e.born := by
  simp [leftOf]
theorem Rel.iterAt (r : Rel G φ h w) {i m since last : Nat} {seen : List Nat} (hb : hGet h i = some (.miter m since seen last)) {p : Nat × Nat × Nat} (hp : φ i = some p) : p.2.1 = 0 ∧ ∃ m' a N, φ m = some (m', a, N) ∧ w.heap[p.1]? = some (.mapIter (some m') since seen.toArray last) := by
  obtain ⟨q, hq, hbr⟩ := r.blk _ _ hb
  rw [hp] at hq; cases hq
  exact hbr
theorem nxV_ok {s : Bool} (r : Rel G φ h w) (hx : Kn φ e x v1) : ROk P G φ h w e ⟨d, .next x s, ty, pos, aft, g⟩ (nxV h v1 s) := by
  unfold nxV
  split <;> try exact trivial
  rename_i i
  obtain ⟨u1, hx, hc1⟩ := hx (by simp)
  split <;> try exact trivial
  split <;> try exact trivial
  rename_i m since seen last hi
  split <;> try exact trivial
  rename_i es cl hb
  obtain ⟨p, hp, -⟩ := r.blk _ _ hi
  obtain ⟨h0, m', am, Nm, hm, hit⟩ := r.iterAt hi hp
  obtain ⟨arr, hmap, hM⟩ := r.mapAt hb hm
  refine cond_ok' fun hcc => ?_
  simp only [Bool.and_eq_true] at hcc
  have hlt := borns_lt hM hcc.1
  have hls := Nat.le_of_ble_eq_true hcc.2
  have hL := leftV_ok seen hM
  cases hc1 with
  | @ptr _ _ b' a N hp1 =>
  rw [hp1] at hp; cases hp
  have h0 : a = 0 := h0
  subst h0
  have key := run_next_at (P := P) w ty b' m' since last seen.toArray arr cl hit hmap hlt hls
  rw [left_toList] at key
  have hsz : (leftOf arr seen.toArray).size = (arr.toList.filter fun e => !seen.contains e.born).length := by rw [← left_toList, Array.length_toList]
  rw [hsz] at key
  generalize leftV es seen = L at hL
  generalize (arr.toList.filter fun e => !seen.contains e.born) = F at hL key
  match L, hL with
  | [], .nil =>
    rcases key with ⟨-, hrun⟩ | ⟨ent, he, -⟩
    · refine ⟨.tuple [.bool false].toArray, w, φ, fun ρ hρ => ?_, Post.refl r, .tup (.cons .bool .nil)⟩
      simp [execOp, hρ _ _ hx, hrun]
    · simp at he
  | [(k, v, n)], .cons (e := ent) h1 h2 h3 .nil =>
    rcases key with ⟨hz, -⟩ | ⟨ent', he, w1, hw1, hrun⟩
    · simp at hz
    · have he : ent' = ent := by simpa using he
      subst he
      simp only [nx1, fL_eq, hSet_eq]
      rw [h3] at hrun
      have hlt1 : b' < w1.heap.size := by rcases hw1 with rfl | rfl <;> exact lt_of_heap hit
      have hk : Kp (fun j => j = b') w (w1.putObj b' (.mapIter (some m') since (seen.toArray.push n) cl)) := by
        rcases hw1 with rfl | rfl
        · exact kp_putObj _ _ _
        · exact (Ext.drew0 w).kp.trans (kp_putObj _ _ _)
      refine ⟨.tuple [.bool true, ent'.key, ent'.val].toArray, w1.putObj b' (.mapIter (some m') since (seen.toArray.push n) cl), φ, fun ρ hρ => ?_, r.upd hi rfl hp1 hk ⟨rfl, m', am, Nm, hm, ?_⟩, .tup (.cons .bool (.cons h1 (.cons h2 .nil)))⟩
      · simp [execOp, hρ _ _ hx, hrun]
        rfl
      · rw [World.putObj_heap_same hlt1]; simp
  | _ :: _ :: _, _ => exact trivial
theorem nodupN_ok : ∀ {l : List Nat}, nodupN l = true → l.Nodup
  | [], _ => .nil
  | a :: l, h => by
    simp only [nodupN, Bool.and_eq_true] at h
    exact List.nodup_cons.2 ⟨by simpa using h.1, nodupN_ok h.2⟩
theorem mr_borns {es : List (V × V × Nat)} {ents : List MapEntry} (hM : MR φ es ents) : ents.map (·.born) = es.map fun e => e.2.2 := by
  induction hM with
  | nil => rfl
  | cons h1 h2 h3 hM ih => simp [h3, ih]
theorem mr_find {n : Nat} {es : List (V × V × Nat)} {ents : List MapEntry} {x : V × V × Nat} (hM : MR φ es ents) (h : es.find? (fun e => Nat.beq e.2.2 n) = some x) : ∃ ent ∈ ents, ent.born = n ∧ CV φ x.1 ent.key ∧ CV φ x.2.1 ent.val := by
  induction hM with
  | nil => simp at h
  | @cons k v b e l ents h1 h2 h3 hM ih =>
    rw [List.find?_cons] at h
    cases hq : Nat.beq b n with
    | true =>
      simp only [hq] at h
      cases h
      exact ⟨e, List.mem_cons_self .., by rw [h3]; exact Nat.eq_of_beq_eq_true hq, h1, h2⟩
    | false =>
      simp only [hq] at h
      obtain ⟨ent, a, b⟩ := ih h
      exact ⟨ent, List.mem_cons_of_mem _ a, b⟩
theorem enV_ok (r : Rel G φ h w) (hx : Kn φ e x v1) : ROk P G φ h w e ⟨d, .entry x, ty, pos, aft, g⟩ (enV h v1) := by
  unfold enV
  split <;> try exact trivial
  rename_i i
  obtain ⟨u1, hx, hc1⟩ := hx (by simp)
  split <;> try exact trivial
  rename_i m since seen last hi
  split <;> try exact trivial
  rename_i es cl hb
  split <;> try exact trivial
  rename_i n rest hrev
  obtain ⟨p, hp, -⟩ := r.blk _ _ hi
  obtain ⟨h0, m', am, Nm, hm, hit⟩ := r.iterAt hi hp
  obtain ⟨arr, hmap, hM⟩ := r.mapAt hb hm
  refine cond_ok' fun hcc => ?_
  simp only [Bool.and_eq_true] at hcc
  have hl := Nat.eq_of_beq_eq_true hcc.1
  subst hl
  have hnd := nodupN_ok hcc.2
  rw [← mr_borns hM] at hnd
  split <;> try exact trivial
  rename_i x0 hf
  obtain ⟨ent, he, hbn, c1, c2⟩ := mr_find hM hf
  cases hc1 with
  | @ptr _ _ b' a N hp1 =>
  rw [hp1] at hp; cases hp
  have h0 : a = 0 := h0
  subst h0
  have hs : seen = rest.reverse ++ [n] := by
    have := congrArg List.reverse hrev
    simpa using this
  have hsa : seen.toArray = rest.reverse.toArray.push ent.born := by rw [hs, hbn]; simp
  rw [hsa] at hit
  have hrun := run_entry_at (P := P) w b' m' since _ arr last ent hit hmap he hnd
  refine ⟨.tuple [ent.key, ent.val].toArray, w, φ, fun ρ hρ => ?_, Post.refl r, .tup (.cons c1 (.cons c2 .nil))⟩
  simp [execOp, hρ _ _ hx, hrun]
end
end Go.Proofs.YtkgiammeeckfbaaGreat
