/- Arguments read from memory: lists of writes (of the laws on devices). -/
import Derived.Test.YtdapkfppcaaohaaOpen
import Derived.Test.YtdapkfppcaaohaaDvE
namespace Go.Proofs.Ytdapkfppcaaohaa
open Go Go.ChangeShapes Go.WideShapes Go.ChangeAt Go.RowKit Go.Deep
set_option linter.all false
set_option maxRecDepth 100000
section
variable {H : Type} {enc : TypeId × Value → H} {W : World} {sp : Nat → Bool}
theorem open_put {fuel : Nat} {cs : List Value} {x : DataW H × List MemPlace} (h : DataW.trod enc Try.prog W 0 sp true fuel 56 cs = some x) (hw : ∀ n ∈ x.1.weights Try.prog 56, n ≤ reachBytes) :
    ∃ y : Int × Bytes, cs = wr y ∧ y.2.length ≤ 140737488355328 := by
  obtain ⟨xs, n, -, hx, hl, hlen, hf⟩ := DataW.trod_struct Try.underlying56 h
  rw [show Try.prog.cellsOf 56 = 2 by kernel_rfl] at hl
  match xs, hlen with
  | [y0, y1], _ =>
  match cs, hl with
  | [c0, c1], _ =>
    have t0 := hf 0 _ rfl
    have t1 := hf 1 _ rfl
    simp only [show Try.prog.cellsOf 9 = 1 by kernel_rfl, show Try.prog.cellsOf 3 = 1 by kernel_rfl, List.drop, List.take, List.getElem?_cons_zero, List.getElem?_cons_succ] at t0 t1
    obtain ⟨n0, e0, -, -⟩ := DataW.trod_int Try.underlying3 t0
    obtain ⟨s1, e1, hy1, -⟩ := DataW.trod_string Try.underlying9 t1
    cases e0; cases e1
    refine ⟨(n0, s1.data.toList), by rw [str_S]; rfl, ?_⟩
    have := hw s1.data.toList.length (by
      rw [hx]
      simp only [DataW.weights, Try.underlying56, DataW.weightsEach, List.map, List.mem_append]
      exact .inr (.inl (by rw [hy1]; simp [DataW.weights])))
    simp [reachBytes] at this; show s1.data.toList.length ≤ _; simp; omega

theorem open_puts {fuel : Nat} {v : Value} {x : DataW H × List MemPlace} (h : DataW.trod enc Try.prog W 0 sp true fuel 42 [v] = some x) (hw : ∀ n ∈ x.1.weights Try.prog 42, n ≤ reachBytes) : ∃ l : List (Int × Bytes), PutsM W v l := by
  rcases open_slice Try.underlying42 h with ⟨hv, hx⟩ | ⟨a, len, cap, m, n, D, Pl, hv, -, hl, hm, hmm, hx, hel⟩
  · cases hv
    exact ⟨[], ⟨rfl, .inl ⟨(none, 0), rfl, rfl⟩⟩, by simp, by simp⟩
  · cases hv
    rw [show Try.prog.cellsOf 56 = 2 by kernel_rfl] at hel
    have hlm : len ≤ m := by rw [hmm]; split <;> omega
    obtain ⟨O, hO⟩ := @choose_lt (Int × Bytes) ⟨(0, [])⟩ len (fun i y => W.cells? 0 (a.add (i * 2)) 2 = some (wr y) ∧ y.2.length ≤ 140737488355328) (fun i hi => by
      obtain ⟨cs', h1, h2⟩ := hel i (by omega)
      obtain ⟨y, hcs, hok⟩ := open_put h2 (fun n hn => hw n (by
        rw [hx]
        simp only [DataW.weights, Try.underlying42, List.mem_cons, List.mem_append]
        refine .inr (.inl ?_)
        have hmem : D i ∈ (List.range len).map D := List.mem_map.2 ⟨i, by simpa using hi, rfl⟩
        revert hmem hn
        generalize (List.range len).map D = L
        intro hn hmem
        induction L with
        | nil => cases hmem
        | cons d r ih =>
          simp only [DataW.weightsAll, List.mem_append]
          rcases List.mem_cons.1 hmem with rfl | h
          · exact .inl hn
          · exact .inr (ih h)))
      exact ⟨y, by rw [h1, hcs], hok⟩)
    obtain ⟨h1, h2⟩ := rd_rows (size := 2) (cap := cap) (C := fun i => wr (O i)) (by omega) (fun i hi => (hO i hi).1)
    have hf : (List.range len).flatMap (fun i => wr (O i)) = wrs ((List.range len).map O) := by simp [wrs, List.flatMap_map]
    rw [hf] at h1
    refine ⟨(List.range len).map O, by simpa using h1, ?_, fun y hy => ?_⟩
    · have hwt := hw ((len + (m - len)) * 24) (by rw [hx]; simp [DataW.weights, Try.underlying42, show Try.prog.bytesOf 56 = 24 by kernel_rfl])
      simp [reachBytes] at hwt
      simp; omega
    · obtain ⟨i, hi, rfl⟩ := List.mem_map.1 hy
      exact (hO i (by simpa using hi)).2
end
end Go.Proofs.Ytdapkfppcaaohaa
