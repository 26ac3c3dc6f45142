/- The device's functions walked: New, Corrupt. -/
import Derived.Test.YtdapkfppcaaohaaDevF
namespace Go.Proofs.Ytdapkfppcaaohaa
open Go Go.RowKit
set_option linter.all false
set_option maxRecDepth 100000

def geoOk (b n : Int) : Prop := 16 ≤ b ∧ b ≤ 4096 ∧ 1 ≤ n ∧ n ≤ 8
instance (b n : Int) : Decidable (geoOk b n) := by unfold geoOk; infer_instance
def Dev.fresh (B N : Nat) : Dev := ⟨0, [], 0, 0, B, N, fun _ => none, [], false, 0, 0⟩

theorem check_ret (b n : Int) (w : World) : Ret Try.prog 41 [.agg #[I b, I n]] w fun v w' => v = I (if geoOk b n then 0 else 1) ∧ Ext w w' := by
  refine ret_of_run (e := [(0, _)]) Try.func41 rfl Try.ntmps41 rfl rfl ?_
  refine run_seq ?_
  refine run_reg rfl ?_
  refine rValP rfl rfl (pbx rfl rfl) ?_
  rintro _ w1 ⟨b1, rfl, hb1, hx1, hB1⟩
  by_cases hg : geoOk b n
  · obtain ⟨g1, g2, g3, g4⟩ := hg
    refine rVal rfl rfl (yas rfl) ?_
    refine rEnd ?_
    refine run_seq ?_
    refine run_seq ?_
    refine run_reg rfl ?_
    refine rVal rfl rfl (yfa fl68_0 rfl) ?_
    refine rVal rfl rfl (yld Try.underlying3 rfl rfl hB1 rfl) ?_
    refine rVal rfl rfl (ylt rfl rfl) ?_
    refine rFalse (by (first | exact fun h => h rfl | assumption | omega)) ?_
    refine rVal rfl rfl (ymv rfl) ?_
    refine rVal rfl rfl (yfa fl68_0 rfl) ?_
    refine rVal rfl rfl (yld Try.underlying3 rfl rfl hB1 rfl) ?_
    refine rVal rfl rfl (ygt rfl rfl) ?_
    refine rFalse (by (first | exact fun h => h rfl | assumption | omega)) ?_
    refine rVal rfl rfl (ypF rfl rfl) ?_
    refine rVal rfl rfl (ymv rfl) ?_
    refine rVal rfl rfl (yfa fl68_1 rfl) ?_
    refine rVal rfl rfl (yld Try.underlying3 rfl rfl hB1 rfl) ?_
    refine rVal rfl rfl (ylt rfl rfl) ?_
    refine rFalse (by (first | exact fun h => h rfl | assumption | omega)) ?_
    refine rVal rfl rfl (ypF rfl rfl) ?_
    refine rVal rfl rfl (ymv rfl) ?_
    refine rVal rfl rfl (yfa fl68_1 rfl) ?_
    refine rVal rfl rfl (yld Try.underlying3 rfl rfl hB1 rfl) ?_
    refine rVal rfl rfl (ygt rfl rfl) ?_
    refine rFalse (by (first | exact fun h => h rfl | assumption | omega)) ?_
    refine rVal rfl rfl (ypF rfl rfl) ?_
    refine rEnd ?_
    refine run_false rfl ?_
    refine run_skip ?_
    refine run_seq ?_
    refine run_reg rfl ?_
    refine rVal rfl rfl (yas rfl) ?_
    refine rEnd ?_
    refine run_ret Try.func41 rfl ?_
    exact ⟨_, rfl, by rw [if_pos ⟨g1, g2, g3, g4⟩]; rfl, hx1⟩
  · skip
    refine rVal rfl rfl (yas rfl) ?_
    refine rEnd ?_
    refine run_seq ?_
    refine run_seq ?_
    refine run_reg rfl ?_
    refine rVal rfl rfl (yfa fl68_0 rfl) ?_
    refine rVal rfl rfl (yld Try.underlying3 rfl rfl hB1 rfl) ?_
    refine rVal rfl rfl (ylt rfl rfl) ?_
    refine rVal_if (fun h1 => ?_) (fun h1 => ?_)
    · skip
      refine rVal rfl rfl (ymv rfl) ?_
      refine rSkip rfl rfl ?_
      refine rSkip rfl rfl ?_
      refine rSkip rfl rfl ?_
      refine rVal rfl rfl (ypT rfl rfl) ?_
      refine rVal rfl rfl (ymv rfl) ?_
      refine rSkip rfl rfl ?_
      refine rSkip rfl rfl ?_
      refine rSkip rfl rfl ?_
      refine rVal rfl rfl (ypT rfl rfl) ?_
      refine rVal rfl rfl (ymv rfl) ?_
      refine rSkip rfl rfl ?_
      refine rSkip rfl rfl ?_
      refine rSkip rfl rfl ?_
      refine rVal rfl rfl (ypT rfl rfl) ?_
      refine rEnd ?_
      refine run_true rfl ?_
      refine run_seq ?_
      refine run_reg rfl ?_
      refine rVal rfl rfl (yas rfl) ?_
      refine rEnd ?_
      refine run_ret Try.func41 rfl ?_
      exact ⟨_, rfl, by rw [if_neg hg]; rfl, hx1⟩
    · skip
      refine rVal rfl rfl (ymv rfl) ?_
      refine rVal rfl rfl (yfa fl68_0 rfl) ?_
      refine rVal rfl rfl (yld Try.underlying3 rfl rfl hB1 rfl) ?_
      refine rVal rfl rfl (ygt rfl rfl) ?_
      refine rVal rfl rfl (ypF rfl rfl) ?_
      refine rVal_if (fun h2 => ?_) (fun h2 => ?_)
      · skip
        refine rVal rfl rfl (ymv rfl) ?_
        refine rSkip rfl rfl ?_
        refine rSkip rfl rfl ?_
        refine rSkip rfl rfl ?_
        refine rVal rfl rfl (ypT rfl rfl) ?_
        refine rVal rfl rfl (ymv rfl) ?_
        refine rSkip rfl rfl ?_
        refine rSkip rfl rfl ?_
        refine rSkip rfl rfl ?_
        refine rVal rfl rfl (ypT rfl rfl) ?_
        refine rEnd ?_
        refine run_true rfl ?_
        refine run_seq ?_
        refine run_reg rfl ?_
        refine rVal rfl rfl (yas rfl) ?_
        refine rEnd ?_
        refine run_ret Try.func41 rfl ?_
        exact ⟨_, rfl, by rw [if_neg hg]; rfl, hx1⟩
      · skip
        refine rVal rfl rfl (ymv rfl) ?_
        refine rVal rfl rfl (yfa fl68_1 rfl) ?_
        refine rVal rfl rfl (yld Try.underlying3 rfl rfl hB1 rfl) ?_
        refine rVal rfl rfl (ylt rfl rfl) ?_
        refine rVal rfl rfl (ypF rfl rfl) ?_
        refine rVal_if (fun h3 => ?_) (fun h3 => ?_)
        · skip
          refine rVal rfl rfl (ymv rfl) ?_
          refine rSkip rfl rfl ?_
          refine rSkip rfl rfl ?_
          refine rSkip rfl rfl ?_
          refine rVal rfl rfl (ypT rfl rfl) ?_
          refine rEnd ?_
          refine run_true rfl ?_
          refine run_seq ?_
          refine run_reg rfl ?_
          refine rVal rfl rfl (yas rfl) ?_
          refine rEnd ?_
          refine run_ret Try.func41 rfl ?_
          exact ⟨_, rfl, by rw [if_neg hg]; rfl, hx1⟩
        · skip
          have : 8 < n := by unfold geoOk at hg; omega
          refine rVal rfl rfl (ymv rfl) ?_
          refine rVal rfl rfl (yfa fl68_1 rfl) ?_
          refine rVal rfl rfl (yld Try.underlying3 rfl rfl hB1 rfl) ?_
          refine rVal rfl rfl (ygt rfl rfl) ?_
          refine rTrue (by (first | rfl | assumption | omega | decide)) ?_
          refine rVal rfl rfl (ypF rfl rfl) ?_
          refine rEnd ?_
          refine run_true rfl ?_
          refine run_seq ?_
          refine run_reg rfl ?_
          refine rVal rfl rfl (yas rfl) ?_
          refine rEnd ?_
          refine run_ret Try.func41 rfl ?_
          exact ⟨_, rfl, by rw [if_neg hg]; rfl, hx1⟩

theorem new_ok (B N : Nat) (w : World) (hg : geoOk B N) : Ret Try.prog 32 [.agg #[I (B : Int), I (N : Int)]] w fun v w' => ∃ p m, v = .tuple #[ptr p 0, I 0] ∧ DevM w' p m (.slice none 0 0) (.slice none 0 0) (Dev.fresh B N) ∧ Ext w w' ∧ w.heap.size ≤ p ∧ w.heap.size ≤ m := by
  obtain ⟨g1, g2, g3, g4⟩ := hg
  refine ret_of_run (e := [(0, _)]) Try.func32 rfl Try.ntmps32 rfl rfl ?_
  refine run_seq ?_
  refine run_reg rfl ?_
  refine rValP rfl rfl (pbx rfl rfl) ?_
  rintro _ w1 ⟨b1, rfl, hb1, hx1, hB1⟩
  refine rVal rfl rfl (yas rfl) ?_
  refine rVal rfl rfl (yas rfl) ?_
  refine rEnd ?_
  refine run_seq ?_
  refine run_seq ?_
  refine run_reg rfl ?_
  refine rVal rfl rfl (yldA Try.underlying68 rfl ti68 rfl (Blk.cells (n := 2) hB1 (news := [_, _]) rfl) rfl) ?_
  refine rCall rfl rfl (yc (args := [.tmp 5]) cf41 rfl) (check_ret B N _) ?_
  rintro _ w2 ⟨rfl, hx2⟩
  rw [if_pos ⟨g1, g2, g3, g4⟩]
  replace hB1 := hx2.blk hB1
  refine rVal rfl rfl (yas rfl) ?_
  refine rEnd ?_
  refine run_seq ?_
  refine run_reg rfl ?_
  refine rVal rfl rfl (ymv rfl) ?_
  refine rVal rfl rfl (yne rfl rfl) ?_
  refine rEnd ?_
  refine run_if rfl (fun hz => ?_) (fun hz => ?_)
  · skip
    exact absurd hz (by decide)
  · skip
    refine run_skip ?_
    refine run_seq ?_
    refine run_reg rfl ?_
    refine rVal rfl rfl (yldA Try.underlying68 rfl ti68 rfl (Blk.cells (n := 2) hB1 (news := [_, _]) rfl) rfl) ?_
    refine rValP rfl rfl (pmm) ?_
    rintro _ w3 ⟨m, rfl, hm, hx3, hM3⟩
    refine rVal rfl rfl (ybd (parts := [(1, .tmp 10), (2, .tmp 11)]) (cs := [_, _, _, _, _, _, _, _, _, _, _]) ti108 rfl sp108 rfl rfl) ?_
    refine rValP rfl rfl (pbx rfl rfl) ?_
    rintro _ w4 ⟨p, rfl, hp, hx4, hB4⟩
    refine rVal rfl rfl (yas rfl) ?_
    refine rVal rfl rfl (yas rfl) ?_
    refine rEnd ?_
    refine run_ret Try.func32 rfl ?_
    have hs1 := hx1.size
    have hs2 := hx2.size
    have hs3 := hx3.size
    have hMM : MapL KI w4 m [] := ⟨⟨#[], 0, hx4.heap hM3 id, rfl⟩, by simp⟩
    refine ⟨_, rfl, p, m, rfl, ⟨hB4, ⟨[], hMM, fun n => rfl⟩, Sl.nil w4 _ _, Sl.nil w4 _ _, ?_⟩, ((hx1.trans hx2).trans hx3).trans hx4, by omega, by omega⟩
    exact ⟨⟨by show 16 ≤ B; omega, by show B ≤ 4096; omega⟩, ⟨by show 1 ≤ N; omega, by show N ≤ 8; omega⟩, (by simp [Dev.fresh]), (fun n s h => by cases h), (fun x hx => by cases hx), (by simp [Dev.fresh]), (by simp [Dev.fresh])⟩

theorem new_bad (b n : Int) (w : World) (hg : ¬ geoOk b n) : Ret Try.prog 32 [.agg #[I b, I n]] w fun v w' => v = .tuple #[.pointer none, I 1] ∧ Ext w w' := by
  refine ret_of_run (e := [(0, _)]) Try.func32 rfl Try.ntmps32 rfl rfl ?_
  refine run_seq ?_
  refine run_reg rfl ?_
  refine rValP rfl rfl (pbx rfl rfl) ?_
  rintro _ w1 ⟨b1, rfl, hb1, hx1, hB1⟩
  refine rVal rfl rfl (yas rfl) ?_
  refine rVal rfl rfl (yas rfl) ?_
  refine rEnd ?_
  refine run_seq ?_
  refine run_seq ?_
  refine run_reg rfl ?_
  refine rVal rfl rfl (yldA Try.underlying68 rfl ti68 rfl (Blk.cells (n := 2) hB1 (news := [_, _]) rfl) rfl) ?_
  refine rCall rfl rfl (yc (args := [.tmp 5]) cf41 rfl) (check_ret b n _) ?_
  rintro _ w2 ⟨rfl, hx2⟩
  rw [if_neg hg]
  refine rVal rfl rfl (yas rfl) ?_
  refine rEnd ?_
  refine run_seq ?_
  refine run_reg rfl ?_
  refine rVal rfl rfl (ymv rfl) ?_
  refine rVal rfl rfl (yne rfl rfl) ?_
  refine rEnd ?_
  refine run_if rfl (fun hz => ?_) (fun hz => ?_)
  · skip
    refine run_seq ?_
    refine run_reg rfl ?_
    refine rVal rfl rfl (ymv rfl) ?_
    refine rVal rfl rfl (yas rfl) ?_
    refine rVal rfl rfl (yas rfl) ?_
    refine rEnd ?_
    refine run_ret Try.func32 rfl ?_
    exact ⟨_, rfl, rfl, hx1.trans hx2⟩
  · skip
    exact absurd (by decide) hz

def over (s : Bytes) (at' : Nat) (d : Bytes) : Bytes := s.take at' ++ d ++ s.drop (at' + d.length)
theorem over_length (s d : Bytes) (at' : Nat) (h : at' + d.length ≤ s.length) : (over s at' d).length = s.length := by
  simp [over]; omega

theorem over_ret (s d : Bytes) (at' b6 b7 : Nat) (T T' : TypeId) (w : World) (h6 : Blk w b6 [I (at' : Int)] T) (h7 : Blk w b7 [S d] T') (h : at' + d.length ≤ s.length) (hs : s.length ≤ 1000000000) :
    Ret Try.prog 68 [S s, ptr b6 0, ptr b7 0] w fun v w' => v = S (over s at' d) ∧ Ext w w' := by
  refine ret_of_run (e := [(0, _), (1, _), (2, _)]) Try.func68 rfl Try.ntmps68 rfl rfl ?_
  refine run_seq ?_
  refine run_reg rfl ?_
  refine rVal rfl rfl (yas rfl) ?_
  refine rEnd ?_
  refine run_seq ?_
  refine run_draw (fun w' => Ext w w') (by kernel_rfl) rfl ?_
  refine hTake (i := 0) rfl (by kernel_rfl) rfl rfl (fun _ hS => ymv rfl) (Ext.drew0 w) ?_
  refine hTake (i := 1) rfl (by kernel_rfl) rfl rfl (fun _ hS => (by first | exact yld Try.underlying3 rfl rfl (Ext.blk hS h6) rfl | exact yld Try.underlying3 rfl rfl (Ext.blk hS h7) rfl)) (Ext.drew0 w) ?_
  refine hTake (i := 2) rfl (by kernel_rfl) rfl rfl (fun _ hS => yslSt Try.underlying9 rfl rfl (by omega)) (Ext.drew0 w) ?_
  refine hTake (i := 3) rfl (by kernel_rfl) rfl rfl (fun _ hS => (by first | exact yld Try.underlying9 rfl rfl (Ext.blk hS h6) rfl | exact yld Try.underlying9 rfl rfl (Ext.blk hS h7) rfl)) (Ext.drew0 w) ?_
  refine hTake (i := 4) rfl (by kernel_rfl) rfl rfl (fun _ hS => ycatS rfl rfl (by first | omega | (simp; done) | (simp; omega))) (Ext.drew0 w) ?_
  refine hTake (i := 5) rfl (by kernel_rfl) rfl rfl (fun _ hS => ymv rfl) (Ext.drew0 w) ?_
  refine hTake (i := 6) rfl (by kernel_rfl) rfl rfl (fun _ hS => (by first | exact yld Try.underlying3 rfl rfl (Ext.blk hS h6) rfl | exact yld Try.underlying3 rfl rfl (Ext.blk hS h7) rfl)) (Ext.drew0 w) ?_
  refine hTake (i := 7) rfl (by kernel_rfl) rfl rfl (fun _ hS => (by first | exact yld Try.underlying9 rfl rfl (Ext.blk hS h6) rfl | exact yld Try.underlying9 rfl rfl (Ext.blk hS h7) rfl)) (Ext.drew0 w) ?_
  refine hTake (i := 8) rfl (by kernel_rfl) rfl rfl (fun _ hS => ylnS Try.underlying9 rfl) (Ext.drew0 w) ?_
  refine hTake (i := 9) rfl (by kernel_rfl) rfl rfl (fun _ hS => yad rfl rfl (by omega)) (Ext.drew0 w) ?_
  refine hTake (i := 10) rfl (by kernel_rfl) rfl rfl (fun _ hS => yslSf Try.underlying9 rfl rfl (by omega)) (Ext.drew0 w) ?_
  refine hTake (i := 11) rfl (by kernel_rfl) rfl rfl (fun _ hS => ycatS rfl rfl (by first | omega | (simp; done) | (simp; omega))) (Ext.drew0 w) ?_
  refine hTake (i := 12) rfl (by kernel_rfl) rfl rfl (fun _ hS => yas rfl) (Ext.drew0 w) ?_
  refine hEnd (by kernel_rfl) ?_
  refine run_ret Try.func68 rfl ?_
  exact ⟨_, rfl, rfl, Ext.drew0 w⟩

def Dev.corOk (D : Dev) (n at' : Int) (d : Bytes) : Prop := D.has n = true ∧ 0 ≤ at' ∧ at' + (d.length : Int) ≤ ((512 * D.N : Nat) : Int)
instance (D : Dev) (n at' : Int) (d : Bytes) : Decidable (D.corOk n at' d) := by unfold Dev.corOk; infer_instance
def corW (n : Int) (a : Nat) (d : Bytes) (x : Int × Bytes) : Int × Bytes := if x.1 = n then (x.1, over x.2 a d) else x
/-- The first i writes of the cache have been overwritten. -/
def corTo (n : Int) (a : Nat) (d : Bytes) (l : List (Int × Bytes)) (i : Nat) : List (Int × Bytes) := (l.take i).map (corW n a d) ++ l.drop i
@[simp] theorem corTo_length (n : Int) (a : Nat) (d : Bytes) (l : List (Int × Bytes)) (i : Nat) : (corTo n a d l i).length = l.length := by simp [corTo]; omega
theorem corTo_zero (n : Int) (a : Nat) (d : Bytes) (l : List (Int × Bytes)) : corTo n a d l 0 = l := by simp [corTo]
theorem corTo_all (n : Int) (a : Nat) (d : Bytes) (l : List (Int × Bytes)) : corTo n a d l l.length = l.map (corW n a d) := by simp [corTo]
theorem corTo_succ (n : Int) (a : Nat) (d : Bytes) (l : List (Int × Bytes)) (i : Nat) (h : i < l.length) : corTo n a d l (i + 1) = (corTo n a d l i).set i (corW n a d l[i]) := by
  have e1 : l.take (i + 1) = l.take i ++ [l[i]] := by rw [List.take_succ, List.getElem?_eq_getElem h]; rfl
  have e2 : l.drop i = l[i] :: l.drop (i + 1) := List.drop_eq_getElem_cons h
  have e : i - (List.map (corW n a d) (List.take i l)).length = 0 := by simp; omega
  unfold corTo
  rw [List.set_append_right _ _ (by simp; omega), e, e1, e2, List.set_cons_zero, List.map_append, List.append_assoc]
  rfl
theorem corTo_get (n : Int) (a : Nat) (d : Bytes) (l : List (Int × Bytes)) (i : Nat) (h : i < l.length) : (corTo n a d l i)[i]? = some l[i] := by
  simp only [corTo]
  rw [List.getElem?_append_right (by simp; omega)]
  simp only [List.length_map, List.length_take, List.getElem?_drop]
  rw [show i + (i - min i l.length) = i by omega, List.getElem?_eq_getElem h]
theorem wrs_set : ∀ (l : List (Int × Bytes)) (i : Nat) (x : Int × Bytes) (s : Bytes), l[i]? = some x → (wrs l).set (i * 2 + 1) (S s) = wrs (l.set i (x.1, s))
  | [], _, _, _, h => by simp at h
  | y :: r, 0, x, s, h => by
    simp at h; subst h; simp [wrs, wr, List.flatMap_cons]
  | y :: r, i + 1, x, s, h => by
    have ih := wrs_set r i x s (by simpa using h)
    have e : wrs (y :: r) = I y.1 :: S y.2 :: wrs r := by simp [wrs, wr, List.flatMap_cons]
    have e' : wrs (y :: r.set i (x.1, s)) = I y.1 :: S y.2 :: wrs (r.set i (x.1, s)) := by simp [wrs, wr, List.flatMap_cons]
    rw [List.set_cons_succ, e, e', ← ih, show (i + 1) * 2 + 1 = (i * 2 + 1) + 1 + 1 by omega]
    simp
def Dev.corrupt (D : Dev) (n at' : Int) (d : Bytes) : Dev × Int :=
  if D.corOk n at' d then ({ D with sf := upd D.sf n (over (D.kept n) at'.toNat d), cache := D.cache.map (corW n at'.toNat d) }, 0) else (D, 1)

theorem corrupt_ret {w : World} {p m : Nat} {kp ca : Value} {D : Dev} (n at' : Int) (d : Bytes) (h : DevM w p m kp ca D) (hc : D.cache.length < 1000000000000) (hat : at' ≤ 9223372036854775807) (hd : d.length ≤ 9223372036854775807) :
    Ret Try.prog 36 [ptr p 0, I n, I at', S d] w fun v w' => v = I (D.corrupt n at' d).2 ∧ DevR w p m kp ca (D.corrupt n at' d).1 w' := by
  have hN := h.ok.hN
  refine ret_of_run (e := [(0, _), (1, _), (2, _), (3, _)]) Try.func36 rfl Try.ntmps36 rfl rfl ?_
  refine run_seq ?_
  refine run_reg rfl ?_
  refine rValP rfl rfl (pbx rfl rfl) ?_
  rintro _ w1 ⟨b6, rfl, hb6, hx1, hB6⟩
  refine rValP rfl rfl (pbx rfl rfl) ?_
  rintro _ w2 ⟨b7, rfl, hb7, hx2, hB7⟩
  replace hB6 := hx2.blk hB6
  have hx12 := hx1.trans hx2
  have h2 := h.ext hx12
  refine rVal rfl rfl (yas rfl) ?_
  refine rEnd ?_
  refine run_seq ?_
  refine run_block ?_
  refine run_seq ?_
  refine run_reg rfl ?_
  refine rVal rfl rfl (ymv rfl) ?_
  refine rVal rfl rfl (yeqpN Try.underlying46 rfl rfl) ?_
  refine rVal rfl rfl (yas rfl) ?_
  refine rEnd ?_
  refine run_false rfl ?_
  refine run_seq ?_
  have hd2 : DevM w2.drew p m kp ca D := h2.ext (Ext.drew0 w2)
  refine run_draw (fun w' => Ext w2 w') (by kernel_rfl) rfl ?_
  refine hTake (i := 0) rfl (by kernel_rfl) rfl rfl (fun _ hS => ymv rfl) (Ext.drew0 w2) ?_
  refine hTake (i := 1) rfl (by kernel_rfl) rfl rfl (fun _ hS => ymv rfl) (Ext.drew0 w2) ?_
  refine hOne (i := 2) (by kernel_rfl) ?_
  refine nCall (i := 2) rfl rfl rfl (yc (args := [.tmp 15, .tmp 16]) cf67 rfl) (has_ret n hd2) ?_
  rintro _ w3 ⟨rfl, rfl⟩
  refine ⟨Ext.drew0 w2, ?_⟩
  cases hh : D.has n with
  | false =>
    refine hTake (i := 3) rfl (by kernel_rfl) rfl rfl (fun _ hS => (by first | exact yntd rfl | exact ynt rfl)) (Ext.drew0 w2) ?_
    refine hTake (i := 4) rfl (by kernel_rfl) rfl rfl (fun _ hS => ymv rfl) (Ext.drew0 w2) ?_
    refine hSkip (i := 5) rfl (by kernel_rfl) rfl rfl (Ext.drew0 w2) ?_
    refine hSkip (i := 6) rfl (by kernel_rfl) rfl rfl (Ext.drew0 w2) ?_
    refine hTake (i := 7) rfl (by kernel_rfl) rfl rfl (fun _ hS => ypT rfl rfl) (Ext.drew0 w2) ?_
    refine hTake (i := 8) rfl (by kernel_rfl) rfl rfl (fun _ hS => ymv rfl) (Ext.drew0 w2) ?_
    refine hSkip (i := 9) rfl (by kernel_rfl) rfl rfl (Ext.drew0 w2) ?_
    refine hSkip (i := 10) rfl (by kernel_rfl) rfl rfl (Ext.drew0 w2) ?_
    refine hSkip (i := 11) rfl (by kernel_rfl) rfl rfl (Ext.drew0 w2) ?_
    refine hSkip (i := 12) rfl (by kernel_rfl) rfl rfl (Ext.drew0 w2) ?_
    refine hTake (i := 13) rfl (by kernel_rfl) rfl rfl (fun _ hS => ypT rfl rfl) (Ext.drew0 w2) ?_
    refine hTake (i := 14) rfl (by kernel_rfl) rfl rfl (fun _ hS => ymv rfl) (Ext.drew0 w2) ?_
    refine hSkip (i := 15) rfl (by kernel_rfl) rfl rfl (Ext.drew0 w2) ?_
    refine hSkip (i := 16) rfl (by kernel_rfl) rfl rfl (Ext.drew0 w2) ?_
    refine hSkip (i := 17) rfl (by kernel_rfl) rfl rfl (Ext.drew0 w2) ?_
    refine hSkip (i := 18) rfl (by kernel_rfl) rfl rfl (Ext.drew0 w2) ?_
    refine hSkip (i := 19) rfl (by kernel_rfl) rfl rfl (Ext.drew0 w2) ?_
    refine hSkip (i := 20) rfl (by kernel_rfl) rfl rfl (Ext.drew0 w2) ?_
    refine hSkip (i := 21) rfl (by kernel_rfl) rfl rfl (Ext.drew0 w2) ?_
    refine hTake (i := 22) rfl (by kernel_rfl) rfl rfl (fun _ hS => ypT rfl rfl) (Ext.drew0 w2) ?_
    refine hTake (i := 23) rfl (by kernel_rfl) rfl rfl (fun _ hS => yas rfl) (Ext.drew0 w2) ?_
    refine hEnd (by kernel_rfl) ?_
    refine Run.sub (e := [(0, _), (1, _), (6, _), (7, _), (8, _), (14, _)]) ?_ (by repeat (first | exact Sub.nil | refine Sub.cons rfl ?_))
    refine run_true rfl ?_
    refine run_seq ?_
    refine run_reg rfl ?_
    refine rVal rfl rfl (yas rfl) ?_
    refine rEnd ?_
    refine run_ret Try.func36 rfl ?_
    have e : D.corrupt n at' d = (D, 1) := if_neg fun h => by have := h.1; rw [hh] at this; cases this
    rw [e]
    exact ⟨_, rfl, rfl, DevR.same hd2 (hx12.trans (Ext.drew0 w2))⟩
  | true =>
    refine hTake (i := 3) rfl (by kernel_rfl) rfl rfl (fun _ hS => (by first | exact yntd rfl | exact ynt rfl)) (Ext.drew0 w2) ?_
    refine hTake (i := 4) rfl (by kernel_rfl) rfl rfl (fun _ hS => ymv rfl) (Ext.drew0 w2) ?_
    refine hTake (i := 5) rfl (by kernel_rfl) rfl rfl (fun _ hS => (by first | exact yld Try.underlying3 rfl rfl (Ext.blk hS hB6) rfl | exact yld Try.underlying3 rfl rfl (Ext.blk hS hB7) rfl)) (Ext.drew0 w2) ?_
    refine hTake (i := 6) rfl (by kernel_rfl) rfl rfl (fun _ hS => ylt rfl rfl) (Ext.drew0 w2) ?_
    refine rh_if (fun hneg => ?_) (fun hneg => ?_)
    · skip
      refine hTake (i := 7) rfl (by kernel_rfl) rfl rfl (fun _ hS => ypF rfl rfl) (Ext.drew0 w2) ?_
      refine hTake (i := 8) rfl (by kernel_rfl) rfl rfl (fun _ hS => ymv rfl) (Ext.drew0 w2) ?_
      refine hSkip (i := 9) rfl (by kernel_rfl) rfl rfl (Ext.drew0 w2) ?_
      refine hSkip (i := 10) rfl (by kernel_rfl) rfl rfl (Ext.drew0 w2) ?_
      refine hSkip (i := 11) rfl (by kernel_rfl) rfl rfl (Ext.drew0 w2) ?_
      refine hSkip (i := 12) rfl (by kernel_rfl) rfl rfl (Ext.drew0 w2) ?_
      refine hTake (i := 13) rfl (by kernel_rfl) rfl rfl (fun _ hS => ypT rfl rfl) (Ext.drew0 w2) ?_
      refine hTake (i := 14) rfl (by kernel_rfl) rfl rfl (fun _ hS => ymv rfl) (Ext.drew0 w2) ?_
      refine hSkip (i := 15) rfl (by kernel_rfl) rfl rfl (Ext.drew0 w2) ?_
      refine hSkip (i := 16) rfl (by kernel_rfl) rfl rfl (Ext.drew0 w2) ?_
      refine hSkip (i := 17) rfl (by kernel_rfl) rfl rfl (Ext.drew0 w2) ?_
      refine hSkip (i := 18) rfl (by kernel_rfl) rfl rfl (Ext.drew0 w2) ?_
      refine hSkip (i := 19) rfl (by kernel_rfl) rfl rfl (Ext.drew0 w2) ?_
      refine hSkip (i := 20) rfl (by kernel_rfl) rfl rfl (Ext.drew0 w2) ?_
      refine hSkip (i := 21) rfl (by kernel_rfl) rfl rfl (Ext.drew0 w2) ?_
      refine hTake (i := 22) rfl (by kernel_rfl) rfl rfl (fun _ hS => ypT rfl rfl) (Ext.drew0 w2) ?_
      refine hTake (i := 23) rfl (by kernel_rfl) rfl rfl (fun _ hS => yas rfl) (Ext.drew0 w2) ?_
      refine hEnd (by kernel_rfl) ?_
      refine Run.sub (e := [(0, _), (1, _), (6, _), (7, _), (8, _), (14, _)]) ?_ (by repeat (first | exact Sub.nil | refine Sub.cons rfl ?_))
      refine run_true rfl ?_
      refine run_seq ?_
      refine run_reg rfl ?_
      refine rVal rfl rfl (yas rfl) ?_
      refine rEnd ?_
      refine run_ret Try.func36 rfl ?_
      have e : D.corrupt n at' d = (D, 1) := if_neg fun h => by have := h.2.1; omega
      rw [e]
      exact ⟨_, rfl, rfl, DevR.same hd2 (hx12.trans (Ext.drew0 w2))⟩
    · skip
      refine hTake (i := 7) rfl (by kernel_rfl) rfl rfl (fun _ hS => ypF rfl rfl) (Ext.drew0 w2) ?_
      refine hTake (i := 8) rfl (by kernel_rfl) rfl rfl (fun _ hS => ymv rfl) (Ext.drew0 w2) ?_
      refine hTake (i := 9) rfl (by kernel_rfl) rfl rfl (fun _ hS => (by first | exact yld Try.underlying3 rfl rfl (Ext.blk hS hB6) rfl | exact yld Try.underlying3 rfl rfl (Ext.blk hS hB7) rfl)) (Ext.drew0 w2) ?_
      refine hTake (i := 10) rfl (by kernel_rfl) rfl rfl (fun _ hS => ymv rfl) (Ext.drew0 w2) ?_
      refine hOne (i := 11) (by kernel_rfl) ?_
      refine nCall (i := 11) rfl rfl rfl (yc (args := [.tmp 25]) cf46 rfl) (size_ret hd2) ?_
      rintro _ w4 ⟨rfl, rfl⟩
      refine ⟨Ext.drew0 w2, ?_⟩
      refine hTake (i := 12) rfl (by kernel_rfl) rfl rfl (fun _ hS => ygt rfl rfl) (Ext.drew0 w2) ?_
      refine rh_if (fun hbig => ?_) (fun hbig => ?_)
      · skip
        refine hTake (i := 13) rfl (by kernel_rfl) rfl rfl (fun _ hS => ypF rfl rfl) (Ext.drew0 w2) ?_
        refine hTake (i := 14) rfl (by kernel_rfl) rfl rfl (fun _ hS => ymv rfl) (Ext.drew0 w2) ?_
        refine hSkip (i := 15) rfl (by kernel_rfl) rfl rfl (Ext.drew0 w2) ?_
        refine hSkip (i := 16) rfl (by kernel_rfl) rfl rfl (Ext.drew0 w2) ?_
        refine hSkip (i := 17) rfl (by kernel_rfl) rfl rfl (Ext.drew0 w2) ?_
        refine hSkip (i := 18) rfl (by kernel_rfl) rfl rfl (Ext.drew0 w2) ?_
        refine hSkip (i := 19) rfl (by kernel_rfl) rfl rfl (Ext.drew0 w2) ?_
        refine hSkip (i := 20) rfl (by kernel_rfl) rfl rfl (Ext.drew0 w2) ?_
        refine hSkip (i := 21) rfl (by kernel_rfl) rfl rfl (Ext.drew0 w2) ?_
        refine hTake (i := 22) rfl (by kernel_rfl) rfl rfl (fun _ hS => ypT rfl rfl) (Ext.drew0 w2) ?_
        refine hTake (i := 23) rfl (by kernel_rfl) rfl rfl (fun _ hS => yas rfl) (Ext.drew0 w2) ?_
        refine hEnd (by kernel_rfl) ?_
        refine Run.sub (e := [(0, _), (1, _), (6, _), (7, _), (8, _), (14, _)]) ?_ (by repeat (first | exact Sub.nil | refine Sub.cons rfl ?_))
        refine run_true rfl ?_
        refine run_seq ?_
        refine run_reg rfl ?_
        refine rVal rfl rfl (yas rfl) ?_
        refine rEnd ?_
        refine run_ret Try.func36 rfl ?_
        have e : D.corrupt n at' d = (D, 1) := if_neg fun h => by have := h.2.2; omega
        rw [e]
        exact ⟨_, rfl, rfl, DevR.same hd2 (hx12.trans (Ext.drew0 w2))⟩
      · skip
        refine hTake (i := 13) rfl (by kernel_rfl) rfl rfl (fun _ hS => ypF rfl rfl) (Ext.drew0 w2) ?_
        refine hTake (i := 14) rfl (by kernel_rfl) rfl rfl (fun _ hS => ymv rfl) (Ext.drew0 w2) ?_
        refine hTake (i := 15) rfl (by kernel_rfl) rfl rfl (fun _ hS => (by first | exact yld Try.underlying9 rfl rfl (Ext.blk hS hB6) rfl | exact yld Try.underlying9 rfl rfl (Ext.blk hS hB7) rfl)) (Ext.drew0 w2) ?_
        refine hTake (i := 16) rfl (by kernel_rfl) rfl rfl (fun _ hS => ylnS Try.underlying9 rfl) (Ext.drew0 w2) ?_
        refine hTake (i := 17) rfl (by kernel_rfl) rfl rfl (fun _ hS => ymv rfl) (Ext.drew0 w2) ?_
        refine hTake (i := 19) rfl (by kernel_rfl) rfl rfl (fun _ hS => (by first | exact yld Try.underlying3 rfl rfl (Ext.blk hS hB6) rfl | exact yld Try.underlying3 rfl rfl (Ext.blk hS hB7) rfl)) (Ext.drew0 w2) ?_
        refine hOne (i := 18) (by kernel_rfl) ?_
        refine nCall (i := 18) rfl rfl rfl (yc (args := [.tmp 32]) cf46 rfl) (size_ret hd2) ?_
        rintro _ w5 ⟨rfl, rfl⟩
        refine ⟨Ext.drew0 w2, ?_⟩
        refine hTake (i := 20) rfl (by kernel_rfl) rfl rfl (fun _ hS => ysb rfl rfl (by omega)) (Ext.drew0 w2) ?_
        refine hTake (i := 21) rfl (by kernel_rfl) rfl rfl (fun _ hS => ygt rfl rfl) (Ext.drew0 w2) ?_
        refine hTake (i := 22) rfl (by kernel_rfl) rfl rfl (fun _ hS => ypF rfl rfl) (Ext.drew0 w2) ?_
        refine hTake (i := 23) rfl (by kernel_rfl) rfl rfl (fun _ hS => yas rfl) (Ext.drew0 w2) ?_
        refine hEnd (by kernel_rfl) ?_
        refine Run.sub (e := [(0, _), (1, _), (6, _), (7, _), (8, _), (14, _)]) ?_ (by repeat (first | exact Sub.nil | refine Sub.cons rfl ?_))
        refine run_if rfl (fun hlong => ?_) (fun hlong => ?_)
        · skip
          refine run_seq ?_
          refine run_reg rfl ?_
          refine rVal rfl rfl (yas rfl) ?_
          refine rEnd ?_
          refine run_ret Try.func36 rfl ?_
          have e : D.corrupt n at' d = (D, 1) := if_neg fun h => by have := h.2.2; omega
          rw [e]
          exact ⟨_, rfl, rfl, DevR.same hd2 (hx12.trans (Ext.drew0 w2))⟩
        · skip
          have hok : D.corOk n at' d := ⟨hh, by omega, by omega⟩
          obtain ⟨a', rfl⟩ : ∃ a' : Nat, at' = (a' : Int) := ⟨at'.toNat, by omega⟩
          obtain ⟨w4, hw4⟩ : ∃ w4, w2.drew = w4 := ⟨_, rfl⟩
          have hx4 : Ext w w4 := by rw [← hw4]; exact hx12.trans (Ext.drew0 w2)
          have hB6' : Blk w4 b6 [I (a' : Int)] 3 := by rw [← hw4]; exact (Ext.drew0 w2).blk hB6
          have hB7' : Blk w4 b7 [S d] 9 := by rw [← hw4]; exact (Ext.drew0 w2).blk hB7
          rw [hw4] at hd2 ⊢
          have hM4 := hd2.blk
          have hmw := hd2.lt m (.inr (.inl rfl))
          refine run_skip ?_
          refine run_inBlock ?_
          refine run_seq ?_
          refine run_reg rfl ?_
          refine rVal rfl rfl (ymf (first := []) (caps := [.tmp 6, .tmp 7]) rfl rfl) ?_
          refine rVal rfl rfl (yas rfl) ?_
          refine rEnd ?_
          refine run_seq ?_
          refine run_draw (fun w' => Kp (fun k => k = m) w4 w') (by kernel_rfl) rfl ?_
          refine hTake (i := 0) rfl (by kernel_rfl) rfl rfl (fun _ hS => ymv rfl) ((Kp.refl _ w4).drew) ?_
          refine hTake (i := 1) rfl (by kernel_rfl) rfl rfl (fun _ hS => (by first | exact ync rfl | exact yncf rfl)) ((Kp.refl _ w4).drew) ?_
          refine hTake (i := 2) rfl (by kernel_rfl) rfl rfl (fun _ hS => yfa fl108_2 rfl) ((Kp.refl _ w4).drew) ?_
          refine hTake (i := 3) rfl (by kernel_rfl) rfl rfl (fun _ hS => yld Try.underlying105 rfl rfl (hS.blk hM4 hd2.pm) rfl) ((Kp.refl _ w4).drew) ?_
          refine hTake (i := 4) rfl (by kernel_rfl) rfl rfl (fun _ hS => ymv rfl) ((Kp.refl _ w4).drew) ?_
          refine hTake (i := 5) rfl (by kernel_rfl) rfl rfl (fun _ hS => ymv rfl) ((Kp.refl _ w4).drew) ?_
          refine hTake (i := 6) rfl (by kernel_rfl) rfl rfl (fun _ hS => ymv rfl) ((Kp.refl _ w4).drew) ?_
          refine hTake (i := 7) rfl (by kernel_rfl) rfl rfl (fun _ hS => ymv rfl) ((Kp.refl _ w4).drew) ?_
          obtain ⟨kv, hkv, hsf⟩ := hd2.map
          have hkl := hd2.ok.kept n
          refine hOne (i := 8) (by kernel_rfl) ?_
          refine nCall (i := 8) rfl rfl rfl (yc (args := [.tmp 45, .tmp 46]) cf69 rfl) (kept_ret n (hd2.ext (Ext.drew0 w4))) ?_
          rintro _ w5 ⟨rfl, hx5⟩
          refine ⟨((Kp.refl _ w4).drew).trans hx5.kp, ?_⟩
          have hx45 := (Ext.drew0 w4).trans hx5
          refine hOne (i := 9) (by kernel_rfl) ?_
          refine nCall (i := 9) rfl rfl rfl (ycv' (args := [.tmp 47]) cf68 rfl rfl) (over_ret (D.kept n) d a' b6 b7 _ _ w5 (hx45.blk hB6') (hx45.blk hB7') (by omega) (by omega)) ?_
          rintro _ w6 ⟨rfl, hx6⟩
          refine ⟨(((Kp.refl _ w4).drew).trans hx5.kp).trans hx6.kp, ?_⟩
          have hx46 := hx45.trans hx6
          refine hOne (i := 10) (by kernel_rfl) ?_
          refine nEffP (i := 10) rfl rfl (zmu (k := n) (K := KI) Try.underlying105 (ky_int Try.underlying3) rfl rfl rfl (hx46.map hkv)) ?_
          rintro w7 ⟨hm7, hk7⟩
          refine ⟨((((Kp.refl _ w4).drew).trans hx5.kp).trans hx6.kp).trans hk7, ?_⟩
          have hk47 := ((((Kp.refl (fun k => k = m) w4).drew).trans hx5.kp).trans hx6.kp).trans hk7
          have hmw0 := h.lt m (.inr (.inl rfl))
          have hd7 := (hd2.ext hx46).put hsf hm7 hk7 (hd2.ok.put (by simpa [Dev.has] using hh) (by rw [over_length _ _ _ (by omega)]; exact hkl))
          have hM7 := hd7.blk
          obtain ⟨ca0, capc, rfl, hca⟩ := hd7.cache.rd.shape
          have hB67 := hk47.blk hB6' (by omega)
          have hB77 := hk47.blk hB7' (by have := hx1.size; omega)
          have hfl := h.lt
          refine hEnd (by kernel_rfl) ?_
          refine run_seq ?_
          refine run_seq ?_
          refine run_reg rfl ?_
          refine rVal rfl rfl (ymv rfl) ?_
          refine rVal rfl rfl ((by first | exact ync rfl | exact yncf rfl)) ?_
          refine rVal rfl rfl (yfa fl108_3 rfl) ?_
          refine rVal rfl rfl (yld Try.underlying106 rfl rfl hM7 rfl) ?_
          refine rVal rfl rfl (yln Try.underlying106 rfl) ?_
          refine rVal rfl rfl (ymv rfl) ?_
          refine rEnd ?_
          refine run_block ?_
          refine run_loop (α := Nat) (0) (fun i => [(0, ptr p 0), (1, I n), (9, .func (.func 68) #[] #[ptr b6 0, ptr b7 0]), (53, I (D.cache.length : Int)), (54, I (i : Int))]) (fun i wi => i ≤ D.cache.length ∧ DevM wi p m kp (.slice ca0 D.cache.length capc) { D with sf := upd D.sf n (over (D.kept n) a' d), cache := corTo n a' d D.cache i } ∧ Kp (fun k => (Value.slice ca0 D.cache.length capc).ownBlock = some k) w7 wi) (fun i => D.cache.length - i) (by repeat (first | exact Sub.nil | refine Sub.cons rfl ?_)) ?hI ?hround
          case hI => exact ⟨by omega, by rw [corTo_zero]; exact hd7, Kp.refl _ _⟩
          case hround =>
            rintro i wi ⟨hi, hdi, hki⟩ ih
            dsimp only
            refine run_seq ?_
            refine run_reg rfl ?_
            refine rVal rfl rfl (ylt rfl rfl) ?_
            refine rEnd ?_
            refine run_seq ?_
            refine run_if rfl (fun hlt => ?_) (fun hlt => ?_)
            · skip
              have hMi := hdi.blk
              have hlt' : i < D.cache.length := by omega
              obtain ⟨gb, rfl⟩ : ∃ gb, ca0 = some ⟨gb, 0, none⟩ := by
                rcases hdi.cache.shape with ⟨-, h⟩ | ⟨gb, cap', hva, hcap⟩
                · have h' : (corTo n a' d D.cache i).length = 0 := h
                  rw [corTo_length] at h'; omega
                · simp at hva; exact ⟨gb, hva.1⟩
              obtain ⟨x, hxe⟩ : ∃ x, D.cache[i] = x := ⟨_, rfl⟩
              have hxg := corTo_get n a' d D.cache i hlt'
              rw [hxe] at hxg
              have hSc := hdi.cache
              simp only [corTo_length] at hSc
              have hcs : ((wrs (corTo n a' d D.cache i)).drop (i * 2)).take 2 = wr x := by
                have hl' : i < (corTo n a' d D.cache i).length := by simpa using hlt'
                rw [wrs_get _ _ hl']
                rw [List.getElem?_eq_getElem hl'] at hxg
                rw [Option.some.inj hxg]
              have hcp := hSc.part hcs
              have hxok := hdi.ok.cache x (List.mem_of_getElem? hxg)
              refine run_skip ?_
              refine run_seq ?_
              refine run_block ?_
              refine run_seq ?_
              refine run_reg rfl ?_
              refine rVal rfl rfl (ymv rfl) ?_
              refine rVal rfl rfl (yas rfl) ?_
              refine rEnd ?_
              refine run_seq ?_
              refine run_reg rfl ?_
              refine rVal rfl rfl (ymv rfl) ?_
              refine rVal rfl rfl ((by first | exact ync rfl | exact yncf rfl)) ?_
              refine rVal rfl rfl (yfa fl108_3 rfl) ?_
              refine rVal rfl rfl (yld Try.underlying106 rfl rfl hMi rfl) ?_
              refine rVal rfl rfl (ymv rfl) ?_
              refine rVal rfl rfl (yis Try.underlying106 ti114 rfl rfl (by omega)) ?_
              refine rVal rfl rfl (yfa fl114_0 rfl) ?_
              refine rVal rfl rfl (yldc Try.underlying3 rfl rfl (hcp 0 (I x.1) rfl)) ?_
              refine rVal rfl rfl (ymv rfl) ?_
              refine rVal rfl rfl (yeq rfl rfl) ?_
              refine rEnd ?_
              refine run_if rfl (fun heq => ?_) (fun heq => ?_)
              · skip
                have hgf := hdi.sepc (g := gb) rfl
                have hk6 : Kp (fun k => k = gb) w7 wi := hki.mono' fun k hk => by cases hk; rfl
                have hgw := hd2.cache
                refine run_draw (fun w' => Kp (fun k => k = gb) wi w') (by kernel_rfl) rfl ?_
                refine hTake (i := 0) rfl (by kernel_rfl) rfl rfl (fun _ hS => ymv rfl) ((Kp.refl _ wi).drew) ?_
                refine hTake (i := 1) rfl (by kernel_rfl) rfl rfl (fun _ hS => (by first | exact ync rfl | exact yncf rfl)) ((Kp.refl _ wi).drew) ?_
                refine hTake (i := 2) rfl (by kernel_rfl) rfl rfl (fun _ hS => yfa fl108_3 rfl) ((Kp.refl _ wi).drew) ?_
                refine hTake (i := 3) rfl (by kernel_rfl) rfl rfl (fun _ hS => yld Try.underlying106 rfl rfl (hS.blk hMi (fun h => hgf.1 h.symm)) rfl) ((Kp.refl _ wi).drew) ?_
                refine hTake (i := 4) rfl (by kernel_rfl) rfl rfl (fun _ hS => ymv rfl) ((Kp.refl _ wi).drew) ?_
                refine hTake (i := 5) rfl (by kernel_rfl) rfl rfl (fun _ hS => ymv rfl) ((Kp.refl _ wi).drew) ?_
                refine hTake (i := 6) rfl (by kernel_rfl) rfl rfl (fun _ hS => ymv rfl) ((Kp.refl _ wi).drew) ?_
                refine hTake (i := 7) rfl (by kernel_rfl) rfl rfl (fun _ hS => (by first | exact ync rfl | exact yncf rfl)) ((Kp.refl _ wi).drew) ?_
                refine hTake (i := 8) rfl (by kernel_rfl) rfl rfl (fun _ hS => yfa fl108_3 rfl) ((Kp.refl _ wi).drew) ?_
                refine hTake (i := 9) rfl (by kernel_rfl) rfl rfl (fun _ hS => yld Try.underlying106 rfl rfl (hS.blk hMi (fun h => hgf.1 h.symm)) rfl) ((Kp.refl _ wi).drew) ?_
                refine hTake (i := 10) rfl (by kernel_rfl) rfl rfl (fun _ hS => ymv rfl) ((Kp.refl _ wi).drew) ?_
                refine hTake (i := 11) rfl (by kernel_rfl) rfl rfl (fun _ hS => yis Try.underlying106 ti114 rfl rfl (by omega)) ((Kp.refl _ wi).drew) ?_
                refine hTake (i := 12) rfl (by kernel_rfl) rfl rfl (fun _ hS => yfa fl114_1 rfl) ((Kp.refl _ wi).drew) ?_
                refine hOne (i := 13) (by kernel_rfl) ?_
                refine nVal (i := 13) rfl rfl rfl (yldc Try.underlying9 rfl rfl (hcp 1 (S x.2) rfl)) ((Kp.refl _ wi).drew) ?_
                have hxl : x.2.length = 512 * D.N := hxok.2.2
                have hb6i : Blk wi b6 [I (a' : Int)] 3 := hk6.blk hB67 (by have := hfl gb (.inr (.inr (.inl rfl))); omega)
                have hb7i : Blk wi b7 [S d] 9 := hk6.blk hB77 (by have := hfl gb (.inr (.inr (.inl rfl))); have := hx1.size; omega)
                refine hOne (i := 14) (by kernel_rfl) ?_
                refine nCall (i := 14) rfl rfl rfl (ycv' (args := [.tmp 80]) cf68 rfl rfl) (over_ret x.2 d a' b6 b7 _ _ _ ((Ext.drew0 wi).blk hb6i) ((Ext.drew0 wi).blk hb7i) (by omega) (by omega)) ?_
                rintro _ w8 ⟨rfl, hx8⟩
                refine ⟨((Kp.refl _ wi).drew).trans hx8.kp, ?_⟩
                have hx8' := (Ext.drew0 wi).trans hx8
                refine hTake (i := 15) rfl (by kernel_rfl) rfl rfl (fun _ hS => yis Try.underlying106 ti114 rfl rfl (by omega)) (((Kp.refl _ wi).drew).trans hx8.kp) ?_
                refine hTake (i := 16) rfl (by kernel_rfl) rfl rfl (fun _ hS => yfa fl114_1 rfl) (((Kp.refl _ wi).drew).trans hx8.kp) ?_
                refine hOne (i := 17) (by kernel_rfl) ?_
                refine nEffP (i := 17) rfl rfl (zstSl ti9 rfl rfl rfl (hSc.ext hx8') (by simp; omega)) ?_
                rintro w9 ⟨hS9, hk9⟩
                refine ⟨(((Kp.refl _ wi).drew).trans hx8.kp).trans hk9, ?_⟩
                have es : wrs (corTo n a' d D.cache (i + 1)) = (wrs (corTo n a' d D.cache i)).set (0 + i * 2 + 1) (S (over x.2 a' d)) := by
                  rw [corTo_succ _ _ _ _ _ hlt', hxe, show 0 + i * 2 + 1 = i * 2 + 1 by omega, wrs_set _ _ _ _ hxg]
                  simp [corW, heq]
                rw [← es] at hS9
                have hd9 : DevM w9 p m kp (.slice (some ⟨gb, 0, none⟩) D.cache.length capc) { D with sf := upd D.sf n (over (D.kept n) a' d), cache := corTo n a' d D.cache (i + 1) } := by
                  have hdi8 := hdi.ext hx8'
                  obtain ⟨kv', hkv', hsf'⟩ := hdi8.map
                  refine ⟨hk9.blk hdi8.blk (fun e => (hdi8.sepc rfl).1 e.symm), ⟨kv', hk9.map hkv' (fun e => (hdi8.sepc rfl).2.1 e.symm), hsf'⟩, ?_, hdi8.keep.kp hk9 (fun g hg e => (hdi8.sepc rfl).2.2 (by rw [hg, e])), ?_⟩
                  · simp only [corTo_length]; exact hS9
                  · refine ⟨hdi.ok.hB, hdi.ok.hN, hdi.ok.due, hdi.ok.sf, fun y hy => ?_, hdi.ok.len, hdi.ok.reads⟩
                    simp only at hy
                    rw [corTo_succ _ _ _ _ _ hlt', hxe] at hy
                    rcases List.mem_or_eq_of_mem_set hy with hy | rfl
                    · exact hdi.ok.cache y hy
                    · simp only [corW, heq, if_true]
                      exact ⟨heq ▸ hxok.1, heq ▸ hxok.2.1, by rw [over_length _ _ _ (by omega)]; exact hxl⟩
                refine hEnd (by kernel_rfl) ?_
                refine run_inBlock ?_
                refine run_reg rfl ?_
                refine rVal rfl rfl (yad rfl rfl (by omega)) ?_
                refine rVal rfl rfl (ymv rfl) ?_
                refine rEnd ?_
                exact (ih (i + 1) w9 ⟨by omega, hd9, hki.trans (hx8'.kp.trans (hk9.mono' fun k hk => by rw [hk]; rfl))⟩ (by omega)).sub (by repeat (first | exact Sub.nil | refine Sub.cons rfl ?_))
              · skip
                have es : corTo n a' d D.cache (i + 1) = corTo n a' d D.cache i := by
                  rw [corTo_succ _ _ _ _ _ hlt', hxe, show corW n a' d x = x by simp [corW, heq]]
                  apply List.ext_getElem?
                  intro j
                  rw [List.getElem?_set]
                  split
                  · rename_i hj
                    subst hj
                    rw [hxg]
                    simp [hlt']
                  · rfl
                refine run_skip ?_
                refine run_inBlock ?_
                refine run_reg rfl ?_
                refine rVal rfl rfl (yad rfl rfl (by omega)) ?_
                refine rVal rfl rfl (ymv rfl) ?_
                refine rEnd ?_
                rw [← es] at hdi
                exact (ih (i + 1) wi ⟨by omega, hdi, hki⟩ (by omega)).sub (by repeat (first | exact Sub.nil | refine Sub.cons rfl ?_))
            · skip
              have hin : i = D.cache.length := by omega
              subst hin
              refine run_exit rfl ?_
              refine run_seq ?_
              refine run_reg rfl ?_
              refine rVal rfl rfl (yas rfl) ?_
              refine rEnd ?_
              refine run_ret Try.func36 rfl ?_
              have e : D.corrupt n a' d = ({ D with sf := upd D.sf n (over (D.kept n) a' d), cache := D.cache.map (corW n a' d) }, 0) := if_pos hok
              rw [e]
              rw [corTo_all] at hdi
              refine ⟨_, rfl, rfl, kp, _, hdi, (hx4.kp.trans (hk47.mono' fun i hi => .inr (.inl hi))).trans (hki.mono' fun i hi => .inr (.inr (.inl hi))), fun i hi => .inl hi⟩
end Go.Proofs.Ytdapkfppcaaohaa
