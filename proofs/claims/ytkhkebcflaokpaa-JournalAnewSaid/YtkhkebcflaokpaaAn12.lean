/- Texts JnN, JnU, JnV, JnAn, Row, JnOp, one behind the other (what the statement JournalAnew does not use is left out). -/
import Derived.Test.YtkhkebcflaokpaaAn10
import Derived.Test.YtkhkebcflaokpaaAn7
import Derived.Test.YtkhkebcflaokpaaAn11
import Derived.Test.YtkhkebcflaokpaaRows
import Derived.Test.YtkhkebcflaokpaaAn1
import Derived.SizedLaws
import Derived.Carry
import Derived.WalkKit
import Derived.ProofKit
import Derived.OpenShut
import Derived.ShutString
import Derived.ChangeOld
import Derived.Below
import Derived.Lib.SmallJoins
import Derived.Deep.Slices
import Derived.Deep.Strs
namespace Go.Proofs.Ytkhkebcflaokpaa
open Go Go.RowKit
set_option linter.all false
set_option maxRecDepth 100000

/-- What the blocks outside the region have, those of the region blank. -/
def mdlTo (s : Nat) (c : Cont) (k : Nat) : List Bytes := (List.range 24).map fun i => if s ≤ i ∧ i < s + k then [] else c (i : Int)
@[simp] theorem mdlTo_length (s : Nat) (c : Cont) (k : Nat) : (mdlTo s c k).length = 24 := by simp [mdlTo]
theorem mdlTo_set (s : Nat) (c : Cont) (k : Nat) : (mdlTo s c k).set (s + k) [] = mdlTo s c (k + 1) := by
  apply List.ext_getElem
  · simp
  · intro j h1 h2
    have hj : j < 24 := by simpa using h2
    simp only [mdlTo, List.getElem_set, List.getElem_map, List.getElem_range]
    by_cases hjk : s + k = j
    · rw [if_pos hjk, if_pos (by omega)]
    · rw [if_neg hjk]
      by_cases h : s ≤ j ∧ j < s + k
      · rw [if_pos h, if_pos (by omega)]
      · rw [if_neg h, if_neg (by omega)]
def mdl (g : Geo) (c : Cont) : List Bytes := mdlTo g.s c (g.L + 2)
theorem mdl_ext {g : Geo} (hs : g.s = 3) (hB : g.B = 24) {c c' : Cont} : mdl g c = mdl g c' ↔ ∀ n, g.out n → c n = c' n := by
  unfold mdl mdlTo
  constructor
  · intro h n hn
    unfold Geo.out at hn
    obtain ⟨m, rfl⟩ : ∃ m : Nat, n = (m : Int) := ⟨n.toNat, by omega⟩
    have h2 := congrArg (·[m]?) h
    simp only [List.getElem?_map, List.getElem?_range (show m < 24 by omega), Option.map_some] at h2
    rw [if_neg (by omega), if_neg (by omega)] at h2
    exact Option.some.inj h2
  · intro h
    apply List.map_congr_left
    intro i hi
    have hi' : i < 24 := by simpa using hi
    split
    · rfl
    · rename_i hn
      exact h _ ⟨by omega, by omega, by omega⟩

section
variable {w : World} {p : Nat} {D : Dev} {F : Nat → Prop} {g : Geo}
theorem model_ret (hA : DevA w p D F) (hB : D.B = 24) (hs : g.s = 3) (hL : g.L + 5 ≤ 24) {k : Nat} (hsm : D.Small k) (hk : k ≤ 1000000) :
    Ret Try.prog 13 [ptr p 0, I ((g.L + 2 : Nat) : Int)] w fun v w' => ∃ b cap, v = .slice (some ⟨b, 0, none⟩) 24 cap ∧ Sl w' v 9 1 24 ((mdl g D.now).map S) ∧ Ext w w' ∧ w.heap.size ≤ b := by
  have hml : maxLen = 9223372036854775807 := rfl
  refine ret_of_run (e := [(0, _), (1, _)]) Try.func13 rfl Try.ntmps13 rfl rfl ?_
  refine run_seq ?_
  refine run_reg rfl ?_
  refine rVal rfl rfl (yas rfl) ?_
  refine rEnd ?_
  refine run_seq ?_
  refine run_reg rfl ?_
  refine rVal rfl rfl (ymv rfl) ?_
  refine rCall rfl rfl (yc (args := [.tmp 7]) cf51 rfl) (imageA_ret hA hsm hk) ?_
  rintro _ w1 ⟨hS1, hx1, hg1⟩
  rw [hB] at hS1
  rcases hS1.shape with ⟨-, hz⟩ | ⟨b, cap, rfl, hcap⟩
  · omega
  have hb := hg1 b rfl
  have himg : D.image = mdlTo g.s D.now 0 := by
    unfold Dev.image Dev.imageTo mdlTo
    rw [hB]
    apply List.map_congr_left
    intro i _
    rw [if_neg (by omega)]
  rw [himg] at hS1
  refine rVal rfl rfl (yas rfl) ?_
  refine rEnd ?_
  refine run_seq ?_
  refine run_seq ?_
  refine run_reg rfl ?_
  refine rVal rfl rfl (yas rfl) ?_
  refine rEnd ?_
  refine run_block ?_
  refine run_loop (α := Nat) (0) (fun k => [(1, I ((g.L + 2 : Nat) : Int)), (5, .slice (some ⟨b, 0, none⟩) 24 cap), (6, I ((3 + k : Nat) : Int))]) (fun k w' => k ≤ g.L + 2 ∧ Sl w' (.slice (some ⟨b, 0, none⟩) 24 cap) 9 1 24 ((mdlTo g.s D.now k).map S) ∧ Ext w w') (fun k => g.L + 2 - k) (by repeat (first | exact Sub.nil | refine Sub.cons rfl ?_)) ?hI ?hround
  case hI => exact ⟨Nat.zero_le _, hS1, hx1⟩
  case hround =>
    rintro k wi ⟨hki, hSi, hxi⟩ ih
    try dsimp only
    refine run_seq ?_
    refine run_seq ?_
    refine run_reg rfl ?_
    refine rVal rfl rfl (ymv rfl) ?_
    refine rVal rfl rfl (ymv rfl) ?_
    refine rVal rfl rfl (yad rfl rfl (by omega)) ?_
    refine rVal rfl rfl (ylt rfl rfl) ?_
    refine rVal_if (fun h1 => ?_) (fun h1 => ?_)
    · skip
      refine rVal rfl rfl (ymv rfl) ?_
      refine rVal rfl rfl (ymv rfl) ?_
      refine rVal rfl rfl (ymv rfl) ?_
      refine rVal rfl rfl (yln Try.underlying42 rfl) ?_
      refine rVal rfl rfl (ylt rfl rfl) ?_
      refine rVal_if (fun h2 => ?_) (fun h2 => ?_)
      · skip
        refine rVal rfl rfl (ypT rfl rfl) ?_
        refine rEnd ?_
        refine run_true rfl ?_
        refine run_skip ?_
        refine run_seq ?_
        refine run_block ?_
        refine run_reg rfl ?_
        refine rVal rfl rfl (ymv rfl) ?_
        refine rVal rfl rfl (ymv rfl) ?_
        refine rVal rfl rfl (yis Try.underlying42 ti9 rfl rfl (by omega)) ?_
        refine rEffP rfl (zstSl ti9 rfl rfl rfl hSi (by simp; omega)) ?_
        rintro w2 ⟨hS2, hk2⟩
        have hset : ((mdlTo g.s D.now k).map S).set (3 + k) (S []) = (mdlTo g.s D.now (k + 1)).map S := by
          rw [← mdlTo_set, List.map_set, hs]
        rw [show 0 + (3 + k) * 1 = 3 + k by omega, hset] at hS2
        refine rEnd ?_
        refine run_inBlock ?_
        refine run_reg rfl ?_
        refine rVal rfl rfl (ymv rfl) ?_
        refine rVal rfl rfl (yad rfl rfl (by omega)) ?_
        refine rVal rfl rfl (yas rfl) ?_
        refine rEnd ?_
        exact (ih (k + 1) w2 ⟨by omega, hS2, hxi.trans_new hk2 (fun i hi => by omega)⟩ (by omega)).sub (by repeat (first | exact Sub.nil | refine Sub.cons rfl ?_))
      · skip
        exfalso; omega
    · skip
      have : k = g.L + 2 := by omega
      subst this
      refine rVal rfl rfl (ymv rfl) ?_
      refine rSkip rfl rfl ?_
      refine rSkip rfl rfl ?_
      refine rSkip rfl rfl ?_
      refine rSkip rfl rfl ?_
      refine rVal rfl rfl (ypF rfl rfl) ?_
      refine rEnd ?_
      refine run_false rfl ?_
      refine run_exit rfl ?_
      refine run_seq ?_
      refine run_reg rfl ?_
      refine rVal rfl rfl (ymv rfl) ?_
      refine rVal rfl rfl (yas rfl) ?_
      refine rEnd ?_
      refine run_ret Try.func13 rfl ?_
      exact ⟨_, rfl, b, cap, rfl, hSi, hxi, hb⟩

theorem tmod_rng (z : Int) (m : Int) (hm : 0 < m) : -m < z.tmod m ∧ z.tmod m < m := tmod_range z m hm
theorem txOk_snoc {t : Tx} (h : TxOk g t) {n : Int} {s : Bytes} (hn : g.out n) (hs : s.length = g.size) (hl : t.length + 1 ≤ g.most) (hnew : ∀ x ∈ t, x.1 ≠ n) : TxOk g (t ++ [(n, s)]) := by
  refine ⟨by simpa using hl, ?_, fun x hx => ?_⟩
  · rw [List.map_append, List.nodup_append]
    refine ⟨h.nd, by simp, fun a ha b hb hab => ?_⟩
    obtain ⟨x, hx, rfl⟩ := List.mem_map.1 ha
    simp at hb
    subst hb
    exact hnew x hx hab
  · rcases List.mem_append.1 hx with hx | hx
    · exact h.out x hx
    · simp at hx; subst hx; exact ⟨hn, hs⟩
set_option maxHeartbeats 1000000 in
theorem puts_ret (ls : List (Int × Bytes)) (lv : Value) (hP : PutsM w lv ls) (hg : g.Ok) (hs : g.s = 3) (hB : g.B = 24) (hL : g.L + 5 ≤ 24) :
    Ret Try.prog 11 [lv, I ((g.L + 2 : Nat) : Int), I (g.size : Int)] w fun v w' => ∃ t : Tx, Sl w' v 54 2 t.length (wrs t) ∧ TxOk g t ∧ Ext w w' ∧ ∀ i, v.ownBlock = some i → w.heap.size ≤ i := by
  have hml : maxLen = 9223372036854775807 := rfl
  have hgL := hg.hL
  have hgN := hg.hN
  have hlen := hP.len
  have hmost : g.L - 2 ≤ g.most := by
    unfold Geo.most mostN Geo.size
    omega
  have hrd := hP.rd
  obtain ⟨al, cl, rfl, -⟩ := hrd.shape
  refine ret_of_run (e := [(0, _), (1, _), (2, _)]) Try.func11 rfl Try.ntmps11 rfl rfl ?_
  refine run_seq ?_
  refine run_reg rfl ?_
  refine rVal rfl rfl (yas rfl) ?_
  refine rEnd ?_
  refine run_seq ?_
  refine run_reg rfl ?_
  refine rVal rfl rfl (yas rfl) ?_
  refine rEnd ?_
  refine run_seq ?_
  refine run_seq ?_
  refine run_reg rfl ?_
  refine rVal rfl rfl (yas rfl) ?_
  refine rEnd ?_
  refine run_block ?_
  refine run_loop (α := Nat × Tx × Value) ((0, [], .slice none 0 0)) (fun x => [(0, .slice al ls.length cl), (1, I ((g.L + 2 : Nat) : Int)), (2, I (g.size : Int)), (7, x.2.2), (8, I (x.1 : Int))]) (fun x w' => x.1 ≤ ls.length ∧ Sl w' x.2.2 54 2 x.2.1.length (wrs x.2.1) ∧ TxOk g x.2.1 ∧ Ext w w' ∧ (∀ i, x.2.2.ownBlock = some i → w.heap.size ≤ i)) (fun x => ls.length - x.1) (by repeat (first | exact Sub.nil | refine Sub.cons rfl ?_)) ?hI ?hround
  case hI => exact ⟨Nat.zero_le _, ⟨rfl, .inl ⟨rfl, rfl⟩⟩, ⟨Nat.zero_le _, List.nodup_nil, fun x hx => by cases hx⟩, Ext.refl _, fun i hi => by cases hi⟩
  case hround =>
    rintro ⟨k, t, v⟩ wi ⟨hk, hS, hT, hxi, ho⟩ ih
    dsimp only at hk hS hT ho
    obtain ⟨va, vc, rfl, -⟩ := hS.rd.shape
    try dsimp only
    refine run_seq ?_
    refine run_seq ?_
    refine run_reg rfl ?_
    refine rVal rfl rfl (ymv rfl) ?_
    refine rVal rfl rfl (ymv rfl) ?_
    refine rVal rfl rfl (yln Try.underlying40 rfl) ?_
    refine rVal rfl rfl (ylt rfl rfl) ?_
    refine rVal_if (fun h1 => ?_) (fun h1 => ?_)
    · skip
      refine rVal rfl rfl (ymv rfl) ?_
      refine rVal rfl rfl (ymv rfl) ?_
      refine rVal rfl rfl (yln Try.underlying38 rfl) ?_
      refine rVal rfl rfl (ymv rfl) ?_
      refine rVal rfl rfl (ysb rfl rfl (by omega)) ?_
      refine rVal rfl rfl (ylt rfl rfl) ?_
      refine rVal_if (fun h2 => ?_) (fun h2 => ?_)
      · skip
        have hkl : k < ls.length := by omega
        have hri := hrd.ext hxi
        obtain ⟨b, off, cap, x, hva, hxg⟩ := rd_get hri hkl
        cases hva
        obtain ⟨c1, c2⟩ := rd_at hri hkl hxg
        have hxl := hP.data x (List.mem_of_getElem? hxg)
        refine rVal rfl rfl (ypT rfl rfl) ?_
        refine rEnd ?_
        refine run_true rfl ?_
        refine run_skip ?_
        refine run_seq ?_
        refine run_block ?_
        refine run_seq ?_
        refine run_reg rfl ?_
        refine rVal rfl rfl (ymv rfl) ?_
        refine rVal rfl rfl (ymv rfl) ?_
        refine rVal rfl rfl (yis Try.underlying40 ti95 rfl rfl (by omega)) ?_
        refine rVal rfl rfl (yfa fl95_0 rfl) ?_
        refine rVal rfl rfl (yldc Try.underlying3 rfl rfl c1) ?_
        have hr1 := tmod_rng x.1 (24 - ((g.L + 2 : Nat) : Int)) (by omega)
        refine rVal rfl rfl (ymv rfl) ?_
        refine rVal rfl rfl (ysb rfl rfl (by omega)) ?_
        refine rVal rfl rfl (yrt rfl rfl (by omega)) ?_
        have hr2 := tmod_rng (x.1.tmod (24 - ((g.L + 2 : Nat) : Int)) + 24 - ((g.L + 2 : Nat) : Int)) (24 - ((g.L + 2 : Nat) : Int)) (by omega)
        have hr3 : 0 ≤ (x.1.tmod (24 - ((g.L + 2 : Nat) : Int)) + 24 - ((g.L + 2 : Nat) : Int)).tmod (24 - ((g.L + 2 : Nat) : Int)) := Int.tmod_nonneg _ (by omega)
        refine rVal rfl rfl (yad rfl rfl (by omega)) ?_
        refine rVal rfl rfl (ymv rfl) ?_
        refine rVal rfl rfl (ysb rfl rfl (by omega)) ?_
        refine rVal rfl rfl (ymv rfl) ?_
        refine rVal rfl rfl (ysb rfl rfl (by omega)) ?_
        refine rVal rfl rfl (yrt rfl rfl (by omega)) ?_
        obtain ⟨n0, hn0⟩ : ∃ n0, (x.1.tmod (24 - ((g.L + 2 : Nat) : Int)) + 24 - ((g.L + 2 : Nat) : Int)).tmod (24 - ((g.L + 2 : Nat) : Int)) = n0 := ⟨_, rfl⟩
        rw [hn0] at hr2 hr3 ⊢
        refine rVal rfl rfl (yas rfl) ?_
        refine rEnd ?_
        refine run_seq ?_
        refine run_seq ?_
        refine run_reg rfl ?_
        refine rVal rfl rfl (ymv rfl) ?_
        refine rVal rfl rfl (yge rfl rfl) ?_
        refine rEnd ?_
        refine run_cut (fun e' w' => ∃ n, e' = [(0, .slice (some ⟨b, off, none⟩) ls.length cl), (1, I ((g.L + 2 : Nat) : Int)), (2, I (g.size : Int)), (7, .slice va t.length vc), (8, I (k : Int)), (9, I n)] ∧ g.out n ∧ w' = wi) ?hk (fun hk => ?hmain)
        case hk =>
          rintro _ wx ⟨n, rfl, hn, rfl⟩
          refine run_seq ?_
          refine run_reg rfl ?_
          refine rVal rfl rfl (yas rfl) ?_
          refine rEnd ?_
          refine run_seq ?_
          refine run_seq ?_
          refine run_reg rfl ?_
          refine rVal rfl rfl (yas rfl) ?_
          refine rEnd ?_
          refine run_block ?_
          refine run_loop (α := Nat × Bool) ((0, false)) (fun y => [(0, .slice (some ⟨b, off, none⟩) ls.length cl), (1, I ((g.L + 2 : Nat) : Int)), (2, I (g.size : Int)), (7, .slice va t.length vc), (8, I (k : Int)), (9, I n), (10, .bool y.2), (11, I (y.1 : Int))]) (fun y w' => y.1 ≤ t.length ∧ (y.2 = true ↔ ∃ z ∈ t.take y.1, z.1 = n) ∧ w' = wx) (fun y => t.length - y.1) (by repeat (first | exact Sub.nil | refine Sub.cons rfl ?_)) ?hI ?hround
          case hI => exact ⟨Nat.zero_le _, by simp, rfl⟩
          case hround =>
            rintro ⟨m, bb⟩ wy ⟨hm, hbb, rfl⟩ ih2
            dsimp only at hm hbb
            try dsimp only
            refine run_seq ?_
            refine run_seq ?_
            refine run_reg rfl ?_
            refine rVal rfl rfl (ymv rfl) ?_
            refine rVal rfl rfl (ymv rfl) ?_
            refine rVal rfl rfl (yln Try.underlying38 rfl) ?_
            refine rVal rfl rfl (ylt rfl rfl) ?_
            refine rEnd ?_
            refine run_if rfl (fun h3 => ?_) (fun h3 => ?_)
            · skip
              have hml' : m < t.length := by omega
              obtain ⟨b2, off2, cap2, y, hv2, hyg⟩ := rd_get hS.rd hml'
              have hvv := hv2
              rw [hv2] at hS
              cases hv2
              obtain ⟨d1, d2⟩ := rd_at hS.rd hml' hyg
              have htk : t.take (m + 1) = t.take m ++ [y] := by
                have e : t[m] = y := by rw [List.getElem?_eq_getElem hml'] at hyg; exact Option.some.inj hyg
                rw [List.take_succ_eq_append_getElem hml', e]
              refine run_skip ?_
              refine run_seq ?_
              refine run_block ?_
              refine run_reg rfl ?_
              refine rVal rfl rfl (ymv rfl) ?_
              cases bb with
              | true =>
                refine rVal rfl rfl (ymv rfl) ?_
                refine rSkip rfl rfl ?_
                refine rSkip rfl rfl ?_
                refine rSkip rfl rfl ?_
                refine rSkip rfl rfl ?_
                refine rSkip rfl rfl ?_
                refine rSkip rfl rfl ?_
                refine rSkip rfl rfl ?_
                refine rVal rfl rfl (ypT rfl rfl) ?_
                refine rVal rfl rfl (yas rfl) ?_
                refine rEnd ?_
                refine run_inBlock ?_
                refine run_reg rfl ?_
                refine rVal rfl rfl (ymv rfl) ?_
                refine rVal rfl rfl (yad rfl rfl (by omega)) ?_
                refine rVal rfl rfl (yas rfl) ?_
                refine rEnd ?_
                refine (ih2 (m + 1, true) _ ⟨hml', ?_, rfl⟩ (by dsimp only; omega)).sub (by repeat (first | exact Sub.nil | refine Sub.cons rfl ?_))
                dsimp only
                rw [htk]
                obtain ⟨z, hz, he⟩ := hbb.1 rfl
                exact ⟨fun _ => ⟨z, List.mem_append_left _ hz, he⟩, fun _ => rfl⟩
              | false =>
                refine rVal rfl rfl (ymv rfl) ?_
                refine rVal rfl rfl (ymv rfl) ?_
                refine rVal rfl rfl (ymv rfl) ?_
                refine rVal rfl rfl (yis Try.underlying38 ti54 rfl rfl (by omega)) ?_
                refine rVal rfl rfl (yfa fl54_0 rfl) ?_
                refine rVal rfl rfl (yldc Try.underlying3 rfl rfl d1) ?_
                refine rVal rfl rfl (ymv rfl) ?_
                refine rVal rfl rfl (yeq rfl rfl) ?_
                refine rVal rfl rfl (ypF rfl rfl) ?_
                refine rVal rfl rfl (yas rfl) ?_
                refine rEnd ?_
                refine run_inBlock ?_
                refine run_reg rfl ?_
                refine rVal rfl rfl (ymv rfl) ?_
                refine rVal rfl rfl (yad rfl rfl (by omega)) ?_
                refine rVal rfl rfl (yas rfl) ?_
                refine rEnd ?_
                refine (ih2 (m + 1, decide (y.1 = n)) _ ⟨hml', ?_, rfl⟩ (by dsimp only; omega)).sub (by repeat (first | exact Sub.nil | refine Sub.cons rfl ?_))
                dsimp only
                rw [htk]
                simp only [decide_eq_true_eq, List.mem_append, List.mem_singleton]
                constructor
                · intro h; exact ⟨y, .inr rfl, h⟩
                · rintro ⟨z, hz | rfl, he⟩
                  · exact absurd (hbb.2 ⟨z, hz, he⟩) (by simp)
                  · exact he
            · skip
              have hmm : m = t.length := by omega
              subst hmm
              rw [List.take_length] at hbb
              refine run_exit rfl ?_
              refine run_seq ?_
              refine run_reg rfl ?_
              refine rVal rfl rfl (ymv rfl) ?_
              refine rVal rfl rfl ((by first | exact yntd rfl | exact ynt rfl)) ?_
              refine rEnd ?_
              cases bb with
              | true =>
                refine run_false rfl ?_
                refine run_skip ?_
                refine run_inBlock ?_
                refine run_reg rfl ?_
                refine rVal rfl rfl (ymv rfl) ?_
                refine rVal rfl rfl (yad rfl rfl (by omega)) ?_
                refine rVal rfl rfl (yas rfl) ?_
                refine rEnd ?_
                exact (ih (k + 1, t, .slice va t.length vc) _ ⟨hkl, hS, hT, hxi, ho⟩ (by dsimp only; omega)).sub (by repeat (first | exact Sub.nil | refine Sub.cons rfl ?_))
              | false =>
                refine run_true rfl ?_
                refine run_reg rfl ?_
                refine rVal rfl rfl (ymv rfl) ?_
                refine rVal rfl rfl (ymv rfl) ?_
                refine rVal rfl rfl (ymv rfl) ?_
                refine rVal rfl rfl (ymv rfl) ?_
                refine rVal rfl rfl (yis Try.underlying40 ti95 rfl rfl (by omega)) ?_
                refine rVal rfl rfl (yfa fl95_1 rfl) ?_
                refine rVal rfl rfl (yldc Try.underlying9 rfl rfl c2) ?_
                refine rVal rfl rfl (ymv rfl) ?_
                refine rCall rfl rfl (yc (args := [.tmp 68, .tmp 69]) cf33 rfl) (fill_ret x.2 g.size _ (by unfold Geo.size; omega) hxl) ?_
                rintro _ w3 ⟨rfl, rfl⟩
                refine rVal rfl rfl (ybd (parts := [(0, .tmp 63), (1, .tmp 70)]) (cs := [_, _]) ti54 rfl sp54 rfl rfl) ?_
                refine rValP rfl rfl (pbs (parts := [(0, .tmp 71)]) (cs := [_, _]) (zs := [Value.int .i64 0, Value.string ⟨#[]⟩]) Try.underlying38 ti54 rfl (by kernel_rfl) rfl rfl rfl (by decide)) ?_
                rintro _ w4 ⟨b72, rfl, ⟨hb72, hx4, hB72⟩, hS72⟩
                refine rValP rfl rfl (pap Try.underlying38 ti54 rfl (by decide) rfl rfl (hS.ext hx4) hS72.rd (by intro c hc; simp at hc; rcases hc with rfl | rfl <;> rfl) (by omega) (by omega)) ?_
                rintro v' w5 ⟨hS5, hk5, hown5, -⟩
                have z4 := hx4.size
                have zi := hxi.size
                refine rVal rfl rfl (yas rfl) ?_
                refine rEnd ?_
                refine run_inBlock ?_
                refine run_reg rfl ?_
                refine rVal rfl rfl (ymv rfl) ?_
                refine rVal rfl rfl (yad rfl rfl (by omega)) ?_
                refine rVal rfl rfl (yas rfl) ?_
                refine rEnd ?_
                refine (ih (k + 1, t ++ [(n, fill x.2 g.size)], v') _ ⟨hkl, ?_, txOk_snoc hT hn (fill_length _ _) (by omega) (fun z hz he => by have := hbb.2 ⟨z, hz, he⟩; cases this), (hxi.trans hx4).trans_new hk5 (fun i hi => ho i hi), fun i hi => ?_⟩ (by dsimp only; omega)).sub (by repeat (first | exact Sub.nil | refine Sub.cons rfl ?_))
                · dsimp only
                  simpa [wrs, wr] using hS5
                · rcases hown5 i hi with h | h
                  · exact ho i h
                  · omega
        case hmain =>
          refine run_if rfl (fun h40 => ?_) (fun h40 => ?_)
          · skip
            refine run_reg rfl ?_
            refine rVal rfl rfl (ymv rfl) ?_
            refine rVal rfl rfl (ymv rfl) ?_
            refine rVal rfl rfl (yad rfl rfl (by omega)) ?_
            refine rVal rfl rfl (yas rfl) ?_
            refine rEnd ?_
            exact (hk _ _ ⟨n0 + ((g.L + 2 : Nat) : Int), rfl, ⟨by omega, by omega, .inr (by omega)⟩, rfl⟩).sub (by repeat (first | exact Sub.nil | refine Sub.cons rfl ?_))
          · skip
            refine run_skip ?_
            exact (hk _ _ ⟨n0, rfl, ⟨by omega, by omega, .inl (by omega)⟩, rfl⟩).sub (by repeat (first | exact Sub.nil | refine Sub.cons rfl ?_))
      · skip
        refine rVal rfl rfl (ypT rfl rfl) ?_
        refine rEnd ?_
        refine run_false rfl ?_
        refine run_exit rfl ?_
        refine run_seq ?_
        refine run_reg rfl ?_
        refine rVal rfl rfl (ymv rfl) ?_
        refine rVal rfl rfl (yas rfl) ?_
        refine rEnd ?_
        refine run_ret Try.func11 rfl ?_
        exact ⟨_, rfl, t, hS, hT, hxi, ho⟩
    · skip
      refine rVal rfl rfl (ymv rfl) ?_
      refine rSkip rfl rfl ?_
      refine rSkip rfl rfl ?_
      refine rSkip rfl rfl ?_
      refine rSkip rfl rfl ?_
      refine rSkip rfl rfl ?_
      refine rVal rfl rfl (ypF rfl rfl) ?_
      refine rEnd ?_
      refine run_false rfl ?_
      refine run_exit rfl ?_
      refine run_seq ?_
      refine run_reg rfl ?_
      refine rVal rfl rfl (ymv rfl) ?_
      refine rVal rfl rfl (yas rfl) ?_
      refine rEnd ?_
      refine run_ret Try.func11 rfl ?_
      exact ⟨_, rfl, t, hS, hT, hxi, ho⟩
end
end Go.Proofs.Ytkhkebcflaokpaa
namespace Go.Proofs.Ytkhkebcflaokpaa
open Go Go.RowKit
set_option linter.all false
set_option maxRecDepth 100000

/-- The geometry of the statements: 24 blocks, the region from block 3. -/
def gOf (N k : Nat) : Geo := ⟨N, 24, 3, 4 + k⟩
theorem gOf_ok {N k : Nat} (hN : 1 ≤ N ∧ N ≤ 8) (hk : k ≤ 8) : (gOf N k).Ok := ⟨hN, by show 4 ≤ 4 + k; omega, by show 3 + 2 + (4 + k) ≤ 24 ∧ 24 ≤ 4096 ∧ 16 ≤ 24; omega⟩
theorem fresh_ok {N : Nat} (hN : 1 ≤ N ∧ N ≤ 8) : (Dev.fresh 24 N).Ok :=
  ⟨⟨by show 16 ≤ 24; omega, by show 24 ≤ 4096; omega⟩, hN, (by simp [Dev.fresh]), (fun n s h => by cases h), (fun x hx => by cases hx), (by simp [Dev.fresh]), (by simp [Dev.fresh])⟩
theorem up_fresh {N k : Nat} (hN : 1 ≤ N ∧ N ≤ 8) : Up (Dev.fresh 24 N) (gOf N k) (Dev.fresh 24 N).kept [] := ⟨fresh_ok hN, rfl, rfl, rfl, rfl, rfl⟩
@[simp] theorem mdl_length (g : Geo) (c : Cont) : (mdl g c).length = 24 := mdlTo_length _ _ _
theorem mdl_live {g : Geo} {D : Dev} {J : Jn} {was : Cont} {K : Nat} (h : LiveJ g D J was K) (hs : g.s = 3) (hB : g.B = 24) : mdl g D.now = mdl g was := by
  obtain ⟨base, C, hd, a, T, L⟩ := h
  exact (mdl_ext hs hB).2 fun n hn => by rw [L.up.now n]; exact L.now n hn
theorem mdl_up {g : Geo} {D : Dev} {base was : Cont} (h : Up D g base []) (hw : ∀ n, g.out n → base n = was n) (hs : g.s = 3) (hB : g.B = 24) : mdl g D.now = mdl g was :=
  (mdl_ext hs hB).2 fun n hn => by rw [h.now n, nowOf_nil]; exact hw n hn
theorem LiveJ.geo {g : Geo} {D : Dev} {J : Jn} {was : Cont} {K : Nat} (h : LiveJ g D J was K) : D.B = g.B ∧ D.N = g.N ∧ D.down = false := by
  obtain ⟨base, C, hd, a, T, L⟩ := h
  exact ⟨L.up.hB, L.up.hN, L.up.down⟩
theorem LiveJ.was {g : Geo} {D : Dev} {J : Jn} {was was' : Cont} {K : Nat} (h : LiveJ g D J was K) (hw : ∀ n, g.out n → was n = was' n) : LiveJ g D J was' K := by
  obtain ⟨base, C, hd, a, T, L⟩ := h
  exact ⟨base, C, hd, a, T, ⟨L.up, ⟨L.safe.good, L.safe.dom, fun n hn => (L.safe.was n hn).trans (hw n hn)⟩, fun n hn => (L.now n hn).trans (hw n hn), L.eq, L.k1, L.k2⟩⟩
theorem LiveJ.number {g : Geo} {D : Dev} {J : Jn} {was : Cont} {K : Nat} (h : LiveJ g D J was K) : J.number ≤ K := by
  obtain ⟨base, C, hd, a, T, L⟩ := h
  rw [L.eq]; exact L.k2

/-- Lists of writes read from memory. -/
def PutssM (w : World) (v : Value) (ls : List (List (Int × Bytes))) : Prop := ∃ vs : List Value, Rd w v 1 ls.length vs ∧ ls.length ≤ 140737488355328 ∧ ∀ (i : Nat) l, ls[i]? = some l → ∃ u, vs[i]? = some u ∧ PutsM w u l
theorem PutssM.ext {w w' : World} {v : Value} {ls : List (List (Int × Bytes))} (h : PutssM w v ls) (k : Ext w w') : PutssM w' v ls := by
  obtain ⟨vs, h1, h2, h3⟩ := h
  exact ⟨vs, h1.ext k, h2, fun i l hl => let ⟨u, e, hu⟩ := h3 i l hl; ⟨u, e, hu.ext k⟩⟩
theorem PutssM.shape {w : World} {v : Value} {ls : List (List (Int × Bytes))} (h : PutssM w v ls) : (∃ a cap, v = .slice a ls.length cap) ∧ ls.length ≤ 140737488355328 := by
  obtain ⟨vs, h1, h2, h3⟩ := h
  obtain ⟨a, cap, e, -⟩ := h1.shape
  exact ⟨⟨a, cap, e⟩, h2⟩
theorem PutssM.get {w : World} {a : Option Addr} {n cap : Nat} {ls : List (List (Int × Bytes))} (h : PutssM w (.slice a n cap) ls) {i : Nat} (hi : i < ls.length) : ∃ b off l u, a = some ⟨b, off, none⟩ ∧ ls[i]? = some l ∧ w.cell? ⟨b, off + i * 1, none⟩ = some u ∧ PutsM w u l := by
  obtain ⟨vs, h1, h2, h3⟩ := h
  obtain ⟨a', cap', e, -⟩ := h1.shape
  cases e
  rcases h1.2 with ⟨c, -, hz⟩ | ⟨b, off, cap', hv, hc⟩
  · omega
  · cases hv
    obtain ⟨u, hu, hM⟩ := h3 i _ (List.getElem?_eq_getElem hi)
    exact ⟨b, off, _, u, rfl, List.getElem?_eq_getElem hi, by rw [Nat.mul_one]; exact hc i u hu, hM⟩
theorem PutsM.one {w : World} {v : Value} {l : List (Int × Bytes)} (h : PutsM w v l) : ∃ a cap, v = .slice a l.length cap := by
  obtain ⟨a, cap, e, -⟩ := h.rd.shape
  exact ⟨a, cap, e⟩
theorem DevA.ok {w : World} {p : Nat} {D : Dev} {F : Nat → Prop} (h : DevA w p D F) : D.Ok := by
  obtain ⟨m, kp, ca, h, -⟩ := h
  exact h.ok
theorem formatS_len (g : Geo) : (formatS g).length = g.L + 5 := by simp [formatS, blankW_length]
section
variable {w : World} {p : Nat} {D : Dev} {F : Nat → Prop} {g : Geo}
theorem format3_ret (h : DevA w p D F) (hB : D.B = g.B) (hN : D.N = g.N) (hd : D.down = false) (hg : g.Ok) (hs : g.s = 3) {c : Nat} (hsm : D.Small c) (hc : c ≤ 900000) :
    Ret Try.prog 7 [ptr p 0, I 3, I ((g.L + 2 : Nat) : Int)] w fun v w' => v = I (runS D (formatS g)).2 ∧ DevT w p F (runS D (formatS g)).1 w' := by
  have h := format_ret h hB hN hd hg (by omega) hsm hc
  rwa [show (g.s : Int) = 3 by omega] at h
theorem open3_ret {f was : Cont} {h : Hd} {a K c : Nat} {T : List Tx} (hg : g.Ok) (hgs : g.s = 3) (hL100 : g.L ≤ 100) (hA : DevA w p D F) (hU : Up D g f []) (G : Good g f h a T) (hw : ∀ n, g.out n → nowOf f T.flatten n = was n) (hK : K ≤ 10000000) (hk1 : h.own ≤ K) (hk2 : h.number + T.length ≤ K) (hsm : D.Small c) (hc : c ≤ 780000) :
    Ret Try.prog 9 [ptr p 0, I 3, I ((g.L + 2 : Nat) : Int)] w fun v w' =>
      (∃ q, v = .tuple #[ptr q 0, I (T.length : Int), I 0] ∧ w.heap.size ≤ q ∧ ∃ D' J' F', JnM w' q p g J' ∧ DevA w' p D' F' ∧ Kp F w w' ∧ (∀ i, F' i → (F i ∨ w.heap.size ≤ i) ∧ i ≠ q) ∧ Fresh g D' J' was (K + 1) ∧ D'.Small (c + (60 * g.L + 300)) ∧ (D.due = 0 → D'.due = 0)) ∨
      (v = .tuple #[.pointer none, I 0, I 8] ∧ ∃ D' f' F', DevA w' p D' F' ∧ Kp F w w' ∧ (∀ i, F' i → F i ∨ w.heap.size ≤ i) ∧ Fell D' g f' ∧ Dsk g f' (K + 1) was ∧ D'.Small (c + (60 * g.L + 300)) ∧ D.due ≠ 0 ∧ T ≠ []) := by
  have h := open_ret hg (by omega) hL100 hA hU G hw hK hk1 hk2 hsm hc
  rwa [show (g.s : Int) = 3 by omega] at h
theorem puts5_ret (ls : List (Int × Bytes)) (lv : Value) (n : Int) (hn : n = (g.size : Int)) (hP : PutsM w lv ls) (hg : g.Ok) (hs : g.s = 3) (hB : g.B = 24) (hL : g.L + 5 ≤ 24) :
    Ret Try.prog 11 [lv, I ((g.L + 2 : Nat) : Int), I n] w fun v w' => ∃ t : Tx, Sl w' v 54 2 t.length (wrs t) ∧ TxOk g t ∧ Ext w w' ∧ ∀ i, v.ownBlock = some i → w.heap.size ≤ i := by
  subst hn
  exact puts_ret ls lv hP hg hs hB hL
/-- Opening where nothing is to be done again. -/
theorem openN_ret {f was : Cont} {h : Hd} {a K c : Nat} (hg : g.Ok) (hgs : g.s = 3) (hL100 : g.L ≤ 100) (hA : DevA w p D F) (hU : Up D g f []) (G : Good g f h a []) (hw : ∀ n, g.out n → f n = was n) (hK : K ≤ 10000000) (hk1 : h.own ≤ K) (hk2 : h.number ≤ K) (hsm : D.Small c) (hc : c ≤ 780000) :
    Ret Try.prog 9 [ptr p 0, I 3, I ((g.L + 2 : Nat) : Int)] w fun v w' =>
      ∃ q, v = .tuple #[ptr q 0, I 0, I 0] ∧ w.heap.size ≤ q ∧ ∃ D' J' F', JnM w' q p g J' ∧ DevA w' p D' F' ∧ Kp F w w' ∧ (∀ i, F' i → (F i ∨ w.heap.size ≤ i) ∧ i ≠ q) ∧ Fresh g D' J' was (K + 1) ∧ D'.Small (c + (60 * g.L + 300)) ∧ (D.due = 0 → D'.due = 0) := by
  have h := open3_ret (T := []) (was := was) hg hgs hL100 hA hU G (fun n hn => by rw [List.flatten_nil, nowOf_nil]; exact hw n hn) hK hk1 hk2 hsm hc
  refine h.mono fun v w' hv => ?_
  rcases hv with hv | ⟨-, D', f', F', -, -, -, -, -, -, -, hT⟩
  · exact hv
  · exact absurd rfl hT
end
end Go.Proofs.Ytkhkebcflaokpaa
namespace Go.Proofs.Ytkhkebcflaokpaa
open Go Go.RowKit
set_option linter.all false
set_option maxRecDepth 100000

section
variable {w : World} {p : Nat} {D : Dev} {F : Nat → Prop} {g : Geo}
theorem plan0_ret (h : DevA w p D F) : Ret Try.prog 14 [ptr p 0, I 0, .agg #[.slice none 0 0, I 0, .int .u8 0]] w fun v w' => v = I (D.plan 0 [] 0 0).2 ∧ DevT w p F (D.plan 0 [] 0 0).1 w' :=
  planA_ret 0 (.slice none 0 0) [] 0 0 h (by simp) ⟨rfl, .inl ⟨(none, 0), rfl, rfl⟩⟩ (.inl rfl) (by omega)
theorem small_plan {c : Nat} (h : D.Small c) (z : Int) (l : List Int) (tn : Int) (mk : UInt8) (hl : l.length ≤ 17592186044416) : Dev.Small { D with due := z, keep := l, torn := tn, mask := mk } c := ⟨h.1, h.2.1, h.2.2.1, hl⟩
end
end Go.Proofs.Ytkhkebcflaokpaa
namespace Go.Proofs.Ytkhkebcflaokpaa
open Go Go.RowKit
set_option linter.all false
set_option maxRecDepth 100000
theorem LiveJ.up {g : Geo} {D : Dev} {J : Jn} {was : Cont} {K : Nat} (h : LiveJ g D J was K) : ∃ base C, Up D g base C ∧ ∀ n, g.out n → nowOf base C n = was n := by
  obtain ⟨base, C, hd, a, T, L⟩ := h
  exact ⟨base, C, L.up, L.now⟩
set_option maxHeartbeats 4000000 in
theorem journalAnew_ret (z : Int) (lv : Value) (fall : Int) (cv : Value) (ls : List (List (Int × Bytes))) (l : List Int) (tn : Int) (mk : UInt8) (w : World) (hM : PutssM w lv ls) (hl : l.length ≤ 17592186044415) (hr : Rd w cv 1 l.length (l.map I)) (hfl : fall ≤ 9223372036854775807) :
    Ret Try.prog 3 [I z, lv, I fall, .agg #[cv, I tn, u8v mk]] w fun v w' => v = .bool true ∧ Ext w w' := by
  have hml : maxLen = 9223372036854775807 := rfl
  obtain ⟨⟨la, lc, rfl⟩, hll⟩ := hM.shape
  obtain ⟨ca, cc, rfl, -⟩ := hr.shape
  have r9 := nrm_range z 9 (by decide)
  obtain ⟨k, hk⟩ : ∃ k : Nat, nrm z 9 = (k : Int) := ⟨(nrm z 9).toNat, by omega⟩
  obtain ⟨g, hgd⟩ : ∃ g, gOf 2 k = g := ⟨_, rfl⟩
  have hg : g.Ok := by rw [← hgd]; exact gOf_ok (by omega) (by omega)
  have hgs : g.s = 3 := by rw [← hgd]; rfl
  have hgB : g.B = 24 := by rw [← hgd]; rfl
  have hgN : g.N = 2 := by rw [← hgd]; rfl
  have hgL : g.L = 4 + k := by rw [← hgd]; rfl
  have hsz : g.size = 1024 := by unfold Geo.size; rw [hgN]
  have hU0 : Up (Dev.fresh 24 2) g (Dev.fresh 24 2).kept [] := by rw [← hgd]; exact up_fresh (by omega)
  have t1 := tmod_range z 9 (by decide)
  refine ret_of_run (e := [(0, _), (1, _), (2, _), (3, _)]) Try.func3 rfl Try.ntmps3 rfl rfl ?_
  refine run_seq ?_
  refine run_reg rfl ?_
  refine rValP rfl rfl (pbx rfl rfl) ?_
  rintro _ w0 ⟨b7, rfl, hb7, hx0, hB7⟩
  have hs0 := hx0.size
  refine rVal rfl rfl (yas rfl) ?_
  refine rEnd ?_
  refine run_seq ?_
  refine run_reg rfl ?_
  refine rVal rfl rfl (ymv rfl) ?_
  refine rVal rfl rfl (yrt rfl rfl (by omega)) ?_
  refine rVal rfl rfl (yad rfl rfl (by omega)) ?_
  refine rVal rfl rfl (yrt rfl rfl (by omega)) ?_
  rw [show (z.tmod 9 + 9).tmod 9 = nrm z 9 from rfl, hk]
  refine rVal rfl rfl (yad rfl rfl (by omega)) ?_
  refine rVal rfl rfl (yas rfl) ?_
  refine rEnd ?_
  refine run_seq ?_
  refine run_reg rfl ?_
  refine rVal rfl rfl (ybd (parts := [(0, .const (Value.int .i64 24)), (1, .const (Value.int .i64 2))]) (cs := [_, _]) ti31 rfl sp31 rfl rfl) ?_
  refine rCall rfl rfl (yc (args := [.tmp 26]) cf6 rfl) (newA_ok 24 2 _ (by unfold geoOk; omega)) ?_
  rintro _ w1 ⟨p, F1, rfl, hA1, hx1', hF1'⟩
  have hx1 : Ext w w1 := hx0.trans hx1'
  have hs01 := hx1'.size
  have hF1 : ∀ i, F1 i → w0.heap.size ≤ i := hF1'
  have hb7l := hB7.lt
  rw [show (6 : Int) + (k : Int) = ((g.L + 2 : Nat) : Int) by omega]
  refine rVal rfl rfl (ymv rfl) ?_
  refine rVal rfl rfl (yex rfl rfl) ?_
  refine rVal rfl rfl (yex rfl rfl) ?_
  refine rVal rfl rfl (yas rfl) ?_
  refine rVal rfl rfl (yas rfl) ?_
  refine rEnd ?_
  refine run_seq ?_
  refine run_seq ?_
  refine run_reg rfl ?_
  refine rVal rfl rfl (ymv rfl) ?_
  refine rVal rfl rfl (yne rfl rfl) ?_
  refine rFalse (by (first | exact fun h => h rfl | assumption | omega)) ?_
  refine rVal rfl rfl (ymv rfl) ?_
  refine rVal rfl rfl (ymv rfl) ?_
  refine rVal rfl rfl (ymv rfl) ?_
  refine rCall rfl rfl (yc (args := [.tmp 33, .const (Value.int .i64 3), .tmp 34]) cf7 rfl) (format3_ret hA1 hU0.hB hU0.hN hU0.down hg hgs (small_fresh 24 2) (by omega)) ?_
  rintro _ w2 ⟨rfl, F2, hA2, hu2⟩
  have hsf := small_runS (formatS g) (small_fresh 24 2)
  rcases runS_format hg hU0 with ⟨D2, base, er, U2, G2, hb2, hd2⟩ | ⟨D2, f, er, hdu, -⟩
  case inr => exact absurd rfl hdu
  rw [er] at hA2 hsf ⊢
  dsimp only at hA2 hsf ⊢
  refine rVal rfl rfl (yne rfl rfl) ?_
  refine rFalse (by (first | exact fun h => h rfl | assumption | omega)) ?_
  refine rVal rfl rfl (ypF rfl rfl) ?_
  refine rVal rfl rfl (ymv rfl) ?_
  refine rCall rfl rfl (yc (args := []) cf8 rfl) (awake_ret _) ?_
  rintro _ w3 ⟨rfl, hx3⟩
  refine rVal rfl rfl ((by first | exact yntd rfl | exact ynt rfl)) ?_
  refine rVal rfl rfl (ypF rfl rfl) ?_
  refine rEnd ?_
  refine Run.sub (e := [(0, _), (1, _), (2, _), (7, _), (8, _), (9, _), (41, _)]) ?_ (by repeat (first | exact Sub.nil | refine Sub.cons rfl ?_))
  refine run_false rfl ?_
  refine run_skip ?_
  refine run_seq ?_
  refine run_reg rfl ?_
  refine rVal rfl rfl (ymv rfl) ?_
  refine rVal rfl rfl (ymv rfl) ?_
  refine rCall rfl rfl (yc (args := [.tmp 43, .const (Value.int .i64 3), .tmp 44]) cf9 rfl) (openN_ret (was := base) (K := 1) hg hgs (by omega) (hA2.ext hx3) U2 G2 (fun _ _ => rfl) (by omega) (Nat.le_refl 1) (Nat.le_refl 1) hsf (by show 0 + (formatS g).length ≤ _; rw [formatS_len]; omega)) ?_
  rintro _ w4 ⟨q, rfl, hq4, D4, J4, F4, hJ4, hA4, hk4, hF4, hFr4, hsm4, hd4⟩
  have hB1 := hx1'.blk hB7
  have hB2 := hu2.1.blk hB1 (fun h => by have := hF1 _ h; omega)
  have hF2l := hu2.low hs01 hF1
  have hB4 := hk4.blk (hx3.blk hB2) (fun h => by have := hF2l _ h; omega)
  have hx2 := hu2.ext hx1 (fun i hi => by have := hF1 i hi; omega)
  have hx4 : Ext w w4 := (hx2.trans hx3).trans_new hk4 (fun i hi => by have := hF2l i hi; omega)
  have hs2 := hx2.size
  have hs3 := hx3.size
  have hs4 := hx4.size
  have hs14 : w0.heap.size ≤ w4.heap.size := by have := hu2.1.size; have := hk4.size; omega
  have hLv4 := hFr4.live
  have hF4w : ∀ i, F4 i → w0.heap.size ≤ i ∧ i < w4.heap.size ∧ i ≠ q := fun i hi => ⟨by rcases (hF4 i hi).1 with h | h; exact hF2l i h; have := hu2.1.size; omega, hA4.lt i hi, (hF4 i hi).2⟩
  have hql := hJ4.lt
  have hqw : w0.heap.size ≤ q := by have := hu2.1.size; omega
  refine rVal rfl rfl (ymv rfl) ?_
  refine rVal rfl rfl (yex rfl rfl) ?_
  refine rVal rfl rfl (yex rfl rfl) ?_
  refine rVal rfl rfl (yex rfl rfl) ?_
  refine rVal rfl rfl (yas rfl) ?_
  refine rVal rfl rfl (yas rfl) ?_
  refine rVal rfl rfl (yas rfl) ?_
  refine rEnd ?_
  refine run_seq ?_
  refine run_seq ?_
  refine run_reg rfl ?_
  refine rVal rfl rfl (ymv rfl) ?_
  refine rVal rfl rfl (yne rfl rfl) ?_
  refine rFalse (by (first | exact fun h => h rfl | assumption | omega)) ?_
  refine rEnd ?_
  refine run_false rfl ?_
  refine run_skip ?_
  refine run_seq ?_
  refine run_seq ?_
  refine run_reg rfl ?_
  refine rVal rfl rfl (yas rfl) ?_
  refine rEnd ?_
  refine run_block ?_
  refine run_cut2 (fun e' w' => e' = [(0, I ((g.L + 2 : Nat) : Int)), (2, I fall), (7, ptr b7 0), (9, ptr p 0)] ∧ ∃ D F base C, Ext w w' ∧ w0.heap.size ≤ w'.heap.size ∧ Blk w' b7 [.slice ca l.length cc, I tn, u8v mk] 25 ∧ DevA w' p D F ∧ Up D g base C ∧ (∀ i, F i → w0.heap.size ≤ i) ∧ D.due = 0 ∧ D.Small 5000) ?hk (fun hk => ?hmain)
  case hk =>
    rintro _ w5 ⟨rfl, D5, F5, base5, C5, hx5, hs5, hB5, hA5, hU5, hF5, hd5, hsm5⟩
    refine run_seq ?_
    refine run_seq ?_
    refine run_reg rfl ?_
    refine rVal rfl rfl (ymv rfl) ?_
    refine rCall rfl rfl (yc (args := [.tmp 70]) cf12 rfl) (flushA_ret hA5 hsm5 (by omega)) ?_
    rintro _ w6 ⟨rfl, F6, hA6, hu6⟩
    have hsm6 := small_flush hsm5
    rcases flush_spec hU5 with ⟨h0, hU6, hdu⟩ | ⟨h0, hdu, -⟩
    case inr => exact absurd hd5 hdu
    rw [h0]
    obtain ⟨D6, hD6⟩ : ∃ D6, D5.flush.1 = D6 := ⟨_, rfl⟩
    rw [hD6] at hA6 hsm6 hU6
    obtain ⟨was, hwas⟩ : ∃ was, nowOf base5 C5 = was := ⟨_, rfl⟩
    rw [hwas] at hU6
    refine rVal rfl rfl (yne rfl rfl) ?_
    refine rFalse (by (first | exact fun h => h rfl | assumption | omega)) ?_
    refine rEnd ?_
    refine run_false rfl ?_
    refine run_skip ?_
    refine run_seq ?_
    refine run_reg rfl ?_
    refine rVal rfl rfl (ymv rfl) ?_
    refine rVal rfl rfl (ymv rfl) ?_
    have hF6 := hu6.low hs5 hF5
    have hx6 := hu6.ext hx5 (fun i hi => by have := hF5 i hi; omega)
    have hB6 := hu6.1.blk hB5 (fun h => by have := hF5 _ h; omega)
    have hs6 := hu6.1.size
    refine rCall rfl rfl (yc (args := [.tmp 73, .tmp 74]) cf13 rfl) (model_ret hA6 (by rw [hU6.hB, hgB]) hgs (by omega) hsm6 (by omega)) ?_
    rintro _ w7 ⟨b, cap, rfl, hS7, hx7, hb7'⟩
    rw [mdl_up hU6 (fun _ _ => rfl) hgs hgB] at hS7
    have hs7 := hx7.size
    have hA7 := hA6.ext hx7
    have hB7' := hx7.blk hB6
    have hx07 := hx6.trans hx7
    have hF6b : ∀ i, F6 i → w0.heap.size ≤ i ∧ i ≠ b := fun i hi => ⟨hF6 i hi, by have := hA6.lt i hi; omega⟩
    have hbl : b < w7.heap.size := hS7.lt rfl
    have hr7 : Rd w7 (.slice ca l.length cc) 1 l.length (l.map I) := hr.ext hx07
    refine rVal rfl rfl (yas rfl) ?_
    refine rEnd ?_
    refine run_seq ?_
    refine run_seq ?_
    refine run_reg rfl ?_
    refine rVal rfl rfl (ymv rfl) ?_
    refine rVal rfl rfl (ygt rfl rfl) ?_
    refine rEnd ?_
    refine run_cut (fun e' w' => e' = [(0, I ((g.L + 2 : Nat) : Int)), (9, ptr p 0), (15, .slice (some ⟨b, 0, none⟩) 24 cap)] ∧ ∃ D F, Ext w w' ∧ w0.heap.size ≤ w'.heap.size ∧ DevA w' p D F ∧ Up D g was [] ∧ (∀ i, F i → w0.heap.size ≤ i ∧ i ≠ b) ∧ D.Small 6000 ∧ Sl w' (.slice (some ⟨b, 0, none⟩) 24 cap) 9 1 24 ((mdl g was).map S)) ?hkc (fun hkc => ?hmainc)
    case hkc =>
      rintro _ w8 ⟨rfl, D8, F8, hx8, hs8, hA8, hU8, hF8, hsm8, hS8⟩
      refine run_seq ?_
      refine run_reg rfl ?_
      refine rVal rfl rfl (ymv rfl) ?_
      refine rVal rfl rfl (ymv rfl) ?_
      refine rCall rfl rfl (yc (args := [.tmp 88, .const (Value.int .i64 3), .tmp 89]) cf7 rfl) (format3_ret hA8 hU8.hB hU8.hN hU8.down hg hgs hsm8 (by omega)) ?_
      rintro _ w9 ⟨rfl, F9, hA9, hu9⟩
      have hsm9 := small_runS (formatS g) hsm8
      have hs9 := hu9.1.size
      have hbl8 : b < w8.heap.size := hS8.lt rfl
      have hF9 : ∀ i, F9 i → w0.heap.size ≤ i ∧ i ≠ b := fun i hi => (hu9.2 i hi).elim (hF8 i) (fun h => ⟨by omega, by omega⟩)
      have hFl9 : ∀ i, F9 i → w.heap.size ≤ i := fun i hi => by have := (hF9 i hi).1; omega
      have hS9 := hS8.kp hu9.1 (fun i hi h => (hF8 i h).2 (Option.some.inj hi).symm)
      have hx9 := hu9.ext hx8 (fun i hi => by have := (hF8 i hi).1; omega)
      rcases runS_format hg hU8 with ⟨D9, base9, er, U9, G9, hb9, hd9⟩ | ⟨D9, f9, er, hdu, hFe9, hf9⟩
      · rw [er] at hA9 hsm9 ⊢
        dsimp only at hA9 hsm9 ⊢
        rw [formatS_len] at hsm9
        refine rVal rfl rfl (yas rfl) ?_
        refine rEnd ?_
        refine run_seq ?_
        refine run_seq ?_
        refine run_reg rfl ?_
        refine rVal rfl rfl (ymv rfl) ?_
        refine rCall rfl rfl (yc (args := [.tmp 91]) cf16 rfl) (downA_ret hA9) ?_
        rintro _ w9 ⟨rfl, rfl⟩
        rw [U9.down]
        refine rVal rfl rfl (ymv rfl) ?_
        refine rSkip rfl rfl ?_
        refine rSkip rfl rfl ?_
        refine rSkip rfl rfl ?_
        refine rSkip rfl rfl ?_
        refine rSkip rfl rfl ?_
        refine rSkip rfl rfl ?_
        refine rSkip rfl rfl ?_
        refine rVal rfl rfl (ypF rfl rfl) ?_
        refine rEnd ?_
        refine run_false rfl ?_
        refine run_skip ?_
        refine run_seq ?_
        refine run_seq ?_
        refine run_reg rfl ?_
        refine rVal rfl rfl (ymv rfl) ?_
        refine rVal rfl rfl (yeq rfl rfl) ?_
        refine rFalse (by (first | exact fun h => h rfl | assumption | omega)) ?_
        refine rEnd ?_
        refine run_false rfl ?_
        refine run_skip ?_
        refine run_seq ?_
        refine run_reg rfl ?_
        refine rVal rfl rfl (ymv rfl) ?_
        refine rVal rfl rfl (ymv rfl) ?_
        refine rCall rfl rfl (yc (args := [.tmp 111, .const (Value.int .i64 3), .tmp 112]) cf9 rfl) (openN_ret (was := was) (K := 1) hg hgs (by omega) hA9 U9 G9 hb9 (by omega) (Nat.le_refl 1) (Nat.le_refl 1) hsm9 (by omega)) ?_
        rintro _ w10 ⟨q2, rfl, hq10, D10, J10, F10, hJ10, hA10, hk10, hF10, hFr10, hsm10, hd10⟩
        have hLv10 := hFr10.live
        refine rVal rfl rfl (ymv rfl) ?_
        refine rVal rfl rfl (yex rfl rfl) ?_
        refine rVal rfl rfl (yex rfl rfl) ?_
        refine rVal rfl rfl (yex rfl rfl) ?_
        refine rVal rfl rfl (yas rfl) ?_
        refine rVal rfl rfl (yas rfl) ?_
        refine rVal rfl rfl (yas rfl) ?_
        refine rEnd ?_
        refine Run.sub (e := [(0, _), (9, _), (15, _), (16, _), (18, _), (19, _)]) ?_ (by repeat (first | exact Sub.nil | refine Sub.cons rfl ?_))
        refine run_seq ?_
        refine run_reg rfl ?_
        refine rVal rfl rfl (ymv rfl) ?_
        refine rVal rfl rfl (yeq rfl rfl) ?_
        refine rTrue (by (first | rfl | assumption | omega | decide)) ?_
        refine rVal rfl rfl (ymv rfl) ?_
        refine rVal rfl rfl (ymv rfl) ?_
        refine rVal rfl rfl (yeq rfl rfl) ?_
        refine rTrue (by (first | rfl | assumption | omega | decide)) ?_
        refine rVal rfl rfl (ypT rfl rfl) ?_
        refine rVal rfl rfl (ymv rfl) ?_
        refine rVal rfl rfl (ymv rfl) ?_
        refine rVal rfl rfl (yeq rfl rfl) ?_
        refine rTrue (by (first | rfl | assumption | omega | decide)) ?_
        refine rVal rfl rfl (ypT rfl rfl) ?_
        refine rVal rfl rfl (ymv rfl) ?_
        refine rVal rfl rfl (ymv rfl) ?_
        refine rVal rfl rfl (ymv rfl) ?_
        refine rCall rfl rfl (yc (args := [.tmp 128, .tmp 129]) cf13 rfl) (model_ret hA10 (by rw [hLv10.geo.1, hgB]) hgs (by omega) hsm10 (by omega)) ?_
        rintro _ w11 ⟨b2, cap2, rfl, hS11, hx11, hb11⟩
        rw [mdl_live hLv10 hgs hgB] at hS11
        have hSw := (hS9.kp hk10 (fun i hi h => ((fun i hi => (hF9 i hi).2) i h) (Option.some.inj hi).symm)).ext hx11
        refine rVal rfl rfl (ymv rfl) ?_
        refine rCall rfl rfl (yc (args := [.tmp 130, .tmp 131]) cf18 rfl) (same_ret _ _ (mdl g was) (mdl g was) _ (by rw [mdl_length]; exact hS11.rd) (by rw [mdl_length]; exact hSw.rd) (by rw [mdl_length]; omega) (by rw [mdl_length]; omega)) ?_
        rintro _ w12 ⟨rfl, hx12⟩
        rw [show decide (mdl g was = mdl g was) = true from decide_eq_true rfl]
        refine rVal rfl rfl (ypT rfl rfl) ?_
        refine rVal rfl rfl (yas rfl) ?_
        refine rEnd ?_
        refine run_ret Try.func3 rfl ?_
        exact ⟨_, rfl, rfl, ((hx9.trans_new hk10 hFl9).trans hx11).trans hx12⟩
      · rw [er] at hA9 hsm9 ⊢
        dsimp only at hA9 hsm9 ⊢
        rw [formatS_len] at hsm9
        refine rVal rfl rfl (yas rfl) ?_
        refine rEnd ?_
        refine run_seq ?_
        refine run_seq ?_
        refine run_reg rfl ?_
        refine rVal rfl rfl (ymv rfl) ?_
        refine rCall rfl rfl (yc (args := [.tmp 91]) cf16 rfl) (downA_ret hA9) ?_
        rintro _ w9 ⟨rfl, rfl⟩
        rw [hFe9.down]
        refine rVal rfl rfl (ymv rfl) ?_
        refine rVal rfl rfl (ymv rfl) ?_
        refine rVal rfl rfl (yne rfl rfl) ?_
        refine rFalse (by (first | exact fun h => h rfl | assumption | omega)) ?_
        refine rVal rfl rfl (ymv rfl) ?_
        refine rVal rfl rfl (ymv rfl) ?_
        refine rCall rfl rfl (yc (args := [.tmp 97]) cf17 rfl) (restartA_ret hA9) ?_
        rintro _ wa ⟨rfl, Fa, hAa, hua⟩
        rw [if_pos hFe9.down]
        have hUa := hFe9.restart
        have hsma : Dev.Small { D9 with down := false } (6000 + (g.L + 5)) := hsm9
        have hsza := hua.1.size
        have hFa : ∀ i, Fa i → w0.heap.size ≤ i ∧ i ≠ b := fun i hi => (hua.2 i hi).elim (hF9 i) (fun h => ⟨by omega, by omega⟩)
        have hSa := hS9.kp hua.1 (fun i hi h => (hF9 i h).2 (Option.some.inj hi).symm)
        have hxa := hua.ext hx9 hFl9
        refine rVal rfl rfl (yne rfl rfl) ?_
        refine rFalse (by (first | exact fun h => h rfl | assumption | omega)) ?_
        refine rVal rfl rfl (ypF rfl rfl) ?_
        refine rVal rfl rfl (ypT rfl rfl) ?_
        refine rEnd ?_
        refine run_false rfl ?_
        refine run_skip ?_
        refine run_seq ?_
        refine run_seq ?_
        refine run_reg rfl ?_
        refine rVal rfl rfl (ymv rfl) ?_
        refine rVal rfl rfl (yeq rfl rfl) ?_
        refine rTrue (by (first | rfl | assumption | omega | decide)) ?_
        refine rEnd ?_
        refine run_true rfl ?_
        refine run_seq ?_
        refine run_reg rfl ?_
        refine rVal rfl rfl (ymv rfl) ?_
        refine rVal rfl rfl (ybd (parts := []) (cs := [_, _, _]) ti45 rfl sp45 rfl rfl) ?_
        obtain ⟨hpe, hUb⟩ := hUa.plan (z := 0) (by omega) [] 0 0
        refine rCall rfl rfl (yc (args := [.tmp 104, .const (Value.int .i64 0), .tmp 105]) cf14 rfl) (plan0_ret hAa) ?_
        rintro _ wb ⟨rfl, Fb, hAb, hub⟩
        rw [hpe] at hAb
        have hszb := hub.1.size
        have hFb : ∀ i, Fb i → w0.heap.size ≤ i ∧ i ≠ b := fun i hi => (hub.2 i hi).elim (hFa i) (fun h => ⟨by omega, by omega⟩)
        have hSb := hSa.kp hub.1 (fun i hi h => (hFa i h).2 (Option.some.inj hi).symm)
        have hxb := hub.ext hxa (fun i hi => by have := (hFa i hi).1; omega)
        have hsmb := small_plan hsma 0 [] 0 0 (by simp)
        refine rEnd ?_
        refine run_reg rfl ?_
        refine rVal rfl rfl (ymv rfl) ?_
        refine rVal rfl rfl (ymv rfl) ?_
        refine rCall rfl rfl (yc (args := [.tmp 107, .const (Value.int .i64 3), .tmp 108]) cf7 rfl) (format3_ret hAb hUb.hB hUb.hN hUb.down hg hgs hsmb (by omega)) ?_
        rintro _ wc ⟨rfl, Fc, hAc, huc⟩
        have hsmc := small_runS (formatS g) hsmb
        have hszc := huc.1.size
        have hFc : ∀ i, Fc i → w0.heap.size ≤ i ∧ i ≠ b := fun i hi => (huc.2 i hi).elim (hFb i) (fun h => ⟨by omega, by omega⟩)
        have hFlc : ∀ i, Fc i → w.heap.size ≤ i := fun i hi => by have := (hFc i hi).1; omega
        have hSc := hSb.kp huc.1 (fun i hi h => (hFb i h).2 (Option.some.inj hi).symm)
        have hxc := huc.ext hxb (fun i hi => by have := (hFb i hi).1; omega)
        rcases runS_format hg hUb with ⟨Dc, basec, erc, Uc, Gc, hbc, hdc⟩ | ⟨Dc, fc, erc, hduc, -⟩
        case inr => exact absurd rfl hduc
        rw [erc] at hAc hsmc ⊢
        dsimp only at hAc hsmc ⊢
        rw [formatS_len] at hsmc
        have hwc : ∀ n, g.out n → basec n = was n := fun n hn => (hbc n hn).trans (hf9 n hn)
        refine rVal rfl rfl (yas rfl) ?_
        refine rEnd ?_
        refine Run.sub (e := [(0, _), (9, _), (15, _), (16, _)]) ?_ (by repeat (first | exact Sub.nil | refine Sub.cons rfl ?_))
        refine run_seq ?_
        refine run_reg rfl ?_
        refine rVal rfl rfl (ymv rfl) ?_
        refine rVal rfl rfl (ymv rfl) ?_
        refine rCall rfl rfl (yc (args := [.tmp 111, .const (Value.int .i64 3), .tmp 112]) cf9 rfl) (openN_ret (was := was) (K := 1) hg hgs (by omega) hAc Uc Gc hwc (by omega) (Nat.le_refl 1) (Nat.le_refl 1) hsmc (by omega)) ?_
        rintro _ w10 ⟨q2, rfl, hq10, D10, J10, F10, hJ10, hA10, hk10, hF10, hFr10, hsm10, hd10⟩
        have hLv10 := hFr10.live
        refine rVal rfl rfl (ymv rfl) ?_
        refine rVal rfl rfl (yex rfl rfl) ?_
        refine rVal rfl rfl (yex rfl rfl) ?_
        refine rVal rfl rfl (yex rfl rfl) ?_
        refine rVal rfl rfl (yas rfl) ?_
        refine rVal rfl rfl (yas rfl) ?_
        refine rVal rfl rfl (yas rfl) ?_
        refine rEnd ?_
        refine run_seq ?_
        refine run_reg rfl ?_
        refine rVal rfl rfl (ymv rfl) ?_
        refine rVal rfl rfl (yeq rfl rfl) ?_
        refine rTrue (by (first | rfl | assumption | omega | decide)) ?_
        refine rVal rfl rfl (ymv rfl) ?_
        refine rVal rfl rfl (ymv rfl) ?_
        refine rVal rfl rfl (yeq rfl rfl) ?_
        refine rTrue (by (first | rfl | assumption | omega | decide)) ?_
        refine rVal rfl rfl (ypT rfl rfl) ?_
        refine rVal rfl rfl (ymv rfl) ?_
        refine rVal rfl rfl (ymv rfl) ?_
        refine rVal rfl rfl (yeq rfl rfl) ?_
        refine rTrue (by (first | rfl | assumption | omega | decide)) ?_
        refine rVal rfl rfl (ypT rfl rfl) ?_
        refine rVal rfl rfl (ymv rfl) ?_
        refine rVal rfl rfl (ymv rfl) ?_
        refine rVal rfl rfl (ymv rfl) ?_
        refine rCall rfl rfl (yc (args := [.tmp 128, .tmp 129]) cf13 rfl) (model_ret hA10 (by rw [hLv10.geo.1, hgB]) hgs (by omega) hsm10 (by omega)) ?_
        rintro _ w11 ⟨b2, cap2, rfl, hS11, hx11, hb11⟩
        rw [mdl_live hLv10 hgs hgB] at hS11
        have hSw := (hSc.kp hk10 (fun i hi h => ((fun i hi => (hFc i hi).2) i h) (Option.some.inj hi).symm)).ext hx11
        refine rVal rfl rfl (ymv rfl) ?_
        refine rCall rfl rfl (yc (args := [.tmp 130, .tmp 131]) cf18 rfl) (same_ret _ _ (mdl g was) (mdl g was) _ (by rw [mdl_length]; exact hS11.rd) (by rw [mdl_length]; exact hSw.rd) (by rw [mdl_length]; omega) (by rw [mdl_length]; omega)) ?_
        rintro _ w12 ⟨rfl, hx12⟩
        rw [show decide (mdl g was = mdl g was) = true from decide_eq_true rfl]
        refine rVal rfl rfl (ypT rfl rfl) ?_
        refine rVal rfl rfl (yas rfl) ?_
        refine rEnd ?_
        refine Run.sub (e := [(8, _)]) ?_ (by repeat (first | exact Sub.nil | refine Sub.cons rfl ?_))
        refine run_ret Try.func3 rfl ?_
        exact ⟨_, rfl, rfl, ((hxc.trans_new hk10 hFlc).trans hx11).trans hx12⟩
    case hmainc =>
      refine run_if rfl (fun hfa => ?_) (fun hfa => ?_)
      · skip
        have m1 := Int.emod_nonneg (fall - 1) (show ((g.L + 2 : Nat) : Int) + 4 ≠ 0 by omega)
        have m2 := Int.emod_lt_of_pos (fall - 1) (show 0 < ((g.L + 2 : Nat) : Int) + 4 by omega)
        refine run_draw (fun w' => Kp F6 w7 w') (by kernel_rfl) rfl ?_
        refine hTake (i := 0) rfl (by kernel_rfl) rfl rfl (fun _ hS => ymv rfl) ((Ext.drew0 w7).kp) ?_
        refine hTake (i := 1) rfl (by kernel_rfl) rfl rfl (fun _ hS => ymv rfl) ((Ext.drew0 w7).kp) ?_
        refine hTake (i := 2) rfl (by kernel_rfl) rfl rfl (fun _ hS => ysb rfl rfl (by omega)) ((Ext.drew0 w7).kp) ?_
        refine hTake (i := 3) rfl (by kernel_rfl) rfl rfl (fun _ hS => ymv rfl) ((Ext.drew0 w7).kp) ?_
        refine hTake (i := 4) rfl (by kernel_rfl) rfl rfl (fun _ hS => yad rfl rfl (by omega)) ((Ext.drew0 w7).kp) ?_
        refine hTake (i := 5) rfl (by kernel_rfl) rfl rfl (fun _ hS => yre rfl rfl (by omega)) ((Ext.drew0 w7).kp) ?_
        refine hTake (i := 6) rfl (by kernel_rfl) rfl rfl (fun _ hS => yad rfl rfl (by omega)) ((Ext.drew0 w7).kp) ?_
        refine hTake (i := 7) rfl (by kernel_rfl) rfl rfl (fun _ hS => yldA Try.underlying25 rfl ti25 rfl (Blk.cells (n := 3) (hS.blk hB7' (fun h => by have := hF6 _ h; omega)) (news := [_, _, _]) rfl) rfl) ((Ext.drew0 w7).kp) ?_
        have h0d : Ext w7 w7.drew := Ext.drew0 w7
        refine hOne (i := 8) (by kernel_rfl) ?_
        refine nCall (i := 8) rfl rfl rfl (yc (args := [.tmp 85]) cf15 rfl) (crash_ret (.slice ca l.length cc) l tn mk hl (hr7.ext h0d)) ?_
        rintro _ w8 ⟨sv, rfl, hSv, hx8, hg8⟩
        refine ⟨(h0d.trans hx8).kp, ?_⟩
        have hx78 := h0d.trans hx8
        have hs78 := hx78.size
        refine hOne (i := 9) (by kernel_rfl) ?_
        refine nCall (i := 9) rfl rfl rfl (yc (args := [.tmp 78, .tmp 84, .tmp 86]) cf14 rfl) (planA_ret (1 + (fall - 1) % (((g.L + 2 : Nat) : Int) + 4)) sv l tn mk (hA7.ext hx78) (by omega) hSv.rd (hSv.shape.imp And.left fun ⟨g', cap', e, _⟩ => ⟨_, cap', e⟩) (by omega)) ?_
        rintro _ w9 ⟨rfl, F9, hA9, hu9⟩
        refine ⟨hx78.kp.trans hu9.1, ?_⟩
        obtain ⟨hpe, hU9⟩ := hU6.plan (z := 1 + (fall - 1) % (((g.L + 2 : Nat) : Int) + 4)) (by omega) l tn mk
        rw [hpe] at hA9
        have hs9 := hu9.1.size
        refine hEnd (by kernel_rfl) ?_
        exact (hkc _ _ ⟨rfl, _, F9, hu9.ext (hx07.trans hx78) (fun i hi => by have := hF6 i hi; omega), by omega, hA9, hU9, fun i hi => (hu9.2 i hi).elim (hF6b i) (fun h => ⟨by omega, by omega⟩), small_plan (hsm6.mono (by omega)) _ _ _ _ (by omega), (hS7.ext hx78).kp hu9.1 (fun i hi h => (hF6b i h).2 (Option.some.inj hi).symm)⟩).sub (by repeat (first | exact Sub.nil | refine Sub.cons rfl ?_))
      · skip
        refine run_skip ?_
        exact (hkc _ _ ⟨rfl, _, F6, hx07, by omega, hA7, hU6, hF6b, hsm6.mono (by omega), hS7⟩).sub (by repeat (first | exact Sub.nil | refine Sub.cons rfl ?_))
  case hmain =>
    refine run_loop (α := Nat × Dev × Jn × (Nat → Prop) × Cont) ((0, D4, J4, F4, base)) (fun x => [(0, I ((g.L + 2 : Nat) : Int)), (1, .slice la ls.length lc), (2, I fall), (7, ptr b7 0), (9, ptr p 0), (11, ptr q 0), (14, I (x.1 : Int))]) (fun x w' => x.1 ≤ 20 ∧ x.1 ≤ ls.length ∧ Ext w w' ∧ w4.heap.size ≤ w'.heap.size ∧ Blk w' b7 [.slice ca l.length cc, I tn, u8v mk] 25 ∧ JnM w' q p g x.2.2.1 ∧ DevA w' p x.2.1 x.2.2.2.1 ∧ (∀ i, x.2.2.2.1 i → w0.heap.size ≤ i ∧ i ≠ q) ∧ LiveJ g x.2.1 x.2.2.1 x.2.2.2.2 (2 + 2 * x.1) ∧ x.2.1.due = 0 ∧ x.2.1.Small (1100 + 60 * x.1)) (fun x => 20 - x.1) (by repeat (first | exact Sub.nil | refine Sub.cons rfl ?_)) ?hI ?hround
    case hI => exact ⟨Nat.zero_le _, Nat.zero_le _, hx4, Nat.le_refl _, hB4, hJ4, hA4, fun i hi => ⟨(hF4w i hi).1, (hF4w i hi).2.2⟩, hLv4.mono (by omega), hd4 (hd2 rfl), hsm4.mono (by rw [formatS_len]; omega)⟩
    case hround =>
      clear hF4 hF4w hk4 hu2 hF2l hF1'
      rintro ⟨i, D, J, F, was⟩ wi ⟨hi20, hil, hxi, hs4i, hBi, hJi, hAi, hFi, hLi, hdi, hsi⟩ ih
      dsimp only at hi20 hil hJi hAi hFi hLi hdi hsi
      obtain ⟨basei, Ci, hUi, -⟩ := hLi.up
      have hfin : _ := (hk _ _ ⟨rfl, D, F, basei, Ci, hxi, by omega, hBi, hAi, hUi, fun i hi => (hFi i hi).1, hdi, hsi.mono (by omega)⟩)
      try dsimp only
      refine run_seq ?_
      refine run_seq ?_
      refine run_reg rfl ?_
      refine rVal rfl rfl (ymv rfl) ?_
      refine rVal rfl rfl (ymv rfl) ?_
      refine rVal rfl rfl (yln Try.underlying22 rfl) ?_
      refine rVal rfl rfl (ylt rfl rfl) ?_
      refine rVal_if (fun h1 => ?_) (fun h1 => ?_)
      · skip
        refine rVal rfl rfl (ymv rfl) ?_
        refine rVal rfl rfl (ymv rfl) ?_
        refine rVal rfl rfl (ylt rfl rfl) ?_
        refine rVal_if (fun h2 => ?_) (fun h2 => ?_)
        · skip
          obtain ⟨lb, lo, pl, u, hla, hpl, hcu, hPu⟩ := (hM.ext hxi).get (i := i) (by omega)
          cases hla
          refine rVal rfl rfl (ypT rfl rfl) ?_
          refine rEnd ?_
          refine run_true rfl ?_
          refine run_skip ?_
          refine run_seq ?_
          refine run_block ?_
          refine run_seq ?_
          refine run_reg rfl ?_
          refine rVal rfl rfl (ymv rfl) ?_
          refine rVal rfl rfl (ymv rfl) ?_
          refine rVal rfl rfl (ymv rfl) ?_
          refine rVal rfl rfl (yis Try.underlying22 ti40 rfl rfl (by omega)) ?_
          refine rVal rfl rfl (yldc Try.underlying40 rfl rfl hcu) ?_
          have hqi : ¬ F q := fun h => (hFi q h).2 rfl
          refine rVal rfl rfl (ymv rfl) ?_
          refine rCall rfl rfl (yc (args := [.tmp 65, .tmp 66, .const (Value.int .i64 1024)]) cf11 rfl) (puts5_ret pl u 1024 (by omega) hPu hg hgs hgB (by omega)) ?_
          rintro wv wa ⟨t, hSt, hTx, hxa, hot⟩
          obtain ⟨va, vc, rfl, -⟩ := hSt.rd.shape
          have hsa := hxa.size
          have hqil := hJi.lt
          have hwq : ∀ i, (Value.slice va t.length vc).ownBlock = some i → i < wa.heap.size ∧ ¬ F i ∧ i ≠ q := fun i hi => ⟨hSt.lt hi, fun h => by have := hAi.lt i h; have := hot i hi; omega, by have := hot i hi; omega⟩
          refine rCall rfl rfl (yc (args := [.tmp 61, .tmp 67]) cf10 rfl) (commit_ret t _ hg (by omega) (hJi.ext hxa) (hAi.ext hxa) hqi hLi (by omega) hsi (by omega) hTx hSt.rd hwq) ?_
          rintro _ wc hres
          rcases hres with ⟨rfl, D', J', hJ', ⟨F', hA', hk', hF'⟩, hL', hsm', hdu', -, -⟩ | ⟨rfl, D', J', f', -, -, -, -, -, -, hdu'⟩
          case inr => exact absurd hdi hdu'
          have hsc := hk'.size
          refine rVal rfl rfl (yne rfl rfl) ?_
          refine rFalse (by (first | exact fun h => h rfl | assumption | omega)) ?_
          refine rEnd ?_
          refine run_false rfl ?_
          refine run_skip ?_
          refine run_inBlock ?_
          refine run_reg rfl ?_
          refine rVal rfl rfl (ymv rfl) ?_
          refine rVal rfl rfl (yad rfl rfl (by omega)) ?_
          refine rVal rfl rfl (yas rfl) ?_
          refine rEnd ?_
          exact (ih (i + 1, D', J', F', nowOf was t) wc ⟨by dsimp only; omega, by dsimp only; omega, (hxi.trans hxa).trans_new hk' (fun i hi => by
            rcases hi with h | h
            · have := (hFi i h).1; omega
            · omega), by omega, hk'.blk (hxa.blk hBi) (fun h => by
            rcases h with h | h
            · have := (hFi _ h).1; omega
            · omega), hJ', hA', fun i hi => by
            rcases hF' i hi with h | h
            · exact hFi i h
            · exact ⟨by omega, by omega⟩, hL'.mono (by omega), hdu' hdi, hsm'.mono (by omega)⟩ (by dsimp only; omega)).sub (by repeat (first | exact Sub.nil | refine Sub.cons rfl ?_))
        · skip
          refine rVal rfl rfl (ypT rfl rfl) ?_
          refine rEnd ?_
          refine run_false rfl ?_
          refine run_exit rfl ?_
          exact hfin.sub (by repeat (first | exact Sub.nil | refine Sub.cons rfl ?_))
      · skip
        refine rVal rfl rfl (ymv rfl) ?_
        refine rSkip rfl rfl ?_
        refine rSkip rfl rfl ?_
        refine rVal rfl rfl (ypF rfl rfl) ?_
        refine rEnd ?_
        refine run_false rfl ?_
        refine run_exit rfl ?_
        exact hfin.sub (by repeat (first | exact Sub.nil | refine Sub.cons rfl ?_))
end Go.Proofs.Ytkhkebcflaokpaa
namespace Go.Proofs.Ytkhkebcflaokpaa
open Go Go.ChangeShapes Go.WideShapes Go.ChangeAt Go.RowKit
set_option linter.all false

def readables (P : Program) (ts : List TypeId) : Bool := ts.all fun t => P.readableRec t && decide (t < P.types.size)

theorem trodAll_below {H : Type} {enc : TypeId × Value → H} {P : Program} (hl : laidOutB P = true) {W W' : World} (hb : Below W.heap.size W W') :
    ∀ {ts : List TypeId} {vs : List Value} {ds : List (DataW H)} {ps : List MemPlace}, readables P ts = true → DataW.TrodAll enc P W 0 (fun _ => true) true ts vs ds ps →
      DataW.TrodAll enc P W' 0 (fun b => decide (b < W.heap.size)) true ts vs ds ps
  | [], [], [], _, _, h => h
  | t :: ts, v :: vs, d :: ds, _, hr, h => by
    obtain ⟨p, q, h1, h2, rfl⟩ := h
    simp only [readables, List.all_cons, Bool.and_eq_true, decide_eq_true_eq] at hr
    exact ⟨p, q, Below.trod hl hr.1.1 hr.1.2 h1 hb (by obtain ⟨m, hm⟩ := h1; exact DataW.trod_lt m _ _ _ hm), trodAll_below hl hb hr.2 h2, rfl⟩
  | [], [], _ :: _, _, _, h => h.elim
  | [], _ :: _, _, _, _, h => h.elim
  | _ :: _, [], _, _, _, h => h.elim
  | _ :: _, _ :: _, [], _, _, h => h.elim

theorem trodAll_len {H : Type} {enc : TypeId × Value → H} {P : Program} {W : World} {base : Nat} {spare : Nat → Bool} {held : Bool} :
    ∀ {ts : List TypeId} {vs : List Value} {ds : List (DataW H)} {ps : List MemPlace}, DataW.TrodAll enc P W base spare held ts vs ds ps → ds.length = ts.length
  | [], [], [], _, _ => rfl
  | t :: ts, v :: vs, d :: ds, _, h => by
    obtain ⟨p, q, h1, h2, rfl⟩ := h
    simpa using trodAll_len h2
  | [], [], _ :: _, _, h => h.elim
  | [], _ :: _, _, _, h => h.elim
  | _ :: _, [], _, _, h => h.elim
  | _ :: _, _ :: _, [], _, h => h.elim

/-- A function that returns true and keeps all that was there meets the contract of its row. -/
theorem law_lifted {H : Type} {enc : TypeId × Value → H} {C : Checked} {os : Os} {f : FuncId} {fn : Func} {s : ChangeSpec} {t : TypeId} {ts : List TypeId}
    (own : ownKnob C.prog.godebug = none) (started : os.Started) (hl : laidOutB C.prog = true) (noInit : C.prog.inits.idxOf? f = none) (hfn : C.prog.funcs[f]? = some fn)
    (hts : fn.params.toList = ts) (hrd : readables C.prog ts = true) (hrt : fn.resultTypes = #[t]) (hb : C.prog.underlying t = some .bool) (hsv : s.vars = [])
    (hspec : ∀ ds : List (DataW H), ds.length = ts.length → s.fn H ds = { results := [.lit (.bool true)], args := ds })
    (witness : ∃ (w : World) (tape : Tape) (i : Input), w.os = os ∧ (w.forCall tape i).Shaped C.prog ∧ i.vars = [] ∧ Input.okWide C.prog (w.forCall tape i) .any w.heap.size f i ∧
      s.pre6 enc C.prog fn [] false (w.forCall tape i).memory i.args ∧ ({} : Assume).holds C.prog (lone (Frame.enter C.prog f i.args .normal) [] (w.forCall tape i)))
    (hret : ∀ (W : World) (base : Nat) (args : List Value) (ds : List (DataW H)) (ps : List MemPlace),
      (∀ (j : Nat) t v, ts[j]? = some t → args[j]? = some v → Value.okWide C.prog W .any base t v) →
      DataW.TrodAll enc C.prog W 0 (fun _ => true) true ts args ds ps → W.noneFrozen ps →
      (DataW.weightsEach C.prog ts ds).all (· ≤ reachBytes) = true →
      Ret C.prog f args W fun v w' => v = .bool true ∧ Ext W w') :
    ReturnsInHanded {} C os f .any (s.pre6 enc C.prog fn [] false) (s.post enc C.prog fn false true false false) := by
  refine returnsInHanded_of_change_sized own started noInit hfn witness ?_
  intro W base args ds gs before hval0 hW _ hsz0 _
  have hW' := hW
  obtain ⟨p, q, hA, hV, rfl, hfz, _⟩ := hW
  rw [hsv] at hV
  obtain ⟨rfl, rfl⟩ := trodVars_none hV
  rw [hts] at hA
  have hlen := trodAll_len hA
  have hsz : (DataW.weightsEach C.prog ts ds).all (· ≤ reachBytes) = true := by
    have hv : s.plain.varTypes C.prog = [] := by simp [ChangeSpec.plain, DataSpec.varTypes, hsv]
    rw [hts, hv, List.append_nil, List.append_nil] at hsz0
    exact hsz0
  have hr := hret W base args.toList ds p (fun j t v h1 h2 => hval0 j t v (by rw [← hts] at h1; simpa using h1) (by simpa using h2)) hA (by rw [List.append_nil] at hfz; exact hfz) hsz
  unfold Ret at hr; rw [Array.toArray_toList] at hr
  refine Calls.mono hr fun x W' ⟨v, hx, hv, hext⟩ => ?_
  subst hx; subst hv
  have bel := hext.below
  refine ⟨_, rfl, ds, [], p ++ [], [], p, [], hW', ?_, ?_, ?_, bel.frame _, fun h => by cases h⟩
  · rw [List.append_nil, hspec ds hlen, hrt]
    exact trodAll_mk1 (shut_bool hb _)
  · rw [List.append_nil, hspec ds hlen, hts]
    exact trodAll_below hl bel hrd hA
  · rw [hsv, List.append_nil, hspec ds hlen]
    rfl
theorem own : ownKnob Try.prog.godebug = none := by kernel_rfl
theorem laidOut : laidOutB Try.prog = true := by kernel_rfl
theorem str_S (s : ByteArray) : Value.string s = S s.data.toList := by
  obtain ⟨⟨l⟩⟩ := s; rfl
end Go.Proofs.Ytkhkebcflaokpaa
namespace Go.Proofs.Ytkhkebcflaokpaa
open Go Go.ChangeShapes Go.WideShapes Go.ChangeAt Go.RowKit Go.Deep
set_option linter.all false
set_option maxRecDepth 100000

/-! ### Rows of equal length -/
theorem row_get {C : Nat → List Value} {k : Nat} : ∀ {n : Nat}, (∀ i, i < n → (C i).length = k) → ∀ i r, i < n → r < k → ((List.range n).flatMap C)[i * k + r]? = (C i)[r]?
  | 0, _, i, r, hi, _ => absurd hi (Nat.not_lt_zero _)
  | n + 1, hl, i, r, hi, hr => by
    have hlen : ((List.range n).flatMap C).length = n * k := by
      have : ∀ m, m ≤ n → ((List.range m).flatMap C).length = m * k := fun m hm => by
        induction m with
        | zero => simp
        | succ m ih => rw [List.range_succ, List.flatMap_append, List.length_append, ih (by omega)]; simp [hl m (by omega)]; rw [Nat.succ_mul]
      exact this n (Nat.le_refl _)
    rw [List.range_succ, List.flatMap_append]
    rcases Nat.lt_or_ge i n with h | h
    · have hlt : i * k + r < n * k := by
        have : (i + 1) * k ≤ n * k := Nat.mul_le_mul_right k h
        rw [Nat.succ_mul] at this; omega
      rw [List.getElem?_append_left (by rw [hlen]; exact hlt)]
      exact row_get (fun j hj => hl j (by omega)) i r h hr
    · have e : i = n := by omega
      subst e
      rw [List.getElem?_append_right (by rw [hlen]; omega), hlen, show i * k + r - i * k = r by omega]
      simp
theorem flat_length {C : Nat → List Value} {k n : Nat} (hl : ∀ i, i < n → (C i).length = k) : ((List.range n).flatMap C).length = n * k := by
  have : ∀ m, m ≤ n → ((List.range m).flatMap C).length = m * k := fun m hm => by
    induction m with
    | zero => simp
    | succ m ih => rw [List.range_succ, List.flatMap_append, List.length_append, ih (by omega)]; simp [hl m (by omega)]; rw [Nat.succ_mul]
  exact this n (Nat.le_refl _)
section
variable {H : Type} {enc : TypeId × Value → H} {P : Program} {W : World} {sp : Nat → Bool}

/-- Elements that lie in a row are read as a slice. -/
theorem rd_rows {a : Addr} {len cap size : Nat} {C : Nat → List Value} (hs : 0 < size) (hC : ∀ i, i < len → W.cells? 0 (a.add (i * size)) size = some (C i)) : Rd W (.slice (some a) len cap) size len ((List.range len).flatMap C) ∧ ∀ i, i < len → (C i).length = size := by
  have hl : ∀ i, i < len → (C i).length = size := fun i hi => (World.cells?_some (hC i hi)).2.1
  refine ⟨⟨flat_length hl, ?_⟩, hl⟩
  rcases Nat.eq_zero_or_pos len with h0 | h0
  · subst h0
    exact .inl ⟨(some a, cap), rfl, rfl⟩
  · obtain ⟨b, off, spot⟩ := a
    have hsp : spot = none := by
      obtain ⟨-, h1, h2⟩ := World.cells?_some (hC 0 h0)
      have h3 := h2 0 hs
      rw [Nat.zero_mul] at h3
      simp only [Addr.add, if_true] at h3
      rw [List.getElem?_eq_getElem (by omega)] at h3
      unfold World.cell? at h3
      split at h3
      · cases spot with
        | none => rfl
        | some s => simp at h3
      · cases h3
    subst hsp
    refine .inr ⟨b, off, cap, rfl, fun j u hj => ?_⟩
    have hjl : j < len * size := by
      rcases Nat.lt_or_ge j (len * size) with h | h
      · exact h
      · rw [List.getElem?_eq_none (by rw [flat_length hl]; exact h)] at hj; cases hj
    have hi : j / size < len := (Nat.div_lt_iff_lt_mul hs).2 hjl
    have hr : j % size < size := Nat.mod_lt _ hs
    have e : j = (j / size) * size + j % size := by have := Nat.div_add_mod j size; rw [Nat.mul_comm] at this; exact this.symm
    rw [e, row_get hl _ _ hi hr] at hj
    obtain ⟨-, h1, h2⟩ := World.cells?_some (hC _ hi)
    have h3 := h2 _ hr
    rw [hj, add_off, add_off] at h3
    rw [e, ← Nat.add_assoc]; exact h3

/-- A slice of numbers. -/
theorem open_ints {t e : TypeId} {fuel : Nat} {v : Value} {x : DataW H × List MemPlace} (ht : P.underlying t = some (.slice e)) (he : P.underlying e = some (.int .i64)) (hc : P.cellsOf e = 1) (hb : P.bytesOf e = 8) (h : DataW.trod enc P W 0 sp true fuel t [v] = some x)
    (hw : ∀ n ∈ x.1.weights P t, n ≤ reachBytes) : ∃ l : List Int, Rd W v 1 l.length (l.map I) ∧ l.length ≤ 17592186044415 := by
  rcases open_slice ht h with ⟨hv, hx⟩ | ⟨a, len, cap, m, n, D, Pl, hv, -, hl, hm, hmm, hx, hel⟩
  · cases hv
    exact ⟨[], ⟨rfl, .inl ⟨(none, 0), rfl, rfl⟩⟩, by simp⟩
  · cases hv
    rw [hc] at hel
    have hlm : len ≤ m := by rw [hmm]; split <;> omega
    obtain ⟨Z, hZ⟩ := choose_lt (α := Int) (n := len) (p := fun i z => W.cells? 0 (a.add (i * 1)) 1 = some [I z]) (fun i hi => by
      obtain ⟨cs', h1, h2⟩ := hel i (by omega)
      obtain ⟨z, hz, -⟩ := DataW.trod_int he h2
      exact ⟨z, by rw [h1, hz]⟩)
    obtain ⟨h1, h2⟩ := rd_rows (size := 1) (cap := cap) (C := fun i => [I (Z i)]) (by omega) hZ
    have hf : (List.range len).flatMap (fun i => [I (Z i)]) = ((List.range len).map Z).map I := by
      rw [List.flatMap_def, List.map_map]
      induction (List.range len) with
      | nil => rfl
      | cons a r ih => simpa using ih
    rw [hf] at h1
    refine ⟨(List.range len).map Z, by simpa using h1, ?_⟩
    have hwt := hw ((len + (m - len)) * 8) (by rw [hx]; simp [DataW.weights, ht, hb])
    simp [reachBytes] at hwt
    simp; omega
end

section
variable {H : Type} {enc : TypeId × Value → H} {W : World} {sp : Nat → Bool}
theorem u8v_mk (n : Int) (h : (Lit.int .u8 n).wf = true) : Value.int .u8 n = u8v (UInt8.ofNat n.toNat) := by
  simp [Lit.wf, IntKind.min, IntKind.max, IntKind.signed, IntKind.bits] at h
  unfold u8v; rw [UInt8.toNat_ofNat_of_lt' (by show n.toNat < 256; omega)]; congr; omega
theorem i64_le (n : Int) (h : (Lit.int .i64 n).wf = true) : n ≤ 9223372036854775807 ∧ -9223372036854775808 ≤ n := by
  simp [Lit.wf, IntKind.min, IntKind.max, IntKind.signed, IntKind.bits] at h; omega

theorem open_crash {fuel : Nat} {cs : List Value} {x : DataW H × List MemPlace} (h : DataW.trod enc Try.prog W 0 sp true fuel 25 cs = some x) (hw : ∀ n ∈ x.1.weights Try.prog 25, n ≤ reachBytes) :
    ∃ (kv : Value) (l : List Int) (tn : Int) (mk : UInt8), cs = [kv, I tn, u8v mk] ∧ Rd W kv 1 l.length (l.map I) ∧ l.length ≤ 17592186044415 := by
  obtain ⟨y0, y1, y2, n, hx, hl, t0, t1, t2⟩ := trod_struct3 Try.underlying25 h
  rw [show Try.prog.cellsOf 25 = 3 by kernel_rfl] at hl
  match cs, hl with
  | [c0, c1, c2], _ =>
    simp only [show Try.prog.cellsOf 23 = 1 by kernel_rfl, show Try.prog.cellsOf 3 = 1 by kernel_rfl, show Try.prog.cellsOf 5 = 1 by kernel_rfl, List.drop, List.take] at t0 t1 t2
    obtain ⟨tn, e1, -, -⟩ := DataW.trod_int Try.underlying3 t1
    obtain ⟨mk, e2, -, wm⟩ := DataW.trod_int Try.underlying5 t2
    cases e1
    cases e2
    obtain ⟨l, hr, hll⟩ := open_ints Try.underlying23 Try.underlying3 (by kernel_rfl) (by kernel_rfl) t0 (fun n hn => hw n (by rw [hx]; simp only [DataW.weights, Try.underlying25, DataW.weightsEach, List.map, List.mem_append]; exact .inl hn))
    exact ⟨c0, l, tn, _, by rw [u8v_mk mk wm], hr, hll⟩

theorem open_put {fuel : Nat} {cs : List Value} {x : DataW H × List MemPlace} (h : DataW.trod enc Try.prog W 0 sp true fuel 95 cs = some x) (hw : ∀ n ∈ x.1.weights Try.prog 95, n ≤ reachBytes) :
    ∃ y : Int × Bytes, cs = wr y ∧ y.2.length ≤ 140737488355328 := by
  obtain ⟨xs, n, -, hx, hl, hlen, hf⟩ := DataW.trod_struct Try.underlying95 h
  rw [show Try.prog.cellsOf 95 = 2 by kernel_rfl] at hl
  match xs, hlen with
  | [y0, y1], _ =>
  match cs, hl with
  | [c0, c1], _ =>
    have t0 := hf 0 _ rfl
    have t1 := hf 1 _ rfl
    simp only [show Try.prog.cellsOf 9 = 1 by kernel_rfl, show Try.prog.cellsOf 3 = 1 by kernel_rfl, List.drop, List.take, List.getElem?_cons_zero, List.getElem?_cons_succ] at t0 t1
    obtain ⟨n0, e0, -, -⟩ := DataW.trod_int Try.underlying3 t0
    obtain ⟨s1, e1, hy1, -⟩ := DataW.trod_string Try.underlying9 t1
    cases e0; cases e1
    refine ⟨(n0, s1.data.toList), by rw [str_S]; rfl, ?_⟩
    have := hw s1.data.toList.length (by
      rw [hx]
      simp only [DataW.weights, Try.underlying95, DataW.weightsEach, List.map, List.mem_append]
      exact .inr (.inl (by rw [hy1]; simp [DataW.weights])))
    simp [reachBytes] at this; show s1.data.toList.length ≤ _; simp; omega

theorem open_puts {fuel : Nat} {v : Value} {x : DataW H × List MemPlace} (h : DataW.trod enc Try.prog W 0 sp true fuel 40 [v] = some x) (hw : ∀ n ∈ x.1.weights Try.prog 40, n ≤ reachBytes) : ∃ l : List (Int × Bytes), PutsM W v l := by
  rcases open_slice Try.underlying40 h with ⟨hv, hx⟩ | ⟨a, len, cap, m, n, D, Pl, hv, -, hl, hm, hmm, hx, hel⟩
  · cases hv
    exact ⟨[], ⟨rfl, .inl ⟨(none, 0), rfl, rfl⟩⟩, by simp, by simp⟩
  · cases hv
    rw [show Try.prog.cellsOf 95 = 2 by kernel_rfl] at hel
    have hlm : len ≤ m := by rw [hmm]; split <;> omega
    obtain ⟨O, hO⟩ := @choose_lt (Int × Bytes) ⟨(0, [])⟩ len (fun i y => W.cells? 0 (a.add (i * 2)) 2 = some (wr y) ∧ y.2.length ≤ 140737488355328) (fun i hi => by
      obtain ⟨cs', h1, h2⟩ := hel i (by omega)
      obtain ⟨y, hcs, hok⟩ := open_put h2 (fun n hn => hw n (by
        rw [hx]
        simp only [DataW.weights, Try.underlying40, List.mem_cons, List.mem_append]
        refine .inr (.inl ?_)
        have hmem : D i ∈ (List.range len).map D := List.mem_map.2 ⟨i, by simpa using hi, rfl⟩
        revert hmem hn
        generalize (List.range len).map D = L
        intro hn hmem
        induction L with
        | nil => cases hmem
        | cons d r ih =>
          simp only [DataW.weightsAll, List.mem_append]
          rcases List.mem_cons.1 hmem with rfl | h
          · exact .inl hn
          · exact .inr (ih h)))
      exact ⟨y, by rw [h1, hcs], hok⟩)
    obtain ⟨h1, h2⟩ := rd_rows (size := 2) (cap := cap) (C := fun i => wr (O i)) (by omega) (fun i hi => (hO i hi).1)
    have hf : (List.range len).flatMap (fun i => wr (O i)) = wrs ((List.range len).map O) := by simp [wrs, List.flatMap_map]
    rw [hf] at h1
    refine ⟨(List.range len).map O, by simpa using h1, ?_, fun y hy => ?_⟩
    · have hwt := hw ((len + (m - len)) * 24) (by rw [hx]; simp [DataW.weights, Try.underlying40, show Try.prog.bytesOf 95 = 24 by kernel_rfl])
      simp [reachBytes] at hwt
      simp; omega
    · obtain ⟨i, hi, rfl⟩ := List.mem_map.1 hy
      exact (hO i (by simpa using hi)).2

theorem weightsAll_mem {P : Program} {t : TypeId} {d : DataW H} {n : Nat} : ∀ {L : List (DataW H)}, d ∈ L → n ∈ DataW.weights P t d → n ∈ DataW.weightsAll P t L
  | [], h, _ => by cases h
  | e :: r, h, hn => by
    simp only [DataW.weightsAll, List.mem_append]
    rcases List.mem_cons.1 h with rfl | h
    · exact .inl hn
    · exact .inr (weightsAll_mem h hn)
theorem open_putss {fuel : Nat} {v : Value} {x : DataW H × List MemPlace} (h : DataW.trod enc Try.prog W 0 sp true fuel 22 [v] = some x) (hw : ∀ n ∈ x.1.weights Try.prog 22, n ≤ reachBytes) : ∃ ls : List (List (Int × Bytes)), PutssM W v ls := by
  rcases open_slice Try.underlying22 h with ⟨hv, hx⟩ | ⟨a, len, cap, m, n, D, Pl, hv, -, hl, hm, hmm, hx, hel⟩
  · cases hv
    exact ⟨[], [], ⟨rfl, .inl ⟨(none, 0), rfl, rfl⟩⟩, by simp, fun i l hl => by simp at hl⟩
  · cases hv
    rw [show Try.prog.cellsOf 40 = 1 by kernel_rfl] at hel
    have hlm : len ≤ m := by rw [hmm]; split <;> omega
    obtain ⟨O, hO⟩ := @choose_lt (Value × List (Int × Bytes)) ⟨(.nilFunc, [])⟩ len (fun i y => W.cells? 0 (a.add (i * 1)) 1 = some [y.1] ∧ PutsM W y.1 y.2) (fun i hi => by
      obtain ⟨cs', h1, h2⟩ := hel i (by omega)
      obtain ⟨-, hl1, -⟩ := World.cells?_some h1
      match cs', hl1 with
      | [c], _ =>
      obtain ⟨l, hM⟩ := open_puts h2 (fun n hn => hw n (by
        rw [hx]
        simp only [DataW.weights, Try.underlying22, List.mem_cons, List.mem_append]
        exact .inr (.inl (weightsAll_mem (List.mem_map.2 ⟨i, by simpa using hi, rfl⟩) hn))))
      exact ⟨(c, l), h1, hM⟩)
    obtain ⟨h1, h2⟩ := rd_rows (size := 1) (cap := cap) (C := fun i => [(O i).1]) (by omega) (fun i hi => (hO i hi).1)
    refine ⟨(List.range len).map fun i => (O i).2, _, by simpa using h1, ?_, fun i l hl => ?_⟩
    · have hwt := hw ((len + (m - len)) * 24) (by rw [hx]; simp [DataW.weights, Try.underlying22, show Try.prog.bytesOf 40 = 24 by kernel_rfl])
      simp [reachBytes] at hwt
      simp; omega
    · have hi : i < len := by
        rcases Nat.lt_or_ge i len with h | h
        · exact h
        · rw [List.getElem?_eq_none (by simpa using h)] at hl; cases hl
      have e : l = (O i).2 := by
        rw [List.getElem?_map, List.getElem?_range hi] at hl
        exact (Option.some.inj hl).symm
      subst e
      refine ⟨(O i).1, ?_, (hO i hi).2⟩
      have := row_get (C := fun i => [(O i).1]) (k := 1) (n := len) (fun _ _ => rfl) i 0 hi (by omega)
      simpa using this
end
end Go.Proofs.Ytkhkebcflaokpaa
