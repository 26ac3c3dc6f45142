/- Texts JnN, JnU, JnV, JnW, JnWh, Row, JnOp, JnOpD, one behind the other (what the statement JournalWhole does not use is left out). -/
import Derived.Test.YtkhkebcflaokpaaWh10
import Derived.Test.YtkhkebcflaokpaaWh7
import Derived.Test.YtkhkebcflaokpaaWh11
import Derived.Test.YtkhkebcflaokpaaRows
import Derived.Test.YtkhkebcflaokpaaWh1
import Derived.SizedLaws
import Derived.Carry
import Derived.WalkKit
import Derived.ProofKit
import Derived.OpenShut
import Derived.ShutString
import Derived.ChangeOld
import Derived.Below
import Derived.Lib.SmallJoins
import Derived.Deep.Slices
import Derived.Deep.Strs
namespace Go.Proofs.Ytkhkebcflaokpaa
open Go Go.RowKit
set_option linter.all false
set_option maxRecDepth 100000

/-- What the blocks outside the region have, those of the region blank. -/
def mdlTo (s : Nat) (c : Cont) (k : Nat) : List Bytes := (List.range 24).map fun i => if s ≤ i ∧ i < s + k then [] else c (i : Int)
@[simp] theorem mdlTo_length (s : Nat) (c : Cont) (k : Nat) : (mdlTo s c k).length = 24 := by simp [mdlTo]
theorem mdlTo_set (s : Nat) (c : Cont) (k : Nat) : (mdlTo s c k).set (s + k) [] = mdlTo s c (k + 1) := by
  apply List.ext_getElem
  · simp
  · intro j h1 h2
    have hj : j < 24 := by simpa using h2
    simp only [mdlTo, List.getElem_set, List.getElem_map, List.getElem_range]
    by_cases hjk : s + k = j
    · rw [if_pos hjk, if_pos (by omega)]
    · rw [if_neg hjk]
      by_cases h : s ≤ j ∧ j < s + k
      · rw [if_pos h, if_pos (by omega)]
      · rw [if_neg h, if_neg (by omega)]
def mdl (g : Geo) (c : Cont) : List Bytes := mdlTo g.s c (g.L + 2)
theorem mdl_ext {g : Geo} (hs : g.s = 3) (hB : g.B = 24) {c c' : Cont} : mdl g c = mdl g c' ↔ ∀ n, g.out n → c n = c' n := by
  unfold mdl mdlTo
  constructor
  · intro h n hn
    unfold Geo.out at hn
    obtain ⟨m, rfl⟩ : ∃ m : Nat, n = (m : Int) := ⟨n.toNat, by omega⟩
    have h2 := congrArg (·[m]?) h
    simp only [List.getElem?_map, List.getElem?_range (show m < 24 by omega), Option.map_some] at h2
    rw [if_neg (by omega), if_neg (by omega)] at h2
    exact Option.some.inj h2
  · intro h
    apply List.map_congr_left
    intro i hi
    have hi' : i < 24 := by simpa using hi
    split
    · rfl
    · rename_i hn
      exact h _ ⟨by omega, by omega, by omega⟩

section
variable {w : World} {p : Nat} {D : Dev} {F : Nat → Prop} {g : Geo}
theorem model_ret (hA : DevA w p D F) (hB : D.B = 24) (hs : g.s = 3) (hL : g.L + 5 ≤ 24) {k : Nat} (hsm : D.Small k) (hk : k ≤ 1000000) :
    Ret Try.prog 13 [ptr p 0, I ((g.L + 2 : Nat) : Int)] w fun v w' => ∃ b cap, v = .slice (some ⟨b, 0, none⟩) 24 cap ∧ Sl w' v 9 1 24 ((mdl g D.now).map S) ∧ Ext w w' ∧ w.heap.size ≤ b := by
  have hml : maxLen = 9223372036854775807 := rfl
  refine ret_of_run (e := [(0, _), (1, _)]) Try.func13 rfl Try.ntmps13 rfl rfl ?_; refine run_seq ?_; refine run_reg rfl ?_; refine rVal rfl rfl (yas rfl) ?_; refine rEnd ?_; refine run_seq ?_; refine run_reg rfl ?_; refine rVal rfl rfl (ymv rfl) ?_; refine rCall rfl rfl (yc (args := [.tmp 7]) cf51 rfl) (imageA_ret hA hsm hk) ?_
  rintro _ w1 ⟨hS1, hx1, hg1⟩
  rw [hB] at hS1
  rcases hS1.shape with ⟨-, hz⟩ | ⟨b, cap, rfl, hcap⟩
  · omega
  have hb := hg1 b rfl
  have himg : D.image = mdlTo g.s D.now 0 := by
    unfold Dev.image Dev.imageTo mdlTo
    rw [hB]
    apply List.map_congr_left
    intro i _
    rw [if_neg (by omega)]
  rw [himg] at hS1
  refine rVal rfl rfl (yas rfl) ?_; refine rEnd ?_; refine run_seq ?_; refine run_seq ?_; refine run_reg rfl ?_; refine rVal rfl rfl (yas rfl) ?_; refine rEnd ?_; refine run_block ?_; refine run_loop (α := Nat) (0) (fun k => [(1, I ((g.L + 2 : Nat) : Int)), (5, .slice (some ⟨b, 0, none⟩) 24 cap), (6, I ((3 + k : Nat) : Int))]) (fun k w' => k ≤ g.L + 2 ∧ Sl w' (.slice (some ⟨b, 0, none⟩) 24 cap) 9 1 24 ((mdlTo g.s D.now k).map S) ∧ Ext w w') (fun k => g.L + 2 - k) (by repeat (first | exact Sub.nil | refine Sub.cons rfl ?_)) ?hI ?hround
  case hI => exact ⟨Nat.zero_le _, hS1, hx1⟩
  case hround =>
    rintro k wi ⟨hki, hSi, hxi⟩ ih
    try dsimp only
    refine run_seq ?_; refine run_seq ?_; refine run_reg rfl ?_; refine rVal rfl rfl (ymv rfl) ?_; refine rVal rfl rfl (ymv rfl) ?_; refine rVal rfl rfl (yad rfl rfl (by omega)) ?_; refine rVal rfl rfl (ylt rfl rfl) ?_; refine rVal_if (fun h1 => ?_) (fun h1 => ?_)
    · skip
      refine rVal rfl rfl (ymv rfl) ?_; refine rVal rfl rfl (ymv rfl) ?_; refine rVal rfl rfl (ymv rfl) ?_; refine rVal rfl rfl (yln Try.underlying42 rfl) ?_; refine rVal rfl rfl (ylt rfl rfl) ?_; refine rVal_if (fun h2 => ?_) (fun h2 => ?_)
      · skip
        refine rVal rfl rfl (ypT rfl rfl) ?_; refine rEnd ?_; refine run_true rfl ?_; refine run_skip ?_; refine run_seq ?_; refine run_block ?_; refine run_reg rfl ?_; refine rVal rfl rfl (ymv rfl) ?_; refine rVal rfl rfl (ymv rfl) ?_; refine rVal rfl rfl (yis Try.underlying42 ti9 rfl rfl (by omega)) ?_; refine rEffP rfl (zstSl ti9 rfl rfl rfl hSi (by simp; omega)) ?_
        rintro w2 ⟨hS2, hk2⟩
        have hset : ((mdlTo g.s D.now k).map S).set (3 + k) (S []) = (mdlTo g.s D.now (k + 1)).map S := by
          rw [← mdlTo_set, List.map_set, hs]
        rw [show 0 + (3 + k) * 1 = 3 + k by omega, hset] at hS2
        refine rEnd ?_; refine run_inBlock ?_; refine run_reg rfl ?_; refine rVal rfl rfl (ymv rfl) ?_; refine rVal rfl rfl (yad rfl rfl (by omega)) ?_; refine rVal rfl rfl (yas rfl) ?_; refine rEnd ?_
        exact (ih (k + 1) w2 ⟨by omega, hS2, hxi.trans_new hk2 (fun i hi => by omega)⟩ (by omega)).sub (by repeat (first | exact Sub.nil | refine Sub.cons rfl ?_))
      · skip
        exfalso; omega
    · skip
      have : k = g.L + 2 := by omega
      subst this
      refine rVal rfl rfl (ymv rfl) ?_; refine rSkip rfl rfl ?_; refine rSkip rfl rfl ?_; refine rSkip rfl rfl ?_; refine rSkip rfl rfl ?_; refine rVal rfl rfl (ypF rfl rfl) ?_; refine rEnd ?_; refine run_false rfl ?_; refine run_exit rfl ?_; refine run_seq ?_; refine run_reg rfl ?_; refine rVal rfl rfl (ymv rfl) ?_; refine rVal rfl rfl (yas rfl) ?_; refine rEnd ?_; refine run_ret Try.func13 rfl ?_
      exact ⟨_, rfl, b, cap, rfl, hSi, hxi, hb⟩

theorem tmod_rng (z : Int) (m : Int) (hm : 0 < m) : -m < z.tmod m ∧ z.tmod m < m := tmod_range z m hm
theorem txOk_snoc {t : Tx} (h : TxOk g t) {n : Int} {s : Bytes} (hn : g.out n) (hs : s.length = g.size) (hl : t.length + 1 ≤ g.most) (hnew : ∀ x ∈ t, x.1 ≠ n) : TxOk g (t ++ [(n, s)]) := by
  refine ⟨by simpa using hl, ?_, fun x hx => ?_⟩
  · rw [List.map_append, List.nodup_append]
    refine ⟨h.nd, by simp, fun a ha b hb hab => ?_⟩
    obtain ⟨x, hx, rfl⟩ := List.mem_map.1 ha
    simp at hb
    subst hb
    exact hnew x hx hab
  · rcases List.mem_append.1 hx with hx | hx
    · exact h.out x hx
    · simp at hx; subst hx; exact ⟨hn, hs⟩
set_option maxHeartbeats 1000000 in
theorem puts_ret (ls : List (Int × Bytes)) (lv : Value) (hP : PutsM w lv ls) (hg : g.Ok) (hs : g.s = 3) (hB : g.B = 24) (hL : g.L + 5 ≤ 24) :
    Ret Try.prog 11 [lv, I ((g.L + 2 : Nat) : Int), I (g.size : Int)] w fun v w' => ∃ t : Tx, Sl w' v 54 2 t.length (wrs t) ∧ TxOk g t ∧ Ext w w' ∧ ∀ i, v.ownBlock = some i → w.heap.size ≤ i := by
  have hml : maxLen = 9223372036854775807 := rfl
  have hgL := hg.hL
  have hgN := hg.hN
  have hlen := hP.len
  have hmost : g.L - 2 ≤ g.most := by
    unfold Geo.most mostN Geo.size
    omega
  have hrd := hP.rd
  obtain ⟨al, cl, rfl, -⟩ := hrd.shape
  refine ret_of_run (e := [(0, _), (1, _), (2, _)]) Try.func11 rfl Try.ntmps11 rfl rfl ?_; refine run_seq ?_; refine run_reg rfl ?_; refine rVal rfl rfl (yas rfl) ?_; refine rEnd ?_; refine run_seq ?_; refine run_reg rfl ?_; refine rVal rfl rfl (yas rfl) ?_; refine rEnd ?_; refine run_seq ?_; refine run_seq ?_; refine run_reg rfl ?_; refine rVal rfl rfl (yas rfl) ?_; refine rEnd ?_; refine run_block ?_
  refine run_loop (α := Nat × Tx × Value) ((0, [], .slice none 0 0)) (fun x => [(0, .slice al ls.length cl), (1, I ((g.L + 2 : Nat) : Int)), (2, I (g.size : Int)), (7, x.2.2), (8, I (x.1 : Int))]) (fun x w' => x.1 ≤ ls.length ∧ Sl w' x.2.2 54 2 x.2.1.length (wrs x.2.1) ∧ TxOk g x.2.1 ∧ Ext w w' ∧ (∀ i, x.2.2.ownBlock = some i → w.heap.size ≤ i)) (fun x => ls.length - x.1) (by repeat (first | exact Sub.nil | refine Sub.cons rfl ?_)) ?hI ?hround
  case hI => exact ⟨Nat.zero_le _, ⟨rfl, .inl ⟨rfl, rfl⟩⟩, ⟨Nat.zero_le _, List.nodup_nil, fun x hx => by cases hx⟩, Ext.refl _, fun i hi => by cases hi⟩
  case hround =>
    rintro ⟨k, t, v⟩ wi ⟨hk, hS, hT, hxi, ho⟩ ih
    dsimp only at hk hS hT ho
    obtain ⟨va, vc, rfl, -⟩ := hS.rd.shape
    try dsimp only
    refine run_seq ?_; refine run_seq ?_; refine run_reg rfl ?_; refine rVal rfl rfl (ymv rfl) ?_; refine rVal rfl rfl (ymv rfl) ?_; refine rVal rfl rfl (yln Try.underlying40 rfl) ?_; refine rVal rfl rfl (ylt rfl rfl) ?_; refine rVal_if (fun h1 => ?_) (fun h1 => ?_)
    · skip
      refine rVal rfl rfl (ymv rfl) ?_; refine rVal rfl rfl (ymv rfl) ?_; refine rVal rfl rfl (yln Try.underlying38 rfl) ?_; refine rVal rfl rfl (ymv rfl) ?_; refine rVal rfl rfl (ysb rfl rfl (by omega)) ?_; refine rVal rfl rfl (ylt rfl rfl) ?_; refine rVal_if (fun h2 => ?_) (fun h2 => ?_)
      · skip
        have hkl : k < ls.length := by omega
        have hri := hrd.ext hxi
        obtain ⟨b, off, cap, x, hva, hxg⟩ := rd_get hri hkl
        cases hva
        obtain ⟨c1, c2⟩ := rd_at hri hkl hxg
        have hxl := hP.data x (List.mem_of_getElem? hxg)
        refine rVal rfl rfl (ypT rfl rfl) ?_; refine rEnd ?_; refine run_true rfl ?_; refine run_skip ?_; refine run_seq ?_; refine run_block ?_; refine run_seq ?_; refine run_reg rfl ?_; refine rVal rfl rfl (ymv rfl) ?_; refine rVal rfl rfl (ymv rfl) ?_; refine rVal rfl rfl (yis Try.underlying40 ti95 rfl rfl (by omega)) ?_; refine rVal rfl rfl (yfa fl95_0 rfl) ?_; refine rVal rfl rfl (yldc Try.underlying3 rfl rfl c1) ?_
        have hr1 := tmod_rng x.1 (24 - ((g.L + 2 : Nat) : Int)) (by omega)
        refine rVal rfl rfl (ymv rfl) ?_; refine rVal rfl rfl (ysb rfl rfl (by omega)) ?_; refine rVal rfl rfl (yrt rfl rfl (by omega)) ?_
        have hr2 := tmod_rng (x.1.tmod (24 - ((g.L + 2 : Nat) : Int)) + 24 - ((g.L + 2 : Nat) : Int)) (24 - ((g.L + 2 : Nat) : Int)) (by omega)
        have hr3 : 0 ≤ (x.1.tmod (24 - ((g.L + 2 : Nat) : Int)) + 24 - ((g.L + 2 : Nat) : Int)).tmod (24 - ((g.L + 2 : Nat) : Int)) := Int.tmod_nonneg _ (by omega)
        refine rVal rfl rfl (yad rfl rfl (by omega)) ?_; refine rVal rfl rfl (ymv rfl) ?_; refine rVal rfl rfl (ysb rfl rfl (by omega)) ?_; refine rVal rfl rfl (ymv rfl) ?_; refine rVal rfl rfl (ysb rfl rfl (by omega)) ?_; refine rVal rfl rfl (yrt rfl rfl (by omega)) ?_
        obtain ⟨n0, hn0⟩ : ∃ n0, (x.1.tmod (24 - ((g.L + 2 : Nat) : Int)) + 24 - ((g.L + 2 : Nat) : Int)).tmod (24 - ((g.L + 2 : Nat) : Int)) = n0 := ⟨_, rfl⟩
        rw [hn0] at hr2 hr3 ⊢
        refine rVal rfl rfl (yas rfl) ?_; refine rEnd ?_; refine run_seq ?_; refine run_seq ?_; refine run_reg rfl ?_; refine rVal rfl rfl (ymv rfl) ?_; refine rVal rfl rfl (yge rfl rfl) ?_; refine rEnd ?_; refine run_cut (fun e' w' => ∃ n, e' = [(0, .slice (some ⟨b, off, none⟩) ls.length cl), (1, I ((g.L + 2 : Nat) : Int)), (2, I (g.size : Int)), (7, .slice va t.length vc), (8, I (k : Int)), (9, I n)] ∧ g.out n ∧ w' = wi) ?hk (fun hk => ?hmain)
        case hk =>
          rintro _ wx ⟨n, rfl, hn, rfl⟩
          refine run_seq ?_; refine run_reg rfl ?_; refine rVal rfl rfl (yas rfl) ?_; refine rEnd ?_; refine run_seq ?_; refine run_seq ?_; refine run_reg rfl ?_; refine rVal rfl rfl (yas rfl) ?_; refine rEnd ?_; refine run_block ?_
          refine run_loop (α := Nat × Bool) ((0, false)) (fun y => [(0, .slice (some ⟨b, off, none⟩) ls.length cl), (1, I ((g.L + 2 : Nat) : Int)), (2, I (g.size : Int)), (7, .slice va t.length vc), (8, I (k : Int)), (9, I n), (10, .bool y.2), (11, I (y.1 : Int))]) (fun y w' => y.1 ≤ t.length ∧ (y.2 = true ↔ ∃ z ∈ t.take y.1, z.1 = n) ∧ w' = wx) (fun y => t.length - y.1) (by repeat (first | exact Sub.nil | refine Sub.cons rfl ?_)) ?hI ?hround
          case hI => exact ⟨Nat.zero_le _, by simp, rfl⟩
          case hround =>
            rintro ⟨m, bb⟩ wy ⟨hm, hbb, rfl⟩ ih2
            dsimp only at hm hbb
            try dsimp only
            refine run_seq ?_; refine run_seq ?_; refine run_reg rfl ?_; refine rVal rfl rfl (ymv rfl) ?_; refine rVal rfl rfl (ymv rfl) ?_; refine rVal rfl rfl (yln Try.underlying38 rfl) ?_; refine rVal rfl rfl (ylt rfl rfl) ?_; refine rEnd ?_; refine run_if rfl (fun h3 => ?_) (fun h3 => ?_)
            · skip
              have hml' : m < t.length := by omega
              obtain ⟨b2, off2, cap2, y, hv2, hyg⟩ := rd_get hS.rd hml'
              have hvv := hv2
              rw [hv2] at hS
              cases hv2
              obtain ⟨d1, d2⟩ := rd_at hS.rd hml' hyg
              have htk : t.take (m + 1) = t.take m ++ [y] := by
                have e : t[m] = y := by rw [List.getElem?_eq_getElem hml'] at hyg; exact Option.some.inj hyg
                rw [List.take_succ_eq_append_getElem hml', e]
              refine run_skip ?_; refine run_seq ?_; refine run_block ?_; refine run_reg rfl ?_; refine rVal rfl rfl (ymv rfl) ?_
              cases bb with
              | true =>
                refine rVal rfl rfl (ymv rfl) ?_; refine rSkip rfl rfl ?_; refine rSkip rfl rfl ?_; refine rSkip rfl rfl ?_; refine rSkip rfl rfl ?_; refine rSkip rfl rfl ?_; refine rSkip rfl rfl ?_; refine rSkip rfl rfl ?_; refine rVal rfl rfl (ypT rfl rfl) ?_; refine rVal rfl rfl (yas rfl) ?_; refine rEnd ?_; refine run_inBlock ?_; refine run_reg rfl ?_; refine rVal rfl rfl (ymv rfl) ?_; refine rVal rfl rfl (yad rfl rfl (by omega)) ?_; refine rVal rfl rfl (yas rfl) ?_; refine rEnd ?_
                refine (ih2 (m + 1, true) _ ⟨hml', ?_, rfl⟩ (by dsimp only; omega)).sub (by repeat (first | exact Sub.nil | refine Sub.cons rfl ?_))
                dsimp only
                rw [htk]
                obtain ⟨z, hz, he⟩ := hbb.1 rfl
                exact ⟨fun _ => ⟨z, List.mem_append_left _ hz, he⟩, fun _ => rfl⟩
              | false =>
                refine rVal rfl rfl (ymv rfl) ?_; refine rVal rfl rfl (ymv rfl) ?_; refine rVal rfl rfl (ymv rfl) ?_; refine rVal rfl rfl (yis Try.underlying38 ti54 rfl rfl (by omega)) ?_; refine rVal rfl rfl (yfa fl54_0 rfl) ?_; refine rVal rfl rfl (yldc Try.underlying3 rfl rfl d1) ?_; refine rVal rfl rfl (ymv rfl) ?_; refine rVal rfl rfl (yeq rfl rfl) ?_; refine rVal rfl rfl (ypF rfl rfl) ?_; refine rVal rfl rfl (yas rfl) ?_; refine rEnd ?_; refine run_inBlock ?_; refine run_reg rfl ?_; refine rVal rfl rfl (ymv rfl) ?_; refine rVal rfl rfl (yad rfl rfl (by omega)) ?_
                refine rVal rfl rfl (yas rfl) ?_; refine rEnd ?_; refine (ih2 (m + 1, decide (y.1 = n)) _ ⟨hml', ?_, rfl⟩ (by dsimp only; omega)).sub (by repeat (first | exact Sub.nil | refine Sub.cons rfl ?_))
                dsimp only
                rw [htk]
                simp only [decide_eq_true_eq, List.mem_append, List.mem_singleton]
                constructor
                · intro h; exact ⟨y, .inr rfl, h⟩
                · rintro ⟨z, hz | rfl, he⟩
                  · exact absurd (hbb.2 ⟨z, hz, he⟩) (by simp)
                  · exact he
            · skip
              have hmm : m = t.length := by omega
              subst hmm
              rw [List.take_length] at hbb
              refine run_exit rfl ?_; refine run_seq ?_; refine run_reg rfl ?_; refine rVal rfl rfl (ymv rfl) ?_; refine rVal rfl rfl ((by first | exact yntd rfl | exact ynt rfl)) ?_; refine rEnd ?_
              cases bb with
              | true =>
                refine run_false rfl ?_; refine run_skip ?_; refine run_inBlock ?_; refine run_reg rfl ?_; refine rVal rfl rfl (ymv rfl) ?_; refine rVal rfl rfl (yad rfl rfl (by omega)) ?_; refine rVal rfl rfl (yas rfl) ?_; refine rEnd ?_
                exact (ih (k + 1, t, .slice va t.length vc) _ ⟨hkl, hS, hT, hxi, ho⟩ (by dsimp only; omega)).sub (by repeat (first | exact Sub.nil | refine Sub.cons rfl ?_))
              | false =>
                refine run_true rfl ?_; refine run_reg rfl ?_; refine rVal rfl rfl (ymv rfl) ?_; refine rVal rfl rfl (ymv rfl) ?_; refine rVal rfl rfl (ymv rfl) ?_; refine rVal rfl rfl (ymv rfl) ?_; refine rVal rfl rfl (yis Try.underlying40 ti95 rfl rfl (by omega)) ?_; refine rVal rfl rfl (yfa fl95_1 rfl) ?_; refine rVal rfl rfl (yldc Try.underlying9 rfl rfl c2) ?_; refine rVal rfl rfl (ymv rfl) ?_; refine rCall rfl rfl (yc (args := [.tmp 68, .tmp 69]) cf33 rfl) (fill_ret x.2 g.size _ (by unfold Geo.size; omega) hxl) ?_
                rintro _ w3 ⟨rfl, rfl⟩
                refine rVal rfl rfl (ybd (parts := [(0, .tmp 63), (1, .tmp 70)]) (cs := [_, _]) ti54 rfl sp54 rfl rfl) ?_; refine rValP rfl rfl (pbs (parts := [(0, .tmp 71)]) (cs := [_, _]) (zs := [Value.int .i64 0, Value.string ⟨#[]⟩]) Try.underlying38 ti54 rfl (by kernel_rfl) rfl rfl rfl (by decide)) ?_
                rintro _ w4 ⟨b72, rfl, ⟨hb72, hx4, hB72⟩, hS72⟩
                refine rValP rfl rfl (pap Try.underlying38 ti54 rfl (by decide) rfl rfl (hS.ext hx4) hS72.rd (by intro c hc; simp at hc; rcases hc with rfl | rfl <;> rfl) (by omega) (by omega)) ?_
                rintro v' w5 ⟨hS5, hk5, hown5, -⟩
                have z4 := hx4.size
                have zi := hxi.size
                refine rVal rfl rfl (yas rfl) ?_; refine rEnd ?_; refine run_inBlock ?_; refine run_reg rfl ?_; refine rVal rfl rfl (ymv rfl) ?_; refine rVal rfl rfl (yad rfl rfl (by omega)) ?_; refine rVal rfl rfl (yas rfl) ?_; refine rEnd ?_; refine (ih (k + 1, t ++ [(n, fill x.2 g.size)], v') _ ⟨hkl, ?_, txOk_snoc hT hn (fill_length _ _) (by omega) (fun z hz he => by have := hbb.2 ⟨z, hz, he⟩; cases this), (hxi.trans hx4).trans_new hk5 (fun i hi => ho i hi), fun i hi => ?_⟩ (by dsimp only; omega)).sub (by repeat (first | exact Sub.nil | refine Sub.cons rfl ?_))
                · dsimp only
                  simpa [wrs, wr] using hS5
                · rcases hown5 i hi with h | h
                  · exact ho i h
                  · omega
        case hmain =>
          refine run_if rfl (fun h40 => ?_) (fun h40 => ?_)
          · skip
            refine run_reg rfl ?_; refine rVal rfl rfl (ymv rfl) ?_; refine rVal rfl rfl (ymv rfl) ?_; refine rVal rfl rfl (yad rfl rfl (by omega)) ?_; refine rVal rfl rfl (yas rfl) ?_; refine rEnd ?_
            exact (hk _ _ ⟨n0 + ((g.L + 2 : Nat) : Int), rfl, ⟨by omega, by omega, .inr (by omega)⟩, rfl⟩).sub (by repeat (first | exact Sub.nil | refine Sub.cons rfl ?_))
          · skip
            refine run_skip ?_
            exact (hk _ _ ⟨n0, rfl, ⟨by omega, by omega, .inl (by omega)⟩, rfl⟩).sub (by repeat (first | exact Sub.nil | refine Sub.cons rfl ?_))
      · skip
        refine rVal rfl rfl (ypT rfl rfl) ?_; refine rEnd ?_; refine run_false rfl ?_; refine run_exit rfl ?_; refine run_seq ?_; refine run_reg rfl ?_; refine rVal rfl rfl (ymv rfl) ?_; refine rVal rfl rfl (yas rfl) ?_; refine rEnd ?_; refine run_ret Try.func11 rfl ?_
        exact ⟨_, rfl, t, hS, hT, hxi, ho⟩
    · skip
      refine rVal rfl rfl (ymv rfl) ?_; refine rSkip rfl rfl ?_; refine rSkip rfl rfl ?_; refine rSkip rfl rfl ?_; refine rSkip rfl rfl ?_; refine rSkip rfl rfl ?_; refine rVal rfl rfl (ypF rfl rfl) ?_; refine rEnd ?_; refine run_false rfl ?_; refine run_exit rfl ?_; refine run_seq ?_; refine run_reg rfl ?_; refine rVal rfl rfl (ymv rfl) ?_; refine rVal rfl rfl (yas rfl) ?_; refine rEnd ?_; refine run_ret Try.func11 rfl ?_
      exact ⟨_, rfl, t, hS, hT, hxi, ho⟩
end
end Go.Proofs.Ytkhkebcflaokpaa
namespace Go.Proofs.Ytkhkebcflaokpaa
open Go Go.RowKit
set_option linter.all false
set_option maxRecDepth 100000

/-- The geometry of the statements: 24 blocks, the region from block 3. -/
def gOf (N k : Nat) : Geo := ⟨N, 24, 3, 4 + k⟩
theorem gOf_ok {N k : Nat} (hN : 1 ≤ N ∧ N ≤ 8) (hk : k ≤ 8) : (gOf N k).Ok := ⟨hN, by show 4 ≤ 4 + k; omega, by show 3 + 2 + (4 + k) ≤ 24 ∧ 24 ≤ 4096 ∧ 16 ≤ 24; omega⟩
theorem fresh_ok {N : Nat} (hN : 1 ≤ N ∧ N ≤ 8) : (Dev.fresh 24 N).Ok :=
  ⟨⟨by show 16 ≤ 24; omega, by show 24 ≤ 4096; omega⟩, hN, (by simp [Dev.fresh]), (fun n s h => by cases h), (fun x hx => by cases hx), (by simp [Dev.fresh]), (by simp [Dev.fresh])⟩
theorem up_fresh {N k : Nat} (hN : 1 ≤ N ∧ N ≤ 8) : Up (Dev.fresh 24 N) (gOf N k) (Dev.fresh 24 N).kept [] := ⟨fresh_ok hN, rfl, rfl, rfl, rfl, rfl⟩
@[simp] theorem mdl_length (g : Geo) (c : Cont) : (mdl g c).length = 24 := mdlTo_length _ _ _
/-- A block outside is set anew. -/
theorem mdl_set {g : Geo} {c : Cont} {n : Nat} {s : Bytes} (hn : g.out (n : Int)) : (mdl g c).set n s = mdl g (nowOf c [((n : Int), s)]) := by
  unfold mdl mdlTo
  apply List.ext_getElem
  · simp
  · intro j h1 h2
    have hj : j < 24 := by simpa using h2
    simp only [List.getElem_set, List.getElem_map, List.getElem_range]
    unfold Geo.out at hn
    by_cases hjn : n = j
    · subst hjn
      rw [if_pos rfl, if_neg (by omega), nowOf_one]
    · rw [if_neg hjn]
      split
      · rfl
      · rw [nowOf_same]
        intro x hx e
        simp at hx
        subst hx
        simp only at e
        omega
theorem mdl_live {g : Geo} {D : Dev} {J : Jn} {was : Cont} {K : Nat} (h : LiveJ g D J was K) (hs : g.s = 3) (hB : g.B = 24) : mdl g D.now = mdl g was := by
  obtain ⟨base, C, hd, a, T, L⟩ := h
  exact (mdl_ext hs hB).2 fun n hn => by rw [L.up.now n]; exact L.now n hn
theorem LiveJ.geo {g : Geo} {D : Dev} {J : Jn} {was : Cont} {K : Nat} (h : LiveJ g D J was K) : D.B = g.B ∧ D.N = g.N ∧ D.down = false := by
  obtain ⟨base, C, hd, a, T, L⟩ := h
  exact ⟨L.up.hB, L.up.hN, L.up.down⟩
theorem LiveJ.was {g : Geo} {D : Dev} {J : Jn} {was was' : Cont} {K : Nat} (h : LiveJ g D J was K) (hw : ∀ n, g.out n → was n = was' n) : LiveJ g D J was' K := by
  obtain ⟨base, C, hd, a, T, L⟩ := h
  exact ⟨base, C, hd, a, T, ⟨L.up, ⟨L.safe.good, L.safe.dom, fun n hn => (L.safe.was n hn).trans (hw n hn)⟩, fun n hn => (L.now n hn).trans (hw n hn), L.eq, L.k1, L.k2⟩⟩
theorem LiveJ.number {g : Geo} {D : Dev} {J : Jn} {was : Cont} {K : Nat} (h : LiveJ g D J was K) : J.number ≤ K := by
  obtain ⟨base, C, hd, a, T, L⟩ := h
  rw [L.eq]; exact L.k2

/-- Lists of writes read from memory. -/
def PutssM (w : World) (v : Value) (ls : List (List (Int × Bytes))) : Prop := ∃ vs : List Value, Rd w v 1 ls.length vs ∧ ls.length ≤ 140737488355328 ∧ ∀ (i : Nat) l, ls[i]? = some l → ∃ u, vs[i]? = some u ∧ PutsM w u l
theorem PutssM.ext {w w' : World} {v : Value} {ls : List (List (Int × Bytes))} (h : PutssM w v ls) (k : Ext w w') : PutssM w' v ls := by
  obtain ⟨vs, h1, h2, h3⟩ := h
  exact ⟨vs, h1.ext k, h2, fun i l hl => let ⟨u, e, hu⟩ := h3 i l hl; ⟨u, e, hu.ext k⟩⟩
theorem PutssM.shape {w : World} {v : Value} {ls : List (List (Int × Bytes))} (h : PutssM w v ls) : (∃ a cap, v = .slice a ls.length cap) ∧ ls.length ≤ 140737488355328 := by
  obtain ⟨vs, h1, h2, h3⟩ := h
  obtain ⟨a, cap, e, -⟩ := h1.shape
  exact ⟨⟨a, cap, e⟩, h2⟩
theorem PutssM.get {w : World} {a : Option Addr} {n cap : Nat} {ls : List (List (Int × Bytes))} (h : PutssM w (.slice a n cap) ls) {i : Nat} (hi : i < ls.length) : ∃ b off l u, a = some ⟨b, off, none⟩ ∧ ls[i]? = some l ∧ w.cell? ⟨b, off + i * 1, none⟩ = some u ∧ PutsM w u l := by
  obtain ⟨vs, h1, h2, h3⟩ := h
  obtain ⟨a', cap', e, -⟩ := h1.shape
  cases e
  rcases h1.2 with ⟨c, -, hz⟩ | ⟨b, off, cap', hv, hc⟩
  · omega
  · cases hv
    obtain ⟨u, hu, hM⟩ := h3 i _ (List.getElem?_eq_getElem hi)
    exact ⟨b, off, _, u, rfl, List.getElem?_eq_getElem hi, by rw [Nat.mul_one]; exact hc i u hu, hM⟩
theorem PutsM.one {w : World} {v : Value} {l : List (Int × Bytes)} (h : PutsM w v l) : ∃ a cap, v = .slice a l.length cap := by
  obtain ⟨a, cap, e, -⟩ := h.rd.shape
  exact ⟨a, cap, e⟩
theorem DevA.ok {w : World} {p : Nat} {D : Dev} {F : Nat → Prop} (h : DevA w p D F) : D.Ok := by
  obtain ⟨m, kp, ca, h, -⟩ := h
  exact h.ok
theorem formatS_len (g : Geo) : (formatS g).length = g.L + 5 := by simp [formatS, blankW_length]
section
variable {w : World} {p : Nat} {D : Dev} {F : Nat → Prop} {g : Geo}
theorem format3_ret (h : DevA w p D F) (hB : D.B = g.B) (hN : D.N = g.N) (hd : D.down = false) (hg : g.Ok) (hs : g.s = 3) {c : Nat} (hsm : D.Small c) (hc : c ≤ 900000) :
    Ret Try.prog 7 [ptr p 0, I 3, I ((g.L + 2 : Nat) : Int)] w fun v w' => v = I (runS D (formatS g)).2 ∧ DevT w p F (runS D (formatS g)).1 w' := by
  have h := format_ret h hB hN hd hg (by omega) hsm hc
  rwa [show (g.s : Int) = 3 by omega] at h
theorem open3_ret {f was : Cont} {h : Hd} {a K c : Nat} {T : List Tx} (hg : g.Ok) (hgs : g.s = 3) (hL100 : g.L ≤ 100) (hA : DevA w p D F) (hU : Up D g f []) (G : Good g f h a T) (hw : ∀ n, g.out n → nowOf f T.flatten n = was n) (hK : K ≤ 10000000) (hk1 : h.own ≤ K) (hk2 : h.number + T.length ≤ K) (hsm : D.Small c) (hc : c ≤ 780000) :
    Ret Try.prog 9 [ptr p 0, I 3, I ((g.L + 2 : Nat) : Int)] w fun v w' =>
      (∃ q, v = .tuple #[ptr q 0, I (T.length : Int), I 0] ∧ w.heap.size ≤ q ∧ ∃ D' J' F', JnM w' q p g J' ∧ DevA w' p D' F' ∧ Kp F w w' ∧ (∀ i, F' i → (F i ∨ w.heap.size ≤ i) ∧ i ≠ q) ∧ Fresh g D' J' was (K + 1) ∧ D'.Small (c + (60 * g.L + 300)) ∧ (D.due = 0 → D'.due = 0)) ∨
      (v = .tuple #[.pointer none, I 0, I 8] ∧ ∃ D' f' F', DevA w' p D' F' ∧ Kp F w w' ∧ (∀ i, F' i → F i ∨ w.heap.size ≤ i) ∧ Fell D' g f' ∧ Dsk g f' (K + 1) was ∧ D'.Small (c + (60 * g.L + 300)) ∧ D.due ≠ 0 ∧ T ≠ []) := by
  have h := open_ret hg (by omega) hL100 hA hU G hw hK hk1 hk2 hsm hc
  rwa [show (g.s : Int) = 3 by omega] at h
theorem puts5_ret (ls : List (Int × Bytes)) (lv : Value) (n : Int) (hn : n = (g.size : Int)) (hP : PutsM w lv ls) (hg : g.Ok) (hs : g.s = 3) (hB : g.B = 24) (hL : g.L + 5 ≤ 24) :
    Ret Try.prog 11 [lv, I ((g.L + 2 : Nat) : Int), I n] w fun v w' => ∃ t : Tx, Sl w' v 54 2 t.length (wrs t) ∧ TxOk g t ∧ Ext w w' ∧ ∀ i, v.ownBlock = some i → w.heap.size ≤ i := by
  subst hn
  exact puts_ret ls lv hP hg hs hB hL
/-- Opening where nothing is to be done again. -/
theorem openN_ret {f was : Cont} {h : Hd} {a K c : Nat} (hg : g.Ok) (hgs : g.s = 3) (hL100 : g.L ≤ 100) (hA : DevA w p D F) (hU : Up D g f []) (G : Good g f h a []) (hw : ∀ n, g.out n → f n = was n) (hK : K ≤ 10000000) (hk1 : h.own ≤ K) (hk2 : h.number ≤ K) (hsm : D.Small c) (hc : c ≤ 780000) :
    Ret Try.prog 9 [ptr p 0, I 3, I ((g.L + 2 : Nat) : Int)] w fun v w' =>
      ∃ q, v = .tuple #[ptr q 0, I 0, I 0] ∧ w.heap.size ≤ q ∧ ∃ D' J' F', JnM w' q p g J' ∧ DevA w' p D' F' ∧ Kp F w w' ∧ (∀ i, F' i → (F i ∨ w.heap.size ≤ i) ∧ i ≠ q) ∧ Fresh g D' J' was (K + 1) ∧ D'.Small (c + (60 * g.L + 300)) ∧ (D.due = 0 → D'.due = 0) := by
  have h := open3_ret (T := []) (was := was) hg hgs hL100 hA hU G (fun n hn => by rw [List.flatten_nil, nowOf_nil]; exact hw n hn) hK hk1 hk2 hsm hc
  refine h.mono fun v w' hv => ?_
  rcases hv with hv | ⟨-, D', f', F', -, -, -, -, -, -, -, hT⟩
  · exact hv
  · exact absurd rfl hT
end
end Go.Proofs.Ytkhkebcflaokpaa
namespace Go.Proofs.Ytkhkebcflaokpaa
open Go Go.RowKit
set_option linter.all false
set_option maxRecDepth 100000

theorem rd_int {w : World} {b off n cap : Nat} {l : List Int} {i : Nat} {z : Int} (h : Rd w (.slice (some ⟨b, off, none⟩) n cap) 1 n (l.map I)) (hi : i < n) (hz : l[i]? = some z) : w.cell? ⟨b, off + i * 1, none⟩ = some (I z) := by
  rcases h.2 with ⟨c, -, h0⟩ | ⟨b', off', cap', hv, hc⟩
  · omega
  · cases hv
    rw [Nat.mul_one]
    exact hc i _ (by rw [List.getElem?_map, hz]; rfl)
theorem rd_get1 {w : World} {a : Option Addr} {cap : Nat} {l : List Int} {i : Nat} (h : Rd w (.slice a l.length cap) 1 l.length (l.map I)) (hi : i < l.length) : ∃ b off z, a = some ⟨b, off, none⟩ ∧ l[i]? = some z := by
  rcases h.2 with ⟨c, -, h0⟩ | ⟨b', off', cap', hv, hc⟩
  · omega
  · cases hv
    exact ⟨b', off', _, rfl, List.getElem?_eq_getElem hi⟩
section
variable {w : World} {p : Nat} {D : Dev} {F : Nat → Prop} {g : Geo}
theorem plan0_ret (h : DevA w p D F) : Ret Try.prog 14 [ptr p 0, I 0, .agg #[.slice none 0 0, I 0, .int .u8 0]] w fun v w' => v = I (D.plan 0 [] 0 0).2 ∧ DevT w p F (D.plan 0 [] 0 0).1 w' :=
  planA_ret 0 (.slice none 0 0) [] 0 0 h (by simp) ⟨rfl, .inl ⟨(none, 0), rfl, rfl⟩⟩ (.inl rfl) (by omega)
theorem small_plan {c : Nat} (h : D.Small c) (z : Int) (l : List Int) (tn : Int) (mk : UInt8) (hl : l.length ≤ 17592186044416) : Dev.Small { D with due := z, keep := l, torn := tn, mask := mk } c := ⟨h.1, h.2.1, h.2.2.1, hl⟩
set_option maxHeartbeats 2000000 in
theorem opened_ret {f was : Cont} {K c : Nat} (cv av : Value) (l ag : List Int) (tn : Int) (mk : UInt8) (hl : l.length ≤ 17592186044415) (hr : Rd w cv 1 l.length (l.map I)) (har : Rd w av 1 ag.length (ag.map I)) (hagl : ag.length ≤ 17592186044415)
    (hcv : 0 < l.length → ∀ i, cv.ownBlock = some i → ¬ F i) (hav : 0 < ag.length → ∀ i, av.ownBlock = some i → ¬ F i)
    (hg : g.Ok) (hgs : g.s = 3) (hL100 : g.L ≤ 100) (hA : DevA w p D F) (hFe : Fell D g f) (hR : Dsk g f K was) (hK : K ≤ 1000000) (hsm : D.Small c) (hc : c ≤ 700000) :
    Ret Try.prog 22 [ptr p 0, I ((g.L + 2 : Nat) : Int), .agg #[cv, I tn, u8v mk], av] w fun v w' => ∃ q, v = ptr q 0 ∧ w.heap.size ≤ q ∧ ∃ D' J' F', JnM w' q p g J' ∧ DevA w' p D' F' ∧ Kp F w w' ∧ (∀ i, F' i → (F i ∨ w.heap.size ≤ i) ∧ i ≠ q) ∧ Fresh g D' J' was (K + 6) ∧ D'.due = 0 ∧ D'.Small (c + 6 * (60 * g.L + 300)) := by
  have hml : maxLen = 9223372036854775807 := rfl
  have hFl := hA.lt
  obtain ⟨ca, cc, rfl, -⟩ := hr.shape
  obtain ⟨aa, ac, rfl, -⟩ := har.shape
  refine ret_of_run (e := [(0, _), (1, _), (2, _), (3, _)]) Try.func22 rfl Try.ntmps22 rfl rfl ?_; refine run_seq ?_; refine run_reg rfl ?_; refine rValP rfl rfl (pbx rfl rfl) ?_
  rintro _ w1 ⟨b6, rfl, hb6, hx1, hB6⟩
  refine rVal rfl rfl (yas rfl) ?_; refine rEnd ?_; refine run_seq ?_; refine run_seq ?_; refine run_reg rfl ?_; refine rVal rfl rfl (yas rfl) ?_; refine rEnd ?_; refine run_block ?_
  refine run_loop (α := Nat × Dev × (Nat → Prop) × Cont) ((0, D, F, f)) (fun x => [(0, ptr p 0), (1, I ((g.L + 2 : Nat) : Int)), (3, .slice aa ag.length ac), (6, ptr b6 0), (9, I (x.1 : Int))]) (fun x w' => x.1 ≤ 5 ∧ x.1 ≤ ag.length ∧ Kp F w w' ∧ w1.heap.size ≤ w'.heap.size ∧ DevA w' p x.2.1 x.2.2.1 ∧ (∀ k, x.2.2.1 k → (F k ∨ w.heap.size ≤ k) ∧ k ≠ b6) ∧ Blk w' b6 [.slice ca l.length cc, I tn, u8v mk] 25 ∧ Fell x.2.1 g x.2.2.2 ∧ Dsk g x.2.2.2 (K + x.1) was ∧ x.2.1.Small (c + x.1 * (60 * g.L + 300))) (fun x => 5 - x.1) (by repeat (first | exact Sub.nil | refine Sub.cons rfl ?_)) ?hI ?hround
  case hI => exact ⟨Nat.zero_le _, Nat.zero_le _, hx1.kp, Nat.le_refl _, hA.ext hx1, fun k hk => ⟨.inl hk, by have := hFl k hk; omega⟩, hB6, hFe, hR, by simpa using hsm⟩
  case hround =>
    rintro ⟨i, Di, Fi, fi⟩ wi ⟨hi5, hil, hki, hsi1, hAi, hFi, hBi, hFei, hRi, hsmi⟩ ih
    dsimp only at hi5 hil hAi hFi hFei hRi hsmi
    have hs1 := hx1.size
    have hki' := hki.size
    have hri : Rd wi (.slice ca l.length cc) 1 l.length (l.map I) := hr.kp0 hki hcv
    have hai : Rd wi (.slice aa ag.length ac) 1 ag.length (ag.map I) := har.kp0 hki hav
    have hcvi : 0 < l.length → ∀ i, (Value.slice ca l.length cc).ownBlock = some i → ¬ Fi i := fun h0 j hj h => by
      have := hr.lt0 (by omega) h0 hj
      rcases (hFi j h).1 with h | h
      · exact hcv h0 j hj h
      · omega
    have havi : 0 < ag.length → ∀ i, (Value.slice aa ag.length ac).ownBlock = some i → ¬ Fi i := fun h0 j hj h => by
      have := har.lt0 (by omega) h0 hj
      rcases (hFi j h).1 with h | h
      · exact hav h0 j hj h
      · omega
    have hb6l := hBi.lt
    have hiM : i * (60 * g.L + 300) ≤ 5 * (60 * g.L + 300) := Nat.mul_le_mul_right _ hi5
    have hiS : (i + 1) * (60 * g.L + 300) = i * (60 * g.L + 300) + (60 * g.L + 300) := Nat.succ_mul _ _
    try dsimp only
    refine run_seq ?_; refine run_seq ?_; refine run_reg rfl ?_; refine rVal rfl rfl (ymv rfl) ?_; refine rVal rfl rfl (ymv rfl) ?_; refine rVal rfl rfl (yln Try.underlying23 rfl) ?_; refine rVal rfl rfl (yle rfl rfl) ?_; refine rVal_if (fun h1 => ?_) (fun h1 => ?_)
    case refine_2 => exfalso; omega
    refine rVal rfl rfl (ymv rfl) ?_; refine rVal rfl rfl (ymv rfl) ?_; refine rVal rfl rfl (ylt rfl rfl) ?_; refine rVal_if (fun h2 => ?_) (fun h2 => ?_)
    case refine_2 => exfalso; omega
    refine rVal rfl rfl (ypT rfl rfl) ?_; refine rEnd ?_; refine run_true rfl ?_; refine run_skip ?_; refine run_seq ?_; refine run_block ?_; refine run_seq ?_; refine run_seq ?_; refine run_reg rfl ?_; refine rVal rfl rfl (ymv rfl) ?_; refine rCall rfl rfl (yc (args := [.tmp 26]) cf16 rfl) (downA_ret hAi) ?_
    rintro _ wi ⟨rfl, rfl⟩
    rw [hFei.down]
    refine rVal rfl rfl (ymv rfl) ?_; refine rVal rfl rfl (ymv rfl) ?_; refine rCall rfl rfl (yc (args := [.tmp 29]) cf17 rfl) (restartA_ret hAi) ?_
    rintro _ w2 ⟨rfl, F2, hA2, hu2⟩
    rw [if_pos hFei.down]
    have hU2 := hFei.restart
    have hsm2 : Dev.Small { Di with down := false } (c + i * (60 * g.L + 300)) := hsmi
    have hk2 := hu2.1
    have hs2 := hk2.size
    have hF2 : ∀ k, F2 k → (F k ∨ w.heap.size ≤ k) ∧ k ≠ b6 := fun k hk => by
      rcases hu2.2 k hk with h | h
      · exact hFi k h
      · exact ⟨.inr (by omega), by omega⟩
    have hB2 := hk2.blk hBi (fun h => (hFi _ h).2 rfl)
    have hr2 := hri.kp0 hk2 hcvi
    have ha2 := hai.kp0 hk2 havi
    have hcv2 : 0 < l.length → ∀ i, (Value.slice ca l.length cc).ownBlock = some i → ¬ F2 i := fun h0 j hj h => by
      have := hr.lt0 (by omega) h0 hj
      rcases (hF2 j h).1 with h | h
      · exact hcv h0 j hj h
      · omega
    have hav2 : 0 < ag.length → ∀ i, (Value.slice aa ag.length ac).ownBlock = some i → ¬ F2 i := fun h0 j hj h => by
      have := har.lt0 (by omega) h0 hj
      rcases (hF2 j h).1 with h | h
      · exact hav h0 j hj h
      · omega
    have hkw2 : Kp F w w2 := hki.trans_new hk2 (fun k hk => by
      rcases (hFi k hk).1 with h | h
      · exact .inr h
      · exact .inl h)
    refine rVal rfl rfl (yne rfl rfl) ?_; refine rVal rfl rfl (ypT rfl rfl) ?_; refine rEnd ?_; refine run_false rfl ?_; refine run_skip ?_; refine run_seq ?_; refine run_seq ?_; refine run_cut (fun e' w' => ∃ b : Bool, e' = [(0, ptr p 0), (1, I ((g.L + 2 : Nat) : Int)), (3, .slice aa ag.length ac), (6, ptr b6 0), (9, I (i : Int)), (40, .bool b)] ∧ w' = w2 ∧ (b = true → i < ag.length ∧ i < 5)) ?hka (fun hka => ?hmaina)
    case hka =>
      rintro _ w2 ⟨b, rfl, rfl, hb⟩
      refine run_cut (fun e' w' => e' = [(0, ptr p 0), (1, I ((g.L + 2 : Nat) : Int)), (6, ptr b6 0), (3, .slice aa ag.length ac), (9, I (i : Int))] ∧ ∃ D3 F3, DevA w' p D3 F3 ∧ Up D3 g fi [] ∧ (D3.due ≠ 0 → i < ag.length ∧ i < 5) ∧ D3.Small (c + i * (60 * g.L + 300)) ∧ Kp F w w' ∧ w2.heap.size ≤ w'.heap.size ∧ (∀ k, F3 k → (F k ∨ w.heap.size ≤ k) ∧ k ≠ b6) ∧ Blk w' b6 [.slice ca l.length cc, I tn, u8v mk] 25) ?hkb (fun hkb => ?hmainb)
      case hkb =>
        rintro _ w3 ⟨rfl, D3, F3, hA3, hU3, hdu3, hsm3, hk3, hs3, hF3, hB3⟩
        refine run_seq ?_; refine run_reg rfl ?_; refine rVal rfl rfl (ymv rfl) ?_; refine rVal rfl rfl (ymv rfl) ?_
        have hs13 : w.heap.size ≤ w3.heap.size := by omega
        obtain ⟨h, a, T, G, k1, k2, hw⟩ := hRi
        refine rCall rfl rfl (yc (args := [.tmp 54, .const (Value.int .i64 3), .tmp 55]) cf9 rfl) (open3_ret hg hgs hL100 hA3 hU3 G hw (by omega) k1 k2 hsm3 (by omega)) ?_
        rintro _ w4 hres
        have hFw : ∀ (F4 : Nat → Prop), (∀ i, F4 i → F3 i ∨ w3.heap.size ≤ i) → ∀ i, F4 i → (F i ∨ w.heap.size ≤ i) ∧ i ≠ b6 := fun F4 h4 i hi => by
          rcases h4 i hi with h | h
          · exact hF3 i h
          · exact ⟨.inr (by omega), by omega⟩
        rcases hres with ⟨q, rfl, hq4, D4, J4, F4, hJ4, hA4, hk4, hF4, hFr4, hsm4, hd4⟩ | ⟨rfl, D4, f4, F4, hA4, hk4, hF4, hFe4, hR4, hsm4, hd4, -⟩
        · skip
          have hF4' := hFw F4 (fun i hi => (hF4 i hi).1)
          have hq4l := hJ4.lt
          have hs4 := hk4.size
          have hU4 : ∃ base C, Up D4 g base C := by
            obtain ⟨b, h, a, U, -⟩ := hFr4
            exact ⟨b, [], U⟩
          obtain ⟨base4, C4, hU4⟩ := hU4
          obtain ⟨hpe, -⟩ := hU4.plan (z := 0) (by omega) [] 0 0
          refine rVal rfl rfl (ymv rfl) ?_; refine rVal rfl rfl (yex rfl rfl) ?_; refine rVal rfl rfl (yex rfl rfl) ?_; refine rVal rfl rfl (yex rfl rfl) ?_; refine rVal rfl rfl (yas rfl) ?_; refine rVal rfl rfl (yas rfl) ?_; refine rVal rfl rfl (yas rfl) ?_; refine rEnd ?_; refine run_seq ?_; refine run_seq ?_; refine run_reg rfl ?_; refine rVal rfl rfl (ymv rfl) ?_; refine rVal rfl rfl (yeq rfl rfl) ?_; refine rTrue (by (first | rfl | assumption | omega | decide)) ?_; refine rEnd ?_; refine run_true rfl ?_; refine run_seq ?_; refine run_seq ?_; refine run_reg rfl ?_
          refine rVal rfl rfl (ymv rfl) ?_; refine rVal rfl rfl (ybd (parts := []) (cs := [_, _, _]) ti45 rfl sp45 rfl rfl) ?_; refine rCall rfl rfl (yc (args := [.tmp 62, .const (Value.int .i64 0), .tmp 63]) cf14 rfl) (plan0_ret hA4) ?_
          rintro _ w5 ⟨rfl, F5, hA5, hu5⟩
          rw [hpe] at hA5 ⊢
          refine rVal rfl rfl (yne rfl rfl) ?_; refine rEnd ?_; refine run_false rfl ?_; refine run_skip ?_; refine run_seq ?_; refine run_reg rfl ?_; refine rVal rfl rfl (ymv rfl) ?_; refine rVal rfl rfl (yas rfl) ?_; refine rEnd ?_; refine run_ret Try.func22 rfl ?_; refine ⟨_, rfl, q, rfl, by omega, _, J4, F5, hJ4.kp hu5.1 (fun h => (hF4 _ h).2 rfl), hA5, ?_, ?_, ?_, rfl, ?_⟩
          · exact (hk3.trans_new hk4 (fun k hk => (hF3 k hk).1.symm)).trans_new hu5.1 (fun k hk => (hF4' k hk).1.symm)
          · intro k hk
            rcases hu5.2 k hk with h | h
            · exact ⟨(hF4' k h).1, (hF4 k h).2⟩
            · exact ⟨.inr (by omega), by omega⟩
          · obtain ⟨b, h, a, U, G, hw, e, k1, k2⟩ := hFr4
            exact ⟨b, h, a, (U.plan (z := 0) (by omega) [] 0 0).2, G, hw, e, by omega, by omega⟩
          · exact small_plan (hsm4.mono (by omega)) _ _ _ _ (by simp)
        · skip
          have hF4' := hFw F4 hF4
          have hs4 := hk4.size
          obtain ⟨hil3, hi53⟩ := hdu3 hd4
          refine rVal rfl rfl (ymv rfl) ?_; refine rVal rfl rfl (yex rfl rfl) ?_; refine rVal rfl rfl (yex rfl rfl) ?_; refine rVal rfl rfl (yex rfl rfl) ?_; refine rVal rfl rfl (yas rfl) ?_; refine rVal rfl rfl (yas rfl) ?_; refine rVal rfl rfl (yas rfl) ?_; refine rEnd ?_; refine run_seq ?_; refine run_seq ?_; refine run_reg rfl ?_; refine rVal rfl rfl (ymv rfl) ?_; refine rVal rfl rfl (yeq rfl rfl) ?_; refine rFalse (by (first | exact fun h => h rfl | assumption | omega)) ?_; refine rEnd ?_; refine run_false rfl ?_; refine run_skip ?_; refine run_seq ?_; refine run_reg rfl ?_
          refine rVal rfl rfl (ymv rfl) ?_; refine rVal rfl rfl (yne rfl rfl) ?_; refine rFalse (by (first | exact fun h => h rfl | assumption | omega)) ?_; refine rEnd ?_; refine run_false rfl ?_; refine run_skip ?_; refine run_inBlock ?_; refine run_reg rfl ?_; refine rVal rfl rfl (ymv rfl) ?_; refine rVal rfl rfl (yad rfl rfl (by omega)) ?_; refine rVal rfl rfl (yas rfl) ?_; refine rEnd ?_
          exact (ih (i + 1, D4, F4, f4) w4 ⟨by dsimp only; omega, by dsimp only; omega, hk3.trans_new hk4 (fun k hk => (hF3 k hk).1.symm), by omega, hA4, hF4', hk4.blk hB3 (fun h => (hF3 _ h).2 rfl), hFe4, hR4, by dsimp only; rw [hiS]; exact hsm4.mono (by omega)⟩ (by dsimp only; omega)).sub (by repeat (first | exact Sub.nil | refine Sub.cons rfl ?_))
      case hmainb =>
        cases b with
        | true =>
          refine run_true rfl ?_
          obtain ⟨hil', hi5'⟩ := hb rfl
          obtain ⟨ab, ao, z, haa, hz⟩ := rd_get1 ha2 hil'
          cases haa
          have t1 := tmod_range z 12 (by decide)
          have r1 := nrm_range z 12 (by decide)
          refine run_draw (fun w' => Kp F2 w2 w') (by kernel_rfl) rfl ?_; refine hTake (i := 0) rfl (by kernel_rfl) rfl rfl (fun _ hS => ymv rfl) ((Ext.drew0 w2).kp) ?_; refine hTake (i := 1) rfl (by kernel_rfl) rfl rfl (fun _ hS => ymv rfl) ((Ext.drew0 w2).kp) ?_; refine hTake (i := 2) rfl (by kernel_rfl) rfl rfl (fun _ hS => ymv rfl) ((Ext.drew0 w2).kp) ?_; refine hTake (i := 3) rfl (by kernel_rfl) rfl rfl (fun _ hS => yis Try.underlying23 ti3 rfl rfl (by omega)) ((Ext.drew0 w2).kp) ?_
          refine hTake (i := 9) rfl (by kernel_rfl) rfl rfl (fun _ hS => yldA Try.underlying25 rfl ti25 rfl (Blk.cells (n := 3) (hS.blk hB2 (fun h => (hF2 _ h).2 rfl)) (news := [_, _, _]) rfl) rfl) ((Ext.drew0 w2).kp) ?_; refine hTake (i := 4) rfl (by kernel_rfl) rfl rfl (fun _ hS => yldc Try.underlying3 rfl rfl (rd_int (ha2.kp0 hS hav2) hil' hz)) ((Ext.drew0 w2).kp) ?_; refine hTake (i := 5) rfl (by kernel_rfl) rfl rfl (fun _ hS => yrt rfl rfl (by omega)) ((Ext.drew0 w2).kp) ?_; refine hTake (i := 6) rfl (by kernel_rfl) rfl rfl (fun _ hS => yad rfl rfl (by omega)) ((Ext.drew0 w2).kp) ?_
          refine hTake (i := 7) rfl (by kernel_rfl) rfl rfl (fun _ hS => yrt rfl rfl (by omega)) ((Ext.drew0 w2).kp) ?_
          rw [show (z.tmod 12 + 12).tmod 12 = nrm z 12 from rfl]
          have hx0 : Ext w2 w2.drew := Ext.drew0 w2
          refine hTake (i := 8) rfl (by kernel_rfl) rfl rfl (fun _ hS => yad rfl rfl (by omega)) ((Ext.drew0 w2).kp) ?_; refine hOne (i := 10) (by kernel_rfl) ?_; refine nCall (i := 10) rfl rfl rfl (yc (args := [.tmp 50]) cf15 rfl) (crash_ret (.slice ca l.length cc) l tn mk hl (hr2.ext hx0)) ?_
          rintro _ w3 ⟨sv, rfl, hSv, hx3, hg3⟩
          refine ⟨(hx0.trans hx3).kp, ?_⟩
          have hx23 := hx0.trans hx3
          refine hOne (i := 11) (by kernel_rfl) ?_; refine nCall (i := 11) rfl rfl rfl (yc (args := [.tmp 41, .tmp 49, .tmp 51]) cf14 rfl) (planA_ret (1 + nrm z 12) sv l tn mk (hA2.ext hx23) (by omega) hSv.rd (hSv.shape.imp And.left fun ⟨g', cap', e, _⟩ => ⟨_, cap', e⟩) (by omega)) ?_
          rintro _ w4 ⟨rfl, F4, hA4, hu4⟩
          refine ⟨hx23.kp.trans hu4.1, ?_⟩
          obtain ⟨hpe, hU4⟩ := hU2.plan (z := 1 + nrm z 12) (by omega) l tn mk
          rw [hpe] at hA4
          have hs23 := hx23.size
          have hs4 := hu4.1.size
          refine hEnd (by kernel_rfl) ?_
          exact (hkb _ _ ⟨rfl, _, F4, hA4, hU4, fun _ => ⟨hil', hi5'⟩, small_plan hsm2 _ _ _ _ (by omega), hkw2.trans_new (hx23.kp.trans hu4.1) (fun k hk => by rcases (hF2 k hk).1 with h | h; exact .inr h; exact .inl h), by omega, fun k hk => (hu4.2 k hk).elim (hF2 k) (fun h => ⟨.inr (by omega), by omega⟩), (hx23.kp.trans hu4.1).blk hB2 (fun h => (hF2 _ h).2 rfl)⟩).sub (by repeat (first | exact Sub.nil | refine Sub.cons rfl ?_))
        | false =>
          refine run_false rfl ?_; refine run_skip ?_
          exact (hkb _ _ ⟨rfl, _, F2, hA2, hU2, fun h => absurd hFei.due h, hsm2, hkw2, Nat.le_refl _, hF2, hB2⟩).sub (by repeat (first | exact Sub.nil | refine Sub.cons rfl ?_))
    case hmaina =>
      refine run_reg rfl ?_; refine rVal rfl rfl (ymv rfl) ?_; refine rVal rfl rfl (ymv rfl) ?_; refine rVal rfl rfl (yln Try.underlying23 rfl) ?_; refine rVal rfl rfl (ylt rfl rfl) ?_; refine rVal_if (fun h3 => ?_) (fun h3 => ?_)
      · skip
        refine rVal rfl rfl (ymv rfl) ?_; refine rVal rfl rfl (ymv rfl) ?_; refine rVal rfl rfl (ylt rfl rfl) ?_; refine rVal rfl rfl (ypT rfl rfl) ?_; refine rEnd ?_
        exact (hka _ _ ⟨decide ((i : Int) < 5), rfl, rfl, fun h => ⟨by omega, by have := of_decide_eq_true h; omega⟩⟩).sub (by repeat (first | exact Sub.nil | refine Sub.cons rfl ?_))
      · skip
        refine rVal rfl rfl (ymv rfl) ?_; refine rSkip rfl rfl ?_; refine rSkip rfl rfl ?_; refine rVal rfl rfl (ypF rfl rfl) ?_; refine rEnd ?_
        exact (hka _ _ ⟨false, rfl, rfl, fun h => by cases h⟩).sub (by repeat (first | exact Sub.nil | refine Sub.cons rfl ?_))
end
end Go.Proofs.Ytkhkebcflaokpaa
namespace Go.Proofs.Ytkhkebcflaokpaa
open Go Go.RowKit
set_option linter.all false
set_option maxRecDepth 100000

theorem Kp.cell {S : Nat → Prop} {w w' : World} {b i : Nat} {u : Value} (k : Kp S w w') (hc : w.cell? ⟨b, i, none⟩ = some u) (hn : ¬ S b) : w'.cell? ⟨b, i, none⟩ = some u := by
  have hlt : b < w.heap.size := World.block_lt_of_cell? w _ hc
  rw [World.cell?_of_block (w := w) (a := ⟨b, i, none⟩) (k.block b hlt hn)]
  exact hc
theorem Ext.cell {w w' : World} {b i : Nat} {u : Value} (k : Ext w w') (hc : w.cell? ⟨b, i, none⟩ = some u) : w'.cell? ⟨b, i, none⟩ = some u := Kp.cell k hc id

/-- A day. -/
structure PDay where
  l : List (Int × Bytes)
  check : Bool
  fall : Int
  keep : List Int
  tn : Int
  mask : UInt8
  again : List Int
def PDay.cs (d : PDay) (lv kv av : Value) : List Value := [lv, .bool d.check, I d.fall, kv, I d.tn, u8v d.mask, av]
structure PDay.In (w : World) (d : PDay) (lv kv av : Value) : Prop where
  l : PutsM w lv d.l
  keep : Rd w kv 1 d.keep.length (d.keep.map I)
  keepL : d.keep.length ≤ 17592186044415
  again : Rd w av 1 d.again.length (d.again.map I)
  againL : d.again.length ≤ 17592186044415
  fall : d.fall ≤ 9223372036854775807
def DaysM (w : World) (v : Value) (ds : List PDay) : Prop := ∃ (flat : List Value) (ls ks as1 : Nat → Value), Rd w v 7 ds.length flat ∧ ds.length ≤ 140737488355328 ∧ ∀ (i : Nat) (d : PDay), ds[i]? = some d → (flat.drop (i * 7)).take 7 = d.cs (ls i) (ks i) (as1 i) ∧ d.In w (ls i) (ks i) (as1 i)
theorem DaysM.shape {w : World} {v : Value} {ds : List PDay} (h : DaysM w v ds) : (∃ a cap, v = .slice a ds.length cap) ∧ ds.length ≤ 140737488355328 := by
  obtain ⟨flat, ls, ks, as1, h1, h2, h3⟩ := h
  obtain ⟨a, cap, e, -⟩ := h1.shape
  exact ⟨⟨a, cap, e⟩, h2⟩
theorem DaysM.get {w : World} {a : Option Addr} {n cap : Nat} {ds : List PDay} (h : DaysM w (.slice a n cap) ds) {i : Nat} (hi : i < ds.length) : ∃ b off d lv kv av, a = some ⟨b, off, none⟩ ∧ (∀ j u, (PDay.cs d lv kv av)[j]? = some u → w.cell? ⟨b, off + i * 7 + j, none⟩ = some u) ∧ d.In w lv kv av := by
  obtain ⟨flat, ls, ks, as1, h1, h2, h3⟩ := h
  obtain ⟨a', cap', e, -⟩ := h1.shape
  cases e
  rcases h1.2 with ⟨c, -, hz⟩ | ⟨b, off, cap', hv, hc⟩
  · omega
  · cases hv
    obtain ⟨k1, k2⟩ := h3 i _ (List.getElem?_eq_getElem hi)
    exact ⟨b, off, _, ls i, ks i, as1 i, rfl, h1.elem k1, k2⟩

/-- A journal on its device, and contents held, all behind w. -/
structure WG (w w' : World) (g : Geo) (p q : Nat) (F : Nat → Prop) (D : Dev) (J : Jn) (xs : List (Nat × Nat × Cont)) : Prop where
  ext : Ext w w'
  jn : JnM w' q p g J
  dev : DevA w' p D F
  fp : ∀ k, F k → w.heap.size ≤ k ∧ k ≠ q
  qw : w.heap.size ≤ q
  sl : ∀ x ∈ xs, w.heap.size ≤ x.1 ∧ x.1 ≠ q ∧ ¬ F x.1 ∧ Sl w' (.slice (some ⟨x.1, 0, none⟩) 24 x.2.1) 9 1 24 ((mdl g x.2.2).map S)
section
variable {w wa wb : World} {g : Geo} {p q q' : Nat} {F F' : Nat → Prop} {D D' : Dev} {J J' : Jn} {xs : List (Nat × Nat × Cont)}
theorem WG.nq (h : WG w wa g p q F D J xs) : ¬ F q := fun hf => (h.fp q hf).2 rfl
theorem WG.then (h : WG w wa g p q F D J xs) (k : Ext wa wb) : WG w wb g p q F D J xs :=
  ⟨h.ext.trans k, h.jn.ext k, h.dev.ext k, h.fp, h.qw, fun x hx => let ⟨a, b, c, d⟩ := h.sl x hx; ⟨a, b, c, d.ext k⟩⟩
theorem WG.step (h : WG w wa g p q F D J xs) (k : Kp (fun i => F i ∨ i = q) wa wb) (hJ : JnM wb q p g J') (hA : DevA wb p D' F') (hF : ∀ i, F' i → F i ∨ wa.heap.size ≤ i) : WG w wb g p q F' D' J' xs := by
  have hs := h.ext.size
  have hq := h.jn.lt
  refine ⟨h.ext.trans_new k (fun i hi => ?_), hJ, hA, fun i hi => ?_, h.qw, fun x hx => ?_⟩
  · rcases hi with hi | hi
    · exact (h.fp i hi).1
    · have := h.qw; omega
  · rcases hF i hi with h' | h'
    · exact h.fp i h'
    · exact ⟨by omega, by omega⟩
  · obtain ⟨a, b, c, d⟩ := h.sl x hx
    have hl : x.1 < wa.heap.size := d.lt rfl
    refine ⟨a, b, fun hf => ?_, d.kp k (fun i hi hb => ?_)⟩
    · rcases hF _ hf with h' | h'
      · exact c h'
      · omega
    · have e : x.1 = i := Option.some.inj hi
      subst e
      rcases hb with hb | hb
      · exact c hb
      · exact b hb
theorem WG.dstep (h : WG w wa g p q F D J xs) (k : Kp F wa wb) (hA : DevA wb p D' F') (hF : ∀ i, F' i → F i ∨ wa.heap.size ≤ i) : WG w wb g p q F' D' J xs :=
  h.step (k.mono' fun i hi => .inl hi) (h.jn.kp k h.nq) hA hF
theorem WG.again (h : WG w wa g p q F D J xs) (k : Kp F wa wb) (hJ : JnM wb q' p g J') (hA : DevA wb p D' F') (hF : ∀ i, F' i → (F i ∨ wa.heap.size ≤ i) ∧ i ≠ q') (hq : wa.heap.size ≤ q') : WG w wb g p q' F' D' J' xs := by
  have hs := h.ext.size
  refine ⟨h.ext.trans_new k (fun i hi => (h.fp i hi).1), hJ, hA, fun i hi => ⟨?_, (hF i hi).2⟩, by omega, fun x hx => ?_⟩
  · rcases (hF i hi).1 with h' | h'
    · exact (h.fp i h').1
    · omega
  · obtain ⟨a, b, c, d⟩ := h.sl x hx
    have hl : x.1 < wa.heap.size := d.lt rfl
    refine ⟨a, by omega, fun hf => ?_, d.kp k (fun i hi hb => ?_)⟩
    · rcases (hF _ hf).1 with h' | h'
      · exact c h'
      · omega
    · have e : x.1 = i := Option.some.inj hi
      subst e
      exact c hb
/-- A content held is written anew. -/
theorem WG.put {b cap : Nat} {c : Cont} (h : WG w wa g p q F D J xs) (k : Kp (fun i => i = b) wa wb) (hw : w.heap.size ≤ b) (hq : b ≠ q) (hF : ¬ F b) (hx : ∀ x ∈ xs, x.1 ≠ b) (hS : Sl wb (.slice (some ⟨b, 0, none⟩) 24 cap) 9 1 24 ((mdl g c).map S)) : WG w wb g p q F D J ((b, cap, c) :: xs) := by
  refine ⟨h.ext.trans_new k (fun i hi => by omega), h.jn.kp k (fun e => hq e.symm), h.dev.kp k (fun i hi e => hF (e ▸ hi)), h.fp, h.qw, fun x hx' => ?_⟩
  rcases List.mem_cons.1 hx' with rfl | hx'
  · exact ⟨hw, hq, hF, hS⟩
  · obtain ⟨a, b', c', d⟩ := h.sl x hx'
    exact ⟨a, b', c', d.kp k (fun i hi e => hx x hx' ((Option.some.inj hi).trans e))⟩
theorem WG.sub {ys : List (Nat × Nat × Cont)} (h : WG w wa g p q F D J xs) (hs : ∀ y ∈ ys, y ∈ xs) : WG w wa g p q F D J ys := ⟨h.ext, h.jn, h.dev, h.fp, h.qw, fun y hy => h.sl y (hs y hy)⟩
theorem LiveJ.plan {was : Cont} {K : Nat} (h : LiveJ g D J was K) {z : Int} (hz : 0 ≤ z ∧ z ≤ 9223372036854775807) (l : List Int) (tn : Int) (mk : UInt8) : D.plan z l tn mk = ({ D with due := z, keep := l, torn := tn, mask := mk }, 0) ∧ LiveJ g { D with due := z, keep := l, torn := tn, mask := mk } J was K := by
  obtain ⟨base, C, hd, a, T, L⟩ := h
  obtain ⟨e, U⟩ := L.up.plan hz l tn mk
  exact ⟨e, base, C, hd, a, T, ⟨U, L.safe, L.now, L.eq, L.k1, L.k2⟩⟩
/-- A device with a journal that works goes down. -/
theorem LiveJ.fall {was : Cont} {K : Nat} (hg : g.Ok) (h : LiveJ g D J was K) (l : List Int) (tn : Int) (mk : UInt8) : ∃ f, Fell (D.fall l tn mk) g f ∧ Dsk g f K was := by
  obtain ⟨base, C, hd, a, T, L⟩ := h
  obtain ⟨h1, h2⟩ := L.up.fall l tn mk
  exact ⟨_, h1, L.safe.dsk hg h2 L.k1 L.k2⟩
theorem pull1_ret (h : DevA w p D F) {k : Nat} (hs : D.Small k) (hk : k ≤ 1000000) (hd : D.down = false) : Ret Try.prog 21 [ptr p 0, .agg #[.slice none 0 0, I (-1), .int .u8 0]] w fun v w' => v = I 0 ∧ DevT w p F (D.fall [] (-1) 0) w' := by
  have h := pullA_ret (.slice none 0 0) [] (-1) 0 h hs hk (by simp) ⟨rfl, .inl ⟨(none, 0), rfl, rfl⟩⟩
  rw [hd] at h
  exact h
theorem fresh_to {was : Cont} {K : Nat} (h : Fresh g D J was K) : ∃ base h a, Up D g base [] ∧ Good g base h a [] ∧ (∀ n, g.out n → base n = was n) ∧ h.own ≤ K ∧ h.number ≤ K := by
  obtain ⟨b, h, a, U, G, hw, -, k1, k2⟩ := h
  exact ⟨b, h, a, U, G, hw, k1, k2⟩
end
end Go.Proofs.Ytkhkebcflaokpaa
namespace Go.Proofs.Ytkhkebcflaokpaa
open Go Go.RowKit
set_option linter.all false
set_option maxRecDepth 100000
set_option maxHeartbeats 8000000 in
theorem journalWhole_ret (z z2 : Int) (lv : Value) (ds : List PDay) (w : World) (hM : DaysM w lv ds) :
    Ret Try.prog 4 [I z, I z2, lv] w fun v w' => v = .bool true ∧ Ext w w' := by
  have hml : maxLen = 9223372036854775807 := rfl
  obtain ⟨⟨la, lc, rfl⟩, hll⟩ := hM.shape
  have r9 := nrm_range z 9 (by decide)
  have r3 := nrm_range z2 3 (by decide)
  obtain ⟨k, hk⟩ : ∃ k : Nat, nrm z 9 = (k : Int) := ⟨(nrm z 9).toNat, by omega⟩
  obtain ⟨N, hN⟩ : ∃ N : Nat, 1 + nrm z2 3 = (N : Int) := ⟨(1 + nrm z2 3).toNat, by omega⟩
  obtain ⟨g, hgd⟩ : ∃ g, gOf N k = g := ⟨_, rfl⟩
  have hg : g.Ok := by rw [← hgd]; exact gOf_ok (by omega) (by omega)
  have hgs : g.s = 3 := by rw [← hgd]; rfl
  have hgB : g.B = 24 := by rw [← hgd]; rfl
  have hgN : g.N = N := by rw [← hgd]; rfl
  have hgL : g.L = 4 + k := by rw [← hgd]; rfl
  have hU0 : Up (Dev.fresh 24 N) g (Dev.fresh 24 N).kept [] := by rw [← hgd]; exact up_fresh (by omega)
  have t1 := tmod_range z 9 (by decide)
  have t2 := tmod_range z2 3 (by decide)
  refine ret_of_run (e := [(0, _), (1, _), (2, _)]) Try.func4 rfl Try.ntmps4 rfl rfl ?_; refine run_seq ?_; refine run_reg rfl ?_; refine rVal rfl rfl (yas rfl) ?_; refine rEnd ?_; refine run_seq ?_; refine run_reg rfl ?_; refine rVal rfl rfl (ymv rfl) ?_; refine rVal rfl rfl (yrt rfl rfl (by omega)) ?_; refine rVal rfl rfl (yad rfl rfl (by omega)) ?_; refine rVal rfl rfl (yrt rfl rfl (by omega)) ?_
  rw [show (z.tmod 9 + 9).tmod 9 = nrm z 9 from rfl, hk]
  refine rVal rfl rfl (yad rfl rfl (by omega)) ?_; refine rVal rfl rfl (yas rfl) ?_; refine rEnd ?_; refine run_seq ?_; refine run_reg rfl ?_; refine rVal rfl rfl (ymv rfl) ?_; refine rVal rfl rfl (yrt rfl rfl (by omega)) ?_; refine rVal rfl rfl (yad rfl rfl (by omega)) ?_; refine rVal rfl rfl (yrt rfl rfl (by omega)) ?_
  rw [show (z2.tmod 3 + 3).tmod 3 = nrm z2 3 from rfl]
  refine rVal rfl rfl (yad rfl rfl (by omega)) ?_
  rw [hN, show (6 : Int) + (k : Int) = ((g.L + 2 : Nat) : Int) by omega]
  refine rVal rfl rfl (ybd (parts := [(0, .const (Value.int .i64 24)), (1, .tmp 35)]) (cs := [_, _]) ti31 rfl sp31 rfl rfl) ?_; refine rCall rfl rfl (yc (args := [.tmp 36]) cf6 rfl) (newA_ok 24 N _ (by unfold geoOk; omega)) ?_
  rintro _ w1 ⟨p, F1, rfl, hA1, hx1, hF1⟩
  refine rVal rfl rfl (ymv rfl) ?_; refine rVal rfl rfl (yex rfl rfl) ?_; refine rVal rfl rfl (yex rfl rfl) ?_; refine rVal rfl rfl (yas rfl) ?_; refine rVal rfl rfl (yas rfl) ?_; refine rEnd ?_; refine run_seq ?_; refine run_seq ?_; refine run_reg rfl ?_; refine rVal rfl rfl (ymv rfl) ?_; refine rVal rfl rfl (yne rfl rfl) ?_; refine rFalse (by (first | exact fun h => h rfl | assumption | omega)) ?_; refine rVal rfl rfl (ymv rfl) ?_; refine rVal rfl rfl (ymv rfl) ?_; refine rVal rfl rfl (ymv rfl) ?_
  refine rCall rfl rfl (yc (args := [.tmp 43, .const (Value.int .i64 3), .tmp 44]) cf7 rfl) (format3_ret hA1 hU0.hB hU0.hN hU0.down hg hgs (small_fresh 24 N) (by omega)) ?_
  rintro _ w2 ⟨rfl, F2, hA2, hu2⟩
  have hsf := small_runS (formatS g) (small_fresh 24 N)
  rcases runS_format hg hU0 with ⟨D2, base, er, U2, G2, hb2, hd2⟩ | ⟨D2, f, er, hdu, -⟩
  case inr => exact absurd rfl hdu
  rw [er] at hA2 hsf ⊢
  dsimp only at hA2 hsf ⊢
  rw [formatS_len] at hsf
  refine rVal rfl rfl (yne rfl rfl) ?_; refine rFalse (by (first | exact fun h => h rfl | assumption | omega)) ?_; refine rVal rfl rfl (ypF rfl rfl) ?_; refine rVal rfl rfl (ymv rfl) ?_; refine rCall rfl rfl (yc (args := []) cf8 rfl) (awake_ret _) ?_
  rintro _ w3 ⟨rfl, hx3⟩
  refine rVal rfl rfl ((by first | exact yntd rfl | exact ynt rfl)) ?_; refine rVal rfl rfl (ypF rfl rfl) ?_; refine rEnd ?_; refine Run.sub (e := [(0, _), (2, _), (6, _), (7, _), (51, _)]) ?_ (by repeat (first | exact Sub.nil | refine Sub.cons rfl ?_))
  refine run_false rfl ?_; refine run_skip ?_; refine run_seq ?_; refine run_reg rfl ?_; refine rVal rfl rfl (ymv rfl) ?_; refine rVal rfl rfl (ymv rfl) ?_; refine rCall rfl rfl (yc (args := [.tmp 53, .const (Value.int .i64 3), .tmp 54]) cf9 rfl) (openN_ret (was := base) (K := 1) hg hgs (by omega) (hA2.ext hx3) U2 G2 (fun _ _ => rfl) (by omega) (Nat.le_refl 1) (Nat.le_refl 1) hsf (by omega)) ?_
  rintro _ w4 ⟨q, rfl, hq4, D4, J4, F4, hJ4, hA4, hk4, hF4, hFr4, hsm4, hd4⟩
  have hF2l := hu2.low hx1.size hF1
  have hx2 := hu2.ext hx1 hF1
  have hx4 : Ext w w4 := (hx2.trans hx3).trans_new hk4 hF2l
  have hs2 := hx2.size
  have hs3 := hx3.size
  have hLv4 := hFr4.live
  have hW4 : WG w w4 g p q F4 D4 J4 [] := ⟨hx4, hJ4, hA4, fun i hi => ⟨by rcases (hF4 i hi).1 with h | h; exact hF2l i h; omega, (hF4 i hi).2⟩, by omega, fun x hx => by cases hx⟩
  refine rVal rfl rfl (ymv rfl) ?_; refine rVal rfl rfl (yex rfl rfl) ?_; refine rVal rfl rfl (yex rfl rfl) ?_; refine rVal rfl rfl (yex rfl rfl) ?_; refine rVal rfl rfl (yas rfl) ?_; refine rVal rfl rfl (yas rfl) ?_; refine rVal rfl rfl (yas rfl) ?_; refine rEnd ?_; refine run_seq ?_; refine run_seq ?_; refine run_reg rfl ?_; refine rVal rfl rfl (ymv rfl) ?_; refine rVal rfl rfl (yne rfl rfl) ?_; refine rFalse (by (first | exact fun h => h rfl | assumption | omega)) ?_; refine rEnd ?_; refine run_false rfl ?_; refine run_skip ?_; refine run_seq ?_; refine run_reg rfl ?_
  refine rVal rfl rfl (ymv rfl) ?_; refine rVal rfl rfl (ymv rfl) ?_; refine rCall rfl rfl (yc (args := [.tmp 61, .tmp 62]) cf13 rfl) (model_ret hA4 (by rw [hLv4.geo.1, hgB]) hgs (by omega) hsm4 (by omega)) ?_
  rintro _ w5 ⟨b, cap, rfl, hS5, hx5, hb5⟩
  rw [mdl_live hLv4 hgs hgB] at hS5
  have hs4 := hx4.size
  have hql4 := hJ4.lt
  have hW5 : WG w w5 g p q F4 D4 J4 [(b, cap, base)] := ⟨hx4.trans hx5, hJ4.ext hx5, hA4.ext hx5, hW4.fp, hW4.qw, fun x hx => by
    cases List.mem_singleton.1 hx
    exact ⟨by show w.heap.size ≤ b; omega, by show b ≠ q; omega, fun h => by have := hA4.lt b h; omega, hS5⟩⟩
  clear hx1 hF1 hA1 hu2 hA2 hF2l hx2 hx3 hx4 hk4 hF4 hJ4 hA4 hW4 hS5 hx5 hs2 hs3 hb5 hq4
  refine rVal rfl rfl (yas rfl) ?_; refine rEnd ?_; refine run_seq ?_; refine run_seq ?_; refine run_reg rfl ?_; refine rVal rfl rfl (yas rfl) ?_; refine rEnd ?_; refine run_block ?_; refine run_cut2 (fun e' w' => ∃ D J F q b cap was, e' = [(0, I ((g.L + 2 : Nat) : Int)), (7, ptr p 0), (12, .slice (some ⟨b, 0, none⟩) 24 cap)] ∧ WG w w' g p q F D J [(b, cap, was)] ∧ LiveJ g D J was 1000 ∧ D.due = 0 ∧ D.Small 200000) ?hk (fun hk => ?hmain)
  case hk =>
    rintro _ w6 ⟨D6, J6, F6, q6, b6, cap6, was, rfl, hW6, hL6, hd6, hsm6⟩
    refine run_seq ?_; refine run_reg rfl ?_; refine rVal rfl rfl (ymv rfl) ?_; refine rVal rfl rfl (ybd (parts := [(1, .const (Value.int .i64 (-1)))]) (cs := [_, _, _]) ti45 rfl sp45 rfl rfl) ?_; refine rCall rfl rfl (yc (args := [.tmp 206, .tmp 207]) cf21 rfl) (pull1_ret hW6.dev hsm6 (by omega) hL6.geo.2.2) ?_
    rintro _ w7 ⟨rfl, F7, hA7, hu7⟩
    have hW7 := hW6.dstep hu7.1 hA7 hu7.2
    obtain ⟨f7, hFe7, hR7⟩ := hL6.fall hg [] (-1) 0
    have hsm7 := small_fall hsm6 [] (-1) 0
    refine rEnd ?_; refine run_seq ?_; refine run_reg rfl ?_; refine rVal rfl rfl (ymv rfl) ?_; refine rCall rfl rfl (yc (args := [.tmp 209]) cf17 rfl) (restartA_ret hW7.dev) ?_
    rintro _ w8 ⟨rfl, F8, hA8, hu8⟩
    have hW8 := hW7.dstep hu8.1 hA8 hu8.2
    have hU8 := hFe7.restart
    have hsm8 : Dev.Small { D6.fall [] (-1) 0 with down := false } 200000 := hsm7
    obtain ⟨h8, a8, T8, G8, k81, k82, hw8⟩ := hR7
    refine rEnd ?_; refine run_seq ?_; refine run_reg rfl ?_; refine rVal rfl rfl (ymv rfl) ?_; refine rVal rfl rfl (ymv rfl) ?_; refine rCall rfl rfl (yc (args := [.tmp 212, .const (Value.int .i64 3), .tmp 213]) cf9 rfl) (open3_ret hg hgs (by omega) hW8.dev hU8 G8 hw8 (by omega) k81 k82 hsm8 (by omega)) ?_
    rintro _ w9 hres
    rcases hres with ⟨q9, rfl, hq9, D9, J9, F9, hJ9, hA9, hk9, hF9, hFr9, hsm9, hd9⟩ | ⟨-, D9, f9, F9, -, -, -, -, -, -, hdu, -⟩
    case inr => exact absurd hFe7.due hdu
    have hW9 := hW8.again hk9 hJ9 hA9 hF9 hq9
    obtain ⟨base9, h9, a9, U9, G9, hw9, k91, k92⟩ := fresh_to hFr9
    refine rVal rfl rfl (ymv rfl) ?_; refine rVal rfl rfl (yex rfl rfl) ?_; refine rVal rfl rfl (yex rfl rfl) ?_; refine rVal rfl rfl (yex rfl rfl) ?_; refine rVal rfl rfl (yas rfl) ?_; refine rVal rfl rfl (yas rfl) ?_; refine rVal rfl rfl (yas rfl) ?_; refine rEnd ?_; refine run_seq ?_; refine run_reg rfl ?_; refine rVal rfl rfl (ymv rfl) ?_; refine rVal rfl rfl (ymv rfl) ?_; refine rCall rfl rfl (yc (args := [.tmp 219, .const (Value.int .i64 3), .tmp 220]) cf9 rfl) (openN_ret (was := was) hg hgs (by omega) hW9.dev U9 G9 hw9 (by omega) k91 k92 hsm9 (by omega)) ?_
    rintro _ w10 ⟨q10, rfl, hq10, D10, J10, F10, hJ10, hA10, hk10, hF10, hFr10, hsm10, hd10⟩
    have hW10 := hW9.again hk10 hJ10 hA10 hF10 hq10
    have hL10 := hFr10.live
    refine rVal rfl rfl (ymv rfl) ?_; refine rVal rfl rfl (yex rfl rfl) ?_; refine rVal rfl rfl (yex rfl rfl) ?_; refine rVal rfl rfl (yex rfl rfl) ?_; refine rVal rfl rfl (yas rfl) ?_; refine rVal rfl rfl (yas rfl) ?_; refine rVal rfl rfl (yas rfl) ?_; refine rEnd ?_; refine Run.sub (e := [(0, _), (7, _), (12, _), (21, _), (23, _), (24, _)]) ?_ (by repeat (first | exact Sub.nil | refine Sub.cons rfl ?_))
    refine run_seq ?_; refine run_reg rfl ?_; refine rVal rfl rfl (ymv rfl) ?_; refine rVal rfl rfl (yeq rfl rfl) ?_; refine rTrue (by (first | rfl | assumption | omega | decide)) ?_; refine rVal rfl rfl (ymv rfl) ?_; refine rVal rfl rfl (ymv rfl) ?_; refine rVal rfl rfl (yeq rfl rfl) ?_; refine rTrue (by (first | rfl | assumption | omega | decide)) ?_; refine rVal rfl rfl (ypT rfl rfl) ?_; refine rVal rfl rfl (ymv rfl) ?_; refine rVal rfl rfl (ymv rfl) ?_; refine rVal rfl rfl (yeq rfl rfl) ?_; refine rTrue (by (first | rfl | assumption | omega | decide)) ?_
    refine rVal rfl rfl (ypT rfl rfl) ?_; refine rVal rfl rfl (ymv rfl) ?_; refine rVal rfl rfl (ymv rfl) ?_; refine rVal rfl rfl (ymv rfl) ?_; refine rCall rfl rfl (yc (args := [.tmp 236, .tmp 237]) cf13 rfl) (model_ret hW10.dev (by rw [hL10.geo.1, hgB]) hgs (by omega) hsm10 (by omega)) ?_
    rintro _ w11 ⟨b2, cap2, rfl, hS11, hx11, hb11⟩
    rw [mdl_live hL10 hgs hgB] at hS11
    have hSw := ((hW10.then hx11).sl _ (List.mem_singleton.2 rfl)).2.2.2
    refine rVal rfl rfl (ymv rfl) ?_; refine rCall rfl rfl (yc (args := [.tmp 238, .tmp 239]) cf18 rfl) (same_ret _ _ (mdl g was) (mdl g was) _ (by rw [mdl_length]; exact hS11.rd) (by rw [mdl_length]; exact hSw.rd) (by rw [mdl_length]; omega) (by rw [mdl_length]; omega)) ?_
    rintro _ w12 ⟨rfl, hx12⟩
    rw [show decide (mdl g was = mdl g was) = true from decide_eq_true rfl]
    refine rVal rfl rfl (ypT rfl rfl) ?_; refine rVal rfl rfl (yas rfl) ?_; refine rEnd ?_; refine run_ret Try.func4 rfl ?_
    exact ⟨_, rfl, rfl, (hW10.ext.trans hx11).trans hx12⟩
  case hmain =>
    refine run_loop (α := Nat × Dev × Jn × (Nat → Prop) × Nat × Nat × Nat × Cont) ((0, D4, J4, F4, q, b, cap, base)) (fun x => [(0, I ((g.L + 2 : Nat) : Int)), (2, .slice la ds.length lc), (7, ptr p 0), (9, ptr x.2.2.2.2.1 0), (12, .slice (some ⟨x.2.2.2.2.2.1, 0, none⟩) 24 x.2.2.2.2.2.2.1), (13, I (x.1 : Int))]) (fun x w' => x.1 ≤ 12 ∧ x.1 ≤ ds.length ∧ WG w w' g p x.2.2.2.2.1 x.2.2.2.1 x.2.1 x.2.2.1 [(x.2.2.2.2.2.1, x.2.2.2.2.2.2.1, x.2.2.2.2.2.2.2)] ∧ LiveJ g x.2.1 x.2.2.1 x.2.2.2.2.2.2.2 (2 + 20 * x.1) ∧ x.2.1.due = 0 ∧ x.2.1.Small (1100 + 8000 * x.1)) (fun x => 12 - x.1) (by repeat (first | exact Sub.nil | refine Sub.cons rfl ?_)) ?hI ?hround
    case hI => exact ⟨Nat.zero_le _, Nat.zero_le _, hW5, hLv4.mono (by omega), hd4 (hd2 rfl), hsm4.mono (by omega)⟩
    case hround =>
      clear hW5 hLv4 hd4 hsm4 hFr4 hql4
      rintro ⟨i, D, J, F, q, b, cap, was⟩ wi ⟨hi12, hil, hWi, hLi, hdi, hsi⟩ ih
      dsimp only at hi12 hil hWi hLi hdi hsi
      have hfin : _ := (hk _ _ ⟨D, J, F, q, b, cap, was, rfl, hWi, hLi.mono (by omega), hdi, hsi.mono (by omega)⟩)
      try dsimp only
      refine run_seq ?_; refine run_seq ?_; refine run_reg rfl ?_; refine rVal rfl rfl (ymv rfl) ?_; refine rVal rfl rfl (ymv rfl) ?_; refine rVal rfl rfl (yln Try.underlying49 rfl) ?_; refine rVal rfl rfl (ylt rfl rfl) ?_; refine rVal_if (fun h1 => ?_) (fun h1 => ?_)
      · skip
        refine rVal rfl rfl (ymv rfl) ?_; refine rVal rfl rfl (ymv rfl) ?_; refine rVal rfl rfl (ylt rfl rfl) ?_; refine rVal_if (fun h2 => ?_) (fun h2 => ?_)
        · skip
          clear hfin
          refine rVal rfl rfl (ypT rfl rfl) ?_; refine rEnd ?_; refine run_true rfl ?_; refine run_skip ?_; refine run_seq ?_; refine run_block ?_; refine run_seq ?_; refine run_seq ?_
          obtain ⟨db, dof, d, pl, kv, av, hla, hcs, hIn⟩ := hM.get (i := i) (by omega)
          cases hla
          have hc0 : w.cell? ⟨db, dof + i * 7 + 0, none⟩ = some pl := hcs 0 _ rfl
          have hc1 : w.cell? ⟨db, dof + i * 7 + 1, none⟩ = some (.bool d.check) := hcs 1 _ rfl
          have hc2 : w.cell? ⟨db, dof + i * 7 + 2, none⟩ = some (I d.fall) := hcs 2 _ rfl
          have hc6 : w.cell? ⟨db, dof + i * 7 + 6, none⟩ = some av := hcs 6 _ rfl
          have hc3 : ∀ j u, [kv, I d.tn, u8v d.mask][j]? = some u → w.cell? ⟨db, dof + i * 7 + 3 + j, none⟩ = some u := fun j u hj => by
            match j, hj with
            | 0, hj => exact hcs 3 u hj
            | 1, hj => exact hcs 4 u hj
            | 2, hj => exact hcs 5 u hj
            | n + 3, hj => simp at hj
          have hkvn : 0 < d.keep.length → ∀ i, kv.ownBlock = some i → i < w.heap.size := fun h0 i hi => hIn.keep.lt0 (by omega) h0 hi
          have havn : 0 < d.again.length → ∀ i, av.ownBlock = some i → i < w.heap.size := fun h0 i hi => hIn.again.lt0 (by omega) h0 hi
          have hfl := hIn.fall
          have hkl := hIn.keepL
          refine run_cut (fun e' w' => e' = [(0, I ((g.L + 2 : Nat) : Int)), (2, .slice (some ⟨db, dof, none⟩) ds.length lc), (7, ptr p 0), (9, ptr q 0), (12, .slice (some ⟨b, 0, none⟩) 24 cap), (13, I (i : Int)), (83, .bool false)] ∧ ∃ D J F, WG w w' g p q F D J [(b, cap, was)] ∧ LiveJ g D J was (3 + 20 * i) ∧ D.due = 0 ∧ D.Small (1103 + 8000 * i)) ?hka (fun hka => ?hmaina)
          case hka =>
            rintro _ wa ⟨rfl, Da, Ja, Fa, hWa, hLa, hda, hsa⟩
            refine run_false rfl ?_; refine run_skip ?_; refine run_seq ?_
            have h0a : Ext wa wa.drew := Ext.drew0 wa
            refine run_draw (fun w' => Ext wa w') (by kernel_rfl) rfl ?_; refine hTake (i := 0) rfl (by kernel_rfl) rfl rfl (fun _ hS => ymv rfl) (Ext.drew0 wa) ?_; refine hTake (i := 1) rfl (by kernel_rfl) rfl rfl (fun _ hS => ymv rfl) (Ext.drew0 wa) ?_; refine hTake (i := 2) rfl (by kernel_rfl) rfl rfl (fun _ hS => yis Try.underlying49 ti51 rfl rfl (by omega)) (Ext.drew0 wa) ?_; refine hTake (i := 3) rfl (by kernel_rfl) rfl rfl (fun _ hS => yfa fl51_0 rfl) (Ext.drew0 wa) ?_; refine hTake (i := 5) rfl (by kernel_rfl) rfl rfl (fun _ hS => ymv rfl) (Ext.drew0 wa) ?_
            refine hTake (i := 6) rfl (by kernel_rfl) rfl rfl (fun _ hS => ymv rfl) (Ext.drew0 wa) ?_; refine hTake (i := 4) rfl (by kernel_rfl) rfl rfl (fun _ hS => yldc Try.underlying40 rfl rfl ((hWa.ext.trans hS).cell hc0)) (Ext.drew0 wa) ?_; refine hOne (i := 7) (by kernel_rfl) ?_; refine nCall (i := 7) rfl rfl rfl (yc (args := [.tmp 90]) cf20 rfl) (sizeA_ret (hWa.dev.ext h0a)) ?_
            rintro _ wa' ⟨rfl, rfl⟩
            refine ⟨Ext.drew0 wa, ?_⟩
            rw [hLa.geo.2.1]
            refine hOne (i := 8) (by kernel_rfl) ?_; refine nCall (i := 8) rfl rfl rfl (yc (args := [.tmp 88, .tmp 89, .tmp 91]) cf11 rfl) (puts5_ret d.l pl _ rfl (hIn.l.ext (hWa.ext.trans h0a)) hg hgs hgB (by omega)) ?_
            rintro wv wb ⟨t, hSt, hTx, hxt, hot⟩
            refine ⟨h0a.trans hxt, ?_⟩
            have hxab := h0a.trans hxt
            have hWb := hWa.then hxab
            obtain ⟨va, vc, rfl, -⟩ := hSt.rd.shape
            have hsab := hxab.size
            have hwa0 := hWa.ext.size
            have hb0 := hWa.sl _ (List.mem_singleton.2 rfl)
            obtain ⟨hbw, hbq, hbF, hbS⟩ := hb0
            dsimp only at hbw hbq hbF hbS
            have hbl : b < wa.heap.size := hbS.lt rfl
            have hqla := hWa.jn.lt
            refine hTake (i := 9) rfl (by kernel_rfl) rfl rfl (fun _ hS => yas rfl) (h0a.trans hxt) ?_; refine hEnd (by kernel_rfl) ?_; refine run_seq ?_; refine run_reg rfl ?_; refine rValP rfl rfl (pbs (parts := []) (cs := []) (zs := []) Try.underlying42 ti9 rfl (by kernel_rfl) rfl rfl rfl (by decide)) ?_
            rintro _ wc ⟨bc, rfl, ⟨hbc, hxc, hBc⟩, hSc⟩
            refine rVal rfl rfl (ymv rfl) ?_; refine rValP rfl rfl (pap Try.underlying42 ti9 rfl (by decide) rfl rfl hSc ((hbS.ext hxab).ext hxc).rd (fun c hc => by obtain ⟨z, _, rfl⟩ := List.mem_map.1 hc; rfl) (by omega) (by omega)) ?_
            rintro v15 wd ⟨hS15, hk15, hown15, -⟩
            simp only [Nat.zero_add, List.nil_append] at hS15
            rcases hS15.shape with ⟨-, h24⟩ | ⟨b2, cap2, rfl, -⟩
            case inl => omega
            refine rVal rfl rfl (yas rfl) ?_; refine rEnd ?_; refine run_seq ?_; refine run_seq ?_; refine run_reg rfl ?_; refine rVal rfl rfl (yas rfl) ?_; refine rEnd ?_; refine run_block ?_
            have hb2w : wb.heap.size ≤ b2 := by
              have hz := hxc.size
              rcases hown15 b2 rfl with h | h
              · have e : bc = b2 := Option.some.inj h
                have := hbc; omega
              · omega
            have hxd : Ext wb wd := hxc.trans_new hk15 (fun i hi => by
              have e : bc = i := Option.some.inj hi
              have := hbc; omega)
            have hWd := hWb.then hxd
            have hwvl : ∀ i, (Value.slice va t.length vc).ownBlock = some i → wa.heap.size ≤ i ∧ i < wb.heap.size := fun i hi => ⟨hot i hi, hSt.lt hi⟩
            have hb2q : b2 ≠ q := by omega
            have hFal := hWa.dev.lt
            have hb2F : ¬ Fa b2 := fun h => by have := hFal _ h; omega
            have hWd2 : WG w wd g p q Fa Da Ja [(b2, cap2, was), (b, cap, was)] := hWd.put (Kp.refl _ _) (by omega) hb2q hb2F (fun x hx => by cases List.mem_singleton.1 hx; show b ≠ b2; omega) hS15
            have hdbl : db < w.heap.size := World.block_lt_of_cell? w _ hc0
            have htl := (most_le hg hTx).1
            refine run_cut2 (fun e' w' => e' = [(0, I ((g.L + 2 : Nat) : Int)), (2, .slice (some ⟨db, dof, none⟩) ds.length lc), (7, ptr p 0), (9, ptr q 0), (12, .slice (some ⟨b, 0, none⟩) 24 cap), (13, I (i : Int)), (14, .slice va t.length vc), (15, .slice (some ⟨b2, 0, none⟩) 24 cap2)] ∧ WG w w' g p q Fa Da Ja [(b2, cap2, nowOf was t), (b, cap, was)] ∧ Sl w' (.slice va t.length vc) 54 2 t.length (wrs t)) ?hkb (fun hkb => ?hmainb)
            case hkb =>
              rintro _ we ⟨rfl, hWe, hSe⟩
              refine run_seq ?_; refine run_seq ?_; refine run_reg rfl ?_; refine rVal rfl rfl (ymv rfl) ?_; refine rVal rfl rfl (ymv rfl) ?_; refine rVal rfl rfl (yis Try.underlying49 ti51 rfl rfl (by omega)) ?_; refine rVal rfl rfl (yfa fl51_2 rfl) ?_; refine rVal rfl rfl (yldc Try.underlying3 rfl rfl (hWe.ext.cell hc2)) ?_; refine rVal rfl rfl (ygt rfl rfl) ?_; refine rEnd ?_
              refine run_cut (fun e' w' => e' = [(0, I ((g.L + 2 : Nat) : Int)), (2, .slice (some ⟨db, dof, none⟩) ds.length lc), (7, ptr p 0), (9, ptr q 0), (12, .slice (some ⟨b, 0, none⟩) 24 cap), (13, I (i : Int)), (14, .slice va t.length vc), (15, .slice (some ⟨b2, 0, none⟩) 24 cap2)] ∧ ∃ D F, WG w w' g p q F D Ja [(b2, cap2, nowOf was t), (b, cap, was)] ∧ LiveJ g D Ja was (3 + 20 * i) ∧ (D.due ≠ 0 → 0 < d.fall) ∧ D.Small (1103 + 8000 * i) ∧ Sl w' (.slice va t.length vc) 54 2 t.length (wrs t) ∧ (∀ i, (Value.slice va t.length vc).ownBlock = some i → ¬ F i)) ?hkc (fun hkc => ?hmainc)
              case hkc =>
                rintro _ wf ⟨rfl, Df, Ff, hWf, hLf, hdf, hsf, hSf, hof⟩
                refine run_seq ?_
                refine run_cut (fun e' w' => ∃ got : Int, e' = [(0, I ((g.L + 2 : Nat) : Int)), (2, .slice (some ⟨db, dof, none⟩) ds.length lc), (7, ptr p 0), (9, ptr q 0), (12, .slice (some ⟨b, 0, none⟩) 24 cap), (13, I (i : Int)), (14, .slice va t.length vc), (15, .slice (some ⟨b2, 0, none⟩) 24 cap2), (17, I got)] ∧ ∃ D J F, WG w w' g p q F D J [(b2, cap2, nowOf was t), (b, cap, was)] ∧ D.Small (1140 + 8000 * i) ∧ ((got = 0 ∧ LiveJ g D J (nowOf was t) (5 + 20 * i) ∧ (D.due ≠ 0 → 0 < d.fall)) ∨ (got = 8 ∧ J.dead = true ∧ ∃ f was', Fell D g f ∧ Dsk g f (5 + 20 * i) was' ∧ (was' = was ∨ was' = nowOf was t)))) ?hkd (fun hkd => ?hmaind)
                case hkd =>
                  rintro _ wg ⟨got, rfl, Dg, Jg, Fg, hWg, hsg, hgot⟩
                  refine run_seq ?_; refine run_seq ?_; refine run_cut (fun e' w' => e' = [(0, I ((g.L + 2 : Nat) : Int)), (2, .slice (some ⟨db, dof, none⟩) ds.length lc), (7, ptr p 0), (9, ptr q 0), (12, .slice (some ⟨b, 0, none⟩) 24 cap), (13, I (i : Int)), (14, .slice va t.length vc), (15, .slice (some ⟨b2, 0, none⟩) 24 cap2), (17, I got), (144, .bool false)] ∧ w' = wg) ?hke (fun hke => ?hmaine)
                  case hke =>
                    rintro _ wg ⟨rfl, rfl⟩
                    refine run_false rfl ?_; refine run_skip ?_; refine run_seq ?_; refine run_seq ?_; refine run_cut (fun e' w' => ∃ bb, e' = [(0, I ((g.L + 2 : Nat) : Int)), (2, .slice (some ⟨db, dof, none⟩) ds.length lc), (7, ptr p 0), (9, ptr q 0), (12, .slice (some ⟨b, 0, none⟩) 24 cap), (13, I (i : Int)), (14, .slice va t.length vc), (15, .slice (some ⟨b2, 0, none⟩) 24 cap2), (17, I got), (155, .bool bb)] ∧ w' = wg ∧ (bb = true → got = 0 ∧ 0 < d.fall) ∧ (bb = false → got = 8 ∨ ¬ 0 < d.fall)) ?hkf (fun hkf => ?hmainf)
                    case hkf =>
                      rintro _ wg ⟨bb, rfl, rfl, hb1, hb2⟩
                      refine run_cut (fun e' w' => e' = [(0, I ((g.L + 2 : Nat) : Int)), (2, .slice (some ⟨db, dof, none⟩) ds.length lc), (7, ptr p 0), (9, ptr q 0), (12, .slice (some ⟨b, 0, none⟩) 24 cap), (13, I (i : Int)), (14, .slice va t.length vc), (15, .slice (some ⟨b2, 0, none⟩) 24 cap2), (17, I got)] ∧ ∃ D J F, WG w w' g p q F D J [(b2, cap2, nowOf was t), (b, cap, was)] ∧ D.Small (1140 + 8000 * i) ∧ ((got = 0 ∧ LiveJ g D J (nowOf was t) (5 + 20 * i) ∧ D.due = 0) ∨ ((got = 0 ∨ got = 8 ∧ J.dead = true) ∧ ∃ f was', Fell D g f ∧ Dsk g f (5 + 20 * i) was' ∧ (was' = nowOf was t ∨ (was' = was ∧ got = 8))))) ?hkg (fun hkg => ?hmaing)
                      case hkg =>
                        rintro _ wh ⟨rfl, Dh, Jh, Fh, hWh, hsh, hgh⟩
                        refine run_seq ?_; refine run_seq ?_; refine run_reg rfl ?_; refine rVal rfl rfl (ymv rfl) ?_; refine rCall rfl rfl (yc (args := [.tmp 164]) cf16 rfl) (downA_ret hWh.dev) ?_
                        rintro _ wh ⟨rfl, rfl⟩
                        refine rEnd ?_; refine run_cut (fun e' w' => ∃ q2, e' = [(0, I ((g.L + 2 : Nat) : Int)), (2, .slice (some ⟨db, dof, none⟩) ds.length lc), (7, ptr p 0), (9, ptr q2 0), (12, .slice (some ⟨b, 0, none⟩) 24 cap), (13, I (i : Int)), (15, .slice (some ⟨b2, 0, none⟩) 24 cap2), (17, I got)] ∧ ∃ D J F, WG w w' g p q2 F D J [(b2, cap2, nowOf was t), (b, cap, was)] ∧ D.Small (8500 + 8000 * i) ∧ ∃ was', LiveJ g D J was' (12 + 20 * i) ∧ D.due = 0 ∧ (was' = nowOf was t ∨ (was' = was ∧ got = 8))) ?hki (fun hki => ?hmaini)
                        case hki =>
                          rintro _ wj ⟨q2, rfl, Dj, Jj, Fj, hWj, hsj, was', hLj, hdj, hwj⟩
                          refine run_seq ?_; refine run_reg rfl ?_; refine rVal rfl rfl (ymv rfl) ?_; refine rVal rfl rfl (ymv rfl) ?_; refine rCall rfl rfl (yc (args := [.tmp 189, .tmp 190]) cf13 rfl) (model_ret hWj.dev (by rw [hLj.geo.1, hgB]) hgs (by omega) hsj (by omega)) ?_
                          rintro _ wk ⟨b3, cap3, rfl, hSk, hxk, hbk⟩
                          rw [mdl_live hLj hgs hgB] at hSk
                          have hWk := hWj.then hxk
                          have hSa := (hWk.sl _ (List.mem_cons_self ..)).2.2.2
                          have hSb := (hWk.sl _ (List.mem_cons_of_mem _ (List.mem_cons_self ..))).2.2.2
                          dsimp only at hSa hSb
                          refine rVal rfl rfl (yas rfl) ?_; refine rEnd ?_; refine run_block ?_; refine run_seq ?_; refine run_reg rfl ?_; refine rVal rfl rfl (ymv rfl) ?_; refine rVal rfl rfl (ymv rfl) ?_; refine rCall rfl rfl (yc (args := [.tmp 193, .tmp 194]) cf18 rfl) (same_ret _ _ (mdl g was') (mdl g (nowOf was t)) _ (by rw [mdl_length]; exact hSk.rd) (by rw [mdl_length]; exact hSa.rd) (by rw [mdl_length]; omega) (by rw [mdl_length]; omega)) ?_
                          rintro _ wl ⟨rfl, hxl⟩
                          have hWl := hWk.then hxl
                          by_cases heq : mdl g was' = mdl g (nowOf was t)
                          · rw [decide_eq_true heq]
                            refine rVal rfl rfl (yas rfl) ?_; refine rEnd ?_; refine run_true rfl ?_; refine run_reg rfl ?_; refine rVal rfl rfl (ymv rfl) ?_; refine rVal rfl rfl (yas rfl) ?_; refine rEnd ?_; refine run_inBlock ?_; refine run_inBlock ?_; refine run_reg rfl ?_; refine rVal rfl rfl (ymv rfl) ?_; refine rVal rfl rfl (yad rfl rfl (by omega)) ?_; refine rVal rfl rfl (yas rfl) ?_; refine rEnd ?_
                            exact (ih (i + 1, Dj, Jj, Fj, q2, b2, cap2, nowOf was t) wl ⟨by dsimp only; omega, by dsimp only; omega, hWl.sub (fun y hy => by cases List.mem_singleton.1 hy; exact List.mem_cons_self ..), (hLj.was ((mdl_ext hgs hgB).1 heq)).mono (by omega), hdj, hsj.mono (by omega)⟩ (by dsimp only; omega)).sub (by repeat (first | exact Sub.nil | refine Sub.cons rfl ?_))
                          · rw [decide_eq_false heq]
                            obtain ⟨rfl, rfl⟩ : was' = was ∧ got = 8 := by
                              rcases hwj with h | h
                              · exact absurd (by rw [h]) heq
                              · exact h
                            refine rVal rfl rfl (yas rfl) ?_; refine rEnd ?_; refine run_false rfl ?_; refine run_seq ?_; refine run_reg rfl ?_; refine rVal rfl rfl (ymv rfl) ?_; refine rVal rfl rfl (yeq rfl rfl) ?_; refine rFalse (by (first | exact fun h => h rfl | assumption | omega)) ?_; refine rVal rfl rfl (ymv rfl) ?_; refine rVal rfl rfl (ymv rfl) ?_; refine rVal rfl rfl (ymv rfl) ?_
                            refine rCall rfl rfl (yc (args := [.tmp 201, .tmp 202]) cf18 rfl) (same_ret _ _ (mdl g was') (mdl g was') _ (by rw [mdl_length]; exact (hSk.ext hxl).rd) (by rw [mdl_length]; exact (hSb.ext hxl).rd) (by rw [mdl_length]; omega) (by rw [mdl_length]; omega)) ?_
                            rintro _ wm ⟨rfl, hxm⟩
                            rw [show decide (mdl g was' = mdl g was') = true from decide_eq_true rfl]
                            refine rVal rfl rfl ((by first | exact yntd rfl | exact ynt rfl)) ?_; refine rVal rfl rfl (ypF rfl rfl) ?_; refine rVal rfl rfl (yas rfl) ?_; refine rEnd ?_; refine run_false rfl ?_; refine run_skip ?_; refine run_inBlock ?_; refine run_inBlock ?_; refine run_reg rfl ?_; refine rVal rfl rfl (ymv rfl) ?_; refine rVal rfl rfl (yad rfl rfl (by omega)) ?_; refine rVal rfl rfl (yas rfl) ?_; refine rEnd ?_
                            exact (ih (i + 1, Dj, Jj, Fj, q2, b, cap, was') wm ⟨by dsimp only; omega, by dsimp only; omega, (hWl.then hxm).sub (fun y hy => by cases List.mem_singleton.1 hy; exact List.mem_cons_of_mem _ (List.mem_cons_self ..)), hLj.mono (by omega), hdj, hsj.mono (by omega)⟩ (by dsimp only; omega)).sub (by repeat (first | exact Sub.nil | refine Sub.cons rfl ?_))
                        case hmaini =>
                          rcases hgh with ⟨h0, hLh, hdh⟩ | ⟨hgd2, fh, was', hFeh, hRh, hwh⟩
                          · rw [hLh.geo.2.2]
                            refine run_false rfl ?_; refine run_skip ?_
                            exact (hki _ _ ⟨q, rfl, Dh, Jh, Fh, hWh, hsh.mono (by omega), _, hLh.mono (by omega), hdh, .inl rfl⟩).sub (by repeat (first | exact Sub.nil | refine Sub.cons rfl ?_))
                          · rw [hFeh.down]
                            refine run_true rfl ?_; refine run_seq ?_; refine run_seq ?_; refine run_cut (fun e' w' => e' = [(0, I ((g.L + 2 : Nat) : Int)), (2, .slice (some ⟨db, dof, none⟩) ds.length lc), (7, ptr p 0), (9, ptr q 0), (12, .slice (some ⟨b, 0, none⟩) 24 cap), (13, I (i : Int)), (14, .slice va t.length vc), (15, .slice (some ⟨b2, 0, none⟩) 24 cap2), (17, I got), (173, .bool false)] ∧ Ext wh w') ?hkj (fun hkj => ?hmainj)
                            case hkj =>
                              rintro _ wj ⟨rfl, hxj⟩
                              have hWj := hWh.then hxj
                              have h0j : Ext wj wj.drew := Ext.drew0 wj
                              have hdbF : ¬ Fh db := fun h => by have := (hWj.fp db h).1; omega
                              refine run_false rfl ?_; refine run_skip ?_; refine run_seq ?_; refine run_draw (fun w' => Kp Fh wj w') (by kernel_rfl) rfl ?_; refine hTake (i := 0) rfl (by kernel_rfl) rfl rfl (fun _ hS => ymv rfl) ((Ext.drew0 wj).kp) ?_; refine hTake (i := 1) rfl (by kernel_rfl) rfl rfl (fun _ hS => ymv rfl) ((Ext.drew0 wj).kp) ?_; refine hTake (i := 2) rfl (by kernel_rfl) rfl rfl (fun _ hS => ymv rfl) ((Ext.drew0 wj).kp) ?_; refine hTake (i := 3) rfl (by kernel_rfl) rfl rfl (fun _ hS => ymv rfl) ((Ext.drew0 wj).kp) ?_
                              refine hTake (i := 4) rfl (by kernel_rfl) rfl rfl (fun _ hS => yis Try.underlying49 ti51 rfl rfl (by omega)) ((Ext.drew0 wj).kp) ?_; refine hTake (i := 5) rfl (by kernel_rfl) rfl rfl (fun _ hS => yfa fl51_3 rfl) ((Ext.drew0 wj).kp) ?_; refine hTake (i := 7) rfl (by kernel_rfl) rfl rfl (fun _ hS => ymv rfl) ((Ext.drew0 wj).kp) ?_; refine hTake (i := 8) rfl (by kernel_rfl) rfl rfl (fun _ hS => ymv rfl) ((Ext.drew0 wj).kp) ?_; refine hTake (i := 9) rfl (by kernel_rfl) rfl rfl (fun _ hS => yis Try.underlying49 ti51 rfl rfl (by omega)) ((Ext.drew0 wj).kp) ?_
                              refine hTake (i := 10) rfl (by kernel_rfl) rfl rfl (fun _ hS => yfa fl51_4 rfl) ((Ext.drew0 wj).kp) ?_; refine hTake (i := 6) rfl (by kernel_rfl) rfl rfl (fun _ hS => yldA Try.underlying25 rfl ti25 rfl (news := [kv, I d.tn, u8v d.mask]) (fun j u hj => hS.cell (hWj.ext.cell (hc3 j u hj)) hdbF) rfl) ((Ext.drew0 wj).kp) ?_; refine hTake (i := 11) rfl (by kernel_rfl) rfl rfl (fun _ hS => yldc Try.underlying23 rfl rfl (hS.cell (hWj.ext.cell hc6) hdbF)) ((Ext.drew0 wj).kp) ?_; refine hOne (i := 12) (by kernel_rfl) ?_
                              refine nCall (i := 12) rfl rfl rfl (yc (args := [.tmp 174, .tmp 175, .tmp 180, .tmp 185]) cf22 rfl) (opened_ret kv av d.keep d.again d.tn d.mask hkl (hIn.keep.ext (hWj.ext.trans h0j)) (hIn.again.ext (hWj.ext.trans h0j)) hIn.againL (fun h0 i hi h => by have := hkvn h0 i hi; have := (hWj.fp i h).1; omega) (fun h0 i hi h => by have := havn h0 i hi; have := (hWj.fp i h).1; omega) hg hgs (by omega) (hWj.dev.ext h0j) hFeh hRh (by omega) hsh (by omega)) ?_
                              rintro _ wk ⟨q2, rfl, hq2, Dk, Jk, Fk, hJk, hAk, hkk, hFk, hFrk, hdk, hsk⟩
                              refine ⟨h0j.kp.trans hkk, ?_⟩
                              have hWk := (hWj.then h0j).again hkk hJk hAk hFk hq2
                              refine hTake (i := 13) rfl (by kernel_rfl) rfl rfl (fun _ hS => yas rfl) (h0j.kp.trans hkk) ?_; refine hEnd (by kernel_rfl) ?_; refine run_seq ?_; refine run_reg rfl ?_; refine rVal rfl rfl (ymv rfl) ?_; refine rVal rfl rfl (yeqpN Try.underlying34 rfl rfl) ?_; refine rEnd ?_; refine run_false rfl ?_; refine run_skip ?_
                              exact (hki _ _ ⟨q2, rfl, Dk, Jk, Fk, hWk, hsk.mono (by omega), was', hFrk.live.mono (by omega), hdk, hwh⟩).sub (by repeat (first | exact Sub.nil | refine Sub.cons rfl ?_))
                            case hmainj =>
                              rcases hgd2 with rfl | ⟨rfl, hde⟩
                              · skip
                                refine run_reg rfl ?_; refine rVal rfl rfl (ymv rfl) ?_; refine rVal rfl rfl (yeq rfl rfl) ?_; refine rFalse (by (first | exact fun h => h rfl | assumption | omega)) ?_; refine rVal rfl rfl (ymv rfl) ?_; refine rSkip rfl rfl ?_; refine rSkip rfl rfl ?_; refine rSkip rfl rfl ?_; refine rSkip rfl rfl ?_; refine rVal rfl rfl (ypF rfl rfl) ?_; refine rEnd ?_
                                exact (hkj _ _ ⟨rfl, Ext.refl _⟩).sub (by repeat (first | exact Sub.nil | refine Sub.cons rfl ?_))
                              · skip
                                refine run_reg rfl ?_; refine rVal rfl rfl (ymv rfl) ?_; refine rVal rfl rfl (yeq rfl rfl) ?_; refine rTrue (by (first | rfl | assumption | omega | decide)) ?_; refine rVal rfl rfl (ymv rfl) ?_; refine rVal rfl rfl (ymv rfl) ?_; refine rVal rfl rfl (ymv rfl) ?_; refine rCall rfl rfl (yc (args := [.tmp 169, .tmp 170]) cf10 rfl) (commit_dead (.slice va t.length vc) rfl hWh.jn hde) ?_
                                rintro _ wj ⟨rfl, hxj⟩
                                refine rVal rfl rfl (yne rfl rfl) ?_; refine rFalse (by (first | exact fun h => h rfl | assumption | omega)) ?_; refine rVal rfl rfl (ypT rfl rfl) ?_; refine rEnd ?_
                                exact (hkj _ _ ⟨rfl, hxj⟩).sub (by repeat (first | exact Sub.nil | refine Sub.cons rfl ?_))
                      case hmaing =>
                        cases bb with
                        | true =>
                          refine run_true rfl ?_
                          obtain ⟨hg0, hf0⟩ := hb1 rfl
                          rcases hgot with ⟨-, hLg, hdg⟩ | ⟨h8, -⟩
                          case inr => omega
                          refine run_reg rfl ?_; refine rVal rfl rfl (ymv rfl) ?_; refine rVal rfl rfl (ymv rfl) ?_; refine rVal rfl rfl (ymv rfl) ?_; refine rVal rfl rfl (yis Try.underlying49 ti51 rfl rfl (by omega)) ?_; refine rVal rfl rfl (yfa fl51_3 rfl) ?_; refine rVal rfl rfl (yldA Try.underlying25 rfl ti25 rfl (news := [kv, I d.tn, u8v d.mask]) (fun j u hj => hWg.ext.cell (hc3 j u hj)) rfl) ?_; refine rCall rfl rfl (yc (args := [.tmp 161]) cf15 rfl) (crash_ret kv d.keep d.tn d.mask hkl (hIn.keep.ext hWg.ext)) ?_
                          rintro _ wh ⟨sv, rfl, hSv, hxh, hgh⟩
                          have hWh := hWg.then hxh
                          refine rCall rfl rfl (yc (args := [.tmp 156, .tmp 162]) cf21 rfl) (pullA_ret sv d.keep d.tn d.mask hWh.dev hsg (by omega) (by omega) hSv.rd) ?_
                          rintro _ wi2 ⟨rfl, Fi, hAi, hui⟩
                          rw [hLg.geo.2.2] at hAi
                          obtain ⟨fi, hFei, hRi⟩ := hLg.fall hg d.keep d.tn d.mask
                          refine rEnd ?_
                          exact (hkg _ _ ⟨rfl, _, Jg, Fi, hWh.dstep hui.1 hAi hui.2, small_fall hsg _ _ _, .inr ⟨.inl hg0, fi, _, hFei, hRi, .inl rfl⟩⟩).sub (by repeat (first | exact Sub.nil | refine Sub.cons rfl ?_))
                        | false =>
                          refine run_false rfl ?_; refine run_skip ?_; refine (hkg _ _ ⟨rfl, Dg, Jg, Fg, hWg, hsg, ?_⟩).sub (by repeat (first | exact Sub.nil | refine Sub.cons rfl ?_))
                          rcases hgot with ⟨h0, hLg, hdg⟩ | ⟨h8, hde, f, was', hFe, hR, hw⟩
                          · refine .inl ⟨h0, hLg, ?_⟩
                            rcases hb2 rfl with h | h
                            · omega
                            · exact Decidable.byContradiction fun h' => h (hdg h')
                          · exact .inr ⟨.inr ⟨h8, hde⟩, f, was', hFe, hR, hw.symm.imp id fun e => ⟨e, h8⟩⟩
                    case hmainf =>
                      refine run_reg rfl ?_; refine rVal rfl rfl (ymv rfl) ?_; refine rCall rfl rfl (yc (args := [.tmp 145]) cf16 rfl) (downA_ret hWg.dev) ?_
                      rintro _ wg ⟨rfl, rfl⟩
                      rcases hgot with ⟨h0, hLg, hdg⟩ | ⟨h8, hde, f, was', hFe, hR, hw⟩
                      · rw [hLg.geo.2.2]
                        refine rVal rfl rfl ((by first | exact yntd rfl | exact ynt rfl)) ?_; refine rVal rfl rfl (ymv rfl) ?_; refine rVal rfl rfl (ymv rfl) ?_; refine rVal rfl rfl (ymv rfl) ?_; refine rVal rfl rfl (yis Try.underlying49 ti51 rfl rfl (by omega)) ?_; refine rVal rfl rfl (yfa fl51_2 rfl) ?_; refine rVal rfl rfl (yldc Try.underlying3 rfl rfl (hWg.ext.cell hc2)) ?_; refine rVal rfl rfl (ygt rfl rfl) ?_; refine rVal rfl rfl (ypT rfl rfl) ?_; refine rEnd ?_
                        exact (hkf _ _ ⟨decide (d.fall > 0), rfl, rfl, fun h => ⟨h0, of_decide_eq_true h⟩, fun h => .inr (of_decide_eq_false h)⟩).sub (by repeat (first | exact Sub.nil | refine Sub.cons rfl ?_))
                      · rw [hFe.down]
                        refine rVal rfl rfl ((by first | exact yntd rfl | exact ynt rfl)) ?_; refine rVal rfl rfl (ymv rfl) ?_; refine rSkip rfl rfl ?_; refine rSkip rfl rfl ?_; refine rSkip rfl rfl ?_; refine rSkip rfl rfl ?_; refine rSkip rfl rfl ?_; refine rSkip rfl rfl ?_; refine rVal rfl rfl (ypF rfl rfl) ?_; refine rEnd ?_
                        exact (hkf _ _ ⟨false, rfl, rfl, (fun h => by cases h), fun _ => .inl h8⟩).sub (by repeat (first | exact Sub.nil | refine Sub.cons rfl ?_))
                  case hmaine =>
                    have hg2 : got = 0 ∨ got = 8 := by
                      rcases hgot with ⟨h, -⟩ | ⟨h, -⟩
                      · exact .inl h
                      · exact .inr h
                    clear hgot
                    rcases hg2 with rfl | rfl
                    · skip
                      refine run_reg rfl ?_; refine rVal rfl rfl (ymv rfl) ?_; refine rVal rfl rfl (yne rfl rfl) ?_; refine rFalse (by (first | exact fun h => h rfl | assumption | omega)) ?_; refine rVal rfl rfl (ymv rfl) ?_; refine rSkip rfl rfl ?_; refine rSkip rfl rfl ?_; refine rVal rfl rfl (ypF rfl rfl) ?_; refine rEnd ?_
                      exact (hke _ _ ⟨rfl, rfl⟩).sub (by repeat (first | exact Sub.nil | refine Sub.cons rfl ?_))
                    · skip
                      refine run_reg rfl ?_; refine rVal rfl rfl (ymv rfl) ?_; refine rVal rfl rfl (yne rfl rfl) ?_; refine rTrue (by (first | rfl | assumption | omega | decide)) ?_; refine rVal rfl rfl (ymv rfl) ?_; refine rVal rfl rfl (ymv rfl) ?_; refine rVal rfl rfl (yne rfl rfl) ?_; refine rFalse (by (first | exact fun h => h rfl | assumption | omega)) ?_; refine rVal rfl rfl (ypT rfl rfl) ?_; refine rEnd ?_
                      exact (hke _ _ ⟨rfl, rfl⟩).sub (by repeat (first | exact Sub.nil | refine Sub.cons rfl ?_))
                case hmaind =>
                  refine run_reg rfl ?_; refine rVal rfl rfl (ymv rfl) ?_; refine rVal rfl rfl (ymv rfl) ?_; refine rCall rfl rfl (yc (args := [.tmp 136, .tmp 137]) cf10 rfl) (commit_ret t _ hg (by omega) hWf.jn hWf.dev hWf.nq hLf (by omega) hsf (by omega) hTx hSf.rd (fun i hi => ⟨hSf.lt hi, hof i hi, by have := hwvl i hi; omega⟩)) ?_
                  rintro _ wg hres
                  rcases hres with ⟨rfl, Dg, Jg, hJg, ⟨Fg, hAg, hkg', hFg⟩, hLg, hsg, hdg, -, -⟩ | ⟨rfl, Dg, Jg, fg, hJg, hde, ⟨Fg, hAg, hkg', hFg⟩, hFe, hR, hsg, hdg⟩
                  · skip
                    refine rVal rfl rfl (yas rfl) ?_; refine rEnd ?_
                    exact (hkd _ _ ⟨0, rfl, Dg, Jg, Fg, hWf.step hkg' hJg hAg hFg, hsg.mono (by omega), .inl ⟨rfl, hLg.mono (by omega), fun h => hdf (fun h' => h (hdg h'))⟩⟩).sub (by repeat (first | exact Sub.nil | refine Sub.cons rfl ?_))
                  · skip
                    refine rVal rfl rfl (yas rfl) ?_; refine rEnd ?_; refine (hkd _ _ ⟨8, rfl, Dg, Jg, Fg, hWf.step hkg' hJg hAg hFg, hsg.mono (by omega), .inr ⟨rfl, hde, fg, ?_⟩⟩).sub (by repeat (first | exact Sub.nil | refine Sub.cons rfl ?_))
                    rcases hR with hR | hR
                    · exact ⟨was, hFe, hR.mono (by omega), .inl rfl⟩
                    · exact ⟨nowOf was t, hFe, hR.mono (by omega), .inr rfl⟩
              case hmainc =>
                refine run_if rfl (fun hf => ?_) (fun hf => ?_)
                · skip
                  have h0e : Ext we we.drew := Ext.drew0 we
                  have hdbF : ¬ Fa db := fun h => by have := (hWa.fp db h).1; omega
                  refine run_draw (fun w' => Kp Fa we w') (by kernel_rfl) rfl ?_; refine hTake (i := 0) rfl (by kernel_rfl) rfl rfl (fun _ hS => ymv rfl) ((Ext.drew0 we).kp) ?_; refine hTake (i := 1) rfl (by kernel_rfl) rfl rfl (fun _ hS => ymv rfl) ((Ext.drew0 we).kp) ?_; refine hTake (i := 2) rfl (by kernel_rfl) rfl rfl (fun _ hS => ymv rfl) ((Ext.drew0 we).kp) ?_; refine hTake (i := 3) rfl (by kernel_rfl) rfl rfl (fun _ hS => yis Try.underlying49 ti51 rfl rfl (by omega)) ((Ext.drew0 we).kp) ?_
                  refine hTake (i := 4) rfl (by kernel_rfl) rfl rfl (fun _ hS => yfa fl51_2 rfl) ((Ext.drew0 we).kp) ?_; refine hTake (i := 9) rfl (by kernel_rfl) rfl rfl (fun _ hS => ymv rfl) ((Ext.drew0 we).kp) ?_; refine hTake (i := 10) rfl (by kernel_rfl) rfl rfl (fun _ hS => ymv rfl) ((Ext.drew0 we).kp) ?_; refine hTake (i := 11) rfl (by kernel_rfl) rfl rfl (fun _ hS => yis Try.underlying49 ti51 rfl rfl (by omega)) ((Ext.drew0 we).kp) ?_; refine hTake (i := 12) rfl (by kernel_rfl) rfl rfl (fun _ hS => yfa fl51_3 rfl) ((Ext.drew0 we).kp) ?_
                  refine hTake (i := 5) rfl (by kernel_rfl) rfl rfl (fun _ hS => yldc Try.underlying3 rfl rfl (hS.cell (hWe.ext.cell hc2) hdbF)) ((Ext.drew0 we).kp) ?_; refine hTake (i := 6) rfl (by kernel_rfl) rfl rfl (fun _ hS => ysb rfl rfl (by omega)) ((Ext.drew0 we).kp) ?_; refine hTake (i := 7) rfl (by kernel_rfl) rfl rfl (fun _ hS => yre rfl rfl (by omega)) ((Ext.drew0 we).kp) ?_; refine hTake (i := 8) rfl (by kernel_rfl) rfl rfl (fun _ hS => yad rfl rfl (by omega)) ((Ext.drew0 we).kp) ?_
                  refine hTake (i := 13) rfl (by kernel_rfl) rfl rfl (fun _ hS => yldA Try.underlying25 rfl ti25 rfl (news := [kv, I d.tn, u8v d.mask]) (fun j u hj => hS.cell (hWe.ext.cell (hc3 j u hj)) hdbF) rfl) ((Ext.drew0 we).kp) ?_; refine hOne (i := 14) (by kernel_rfl) ?_; refine nCall (i := 14) rfl rfl rfl (yc (args := [.tmp 133]) cf15 rfl) (crash_ret kv d.keep d.tn d.mask hkl (hIn.keep.ext (hWe.ext.trans h0e))) ?_
                  rintro _ wf ⟨sv, rfl, hSv, hxf, hgf⟩
                  refine ⟨(h0e.trans hxf).kp, ?_⟩
                  have hxef := h0e.trans hxf
                  refine hOne (i := 15) (by kernel_rfl) ?_; refine nCall (i := 15) rfl rfl rfl (yc (args := [.tmp 120, .tmp 128, .tmp 134]) cf14 rfl) (planA_ret (1 + (d.fall - 1) % 40) sv d.keep d.tn d.mask (hWe.dev.ext hxef) (by omega) hSv.rd (hSv.shape.imp And.left fun ⟨g', cap', e, _⟩ => ⟨_, cap', e⟩) (by omega)) ?_
                  rintro _ wg ⟨rfl, Fg, hAg, hug⟩
                  refine ⟨hxef.kp.trans hug.1, ?_⟩
                  obtain ⟨hpe, hLg⟩ := hLa.plan (z := 1 + (d.fall - 1) % 40) (by omega) d.keep d.tn d.mask
                  rw [hpe] at hAg
                  have hzf := hxef.size
                  refine hEnd (by kernel_rfl) ?_
                  exact (hkc _ _ ⟨rfl, _, Fg, (hWe.then hxef).dstep hug.1 hAg hug.2, hLg, fun _ => by omega, small_plan hsa _ _ _ _ (by omega), (hSe.ext hxef).kp hug.1 (fun i hi h => by have := hFal _ h; have := hwvl i hi; omega), fun i hi h => (hug.2 i h).elim (fun h => by have := hFal _ h; have := hwvl i hi; omega) (fun h => by have := hSe.lt hi; omega)⟩).sub (by repeat (first | exact Sub.nil | refine Sub.cons rfl ?_))
                · skip
                  refine run_skip ?_
                  exact (hkc _ _ ⟨rfl, Da, Fa, hWe, hLa, fun h => absurd hda h, hsa, hSe, fun i hi h => by have := hFal _ h; have := hwvl i hi; omega⟩).sub (by repeat (first | exact Sub.nil | refine Sub.cons rfl ?_))
            case hmainb =>
              refine run_loop (α := Nat) (0) (fun m => [(0, I ((g.L + 2 : Nat) : Int)), (2, .slice (some ⟨db, dof, none⟩) ds.length lc), (7, ptr p 0), (9, ptr q 0), (12, .slice (some ⟨b, 0, none⟩) 24 cap), (13, I (i : Int)), (14, .slice va t.length vc), (15, .slice (some ⟨b2, 0, none⟩) 24 cap2), (16, I (m : Int))]) (fun m w' => m ≤ t.length ∧ WG w w' g p q Fa Da Ja [(b2, cap2, nowOf was (t.take m)), (b, cap, was)] ∧ Sl w' (.slice va t.length vc) 54 2 t.length (wrs t)) (fun m => t.length - m) (by repeat (first | exact Sub.nil | refine Sub.cons rfl ?_)) ?hI ?hround
              case hI => exact ⟨Nat.zero_le _, by rw [List.take_zero, nowOf_nil]; exact hWd2, hSt.ext hxd⟩
              case hround =>
                rintro m we ⟨hm, hWe, hSe⟩ ih2
                try dsimp only
                refine run_seq ?_; refine run_seq ?_; refine run_reg rfl ?_; refine rVal rfl rfl (ymv rfl) ?_; refine rVal rfl rfl (ymv rfl) ?_; refine rVal rfl rfl (yln Try.underlying38 rfl) ?_; refine rVal rfl rfl (ylt rfl rfl) ?_; refine rEnd ?_; refine run_if rfl (fun hlt => ?_) (fun hlt => ?_)
                · skip
                  have hml : m < t.length := by omega
                  have hbne : ∀ i, (Value.slice va t.length vc).ownBlock = some i → ¬ i = b2 := fun i hi e => by have := hwvl i hi; omega
                  obtain ⟨b5, o5, c5, ⟨y1, y2⟩, hv5, hyg⟩ := rd_get hSe.rd hml
                  cases hv5
                  have hyo := (hTx.out _ (List.mem_of_getElem? hyg)).1
                  dsimp only at hyo
                  have hyo' := hyo
                  unfold Geo.out at hyo'
                  obtain ⟨n, rfl⟩ : ∃ n : Nat, y1 = (n : Int) := ⟨y1.toNat, by omega⟩
                  have htk : t.take (m + 1) = t.take m ++ [((n : Int), y2)] := by
                    have e : t[m] = ((n : Int), y2) := by rw [List.getElem?_eq_getElem hml] at hyg; exact Option.some.inj hyg
                    rw [List.take_succ_eq_append_getElem hml, e]
                  have h0e : Ext we we.drew := Ext.drew0 we
                  have hSd := (hWe.sl _ (List.mem_cons_self ..)).2.2.2
                  dsimp only at hSd
                  refine run_skip ?_; refine run_seq ?_; refine run_block ?_; refine run_draw (fun w' => Kp (fun k => k = b2) we w') (by kernel_rfl) rfl ?_; refine hTake (i := 0) rfl (by kernel_rfl) rfl rfl (fun _ hS => ymv rfl) ((Ext.drew0 we).kp) ?_; refine hTake (i := 1) rfl (by kernel_rfl) rfl rfl (fun _ hS => ymv rfl) ((Ext.drew0 we).kp) ?_; refine hTake (i := 2) rfl (by kernel_rfl) rfl rfl (fun _ hS => ymv rfl) ((Ext.drew0 we).kp) ?_; refine hTake (i := 3) rfl (by kernel_rfl) rfl rfl (fun _ hS => yis Try.underlying38 ti54 rfl rfl (by omega)) ((Ext.drew0 we).kp) ?_
                  refine hTake (i := 4) rfl (by kernel_rfl) rfl rfl (fun _ hS => yfa fl54_0 rfl) ((Ext.drew0 we).kp) ?_; refine hTake (i := 6) rfl (by kernel_rfl) rfl rfl (fun _ hS => ymv rfl) ((Ext.drew0 we).kp) ?_; refine hTake (i := 7) rfl (by kernel_rfl) rfl rfl (fun _ hS => ymv rfl) ((Ext.drew0 we).kp) ?_; refine hTake (i := 8) rfl (by kernel_rfl) rfl rfl (fun _ hS => yis Try.underlying38 ti54 rfl rfl (by omega)) ((Ext.drew0 we).kp) ?_; refine hTake (i := 9) rfl (by kernel_rfl) rfl rfl (fun _ hS => yfa fl54_1 rfl) ((Ext.drew0 we).kp) ?_
                  refine hTake (i := 5) rfl (by kernel_rfl) rfl rfl (fun _ hS => yldc Try.underlying3 rfl rfl (rd_at (hSe.kp hS hbne).rd hml hyg).1) ((Ext.drew0 we).kp) ?_; refine hTake (i := 10) rfl (by kernel_rfl) rfl rfl (fun _ hS => yldc Try.underlying9 rfl rfl (rd_at (hSe.kp hS hbne).rd hml hyg).2) ((Ext.drew0 we).kp) ?_; refine hTake (i := 11) rfl (by kernel_rfl) rfl rfl (fun _ hS => yis Try.underlying42 ti9 rfl rfl (by omega)) ((Ext.drew0 we).kp) ?_; refine hOne (i := 12) (by kernel_rfl) ?_; refine nEffP (i := 12) rfl rfl (zstSl ti9 rfl rfl rfl (hSd.ext h0e) (by simp; omega)) ?_
                  rintro wf ⟨hSf, hkf⟩
                  refine ⟨(Ext.drew0 we).kp.trans hkf, ?_⟩
                  have hset : ((mdl g (nowOf was (t.take m))).map S).set n (S y2) = (mdl g (nowOf was (t.take (m + 1)))).map S := by
                    rw [htk, nowOf_app, ← mdl_set hyo, List.map_set]
                  rw [show 0 + n * 1 = n by omega, hset] at hSf
                  refine hEnd (by kernel_rfl) ?_; refine run_inBlock ?_; refine run_reg rfl ?_; refine rVal rfl rfl (ymv rfl) ?_; refine rVal rfl rfl (yad rfl rfl (by omega)) ?_; refine rVal rfl rfl (yas rfl) ?_; refine rEnd ?_
                  exact (ih2 (m + 1) wf ⟨by omega, ((hWe.then h0e).sub (ys := [(b, cap, was)]) (fun y hy => List.mem_cons_of_mem _ hy)).put hkf (by omega) hb2q hb2F (fun x hx => by cases List.mem_singleton.1 hx; show b ≠ b2; omega) hSf, (hSe.ext h0e).kp hkf hbne⟩ (by omega)).sub (by repeat (first | exact Sub.nil | refine Sub.cons rfl ?_))
                · skip
                  have hmt : m = t.length := by omega
                  subst hmt
                  rw [List.take_length] at hWe
                  refine run_exit rfl ?_
                  exact (hkb _ _ ⟨rfl, hWe, hSe⟩).sub (by repeat (first | exact Sub.nil | refine Sub.cons rfl ?_))
          case hmaina =>
            refine run_reg rfl ?_; refine rVal rfl rfl (ymv rfl) ?_; refine rVal rfl rfl (ymv rfl) ?_; refine rVal rfl rfl (yis Try.underlying49 ti51 rfl rfl (by omega)) ?_; refine rVal rfl rfl (yfa fl51_1 rfl) ?_; refine rVal rfl rfl (yldc Try.underlying4 rfl rfl (hWi.ext.cell hc1)) ?_
            cases hch : d.check with
            | true =>
              refine rVal rfl rfl (ymv rfl) ?_; refine rVal rfl rfl (ymv rfl) ?_; refine rCall rfl rfl (yc (args := [.tmp 80]) cf19 rfl) (checkpoint_ret hg (by omega) hWi.jn hWi.dev hWi.nq hLi (by omega) hsi (by omega)) ?_
              rintro _ wa hres
              rcases hres with ⟨rfl, Da, Ja, hJa, ⟨Fa, hAa, hka', hFa⟩, hLa, hsa, hda, -, -⟩ | ⟨rfl, Da, Ja, fa, -, -, -, -, -, -, hda⟩
              case inr => exact absurd hdi hda
              refine rVal rfl rfl (yne rfl rfl) ?_; refine rVal rfl rfl (ypT rfl rfl) ?_; refine rEnd ?_
              exact (hka _ _ ⟨rfl, Da, Ja, Fa, hWi.step hka' hJa hAa hFa, hLa.mono (by omega), hda hdi, hsa.mono (by omega)⟩).sub (by repeat (first | exact Sub.nil | refine Sub.cons rfl ?_))
            | false =>
              refine rVal rfl rfl (ymv rfl) ?_; refine rSkip rfl rfl ?_; refine rSkip rfl rfl ?_; refine rSkip rfl rfl ?_; refine rVal rfl rfl (ypF rfl rfl) ?_; refine rEnd ?_
              exact (hka _ _ ⟨rfl, D, J, F, hWi, hLi.mono (by omega), hdi, hsi.mono (by omega)⟩).sub (by repeat (first | exact Sub.nil | refine Sub.cons rfl ?_))
        · skip
          refine rVal rfl rfl (ypT rfl rfl) ?_; refine rEnd ?_; refine run_false rfl ?_; refine run_exit rfl ?_
          exact hfin.sub (by repeat (first | exact Sub.nil | refine Sub.cons rfl ?_))
      · skip
        refine rVal rfl rfl (ymv rfl) ?_; refine rSkip rfl rfl ?_; refine rSkip rfl rfl ?_; refine rVal rfl rfl (ypF rfl rfl) ?_; refine rEnd ?_; refine run_false rfl ?_; refine run_exit rfl ?_
        exact hfin.sub (by repeat (first | exact Sub.nil | refine Sub.cons rfl ?_))
end Go.Proofs.Ytkhkebcflaokpaa
namespace Go.Proofs.Ytkhkebcflaokpaa
open Go Go.ChangeShapes Go.WideShapes Go.ChangeAt Go.RowKit
set_option linter.all false

def readables (P : Program) (ts : List TypeId) : Bool := ts.all fun t => P.readableRec t && decide (t < P.types.size)

theorem trodAll_below {H : Type} {enc : TypeId × Value → H} {P : Program} (hl : laidOutB P = true) {W W' : World} (hb : Below W.heap.size W W') :
    ∀ {ts : List TypeId} {vs : List Value} {ds : List (DataW H)} {ps : List MemPlace}, readables P ts = true → DataW.TrodAll enc P W 0 (fun _ => true) true ts vs ds ps →
      DataW.TrodAll enc P W' 0 (fun b => decide (b < W.heap.size)) true ts vs ds ps
  | [], [], [], _, _, h => h
  | t :: ts, v :: vs, d :: ds, _, hr, h => by
    obtain ⟨p, q, h1, h2, rfl⟩ := h
    simp only [readables, List.all_cons, Bool.and_eq_true, decide_eq_true_eq] at hr
    exact ⟨p, q, Below.trod hl hr.1.1 hr.1.2 h1 hb (by obtain ⟨m, hm⟩ := h1; exact DataW.trod_lt m _ _ _ hm), trodAll_below hl hb hr.2 h2, rfl⟩
  | [], [], _ :: _, _, _, h => h.elim
  | [], _ :: _, _, _, _, h => h.elim
  | _ :: _, [], _, _, _, h => h.elim
  | _ :: _, _ :: _, [], _, _, h => h.elim

theorem trodAll_len {H : Type} {enc : TypeId × Value → H} {P : Program} {W : World} {base : Nat} {spare : Nat → Bool} {held : Bool} :
    ∀ {ts : List TypeId} {vs : List Value} {ds : List (DataW H)} {ps : List MemPlace}, DataW.TrodAll enc P W base spare held ts vs ds ps → ds.length = ts.length
  | [], [], [], _, _ => rfl
  | t :: ts, v :: vs, d :: ds, _, h => by
    obtain ⟨p, q, h1, h2, rfl⟩ := h
    simpa using trodAll_len h2
  | [], [], _ :: _, _, h => h.elim
  | [], _ :: _, _, _, h => h.elim
  | _ :: _, [], _, _, h => h.elim
  | _ :: _, _ :: _, [], _, h => h.elim

/-- A function that returns true and keeps all that was there meets the contract of its row. -/
theorem law_lifted {H : Type} {enc : TypeId × Value → H} {C : Checked} {os : Os} {f : FuncId} {fn : Func} {s : ChangeSpec} {t : TypeId} {ts : List TypeId}
    (own : ownKnob C.prog.godebug = none) (started : os.Started) (hl : laidOutB C.prog = true) (noInit : C.prog.inits.idxOf? f = none) (hfn : C.prog.funcs[f]? = some fn)
    (hts : fn.params.toList = ts) (hrd : readables C.prog ts = true) (hrt : fn.resultTypes = #[t]) (hb : C.prog.underlying t = some .bool) (hsv : s.vars = [])
    (hspec : ∀ ds : List (DataW H), ds.length = ts.length → s.fn H ds = { results := [.lit (.bool true)], args := ds })
    (witness : ∃ (w : World) (tape : Tape) (i : Input), w.os = os ∧ (w.forCall tape i).Shaped C.prog ∧ i.vars = [] ∧ Input.okWide C.prog (w.forCall tape i) .any w.heap.size f i ∧
      s.pre6 enc C.prog fn [] false (w.forCall tape i).memory i.args ∧ ({} : Assume).holds C.prog (lone (Frame.enter C.prog f i.args .normal) [] (w.forCall tape i)))
    (hret : ∀ (W : World) (base : Nat) (args : List Value) (ds : List (DataW H)) (ps : List MemPlace),
      (∀ (j : Nat) t v, ts[j]? = some t → args[j]? = some v → Value.okWide C.prog W .any base t v) →
      DataW.TrodAll enc C.prog W 0 (fun _ => true) true ts args ds ps → W.noneFrozen ps →
      (DataW.weightsEach C.prog ts ds).all (· ≤ reachBytes) = true →
      Ret C.prog f args W fun v w' => v = .bool true ∧ Ext W w') :
    ReturnsInHanded {} C os f .any (s.pre6 enc C.prog fn [] false) (s.post enc C.prog fn false true false false) := by
  refine returnsInHanded_of_change_sized own started noInit hfn witness ?_
  intro W base args ds gs before hval0 hW _ hsz0 _
  have hW' := hW
  obtain ⟨p, q, hA, hV, rfl, hfz, _⟩ := hW
  rw [hsv] at hV
  obtain ⟨rfl, rfl⟩ := trodVars_none hV
  rw [hts] at hA
  have hlen := trodAll_len hA
  have hsz : (DataW.weightsEach C.prog ts ds).all (· ≤ reachBytes) = true := by
    have hv : s.plain.varTypes C.prog = [] := by simp [ChangeSpec.plain, DataSpec.varTypes, hsv]
    rw [hts, hv, List.append_nil, List.append_nil] at hsz0
    exact hsz0
  have hr := hret W base args.toList ds p (fun j t v h1 h2 => hval0 j t v (by rw [← hts] at h1; simpa using h1) (by simpa using h2)) hA (by rw [List.append_nil] at hfz; exact hfz) hsz
  unfold Ret at hr; rw [Array.toArray_toList] at hr
  refine Calls.mono hr fun x W' ⟨v, hx, hv, hext⟩ => ?_
  subst hx; subst hv
  have bel := hext.below
  refine ⟨_, rfl, ds, [], p ++ [], [], p, [], hW', ?_, ?_, ?_, bel.frame _, fun h => by cases h⟩
  · rw [List.append_nil, hspec ds hlen, hrt]
    exact trodAll_mk1 (shut_bool hb _)
  · rw [List.append_nil, hspec ds hlen, hts]
    exact trodAll_below hl bel hrd hA
  · rw [hsv, List.append_nil, hspec ds hlen]
    rfl
theorem own : ownKnob Try.prog.godebug = none := by kernel_rfl
theorem laidOut : laidOutB Try.prog = true := by kernel_rfl
theorem str_S (s : ByteArray) : Value.string s = S s.data.toList := by
  obtain ⟨⟨l⟩⟩ := s; rfl
end Go.Proofs.Ytkhkebcflaokpaa
namespace Go.Proofs.Ytkhkebcflaokpaa
open Go Go.ChangeShapes Go.WideShapes Go.ChangeAt Go.RowKit Go.Deep
set_option linter.all false
set_option maxRecDepth 100000

/-! ### Rows of equal length -/
theorem row_get {C : Nat → List Value} {k : Nat} : ∀ {n : Nat}, (∀ i, i < n → (C i).length = k) → ∀ i r, i < n → r < k → ((List.range n).flatMap C)[i * k + r]? = (C i)[r]?
  | 0, _, i, r, hi, _ => absurd hi (Nat.not_lt_zero _)
  | n + 1, hl, i, r, hi, hr => by
    have hlen : ((List.range n).flatMap C).length = n * k := by
      have : ∀ m, m ≤ n → ((List.range m).flatMap C).length = m * k := fun m hm => by
        induction m with
        | zero => simp
        | succ m ih => rw [List.range_succ, List.flatMap_append, List.length_append, ih (by omega)]; simp [hl m (by omega)]; rw [Nat.succ_mul]
      exact this n (Nat.le_refl _)
    rw [List.range_succ, List.flatMap_append]
    rcases Nat.lt_or_ge i n with h | h
    · have hlt : i * k + r < n * k := by
        have : (i + 1) * k ≤ n * k := Nat.mul_le_mul_right k h
        rw [Nat.succ_mul] at this; omega
      rw [List.getElem?_append_left (by rw [hlen]; exact hlt)]
      exact row_get (fun j hj => hl j (by omega)) i r h hr
    · have e : i = n := by omega
      subst e
      rw [List.getElem?_append_right (by rw [hlen]; omega), hlen, show i * k + r - i * k = r by omega]
      simp
theorem flat_length {C : Nat → List Value} {k n : Nat} (hl : ∀ i, i < n → (C i).length = k) : ((List.range n).flatMap C).length = n * k := by
  have : ∀ m, m ≤ n → ((List.range m).flatMap C).length = m * k := fun m hm => by
    induction m with
    | zero => simp
    | succ m ih => rw [List.range_succ, List.flatMap_append, List.length_append, ih (by omega)]; simp [hl m (by omega)]; rw [Nat.succ_mul]
  exact this n (Nat.le_refl _)
theorem flat_row {C : Nat → List Value} {k n i : Nat} (hl : ∀ i, i < n → (C i).length = k) (hi : i < n) : (((List.range n).flatMap C).drop (i * k)).take k = C i := by
  apply List.ext_getElem?
  intro r
  rw [List.getElem?_take, List.getElem?_drop]
  by_cases hr : r < k
  · rw [if_pos hr, row_get hl i r hi hr]
  · rw [if_neg hr, List.getElem?_eq_none (by rw [hl i hi]; omega)]

section
variable {H : Type} {enc : TypeId × Value → H} {P : Program} {W : World} {sp : Nat → Bool}

/-- Elements that lie in a row are read as a slice. -/
theorem rd_rows {a : Addr} {len cap size : Nat} {C : Nat → List Value} (hs : 0 < size) (hC : ∀ i, i < len → W.cells? 0 (a.add (i * size)) size = some (C i)) : Rd W (.slice (some a) len cap) size len ((List.range len).flatMap C) ∧ ∀ i, i < len → (C i).length = size := by
  have hl : ∀ i, i < len → (C i).length = size := fun i hi => (World.cells?_some (hC i hi)).2.1
  refine ⟨⟨flat_length hl, ?_⟩, hl⟩
  rcases Nat.eq_zero_or_pos len with h0 | h0
  · subst h0
    exact .inl ⟨(some a, cap), rfl, rfl⟩
  · obtain ⟨b, off, spot⟩ := a
    have hsp : spot = none := by
      obtain ⟨-, h1, h2⟩ := World.cells?_some (hC 0 h0)
      have h3 := h2 0 hs
      rw [Nat.zero_mul] at h3
      simp only [Addr.add, if_true] at h3
      rw [List.getElem?_eq_getElem (by omega)] at h3
      unfold World.cell? at h3
      split at h3
      · cases spot with
        | none => rfl
        | some s => simp at h3
      · cases h3
    subst hsp
    refine .inr ⟨b, off, cap, rfl, fun j u hj => ?_⟩
    have hjl : j < len * size := by
      rcases Nat.lt_or_ge j (len * size) with h | h
      · exact h
      · rw [List.getElem?_eq_none (by rw [flat_length hl]; exact h)] at hj; cases hj
    have hi : j / size < len := (Nat.div_lt_iff_lt_mul hs).2 hjl
    have hr : j % size < size := Nat.mod_lt _ hs
    have e : j = (j / size) * size + j % size := by have := Nat.div_add_mod j size; rw [Nat.mul_comm] at this; exact this.symm
    rw [e, row_get hl _ _ hi hr] at hj
    obtain ⟨-, h1, h2⟩ := World.cells?_some (hC _ hi)
    have h3 := h2 _ hr
    rw [hj, add_off, add_off] at h3
    rw [e, ← Nat.add_assoc]; exact h3

/-- A slice of numbers. -/
theorem open_ints {t e : TypeId} {fuel : Nat} {v : Value} {x : DataW H × List MemPlace} (ht : P.underlying t = some (.slice e)) (he : P.underlying e = some (.int .i64)) (hc : P.cellsOf e = 1) (hb : P.bytesOf e = 8) (h : DataW.trod enc P W 0 sp true fuel t [v] = some x)
    (hw : ∀ n ∈ x.1.weights P t, n ≤ reachBytes) : ∃ l : List Int, Rd W v 1 l.length (l.map I) ∧ l.length ≤ 17592186044415 := by
  rcases open_slice ht h with ⟨hv, hx⟩ | ⟨a, len, cap, m, n, D, Pl, hv, -, hl, hm, hmm, hx, hel⟩
  · cases hv
    exact ⟨[], ⟨rfl, .inl ⟨(none, 0), rfl, rfl⟩⟩, by simp⟩
  · cases hv
    rw [hc] at hel
    have hlm : len ≤ m := by rw [hmm]; split <;> omega
    obtain ⟨Z, hZ⟩ := choose_lt (α := Int) (n := len) (p := fun i z => W.cells? 0 (a.add (i * 1)) 1 = some [I z]) (fun i hi => by
      obtain ⟨cs', h1, h2⟩ := hel i (by omega)
      obtain ⟨z, hz, -⟩ := DataW.trod_int he h2
      exact ⟨z, by rw [h1, hz]⟩)
    obtain ⟨h1, h2⟩ := rd_rows (size := 1) (cap := cap) (C := fun i => [I (Z i)]) (by omega) hZ
    have hf : (List.range len).flatMap (fun i => [I (Z i)]) = ((List.range len).map Z).map I := by
      rw [List.flatMap_def, List.map_map]
      induction (List.range len) with
      | nil => rfl
      | cons a r ih => simpa using ih
    rw [hf] at h1
    refine ⟨(List.range len).map Z, by simpa using h1, ?_⟩
    have hwt := hw ((len + (m - len)) * 8) (by rw [hx]; simp [DataW.weights, ht, hb])
    simp [reachBytes] at hwt
    simp; omega
end

section
variable {H : Type} {enc : TypeId × Value → H} {W : World} {sp : Nat → Bool}
theorem u8v_mk (n : Int) (h : (Lit.int .u8 n).wf = true) : Value.int .u8 n = u8v (UInt8.ofNat n.toNat) := by
  simp [Lit.wf, IntKind.min, IntKind.max, IntKind.signed, IntKind.bits] at h
  unfold u8v; rw [UInt8.toNat_ofNat_of_lt' (by show n.toNat < 256; omega)]; congr; omega
theorem i64_le (n : Int) (h : (Lit.int .i64 n).wf = true) : n ≤ 9223372036854775807 ∧ -9223372036854775808 ≤ n := by
  simp [Lit.wf, IntKind.min, IntKind.max, IntKind.signed, IntKind.bits] at h; omega

theorem open_crash {fuel : Nat} {cs : List Value} {x : DataW H × List MemPlace} (h : DataW.trod enc Try.prog W 0 sp true fuel 25 cs = some x) (hw : ∀ n ∈ x.1.weights Try.prog 25, n ≤ reachBytes) :
    ∃ (kv : Value) (l : List Int) (tn : Int) (mk : UInt8), cs = [kv, I tn, u8v mk] ∧ Rd W kv 1 l.length (l.map I) ∧ l.length ≤ 17592186044415 := by
  obtain ⟨y0, y1, y2, n, hx, hl, t0, t1, t2⟩ := trod_struct3 Try.underlying25 h
  rw [show Try.prog.cellsOf 25 = 3 by kernel_rfl] at hl
  match cs, hl with
  | [c0, c1, c2], _ =>
    simp only [show Try.prog.cellsOf 23 = 1 by kernel_rfl, show Try.prog.cellsOf 3 = 1 by kernel_rfl, show Try.prog.cellsOf 5 = 1 by kernel_rfl, List.drop, List.take] at t0 t1 t2
    obtain ⟨tn, e1, -, -⟩ := DataW.trod_int Try.underlying3 t1
    obtain ⟨mk, e2, -, wm⟩ := DataW.trod_int Try.underlying5 t2
    cases e1
    cases e2
    obtain ⟨l, hr, hll⟩ := open_ints Try.underlying23 Try.underlying3 (by kernel_rfl) (by kernel_rfl) t0 (fun n hn => hw n (by rw [hx]; simp only [DataW.weights, Try.underlying25, DataW.weightsEach, List.map, List.mem_append]; exact .inl hn))
    exact ⟨c0, l, tn, _, by rw [u8v_mk mk wm], hr, hll⟩

theorem open_put {fuel : Nat} {cs : List Value} {x : DataW H × List MemPlace} (h : DataW.trod enc Try.prog W 0 sp true fuel 95 cs = some x) (hw : ∀ n ∈ x.1.weights Try.prog 95, n ≤ reachBytes) :
    ∃ y : Int × Bytes, cs = wr y ∧ y.2.length ≤ 140737488355328 := by
  obtain ⟨xs, n, -, hx, hl, hlen, hf⟩ := DataW.trod_struct Try.underlying95 h
  rw [show Try.prog.cellsOf 95 = 2 by kernel_rfl] at hl
  match xs, hlen with
  | [y0, y1], _ =>
  match cs, hl with
  | [c0, c1], _ =>
    have t0 := hf 0 _ rfl
    have t1 := hf 1 _ rfl
    simp only [show Try.prog.cellsOf 9 = 1 by kernel_rfl, show Try.prog.cellsOf 3 = 1 by kernel_rfl, List.drop, List.take, List.getElem?_cons_zero, List.getElem?_cons_succ] at t0 t1
    obtain ⟨n0, e0, -, -⟩ := DataW.trod_int Try.underlying3 t0
    obtain ⟨s1, e1, hy1, -⟩ := DataW.trod_string Try.underlying9 t1
    cases e0; cases e1
    refine ⟨(n0, s1.data.toList), by rw [str_S]; rfl, ?_⟩
    have := hw s1.data.toList.length (by
      rw [hx]
      simp only [DataW.weights, Try.underlying95, DataW.weightsEach, List.map, List.mem_append]
      exact .inr (.inl (by rw [hy1]; simp [DataW.weights])))
    simp [reachBytes] at this; show s1.data.toList.length ≤ _; simp; omega

theorem open_puts {fuel : Nat} {v : Value} {x : DataW H × List MemPlace} (h : DataW.trod enc Try.prog W 0 sp true fuel 40 [v] = some x) (hw : ∀ n ∈ x.1.weights Try.prog 40, n ≤ reachBytes) : ∃ l : List (Int × Bytes), PutsM W v l := by
  rcases open_slice Try.underlying40 h with ⟨hv, hx⟩ | ⟨a, len, cap, m, n, D, Pl, hv, -, hl, hm, hmm, hx, hel⟩
  · cases hv
    exact ⟨[], ⟨rfl, .inl ⟨(none, 0), rfl, rfl⟩⟩, by simp, by simp⟩
  · cases hv
    rw [show Try.prog.cellsOf 95 = 2 by kernel_rfl] at hel
    have hlm : len ≤ m := by rw [hmm]; split <;> omega
    obtain ⟨O, hO⟩ := @choose_lt (Int × Bytes) ⟨(0, [])⟩ len (fun i y => W.cells? 0 (a.add (i * 2)) 2 = some (wr y) ∧ y.2.length ≤ 140737488355328) (fun i hi => by
      obtain ⟨cs', h1, h2⟩ := hel i (by omega)
      obtain ⟨y, hcs, hok⟩ := open_put h2 (fun n hn => hw n (by
        rw [hx]
        simp only [DataW.weights, Try.underlying40, List.mem_cons, List.mem_append]
        refine .inr (.inl ?_)
        have hmem : D i ∈ (List.range len).map D := List.mem_map.2 ⟨i, by simpa using hi, rfl⟩
        revert hmem hn
        generalize (List.range len).map D = L
        intro hn hmem
        induction L with
        | nil => cases hmem
        | cons d r ih =>
          simp only [DataW.weightsAll, List.mem_append]
          rcases List.mem_cons.1 hmem with rfl | h
          · exact .inl hn
          · exact .inr (ih h)))
      exact ⟨y, by rw [h1, hcs], hok⟩)
    obtain ⟨h1, h2⟩ := rd_rows (size := 2) (cap := cap) (C := fun i => wr (O i)) (by omega) (fun i hi => (hO i hi).1)
    have hf : (List.range len).flatMap (fun i => wr (O i)) = wrs ((List.range len).map O) := by simp [wrs, List.flatMap_map]
    rw [hf] at h1
    refine ⟨(List.range len).map O, by simpa using h1, ?_, fun y hy => ?_⟩
    · have hwt := hw ((len + (m - len)) * 24) (by rw [hx]; simp [DataW.weights, Try.underlying40, show Try.prog.bytesOf 95 = 24 by kernel_rfl])
      simp [reachBytes] at hwt
      simp; omega
    · obtain ⟨i, hi, rfl⟩ := List.mem_map.1 hy
      exact (hO i (by simpa using hi)).2

theorem weightsAll_mem {P : Program} {t : TypeId} {d : DataW H} {n : Nat} : ∀ {L : List (DataW H)}, d ∈ L → n ∈ DataW.weights P t d → n ∈ DataW.weightsAll P t L
  | [], h, _ => by cases h
  | e :: r, h, hn => by
    simp only [DataW.weightsAll, List.mem_append]
    rcases List.mem_cons.1 h with rfl | h
    · exact .inl hn
    · exact .inr (weightsAll_mem h hn)
end
end Go.Proofs.Ytkhkebcflaokpaa
namespace Go.Proofs.Ytkhkebcflaokpaa
open Go Go.ChangeShapes Go.WideShapes Go.ChangeAt Go.RowKit Go.Deep
set_option linter.all false
set_option maxRecDepth 100000
section
variable {H : Type} {enc : TypeId × Value → H} {W : World} {sp : Nat → Bool}
theorem open_day {fuel : Nat} {cs : List Value} {x : DataW H × List MemPlace} (h : DataW.trod enc Try.prog W 0 sp true fuel 51 cs = some x) (hw : ∀ n ∈ x.1.weights Try.prog 51, n ≤ reachBytes) :
    ∃ (d : PDay) (lv kv av : Value), cs = d.cs lv kv av ∧ d.In W lv kv av := by
  obtain ⟨xs, n, -, hx, hl, hlen, hf⟩ := DataW.trod_struct Try.underlying51 h
  rw [show Try.prog.cellsOf 51 = 7 by kernel_rfl] at hl
  match xs, hlen with
  | [y0, y1, y2, y3, y4], _ =>
  match cs, hl with
  | [c0, c1, c2, c3, c4, c5, c6], _ =>
    have t0 := hf 0 _ rfl
    have t1 := hf 1 _ rfl
    have t2 := hf 2 _ rfl
    have t3 := hf 3 _ rfl
    have t4 := hf 4 _ rfl
    simp only [show Try.prog.cellsOf 40 = 1 by kernel_rfl, show Try.prog.cellsOf 4 = 1 by kernel_rfl, show Try.prog.cellsOf 3 = 1 by kernel_rfl, show Try.prog.cellsOf 23 = 1 by kernel_rfl, show Try.prog.cellsOf 25 = 3 by kernel_rfl, List.drop, List.take, List.getElem?_cons_zero, List.getElem?_cons_succ] at t0 t1 t2 t3 t4
    have hmem : ∀ n, n ∈ DataW.weights Try.prog 40 y0.1 ∨ n ∈ DataW.weights Try.prog 25 y3.1 ∨ n ∈ DataW.weights Try.prog 23 y4.1 → n ≤ reachBytes := fun n hn => hw n (by
      rw [hx]
      simp only [DataW.weights, Try.underlying51, DataW.weightsEach, List.map, List.mem_append]
      rcases hn with hn | hn | hn
      · exact .inl hn
      · exact .inr (.inr (.inr (.inl hn)))
      · exact .inr (.inr (.inr (.inr (.inl hn)))))
    obtain ⟨l, hM⟩ := open_puts t0 (fun n hn => hmem n (.inl hn))
    obtain ⟨bb, e1, -⟩ := DataW.trod_bool Try.underlying4 t1
    obtain ⟨n2, e2, -, w2⟩ := DataW.trod_int Try.underlying3 t2
    obtain ⟨kv, kl, tn, mk, e3, hr, hll⟩ := open_crash t3 (fun n hn => hmem n (.inr (.inl hn)))
    obtain ⟨al, har, hal⟩ := open_ints Try.underlying23 Try.underlying3 (by kernel_rfl) (by kernel_rfl) t4 (fun n hn => hmem n (.inr (.inr hn)))
    cases e1; cases e2; cases e3
    exact ⟨⟨l, bb, n2, kl, tn, mk, al⟩, c0, _, c6, rfl, ⟨hM, hr, hll, har, hal, (i64_le _ w2).1⟩⟩
theorem open_days {fuel : Nat} {v : Value} {x : DataW H × List MemPlace} (h : DataW.trod enc Try.prog W 0 sp true fuel 49 [v] = some x) (hw : ∀ n ∈ x.1.weights Try.prog 49, n ≤ reachBytes) : ∃ ds : List PDay, DaysM W v ds := by
  rcases open_slice Try.underlying49 h with ⟨hv, hx⟩ | ⟨a, len, cap, m, n, D, Pl, hv, -, hl, hm, hmm, hx, hel⟩
  · cases hv
    exact ⟨[], [], fun _ => .nilFunc, fun _ => .nilFunc, fun _ => .nilFunc, ⟨rfl, .inl ⟨(none, 0), rfl, rfl⟩⟩, by simp, fun i d hd => by simp at hd⟩
  · cases hv
    rw [show Try.prog.cellsOf 51 = 7 by kernel_rfl] at hel
    have hlm : len ≤ m := by rw [hmm]; split <;> omega
    obtain ⟨O, hO⟩ := @choose_lt (PDay × Value × Value × Value) ⟨(⟨[], false, 0, [], 0, 0, []⟩, .nilFunc, .nilFunc, .nilFunc)⟩ len (fun i y => W.cells? 0 (a.add (i * 7)) 7 = some (y.1.cs y.2.1 y.2.2.1 y.2.2.2) ∧ y.1.In W y.2.1 y.2.2.1 y.2.2.2) (fun i hi => by
      obtain ⟨cs', h1, h2⟩ := hel i (by omega)
      obtain ⟨d, lv, kv, av, hcs, hok⟩ := open_day h2 (fun n hn => hw n (by
        rw [hx]
        simp only [DataW.weights, Try.underlying49, List.mem_cons, List.mem_append]
        exact .inr (.inl (weightsAll_mem (List.mem_map.2 ⟨i, by simpa using hi, rfl⟩) hn))))
      exact ⟨(d, lv, kv, av), by rw [h1, hcs], hok⟩)
    obtain ⟨h1, h2⟩ := rd_rows (size := 7) (cap := cap) (C := fun i => (O i).1.cs (O i).2.1 (O i).2.2.1 (O i).2.2.2) (by omega) (fun i hi => (hO i hi).1)
    refine ⟨(List.range len).map fun i => (O i).1, _, fun i => (O i).2.1, fun i => (O i).2.2.1, fun i => (O i).2.2.2, by simpa using h1, ?_, fun i d hd => ?_⟩
    · have hwt := hw ((len + (m - len)) * 104) (by rw [hx]; simp [DataW.weights, Try.underlying49, show Try.prog.bytesOf 51 = 104 by kernel_rfl])
      simp [reachBytes] at hwt
      simp; omega
    · have hi : i < len := by
        rcases Nat.lt_or_ge i len with h | h
        · exact h
        · rw [List.getElem?_eq_none (by simpa using h)] at hd; cases hd
      have e : d = (O i).1 := by
        rw [List.getElem?_map, List.getElem?_range hi] at hd
        exact (Option.some.inj hd).symm
      subst e
      exact ⟨flat_row h2 hi, (hO i hi).2⟩
end
end Go.Proofs.Ytkhkebcflaokpaa
