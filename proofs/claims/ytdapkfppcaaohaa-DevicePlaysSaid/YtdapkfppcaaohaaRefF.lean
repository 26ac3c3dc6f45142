/- The document's device (wattleref04): Check, New, Twin, Fill, Same walked. -/
import Derived.Test.YtdapkfppcaaohaaRefE
namespace Go.Proofs.Ytdapkfppcaaohaa
open Go Go.RowKit
set_option linter.all false
set_option maxRecDepth 100000

theorem rcheck_ret (b n : Int) (w : World) : Ret Try.prog 42 [.agg #[I b, I n]] w fun v w' => v = I (if geoOk b n then 0 else 1) ∧ Ext w w' := by
  refine ret_of_run (e := [(0, _)]) Try.func42 rfl Try.ntmps42 rfl rfl ?_
  refine run_seq ?_
  refine run_reg rfl ?_
  refine rValP rfl rfl (pbx rfl rfl) ?_
  rintro _ w1 ⟨b1, rfl, hb1, hx1, hB1⟩
  by_cases hg : geoOk b n
  · obtain ⟨g1, g2, g3, g4⟩ := hg
    refine rVal rfl rfl (yas rfl) ?_
    refine rEnd ?_
    refine run_seq ?_
    refine run_seq ?_
    refine run_reg rfl ?_
    refine rVal rfl rfl (yfa fl74_0 rfl) ?_
    refine rVal rfl rfl (yld Try.underlying3 rfl rfl hB1 rfl) ?_
    refine rVal rfl rfl (ylt rfl rfl) ?_
    refine rFalse (by (first | exact fun h => h rfl | assumption | omega)) ?_
    refine rVal rfl rfl (ymv rfl) ?_
    refine rVal rfl rfl (yfa fl74_0 rfl) ?_
    refine rVal rfl rfl (yld Try.underlying3 rfl rfl hB1 rfl) ?_
    refine rVal rfl rfl (ygt rfl rfl) ?_
    refine rFalse (by (first | exact fun h => h rfl | assumption | omega)) ?_
    refine rVal rfl rfl (ypF rfl rfl) ?_
    refine rVal rfl rfl (ymv rfl) ?_
    refine rVal rfl rfl (yfa fl74_1 rfl) ?_
    refine rVal rfl rfl (yld Try.underlying3 rfl rfl hB1 rfl) ?_
    refine rVal rfl rfl (ylt rfl rfl) ?_
    refine rFalse (by (first | exact fun h => h rfl | assumption | omega)) ?_
    refine rVal rfl rfl (ypF rfl rfl) ?_
    refine rVal rfl rfl (ymv rfl) ?_
    refine rVal rfl rfl (yfa fl74_1 rfl) ?_
    refine rVal rfl rfl (yld Try.underlying3 rfl rfl hB1 rfl) ?_
    refine rVal rfl rfl (ygt rfl rfl) ?_
    refine rFalse (by (first | exact fun h => h rfl | assumption | omega)) ?_
    refine rVal rfl rfl (ypF rfl rfl) ?_
    refine rEnd ?_
    refine run_false rfl ?_
    refine run_skip ?_
    refine run_seq ?_
    refine run_reg rfl ?_
    refine rVal rfl rfl (yas rfl) ?_
    refine rEnd ?_
    refine run_ret Try.func42 rfl ?_
    exact ⟨_, rfl, by rw [if_pos ⟨g1, g2, g3, g4⟩]; rfl, hx1⟩
  · skip
    refine rVal rfl rfl (yas rfl) ?_
    refine rEnd ?_
    refine run_seq ?_
    refine run_seq ?_
    refine run_reg rfl ?_
    refine rVal rfl rfl (yfa fl74_0 rfl) ?_
    refine rVal rfl rfl (yld Try.underlying3 rfl rfl hB1 rfl) ?_
    refine rVal rfl rfl (ylt rfl rfl) ?_
    refine rVal_if (fun h1 => ?_) (fun h1 => ?_)
    · skip
      refine rVal rfl rfl (ymv rfl) ?_
      refine rSkip rfl rfl ?_
      refine rSkip rfl rfl ?_
      refine rSkip rfl rfl ?_
      refine rVal rfl rfl (ypT rfl rfl) ?_
      refine rVal rfl rfl (ymv rfl) ?_
      refine rSkip rfl rfl ?_
      refine rSkip rfl rfl ?_
      refine rSkip rfl rfl ?_
      refine rVal rfl rfl (ypT rfl rfl) ?_
      refine rVal rfl rfl (ymv rfl) ?_
      refine rSkip rfl rfl ?_
      refine rSkip rfl rfl ?_
      refine rSkip rfl rfl ?_
      refine rVal rfl rfl (ypT rfl rfl) ?_
      refine rEnd ?_
      refine run_true rfl ?_
      refine run_seq ?_
      refine run_reg rfl ?_
      refine rVal rfl rfl (yas rfl) ?_
      refine rEnd ?_
      refine run_ret Try.func42 rfl ?_
      exact ⟨_, rfl, by rw [if_neg hg]; rfl, hx1⟩
    · skip
      refine rVal rfl rfl (ymv rfl) ?_
      refine rVal rfl rfl (yfa fl74_0 rfl) ?_
      refine rVal rfl rfl (yld Try.underlying3 rfl rfl hB1 rfl) ?_
      refine rVal rfl rfl (ygt rfl rfl) ?_
      refine rVal_if (fun h2 => ?_) (fun h2 => ?_)
      · skip
        refine rVal rfl rfl (ypF rfl rfl) ?_
        refine rVal rfl rfl (ymv rfl) ?_
        refine rSkip rfl rfl ?_
        refine rSkip rfl rfl ?_
        refine rSkip rfl rfl ?_
        refine rVal rfl rfl (ypT rfl rfl) ?_
        refine rVal rfl rfl (ymv rfl) ?_
        refine rSkip rfl rfl ?_
        refine rSkip rfl rfl ?_
        refine rSkip rfl rfl ?_
        refine rVal rfl rfl (ypT rfl rfl) ?_
        refine rEnd ?_
        refine run_true rfl ?_
        refine run_seq ?_
        refine run_reg rfl ?_
        refine rVal rfl rfl (yas rfl) ?_
        refine rEnd ?_
        refine run_ret Try.func42 rfl ?_
        exact ⟨_, rfl, by rw [if_neg hg]; rfl, hx1⟩
      · skip
        refine rVal rfl rfl (ypF rfl rfl) ?_
        refine rVal rfl rfl (ymv rfl) ?_
        refine rVal rfl rfl (yfa fl74_1 rfl) ?_
        refine rVal rfl rfl (yld Try.underlying3 rfl rfl hB1 rfl) ?_
        refine rVal rfl rfl (ylt rfl rfl) ?_
        refine rVal_if (fun h3 => ?_) (fun h3 => ?_)
        · skip
          refine rVal rfl rfl (ypF rfl rfl) ?_
          refine rVal rfl rfl (ymv rfl) ?_
          refine rSkip rfl rfl ?_
          refine rSkip rfl rfl ?_
          refine rSkip rfl rfl ?_
          refine rVal rfl rfl (ypT rfl rfl) ?_
          refine rEnd ?_
          refine run_true rfl ?_
          refine run_seq ?_
          refine run_reg rfl ?_
          refine rVal rfl rfl (yas rfl) ?_
          refine rEnd ?_
          refine run_ret Try.func42 rfl ?_
          exact ⟨_, rfl, by rw [if_neg hg]; rfl, hx1⟩
        · skip
          have : 8 < n := by unfold geoOk at hg; omega
          refine rVal rfl rfl (ypF rfl rfl) ?_
          refine rVal rfl rfl (ymv rfl) ?_
          refine rVal rfl rfl (yfa fl74_1 rfl) ?_
          refine rVal rfl rfl (yld Try.underlying3 rfl rfl hB1 rfl) ?_
          refine rVal rfl rfl (ygt rfl rfl) ?_
          refine rTrue (by (first | rfl | assumption | omega | decide)) ?_
          refine rVal rfl rfl (ypF rfl rfl) ?_
          refine rEnd ?_
          refine run_true rfl ?_
          refine run_seq ?_
          refine run_reg rfl ?_
          refine rVal rfl rfl (yas rfl) ?_
          refine rEnd ?_
          refine run_ret Try.func42 rfl ?_
          exact ⟨_, rfl, by rw [if_neg hg]; rfl, hx1⟩

/-- The bytes doubled until there are n. -/
def grow : Nat → Bytes → Nat → Bytes
  | 0, s, _ => s
  | f + 1, s, n => if s.length < n then grow f (s ++ s) n else s
def fill (s : Bytes) (n : Nat) : Bytes := (grow (n + 1) (if s = [] then [0] else s) n).take n
theorem grow_length (n : Nat) : ∀ (f : Nat) (s : Bytes), s ≠ [] → n < f + s.length → n ≤ (grow f s n).length
  | 0, s, h0, h => by simp only [grow]; omega
  | f + 1, s, h0, h => by
    have : 0 < s.length := List.length_pos_iff.2 h0
    simp only [grow]
    split
    · exact grow_length n f (s ++ s) (by simp [h0]) (by simp; omega)
    · omega
theorem fill_length (s : Bytes) (n : Nat) : (fill s n).length = n := by
  have := grow_length n (n + 1) (if s = [] then [0] else s) (by split <;> simp_all) (by omega)
  simp [fill]; omega

theorem fill_ret (s : Bytes) (n : Nat) (w : World) (hn : n ≤ 100000) (hs : s.length ≤ 140737488355328) :
    Ret Try.prog 38 [S s, I (n : Int)] w fun v w' => v = S (fill s n) ∧ w' = w := by
  refine ret_of_run (e := [(0, _), (1, _)]) Try.func38 rfl Try.ntmps38 rfl rfl ?_
  refine run_seq ?_
  refine run_reg rfl ?_
  refine rVal rfl rfl (yas rfl) ?_
  refine rEnd ?_
  refine run_seq ?_
  refine run_seq ?_
  refine run_reg rfl ?_
  refine rVal rfl rfl (ymv rfl) ?_
  refine rVal rfl rfl (yeqS rfl rfl) ?_
  refine rEnd ?_
  obtain ⟨s0, hs0⟩ : ∃ s0, (if s = [] then [0] else s) = s0 := ⟨_, rfl⟩
  have hne : s0 ≠ [] := by
    rw [← hs0]; split
    · simp
    · assumption
  have hlen : s0.length ≤ 140737488355328 := by
    rw [← hs0]; split
    · simp
    · exact hs
  refine run_cut (fun e' w' => e' = [(0, S s0), (1, I (n : Int))] ∧ w' = w) ?hk (fun hk => ?hmain)
  case hk =>
    rintro _ w1 ⟨rfl, rfl⟩
    refine run_seq ?_
    refine run_block ?_
    refine run_loop (α := Nat × Bytes) ((n + 1, s0)) (fun i => [(0, S i.2), (1, I (n : Int))]) (fun i w' => w' = w1 ∧ i.2 ≠ [] ∧ i.2.length ≤ 140737488355328 ∧ n < i.1 + i.2.length ∧ grow i.1 i.2 n = grow (n + 1) s0 n) (fun i => i.1) (by repeat (first | exact Sub.nil | refine Sub.cons rfl ?_)) ?hI ?hround
    case hI => exact ⟨rfl, hne, hlen, by show n < n + 1 + s0.length; omega, rfl⟩
    case hround =>
      rintro ⟨f, c⟩ _ ⟨rfl, hc0, hcl, hcf, hcg⟩ ih
      simp only at hc0 hcl hcf hcg
      have hcp : 0 < c.length := List.length_pos_iff.2 hc0
      dsimp only
      refine run_seq ?_
      refine run_seq ?_
      refine run_reg rfl ?_
      refine rVal rfl rfl (ymv rfl) ?_
      refine rVal rfl rfl (ylnS Try.underlying9 rfl) ?_
      refine rVal rfl rfl (ymv rfl) ?_
      refine rVal rfl rfl (ylt rfl rfl) ?_
      refine rEnd ?_
      refine run_if rfl (fun hlt => ?_) (fun hlt => ?_)
      · skip
        obtain ⟨f', rfl⟩ : ∃ f', f = f' + 1 := ⟨f - 1, by omega⟩
        refine run_skip ?_
        refine run_block ?_
        refine run_reg rfl ?_
        refine rVal rfl rfl (ymv rfl) ?_
        refine rVal rfl rfl (ymv rfl) ?_
        refine rVal rfl rfl (ycatS rfl rfl (by first | omega | (simp; done) | (simp; omega))) ?_
        refine rVal rfl rfl (yas rfl) ?_
        refine rEnd ?_
        refine run_inBlock ?_
        refine (ih (f', c ++ c) _ ⟨rfl, by simp [hc0], by simp; omega, by simp; omega, ?_⟩ (by show f' < f' + 1; omega)).sub (by repeat (first | exact Sub.nil | refine Sub.cons rfl ?_))
        rw [← hcg]
        simp only [grow]
        rw [if_pos (by omega)]
      · skip
        have hcl' : n ≤ c.length := by omega
        have hgc : grow f c n = c := by
          cases f with
          | zero => rfl
          | succ f => simp only [grow]; rw [if_neg (by omega)]
        refine run_exit rfl ?_
        refine run_seq ?_
        refine run_reg rfl ?_
        refine rVal rfl rfl (ymv rfl) ?_
        refine rVal rfl rfl (ymv rfl) ?_
        refine rVal rfl rfl (yslSt Try.underlying9 rfl rfl (by omega)) ?_
        refine rVal rfl rfl (yas rfl) ?_
        refine rEnd ?_
        refine run_ret Try.func38 rfl ?_
        refine ⟨_, rfl, ?_, rfl⟩
        simp only [resVal, fill, hs0, ← hcg, hgc]
  case hmain =>
    refine run_if rfl (fun h => ?_) (fun h => ?_)
    · skip
      refine run_reg rfl ?_
      refine rVal rfl rfl (yas rfl) ?_
      refine rEnd ?_
      have e : s0 = [0] := by rw [← hs0, if_pos h]
      rw [e] at hk
      exact (hk _ _ ⟨rfl, rfl⟩).sub (by repeat (first | exact Sub.nil | refine Sub.cons rfl ?_))
    · skip
      refine run_skip ?_
      have e : s0 = s := by rw [← hs0, if_neg h]
      rw [e] at hk
      exact (hk _ _ ⟨rfl, rfl⟩).sub (by repeat (first | exact Sub.nil | refine Sub.cons rfl ?_))

theorem same_ret (u v : Value) (a b : List Bytes) (w : World) (ha : Rd w u 1 a.length (a.map S)) (hb : Rd w v 1 b.length (b.map S)) (hla : a.length ≤ 1000000) (hlb : b.length ≤ 1000000) :
    Ret Try.prog 31 [u, v] w fun x w' => x = .bool (decide (a = b)) ∧ Ext w w' := by
  obtain ⟨aa, capa, rfl, hza⟩ := ha.shape
  obtain ⟨ab, capb, rfl, hzb⟩ := hb.shape
  refine ret_of_run (e := [(0, _), (1, _)]) Try.func31 rfl Try.ntmps31 rfl rfl ?_
  refine run_seq ?_
  refine run_reg rfl ?_
  refine rVal rfl rfl (yas rfl) ?_
  refine rEnd ?_
  refine run_seq ?_
  refine run_seq ?_
  refine run_reg rfl ?_
  refine rVal rfl rfl (ymv rfl) ?_
  refine rVal rfl rfl (yln Try.underlying47 rfl) ?_
  refine rVal rfl rfl (ymv rfl) ?_
  refine rVal rfl rfl (yln Try.underlying47 rfl) ?_
  refine rVal rfl rfl (yne rfl rfl) ?_
  refine rEnd ?_
  refine run_if rfl (fun hl => ?_) (fun hl => ?_)
  · skip
    refine run_seq ?_
    refine run_reg rfl ?_
    refine rVal rfl rfl (yas rfl) ?_
    refine rEnd ?_
    refine run_ret Try.func31 rfl ?_
    have : a ≠ b := fun e => by rw [e] at hl; exact hl rfl
    exact ⟨_, rfl, by simp [resVal, this], Ext.refl w⟩
  · skip
    have hl' : a.length = b.length := by omega
    refine run_skip ?_
    refine run_seq ?_
    refine run_seq ?_
    refine run_reg rfl ?_
    refine rVal rfl rfl (yas rfl) ?_
    refine rEnd ?_
    refine run_block ?_
    refine run_loop (α := Nat) (0) (fun i => [(0, .slice aa a.length capa), (1, .slice ab b.length capb), (5, I (i : Int))]) (fun i wi => Ext w wi ∧ i ≤ a.length ∧ a.take i = b.take i) (fun i => a.length - i) (by repeat (first | exact Sub.nil | refine Sub.cons rfl ?_)) ?hI ?hround
    case hI => exact ⟨Ext.refl w, by omega, by simp⟩
    case hround =>
      rintro i wi ⟨hx, hi, ht⟩ ih
      dsimp only
      refine run_seq ?_
      refine run_seq ?_
      refine run_reg rfl ?_
      refine rVal rfl rfl (ymv rfl) ?_
      refine rVal rfl rfl (ymv rfl) ?_
      refine rVal rfl rfl (yln Try.underlying47 rfl) ?_
      refine rVal rfl rfl (ylt rfl rfl) ?_
      refine rEnd ?_
      refine run_if rfl (fun hlt => ?_) (fun hlt => ?_)
      · skip
        have hlt' : i < a.length := by omega
        have hltb : i < b.length := by omega
        have ha' := ha.ext hx
        have hb' := hb.ext hx
        obtain ⟨x, hxe⟩ : ∃ x, a[i] = x := ⟨_, rfl⟩
        obtain ⟨y, hye⟩ : ∃ y, b[i] = y := ⟨_, rfl⟩
        rcases ha'.2 with ⟨c, -, h⟩ | ⟨ga, offa, capa', hva, hca⟩
        · omega
        rcases hb'.2 with ⟨c, -, h⟩ | ⟨gb, offb, capb', hvb, hcb⟩
        · omega
        cases hva
        cases hvb
        have c1 := hca (i * 1) (S x) (by simp [List.getElem?_eq_getElem hlt', hxe])
        have c2 := hcb (i * 1) (S y) (by simp [List.getElem?_eq_getElem hltb, hye])
        refine run_skip ?_
        refine run_seq ?_
        refine run_block ?_
        refine run_seq ?_
        refine run_draw (fun w' => w' = wi.drew) (by kernel_rfl) rfl ?_
        refine hTake (i := 0) rfl (by kernel_rfl) rfl rfl (fun _ hS => ymv rfl) (rfl) ?_
        refine hTake (i := 1) rfl (by kernel_rfl) rfl rfl (fun _ hS => ymv rfl) (rfl) ?_
        refine hTake (i := 2) rfl (by kernel_rfl) rfl rfl (fun _ hS => yis Try.underlying47 ti9 rfl rfl (by omega)) (rfl) ?_
        refine hTake (i := 4) rfl (by kernel_rfl) rfl rfl (fun _ hS => ymv rfl) (rfl) ?_
        refine hTake (i := 5) rfl (by kernel_rfl) rfl rfl (fun _ hS => ymv rfl) (rfl) ?_
        refine hTake (i := 6) rfl (by kernel_rfl) rfl rfl (fun _ hS => yis Try.underlying47 ti9 rfl rfl (by omega)) (rfl) ?_
        refine hTake (i := 3) rfl (by kernel_rfl) rfl rfl (fun _ hS => yldc Try.underlying9 rfl rfl (by rw [hS]; exact c1)) (rfl) ?_
        refine hTake (i := 7) rfl (by kernel_rfl) rfl rfl (fun _ hS => yldc Try.underlying9 rfl rfl (by rw [hS]; exact c2)) (rfl) ?_
        refine hTake (i := 8) rfl (by kernel_rfl) rfl rfl (fun _ hS => yneS rfl rfl) (rfl) ?_
        refine hEnd (by kernel_rfl) ?_
        refine run_if rfl (fun hne => ?_) (fun hne => ?_)
        · skip
          refine run_seq ?_
          refine run_reg rfl ?_
          refine rVal rfl rfl (yas rfl) ?_
          refine rEnd ?_
          refine run_ret Try.func31 rfl ?_
          have : a ≠ b := fun e => by subst e; rw [hxe] at hye; exact hne hye
          exact ⟨_, rfl, by simp [resVal, this], hx.trans (Ext.drew0 wi)⟩
        · skip
          refine run_skip ?_
          refine run_inBlock ?_
          refine run_reg rfl ?_
          refine rVal rfl rfl (ymv rfl) ?_
          refine rVal rfl rfl (yad rfl rfl (by omega)) ?_
          refine rVal rfl rfl (yas rfl) ?_
          refine rEnd ?_
          have hxy : x = y := by simpa using hne
          exact (ih (i + 1) _ ⟨hx.trans (Ext.drew0 wi), by omega, by rw [List.take_succ_eq_append_getElem hlt', List.take_succ_eq_append_getElem hltb, ht, hxe, hye, hxy]⟩ (by omega)).sub (by repeat (first | exact Sub.nil | refine Sub.cons rfl ?_))
      · skip
        have hin : i = a.length := by omega
        subst hin
        have : a = b := by rw [hl'] at ht; rw [← List.take_length (l := b), ← ht, ← hl', List.take_length]
        refine run_exit rfl ?_
        refine run_seq ?_
        refine run_reg rfl ?_
        refine rVal rfl rfl (yas rfl) ?_
        refine rEnd ?_
        refine run_ret Try.func31 rfl ?_
        exact ⟨_, rfl, by simp [resVal, this], hx⟩
end Go.Proofs.Ytdapkfppcaaohaa
