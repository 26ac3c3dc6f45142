/- The statement's function DevicePlays walked: it answers true on every argument. -/
import Derived.Test.YtdapkfppcaaohaaDvG
import Derived.Test.YtdapkfppcaaohaaDvH
namespace Go.Proofs.Ytdapkfppcaaohaa
open Go Go.RowKit
set_option linter.all false
set_option maxRecDepth 100000

/-- One of the two places: nothing, or a pair of devices. -/
def PSt (w : World) (P Q : Value) (k : Nat) (X : Nat → Prop) : Prop :=
  (P = .pointer none ∧ Q = .pointer none ∧ ∀ i, ¬ X i) ∨ ∃ p q D F G, P = ptr p 0 ∧ Q = ptr q 0 ∧ PairS w p q D D F G ∧ D.Small k ∧ ∀ i, X i ↔ (F i ∨ G i)
theorem PSt.kp {S X : Nat → Prop} {w w' : World} {P Q : Value} {k : Nat} (h : PSt w P Q k X) (kk : Kp S w w') (hn : ∀ i, X i → ¬ S i) : PSt w' P Q k X := by
  rcases h with h | ⟨p, q, D, F, G, h1, h2, h3, h4, h5⟩
  · exact .inl h
  · exact .inr ⟨p, q, D, F, G, h1, h2, h3.kp kk fun i hi => hn i ((h5 i).2 hi), h4, h5⟩
theorem PSt.lt {X : Nat → Prop} {w : World} {P Q : Value} {k : Nat} (h : PSt w P Q k X) : ∀ i, X i → i < w.heap.size := by
  rcases h with ⟨-, -, h⟩ | ⟨p, q, D, F, G, h1, h2, h3, h4, h5⟩
  · exact fun i hi => absurd hi (h i)
  · exact fun i hi => h3.lt i ((h5 i).1 hi)
theorem PSt.mono {X : Nat → Prop} {w : World} {P Q : Value} {k k' : Nat} (h : PSt w P Q k X) (hk : k ≤ k') : PSt w P Q k' X := by
  rcases h with h | ⟨p, q, D, F, G, h1, h2, h3, h4, h5⟩
  · exact .inl h
  · exact .inr ⟨p, q, D, F, G, h1, h2, h3, h4.mono hk, h5⟩
def upd2 (P : Nat → Value) (i : Nat) (v : Value) : Nat → Value := fun j => if j = i then v else P j
theorem set2 (P : Nat → Value) (i : Nat) (v : Value) (h : i < 2) : [P 0, P 1].set (0 + i * 1) v = [upd2 P i v 0, upd2 P i v 1] := by
  rcases (by omega : i = 0 ∨ i = 1) with rfl | rfl <;> simp [upd2]
theorem get2 (P : Nat → Value) (i : Nat) (v : Value) (h : i < 2) (hv : P i = v) : [P 0, P 1][0 + i * 1]? = some v := by
  rcases (by omega : i = 0 ∨ i = 1) with rfl | rfl <;> simp [hv]

/-- The two places, in the arrays at ba and bb. -/
structure Two (w0 w : World) (ba bb : Nat) (P Q : Nat → Value) (X : Nat → Nat → Prop) (k : Nat) : Prop where
  a : Blk w ba [P 0, P 1] 75
  b : Blk w bb [Q 0, Q 1] 77
  st : ∀ j, j < 2 → PSt w (P j) (Q j) k (X j)
  dis : ∀ i, X 0 i → ¬ X 1 i
  low : ∀ j i, j < 2 → X j i → w0.heap.size ≤ i ∧ ¬ i = ba ∧ ¬ i = bb
  ext : Ext w0 w
  ne : ¬ ba = bb
  la : w0.heap.size ≤ ba
  lb : w0.heap.size ≤ bb
theorem Two.grow {w0 w w' : World} {ba bb : Nat} {P Q : Nat → Value} {X : Nat → Nat → Prop} {k : Nat} (h : Two w0 w ba bb P Q X k) (x : Ext w w') : Two w0 w' ba bb P Q X k :=
  ⟨x.blk h.a, x.blk h.b, fun j hj => (h.st j hj).kp x fun _ _ => id, h.dis, h.low, h.ext.trans x, h.ne, h.la, h.lb⟩
theorem Two.sep {w0 w : World} {ba bb : Nat} {P Q : Nat → Value} {X : Nat → Nat → Prop} {k : Nat} (h : Two w0 w ba bb P Q X k) {i j : Nat} (hi : i < 2) (hj : j < 2) (hij : ¬ i = j) : ∀ m, X i m → ¬ X j m := by
  rcases (by omega : (i = 0 ∧ j = 1) ∨ (i = 1 ∧ j = 0)) with ⟨rfl, rfl⟩ | ⟨rfl, rfl⟩
  · exact h.dis
  · exact fun m h1 h0 => h.dis m h0 h1
/-- One place has been written. -/
theorem Two.put {w0 w w1 w2 w3 : World} {ba bb : Nat} {P Q : Nat → Value} {X : Nat → Nat → Prop} {k i : Nat} {v u : Value} {Y : Nat → Prop} (h : Two w0 w ba bb P Q X k) (hi : i < 2) (ha : Blk w1 ba ([P 0, P 1].set (0 + i * 1) v) 75) (hka : Kp (fun k => k = ba) w w1) (x : Ext w1 w2) (hb : Blk w3 bb ([Q 0, Q 1].set (0 + i * 1) u) 77) (hkb : Kp (fun k => k = bb) w2 w3)
    (hs : PSt w3 v u k Y) (hY : ∀ m, Y m → w0.heap.size ≤ m ∧ ¬ m = ba ∧ ¬ m = bb) (hd : ∀ m, Y m → ∀ j, j < 2 → ¬ j = i → ¬ X j m) : Two w0 w3 ba bb (upd2 P i v) (upd2 Q i u) (fun j => if j = i then Y else X j) k := by
  rw [set2 P i v hi] at ha
  rw [set2 Q i u hi] at hb
  refine ⟨hkb.blk (x.blk ha) h.ne, hb, fun j hj => ?_, ?_, fun j m hj hm => ?_, ((h.ext.trans_new hka (fun m hm => by have := h.la; omega)).trans x).trans_new hkb (fun m hm => by have := h.lb; omega), h.ne, h.la, h.lb⟩
  · unfold upd2
    by_cases e : j = i
    · simp only [e, if_true]; exact hs
    · simp only [e, if_false]
      exact (((h.st j hj).kp hka fun m hm e => (h.low j m hj hm).2.1 e).kp x fun _ _ => id).kp hkb fun m hm e => (h.low j m hj hm).2.2 e
  · intro m h0 h1
    by_cases e0 : 0 = i
    · subst e0
      simp only [if_true] at h0
      simp only [show ¬ (1 = 0) by omega, if_false] at h1
      exact hd m h0 1 (by omega) (by omega) h1
    · have e1 : i = 1 := by omega
      subst e1
      simp only [show ¬ (0 = 1) by omega, if_false] at h0
      simp only [if_true] at h1
      exact hd m h1 0 (by omega) (by omega) h0
  · by_cases e : j = i
    · simp only [e, if_true] at hm; exact hY m hm
    · simp only [e, if_false] at hm; exact h.low j m hj hm
/-- What one place's pair has done. -/
theorem Two.pass {w0 w w' : World} {ba bb : Nat} {P Q : Nat → Value} {X : Nat → Nat → Prop} {k k' i p q : Nat} {D D' : Dev} {F G F' G' : Nat → Prop} (h : Two w0 w ba bb P Q X k) (hi : i < 2) (hP : P i = ptr p 0) (hQ : Q i = ptr q 0) (hX : ∀ m, X i m ↔ (F m ∨ G m)) (hS : PairS w' p q D' D' F' G') (hp : Pass F G F' G' w w') (hs : D'.Small k') (hk : k ≤ k') :
    Two w0 w' ba bb P Q (fun j => if j = i then (fun m => F' m ∨ G' m) else X j) k' := by
  have hlo : ∀ m, F m ∨ G m → w0.heap.size ≤ m ∧ ¬ m = ba ∧ ¬ m = bb := fun m hm => h.low i m hi ((hX m).2 hm)
  have hnew : ∀ m, F' m ∨ G' m → (F m ∨ G m) ∨ w.heap.size ≤ m := fun m hm => hm.elim (fun h => (hp.f m h).imp .inl id) (fun h => (hp.g m h).imp .inr id)
  have hla := h.a.lt
  have hlb := h.b.lt
  refine ⟨hp.kp.blk h.a fun e => (hlo ba e).2.1 rfl, hp.kp.blk h.b fun e => (hlo bb e).2.2 rfl, fun j hj => ?_, ?_, fun j m hj hm => ?_, h.ext.trans_new hp.kp fun m hm => (hlo m hm).1, h.ne, h.la, h.lb⟩
  · by_cases e : j = i
    · subst e
      simp only [if_true]
      exact .inr ⟨p, q, D', F', G', hP, hQ, hS, hs, fun m => Iff.rfl⟩
    · simp only [e, if_false]
      exact ((h.st j hj).mono hk).kp hp.kp fun m hm hf => h.sep hj hi e m hm ((hX m).2 hf)
  · have key : ∀ j, j < 2 → ¬ j = i → ∀ m, (F' m ∨ G' m) → ¬ X j m := fun j hj e m hm hx => by
      rcases hnew m hm with h' | h'
      · exact h.sep hj hi e m hx ((hX m).2 h')
      · have := (h.st j hj).lt m hx; omega
    intro m h0 h1
    by_cases e0 : 0 = i
    · subst e0
      simp only [if_true] at h0
      simp only [show ¬ (1 = 0) by omega, if_false] at h1
      exact key 1 (by omega) (by omega) m h0 h1
    · have e1 : i = 1 := by omega
      subst e1
      simp only [show ¬ (0 = 1) by omega, if_false] at h0
      simp only [if_true] at h1
      exact key 0 (by omega) (by omega) m h1 h0
  · by_cases e : j = i
    · simp only [e, if_true] at hm
      rcases hnew m hm with h' | h'
      · exact hlo m h'
      · have := h.ext.size; exact ⟨by omega, by omega, by omega⟩
    · simp only [e, if_false] at hm; exact h.low j m hj hm
theorem Two.mono {w0 w : World} {ba bb : Nat} {P Q : Nat → Value} {X : Nat → Nat → Prop} {k k' : Nat} (h : Two w0 w ba bb P Q X k) (hk : k ≤ k') : Two w0 w ba bb P Q X k' :=
  ⟨h.a, h.b, fun j hj => (h.st j hj).mono hk, h.dis, h.low, h.ext, h.ne, h.la, h.lb⟩
theorem kp_cells {S : Nat → Prop} {w w' : World} {b o : Nat} {news : List Value} (h : ∀ j u, news[j]? = some u → w.cell? ⟨b, o + j, none⟩ = some u) (k : Kp S w w') (hn : ¬ S b) : ∀ j u, news[j]? = some u → w'.cell? ⟨b, o + j, none⟩ = some u := fun j u hj => by
  have h1 := h j u hj
  have hlt : b < w.heap.size := World.block_lt_of_cell? w _ h1
  rw [World.cell?_of_block (w := w) (a := ⟨b, o + j, none⟩) (k.block b hlt hn)]
  exact h1

/-- New, whatever the geometry. -/
theorem newX_ret (b n : Int) (w : World) : Ret Try.prog 32 [.agg #[I b, I n]] w fun v w' => ∃ a, v = .tuple #[.pointer a, I (if geoOk b n then 0 else 1)] ∧ Ext w w' ∧ a.isNone = decide (¬ geoOk b n) ∧ (geoOk b n → ∃ p F, Value.pointer a = ptr p 0 ∧ DevA w' p (Dev.fresh b.toNat n.toNat) F ∧ ∀ i, F i → w.heap.size ≤ i) := by
  by_cases hg : geoOk b n
  · have hg' := hg
    obtain ⟨g1, g2, g3, g4⟩ := hg'
    have hg2 : geoOk (b.toNat : Int) (n.toNat : Int) := ⟨by omega, by omega, by omega, by omega⟩
    have h := newA_ok b.toNat n.toNat w hg2
    rw [show ((b.toNat : Nat) : Int) = b by omega, show ((n.toNat : Nat) : Int) = n by omega] at h
    exact h.mono fun v w' ⟨p, F, e, h1, hx, hl⟩ => ⟨some ⟨p, 0, none⟩, by rw [if_pos hg]; exact e, hx, by simp [hg], fun _ => ⟨p, F, rfl, h1, hl⟩⟩
  · exact (new_bad b n w hg).mono fun v w' ⟨e, hx⟩ => ⟨none, by rw [if_neg hg]; exact e, hx, by simp [hg], fun h => absurd h hg⟩
theorem rnewX_ret (b n : Int) (w : World) : Ret Try.prog 40 [.agg #[I b, I n]] w fun v w' => ∃ a, v = .tuple #[.pointer a, I (if geoOk b n then 0 else 1)] ∧ Ext w w' ∧ a.isNone = decide (¬ geoOk b n) ∧ (geoOk b n → ∃ q G, Value.pointer a = ptr q 0 ∧ RefA w' q (Dev.fresh b.toNat n.toNat) G ∧ ∀ i, G i → w.heap.size ≤ i) := by
  by_cases hg : geoOk b n
  · have hg' := hg
    obtain ⟨g1, g2, g3, g4⟩ := hg'
    have hg2 : geoOk (b.toNat : Int) (n.toNat : Int) := ⟨by omega, by omega, by omega, by omega⟩
    have h := rnewA_ok b.toNat n.toNat w hg2
    rw [show ((b.toNat : Nat) : Int) = b by omega, show ((n.toNat : Nat) : Int) = n by omega] at h
    exact h.mono fun v w' ⟨p, F, e, h1, hx, hl⟩ => ⟨some ⟨p, 0, none⟩, by rw [if_pos hg]; exact e, hx, by simp [hg], fun _ => ⟨p, F, rfl, h1, hl⟩⟩
  · exact (rnew_bad b n w hg).mono fun v w' ⟨e, hx⟩ => ⟨none, by rw [if_neg hg]; exact e, hx, by simp [hg], fun h => absurd h hg⟩

set_option maxHeartbeats 4000000 in
theorem devicePlays_ret (gb gn hb hn : Int) (v2 : Value) (l : List POp) (w : World) (h2 : OpsM w v2 l) :
    Ret Try.prog 10 [.agg #[I gb, I gn], .agg #[I hb, I hn], v2] w fun v w' => v = .bool true ∧ Ext w w' := by
  obtain ⟨a2, c2, rfl⟩ := h2.shape
  refine ret_of_run (e := [(0, _), (1, _), (2, _)]) Try.func10 rfl Try.ntmps10 rfl rfl ?_
  refine run_seq ?_
  refine run_reg rfl ?_
  refine rValP rfl rfl (pbx rfl rfl) ?_
  rintro _ w1 ⟨b3, rfl, hb3, hx1, hB3⟩
  refine rValP rfl rfl (pbx rfl rfl) ?_
  rintro _ w2 ⟨b4, rfl, hb4, hx2, hB4⟩
  replace hB3 := hx2.blk hB3
  have hx02 := hx1.trans hx2
  refine rVal rfl rfl (yas rfl) ?_
  refine rEnd ?_
  refine run_seq ?_
  refine run_reg rfl ?_
  refine rValP rfl rfl (pal (cs := [_, _]) ti75 rfl) ?_
  rintro _ w3 ⟨ba, rfl, hba, hx3, hBa⟩
  refine rEnd ?_
  refine run_seq ?_
  refine run_reg rfl ?_
  refine rValP rfl rfl (pal (cs := [_, _]) ti77 rfl) ?_
  rintro _ w4 ⟨bb, rfl, hbb, hx4, hBb⟩
  have hla := hBa.lt
  have hT0 : Two w2 w4 ba bb (fun _ => .pointer none) (fun _ => .pointer none) (fun _ _ => False) 0 := ⟨hx4.blk hBa, hBb, fun j hj => .inl ⟨rfl, rfl, fun _ => id⟩, fun _ h => h.elim, fun _ _ _ h => h.elim, hx3.trans hx4, by omega, by omega, by have := hx3.size; omega⟩
  refine rEnd ?_
  refine run_seq ?_
  refine run_seq ?_
  refine run_reg rfl ?_
  refine rVal rfl rfl (yas rfl) ?_
  refine rEnd ?_
  refine run_block ?_
  refine run_loop (α := Nat) (0) (fun i => [(2, .slice a2 l.length c2), (3, ptr b3 0), (4, ptr b4 0), (7, ptr ba 0), (8, ptr bb 0), (9, I (i : Int))]) (fun i wi => i ≤ 2 ∧ ∃ P Q X, Two w2 wi ba bb P Q X 0) (fun i => 2 - i) (by repeat (first | exact Sub.nil | refine Sub.cons rfl ?_)) ?hI ?hround
  case hI => exact ⟨by omega, _, _, _, hT0⟩
  case hround =>
    rintro i wi ⟨hi, P, Q, X, hT⟩ ih
    have hB3i := hT.ext.blk hB3
    have hB4i := hT.ext.blk hB4
    dsimp only
    refine run_seq ?_
    refine run_seq ?_
    refine run_reg rfl ?_
    refine rVal rfl rfl (ymv rfl) ?_
    refine rVal rfl rfl (ylt rfl rfl) ?_
    refine rEnd ?_
    refine run_if rfl (fun hlt => ?_) (fun hlt => ?_)
    · skip
      have hi2 : i < 2 := by omega
      obtain ⟨xb, hxb⟩ : ∃ xb, (if i = 0 then gb else hb) = xb := ⟨_, rfl⟩
      obtain ⟨xn, hxn⟩ : ∃ xn, (if i = 0 then gn else hn) = xn := ⟨_, rfl⟩
      refine run_skip ?_
      refine run_seq ?_
      refine run_block ?_
      refine run_seq ?_
      refine run_reg rfl ?_
      refine rVal rfl rfl ((by first | exact yldA Try.underlying74 rfl ti74 rfl (Blk.cells (n := 2) hB3i (news := [_, _]) rfl) rfl | exact yldA Try.underlying74 rfl ti74 rfl (Blk.cells (n := 2) hB4i (news := [_, _]) rfl) rfl)) ?_
      refine rVal rfl rfl ((by first | exact yldA Try.underlying74 rfl ti74 rfl (Blk.cells (n := 2) hB3i (news := [_, _]) rfl) rfl | exact yldA Try.underlying74 rfl ti74 rfl (Blk.cells (n := 2) hB4i (news := [_, _]) rfl) rfl)) ?_
      refine rValP rfl rfl (pbs (parts := [(0, .tmp 21), (1, .tmp 22)]) (cs := [_, _, _, _]) (zs := [Value.int .i64 0, Value.int .i64 0, Value.int .i64 0, Value.int .i64 0]) Try.underlying78 ti74 rfl (by kernel_rfl) rfl rfl rfl (by decide)) ?_
      rintro _ w5 ⟨bs, rfl, ⟨hbs, hx5, hBs⟩, hSs⟩
      have hnews : ([I gb, I gn, I hb, I hn].drop (0 + i * 2)).take 2 = [I xb, I xn] := by
        rw [← hxb, ← hxn]
        rcases (by omega : i = 0 ∨ i = 1) with rfl | rfl <;> simp
      refine rVal rfl rfl (ymv rfl) ?_
      refine rVal rfl rfl (yis Try.underlying78 ti74 rfl rfl (by omega)) ?_
      refine rVal rfl rfl (yldA Try.underlying74 rfl ti74 rfl (Blk.cells (n := 2) hBs hnews) rfl) ?_
      refine rValP rfl rfl (pal (cs := [_, _]) ti74 rfl) ?_
      rintro _ w6 ⟨b10, rfl, hb10, hx6, hB10⟩
      refine rEffP rfl (zstA (news := [I xb, I xn]) ti74 rfl rfl rfl rfl hB10 (by simp)) ?_
      rintro w7 ⟨hB107, hk7⟩
      replace hB107 : Blk w7 b10 [I xb, I xn] 74 := hB107
      have hx57 : Ext wi w7 := (hx5.trans hx6).trans_new hk7 (fun m hm => by have := hx5.size; omega)
      refine rEnd ?_
      refine run_seq ?_
      refine run_reg rfl ?_
      refine rVal rfl rfl (yfa fl74_0 rfl) ?_
      refine rVal rfl rfl (yld Try.underlying3 rfl rfl hB107 rfl) ?_
      refine rVal rfl rfl (yfa fl74_1 rfl) ?_
      refine rVal rfl rfl (yld Try.underlying3 rfl rfl hB107 rfl) ?_
      refine rVal rfl rfl (ybd (parts := [(0, .tmp 29), (1, .tmp 31)]) (cs := [_, _]) ti68 rfl sp68 rfl rfl) ?_
      refine rCall rfl rfl (yc (args := [.tmp 32]) cf32 rfl) (newX_ret xb xn w7) ?_
      rintro _ w8 ⟨a, rfl, hx8, ha1, ha2⟩
      have hB108 := hx8.blk hB107
      refine rVal rfl rfl (ymv rfl) ?_
      refine rVal rfl rfl (yex rfl rfl) ?_
      refine rVal rfl rfl (yex rfl rfl) ?_
      refine rVal rfl rfl (yas rfl) ?_
      refine rVal rfl rfl (yas rfl) ?_
      refine rEnd ?_
      refine run_seq ?_
      refine run_reg rfl ?_
      refine rVal rfl rfl (yldA Try.underlying74 rfl ti74 rfl (Blk.cells (n := 2) hB108 (news := [_, _]) rfl) rfl) ?_
      refine rCall rfl rfl (yc (args := [.tmp 37]) cf40 rfl) (rnewX_ret xb xn w8) ?_
      rintro _ w9 ⟨a', rfl, hx9, hr1, hr2⟩
      have hB109 := hx9.blk hB108
      have e1 : a.isNone = a'.isNone := by rw [ha1, hr1]
      refine rVal rfl rfl (ymv rfl) ?_
      refine rVal rfl rfl (yex rfl rfl) ?_
      refine rVal rfl rfl (yex rfl rfl) ?_
      refine rVal rfl rfl (yas rfl) ?_
      refine rVal rfl rfl (yas rfl) ?_
      refine rEnd ?_
      refine run_seq ?_
      refine run_seq ?_
      refine run_draw (fun w' => Ext w9 w') (by kernel_rfl) rfl ?_
      refine hTake (i := 0) rfl (by kernel_rfl) rfl rfl (fun _ hS => ymv rfl) (Ext.drew0 w9) ?_
      refine hTake (i := 1) rfl (by kernel_rfl) rfl rfl (fun _ hS => ymv rfl) (Ext.drew0 w9) ?_
      refine hTake (i := 2) rfl (by kernel_rfl) rfl rfl (fun _ hS => yne rfl rfl) (Ext.drew0 w9) ?_
      refine hFalse (by (first | exact fun h => h rfl | assumption | omega)) ?_
      refine hTake (i := 3) rfl (by kernel_rfl) rfl rfl (fun _ hS => ymv rfl) (Ext.drew0 w9) ?_
      refine hTake (i := 4) rfl (by kernel_rfl) rfl rfl (fun _ hS => ymv rfl) (Ext.drew0 w9) ?_
      refine hTake (i := 5) rfl (by kernel_rfl) rfl rfl (fun _ hS => yeqpN Try.underlying46 rfl rfl) (Ext.drew0 w9) ?_
      refine hTake (i := 6) rfl (by kernel_rfl) rfl rfl (fun _ hS => ymv rfl) (Ext.drew0 w9) ?_
      refine hTake (i := 7) rfl (by kernel_rfl) rfl rfl (fun _ hS => yeqpN Try.underlying76 rfl rfl) (Ext.drew0 w9) ?_
      refine hTake (i := 8) rfl (by kernel_rfl) rfl rfl (fun _ hS => yneb rfl rfl Try.underlying4) (Ext.drew0 w9) ?_
      rw [show (!(a.isNone == a'.isNone)) = false by simp [e1]]
      refine hTake (i := 9) rfl (by kernel_rfl) rfl rfl (fun _ hS => ypF rfl rfl) (Ext.drew0 w9) ?_
      refine hTake (i := 10) rfl (by kernel_rfl) rfl rfl (fun _ hS => ymv rfl) (Ext.drew0 w9) ?_
      refine hTake (i := 11) rfl (by kernel_rfl) rfl rfl (fun _ hS => yfa fl74_0 rfl) (Ext.drew0 w9) ?_
      refine hTake (i := 12) rfl (by kernel_rfl) rfl rfl (fun _ hS => yld Try.underlying3 rfl rfl (Ext.blk hS hB109) rfl) (Ext.drew0 w9) ?_
      refine hTake (i := 13) rfl (by kernel_rfl) rfl rfl (fun _ hS => yfa fl74_1 rfl) (Ext.drew0 w9) ?_
      refine hTake (i := 14) rfl (by kernel_rfl) rfl rfl (fun _ hS => yld Try.underlying3 rfl rfl (Ext.blk hS hB109) rfl) (Ext.drew0 w9) ?_
      refine hTake (i := 15) rfl (by kernel_rfl) rfl rfl (fun _ hS => ybd (parts := [(0, .tmp 53), (1, .tmp 55)]) (cs := [_, _]) ti68 rfl sp68 rfl rfl) (Ext.drew0 w9) ?_
      refine hTake (i := 17) rfl (by kernel_rfl) rfl rfl (fun _ hS => yldA Try.underlying74 rfl ti74 rfl (Blk.cells (n := 2) (Ext.blk hS hB109) (news := [_, _]) rfl) rfl) (Ext.drew0 w9) ?_
      refine hOne (i := 16) (by kernel_rfl) ?_
      refine nCall (i := 16) rfl rfl rfl (yc (args := [.tmp 56]) cf41 rfl) (check_ret xb xn _) ?_
      rintro _ w10 ⟨rfl, hx10⟩
      refine ⟨(Ext.drew0 w9).trans hx10, ?_⟩
      refine hOne (i := 18) (by kernel_rfl) ?_
      refine nCall (i := 18) rfl rfl rfl (yc (args := [.tmp 58]) cf42 rfl) (rcheck_ret xb xn _) ?_
      rintro _ w11 ⟨rfl, hx11⟩
      refine ⟨((Ext.drew0 w9).trans hx10).trans hx11, ?_⟩
      refine hTake (i := 19) rfl (by kernel_rfl) rfl rfl (fun _ hS => yne rfl rfl) (((Ext.drew0 w9).trans hx10).trans hx11) ?_
      refine hFalse (by (first | exact fun h => h rfl | assumption | omega)) ?_
      refine hTake (i := 20) rfl (by kernel_rfl) rfl rfl (fun _ hS => ypF rfl rfl) (((Ext.drew0 w9).trans hx10).trans hx11) ?_
      refine hEnd (by kernel_rfl) ?_
      refine run_false rfl ?_
      refine run_skip ?_
      refine run_seq ?_
      refine run_reg rfl ?_
      refine rVal rfl rfl (ymv rfl) ?_
      refine rVal rfl rfl (ymv rfl) ?_
      refine rVal rfl rfl (yia Try.underlying75 ti46 rfl rfl (by omega)) ?_
      have hx911 := ((Ext.drew0 w9).trans hx10).trans hx11
      have hxi11 := (hx57.trans (hx8.trans hx9)).trans hx911
      have hT11 := hT.grow hxi11
      refine rEffP rfl (zst ti46 rfl rfl rfl hT11.a (by simp; omega)) ?_
      rintro w12 ⟨hBa12, hk12⟩
      have hBb12 := hk12.blk hT11.b (fun e => hT11.ne e.symm)
      refine rEnd ?_
      refine run_reg rfl ?_
      refine rVal rfl rfl (ymv rfl) ?_
      refine rVal rfl rfl (ymv rfl) ?_
      refine rVal rfl rfl (yia Try.underlying77 ti76 rfl rfl (by omega)) ?_
      refine rEffP rfl (zst ti76 rfl rfl rfl hBb12 (by simp; omega)) ?_
      rintro w13 ⟨hBb13, hk13⟩
      refine rEnd ?_
      refine run_inBlock ?_
      refine run_reg rfl ?_
      refine rVal rfl rfl (ymv rfl) ?_
      refine rVal rfl rfl (yad rfl rfl (by omega)) ?_
      refine rVal rfl rfl (yas rfl) ?_
      refine rEnd ?_
      have hsz := hx57.size
      have hsz8 := hx8.size
      have hsz9 := hx9.size
      have hszx := hT.ext.size
      have hbal := hT.a.lt
      have hbbl := hT.b.lt
      by_cases hg : geoOk xb xn
      · obtain ⟨p, F, hap, hA, hF⟩ := ha2 hg
        obtain ⟨q, G, hap', hR, hG⟩ := hr2 hg
        have hFG : ∀ m, F m ∨ G m → w7.heap.size ≤ m ∧ m < w9.heap.size := fun m hm => by
          rcases hm with h | h
          · exact ⟨hF m h, by have := hA.lt m h; omega⟩
          · exact ⟨by have := hG m h; omega, hR.lt m h⟩
        have hPS : PairS w13 p q (Dev.fresh xb.toNat xn.toNat) (Dev.fresh xb.toNat xn.toNat) F G :=
          ((⟨hA.ext hx9, hR, fun m hf hg => by have := hA.lt m hf; have := hG m hg; omega⟩ : PairS w9 p q _ _ F G).ext hx911).kp hk12 (fun m hm e => by have := hFG m hm; omega) |>.kp hk13 (fun m hm e => by have := hFG m hm; omega)
        exact (ih (i + 1) w13 ⟨by omega, _, _, _, hT11.put (v := .pointer a) (u := .pointer a') (Y := fun m => F m ∨ G m) hi2 hBa12 hk12 (Ext.refl _) hBb13 hk13 (.inr ⟨p, q, _, F, G, hap, hap', hPS, small_fresh _ _, fun m => Iff.rfl⟩) (fun m hm => by have := hFG m hm; exact ⟨by omega, by omega, by omega⟩) (fun m hm j hj hne hX => by have := hFG m hm; have := (hT.st j hj).lt m hX; omega)⟩ (by omega)).sub (by repeat (first | exact Sub.nil | refine Sub.cons rfl ?_))
      · have n1 : a = none := by simpa [hg] using ha1
        have n2 : a' = none := by simpa [hg] using hr1
        exact (ih (i + 1) w13 ⟨by omega, _, _, _, hT11.put (v := .pointer a) (u := .pointer a') (Y := fun _ => False) hi2 hBa12 hk12 (Ext.refl _) hBb13 hk13 (.inl ⟨by rw [n1], by rw [n2], fun _ => id⟩) (fun m hm => hm.elim) (fun m hm => hm.elim)⟩ (by omega)).sub (by repeat (first | exact Sub.nil | refine Sub.cons rfl ?_))
    · skip
      have hi2 : i = 2 := by omega
      subst hi2
      refine run_exit rfl ?_
      refine run_seq ?_
      refine run_seq ?_
      refine run_reg rfl ?_
      refine rVal rfl rfl (yas rfl) ?_
      refine rEnd ?_
      refine run_block ?_
      refine run_loop (α := Nat) (0) (fun i => [(2, .slice a2 l.length c2), (7, ptr ba 0), (8, ptr bb 0), (15, I (i : Int))]) (fun i wi => i ≤ 120 ∧ ∃ P Q X, Two w2 wi ba bb P Q X i) (fun i => 120 - i) (by repeat (first | exact Sub.nil | refine Sub.cons rfl ?_)) ?hI ?hround
      case hI => exact ⟨by omega, P, Q, X, hT⟩
      case hround =>
        rintro i wi ⟨hi, P, Q, X, hT⟩ ih
        have hx0i : Ext w wi := hx02.trans hT.ext
        dsimp only
        refine run_seq ?_
        refine run_seq ?_
        refine run_reg rfl ?_
        refine rVal rfl rfl (ymv rfl) ?_
        refine rVal rfl rfl (ymv rfl) ?_
        refine rVal rfl rfl (yln Try.underlying62 rfl) ?_
        refine rVal rfl rfl (ylt rfl rfl) ?_
        refine rVal_if (fun hlt => ?_) (fun hlt => ?_)
        · skip
          have hlt' : i < l.length := by omega
          refine rVal rfl rfl (ymv rfl) ?_
          refine rVal rfl rfl (ymv rfl) ?_
          refine rVal rfl rfl (ylt rfl rfl) ?_
          refine rVal_if (fun h120 => ?_) (fun h120 => ?_)
          · skip
            obtain ⟨b, off, o, ov, rfl, hoi, hcell0, hro0, hok⟩ := h2.get hlt'
            have hbl : b < w.heap.size := World.block_lt_of_cell? w _ (hcell0 0 (I o.kind) rfl)
            have hcelli := kp_cells hcell0 hx0i id
            have hroi := hro0.ext hx0i
            have hs02 := hx02.size
            refine rVal rfl rfl (ypT rfl rfl) ?_
            refine rEnd ?_
            refine run_true rfl ?_
            refine run_skip ?_
            refine run_seq ?_
            refine run_block ?_
            refine run_seq ?_
            refine run_reg rfl ?_
            refine rVal rfl rfl (yas rfl) ?_
            refine rEnd ?_
            refine run_seq ?_
            refine run_seq ?_
            refine run_reg rfl ?_
            refine rVal rfl rfl (ymv rfl) ?_
            refine rVal rfl rfl (ymv rfl) ?_
            refine rVal rfl rfl (yis Try.underlying62 ti64 rfl rfl (by omega)) ?_
            refine rVal rfl rfl (yfa fl64_1 rfl) ?_
            refine rVal rfl rfl (yldc Try.underlying3 rfl rfl (hcelli 1 (I o.who) rfl)) ?_
            refine rVal rfl rfl (yne rfl rfl) ?_
            refine rEnd ?_
            refine run_cut (fun e' w' => ∃ j : Nat, j < 2 ∧ e' = [(2, .slice (some ⟨b, off, none⟩) l.length c2), (7, ptr ba 0), (8, ptr bb 0), (15, I (i : Int)), (16, I (j : Int))] ∧ w' = wi) ?hkm (fun hkm => ?hmainm)
            case hkm =>
              rintro _ w5 ⟨j, hj, rfl, rfl⟩
              rcases hT.st j hj with ⟨hp, hq, hX⟩ | ⟨p, q, D, F, G, hp, hq, hPS, hSm, hX⟩
              · skip
                refine run_seq ?_
                refine run_seq ?_
                refine run_reg rfl ?_
                refine rVal rfl rfl (ymv rfl) ?_
                refine rVal rfl rfl (yia Try.underlying77 ti76 rfl rfl (by omega)) ?_
                refine rVal rfl rfl (yld Try.underlying76 rfl rfl hT.b (get2 Q j _ hj hq)) ?_
                refine rVal rfl rfl (yeqpN Try.underlying76 rfl rfl) ?_
                refine rEnd ?_
                refine run_true rfl ?_
                refine run_exit rfl ?_
                refine run_reg rfl ?_
                refine rVal rfl rfl (ymv rfl) ?_
                refine rVal rfl rfl (yad rfl rfl (by omega)) ?_
                refine rVal rfl rfl (yas rfl) ?_
                refine rEnd ?_
                exact (ih (i + 1) _ ⟨by omega, P, Q, X, hT.mono (by omega)⟩ (by omega)).sub (by repeat (first | exact Sub.nil | refine Sub.cons rfl ?_))
              · skip
                refine run_seq ?_
                refine run_seq ?_
                refine run_reg rfl ?_
                refine rVal rfl rfl (ymv rfl) ?_
                refine rVal rfl rfl (yia Try.underlying77 ti76 rfl rfl (by omega)) ?_
                refine rVal rfl rfl (yld Try.underlying76 rfl rfl hT.b (get2 Q j _ hj hq)) ?_
                refine rVal rfl rfl (yeqpN Try.underlying76 rfl rfl) ?_
                refine rEnd ?_
                refine run_false rfl ?_
                refine run_skip ?_
                refine run_seq ?_
                refine run_seq ?_
                refine run_reg rfl ?_
                refine rVal rfl rfl (ymv rfl) ?_
                refine rVal rfl rfl (ymv rfl) ?_
                refine rVal rfl rfl (yis Try.underlying62 ti64 rfl rfl (by omega)) ?_
                refine rVal rfl rfl (yfa fl64_0 rfl) ?_
                refine rVal rfl rfl (yldc Try.underlying3 rfl rfl (hcelli 0 (I o.kind) rfl)) ?_
                refine rVal rfl rfl (yeq rfl rfl) ?_
                refine rEnd ?_
                refine run_cut (fun e' w' => e' = [(2, .slice (some ⟨b, off, none⟩) l.length c2), (7, ptr ba 0), (8, ptr bb 0), (15, I (i : Int)), (16, I (j : Int))] ∧ ∃ P Q X p q D F G, Two w2 w' ba bb P Q X (i + 1) ∧ P j = ptr p 0 ∧ Q j = ptr q 0 ∧ PairS w' p q D D F G ∧ D.Small (i + 1)) ?hkn (fun hkn => ?hmainn)
                case hkn =>
                  rintro _ w6 ⟨rfl, P', Q', X', p', q', D', F', G', hT6, hp6, hq6, hPS6, hSm6⟩
                  obtain ⟨sa, sn, sc, ca, cc, kp, tn', mk', hBq⟩ := hPS6.r.cells
                  have hPd := hPS6.ext (Ext.drew0 w6)
                  refine run_seq ?_
                  refine run_draw (fun w' => Ext w6 w') (by kernel_rfl) rfl ?_
                  refine hTake (i := 0) rfl (by kernel_rfl) rfl rfl (fun _ hS => ymv rfl) (Ext.drew0 w6) ?_
                  refine hTake (i := 1) rfl (by kernel_rfl) rfl rfl (fun _ hS => yia Try.underlying75 ti46 rfl rfl (by omega)) (Ext.drew0 w6) ?_
                  refine hTake (i := 4) rfl (by kernel_rfl) rfl rfl (fun _ hS => ymv rfl) (Ext.drew0 w6) ?_
                  refine hTake (i := 5) rfl (by kernel_rfl) rfl rfl (fun _ hS => yia Try.underlying77 ti76 rfl rfl (by omega)) (Ext.drew0 w6) ?_
                  refine hTake (i := 2) rfl (by kernel_rfl) rfl rfl (fun _ hS => yld Try.underlying46 rfl rfl (Ext.blk hS hT6.a) (get2 P' j _ hj hp6)) (Ext.drew0 w6) ?_
                  refine hTake (i := 6) rfl (by kernel_rfl) rfl rfl (fun _ hS => yld Try.underlying76 rfl rfl (Ext.blk hS hT6.b) (get2 Q' j _ hj hq6)) (Ext.drew0 w6) ?_
                  refine hTake (i := 7) rfl (by kernel_rfl) rfl rfl (fun _ hS => (by first | exact ync rfl | exact yncf rfl)) (Ext.drew0 w6) ?_
                  refine hTake (i := 8) rfl (by kernel_rfl) rfl rfl (fun _ hS => yfa fl86_0 rfl) (Ext.drew0 w6) ?_
                  refine hTake (i := 9) rfl (by kernel_rfl) rfl rfl (fun _ hS => yfa fl74_0 rfl) (Ext.drew0 w6) ?_
                  refine hTake (i := 10) rfl (by kernel_rfl) rfl rfl (fun _ hS => yld Try.underlying3 rfl rfl (Ext.blk hS hBq) rfl) (Ext.drew0 w6) ?_
                  refine hOne (i := 3) (by kernel_rfl) ?_
                  refine nCall (i := 3) rfl rfl rfl (yc (args := [.tmp 127]) cf45 rfl) (blocksA_ret hPd.d) ?_
                  rintro _ w7 ⟨rfl, rfl⟩
                  refine ⟨Ext.drew0 w6, ?_⟩
                  refine hTake (i := 11) rfl (by kernel_rfl) rfl rfl (fun _ hS => yne rfl rfl) (Ext.drew0 w6) ?_
                  refine hFalse (by (first | exact fun h => h rfl | assumption | omega)) ?_
                  refine hTake (i := 12) rfl (by kernel_rfl) rfl rfl (fun _ hS => ymv rfl) (Ext.drew0 w6) ?_
                  refine hTake (i := 13) rfl (by kernel_rfl) rfl rfl (fun _ hS => ymv rfl) (Ext.drew0 w6) ?_
                  refine hTake (i := 14) rfl (by kernel_rfl) rfl rfl (fun _ hS => yia Try.underlying75 ti46 rfl rfl (by omega)) (Ext.drew0 w6) ?_
                  refine hTake (i := 17) rfl (by kernel_rfl) rfl rfl (fun _ hS => ymv rfl) (Ext.drew0 w6) ?_
                  refine hTake (i := 18) rfl (by kernel_rfl) rfl rfl (fun _ hS => yia Try.underlying77 ti76 rfl rfl (by omega)) (Ext.drew0 w6) ?_
                  refine hTake (i := 15) rfl (by kernel_rfl) rfl rfl (fun _ hS => yld Try.underlying46 rfl rfl (Ext.blk hS hT6.a) (get2 P' j _ hj hp6)) (Ext.drew0 w6) ?_
                  refine hTake (i := 19) rfl (by kernel_rfl) rfl rfl (fun _ hS => yld Try.underlying76 rfl rfl (Ext.blk hS hT6.b) (get2 Q' j _ hj hq6)) (Ext.drew0 w6) ?_
                  refine hOne (i := 16) (by kernel_rfl) ?_
                  refine nCall (i := 16) rfl rfl rfl (yc (args := [.tmp 140]) cf46 rfl) (sizeA_ret hPd.d) ?_
                  rintro _ w7 ⟨rfl, rfl⟩
                  refine ⟨Ext.drew0 w6, ?_⟩
                  refine hOne (i := 20) (by kernel_rfl) ?_
                  refine nCall (i := 20) rfl rfl rfl (yc (args := [.tmp 144]) cf47 rfl) (rsizeA_ret hPd.r) ?_
                  rintro _ w7 ⟨rfl, rfl⟩
                  refine ⟨Ext.drew0 w6, ?_⟩
                  refine hTake (i := 21) rfl (by kernel_rfl) rfl rfl (fun _ hS => yne rfl rfl) (Ext.drew0 w6) ?_
                  refine hFalse (by (first | exact fun h => h rfl | assumption | omega)) ?_
                  refine hTake (i := 22) rfl (by kernel_rfl) rfl rfl (fun _ hS => ypF rfl rfl) (Ext.drew0 w6) ?_
                  refine hTake (i := 23) rfl (by kernel_rfl) rfl rfl (fun _ hS => ymv rfl) (Ext.drew0 w6) ?_
                  refine hTake (i := 24) rfl (by kernel_rfl) rfl rfl (fun _ hS => ymv rfl) (Ext.drew0 w6) ?_
                  refine hTake (i := 25) rfl (by kernel_rfl) rfl rfl (fun _ hS => yia Try.underlying77 ti76 rfl rfl (by omega)) (Ext.drew0 w6) ?_
                  refine hTake (i := 26) rfl (by kernel_rfl) rfl rfl (fun _ hS => yld Try.underlying76 rfl rfl (Ext.blk hS hT6.b) (get2 Q' j _ hj hq6)) (Ext.drew0 w6) ?_
                  refine hTake (i := 27) rfl (by kernel_rfl) rfl rfl (fun _ hS => (by first | exact ync rfl | exact yncf rfl)) (Ext.drew0 w6) ?_
                  refine hTake (i := 28) rfl (by kernel_rfl) rfl rfl (fun _ hS => yfa fl86_0 rfl) (Ext.drew0 w6) ?_
                  refine hTake (i := 29) rfl (by kernel_rfl) rfl rfl (fun _ hS => yfa fl74_0 rfl) (Ext.drew0 w6) ?_
                  refine hTake (i := 30) rfl (by kernel_rfl) rfl rfl (fun _ hS => yld Try.underlying3 rfl rfl (Ext.blk hS hBq) rfl) (Ext.drew0 w6) ?_
                  refine hTake (i := 31) rfl (by kernel_rfl) rfl rfl (fun _ hS => yle rfl rfl) (Ext.drew0 w6) ?_
                  refine rh_if (fun h64 => ?_) (fun h64 => ?_)
                  · skip
                    refine hTake (i := 32) rfl (by kernel_rfl) rfl rfl (fun _ hS => ymv rfl) (Ext.drew0 w6) ?_
                    refine hTake (i := 33) rfl (by kernel_rfl) rfl rfl (fun _ hS => ymv rfl) (Ext.drew0 w6) ?_
                    refine hTake (i := 34) rfl (by kernel_rfl) rfl rfl (fun _ hS => yia Try.underlying75 ti46 rfl rfl (by omega)) (Ext.drew0 w6) ?_
                    refine hTake (i := 36) rfl (by kernel_rfl) rfl rfl (fun _ hS => ymv rfl) (Ext.drew0 w6) ?_
                    refine hTake (i := 37) rfl (by kernel_rfl) rfl rfl (fun _ hS => yia Try.underlying77 ti76 rfl rfl (by omega)) (Ext.drew0 w6) ?_
                    refine hTake (i := 35) rfl (by kernel_rfl) rfl rfl (fun _ hS => yld Try.underlying46 rfl rfl (Ext.blk hS hT6.a) (get2 P' j _ hj hp6)) (Ext.drew0 w6) ?_
                    refine hTake (i := 38) rfl (by kernel_rfl) rfl rfl (fun _ hS => yld Try.underlying76 rfl rfl (Ext.blk hS hT6.b) (get2 Q' j _ hj hq6)) (Ext.drew0 w6) ?_
                    refine hOne (i := 39) (by kernel_rfl) ?_
                    refine nCall (i := 39) rfl rfl rfl (yc (args := [.tmp 160, .tmp 163]) cf48 rfl) (imageL_ret hPd hSm6 (by omega)) ?_
                    rintro _ w8 ⟨rfl, hx8⟩
                    refine ⟨(Ext.drew0 w6).trans hx8, ?_⟩
                    refine hTake (i := 40) rfl (by kernel_rfl) rfl rfl (fun _ hS => (by first | exact yntd rfl | exact ynt rfl)) ((Ext.drew0 w6).trans hx8) ?_
                    refine hTake (i := 41) rfl (by kernel_rfl) rfl rfl (fun _ hS => ypT rfl rfl) ((Ext.drew0 w6).trans hx8) ?_
                    refine hTake (i := 42) rfl (by kernel_rfl) rfl rfl (fun _ hS => ypF rfl rfl) ((Ext.drew0 w6).trans hx8) ?_
                    refine hEnd (by kernel_rfl) ?_
                    refine run_false rfl ?_
                    refine run_skip ?_
                    refine run_inBlock ?_
                    refine run_reg rfl ?_
                    refine rVal rfl rfl (ymv rfl) ?_
                    refine rVal rfl rfl (yad rfl rfl (by omega)) ?_
                    refine rVal rfl rfl (yas rfl) ?_
                    refine rEnd ?_
                    exact (ih (i + 1) _ ⟨by omega, P', Q', X', hT6.grow ((Ext.drew0 w6).trans hx8)⟩ (by omega)).sub (by repeat (first | exact Sub.nil | refine Sub.cons rfl ?_))
                  · skip
                    refine hTake (i := 32) rfl (by kernel_rfl) rfl rfl (fun _ hS => ymv rfl) (Ext.drew0 w6) ?_
                    refine hSkip (i := 33) rfl (by kernel_rfl) rfl rfl (Ext.drew0 w6) ?_
                    refine hSkip (i := 34) rfl (by kernel_rfl) rfl rfl (Ext.drew0 w6) ?_
                    refine hSkip (i := 35) rfl (by kernel_rfl) rfl rfl (Ext.drew0 w6) ?_
                    refine hSkip (i := 36) rfl (by kernel_rfl) rfl rfl (Ext.drew0 w6) ?_
                    refine hSkip (i := 37) rfl (by kernel_rfl) rfl rfl (Ext.drew0 w6) ?_
                    refine hSkip (i := 38) rfl (by kernel_rfl) rfl rfl (Ext.drew0 w6) ?_
                    refine hSkip (i := 39) rfl (by kernel_rfl) rfl rfl (Ext.drew0 w6) ?_
                    refine hSkip (i := 40) rfl (by kernel_rfl) rfl rfl (Ext.drew0 w6) ?_
                    refine hTake (i := 41) rfl (by kernel_rfl) rfl rfl (fun _ hS => ypF rfl rfl) (Ext.drew0 w6) ?_
                    refine hTake (i := 42) rfl (by kernel_rfl) rfl rfl (fun _ hS => ypF rfl rfl) (Ext.drew0 w6) ?_
                    refine hEnd (by kernel_rfl) ?_
                    refine run_false rfl ?_
                    refine run_skip ?_
                    refine run_inBlock ?_
                    refine run_reg rfl ?_
                    refine rVal rfl rfl (ymv rfl) ?_
                    refine rVal rfl rfl (yad rfl rfl (by omega)) ?_
                    refine rVal rfl rfl (yas rfl) ?_
                    refine rEnd ?_
                    exact (ih (i + 1) _ ⟨by omega, P', Q', X', hT6.grow (Ext.drew0 w6)⟩ (by omega)).sub (by repeat (first | exact Sub.nil | refine Sub.cons rfl ?_))
                case hmainn =>
                  have hXlow : ∀ m, F m ∨ G m → w2.heap.size ≤ m ∧ ¬ m = ba ∧ ¬ m = bb := fun m hm => hT.low j m hj ((hX m).2 hm)
                  refine run_if rfl (fun h8 => ?_) (fun h8 => ?_)
                  · skip
                    have hj1 : 1 - j < 2 := by omega
                    have hne : ¬ j = 1 - j := by omega
                    have e1 : (1 : Int) - (j : Int) = ((1 - j : Nat) : Int) := by omega
                    refine run_seq ?_
                    refine run_reg rfl ?_
                    refine rVal rfl rfl (ymv rfl) ?_
                    refine rVal rfl rfl (ysb rfl rfl (by omega)) ?_
                    rw [e1]
                    refine rVal rfl rfl (ymv rfl) ?_
                    refine rVal rfl rfl (yia Try.underlying75 ti46 rfl rfl (by omega)) ?_
                    refine rVal rfl rfl (yld Try.underlying46 rfl rfl hT.a (get2 P j _ hj hp)) ?_
                    refine rCall rfl rfl (yc (args := [.tmp 98]) cf29 rfl) (twinA_ret hPS.d hSm (by omega)) ?_
                    rintro _ w6 ⟨p2, F2, rfl, hA2, hx6, hlF2⟩
                    have hT6 := hT.grow hx6
                    refine rVal rfl rfl (yia Try.underlying75 ti46 rfl rfl (by omega)) ?_
                    refine rEffP rfl (zst ti46 rfl rfl rfl hT6.a (by simp; omega)) ?_
                    rintro w7 ⟨hBa7, hk7⟩
                    have hBb7 := hk7.blk hT6.b (fun e => hT.ne e.symm)
                    have hPS7 := (hPS.ext hx6).kp hk7 (fun m hm e => (hXlow m hm).2.1 e)
                    have hsz6 := hx6.size
                    have hsz7 := hk7.size
                    have hbal := hT.a.lt
                    have hbbl := hT.b.lt
                    have hA7 := hA2.kp hk7 (fun m hm e => by have := hlF2 m hm; omega)
                    refine rEnd ?_
                    refine run_seq ?_
                    refine run_reg rfl ?_
                    refine rVal rfl rfl (ymv rfl) ?_
                    refine rVal rfl rfl (ysb rfl rfl (by omega)) ?_
                    rw [e1]
                    refine rVal rfl rfl (ymv rfl) ?_
                    refine rVal rfl rfl (yia Try.underlying77 ti76 rfl rfl (by omega)) ?_
                    refine rVal rfl rfl (yld Try.underlying76 rfl rfl hBb7 (get2 Q j _ hj hq)) ?_
                    refine rCall rfl rfl (yc (args := [.tmp 105]) cf43 rfl) (rtwinA_ret hPS7.r hSm (by omega)) ?_
                    rintro _ w8 ⟨q2, G2, rfl, hR2, hx8, hlG2⟩
                    have hsz8 := hx8.size
                    refine rVal rfl rfl (yia Try.underlying77 ti76 rfl rfl (by omega)) ?_
                    refine rEffP rfl (zst ti76 rfl rfl rfl (hx8.blk hBb7) (by simp; omega)) ?_
                    rintro w9 ⟨hBb9, hk9⟩
                    have hBa9 := hk9.blk (hx8.blk hBa7) hT.ne
                    have hPS9 := (hPS7.ext hx8).kp hk9 (fun m hm e => (hXlow m hm).2.2 e)
                    have hA9 := (hA7.ext hx8).kp hk9 (fun m hm e => by have := hlF2 m hm; omega)
                    have hR9 := hR2.kp hk9 (fun m hm e => by have := hlG2 m hm; omega)
                    have hPS2 : PairS w9 p2 q2 D D F2 G2 := ⟨hA9, hR9, fun m hf hg => by have := hA7.lt m hf; have := hlG2 m hg; omega⟩
                    have hszT := hT.ext.size
                    have hT9 := hT6.put (v := ptr p2 0) (u := ptr q2 0) (Y := fun m => F2 m ∨ G2 m) hj1 hBa7 hk7 hx8 hBb9 hk9 (.inr ⟨p2, q2, D, F2, G2, rfl, rfl, hPS2, hSm, fun m => Iff.rfl⟩)
                      (fun m hm => by
                        rcases hm with h | h
                        · have := hlF2 m h; exact ⟨by omega, by omega, by omega⟩
                        · have := hlG2 m h; exact ⟨by omega, by omega, by omega⟩)
                      (fun m hm j' hj' hne' hXX => by
                        have := (hT.st j' hj').lt m hXX
                        rcases hm with h | h
                        · have := hlF2 m h; omega
                        · have := hlG2 m h; omega)
                    refine rEnd ?_
                    refine run_seq ?_
                    refine run_reg rfl ?_
                    refine rVal rfl rfl (ymv rfl) ?_
                    refine rVal rfl rfl (ysb rfl rfl (by omega)) ?_
                    rw [e1]
                    refine rVal rfl rfl (yia Try.underlying75 ti46 rfl rfl (by omega)) ?_
                    refine rVal rfl rfl (yld Try.underlying46 rfl rfl hBa9 (by rw [List.getElem?_set_self (by simp; omega)])) ?_
                    refine rVal rfl rfl (yeqpN Try.underlying46 rfl rfl) ?_
                    refine rEnd ?_
                    refine run_false rfl ?_
                    refine run_skip ?_
                    exact (hkn _ _ ⟨rfl, _, _, _, p, q, D, F, G, hT9.mono (by omega), by simp only [upd2, if_neg hne]; exact hp, by simp only [upd2, if_neg hne]; exact hq, hPS9, hSm.mono (by omega)⟩).sub (by repeat (first | exact Sub.nil | refine Sub.cons rfl ?_))
                  · skip
                    have hja : ¬ X j ba := fun h => (hT.low j ba hj h).2.1 rfl
                    have hjb : ¬ X j bb := fun h => (hT.low j bb hj h).2.2 rfl
                    have hjo : ¬ X j b := fun h => by have := (hT.low j b hj h).1; omega
                    refine run_seq ?_
                    refine run_draw (fun w' => Kp (X j) w5 w') (by kernel_rfl) rfl ?_
                    refine hTake (i := 0) rfl (by kernel_rfl) rfl rfl (fun _ hS => ymv rfl) ((Kp.refl _ w5).drew) ?_
                    refine hTake (i := 1) rfl (by kernel_rfl) rfl rfl (fun _ hS => yia Try.underlying75 ti46 rfl rfl (by omega)) ((Kp.refl _ w5).drew) ?_
                    refine hTake (i := 3) rfl (by kernel_rfl) rfl rfl (fun _ hS => ymv rfl) ((Kp.refl _ w5).drew) ?_
                    refine hTake (i := 4) rfl (by kernel_rfl) rfl rfl (fun _ hS => yia Try.underlying77 ti76 rfl rfl (by omega)) ((Kp.refl _ w5).drew) ?_
                    refine hTake (i := 6) rfl (by kernel_rfl) rfl rfl (fun _ hS => ymv rfl) ((Kp.refl _ w5).drew) ?_
                    refine hTake (i := 7) rfl (by kernel_rfl) rfl rfl (fun _ hS => ymv rfl) ((Kp.refl _ w5).drew) ?_
                    refine hTake (i := 8) rfl (by kernel_rfl) rfl rfl (fun _ hS => yis Try.underlying62 ti64 rfl rfl (by omega)) ((Kp.refl _ w5).drew) ?_
                    refine hTake (i := 2) rfl (by kernel_rfl) rfl rfl (fun _ hS => yld Try.underlying46 rfl rfl (hS.blk hT.a hja) (get2 P j _ hj hp)) ((Kp.refl _ w5).drew) ?_
                    refine hTake (i := 5) rfl (by kernel_rfl) rfl rfl (fun _ hS => yld Try.underlying76 rfl rfl (hS.blk hT.b hjb) (get2 Q j _ hj hq)) ((Kp.refl _ w5).drew) ?_
                    refine hTake (i := 9) rfl (by kernel_rfl) rfl rfl (fun _ hS => yldA Try.underlying64 rfl ti64 rfl (kp_cells hcelli hS hjo) rfl) ((Kp.refl _ w5).drew) ?_
                    refine hOne (i := 10) (by kernel_rfl) ?_
                    refine nCall (i := 10) rfl rfl rfl (yc (args := [.tmp 115, .tmp 118, .tmp 122]) cf44 rfl) (does_ret ov o hok (hPS.ext (Ext.drew0 w5)) hSm (by omega) (hroi.ext (Ext.drew0 w5)) (fun h0 g hg h => by have := hro0.lt0 (by omega) h0 hg; have := (hXlow g h).1; omega)) ?_
                    rintro _ w6 ⟨rfl, F6, G6, hPS6, hp6⟩
                    refine ⟨((Kp.refl _ w5).drew).trans (hp6.kp.mono' fun m hm => (hX m).2 hm), ?_⟩
                    refine hTake (i := 11) rfl (by kernel_rfl) rfl rfl (fun _ hS => (by first | exact yntd rfl | exact ynt rfl)) (((Kp.refl _ w5).drew).trans (hp6.kp.mono' fun m hm => (hX m).2 hm)) ?_
                    refine hEnd (by kernel_rfl) ?_
                    refine run_false rfl ?_
                    refine run_skip ?_
                    exact (hkn _ _ ⟨rfl, P, Q, _, p, q, _, F6, G6, (hT.grow (Ext.drew0 w5)).pass (D := D) hj hp hq hX hPS6 hp6 (small_op hok hSm) (by omega), hp, hq, hPS6, small_op hok hSm⟩).sub (by repeat (first | exact Sub.nil | refine Sub.cons rfl ?_))
            case hmainm =>
              refine run_if rfl (fun hw => ?_) (fun hw => ?_)
              · skip
                refine run_reg rfl ?_
                refine rVal rfl rfl (yas rfl) ?_
                refine rEnd ?_
                exact (hkm _ _ ⟨1, by omega, rfl, rfl⟩).sub (by repeat (first | exact Sub.nil | refine Sub.cons rfl ?_))
              · skip
                refine run_skip ?_
                exact (hkm _ _ ⟨0, by omega, rfl, rfl⟩).sub (by repeat (first | exact Sub.nil | refine Sub.cons rfl ?_))
          · skip
            refine rVal rfl rfl (ypT rfl rfl) ?_
            refine rEnd ?_
            refine run_false rfl ?_
            refine run_exit rfl ?_
            refine run_seq ?_
            refine run_reg rfl ?_
            refine rVal rfl rfl (yas rfl) ?_
            refine rEnd ?_
            refine run_ret Try.func10 rfl ?_
            exact ⟨_, rfl, rfl, hx0i⟩
        · skip
          refine rVal rfl rfl (ymv rfl) ?_
          refine rSkip rfl rfl ?_
          refine rSkip rfl rfl ?_
          refine rVal rfl rfl (ypF rfl rfl) ?_
          refine rEnd ?_
          refine run_false rfl ?_
          refine run_exit rfl ?_
          refine run_seq ?_
          refine run_reg rfl ?_
          refine rVal rfl rfl (yas rfl) ?_
          refine rEnd ?_
          refine run_ret Try.func10 rfl ?_
          exact ⟨_, rfl, rfl, hx0i⟩
end Go.Proofs.Ytdapkfppcaaohaa
