/- Texts TrTo, TrWh, PgC, TrLd, R8A, R8C, one behind the other (what the statement TreeShape does not use is left out). -/
import Derived.Test.YtocnhaoilnojmaaGreatTSp1
import Derived.Test.YtocnhaoilnojmaaGreatTSp6
import Derived.Test.YtocnhaoilnojmaaGreatTSp5
import Derived.Test.YtocnhaoilnojmaaGreatTSp4
import Derived.Test.YtocnhaoilnojmaaGreatTSp3
namespace Go.Proofs.YtocnhaoilnojmaaGreat
open Go Go.RowKit
set_option linter.all false
set_option maxRecDepth 100000
theorem bn_okAll {z : Nat} {N : Nodes} (hz : sizeOk (z : Int)) : ∀ {h : Nat} {no : Int} {lo : Bytes} {hi : Option Bytes} {ns : List Int} {es : Es}, Bn z N h no lo hi ns es → ∀ x ∈ ns, ∃ n, N x = some n ∧ NdOk z n
 | 0, _, _, _, _, _, s, _, _ => s.elim
 | 1, _, _, _, _, _, s, x, hx => by
   obtain ⟨h1, rfl, -⟩ := s.leaf (by have := hz.2.1; omega); obtain ⟨n, h2, h3, -⟩ := bn_at s; simp at hx; subst hx
   exact ⟨n, h2, h3⟩
 | h + 2, _, _, hi, _, _, s, x, hx => by
   obtain ⟨n, h2, h3, -⟩ := bn_at s; obtain ⟨c, ps, n1, -, rfl, -, -, -, -, -, hC⟩ := s.inner (by have := hz.1; omega); obtain ⟨L, hl, hS, rfl, rfl⟩ := (ch_iff hi).1 hC; rcases List.mem_cons.1 hx with rfl | hx
   ·exact ⟨n, h2, h3⟩
   ·obtain ⟨l, fo, nV⟩ := List.mem_flatMap.1 hx; obtain ⟨i, ab, e⟩ := List.getElem_of_mem fo; exact bn_okAll hz (hS i _ l (List.getElem?_eq_getElem (by rw [bnds_length]; omega)) (by rw [List.getElem?_eq_getElem ab, e])) x nV
theorem Inv.nodup {T : Tr} {H : Nat} {ns : List Int} {es : Es} (h : Inv T H ns es) : ns.Nodup := by
 rcases h.std with ⟨-, -, rfl, -⟩ | ⟨-, -, -, h, -⟩
 ·simp
 ·exact h
theorem Inv.mem {T : Tr} {H : Nat} {ns : List Int} {es : Es} (h : Inv T H ns es) (x : Int) : T.nodes x ≠ none ↔ x ∈ ns := by
 refine ⟨h.all x, fun hx => ?_⟩
 rcases h.std with ⟨-, -, rfl, -⟩ | ⟨-, -, hB, -, -⟩
 ·cases hx
 ·exact Bn.some hB x hx
theorem Inv.ok {T : Tr} {H : Nat} {ns : List Int} {es : Es} (h : Inv T H ns es) (hz : sizeOk (T.size : Int)) {x : Int} {n : Nd} (hn : T.nodes x = some n) : NdOk T.size n := by
 have hx := (h.mem x).1 (by rw [hn]; simp)
 rcases h.std with ⟨-, -, rfl, -⟩ | ⟨-, -, hB, -, -⟩
 ·cases hx
 ·obtain ⟨m, h1, h2⟩ := bn_okAll hz hB x hx; rw [hn] at h1; cases h1; exact h2
section
variable {P : Program} {e : Env} {d : Option Nat} {ty : TypeId} {pos : String} {aft : Array Edge} {g : Option (Nat × Bool)} {x : Operand} {w : World} {κ : Type} [DecidableEq κ] {K : κ → Value} {r m : Nat} {left : List (κ × Value)}
theorem pnx (hx : look e x = some (ptr r 0)) (hi : RgI K w r m left) : Yp P e ⟨d, .next x false, ty, pos, aft, g⟩ w fun v w' => (left = [] ∧ v = .tuple #[.bool false] ∧ w' = w) ∨ ∃ k u l1 l2, left = l1 ++ (k, u) :: l2 ∧ v = .tuple #[.bool true, K k, u] ∧ RgE K w' r m (k, u) (l1 ++ l2) ∧ Kp (fun i => i = r) w w' := by
 rcases ynx hx hi with ⟨h, hy⟩ | ⟨⟨k, u⟩, l1, l2, w', h, hy, h1, h2⟩
 ·exact ⟨_, _, hy, .inl ⟨h, rfl, rfl⟩⟩
 ·exact ⟨_, _, hy, .inr ⟨k, u, l1, l2, h, rfl, h1, h2⟩⟩
end
theorem RgE.i {κ : Type} [DecidableEq κ] {K : κ → Value} {w : World} {r m : Nat} {p : κ × Value} {left : List (κ × Value)} (h : RgE K w r m p left) : RgI K w r m left := h.1
def PgSl (w : World) (v : Value) (l : Pgs) : Prop := Sl w v 55 2 l.length (pgC l)
section
variable {w : World} {p : Nat} {T : Tr} {nb : Int → Nat} {F : Nat → Prop}
theorem keys_iff {T : Tr} {nb : Int → Nat} {kn : List (Int × Value)} (hg : ∀ no, getL kn no = (T.nodes no).map fun _ => ptr (nb no) 0) (x : Int) : x ∈ kn.map (·.1) ↔ T.nodes x ≠ none := by
 constructor
 ·intro hx e; have := hg x; rw [e] at this; exact getL_notin this hx
 ·intro hx
  cases e : T.nodes x with
  | none => exact absurd e hx
  | some n =>
    have := hg x; rw [e] at this; exact List.mem_map.2 ⟨_, getL_mem this, rfl⟩
set_option maxHeartbeats 4000000 in
theorem told_ret (h : TreeA w p T nb F) {H : Nat} {ns : List Int} {es : Es} (hI : Inv T H ns es) (j9 : ns.length ≤ 1000000) {g : Nat} {caps : List Value} {q : Int → Bool} (IW : CF Tryz.prog g) (hw : ∀ w' x, Ext w w' → Ret Tryz.prog g (I x :: caps) w' fun v w'' => v = .bool (q x) ∧ w'' = w') :
  Ret Tryz.prog 55 [ptr p 0, .func (.func g) #[] caps.toArray] w fun v w' => Ext w w' ∧ PgSl w' v (pgs T.size T.nodes ns q) ∧ ∀ g, v.ownBlock = some g → w.heap.size ≤ g := by
 have hz : sizeOk (T.size : Int) := size_ok h
 obtain ⟨mN, mC, mO, gv, kn, kc, ko, O⟩ := h.opn
 have af := h.lt
 have m5 := keys_iff O.ng
 refine ret_of_run (e := [(0, _), (1, _)]) Tryz.func55 rfl Tryz.ntmps55 rfl rfl (qN rfl (zqa rfl (qM rfl (zqa rfl (rEnd (run_seq (qN rfl (zqm rfl (qV (ynk rfl) (qV (yfa fl74_5 rfl) (qV (yld U71 rfl rfl O.blk rfl) (rValP rfl rfl (prg U71 rfl O.nm) ?_))))))))))))
 rintro _ w1 ⟨r, rfl, hr, aa, aE⟩
 refine rEnd (run_block (zqu (α := List (Int × Value) × Value) ((kn, .slice none 0 0)) (fun x => [(0, ptr p 0), (1, .func (.func g) #[] caps.toArray), (14, ptr r 0), (5, x.2)]) (fun x w' => Ext w w' ∧ RgI KZ w' r mN x.1 ∧ (∀ y ∈ x.1, y ∈ kn) ∧ (x.1.map (·.1)).Nodup ∧ ∃ l : Pgs, Sl w' x.2 55 2 l.length (pgC l) ∧ (∀ g, x.2.ownBlock = some g → w.heap.size ≤ g ∧ g ≠ r) ∧ (l.map (·.1)).Nodup ∧ (∀ y ∈ l, y.2 = encAt T.size T.nodes y.1) ∧ ∀ z, z ∈ l.map (·.1) ↔ (z ∈ ns ∧ q z = true ∧ z ∉ x.1.map (·.1))) (fun x => x.1.length) ?hI ?hround))
 case hI =>
  refine ⟨aa, aE, fun y hy => hy, O.nm.nd, [], Sl.nil _ _ _, fun g hg => by simp [Value.ownBlock] at hg, by simp, by simp, fun z => ?_⟩; simp only [List.map_nil, List.not_mem_nil, false_iff]; rintro ⟨h1, -, h3⟩; exact h3 ((m5 z).2 ((hI.mem z).2 h1))
 case hround =>
  rintro ⟨left, lv⟩ wi ⟨bC, wl, bH, bz, l, wm, bM, sq, fF, bE⟩ ih; dsimp only at wl bH bz wm bM bE
  have l0 : l.length ≤ ns.length := by
   have := List.Nodup.length_le_of_subset sq (l₂ := ns) (fun z hz => ((bE z).1 hz).1)
   simpa using this
  have vD := bC.size
  try dsimp only
  refine qN rfl (rValP rfl rfl (pnx rfl wl) ?_); rintro v2 w2 hv; rcases hv with ⟨rfl, rfl, rfl⟩ | ⟨x, u, l1, l2, rfl, rfl, o4, am⟩
  ·refine qV (yex rfl rfl) (rEnd (run_seq (run_false rfl (run_exit rfl (qN rfl (zqm rfl (zqc [.tmp 40, .func 91] cf90 rfl (sortP_ret wm (by omega) (fun y hy => by have := hI.num y.1 ((hI.mem _).2 ((bE y.1).1 (List.mem_map.2 ⟨y, hy, rfl⟩)).1); omega)) ?_))))))); rintro _ w3 ⟨rfl, aw, l', hp, wn, bs⟩; refine qM rfl (zqm rfl (zqa rfl (rEnd (run_ret Tryz.func55 rfl ?_)))); have gC : ∀ z, z ∈ l'.map (·.1) ↔ z ∈ l.map (·.1) := fun z => (hp.map _).mem_iff; have e : l' = pgs T.size T.nodes ns q := pgs_of hI.nodup wn ((hp.map _).nodup_iff.2 sq) (fun z => by rw [gC z, bE z]; simp) (fun y hy => fF y (hp.mem_iff.1 hy)); rw [e] at bs; exact ⟨_, rfl, bC.trans_new aw (fun i hi => (bM i hi).1), bs, fun g hg => (bM g hg).1⟩
  ·have E3 : (x, u) ∈ kn := bH _ (by simp); have lx := getL_of_mem O.nm.nd E3; rw [O.ng x] at lx
   obtain ⟨n, hn⟩ : ∃ n, T.nodes x = some n := by
    cases e : T.nodes x with
    | none => rw [e] at lx; cases lx
    | some n => exact ⟨n, rfl⟩
   rw [hn] at lx; have hu : u = ptr (nb x) 0 := (oinj lx).symm; subst hu; have ae : Ext w w2 := bC.trans_new am (fun i hi => by omega); have h2 := h.ext ae; obtain ⟨pl, tu, hM, -, -⟩ := h2.nodeF hn; obtain ⟨qb, qk, qv, qc⟩ := pl; dsimp only at tu; subst tu; have ar := hM.blk; dsimp only at ar; have ey := ae.blk O.blk; have bB := wm.kp am (fun g hg e => (bM g hg).2 e)
   have cV : x ∉ (l1 ++ l2).map (·.1) := fun hx => by
    rw [List.map_append, List.map_cons] at bz; have h3 := List.nodup_append.1 bz; rw [List.map_append] at hx; rcases List.mem_append.1 hx with hx | hx
    ·exact h3.2.2 x hx x (List.mem_cons_self ..) rfl
    ·exact (List.nodup_cons.1 h3.2.1).1 hx
   have eP : ((l1 ++ l2).map (·.1)).Nodup := by
    rw [List.map_append, List.map_cons] at bz; rw [List.map_append]; have h3 := List.nodup_append.1 bz; exact List.nodup_append.2 ⟨h3.1, (List.nodup_cons.1 h3.2.1).2, fun a ha b hb => h3.2.2 a ha b (List.mem_cons_of_mem _ hb)⟩
   have lq : ∀ z, z ∈ (l1 ++ (x, ptr (nb x) 0) :: l2).map (·.1) ↔ z = x ∨ z ∈ (l1 ++ l2).map (·.1) := fun z => by
    simp only [List.map_append, List.map_cons, List.mem_append, List.mem_cons]; constructor
    ·rintro (h | h | h)
     ·exact .inr (.inl h)
     ·exact .inl h
     ·exact .inr (.inr h)
    ·rintro (h | h | h)
     ·exact .inr (.inl h)
     ·exact .inl h
     ·exact .inr (.inr h)
   have E4 : x ∈ ns := (hI.mem x).1 (by rw [hn]; simp)
   have gO : ∀ y ∈ l1 ++ l2, y ∈ kn := fun y hy => bH y (by
    rcases List.mem_append.1 hy with hy | hy
    ·exact List.mem_append_left _ hy
    ·exact List.mem_append_right _ (List.mem_cons_of_mem _ hy))
   have cq : (l1 ++ l2).length < (l1 ++ (x, ptr (nb x) 0) :: l2).length := by simp
   have eQ := ae.size; refine qV (yex rfl rfl) (rEnd (run_seq (run_true rfl (run_skip (run_block (qN rfl (qV (yen rfl o4) ?_))))))); dsimp only; refine qV (yex rfl rfl) (qV (yex rfl rfl) (zqa rfl (zqa rfl (qM rfl (zqm rfl (zqm rfl (rCall rfl rfl (ycv' (args := [.tmp 21]) IW rfl rfl) (hw w2 x ae) ?_))))))); rintro _ w2 ⟨rfl, rfl⟩; refine rEnd (run_cond rfl (fun hq => ?_) (fun hq => ?_))
   ·have ag := Ext.drew0 w2; refine run_seq (run_draw (fun w' => Ext w2 w') (by kernel_rfl) rfl (zqt 0 rfl (ymv rfl) ag (zqt 1 rfl (ynk rfl) ag (qT 2 rfl (fun _ hS => (by first | exact yldA U84 rfl ti84 rfl (Blk.cells (n := 4) (hS.blk ar) (news := [_, _, _, _]) rfl) rfl | exact yldA U84 rfl ti84 rfl (Blk.cells (n := 4) (hS.blk ey) (news := [_, _, _, _]) rfl) rfl)) ag ?_)))); refine zqt 3 rfl (ymv rfl) ag (zqt 4 rfl (ynk rfl) ag (zqt 5 rfl (yfa fl74_0 rfl) ag (qT 6 rfl (fun _ h=>(by first | exact yld U3 rfl rfl (h.blk ar) rfl | exact yld U3 rfl rfl (h.blk ey) rfl)) ag ?_))); refine zqo 7 [.tmp 26, .tmp 30] rfl cf83 rfl (encode_ret (n := n) (hM.r.ext ag) hM.bd hz) ?_; rintro v3 w3 ⟨ah, gV⟩; refine ⟨ag.trans ah, ?_⟩
    obtain rfl : v3 = .tuple #[S (enc T.size n), I 0] := by
     rcases gV with ⟨-, e⟩ | ⟨e, -⟩
     ·exact e
     ·exact absurd (hI.ok hz hn) e
    have jj := ag.trans ah; refine zqt 8 rfl (ymv rfl) (ag.trans ah) (zqt 9 rfl (yex rfl rfl) (ag.trans ah) (zqt 10 rfl (yex rfl rfl) (ag.trans ah) (zqt 11 rfl (yas rfl) (ag.trans ah) (zqt 12 rfl (yas rfl) (ag.trans ah) (qE (run_reg rfl (zqm rfl (zqm rfl (zqm rfl (qV (ybd (parts := [(0, .tmp 35), (1, .tmp 36)]) (cs := [_, _]) ti55 rfl sp55 rfl rfl) (rValP rfl rfl (pbs (parts := [(0, .tmp 37)]) (cs := [_, _]) (zs := [Value.int .i64 0, Value.string ⟨#[]⟩]) U52 ti55 rfl (by kernel_rfl) rfl rfl rfl (by decide)) ?_))))))))))); rintro _ w4 ⟨b4, rfl, ⟨Br, aC, aW⟩, gq⟩; have dL : maxLen = 9223372036854775807 := rfl; refine rValP rfl rfl (pap U52 ti55 rfl (by decide) rfl rfl ((bB.ext jj).ext aC) gq.rd (by intro c hc; simp at hc; rcases hc with rfl | rfl <;> rfl) (by omega) (by omega)) ?_; rintro lv5 w5 ⟨cf, bh, BZ, -⟩; refine zqa rfl (rEnd (run_inBlock ?_)); have jq := (jj.trans aC).size
    have ic : r < w2.heap.size := by
     obtain ⟨es0, c0, s0, c1, si0, -, mh, -⟩ := o4.i; exact lt_of_heap mh
    have lS : Ext w w4 := (ae.trans jj).trans aC; refine (ih (l1 ++ l2, lv5) w5 ⟨lS.trans_new bh (fun i hi => (bM i hi).1), ?_, gO, eP, l ++ [(x, enc T.size n)], ?_, fun g hg => ?_, ?_, fun y hy => ?_, fun z => ?_⟩ cq).qb
    ·refine ((o4.i.kp (jj.trans aC) id id)).kp bh (fun e => (bM r e).2 rfl) (fun e => ?_); have := (bM mN e).1; have := af mN O.fp.2.1; omega
    ·rw [pgC_app, List.length_append]; exact cf
    ·rcases BZ g hg with e | e
     ·exact bM g e
     ·omega
    ·rw [List.map_append]
     exact List.nodup_append.2 ⟨sq, by simp, fun a ha b hb e => by
      simp at hb; subst hb; subst e
      exact ((bE a).1 ha).2.2 ((lq a).2 (.inl rfl))⟩
    ·rcases List.mem_append.1 hy with hy | hy
     ·exact fF y hy
     ·simp at hy; subst hy; simp only [encAt, hn]
    ·rw [List.map_append, List.mem_append, bE z, lq z]; simp only [List.map_cons, List.map_nil, List.mem_singleton]; constructor
     ·rintro (⟨a, b, c⟩ | rfl)
      ·exact ⟨a, b, fun e => c (.inr e)⟩
      ·exact ⟨E4, hq, cV⟩
     ·rintro ⟨a, b, c⟩; by_cases e : z = x
      ·exact .inr e
      ·exact .inl ⟨a, b, fun hh => hh.elim e c⟩
   ·refine run_skip (run_inBlock ((ih (l1 ++ l2, lv) w2 ⟨ae, o4.i, gO, eP, l, bB, bM, sq, fF, fun z => ?_⟩ cq).qb)); rw [bE z, lq z]; constructor
    ·rintro ⟨a, b, c⟩; exact ⟨a, b, fun e => c (.inr e)⟩
    ·rintro ⟨a, b, c⟩; exact ⟨a, b, fun hh => hh.elim (fun e => by rw [e, hq] at b; cases b) c⟩
theorem pages1 (w : World) (x : Int) : Ret Tryz.prog 56 [I x] w fun v w' => v = .bool true ∧ w' = w := by
 refine ret_of_run (e := [(0, _)]) Tryz.func56 rfl Tryz.ntmps56 rfl rfl (qN rfl (zqa rfl (qM rfl (zqa rfl (rEnd (run_ret Tryz.func56 rfl ?_))))))
 exact ⟨_, rfl, rfl, rfl⟩
theorem pages_ret (h : TreeA w p T nb F) {H : Nat} {ns : List Int} {es : Es} (hI : Inv T H ns es) (j9 : ns.length ≤ 1000000) :
  Ret Tryz.prog 22 [ptr p 0] w fun v w' => Ext w w' ∧ PgSl w' v (pgs T.size T.nodes ns fun _ => true) ∧ ∀ g, v.ownBlock = some g → w.heap.size ≤ g := by
 refine ret_of_run (e := [(0, _)]) Tryz.func22 rfl Tryz.ntmps22 rfl rfl (qN rfl (zqa rfl (rEnd (run_seq (qN rfl (zqm rfl (qV (yeqpN U24 rfl rfl) (rEnd (run_false rfl (run_skip (qN rfl (zqm rfl (zqc [.tmp 5, .func 56] cf55 rfl (told_ret (caps := []) (q := fun _ => true) h hI j9 cf56 (fun w' x _ => pages1 w' x)) ?_)))))))))))))
 rintro v w1 ⟨aa, dC, dQ⟩
 refine zqa rfl (rEnd (run_ret Tryz.func22 rfl ?_))
 exact ⟨_, rfl, aa, dC, dQ⟩
theorem changed1 {w : World} {bt : Nat} {mN mC mO : Nat} {gv : Value} {kc : List (Int × Value)} (hB : Blk w bt [ptr p 0] 24) (hT : Blk w p (trCs T mN mC mO gv) 74) (hm : MapB KZ w mC kc) (hg : ∀ no, getL kc no = flag (T.changed no)) (x : Int) :
  Ret Tryz.prog 63 [I x, ptr bt 0] w fun v w' => v = .bool (T.changed x) ∧ w' = w := by
 refine ret_of_run (e := [(0, _), (1, _)]) Tryz.func63 rfl Tryz.ntmps63 rfl rfl (qN rfl (zqa rfl (qM rfl (qV ((by first | exact yld U24 rfl rfl hB rfl | exact yld U24 rfl rfl hT rfl)) ?_))))
 refine qV (ynk rfl) (qV (yfa fl74_7 rfl) (qV ((by first | exact yld U72 rfl rfl hB rfl | exact yld U72 rfl rfl hT rfl)) ?_))
 refine zqm rfl (qV (ylk (k := x) (K := KZ) U72 (ky_int U3) ti3 rfl rfl hm.l) ?_)
 rw [show (getL kc x).getD (I 0) = I (if T.changed x then 1 else 0) by rw [hg x]; cases T.changed x <;> rfl]
 refine qV (ygt rfl rfl) (zqa rfl (rEnd (run_ret Tryz.func63 rfl ?_)))
 exact ⟨_, rfl, by cases T.changed x <;> rfl, rfl⟩
theorem changed_ret (h : TreeA w p T nb F) {H : Nat} {ns : List Int} {es : Es} (hI : Inv T H ns es) (j9 : ns.length ≤ 1000000) :
  Ret Tryz.prog 31 [ptr p 0] w fun v w' => Ext w w' ∧ PgSl w' v (pgs T.size T.nodes ns T.changed) ∧ ∀ g, v.ownBlock = some g → w.heap.size ≤ g := by
 obtain ⟨mN, mC, mO, gv, kn, kc, ko, O⟩ := h.opn
 refine ret_of_run (e := [(0, _)]) Tryz.func31 rfl Tryz.ntmps31 rfl rfl (qN rfl (rValP rfl rfl (pbx rfl rfl) ?_))
 rintro _ w1 ⟨bt, rfl, BP, aa, ai⟩
 refine zqa rfl (rEnd (run_seq (qN rfl (qV (yld U24 rfl rfl ai rfl) (qV (yeqpN U24 rfl rfl) (rEnd (run_false rfl (run_skip (qN rfl (qV (yld U24 rfl rfl ai rfl) (qV (ymf (first := []) (caps := [.tmp 1]) rfl rfl) ?_)))))))))))
 have eI := aa.size
 refine zqc [.tmp 5, .tmp 6] cf55 rfl (told_ret (caps := [ptr bt 0]) (q := T.changed) (h.ext aa) hI j9 cf63 (fun w' x hx => changed1 (hx.blk ai) ((aa.trans hx).blk O.blk) (O.cm.ext (aa.trans hx)) O.cg x)) ?_
 rintro v w2 ⟨ae, bB, fT⟩
 refine zqa rfl (rEnd (run_ret Tryz.func31 rfl ?_))
 exact ⟨_, rfl, aa.trans ae, bB, fun g hg => by have := fT g hg; omega⟩
set_option maxHeartbeats 4000000 in
theorem freed_ret (h : TreeA w p T nb F) {os : List Int} (IX : ∀ x, T.old x = true → x ∈ os) (Gv : os.length ≤ 1000000) :
  Ret Tryz.prog 28 [ptr p 0] w fun v w' => Ext w w' ∧ ∃ fl : List Int, fl.Pairwise (· < ·) ∧ (∀ x, x ∈ fl ↔ T.old x = true ∧ T.nodes x = none) ∧ fl.length ≤ os.length ∧ Sl w' v 3 1 fl.length (fl.map I) ∧ ∀ g, v.ownBlock = some g → w.heap.size ≤ g := by
 obtain ⟨mN, mC, mO, gv, kn, kc, ko, O⟩ := h.opn
 have af := h.lt
 have dR : ∀ x, x ∈ ko.map (·.1) ↔ T.old x = true := fun x => by
  constructor
  ·intro hx
   cases e : T.old x with
   | true => rfl
   | false =>
     have := O.og x; rw [e] at this; exact absurd hx (getL_notin this)
  ·intro hx; have := O.og x; rw [hx] at this; exact List.mem_map.2 ⟨_, getL_mem this, rfl⟩
 refine ret_of_run (e := [(0, _)]) Tryz.func28 rfl Tryz.ntmps28 rfl rfl (qN rfl (zqa rfl (rEnd (run_seq (qN rfl (zqm rfl (qV (yeqpN U24 rfl rfl) (rEnd (run_false rfl (run_skip (qN rfl (zqa rfl (rEnd ?_)))))))))))))
 refine run_seq (qN rfl (zqm rfl (qV (ynk rfl) (qV (yfa fl74_8 rfl) (qV (yld U72 rfl rfl O.blk rfl) (rValP rfl rfl (prg U72 rfl O.om) ?_))))))
 rintro _ w1 ⟨r, rfl, hr, aa, aE⟩
 refine rEnd (run_block (zqu (α := List (Int × Value) × Value) ((ko, .slice none 0 0)) (fun x => [(0, ptr p 0), (11, ptr r 0), (3, x.2)]) (fun x w' => Ext w w' ∧ RgI KZ w' r mO x.1 ∧ (∀ y ∈ x.1, y ∈ ko) ∧ (x.1.map (·.1)).Nodup ∧ ∃ l : List Int, Sl w' x.2 3 1 l.length (l.map I) ∧ (∀ g, x.2.ownBlock = some g → w.heap.size ≤ g ∧ g ≠ r) ∧ l.Nodup ∧ ∀ z, z ∈ l ↔ (T.old z = true ∧ T.nodes z = none ∧ z ∉ x.1.map (·.1))) (fun x => x.1.length) ?hI ?hround))
 case hI =>
  refine ⟨aa, aE, fun y hy => hy, O.om.nd, [], Sl.nil _ _ _, fun g hg => by simp [Value.ownBlock] at hg, by simp, fun z => ?_⟩; simp only [List.not_mem_nil, false_iff]; rintro ⟨h1, -, h3⟩; exact h3 ((dR z).2 h1)
 case hround =>
  rintro ⟨left, lv⟩ wi ⟨bC, wl, bH, bz, l, wm, bM, sq, bE⟩ ih; dsimp only at wl bH bz wm bM bE; have l0 : l.length ≤ os.length := List.Nodup.length_le_of_subset sq (fun z hz => IX z ((bE z).1 hz).1); have vD := bC.size
  try dsimp only
  refine qN rfl (rValP rfl rfl (pnx rfl wl) ?_); rintro v2 w2 hv; rcases hv with ⟨rfl, rfl, rfl⟩ | ⟨x, u, l1, l2, rfl, rfl, o4, am⟩
  ·refine qV (yex rfl rfl) (rEnd (run_seq (run_false rfl (run_exit rfl (qN rfl (zqm rfl (zqc [.tmp 27] cf62 rfl (sortZ_ret wm (by omega)) ?_))))))); rintro _ w3 ⟨rfl, bs, aw⟩; refine qM rfl (zqm rfl (zqa rfl (rEnd (run_ret Tryz.func28 rfl ?_)))); exact ⟨_, rfl, bC.trans_new aw (fun i hi => (bM i hi).1), sortZ l, sortZ_lt sq, fun x => by rw [sortZ_mem, bE x]; simp, by rw [sortZ_len]; exact l0, bs, fun g hg => (bM g hg).1⟩
  ·have cV : x ∉ (l1 ++ l2).map (·.1) := fun hx => by
    rw [List.map_append, List.map_cons] at bz; have h3 := List.nodup_append.1 bz; rw [List.map_append] at hx; rcases List.mem_append.1 hx with hx | hx
    ·exact h3.2.2 x hx x (List.mem_cons_self ..) rfl
    ·exact (List.nodup_cons.1 h3.2.1).1 hx
   have eP : ((l1 ++ l2).map (·.1)).Nodup := by
    rw [List.map_append, List.map_cons] at bz; rw [List.map_append]; have h3 := List.nodup_append.1 bz; exact List.nodup_append.2 ⟨h3.1, (List.nodup_cons.1 h3.2.1).2, fun a ha b hb => h3.2.2 a ha b (List.mem_cons_of_mem _ hb)⟩
   have lq : ∀ z, z ∈ (l1 ++ (x, u) :: l2).map (·.1) ↔ z = x ∨ z ∈ (l1 ++ l2).map (·.1) := fun z => by
    simp only [List.map_append, List.map_cons, List.mem_append, List.mem_cons]; constructor
    ·rintro (h | h | h)
     ·exact .inr (.inl h)
     ·exact .inl h
     ·exact .inr (.inr h)
    ·rintro (h | h | h)
     ·exact .inr (.inl h)
     ·exact .inl h
     ·exact .inr (.inr h)
   have gO : ∀ y ∈ l1 ++ l2, y ∈ ko := fun y hy => bH y (by
    rcases List.mem_append.1 hy with hy | hy
    ·exact List.mem_append_left _ hy
    ·exact List.mem_append_right _ (List.mem_cons_of_mem _ hy))
   have cq : (l1 ++ l2).length < (l1 ++ (x, u) :: l2).length := by simp
   have IY : T.old x = true := (dR x).1 (List.mem_map.2 ⟨_, bH (x, u) (by simp), rfl⟩); have ae : Ext w w2 := bC.trans_new am (fun i hi => by omega); have ey := ae.blk O.blk; have DZ := O.nm.ext ae; have bB := wm.kp am (fun g hg e => (bM g hg).2 e); have eQ := ae.size; refine qV (yex rfl rfl) (rEnd (run_seq (run_true rfl (run_skip (run_block (qN rfl (qV (yen rfl o4) ?_))))))); dsimp only; refine qV (yex rfl rfl) (zqa rfl (qM rfl (zqm rfl (qV (ynk rfl) (qV (yfa fl74_5 rfl) (qV (yld U71 rfl rfl ey rfl) (zqm rfl (qV (ylk (k := x) (K := KZ) U71 (ky_int U3) ti81 rfl rfl DZ.l) ?_)))))))); rw [show (getL kn x).getD (.pointer none) = (match T.nodes x with | none => .pointer none | some _ => ptr (nb x) 0) by rw [O.ng x]; cases T.nodes x <;> rfl]
   cases zH : T.nodes x with
   | some n0 =>
     refine qV (yeqpN U81 rfl rfl) (rEnd (run_false rfl (run_skip (run_inBlock ((ih (l1 ++ l2, lv) w2 ⟨ae, o4.i, gO, eP, l, bB, bM, sq, fun z => ?_⟩ cq).qb))))); rw [bE z, lq z]; constructor
     ·rintro ⟨a, b, c⟩; exact ⟨a, b, fun e => c (.inr e)⟩
     ·rintro ⟨a, b, c⟩
      exact ⟨a, b, fun hh => hh.elim (fun e => by rw [e, zH] at b; cases b) c⟩
   | none =>
     refine qV (yeqpN U81 rfl rfl) (rEnd (run_true rfl (run_reg rfl (zqm rfl (zqm rfl (rValP rfl rfl (pbs (parts := [(0, .tmp 24)]) (cs := [_]) (zs := [Value.int .i64 0]) U34 ti3 rfl (by kernel_rfl) rfl rfl rfl (by decide)) ?_)))))); rintro _ w4 ⟨b4, rfl, ⟨Br, aC, aW⟩, gq⟩; have dL : maxLen = 9223372036854775807 := rfl; refine rValP rfl rfl (pap U34 ti3 rfl (by decide) rfl rfl (bB.ext aC) gq.rd (by intro c hc; simp at hc; subst hc; rfl) (by omega) (by omega)) ?_; rintro lv5 w5 ⟨cf, bh, BZ, -⟩; refine zqa rfl (rEnd (run_inBlock ?_)); have jq := aC.size
     have ic : r < w2.heap.size := by
      obtain ⟨es0, c0, s0, c1, si0, -, mh, -⟩ := o4.i; exact lt_of_heap mh
     refine (ih (l1 ++ l2, lv5) w5 ⟨(ae.trans aC).trans_new bh (fun i hi => (bM i hi).1), ?_, gO, eP, l ++ [x], ?_, fun g hg => ?_, ?_, fun z => ?_⟩ cq).qb
     ·refine ((o4.i.kp aC id id)).kp bh (fun e => (bM r e).2 rfl) (fun e => ?_); have := (bM mO e).1; have := af mO O.fp.2.2.2.1; omega
     ·rw [List.map_append, List.length_append]; exact cf
     ·rcases BZ g hg with e | e
      ·exact bM g e
      ·omega
     ·exact List.nodup_append.2 ⟨sq, by simp, fun a ha b hb e => by
       simp at hb; subst hb; subst e
       exact ((bE a).1 ha).2.2 ((lq a).2 (.inl rfl))⟩
     ·rw [List.mem_append, bE z, lq z, List.mem_singleton]; constructor
      ·rintro (⟨a, b, c⟩ | rfl)
       ·exact ⟨a, b, fun e => c (.inr e)⟩
       ·exact ⟨IY, zH, cV⟩
      ·rintro ⟨a, b, c⟩; by_cases e : z = x
       ·exact .inr e
       ·exact .inl ⟨a, b, fun hh => hh.elim e c⟩
set_option maxHeartbeats 4000000 in
theorem clean_ret (h : TreeA w p T nb F) : Ret Tryz.prog 58 [ptr p 0] w fun v w' => v = I 0 ∧ TreeA w' p { T with changed := fun _ => false, old := fun x => (T.nodes x).isSome } nb F ∧ Kp F w w' := by
 obtain ⟨mN, mC, mO, gv, kn, kc, ko, O⟩ := h.opn
 have af := h.lt
 have m5 := keys_iff O.ng
 refine ret_of_run (e := [(0, _)]) Tryz.func58 rfl Tryz.ntmps58 rfl rfl (qN rfl (zqa rfl (rEnd (run_seq (qN rfl (zqm rfl (qV (yeqpN U24 rfl rfl) (rEnd (run_false rfl (run_skip (qN rfl (zqm rfl (qV (ynk rfl) ?_)))))))))))))
 refine qV (yfa fl74_7 rfl) (qV (yld U72 rfl rfl O.blk rfl) (rValP0 rfl (pclrM U72 rfl O.cm) ?_))
 rintro _ w1 ⟨bL, aD⟩
 have h1 := O.setC w1 [] (fun _ => false) bL aD (fun _ => rfl)
 have ai := aD.blk O.blk O.ne.2.1.symm
 have x5 := O.nm.kp aD O.ap.1
 have yI := O.om.kp aD O.ap.2.2.symm
 refine qM rfl (zqm rfl (qV (ynk rfl) (qV (yfa fl74_8 rfl) (qV (yld U72 rfl rfl ai rfl) (rValP0 rfl (pclrM U72 rfl yI) ?_)))))
 rintro _ w2 ⟨cu, am⟩
 have ak := am.blk ai O.ne.2.2.1.symm
 have uq := x5.kp am O.ap.2.1
 refine rEnd (run_seq (qN rfl (zqm rfl (qV (ynk rfl) (qV (yfa fl74_5 rfl) (qV (yld U71 rfl rfl ak rfl) (rValP rfl rfl (prg U71 rfl uq) ?_)))))))
 rintro _ w3 ⟨r, rfl, hr, ah, ax⟩
 have eI := aD.size
 have eQ := am.size
 have IZ := af mO O.fp.2.2.2.1
 have J0 := af mN O.fp.2.1
 have Cp := af p O.fp.1
 refine rEnd (run_block (zqu (α := List (Int × Value)) (kn) (fun x => [(0, ptr p 0), (18, ptr r 0), (2, I 0)]) (fun x w' => Kp (fun k => k = mO ∨ w2.heap.size ≤ k) w2 w' ∧ RgI KZ w' r mN x ∧ (∀ y ∈ x, y ∈ kn) ∧ (x.map (·.1)).Nodup ∧ ∃ kv, MapB KZ w' mO kv ∧ ∀ z, getL kv z = flag (decide (T.nodes z ≠ none ∧ z ∉ x.map (·.1)))) (fun x => x.length) ?hI ?hround))
 case hI =>
  refine ⟨ah.kp, ax, fun y hy => hy, O.nm.nd, [], cu.ext ah, fun z => ?_⟩; rw [decide_eq_false (fun hh => hh.2 ((m5 z).2 hh.1))]; rfl
 case hround =>
  rintro left wi ⟨wo, wl, bH, bz, kv, r8, f9⟩ ih; have vD := wo.size
  try dsimp only
  refine qN rfl (rValP rfl rfl (pnx rfl wl) ?_); rintro v2 w4 hv; rcases hv with ⟨rfl, rfl, rfl⟩ | ⟨x, u, l1, l2, rfl, rfl, o4, az⟩
  ·refine qV (yex rfl rfl) (rEnd (run_seq (run_false rfl (run_exit rfl (qN rfl (zqa rfl (rEnd (run_ret Tryz.func58 rfl ?_)))))))); have qZ : Kp (fun k => k = mO) w1 w4 := (am.trans_new wo (fun i hi => hi.elim .inr (fun e => .inl (by omega)))); obtain ⟨mN', mC', mO', gv', kn', kc', ko', O1⟩ := h1.opn; have wq : trCs { T with changed := fun _ => false } mN' mC' mO' gv' = trCs T mN mC mO gv := Blk.inj O1.blk ai; have J1 : mO' = mO := by simp [trCs] at wq; exact wq.2.2.2
   subst J1; refine ⟨_, rfl, rfl, O1.setO w4 kv (fun x => (T.nodes x).isSome) r8 qZ (fun no => ?_), (aD.mono' (fun k e => by rw [e]; exact O.fp.2.2.1)).trans (qZ.mono' (fun k e => by rw [e]; exact O.fp.2.2.2.1))⟩; rw [f9 no]
   congr 1
   cases T.nodes no <;> simp
  ·have cV : x ∉ (l1 ++ l2).map (·.1) := fun hx => by
    rw [List.map_append, List.map_cons] at bz; have h3 := List.nodup_append.1 bz; rw [List.map_append] at hx; rcases List.mem_append.1 hx with hx | hx
    ·exact h3.2.2 x hx x (List.mem_cons_self ..) rfl
    ·exact (List.nodup_cons.1 h3.2.1).1 hx
   have eP : ((l1 ++ l2).map (·.1)).Nodup := by
    rw [List.map_append, List.map_cons] at bz; rw [List.map_append]; have h3 := List.nodup_append.1 bz; exact List.nodup_append.2 ⟨h3.1, (List.nodup_cons.1 h3.2.1).2, fun a ha b hb => h3.2.2 a ha b (List.mem_cons_of_mem _ hb)⟩
   have lq : ∀ z, z ∈ (l1 ++ (x, u) :: l2).map (·.1) ↔ z = x ∨ z ∈ (l1 ++ l2).map (·.1) := fun z => by
    simp only [List.map_append, List.map_cons, List.mem_append, List.mem_cons]; constructor
    ·rintro (h | h | h)
     ·exact .inr (.inl h)
     ·exact .inl h
     ·exact .inr (.inr h)
    ·rintro (h | h | h)
     ·exact .inr (.inl h)
     ·exact .inl h
     ·exact .inr (.inr h)
   have gO : ∀ y ∈ l1 ++ l2, y ∈ kn := fun y hy => bH y (by
    rcases List.mem_append.1 hy with hy | hy
    ·exact List.mem_append_left _ hy
    ·exact List.mem_append_right _ (List.mem_cons_of_mem _ hy))
   have cq : (l1 ++ l2).length < (l1 ++ (x, u) :: l2).length := by simp
   have BX : T.nodes x ≠ none := (m5 x).1 (List.mem_map.2 ⟨_, bH (x, u) (by simp), rfl⟩); have fY : Kp (fun k => k = mO ∨ w2.heap.size ≤ k) w2 w4 := wo.trans (az.mono' (fun k e => .inr (by omega))); have aW := fY.blk ak (fun e => e.elim (fun e => O.ne.2.2.1 e.symm) (fun e => by omega)); have eM := r8.kp az (fun e => by omega); refine qV (yex rfl rfl) (rEnd (run_seq (run_true rfl (run_skip (run_block (qN rfl (qV (yen rfl o4) ?_))))))); dsimp only; refine qV (yex rfl rfl) (zqa rfl (rEnd (run_reg rfl (zqm rfl (qV (ynk rfl) (qV (yfa fl74_8 rfl) (qV (yld U72 rfl rfl aW rfl) (zqm rfl (rEffP rfl (zmuB U72 (ky_int U3) rfl rfl rfl eM (k := x)) ?_))))))))); rintro w5 ⟨dS, bh⟩; refine rEnd (run_inBlock ((ih (l1 ++ l2) w5 ⟨fY.trans (bh.mono' (fun k e => .inl e)), o4.i.kp bh (fun e => by omega) (fun e => O.ap.2.1 e), gO, eP, _, dS, fun z => ?_⟩ cq).qb)); rw [getL_put, f9 z]; by_cases e : z = x
   ·subst e; rw [if_pos rfl, decide_eq_true (⟨BX, cV⟩)]; rfl
   ·rw [if_neg e]
    congr 1
    rw [decide_eq_decide, lq z]; constructor
    ·rintro ⟨a, b⟩; exact ⟨a, fun hh => b (.inr hh)⟩
    ·rintro ⟨a, b⟩; exact ⟨a, fun hh => hh.elim e b⟩
end
def spanC (lo : Bytes) (hi : Option Bytes) (tb : Bytes) : List Value := [S lo, S tb, .bool hi.isSome]
def spanOk (hi : Option Bytes) (tb : Bytes) : Prop := ∀ u, hi = some u → tb = u
section
variable {w : World}
theorem rd_getsK {w : World} {a : Option Addr} {cap n : Nat} {l : List Bytes} {i : Nat} (h : Rd w (.slice a n cap) 1 n (l.map S)) (hn : n = l.length) (hi : i < n) : ∃ b off s, a = some ⟨b, off, none⟩ ∧ l[i]? = some s := by
 subst hn; exact rd_gets h hi
set_option maxHeartbeats 1000000 in
theorem kid_ret {qb : Nat} {n : Nd} {kv vv cv : Value} (hB : Blk w qb [.bool n.leaf, kv, vv, cv] 84) (hK : Rd w kv 1 n.keys.length (n.keys.map S)) (cn : n.keys.length ≤ 100000) {lo tb : Bytes} {hi : Option Bytes} (sr : spanOk hi tb) (i : Nat) (cE : i ≤ n.keys.length) :
  Ret Tryz.prog 85 [.agg (spanC lo hi tb).toArray, ptr qb 0, I (i : Int)] w fun v w' => Ext w w' ∧ ∃ lo' ab tb', v = .agg (spanC lo' ab tb').toArray ∧ spanOk ab tb' ∧ ((i = 0 ∧ lo' = lo) ∨ (0 < i ∧ n.keys[i - 1]? = some lo')) ∧ ((i = n.keys.length ∧ ab = hi) ∨ ∃ k, n.keys[i]? = some k ∧ ab = some k) := by
 obtain ⟨ka, kc, rfl, -⟩ := hK.shape
 refine ret_of_run (e := [(0, _), (1, _), (2, _)]) Tryz.func85 rfl Tryz.ntmps85 rfl rfl (qN rfl (rValP rfl rfl (pbx rfl (cs := spanC lo hi tb) rfl) ?_))
 rintro _ w1 ⟨b3, rfl, Bi, aa, ai⟩
 refine rValP rfl rfl (pal (cs := [_, _, _]) ti128 rfl) ?_
 rintro _ w2 ⟨b6, rfl, rI, ae, ak⟩
 have eI := aa.size
 have eQ := ae.size
 have fG := ae.blk ai
 have ay := aa.trans ae
 have ar := ay.blk hB
 have l1 := ai.lt
 have l2 := ak.lt
 have KF := hB.lt
 have bU : Blk w2 b3 [S lo, S tb, .bool hi.isSome] 128 := fG
 refine rEnd (run_seq (qN rfl (zqm rfl (qV (ygt rfl rfl) (rEnd (run_cut (fun e' w' => ∃ lo', e' = [(1, ptr qb 0), (2, I (i : Int)), (3, ptr b3 0), (6, ptr b6 0)] ∧ Kp (fun k => k = b3) w2 w' ∧ Blk w' b3 [S lo', S tb, .bool hi.isSome] 128 ∧ ((i = 0 ∧ lo' = lo) ∨ (0 < i ∧ n.keys[i - 1]? = some lo'))) ?hk (fun hk => ?dN)))))))
 case hk =>
  rintro e' w3 ⟨lo', rfl, aw, aG, ce⟩; have cT := aw.blk ar (by omega); have ln := (hK.ext ay); refine run_seq (qN rfl (zqm rfl (zqm rfl (qV (ynk rfl) (qV (yfa fl84_1 rfl) (qV (yld U23 rfl rfl cT rfl) (qV (yln U23 rfl) (qV (ylt rfl rfl) (rEnd (run_cut (fun e' w' => ∃ ab tb', e' = [(3, ptr b3 0), (6, ptr b6 0)] ∧ Kp (fun k => k = b3) w2 w' ∧ Blk w' b3 [S lo', S tb', .bool ab.isSome] 128 ∧ spanOk ab tb' ∧ ((i = n.keys.length ∧ ab = hi) ∨ ∃ k, n.keys[i]? = some k ∧ ab = some k)) ?fg (fun fg => ?jc)))))))))))
  case fg =>
   rintro e' w4 ⟨ab, tb', rfl, az, aW, wn, jB⟩; have jV := az.blk ak (by omega); refine qN rfl (qV (yldA U128 rfl ti128 rfl (Blk.cells (n := 3) aW (news := [_, _, _]) rfl) rfl) (rEffP rfl (zstA ti128 rfl rfl rfl rfl jV (by simp)) ?_)); rintro w5 ⟨bx, bh⟩; refine rEnd (run_retR Tryz.func85 (.cell U128 rfl ti128 rfl (Blk.cells (n := 3) bx (news := [_, _, _]) rfl) rfl .nil) ?_); exact ⟨_, rfl, (ay.trans_new az (fun j hj => by omega)).trans_new bh (fun j hj => by omega), lo', ab, tb', rfl, wn, ce, jB⟩
  case jc =>
   refine run_if rfl (fun h2 => ?_) (fun h2 => ?_)
   ·have ab : i < n.keys.length := by omega
    obtain ⟨lb, lo2, s, rfl, hs⟩ := rd_gets hK ab
    have E5 := hK.kp (ay.kp.trans aw) (fun g hg e => by
     have := hK.ltz (by omega) (by omega) hg
     omega)
    refine run_reg rfl (zqm rfl (qV (ynk rfl) (qV (yfa fl84_1 rfl) (qV (yld U23 rfl rfl cT rfl) (zqm rfl (qV (yis U23 ti9 rfl rfl (by omega)) (qV (yldc U9 rfl rfl (rd_str E5 ab hs)) (qV (yfa fl128_1 rfl) (rEffP rfl (zst ti9 rfl rfl rfl aG (by simp)) ?_))))))))); rintro w4 ⟨aW, az⟩; refine qV (yfa fl128_2 rfl) (rEffP rfl (zst ti4 rfl rfl rfl aW (by simp)) ?_); rintro w5 ⟨bx, bh⟩; refine rEnd ?_; exact (fg _ _ ⟨some s, s, rfl, (aw.trans az).trans bh, bx, fun u hu => by cases hu; rfl, .inr ⟨s, hs, rfl⟩⟩).qb
   ·refine run_skip ?_; exact (fg _ _ ⟨hi, tb, rfl, aw, aG, sr, .inl ⟨by omega, rfl⟩⟩).qb
 case dN =>
  refine run_if rfl (fun h1 => ?_) (fun h1 => ?_)
  ·have ab : i - 1 < n.keys.length := by omega
   obtain ⟨lb, lo2, s, rfl, hs⟩ := rd_gets hK ab; have E5 := hK.ext ay; refine run_reg rfl (zqm rfl (qV (ynk rfl) (qV (yfa fl84_1 rfl) (qV (yld U23 rfl rfl ar rfl) (zqm rfl (qV (ysb rfl rfl (by omega)) ?_)))))); rw [show ((i : Int) - 1) = ((i - 1 : Nat) : Int) by omega]; refine qV (yis U23 ti9 rfl rfl (by omega)) (qV (yldc U9 rfl rfl (rd_str E5 ab hs)) (qV (yfa fl128_0 rfl) (rEffP rfl (zst ti9 rfl rfl rfl bU (by simp)) ?_))); rintro w4 ⟨aW, az⟩; refine rEnd ?_; exact (hk _ _ ⟨s, rfl, az, aW, .inr ⟨by omega, hs⟩⟩).qb
  ·refine run_skip ?_; exact (hk _ _ ⟨lo, rfl, Kp.refl _ _, bU, .inl ⟨by omega, rfl⟩⟩).qb
end
structure WhC (w : World) (p bt bm bw mm : Nat) : Prop where
 t : Blk w bt [ptr p 0] 24
 m : Blk w bm [.map (some mm)] 72
 f : Blk w bw [.func (.func 84) #[] #[ptr bt 0, ptr bm 0, ptr bw 0]] 126
 ne : bt ≠ mm ∧ bm ≠ mm ∧ bw ≠ mm ∧ bt ≠ p ∧ bm ≠ p ∧ bw ≠ p ∧ mm ≠ p
theorem WhC.kp {w w' : World} {p bt bm bw mm : Nat} (h : WhC w p bt bm bw mm) (k : Kp (fun k => k = mm ∨ k = p) w w') : WhC w' p bt bm bw mm :=
 ⟨k.blk h.t (fun e => e.elim h.ne.1 h.ne.2.2.2.1), k.blk h.m (fun e => e.elim h.ne.2.1 h.ne.2.2.2.2.1), k.blk h.f (fun e => e.elim h.ne.2.2.1 h.ne.2.2.2.2.2.1), h.ne⟩
theorem WhC.ext {w w' : World} {p bt bm bw mm : Nat} (h : WhC w p bt bm bw mm) (k : Ext w w') : WhC w' p bt bm bw mm := h.kp k.kp
def MetM (w : World) (mm : Nat) (V : List Int) : Prop := ∃ kv, MapB KZ w mm kv ∧ kv.length = V.length ∧ ∀ x, getL kv x = if x ∈ V then some (I 1) else none
theorem MetM.kp {S : Nat → Prop} {w w' : World} {mm : Nat} {V : List Int} (h : MetM w mm V) (k : Kp S w w') (hn : ¬ S mm) : MetM w' mm V := by
 obtain ⟨kv, h1, h2, h3⟩ := h
 exact ⟨kv, h1.kp k hn, h2, h3⟩
theorem MetM.same {w : World} {mm : Nat} {V V' : List Int} (h : MetM w mm V) (hl : V.length = V'.length) (hm : ∀ x, x ∈ V ↔ x ∈ V') : MetM w mm V' := by
 obtain ⟨kv, h1, h2, h3⟩ := h
 refine ⟨kv, h1, by rw [h2, hl], fun x => ?_⟩
 rw [h3 x]
 by_cases e : x ∈ V
 ·rw [if_pos e, if_pos ((hm x).1 e)]
 ·rw [if_neg e, if_neg (fun h => e ((hm x).2 h))]
def WhAt (p bt bm bw mm k : Nat) : Prop := ∀ (w : World) (T : Tr) (nb : Int → Nat) (F : Nat → Prop) (no : Int) (lo : Bytes) (hi : Option Bytes) (tb : Bytes) (V pg : List Int),
 TreeA w p T nb F → WhC w p bt bm bw mm → (¬ F bt ∧ ¬ F bm ∧ ¬ F bw ∧ ¬ F mm) → (∀ x n, T.nodes x = some n → NdOk T.size n) → (∀ x, T.nodes x ≠ none → x ∈ pg) → pg.length ≤ 1000000 → MetM w mm V → V.Nodup → (∀ x ∈ V, x ∈ pg) → T.count ≤ V.length * 100000 → pg.length ≤ V.length + k → spanOk hi tb → ((V = [] ∧ no = T.root) ∨ T.root ∈ V) →
 Ret Tryz.prog 84 [I no, .agg (spanC lo hi tb).toArray, ptr bt 0, ptr bm 0, ptr bw 0] w fun val w' => Kp (fun k => k = mm ∨ k = p) w w' ∧
  ((∃ (h : Nat) (ns : List Int) (es : Es), val = I (h : Int) ∧ Sub1 T.size T.nodes V (decide (V = [])) no lo hi h ns es ∧ TreeA w' p { T with count := T.count + es.length } nb F ∧ MetM w' mm (ns ++ V) ∧ T.count + es.length ≤ (ns ++ V).length * 100000) ∨ (val = I (-1) ∧ NoSub T.size T.nodes V (decide (V = [])) no lo hi))
set_option maxHeartbeats 8000000 in
theorem whAt_step {p bt bm bw mm k : Nat} (ihk : ∀ k', k' < k → WhAt p bt bm bw mm k') : WhAt p bt bm bw mm k := by
 intro w T nb F no lo hi tb V pg h hc hF aQ ro dv E6 xr xt fy hk sr iE
 have hz : sizeOk (T.size : Int) := size_ok h
 obtain ⟨z1, z2, -⟩ := id hz
 obtain ⟨mN, mC, mO, gv, kn, kc, ko, O⟩ := h.opn
 obtain ⟨kv, r8, cn, f9⟩ := E6
 have af := h.lt
 have KG : V.length ≤ pg.length := List.Nodup.length_le_of_subset xr (fun x hx => xt x hx)
 have bW := hc.t
 have zI := hc.m
 obtain ⟨q, hq, iD⟩ : ∃ q : Nat, (getL kv no).getD (I 0) = I (q : Int) ∧ ((q = 0 ∧ no ∉ V) ∨ (q = 1 ∧ no ∈ V)) := by
  rw [f9 no]; by_cases hm : no ∈ V
  ·exact ⟨1, by rw [if_pos hm]; rfl, .inr ⟨rfl, hm⟩⟩
  ·exact ⟨0, by rw [if_neg hm]; rfl, .inl ⟨rfl, hm⟩⟩
 have ya := r8.lt
 refine ret_of_run (e := [(0, _), (1, _), (2, _), (3, _), (4, _)]) Tryz.func84 rfl Tryz.ntmps84 rfl rfl (qN rfl (rValP rfl rfl (pbx rfl (cs := spanC lo hi tb) rfl) ?_))
 rintro _ w1 ⟨b6, rfl, rI, aa, bD⟩
 have ky := aa.blk bW
 have g0 := aa.blk zI
 have iq := aa.blk O.blk
 have E7 := O.nm.ext aa
 have bL := r8.ext aa
 refine zqa rfl (qM rfl (qV ((by first | exact yld U24 rfl rfl ky rfl | exact yld U24 rfl rfl g0 rfl | exact yld U24 rfl rfl iq rfl)) ?_))
 refine qV (ynk rfl) (qV (yfa fl74_5 rfl) (qV ((by first | exact yld U71 rfl rfl ky rfl | exact yld U71 rfl rfl g0 rfl | exact yld U71 rfl rfl iq rfl)) ?_))
 refine zqm rfl (qV (ylk (k := no) (K := KZ) U71 (ky_int U3) ti81 rfl rfl E7.l) ?_)
 obtain ⟨v8, xu⟩ : ∃ v8, (getL kn no).getD (.pointer none) = v8 := ⟨_, rfl⟩
 rw [xu]
 rw [O.ng no] at xu
 refine zqa rfl (rEnd (run_seq (qN rfl (qV ((by first | exact yld U72 rfl rfl ky rfl | exact yld U72 rfl rfl g0 rfl | exact yld U72 rfl rfl iq rfl)) ?_))))
 refine zqm rfl (qV (ylk (k := no) (K := KZ) U72 (ky_int U3) ti3 rfl rfl bL.l) ?_)
 rw [hq]
 refine zqd rfl rfl (rEffP rfl (zmuB U72 (ky_int U3) rfl rfl rfl bL (k := no)) ?_)
 rintro w2 ⟨cu, am⟩
 have i6 : Kp (fun k => k = mm ∨ k = p) w w2 := aa.kp.trans (am.mono' (fun k e => .inl e))
 have eI := aa.size
 have eQ := am.size
 have cK := am.blk ky hc.ne.1
 have E8 := am.blk g0 hc.ne.2.1
 have ip := am.blk iq hc.ne.2.2.2.2.2.2.symm
 have cP := hc.kp i6
 have rL : ∀ g, F g → ¬ (g = mm) := fun g hg e => hF.2.2.2 (e ▸ hg)
 have h2 : TreeA w2 p T nb F := (h.ext aa).kp am rL
 have su := am.blk bD (by have := ya; omega)
 have J2 := su.lt
 have kD : (getL (putL kv no (I ((q : Int) + 1))) no).getD (I 0) = I ((q : Int) + 1) := by rw [getL_put, if_pos rfl]; rfl
 have bP : ∀ {w' : World}, Kp (fun k => k = mm ∨ k = p) w w' → NoSub T.size T.nodes V (decide (V = [])) no lo hi → Kp (fun k => k = mm ∨ k = p) w w' ∧ ((∃ (h : Nat) (ns : List Int) (es : Es), (I (-1) : Value) = I (h : Int) ∧ Sub1 T.size T.nodes V (decide (V = [])) no lo hi h ns es ∧ TreeA w' p { T with count := T.count + es.length } nb F ∧ MetM w' mm (ns ++ V) ∧ T.count + es.length ≤ (ns ++ V).length * 100000) ∨ ((I (-1) : Value) = I (-1) ∧ NoSub T.size T.nodes V (decide (V = [])) no lo hi)) := fun hk hn => ⟨hk, .inr ⟨rfl, hn⟩⟩
 refine rEnd (run_seq (run_cut (fun e' w' => ∃ c61 : Bool, e' = [(2, ptr bt 0), (4, ptr bw 0), (6, ptr b6 0), (8, v8), (61, .bool c61)] ∧ Ext w2 w' ∧ (c61 = true → NoSub T.size T.nodes V (decide (V = [])) no lo hi) ∧ (c61 = false → ∃ n, T.nodes no = some n ∧ no ∉ V ∧ if decide (V = []) then n.keys ≠ [] else ¬ n.low T.size)) ?hk (fun hk => ?dN)))
 case hk =>
  rintro e' w3 ⟨c61, rfl, ah, cD, E9⟩; have db := i6.trans ah.kp; refine run_cond rfl (fun Ea => ?_) (fun Ea => ?_)
  ·refine qN rfl (zqa rfl (rEnd (run_ret Tryz.func84 rfl ?_))); exact ⟨_, rfl, bP db (cD Ea)⟩
  ·obtain ⟨n, hn, jk, pY⟩ := E9 Ea; rw [hn] at xu; have pZ : v8 = ptr (nb no) 0 := xu.symm; subst pZ; have bK : no ∈ pg := ro no (by rw [hn]; simp); have lT := aQ no n hn; obtain rfl : q = 0 := iD.elim (fun e => e.1) (fun e => absurd e.2 jk)
   have Eb : V.length < pg.length := by
    have : (no :: V).length ≤ pg.length := List.Nodup.length_le_of_subset (List.nodup_cons.2 ⟨jk, xr⟩) (fun x hx => by
     rcases List.mem_cons.1 hx with rfl | hx
     ·exact bK
     ·exact xt x hx)
    rw [List.length_cons] at this; omega
   have h3 := h2.ext ah; obtain ⟨pl, tu, hM, wr, -⟩ := h3.nodeF hn; obtain ⟨qb, qk, qv, qc⟩ := pl; dsimp only at tu; subst tu; have cT := hM.blk; have ln := hM.keys; dsimp only at cT ln; obtain ⟨ka, kac, k7, -⟩ := ln.rd.shape; subst k7; have bj := hM.bd; have ws := bj.kl
   have zJ : MetM w3 mm (no :: V) := by
    have vU : getL kv no = none := by rw [f9 no, if_neg jk]
    refine ⟨_, cu.ext ah, by rw [putL_new _ _ _ vU]; simp [cn], fun x => ?_⟩; rw [getL_put, f9 x]; by_cases e : x = no
    ·rw [if_pos e, if_pos (by rw [e]; exact List.mem_cons_self ..)]; rfl
    ·rw [if_neg e]; by_cases hx : x ∈ V
     ·rw [if_pos hx, if_pos (List.mem_cons_of_mem _ hx)]
     ·rw [if_neg hx, if_neg (fun hh => by rcases List.mem_cons.1 hh with hh | hh; exact e hh; exact hx hh)]
   have sw : Blk w3 b6 [S lo, S tb, .bool hi.isSome] 128 := ah.blk su; have o3 := cP.ext ah; have jK := ah.size; refine run_skip (run_seq (qN rfl (zqm rfl (qV (ynk rfl) (qV (yfa fl84_1 rfl) (qV (yld U23 rfl rfl cT rfl) (qV (yln U23 rfl) (zqm rfl (rEnd (run_block (run_cut2 (fun e' w' => e' = [(2, ptr bt 0), (4, ptr bw 0), (6, ptr b6 0), (8, ptr (nb no) 0)] ∧ w' = w3 ∧ ∀ k ∈ n.keys, inB lo hi k) ?cn (fun cn => ?wy))))))))))))
   case cn =>
    rintro e' w3 ⟨rfl, rfl, cA⟩; have dK := o3.t; have C0 := hM.kids; dsimp only at C0; refine run_seq (qN rfl (zqm rfl (qV (ynk rfl) (qV (yfa fl84_0 rfl) (qV (yld U4 rfl rfl cT rfl) ?_))))); rcases nd_cases lT with ⟨E, rfl⟩ | ⟨c, ps, rfl⟩
    ·have ax := Ext.drew0 w3; obtain ⟨mN3, mC3, mO3, gv3, kn3, kc3, ko3, O3⟩ := (h3.ext ax).opn; obtain ⟨mN4, mC4, mO4, gv4, kn4, kc4, ko4, O4⟩ := h3.opn; have kE := O4.blk; have fQ : (leafNd E).keys.length = E.length := by simp [leafNd]
     rw [fQ] at ws; refine rEnd (run_true rfl (run_seq (run_drawL [12] (fun w' => Ext w3 w') (by kernel_rfl) rfl (qL [1, 2, 3, 9, 10, 11, 12] 0 rfl (fun _ h=>(by first | exact yld U24 rfl rfl (h.blk dK) rfl | exact yld U24 rfl rfl (h.blk kE) rfl | exact yld U24 rfl rfl (h.blk cT) rfl)) ax ?_)))); refine qL [2, 3, 9, 10, 11, 12] 1 rfl (fun _ h=>ynk rfl) ax (qL [3, 9, 10, 11, 12] 2 rfl (fun _ h=>yfa fl74_4 rfl) ax (qL [9, 10, 11, 12] 3 rfl (fun _ h=>(by first | exact yld U3 rfl rfl (h.blk dK) rfl | exact yld U3 rfl rfl (h.blk kE) rfl | exact yld U3 rfl rfl (h.blk cT) rfl)) ax ?_)); refine qL [5, 6, 7, 8, 9, 10, 11, 12] 4 rfl (fun _ h=>ymv rfl) ax (qL [6, 7, 8, 9, 10, 11, 12] 5 rfl (fun _ h=>ynk rfl) ax (qL [7, 8, 9, 10, 11, 12] 6 rfl (fun _ h=>yfa fl84_1 rfl) ax (qL [8, 9, 10, 11, 12] 7 rfl (fun _ h=>(by first | exact yld U23 rfl rfl (h.blk dK) rfl | exact yld U23 rfl rfl (h.blk kE) rfl | exact yld U23 rfl rfl (h.blk cT) rfl)) ax ?_))); refine qL [9, 10, 11, 12] 8 rfl (fun _ h=>yln U23 rfl) ax (qL [10, 11, 12] 9 rfl (fun _ h=>yad rfl rfl (by omega)) ax (qL [11, 12] 10 rfl (fun _ h=>ynk rfl) ax (qL [12] 11 rfl (fun _ h=>yfa fl74_4 rfl) ax (hLate [12] (by kernel_rfl) (by kernel_rfl) (qO 12 (nEffP (i := 12) rfl rfl (zst ti3 rfl rfl rfl (ax.blk kE) (by simp [trCs])) ?_)))))); rintro w4 ⟨aW, az⟩; refine ⟨trivial, ?_⟩; have wq : trCs T mN3 mC3 mO3 gv3 = trCs T mN4 mC4 mO4 gv4 := Blk.inj O3.blk (ax.blk kE)
     have wu : Blk w4 p (trCs { T with root := T.root, count := T.count + E.length } mN4 mC4 mO4 gv4) 74 := by
      have e : ((T.count : Int) + ((leafNd E).keys.length : Int)) = ((T.count + E.length : Nat) : Int) := by rw [fQ]; omega
      rw [e] at aW; exact aW
     have h4 := O3.setB w4 T.root (T.count + E.length) (by
      simp only [trCs, List.cons.injEq, Value.map.injEq, Option.some.injEq] at wq; obtain ⟨-, -, -, -, -, q1, q2, q3, q4, -⟩ := wq
      rw [q1, q2, q3, q4]; exact wu) az
     refine qE (qN rfl (zqa rfl (rEnd (run_ret Tryz.func84 rfl (⟨_, rfl, db.trans (ax.kp.trans (az.mono' (fun k e => .inr e))), .inl ⟨1, [no], E, rfl, sub1_leaf hz hn lT cA jk pY, h4, (zJ.kp ax id).kp az hc.ne.2.2.2.2.2.2, by simp; omega⟩⟩)))))
    ·have kcl : (innNd c ps).kids.length = ps.length + 1 := by simp [innNd]
     have kkl : (innNd c ps).keys.length = ps.length := by simp [innNd]
     rw [kcl] at C0; obtain ⟨gc, cc, rfl⟩ := some_of C0 (by omega); have Gw := bj.cl; rw [kcl] at Gw; have wh : ∀ g, Pl.fp ⟨nb no, .slice ka (innNd c ps).keys.length kac, qv, .slice (some ⟨gc, 0, none⟩) (ps.length + 1) cc⟩ g → ¬ (g = mm ∨ g = p) := fun g hg e => e.elim (fun e => hF.2.2.2 (e ▸ (wr g hg).1)) (wr g hg).2
     have wv : ¬ (b6 = mm ∨ b6 = p) := by
      have := af p O.fp.1; omega
     refine rEnd (run_false rfl (run_skip (qN rfl (zqa rfl (rEnd (run_seq (qN rfl (zqm rfl (qV (ynk rfl) (qV (yfa fl84_3 rfl) (qV (yld U82 rfl rfl cT rfl) (qV (yln U82 rfl) (zqm rfl ?_))))))))))))); refine rEnd (run_block ?_); have Ec : T.count + 0 ≤ (no :: V).length * 100000 := Nat.le_trans fy (Nat.mul_le_mul_right _ (Nat.le_succ _)); refine zqu (α := List (List Int × Es) × Nat) (([], 0)) (fun x => [(2, ptr bt 0), (4, ptr bw 0), (6, ptr b6 0), (8, ptr (nb no) 0), (11, I (x.2 : Int)), (105, .slice (some ⟨gc, 0, none⟩) (ps.length + 1) cc), (106, I ((ps.length + 1 : Nat) : Int)), (107, I (x.1.length : Int))]) (fun x w' => KidsU T.size T.nodes V no lo hi c ps x.2 x.1 ∧ Kp (fun k => k = mm ∨ k = p) w3 w' ∧ TreeA w' p { T with count := T.count + (x.1.flatMap (·.2)).length } nb F ∧ MetM w' mm (x.1.flatMap (·.1) ++ no :: V) ∧ T.count + (x.1.flatMap (·.2)).length ≤ (x.1.flatMap (·.1) ++ no :: V).length * 100000 ∧ x.2 ≤ 1000000) (fun x => ps.length + 1 - x.1.length) ?hI ?hround
     case hI => exact ⟨KidsU.nil 0, Kp.refl _ _, h3, zJ, Ec, Nat.zero_le _⟩
     case hround =>
      rintro ⟨L, hh⟩ w4 ⟨K, az, h4, Ed, ww, Ee⟩ ih; dsimp only at K h4 Ed ww Ee; have Ef := az.blk cT (wh _ (.inl rfl)); have J3 := C0.kp az (fun g hg => wh g (.inr (.inr (.inr hg)))); have J4 := ln.kp az (fun g hg => wh g (.inr (.inl hg))); have zK := az.blk sw wv; have sn := o3.kp az; have zL := sn.f; have jQ := db.trans az; have J5 := K.len; have sy : (L.flatMap (·.1) ++ no :: V).Nodup := List.nodup_append.2 ⟨K.nd, List.nodup_cons.2 ⟨jk, xr⟩, fun x hx y hy e => K.out x hx (e ▸ hy)⟩
      have q8 : ∀ x ∈ L.flatMap (·.1), x ∈ pg := fun x hx => by
       obtain ⟨l, fo, nV⟩ := List.mem_flatMap.1 hx; obtain ⟨i, ab, e⟩ := List.getElem_of_mem fo; have hb := K.bn i _ l (List.getElem?_eq_getElem (by rw [bnds_length]; omega)) (by rw [List.getElem?_eq_getElem ab, e]); exact ro x (hb.1.some x nV)
      have sz : ∀ x ∈ L.flatMap (·.1) ++ no :: V, x ∈ pg := fun x hx => by
       rcases List.mem_append.1 hx with hx | hx
       ·exact q8 x hx
       ·rcases List.mem_cons.1 hx with rfl | hx
        ·exact bK
        ·exact xt x hx
      have J6 := List.Nodup.length_le_of_subset sy (fun x hx => sz x hx); have Eg : V.length + 1 ≤ (L.flatMap (·.1) ++ no :: V).length := by rw [List.length_append, List.length_cons]; omega
      try dsimp only
      refine qN rfl (qV (ylt rfl rfl) (rEnd (run_seq (run_if rfl (fun ji => ?_) (fun ji => ?_)))))
      ·have cE : L.length < ps.length + 1 := by omega
       obtain ⟨a, l, u, hb, ha, fo, J7⟩ := bnds_get hi ps lo c L.length (by omega); have vh := bj.cs a (List.mem_of_getElem? (show (innNd c ps).kids[_]? = some a from ha)); refine run_skip (run_seq (run_block (qN rfl (zqm rfl (qV (yis U82 ti89 rfl rfl (by omega)) (qV (yldc U89 rfl rfl (rd_u32 J3.rd cE ha)) (zqa rfl (zqa rfl (rEnd (run_seq ?_)))))))))); have aM := Ext.drew0 w4; refine run_drawL [7] (fun w' => Ext w4 w') (by kernel_rfl) rfl (qL [7, 8] 0 rfl (fun _ h=>(by first | exact yld U126 rfl rfl (h.blk zL) rfl | exact yld U126 rfl rfl (h.blk zK) rfl)) aM ?_); refine qL [2, 7, 8] 1 rfl (fun _ h=>ymv rfl) aM (qL [7, 8] 2 rfl (fun _ h=>ycvSi64 rfl U89 U3 (by omega)) aM (qL [6, 7, 8] 3 rfl (fun _ hS => (by first | exact yldA U128 rfl ti128 rfl (Blk.cells (n := 3) (hS.blk zL) (news := [_, _, _]) rfl) rfl | exact yldA U128 rfl ti128 rfl (Blk.cells (n := 3) (hS.blk zK) (news := [_, _, _]) rfl) rfl)) aM ?_)); refine qL [6, 7, 8] 4 rfl (fun _ h=>ymv rfl) aM (qL [6, 7, 8] 5 rfl (fun _ h=>ymv rfl) aM (hOneL (i := 6) (by kernel_rfl) (nCallL (i := 6) rfl rfl rfl (yc (args := [.tmp 115, .tmp 116, .tmp 117]) cf85 rfl) (kid_ret (n := innNd c ps) (aM.blk Ef) (J4.ext aM).rd ws sr L.length (by rw [kkl]; omega)) ?_))); rintro _ w5 ⟨aJ, lo', ab, to', rfl, wn, mE, sA⟩; refine ⟨aM.trans aJ, ?_⟩; refine hLate [7] (by kernel_rfl) (by kernel_rfl) ?_; have cx := aM.trans aJ
       have elo : lo' = l := by
        rcases mE with ⟨h0, e⟩ | ⟨h0, e⟩ <;> rcases fo with ⟨h1, e1⟩ | ⟨j, h1, e1⟩
        ·rw [e, e1]
        ·omega
        ·omega
        ·have e' : (ps.map (·.1))[L.length - 1]? = some lo' := e; rw [h1, Nat.add_sub_cancel, e1] at e'; exact (oinj e').symm
       have ehi : ab = u := by
        rcases sA with ⟨h0, e⟩ | ⟨k0, h0, e⟩ <;> rcases J7 with ⟨h1, e1⟩ | ⟨k1, h1, e1, e2⟩
        ·rw [e, e1]
        ·rw [kkl] at h0; omega
        ·rw [List.getElem?_eq_none (by rw [kkl]; omega)] at h0; cases h0
        ·have BE : (ps.map (·.1))[L.length]? = some k0 := h0; rw [e1] at BE; rw [e, e2, oinj BE]
       subst elo; subst ehi; have Eh : decide (L.flatMap (·.1) ++ no :: V = []) = false := decide_eq_false (by simp); refine qO 7 (nCall (i := 7) rfl rfl rfl (ycv' (args := [.tmp 114, .tmp 118]) cf84 rfl rfl) (ihk (k - 1) (by omega) w5 { T with count := T.count + (L.flatMap (·.2)).length } nb F (a : Int) lo' ab to' (L.flatMap (·.1) ++ no :: V) pg (h4.ext cx) (sn.ext cx) hF aQ ro dv (Ed.kp cx id) sy sz ww (by omega) wn (.inr (List.mem_append_right _ (iE.elim (fun e => by rw [← e.2]; exact List.mem_cons_self ..) (fun e => List.mem_cons_of_mem _ e))))) ?_); rintro v6 w6 ⟨bX, nu⟩; refine ⟨trivial, ?_⟩; refine zqt 8 rfl (yas rfl) trivial ?_; rw [Eh] at nu; have i7 := (jQ.trans cx.kp).trans bX; have Ei := (az.trans cx.kp).trans bX; rcases nu with ⟨d, n5, e5, rfl, s5, h6, zM, Ej⟩ | ⟨rfl, wx⟩
       ·have m6 : d ≤ 1000000 := by
         have h1 := bn_height hz s5.bn; have h2 := List.Nodup.length_le_of_subset s5.nd (fun x hx => ro x (s5.bn.some x hx)); omega
        have e1 : (L ++ [(n5, e5)]).flatMap (·.1) = L.flatMap (·.1) ++ n5 := by simp
        have e2 : (L ++ [(n5, e5)]).flatMap (·.2) = L.flatMap (·.2) ++ e5 := by simp
        have kF : ∀ K' : KidsU T.size T.nodes V no lo hi c ps d (L ++ [(n5, e5)]), KidsU T.size T.nodes V no lo hi c ps d (L ++ [(n5, e5)]) ∧ Kp (fun k => k = mm ∨ k = p) w3 w6 ∧ TreeA w6 p { T with count := T.count + ((L ++ [(n5, e5)]).flatMap (·.2)).length } nb F ∧ MetM w6 mm ((L ++ [(n5, e5)]).flatMap (·.1) ++ no :: V) ∧ T.count + ((L ++ [(n5, e5)]).flatMap (·.2)).length ≤ ((L ++ [(n5, e5)]).flatMap (·.1) ++ no :: V).length * 100000 ∧ d ≤ 1000000 := fun K' => by
         rw [e1, e2]; refine ⟨K', Ei, ?_, zM.same (by simp; omega) (fun x => by simp only [List.mem_append]; exact ⟨fun h => by rcases h with h | h | h; exact .inl (.inr h); exact .inl (.inl h); exact .inr h, fun h => by rcases h with (h | h) | h; exact .inr (.inl h); exact .inl h; exact .inr (.inr h)⟩), ?_, m6⟩
         ·rw [List.length_append, ← Nat.add_assoc]; exact h6
         ·simp only [List.length_append] at Ej ⊢; omega
        have e3 : ((L.length : Int) + 1) = (((L ++ [(n5, e5)]).length : Nat) : Int) := by simp
        refine qE (run_seq (qN rfl (zqm rfl (qV (ylt rfl rfl) (rVal_if (fun Ek => ?_) (fun Ek => ?_))))))
        ·omega
        ·refine zqm rfl (zqm rfl (qV (ygt rfl rfl) (rVal_if (fun fV => ?_) (fun fV => ?_))))
         ·refine zqm rfl (zqm rfl (zqm rfl (qV (yne rfl rfl) (rVal_if (fun aZ => ?_) (fun aZ => ?_)))))
          ·refine qV (ypT rfl rfl) (qV (ypF rfl rfl) (rEnd (run_true rfl (qN rfl (zqa rfl (rEnd (run_ret Tryz.func84 rfl ?_))))))); exact ⟨_, rfl, bP i7 (kidsU_dep hz hn K (by omega) hb s5 (by omega))⟩
          ·refine qV (ypT rfl rfl) (qV (ypF rfl rfl) (rEnd (run_false rfl (run_skip (run_reg rfl (zqm rfl (zqa rfl (rEnd (run_inBlock (run_reg rfl (zqd rfl rfl (zqm rfl (rEnd ?_))))))))))))); have El : d = hh := by omega
           subst El; rw [e3]; exact (ih (L ++ [(n5, e5)], d) w6 (kF (K.step hb s5)) (by simp; omega)).qb
         ·refine zqm rfl (qS (qS (qS (qV (ypF rfl rfl) (qV (ypF rfl rfl) (rEnd (run_false rfl (run_skip (run_reg rfl (zqm rfl (zqa rfl (rEnd (run_inBlock ?_))))))))))))); refine run_reg rfl (zqd rfl rfl (zqm rfl (rEnd ?_))); have vt : L = [] := List.eq_nil_of_length_eq_zero (by omega); rw [e3]; refine (ih (L ++ [(n5, e5)], d) w6 (kF ?_) (by simp; omega)).qb; subst vt; exact (KidsU.nil d).step hb s5
       ·refine qE (run_seq (qN rfl (zqm rfl (qV (ylt rfl rfl) (rVal_if (fun Ek => ?_) (fun Ek => ?_))))))
        ·refine zqm rfl (qS (qS (qS (qS (qS (qS (qS (qV (ypT rfl rfl) (rEnd (run_true rfl (qN rfl (zqa rfl (rEnd ?_))))))))))))); refine run_ret Tryz.func84 rfl ?_; exact ⟨_, rfl, bP i7 (kidsU_no hz hn K hb wx)⟩
        ·omega
      ·have tv : L.length = ps.length + 1 := by omega
       have Em : (no :: L.flatMap (·.1) ++ V).length = (L.flatMap (·.1) ++ no :: V).length := by simp only [List.length_append, List.length_cons]; omega
       refine run_exit rfl (qN rfl (zqm rfl (zqd rfl rfl (zqa rfl (rEnd (run_ret Tryz.func84 rfl (⟨_, rfl, jQ, .inl ⟨hh + 1, no :: L.flatMap (·.1), L.flatMap (·.2), by simp [resVal], kidsU_all hz hn lT cA K tv jk pY, h4, Ed.same (by simp; omega) (fun x => by simp only [List.mem_append, List.mem_cons]; exact ⟨fun h => by rcases h with h | h | h; exact .inl (.inr h); exact .inl (.inl h); exact .inr h, fun h => by rcases h with (h | h) | h; exact .inr (.inl h); exact .inl h; exact .inr (.inr h)⟩), by rw [Em]; exact ww⟩⟩)))))))
   case wy =>
    refine zqu (α := Nat) (0) (fun i => [(2, ptr bt 0), (4, ptr bw 0), (6, ptr b6 0), (8, ptr (nb no) 0), (65, .slice ka n.keys.length kac), (66, I (n.keys.length : Int)), (67, I (i : Int))]) (fun i w' => w' = w3 ∧ i ≤ n.keys.length ∧ ∀ k ∈ n.keys.take i, inB lo hi k) (fun i => n.keys.length - i) ?hI ?hround
    case hI => exact ⟨rfl, Nat.zero_le _, by simp⟩
    case hround =>
     rintro i w4 ⟨rfl, fV, aH⟩ ih
     try dsimp only
     refine qN rfl (qV (ylt rfl rfl) (rEnd (run_seq (run_if rfl (fun hl => ?_) (fun hl => ?_)))))
     ·have cE : i < n.keys.length := by omega
      obtain ⟨lb, lo2, s, rfl, hs⟩ := rd_gets ln.rd cE; have xf := List.mem_of_getElem? hs; refine run_skip (run_seq (run_block (qN rfl (qV (yis U23 ti9 rfl rfl (by omega)) (qV (yldc U9 rfl rfl (rd_str ln.rd cE hs)) (zqa rfl (qM rfl (zqm rfl (qV (yfa fl128_0 rfl) (qV (yld U9 rfl rfl sw rfl) (qV (yltS rfl rfl) (rVal_bool (fun aD => ?_) (fun aD => ?_)))))))))))))
      ·refine zqm rfl (qS (qS (qS (qS (qS (qS (qS (qS (qV (ypT rfl rfl) (rEnd (run_true rfl (qN rfl (zqa rfl ?_))))))))))))); refine rEnd (run_ret Tryz.func84 rfl ?_); exact ⟨_, rfl, bP db (nosub_key hn xf (fun hh => by rw [hh.1] at aD; cases aD))⟩
      ·refine zqm rfl (qV (yfa fl128_2 rfl) (qV (yld U4 rfl rfl sw rfl) ?_))
       cases hi with
       | none =>
         refine zqm rfl (qS (qS (qS (qS (qV (ypF rfl rfl) (qV (ypF rfl rfl) (rEnd (run_false rfl (run_skip (run_inBlock (run_reg rfl (zqd rfl rfl (zqm rfl ?_))))))))))))); refine rEnd ((ih (i + 1) _ ⟨rfl, by omega, fun k hk => ?_⟩ (by omega)).qb); rcases (mem_take_succ hs).1 hk with hk | rfl
         ·exact aH k hk
         ·exact ⟨aD, fun u hu => by cases hu⟩
       | some u =>
         obtain rfl : tb = u := sr u rfl; refine zqm rfl (zqm rfl (qV (yfa fl128_1 rfl) (qV (yld U9 rfl rfl sw rfl) (qV (ygeS rfl rfl) (rVal_bool (fun am => ?_) (fun am => ?_))))))
         ·have sB : lt s tb = false := by simpa using am
          refine qV (ypT rfl rfl) (qV (ypF rfl rfl) (rEnd (run_true rfl (qN rfl (zqa rfl (rEnd (run_ret Tryz.func84 rfl ?_))))))); exact ⟨_, rfl, bP db (nosub_key hn xf (fun hh => by rw [hh.2 _ rfl] at sB; cases sB))⟩
         ·have sB : lt s tb = true := by simpa using am
          refine qV (ypT rfl rfl) (qV (ypF rfl rfl) (rEnd (run_false rfl (run_skip (run_inBlock (run_reg rfl (zqd rfl rfl (zqm rfl (rEnd ((ih (i + 1) _ ⟨rfl, by omega, fun k hk => ?_⟩ (by omega)).qb)))))))))); rcases (mem_take_succ hs).1 hk with hk | rfl
          ·exact aH k hk
          ·exact ⟨aD, fun u hu => by cases hu; exact sB⟩
     ·have : i = n.keys.length := by omega
      subst this; rw [List.take_length] at aH; refine run_exit rfl ?_; exact (cn _ _ ⟨rfl, rfl, aH⟩).qb
 case dN =>
  refine run_reg rfl (zqm rfl ?_)
  cases hn : T.nodes no with
  | none =>
    have pZ : v8 = .pointer none := by rw [← xu, hn]; rfl
    subst pZ; refine qV (yeqpN U81 rfl rfl) (zqm rfl (qS (qS (qS (qS (qV (ypT rfl rfl) (zqm rfl (qS (qS (qS (qS (qS (qS ?_))))))))))))); refine qS (qS (qS (qS (qS (qV (ypT rfl rfl) (zqm rfl (qS (qS (qS (qS (qS (qS (qS ?_))))))))))))); refine qS (qS (qS (qS (qS (qS (qS (qV (ypT rfl rfl) (rEnd (Run.qb (e := [(2, _), (4, _), (6, _), (7, _), (8, _), (61, _)]) ?_)))))))))
    exact (hk _ _ ⟨true, rfl, Ext.refl _, fun _ => nosub_none hn, fun h => Bool.noConfusion h⟩).qb
  | some n =>
    have pZ : v8 = ptr (nb no) 0 := by rw [← xu, hn]; rfl
    subst pZ; refine qV (yeqpN U81 rfl rfl) (zqm rfl (qV (yld U72 rfl rfl E8 rfl) (zqm rfl (qV (ylk (k := no) (K := KZ) U72 (ky_int U3) ti3 rfl rfl cu.l) ?_)))); rw [kD]; refine qV (ygt rfl rfl) (rVal_if (fun cD => ?_) (fun cD => ?_))
    ·refine qV (ypF rfl rfl) (zqm rfl (qS (qS (qS (qS (qS (qS (qS (qS (qS (qS (qS (qV (ypT rfl rfl) ?_))))))))))))); refine zqm rfl (qS (qS (qS (qS (qS (qS (qS (qS (qS (qS (qS (qS (qS ?_))))))))))))); refine qS (qV (ypT rfl rfl) (rEnd (Run.qb (e := [(2, _), (4, _), (6, _), (7, _), (8, _), (61, _)]) ?_))); exact (hk _ _ ⟨true, rfl, Ext.refl _, fun _ => nosub_met (iD.elim (fun e => by have := e.1; omega) (fun e => e.2)), fun h => Bool.noConfusion h⟩).qb
    ·obtain ⟨jk, rfl⟩ : no ∉ V ∧ q = 0 := iD.elim (fun e => ⟨e.2, e.1⟩) (fun e => by have := e.1; omega); obtain ⟨pl, tu, hM, wr, -⟩ := h2.nodeF hn; obtain ⟨qb, qk, qv, qc⟩ := pl; dsimp only at tu; subst tu; have qd := hM.blk; have sR := hM.keys; dsimp only at qd sR; obtain ⟨ka, kac, k7, -⟩ := sR.rd.shape; subst k7; have bj := hM.bd; refine qV (ypF rfl rfl) (zqm rfl (zqm rfl (qV ((by first | exact yld U24 rfl rfl cK rfl | exact yld U24 rfl rfl ip rfl)) ?_))); refine qV (ynk rfl) (qV (yfa fl74_1 rfl) (qV ((by first | exact yld U3 rfl rfl cK rfl | exact yld U3 rfl rfl ip rfl)) ?_)); refine qV (yne rfl rfl) (rVal_if (fun hr => ?_) (fun hr => ?_))
     ·have En : V ≠ [] := fun e => by
       rcases iE with ⟨-, e'⟩ | e'
       ·exact hr e'
       ·rw [e] at e'; cases e'
      have zN : decide (V = []) = false := decide_eq_false En; refine zqm rfl (qV ((by first | exact yld U24 rfl rfl cK rfl | exact yld U24 rfl rfl ip rfl)) ?_); refine zqm rfl (zqc [.tmp 41, .tmp 42] cf77 rfl (low_ret ip hz qd hM.r bj) ?_); rintro _ w3 ⟨rfl, ah⟩; have dK := ah.blk cK; have kE := ah.blk ip; refine qV (ypT rfl rfl) (rVal_if (fun bV => ?_) (fun bV => ?_))
      ·refine qV (ypF rfl rfl) (zqm rfl (qS (qS (qS (qS (qS (qS (qS (qS (qS (qS (qS (qS ?_))))))))))))); refine qS (qS (qV (ypT rfl rfl) (rEnd (Run.qb (e := [(2, _), (4, _), (6, _), (7, _), (8, _), (61, _)]) ?_)))); exact (hk _ _ ⟨true, rfl, ah, fun _ => nosub_cnd hn (by rw [zN]; simpa using bV), fun h => Bool.noConfusion h⟩).qb
      ·refine qV (ypF rfl rfl) (zqm rfl (zqm rfl (qV ((by first | exact yld U24 rfl rfl dK rfl | exact yld U24 rfl rfl kE rfl)) ?_))); refine qV (ynk rfl) (qV (yfa fl74_1 rfl) (qV ((by first | exact yld U3 rfl rfl dK rfl | exact yld U3 rfl rfl kE rfl)) ?_)); refine qV (yeq rfl rfl) (rVal_if (fun qW => ?_) (fun qW => ?_))
       ·exact absurd qW hr
       ·refine zqm rfl (qS (qS (qS (qS (qS (qS (qV (ypF rfl rfl) (qV (ypF rfl rfl) (rEnd (Run.qb (e := [(2, _), (4, _), (6, _), (7, _), (8, _), (61, _)]) ?_)))))))))); exact (hk _ _ ⟨false, rfl, ah, fun h => Bool.noConfusion h, fun _ => ⟨n, hn, jk, by rw [zN]; simpa using bV⟩⟩).qb
     ·have kT : no = T.root := by omega
      have J8 : V = [] := by
       rcases iE with ⟨e', -⟩ | e'
       ·exact e'
       ·exact absurd (kT ▸ e') jk
      have zN : decide (V = []) = true := decide_eq_true J8; refine zqm rfl (qS (qS (qS (qV (ypF rfl rfl) (qV (ypF rfl rfl) (zqm rfl (zqm rfl (qV ((by first | exact yld U24 rfl rfl cK rfl | exact yld U24 rfl rfl ip rfl | exact yld U24 rfl rfl qd rfl)) ?_)))))))); refine qV (ynk rfl) (qV (yfa fl74_1 rfl) (qV ((by first | exact yld U3 rfl rfl cK rfl | exact yld U3 rfl rfl ip rfl | exact yld U3 rfl rfl qd rfl)) ?_)); refine qV (yeq rfl rfl) (rVal_if (fun qW => ?_) (fun qW => ?_))
      ·refine zqm rfl (zqm rfl (qV (ynk rfl) (qV (yfa fl84_1 rfl) (qV ((by first | exact yld U23 rfl rfl cK rfl | exact yld U23 rfl rfl ip rfl | exact yld U23 rfl rfl qd rfl)) ?_)))); refine qV (yln U23 rfl) (qV (yeq rfl rfl) (rVal_if (fun nM => ?_) (fun nM => ?_)))
       ·refine qV (ypT rfl rfl) (qV (ypF rfl rfl) (rEnd (Run.qb (e := [(2, _), (4, _), (6, _), (7, _), (8, _), (61, _)]) ?_))); refine (hk _ _ ⟨true, rfl, Ext.refl _, fun _ => nosub_cnd hn (by rw [zN]; simp; exact List.eq_nil_of_length_eq_zero (by omega)), fun h => Bool.noConfusion h⟩).qb
       ·refine qV (ypT rfl rfl) (qV (ypF rfl rfl) (rEnd (Run.qb (e := [(2, _), (4, _), (6, _), (7, _), (8, _), (61, _)]) ?_))); exact (hk _ _ ⟨false, rfl, Ext.refl _, fun h => Bool.noConfusion h, fun _ => ⟨n, hn, jk, by rw [zN]; simp; intro e; rw [e] at nM; exact nM rfl⟩⟩).qb
      ·exact absurd kT qW
theorem whAt_all (p bt bm bw mm : Nat) : ∀ k, WhAt p bt bm bw mm k := fun k => Nat.strongRecOn k fun k ih => whAt_step ih
structure DcS (w : World) (b4 b5 b6 : Nat) (r : Bytes) (bad : Bool) : Prop where
 r : Blk w b4 [S r] 9
 b : Blk w b5 [.bool bad] 4
 f : Blk w b6 [.func (.func 81) #[] #[ptr b5 0, ptr b4 0]] 122
 n1 : b4 ≠ b5
 n2 : b6 ≠ b4 ∧ b6 ≠ b5
theorem DcS.kp {S : Nat → Prop} {w w' : World} {b4 b5 b6 : Nat} {r : Bytes} {bad : Bool} (h : DcS w b4 b5 b6 r bad) (k : Kp S w w') (h1 : ¬ S b4) (h2 : ¬ S b5) (h3 : ¬ S b6) : DcS w' b4 b5 b6 r bad := ⟨k.blk h.r h1, k.blk h.b h2, k.blk h.f h3, h.n1, h.n2⟩
theorem DcS.ext {w w' : World} {b4 b5 b6 : Nat} {r : Bytes} {bad : Bool} (h : DcS w b4 b5 b6 r bad) (k : Ext w w') : DcS w' b4 b5 b6 r bad := h.kp k id id id
theorem text_ret {w : World} {b4 b5 b6 : Nat} {r r' t : Bytes} {bad bad' : Bool} (h : DcS w b4 b5 b6 r bad) (n : Nat) (hn : n ≤ 1000000) (hr : r.length ≤ 1000000) (e : tx n r bad = (t, r', bad')) :
  Ret Tryz.prog 81 [I (n : Int), ptr b5 0, ptr b4 0] w fun v w' => v = S t ∧ DcS w' b4 b5 b6 r' bad' ∧ Kp (fun k => k = b4 ∨ k = b5) w w' := by
 have rj := h.r
 have iF := h.b
 have aZ := h.n1
 have bj : ∀ w1, Blk w1 b5 [.bool true] 4 → Kp (fun k => k = b5) w w1 → DcS w1 b4 b5 b6 r true ∧ Kp (fun k => k = b4 ∨ k = b5) w w1 := fun w1 ai aD => ⟨⟨aD.blk h.r aZ, ai, aD.blk h.f h.n2.2, h.n1, h.n2⟩, aD.mono' (fun k e => .inr e)⟩
 refine ret_of_run (e := [(0, _), (1, _), (2, _)]) Tryz.func81 rfl Tryz.ntmps81 rfl rfl (qN rfl (zqa rfl (rEnd (run_seq (qN rfl (qV ((by first | exact yld U4 rfl rfl rj rfl | exact yld U4 rfl rfl iF rfl)) ?_))))))
 refine zqm rfl (rVal_bool (fun bP => ?_) (fun bP => ?_))
 ·rw [tx_bad (.inl bP)] at e; cases e; refine qS (qS (qS (qS (qV (ypT rfl rfl) (rEffP rfl (zst ti4 rfl rfl rfl iF (by simp)) ?_))))); rintro w1 ⟨ai, aD⟩; refine qM rfl (qV (yld U4 rfl rfl ai rfl) (rEnd (run_true rfl (qN rfl (zqa rfl (rEnd (run_ret Tryz.func81 rfl ?_))))))); exact ⟨_, rfl, rfl, bj w1 ai aD⟩
 ·subst bP; refine zqm rfl (qV ((by first | exact yld U9 rfl rfl rj rfl | exact yld U9 rfl rfl iF rfl)) ?_); refine qV (ylnS U9 rfl) (qV (ygt rfl rfl) (rVal_if (fun h1 => ?_) (fun h1 => ?_)))
  ·rw [tx_bad (.inr (by omega))] at e; cases e; refine qV (ypF rfl rfl) (rEffP rfl (zst ti4 rfl rfl rfl iF (by simp)) ?_); rintro w1 ⟨ai, aD⟩; refine qM rfl (qV (yld U4 rfl rfl ai rfl) (rEnd (run_true rfl (qN rfl (zqa rfl (rEnd (run_ret Tryz.func81 rfl ?_))))))); exact ⟨_, rfl, rfl, bj w1 ai aD⟩
  ·rw [tx_ok (by omega)] at e; cases e; refine qV (ypF rfl rfl) (rEffP rfl (zst ti4 rfl rfl rfl iF (by simp)) ?_); rintro w1 ⟨ai, aD⟩; have sC := aD.blk rj aZ; refine qM rfl (qV ((by first | exact yld U4 rfl rfl ai rfl | exact yld U4 rfl rfl sC rfl)) ?_); refine rEnd (run_false rfl (run_skip (qN rfl (qV ((by first | exact yld U9 rfl rfl ai rfl | exact yld U9 rfl rfl sC rfl)) ?_)))); refine zqm rfl (qV (yslSt U9 rfl rfl (by omega)) (zqa rfl (qM rfl (qV ((by first | exact yld U9 rfl rfl ai rfl | exact yld U9 rfl rfl sC rfl)) ?_)))); refine zqm rfl (qV (yslSf U9 rfl rfl (by omega)) (rEffP rfl (zst ti9 rfl rfl rfl sC (by simp)) ?_)); rintro w2 ⟨ak, am⟩; refine qM rfl (zqm rfl (zqa rfl (rEnd (run_ret Tryz.func81 rfl ?_)))); exact ⟨_, rfl, rfl, ⟨ak, am.blk ai (Ne.symm aZ), am.blk (aD.blk h.f h.n2.2) h.n2.1, h.n1, h.n2⟩, (aD.mono' (fun k e => .inr e)).trans (am.mono' (fun k e => .inl e))⟩
theorem or_byte (a : Nat) (b : UInt8) : a * 256 ||| b.toNat = 256 * a + b.toNat := by
 have := Nat.two_pow_add_eq_or_of_lt (i := 8) (b := b.toNat) b.toNat_lt a
 rw [Nat.mul_comm a 256]
 exact this.symm
theorem number_ret {w : World} {b4 b5 b6 : Nat} {r r' t : Bytes} {bad bad' : Bool} (h : DcS w b4 b5 b6 r bad) (k : Nat) (hk : k ≤ 4) (hr : r.length ≤ 1000000) (e : tx k r bad = (t, r', bad')) :
  Ret Tryz.prog 82 [I (k : Int), ptr b6 0] w fun v w' => v = I ((valB t : Nat) : Int) ∧ DcS w' b4 b5 b6 r' bad' ∧ Kp (fun k => k = b4 ∨ k = b5) w w' := by
 have ti := h.f
 have nX := tx_le e
 refine ret_of_run (e := [(0, _), (1, _)]) Tryz.func82 rfl Tryz.ntmps82 rfl rfl (qN rfl (zqa rfl (rEnd (run_seq (qN rfl (qV (yld U122 rfl rfl ti rfl) (zqm rfl (rCall rfl rfl (ycv' (args := [.tmp 7]) cf81 rfl rfl) (text_ret h k (by omega) hr e) ?_))))))))
 rintro _ w1 ⟨rfl, h1, aD⟩
 refine rValP rfl rfl (pS2B U9 U123 U5 rfl) ?_
 rintro _ w2 ⟨b9, cap, rest, rfl, ⟨rg, ae, cZ⟩, jx⟩
 refine qV (yln U123 rfl) (zqm rfl (rEnd (run_block (zqu (α := Nat) (0) (fun i => [(3, I ((valB (t.take i) : Nat) : Int)), (9, .slice (some ⟨b9, 0, none⟩) t.length cap), (10, I (t.length : Int)), (11, I (i : Int))]) (fun i w' => w' = w2 ∧ i ≤ t.length) (fun i => t.length - i) ?hI ?hround))))
 case hI => exact ⟨rfl, Nat.zero_le _⟩
 case hround =>
  rintro i w3 ⟨rfl, hi⟩ ih; have s6 := valB_lt (t.take i); have Ih : 256 ^ (t.take i).length ≤ 256 ^ 4 := Nat.pow_le_pow_right (by omega) (by rw [List.length_take]; omega); have Dd : valB (t.take i) < 4294967296 := by omega
  try dsimp only
  refine qN rfl (qV (ylt rfl rfl) (rEnd (run_seq (run_if rfl (fun af => ?_) (fun af => ?_)))))
  ·have ab : i < t.length := by omega
   have J9 := List.getElem?_eq_getElem ab
   have iw : (t.map u8v ++ rest)[0 + i * 1]? = some (u8v t[i]) := by
    rw [Nat.zero_add, Nat.mul_one, List.getElem?_append_left (by simpa using ab), List.getElem?_map, J9]; rfl
   have Ii := t[i].toNat_lt; refine run_skip (run_seq (run_block (qN rfl (qV (yis U123 ti5 rfl rfl (by omega)) (qV (yld U5 rfl rfl cZ iw) ?_))))); unfold u8v; refine zqa rfl (rEnd (run_reg rfl (zqm rfl (qV (ysl 8 256 rfl rfl (by decide) rfl (by omega)) (zqm rfl (qV ((by first | exact ycvB rfl U5 U3 (by decide) | exact ycvSi64 rfl U5 U3 (by omega))) ?_)))))); refine qV (yor64 rfl rfl (by omega) (by omega)) (zqa rfl (rEnd (run_inBlock (run_reg rfl (zqd rfl rfl (zqm rfl (rEnd ?_))))))); rw [or_byte, ← valB_snoc, ← List.take_succ_eq_append_getElem ab]; exact (ih (i + 1) _ ⟨rfl, by omega⟩ (by omega)).qb
  ·have : i = t.length := by omega
   subst this; rw [List.take_length]; refine run_exit rfl (qN rfl (zqm rfl (zqa rfl (rEnd (run_ret Tryz.func82 rfl ?_))))); exact ⟨_, rfl, rfl, h1.ext ae, aD.trans ae.kp⟩
structure DcN (w0 w : World) (b4 b5 b6 b9 : Nat) (lf : Bool) (ks vs : List Bytes) (cs : List Nat) (kv vv cv : Value) : Prop where
 blk : Blk w b9 [.bool lf, kv, vv, cv] 84
 k : Sl w kv 9 1 ks.length (ks.map S)
 v : Sl w vv 9 1 vs.length (vs.map S)
 c : Sl w cv 89 1 cs.length (cs.map u32v)
 low : ∀ g, kv.ownBlock = some g ∨ vv.ownBlock = some g ∨ cv.ownBlock = some g → w0.heap.size ≤ g ∧ g ≠ b4 ∧ g ≠ b5 ∧ g ≠ b6 ∧ g ≠ b9
 d2 : ∀ g, kv.ownBlock = some g → vv.ownBlock ≠ some g ∧ cv.ownBlock ≠ some g
 d3 : ∀ g, vv.ownBlock = some g → cv.ownBlock ≠ some g
 n9 : w0.heap.size ≤ b9 ∧ b9 ≠ b4 ∧ b9 ≠ b5 ∧ b9 ≠ b6
 n4 : b4 < w.heap.size ∧ b5 < w.heap.size ∧ b6 < w.heap.size
section
variable {w0 w w' w1 w2 w3 w4 : World} {b4 b5 b6 b9 : Nat} {lf : Bool} {ks vs : List Bytes} {cs : List Nat} {kv vv cv kv2 : Value}
theorem DcN.kp {S : Nat → Prop} (h : DcN w0 w b4 b5 b6 b9 lf ks vs cs kv vv cv) (k : Kp S w w') (hs : ∀ g, S g → g = b4 ∨ g = b5) : DcN w0 w' b4 b5 b6 b9 lf ks vs cs kv vv cv := by
 have hz := k.size
 refine ⟨k.blk h.blk (fun e => (hs _ e).elim h.n9.2.1 h.n9.2.2.1), h.k.kp k (fun g hg e => ?_), h.v.kp k (fun g hg e => ?_), h.c.kp k (fun g hg e => ?_), h.low, h.d2, h.d3, h.n9, by have := h.n4; omega⟩
 ·have := h.low g (.inl hg); exact (hs g e).elim this.2.1 this.2.2.1
 ·have := h.low g (.inr (.inl hg)); exact (hs g e).elim this.2.1 this.2.2.1
 ·have := h.low g (.inr (.inr hg)); exact (hs g e).elim this.2.1 this.2.2.1
theorem DcN.ext (h : DcN w0 w b4 b5 b6 b9 lf ks vs cs kv vv cv) (k : Ext w w') : DcN w0 w' b4 b5 b6 b9 lf ks vs cs kv vv cv := h.kp k (fun _ e => e.elim)
theorem DcN.pushK (h0 : w0.heap.size ≤ w1.heap.size) (h : DcN w0 w1 b4 b5 b6 b9 lf ks vs cs kv vv cv) {x : Bytes} {u : Value} (hx : Ext w1 w2) (hs : Sl w3 u 9 1 (ks ++ [x]).length ((ks ++ [x]).map S)) (hk : Kp (fun g => kv.ownBlock = some g) w2 w3) (ho : ∀ g, u.ownBlock = some g → kv.ownBlock = some g ∨ w2.heap.size ≤ g) (hl : Blk w4 b9 [.bool lf, u, vv, cv] 84) (az : Kp (fun g => g = b9) w3 w4) :
  DcN w0 w4 b4 b5 b6 b9 lf (ks ++ [x]) vs cs u vv cv ∧ Kp (fun g => g = b9 ∨ kv.ownBlock = some g) w1 w4 := by
 have ac : Kp (fun g => g = b9 ∨ kv.ownBlock = some g) w1 w4 := (hx.kp.trans (hk.mono' (fun g e => .inr e))).trans (az.mono' (fun g e => .inl e))
 have hz := hx.size
 have eQ := ac.size
 have rg := h.blk.lt
 have nU := h.n4
 have yT := h.n9
 have hu : ∀ g, u.ownBlock = some g → w0.heap.size ≤ g ∧ g ≠ b4 ∧ g ≠ b5 ∧ g ≠ b6 ∧ g ≠ b9 := fun g hg => by
  rcases ho g hg with e | e
  ·exact h.low g (.inl e)
  ·exact ⟨by omega, by omega, by omega, by omega, by omega⟩
 refine ⟨⟨hl, hs.kp az (fun g hg e => (hu g hg).2.2.2.2 e), h.v.kp ac (fun g hg e => e.elim (h.low g (.inr (.inl hg))).2.2.2.2 (fun e => (h.d2 g e).1 hg)), h.c.kp ac (fun g hg e => e.elim (h.low g (.inr (.inr hg))).2.2.2.2 (fun e => (h.d2 g e).2 hg)), ?_, ?_, ?_, h.n9, by omega⟩, ac⟩
 ·exact fun g hg => by
   rcases hg with hg | hg | hg
   ·exact hu g hg
   ·exact h.low g (.inr (.inl hg))
   ·exact h.low g (.inr (.inr hg))
 ·exact fun g hg => by
   rcases ho g hg with e | e
   ·exact h.d2 g e
   ·exact ⟨fun hg => by have := h.v.lt hg; omega, fun hg => by have := h.c.lt hg; omega⟩
 ·exact h.d3
theorem DcN.pushV (h0 : w0.heap.size ≤ w1.heap.size) (h : DcN w0 w1 b4 b5 b6 b9 lf ks vs cs kv vv cv) {x : Bytes} {u : Value} (hx : Ext w1 w2) (hs : Sl w3 u 9 1 (vs ++ [x]).length ((vs ++ [x]).map S)) (hk : Kp (fun g => vv.ownBlock = some g) w2 w3) (ho : ∀ g, u.ownBlock = some g → vv.ownBlock = some g ∨ w2.heap.size ≤ g) (hl : Blk w4 b9 [.bool lf, kv, u, cv] 84) (az : Kp (fun g => g = b9) w3 w4) :
  DcN w0 w4 b4 b5 b6 b9 lf ks (vs ++ [x]) cs kv u cv ∧ Kp (fun g => g = b9 ∨ vv.ownBlock = some g) w1 w4 := by
 have ac : Kp (fun g => g = b9 ∨ vv.ownBlock = some g) w1 w4 := (hx.kp.trans (hk.mono' (fun g e => .inr e))).trans (az.mono' (fun g e => .inl e))
 have hz := hx.size
 have eQ := ac.size
 have rg := h.blk.lt
 have nU := h.n4
 have yT := h.n9
 have hu : ∀ g, u.ownBlock = some g → w0.heap.size ≤ g ∧ g ≠ b4 ∧ g ≠ b5 ∧ g ≠ b6 ∧ g ≠ b9 := fun g hg => by
  rcases ho g hg with e | e
  ·exact h.low g (.inr (.inl e))
  ·exact ⟨by omega, by omega, by omega, by omega, by omega⟩
 refine ⟨⟨hl, h.k.kp ac (fun g hg e => e.elim (h.low g (.inl hg)).2.2.2.2 (fun e => (h.d2 g hg).1 e)), hs.kp az (fun g hg e => (hu g hg).2.2.2.2 e), h.c.kp ac (fun g hg e => e.elim (h.low g (.inr (.inr hg))).2.2.2.2 (fun e => h.d3 g e hg)), ?_, ?_, ?_, h.n9, by omega⟩, ac⟩
 ·exact fun g hg => by
   rcases hg with hg | hg | hg
   ·exact h.low g (.inl hg)
   ·exact hu g hg
   ·exact h.low g (.inr (.inr hg))
 ·exact fun g hg => ⟨fun ag => by
   rcases ho g ag with e | e
   ·exact (h.d2 g hg).1 e
   ·have := h.k.lt hg; omega, (h.d2 g hg).2⟩
 ·exact fun g hg => by
   rcases ho g hg with e | e
   ·exact h.d3 g e
   ·exact fun hg => by have := h.c.lt hg; omega
theorem DcN.pushC (h0 : w0.heap.size ≤ w1.heap.size) (h : DcN w0 w1 b4 b5 b6 b9 lf ks vs cs kv vv cv) {x : Nat} {u : Value} (hx : Ext w1 w2) (hs : Sl w3 u 89 1 (cs ++ [x]).length ((cs ++ [x]).map u32v)) (hk : Kp (fun g => cv.ownBlock = some g) w2 w3) (ho : ∀ g, u.ownBlock = some g → cv.ownBlock = some g ∨ w2.heap.size ≤ g) (hl : Blk w4 b9 [.bool lf, kv, vv, u] 84) (az : Kp (fun g => g = b9) w3 w4) :
  DcN w0 w4 b4 b5 b6 b9 lf ks vs (cs ++ [x]) kv vv u ∧ Kp (fun g => g = b9 ∨ cv.ownBlock = some g) w1 w4 := by
 have ac : Kp (fun g => g = b9 ∨ cv.ownBlock = some g) w1 w4 := (hx.kp.trans (hk.mono' (fun g e => .inr e))).trans (az.mono' (fun g e => .inl e))
 have hz := hx.size
 have eQ := ac.size
 have rg := h.blk.lt
 have nU := h.n4
 have yT := h.n9
 have hu : ∀ g, u.ownBlock = some g → w0.heap.size ≤ g ∧ g ≠ b4 ∧ g ≠ b5 ∧ g ≠ b6 ∧ g ≠ b9 := fun g hg => by
  rcases ho g hg with e | e
  ·exact h.low g (.inr (.inr e))
  ·exact ⟨by omega, by omega, by omega, by omega, by omega⟩
 refine ⟨⟨hl, h.k.kp ac (fun g hg e => e.elim (h.low g (.inl hg)).2.2.2.2 (fun e => (h.d2 g hg).2 e)), h.v.kp ac (fun g hg e => e.elim (h.low g (.inr (.inl hg))).2.2.2.2 (fun e => h.d3 g hg e)), hs.kp az (fun g hg e => (hu g hg).2.2.2.2 e), ?_, ?_, ?_, h.n9, by omega⟩, ac⟩
 ·exact fun g hg => by
   rcases hg with hg | hg | hg
   ·exact h.low g (.inl hg)
   ·exact h.low g (.inr (.inl hg))
   ·exact hu g hg
 ·exact fun g hg => ⟨(h.d2 g hg).1, fun ag => by
   rcases ho g ag with e | e
   ·exact (h.d2 g hg).2 e
   ·have := h.k.lt hg; omega⟩
 ·exact fun g hg ag => by
   rcases ho g ag with e | e
   ·exact h.d3 g hg e
   ·have := h.v.lt hg; omega
end
set_option maxHeartbeats 4000000 in
theorem decode_ret (s : Bytes) (gX : s.length ≤ 140737488355328) (w : World) : Ret Tryz.prog 51 [S s] w fun v w' => Ext w w' ∧ ((∃ n kv vv cv, dec s = some n ∧ v = .tuple #[ndv n kv vv cv, I 0] ∧ NdP w' n kv vv cv ∧ ∀ g, kv.ownBlock = some g ∨ vv.ownBlock = some g ∨ cv.ownBlock = some g → w.heap.size ≤ g) ∨ (dec s = none ∧ v = .tuple #[.agg #[.bool false, .slice none 0 0, .slice none 0 0, .slice none 0 0], I 4])) := by
 refine ret_of_run (e := [(0, _)]) Tryz.func51 rfl Tryz.ntmps51 rfl rfl (qN rfl (rValP rfl rfl (pal (cs := [_, _, _, _]) ti84 rfl) ?_))
 rintro _ w1 ⟨b2, rfl, cQ, aa, ak⟩
 refine zqa rfl (rEnd (run_seq (qN rfl (zqm rfl (qV (ylnS U9 rfl) (zqc [.tmp 16] cf64 rfl (size_ret _ w1) ?_))))))
 rintro _ w1 ⟨rfl, rfl⟩
 by_cases hz : sizeOk (s.length : Int)
 ·obtain ⟨z1, z2, -⟩ := id hz; rw [if_pos hz]; refine qV (yne rfl rfl) (rEnd (run_if rfl (fun h0 => ?_) (fun h0 => ?_)))
  ·exact absurd rfl h0
  ·refine run_skip (qN rfl (zqm rfl (rValP rfl rfl (pal (cs := [_]) ti9 rfl) ?_))); rintro _ w2 ⟨b4, rfl, Br, ae, aW⟩; refine rValP rfl rfl (pal (cs := [_]) ti4 rfl) ?_; rintro _ w3 ⟨b5, rfl, rD, ah, bx⟩; have eQ := ae.size; have eI := aa.size; have rq := aW.lt; have n45 : b4 ≠ b5 := by omega
   refine rEffP rfl (zst ti9 rfl rfl rfl (ah.blk aW) (by simp)) ?_; rintro w4 ⟨wu, az⟩; have Eo := az.blk bx n45.symm; refine rEffP rfl (zst ti4 rfl rfl rfl Eo (by simp)) ?_; rintro w5 ⟨ft, bh⟩; have sD := bh.blk wu n45; have ir : Ext w1 w5 := ((ae.trans ah).trans_new az (fun i hi => by omega)).trans_new bh (fun i hi => by omega); have kW := ir.size; have Ja := sD.lt; have Jb := ft.lt; refine qM rfl (qV (ymf (first := []) (caps := [.tmp 5, .tmp 4]) rfl rfl) (rValP rfl rfl (pal (cs := [_]) ti122 rfl) ?_)); rintro _ w6 ⟨b6, rfl, rI, aO, bD⟩; refine rEffP rfl (zst ti122 rfl rfl rfl bD (by simp)) ?_; rintro w7 ⟨dH, bg⟩; have h7 : DcS w7 b4 b5 b6 s false := ⟨bg.blk (aO.blk sD) (by omega), bg.blk (aO.blk ft) (by omega), dH, n45, by omega, by omega⟩; have qe : Ext w1 w7 := (ir.trans aO).trans_new bg (fun i hi => by omega); have Jc : b2 < b4 ∧ b2 < b5 ∧ b2 < b6 := by have := ak.lt; omega
   obtain ⟨t1, r1, c1, e1⟩ := tx_ex 1 s false; refine qM rfl (qV (ymf (first := []) (caps := [.tmp 6]) rfl rfl) (zqa rfl (qM rfl (zqm rfl (rCall rfl rfl (ycv' (args := [.const (Value.int .i64 1)]) cf82 rfl rfl) (number_ret h7 1 (by omega) (by omega) e1) ?_))))); rintro _ w8 ⟨rfl, h8, bc⟩; have zO : Ext w1 w8 := qe.trans_new bc (fun i hi => by omega); refine zqa rfl (qM rfl (zqm rfl (qV (yeq rfl rfl) (qV (ybd (parts := [(0, .tmp 26)]) (cs := [_, _, _, _]) ti84 rfl sp84 rfl rfl) ?_)))); obtain ⟨lf, dE⟩ : ∃ lf, decide (((valB t1 : Nat) : Int) = 1) = lf := ⟨_, rfl⟩; rw [dE]; refine rValP rfl rfl (pal (cs := [_, _, _, _]) ti84 rfl) ?_; rintro _ w9 ⟨b9, rfl, rg, fM, cZ⟩; refine rEffP rfl (zstA ti84 rfl rfl rfl rfl cZ (by simp)) ?_; rintro w10 ⟨bN, aK⟩; replace bN : Blk w10 b9 [.bool lf, .slice none 0 0, .slice none 0 0, .slice none 0 0] 84 := bN; have mI := zO.size; have BU := h8.f.lt; have Jd := h8.r.lt; have Je := h8.b.lt; have od : DcS w10 b4 b5 b6 r1 c1 := (h8.ext fM).kp aK (by omega) (by omega) (by omega); have qf : Ext w1 w10 := (zO.trans fM).trans_new aK (fun i hi => by omega); have i5 : w9.heap.size ≤ w10.heap.size := aK.size; have ox := fM.size; have wz : DcN w1 w10 b4 b5 b6 b9 lf [] [] [] (.slice none 0 0) (.slice none 0 0) (.slice none 0 0) := ⟨bN, Sl.nil _ _ _, Sl.nil _ _ _, Sl.nil _ _ _, fun g hg => by simp [Value.ownBlock] at hg, fun g hg => by simp [Value.ownBlock] at hg, fun g hg => by simp [Value.ownBlock] at hg, ⟨by omega, by omega, by omega, by omega⟩, by omega⟩; have jy := tx_le e1; obtain ⟨t2, r2, c2, e2⟩ := tx_ex 2 r1 c1; obtain ⟨t3, r3, c3, e3⟩ := tx_ex 4 r2 c2; have jX := tx_le e2; have e8 := tx_le e3; obtain ⟨BK, BL⟩ := lg_init hz e1 e2 e3; refine qM rfl (zqm rfl (rCall rfl rfl (ycv' (args := [.const (Value.int .i64 2)]) cf82 rfl rfl) (number_ret od 2 (by omega) (by omega) e2) ?_)); rintro _ w11 ⟨rfl, zP, dA⟩; have nw := wz.kp dA (fun g e => e); have qg : Ext w1 w11 := qf.trans_new dA (fun i hi => by omega); have lU := nw.blk
   have Gx : valB t2 < 65536 := Nat.lt_of_lt_of_le (valB_lt t2) (by
    have : 256 ^ t2.length ≤ 256 ^ 2 := Nat.pow_le_pow_right (by omega) jX.1
    omega)
   have dL : maxLen = 9223372036854775807 := rfl; refine zqa rfl (rEnd (run_seq (qN rfl (qV (yfa fl84_0 rfl) (qV (yld U4 rfl rfl lU rfl) (qV ((by first | exact yntd rfl | exact ynt rfl)) ?_)))))); refine rEnd (Run.qb (e := [(0, _), (2, _), (3, _), (5, _), (6, _), (7, _), (9, _), (10, _), (32, _)]) ?_); refine run_cut (fun e' w' => ∃ cs cv r bad, e' = [(0, S s), (2, ptr b2 0), (3, I 0), (5, ptr b5 0), (6, ptr b6 0), (7, .func (.func 82) #[] #[ptr b6 0]), (9, ptr b9 0), (10, I ((valB t2 : Nat) : Int))] ∧ DcN w1 w' b4 b5 b6 b9 lf [] [] cs (.slice none 0 0) (.slice none 0 0) cv ∧ DcS w' b4 b5 b6 r bad ∧ Lg s.length s lf [] [] cs (valB t2) r bad ∧ Ext w1 w' ∧ (∀ c ∈ cs, c < 4294967296) ∧ cs.length ≤ 1 ∧ r.length ≤ s.length) ?hk (fun hk => ?dN)
   case hk =>
    rintro e' w12 ⟨cs0, cv0, r0, bad0, rfl, Dj, Ep, vt, BM, vu, vw, vx⟩; refine run_seq (run_block (run_cut2 (fun e' w' => ∃ c ks vs cs kv vv cv r bad, e' = [(0, S s), (2, ptr b2 0), (3, I 0), (5, ptr b5 0), (9, ptr b9 0)] ∧ DcN w1 w' b4 b5 b6 b9 lf ks vs cs kv vv cv ∧ DcS w' b4 b5 b6 r bad ∧ Lg s.length s lf ks vs cs c r bad ∧ (c = 0 ∨ bad = true) ∧ Ext w1 w' ∧ Nd.Bd ⟨lf, ks, vs, cs⟩) ?xi (fun xi => ?vC)))
    case xi =>
     rintro e' w13 ⟨c, ks, vs, cs, kv, vv, cv, r, bad, rfl, hN, qh, hL, Eq, aq, bj⟩; obtain ⟨ka, kac, k7, -⟩ := hN.k.rd.shape; obtain ⟨va, vac, vy, -⟩ := hN.v.rd.shape; obtain ⟨ca, cac, vz, -⟩ := hN.c.rd.shape; subst k7; subst vy; subst vz; have ar := hN.blk; have hR : NdR w13 ⟨lf, ks, vs, cs⟩ (.slice ka ks.length kac) (.slice va vs.length vac) (.slice ca cs.length cac) := ⟨hN.k.rd, hN.v.rd, hN.c.rd⟩; refine qN rfl (qV (yldA U84 rfl ti84 rfl (Blk.cells (n := 4) ar (news := [_, _, _, _]) rfl) rfl) (zqm rfl (qV (ylnS U9 rfl) (zqc [.tmp 82, .tmp 84] cf83 rfl (encode_ret (n := ⟨lf, ks, vs, cs⟩) hR bj hz) ?_)))); rintro vE w14 ⟨av, vA⟩; have gM := aq.trans av; have pt := av.blk ar; have zQ := av.blk qh.b; have lC := hN.ext av
     obtain ⟨tE, eE, rfl, yV⟩ : ∃ tE eE, vE = .tuple #[S tE, I eE] ∧ ((NdOk s.length ⟨lf, ks, vs, cs⟩ ∧ tE = enc s.length ⟨lf, ks, vs, cs⟩ ∧ eE = 0) ∨ (¬ NdOk s.length ⟨lf, ks, vs, cs⟩ ∧ eE = 1)) := by
      rcases vA with ⟨h, rfl⟩ | ⟨h, rfl⟩
      ·exact ⟨_, _, rfl, .inl ⟨h, rfl, rfl⟩⟩
      ·exact ⟨_, _, rfl, .inr ⟨h, rfl⟩⟩
     have bK : (bad = true ∨ eE ≠ 0 ∨ tE ≠ s) → dec s = none := fun h => by
      cases e : dec s with
      | none => rfl
      | some n =>
        obtain ⟨g1, g2⟩ := lg_end rfl hL Eq e; obtain ⟨-, g3, g4⟩ := dec_some.1 e; subst g2; rcases yV with ⟨h1, h2, h3⟩ | ⟨h1, -⟩
        ·rcases h with h | h | h
         ·rw [g1] at h; cases h
         ·exact absurd h3 h
         ·rw [h2] at h; exact absurd g4 h
        ·exact absurd g3.ok h1
     refine zqm rfl (qV (yex rfl rfl) (qV (yex rfl rfl) (zqa rfl (zqa rfl (rEnd (run_seq (run_seq (run_cut (fun e' w' => ∃ q : Bool, e' = [(2, ptr b2 0), (9, ptr b9 0), (3, I 0), (97, .bool q)] ∧ w' = w14 ∧ (q = true → dec s = none) ∧ (q = false → bad = false ∧ eE = 0 ∧ tE = s)) ?t8 (fun t8 => ?vB)))))))))
     case t8 =>
      rintro e' w15 ⟨q, rfl, rfl, dw, i0⟩; have pu := gM.blk ak; refine run_cond rfl (fun hq => ?_) (fun hq => ?_)
      ·refine qN rfl (qV (ybd (parts := []) (cs := [_, _, _, _]) ti84 rfl sp84 rfl rfl) (rEffP rfl (zstA ti84 rfl rfl rfl rfl pu (by simp)) ?_)); rintro w16 ⟨cH, fu⟩; refine zqa rfl (rEnd (run_retR Tryz.func51 (.cell U84 rfl ti84 rfl (Blk.cells (n := 4) cH (news := [_, _, _, _]) rfl) rfl (.tmp rfl .nil)) ?_)); exact ⟨_, rfl, (aa.trans gM).trans_new fu (fun i hi => by omega), .inr ⟨dw hq, rfl⟩⟩
      ·obtain ⟨g1, g2, g3⟩ := i0 hq; refine run_skip (qN rfl (qV (yldA U84 rfl ti84 rfl (Blk.cells (n := 4) pt (news := [_, _, _, _]) rfl) rfl) (rEffP rfl (zstA ti84 rfl rfl rfl rfl pu (by simp)) ?_))); rintro w16 ⟨cH, fu⟩; refine zqa rfl (rEnd (run_retR Tryz.func51 (.cell U84 rfl ti84 rfl (Blk.cells (n := 4) cH (news := [_, _, _, _]) rfl) rfl (.tmp rfl .nil)) ?_))
       have lD : dec s = some ⟨lf, ks, vs, cs⟩ := by
        rcases yV with ⟨h1, h2, h3⟩ | ⟨h1, h3⟩
        ·exact dec_some.2 ⟨hz, ⟨h1, bj.cs⟩, by rw [← h2]; exact g3⟩
        ·omega
       have ce : ∀ g, (Value.slice ka ks.length kac).ownBlock = some g ∨ (Value.slice va vs.length vac).ownBlock = some g ∨ (Value.slice ca cs.length cac).ownBlock = some g → w.heap.size ≤ g ∧ g ≠ b2 := fun g hg => by
        have := hN.low g hg; have := ak.lt; omega
       refine ⟨_, rfl, (aa.trans gM).trans_new fu (fun i hi => by omega), .inl ⟨_, _, _, _, lD, rfl, ⟨lC.k.kp fu (fun g hg => (ce g (.inl hg)).2), lC.v.kp fu (fun g hg => (ce g (.inr (.inl hg))).2), lC.c.kp fu (fun g hg => (ce g (.inr (.inr hg))).2), bj, hN.d2, hN.d3⟩, fun g hg => (ce g hg).1⟩⟩
     case vB =>
      refine run_reg rfl (qV (yld U4 rfl rfl zQ rfl) (zqm rfl (rVal_bool (fun dr => ?_) (fun dr => ?_))))
      ·refine qS (qS (qV (ypT rfl rfl) (zqm rfl (qS (qS (qS (qV (ypT rfl rfl) (rEnd ?_)))))))); exact (t8 _ _ ⟨true, rfl, rfl, fun _ => bK (.inl dr), fun h => Bool.noConfusion h⟩).qb
      ·refine zqm rfl (qV (yne rfl rfl) (rVal_if (fun pw => ?_) (fun pw => ?_)))
       ·refine qV (ypF rfl rfl) (zqm rfl (qS (qS (qS (qV (ypT rfl rfl) (rEnd ?_)))))); exact (t8 _ _ ⟨true, rfl, rfl, fun _ => bK (.inr (.inl pw)), fun h => Bool.noConfusion h⟩).qb
       ·refine qV (ypF rfl rfl) (zqm rfl (zqm rfl (zqm rfl (qV (yneS rfl rfl) (qV (ypF rfl rfl) (rEnd ((t8 _ _ ⟨_, rfl, rfl, ?_, ?_⟩).qb)))))))
        ·intro h; exact bK (.inr (.inr (by simpa using h)))
        ·intro h; exact ⟨dr, by omega, by simpa using h⟩
    case vC =>
     refine zqu (α := Nat) (valB t2) (fun c => [(0, S s), (2, ptr b2 0), (3, I 0), (5, ptr b5 0), (6, ptr b6 0), (7, .func (.func 82) #[] #[ptr b6 0]), (9, ptr b9 0), (10, I (c : Int))]) (fun c w' => c < 65536 ∧ ∃ ks vs cs kv vv cv r bad, DcN w1 w' b4 b5 b6 b9 lf ks vs cs kv vv cv ∧ DcS w' b4 b5 b6 r bad ∧ Lg s.length s lf ks vs cs c r bad ∧ Ext w1 w' ∧ (∀ c ∈ cs, c < 4294967296) ∧ (∀ k ∈ ks, k.length ≤ 4096) ∧ (∀ k ∈ vs, k.length ≤ 4096) ∧ ks.length + c < 65536 ∧ vs.length ≤ ks.length ∧ cs.length ≤ ks.length + 1 ∧ r.length ≤ s.length) (fun c => c) ?hI ?hround
     case hI => exact ⟨Gx, [], [], cs0, _, _, cv0, r0, bad0, Dj, Ep, vt, BM, vu, by simp, by simp, by simpa using Gx, by simp, by simpa using vw, vx⟩
     case hround =>
      rintro c wi ⟨hc, ks, vs, cs, kv, vv, cv, r, bad, hN, qh, hL, sE, s8, kZ, s6, cn, ei, cM, ic⟩ ih; have s9 : Nd.Bd ⟨lf, ks, vs, cs⟩ := ⟨by dsimp only; omega, by dsimp only; omega, by dsimp only; omega, fun k hk => by have := kZ k hk; omega, fun k hk => by have := s6 k hk; omega, s8⟩; have iF := qh.b; have ar := hN.blk; have vD := sE.size
      try dsimp only
      refine run_seq (qN rfl (zqm rfl (qV (ygt rfl rfl) (zqm rfl (rVal_if (fun gw => ?_) (fun gw => ?_))))))
      ·obtain ⟨c, rfl⟩ : ∃ c', c = c' + 1 := ⟨c - 1, by omega⟩; refine qV ((by first | exact yld U4 rfl rfl iF rfl | exact yld U4 rfl rfl ar rfl)) ?_; refine qV ((by first | exact yntd rfl | exact ynt rfl)) ?_; refine qV (ypT rfl rfl) (rEnd (run_cond rfl (fun bj => ?_) (fun bj => ?_)))
       ·have BQ : bad = false := by simpa using bj
        subst BQ; obtain ⟨ta, ra, ca, ea⟩ := tx_ex 1 r false; have Dm := tx_le ea
        have xR : valB ta < 65536 := Nat.lt_of_lt_of_le (valB_lt ta) (by
         have : 256 ^ ta.length ≤ 256 ^ 1 := Nat.pow_le_pow_right (by omega) Dm.1
         omega)
        refine run_skip (run_seq (run_block (qN rfl (zqm rfl (rCall rfl rfl (ycv' (args := [.const (Value.int .i64 1)]) cf82 rfl rfl) (number_ret qh 1 (by omega) (by omega) ea) ?_))))); rintro _ w20 ⟨rfl, qi, il⟩; have nA := hN.kp il (fun g e => e); have qj : Ext w1 w20 := sE.trans_new il (fun i hi => by omega); have Jf := qj.size; have zR := nA.blk; refine zqa rfl (zqa rfl (rEnd (run_seq (qN rfl (qV (yfa fl84_0 rfl) (qV (yld U4 rfl rfl zR rfl) ?_))))))
        cases lf with
        | true =>
          refine rEnd (run_true rfl (run_reg rfl (zqm rfl ?_))); obtain ⟨tb, rb, cb, eb⟩ := tx_ex 2 ra ca; have BN := tx_le eb
          have sb : valB tb < 65536 := Nat.lt_of_lt_of_le (valB_lt tb) (by
           have : 256 ^ tb.length ≤ 256 ^ 2 := Nat.pow_le_pow_right (by omega) BN.1
           omega)
          obtain ⟨tc, rc, cc, ec⟩ := tx_ex (valB ta) rb cb; have xj := tx_le ec; obtain ⟨td, rd, cd, ed⟩ := tx_ex (valB tb) rc cc; have Iq := tx_le ed; refine rCall rfl rfl (ycv' (args := [.const (Value.int .i64 2)]) cf82 rfl rfl) (number_ret qi 2 (by omega) (by omega) eb) ?_; rintro _ w21 ⟨rfl, sF, zS⟩; have sG := nA.kp zS (fun g e => e); have tw : Ext w1 w21 := qj.trans_new zS (fun i hi => by omega); have Jg := tw.size; refine zqa rfl (rEnd (run_seq ?_)); have kG := Ext.drew0 w21; have iK : Kp (fun k => k = b4 ∨ k = b5) w21 w21.drew := kG.kp; have tz := sG.blk; have tA := sF.f; have tB : ¬ (b9 = b4 ∨ b9 = b5) := fun e => e.elim sG.n9.2.1 sG.n9.2.2.1; have tC : ¬ (b6 = b4 ∨ b6 = b5) := fun e => e.elim sF.n2.1 sF.n2.2; refine run_drawL [6,8] (fun w' => Kp (fun k => k = b4 ∨ k = b5) w21 w') (by kernel_rfl) rfl (qL [1, 6, 7, 8] 0 rfl (fun _ h=>yfa fl84_1 rfl) iK (qL [6, 7, 8] 1 rfl (fun _ h=>(by first | exact yld U23 rfl rfl (h.blk tz tB) rfl | exact yld U23 rfl rfl (h.blk tA tC) rfl)) iK ?_)); refine qL [4, 5, 6, 7, 8] 2 rfl (fun _ h=>(by first | exact yld U122 rfl rfl (h.blk tz tB) rfl | exact yld U122 rfl rfl (h.blk tA tC) rfl)) iK ?_; refine qL [4, 5, 6, 7, 8] 3 rfl (fun _ h=>ymv rfl) iK (hOneL (i := 4) (by kernel_rfl) (nCallL (i := 4) rfl rfl rfl (ycv' (args := [.tmp 58]) cf81 rfl rfl) (text_ret (sF.ext kG) (valB ta) (by omega) (by omega) ec) ?_)); rintro _ w30 ⟨rfl, Er, ql⟩; refine ⟨iK.trans ql, ?_⟩; have gf := (sG.ext kG).kp ql (fun g e => e); refine hOneL (i := 5) (by kernel_rfl) (nValPL (i := 5) rfl rfl rfl (pbs (parts := [(0, .tmp 59)]) (cs := [_]) (zs := [Value.string ⟨#[]⟩]) U23 ti9 rfl (by kernel_rfl) rfl rfl rfl (by decide)) ?_); rintro _ w31 ⟨bq30, rfl, ⟨te, df, tf⟩, k8⟩; refine ⟨(iK.trans ql).trans df.kp, ?_⟩; refine hLate [6] (by kernel_rfl) (by kernel_rfl) (qO 6 (nValP (i := 6) rfl rfl rfl (pap U23 ti9 rfl (by decide) rfl rfl (gf.k.ext df) k8.rd (by intro c hc; simp at hc; subst hc; rfl) (by omega) (by omega)) ?_)); rintro u30 w32 ⟨fN, fO, k9, -⟩; refine ⟨trivial, ?_⟩; have ke := fO.blk (df.blk gf.blk) (fun e => (gf.low _ (.inl e)).2.2.2.2 rfl); refine zqt 7 rfl (yfa fl84_1 rfl) trivial (qO 8 (nEffP (i := 8) rfl rfl (zst ti23 rfl rfl (oneV_sl fN) ke (by simp)) ?_)); rintro w33 ⟨kf, kg⟩; refine ⟨trivial, ?_⟩; have pA : w1.heap.size ≤ w30.heap.size := by have := kG.size; have := ql.size; omega
          obtain ⟨cC, iH⟩ := DcN.pushK pA gf df (by rw [List.length_append, List.map_append]; exact fN) fO k9 kf kg; have mi := Er.kp iH (fun e => e.elim (fun e => gf.n9.2.1 e.symm) (fun e => (gf.low _ (.inl e)).2.1 rfl)) (fun e => e.elim (fun e => gf.n9.2.2.1 e.symm) (fun e => (gf.low _ (.inl e)).2.2.1 rfl)) (fun e => e.elim (fun e => gf.n9.2.2.2 e.symm) (fun e => (gf.low _ (.inl e)).2.2.2.1 rfl)); have eS : Ext w1 w33 := ((tw.trans kG).trans_new ql (fun i hi => by omega)).trans_new iH (fun i hi => hi.elim (fun e => by have := gf.n9.1; omega) (fun e => (gf.low i (.inl e)).1))

          have Jh := eS.size; have zT := cC.blk; refine qE (qN rfl (qV (yfa fl84_0 rfl) (qV (yld U4 rfl rfl zT rfl) (rEnd (run_true rfl ?_))))); have zU := eS; have kH := Ext.drew0 w33; have iL : Kp (fun k => k = b4 ∨ k = b5) w33 w33.drew := kH.kp; have tD := cC.blk; have tF := mi.f; have tG : ¬ (b9 = b4 ∨ b9 = b5) := fun e => e.elim cC.n9.2.1 cC.n9.2.2.1; have tH : ¬ (b6 = b4 ∨ b6 = b5) := fun e => e.elim mi.n2.1 mi.n2.2; refine run_drawL [6,8] (fun w' => Kp (fun k => k = b4 ∨ k = b5) w33 w') (by kernel_rfl) rfl (qL [1, 6, 7, 8] 0 rfl (fun _ h=>yfa fl84_2 rfl) iL (qL [6, 7, 8] 1 rfl (fun _ h=>(by first | exact yld U23 rfl rfl (h.blk tD tG) rfl | exact yld U23 rfl rfl (h.blk tF tH) rfl)) iL ?_)); refine qL [4, 5, 6, 7, 8] 2 rfl (fun _ h=>(by first | exact yld U122 rfl rfl (h.blk tD tG) rfl | exact yld U122 rfl rfl (h.blk tF tH) rfl)) iL ?_; refine qL [4, 5, 6, 7, 8] 3 rfl (fun _ h=>ymv rfl) iL (hOneL (i := 4) (by kernel_rfl) (nCallL (i := 4) rfl rfl rfl (ycv' (args := [.tmp 68]) cf81 rfl rfl) (text_ret (mi.ext kH) (valB tb) (by omega) (by omega) ed) ?_)); rintro _ w40 ⟨rfl, Et, qo⟩; refine ⟨iL.trans qo, ?_⟩; have gg := (cC.ext kH).kp qo (fun g e => e); refine hOneL (i := 5) (by kernel_rfl) (nValPL (i := 5) rfl rfl rfl (pbs (parts := [(0, .tmp 69)]) (cs := [_]) (zs := [Value.string ⟨#[]⟩]) U23 ti9 rfl (by kernel_rfl) rfl rfl rfl (by decide)) ?_); rintro _ w41 ⟨bq40, rfl, ⟨yW, fP, yX⟩, pC⟩; refine ⟨(iL.trans qo).trans fP.kp, ?_⟩; refine hLate [6] (by kernel_rfl) (by kernel_rfl) (qO 6 (nValP (i := 6) rfl rfl rfl (pap U23 ti9 rfl (by decide) rfl rfl (gg.v.ext fP) pC.rd (by intro c hc; simp at hc; subst hc; rfl) (by omega) (by omega)) ?_)); rintro u40 w42 ⟨kh, ki, pD, -⟩; refine ⟨trivial, ?_⟩; have pE := ki.blk (fP.blk gg.blk) (fun e => (gg.low _ (.inr (.inl e))).2.2.2.2 rfl); refine zqt 7 rfl (yfa fl84_2 rfl) trivial (qO 8 (nEffP (i := 8) rfl rfl (zst ti23 rfl rfl (oneV_sl kh) pE (by simp)) ?_)); rintro w43 ⟨pF, pG⟩; refine ⟨trivial, ?_⟩; have tg : w1.heap.size ≤ w40.heap.size := by have := kH.size; have := qo.size; omega
          obtain ⟨kj, iI⟩ := DcN.pushV tg gg fP (by rw [List.length_append, List.map_append]; exact kh) ki pD pF pG; have zV := Et.kp iI (fun e => e.elim (fun e => gg.n9.2.1 e.symm) (fun e => (gg.low _ (.inr (.inl e))).2.1 rfl)) (fun e => e.elim (fun e => gg.n9.2.2.1 e.symm) (fun e => (gg.low _ (.inr (.inl e))).2.2.1 rfl)) (fun e => e.elim (fun e => gg.n9.2.2.2 e.symm) (fun e => (gg.low _ (.inr (.inl e))).2.2.2.1 rfl)); have iJ : Ext w1 w43 := ((zU.trans kH).trans_new qo (fun i hi => by omega)).trans_new iI (fun i hi => hi.elim (fun e => by have := gg.n9.1; omega) (fun e => (gg.low i (.inr (.inl e))).1))

          refine qE (run_inBlock (run_reg rfl (zqm rfl (qV (ysb rfl rfl (by omega)) (zqa rfl (rEnd ?_)))))); rw [show (((c + 1 : Nat) : Int) - 1) = (c : Int) by omega]; refine (ih c w43 ⟨by omega, _, _, _, _, _, _, _, _, kj, zV, lg_leaf hz hL ea eb ec ed, iJ, s8, fun k hk => ?_, fun k hk => ?_, ?_, ?_, ?_, by omega⟩ (by omega)).qb
          ·rcases List.mem_append.1 hk with hk | hk
           ·exact kZ k hk
           ·simp at hk; subst hk; omega
          ·rcases List.mem_append.1 hk with hk | hk
           ·exact s6 k hk
           ·simp at hk; subst hk; omega
          ·simp; omega
          ·simp; omega
          ·simp; omega
        | false =>
          obtain ⟨tb, rb, cb, eb⟩ := tx_ex (valB ta) ra ca; have BN := tx_le eb; obtain ⟨tc, rc, cc, ec⟩ := tx_ex 4 rb cb; have xj := tx_le ec
          have mu : valB tc < 4294967296 := Nat.lt_of_lt_of_le (valB_lt tc) (by
           have : 256 ^ tc.length ≤ 256 ^ 4 := Nat.pow_le_pow_right (by omega) xj.1
           omega)
          refine rEnd (run_false rfl (run_skip (run_seq ?_))); have kI := Ext.drew0 w20; have iM : Kp (fun k => k = b4 ∨ k = b5) w20 w20.drew := kI.kp; have tI := nA.blk; have tJ := qi.f; have tK : ¬ (b9 = b4 ∨ b9 = b5) := fun e => e.elim nA.n9.2.1 nA.n9.2.2.1; have tL : ¬ (b6 = b4 ∨ b6 = b5) := fun e => e.elim qi.n2.1 qi.n2.2; refine run_drawL [6,8] (fun w' => Kp (fun k => k = b4 ∨ k = b5) w20 w') (by kernel_rfl) rfl (qL [1, 6, 7, 8] 0 rfl (fun _ h=>yfa fl84_1 rfl) iM (qL [6, 7, 8] 1 rfl (fun _ h=>(by first | exact yld U23 rfl rfl (h.blk tI tK) rfl | exact yld U23 rfl rfl (h.blk tJ tL) rfl)) iM ?_)); refine qL [4, 5, 6, 7, 8] 2 rfl (fun _ h=>(by first | exact yld U122 rfl rfl (h.blk tI tK) rfl | exact yld U122 rfl rfl (h.blk tJ tL) rfl)) iM ?_; refine qL [4, 5, 6, 7, 8] 3 rfl (fun _ h=>ymv rfl) iM (hOneL (i := 4) (by kernel_rfl) (nCallL (i := 4) rfl rfl rfl (ycv' (args := [.tmp 58]) cf81 rfl rfl) (text_ret (qi.ext kI) (valB ta) (by omega) (by omega) eb) ?_)); rintro _ w50 ⟨rfl, Eu, qp⟩; refine ⟨iM.trans qp, ?_⟩; have gi := (nA.ext kI).kp qp (fun g e => e); refine hOneL (i := 5) (by kernel_rfl) (nValPL (i := 5) rfl rfl rfl (pbs (parts := [(0, .tmp 59)]) (cs := [_]) (zs := [Value.string ⟨#[]⟩]) U23 ti9 rfl (by kernel_rfl) rfl rfl rfl (by decide)) ?_); rintro _ w51 ⟨bq50, rfl, ⟨Gy, mj, Gz⟩, zW⟩; refine ⟨(iM.trans qp).trans mj.kp, ?_⟩; refine hLate [6] (by kernel_rfl) (by kernel_rfl) (qO 6 (nValP (i := 6) rfl rfl rfl (pap U23 ti9 rfl (by decide) rfl rfl (gi.k.ext mj) zW.rd (by intro c hc; simp at hc; subst hc; rfl) (by omega) (by omega)) ?_)); rintro u50 w52 ⟨tM, tN, zX, -⟩; refine ⟨trivial, ?_⟩; have zY := tN.blk (mj.blk gi.blk) (fun e => (gi.low _ (.inl e)).2.2.2.2 rfl); refine zqt 7 rfl (yfa fl84_1 rfl) trivial (qO 8 (nEffP (i := 8) rfl rfl (zst ti23 rfl rfl (oneV_sl tM) zY (by simp)) ?_)); rintro w53 ⟨zZ, A0⟩; refine ⟨trivial, ?_⟩; have A1 : w1.heap.size ≤ w50.heap.size := by have := kI.size; have := qp.size; omega
          obtain ⟨kJ, tO⟩ := DcN.pushK A1 gi mj (by rw [List.length_append, List.map_append]; exact tM) tN zX zZ A0; have ml := Eu.kp tO (fun e => e.elim (fun e => gi.n9.2.1 e.symm) (fun e => (gi.low _ (.inl e)).2.1 rfl)) (fun e => e.elim (fun e => gi.n9.2.2.1 e.symm) (fun e => (gi.low _ (.inl e)).2.2.1 rfl)) (fun e => e.elim (fun e => gi.n9.2.2.2 e.symm) (fun e => (gi.low _ (.inl e)).2.2.2.1 rfl)); have tP : Ext w1 w53 := ((qj.trans kI).trans_new qp (fun i hi => by omega)).trans_new tO (fun i hi => hi.elim (fun e => by have := gi.n9.1; omega) (fun e => (gi.low i (.inl e)).1))

          have Ji := tP.size; have A2 := kJ.blk; refine qE (qN rfl (qV (yfa fl84_0 rfl) (qV (yld U4 rfl rfl A2 rfl) (rEnd (run_false rfl ?_))))); have A3 := tP; have kK := Ext.drew0 w53; have iN : Kp (fun k => k = b4 ∨ k = b5) w53 w53.drew := kK.kp; have A4 := kJ.blk; have A5 := ml.f; have qq : ¬ (b9 = b4 ∨ b9 = b5) := fun e => e.elim kJ.n9.2.1 kJ.n9.2.2.1; have qr : ¬ (b6 = b4 ∨ b6 = b5) := fun e => e.elim ml.n2.1 ml.n2.2; refine run_drawL [6,8] (fun w' => Kp (fun k => k = b4 ∨ k = b5) w53 w') (by kernel_rfl) rfl (qL [1, 6, 7, 8] 0 rfl (fun _ h=>yfa fl84_3 rfl) iN (qL [6, 7, 8] 1 rfl (fun _ h=>(by first | exact yld U82 rfl rfl (h.blk A4 qq) rfl | exact yld U82 rfl rfl (h.blk A5 qr) rfl)) iN ?_)); refine qL [3, 4, 5, 6, 7, 8] 2 rfl (fun _ h=>ymv rfl) iN (hOneL (i := 3) (by kernel_rfl) (nCallL (i := 3) rfl rfl rfl (ycv' (args := [.const (Value.int .i64 4)]) cf82 rfl rfl) (number_ret (ml.ext kK) 4 (by omega) (by omega) ec) ?_)); rintro _ w60 ⟨rfl, Ew, nB⟩; refine ⟨iN.trans nB, ?_⟩; have gj := (kJ.ext kK).kp nB (fun g e => e); refine qL [5, 6, 7, 8] 4 rfl (fun _ h=>ycv32 rfl U3 U89) (iN.trans nB) ?_; rw [Nat.mod_eq_of_lt mu]; refine hOneL (i := 5) (by kernel_rfl) (nValPL (i := 5) rfl rfl rfl (pbs (parts := [(0, .tmp 77)]) (cs := [_]) (zs := [Value.int .u32 0]) U82 ti89 rfl (by kernel_rfl) rfl rfl rfl (by decide)) ?_); rintro _ w61 ⟨bq60, rfl, ⟨GA, mo, GB⟩, A6⟩; refine ⟨(iN.trans nB).trans mo.kp, ?_⟩; refine hLate [6] (by kernel_rfl) (by kernel_rfl) (qO 6 (nValP (i := 6) rfl rfl rfl (pap U82 ti89 rfl (by decide) rfl rfl (gj.c.ext mo) A6.rd (by intro c hc; simp at hc; subst hc; rfl) (by omega) (by omega)) ?_)); rintro u60 w62 ⟨tQ, tT, A7, -⟩; refine ⟨trivial, ?_⟩; have A8 := tT.blk (mo.blk gj.blk) (fun e => (gj.low _ (.inr (.inr e))).2.2.2.2 rfl); refine zqt 7 rfl (yfa fl84_3 rfl) trivial (qO 8 (nEffP (i := 8) rfl rfl (zst ti82 rfl rfl (oneV_sl tQ) A8 (by simp)) ?_)); rintro w63 ⟨A9, Aa⟩; refine ⟨trivial, ?_⟩; have Ab : w1.heap.size ≤ w60.heap.size := by have := kK.size; have := nB.size; omega
          obtain ⟨Ac, tU⟩ := DcN.pushC Ab gj mo (by rw [List.length_append, List.map_append]; exact tQ) tT A7 A9 Aa; have Ad := Ew.kp tU (fun e => e.elim (fun e => gj.n9.2.1 e.symm) (fun e => (gj.low _ (.inr (.inr e))).2.1 rfl)) (fun e => e.elim (fun e => gj.n9.2.2.1 e.symm) (fun e => (gj.low _ (.inr (.inr e))).2.2.1 rfl)) (fun e => e.elim (fun e => gj.n9.2.2.2 e.symm) (fun e => (gj.low _ (.inr (.inr e))).2.2.2.1 rfl)); have Ae : Ext w1 w63 := ((A3.trans kK).trans_new nB (fun i hi => by omega)).trans_new tU (fun i hi => hi.elim (fun e => by have := gj.n9.1; omega) (fun e => (gj.low i (.inr (.inr e))).1))

          refine qE (run_inBlock (run_reg rfl (zqm rfl (qV (ysb rfl rfl (by omega)) (zqa rfl (rEnd ?_)))))); rw [show (((c + 1 : Nat) : Int) - 1) = (c : Int) by omega]; refine (ih c w63 ⟨by omega, _, _, _, _, _, _, _, _, Ac, Ad, lg_inn hz hL ea eb ec, Ae, fun k hk => ?_, fun k hk => ?_, s6, ?_, ?_, ?_, by omega⟩ (by omega)).qb
          ·rcases List.mem_append.1 hk with hk | hk
           ·exact s8 k hk
           ·simp at hk; subst hk; omega
          ·rcases List.mem_append.1 hk with hk | hk
           ·exact kZ k hk
           ·simp at hk; subst hk; omega
          ·simp; omega
          ·simp; omega
          ·simp; omega
       ·have BQ : bad = true := by simpa using bj
        refine run_exit rfl ?_; exact (xi _ _ ⟨_, _, _, _, _, _, _, _, _, rfl, hN, qh, hL, .inr BQ, sE, s9⟩).qb
      ·have : c = 0 := by omega
       subst this; refine qS (qS (qV (ypF rfl rfl) (rEnd (run_false rfl (run_exit rfl ?_))))); exact (xi _ _ ⟨_, _, _, _, _, _, _, _, _, rfl, hN, qh, hL, .inl rfl, sE, s9⟩).qb
   case dN =>
    cases lf with
    | true =>
      have fZ : valB t1 = 1 := by have := of_decide_eq_true dE; omega
      refine run_false rfl (run_skip ?_)
      exact (hk _ _ ⟨[], _, r2, c2, rfl, nw, zP, BK fZ, qg, by simp, by simp, by omega⟩).qb
    | false =>
      have fZ : valB t1 ≠ 1 := fun e => of_decide_eq_false dE (by omega); refine run_true rfl ?_
      have mu : valB t3 < 4294967296 := Nat.lt_of_lt_of_le (valB_lt t3) (by
       have : 256 ^ t3.length ≤ 256 ^ 4 := Nat.pow_le_pow_right (by omega) e8.1
       omega)
      have Ex := qg.size; have ud : ([] : List Nat).length = 0 := rfl; have Af := qg; have kL := Ext.drew0 w11; have iO : Kp (fun k => k = b4 ∨ k = b5) w11 w11.drew := kL.kp; have Ag := nw.blk; have Ah := zP.f; have qq : ¬ (b9 = b4 ∨ b9 = b5) := fun e => e.elim nw.n9.2.1 nw.n9.2.2.1; have qr : ¬ (b6 = b4 ∨ b6 = b5) := fun e => e.elim zP.n2.1 zP.n2.2; refine run_drawL [6,8] (fun w' => Kp (fun k => k = b4 ∨ k = b5) w11 w') (by kernel_rfl) rfl (qL [1, 6, 7, 8] 0 rfl (fun _ h=>yfa fl84_3 rfl) iO (qL [6, 7, 8] 1 rfl (fun _ h=>(by first | exact yld U82 rfl rfl (h.blk Ag qq) rfl | exact yld U82 rfl rfl (h.blk Ah qr) rfl)) iO ?_)); refine qL [3, 4, 5, 6, 7, 8] 2 rfl (fun _ h=>ymv rfl) iO (hOneL (i := 3) (by kernel_rfl) (nCallL (i := 3) rfl rfl rfl (ycv' (args := [.const (Value.int .i64 4)]) cf82 rfl rfl) (number_ret (zP.ext kL) 4 (by omega) (by omega) e3) ?_)); rintro _ w70 ⟨rfl, Ey, nC⟩; refine ⟨iO.trans nC, ?_⟩; have gm := (nw.ext kL).kp nC (fun g e => e); refine qL [5, 6, 7, 8] 4 rfl (fun _ h=>ycv32 rfl U3 U89) (iO.trans nC) ?_; rw [Nat.mod_eq_of_lt mu]; refine hOneL (i := 5) (by kernel_rfl) (nValPL (i := 5) rfl rfl rfl (pbs (parts := [(0, .tmp 37)]) (cs := [_]) (zs := [Value.int .u32 0]) U82 ti89 rfl (by kernel_rfl) rfl rfl rfl (by decide)) ?_); rintro _ w71 ⟨bq70, rfl, ⟨GC, mp, GD⟩, Ai⟩; refine ⟨(iO.trans nC).trans mp.kp, ?_⟩; refine hLate [6] (by kernel_rfl) (by kernel_rfl) (qO 6 (nValP (i := 6) rfl rfl rfl (pap U82 ti89 rfl (by decide) rfl rfl (gm.c.ext mp) Ai.rd (by intro c hc; simp at hc; subst hc; rfl) (by omega) (by omega)) ?_)); rintro u70 w72 ⟨tV, tW, Aj, -⟩; refine ⟨trivial, ?_⟩; have Ak := tW.blk (mp.blk gm.blk) (fun e => (gm.low _ (.inr (.inr e))).2.2.2.2 rfl); refine zqt 7 rfl (yfa fl84_3 rfl) trivial (qO 8 (nEffP (i := 8) rfl rfl (zst ti82 rfl rfl (oneV_sl tV) Ak (by simp)) ?_)); rintro w73 ⟨Al, Am⟩; refine ⟨trivial, ?_⟩; have Ao : w1.heap.size ≤ w70.heap.size := by have := kL.size; have := nC.size; omega
      obtain ⟨Ap, tX⟩ := DcN.pushC Ao gm mp (by rw [List.length_append, List.map_append]; exact tV) tW Aj Al Am; have Aq := Ey.kp tX (fun e => e.elim (fun e => gm.n9.2.1 e.symm) (fun e => (gm.low _ (.inr (.inr e))).2.1 rfl)) (fun e => e.elim (fun e => gm.n9.2.2.1 e.symm) (fun e => (gm.low _ (.inr (.inr e))).2.2.1 rfl)) (fun e => e.elim (fun e => gm.n9.2.2.2 e.symm) (fun e => (gm.low _ (.inr (.inr e))).2.2.2.1 rfl)); have Ar : Ext w1 w73 := ((Af.trans kL).trans_new nC (fun i hi => by omega)).trans_new tX (fun i hi => hi.elim (fun e => by have := gm.n9.1; omega) (fun e => (gm.low i (.inr (.inr e))).1)); refine qE ?_; exact (hk _ _ ⟨_, _, r3, c3, rfl, Ap, Aq, BL fZ, Ar, by simpa using mu, by simp, by omega⟩).qb
 ·rw [if_neg hz]; refine qV (yne rfl rfl) (rEnd (run_if rfl (fun h0 => ?_) (fun h0 => ?_)))
  ·refine qN rfl (qV (ybd (parts := []) (cs := [_, _, _, _]) ti84 rfl sp84 rfl rfl) (rEffP rfl (zstA ti84 rfl rfl rfl rfl ak (by simp)) ?_)); rintro w2 ⟨aG, am⟩; refine zqa rfl (rEnd (run_retR Tryz.func51 (.cell U84 rfl ti84 rfl (Blk.cells (n := 4) aG (news := [_, _, _, _]) rfl) rfl (.tmp rfl .nil)) ?_)); exact ⟨_, rfl, aa.trans_new am (fun i hi => by omega), .inr ⟨dec_none.2 (fun n h1 _ _ => hz h1), rfl⟩⟩
  ·exact absurd (by decide) h0
theorem sub_of_len {a b : List Int} (ha : a.Nodup) (er : ∀ x ∈ a, x ∈ b) (hl : b.length ≤ a.length) : ∀ x ∈ b, x ∈ a := fun x hx => by
 by_cases h : x ∈ a
 ·exact h
 ·have := List.Nodup.length_le_of_subset (List.nodup_cons.2 ⟨h, ha⟩) (l₂ := b) (fun y hy => by
   rcases List.mem_cons.1 hy with rfl | hy
   ·exact hx
   ·exact er y hy)
  rw [List.length_cons] at this; omega
theorem kn_len {T : Tr} {nb : Int → Nat} {kn : List (Int × Value)} {pg : List Int} (hg : ∀ no, getL kn no = (T.nodes no).map fun _ => ptr (nb no) 0) (bz : (kn.map (·.1)).Nodup) (C1 : pg.Nodup) (ro : ∀ x, T.nodes x ≠ none ↔ x ∈ pg) : kn.length = pg.length := by
 have : (kn.map (·.1)).Perm pg := (List.perm_ext_iff_of_nodup bz C1).2 fun x => by rw [keys_iff hg x, ro x]
 simpa using this.length_eq
section
variable {w : World} {p : Nat} {T : Tr} {nb : Int → Nat} {F : Nat → Prop}
set_option maxHeartbeats 4000000 in
theorem whole_ret (h : TreeA w p T nb F) (aQ : ∀ x n, T.nodes x = some n → NdOk T.size n) {pg : List Int} (C1 : pg.Nodup) (ro : ∀ x, T.nodes x ≠ none ↔ x ∈ pg) (dv : pg.length ≤ 1000000) (fy : T.count = 0) :
  Ret Tryz.prog 52 [ptr p 0] w fun v w' => Kp F w w' ∧ ((T.root = 0 ∧ v = .bool (decide (pg = [])) ∧ TreeA w' p T nb F) ∨ (T.root ≠ 0 ∧ ((∃ H ns es, Sub1 T.size T.nodes [] true T.root [] none H ns es ∧ ns.length = pg.length ∧ v = .bool true ∧ TreeA w' p { T with count := es.length } nb F) ∨ (v = .bool false ∧ ∀ H ns es, Sub1 T.size T.nodes [] true T.root [] none H ns es → ns.length ≠ pg.length)))) := by
 have hz : sizeOk (T.size : Int) := size_ok h
 obtain ⟨mN, mC, mO, gv, kn, kc, ko, O⟩ := h.opn
 have af := h.lt
 have Ez := kn_len O.ng O.nm.nd C1 ro
 refine ret_of_run (e := [(0, _)]) Tryz.func52 rfl Tryz.ntmps52 rfl rfl (qN rfl (rValP rfl rfl (pbx rfl rfl) ?_))
 rintro _ w1 ⟨bt, rfl, BP, aa, ai⟩
 have iq := aa.blk O.blk
 have eI := aa.size
 have l1 := ai.lt
 refine zqa rfl (rEnd (run_seq (qN rfl (qV ((by first | exact yld U24 rfl rfl ai rfl | exact yld U24 rfl rfl iq rfl)) ?_))))
 refine qV (ynk rfl) (qV (yfa fl74_1 rfl) (qV ((by first | exact yld U3 rfl rfl ai rfl | exact yld U3 rfl rfl iq rfl)) ?_))
 refine qV (yeq rfl rfl) (rEnd (run_if rfl (fun hr => ?_) (fun hr => ?_)))
 ·refine qN rfl (qV ((by first | exact yld U24 rfl rfl ai rfl | exact yld U24 rfl rfl iq rfl)) ?_); refine qV (ynk rfl) (qV (yfa fl74_5 rfl) (qV ((by first | exact yld U71 rfl rfl ai rfl | exact yld U71 rfl rfl iq rfl)) ?_)); refine qV (ylenM U71 rfl (O.nm.ext aa).l) (qV (yeq rfl rfl) (zqa rfl (rEnd (run_ret Tryz.func52 rfl (⟨_, rfl, aa.kp, .inl ⟨hr, ?_, h.ext aa⟩⟩))))); simp only [resVal]
  congr 1
  rw [decide_eq_decide]; constructor
  ·intro e; exact List.eq_nil_of_length_eq_zero (by omega)
  ·intro e; rw [Ez, e]; rfl
 ·refine run_skip (qN rfl (rValP rfl rfl (pmm) ?_)); rintro _ w2 ⟨mm, rfl, lq, ae, tr⟩; have lm : mm < w2.heap.size := (MapB.new (K := KZ) tr).lt; refine rValP rfl rfl (pal (cs := [_]) ti72 rfl) ?_; rintro _ w3 ⟨bm, rfl, mA, ah, aG⟩; refine rEffP rfl (zst ti72 rfl rfl rfl aG (by simp)) ?_; rintro w4 ⟨aW, az⟩; refine qM rfl (rValP rfl rfl (pal (cs := [_]) ti126 rfl) ?_); rintro _ w5 ⟨bw, rfl, KH, aJ, bx⟩; refine qM rfl (qV (ymf (first := []) (caps := [.tmp 1, .tmp 3, .tmp 4]) rfl rfl) (rEffP rfl (zst ti126 rfl rfl rfl bx (by simp)) ?_)); rintro w6 ⟨bD, bX⟩; have eQ := ae.size; have jK := ah.size; have jq := az.size; have kW := aJ.size; have l3 := aG.lt; have l4 := aW.lt; have l5 := bx.lt; have hp := af p O.fp.1; have av : Ext w1 w4 := ((ae.trans ah).trans_new az (fun i hi => by omega)); have aj : Ext w1 w6 := (av.trans aJ).trans_new bX (fun i hi => by omega); have n7 := aa.trans aj; have nY : WhC w6 p bt bm bw mm := ⟨aj.blk ai, bX.blk (aJ.blk aW) (by omega), bD, ⟨by omega, by omega, by omega, by omega, by omega, by omega, by omega⟩⟩; have zM : MetM w6 mm [] := ⟨[], ((((MapB.new (K := KZ) tr).ext ah).kp az (by omega)).ext aJ).kp bX (by omega), rfl, fun x => by simp [getL]⟩; have h6 := h.ext n7; have wA := aj.blk iq; have aS := Ext.drew0 w6; have tY : ¬ F bt ∧ ¬ F bm ∧ ¬ F bw ∧ ¬ F mm := ⟨fun e => by have := af _ e; omega, fun e => by have := af _ e; omega, fun e => by have := af _ e; omega, fun e => by have := af _ e; omega⟩; have pH := nY.f; have ii := nY.t; refine rEnd (run_seq (run_drawL [6] (fun w' => Ext w6 w') (by kernel_rfl) rfl (qL [6, 7, 8, 9, 10, 11, 12, 13, 14, 15, 16, 17, 18] 0 rfl (fun _ h=>(by first | exact yld U126 rfl rfl (h.blk pH) rfl | exact yld U126 rfl rfl (h.blk ii) rfl | exact yld U126 rfl rfl (h.blk wA) rfl)) aS ?_))); refine qL [2, 3, 4, 6, 7, 8, 9, 10, 11, 12, 13, 14, 15, 16, 17, 18] 1 rfl (fun _ h=>(by first | exact yld U24 rfl rfl (h.blk pH) rfl | exact yld U24 rfl rfl (h.blk ii) rfl | exact yld U24 rfl rfl (h.blk wA) rfl)) aS ?_; refine qL [3, 4, 6, 7, 8, 9, 10, 11, 12, 13, 14, 15, 16, 17, 18] 2 rfl (fun _ h=>ynk rfl) aS (qL [4, 6, 7, 8, 9, 10, 11, 12, 13, 14, 15, 16, 17, 18] 3 rfl (fun _ h=>yfa fl74_1 rfl) aS (qL [6, 7, 8, 9, 10, 11, 12, 13, 14, 15, 16, 17, 18] 4 rfl (fun _ h=>(by first | exact yld U3 rfl rfl (h.blk pH) rfl | exact yld U3 rfl rfl (h.blk ii) rfl | exact yld U3 rfl rfl (h.blk wA) rfl)) aS ?_)); refine qL [6, 7, 8, 9, 10, 11, 12, 13, 14, 15, 16, 17, 18] 5 rfl (fun _ h=>ybd (parts := []) (cs := [_, _, _]) ti128 rfl sp128 rfl rfl) aS (hLate [6] (by kernel_rfl) (by kernel_rfl) (qO 6 (nCall (i := 6) rfl rfl rfl (ycv' (args := [.tmp 22, .tmp 23]) cf84 rfl rfl) (whAt_all p bt bm bw mm pg.length _ T nb F T.root [] none [] [] pg (h6.ext aS) (nY.ext aS) tY aQ (fun x hx => (ro x).1 hx) dv (zM.kp aS id) (by simp) (by simp) (by omega) (by simp) (fun u hu => by cases hu) (.inl ⟨rfl, rfl⟩)) ?_))); rintro v7 w7 ⟨bg, BR⟩; refine ⟨trivial, ?_⟩; have dW : Kp (fun k => k = mm ∨ k = p) w6 w7 := aS.kp.trans bg; have gd : Kp F w w7 := n7.kp.trans_new (dW) (fun i hi => hi.elim (fun e => .inl (by omega)) (fun e => .inr (by rw [e]; exact O.fp.1)))
  rw [show decide (([] : List Int) = []) = true from rfl] at BR; rcases BR with ⟨H, ns, es, rfl, s, h7, EA, -⟩ | ⟨rfl, bK⟩
  ·have iR := s.bn.pos; rw [fy, Nat.zero_add] at h7; obtain ⟨mN7, mC7, mO7, gv7, kn7, kc7, ko7, O7⟩ := h7.opn; obtain ⟨kv7, f4, ez, -⟩ := EA; rw [List.append_nil] at ez; have Jj : kn7.length = pg.length := kn_len (T := { T with count := es.length }) O7.ng O7.nm.nd C1 ro; have jt := nY.kp dW; have wB := jt.m; have eU := jt.t; have im := O7.blk
   have ao : ∀ b, b = decide ((kv7.length : Int) = (kn7.length : Int)) → ∃ v, (Ending.returned (Value.bool b)) = .returned v ∧ Kp F w w7 ∧ ((T.root = 0 ∧ v = .bool (decide (pg = [])) ∧ TreeA w7 p T nb F) ∨ (T.root ≠ 0 ∧ ((∃ H ns es, Sub1 T.size T.nodes [] true T.root [] none H ns es ∧ ns.length = pg.length ∧ v = .bool true ∧ TreeA w7 p { T with count := es.length } nb F) ∨ (v = .bool false ∧ ∀ H ns es, Sub1 T.size T.nodes [] true T.root [] none H ns es → ns.length ≠ pg.length)))) := fun b hb => by
    refine ⟨_, rfl, gd, .inr ⟨hr, ?_⟩⟩; by_cases e : ns.length = pg.length
    ·exact .inl ⟨H, ns, es, s, e, by rw [hb, decide_eq_true (by omega)], h7⟩
    ·refine .inr ⟨by rw [hb, decide_eq_false (by omega)], fun H' ns' es' s' => ?_⟩; rw [(bn_det hz s'.bn s.bn).2.1]; exact e
   refine zqt 7 rfl (ygt rfl rfl) trivial (rh_if (fun EB => ?_) (fun EB => ?_))
   ·refine zqt 8 rfl (ymv rfl) trivial (hTwo (i := 9) (j := 11) (by kernel_rfl) ?_ ?_)
    ·refine nVal (i := 9) rfl rfl rfl (yld U72 rfl rfl wB rfl) (trivial) (hTwo (i := 10) (j := 11) (by kernel_rfl) ?_ ?_)
     ·refine nVal (i := 10) rfl rfl rfl (ylenM U72 rfl f4.l) (trivial) (qO 11 (nVal (i := 11) rfl rfl rfl (yld U24 rfl rfl eU rfl) (trivial) (zqt 12 rfl (ynk rfl) trivial (zqt 13 rfl (yfa fl74_5 rfl) trivial (qO 14 (nVal (i := 14) rfl rfl rfl (yld U71 rfl rfl im rfl) (trivial) (qO 15 (nVal (i := 15) rfl rfl rfl (ylenM U71 rfl O7.nm.l) (trivial) (zqt 16 rfl (yeq rfl rfl) trivial (zqt 17 rfl (ypT rfl rfl) trivial (zqt 18 rfl (yas rfl) trivial (qE (Run.qb (e := [(2, _)]) ?_))))))))))))); refine run_ret Tryz.func52 rfl ?_; exact ao _ rfl
     ·refine nVal (i := 11) rfl rfl rfl (yld U24 rfl rfl eU rfl) (trivial) (zqt 12 rfl (ynk rfl) trivial (zqt 13 rfl (yfa fl74_5 rfl) trivial (hTwo (i := 10) (j := 14) (by kernel_rfl) ?_ ?_)))
      ·refine nVal (i := 10) rfl rfl rfl (ylenM U72 rfl f4.l) (trivial) (qO 14 (nVal (i := 14) rfl rfl rfl (yld U71 rfl rfl im rfl) (trivial) (qO 15 (nVal (i := 15) rfl rfl rfl (ylenM U71 rfl O7.nm.l) (trivial) (zqt 16 rfl (yeq rfl rfl) trivial (zqt 17 rfl (ypT rfl rfl) trivial (zqt 18 rfl (yas rfl) trivial (qE (Run.qb (e := [(2, _)]) ?_))))))))); refine run_ret Tryz.func52 rfl ?_; exact ao _ rfl
      ·refine nVal (i := 14) rfl rfl rfl (yld U71 rfl rfl im rfl) (trivial) (qO 10 (nVal (i := 10) rfl rfl rfl (ylenM U72 rfl f4.l) (trivial) (qO 15 (nVal (i := 15) rfl rfl rfl (ylenM U71 rfl O7.nm.l) (trivial) (zqt 16 rfl (yeq rfl rfl) trivial (zqt 17 rfl (ypT rfl rfl) trivial (zqt 18 rfl (yas rfl) trivial (qE (Run.qb (e := [(2, _)]) ?_))))))))); refine run_ret Tryz.func52 rfl ?_; exact ao _ rfl
    ·refine nVal (i := 11) rfl rfl rfl (yld U24 rfl rfl eU rfl) (trivial) (zqt 12 rfl (ynk rfl) trivial (zqt 13 rfl (yfa fl74_5 rfl) trivial (hTwo (i := 9) (j := 14) (by kernel_rfl) ?_ ?_)))
     ·refine nVal (i := 9) rfl rfl rfl (yld U72 rfl rfl wB rfl) (trivial) (hTwo (i := 10) (j := 14) (by kernel_rfl) ?_ ?_)
      ·refine nVal (i := 10) rfl rfl rfl (ylenM U72 rfl f4.l) (trivial) (qO 14 (nVal (i := 14) rfl rfl rfl (yld U71 rfl rfl im rfl) (trivial) (qO 15 (nVal (i := 15) rfl rfl rfl (ylenM U71 rfl O7.nm.l) (trivial) (zqt 16 rfl (yeq rfl rfl) trivial (zqt 17 rfl (ypT rfl rfl) trivial (zqt 18 rfl (yas rfl) trivial (qE (Run.qb (e := [(2, _)]) ?_))))))))); refine run_ret Tryz.func52 rfl ?_; exact ao _ rfl
      ·refine nVal (i := 14) rfl rfl rfl (yld U71 rfl rfl im rfl) (trivial) (qO 10 (nVal (i := 10) rfl rfl rfl (ylenM U72 rfl f4.l) (trivial) (qO 15 (nVal (i := 15) rfl rfl rfl (ylenM U71 rfl O7.nm.l) (trivial) (zqt 16 rfl (yeq rfl rfl) trivial (zqt 17 rfl (ypT rfl rfl) trivial (zqt 18 rfl (yas rfl) trivial (qE (Run.qb (e := [(2, _)]) ?_))))))))); refine run_ret Tryz.func52 rfl ?_; exact ao _ rfl
     ·refine nVal (i := 14) rfl rfl rfl (yld U71 rfl rfl im rfl) (trivial) (qO 9 (nVal (i := 9) rfl rfl rfl (yld U72 rfl rfl wB rfl) (trivial) (qO 10 (nVal (i := 10) rfl rfl rfl (ylenM U72 rfl f4.l) (trivial) (qO 15 (nVal (i := 15) rfl rfl rfl (ylenM U71 rfl O7.nm.l) (trivial) (zqt 16 rfl (yeq rfl rfl) trivial (zqt 17 rfl (ypT rfl rfl) trivial (zqt 18 rfl (yas rfl) trivial (qE (Run.qb (e := [(2, _)]) ?_))))))))))); refine run_ret Tryz.func52 rfl ?_; exact ao _ rfl
   ·omega
  ·refine zqt 7 rfl (ygt rfl rfl) trivial (rh_if (fun EB => ?_) (fun EB => ?_))
   ·omega
   ·refine zqt 8 rfl (ymv rfl) trivial (qJ 9 rfl (trivial) (qJ 10 rfl (trivial) (qJ 11 rfl (trivial) (qJ 12 rfl (trivial) (qJ 13 rfl (trivial) (qJ 14 rfl (trivial) (qJ 15 rfl (trivial) (qJ 16 rfl (trivial) (zqt 17 rfl (ypF rfl rfl) trivial (zqt 18 rfl (yas rfl) trivial (qE (Run.qb (e := [(2, _)]) ?_)))))))))))); refine run_ret Tryz.func52 rfl (⟨_, rfl, gd, .inr ⟨hr, .inr ⟨rfl, fun H ns es s => absurd s (bK H ns es)⟩⟩⟩)
end
/-! ### Pages that are handed in -/
noncomputable def ndOf (z : Nat) (t : Bytes) : Option Nd := if t.length = z then dec t else none
noncomputable def nodesOf (z : Nat) (l : Pgs) : Nodes := fun x => match l.find? (fun y => decide (y.1 = x)) with
 | some y => ndOf z y.2
 | none => none
theorem ndOf_ok {z : Nat} {t : Bytes} {n : Nd} (h : ndOf z t = some n) : NdZ z n ∧ enc z n = t ∧ t.length = z := by
 unfold ndOf at h
 split at h
 ·rename_i e
  obtain ⟨-, h2, h3⟩ := dec_some.1 h; rw [e] at h2 h3; exact ⟨h2, h3, e⟩
 ·cases h
theorem nodesOf_none {z : Nat} {l : Pgs} {x : Int} (h : x ∉ l.map (·.1)) : nodesOf z l x = none := by
 unfold nodesOf
 rw [List.find?_eq_none.2 (fun y hy => by
  simp only [decide_eq_true_eq]; intro e
  exact h (List.mem_map.2 ⟨y, hy, e⟩))]
theorem nodesOf_mem {z : Nat} : ∀ {l : Pgs} {y : Int × Bytes}, (l.map (·.1)).Nodup → y ∈ l → nodesOf z l y.1 = ndOf z y.2
 | a :: r, y, hn, hy => by
   rw [List.map_cons] at hn; obtain ⟨h1, h2⟩ := List.nodup_cons.1 hn; unfold nodesOf; rw [List.find?_cons]; rcases List.mem_cons.1 hy with rfl | hy
   ·rw [decide_eq_true rfl]
   ·have : a.1 ≠ y.1 := fun e => h1 (List.mem_map.2 ⟨y, hy, e.symm⟩); rw [decide_eq_false this]; exact nodesOf_mem h2 hy
theorem nodesOf_ok {z : Nat} {l : Pgs} {x : Int} {n : Nd} (h : nodesOf z l x = some n) : NdZ z n ∧ x ∈ l.map (·.1) := by
 by_cases hx : x ∈ l.map (·.1)
 ·refine ⟨?_, hx⟩; unfold nodesOf at h; split at h
  ·exact (ndOf_ok h).1
  ·cases h
 ·rw [nodesOf_none hx] at h; cases h
theorem nodesOf_take {z : Nat} {l : Pgs} {i : Nat} {y : Int × Bytes} (hn : (l.map (·.1)).Nodup) (hy : l[i]? = some y) : nodesOf z (l.take (i + 1)) = updI (nodesOf z (l.take i)) y.1 (ndOf z y.2) := by
 funext x
 have du : ((l.take (i + 1)).map (·.1)).Nodup := hn.sublist ((List.take_sublist _ _).map _)
 have gS : ((l.take i).map (·.1)).Nodup := hn.sublist ((List.take_sublist _ _).map _)
 have hm : ∀ a, a ∈ l.take (i + 1) ↔ a ∈ l.take i ∨ a = y := fun a => mem_take_succ hy
 by_cases e : x = y.1
 ·subst e; rw [updI_same]; exact nodesOf_mem du ((hm y).2 (.inr rfl))
 ·rw [updI_ne e]; by_cases hx : x ∈ (l.take i).map (·.1)
  ·obtain ⟨a, ha, rfl⟩ := List.mem_map.1 hx; rw [nodesOf_mem gS ha, nodesOf_mem du ((hm a).2 (.inl ha))]
  ·rw [nodesOf_none hx, nodesOf_none (fun bi => by
    obtain ⟨a, ha, e'⟩ := List.mem_map.1 bi; rcases (hm a).1 ha with h | h
    ·exact hx (List.mem_map.2 ⟨a, h, e'⟩)
    ·subst h; exact e e'.symm)]
def numsOk (z root : Int) (l : Pgs) : Prop := sizeOk z ∧ (0 ≤ root ∧ root ≤ 2147483647) ∧ (l.map (·.1)).Nodup ∧ ∀ x ∈ l, 1 ≤ x.1 ∧ x.1 ≤ 2147483647
def LoadOk (z : Nat) (root : Int) (l : Pgs) (H : Nat) (ns : List Int) (es : Es) : Prop := (root = 0 ∧ l = [] ∧ H = 0 ∧ ns = [] ∧ es = []) ∨ (root ≠ 0 ∧ Sub1 z (nodesOf z l) [] true root [] none H ns es ∧ ns.length = l.length)
theorem LoadOk.mem {z : Nat} {root : Int} {l : Pgs} {H : Nat} {ns : List Int} {es : Es} (h : LoadOk z root l H ns es) : ∀ x, x ∈ ns ↔ x ∈ l.map (·.1) := by
 rcases h with ⟨-, rfl, -, rfl, -⟩ | ⟨-, s, hl⟩
 ·simp
 ·have h1 : ∀ x ∈ ns, x ∈ l.map (·.1) := fun x hx => by
   obtain ⟨n, hn⟩ := Option.ne_none_iff_exists'.1 (s.bn.some x hx); exact (nodesOf_ok hn).2
  exact fun x => ⟨h1 x, sub_of_len s.nd h1 (by simp; omega) x⟩
theorem LoadOk.all {z : Nat} {root : Int} {l : Pgs} {H : Nat} {ns : List Int} {es : Es} (h : LoadOk z root l H ns es) (hn : (l.map (·.1)).Nodup) : ∀ y ∈ l, ∃ n, ndOf z y.2 = some n := fun y hy => by
 have hm := (h.mem y.1).2 (List.mem_map.2 ⟨y, hy, rfl⟩)
 rcases h with ⟨-, rfl, -⟩ | ⟨-, s, hl⟩
 ·cases hy
 ·obtain ⟨n, gB⟩ := Option.ne_none_iff_exists'.1 (s.bn.some _ hm); rw [nodesOf_mem hn hy] at gB; exact ⟨n, gB⟩
noncomputable def TrL (z : Nat) (root : Int) (l : Pgs) (c : Nat) : Tr := ⟨z, root, c, nodesOf z l, [], fun _ => false, fun x => decide (x ∈ l.map (·.1))⟩
noncomputable def TrI (z : Nat) (l : Pgs) (i : Nat) : Tr := ⟨z, 0, 0, nodesOf z (l.take i), [], fun _ => false, fun x => decide (x ∈ (l.take i).map (·.1))⟩
theorem LoadOk.inv {z : Nat} {root : Int} {l : Pgs} {H : Nat} {ns : List Int} {es : Es} (h : LoadOk z root l H ns es) (hn : numsOk (z : Int) root l) : Inv (TrL z root l es.length) H ns es := by
 have hm := h.mem
 have hN : ∀ x, nodesOf z l x ≠ none → x ∈ l.map (·.1) := fun x hx => by
  obtain ⟨n, hn⟩ := Option.ne_none_iff_exists'.1 hx; exact (nodesOf_ok hn).2
 refine ⟨?_, fun x hx => (hm x).2 (hN x hx), rfl, fun x hx => ?_, fun x hx => absurd hx List.not_mem_nil, ⟨List.Pairwise.nil, fun x hx => absurd hx List.not_mem_nil⟩, fun x hx _ => decide_eq_true (hN x hx)⟩
 ·rcases h with ⟨h1, -, h2, h3, h4⟩ | ⟨h1, s, -⟩
  ·exact .inl ⟨h1, h2, h3, h4⟩
  ·exact .inr ⟨h1, s.bn.pos, s.bn, s.nd, fun n hn => by have := s.cnd n hn; simpa using this⟩
 ·obtain ⟨y, hy, rfl⟩ := List.mem_map.1 (hN x hx); exact hn.2.2.2 y hy
theorem rd_pg {w : World} {b off n cap : Nat} {l : Pgs} {i : Nat} {y : Int × Bytes} (h : Rd w (.slice (some ⟨b, off, none⟩) n cap) 2 n (pgC l)) (hi : i < n) (hy : l[i]? = some y) : ∀ (j : Nat) u, [I y.1, S y.2][j]? = some u → w.cell? ⟨b, off + i * 2 + j, none⟩ = some u := fun j u hj => by
 rcases h.2 with ⟨c, -, h0⟩ | ⟨b', off', cap', hv, hc⟩
 ·omega
 ·cases hv; obtain ⟨f1, f2⟩ := flat2 (fun x : Int × Bytes => I x.1) (fun x : Int × Bytes => S x.2) l i; rw [hy] at f1 f2
  match j, hj with
  | 0, hj =>
    have : u = I y.1 := by simpa using hj.symm
    subst this; have := hc (2 * i) (I y.1) f1; rw [show off + i * 2 + 0 = off + 2 * i by omega]
    exact this
  | 1, hj =>
    have : u = S y.2 := by simpa using hj.symm
    subst this; have := hc (2 * i + 1) (S y.2) f2; rw [show off + i * 2 + 1 = off + (2 * i + 1) by omega]; exact this
theorem rd_pgs {w : World} {a : Option Addr} {cap n : Nat} {l : Pgs} {i : Nat} (h : Rd w (.slice a n cap) 2 n (pgC l)) (hn : n = l.length) (hi : i < n) : ∃ b off y, a = some ⟨b, off, none⟩ ∧ l[i]? = some y := by
 rcases h.2 with ⟨c, -, h0⟩ | ⟨b', off', cap', hv, hc⟩
 ·omega
 ·cases hv; exact ⟨b', off', _, rfl, List.getElem?_eq_getElem (by omega)⟩
section
variable {w : World}
set_option maxHeartbeats 8000000 in
theorem load_ret (z root : Int) {lv : Value} {l : Pgs} (hR : Rd w lv 2 l.length (pgC l)) (hl : l.length ≤ 1000000) (ht : ∀ y ∈ l, y.2.length ≤ 140737488355328) :
  Ret Tryz.prog 17 [I z, I root, lv] w fun v w' => Ext w w' ∧ ((¬ numsOk z root l ∧ v = .tuple #[.pointer none, I 1]) ∨ (numsOk z root l ∧ (∀ H ns es, ¬ LoadOk z.toNat root l H ns es) ∧ v = .tuple #[.pointer none, I 4]) ∨ (numsOk z root l ∧ ∃ H ns es p nb F, LoadOk z.toNat root l H ns es ∧ v = .tuple #[ptr p 0, I 0] ∧ TreeA w' p (TrL z.toNat root l es.length) nb F ∧ ∀ k, F k → w.heap.size ≤ k)) := by
 obtain ⟨la, lc, rfl, -⟩ := hR.shape
 refine ret_of_run (e := [(0, _), (1, _), (2, _)]) Tryz.func17 rfl Tryz.ntmps17 rfl rfl (qN rfl (zqa rfl (zqa rfl (qM rfl (zqm rfl (zqc [.tmp 18] cf8 rfl (newT_ret z) ?_))))))
 rintro v1 w1 ⟨aa, fZ⟩
 have eI := aa.size
 rcases fZ with ⟨hz, p, F, rfl, h1, iB⟩ | ⟨hz, rfl⟩
 ·obtain ⟨k, rfl⟩ : ∃ k : Nat, z = (k : Int) := ⟨z.toNat, by have := hz.1; omega⟩; rw [Int.toNat_natCast] at h1 ⊢; obtain ⟨z1, z2, -⟩ := id hz; have o8 := h1.lt; refine zqm rfl (qV (yex rfl rfl) (qV (yex rfl rfl) (zqa rfl (zqa rfl (rEnd (run_seq (qN rfl (zqm rfl (qV (yne rfl rfl) (zqm rfl (rVal_if (fun h0 => ?_) (fun h0 => ?_))))))))))))
  ·exact absurd rfl h0
  ·refine zqm rfl (qV (ylt rfl rfl) (qV (ypF rfl rfl) (zqm rfl (rVal_if (fun mh => ?_) (fun mh => ?_)))))
   ·refine qS (qS (qV (ypT rfl rfl) (rEnd (run_true rfl (qN rfl (zqa rfl (zqa rfl (rEnd (run_ret Tryz.func17 rfl ?_))))))))); exact ⟨_, rfl, aa, .inl ⟨fun h => by have := h.2.1; omega, rfl⟩⟩
   ·refine zqm rfl (qV (ygt rfl rfl) (rVal_if (fun uh => ?_) (fun uh => ?_)))
    ·refine qV (ypF rfl rfl) (rEnd (run_true rfl (qN rfl (zqa rfl (zqa rfl (rEnd (run_ret Tryz.func17 rfl ?_))))))); exact ⟨_, rfl, aa, .inl ⟨fun h => by have := h.2.1; omega, rfl⟩⟩
    ·refine qV (ypF rfl rfl) (rEnd (run_false rfl (run_skip (qN rfl (rValP rfl rfl (pmm) ?_))))); rintro _ w2 ⟨ms, rfl, IS, ae, tr⟩; have jX : ms < w2.heap.size := (MapB.new (K := KZ) tr).lt; have eQ := ae.size; refine zqa rfl (rEnd (run_seq (qN rfl (zqm rfl (qV (yln U52 rfl) (zqm rfl (rEnd (Run.qb (e := [(0, _), (1, _), (2, _), (6, _), (7, _), (8, _), (10, _), (33, _), (34, _), (35, _)]) ?_)))))))); refine run_block (run_cut2 (fun e' w' => e' = [(0, I (k : Int)), (1, I root), (2, .slice la l.length lc), (8, ptr p 0)] ∧ Ext w1 w' ∧ numsOk (k : Int) root l) ?BD (fun BD => ?EI))
     case BD =>
      rintro e' w3 ⟨rfl, ah, gP⟩; obtain ⟨-, -, nD, sH⟩ := id gP
      have Jk : TrI k l 0 = Tr0 k := by
       unfold TrI Tr0
       congr 1
      have aq := aa.trans ah; have jK := ah.size; refine run_seq (qN rfl (zqm rfl (qV (yln U52 rfl) (zqm rfl (rEnd (run_block (zqu (α := Nat) (0) (fun i => [(0, I (k : Int)), (1, I root), (8, ptr p 0), (60, .slice la l.length lc), (61, I (l.length : Int)), (62, I (i : Int))]) (fun i w' => i ≤ l.length ∧ Ext w w' ∧ w3.heap.size ≤ w'.heap.size ∧ (∀ y ∈ l.take i, ∃ n, ndOf k y.2 = some n) ∧ ∃ nb F, TreeA w' p (TrI k l i) nb F ∧ ∀ k, F k → w.heap.size ≤ k) (fun i => l.length - i) ?hI ?hround)))))))
      case hI => exact ⟨Nat.zero_le _, aq, Nat.le_refl _, by simp, _, F, by rw [Jk]; exact h1.ext ah, iB⟩
      case hround =>
       rintro i wi ⟨hi, bC, vD, aH, nbi, Fi, ab, xw⟩ ih; have wC := ab.lt
       try dsimp only
       refine qN rfl (qV (ylt rfl rfl) (rEnd (run_seq (run_if rfl (fun ji => ?_) (fun ji => ?_)))))
       ·have cE : i < l.length := by omega
        obtain ⟨lb, lo, y, rfl, hy⟩ := rd_pgs hR rfl cE; have ou := List.mem_of_getElem? hy
        have wD : y.1 ∉ (l.take i).map (·.1) := fun hb => by
         have qs : ((l.take (i + 1)).map (·.1)).Nodup := nD.sublist ((List.take_sublist _ _).map _); obtain ⟨pr, e2⟩ := List.getElem?_eq_some_iff.1 hy; rw [List.take_succ_eq_append_getElem pr, e2, List.map_append] at qs; exact (List.nodup_append.1 qs).2.2 _ hb y.1 (by simp) rfl
        have cJ : ndOf k y.2 = none → ∀ H ns es, ¬ LoadOk k root l H ns es := fun e H ns es hh => by
         obtain ⟨n, hn⟩ := hh.all nD y ou; rw [e] at hn; cases hn
        refine run_skip (run_seq (run_block (qN rfl (qV (yis U52 ti55 rfl rfl (by omega)) (qV (yldA U55 rfl ti55 rfl (rd_pg (hR.ext bC) cE hy) rfl) (rValP rfl rfl (pal (cs := [_, _]) ti55 rfl) ?_)))))); rintro _ w4 ⟨b14, rfl, Jl, aC, aW⟩; refine rEffP rfl (zstA ti55 rfl rfl rfl rfl aW (by simp)) ?_; rintro w5 ⟨bx, bh⟩; have ft : Blk w5 b14 [I y.1, S y.2] 55 := bx; have wE : Ext wi w5 := aC.trans_new bh (fun j hj => by omega); have KI := ft.lt; have kW := wE.size; refine qM rfl (qV (yfa fl55_1 rfl) (qV (yld U9 rfl rfl ft rfl) (zqc [.tmp 68] cf51 rfl (decode_ret y.2 (ht y ou) w5) ?_))); rintro v6 w6 ⟨aO, nu⟩; have nS := aO.size; rcases nu with ⟨n, kv, vv, cv, lD, rfl, hP, bM⟩ | ⟨lD, rfl⟩
        ·obtain ⟨ka, kac, k7, -⟩ := hP.keys.rd.shape; obtain ⟨va, vac, vy, -⟩ := hP.vals.rd.shape; obtain ⟨ca, cac, vz, -⟩ := hP.kids.rd.shape; subst k7; subst vy; subst vz; have bD := aO.blk ft; refine zqm rfl (qV (yex rfl rfl) (qV (yex rfl rfl) ?_)); unfold ndv; refine rValP rfl rfl (pal (cs := [_, _, _, _]) ti84 rfl) ?_; rintro _ w7 ⟨b15, rfl, rG, aF, dH⟩; refine rEffP rfl (zstA ti84 rfl rfl rfl rfl dH (by simp)) ?_; rintro w8 ⟨d8, bc⟩; have As : Blk w8 b15 [.bool n.leaf, .slice ka n.keys.length kac, .slice va n.vals.length vac, .slice ca n.kids.length cac] 84 := d8; have kV := aF.size; have ez := As.lt; have wF : Ext w6 w8 := aF.trans_new bc (fun j hj => by omega); have nE : Ext wi w8 := (wE.trans aO).trans wF; have hJ := wF.blk bD; refine zqa rfl (rEnd (run_seq (qN rfl (zqm rfl (qV (yne rfl rfl) (rVal_if (fun At => ?_) (fun At => ?_)))))))
         ·exact absurd rfl At
         ·refine zqm rfl (qV (yfa fl55_1 rfl) (qV (yld U9 rfl rfl hJ rfl) (qV (ylnS U9 rfl) (zqm rfl (qV (yne rfl rfl) (rVal_if (fun aZ => ?_) (fun aZ => ?_)))))))
          ·refine qV (ypF rfl rfl) (rEnd (run_true rfl (qN rfl (zqa rfl (zqa rfl (rEnd (run_ret Tryz.func17 rfl (⟨_, rfl, bC.trans nE, .inr (.inl ⟨gP, cJ ?_, rfl⟩)⟩)))))))); unfold ndOf; rw [if_neg (by omega)]
          ·have aP : y.2.length = k := by omega
           have Au : ndOf k y.2 = some n := by unfold ndOf; rw [if_pos aP]; exact lD
           have h8 := ab.ext nE; obtain ⟨mN1, mC1, mO1, gv1, kn1, kc1, ko1, O1⟩ := h8.opn; have d9 := O1.ne; have x6 := O1.ap; have mI := nE.size; have J0 := wC mN1 O1.fp.2.1; have IZ := wC mO1 O1.fp.2.2.2.1; refine qV (ypF rfl rfl) (rEnd (run_false rfl (run_skip ?_))); have a7 := Ext.drew0 w8; refine run_draw (fun w' => Kp (fun k => k = mN1 ∨ k = mO1) w8 w') (by kernel_rfl) rfl (zqt 0 rfl (ymv rfl) (a7.kp) (zqt 1 rfl (ynk rfl) (a7.kp) (zqt 2 rfl (yfa fl74_5 rfl) (a7.kp) (qT 3 rfl (fun _ hS => (by first | exact yld U71 rfl rfl (hS.blk O1.blk (fun h => h.elim (fun e => d9.1 e.symm) (fun e => d9.2.2.1 e.symm))) rfl | exact yld U71 rfl rfl (hS.blk hJ (by omega)) rfl)) (a7.kp) ?_)))); refine zqt 4 rfl (yfa fl55_0 rfl) (a7.kp) (qT 5 rfl (fun _ hS => (by first | exact yld U3 rfl rfl (hS.blk O1.blk (fun h => h.elim (fun e => d9.1 e.symm) (fun e => d9.2.2.1 e.symm))) rfl | exact yld U3 rfl rfl (hS.blk hJ (by omega)) rfl)) (a7.kp) ?_); refine zqt 6 rfl (ymv rfl) (a7.kp) (zqt 7 rfl (ynk rfl) (a7.kp) (zqt 8 rfl (yfa fl74_8 rfl) (a7.kp) (qT 9 rfl (fun _ hS => (by first | exact yld U72 rfl rfl (hS.blk O1.blk (fun h => h.elim (fun e => d9.1 e.symm) (fun e => d9.2.2.1 e.symm))) rfl | exact yld U72 rfl rfl (hS.blk hJ (by omega)) rfl)) (a7.kp) ?_))); refine zqt 10 rfl (yfa fl55_0 rfl) (a7.kp) (qT 11 rfl (fun _ hS => (by first | exact yld U3 rfl rfl (hS.blk O1.blk (fun h => h.elim (fun e => d9.1 e.symm) (fun e => d9.2.2.1 e.symm))) rfl | exact yld U3 rfl rfl (hS.blk hJ (by omega)) rfl)) (a7.kp) ?_); refine qO 12 (nValP (i := 12) rfl rfl rfl (pme (k := y.1) (K := KZ) U71 (ky_int U3) ti81 rfl rfl (O1.nm.kp a7 id)) ?_); rintro _ w9 ⟨be, rfl, Jm, aB⟩; refine ⟨(a7.kp).trans (aB.mono' (fun _ h => .inl h)), ?_⟩; refine zqt 13 rfl (yex rfl rfl) ((a7.kp).trans (aB.mono' (fun _ h => .inl h))) (qO 14 (nEffP (i := 14) rfl rfl (zes rfl rfl rfl Jm) ?_)); rintro w10 ⟨iu, aK⟩; refine ⟨((a7.kp).trans (aB.mono' (fun _ h => .inl h))).trans (aK.mono' (fun _ h => .inl h)), ?_⟩; have fR : Kp (fun k => k = mN1) w8 w10 := ((a7.kp).trans aB).trans aK; have Bq : ¬ ownP (.slice ka n.keys.length kac) (.slice va n.vals.length vac) (.slice ca n.kids.length cac) b15 := fun hk => by have := hP.lt hk; omega
           have yC : NdM w8 n ⟨b15, .slice ka n.keys.length kac, .slice va n.vals.length vac, .slice ca n.kids.length cac⟩ := NdP.at (hP.kp wF (fun _ _ => id)) As Bq
           have Av : ∀ j, Pl.fp ⟨b15, .slice ka n.keys.length kac, .slice va n.vals.length vac, .slice ca n.kids.length cac⟩ j → wi.heap.size ≤ j := fun j hj => by
            rcases hj with hj | hj | hj | hj
            ·dsimp only at hj; omega
            ·have := bM j (.inl hj); omega
            ·have := bM j (.inr (.inl hj)); omega
            ·have := bM j (.inr (.inr hj)); omega
           have tY : ∀ j, Pl.fp ⟨b15, .slice ka n.keys.length kac, .slice va n.vals.length vac, .slice ca n.kids.length cac⟩ j → ¬ Fi j := fun j hj hf => by
            have := Av j hj; have := wC j hf; omega
           have wz := yC.kp fR (fun j hj e => tY j hj (by rw [e]; exact O1.fp.2.1)); have oH : (TrI k l i).nodes y.1 = none := nodesOf_none wD
           obtain ⟨F2, od, ct⟩ := O1.newN w10 _ y.1 n ⟨b15, .slice ka n.keys.length kac, .slice va n.vals.length vac, .slice ca n.kids.length cac⟩ wz iu fR (fun x => by
            rw [getL_put, getL_put]
            by_cases e : x = y.1 <;> simp [e]) oH tY
           obtain ⟨mN2, mC2, mO2, gv2, kn2, kc2, ko2, O2⟩ := od.opn; have bN := fR.blk O1.blk (fun e => d9.1 e.symm)
           obtain ⟨e1, e2⟩ : mO2 = mO1 ∧ mN2 = mN1 := by
            have := Blk.inj O2.blk bN; simp [trCs] at this; exact ⟨by omega, by omega⟩
           subst e1; subst e2; refine qO 15 (nValP (i := 15) rfl rfl rfl (pme (k := y.1) (K := KZ) U72 (ky_int U3) ti3 rfl rfl O2.om) ?_); rintro _ w11 ⟨be2, rfl, EC, dA⟩; refine ⟨(fR.mono' (fun _ h => .inl h)).trans (dA.mono' (fun _ h => .inr h)), ?_⟩; refine zqt 16 rfl (yex rfl rfl) ((fR.mono' (fun _ h => .inl h)).trans (dA.mono' (fun _ h => .inr h))) (qO 17 (nEffP (i := 17) rfl rfl (zes rfl rfl rfl EC) ?_)); rintro w12 ⟨sI, dT⟩; refine ⟨((fR.mono' (fun _ h => .inl h)).trans (dA.mono' (fun _ h => .inr h))).trans (dT.mono' (fun _ h => .inr h)), ?_⟩; refine qE (run_inBlock (run_reg rfl (zqd rfl rfl (zqm rfl (rEnd ?_))))); have gQ : Kp (fun k => k = mO2) w10 w12 := dA.trans dT
           have GE := O2.setO w12 _ (updI (TrI k l i).old y.1 true) sI gQ (fun x => by
            rw [getL_put, getL_put]; by_cases e : x = y.1
            ·subst e; simp [flag, updI]
            ·rw [if_neg e, if_neg e, O2.og]; simp [updI, e, Tr.setN])
           have ED : updI (TrI k l i).nodes y.1 (some n) = (TrI k l (i + 1)).nodes := by
            show updI (nodesOf k (l.take i)) y.1 (some n) = nodesOf k (l.take (i + 1)); rw [nodesOf_take nD hy, Au]
           have cN : updI (TrI k l i).old y.1 true = (TrI k l (i + 1)).old := by
            funext x
            show (if x = y.1 then true else decide (x ∈ (l.take i).map (·.1))) = decide (x ∈ (l.take (i + 1)).map (·.1)); rw [map_take_succ hy]; by_cases e : x = y.1
            ·rw [if_pos e]; simp [e]
            ·rw [if_neg e]; simp [e]
           have Jn : ({ (TrI k l i).setN y.1 n with old := updI (TrI k l i).old y.1 true } : Tr) = TrI k l (i + 1) := by
            show (⟨k, 0, 0, updI (TrI k l i).nodes y.1 (some n), [], fun _ => false, updI (TrI k l i).old y.1 true⟩ : Tr) = _; rw [ED, cN]; rfl
           rw [Jn] at GE; have Aw : Ext w w12 := ((bC.trans nE).trans_new fR (fun j hj => by rw [hj]; exact xw _ O1.fp.2.1)).trans_new gQ (fun j hj => by rw [hj]; exact xw _ O1.fp.2.2.2.1); have GF := fR.size; have EE := gQ.size; refine (ih (i + 1) w12 ⟨by omega, Aw, by omega, fun x hx => ?_, _, F2, GE, fun j hj => ?_⟩ (by omega)).qb
           ·rcases (mem_take_succ hy).1 hx with hx | rfl
            ·exact aH x hx
            ·exact ⟨n, Au⟩
           ·rcases ct j hj with e | e
            ·exact xw j e
            ·have := Av j e; have := bC.size; omega
        ·have bD := aO.blk ft; refine zqm rfl (qV (yex rfl rfl) (qV (yex rfl rfl) (rValP rfl rfl (pal (cs := [_, _, _, _]) ti84 rfl) ?_))); rintro _ w7 ⟨b15, rfl, rG, aF, dH⟩; refine rEffP rfl (zstA ti84 rfl rfl rfl rfl dH (by simp)) ?_; rintro w8 ⟨d8, bc⟩; have nE : Ext wi w8 := ((wE.trans aO).trans aF).trans_new bc (fun j hj => by have := aF.size; omega); refine zqa rfl (rEnd (run_seq (qN rfl (zqm rfl (qV (yne rfl rfl) (rVal_if (fun At => ?_) (fun At => ?_)))))))
         ·refine zqm rfl (qS (qS (qS (qS (qS (qV (ypT rfl rfl) (rEnd (run_true rfl (qN rfl (zqa rfl (zqa rfl (rEnd (run_ret Tryz.func17 rfl ?_))))))))))))); refine ⟨_, rfl, bC.trans nE, .inr (.inl ⟨gP, cJ ?_, rfl⟩)⟩; unfold ndOf; split
          ·exact lD
          ·rfl
         ·exact absurd (by decide) At
       ·have : i = l.length := by omega
        subst this; have Jo : TrI k l l.length = TrL k 0 l 0 := by unfold TrI TrL; rw [List.take_length]
        rw [Jo] at ab; rw [List.take_length] at aH; obtain ⟨mN1, mC1, mO1, gv1, kn1, kc1, ko1, O1⟩ := ab.opn; have ey := O1.blk; refine run_exit rfl (qN rfl (zqm rfl (zqm rfl (qV (ynk rfl) (qV (yfa fl74_1 rfl) (rEffP rfl (zst ti3 rfl rfl rfl ey (by simp [trCs])) ?_)))))); rintro w4 ⟨aW, az⟩; have h4 : TreeA w4 p (TrL k root l 0) nbi Fi := O1.setB w4 root 0 (by simpa [trCs, TrL] using aW) az; have EF : ∀ x n, (TrL k root l 0).nodes x = some n → NdOk (TrL k root l 0).size n := fun x n hn => (nodesOf_ok hn).1.ok
        have EG : ∀ x, (TrL k root l 0).nodes x ≠ none ↔ x ∈ l.map (·.1) := fun x => by
         constructor
         ·intro hx; obtain ⟨n, hn⟩ := Option.ne_none_iff_exists'.1 hx; exact (nodesOf_ok hn).2
         ·intro hx; obtain ⟨y, hy, rfl⟩ := List.mem_map.1 hx; obtain ⟨n, hn⟩ := aH y hy; show nodesOf k l y.1 ≠ none; rw [nodesOf_mem nD hy, hn]; simp
        refine rEnd (run_seq (qN rfl (zqm rfl (zqc [.tmp 102] cf52 rfl (whole_ret h4 EF nD EG (by simpa using hl) rfl) ?_)))); rintro v5 w5 ⟨bh, Jp⟩; have aJ : Ext w w5 := (bC.trans_new az (fun j hj => by rw [hj]; exact xw _ O1.fp.1)).trans_new bh (fun j hj => xw j hj)
        have EH : (∃ H ns es, LoadOk k root l H ns es ∧ v5 = .bool true ∧ TreeA w5 p (TrL k root l es.length) nbi Fi) ∨ ((∀ H ns es, ¬ LoadOk k root l H ns es) ∧ v5 = .bool false) := by
         rcases Jp with ⟨e0, e1, e2⟩ | ⟨e0, ⟨H, ns, es, s, e1, e2, e3⟩ | ⟨e1, e2⟩⟩
         ·by_cases rh : l = []
          ·exact .inl ⟨0, [], [], .inl ⟨e0, rh, rfl, rfl, rfl⟩, by rw [e1, rh]; rfl, e2⟩
          ·refine .inr ⟨fun H ns es hh => ?_, by rw [e1, decide_eq_false (by simpa using rh)]⟩; rcases hh with ⟨-, e, -⟩ | ⟨e, -⟩
           ·exact rh e
           ·exact e e0
         ·exact .inl ⟨H, ns, es, .inr ⟨e0, s, by simpa using e1⟩, e2, e3⟩
         ·refine .inr ⟨fun H ns es hh => ?_, e1⟩; rcases hh with ⟨e, -⟩ | ⟨-, s, e⟩
          ·exact e0 e
          ·exact e2 H ns es s (by simpa using e)
        rcases EH with ⟨H, ns, es, hL, rfl, h5⟩ | ⟨bK, rfl⟩
        ·refine qV ((by first | exact yntd rfl | exact ynt rfl)) ?_; refine rEnd (run_false rfl (run_skip (qN rfl (zqm rfl (zqa rfl (zqa rfl (rEnd (run_ret Tryz.func17 rfl ?_)))))))); exact ⟨_, rfl, aJ, .inr (.inr ⟨gP, H, ns, es, p, nbi, Fi, hL, rfl, h5, xw⟩)⟩
        ·refine qV ((by first | exact yntd rfl | exact ynt rfl)) ?_; refine rEnd (run_true rfl (qN rfl (zqa rfl (zqa rfl (rEnd (run_ret Tryz.func17 rfl ?_)))))); exact ⟨_, rfl, aJ, .inr (.inl ⟨gP, bK, rfl⟩)⟩
     case EI =>
      refine zqu (α := Nat) (0) (fun i => [(0, I (k : Int)), (1, I root), (2, .slice la l.length lc), (8, ptr p 0), (10, .map (some ms)), (33, .slice la l.length lc), (34, I (l.length : Int)), (35, I (i : Int))]) (fun i w' => i ≤ l.length ∧ Ext w1 w' ∧ ((l.take i).map (·.1)).Nodup ∧ (∀ y ∈ l.take i, 1 ≤ y.1 ∧ y.1 ≤ 2147483647) ∧ ∃ kv, MapB KZ w' ms kv ∧ ∀ x, getL kv x = if x ∈ (l.take i).map (·.1) then some (I 1) else none) (fun i => l.length - i) ?hI ?hround
      case hI => exact ⟨Nat.zero_le _, ae, by simp, by simp, [], MapB.new tr, fun x => by simp [getL]⟩
      case hround =>
       rintro i wi ⟨hi, bC, bz, aH, kv, xq, f9⟩ ih; have vD := bC.size
       try dsimp only
       refine qN rfl (qV (ylt rfl rfl) (rEnd (run_seq (run_if rfl (fun ji => ?_) (fun ji => ?_)))))
       ·have cE : i < l.length := by omega
        obtain ⟨lb, lo, y, rfl, hy⟩ := rd_pgs hR rfl cE; have ou := List.mem_of_getElem? hy; refine run_skip (run_seq (run_block (qN rfl (qV (yis U52 ti55 rfl rfl (by omega)) (qV (yldA U55 rfl ti55 rfl (rd_pg ((hR.ext aa).ext bC) cE hy) rfl) (rValP rfl rfl (pal (cs := [_, _]) ti55 rfl) ?_)))))); rintro _ w4 ⟨b12, rfl, EJ, aC, aW⟩; refine rEffP rfl (zstA ti55 rfl rfl rfl rfl aW (by simp)) ?_; rintro w5 ⟨bx, bh⟩; have ft : Blk w5 b12 [I y.1, S y.2] 55 := bx; have cr : Ext w1 w5 := (bC.trans aC).trans_new bh (fun j hj => by omega); have qt := (xq.ext aC).kp bh (by have := xq.lt; omega); have jq := aC.size; have rq := ft.lt; have Jq := xq.lt
        obtain ⟨q, hq, iD⟩ : ∃ q : Nat, (getL kv y.1).getD (I 0) = I (q : Int) ∧ ((q = 0 ∧ y.1 ∉ (l.take i).map (·.1)) ∨ (q = 1 ∧ y.1 ∈ (l.take i).map (·.1))) := by
         rw [f9 y.1]; by_cases hm : y.1 ∈ (l.take i).map (·.1)
         ·exact ⟨1, by rw [if_pos hm]; rfl, .inr ⟨rfl, hm⟩⟩
         ·exact ⟨0, by rw [if_neg hm]; rfl, .inl ⟨rfl, hm⟩⟩
        refine qM rfl (zqm rfl (qV (yfa fl55_0 rfl) (qV (yld U3 rfl rfl ft rfl) (qV (ylk (k := y.1) (K := KZ) U72 (ky_int U3) ti3 rfl rfl qt.l) ?_)))); rw [hq]; refine zqd rfl rfl (rEffP rfl (zmuB U72 (ky_int U3) rfl rfl rfl qt (k := y.1)) ?_); rintro w6 ⟨gK, bX⟩; have aj : Ext w1 w6 := cr.trans_new bX (fun j hj => by omega); have bD := bX.blk ft (by omega); have kD : (getL (putL kv y.1 (I ((q : Int) + 1))) y.1).getD (I 0) = I ((q : Int) + 1) := by rw [getL_put, if_pos rfl]; rfl
        have bP : (¬ (1 ≤ y.1 ∧ y.1 ≤ 2147483647) ∨ y.1 ∈ (l.take i).map (·.1)) → ¬ numsOk (k : Int) root l := fun hb aQ => by
         obtain ⟨-, -, g1, g2⟩ := aQ; rcases hb with hb | hb
         ·exact hb (g2 y ou)
         ·have := mem_take_succ (x := y) hy; have qs : ((l.take (i + 1)).map (·.1)).Nodup := g1.sublist ((List.take_sublist _ _).map _); obtain ⟨pr, e2⟩ := List.getElem?_eq_some_iff.1 hy; rw [List.take_succ_eq_append_getElem pr, e2, List.map_append] at qs; exact (List.nodup_append.1 qs).2.2 _ hb y.1 (by simp) rfl
        refine qM rfl (qV (yfa fl55_0 rfl) (qV (yld U3 rfl rfl bD rfl) (qV (ylt rfl rfl) (rVal_if (fun cD => ?_) (fun cD => ?_)))))
        ·refine zqm rfl (qS (qS (qS (qV (ypT rfl rfl) (zqm rfl (qS (qS (qS (qS (qS (qV (ypT rfl rfl) (rEnd (run_true rfl ?_))))))))))))); refine qN rfl (zqa rfl (zqa rfl (rEnd (run_ret Tryz.func17 rfl ?_)))); exact ⟨_, rfl, aa.trans aj, .inl ⟨bP (.inl (by omega)), rfl⟩⟩
        ·refine zqm rfl (qV (yfa fl55_0 rfl) (qV (yld U3 rfl rfl bD rfl) (qV (ygt rfl rfl) (rVal_if (fun cP => ?_) (fun cP => ?_)))))
         ·refine qV (ypF rfl rfl) (zqm rfl (qS (qS (qS (qS (qS (qV (ypT rfl rfl) (rEnd (run_true rfl (qN rfl (zqa rfl (zqa rfl (rEnd ?_))))))))))))); refine run_ret Tryz.func17 rfl ?_; exact ⟨_, rfl, aa.trans aj, .inl ⟨bP (.inl (by omega)), rfl⟩⟩
         ·refine qV (ypF rfl rfl) (zqm rfl (zqm rfl (qV (yfa fl55_0 rfl) (qV (yld U3 rfl rfl bD rfl) (qV (ylk (k := y.1) (K := KZ) U72 (ky_int U3) ti3 rfl rfl gK.l) ?_))))); rw [kD]; refine qV (ygt rfl rfl) (rVal_if (fun o3 => ?_) (fun o3 => ?_))
          ·refine qV (ypF rfl rfl) (rEnd (run_true rfl (qN rfl (zqa rfl (zqa rfl (rEnd (run_ret Tryz.func17 rfl ?_))))))); exact ⟨_, rfl, aa.trans aj, .inl ⟨bP (.inr (iD.elim (fun e => by have := e.1; omega) (fun e => e.2))), rfl⟩⟩
          ·obtain ⟨tt, rfl⟩ : y.1 ∉ (l.take i).map (·.1) ∧ q = 0 := iD.elim (fun e => ⟨e.2, e.1⟩) (fun e => by have := e.1; omega); refine qV (ypF rfl rfl) (rEnd (run_false rfl (run_skip (run_inBlock (run_reg rfl (zqd rfl rfl (zqm rfl (rEnd ?_)))))))); have tZ : (l.take (i + 1)).map (·.1) = (l.take i).map (·.1) ++ [y.1] := map_take_succ hy; refine (ih (i + 1) w6 ⟨by omega, aj, ?_, fun x hx => ?_, _, gK, fun x => ?_⟩ (by omega)).qb
           ·rw [tZ]; exact List.nodup_append.2 ⟨bz, by simp, fun a ha b hb e => by simp at hb; subst hb; subst e; exact tt ha⟩
           ·rcases (mem_take_succ hy).1 hx with hx | rfl
            ·exact aH x hx
            ·omega
           ·rw [getL_put, f9 x, tZ]; simp only [List.mem_append, List.mem_singleton]; by_cases so : x = y.1
            ·rw [if_pos so, if_pos (.inr so)]; rfl
            ·rw [if_neg so]; by_cases nO : x ∈ (l.take i).map (·.1)
             ·rw [if_pos nO, if_pos (.inl nO)]
             ·rw [if_neg nO, if_neg (fun hh => hh.elim nO so)]
       ·have : i = l.length := by omega
        subst this; rw [List.take_length] at bz aH; refine run_exit rfl ?_; exact (BD _ _ ⟨rfl, bC, hz, ⟨by omega, by omega⟩, bz, aH⟩).qb
 ·refine zqm rfl (qV (yex rfl rfl) (qV (yex rfl rfl) (zqa rfl (zqa rfl (rEnd (run_seq (qN rfl (zqm rfl (qV (yne rfl rfl) (zqm rfl (rVal_if (fun h0 => ?_) (fun h0 => ?_))))))))))))
  ·refine qS (qS (qV (ypT rfl rfl) (zqm rfl (qS (qS (qV (ypT rfl rfl) (rEnd (run_true rfl (qN rfl (zqa rfl (zqa rfl (rEnd (run_ret Tryz.func17 rfl ?_))))))))))))); exact ⟨_, rfl, aa, .inl ⟨fun h => hz h.1, rfl⟩⟩
  ·exact absurd (by decide) h0
end
section
variable {P : Program} {e : Env} {d : Option Nat} {ty t t' kt el : TypeId} {pos : String} {aft : Array Edge} {g : Option (Nat × Bool)} {x y u u2 : Operand} {w : World}
theorem yslT {z v : Value} {size bytes n cap j : Nat} {a : Option Addr} {k : IntKind} {zb : Int} [C7 : NatC zb j] (ht : P.underlying t = some (.slice el)) (hs : TI P el z size bytes) (hx : look e x = some (.slice a n cap))
  (hu : look e u = some (.int k zb)) (h : j ≤ cap) (hv : Value.slice (if cap = 0 then a else a.map (·.add (0 * size))) j cap = v) :
  Y P e ⟨d, .slice t x none (some u) none, ty, pos, aft, g⟩ v w w := fun ρ hρ => by
 obtain ⟨rfl⟩ := C7
 have dP := hs.size (w := w)
 have h1 : ∀ w, (Instr.sliceBound (.int k (j : Int)) cap .sliceAcap).run P w = .ok j w := fun w => by rw [run_sliceBound _ _ _ _ _ (by omega) (by omega)]; simp
 subst hv
 simp [execOp, hρ _ _ hx, hρ _ _ hu, Instr.sliceAt, run_underlying ht, Instr.slice, Instr.sliceBounds, h1, dP]
theorem yslF {z v : Value} {size bytes n cap i : Nat} {a : Option Addr} {k : IntKind} {za : Int} [hza : NatC za i] (ht : P.underlying t = some (.slice el)) (hs : TI P el z size bytes) (hx : look e x = some (.slice a n cap))
  (hy : look e y = some (.int k za)) (h : i ≤ n) (hc : n ≤ cap) (hv : Value.slice (if cap = i then a else a.map (·.add (i * size))) (n - i) (cap - i) = v) :
  Y P e ⟨d, .slice t x (some y) none none, ty, pos, aft, g⟩ v w w := hv ▸ yslE ht hs hx hy h hc
end
theorem Rd.cap {w : World} {a : Option Addr} {n cap size : Nat} {cs : List Value} (h : Rd w (.slice a n cap) size n cs) (h0 : n = 0 ∨ n ≤ cap) : n ≤ cap := by omega
theorem rd_pre {w : World} {a : Option Addr} {n cap size j : Nat} {cs : List Value} (h : Rd w (.slice a n cap) size n cs) (hj : j ≤ n) : ∃ v, Value.slice (if cap = 0 then a else a.map (·.add (0 * size))) j cap = v ∧ Rd w v size j (cs.take (j * size)) := by
 refine ⟨_, rfl, by rw [List.length_take, h.1]; exact Nat.min_eq_left (Nat.mul_le_mul_right _ hj), ?_⟩
 rcases h.2 with ⟨c, hv, h0⟩ | ⟨b, off, cap2, hv, hc⟩
 ·have : j = 0 := by omega
  subst this; exact .inl ⟨⟨_, _⟩, rfl, rfl⟩
 ·cases hv; refine .inr ⟨b, off, cap, by split <;> simp [Addr.add], fun j u hj => ?_⟩; rw [List.getElem?_take] at hj; split at hj
  ·exact hc _ _ hj
  ·cases hj
theorem rd_suf {w : World} {a : Option Addr} {n cap size i : Nat} {cs : List Value} (h : Rd w (.slice a n cap) size n cs) (hi : i ≤ n) (dl : n ≤ cap) : ∃ v, Value.slice (if cap = i then a else a.map (·.add (i * size))) (n - i) (cap - i) = v ∧ Rd w v size (n - i) (cs.drop (i * size)) := by
 refine ⟨_, rfl, by rw [List.length_drop, h.1, Nat.sub_mul], ?_⟩
 rcases Nat.lt_or_ge i n with cA | cA
 ·rcases h.2 with ⟨c, hv, h0⟩ | ⟨b, off, cap2, hv, hc⟩
  ·omega
  ·cases hv; refine .inr ⟨b, off + i * size, cap - i, by rw [if_neg (by omega)]; simp [Addr.add], fun j u hj => ?_⟩; rw [List.getElem?_drop] at hj; rw [Nat.add_assoc]; exact hc _ _ hj
 ·have : n - i = 0 := by omega
  rw [this]; exact .inl ⟨⟨_, _⟩, rfl, rfl⟩
theorem esC_len (es : Es) : (esC es).length = es.length * 2 := by induction es with
 | nil => rfl
 | cons x r ih => rw [show esC (x :: r) = [S x.1, S x.2] ++ esC r from rfl, List.length_append, ih]; simp; omega
theorem esC_take (es : Es) (i : Nat) : (esC es).take (i * 2) = esC (es.take i) := by
 rcases Nat.lt_or_ge es.length i with h | h
 ·rw [List.take_of_length_le (by rw [esC_len]; omega), List.take_of_length_le (by omega)]
 ·have : (esC (es.take i)).length = i * 2 := by rw [esC_len, List.length_take, Nat.min_eq_left h]
  conv => lhs; rw [← List.take_append_drop i es, esC_app, ← this, List.take_left']
theorem esC_drop (es : Es) (i : Nat) : (esC es).drop (i * 2) = esC (es.drop i) := by
 rcases Nat.lt_or_ge es.length i with h | h
 ·rw [List.drop_of_length_le (by rw [esC_len]; omega), List.drop_of_length_le (by omega)]; rfl
 ·have : (esC (es.take i)).length = i * 2 := by rw [esC_len, List.length_take, Nat.min_eq_left h]
  conv => lhs; rw [← List.take_append_drop i es, esC_app, ← this, List.drop_left']
theorem rd_en0 {w : World} {b off n cap : Nat} {l : Es} {i : Nat} {y : Bytes × Bytes} (h : Rd w (.slice (some ⟨b, off, none⟩) n cap) 2 n (esC l)) (hi : i < n) (hy : l[i]? = some y) : w.cell? ⟨b, off + i * 2, none⟩ = some (S y.1) := by
 rcases h.2 with ⟨c, -, h0⟩ | ⟨b', off', cap', hv, hc⟩
 ·omega
 ·cases hv; obtain ⟨f1, f2⟩ := flat2 (fun x : Bytes × Bytes => S x.1) (fun x : Bytes × Bytes => S x.2) l i; rw [hy] at f1; have := hc (2 * i) (S y.1) f1; rw [show off + i * 2 = off + 2 * i by omega]; exact this
theorem rd_en1 {w : World} {b off n cap : Nat} {l : Es} {i : Nat} {y : Bytes × Bytes} (h : Rd w (.slice (some ⟨b, off, none⟩) n cap) 2 n (esC l)) (hi : i < n) (hy : l[i]? = some y) : w.cell? ⟨b, off + i * 2 + 1, none⟩ = some (S y.2) := by
 rcases h.2 with ⟨c, -, h0⟩ | ⟨b', off', cap', hv, hc⟩
 ·omega
 ·cases hv; obtain ⟨f1, f2⟩ := flat2 (fun x : Bytes × Bytes => S x.1) (fun x : Bytes × Bytes => S x.2) l i; rw [hy] at f2; have := hc (2 * i + 1) (S y.2) f2; rw [show off + i * 2 + 1 = off + (2 * i + 1) by omega]; exact this
theorem rd_ens {w : World} {a : Option Addr} {cap n : Nat} {l : Es} {i : Nat} (h : Rd w (.slice a n cap) 2 n (esC l)) (hn : n = l.length) (hi : i < n) : ∃ b off y, a = some ⟨b, off, none⟩ ∧ l[i]? = some y := by
 rcases h.2 with ⟨c, -, h0⟩ | ⟨b', off', cap', hv, hc⟩
 ·omega
 ·cases hv; exact ⟨b', off', _, rfl, List.getElem?_eq_getElem (by omega)⟩
theorem pos_at {l : List Bytes} {t : Bytes} {x : Bytes} (h : l[pos l t]? = some x) : lt x t = false := by
 unfold pos at h
 induction l with
 | nil => simp at h
 | cons a r ih =>
   simp only [List.takeWhile_cons] at h
   cases ha : lt a t with
   | true =>
     rw [ha] at h
     exact ih (by simpa using h)
   | false =>
     rw [ha] at h; have : a = x := by simpa using h
     rw [← this]; exact ha
theorem posE_step {es : Es} {k : Bytes} {i : Nat} {y : Bytes × Bytes} (hi : i ≤ posE es k) (hy : es[i]? = some y) : (lt y.1 k = true → i + 1 ≤ posE es k) ∧ (lt y.1 k = false → i = posE es k) := by
 have hm : (es.map (·.1))[i]? = some y.1 := by rw [List.getElem?_map, hy]; rfl
 constructor
 ·intro h; rcases Nat.lt_or_eq_of_le hi with h' | h'
  ·exact h'
  ·rw [h'] at hm; have := pos_at hm; rw [this] at h; cases h
 ·intro h; rcases Nat.lt_or_eq_of_le hi with h' | h'
  ·have := pos_lt (l := es.map (·.1)) (t := k) y.1 (by
    have : ((es.map (·.1)).take (pos (es.map (·.1)) k))[i]? = some y.1 := by rw [List.getElem?_take, if_pos (show i < pos (es.map (·.1)) k from h')]; exact hm
    exact List.mem_of_getElem? this)
   rw [h] at this; cases this
  ·exact h'
theorem hasE_at {es : Es} {k : Bytes} {y : Bytes × Bytes} (hy : es[posE es k]? = some y) : hasE es k ↔ y.1 = k := by
 unfold hasE
 rw [List.getElem?_map, hy]
 simp
theorem hasE_no {es : Es} {k : Bytes} (h : posE es k = es.length) : ¬ hasE es k := by
 unfold hasE
 rw [h, List.getElem?_eq_none (by simp)]
 simp
structure MpM (w : World) (q : Nat) (mv : Value) (es : Es) : Prop where
 blk : Blk w q [mv] 32
 sl : Sl w mv 41 2 es.length (esC es)
 ne : mv.ownBlock ≠ some q
 le : es.length ≤ 1000000
theorem MpM.ext {w w' : World} {q : Nat} {mv : Value} {es : Es} (h : MpM w q mv es) (k : Ext w w') : MpM w' q mv es := ⟨k.blk h.blk, h.sl.ext k, h.ne, h.le⟩
theorem MpM.kp {w w' : World} {q : Nat} {mv : Value} {es : Es} {F : Nat → Prop} (h : MpM w q mv es) (k : Kp F w w') (h1 : ¬ F q) (h2 : ∀ g, mv.ownBlock = some g → ¬ F g) : MpM w' q mv es := ⟨k.blk h.blk h1, h.sl.kp k h2, h.ne, h.le⟩
section
variable {w : World} {q : Nat} {mv : Value} {es : Es}
theorem at_ret (h : MpM w q mv es) (k : Bytes) : Ret Tryz.prog 41 [ptr q 0, S k] w fun v w' => v = I ((posE es k : Nat) : Int) ∧ w' = w := by
 obtain ⟨a, c, rfl, -⟩ := h.sl.rd.shape
 have hB := h.blk
 have hR := h.sl.rd
 have dv := posE_le es k
 have dt := h.le
 refine ret_of_run (e := [(0, _), (1, _)]) Tryz.func41 rfl Tryz.ntmps41 rfl rfl (qN rfl (zqa rfl (qM rfl (zqa rfl (rEnd (run_seq (run_block (zqu (α := Nat) (0) (fun i => [(0, ptr q 0), (1, S k), (5, I (i : Int))]) (fun i w' => w' = w ∧ i ≤ posE es k) (fun i => es.length - i) ?hI ?hround))))))))
 case hI => exact ⟨rfl, Nat.zero_le _⟩
 case hround =>
  rintro i w1 ⟨rfl, hi⟩ ih
  try dsimp only
  refine run_seq (qN rfl (zqm rfl (zqm rfl (qV (ynk rfl) (qV (yfa fl32_0 rfl) (qV (yld U30 rfl rfl hB rfl) (qV (yln U30 rfl) (qV (ylt rfl rfl) (zqm rfl (rVal_if (fun h1 => ?_) (fun h1 => ?_)))))))))))
  ·have ab : i < es.length := by omega
   obtain ⟨lb, lo, y, rfl, hy⟩ := rd_ens hR rfl ab; have qu := posE_step hi hy; refine zqm rfl (qV (ynk rfl) (qV (yfa fl32_0 rfl) (qV (yld U30 rfl rfl hB rfl) (zqm rfl (qV (yis U30 ti41 rfl rfl (by omega)) (qV (yfa fl41_0 rfl) (qV (yldc U9 rfl rfl (rd_en0 hR ab hy)) (zqm rfl (qV (yltS rfl rfl) (qV (ypT rfl rfl) (rEnd (run_cond rfl (fun h2 => ?_) (fun h2 => ?_)))))))))))))
   ·refine run_skip (run_block (run_reg rfl (zqm rfl (zqd rfl rfl (zqa rfl (rEnd (run_inBlock ?_))))))); exact (ih (i + 1) _ ⟨rfl, qu.1 h2⟩ (by omega)).qb
   ·refine run_exit rfl (qN rfl (zqm rfl (zqa rfl (rEnd (run_ret Tryz.func41 rfl ?_))))); exact ⟨_, rfl, by rw [← qu.2 h2]; rfl, rfl⟩
  ·refine qS (qS (qS (qS (qS (qS (qS (qS (qS (qS (qV (ypF rfl rfl) (rEnd (run_false rfl (run_exit rfl ?_))))))))))))); refine qN rfl (zqm rfl (zqa rfl (rEnd (run_ret Tryz.func41 rfl ?_)))); have : i = posE es k := by omega
   exact ⟨_, rfl, by rw [← this]; rfl, rfl⟩
theorem getM_ret (h : MpM w q mv es) (k : Bytes) : Ret Tryz.prog 10 [ptr q 0, S k] w fun v w' => v = .tuple #[S (getR es k).1, I (getR es k).2] ∧ w' = w := by
 have wG := at_ret h k
 obtain ⟨a, c, rfl, -⟩ := h.sl.rd.shape
 have hB := h.blk
 have hR := h.sl.rd
 have dv := posE_le es k
 have dt := h.le
 refine ret_of_run (e := [(0, _), (1, _)]) Tryz.func10 rfl Tryz.ntmps10 rfl rfl (qN rfl (zqa rfl (zqa rfl (rEnd (run_seq (qN rfl (zqm rfl (zqc [.tmp 7] cf40 rfl (rkey_ret k _) ?_))))))))
 rintro _ w1 ⟨rfl, rfl⟩
 refine qV ((by first | exact yntd rfl | exact ynt rfl)) ?_
 refine rEnd (run_cond rfl (fun hk => ?_) (fun hk => ?_))
 ·refine qN rfl (zqa rfl (zqa rfl (rEnd (run_ret Tryz.func10 rfl ?_)))); have br : ¬ keyOk k := of_decide_eq_true hk; refine ⟨_, rfl, ?_, rfl⟩; unfold getR; rw [if_neg br]; rfl
 ·have br : keyOk k := Decidable.not_not.1 (of_decide_eq_false hk); refine run_skip (qN rfl (zqm rfl (zqm rfl (zqc [.tmp 10, .tmp 11] cf41 rfl (wG) ?_)))); rintro _ w1 ⟨rfl, rfl⟩; refine zqa rfl (rEnd (run_seq (qN rfl (zqm rfl (zqm rfl (qV (ynk rfl) (qV (yfa fl32_0 rfl) (qV (yld U30 rfl rfl hB rfl) (qV (yln U30 rfl) (qV (yeq rfl rfl) (zqm rfl (rVal_if (fun h1 => ?_) (fun h1 => ?_)))))))))))))
  ·refine qS (qS (qS (qS (qS (qS (qS (qS (qS (qS (qV (ypT rfl rfl) (rEnd (Run.qb (e := [(0, _), (4, _), (5, _), (6, _), (31, _)]) ?_)))))))))))); refine run_true rfl (qN rfl (zqa rfl (zqa rfl (rEnd (run_ret Tryz.func10 rfl (⟨_, rfl, ?_, rfl⟩)))))); unfold getR; rw [if_pos br, getE_none (hasE_no (by omega))]; rfl
  ·have ab : posE es k < es.length := by omega
   obtain ⟨lb, lo, y, rfl, hy⟩ := rd_ens hR rfl ab; have qu := hasE_at hy; refine zqm rfl (qV (ynk rfl) (qV (yfa fl32_0 rfl) (qV (yld U30 rfl rfl hB rfl) (zqm rfl (qV (yis U30 ti41 rfl rfl (by omega)) (qV (yfa fl41_0 rfl) (qV (yldc U9 rfl rfl (rd_en0 hR ab hy)) (zqm rfl (qV (yneS rfl rfl) (qV (ypF rfl rfl) (rEnd (Run.qb (e := [(0, _), (4, _), (5, _), (6, _), (31, _)]) ?_)))))))))))); refine run_cond rfl (fun h2 => ?_) (fun h2 => ?_)
   ·refine qN rfl (zqa rfl (zqa rfl (rEnd (run_ret Tryz.func10 rfl ?_)))); have js : ¬ y.1 = k := by simpa using h2
    refine ⟨_, rfl, ?_, rfl⟩; unfold getR; rw [if_pos br, getE_none (fun hh => js (qu.1 hh))]; rfl
   ·have js : y.1 = k := by simpa using h2
    refine run_skip (qN rfl (zqm rfl (qV (ynk rfl) (qV (yfa fl32_0 rfl) (qV (yld U30 rfl rfl hB rfl) (zqm rfl (qV (yis U30 ti41 rfl rfl (by omega)) (qV (yfa fl41_1 rfl) (qV (yldc U9 rfl rfl (rd_en1 hR ab hy)) (zqa rfl (zqa rfl (rEnd (run_ret Tryz.func10 rfl ?_))))))))))))); refine ⟨_, rfl, ?_, rfl⟩; unfold getR; rw [if_pos br, getE_some (qu.2 js) (v := y.2) (by rw [List.getElem?_map, hy]; rfl)]; rfl
theorem may8_ret (z : Nat) (hz : sizeOk (z : Int)) (k v : Bytes) (hk : k.length ≤ 140737488355328) (hv : v.length ≤ 140737488355328) (w : World) : Ret Tryz.prog 36 [I (z : Int), S k, S v] w fun u w' => u = .bool (decide (may z k v)) ∧ w' = w := by
 refine ret_of_run (e := [(0, _), (1, _), (2, _)]) Tryz.func36 rfl Tryz.ntmps36 rfl rfl (qN rfl (zqa rfl (qM rfl (zqm rfl (zqc [.tmp 10] cf65 rfl (rmost_ok hz _) ?_)))))
 rintro _ w1 ⟨rfl, rfl⟩
 refine zqm rfl (qV (yex rfl rfl) (qV (yex rfl rfl) (zqa rfl (zqa rfl (qM rfl (zqm rfl (qV (yeq rfl rfl) (zqm rfl (rVal_if (fun h0 => ?_) (fun h0 => ?_))))))))))
 ·refine zqm rfl (zqc [.tmp 17] cf40 rfl (rkey_ret k _) ?_); rintro _ w1 ⟨rfl, rfl⟩; refine qV (ypT rfl rfl) (zqm rfl ?_); by_cases dR : keyOk k
  ·have hd : decide (1 ≤ k.length ∧ k.length ≤ 64) = true := decide_eq_true dR; rw [hd]; refine zqm rfl (qV (ylnS U9 rfl) (zqd rfl rfl (zqm rfl (qV (ylnS U9 rfl) (zqd rfl rfl (zqm rfl (qV (yle rfl rfl) (qV (ypT rfl rfl) (zqa rfl (rEnd (Run.qb (e := [(6, _)]) ?_))))))))))); refine run_ret Tryz.func36 rfl (⟨_, rfl, ?_, rfl⟩); show Value.bool _ = _
   congr 1
   rw [decide_eq_decide]; unfold may; constructor
   ·intro h; exact ⟨dR, by omega⟩
   ·intro h; have := h.2; omega
  ·have hd : decide (1 ≤ k.length ∧ k.length ≤ 64) = false := decide_eq_false dR; rw [hd]; refine qS (qS (qS (qS (qS (qS (qS (qS (qV (ypF rfl rfl) (zqa rfl (rEnd (Run.qb (e := [(6, _)]) ?_))))))))))); refine run_ret Tryz.func36 rfl (⟨_, rfl, ?_, rfl⟩); rw [decide_eq_false (fun h => dR h.1)]; rfl
 ·exact absurd rfl h0
end
theorem rd_pg0 {w : World} {b off n cap : Nat} {l : Pgs} {i : Nat} {y : Int × Bytes} (h : Rd w (.slice (some ⟨b, off, none⟩) n cap) 2 n (pgC l)) (hi : i < n) (hy : l[i]? = some y) : w.cell? ⟨b, off + i * 2, none⟩ = some (I y.1) := rd_pg h hi hy 0 _ rfl
theorem rd_pg1 {w : World} {b off n cap : Nat} {l : Pgs} {i : Nat} {y : Int × Bytes} (h : Rd w (.slice (some ⟨b, off, none⟩) n cap) 2 n (pgC l)) (hi : i < n) (hy : l[i]? = some y) : w.cell? ⟨b, off + i * 2 + 1, none⟩ = some (S y.2) := rd_pg h hi hy 1 _ rfl
theorem nodup_get {α : Type} {l : List α} (h : l.Nodup) {i j : Nat} (hi : i < l.length) (hj : j < l.length) (e : l[i] = l[j]) : i = j := by
 have hp := List.pairwise_iff_getElem.1 h
 rcases Nat.lt_trichotomy i j with hl | hl | hl
 ·exact absurd e (hp i j hi hj hl)
 ·exact hl
 ·exact absurd e.symm (hp j i hj hi hl)
section
variable {w : World}
theorem find_ret {lv : Value} {l : Pgs} (hR : Rd w lv 2 l.length (pgC l)) (hl : l.length ≤ 1000000) (no : Int) : Ret Tryz.prog 53 [lv, I no] w fun v w' => w' = w ∧ ((∃ (i : Nat) (y : Int × Bytes), v = I (i : Int) ∧ l[i]? = some y ∧ y.1 = no ∧ no ∉ (l.take i).map (·.1)) ∨ (v = I (-1) ∧ no ∉ l.map (·.1))) := by
 obtain ⟨a, c, rfl, -⟩ := hR.shape
 refine ret_of_run (e := [(0, _), (1, _)]) Tryz.func53 rfl Tryz.ntmps53 rfl rfl (qN rfl (zqa rfl (rEnd (run_seq (qN rfl (zqa rfl (rEnd (run_block (zqu (α := Nat) (0) (fun i => [(0, .slice a l.length c), (1, I no), (5, I (i : Int))]) (fun i w' => w' = w ∧ i ≤ l.length ∧ no ∉ (l.take i).map (·.1)) (fun i => l.length - i) ?hI ?hround)))))))))
 case hI => exact ⟨rfl, Nat.zero_le _, by simp⟩
 case hround =>
  rintro i w1 ⟨rfl, hi, aH⟩ ih
  try dsimp only
  refine run_seq (qN rfl (zqm rfl (zqm rfl (qV (yln U33 rfl) (qV (ylt rfl rfl) (rEnd (run_if rfl (fun af => ?_) (fun af => ?_))))))))
  ·have ab : i < l.length := by omega
   obtain ⟨lb, lo, y, rfl, hy⟩ := rd_pgs hR rfl ab; refine run_skip (run_seq (run_block (qN rfl (zqm rfl (zqm rfl (qV (yis U33 ti54 rfl rfl (by omega)) (qV (yfa fl54_0 rfl) (qV (yldc U3 rfl rfl (rd_pg0 hR ab hy)) (zqm rfl (qV (yeq rfl rfl) (rEnd (run_if rfl (fun he => ?_) (fun he => ?_)))))))))))))
   ·refine qN rfl (zqm rfl (zqa rfl (rEnd (run_ret Tryz.func53 rfl ?_)))); exact ⟨_, rfl, rfl, .inl ⟨i, y, rfl, hy, he, aH⟩⟩
   ·refine run_skip (run_inBlock (run_reg rfl (zqm rfl (zqd rfl rfl (zqa rfl (rEnd ((ih (i + 1) _ ⟨rfl, by omega, fun hh => ?_⟩ (by omega)).qb))))))); obtain ⟨x, hx, e⟩ := List.mem_map.1 hh; rcases (mem_take_succ hy).1 hx with hx | rfl
    ·exact aH (List.mem_map.2 ⟨x, hx, e⟩)
    ·exact he e
  ·rw [List.take_of_length_le (by omega)] at aH; refine run_exit rfl (qN rfl (zqa rfl (rEnd (run_ret Tryz.func53 rfl ?_)))); exact ⟨_, rfl, rfl, .inr ⟨rfl, aH⟩⟩
theorem inside_ret {lo tb : Bytes} {hi : Option Bytes} (sr : spanOk hi tb) (k : Bytes) (w : World) : Ret Tryz.prog 89 [.agg (spanC lo hi tb).toArray, S k] w fun v w' => Ext w w' ∧ ∃ q : Bool, v = .bool q ∧ (q = true ↔ inB lo hi k) := by
 refine ret_of_run (e := [(0, _), (1, _)]) Tryz.func89 rfl Tryz.ntmps89 rfl rfl (qN rfl (rValP rfl rfl (pbx rfl (cs := spanC lo hi tb) rfl) ?_))
 rintro _ w1 ⟨b, rfl, hb, aa, ai⟩
 replace ai : Blk w1 b [S lo, S tb, .bool hi.isSome] 100 := ai
 refine zqa rfl (qM rfl (zqm rfl (qV (yfa fl100_0 rfl) (qV (yld U9 rfl rfl ai rfl) (qV (ygeS rfl rfl) (zqm rfl (rVal_bool (fun h1 => ?_) (fun h1 => ?_))))))))
 ·have qX : lt k lo = false := by simpa using h1
  cases hi with
  | none =>
    have bU : Blk w1 b [S lo, S tb, .bool false] 100 := ai; refine qV (yfa fl100_2 rfl) (qV (yld U4 rfl rfl bU rfl) (qV ((by first | exact yntd rfl | exact ynt rfl)) ?_)); refine zqm rfl (qS (qS (qS (qS (qV (ypT rfl rfl) (qV (ypT rfl rfl) (zqa rfl (rEnd (run_ret Tryz.func89 rfl ?_)))))))))
    exact ⟨_, rfl, aa, _, rfl, ⟨fun _ => ⟨qX, fun u hu => by cases hu⟩, fun _ => rfl⟩⟩
  | some u =>
    obtain rfl := sr u rfl; have bU : Blk w1 b [S lo, S tb, .bool true] 100 := ai; refine qV (yfa fl100_2 rfl) (qV (yld U4 rfl rfl bU rfl) (qV ((by first | exact yntd rfl | exact ynt rfl)) ?_)); refine zqm rfl (zqm rfl (qV (yfa fl100_1 rfl) (qV (yld U9 rfl rfl bU rfl) (qV (yltS rfl rfl) (qV (ypF rfl rfl) (qV (ypT rfl rfl) (zqa rfl (rEnd (run_ret Tryz.func89 rfl (⟨_, rfl, aa, _, rfl, ?_⟩)))))))))); unfold inB; constructor
    ·intro h; exact ⟨qX, fun u hu => by cases hu; exact h⟩
    ·intro h; exact h.2 _ rfl
 ·have qX : lt k lo = true := by simpa using h1
  refine qS (qS (qS (qS (qS (qS (qS (qS (qS (qV (ypF rfl rfl) (zqa rfl (rEnd (run_ret Tryz.func89 rfl (⟨_, rfl, aa, false, rfl, ⟨fun h => Bool.noConfusion h, fun h => by rw [h.1] at qX; cases qX⟩⟩)))))))))))))
end
end Go.Proofs.YtocnhaoilnojmaaGreat
