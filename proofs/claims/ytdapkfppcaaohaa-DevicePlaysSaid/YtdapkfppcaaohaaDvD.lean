/- Devices by their footprints; the calls' bounds; lists of calls in memory. -/
import Derived.Test.YtdapkfppcaaohaaDvC
namespace Go.Proofs.Ytdapkfppcaaohaa
open Go Go.RowKit
set_option linter.all false
set_option maxRecDepth 100000

/-! ### Bounds -/
/-- Not more than k calls were made. -/
def Dev.Small (D : Dev) (k : Nat) : Prop := D.calls ≤ k ∧ D.cache.length ≤ k ∧ D.reads ≤ k ∧ D.keep.length ≤ 17592186044416
theorem Dev.Small.bd {D : Dev} {k : Nat} (h : D.Small k) (hk : k ≤ 1000000) : D.Bd := ⟨by have := h.1; omega, by have := h.2.1; omega, by have := h.2.2.1; omega⟩
theorem Dev.Small.mono {D : Dev} {k k' : Nat} (h : D.Small k) (hk : k ≤ k') : D.Small k' := ⟨by have := h.1; omega, by have := h.2.1; omega, by have := h.2.2.1; omega, h.2.2.2⟩
theorem small_fresh (B N : Nat) : (Dev.fresh B N).Small 0 := ⟨by simp [Dev.fresh], by simp [Dev.fresh], by simp [Dev.fresh], by simp [Dev.fresh]⟩
theorem small_fall {D : Dev} {k : Nat} (h : D.Small k) (l : List Int) (tn : Int) (mk : UInt8) : (D.fall l tn mk).Small k := ⟨h.1, by simp [Dev.fall], h.2.2.1, by simp [Dev.fall]⟩
theorem small_count {D : Dev} {k : Nat} (h : D.Small k) : D.count.Small (k + 1) := ⟨by have := h.1; simp [Dev.count]; omega, by have := h.2.1; simp [Dev.count]; omega, by have := h.2.2.1; simp [Dev.count]; omega, h.2.2.2⟩
theorem small_write {D : Dev} {k : Nat} (h : D.Small k) (n : Int) (s : Bytes) : (D.write n s).1.Small (k + 1) := by
  have hp : (D.push n s).count.Small (k + 1) := ⟨by have := h.1; simp [Dev.count, Dev.push]; omega, by have := h.2.1; simp [Dev.count, Dev.push]; omega, by have := h.2.2.1; simp [Dev.count, Dev.push]; omega, h.2.2.2⟩
  unfold Dev.write
  split
  · exact h.mono (by omega)
  · split
    · exact h.mono (by omega)
    · split
      · exact small_fall hp _ _ _
      · exact hp
theorem small_flush {D : Dev} {k : Nat} (h : D.Small k) : D.flush.1.Small (k + 1) := by
  unfold Dev.flush
  split
  · exact h.mono (by omega)
  · split
    · exact small_fall (small_count h) _ _ _
    · have := small_count h; exact ⟨this.1, by simp, this.2.2.1, this.2.2.2⟩
theorem small_op {D : Dev} {k : Nat} {o : POp} (ho : o.Ok) (h : D.Small k) : (D.op o).1.Small (k + 1) := by
  have h' := h.mono (show k ≤ k + 1 by omega)
  unfold Dev.op
  split
  · exact small_write h _ _
  split
  · exact small_write h _ _
  split
  · exact small_flush h
  split
  · unfold Dev.read
    split
    · exact h'
    · split
      · exact h'
      · exact ⟨h'.1, h'.2.1, by have := h.2.2.1; show D.reads + 1 ≤ _; omega, h'.2.2.2⟩
  split
  · unfold Dev.plan
    split
    · exact h'
    · split
      · exact h'
      · exact ⟨h'.1, h'.2.1, h'.2.2.1, by have := ho.keep; show o.keep.length ≤ _; omega⟩
  split
  · simp only
    split
    · exact h'
    · exact small_fall h' _ _ _
  split
  · exact h'
  split
  · unfold Dev.corrupt
    split
    · exact ⟨h'.1, by simpa using h'.2.1, h'.2.2.1, h'.2.2.2⟩
    · exact h'
  · exact h'
theorem write_size (D : Dev) (n : Int) (s : Bytes) : (D.write n s).1.B = D.B ∧ (D.write n s).1.N = D.N := by
  unfold Dev.write
  split <;> (try split) <;> (try split) <;> exact ⟨rfl, rfl⟩
theorem op_size (D : Dev) (o : POp) : (D.op o).1.B = D.B ∧ (D.op o).1.N = D.N := by
  unfold Dev.op
  split
  · exact write_size _ _ _
  split
  · exact write_size _ _ _
  split
  · unfold Dev.flush; split <;> (try split) <;> exact ⟨rfl, rfl⟩
  split
  · unfold Dev.read; split <;> (try split) <;> exact ⟨rfl, rfl⟩
  split
  · unfold Dev.plan; split <;> (try split) <;> exact ⟨rfl, rfl⟩
  split
  · simp only; split <;> exact ⟨rfl, rfl⟩
  split
  · exact ⟨rfl, rfl⟩
  split
  · unfold Dev.corrupt; split <;> exact ⟨rfl, rfl⟩
  · exact ⟨rfl, rfl⟩

/-! ### By footprints -/
/-- The device at p has turned into D', and nothing else was changed. -/
def DevT (w : World) (p : Nat) (F : Nat → Prop) (D' : Dev) (w' : World) : Prop := ∃ F', DevA w' p D' F' ∧ Upd F F' w w'
theorem DevR.toA {w w' : World} {p m : Nat} {kp ca : Value} {D' : Dev} {F : Nat → Prop} (hF : ∀ k, F k ↔ fpD p m kp ca k) (h : DevR w p m kp ca D' w') : DevT w p F D' w' := by
  have e : F = fpD p m kp ca := funext fun k => propext (hF k)
  subst e
  obtain ⟨kp', ca', h1, h2⟩ := h
  exact ⟨_, ⟨m, kp', ca', h1, fun k => Iff.rfl⟩, h2⟩
theorem DevT.kept {w w' : World} {p : Nat} {D' : Dev} {F : Nat → Prop} (h : DevA w' p D' F) (k : Kp (fun i => i = p) w w') (hp : F p) : DevT w p F D' w' := ⟨F, h, k.mono' fun i hi => by rw [hi]; exact hp, fun _ h => .inl h⟩
theorem Upd.dis {F F' G : Nat → Prop} {w w' : World} (k : Upd F F' w w') (hG : ∀ i, G i → i < w.heap.size) (hd : ∀ i, F i → ¬ G i) : ∀ i, F' i → ¬ G i := fun i hi hg => by
  rcases k.2 i hi with h | h
  · exact hd i h hg
  · have := hG i hg; omega
theorem Upd.low {F F' : Nat → Prop} {w0 w w' : World} (k : Upd F F' w w') (hs : w0.heap.size ≤ w.heap.size) (hl : ∀ i, F i → w0.heap.size ≤ i) : ∀ i, F' i → w0.heap.size ≤ i := fun i hi => (k.2 i hi).elim (hl i) fun h => Nat.le_trans hs h
theorem Upd.ext {F F' : Nat → Prop} {w0 w w' : World} (k : Upd F F' w w') (hx : Ext w0 w) (hl : ∀ i, F i → w0.heap.size ≤ i) : Ext w0 w' := hx.trans_new k.1 hl

section
variable {w : World} {p : Nat} {D : Dev} {F : Nat → Prop}
theorem runA_ret {kv : Value} (o : POp) (ho : o.Ok) (h : DevA w p D F) {k : Nat} (hs : D.Small k) (hk : k ≤ 1000000) (hr : Rd w kv 1 o.keep.length (o.keep.map I)) :
    Ret Try.prog 33 [ptr p 0, o.val kv] w fun v w' => v = .tuple #[S (D.op o).2.1, I (D.op o).2.2] ∧ DevT w p F (D.op o).1 w' := by
  obtain ⟨m, kp, ca, h1, hF⟩ := h
  exact (runOp_ret o ho h1 (hs.bd hk) hs.2.2.2 hr).mono fun v w' ⟨e, h2⟩ => ⟨e, h2.toA hF⟩
theorem imageA_ret (h : DevA w p D F) {k : Nat} (hs : D.Small k) (hk : k ≤ 1000000) :
    Ret Try.prog 28 [ptr p 0] w fun v w' => Sl w' v 9 1 D.B (D.image.map S) ∧ Ext w w' ∧ ∀ g, v.ownBlock = some g → w.heap.size ≤ g := by
  obtain ⟨m, kp, ca, h1, hF⟩ := h
  exact image_ret h1 (hs.bd hk).2.1
theorem downA_ret (h : DevA w p D F) : Ret Try.prog 34 [ptr p 0] w fun v w' => v = .bool D.down ∧ w' = w := by
  obtain ⟨m, kp, ca, h1, hF⟩ := h; exact down_ret h1
theorem callsA_ret (h : DevA w p D F) : Ret Try.prog 35 [ptr p 0] w fun v w' => v = I D.calls ∧ w' = w := by
  obtain ⟨m, kp, ca, h1, hF⟩ := h; exact calls_ret h1
theorem readsA_ret (h : DevA w p D F) : Ret Try.prog 51 [ptr p 0] w fun v w' => v = I D.reads ∧ w' = w := by
  obtain ⟨m, kp, ca, h1, hF⟩ := h; exact reads_ret h1
theorem unflushedA_ret (h : DevA w p D F) : Ret Try.prog 30 [ptr p 0] w fun v w' => v = I (D.cache.length : Int) ∧ w' = w := by
  obtain ⟨m, kp, ca, h1, hF⟩ := h; exact unflushed_ret h1
theorem sizeA_ret (h : DevA w p D F) : Ret Try.prog 46 [ptr p 0] w fun v w' => v = I ((512 * D.N : Nat) : Int) ∧ w' = w := by
  obtain ⟨m, kp, ca, h1, hF⟩ := h; exact size_ret h1
theorem blocksA_ret (h : DevA w p D F) : Ret Try.prog 45 [ptr p 0] w fun v w' => v = I (D.B : Int) ∧ w' = w := by
  obtain ⟨m, kp, ca, h1, hF⟩ := h; exact blocks_ret h1
theorem twinA_ret (h : DevA w p D F) {k : Nat} (hs : D.Small k) (hk : k ≤ 1000000) :
    Ret Try.prog 29 [ptr p 0] w fun v w' => ∃ p' F', v = ptr p' 0 ∧ DevA w' p' D F' ∧ Ext w w' ∧ ∀ i, F' i → w.heap.size ≤ i := by
  obtain ⟨m, kp, ca, h1, hF⟩ := h
  exact (twin_ret h1 hs.2.2.2 (by have := (hs.2.1); omega)).mono fun v w' ⟨p', m', kp', ca', e, h2, hx, hl⟩ => ⟨p', _, e, ⟨m', kp', ca', h2, fun k => Iff.rfl⟩, hx, hl⟩
theorem restartA_ret (h : DevA w p D F) : Ret Try.prog 27 [ptr p 0] w fun v w' => v = I (if D.down then 0 else 5) ∧ DevT w p F { D with down := false } w' := by
  obtain ⟨m, kp, ca, h1, hF⟩ := h
  exact (restart_ret h1).mono fun v w' ⟨e, h2, hk⟩ => ⟨e, (DevR.kept h2 hk).toA hF⟩
theorem corruptA_ret (n at' : Int) (d : Bytes) (h : DevA w p D F) {k : Nat} (hs : D.Small k) (hk : k ≤ 1000000) (hat : at' ≤ 9223372036854775807) (hd : d.length ≤ 9223372036854775807) :
    Ret Try.prog 36 [ptr p 0, I n, I at', S d] w fun v w' => v = I (D.corrupt n at' d).2 ∧ DevT w p F (D.corrupt n at' d).1 w' := by
  obtain ⟨m, kp, ca, h1, hF⟩ := h
  exact (corrupt_ret n at' d h1 (hs.bd hk).2.1 hat hd).mono fun v w' ⟨e, h2⟩ => ⟨e, h2.toA hF⟩
theorem writeA_ret (n : Int) (s : Bytes) (h : DevA w p D F) {k : Nat} (hs : D.Small k) (hk : k ≤ 1000000) :
    Ret Try.prog 37 [ptr p 0, I n, S s] w fun v w' => v = I (D.write n s).2 ∧ DevT w p F (D.write n s).1 w' := by
  obtain ⟨m, kp, ca, h1, hF⟩ := h
  exact (write_ret n s h1 (hs.bd hk) hs.2.2.2).mono fun v w' ⟨e, h2⟩ => ⟨e, h2.toA hF⟩
theorem flushA_ret (h : DevA w p D F) {k : Nat} (hs : D.Small k) (hk : k ≤ 1000000) :
    Ret Try.prog 39 [ptr p 0] w fun v w' => v = I D.flush.2 ∧ DevT w p F D.flush.1 w' := by
  obtain ⟨m, kp, ca, h1, hF⟩ := h
  exact (flush_ret h1 (hs.bd hk) hs.2.2.2).mono fun v w' ⟨e, h2⟩ => ⟨e, h2.toA hF⟩
theorem readA_ret (n : Int) (h : DevA w p D F) {k : Nat} (hs : D.Small k) (hk : k ≤ 1000000) :
    Ret Try.prog 49 [ptr p 0, I n] w fun v w' => v = .tuple #[S (D.read n).2.1, I (D.read n).2.2] ∧ DevT w p F (D.read n).1 w' := by
  obtain ⟨m, kp, ca, h1, hF⟩ := h
  exact (read_ret n h1 (hs.bd hk)).mono fun v w' ⟨e, h2⟩ => ⟨e, h2.toA hF⟩
theorem planA_ret (at' : Int) (cv : Value) (l : List Int) (tn : Int) (mk : UInt8) (h : DevA w p D F) (hl : l.length ≤ 17592186044416) (hr : Rd w cv 1 l.length (l.map I)) (hcap : cv = .slice none 0 0 ∨ ∃ a cap, cv = .slice (some a) l.length cap) (hat : at' ≤ 9223372036854775807) :
    Ret Try.prog 50 [ptr p 0, I at', .agg #[cv, I tn, u8v mk]] w fun v w' => v = I (D.plan at' l tn mk).2 ∧ DevT w p F (D.plan at' l tn mk).1 w' := by
  obtain ⟨m, kp, ca, h1, hF⟩ := h
  exact (plan_ret at' cv l tn mk h1 hl hr hcap hat).mono fun v w' ⟨e, h2⟩ => ⟨e, h2.toA hF⟩
theorem pullA_ret (cv : Value) (l : List Int) (tn : Int) (mk : UInt8) (h : DevA w p D F) {k : Nat} (hs : D.Small k) (hk : k ≤ 1000000) (hl : l.length ≤ 17592186044416) (hr : Rd w cv 1 l.length (l.map I)) :
    Ret Try.prog 25 [ptr p 0, .agg #[cv, I tn, u8v mk]] w fun v w' => v = I (if D.down then 8 else 0) ∧ DevT w p F (if D.down then D else D.fall l tn mk) w' := by
  obtain ⟨m, kp, ca, h1, hF⟩ := h
  exact (pull_ret h1 cv l tn mk hl hr (hs.bd hk)).mono fun v w' ⟨e, h2⟩ => ⟨e, h2.toA hF⟩
theorem newA_ok (B N : Nat) (w : World) (hg : geoOk B N) : Ret Try.prog 32 [.agg #[I (B : Int), I (N : Int)]] w fun v w' => ∃ p F, v = .tuple #[ptr p 0, I 0] ∧ DevA w' p (Dev.fresh B N) F ∧ Ext w w' ∧ ∀ i, F i → w.heap.size ≤ i :=
  (new_ok B N w hg).mono fun v w' ⟨p, m, e, h, hx, h1, h2⟩ => ⟨p, _, e, ⟨m, _, _, h, fun k => Iff.rfl⟩, hx, fun i hi => by
    rcases hi with h | h | h | h
    · omega
    · omega
    · cases h
    · cases h⟩
end

/-! ### Lists of calls in memory -/
theorem Rd.elem {w : World} {b off n cap size i : Nat} {flat news : List Value} (h : Rd w (.slice (some ⟨b, off, none⟩) n cap) size n flat) (hn : (flat.drop (i * size)).take size = news) : ∀ j u, news[j]? = some u → w.cell? ⟨b, off + i * size + j, none⟩ = some u := fun j u hj => by
  rcases h.2 with ⟨c, -, hz⟩ | ⟨b', off', cap', hv, hc⟩
  · have hl := h.1
    rw [hz, Nat.zero_mul] at hl
    rw [← hn, List.eq_nil_of_length_eq_zero hl] at hj
    simp at hj
  · cases hv
    have := hc (i * size + j) u (by
      rw [← hn, List.getElem?_take] at hj
      split at hj
      · rw [List.getElem?_drop] at hj; exact hj
      · cases hj)
    rw [Nat.add_assoc]; exact this
def OpsM (w : World) (v : Value) (os : List POp) : Prop := ∃ (flat : List Value) (kvs : Nat → Value), Rd w v 8 os.length flat ∧ ∀ (i : Nat) (o : POp), os[i]? = some o → (flat.drop (i * 8)).take 8 = o.cs (kvs i) ∧ Rd w (kvs i) 1 o.keep.length (o.keep.map I) ∧ o.Ok
theorem OpsM.ext {w w' : World} {v : Value} {os : List POp} (h : OpsM w v os) (k : Ext w w') : OpsM w' v os := by
  obtain ⟨flat, kvs, h1, h2⟩ := h
  exact ⟨flat, kvs, h1.ext k, fun i o ho => ⟨(h2 i o ho).1, (h2 i o ho).2.1.ext k, (h2 i o ho).2.2⟩⟩
theorem OpsM.shape {w : World} {v : Value} {os : List POp} (h : OpsM w v os) : ∃ a cap, v = .slice a os.length cap := by
  obtain ⟨flat, kvs, h1, h2⟩ := h
  obtain ⟨a, cap, e, -⟩ := h1.shape
  exact ⟨a, cap, e⟩
/-- One of them is loaded. -/
theorem OpsM.get {w : World} {a : Option Addr} {n cap : Nat} {os : List POp} (h : OpsM w (.slice a n cap) os) {i : Nat} (hi : i < os.length) : ∃ b off o kv, a = some ⟨b, off, none⟩ ∧ os[i]? = some o ∧ (∀ j u, (o.cs kv)[j]? = some u → w.cell? ⟨b, off + i * 8 + j, none⟩ = some u) ∧ Rd w kv 1 o.keep.length (o.keep.map I) ∧ o.Ok := by
  obtain ⟨flat, kvs, h1, h2⟩ := h
  obtain ⟨a', cap', e, -⟩ := h1.shape
  cases e
  rcases h1.2 with ⟨c, -, hz⟩ | ⟨b, off, cap', hv, hc⟩
  · omega
  · cases hv
    have ho := List.getElem?_eq_getElem hi
    obtain ⟨k1, k2, k3⟩ := h2 i _ ho
    exact ⟨b, off, _, kvs i, rfl, ho, h1.elem k1, k2, k3⟩
theorem yneb {P : Program} {e : Env} {d : Option Nat} {ty t t' : TypeId} {pos : String} {aft : Array Edge} {g : Option (Nat × Bool)} {x y : Operand} {w : World} {p q : Bool} (hx : look e x = some (.bool p)) (hy : look e y = some (.bool q)) (ht : P.underlying t = some .bool) : Y P e ⟨d, .binOp .neq t x y t', ty, pos, aft, g⟩ (.bool (!(p == q))) w w := fun ρ hρ => by
  simp [execOp, hρ _ _ hx, hρ _ _ hy, eqGuard_at_bool, run_neq_bool w t p q ht]
end Go.Proofs.Ytdapkfppcaaohaa
