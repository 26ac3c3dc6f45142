/- Checksums and frames, in plain terms: numbers as natural numbers, texts as lists of bytes. It is of no program. -/
namespace Go.Proofs.YtkgiammeeckfbaaGreat.Sums

def bit (c : Nat) : Nat := if c % 2 = 1 then (c / 2) ^^^ 2197175160 else c / 2
def bits8 (c : Nat) : Nat := bit (bit (bit (bit (bit (bit (bit (bit c)))))))
def byte (c : Nat) (b : UInt8) : Nat := bits8 (c ^^^ b.toNat)
def raw (c : Nat) (l : List UInt8) : Nat := l.foldl byte c
def neg (c : Nat) : Nat := 4294967295 ^^^ c
def on (c : Nat) (l : List UInt8) : Nat := neg (raw (neg c) l)
def crc (l : List UInt8) : Nat := on 0 l
def num (l : List UInt8) : Nat := (l.getD 0 0).toNat * 16777216 + (l.getD 1 0).toNat * 65536 + (l.getD 2 0).toNat * 256 + (l.getD 3 0).toNat
theorem num_lt (l : List UInt8) : num l < 4294967296 := by
  have h0 := (l.getD 0 0).toNat_lt
  have h1 := (l.getD 1 0).toNat_lt
  have h2 := (l.getD 2 0).toNat_lt
  have h3 := (l.getD 3 0).toNat_lt
  unfold num
  omega
def be4 (n : Nat) : List UInt8 := [UInt8.ofNat (n / 16777216), UInt8.ofNat (n / 65536), UInt8.ofNat (n / 256), UInt8.ofNat n]
@[simp] theorem be4_length (n : Nat) : (be4 n).length = 4 := rfl
def head (k : UInt8) (p : List UInt8) : List UInt8 := k :: be4 p.length
def frame (k : UInt8) (p : List UInt8) : List UInt8 := head k p ++ be4 (crc (head k p ++ p)) ++ p

@[simp] theorem head_length (k : UInt8) (p : List UInt8) : (head k p).length = 5 := rfl
def unframe (s : List UInt8) : Option (UInt8 × List UInt8 × List UInt8) :=
  if s.length < 9 then none else
  if min 16777216 (s.length - 9) < num (s.drop 1) then none else
  if on (crc (s.take 5)) ((s.drop 9).take (num (s.drop 1))) ≠ num (s.drop 5) then none else
  some (s.getD 0 0, (s.drop 9).take (num (s.drop 1)), s.drop (9 + num (s.drop 1)))
/-- The walk's own form of a bit's step. -/
theorem bit_walk (c : Nat) : (c / 2) ^^^ (2197175160 &&& ((4294967296 - (c &&& 1)) % 4294967296)) = bit c := by
  have h1 : c &&& 1 = c % 2 := Nat.and_two_pow_sub_one_eq_mod c 1
  rw [h1]
  unfold bit
  by_cases h : c % 2 = 1
  · rw [if_pos h, h]
    congr 1
  · have h0 : c % 2 = 0 := by omega
    rw [if_neg h, h0]
    simp

theorem xor_lt32 {a b : Nat} (ha : a < 4294967296) (hb : b < 4294967296) : a ^^^ b < 4294967296 := Nat.xor_lt_two_pow (n := 32) ha hb
theorem bit_lt {c : Nat} (h : c < 4294967296) : bit c < 4294967296 := by
  unfold bit
  split
  · exact xor_lt32 (by omega) (by omega)
  · omega
theorem bits8_lt {c : Nat} (h : c < 4294967296) : bits8 c < 4294967296 := bit_lt (bit_lt (bit_lt (bit_lt (bit_lt (bit_lt (bit_lt (bit_lt h)))))))
theorem byte_lt {c : Nat} (h : c < 4294967296) (b : UInt8) : byte c b < 4294967296 := bits8_lt (xor_lt32 h (by have := b.toNat_lt; omega))
theorem raw_lt : ∀ (l : List UInt8) {c : Nat}, c < 4294967296 → raw c l < 4294967296
  | [], _, h => h
  | b :: l, _, h => raw_lt l (byte_lt h b)
theorem neg_lt {c : Nat} (h : c < 4294967296) : neg c < 4294967296 := xor_lt32 (by omega) h
theorem on_lt {c : Nat} (l : List UInt8) (h : c < 4294967296) : on c l < 4294967296 := neg_lt (raw_lt l (neg_lt h))
theorem crc_lt (l : List UInt8) : crc l < 4294967296 := on_lt l (by omega)
theorem xor_back (m c : Nat) : m ^^^ (m ^^^ c) = c := by rw [← Nat.xor_assoc, Nat.xor_self, Nat.zero_xor]
theorem neg_some : ∃ m, ∀ x, neg x = m ^^^ x := ⟨_, fun _ => rfl⟩
theorem neg_neg (c : Nat) : neg (neg c) = c := by
  obtain ⟨m, h⟩ := neg_some
  rw [h, h]
  exact xor_back _ c
theorem neg_xor (a b : Nat) : neg (a ^^^ b) = a ^^^ neg b := by
  obtain ⟨m, h⟩ := neg_some
  rw [h, h, ← Nat.xor_assoc, Nat.xor_comm m, Nat.xor_assoc]
theorem neg_eq (a : Nat) : neg a = a ^^^ neg 0 := by
  obtain ⟨m, h⟩ := neg_some
  rw [h, h, Nat.xor_zero, Nat.xor_comm]
theorem raw_append (c : Nat) (a b : List UInt8) : raw c (a ++ b) = raw (raw c a) b := List.foldl_append ..
theorem on_append (c : Nat) (a b : List UInt8) : on c (a ++ b) = on (on c a) b := by
  unfold on
  rw [raw_append, neg_neg]
theorem on_crc (a b : List UInt8) : on (crc a) b = crc (a ++ b) := by unfold crc; rw [on_append]

/-! ### The step is linear -/
theorem bit_xor (a b : Nat) : bit (a ^^^ b) = bit a ^^^ bit b := by
  have hd : (a ^^^ b) / 2 = a / 2 ^^^ b / 2 := Nat.xor_div_two_pow (n := 1)
  have hm : (a ^^^ b) % 2 = (a % 2 + b % 2) % 2 := by
    have h := Nat.xor_mod_two_pow (a := a) (b := b) (n := 1)
    simp only [Nat.pow_one] at h
    rw [h]
    rcases Nat.mod_two_eq_zero_or_one a with ha | ha <;> rcases Nat.mod_two_eq_zero_or_one b with hb | hb <;> rw [ha, hb] <;> rfl
  unfold bit
  rcases Nat.mod_two_eq_zero_or_one a with ha | ha <;> rcases Nat.mod_two_eq_zero_or_one b with hb | hb <;> simp only [hm, ha, hb, hd] <;> simp
  · rw [Nat.xor_assoc]
  · rw [Nat.xor_assoc, Nat.xor_assoc, Nat.xor_comm (b / 2)]
  · rw [Nat.xor_assoc, Nat.xor_comm 2197175160, Nat.xor_assoc, Nat.xor_self, Nat.xor_zero]
theorem bit_zero : bit 0 = 0 := by decide
theorem bits8_xor (a b : Nat) : bits8 (a ^^^ b) = bits8 a ^^^ bits8 b := by simp only [bits8, bit_xor]
theorem bits8_zero : bits8 0 = 0 := by decide
/-- The step can be undone, so it tells two numbers apart. -/
theorem bit_inj {c : Nat} (h : c < 4294967296) (hc : bit c = 0) : c = 0 := by
  unfold bit at hc
  split at hc
  · have h1 : c / 2 = 2197175160 := by
      have := congrArg (· ^^^ 2197175160) hc
      simpa [Nat.xor_assoc] using this
    omega
  · omega
theorem bits8_inj {c : Nat} (h : c < 4294967296) (hc : bits8 c = 0) : c = 0 := by
  unfold bits8 at hc
  have h1 := bit_lt h
  have h2 := bit_lt h1
  have h3 := bit_lt h2
  have h4 := bit_lt h3
  have h5 := bit_lt h4
  have h6 := bit_lt h5
  have h7 := bit_lt h6
  exact bit_inj h (bit_inj h1 (bit_inj h2 (bit_inj h3 (bit_inj h4 (bit_inj h5 (bit_inj h6 (bit_inj h7 hc)))))))
theorem bits8_ne {a b : Nat} (ha : a < 4294967296) (hb : b < 4294967296) (h : bits8 a = bits8 b) : a = b := by
  have h1 : bits8 (a ^^^ b) = 0 := by rw [bits8_xor, h, Nat.xor_self]
  have h2 := bits8_inj (xor_lt32 ha hb) h1
  have h3 := congrArg (· ^^^ b) h2
  simpa [Nat.xor_assoc] using h3
theorem byte_ne {a b : Nat} (ha : a < 4294967296) (hb : b < 4294967296) (c : UInt8) (h : byte a c = byte b c) : a = b := by
  have hc : c.toNat < 4294967296 := by have := c.toNat_lt; omega
  have h1 := bits8_ne (xor_lt32 ha hc) (xor_lt32 hb hc) h
  have := congrArg (· ^^^ c.toNat) h1
  simpa [Nat.xor_assoc] using this
theorem byte_ne' {a : Nat} (ha : a < 4294967296) (c d : UInt8) (h : byte a c = byte a d) : c = d := by
  have hc : c.toNat < 4294967296 := by have := c.toNat_lt; omega
  have hd : d.toNat < 4294967296 := by have := d.toNat_lt; omega
  have h1 := bits8_ne (xor_lt32 ha hc) (xor_lt32 ha hd) h
  have h2 := congrArg (a ^^^ ·) h1
  simp only [← Nat.xor_assoc, Nat.xor_self, Nat.zero_xor] at h2
  exact UInt8.toNat_inj.1 h2
theorem raw_ne : ∀ (l : List UInt8) {a b : Nat}, a < 4294967296 → b < 4294967296 → raw a l = raw b l → a = b
  | [], _, _, _, _, h => h
  | c :: l, _, _, ha, hb, h => byte_ne ha hb c (raw_ne l (byte_lt ha c) (byte_lt hb c) h)

/-! ### Linear maps, by their table -/
structure Lin (L : Nat → Nat) : Prop where
  xor : ∀ x y, L (x ^^^ y) = L x ^^^ L y
  lt : ∀ x, x < 4294967296 → L x < 4294967296
theorem Lin.zero {L : Nat → Nat} (h : Lin L) : L 0 = 0 := by
  have := h.xor 0 0
  simpa using this
theorem lin_bits8 : Lin bits8 := ⟨bits8_xor, fun _ => bits8_lt⟩
theorem Lin.comp {L M : Nat → Nat} (h : Lin L) (k : Lin M) : Lin (fun x => L (M x)) := ⟨fun x y => by rw [k.xor, h.xor], fun x hx => h.lt _ (k.lt _ hx)⟩

def iter (L : Nat → Nat) : Nat → Nat → Nat
  | 0, x => x
  | n + 1, x => iter L n (L x)
theorem iter_add (L : Nat → Nat) : ∀ (m n x : Nat), iter L (m + n) x = iter L n (iter L m x)
  | 0, n, x => by simp [iter]
  | m + 1, n, x => by
    have : m + 1 + n = (m + n) + 1 := by omega
    rw [this]
    simp only [iter]
    exact iter_add L m n (L x)
theorem iter_two (L : Nat → Nat) : ∀ (n x : Nat), iter (fun y => L (L y)) n x = iter L (2 * n) x
  | 0, _ => rfl
  | n + 1, x => by
    have : 2 * (n + 1) = (2 * n + 1) + 1 := by omega
    rw [this]
    simp only [iter]
    exact iter_two L n (L (L x))
theorem iter_lt {L : Nat → Nat} (h : Lin L) : ∀ (n : Nat) {x : Nat}, x < 4294967296 → iter L n x < 4294967296
  | 0, _, hx => hx
  | n + 1, _, hx => iter_lt h n (h.lt _ hx)

/-- Bit i of what is left. -/
theorem split_bit (n i : Nat) : n * 2 ^ i = (n / 2) * 2 ^ (i + 1) ^^^ (n % 2) * 2 ^ i := by
  have h1 : (n / 2) * 2 ^ (i + 1) ^^^ (n % 2) * 2 ^ i = ((n / 2) * 2 ^^^ n % 2) * 2 ^ i := by
    rw [Nat.pow_succ, Nat.mul_comm (2 ^ i) 2, ← Nat.mul_assoc]
    simp only [← Nat.shiftLeft_eq]
    rw [Nat.shiftLeft_xor_distrib]
  rw [h1]
  have h2 : (n / 2) * 2 ^^^ n % 2 = n := by
    apply Nat.eq_of_testBit_eq
    intro j
    rcases Nat.mod_two_eq_zero_or_one n with h | h
    · rw [h, Nat.xor_zero]
      congr 1
      omega
    · rw [h]
      cases j with
      | zero => simp [h]
      | succ j =>
        simp only [Nat.testBit_succ, Nat.xor_div_two]
        congr 1
        rw [Nat.mul_div_cancel _ (by omega)]
        simp
  rw [h2]

theorem lin_split {L : Nat → Nat} (h : Lin L) (n i : Nat) : L (n * 2 ^ i) = L ((n / 2) * 2 ^ (i + 1)) ^^^ (if n % 2 = 1 then L (2 ^ i) else 0) := by
  rw [split_bit n i, h.xor]
  congr 1
  rcases Nat.mod_two_eq_zero_or_one n with h' | h' <;> simp [h', h.zero]
/-- The walk's own form of 't[i] & -(n & 1)'. -/
theorem mask_walk (n x : Nat) (hx : x < 4294967296) : x &&& ((4294967296 - (n &&& 1)) % 4294967296) = if n % 2 = 1 then x else 0 := by
  have h1 : n &&& 1 = n % 2 := Nat.and_two_pow_sub_one_eq_mod n 1
  rw [h1]
  by_cases h : n % 2 = 1
  · rw [if_pos h, h]
    have : x &&& 4294967295 = x % 4294967296 := Nat.and_two_pow_sub_one_eq_mod x 32
    simp only [show (4294967296 - 1) % 4294967296 = 4294967295 from rfl]
    rw [this, Nat.mod_eq_of_lt hx]
  · have h0 : n % 2 = 0 := by omega
    rw [if_neg h, h0]
    simp

/-- Of any two numbers: gone on with n bytes 00. -/
def join (a b n : Nat) : Nat := iter bits8 n a ^^^ b

theorem raw_lin : ∀ (l : List UInt8) (a b : Nat), raw (a ^^^ b) l = iter bits8 l.length a ^^^ raw b l
  | [], a, b => rfl
  | c :: l, a, b => by
    have h1 : byte (a ^^^ b) c = bits8 a ^^^ byte b c := by
      unfold byte
      rw [Nat.xor_assoc, bits8_xor]
    show raw (byte (a ^^^ b) c) l = iter bits8 l.length (bits8 a) ^^^ raw (byte b c) l
    rw [h1, raw_lin l]
theorem join_crc (a b : List UInt8) : join (crc a) (crc b) b.length = crc (a ++ b) := by
  unfold join crc on
  rw [raw_append]
  generalize hr : raw (neg 0) a = r
  have h := raw_lin b (r ^^^ neg 0) (neg 0)
  rw [Nat.xor_assoc, Nat.xor_self, Nat.xor_zero] at h
  rw [h, neg_xor, neg_eq r]

/-! ### Frames -/
theorem num_be4 {n : Nat} (h : n < 4294967296) (t : List UInt8) : num (be4 n ++ t) = n := by
  simp [num, be4]
  omega
@[simp] theorem frame_length (k : UInt8) (p : List UInt8) : (frame k p).length = 9 + p.length := by simp [frame]; omega
theorem unframe_frame (k : UInt8) (p t : List UInt8) (h : p.length ≤ 16777216) : unframe (frame k p ++ t) = some (k, p, t) := by
  have e : frame k p ++ t = k :: (be4 p.length ++ (be4 (crc (head k p ++ p)) ++ (p ++ t))) := by simp [frame, head]
  have h1 : (frame k p ++ t).drop 1 = be4 p.length ++ (be4 (crc (head k p ++ p)) ++ (p ++ t)) := by rw [e]; rfl
  have h5 : (frame k p ++ t).drop 5 = be4 (crc (head k p ++ p)) ++ (p ++ t) := by rw [e]; rfl
  have h9 : (frame k p ++ t).drop 9 = p ++ t := by rw [e]; rfl
  have ht5 : (frame k p ++ t).take 5 = head k p := by rw [e]; rfl
  have n1 : num ((frame k p ++ t).drop 1) = p.length := by rw [h1]; exact num_be4 (by omega) _
  have n5 : num ((frame k p ++ t).drop 5) = crc (head k p ++ p) := by rw [h5]; exact num_be4 (crc_lt _) _
  have hl : (frame k p ++ t).length = 9 + p.length + t.length := by rw [List.length_append, frame_length]
  have hp : (p ++ t).take p.length = p := by simp
  have hd : (frame k p ++ t).drop (9 + p.length) = t := by rw [← List.drop_drop, h9]; simp
  unfold unframe
  rw [if_neg (by omega), n1, if_neg (by omega), h9, hp, ht5, n5, on_crc, if_neg (by simp), hd]
  rw [e]
  rfl

/-! ### A byte that is turned is told -/
theorem xor_ne {x d : UInt8} (h : d ≠ 0) : x ^^^ d ≠ x := fun e => h (by
  have h1 := congrArg UInt8.toNat e
  rw [UInt8.toNat_xor] at h1
  have h2 := congrArg (x.toNat ^^^ ·) h1
  simp only [← Nat.xor_assoc, Nat.xor_self, Nat.zero_xor] at h2
  exact UInt8.toNat_inj.1 h2)
theorem crc_ne (a b : List UInt8) {c d : UInt8} (h : c ≠ d) : crc (a ++ c :: b) ≠ crc (a ++ d :: b) := fun e => h (by
  have h1 : raw (neg 0) (a ++ c :: b) = raw (neg 0) (a ++ d :: b) := by
    have h2 := congrArg neg e
    unfold crc on at h2
    rw [neg_neg, neg_neg] at h2
    exact h2
  rw [raw_append, raw_append] at h1
  have hlt : raw (neg 0) a < 4294967296 := raw_lt a (neg_lt (by omega))
  have h2 : byte (raw (neg 0) a) c = byte (raw (neg 0) a) d := raw_ne b (byte_lt hlt c) (byte_lt hlt d) h1
  exact byte_ne' hlt c d h2)
theorem set_split (l : List UInt8) (i : Nat) (h : i < l.length) (x : UInt8) : l.set i x = l.take i ++ x :: l.drop (i + 1) := by
  rw [List.set_eq_take_append_cons_drop, if_pos h]
theorem get_split (l : List UInt8) (i : Nat) (h : i < l.length) : l = l.take i ++ l.getD i 0 :: l.drop (i + 1) := by
  rw [← set_split l i h]
  apply List.ext_getElem
  · simp
  · intro j h1 h2
    rw [List.getElem_set]
    split
    · rename_i hij; subst hij; simp [List.getD, h]
    · rfl
theorem num_eq (a b c d : UInt8) (t : List UInt8) : num (a :: b :: c :: d :: t) = a.toNat * 16777216 + b.toNat * 65536 + c.toNat * 256 + d.toNat := rfl

theorem frame_parts (k : UInt8) (p t : List UInt8) : frame k p ++ t = (k :: be4 p.length) ++ (be4 (crc (head k p ++ p)) ++ (p ++ t)) := by simp [frame, head]

theorem unframe_none {s : List UInt8} {n : Nat} (hn : num (s.drop 1) = n) (h : n ≤ 16777216 → 9 + n ≤ s.length → crc (s.take 5 ++ (s.drop 9).take n) ≠ num (s.drop 5)) : unframe s = none := by
  unfold unframe
  split
  · rfl
  · split
    · rfl
    · rw [hn] at *
      rw [if_pos]
      rw [on_crc]
      exact h (by omega) (by omega)

theorem num_drop (s : List UInt8) (j : Nat) : num (s.drop j) = (s.getD j 0).toNat * 16777216 + (s.getD (j + 1) 0).toNat * 65536 + (s.getD (j + 2) 0).toNat * 256 + (s.getD (j + 3) 0).toNat := by
  simp [num, List.getD, List.getElem?_drop]
theorem getD_take (s : List UInt8) (n i : Nat) (h : i < n) : (s.take n).getD i 0 = s.getD i 0 := by simp [List.getD, h]
theorem getD_set (s : List UInt8) (n i : Nat) (x : UInt8) (h : i ≠ n) : (s.set n x).getD i 0 = s.getD i 0 := by
  simp only [List.getD, List.getElem?_set]
  rw [if_neg (fun e => h e.symm)]
theorem getD_set_same (s : List UInt8) (n : Nat) (x : UInt8) (h : n < s.length) : (s.set n x).getD n 0 = x := by simp [List.getD, h]

theorem frame_len_num (k : UInt8) (p t : List UInt8) (h : p.length ≤ 16777216) : num ((frame k p ++ t).drop 1) = p.length := by
  have e : (frame k p ++ t).drop 1 = be4 p.length ++ (be4 (crc (head k p ++ p)) ++ (p ++ t)) := by rw [frame_parts]; rfl
  rw [e]
  exact num_be4 (by omega) _
theorem frame_crc_num (k : UInt8) (p t : List UInt8) : num ((frame k p ++ t).drop 5) = crc (head k p ++ p) := by
  have e : (frame k p ++ t).drop 5 = be4 (crc (head k p ++ p)) ++ (p ++ t) := by rw [frame_parts]; rfl
  rw [e]
  exact num_be4 (crc_lt _) _

theorem unframe_cut (k : UInt8) (p : List UInt8) (n : Nat) (hp : p.length ≤ 16777216) (h : n < (frame k p).length) : unframe ((frame k p).take n) = none := by
  rw [frame_length] at h
  by_cases h9 : n < 9
  · unfold unframe
    rw [if_pos (by simp; omega)]
  · have h1 : num (((frame k p).take n).drop 1) = p.length := by
      have h0 := frame_len_num k p [] hp
      rw [List.append_nil] at h0
      rw [num_drop, getD_take _ _ _ (by omega), getD_take _ _ _ (by omega), getD_take _ _ _ (by omega), getD_take _ _ _ (by omega), ← num_drop, h0]
    refine unframe_none h1 fun _ h2 => ?_
    simp at h2
    omega

/-- One byte turned: not one of the length's. -/
def turned (s : List UInt8) (i : Nat) (d : UInt8) : List UInt8 := s.set i (s.getD i 0 ^^^ d)
@[simp] theorem turned_length (s : List UInt8) (i : Nat) (d : UInt8) : (turned s i d).length = s.length := by simp [turned]

theorem unframe_turned (k : UInt8) (p t : List UInt8) (i : Nat) (d : UInt8) (hp : p.length ≤ 16777216) (hi : i = 0 ∨ (5 ≤ i ∧ i < 9 + p.length)) (hd : d ≠ 0) : unframe (turned (frame k p ++ t) i d) = none := by
  have hlen : (frame k p ++ t).length = 9 + p.length + t.length := by rw [List.length_append, frame_length]
  have hne : (frame k p ++ t).getD i 0 ^^^ d ≠ (frame k p ++ t).getD i 0 := xor_ne hd
  have h1 : num ((turned (frame k p ++ t) i d).drop 1) = p.length := by
    rw [num_drop]
    unfold turned
    rw [getD_set _ _ _ _ (by omega), getD_set _ _ _ _ (by omega), getD_set _ _ _ _ (by omega), getD_set _ _ _ _ (by omega), ← num_drop, frame_len_num k p t hp]
  refine unframe_none h1 fun _ _ => ?_
  have h5 := frame_crc_num k p t
  have e9 : (frame k p ++ t).drop 9 = p ++ t := by rw [frame_parts]; rfl
  have e5 : (frame k p ++ t).take 5 = head k p := by rw [frame_parts]; rfl
  have e59 : (frame k p ++ t).take 5 ++ ((frame k p ++ t).drop 9).take p.length = head k p ++ p := by rw [e5, e9]; simp
  rcases hi with rfl | ⟨hi5, hi9⟩
  · -- the kind
    have hnum : num ((turned (frame k p ++ t) 0 d).drop 5) = crc (head k p ++ p) := by
      rw [num_drop]
      unfold turned
      rw [getD_set _ _ _ _ (by omega), getD_set _ _ _ _ (by omega), getD_set _ _ _ _ (by omega), getD_set _ _ _ _ (by omega), ← num_drop, h5]
    rw [hnum]
    have g0 : (frame k p ++ t).getD 0 0 = k := by rw [frame_parts]; rfl
    have e1 : (turned (frame k p ++ t) 0 d).take 5 ++ ((turned (frame k p ++ t) 0 d).drop 9).take p.length = (k ^^^ d) :: (be4 p.length ++ p) := by
      unfold turned
      rw [g0, frame_parts]
      simp [be4]
    rw [e1]
    have := crc_ne [] (be4 p.length ++ p) (c := k ^^^ d) (d := k) (xor_ne hd)
    exact this
  · by_cases h9 : i < 9
    · -- the checksum
      have e1 : (turned (frame k p ++ t) i d).take 5 ++ ((turned (frame k p ++ t) i d).drop 9).take p.length = head k p ++ p := by
        rw [← e59]
        unfold turned
        rw [List.take_set_of_le hi5, List.drop_set_of_lt h9]
      rw [e1, ← h5, num_drop, num_drop]
      have g : ∀ j, ((turned (frame k p ++ t) i d).getD j 0).toNat < 256 := fun j => UInt8.toNat_lt _
      have g' : ∀ j, ((frame k p ++ t).getD j 0).toNat < 256 := fun j => UInt8.toNat_lt _
      have hs : ((turned (frame k p ++ t) i d).getD i 0).toNat ≠ ((frame k p ++ t).getD i 0).toNat := fun h => hne (by
        have := UInt8.toNat_inj.1 h
        unfold turned at this
        rw [getD_set_same _ _ _ (by omega)] at this
        exact this)
      have a5 := g 5; have a6 := g 6; have a7 := g 7; have a8 := g 8
      have b5 := g' 5; have b6 := g' 6; have b7 := g' 7; have b8 := g' 8
      intro e
      simp only [Nat.reduceAdd] at e
      clear h1 h5 e9 e5 e59 e1 hne
      have hc : i = 5 ∨ i = 6 ∨ i = 7 ∨ i = 8 := by omega
      rcases hc with rfl | rfl | rfl | rfl <;> exact hs (by omega)
    · -- the payload
      have hnum : num ((turned (frame k p ++ t) i d).drop 5) = crc (head k p ++ p) := by
        rw [num_drop]
        unfold turned
        rw [getD_set _ _ _ _ (by omega), getD_set _ _ _ _ (by omega), getD_set _ _ _ _ (by omega), getD_set _ _ _ _ (by omega), ← num_drop, h5]
      rw [hnum]
      have hj : i - 9 < p.length := by omega
      have gi : (frame k p ++ t).getD i 0 = p.getD (i - 9) 0 := by
        have : (frame k p ++ t).getD i 0 = ((frame k p ++ t).drop 9).getD (i - 9) 0 := by
          simp only [List.getD, List.getElem?_drop]
          rw [show 9 + (i - 9) = i from by omega]
        rw [this, e9]
        simp only [List.getD]
        rw [List.getElem?_append_left hj]
      have e1 : (turned (frame k p ++ t) i d).take 5 ++ ((turned (frame k p ++ t) i d).drop 9).take p.length = head k p ++ p.set (i - 9) (p.getD (i - 9) 0 ^^^ d) := by
        unfold turned
        rw [List.take_set_of_le (by omega), e5, List.drop_set, if_neg (by omega), e9, gi, List.set_append_left _ _ hj]
        simp
      have e2 : crc (head k p ++ p) = crc ((head k p ++ p.take (i - 9)) ++ p.getD (i - 9) 0 :: p.drop (i - 9 + 1)) := by rw [List.append_assoc, ← get_split p _ hj]
      rw [e1, set_split p _ hj, ← List.append_assoc, e2]
      exact crc_ne _ _ (xor_ne hd)
end Go.Proofs.YtkgiammeeckfbaaGreat.Sums
