/- Checksums: the walk of the program's, and what the reckoner answers in its place. -/
import Derived.Test.YtkgiammeeckfbaaGreatTypes
import Derived.Test.YtkgiammeeckfbaaGreatSumsP
import Derived.Test.YtkgiammeeckfbaaGreatEvY
namespace Go.Proofs.YtkgiammeeckfbaaGreat
open Go Go.RowKit
set_option linter.unusedVariables false
set_option maxRecDepth 100000

abbrev U (n : Nat) : Value := .int .u32 (n : Int)

/-- What a byte makes of the checksum that the closure holds. -/
theorem take_ret (c : Nat) (b : UInt8) (p : Nat) (T : TypeId) (w : World) (hB : Blk w p [U c] T) (hc : c < 4294967296) :
    Ret Tryz.prog 196 [u8v b, ptr p 0] w fun v w' => v = .tuple #[] ∧ Blk w' p [U (Sums.byte c b)] T ∧ Kp (fun k => k = p) w w' := by
  have hb := b.toNat_lt
  have hx := Sums.xor_lt32 hc (show b.toNat < 4294967296 by omega)
  refine ret_of_run (e := [(0, _), (1, _)]) Tryz.func196 rfl Tryz.ntmps196 rfl rfl ?_
  refine run_seq ?_
  refine run_reg rfl ?_
  refine rVal rfl rfl (yld Tryz.underlying132 rfl rfl hB rfl) ?_
  refine rVal rfl rfl (ymv rfl) ?_
  refine rVal rfl rfl ((by first | exact ycvB rfl Tryz.underlying5 Tryz.underlying132 (by decide) | exact ycvSu32 rfl Tryz.underlying5 Tryz.underlying132 (by omega))) ?_
  refine rVal rfl rfl (yxo32 rfl rfl (by omega) (by omega)) ?_
  refine rEffP rfl (zst ti132 rfl rfl rfl hB (by simp)) ?_
  rintro w1 ⟨hB1, hk1⟩
  refine rEnd ?_
  refine run_seq ?_
  refine run_reg rfl ?_
  refine rVal rfl rfl (ymv rfl) ?_
  refine rEnd ?_
  refine run_block ?_
  refine run_loop (α := Nat × Nat) ((0, c ^^^ b.toNat)) (fun x => [(0, u8v b), (1, ptr p 0), (7, I (x.1 : Int))]) (fun x w' => x.1 ≤ 8 ∧ x.2 < 4294967296 ∧ Sums.iter Sums.bit (8 - x.1) x.2 = Sums.byte c b ∧ Blk w' p [U x.2] T ∧ Kp (fun k => k = p) w w') (fun x => 8 - x.1) (by repeat (first | exact Sub.nil | refine Sub.cons rfl ?_)) ?hI ?hround
  case hI => exact ⟨by omega, hx, rfl, hB1, hk1⟩
  case hround =>
    rintro ⟨k, d⟩ w2 ⟨hk8, hd, hs, hB2, hk2⟩ ih
    dsimp only
    refine run_seq ?_
    refine run_reg rfl ?_
    refine rVal rfl rfl (ylt rfl rfl) ?_
    refine rEnd ?_
    refine run_seq ?_
    refine run_if rfl (fun hlt => ?_) (fun hlt => ?_)
    · skip
      have hand : d &&& 1 < 4294967296 := Nat.lt_of_le_of_lt Nat.and_le_right (by omega)
      have hneg : (4294967296 - (d &&& 1)) % 4294967296 < 4294967296 := Nat.mod_lt _ (by omega)
      have hand2 : 2197175160 &&& ((4294967296 - (d &&& 1)) % 4294967296) < 4294967296 := Nat.lt_of_le_of_lt Nat.and_le_left (by omega)
      refine run_skip ?_
      refine run_seq ?_
      refine run_block ?_
      refine run_reg rfl ?_
      refine rVal rfl rfl (yld Tryz.underlying132 rfl rfl hB2 rfl) ?_
      refine rVal rfl rfl (ysrN 1 2 rfl rfl (by decide) rfl) ?_
      refine rVal rfl rfl (yld Tryz.underlying132 rfl rfl hB2 rfl) ?_
      refine rVal rfl rfl (yan32 rfl rfl (by omega) (by omega)) ?_
      refine rVal rfl rfl (yng32 rfl (by omega)) ?_
      refine rVal rfl rfl (yan32 rfl rfl (by omega) (by omega)) ?_
      refine rVal rfl rfl (yxo32 rfl rfl (by omega) (by omega)) ?_
      refine rEffP rfl (zst ti132 rfl rfl rfl hB2 (by simp)) ?_
      rintro w3 ⟨hB3, hk3⟩
      refine rEnd ?_
      refine run_inBlock ?_
      refine run_reg rfl ?_
      refine rVal rfl rfl (yad rfl rfl (by omega)) ?_
      refine rVal rfl rfl (ymv rfl) ?_
      refine rEnd ?_
      simp only [List.set_cons_zero] at hB3
      rw [Sums.bit_walk] at hB3
      refine (ih (k + 1, Sums.bit d) w3 ⟨by dsimp only at *; omega, Sums.bit_lt hd, ?_, hB3, hk2.trans hk3⟩ (by dsimp only at *; omega)).sub (by repeat (first | exact Sub.nil | refine Sub.cons rfl ?_))
      have h8 : 8 - k = (8 - (k + 1)) + 1 := by dsimp only at *; omega
      dsimp only at hs ⊢
      rw [h8] at hs
      exact hs
    · skip
      refine run_exit rfl ?_
      refine run_end Tryz.func196 rfl ?_
      have hk : k = 8 := by dsimp only at *; omega
      subst hk
      refine ⟨_, rfl, rfl, ?_, hk2⟩
      have : d = Sums.byte c b := hs
      rw [← this]
      exact hB2

theorem get_u8 {l : List UInt8} {rest : List Value} {k : Nat} (h : k < l.length) : (l.map u8v ++ rest)[0 + k * 1]? = some (u8v (l.getD k 0)) := by
  rw [Nat.zero_add, Nat.mul_one, List.getElem?_append_left (by simpa using h)]
  simp [h, List.getD]

theorem raw_take_succ (c : Nat) (l : List UInt8) (k : Nat) (h : k < l.length) : Sums.raw c (l.take (k + 1)) = Sums.byte (Sums.raw c (l.take k)) (l.getD k 0) := by
  rw [List.take_succ_eq_append_getElem h, Sums.raw_append]
  simp [Sums.raw, List.getD, h]

theorem on_ret (c : Nat) (l : List UInt8) (w : World) (hc : c < 4294967296) (hl : l.length ≤ 9223372036854775807) :
    Ret Tryz.prog 147 [U c, S l] w fun v w' => v = U (Sums.on c l) ∧ Ext w w' := by
  refine ret_of_run (e := [(0, _), (1, _)]) Tryz.func147 rfl Tryz.ntmps147 rfl rfl ?_
  refine run_seq ?_
  refine run_reg rfl ?_
  refine rValP rfl rfl (pbx rfl rfl) ?_
  rintro _ w1 ⟨b1, rfl, hb1, hx1, hB1⟩
  refine rVal rfl rfl (yas rfl) ?_
  refine rEnd ?_
  refine run_seq ?_
  refine run_reg rfl ?_
  refine rVal rfl rfl (yld Tryz.underlying132 rfl rfl hB1 rfl) ?_
  refine rVal rfl rfl (yco32 rfl (by omega)) ?_
  refine rEffP rfl (zst ti132 rfl rfl rfl hB1 (by simp)) ?_
  rintro w2 ⟨hB2, hk2⟩
  simp only [List.set_cons_zero] at hB2
  have hx2 : Ext w w2 := hx1.trans_new hk2 (fun i hi => by rw [hi, hb1]; exact Nat.le_refl _)
  refine rEnd ?_
  refine run_seq ?_
  refine run_reg rfl ?_
  refine rVal rfl rfl (ymf (first := []) (caps := [.tmp 2]) rfl rfl) ?_
  refine rVal rfl rfl (yas rfl) ?_
  refine rEnd ?_
  refine run_seq ?_
  refine run_seq ?_
  refine run_reg rfl ?_
  refine rVal rfl rfl (ymv rfl) ?_
  refine rValP rfl rfl (pS2B Tryz.underlying9 Tryz.underlying53 Tryz.underlying5 rfl) ?_
  rintro _ w3 ⟨b3, cap, rest, rfl, ⟨hb3, hx3, hB3⟩, hcap⟩
  refine rVal rfl rfl (yln Tryz.underlying53 rfl) ?_
  refine rVal rfl rfl (ymv rfl) ?_
  refine rEnd ?_
  refine run_block ?_
  have hne : b3 ≠ b1 := by have := hB2.lt; omega
  refine run_loop (α := Nat × Nat) ((0, Sums.neg c)) (fun x => [(2, ptr b1 0), (5, .func (.func 196) #[] #[ptr b1 0]), (12, .slice (some ⟨b3, 0, none⟩) l.length cap), (13, I (l.length : Int)), (14, I (x.1 : Int))]) (fun x w' => x.1 ≤ l.length ∧ x.2 < 4294967296 ∧ x.2 = Sums.raw (Sums.neg c) (l.take x.1) ∧ Blk w' b1 [U x.2] 132 ∧ Blk w' b3 (l.map u8v ++ rest) 5 ∧ Ext w w') (fun x => l.length - x.1) (by repeat (first | exact Sub.nil | refine Sub.cons rfl ?_)) ?hI ?hround
  case hI => exact ⟨by simp, Sums.neg_lt hc, rfl, hx3.blk hB2, hB3, hx2.trans hx3⟩
  case hround =>
    rintro ⟨k, d⟩ w4 ⟨hk, hd, hs, hB4, hB5, hx4⟩ ih
    dsimp only at hk hd hs hB4
    dsimp only
    refine run_seq ?_
    refine run_reg rfl ?_
    refine rVal rfl rfl (ylt rfl rfl) ?_
    refine rEnd ?_
    refine run_seq ?_
    refine run_if rfl (fun hlt => ?_) (fun hlt => ?_)
    · skip
      have hkl : k < l.length := by omega
      refine run_skip ?_
      refine run_seq ?_
      refine run_block ?_
      refine run_seq ?_
      refine run_reg rfl ?_
      refine rVal rfl rfl (yis Tryz.underlying53 ti5 rfl rfl (by omega)) ?_
      refine rVal rfl rfl (yld Tryz.underlying5 rfl rfl hB5 (get_u8 hkl)) ?_
      refine rVal rfl rfl (yas rfl) ?_
      refine rEnd ?_
      refine run_reg rfl ?_
      refine rVal rfl rfl (ymv rfl) ?_
      refine rVal rfl rfl (ymv rfl) ?_
      refine rCall rfl rfl (ycv' (args := [.tmp 19]) cf196 rfl rfl) (take_ret d (l.getD k 0) b1 _ w4 hB4 hd) ?_
      rintro _ w5 ⟨rfl, hB6, hk6⟩
      refine rEnd ?_
      refine run_inBlock ?_
      refine run_reg rfl ?_
      refine rVal rfl rfl (yad rfl rfl (by omega)) ?_
      refine rVal rfl rfl (ymv rfl) ?_
      refine rEnd ?_
      refine (ih (k + 1, Sums.byte d (l.getD k 0)) w5 ⟨hkl, Sums.byte_lt hd _, ?_, hB6, hk6.blk hB5 hne, hx4.trans_new hk6 (fun i hi => by rw [hi, hb1]; exact Nat.le_refl _)⟩ (by dsimp only; omega)).sub (by repeat (first | exact Sub.nil | refine Sub.cons rfl ?_))
      rw [raw_take_succ _ _ _ hkl, ← hs]
    · skip
      refine run_exit rfl ?_
      refine run_seq ?_
      refine run_reg rfl ?_
      refine rVal rfl rfl (yld Tryz.underlying132 rfl rfl hB4 rfl) ?_
      refine rVal rfl rfl (yco32 rfl (by omega)) ?_
      refine rVal rfl rfl (yas rfl) ?_
      refine rEnd ?_
      refine run_ret Tryz.func147 rfl ?_
      refine ⟨_, rfl, ?_, hx4⟩
      have hkk : k = l.length := by omega
      subst hkk
      rw [List.take_length] at hs
      show U (Sums.neg d) = _
      rw [hs]
      rfl

theorem crc_ret (l : List UInt8) (w : World) (hl : l.length ≤ 9223372036854775807) :
    Ret Tryz.prog 96 [S l] w fun v w' => v = U (Sums.crc l) ∧ Ext w w' := by
  refine ret_of_run (e := [(0, _)]) Tryz.func96 rfl Tryz.ntmps96 rfl rfl ?_
  refine run_seq ?_
  refine run_reg rfl ?_
  refine rVal rfl rfl (yas rfl) ?_
  refine rEnd ?_
  refine run_seq ?_
  refine run_reg rfl ?_
  refine rVal rfl rfl (ymv rfl) ?_
  refine rCall rfl rfl (yc (args := [.const (Value.int .u32 0), .tmp 3]) cf147 rfl) (on_ret 0 l _ (by omega) hl) ?_
  rintro _ w1 ⟨rfl, hx1⟩
  refine rVal rfl rfl (yas rfl) ?_
  refine rEnd ?_
  refine run_ret Tryz.func96 rfl ?_
  exact ⟨_, rfl, rfl, hx1⟩

/-! ### In the kernel -/
def crcT : Nat := 739192992287711479272199505450802174180944935565270117958735211195864883404034321072575759094604862722103638970562105654534965976895685875045062592379112792078985738769595739548904202597956689934399229134939183684703714920378025961387270778473281346239181994539903784708069763525514523240966634758967547723819948093640238732618841930738396489733218495472825776362786651876001733504161834172818020394346043168775838788836904094212573134772649703407841545716218812283123984658267516726659948613643534969466376019494666614718815429190684246327365394372519258139400530706807260825564948901732507176286259752944669944548605679086391305931301222988237278526118373278492307487107474296386730408839343753629123128283572704772544098648517013212824233746728729854273945055038163572363387039908578405517982904131040319505009390255243990278860523606265815895619710957563380635837315129012976704357344131429050367435482781212454439427280336740616644805562249867251859340971513883299426874200217165290071196282711253218164865174241416073419876796213293517950780480733835793334181716730049909888366296838117288969681076010175182486226749959458237712061794030512295298309798453151350168298336411933176330063767835252143862258384197256040876755067274410026075604127347481305827849130625987059819492849891529288490451730106428376839488665315100810248841715739596040091270955624355315201462555945279029196416991040143682248153287045556144390819759753283690710943841433520922330785319143598322120010359670046292912296136999474302691355293324886616216537430761212949134977443278613456733727644009057088654822989287437792990360527449046917776586498554113667460252688333953726837853077886002223252717428049737186417130969568838070377296274375688487884511950345697105344492065413654582468965021167618282726469469929715764674333614324035309623813703284835732759643444816186743644084768553800456975483023122915759126937036001171360984116527371042249105866775992680472790331893395027602898497596949565462107432141452181910127216554936352241472142685417685618824675396402282974391037184848625305334079832924861339728594832024687877422901193159812755254516361032103358958860399075665489958680801135040793967932263797765198140728704255468134266160630916650637156666977854355604551105352627939572551570066195951258251545213658746024110892771407706843609824354401912642345941057507434795836161327506684973593222243082074173577446865175872619707633030268690896528048779238513612740446475572226293760
def crcAt (i : Nat) : Nat := Nat.mod (Nat.div crcT (Nat.pow 2 (Nat.mul 32 i))) 4294967296
theorem crcAt_ok : ((List.range 256).all fun i => Nat.beq (crcAt i) (Sums.bits8 i)) = true := by kernel_rfl
theorem bit_even (k : Nat) : Sums.bit (2 * k) = k := by
  unfold Sums.bit
  rw [if_neg (by omega)]; omega
theorem bits8_high (k : Nat) : Sums.bits8 (k * 256) = k := by
  unfold Sums.bits8
  rw [show k * 256 = 2 * (2 * (2 * (2 * (2 * (2 * (2 * (2 * k))))))) by omega]
  simp only [bit_even]
theorem split256 (d : Nat) : d = (d / 256 * 256) ^^^ (d % 256) := by
  have h1 : (d / 256 * 256) = (d / 256) <<< 8 := by rw [Nat.shiftLeft_eq]
  have h2 : (d / 256) <<< 8 ||| d % 256 = (d / 256) <<< 8 + d % 256 := (Nat.shiftLeft_add_eq_or_of_lt (show d % 256 < 2 ^ 8 by omega) (d / 256)).symm
  rw [h1]
  apply Nat.eq_of_testBit_eq
  intro i
  have h3 : d = (d / 256) <<< 8 ||| d % 256 := by rw [h2, ← h1]; omega
  have h4 : d.testBit i = (((d / 256) <<< 8).testBit i || (d % 256).testBit i) := by
    conv => lhs; rw [h3]
    rw [Nat.testBit_or]
  rw [h4, Nat.testBit_xor, Nat.testBit_shiftLeft]
  by_cases hi : 8 ≤ i
  · have : (d % 256).testBit i = false := Nat.testBit_lt_two_pow (Nat.lt_of_lt_of_le (show d % 256 < 2 ^ 8 by omega) (Nat.pow_le_pow_right (by omega) hi))
    simp [this]
  · simp [hi]
theorem crcAt_eq {i : Nat} (h : i < 256) : crcAt i = Sums.bits8 i := by
  have := List.all_eq_true.1 crcAt_ok i (List.mem_range.2 h)
  exact Nat.eq_of_beq_eq_true this
theorem byte_tab (d : Nat) : Nat.xor (Nat.div d 256) (crcAt (Nat.mod d 256)) = Sums.bits8 d := by
  rw [crcAt_eq (show Nat.mod d 256 < 256 from Nat.mod_lt _ (by omega))]
  conv => rhs; rw [split256 d, Sums.bits8_xor, bits8_high]
  rfl
noncomputable def rawK (T : Nat → Nat) (n : Nat) : Nat → Nat → (Nat → Res) → Res := @Nat.rec (fun _ => Nat → Nat → (Nat → Res) → Res) (fun _ c k => k c) (fun _ ih s c k => fN (Nat.xor c (Nat.mod s 256)) fun d => fN (Nat.xor (Nat.div d 256) (T (Nat.mod d 256))) fun c => fN (Nat.div s 256) fun s => ih s c k) n
theorem rawK_eq {T : Nat → Nat} (hT : ∀ d, Nat.xor (Nat.div d 256) (T (Nat.mod d 256)) = Sums.bits8 d) : ∀ (n s c : Nat) (k : Nat → Res), rawK T n s c k = k (Sums.raw c (unp n s))
  | 0, _, _, _ => rfl
  | n + 1, s, c, k => by
    have hstep : rawK T (n + 1) s c k = fN (Nat.xor c (Nat.mod s 256)) fun d => fN (Nat.xor (Nat.div d 256) (T (Nat.mod d 256))) fun c => fN (Nat.div s 256) fun s => rawK T n s c k := rfl
    rw [hstep, fN_eq, fN_eq, fN_eq, hT, rawK_eq hT n]
    have hu : unp (n + 1) s = UInt8.ofNat (s % 256) :: unp n (s / 256) := rfl
    rw [hu]
    have hb : (UInt8.ofNat (s % 256)).toNat = s % 256 := by simp
    have hr : Sums.raw c (UInt8.ofNat (s % 256) :: unp n (s / 256)) = Sums.raw (Sums.bits8 (c ^^^ (UInt8.ofNat (s % 256)).toNat)) (unp n (s / 256)) := rfl
    rw [hr, hb]
    rfl
noncomputable def xOnT (T N : Nat → Nat) (args : List V) (h : H) : Res := match args with
  | [.int .u32 z, .str n s] => nat? z (fun c => cond (and (Nat.blt c 4294967296) (Nat.ble n 9223372036854775807)) (rawK T n s (N c) fun c => fN (N c) fun c => .ok (.int .u32 (.ofNat c)) h) (.bad 270 0)) (.bad 271 0)
  | _ => .bad 272 0
theorem res_cond {b : Bool} {p : Res} {n a : Nat} {v : V} {h' : H} (he : cond b p (.bad n a) = .ok v h') : b = true ∧ p = .ok v h' := by
  cases b with
  | false => cases he
  | true => exact ⟨rfl, he⟩
theorem xOnT_ok {G : Nat} {T N : Nat → Nat} (hT : ∀ d, Nat.xor (Nat.div d 256) (T (Nat.mod d 256)) = Sums.bits8 d) (hN : ∀ c, N c = Sums.neg c) : HkOk Tryz.prog G 147 (xOnT T N) := by
  intro args h v h' he φ w us r hc
  unfold xOnT at he
  split at he <;> try cases he
  rename_i z n s
  cases hc with
  | cons h1 hc =>
  cases hc with
  | cons h2 hc =>
  cases hc
  cases h1
  cases h2 with
  | str hs =>
  rw [nat?_eq] at he
  split at he <;> try cases he
  rename_i hz
  obtain ⟨c, rfl⟩ : ∃ m : Nat, z = m := ⟨z.toNat, (Int.toNat_of_nonneg hz).symm⟩
  simp only [Int.toNat_natCast] at he
  obtain ⟨hb, he⟩ := res_cond he
  rw [rawK_eq hT, fN_eq, hN, hN] at he
  have hon : Sums.neg (Sums.raw (Sums.neg c) (unp n s)) = Sums.on c (unp n s) := rfl
  rw [hon] at he
  obtain ⟨q, hq⟩ : ∃ q, Sums.on c (unp n s) = q := ⟨_, rfl⟩
  have hret := fun hc hl => on_ret c (unp n s) w hc hl
  rw [hq] at he hret
  cases he
  simp only [Bool.and_eq_true] at hb
  have k1 : c < 4294967296 := Nat.blt_eq.mp hb.1
  have k2 := Nat.le_of_ble_eq_true hb.2
  refine .inl ⟨cf147, (hret k1 (by rw [unp_length]; exact k2)).mono fun u w' ⟨hu, hx⟩ => ⟨φ, r.ext hx, ?_⟩⟩
  subst hu
  exact .int
noncomputable def xOn : List V → H → Res := xOnT crcAt (Nat.xor 4294967295)
theorem xor_is (m c : Nat) : Nat.xor m c = m ^^^ c := rfl
theorem xOn_ok {G : Nat} : HkOk Tryz.prog G 147 xOn := xOnT_ok byte_tab (xor_is 4294967295)
end Go.Proofs.YtkgiammeeckfbaaGreat
