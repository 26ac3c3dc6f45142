/- What is known of library functions and of checksums, as hooks: abi.NoEscape, bytealg.MakeNoZero, slices.overlaps, sums.On, strings.Repeat. -/
import Derived.Test.YtkgiammeeckfbaaGreatEvMe
import Derived.Test.YtkgiammeeckfbaaGreatCrc
import Derived.Test.YtkgiammeeckfbaaGreatEvRp
import Derived.Test.YtkgiammeeckfbaaGreatShR
import Derived.KernelRfl
namespace Go.Proofs.YtkgiammeeckfbaaGreat
open Go Go.Proofs Go.RowKit
set_option linter.all false
set_option maxRecDepth 100000
theorem repX : Builder.Extra Tryz.prog repA_ren where
  sizeBuilder := by kernel_rfl
  liesBuilder := by kernel_rfl
  t5 := repA.t5
  a5 := repA.a5
  z5 := repA.z5
  v5 := repA.v5
  infoByte := by kernel_rfl
  cellsByte := by kernel_rfl
  sizeByte := by kernel_rfl
  neB5 := by decide
theorem rep_at : RepeatAt Tryz.prog 215 :=
  ⟨⟨_, Tryz.func215, by kernel_rfl, by kernel_rfl⟩, fun s c w h1 h2 => Calls.mono (Any.strings_Repeat repA repX s c w h1 h2) fun _ _ ⟨he, hw⟩ =>
    ⟨_, he, rfl, ⟨hw.os, hw.tape, hw.output, hw.size, fun k hk _ => hw.block k hk⟩⟩⟩
noncomputable def hkBase : List (Nat × (List V → H → Res)) := [(253, xSame), (254, xMake 5), (221, xOver), (226, xOver), (147, xOn), (215, xRepeat)]
theorem hkBase_ok : ∀ p ∈ hkBase, HkOk Tryz.prog 1 p.1 p.2 := by
  intro p hp
  simp only [hkBase, List.mem_cons, List.not_mem_nil, or_false] at hp
  rcases hp with rfl | rfl | rfl | rfl | rfl | rfl
  · exact xSame_ok ⟨_, Tryz.func253, by kernel_rfl, by kernel_rfl, by kernel_rfl, by kernel_rfl⟩
  · exact xMake_ok (ps := #[3]) (t := 53) ⟨_, Tryz.func254, by kernel_rfl, by kernel_rfl, by kernel_rfl, by kernel_rfl⟩ Tryz.underlying53
  · exact xOver_ok (tS := 102) (tR := 4) (e := 9) (size := 1) ⟨_, Tryz.func221, by kernel_rfl, by kernel_rfl, by kernel_rfl, by kernel_rfl⟩ Tryz.underlying102 (fun _ => ti9.size)
  · exact xOver_ok (tS := 128) (tR := 4) (e := 132) (size := 1) ⟨_, Tryz.func226, by kernel_rfl, by kernel_rfl, by kernel_rfl, by kernel_rfl⟩ Tryz.underlying128 (fun _ => ti132.size)
  · exact xOn_ok
  · exact xRepeat_ok rep_at
noncomputable def hkDef : List (Nat × (List V → H → Res)) := []
theorem hkDef_ok : ∀ p ∈ hkDef, DkOk Tryz.prog 1 p.1 p.2 := fun p hp => by cases hp
end Go.Proofs.YtkgiammeeckfbaaGreat
