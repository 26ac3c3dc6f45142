/- What is known of library functions, as hooks: abi.NoEscape, bytealg.MakeNoZero, strings.Repeat; and of deferred functions that call recover(). -/
import Derived.Test.YtbbfibhllfiofaaGreatDoorEvMe
import Derived.Test.YtbbfibhllfiofaaGreatDoorEvRc
import Derived.Test.YtbbfibhllfiofaaGreatDoorEvRp
import Derived.Test.YtbbfibhllfiofaaGreatDoorShR
import Derived.KernelRfl
namespace Go.Proofs.YtbbfibhllfiofaaGreatDoor
open Go Go.Proofs Go.RowKit
set_option linter.all false
set_option maxRecDepth 100000
theorem repX : Builder.Extra Tryz.prog repA_ren where
  sizeBuilder := by kernel_rfl
  liesBuilder := by kernel_rfl
  t5 := repA.t5
  a5 := repA.a5
  z5 := repA.z5
  v5 := repA.v5
  infoByte := by kernel_rfl
  cellsByte := by kernel_rfl
  sizeByte := by kernel_rfl
  neB5 := by decide
theorem rep_at : RepeatAt Tryz.prog 118 :=
  ⟨⟨_, Tryz.func118, by kernel_rfl, by kernel_rfl⟩, fun s c w h1 h2 => Calls.mono (Any.strings_Repeat repA repX s c w h1 h2) fun _ _ ⟨he, hw⟩ =>
    ⟨_, he, rfl, ⟨hw.os, hw.tape, hw.output, hw.size, fun k hk _ => hw.block k hk⟩⟩⟩
noncomputable def hkBase : List (Nat × (List V → H → Res)) := [(243, xSame), (267, xMake 5), (118, xRepeat)]
theorem hkBase_ok : ∀ p ∈ hkBase, HkOk Tryz.prog 5 p.1 p.2 := by
  intro p hp
  simp only [hkBase, List.mem_cons, List.not_mem_nil, or_false] at hp
  rcases hp with rfl | rfl | rfl
  · exact xSame_ok ⟨_, Tryz.func243, by kernel_rfl, by kernel_rfl, by kernel_rfl, by kernel_rfl⟩
  · exact xMake_ok (ps := #[3]) (t := 52) ⟨_, Tryz.func267, by kernel_rfl, by kernel_rfl, by kernel_rfl, by kernel_rfl⟩ Tryz.underlying52
  · exact xRepeat_ok rep_at
noncomputable def hk0 : Hook Tryz.prog 5 := Hook.none _ _
noncomputable def hkDef : List (Nat × (List V → H → Res)) := [(76, enterRc Tryz.prog 5 hk0 100000 76), (81, enterRc Tryz.prog 5 hk0 100000 81), (86, enterRc Tryz.prog 5 hk0 100000 86)]
theorem hkDef_ok : ∀ p ∈ hkDef, DkOk Tryz.prog 5 p.1 p.2 := by
  intro p hp
  simp only [hkDef, List.mem_cons, List.not_mem_nil, or_false] at hp
  rcases hp with rfl | rfl | rfl
  · exact enterRc_ok
  · exact enterRc_ok
  · exact enterRc_ok
end Go.Proofs.YtbbfibhllfiofaaGreatDoor
