/- Facts on the types and the functions of the translation, by program: each by the kernel. -/
import Derived.Test.YtbhepednfnmngaaRows
import Derived.Test.YtbhepednfnmngaaHeap
import Derived.KernelRfl
namespace Go.Proofs.Ytbhepednfnmngaa
open Go Go.RowKit
set_option maxRecDepth 100000
set_option linter.unusedSimpArgs false
theorem ti2 : TI Try.prog 2 (Value.int .i64 0) 1 8 := ti_mk (by kernel_rfl)
theorem ti3 : TI Try.prog 3 (Value.int .i64 0) 1 8 := ti_mk (by kernel_rfl)
theorem ti4 : TI Try.prog 4 (Value.bool false) 1 1 := ti_mk (by kernel_rfl)
theorem ti5 : TI Try.prog 5 (Value.int .u8 0) 1 1 := ti_mk (by kernel_rfl)
theorem ti6 : TI Try.prog 6 (Value.int .u8 0) 1 1 := ti_mk (by kernel_rfl)
theorem ti7 : TI Try.prog 7 (Value.agg #[Value.int .i64 0, Value.int .i64 0, Value.bool false, Value.int .u8 0]) 4 24 := ti_mk (by kernel_rfl)
theorem ti8 : TI Try.prog 8 (Value.agg #[Value.int .i64 0, Value.int .i64 0, Value.bool false, Value.int .u8 0]) 4 24 := ti_mk (by kernel_rfl)
theorem ti9 : TI Try.prog 9 (Value.string ⟨#[]⟩) 1 16 := ti_mk (by kernel_rfl)
theorem ti10 : TI Try.prog 10 (Value.string ⟨#[]⟩) 1 16 := ti_mk (by kernel_rfl)
theorem ti11 : TI Try.prog 11 (Value.string ⟨#[]⟩) 1 16 := ti_mk (by kernel_rfl)
theorem ti12 : TI Try.prog 12 (Value.int .u64 0) 1 8 := ti_mk (by kernel_rfl)
theorem ti13 : TI Try.prog 13 (Value.agg #[Value.string ⟨#[]⟩, Value.int .u64 0]) 2 24 := ti_mk (by kernel_rfl)
theorem ti14 : TI Try.prog 14 (Value.agg #[Value.string ⟨#[]⟩, Value.int .u64 0]) 2 24 := ti_mk (by kernel_rfl)
theorem ti15 : TI Try.prog 15 (Value.pointer none) 1 8 := ti_mk (by kernel_rfl)
theorem ti16 : TI Try.prog 16 (Value.pointer none) 1 8 := ti_mk (by kernel_rfl)
theorem ti17 : TI Try.prog 17 (Value.pointer none) 1 8 := ti_mk (by kernel_rfl)
theorem ti18 : TI Try.prog 18 (Value.agg #[Value.pointer none]) 1 8 := ti_mk (by kernel_rfl)
theorem ti19 : TI Try.prog 19 (Value.agg #[Value.pointer none]) 1 8 := ti_mk (by kernel_rfl)
theorem ti20 : TI Try.prog 20 (Value.nilIface) 1 16 := ti_mk (by kernel_rfl)
theorem ti21 : TI Try.prog 21 (Value.int .i32 0) 1 4 := ti_mk (by kernel_rfl)
theorem ti22 : TI Try.prog 22 (Value.pointer none) 1 8 := ti_mk (by kernel_rfl)
theorem ti23 : TI Try.prog 23 (Value.int .i64 0) 1 8 := ti_mk (by kernel_rfl)
theorem ti30 : TI Try.prog 30 (Value.int .u64 0) 1 8 := ti_mk (by kernel_rfl)
theorem ti32 : TI Try.prog 32 (Value.pointer none) 1 8 := ti_mk (by kernel_rfl)
theorem ti35 : TI Try.prog 35 (Value.agg #[Value.int .i64 0, Value.int .i64 0]) 2 16 := ti_mk (by kernel_rfl)
theorem ti36 : TI Try.prog 36 (Value.agg #[Value.int .i64 0, Value.int .i64 0]) 2 16 := ti_mk (by kernel_rfl)
theorem ti38 : TI Try.prog 38 (Value.agg #[Value.int .i64 0, Value.string ⟨#[]⟩]) 2 24 := ti_mk (by kernel_rfl)
theorem ti39 : TI Try.prog 39 (Value.agg #[Value.int .i64 0, Value.string ⟨#[]⟩]) 2 24 := ti_mk (by kernel_rfl)
theorem ti40 : TI Try.prog 40 (Value.slice none 0 0) 1 24 := ti_mk (by kernel_rfl)
theorem ti42 : TI Try.prog 42 (Value.agg #[Value.pointer none, Value.int .i64 0, Value.int .i64 0]) 3 24 := ti_mk (by kernel_rfl)
theorem ti43 : TI Try.prog 43 (Value.agg #[Value.pointer none, Value.int .i64 0, Value.int .i64 0]) 3 24 := ti_mk (by kernel_rfl)
theorem ti44 : TI Try.prog 44 (Value.agg #[Value.int .u64 0, Value.int .i64 0, Value.int .u64 0]) 3 24 := ti_mk (by kernel_rfl)
theorem ti45 : TI Try.prog 45 (Value.agg #[Value.int .u64 0, Value.int .i64 0, Value.int .u64 0]) 3 24 := ti_mk (by kernel_rfl)
theorem ti46 : TI Try.prog 46 (Value.agg #[Value.pointer none, Value.int .i64 0, Value.int .i64 0, Value.int .u64 0, Value.int .i64 0, Value.int .u64 0, Value.int .i64 0, Value.int .i64 0, Value.bool false]) 9 72 := ti_mk (by kernel_rfl)
theorem ti47 : TI Try.prog 47 (Value.agg #[Value.pointer none, Value.int .i64 0, Value.int .i64 0, Value.int .u64 0, Value.int .i64 0, Value.int .u64 0, Value.int .i64 0, Value.int .i64 0, Value.bool false]) 9 72 := ti_mk (by kernel_rfl)
theorem ti51 : TI Try.prog 51 (Value.slice none 0 0) 1 24 := ti_mk (by kernel_rfl)
theorem ti54 : TI Try.prog 54 (Value.agg #[Value.nilFunc]) 1 8 := ti_mk (by kernel_rfl)
theorem ti55 : TI Try.prog 55 (Value.agg #[Value.nilFunc]) 1 8 := ti_mk (by kernel_rfl)
theorem ti60 : TI Try.prog 60 (Value.slice none 0 0) 1 24 := ti_mk (by kernel_rfl)
theorem ti62 : TI Try.prog 62 (Value.nilFunc) 1 8 := ti_mk (by kernel_rfl)
theorem ti65 : TI Try.prog 65 (Value.slice none 0 0) 1 24 := ti_mk (by kernel_rfl)
theorem ti70 : TI Try.prog 70 (Value.map none) 1 8 := ti_mk (by kernel_rfl)
theorem ti71 : TI Try.prog 71 (Value.agg #[Value.slice none 0 0, Value.int .i64 0, Value.int .u8 0]) 3 40 := ti_mk (by kernel_rfl)
theorem ti72 : TI Try.prog 72 (Value.agg #[Value.slice none 0 0, Value.int .i64 0, Value.int .u8 0]) 3 40 := ti_mk (by kernel_rfl)
theorem ti73 : TI Try.prog 73 (Value.agg #[Value.int .i64 0, Value.slice none 0 0, Value.int .i64 0, Value.int .u8 0]) 4 48 := ti_mk (by kernel_rfl)
theorem ti74 : TI Try.prog 74 (Value.agg #[Value.int .i64 0, Value.slice none 0 0, Value.int .i64 0, Value.int .u8 0]) 4 48 := ti_mk (by kernel_rfl)
theorem ti75 : TI Try.prog 75 (Value.slice none 0 0) 1 24 := ti_mk (by kernel_rfl)
theorem ti76 : TI Try.prog 76 (Value.agg #[Value.int .i64 0, Value.slice none 0 0, Value.int .i64 0, Value.int .u8 0, Value.int .i64 0, Value.int .i64 0, Value.map none, Value.slice none 0 0, Value.bool false, Value.int .i64 0, Value.int .i64 0]) 11 120 := ti_mk (by kernel_rfl)
theorem ti77 : TI Try.prog 77 (Value.agg #[Value.int .i64 0, Value.slice none 0 0, Value.int .i64 0, Value.int .u8 0, Value.int .i64 0, Value.int .i64 0, Value.map none, Value.slice none 0 0, Value.bool false, Value.int .i64 0, Value.int .i64 0]) 11 120 := ti_mk (by kernel_rfl)
theorem ti82 : TI Try.prog 82 (Value.int .u32 0) 1 4 := ti_mk (by kernel_rfl)
theorem ti86 : TI Try.prog 86 (Value.slice none 0 0) 1 24 := ti_mk (by kernel_rfl)
theorem ti88 : TI Try.prog 88 (Value.map none) 1 8 := ti_mk (by kernel_rfl)
theorem ti91 : TI Try.prog 91 (Value.pointer none) 1 8 := ti_mk (by kernel_rfl)
theorem ti92 : TI Try.prog 92 (Value.agg #[Value.pointer none, Value.slice none 0 0]) 2 32 := ti_mk (by kernel_rfl)
theorem ti93 : TI Try.prog 93 (Value.agg #[Value.pointer none, Value.slice none 0 0]) 2 32 := ti_mk (by kernel_rfl)
theorem ti95 : TI Try.prog 95 (Value.nilIface) 1 16 := ti_mk (by kernel_rfl)
theorem ti96 : TI Try.prog 96 (Value.nilIface) 1 16 := ti_mk (by kernel_rfl)
theorem ti100 : TI Try.prog 100 (Value.agg #[Value.int .i64 0, Value.string ⟨#[]⟩]) 2 24 := ti_mk (by kernel_rfl)
theorem ti101 : TI Try.prog 101 (Value.agg #[Value.int .i64 0, Value.string ⟨#[]⟩]) 2 24 := ti_mk (by kernel_rfl)
theorem ti104 : TI Try.prog 104 (Value.pointer none) 1 8 := ti_mk (by kernel_rfl)
theorem ti106 : TI Try.prog 106 (Value.nilFunc) 1 8 := ti_mk (by kernel_rfl)
theorem ti108 : TI Try.prog 108 (Value.int .u64 0) 1 8 := ti_mk (by kernel_rfl)
theorem ti111 : TI Try.prog 111 (Value.pointer none) 1 8 := ti_mk (by kernel_rfl)
theorem ti117 : TI Try.prog 117 (Value.agg #[Value.pointer none, Value.pointer none, Value.pointer none, Value.string ⟨#[]⟩]) 4 40 := ti_mk (by kernel_rfl)
theorem ti118 : TI Try.prog 118 (Value.agg #[Value.pointer none, Value.pointer none, Value.pointer none, Value.string ⟨#[]⟩]) 4 40 := ti_mk (by kernel_rfl)
theorem ti119 : TI Try.prog 119 (Value.agg #[]) 0 0 := ti_mk (by kernel_rfl)
theorem ti120 : TI Try.prog 120 (Value.agg #[]) 0 0 := ti_mk (by kernel_rfl)
theorem ti121 : TI Try.prog 121 (Value.agg #[]) 0 0 := ti_mk (by kernel_rfl)
theorem ti122 : TI Try.prog 122 (Value.int .u8 0) 1 1 := ti_mk (by kernel_rfl)
theorem ti123 : TI Try.prog 123 (Value.int .u8 0) 1 1 := ti_mk (by kernel_rfl)
theorem ti125 : TI Try.prog 125 (Value.int .i32 0) 1 4 := ti_mk (by kernel_rfl)
theorem ti126 : TI Try.prog 126 (Value.int .i32 0) 1 4 := ti_mk (by kernel_rfl)
theorem ti127 : TI Try.prog 127 (Value.agg #[Value.int .u64 0, Value.int .u64 0, Value.int .u32 0, Value.int .u8 0, Value.int .u8 0, Value.int .u8 0, Value.int .u8 0, Value.nilFunc, Value.pointer none, Value.int .i32 0, Value.int .i32 0]) 11 48 := ti_mk (by kernel_rfl)
theorem ti128 : TI Try.prog 128 (Value.agg #[Value.int .u64 0, Value.int .u64 0, Value.int .u32 0, Value.int .u8 0, Value.int .u8 0, Value.int .u8 0, Value.int .u8 0, Value.nilFunc, Value.pointer none, Value.int .i32 0, Value.int .i32 0]) 11 48 := ti_mk (by kernel_rfl)
theorem fl7_0 : Fld Try.prog 7 0 0 1 false := ⟨_, _, _, _, _, Try.underlying7, rfl, rfl, ti2, Try.underlying2, rfl⟩
theorem fl7_1 : Fld Try.prog 7 1 1 1 false := ⟨_, _, _, _, _, Try.underlying7, rfl, rfl, ti3, Try.underlying3, rfl⟩
theorem fl7_2 : Fld Try.prog 7 2 2 1 false := ⟨_, _, _, _, _, Try.underlying7, rfl, rfl, ti4, Try.underlying4, rfl⟩
theorem fl7_3 : Fld Try.prog 7 3 3 1 false := ⟨_, _, _, _, _, Try.underlying7, rfl, rfl, ti6, Try.underlying6, rfl⟩
theorem sp7 : SP Try.prog 7 [(0, 1), (1, 1), (2, 1), (3, 1)] := ⟨_, Try.underlying7, fun _ => by simp [ti2.size, ti3.size, ti4.size, ti6.size, Sem.run_bind, Sem.run_pure]⟩
theorem fl8_0 : Fld Try.prog 8 0 0 1 false := ⟨_, _, _, _, _, Try.underlying8, rfl, rfl, ti2, Try.underlying2, rfl⟩
theorem fl8_1 : Fld Try.prog 8 1 1 1 false := ⟨_, _, _, _, _, Try.underlying8, rfl, rfl, ti3, Try.underlying3, rfl⟩
theorem fl8_2 : Fld Try.prog 8 2 2 1 false := ⟨_, _, _, _, _, Try.underlying8, rfl, rfl, ti4, Try.underlying4, rfl⟩
theorem fl8_3 : Fld Try.prog 8 3 3 1 false := ⟨_, _, _, _, _, Try.underlying8, rfl, rfl, ti6, Try.underlying6, rfl⟩
theorem sp8 : SP Try.prog 8 [(0, 1), (1, 1), (2, 1), (3, 1)] := ⟨_, Try.underlying8, fun _ => by simp [ti2.size, ti3.size, ti4.size, ti6.size, Sem.run_bind, Sem.run_pure]⟩
theorem fl13_0 : Fld Try.prog 13 0 0 1 false := ⟨_, _, _, _, _, Try.underlying13, rfl, rfl, ti9, Try.underlying9, rfl⟩
theorem fl13_1 : Fld Try.prog 13 1 1 1 false := ⟨_, _, _, _, _, Try.underlying13, rfl, rfl, ti12, Try.underlying12, rfl⟩
theorem sp13 : SP Try.prog 13 [(0, 1), (1, 1)] := ⟨_, Try.underlying13, fun _ => by simp [ti12.size, ti9.size, Sem.run_bind, Sem.run_pure]⟩
theorem fl14_0 : Fld Try.prog 14 0 0 1 false := ⟨_, _, _, _, _, Try.underlying14, rfl, rfl, ti9, Try.underlying9, rfl⟩
theorem fl14_1 : Fld Try.prog 14 1 1 1 false := ⟨_, _, _, _, _, Try.underlying14, rfl, rfl, ti12, Try.underlying12, rfl⟩
theorem sp14 : SP Try.prog 14 [(0, 1), (1, 1)] := ⟨_, Try.underlying14, fun _ => by simp [ti12.size, ti9.size, Sem.run_bind, Sem.run_pure]⟩
theorem fl18_0 : Fld Try.prog 18 0 0 1 false := ⟨_, _, _, _, _, Try.underlying18, rfl, rfl, ti17, Try.underlying17, rfl⟩
theorem sp18 : SP Try.prog 18 [(0, 1)] := ⟨_, Try.underlying18, fun _ => by simp [ti17.size, Sem.run_bind, Sem.run_pure]⟩
theorem fl19_0 : Fld Try.prog 19 0 0 1 false := ⟨_, _, _, _, _, Try.underlying19, rfl, rfl, ti17, Try.underlying17, rfl⟩
theorem sp19 : SP Try.prog 19 [(0, 1)] := ⟨_, Try.underlying19, fun _ => by simp [ti17.size, Sem.run_bind, Sem.run_pure]⟩
theorem fl35_0 : Fld Try.prog 35 0 0 1 false := ⟨_, _, _, _, _, Try.underlying35, rfl, rfl, ti3, Try.underlying3, rfl⟩
theorem fl35_1 : Fld Try.prog 35 1 1 1 false := ⟨_, _, _, _, _, Try.underlying35, rfl, rfl, ti3, Try.underlying3, rfl⟩
theorem sp35 : SP Try.prog 35 [(0, 1), (1, 1)] := ⟨_, Try.underlying35, fun _ => by simp [ti3.size, Sem.run_bind, Sem.run_pure]⟩
theorem fl36_0 : Fld Try.prog 36 0 0 1 false := ⟨_, _, _, _, _, Try.underlying36, rfl, rfl, ti3, Try.underlying3, rfl⟩
theorem fl36_1 : Fld Try.prog 36 1 1 1 false := ⟨_, _, _, _, _, Try.underlying36, rfl, rfl, ti3, Try.underlying3, rfl⟩
theorem sp36 : SP Try.prog 36 [(0, 1), (1, 1)] := ⟨_, Try.underlying36, fun _ => by simp [ti3.size, Sem.run_bind, Sem.run_pure]⟩
theorem fl38_0 : Fld Try.prog 38 0 0 1 false := ⟨_, _, _, _, _, Try.underlying38, rfl, rfl, ti3, Try.underlying3, rfl⟩
theorem fl38_1 : Fld Try.prog 38 1 1 1 false := ⟨_, _, _, _, _, Try.underlying38, rfl, rfl, ti9, Try.underlying9, rfl⟩
theorem sp38 : SP Try.prog 38 [(0, 1), (1, 1)] := ⟨_, Try.underlying38, fun _ => by simp [ti3.size, ti9.size, Sem.run_bind, Sem.run_pure]⟩
theorem fl39_0 : Fld Try.prog 39 0 0 1 false := ⟨_, _, _, _, _, Try.underlying39, rfl, rfl, ti3, Try.underlying3, rfl⟩
theorem fl39_1 : Fld Try.prog 39 1 1 1 false := ⟨_, _, _, _, _, Try.underlying39, rfl, rfl, ti9, Try.underlying9, rfl⟩
theorem sp39 : SP Try.prog 39 [(0, 1), (1, 1)] := ⟨_, Try.underlying39, fun _ => by simp [ti3.size, ti9.size, Sem.run_bind, Sem.run_pure]⟩
theorem fl42_0 : Fld Try.prog 42 0 0 1 false := ⟨_, _, _, _, _, Try.underlying42, rfl, rfl, ti32, Try.underlying32, rfl⟩
theorem fl42_1 : Fld Try.prog 42 1 1 1 false := ⟨_, _, _, _, _, Try.underlying42, rfl, rfl, ti3, Try.underlying3, rfl⟩
theorem fl42_2 : Fld Try.prog 42 2 2 1 false := ⟨_, _, _, _, _, Try.underlying42, rfl, rfl, ti3, Try.underlying3, rfl⟩
theorem sp42 : SP Try.prog 42 [(0, 1), (1, 1), (2, 1)] := ⟨_, Try.underlying42, fun _ => by simp [ti3.size, ti32.size, Sem.run_bind, Sem.run_pure]⟩
theorem fl43_0 : Fld Try.prog 43 0 0 1 false := ⟨_, _, _, _, _, Try.underlying43, rfl, rfl, ti32, Try.underlying32, rfl⟩
theorem fl43_1 : Fld Try.prog 43 1 1 1 false := ⟨_, _, _, _, _, Try.underlying43, rfl, rfl, ti3, Try.underlying3, rfl⟩
theorem fl43_2 : Fld Try.prog 43 2 2 1 false := ⟨_, _, _, _, _, Try.underlying43, rfl, rfl, ti3, Try.underlying3, rfl⟩
theorem sp43 : SP Try.prog 43 [(0, 1), (1, 1), (2, 1)] := ⟨_, Try.underlying43, fun _ => by simp [ti3.size, ti32.size, Sem.run_bind, Sem.run_pure]⟩
theorem fl44_0 : Fld Try.prog 44 0 0 1 false := ⟨_, _, _, _, _, Try.underlying44, rfl, rfl, ti30, Try.underlying30, rfl⟩
theorem fl44_1 : Fld Try.prog 44 1 1 1 false := ⟨_, _, _, _, _, Try.underlying44, rfl, rfl, ti3, Try.underlying3, rfl⟩
theorem fl44_2 : Fld Try.prog 44 2 2 1 false := ⟨_, _, _, _, _, Try.underlying44, rfl, rfl, ti30, Try.underlying30, rfl⟩
theorem sp44 : SP Try.prog 44 [(0, 1), (1, 1), (2, 1)] := ⟨_, Try.underlying44, fun _ => by simp [ti3.size, ti30.size, Sem.run_bind, Sem.run_pure]⟩
theorem fl45_0 : Fld Try.prog 45 0 0 1 false := ⟨_, _, _, _, _, Try.underlying45, rfl, rfl, ti30, Try.underlying30, rfl⟩
theorem fl45_1 : Fld Try.prog 45 1 1 1 false := ⟨_, _, _, _, _, Try.underlying45, rfl, rfl, ti3, Try.underlying3, rfl⟩
theorem fl45_2 : Fld Try.prog 45 2 2 1 false := ⟨_, _, _, _, _, Try.underlying45, rfl, rfl, ti30, Try.underlying30, rfl⟩
theorem sp45 : SP Try.prog 45 [(0, 1), (1, 1), (2, 1)] := ⟨_, Try.underlying45, fun _ => by simp [ti3.size, ti30.size, Sem.run_bind, Sem.run_pure]⟩
theorem fl46_0 : Fld Try.prog 46 0 0 3 true := ⟨_, _, _, _, _, Try.underlying46, rfl, rfl, ti43, Try.underlying43, rfl⟩
theorem fl46_1 : Fld Try.prog 46 1 3 3 true := ⟨_, _, _, _, _, Try.underlying46, rfl, rfl, ti45, Try.underlying45, rfl⟩
theorem fl46_2 : Fld Try.prog 46 2 6 1 false := ⟨_, _, _, _, _, Try.underlying46, rfl, rfl, ti3, Try.underlying3, rfl⟩
theorem fl46_3 : Fld Try.prog 46 3 7 1 false := ⟨_, _, _, _, _, Try.underlying46, rfl, rfl, ti3, Try.underlying3, rfl⟩
theorem fl46_4 : Fld Try.prog 46 4 8 1 false := ⟨_, _, _, _, _, Try.underlying46, rfl, rfl, ti4, Try.underlying4, rfl⟩
theorem sp46 : SP Try.prog 46 [(0, 3), (3, 3), (6, 1), (7, 1), (8, 1)] := ⟨_, Try.underlying46, fun _ => by simp [ti3.size, ti4.size, ti43.size, ti45.size, Sem.run_bind, Sem.run_pure]⟩
theorem fl47_0 : Fld Try.prog 47 0 0 3 true := ⟨_, _, _, _, _, Try.underlying47, rfl, rfl, ti43, Try.underlying43, rfl⟩
theorem fl47_1 : Fld Try.prog 47 1 3 3 true := ⟨_, _, _, _, _, Try.underlying47, rfl, rfl, ti45, Try.underlying45, rfl⟩
theorem fl47_2 : Fld Try.prog 47 2 6 1 false := ⟨_, _, _, _, _, Try.underlying47, rfl, rfl, ti3, Try.underlying3, rfl⟩
theorem fl47_3 : Fld Try.prog 47 3 7 1 false := ⟨_, _, _, _, _, Try.underlying47, rfl, rfl, ti3, Try.underlying3, rfl⟩
theorem fl47_4 : Fld Try.prog 47 4 8 1 false := ⟨_, _, _, _, _, Try.underlying47, rfl, rfl, ti4, Try.underlying4, rfl⟩
theorem sp47 : SP Try.prog 47 [(0, 3), (3, 3), (6, 1), (7, 1), (8, 1)] := ⟨_, Try.underlying47, fun _ => by simp [ti3.size, ti4.size, ti43.size, ti45.size, Sem.run_bind, Sem.run_pure]⟩
theorem fl54_0 : Fld Try.prog 54 0 0 1 false := ⟨_, _, _, _, _, Try.underlying54, rfl, rfl, ti_mk (z := Value.nilFunc) (s := 1) (bytes := 8) (by kernel_rfl), Try.underlying28, rfl⟩
theorem fl55_0 : Fld Try.prog 55 0 0 1 false := ⟨_, _, _, _, _, Try.underlying55, rfl, rfl, ti_mk (z := Value.nilFunc) (s := 1) (bytes := 8) (by kernel_rfl), Try.underlying28, rfl⟩
theorem fl71_0 : Fld Try.prog 71 0 0 1 false := ⟨_, _, _, _, _, Try.underlying71, rfl, rfl, ti60, Try.underlying60, rfl⟩
theorem fl71_1 : Fld Try.prog 71 1 1 1 false := ⟨_, _, _, _, _, Try.underlying71, rfl, rfl, ti3, Try.underlying3, rfl⟩
theorem fl71_2 : Fld Try.prog 71 2 2 1 false := ⟨_, _, _, _, _, Try.underlying71, rfl, rfl, ti5, Try.underlying5, rfl⟩
theorem sp71 : SP Try.prog 71 [(0, 1), (1, 1), (2, 1)] := ⟨_, Try.underlying71, fun _ => by simp [ti3.size, ti5.size, ti60.size, Sem.run_bind, Sem.run_pure]⟩
theorem fl72_0 : Fld Try.prog 72 0 0 1 false := ⟨_, _, _, _, _, Try.underlying72, rfl, rfl, ti60, Try.underlying60, rfl⟩
theorem fl72_1 : Fld Try.prog 72 1 1 1 false := ⟨_, _, _, _, _, Try.underlying72, rfl, rfl, ti3, Try.underlying3, rfl⟩
theorem fl72_2 : Fld Try.prog 72 2 2 1 false := ⟨_, _, _, _, _, Try.underlying72, rfl, rfl, ti5, Try.underlying5, rfl⟩
theorem sp72 : SP Try.prog 72 [(0, 1), (1, 1), (2, 1)] := ⟨_, Try.underlying72, fun _ => by simp [ti3.size, ti5.size, ti60.size, Sem.run_bind, Sem.run_pure]⟩
theorem fl73_0 : Fld Try.prog 73 0 0 1 false := ⟨_, _, _, _, _, Try.underlying73, rfl, rfl, ti3, Try.underlying3, rfl⟩
theorem fl73_1 : Fld Try.prog 73 1 1 3 true := ⟨_, _, _, _, _, Try.underlying73, rfl, rfl, ti72, Try.underlying72, rfl⟩
theorem sp73 : SP Try.prog 73 [(0, 1), (1, 3)] := ⟨_, Try.underlying73, fun _ => by simp [ti3.size, ti72.size, Sem.run_bind, Sem.run_pure]⟩
theorem fl74_0 : Fld Try.prog 74 0 0 1 false := ⟨_, _, _, _, _, Try.underlying74, rfl, rfl, ti3, Try.underlying3, rfl⟩
theorem fl74_1 : Fld Try.prog 74 1 1 3 true := ⟨_, _, _, _, _, Try.underlying74, rfl, rfl, ti72, Try.underlying72, rfl⟩
theorem sp74 : SP Try.prog 74 [(0, 1), (1, 3)] := ⟨_, Try.underlying74, fun _ => by simp [ti3.size, ti72.size, Sem.run_bind, Sem.run_pure]⟩
theorem fl76_0 : Fld Try.prog 76 0 0 4 true := ⟨_, _, _, _, _, Try.underlying76, rfl, rfl, ti74, Try.underlying74, rfl⟩
theorem fl76_1 : Fld Try.prog 76 1 4 2 true := ⟨_, _, _, _, _, Try.underlying76, rfl, rfl, ti36, Try.underlying36, rfl⟩
theorem fl76_2 : Fld Try.prog 76 2 6 1 false := ⟨_, _, _, _, _, Try.underlying76, rfl, rfl, ti70, Try.underlying70, rfl⟩
theorem fl76_3 : Fld Try.prog 76 3 7 1 false := ⟨_, _, _, _, _, Try.underlying76, rfl, rfl, ti75, Try.underlying75, rfl⟩
theorem fl76_4 : Fld Try.prog 76 4 8 1 false := ⟨_, _, _, _, _, Try.underlying76, rfl, rfl, ti4, Try.underlying4, rfl⟩
theorem fl76_5 : Fld Try.prog 76 5 9 1 false := ⟨_, _, _, _, _, Try.underlying76, rfl, rfl, ti3, Try.underlying3, rfl⟩
theorem fl76_6 : Fld Try.prog 76 6 10 1 false := ⟨_, _, _, _, _, Try.underlying76, rfl, rfl, ti3, Try.underlying3, rfl⟩
theorem sp76 : SP Try.prog 76 [(0, 4), (4, 2), (6, 1), (7, 1), (8, 1), (9, 1), (10, 1)] := ⟨_, Try.underlying76, fun _ => by simp [ti3.size, ti36.size, ti4.size, ti70.size, ti74.size, ti75.size, Sem.run_bind, Sem.run_pure]⟩
theorem fl77_0 : Fld Try.prog 77 0 0 4 true := ⟨_, _, _, _, _, Try.underlying77, rfl, rfl, ti74, Try.underlying74, rfl⟩
theorem fl77_1 : Fld Try.prog 77 1 4 2 true := ⟨_, _, _, _, _, Try.underlying77, rfl, rfl, ti36, Try.underlying36, rfl⟩
theorem fl77_2 : Fld Try.prog 77 2 6 1 false := ⟨_, _, _, _, _, Try.underlying77, rfl, rfl, ti70, Try.underlying70, rfl⟩
theorem fl77_3 : Fld Try.prog 77 3 7 1 false := ⟨_, _, _, _, _, Try.underlying77, rfl, rfl, ti75, Try.underlying75, rfl⟩
theorem fl77_4 : Fld Try.prog 77 4 8 1 false := ⟨_, _, _, _, _, Try.underlying77, rfl, rfl, ti4, Try.underlying4, rfl⟩
theorem fl77_5 : Fld Try.prog 77 5 9 1 false := ⟨_, _, _, _, _, Try.underlying77, rfl, rfl, ti3, Try.underlying3, rfl⟩
theorem fl77_6 : Fld Try.prog 77 6 10 1 false := ⟨_, _, _, _, _, Try.underlying77, rfl, rfl, ti3, Try.underlying3, rfl⟩
theorem sp77 : SP Try.prog 77 [(0, 4), (4, 2), (6, 1), (7, 1), (8, 1), (9, 1), (10, 1)] := ⟨_, Try.underlying77, fun _ => by simp [ti3.size, ti36.size, ti4.size, ti70.size, ti74.size, ti75.size, Sem.run_bind, Sem.run_pure]⟩
theorem fl92_0 : Fld Try.prog 92 0 0 1 false := ⟨_, _, _, _, _, Try.underlying92, rfl, rfl, ti91, Try.underlying91, rfl⟩
theorem fl92_1 : Fld Try.prog 92 1 1 1 false := ⟨_, _, _, _, _, Try.underlying92, rfl, rfl, ti86, Try.underlying86, rfl⟩
theorem sp92 : SP Try.prog 92 [(0, 1), (1, 1)] := ⟨_, Try.underlying92, fun _ => by simp [ti86.size, ti91.size, Sem.run_bind, Sem.run_pure]⟩
theorem fl93_0 : Fld Try.prog 93 0 0 1 false := ⟨_, _, _, _, _, Try.underlying93, rfl, rfl, ti91, Try.underlying91, rfl⟩
theorem fl93_1 : Fld Try.prog 93 1 1 1 false := ⟨_, _, _, _, _, Try.underlying93, rfl, rfl, ti86, Try.underlying86, rfl⟩
theorem sp93 : SP Try.prog 93 [(0, 1), (1, 1)] := ⟨_, Try.underlying93, fun _ => by simp [ti86.size, ti91.size, Sem.run_bind, Sem.run_pure]⟩
theorem fl100_0 : Fld Try.prog 100 0 0 1 false := ⟨_, _, _, _, _, Try.underlying100, rfl, rfl, ti3, Try.underlying3, rfl⟩
theorem fl100_1 : Fld Try.prog 100 1 1 1 false := ⟨_, _, _, _, _, Try.underlying100, rfl, rfl, ti9, Try.underlying9, rfl⟩
theorem sp100 : SP Try.prog 100 [(0, 1), (1, 1)] := ⟨_, Try.underlying100, fun _ => by simp [ti3.size, ti9.size, Sem.run_bind, Sem.run_pure]⟩
theorem fl101_0 : Fld Try.prog 101 0 0 1 false := ⟨_, _, _, _, _, Try.underlying101, rfl, rfl, ti3, Try.underlying3, rfl⟩
theorem fl101_1 : Fld Try.prog 101 1 1 1 false := ⟨_, _, _, _, _, Try.underlying101, rfl, rfl, ti9, Try.underlying9, rfl⟩
theorem sp101 : SP Try.prog 101 [(0, 1), (1, 1)] := ⟨_, Try.underlying101, fun _ => by simp [ti3.size, ti9.size, Sem.run_bind, Sem.run_pure]⟩
theorem fl117_0 : Fld Try.prog 117 0 0 1 false := ⟨_, _, _, _, _, Try.underlying117, rfl, rfl, ti17, Try.underlying17, rfl⟩
theorem fl117_1 : Fld Try.prog 117 1 1 1 false := ⟨_, _, _, _, _, Try.underlying117, rfl, rfl, ti17, Try.underlying17, rfl⟩
theorem fl117_2 : Fld Try.prog 117 2 2 1 false := ⟨_, _, _, _, _, Try.underlying117, rfl, rfl, ti17, Try.underlying17, rfl⟩
theorem fl117_3 : Fld Try.prog 117 3 3 1 false := ⟨_, _, _, _, _, Try.underlying117, rfl, rfl, ti9, Try.underlying9, rfl⟩
theorem sp117 : SP Try.prog 117 [(0, 1), (1, 1), (2, 1), (3, 1)] := ⟨_, Try.underlying117, fun _ => by simp [ti17.size, ti9.size, Sem.run_bind, Sem.run_pure]⟩
theorem fl118_0 : Fld Try.prog 118 0 0 1 false := ⟨_, _, _, _, _, Try.underlying118, rfl, rfl, ti17, Try.underlying17, rfl⟩
theorem fl118_1 : Fld Try.prog 118 1 1 1 false := ⟨_, _, _, _, _, Try.underlying118, rfl, rfl, ti17, Try.underlying17, rfl⟩
theorem fl118_2 : Fld Try.prog 118 2 2 1 false := ⟨_, _, _, _, _, Try.underlying118, rfl, rfl, ti17, Try.underlying17, rfl⟩
theorem fl118_3 : Fld Try.prog 118 3 3 1 false := ⟨_, _, _, _, _, Try.underlying118, rfl, rfl, ti9, Try.underlying9, rfl⟩
theorem sp118 : SP Try.prog 118 [(0, 1), (1, 1), (2, 1), (3, 1)] := ⟨_, Try.underlying118, fun _ => by simp [ti17.size, ti9.size, Sem.run_bind, Sem.run_pure]⟩
theorem fl120_0 : Fld Try.prog 120 0 0 0 true := ⟨_, _, _, _, _, Try.underlying120, rfl, rfl, ti119, Try.underlying119, rfl⟩
theorem sp120 : SP Try.prog 120 [(0, 0)] := ⟨_, Try.underlying120, fun _ => by simp [ti119.size, Sem.run_bind, Sem.run_pure]⟩
theorem fl121_0 : Fld Try.prog 121 0 0 0 true := ⟨_, _, _, _, _, Try.underlying121, rfl, rfl, ti119, Try.underlying119, rfl⟩
theorem sp121 : SP Try.prog 121 [(0, 0)] := ⟨_, Try.underlying121, fun _ => by simp [ti119.size, Sem.run_bind, Sem.run_pure]⟩
theorem fl127_0 : Fld Try.prog 127 0 0 1 false := ⟨_, _, _, _, _, Try.underlying127, rfl, rfl, ti12, Try.underlying12, rfl⟩
theorem fl127_1 : Fld Try.prog 127 1 1 1 false := ⟨_, _, _, _, _, Try.underlying127, rfl, rfl, ti12, Try.underlying12, rfl⟩
theorem fl127_2 : Fld Try.prog 127 2 2 1 false := ⟨_, _, _, _, _, Try.underlying127, rfl, rfl, ti82, Try.underlying82, rfl⟩
theorem fl127_3 : Fld Try.prog 127 3 3 1 false := ⟨_, _, _, _, _, Try.underlying127, rfl, rfl, ti122, Try.underlying122, rfl⟩
theorem fl127_4 : Fld Try.prog 127 4 4 1 false := ⟨_, _, _, _, _, Try.underlying127, rfl, rfl, ti5, Try.underlying5, rfl⟩
theorem fl127_5 : Fld Try.prog 127 5 5 1 false := ⟨_, _, _, _, _, Try.underlying127, rfl, rfl, ti5, Try.underlying5, rfl⟩
theorem fl127_6 : Fld Try.prog 127 6 6 1 false := ⟨_, _, _, _, _, Try.underlying127, rfl, rfl, ti123, Try.underlying123, rfl⟩
theorem fl127_7 : Fld Try.prog 127 7 7 1 false := ⟨_, _, _, _, _, Try.underlying127, rfl, rfl, ti_mk (z := Value.nilFunc) (s := 1) (bytes := 8) (by kernel_rfl), Try.underlying124, rfl⟩
theorem fl127_8 : Fld Try.prog 127 8 8 1 false := ⟨_, _, _, _, _, Try.underlying127, rfl, rfl, ti104, Try.underlying104, rfl⟩
theorem fl127_9 : Fld Try.prog 127 9 9 1 false := ⟨_, _, _, _, _, Try.underlying127, rfl, rfl, ti125, Try.underlying125, rfl⟩
theorem fl127_10 : Fld Try.prog 127 10 10 1 false := ⟨_, _, _, _, _, Try.underlying127, rfl, rfl, ti126, Try.underlying126, rfl⟩
theorem fl128_0 : Fld Try.prog 128 0 0 1 false := ⟨_, _, _, _, _, Try.underlying128, rfl, rfl, ti12, Try.underlying12, rfl⟩
theorem fl128_1 : Fld Try.prog 128 1 1 1 false := ⟨_, _, _, _, _, Try.underlying128, rfl, rfl, ti12, Try.underlying12, rfl⟩
theorem fl128_2 : Fld Try.prog 128 2 2 1 false := ⟨_, _, _, _, _, Try.underlying128, rfl, rfl, ti82, Try.underlying82, rfl⟩
theorem fl128_3 : Fld Try.prog 128 3 3 1 false := ⟨_, _, _, _, _, Try.underlying128, rfl, rfl, ti122, Try.underlying122, rfl⟩
theorem fl128_4 : Fld Try.prog 128 4 4 1 false := ⟨_, _, _, _, _, Try.underlying128, rfl, rfl, ti5, Try.underlying5, rfl⟩
theorem fl128_5 : Fld Try.prog 128 5 5 1 false := ⟨_, _, _, _, _, Try.underlying128, rfl, rfl, ti5, Try.underlying5, rfl⟩
theorem fl128_6 : Fld Try.prog 128 6 6 1 false := ⟨_, _, _, _, _, Try.underlying128, rfl, rfl, ti123, Try.underlying123, rfl⟩
theorem fl128_7 : Fld Try.prog 128 7 7 1 false := ⟨_, _, _, _, _, Try.underlying128, rfl, rfl, ti_mk (z := Value.nilFunc) (s := 1) (bytes := 8) (by kernel_rfl), Try.underlying124, rfl⟩
theorem fl128_8 : Fld Try.prog 128 8 8 1 false := ⟨_, _, _, _, _, Try.underlying128, rfl, rfl, ti104, Try.underlying104, rfl⟩
theorem fl128_9 : Fld Try.prog 128 9 9 1 false := ⟨_, _, _, _, _, Try.underlying128, rfl, rfl, ti125, Try.underlying125, rfl⟩
theorem fl128_10 : Fld Try.prog 128 10 10 1 false := ⟨_, _, _, _, _, Try.underlying128, rfl, rfl, ti126, Try.underlying126, rfl⟩
theorem cf2 : CF Try.prog 2 := ⟨_, Try.func2, by kernel_rfl, rfl⟩
theorem cf3 : CF Try.prog 3 := ⟨_, Try.func3, by kernel_rfl, rfl⟩
theorem cf4 : CF Try.prog 4 := ⟨_, Try.func4, by kernel_rfl, rfl⟩
theorem cf5 : CF Try.prog 5 := ⟨_, Try.func5, by kernel_rfl, rfl⟩
theorem cf6 : CF Try.prog 6 := ⟨_, Try.func6, by kernel_rfl, rfl⟩
theorem cf7 : CF Try.prog 7 := ⟨_, Try.func7, by kernel_rfl, rfl⟩
theorem cf8 : CF Try.prog 8 := ⟨_, Try.func8, by kernel_rfl, rfl⟩
theorem cf9 : CF Try.prog 9 := ⟨_, Try.func9, by kernel_rfl, rfl⟩
theorem cf10 : CF Try.prog 10 := ⟨_, Try.func10, by kernel_rfl, rfl⟩
theorem cf11 : CF Try.prog 11 := ⟨_, Try.func11, by kernel_rfl, rfl⟩
theorem cf12 : CF Try.prog 12 := ⟨_, Try.func12, by kernel_rfl, rfl⟩
theorem cf13 : CF Try.prog 13 := ⟨_, Try.func13, by kernel_rfl, rfl⟩
theorem cf14 : CF Try.prog 14 := ⟨_, Try.func14, by kernel_rfl, rfl⟩
theorem cf15 : CF Try.prog 15 := ⟨_, Try.func15, by kernel_rfl, rfl⟩
theorem cf16 : CF Try.prog 16 := ⟨_, Try.func16, by kernel_rfl, rfl⟩
theorem cf17 : CF Try.prog 17 := ⟨_, Try.func17, by kernel_rfl, rfl⟩
theorem cf18 : CF Try.prog 18 := ⟨_, Try.func18, by kernel_rfl, rfl⟩
theorem cf19 : CF Try.prog 19 := ⟨_, Try.func19, by kernel_rfl, rfl⟩
theorem cf20 : CF Try.prog 20 := ⟨_, Try.func20, by kernel_rfl, rfl⟩
theorem cf21 : CF Try.prog 21 := ⟨_, Try.func21, by kernel_rfl, rfl⟩
theorem cf22 : CF Try.prog 22 := ⟨_, Try.func22, by kernel_rfl, rfl⟩
theorem cf23 : CF Try.prog 23 := ⟨_, Try.func23, by kernel_rfl, rfl⟩
theorem cf24 : CF Try.prog 24 := ⟨_, Try.func24, by kernel_rfl, rfl⟩
theorem cf25 : CF Try.prog 25 := ⟨_, Try.func25, by kernel_rfl, rfl⟩
theorem cf26 : CF Try.prog 26 := ⟨_, Try.func26, by kernel_rfl, rfl⟩
theorem cf27 : CF Try.prog 27 := ⟨_, Try.func27, by kernel_rfl, rfl⟩
theorem cf28 : CF Try.prog 28 := ⟨_, Try.func28, by kernel_rfl, rfl⟩
theorem cf29 : CF Try.prog 29 := ⟨_, Try.func29, by kernel_rfl, rfl⟩
theorem cf30 : CF Try.prog 30 := ⟨_, Try.func30, by kernel_rfl, rfl⟩
theorem cf31 : CF Try.prog 31 := ⟨_, Try.func31, by kernel_rfl, rfl⟩
theorem cf32 : CF Try.prog 32 := ⟨_, Try.func32, by kernel_rfl, rfl⟩
theorem cf33 : CF Try.prog 33 := ⟨_, Try.func33, by kernel_rfl, rfl⟩
theorem cf34 : CF Try.prog 34 := ⟨_, Try.func34, by kernel_rfl, rfl⟩
theorem cf35 : CF Try.prog 35 := ⟨_, Try.func35, by kernel_rfl, rfl⟩
theorem cf36 : CF Try.prog 36 := ⟨_, Try.func36, by kernel_rfl, rfl⟩
theorem cf37 : CF Try.prog 37 := ⟨_, Try.func37, by kernel_rfl, rfl⟩
theorem cf38 : CF Try.prog 38 := ⟨_, Try.func38, by kernel_rfl, rfl⟩
theorem cf39 : CF Try.prog 39 := ⟨_, Try.func39, by kernel_rfl, rfl⟩
theorem cf40 : CF Try.prog 40 := ⟨_, Try.func40, by kernel_rfl, rfl⟩
theorem cf41 : CF Try.prog 41 := ⟨_, Try.func41, by kernel_rfl, rfl⟩
theorem cf42 : CF Try.prog 42 := ⟨_, Try.func42, by kernel_rfl, rfl⟩
theorem cf43 : CF Try.prog 43 := ⟨_, Try.func43, by kernel_rfl, rfl⟩
theorem cf44 : CF Try.prog 44 := ⟨_, Try.func44, by kernel_rfl, rfl⟩
theorem cf45 : CF Try.prog 45 := ⟨_, Try.func45, by kernel_rfl, rfl⟩
theorem cf46 : CF Try.prog 46 := ⟨_, Try.func46, by kernel_rfl, rfl⟩
theorem cf47 : CF Try.prog 47 := ⟨_, Try.func47, by kernel_rfl, rfl⟩
theorem cf48 : CF Try.prog 48 := ⟨_, Try.func48, by kernel_rfl, rfl⟩
theorem cf49 : CF Try.prog 49 := ⟨_, Try.func49, by kernel_rfl, rfl⟩
theorem cf50 : CF Try.prog 50 := ⟨_, Try.func50, by kernel_rfl, rfl⟩
theorem cf51 : CF Try.prog 51 := ⟨_, Try.func51, by kernel_rfl, rfl⟩
theorem cf52 : CF Try.prog 52 := ⟨_, Try.func52, by kernel_rfl, rfl⟩
theorem cf53 : CF Try.prog 53 := ⟨_, Try.func53, by kernel_rfl, rfl⟩
theorem cf54 : CF Try.prog 54 := ⟨_, Try.func54, by kernel_rfl, rfl⟩
theorem cf55 : CF Try.prog 55 := ⟨_, Try.func55, by kernel_rfl, rfl⟩
theorem cf56 : CF Try.prog 56 := ⟨_, Try.func56, by kernel_rfl, rfl⟩
theorem cf57 : CF Try.prog 57 := ⟨_, Try.func57, by kernel_rfl, rfl⟩
theorem cf58 : CF Try.prog 58 := ⟨_, Try.func58, by kernel_rfl, rfl⟩
theorem cf59 : CF Try.prog 59 := ⟨_, Try.func59, by kernel_rfl, rfl⟩
theorem cf60 : CF Try.prog 60 := ⟨_, Try.func60, by kernel_rfl, rfl⟩
theorem cf61 : CF Try.prog 61 := ⟨_, Try.func61, by kernel_rfl, rfl⟩
theorem cf62 : CF Try.prog 62 := ⟨_, Try.func62, by kernel_rfl, rfl⟩
theorem cf63 : CF Try.prog 63 := ⟨_, Try.func63, by kernel_rfl, rfl⟩
theorem cf64 : CF Try.prog 64 := ⟨_, Try.func64, by kernel_rfl, rfl⟩
theorem cf65 : CF Try.prog 65 := ⟨_, Try.func65, by kernel_rfl, rfl⟩
theorem cf66 : CF Try.prog 66 := ⟨_, Try.func66, by kernel_rfl, rfl⟩
theorem cf67 : CF Try.prog 67 := ⟨_, Try.func67, by kernel_rfl, rfl⟩
theorem cf70 : CF Try.prog 70 := ⟨_, Try.func70, by kernel_rfl, rfl⟩
theorem cf71 : CF Try.prog 71 := ⟨_, Try.func71, by kernel_rfl, rfl⟩
end Go.Proofs.Ytbhepednfnmngaa
