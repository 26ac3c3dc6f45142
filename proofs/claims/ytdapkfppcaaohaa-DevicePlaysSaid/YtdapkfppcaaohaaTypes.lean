/- Facts on the types and the functions of the translation, by program: each by the kernel. -/
import Derived.Test.YtdapkfppcaaohaaRows
import Derived.Test.YtdapkfppcaaohaaHeap
import Derived.KernelRfl
namespace Go.Proofs.Ytdapkfppcaaohaa
open Go Go.RowKit
set_option maxRecDepth 100000
set_option linter.unusedSimpArgs false
theorem ti2 : TI Try.prog 2 (Value.int .i64 0) 1 8 := ti_mk (by kernel_rfl)
theorem ti3 : TI Try.prog 3 (Value.int .i64 0) 1 8 := ti_mk (by kernel_rfl)
theorem ti4 : TI Try.prog 4 (Value.bool false) 1 1 := ti_mk (by kernel_rfl)
theorem ti5 : TI Try.prog 5 (Value.int .u8 0) 1 1 := ti_mk (by kernel_rfl)
theorem ti6 : TI Try.prog 6 (Value.int .u8 0) 1 1 := ti_mk (by kernel_rfl)
theorem ti7 : TI Try.prog 7 (Value.agg #[Value.int .i64 0, Value.int .i64 0, Value.bool false, Value.int .u8 0]) 4 24 := ti_mk (by kernel_rfl)
theorem ti8 : TI Try.prog 8 (Value.agg #[Value.int .i64 0, Value.int .i64 0, Value.bool false, Value.int .u8 0]) 4 24 := ti_mk (by kernel_rfl)
theorem ti9 : TI Try.prog 9 (Value.string ⟨#[]⟩) 1 16 := ti_mk (by kernel_rfl)
theorem ti10 : TI Try.prog 10 (Value.string ⟨#[]⟩) 1 16 := ti_mk (by kernel_rfl)
theorem ti11 : TI Try.prog 11 (Value.string ⟨#[]⟩) 1 16 := ti_mk (by kernel_rfl)
theorem ti12 : TI Try.prog 12 (Value.int .u64 0) 1 8 := ti_mk (by kernel_rfl)
theorem ti13 : TI Try.prog 13 (Value.agg #[Value.string ⟨#[]⟩, Value.int .u64 0]) 2 24 := ti_mk (by kernel_rfl)
theorem ti14 : TI Try.prog 14 (Value.agg #[Value.string ⟨#[]⟩, Value.int .u64 0]) 2 24 := ti_mk (by kernel_rfl)
theorem ti15 : TI Try.prog 15 (Value.pointer none) 1 8 := ti_mk (by kernel_rfl)
theorem ti16 : TI Try.prog 16 (Value.pointer none) 1 8 := ti_mk (by kernel_rfl)
theorem ti17 : TI Try.prog 17 (Value.pointer none) 1 8 := ti_mk (by kernel_rfl)
theorem ti18 : TI Try.prog 18 (Value.agg #[Value.pointer none]) 1 8 := ti_mk (by kernel_rfl)
theorem ti19 : TI Try.prog 19 (Value.agg #[Value.pointer none]) 1 8 := ti_mk (by kernel_rfl)
theorem ti20 : TI Try.prog 20 (Value.nilIface) 1 16 := ti_mk (by kernel_rfl)
theorem ti21 : TI Try.prog 21 (Value.int .i32 0) 1 4 := ti_mk (by kernel_rfl)
theorem ti22 : TI Try.prog 22 (Value.int .u16 0) 1 2 := ti_mk (by kernel_rfl)
theorem ti23 : TI Try.prog 23 (Value.agg #[Value.int .u16 0, Value.int .u8 0, Value.int .u8 0]) 3 4 := ti_mk (by kernel_rfl)
theorem ti24 : TI Try.prog 24 (Value.agg #[Value.int .u16 0, Value.int .u8 0, Value.int .u8 0]) 3 4 := ti_mk (by kernel_rfl)
theorem ti25 : TI Try.prog 25 (Value.int .i64 0) 1 8 := ti_mk (by kernel_rfl)
theorem ti30 : TI Try.prog 30 (Value.slice none 0 0) 1 24 := ti_mk (by kernel_rfl)
theorem ti33 : TI Try.prog 33 (Value.int .u32 0) 1 4 := ti_mk (by kernel_rfl)
theorem ti34 : TI Try.prog 34 (Value.agg #[Value.int .u32 0, Value.int .u32 0, Value.int .i64 0]) 3 16 := ti_mk (by kernel_rfl)
theorem ti35 : TI Try.prog 35 (Value.agg #[Value.int .u32 0, Value.int .u32 0, Value.int .i64 0]) 3 16 := ti_mk (by kernel_rfl)
theorem ti42 : TI Try.prog 42 (Value.slice none 0 0) 1 24 := ti_mk (by kernel_rfl)
theorem ti43 : TI Try.prog 43 (Value.slice none 0 0) 1 24 := ti_mk (by kernel_rfl)
theorem ti44 : TI Try.prog 44 (Value.agg #[Value.slice none 0 0, Value.int .i64 0, Value.int .u8 0]) 3 40 := ti_mk (by kernel_rfl)
theorem ti45 : TI Try.prog 45 (Value.agg #[Value.slice none 0 0, Value.int .i64 0, Value.int .u8 0]) 3 40 := ti_mk (by kernel_rfl)
theorem ti46 : TI Try.prog 46 (Value.pointer none) 1 8 := ti_mk (by kernel_rfl)
theorem ti47 : TI Try.prog 47 (Value.slice none 0 0) 1 24 := ti_mk (by kernel_rfl)
theorem ti51 : TI Try.prog 51 (Value.agg #[Value.slice none 0 0, Value.int .i64 0, Value.int .u8 0]) 3 40 := ti_mk (by kernel_rfl)
theorem ti55 : TI Try.prog 55 (Value.agg #[Value.int .i64 0, Value.string ⟨#[]⟩]) 2 24 := ti_mk (by kernel_rfl)
theorem ti56 : TI Try.prog 56 (Value.agg #[Value.int .i64 0, Value.string ⟨#[]⟩]) 2 24 := ti_mk (by kernel_rfl)
theorem ti60 : TI Try.prog 60 (Value.map none) 1 8 := ti_mk (by kernel_rfl)
theorem ti62 : TI Try.prog 62 (Value.slice none 0 0) 1 24 := ti_mk (by kernel_rfl)
theorem ti63 : TI Try.prog 63 (Value.agg #[Value.int .i64 0, Value.int .i64 0, Value.int .i64 0, Value.int .i64 0, Value.string ⟨#[]⟩, Value.slice none 0 0, Value.int .i64 0, Value.int .u8 0]) 8 88 := ti_mk (by kernel_rfl)
theorem ti64 : TI Try.prog 64 (Value.agg #[Value.int .i64 0, Value.int .i64 0, Value.int .i64 0, Value.int .i64 0, Value.string ⟨#[]⟩, Value.slice none 0 0, Value.int .i64 0, Value.int .u8 0]) 8 88 := ti_mk (by kernel_rfl)
theorem ti67 : TI Try.prog 67 (Value.agg #[Value.int .i64 0, Value.int .i64 0]) 2 16 := ti_mk (by kernel_rfl)
theorem ti68 : TI Try.prog 68 (Value.agg #[Value.int .i64 0, Value.int .i64 0]) 2 16 := ti_mk (by kernel_rfl)
theorem ti74 : TI Try.prog 74 (Value.agg #[Value.int .i64 0, Value.int .i64 0]) 2 16 := ti_mk (by kernel_rfl)
theorem ti75 : TI Try.prog 75 (Value.agg #[Value.pointer none, Value.pointer none]) 2 16 := ti_mk (by kernel_rfl)
theorem ti76 : TI Try.prog 76 (Value.pointer none) 1 8 := ti_mk (by kernel_rfl)
theorem ti77 : TI Try.prog 77 (Value.agg #[Value.pointer none, Value.pointer none]) 2 16 := ti_mk (by kernel_rfl)
theorem ti78 : TI Try.prog 78 (Value.slice none 0 0) 1 24 := ti_mk (by kernel_rfl)
theorem ti84 : TI Try.prog 84 (Value.slice none 0 0) 1 24 := ti_mk (by kernel_rfl)
theorem ti85 : TI Try.prog 85 (Value.agg #[Value.int .i64 0, Value.int .i64 0, Value.slice none 0 0, Value.slice none 0 0, Value.int .i64 0, Value.slice none 0 0, Value.int .i64 0, Value.int .u8 0, Value.bool false, Value.int .i64 0, Value.int .i64 0]) 11 136 := ti_mk (by kernel_rfl)
theorem ti86 : TI Try.prog 86 (Value.agg #[Value.int .i64 0, Value.int .i64 0, Value.slice none 0 0, Value.slice none 0 0, Value.int .i64 0, Value.slice none 0 0, Value.int .i64 0, Value.int .u8 0, Value.bool false, Value.int .i64 0, Value.int .i64 0]) 11 136 := ti_mk (by kernel_rfl)
theorem ti94 : TI Try.prog 94 (Value.int .u64 0) 1 8 := ti_mk (by kernel_rfl)
theorem ti97 : TI Try.prog 97 (Value.agg #[Value.int .u32 0, Value.int .u32 0, Value.int .u32 0, Value.int .u32 0, Value.int .u32 0, Value.int .u32 0, Value.int .u32 0, Value.int .u32 0, Value.int .u32 0, Value.int .u32 0, Value.int .u32 0, Value.int .u32 0, Value.int .u32 0, Value.int .u32 0, Value.int .u32 0, Value.int .u32 0, Value.int .u32 0, Value.int .u32 0, Value.int .u32 0, Value.int .u32 0, Value.int .u32 0, Value.int .u32 0, Value.int .u32 0, Value.int .u32 0, Value.int .u32 0, Value.int .u32 0, Value.int .u32 0, Value.int .u32 0, Value.int .u32 0, Value.int .u32 0, Value.int .u32 0, Value.int .u32 0]) 32 128 := ti_mk (by kernel_rfl)
theorem ti98 : TI Try.prog 98 (Value.agg #[Value.int .u32 0, Value.int .u32 0, Value.int .u32 0, Value.int .u32 0, Value.int .u32 0, Value.int .u32 0, Value.int .u32 0, Value.int .u32 0, Value.int .u32 0, Value.int .u32 0, Value.int .u32 0, Value.int .u32 0, Value.int .u32 0, Value.int .u32 0, Value.int .u32 0, Value.int .u32 0, Value.int .u32 0, Value.int .u32 0, Value.int .u32 0, Value.int .u32 0, Value.int .u32 0, Value.int .u32 0, Value.int .u32 0, Value.int .u32 0, Value.int .u32 0, Value.int .u32 0, Value.int .u32 0, Value.int .u32 0, Value.int .u32 0, Value.int .u32 0, Value.int .u32 0, Value.int .u32 0]) 32 128 := ti_mk (by kernel_rfl)
theorem ti103 : TI Try.prog 103 (Value.agg #[Value.int .i64 0, Value.slice none 0 0, Value.int .i64 0, Value.int .u8 0]) 4 48 := ti_mk (by kernel_rfl)
theorem ti104 : TI Try.prog 104 (Value.agg #[Value.int .i64 0, Value.slice none 0 0, Value.int .i64 0, Value.int .u8 0]) 4 48 := ti_mk (by kernel_rfl)
theorem ti105 : TI Try.prog 105 (Value.map none) 1 8 := ti_mk (by kernel_rfl)
theorem ti106 : TI Try.prog 106 (Value.slice none 0 0) 1 24 := ti_mk (by kernel_rfl)
theorem ti107 : TI Try.prog 107 (Value.agg #[Value.int .i64 0, Value.slice none 0 0, Value.int .i64 0, Value.int .u8 0, Value.int .i64 0, Value.int .i64 0, Value.map none, Value.slice none 0 0, Value.bool false, Value.int .i64 0, Value.int .i64 0]) 11 120 := ti_mk (by kernel_rfl)
theorem ti108 : TI Try.prog 108 (Value.agg #[Value.int .i64 0, Value.slice none 0 0, Value.int .i64 0, Value.int .u8 0, Value.int .i64 0, Value.int .i64 0, Value.map none, Value.slice none 0 0, Value.bool false, Value.int .i64 0, Value.int .i64 0]) 11 120 := ti_mk (by kernel_rfl)
theorem ti113 : TI Try.prog 113 (Value.agg #[Value.int .i64 0, Value.string ⟨#[]⟩]) 2 24 := ti_mk (by kernel_rfl)
theorem ti114 : TI Try.prog 114 (Value.agg #[Value.int .i64 0, Value.string ⟨#[]⟩]) 2 24 := ti_mk (by kernel_rfl)
theorem ti120 : TI Try.prog 120 (Value.agg #[Value.int .u8 0, Value.int .u8 0, Value.int .u8 0, Value.int .u8 0]) 4 4 := ti_mk (by kernel_rfl)
theorem ti123 : TI Try.prog 123 (Value.nilFunc) 1 8 := ti_mk (by kernel_rfl)
theorem ti128 : TI Try.prog 128 (Value.agg #[Value.int .i64 0, Value.string ⟨#[]⟩]) 2 24 := ti_mk (by kernel_rfl)
theorem ti134 : TI Try.prog 134 (Value.agg #[Value.pointer none, Value.pointer none, Value.pointer none, Value.string ⟨#[]⟩]) 4 40 := ti_mk (by kernel_rfl)
theorem ti135 : TI Try.prog 135 (Value.agg #[Value.pointer none, Value.pointer none, Value.pointer none, Value.string ⟨#[]⟩]) 4 40 := ti_mk (by kernel_rfl)
theorem ti136 : TI Try.prog 136 (Value.agg #[]) 0 0 := ti_mk (by kernel_rfl)
theorem ti137 : TI Try.prog 137 (Value.agg #[]) 0 0 := ti_mk (by kernel_rfl)
theorem ti138 : TI Try.prog 138 (Value.agg #[]) 0 0 := ti_mk (by kernel_rfl)
theorem ti139 : TI Try.prog 139 (Value.int .u8 0) 1 1 := ti_mk (by kernel_rfl)
theorem ti140 : TI Try.prog 140 (Value.int .u8 0) 1 1 := ti_mk (by kernel_rfl)
theorem ti142 : TI Try.prog 142 (Value.pointer none) 1 8 := ti_mk (by kernel_rfl)
theorem ti143 : TI Try.prog 143 (Value.int .i32 0) 1 4 := ti_mk (by kernel_rfl)
theorem ti144 : TI Try.prog 144 (Value.int .i32 0) 1 4 := ti_mk (by kernel_rfl)
theorem ti145 : TI Try.prog 145 (Value.agg #[Value.int .u64 0, Value.int .u64 0, Value.int .u32 0, Value.int .u8 0, Value.int .u8 0, Value.int .u8 0, Value.int .u8 0, Value.nilFunc, Value.pointer none, Value.int .i32 0, Value.int .i32 0]) 11 48 := ti_mk (by kernel_rfl)
theorem ti146 : TI Try.prog 146 (Value.agg #[Value.int .u64 0, Value.int .u64 0, Value.int .u32 0, Value.int .u8 0, Value.int .u8 0, Value.int .u8 0, Value.int .u8 0, Value.nilFunc, Value.pointer none, Value.int .i32 0, Value.int .i32 0]) 11 48 := ti_mk (by kernel_rfl)
theorem ti147 : TI Try.prog 147 (Value.pointer none) 1 8 := ti_mk (by kernel_rfl)
theorem fl7_0 : Fld Try.prog 7 0 0 1 false := ⟨_, _, _, _, _, Try.underlying7, rfl, rfl, ti2, Try.underlying2, rfl⟩
theorem fl7_1 : Fld Try.prog 7 1 1 1 false := ⟨_, _, _, _, _, Try.underlying7, rfl, rfl, ti3, Try.underlying3, rfl⟩
theorem fl7_2 : Fld Try.prog 7 2 2 1 false := ⟨_, _, _, _, _, Try.underlying7, rfl, rfl, ti4, Try.underlying4, rfl⟩
theorem fl7_3 : Fld Try.prog 7 3 3 1 false := ⟨_, _, _, _, _, Try.underlying7, rfl, rfl, ti6, Try.underlying6, rfl⟩
theorem sp7 : SP Try.prog 7 [(0, 1), (1, 1), (2, 1), (3, 1)] := ⟨_, Try.underlying7, fun _ => by simp [ti2.size, ti3.size, ti4.size, ti6.size, Sem.run_bind, Sem.run_pure]⟩
theorem fl8_0 : Fld Try.prog 8 0 0 1 false := ⟨_, _, _, _, _, Try.underlying8, rfl, rfl, ti2, Try.underlying2, rfl⟩
theorem fl8_1 : Fld Try.prog 8 1 1 1 false := ⟨_, _, _, _, _, Try.underlying8, rfl, rfl, ti3, Try.underlying3, rfl⟩
theorem fl8_2 : Fld Try.prog 8 2 2 1 false := ⟨_, _, _, _, _, Try.underlying8, rfl, rfl, ti4, Try.underlying4, rfl⟩
theorem fl8_3 : Fld Try.prog 8 3 3 1 false := ⟨_, _, _, _, _, Try.underlying8, rfl, rfl, ti6, Try.underlying6, rfl⟩
theorem sp8 : SP Try.prog 8 [(0, 1), (1, 1), (2, 1), (3, 1)] := ⟨_, Try.underlying8, fun _ => by simp [ti2.size, ti3.size, ti4.size, ti6.size, Sem.run_bind, Sem.run_pure]⟩
theorem fl13_0 : Fld Try.prog 13 0 0 1 false := ⟨_, _, _, _, _, Try.underlying13, rfl, rfl, ti9, Try.underlying9, rfl⟩
theorem fl13_1 : Fld Try.prog 13 1 1 1 false := ⟨_, _, _, _, _, Try.underlying13, rfl, rfl, ti12, Try.underlying12, rfl⟩
theorem sp13 : SP Try.prog 13 [(0, 1), (1, 1)] := ⟨_, Try.underlying13, fun _ => by simp [ti12.size, ti9.size, Sem.run_bind, Sem.run_pure]⟩
theorem fl14_0 : Fld Try.prog 14 0 0 1 false := ⟨_, _, _, _, _, Try.underlying14, rfl, rfl, ti9, Try.underlying9, rfl⟩
theorem fl14_1 : Fld Try.prog 14 1 1 1 false := ⟨_, _, _, _, _, Try.underlying14, rfl, rfl, ti12, Try.underlying12, rfl⟩
theorem sp14 : SP Try.prog 14 [(0, 1), (1, 1)] := ⟨_, Try.underlying14, fun _ => by simp [ti12.size, ti9.size, Sem.run_bind, Sem.run_pure]⟩
theorem fl18_0 : Fld Try.prog 18 0 0 1 false := ⟨_, _, _, _, _, Try.underlying18, rfl, rfl, ti17, Try.underlying17, rfl⟩
theorem sp18 : SP Try.prog 18 [(0, 1)] := ⟨_, Try.underlying18, fun _ => by simp [ti17.size, Sem.run_bind, Sem.run_pure]⟩
theorem fl19_0 : Fld Try.prog 19 0 0 1 false := ⟨_, _, _, _, _, Try.underlying19, rfl, rfl, ti17, Try.underlying17, rfl⟩
theorem sp19 : SP Try.prog 19 [(0, 1)] := ⟨_, Try.underlying19, fun _ => by simp [ti17.size, Sem.run_bind, Sem.run_pure]⟩
theorem fl23_0 : Fld Try.prog 23 0 0 1 false := ⟨_, _, _, _, _, Try.underlying23, rfl, rfl, ti22, Try.underlying22, rfl⟩
theorem fl23_1 : Fld Try.prog 23 1 1 1 false := ⟨_, _, _, _, _, Try.underlying23, rfl, rfl, ti5, Try.underlying5, rfl⟩
theorem fl23_2 : Fld Try.prog 23 2 2 1 false := ⟨_, _, _, _, _, Try.underlying23, rfl, rfl, ti5, Try.underlying5, rfl⟩
theorem sp23 : SP Try.prog 23 [(0, 1), (1, 1), (2, 1)] := ⟨_, Try.underlying23, fun _ => by simp [ti22.size, ti5.size, Sem.run_bind, Sem.run_pure]⟩
theorem fl24_0 : Fld Try.prog 24 0 0 1 false := ⟨_, _, _, _, _, Try.underlying24, rfl, rfl, ti22, Try.underlying22, rfl⟩
theorem fl24_1 : Fld Try.prog 24 1 1 1 false := ⟨_, _, _, _, _, Try.underlying24, rfl, rfl, ti5, Try.underlying5, rfl⟩
theorem fl24_2 : Fld Try.prog 24 2 2 1 false := ⟨_, _, _, _, _, Try.underlying24, rfl, rfl, ti5, Try.underlying5, rfl⟩
theorem sp24 : SP Try.prog 24 [(0, 1), (1, 1), (2, 1)] := ⟨_, Try.underlying24, fun _ => by simp [ti22.size, ti5.size, Sem.run_bind, Sem.run_pure]⟩
theorem fl34_0 : Fld Try.prog 34 0 0 1 false := ⟨_, _, _, _, _, Try.underlying34, rfl, rfl, ti33, Try.underlying33, rfl⟩
theorem fl34_1 : Fld Try.prog 34 1 1 1 false := ⟨_, _, _, _, _, Try.underlying34, rfl, rfl, ti33, Try.underlying33, rfl⟩
theorem fl34_2 : Fld Try.prog 34 2 2 1 false := ⟨_, _, _, _, _, Try.underlying34, rfl, rfl, ti3, Try.underlying3, rfl⟩
theorem sp34 : SP Try.prog 34 [(0, 1), (1, 1), (2, 1)] := ⟨_, Try.underlying34, fun _ => by simp [ti3.size, ti33.size, Sem.run_bind, Sem.run_pure]⟩
theorem fl35_0 : Fld Try.prog 35 0 0 1 false := ⟨_, _, _, _, _, Try.underlying35, rfl, rfl, ti33, Try.underlying33, rfl⟩
theorem fl35_1 : Fld Try.prog 35 1 1 1 false := ⟨_, _, _, _, _, Try.underlying35, rfl, rfl, ti33, Try.underlying33, rfl⟩
theorem fl35_2 : Fld Try.prog 35 2 2 1 false := ⟨_, _, _, _, _, Try.underlying35, rfl, rfl, ti3, Try.underlying3, rfl⟩
theorem sp35 : SP Try.prog 35 [(0, 1), (1, 1), (2, 1)] := ⟨_, Try.underlying35, fun _ => by simp [ti3.size, ti33.size, Sem.run_bind, Sem.run_pure]⟩
theorem fl44_0 : Fld Try.prog 44 0 0 1 false := ⟨_, _, _, _, _, Try.underlying44, rfl, rfl, ti43, Try.underlying43, rfl⟩
theorem fl44_1 : Fld Try.prog 44 1 1 1 false := ⟨_, _, _, _, _, Try.underlying44, rfl, rfl, ti3, Try.underlying3, rfl⟩
theorem fl44_2 : Fld Try.prog 44 2 2 1 false := ⟨_, _, _, _, _, Try.underlying44, rfl, rfl, ti5, Try.underlying5, rfl⟩
theorem sp44 : SP Try.prog 44 [(0, 1), (1, 1), (2, 1)] := ⟨_, Try.underlying44, fun _ => by simp [ti3.size, ti43.size, ti5.size, Sem.run_bind, Sem.run_pure]⟩
theorem fl45_0 : Fld Try.prog 45 0 0 1 false := ⟨_, _, _, _, _, Try.underlying45, rfl, rfl, ti43, Try.underlying43, rfl⟩
theorem fl45_1 : Fld Try.prog 45 1 1 1 false := ⟨_, _, _, _, _, Try.underlying45, rfl, rfl, ti3, Try.underlying3, rfl⟩
theorem fl45_2 : Fld Try.prog 45 2 2 1 false := ⟨_, _, _, _, _, Try.underlying45, rfl, rfl, ti5, Try.underlying5, rfl⟩
theorem sp45 : SP Try.prog 45 [(0, 1), (1, 1), (2, 1)] := ⟨_, Try.underlying45, fun _ => by simp [ti3.size, ti43.size, ti5.size, Sem.run_bind, Sem.run_pure]⟩
theorem fl51_0 : Fld Try.prog 51 0 0 1 false := ⟨_, _, _, _, _, Try.underlying51, rfl, rfl, ti43, Try.underlying43, rfl⟩
theorem fl51_1 : Fld Try.prog 51 1 1 1 false := ⟨_, _, _, _, _, Try.underlying51, rfl, rfl, ti3, Try.underlying3, rfl⟩
theorem fl51_2 : Fld Try.prog 51 2 2 1 false := ⟨_, _, _, _, _, Try.underlying51, rfl, rfl, ti5, Try.underlying5, rfl⟩
theorem sp51 : SP Try.prog 51 [(0, 1), (1, 1), (2, 1)] := ⟨_, Try.underlying51, fun _ => by simp [ti3.size, ti43.size, ti5.size, Sem.run_bind, Sem.run_pure]⟩
theorem fl55_0 : Fld Try.prog 55 0 0 1 false := ⟨_, _, _, _, _, Try.underlying55, rfl, rfl, ti3, Try.underlying3, rfl⟩
theorem fl55_1 : Fld Try.prog 55 1 1 1 false := ⟨_, _, _, _, _, Try.underlying55, rfl, rfl, ti9, Try.underlying9, rfl⟩
theorem sp55 : SP Try.prog 55 [(0, 1), (1, 1)] := ⟨_, Try.underlying55, fun _ => by simp [ti3.size, ti9.size, Sem.run_bind, Sem.run_pure]⟩
theorem fl56_0 : Fld Try.prog 56 0 0 1 false := ⟨_, _, _, _, _, Try.underlying56, rfl, rfl, ti3, Try.underlying3, rfl⟩
theorem fl56_1 : Fld Try.prog 56 1 1 1 false := ⟨_, _, _, _, _, Try.underlying56, rfl, rfl, ti9, Try.underlying9, rfl⟩
theorem sp56 : SP Try.prog 56 [(0, 1), (1, 1)] := ⟨_, Try.underlying56, fun _ => by simp [ti3.size, ti9.size, Sem.run_bind, Sem.run_pure]⟩
theorem fl63_0 : Fld Try.prog 63 0 0 1 false := ⟨_, _, _, _, _, Try.underlying63, rfl, rfl, ti3, Try.underlying3, rfl⟩
theorem fl63_1 : Fld Try.prog 63 1 1 1 false := ⟨_, _, _, _, _, Try.underlying63, rfl, rfl, ti3, Try.underlying3, rfl⟩
theorem fl63_2 : Fld Try.prog 63 2 2 1 false := ⟨_, _, _, _, _, Try.underlying63, rfl, rfl, ti3, Try.underlying3, rfl⟩
theorem fl63_3 : Fld Try.prog 63 3 3 1 false := ⟨_, _, _, _, _, Try.underlying63, rfl, rfl, ti3, Try.underlying3, rfl⟩
theorem fl63_4 : Fld Try.prog 63 4 4 1 false := ⟨_, _, _, _, _, Try.underlying63, rfl, rfl, ti9, Try.underlying9, rfl⟩
theorem fl63_5 : Fld Try.prog 63 5 5 3 true := ⟨_, _, _, _, _, Try.underlying63, rfl, rfl, ti45, Try.underlying45, rfl⟩
theorem sp63 : SP Try.prog 63 [(0, 1), (1, 1), (2, 1), (3, 1), (4, 1), (5, 3)] := ⟨_, Try.underlying63, fun _ => by simp [ti3.size, ti45.size, ti9.size, Sem.run_bind, Sem.run_pure]⟩
theorem fl64_0 : Fld Try.prog 64 0 0 1 false := ⟨_, _, _, _, _, Try.underlying64, rfl, rfl, ti3, Try.underlying3, rfl⟩
theorem fl64_1 : Fld Try.prog 64 1 1 1 false := ⟨_, _, _, _, _, Try.underlying64, rfl, rfl, ti3, Try.underlying3, rfl⟩
theorem fl64_2 : Fld Try.prog 64 2 2 1 false := ⟨_, _, _, _, _, Try.underlying64, rfl, rfl, ti3, Try.underlying3, rfl⟩
theorem fl64_3 : Fld Try.prog 64 3 3 1 false := ⟨_, _, _, _, _, Try.underlying64, rfl, rfl, ti3, Try.underlying3, rfl⟩
theorem fl64_4 : Fld Try.prog 64 4 4 1 false := ⟨_, _, _, _, _, Try.underlying64, rfl, rfl, ti9, Try.underlying9, rfl⟩
theorem fl64_5 : Fld Try.prog 64 5 5 3 true := ⟨_, _, _, _, _, Try.underlying64, rfl, rfl, ti45, Try.underlying45, rfl⟩
theorem sp64 : SP Try.prog 64 [(0, 1), (1, 1), (2, 1), (3, 1), (4, 1), (5, 3)] := ⟨_, Try.underlying64, fun _ => by simp [ti3.size, ti45.size, ti9.size, Sem.run_bind, Sem.run_pure]⟩
theorem fl67_0 : Fld Try.prog 67 0 0 1 false := ⟨_, _, _, _, _, Try.underlying67, rfl, rfl, ti3, Try.underlying3, rfl⟩
theorem fl67_1 : Fld Try.prog 67 1 1 1 false := ⟨_, _, _, _, _, Try.underlying67, rfl, rfl, ti3, Try.underlying3, rfl⟩
theorem sp67 : SP Try.prog 67 [(0, 1), (1, 1)] := ⟨_, Try.underlying67, fun _ => by simp [ti3.size, Sem.run_bind, Sem.run_pure]⟩
theorem fl68_0 : Fld Try.prog 68 0 0 1 false := ⟨_, _, _, _, _, Try.underlying68, rfl, rfl, ti3, Try.underlying3, rfl⟩
theorem fl68_1 : Fld Try.prog 68 1 1 1 false := ⟨_, _, _, _, _, Try.underlying68, rfl, rfl, ti3, Try.underlying3, rfl⟩
theorem sp68 : SP Try.prog 68 [(0, 1), (1, 1)] := ⟨_, Try.underlying68, fun _ => by simp [ti3.size, Sem.run_bind, Sem.run_pure]⟩
theorem fl74_0 : Fld Try.prog 74 0 0 1 false := ⟨_, _, _, _, _, Try.underlying74, rfl, rfl, ti3, Try.underlying3, rfl⟩
theorem fl74_1 : Fld Try.prog 74 1 1 1 false := ⟨_, _, _, _, _, Try.underlying74, rfl, rfl, ti3, Try.underlying3, rfl⟩
theorem sp74 : SP Try.prog 74 [(0, 1), (1, 1)] := ⟨_, Try.underlying74, fun _ => by simp [ti3.size, Sem.run_bind, Sem.run_pure]⟩
theorem fl85_0 : Fld Try.prog 85 0 0 2 true := ⟨_, _, _, _, _, Try.underlying85, rfl, rfl, ti74, Try.underlying74, rfl⟩
theorem fl85_1 : Fld Try.prog 85 1 2 1 false := ⟨_, _, _, _, _, Try.underlying85, rfl, rfl, ti47, Try.underlying47, rfl⟩
theorem fl85_2 : Fld Try.prog 85 2 3 1 false := ⟨_, _, _, _, _, Try.underlying85, rfl, rfl, ti84, Try.underlying84, rfl⟩
theorem fl85_3 : Fld Try.prog 85 3 4 1 false := ⟨_, _, _, _, _, Try.underlying85, rfl, rfl, ti3, Try.underlying3, rfl⟩
theorem fl85_4 : Fld Try.prog 85 4 5 3 true := ⟨_, _, _, _, _, Try.underlying85, rfl, rfl, ti45, Try.underlying45, rfl⟩
theorem fl85_5 : Fld Try.prog 85 5 8 1 false := ⟨_, _, _, _, _, Try.underlying85, rfl, rfl, ti4, Try.underlying4, rfl⟩
theorem fl85_6 : Fld Try.prog 85 6 9 1 false := ⟨_, _, _, _, _, Try.underlying85, rfl, rfl, ti3, Try.underlying3, rfl⟩
theorem fl85_7 : Fld Try.prog 85 7 10 1 false := ⟨_, _, _, _, _, Try.underlying85, rfl, rfl, ti3, Try.underlying3, rfl⟩
theorem sp85 : SP Try.prog 85 [(0, 2), (2, 1), (3, 1), (4, 1), (5, 3), (8, 1), (9, 1), (10, 1)] := ⟨_, Try.underlying85, fun _ => by simp [ti3.size, ti4.size, ti45.size, ti47.size, ti74.size, ti84.size, Sem.run_bind, Sem.run_pure]⟩
theorem fl86_0 : Fld Try.prog 86 0 0 2 true := ⟨_, _, _, _, _, Try.underlying86, rfl, rfl, ti74, Try.underlying74, rfl⟩
theorem fl86_1 : Fld Try.prog 86 1 2 1 false := ⟨_, _, _, _, _, Try.underlying86, rfl, rfl, ti47, Try.underlying47, rfl⟩
theorem fl86_2 : Fld Try.prog 86 2 3 1 false := ⟨_, _, _, _, _, Try.underlying86, rfl, rfl, ti84, Try.underlying84, rfl⟩
theorem fl86_3 : Fld Try.prog 86 3 4 1 false := ⟨_, _, _, _, _, Try.underlying86, rfl, rfl, ti3, Try.underlying3, rfl⟩
theorem fl86_4 : Fld Try.prog 86 4 5 3 true := ⟨_, _, _, _, _, Try.underlying86, rfl, rfl, ti45, Try.underlying45, rfl⟩
theorem fl86_5 : Fld Try.prog 86 5 8 1 false := ⟨_, _, _, _, _, Try.underlying86, rfl, rfl, ti4, Try.underlying4, rfl⟩
theorem fl86_6 : Fld Try.prog 86 6 9 1 false := ⟨_, _, _, _, _, Try.underlying86, rfl, rfl, ti3, Try.underlying3, rfl⟩
theorem fl86_7 : Fld Try.prog 86 7 10 1 false := ⟨_, _, _, _, _, Try.underlying86, rfl, rfl, ti3, Try.underlying3, rfl⟩
theorem sp86 : SP Try.prog 86 [(0, 2), (2, 1), (3, 1), (4, 1), (5, 3), (8, 1), (9, 1), (10, 1)] := ⟨_, Try.underlying86, fun _ => by simp [ti3.size, ti4.size, ti45.size, ti47.size, ti74.size, ti84.size, Sem.run_bind, Sem.run_pure]⟩
theorem fl103_0 : Fld Try.prog 103 0 0 1 false := ⟨_, _, _, _, _, Try.underlying103, rfl, rfl, ti3, Try.underlying3, rfl⟩
theorem fl103_1 : Fld Try.prog 103 1 1 3 true := ⟨_, _, _, _, _, Try.underlying103, rfl, rfl, ti51, Try.underlying51, rfl⟩
theorem sp103 : SP Try.prog 103 [(0, 1), (1, 3)] := ⟨_, Try.underlying103, fun _ => by simp [ti3.size, ti51.size, Sem.run_bind, Sem.run_pure]⟩
theorem fl104_0 : Fld Try.prog 104 0 0 1 false := ⟨_, _, _, _, _, Try.underlying104, rfl, rfl, ti3, Try.underlying3, rfl⟩
theorem fl104_1 : Fld Try.prog 104 1 1 3 true := ⟨_, _, _, _, _, Try.underlying104, rfl, rfl, ti51, Try.underlying51, rfl⟩
theorem sp104 : SP Try.prog 104 [(0, 1), (1, 3)] := ⟨_, Try.underlying104, fun _ => by simp [ti3.size, ti51.size, Sem.run_bind, Sem.run_pure]⟩
theorem fl107_0 : Fld Try.prog 107 0 0 4 true := ⟨_, _, _, _, _, Try.underlying107, rfl, rfl, ti104, Try.underlying104, rfl⟩
theorem fl107_1 : Fld Try.prog 107 1 4 2 true := ⟨_, _, _, _, _, Try.underlying107, rfl, rfl, ti68, Try.underlying68, rfl⟩
theorem fl107_2 : Fld Try.prog 107 2 6 1 false := ⟨_, _, _, _, _, Try.underlying107, rfl, rfl, ti105, Try.underlying105, rfl⟩
theorem fl107_3 : Fld Try.prog 107 3 7 1 false := ⟨_, _, _, _, _, Try.underlying107, rfl, rfl, ti106, Try.underlying106, rfl⟩
theorem fl107_4 : Fld Try.prog 107 4 8 1 false := ⟨_, _, _, _, _, Try.underlying107, rfl, rfl, ti4, Try.underlying4, rfl⟩
theorem fl107_5 : Fld Try.prog 107 5 9 1 false := ⟨_, _, _, _, _, Try.underlying107, rfl, rfl, ti3, Try.underlying3, rfl⟩
theorem fl107_6 : Fld Try.prog 107 6 10 1 false := ⟨_, _, _, _, _, Try.underlying107, rfl, rfl, ti3, Try.underlying3, rfl⟩
theorem sp107 : SP Try.prog 107 [(0, 4), (4, 2), (6, 1), (7, 1), (8, 1), (9, 1), (10, 1)] := ⟨_, Try.underlying107, fun _ => by simp [ti104.size, ti105.size, ti106.size, ti3.size, ti4.size, ti68.size, Sem.run_bind, Sem.run_pure]⟩
theorem fl108_0 : Fld Try.prog 108 0 0 4 true := ⟨_, _, _, _, _, Try.underlying108, rfl, rfl, ti104, Try.underlying104, rfl⟩
theorem fl108_1 : Fld Try.prog 108 1 4 2 true := ⟨_, _, _, _, _, Try.underlying108, rfl, rfl, ti68, Try.underlying68, rfl⟩
theorem fl108_2 : Fld Try.prog 108 2 6 1 false := ⟨_, _, _, _, _, Try.underlying108, rfl, rfl, ti105, Try.underlying105, rfl⟩
theorem fl108_3 : Fld Try.prog 108 3 7 1 false := ⟨_, _, _, _, _, Try.underlying108, rfl, rfl, ti106, Try.underlying106, rfl⟩
theorem fl108_4 : Fld Try.prog 108 4 8 1 false := ⟨_, _, _, _, _, Try.underlying108, rfl, rfl, ti4, Try.underlying4, rfl⟩
theorem fl108_5 : Fld Try.prog 108 5 9 1 false := ⟨_, _, _, _, _, Try.underlying108, rfl, rfl, ti3, Try.underlying3, rfl⟩
theorem fl108_6 : Fld Try.prog 108 6 10 1 false := ⟨_, _, _, _, _, Try.underlying108, rfl, rfl, ti3, Try.underlying3, rfl⟩
theorem sp108 : SP Try.prog 108 [(0, 4), (4, 2), (6, 1), (7, 1), (8, 1), (9, 1), (10, 1)] := ⟨_, Try.underlying108, fun _ => by simp [ti104.size, ti105.size, ti106.size, ti3.size, ti4.size, ti68.size, Sem.run_bind, Sem.run_pure]⟩
theorem fl113_0 : Fld Try.prog 113 0 0 1 false := ⟨_, _, _, _, _, Try.underlying113, rfl, rfl, ti3, Try.underlying3, rfl⟩
theorem fl113_1 : Fld Try.prog 113 1 1 1 false := ⟨_, _, _, _, _, Try.underlying113, rfl, rfl, ti9, Try.underlying9, rfl⟩
theorem sp113 : SP Try.prog 113 [(0, 1), (1, 1)] := ⟨_, Try.underlying113, fun _ => by simp [ti3.size, ti9.size, Sem.run_bind, Sem.run_pure]⟩
theorem fl114_0 : Fld Try.prog 114 0 0 1 false := ⟨_, _, _, _, _, Try.underlying114, rfl, rfl, ti3, Try.underlying3, rfl⟩
theorem fl114_1 : Fld Try.prog 114 1 1 1 false := ⟨_, _, _, _, _, Try.underlying114, rfl, rfl, ti9, Try.underlying9, rfl⟩
theorem sp114 : SP Try.prog 114 [(0, 1), (1, 1)] := ⟨_, Try.underlying114, fun _ => by simp [ti3.size, ti9.size, Sem.run_bind, Sem.run_pure]⟩
theorem fl128_0 : Fld Try.prog 128 0 0 1 false := ⟨_, _, _, _, _, Try.underlying128, rfl, rfl, ti3, Try.underlying3, rfl⟩
theorem fl128_1 : Fld Try.prog 128 1 1 1 false := ⟨_, _, _, _, _, Try.underlying128, rfl, rfl, ti9, Try.underlying9, rfl⟩
theorem sp128 : SP Try.prog 128 [(0, 1), (1, 1)] := ⟨_, Try.underlying128, fun _ => by simp [ti3.size, ti9.size, Sem.run_bind, Sem.run_pure]⟩
theorem fl134_0 : Fld Try.prog 134 0 0 1 false := ⟨_, _, _, _, _, Try.underlying134, rfl, rfl, ti17, Try.underlying17, rfl⟩
theorem fl134_1 : Fld Try.prog 134 1 1 1 false := ⟨_, _, _, _, _, Try.underlying134, rfl, rfl, ti17, Try.underlying17, rfl⟩
theorem fl134_2 : Fld Try.prog 134 2 2 1 false := ⟨_, _, _, _, _, Try.underlying134, rfl, rfl, ti17, Try.underlying17, rfl⟩
theorem fl134_3 : Fld Try.prog 134 3 3 1 false := ⟨_, _, _, _, _, Try.underlying134, rfl, rfl, ti9, Try.underlying9, rfl⟩
theorem sp134 : SP Try.prog 134 [(0, 1), (1, 1), (2, 1), (3, 1)] := ⟨_, Try.underlying134, fun _ => by simp [ti17.size, ti9.size, Sem.run_bind, Sem.run_pure]⟩
theorem fl135_0 : Fld Try.prog 135 0 0 1 false := ⟨_, _, _, _, _, Try.underlying135, rfl, rfl, ti17, Try.underlying17, rfl⟩
theorem fl135_1 : Fld Try.prog 135 1 1 1 false := ⟨_, _, _, _, _, Try.underlying135, rfl, rfl, ti17, Try.underlying17, rfl⟩
theorem fl135_2 : Fld Try.prog 135 2 2 1 false := ⟨_, _, _, _, _, Try.underlying135, rfl, rfl, ti17, Try.underlying17, rfl⟩
theorem fl135_3 : Fld Try.prog 135 3 3 1 false := ⟨_, _, _, _, _, Try.underlying135, rfl, rfl, ti9, Try.underlying9, rfl⟩
theorem sp135 : SP Try.prog 135 [(0, 1), (1, 1), (2, 1), (3, 1)] := ⟨_, Try.underlying135, fun _ => by simp [ti17.size, ti9.size, Sem.run_bind, Sem.run_pure]⟩
theorem fl137_0 : Fld Try.prog 137 0 0 0 true := ⟨_, _, _, _, _, Try.underlying137, rfl, rfl, ti136, Try.underlying136, rfl⟩
theorem sp137 : SP Try.prog 137 [(0, 0)] := ⟨_, Try.underlying137, fun _ => by simp [ti136.size, Sem.run_bind, Sem.run_pure]⟩
theorem fl138_0 : Fld Try.prog 138 0 0 0 true := ⟨_, _, _, _, _, Try.underlying138, rfl, rfl, ti136, Try.underlying136, rfl⟩
theorem sp138 : SP Try.prog 138 [(0, 0)] := ⟨_, Try.underlying138, fun _ => by simp [ti136.size, Sem.run_bind, Sem.run_pure]⟩
theorem fl145_0 : Fld Try.prog 145 0 0 1 false := ⟨_, _, _, _, _, Try.underlying145, rfl, rfl, ti12, Try.underlying12, rfl⟩
theorem fl145_1 : Fld Try.prog 145 1 1 1 false := ⟨_, _, _, _, _, Try.underlying145, rfl, rfl, ti12, Try.underlying12, rfl⟩
theorem fl145_2 : Fld Try.prog 145 2 2 1 false := ⟨_, _, _, _, _, Try.underlying145, rfl, rfl, ti33, Try.underlying33, rfl⟩
theorem fl145_3 : Fld Try.prog 145 3 3 1 false := ⟨_, _, _, _, _, Try.underlying145, rfl, rfl, ti139, Try.underlying139, rfl⟩
theorem fl145_4 : Fld Try.prog 145 4 4 1 false := ⟨_, _, _, _, _, Try.underlying145, rfl, rfl, ti5, Try.underlying5, rfl⟩
theorem fl145_5 : Fld Try.prog 145 5 5 1 false := ⟨_, _, _, _, _, Try.underlying145, rfl, rfl, ti5, Try.underlying5, rfl⟩
theorem fl145_6 : Fld Try.prog 145 6 6 1 false := ⟨_, _, _, _, _, Try.underlying145, rfl, rfl, ti140, Try.underlying140, rfl⟩
theorem fl145_7 : Fld Try.prog 145 7 7 1 false := ⟨_, _, _, _, _, Try.underlying145, rfl, rfl, ti_mk (z := Value.nilFunc) (s := 1) (bytes := 8) (by kernel_rfl), Try.underlying141, rfl⟩
theorem fl145_8 : Fld Try.prog 145 8 8 1 false := ⟨_, _, _, _, _, Try.underlying145, rfl, rfl, ti142, Try.underlying142, rfl⟩
theorem fl145_9 : Fld Try.prog 145 9 9 1 false := ⟨_, _, _, _, _, Try.underlying145, rfl, rfl, ti143, Try.underlying143, rfl⟩
theorem fl145_10 : Fld Try.prog 145 10 10 1 false := ⟨_, _, _, _, _, Try.underlying145, rfl, rfl, ti144, Try.underlying144, rfl⟩
theorem fl146_0 : Fld Try.prog 146 0 0 1 false := ⟨_, _, _, _, _, Try.underlying146, rfl, rfl, ti12, Try.underlying12, rfl⟩
theorem fl146_1 : Fld Try.prog 146 1 1 1 false := ⟨_, _, _, _, _, Try.underlying146, rfl, rfl, ti12, Try.underlying12, rfl⟩
theorem fl146_2 : Fld Try.prog 146 2 2 1 false := ⟨_, _, _, _, _, Try.underlying146, rfl, rfl, ti33, Try.underlying33, rfl⟩
theorem fl146_3 : Fld Try.prog 146 3 3 1 false := ⟨_, _, _, _, _, Try.underlying146, rfl, rfl, ti139, Try.underlying139, rfl⟩
theorem fl146_4 : Fld Try.prog 146 4 4 1 false := ⟨_, _, _, _, _, Try.underlying146, rfl, rfl, ti5, Try.underlying5, rfl⟩
theorem fl146_5 : Fld Try.prog 146 5 5 1 false := ⟨_, _, _, _, _, Try.underlying146, rfl, rfl, ti5, Try.underlying5, rfl⟩
theorem fl146_6 : Fld Try.prog 146 6 6 1 false := ⟨_, _, _, _, _, Try.underlying146, rfl, rfl, ti140, Try.underlying140, rfl⟩
theorem fl146_7 : Fld Try.prog 146 7 7 1 false := ⟨_, _, _, _, _, Try.underlying146, rfl, rfl, ti_mk (z := Value.nilFunc) (s := 1) (bytes := 8) (by kernel_rfl), Try.underlying141, rfl⟩
theorem fl146_8 : Fld Try.prog 146 8 8 1 false := ⟨_, _, _, _, _, Try.underlying146, rfl, rfl, ti142, Try.underlying142, rfl⟩
theorem fl146_9 : Fld Try.prog 146 9 9 1 false := ⟨_, _, _, _, _, Try.underlying146, rfl, rfl, ti143, Try.underlying143, rfl⟩
theorem fl146_10 : Fld Try.prog 146 10 10 1 false := ⟨_, _, _, _, _, Try.underlying146, rfl, rfl, ti144, Try.underlying144, rfl⟩
theorem cf2 : CF Try.prog 2 := ⟨_, Try.func2, by kernel_rfl, rfl⟩
theorem cf3 : CF Try.prog 3 := ⟨_, Try.func3, by kernel_rfl, rfl⟩
theorem cf4 : CF Try.prog 4 := ⟨_, Try.func4, by kernel_rfl, rfl⟩
theorem cf5 : CF Try.prog 5 := ⟨_, Try.func5, by kernel_rfl, rfl⟩
theorem cf6 : CF Try.prog 6 := ⟨_, Try.func6, by kernel_rfl, rfl⟩
theorem cf7 : CF Try.prog 7 := ⟨_, Try.func7, by kernel_rfl, rfl⟩
theorem cf8 : CF Try.prog 8 := ⟨_, Try.func8, by kernel_rfl, rfl⟩
theorem cf9 : CF Try.prog 9 := ⟨_, Try.func9, by kernel_rfl, rfl⟩
theorem cf10 : CF Try.prog 10 := ⟨_, Try.func10, by kernel_rfl, rfl⟩
theorem cf11 : CF Try.prog 11 := ⟨_, Try.func11, by kernel_rfl, rfl⟩
theorem cf12 : CF Try.prog 12 := ⟨_, Try.func12, by kernel_rfl, rfl⟩
theorem cf13 : CF Try.prog 13 := ⟨_, Try.func13, by kernel_rfl, rfl⟩
theorem cf14 : CF Try.prog 14 := ⟨_, Try.func14, by kernel_rfl, rfl⟩
theorem cf15 : CF Try.prog 15 := ⟨_, Try.func15, by kernel_rfl, rfl⟩
theorem cf16 : CF Try.prog 16 := ⟨_, Try.func16, by kernel_rfl, rfl⟩
theorem cf17 : CF Try.prog 17 := ⟨_, Try.func17, by kernel_rfl, rfl⟩
theorem cf18 : CF Try.prog 18 := ⟨_, Try.func18, by kernel_rfl, rfl⟩
theorem cf19 : CF Try.prog 19 := ⟨_, Try.func19, by kernel_rfl, rfl⟩
theorem cf20 : CF Try.prog 20 := ⟨_, Try.func20, by kernel_rfl, rfl⟩
theorem cf21 : CF Try.prog 21 := ⟨_, Try.func21, by kernel_rfl, rfl⟩
theorem cf22 : CF Try.prog 22 := ⟨_, Try.func22, by kernel_rfl, rfl⟩
theorem cf23 : CF Try.prog 23 := ⟨_, Try.func23, by kernel_rfl, rfl⟩
theorem cf24 : CF Try.prog 24 := ⟨_, Try.func24, by kernel_rfl, rfl⟩
theorem cf25 : CF Try.prog 25 := ⟨_, Try.func25, by kernel_rfl, rfl⟩
theorem cf26 : CF Try.prog 26 := ⟨_, Try.func26, by kernel_rfl, rfl⟩
theorem cf27 : CF Try.prog 27 := ⟨_, Try.func27, by kernel_rfl, rfl⟩
theorem cf28 : CF Try.prog 28 := ⟨_, Try.func28, by kernel_rfl, rfl⟩
theorem cf29 : CF Try.prog 29 := ⟨_, Try.func29, by kernel_rfl, rfl⟩
theorem cf30 : CF Try.prog 30 := ⟨_, Try.func30, by kernel_rfl, rfl⟩
theorem cf31 : CF Try.prog 31 := ⟨_, Try.func31, by kernel_rfl, rfl⟩
theorem cf32 : CF Try.prog 32 := ⟨_, Try.func32, by kernel_rfl, rfl⟩
theorem cf33 : CF Try.prog 33 := ⟨_, Try.func33, by kernel_rfl, rfl⟩
theorem cf34 : CF Try.prog 34 := ⟨_, Try.func34, by kernel_rfl, rfl⟩
theorem cf35 : CF Try.prog 35 := ⟨_, Try.func35, by kernel_rfl, rfl⟩
theorem cf36 : CF Try.prog 36 := ⟨_, Try.func36, by kernel_rfl, rfl⟩
theorem cf37 : CF Try.prog 37 := ⟨_, Try.func37, by kernel_rfl, rfl⟩
theorem cf38 : CF Try.prog 38 := ⟨_, Try.func38, by kernel_rfl, rfl⟩
theorem cf39 : CF Try.prog 39 := ⟨_, Try.func39, by kernel_rfl, rfl⟩
theorem cf40 : CF Try.prog 40 := ⟨_, Try.func40, by kernel_rfl, rfl⟩
theorem cf41 : CF Try.prog 41 := ⟨_, Try.func41, by kernel_rfl, rfl⟩
theorem cf42 : CF Try.prog 42 := ⟨_, Try.func42, by kernel_rfl, rfl⟩
theorem cf43 : CF Try.prog 43 := ⟨_, Try.func43, by kernel_rfl, rfl⟩
theorem cf44 : CF Try.prog 44 := ⟨_, Try.func44, by kernel_rfl, rfl⟩
theorem cf45 : CF Try.prog 45 := ⟨_, Try.func45, by kernel_rfl, rfl⟩
theorem cf46 : CF Try.prog 46 := ⟨_, Try.func46, by kernel_rfl, rfl⟩
theorem cf47 : CF Try.prog 47 := ⟨_, Try.func47, by kernel_rfl, rfl⟩
theorem cf48 : CF Try.prog 48 := ⟨_, Try.func48, by kernel_rfl, rfl⟩
theorem cf49 : CF Try.prog 49 := ⟨_, Try.func49, by kernel_rfl, rfl⟩
theorem cf50 : CF Try.prog 50 := ⟨_, Try.func50, by kernel_rfl, rfl⟩
theorem cf51 : CF Try.prog 51 := ⟨_, Try.func51, by kernel_rfl, rfl⟩
theorem cf52 : CF Try.prog 52 := ⟨_, Try.func52, by kernel_rfl, rfl⟩
theorem cf53 : CF Try.prog 53 := ⟨_, Try.func53, by kernel_rfl, rfl⟩
theorem cf54 : CF Try.prog 54 := ⟨_, Try.func54, by kernel_rfl, rfl⟩
theorem cf55 : CF Try.prog 55 := ⟨_, Try.func55, by kernel_rfl, rfl⟩
theorem cf56 : CF Try.prog 56 := ⟨_, Try.func56, by kernel_rfl, rfl⟩
theorem cf57 : CF Try.prog 57 := ⟨_, Try.func57, by kernel_rfl, rfl⟩
theorem cf58 : CF Try.prog 58 := ⟨_, Try.func58, by kernel_rfl, rfl⟩
theorem cf59 : CF Try.prog 59 := ⟨_, Try.func59, by kernel_rfl, rfl⟩
theorem cf60 : CF Try.prog 60 := ⟨_, Try.func60, by kernel_rfl, rfl⟩
theorem cf61 : CF Try.prog 61 := ⟨_, Try.func61, by kernel_rfl, rfl⟩
theorem cf62 : CF Try.prog 62 := ⟨_, Try.func62, by kernel_rfl, rfl⟩
theorem cf63 : CF Try.prog 63 := ⟨_, Try.func63, by kernel_rfl, rfl⟩
theorem cf64 : CF Try.prog 64 := ⟨_, Try.func64, by kernel_rfl, rfl⟩
theorem cf65 : CF Try.prog 65 := ⟨_, Try.func65, by kernel_rfl, rfl⟩
theorem cf66 : CF Try.prog 66 := ⟨_, Try.func66, by kernel_rfl, rfl⟩
theorem cf67 : CF Try.prog 67 := ⟨_, Try.func67, by kernel_rfl, rfl⟩
theorem cf68 : CF Try.prog 68 := ⟨_, Try.func68, by kernel_rfl, rfl⟩
theorem cf69 : CF Try.prog 69 := ⟨_, Try.func69, by kernel_rfl, rfl⟩
theorem cf70 : CF Try.prog 70 := ⟨_, Try.func70, by kernel_rfl, rfl⟩
theorem cf71 : CF Try.prog 71 := ⟨_, Try.func71, by kernel_rfl, rfl⟩
theorem cf72 : CF Try.prog 72 := ⟨_, Try.func72, by kernel_rfl, rfl⟩
theorem cf73 : CF Try.prog 73 := ⟨_, Try.func73, by kernel_rfl, rfl⟩
theorem cf74 : CF Try.prog 74 := ⟨_, Try.func74, by kernel_rfl, rfl⟩
theorem cf75 : CF Try.prog 75 := ⟨_, Try.func75, by kernel_rfl, rfl⟩
theorem cf76 : CF Try.prog 76 := ⟨_, Try.func76, by kernel_rfl, rfl⟩
theorem cf77 : CF Try.prog 77 := ⟨_, Try.func77, by kernel_rfl, rfl⟩
theorem cf78 : CF Try.prog 78 := ⟨_, Try.func78, by kernel_rfl, rfl⟩
theorem cf79 : CF Try.prog 79 := ⟨_, Try.func79, by kernel_rfl, rfl⟩
theorem cf80 : CF Try.prog 80 := ⟨_, Try.func80, by kernel_rfl, rfl⟩
theorem cf81 : CF Try.prog 81 := ⟨_, Try.func81, by kernel_rfl, rfl⟩
theorem cf82 : CF Try.prog 82 := ⟨_, Try.func82, by kernel_rfl, rfl⟩
theorem cf83 : CF Try.prog 83 := ⟨_, Try.func83, by kernel_rfl, rfl⟩
theorem cf85 : CF Try.prog 85 := ⟨_, Try.func85, by kernel_rfl, rfl⟩
theorem cf86 : CF Try.prog 86 := ⟨_, Try.func86, by kernel_rfl, rfl⟩
theorem cf87 : CF Try.prog 87 := ⟨_, Try.func87, by kernel_rfl, rfl⟩
theorem cf88 : CF Try.prog 88 := ⟨_, Try.func88, by kernel_rfl, rfl⟩
theorem cf89 : CF Try.prog 89 := ⟨_, Try.func89, by kernel_rfl, rfl⟩
theorem cf90 : CF Try.prog 90 := ⟨_, Try.func90, by kernel_rfl, rfl⟩
theorem cf91 : CF Try.prog 91 := ⟨_, Try.func91, by kernel_rfl, rfl⟩
end Go.Proofs.Ytdapkfppcaaohaa
