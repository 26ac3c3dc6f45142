/- Facts on the types and the functions of the translation, by program: each by the kernel. -/
import Derived.Test.YtbhepednfnmngaaGreatRows
import Derived.Test.YtbhepednfnmngaaGreatHeap
import Derived.KernelRfl
namespace Go.Proofs.YtbhepednfnmngaaGreat
open Go Go.RowKit
set_option maxRecDepth 100000
set_option linter.unusedSimpArgs false
theorem ti2 : TI Tryz.prog 2 (Value.int .i64 0) 1 8 := ti_mk (by kernel_rfl)
theorem ti3 : TI Tryz.prog 3 (Value.int .i64 0) 1 8 := ti_mk (by kernel_rfl)
theorem ti4 : TI Tryz.prog 4 (Value.bool false) 1 1 := ti_mk (by kernel_rfl)
theorem ti5 : TI Tryz.prog 5 (Value.int .u8 0) 1 1 := ti_mk (by kernel_rfl)
theorem ti6 : TI Tryz.prog 6 (Value.int .u8 0) 1 1 := ti_mk (by kernel_rfl)
theorem ti7 : TI Tryz.prog 7 (Value.agg #[Value.int .i64 0, Value.int .i64 0, Value.bool false, Value.int .u8 0]) 4 24 := ti_mk (by kernel_rfl)
theorem ti8 : TI Tryz.prog 8 (Value.agg #[Value.int .i64 0, Value.int .i64 0, Value.bool false, Value.int .u8 0]) 4 24 := ti_mk (by kernel_rfl)
theorem ti9 : TI Tryz.prog 9 (Value.string ⟨#[]⟩) 1 16 := ti_mk (by kernel_rfl)
theorem ti10 : TI Tryz.prog 10 (Value.string ⟨#[]⟩) 1 16 := ti_mk (by kernel_rfl)
theorem ti11 : TI Tryz.prog 11 (Value.string ⟨#[]⟩) 1 16 := ti_mk (by kernel_rfl)
theorem ti12 : TI Tryz.prog 12 (Value.int .u64 0) 1 8 := ti_mk (by kernel_rfl)
theorem ti13 : TI Tryz.prog 13 (Value.agg #[Value.string ⟨#[]⟩, Value.int .u64 0]) 2 24 := ti_mk (by kernel_rfl)
theorem ti14 : TI Tryz.prog 14 (Value.agg #[Value.string ⟨#[]⟩, Value.int .u64 0]) 2 24 := ti_mk (by kernel_rfl)
theorem ti15 : TI Tryz.prog 15 (Value.pointer none) 1 8 := ti_mk (by kernel_rfl)
theorem ti16 : TI Tryz.prog 16 (Value.pointer none) 1 8 := ti_mk (by kernel_rfl)
theorem ti17 : TI Tryz.prog 17 (Value.pointer none) 1 8 := ti_mk (by kernel_rfl)
theorem ti18 : TI Tryz.prog 18 (Value.agg #[Value.pointer none]) 1 8 := ti_mk (by kernel_rfl)
theorem ti19 : TI Tryz.prog 19 (Value.agg #[Value.pointer none]) 1 8 := ti_mk (by kernel_rfl)
theorem ti20 : TI Tryz.prog 20 (Value.nilIface) 1 16 := ti_mk (by kernel_rfl)
theorem ti21 : TI Tryz.prog 21 (Value.int .i32 0) 1 4 := ti_mk (by kernel_rfl)
theorem ti22 : TI Tryz.prog 22 (Value.pointer none) 1 8 := ti_mk (by kernel_rfl)
theorem ti23 : TI Tryz.prog 23 (Value.int .i64 0) 1 8 := ti_mk (by kernel_rfl)
theorem ti25 : TI Tryz.prog 25 (Value.slice none 0 0) 1 24 := ti_mk (by kernel_rfl)
theorem ti30 : TI Tryz.prog 30 (Value.slice none 0 0) 1 24 := ti_mk (by kernel_rfl)
theorem ti36 : TI Tryz.prog 36 (Value.slice none 0 0) 1 24 := ti_mk (by kernel_rfl)
theorem ti38 : TI Tryz.prog 38 (Value.agg #[Value.int .i64 0, Value.string ⟨#[]⟩]) 2 24 := ti_mk (by kernel_rfl)
theorem ti39 : TI Tryz.prog 39 (Value.agg #[Value.int .i64 0, Value.string ⟨#[]⟩]) 2 24 := ti_mk (by kernel_rfl)
theorem ti40 : TI Tryz.prog 40 (Value.slice none 0 0) 1 24 := ti_mk (by kernel_rfl)
theorem ti45 : TI Tryz.prog 45 (Value.pointer none) 1 8 := ti_mk (by kernel_rfl)
theorem ti46 : TI Tryz.prog 46 (Value.agg #[Value.int .i64 0, Value.int .i64 0]) 2 16 := ti_mk (by kernel_rfl)
theorem ti47 : TI Tryz.prog 47 (Value.agg #[Value.int .i64 0, Value.int .i64 0]) 2 16 := ti_mk (by kernel_rfl)
theorem ti48 : TI Tryz.prog 48 (Value.agg #[Value.int .u8 0, Value.string ⟨#[]⟩, Value.int .i64 0, Value.int .i64 0, Value.string ⟨#[]⟩]) 5 56 := ti_mk (by kernel_rfl)
theorem ti49 : TI Tryz.prog 49 (Value.agg #[Value.int .u8 0, Value.string ⟨#[]⟩, Value.int .i64 0, Value.int .i64 0, Value.string ⟨#[]⟩]) 5 56 := ti_mk (by kernel_rfl)
theorem ti52 : TI Tryz.prog 52 (Value.slice none 0 0) 1 24 := ti_mk (by kernel_rfl)
theorem ti56 : TI Tryz.prog 56 (Value.slice none 0 0) 1 24 := ti_mk (by kernel_rfl)
theorem ti57 : TI Tryz.prog 57 (Value.agg #[Value.slice none 0 0, Value.slice none 0 0]) 2 48 := ti_mk (by kernel_rfl)
theorem ti58 : TI Tryz.prog 58 (Value.agg #[Value.slice none 0 0, Value.slice none 0 0]) 2 48 := ti_mk (by kernel_rfl)
theorem ti59 : TI Tryz.prog 59 (Value.pointer none) 1 8 := ti_mk (by kernel_rfl)
theorem ti61 : TI Tryz.prog 61 (Value.pointer none) 1 8 := ti_mk (by kernel_rfl)
theorem ti64 : TI Tryz.prog 64 (Value.agg #[Value.int .i64 0, Value.int .i64 0]) 2 16 := ti_mk (by kernel_rfl)
theorem ti65 : TI Tryz.prog 65 (Value.agg #[Value.int .i64 0, Value.int .i64 0]) 2 16 := ti_mk (by kernel_rfl)
theorem ti67 : TI Tryz.prog 67 (Value.agg #[Value.int .i64 0]) 1 8 := ti_mk (by kernel_rfl)
theorem ti68 : TI Tryz.prog 68 (Value.agg #[Value.int .i64 0]) 1 8 := ti_mk (by kernel_rfl)
theorem ti74 : TI Tryz.prog 74 (Value.agg #[Value.int .u8 0, Value.string ⟨#[]⟩]) 2 24 := ti_mk (by kernel_rfl)
theorem ti75 : TI Tryz.prog 75 (Value.agg #[Value.int .u8 0, Value.string ⟨#[]⟩]) 2 24 := ti_mk (by kernel_rfl)
theorem ti76 : TI Tryz.prog 76 (Value.pointer none) 1 8 := ti_mk (by kernel_rfl)
theorem ti78 : TI Tryz.prog 78 (Value.map none) 1 8 := ti_mk (by kernel_rfl)
theorem ti79 : TI Tryz.prog 79 (Value.pointer none) 1 8 := ti_mk (by kernel_rfl)
theorem ti80 : TI Tryz.prog 80 (Value.map none) 1 8 := ti_mk (by kernel_rfl)
theorem ti81 : TI Tryz.prog 81 (Value.agg #[Value.int .i64 0, Value.int .i64 0, Value.int .i64 0, Value.int .i64 0, Value.int .i64 0, Value.map none, Value.slice none 0 0, Value.map none, Value.map none]) 9 88 := ti_mk (by kernel_rfl)
theorem ti82 : TI Tryz.prog 82 (Value.agg #[Value.int .i64 0, Value.int .i64 0, Value.int .i64 0, Value.int .i64 0, Value.int .i64 0, Value.map none, Value.slice none 0 0, Value.map none, Value.map none]) 9 88 := ti_mk (by kernel_rfl)
theorem ti89 : TI Tryz.prog 89 (Value.slice none 0 0) 1 24 := ti_mk (by kernel_rfl)
theorem ti90 : TI Tryz.prog 90 (Value.slice none 0 0) 1 24 := ti_mk (by kernel_rfl)
theorem ti91 : TI Tryz.prog 91 (Value.agg #[Value.bool false, Value.slice none 0 0, Value.slice none 0 0, Value.slice none 0 0]) 4 80 := ti_mk (by kernel_rfl)
theorem ti92 : TI Tryz.prog 92 (Value.agg #[Value.bool false, Value.slice none 0 0, Value.slice none 0 0, Value.slice none 0 0]) 4 80 := ti_mk (by kernel_rfl)
theorem ti99 : TI Tryz.prog 99 (Value.int .u32 0) 1 4 := ti_mk (by kernel_rfl)
theorem ti106 : TI Tryz.prog 106 (Value.agg #[Value.string ⟨#[]⟩, Value.string ⟨#[]⟩]) 2 32 := ti_mk (by kernel_rfl)
theorem ti107 : TI Tryz.prog 107 (Value.agg #[Value.string ⟨#[]⟩, Value.string ⟨#[]⟩]) 2 32 := ti_mk (by kernel_rfl)
theorem ti116 : TI Tryz.prog 116 (Value.agg #[Value.int .i64 0, Value.int .i64 0, Value.int .i64 0, Value.int .i64 0]) 4 32 := ti_mk (by kernel_rfl)
theorem ti117 : TI Tryz.prog 117 (Value.agg #[Value.int .i64 0, Value.int .i64 0, Value.int .i64 0, Value.int .i64 0]) 4 32 := ti_mk (by kernel_rfl)
theorem ti118 : TI Tryz.prog 118 (Value.pointer none) 1 8 := ti_mk (by kernel_rfl)
theorem ti119 : TI Tryz.prog 119 (Value.agg #[Value.int .i64 0, Value.int .i64 0, Value.int .i64 0, Value.int .i64 0, Value.pointer none, Value.pointer none, Value.pointer none, Value.pointer none, Value.pointer none, Value.bool false]) 10 80 := ti_mk (by kernel_rfl)
theorem ti120 : TI Tryz.prog 120 (Value.agg #[Value.int .i64 0, Value.int .i64 0, Value.int .i64 0, Value.int .i64 0, Value.pointer none, Value.pointer none, Value.pointer none, Value.pointer none, Value.pointer none, Value.bool false]) 10 80 := ti_mk (by kernel_rfl)
theorem ti125 : TI Tryz.prog 125 (Value.pointer none) 1 8 := ti_mk (by kernel_rfl)
theorem ti126 : TI Tryz.prog 126 (Value.slice none 0 0) 1 24 := ti_mk (by kernel_rfl)
theorem ti127 : TI Tryz.prog 127 (Value.agg #[Value.pointer none, Value.pointer none, Value.slice none 0 0, Value.slice none 0 0]) 4 64 := ti_mk (by kernel_rfl)
theorem ti128 : TI Tryz.prog 128 (Value.agg #[Value.pointer none, Value.pointer none, Value.slice none 0 0, Value.slice none 0 0]) 4 64 := ti_mk (by kernel_rfl)
theorem ti132 : TI Tryz.prog 132 (Value.map none) 1 8 := ti_mk (by kernel_rfl)
theorem ti133 : TI Tryz.prog 133 (Value.agg #[Value.slice none 0 0, Value.int .i64 0, Value.int .u8 0]) 3 40 := ti_mk (by kernel_rfl)
theorem ti134 : TI Tryz.prog 134 (Value.agg #[Value.slice none 0 0, Value.int .i64 0, Value.int .u8 0]) 3 40 := ti_mk (by kernel_rfl)
theorem ti135 : TI Tryz.prog 135 (Value.agg #[Value.int .i64 0, Value.slice none 0 0, Value.int .i64 0, Value.int .u8 0]) 4 48 := ti_mk (by kernel_rfl)
theorem ti136 : TI Tryz.prog 136 (Value.agg #[Value.int .i64 0, Value.slice none 0 0, Value.int .i64 0, Value.int .u8 0]) 4 48 := ti_mk (by kernel_rfl)
theorem ti137 : TI Tryz.prog 137 (Value.slice none 0 0) 1 24 := ti_mk (by kernel_rfl)
theorem ti138 : TI Tryz.prog 138 (Value.agg #[Value.int .i64 0, Value.slice none 0 0, Value.int .i64 0, Value.int .u8 0, Value.int .i64 0, Value.int .i64 0, Value.map none, Value.slice none 0 0, Value.bool false, Value.int .i64 0, Value.int .i64 0]) 11 120 := ti_mk (by kernel_rfl)
theorem ti139 : TI Tryz.prog 139 (Value.agg #[Value.int .i64 0, Value.slice none 0 0, Value.int .i64 0, Value.int .u8 0, Value.int .i64 0, Value.int .i64 0, Value.map none, Value.slice none 0 0, Value.bool false, Value.int .i64 0, Value.int .i64 0]) 11 120 := ti_mk (by kernel_rfl)
theorem ti148 : TI Tryz.prog 148 (Value.slice none 0 0) 1 24 := ti_mk (by kernel_rfl)
theorem ti157 : TI Tryz.prog 157 (Value.pointer none) 1 8 := ti_mk (by kernel_rfl)
theorem ti158 : TI Tryz.prog 158 (Value.map none) 1 8 := ti_mk (by kernel_rfl)
theorem ti159 : TI Tryz.prog 159 (Value.agg #[Value.int .i64 0, Value.int .i64 0, Value.int .i64 0, Value.int .i64 0, Value.int .i64 0, Value.int .i64 0, Value.int .i64 0]) 7 56 := ti_mk (by kernel_rfl)
theorem ti160 : TI Tryz.prog 160 (Value.agg #[Value.int .i64 0, Value.int .i64 0, Value.int .i64 0, Value.int .i64 0, Value.int .i64 0, Value.int .i64 0, Value.int .i64 0]) 7 56 := ti_mk (by kernel_rfl)
theorem ti161 : TI Tryz.prog 161 (Value.agg #[Value.pointer none, Value.pointer none, Value.pointer none, Value.map none, Value.int .i64 0, Value.int .i64 0, Value.int .i64 0, Value.int .i64 0, Value.int .i64 0, Value.int .i64 0, Value.int .i64 0, Value.bool false]) 12 96 := ti_mk (by kernel_rfl)
theorem ti162 : TI Tryz.prog 162 (Value.agg #[Value.pointer none, Value.pointer none, Value.pointer none, Value.map none, Value.int .i64 0, Value.int .i64 0, Value.int .i64 0, Value.int .i64 0, Value.int .i64 0, Value.int .i64 0, Value.int .i64 0, Value.bool false]) 12 96 := ti_mk (by kernel_rfl)
theorem ti164 : TI Tryz.prog 164 (Value.nilFunc) 1 8 := ti_mk (by kernel_rfl)
theorem ti169 : TI Tryz.prog 169 (Value.int .u64 0) 1 8 := ti_mk (by kernel_rfl)
theorem ti184 : TI Tryz.prog 184 (Value.agg #[Value.string ⟨#[]⟩, Value.string ⟨#[]⟩, Value.bool false]) 3 40 := ti_mk (by kernel_rfl)
theorem ti185 : TI Tryz.prog 185 (Value.agg #[Value.string ⟨#[]⟩, Value.string ⟨#[]⟩, Value.bool false]) 3 40 := ti_mk (by kernel_rfl)
theorem ti191 : TI Tryz.prog 191 (Value.map none) 1 8 := ti_mk (by kernel_rfl)
theorem ti196 : TI Tryz.prog 196 (Value.nilFunc) 1 8 := ti_mk (by kernel_rfl)
theorem ti198 : TI Tryz.prog 198 (Value.pointer none) 1 8 := ti_mk (by kernel_rfl)
theorem ti200 : TI Tryz.prog 200 (Value.slice none 0 0) 1 24 := ti_mk (by kernel_rfl)
theorem ti201 : TI Tryz.prog 201 (Value.agg #[Value.int .i64 0, Value.slice none 0 0, Value.slice none 0 0, Value.bool false]) 4 64 := ti_mk (by kernel_rfl)
theorem ti202 : TI Tryz.prog 202 (Value.agg #[Value.int .i64 0, Value.slice none 0 0, Value.slice none 0 0, Value.bool false]) 4 64 := ti_mk (by kernel_rfl)
theorem ti204 : TI Tryz.prog 204 (Value.int .u8 0) 1 1 := ti_mk (by kernel_rfl)
theorem ti206 : TI Tryz.prog 206 (Value.slice none 0 0) 1 24 := ti_mk (by kernel_rfl)
theorem ti210 : TI Tryz.prog 210 (Value.agg #[Value.int .i64 0, Value.string ⟨#[]⟩]) 2 24 := ti_mk (by kernel_rfl)
theorem ti211 : TI Tryz.prog 211 (Value.agg #[Value.int .i64 0, Value.string ⟨#[]⟩]) 2 24 := ti_mk (by kernel_rfl)
theorem ti213 : TI Tryz.prog 213 (Value.nilFunc) 1 8 := ti_mk (by kernel_rfl)
theorem ti216 : TI Tryz.prog 216 (Value.agg #[Value.int .i64 0, Value.string ⟨#[]⟩]) 2 24 := ti_mk (by kernel_rfl)
theorem ti217 : TI Tryz.prog 217 (Value.agg #[Value.int .i64 0, Value.string ⟨#[]⟩]) 2 24 := ti_mk (by kernel_rfl)
theorem ti219 : TI Tryz.prog 219 (Value.agg #[Value.pointer none, Value.int .i64 0, Value.int .i64 0]) 3 24 := ti_mk (by kernel_rfl)
theorem ti220 : TI Tryz.prog 220 (Value.agg #[Value.pointer none, Value.int .i64 0, Value.int .i64 0]) 3 24 := ti_mk (by kernel_rfl)
theorem ti221 : TI Tryz.prog 221 (Value.slice none 0 0) 1 24 := ti_mk (by kernel_rfl)
theorem ti222 : TI Tryz.prog 222 (Value.agg #[Value.nilFunc]) 1 8 := ti_mk (by kernel_rfl)
theorem ti223 : TI Tryz.prog 223 (Value.agg #[Value.nilFunc]) 1 8 := ti_mk (by kernel_rfl)
theorem ti226 : TI Tryz.prog 226 (Value.int .u64 0) 1 8 := ti_mk (by kernel_rfl)
theorem ti227 : TI Tryz.prog 227 (Value.agg #[Value.int .u64 0, Value.int .i64 0, Value.int .u64 0]) 3 24 := ti_mk (by kernel_rfl)
theorem ti228 : TI Tryz.prog 228 (Value.agg #[Value.int .u64 0, Value.int .i64 0, Value.int .u64 0]) 3 24 := ti_mk (by kernel_rfl)
theorem ti232 : TI Tryz.prog 232 (Value.agg #[Value.pointer none, Value.int .i64 0, Value.int .i64 0, Value.int .u64 0, Value.int .i64 0, Value.int .u64 0, Value.int .i64 0, Value.int .i64 0, Value.bool false]) 9 72 := ti_mk (by kernel_rfl)
theorem ti233 : TI Tryz.prog 233 (Value.agg #[Value.pointer none, Value.int .i64 0, Value.int .i64 0, Value.int .u64 0, Value.int .i64 0, Value.int .u64 0, Value.int .i64 0, Value.int .i64 0, Value.bool false]) 9 72 := ti_mk (by kernel_rfl)
theorem ti241 : TI Tryz.prog 241 (Value.int .i64 0) 1 8 := ti_mk (by kernel_rfl)
theorem ti250 : TI Tryz.prog 250 (Value.agg #[Value.pointer none, Value.int .i64 0, Value.pointer none, Value.pointer none]) 4 32 := ti_mk (by kernel_rfl)
theorem ti251 : TI Tryz.prog 251 (Value.agg #[Value.pointer none, Value.int .i64 0, Value.pointer none, Value.pointer none]) 4 32 := ti_mk (by kernel_rfl)
theorem ti254 : TI Tryz.prog 254 (Value.pointer none) 1 8 := ti_mk (by kernel_rfl)
theorem ti255 : TI Tryz.prog 255 (Value.agg #[Value.pointer none, Value.slice none 0 0]) 2 32 := ti_mk (by kernel_rfl)
theorem ti256 : TI Tryz.prog 256 (Value.agg #[Value.pointer none, Value.slice none 0 0]) 2 32 := ti_mk (by kernel_rfl)
theorem ti257 : TI Tryz.prog 257 (Value.agg #[Value.int .u8 0, Value.int .u8 0, Value.int .u8 0, Value.int .u8 0]) 4 4 := ti_mk (by kernel_rfl)
theorem ti258 : TI Tryz.prog 258 (Value.nilIface) 1 16 := ti_mk (by kernel_rfl)
theorem ti259 : TI Tryz.prog 259 (Value.nilIface) 1 16 := ti_mk (by kernel_rfl)
theorem ti265 : TI Tryz.prog 265 (Value.agg #[Value.string ⟨#[]⟩, Value.bool false]) 2 24 := ti_mk (by kernel_rfl)
theorem ti266 : TI Tryz.prog 266 (Value.agg #[Value.string ⟨#[]⟩, Value.bool false]) 2 24 := ti_mk (by kernel_rfl)
theorem ti267 : TI Tryz.prog 267 (Value.agg #[Value.string ⟨#[]⟩, Value.bool false, Value.int .i64 0]) 3 32 := ti_mk (by kernel_rfl)
theorem ti268 : TI Tryz.prog 268 (Value.agg #[Value.string ⟨#[]⟩, Value.bool false, Value.int .i64 0]) 3 32 := ti_mk (by kernel_rfl)
theorem ti279 : TI Tryz.prog 279 (Value.nilFunc) 1 8 := ti_mk (by kernel_rfl)
theorem ti285 : TI Tryz.prog 285 (Value.agg #[Value.slice none 0 0, Value.map none]) 2 32 := ti_mk (by kernel_rfl)
theorem ti286 : TI Tryz.prog 286 (Value.agg #[Value.slice none 0 0, Value.map none]) 2 32 := ti_mk (by kernel_rfl)
theorem ti287 : TI Tryz.prog 287 (Value.agg #[Value.int .i64 0, Value.slice none 0 0, Value.map none, Value.slice none 0 0, Value.map none, Value.slice none 0 0, Value.map none, Value.slice none 0 0, Value.map none, Value.int .i64 0, Value.map none]) 11 152 := ti_mk (by kernel_rfl)
theorem ti288 : TI Tryz.prog 288 (Value.agg #[Value.int .i64 0, Value.slice none 0 0, Value.map none, Value.slice none 0 0, Value.map none, Value.slice none 0 0, Value.map none, Value.slice none 0 0, Value.map none, Value.int .i64 0, Value.map none]) 11 152 := ti_mk (by kernel_rfl)
theorem ti289 : TI Tryz.prog 289 (Value.int .u64 0) 1 8 := ti_mk (by kernel_rfl)
theorem ti293 : TI Tryz.prog 293 (Value.pointer none) 1 8 := ti_mk (by kernel_rfl)
theorem ti301 : TI Tryz.prog 301 (Value.pointer none) 1 8 := ti_mk (by kernel_rfl)
theorem ti310 : TI Tryz.prog 310 (Value.pointer none) 1 8 := ti_mk (by kernel_rfl)
theorem ti311 : TI Tryz.prog 311 (Value.slice none 0 0) 1 24 := ti_mk (by kernel_rfl)
theorem ti315 : TI Tryz.prog 315 (Value.pointer none) 1 8 := ti_mk (by kernel_rfl)
theorem ti319 : TI Tryz.prog 319 (Value.pointer none) 1 8 := ti_mk (by kernel_rfl)
theorem ti330 : TI Tryz.prog 330 (Value.agg #[Value.pointer none, Value.pointer none, Value.pointer none, Value.string ⟨#[]⟩]) 4 40 := ti_mk (by kernel_rfl)
theorem ti331 : TI Tryz.prog 331 (Value.agg #[Value.pointer none, Value.pointer none, Value.pointer none, Value.string ⟨#[]⟩]) 4 40 := ti_mk (by kernel_rfl)
theorem ti332 : TI Tryz.prog 332 (Value.agg #[]) 0 0 := ti_mk (by kernel_rfl)
theorem ti333 : TI Tryz.prog 333 (Value.agg #[]) 0 0 := ti_mk (by kernel_rfl)
theorem ti334 : TI Tryz.prog 334 (Value.agg #[]) 0 0 := ti_mk (by kernel_rfl)
theorem ti335 : TI Tryz.prog 335 (Value.int .u8 0) 1 1 := ti_mk (by kernel_rfl)
theorem ti336 : TI Tryz.prog 336 (Value.int .u8 0) 1 1 := ti_mk (by kernel_rfl)
theorem ti338 : TI Tryz.prog 338 (Value.int .i32 0) 1 4 := ti_mk (by kernel_rfl)
theorem ti339 : TI Tryz.prog 339 (Value.int .i32 0) 1 4 := ti_mk (by kernel_rfl)
theorem ti340 : TI Tryz.prog 340 (Value.agg #[Value.int .u64 0, Value.int .u64 0, Value.int .u32 0, Value.int .u8 0, Value.int .u8 0, Value.int .u8 0, Value.int .u8 0, Value.nilFunc, Value.pointer none, Value.int .i32 0, Value.int .i32 0]) 11 48 := ti_mk (by kernel_rfl)
theorem ti341 : TI Tryz.prog 341 (Value.agg #[Value.int .u64 0, Value.int .u64 0, Value.int .u32 0, Value.int .u8 0, Value.int .u8 0, Value.int .u8 0, Value.int .u8 0, Value.nilFunc, Value.pointer none, Value.int .i32 0, Value.int .i32 0]) 11 48 := ti_mk (by kernel_rfl)
theorem fl7_0 : Fld Tryz.prog 7 0 0 1 false := ⟨_, _, _, _, _, Tryz.underlying7, rfl, rfl, ti2, Tryz.underlying2, rfl⟩
theorem fl7_1 : Fld Tryz.prog 7 1 1 1 false := ⟨_, _, _, _, _, Tryz.underlying7, rfl, rfl, ti3, Tryz.underlying3, rfl⟩
theorem fl7_2 : Fld Tryz.prog 7 2 2 1 false := ⟨_, _, _, _, _, Tryz.underlying7, rfl, rfl, ti4, Tryz.underlying4, rfl⟩
theorem fl7_3 : Fld Tryz.prog 7 3 3 1 false := ⟨_, _, _, _, _, Tryz.underlying7, rfl, rfl, ti6, Tryz.underlying6, rfl⟩
theorem sp7 : SP Tryz.prog 7 [(0, 1), (1, 1), (2, 1), (3, 1)] := ⟨_, Tryz.underlying7, fun _ => by simp [ti2.size, ti3.size, ti4.size, ti6.size, Sem.run_bind, Sem.run_pure]⟩
theorem fl8_0 : Fld Tryz.prog 8 0 0 1 false := ⟨_, _, _, _, _, Tryz.underlying8, rfl, rfl, ti2, Tryz.underlying2, rfl⟩
theorem fl8_1 : Fld Tryz.prog 8 1 1 1 false := ⟨_, _, _, _, _, Tryz.underlying8, rfl, rfl, ti3, Tryz.underlying3, rfl⟩
theorem fl8_2 : Fld Tryz.prog 8 2 2 1 false := ⟨_, _, _, _, _, Tryz.underlying8, rfl, rfl, ti4, Tryz.underlying4, rfl⟩
theorem fl8_3 : Fld Tryz.prog 8 3 3 1 false := ⟨_, _, _, _, _, Tryz.underlying8, rfl, rfl, ti6, Tryz.underlying6, rfl⟩
theorem sp8 : SP Tryz.prog 8 [(0, 1), (1, 1), (2, 1), (3, 1)] := ⟨_, Tryz.underlying8, fun _ => by simp [ti2.size, ti3.size, ti4.size, ti6.size, Sem.run_bind, Sem.run_pure]⟩
theorem fl13_0 : Fld Tryz.prog 13 0 0 1 false := ⟨_, _, _, _, _, Tryz.underlying13, rfl, rfl, ti9, Tryz.underlying9, rfl⟩
theorem fl13_1 : Fld Tryz.prog 13 1 1 1 false := ⟨_, _, _, _, _, Tryz.underlying13, rfl, rfl, ti12, Tryz.underlying12, rfl⟩
theorem sp13 : SP Tryz.prog 13 [(0, 1), (1, 1)] := ⟨_, Tryz.underlying13, fun _ => by simp [ti12.size, ti9.size, Sem.run_bind, Sem.run_pure]⟩
theorem fl14_0 : Fld Tryz.prog 14 0 0 1 false := ⟨_, _, _, _, _, Tryz.underlying14, rfl, rfl, ti9, Tryz.underlying9, rfl⟩
theorem fl14_1 : Fld Tryz.prog 14 1 1 1 false := ⟨_, _, _, _, _, Tryz.underlying14, rfl, rfl, ti12, Tryz.underlying12, rfl⟩
theorem sp14 : SP Tryz.prog 14 [(0, 1), (1, 1)] := ⟨_, Tryz.underlying14, fun _ => by simp [ti12.size, ti9.size, Sem.run_bind, Sem.run_pure]⟩
theorem fl18_0 : Fld Tryz.prog 18 0 0 1 false := ⟨_, _, _, _, _, Tryz.underlying18, rfl, rfl, ti17, Tryz.underlying17, rfl⟩
theorem sp18 : SP Tryz.prog 18 [(0, 1)] := ⟨_, Tryz.underlying18, fun _ => by simp [ti17.size, Sem.run_bind, Sem.run_pure]⟩
theorem fl19_0 : Fld Tryz.prog 19 0 0 1 false := ⟨_, _, _, _, _, Tryz.underlying19, rfl, rfl, ti17, Tryz.underlying17, rfl⟩
theorem sp19 : SP Tryz.prog 19 [(0, 1)] := ⟨_, Tryz.underlying19, fun _ => by simp [ti17.size, Sem.run_bind, Sem.run_pure]⟩
theorem fl38_0 : Fld Tryz.prog 38 0 0 1 false := ⟨_, _, _, _, _, Tryz.underlying38, rfl, rfl, ti3, Tryz.underlying3, rfl⟩
theorem fl38_1 : Fld Tryz.prog 38 1 1 1 false := ⟨_, _, _, _, _, Tryz.underlying38, rfl, rfl, ti9, Tryz.underlying9, rfl⟩
theorem sp38 : SP Tryz.prog 38 [(0, 1), (1, 1)] := ⟨_, Tryz.underlying38, fun _ => by simp [ti3.size, ti9.size, Sem.run_bind, Sem.run_pure]⟩
theorem fl39_0 : Fld Tryz.prog 39 0 0 1 false := ⟨_, _, _, _, _, Tryz.underlying39, rfl, rfl, ti3, Tryz.underlying3, rfl⟩
theorem fl39_1 : Fld Tryz.prog 39 1 1 1 false := ⟨_, _, _, _, _, Tryz.underlying39, rfl, rfl, ti9, Tryz.underlying9, rfl⟩
theorem sp39 : SP Tryz.prog 39 [(0, 1), (1, 1)] := ⟨_, Tryz.underlying39, fun _ => by simp [ti3.size, ti9.size, Sem.run_bind, Sem.run_pure]⟩
theorem fl46_0 : Fld Tryz.prog 46 0 0 1 false := ⟨_, _, _, _, _, Tryz.underlying46, rfl, rfl, ti3, Tryz.underlying3, rfl⟩
theorem fl46_1 : Fld Tryz.prog 46 1 1 1 false := ⟨_, _, _, _, _, Tryz.underlying46, rfl, rfl, ti3, Tryz.underlying3, rfl⟩
theorem sp46 : SP Tryz.prog 46 [(0, 1), (1, 1)] := ⟨_, Tryz.underlying46, fun _ => by simp [ti3.size, Sem.run_bind, Sem.run_pure]⟩
theorem fl47_0 : Fld Tryz.prog 47 0 0 1 false := ⟨_, _, _, _, _, Tryz.underlying47, rfl, rfl, ti3, Tryz.underlying3, rfl⟩
theorem fl47_1 : Fld Tryz.prog 47 1 1 1 false := ⟨_, _, _, _, _, Tryz.underlying47, rfl, rfl, ti3, Tryz.underlying3, rfl⟩
theorem sp47 : SP Tryz.prog 47 [(0, 1), (1, 1)] := ⟨_, Tryz.underlying47, fun _ => by simp [ti3.size, Sem.run_bind, Sem.run_pure]⟩
theorem fl48_0 : Fld Tryz.prog 48 0 0 1 false := ⟨_, _, _, _, _, Tryz.underlying48, rfl, rfl, ti5, Tryz.underlying5, rfl⟩
theorem fl48_1 : Fld Tryz.prog 48 1 1 1 false := ⟨_, _, _, _, _, Tryz.underlying48, rfl, rfl, ti9, Tryz.underlying9, rfl⟩
theorem fl48_2 : Fld Tryz.prog 48 2 2 2 true := ⟨_, _, _, _, _, Tryz.underlying48, rfl, rfl, ti47, Tryz.underlying47, rfl⟩
theorem fl48_3 : Fld Tryz.prog 48 3 4 1 false := ⟨_, _, _, _, _, Tryz.underlying48, rfl, rfl, ti9, Tryz.underlying9, rfl⟩
theorem sp48 : SP Tryz.prog 48 [(0, 1), (1, 1), (2, 2), (4, 1)] := ⟨_, Tryz.underlying48, fun _ => by simp [ti47.size, ti5.size, ti9.size, Sem.run_bind, Sem.run_pure]⟩
theorem fl49_0 : Fld Tryz.prog 49 0 0 1 false := ⟨_, _, _, _, _, Tryz.underlying49, rfl, rfl, ti5, Tryz.underlying5, rfl⟩
theorem fl49_1 : Fld Tryz.prog 49 1 1 1 false := ⟨_, _, _, _, _, Tryz.underlying49, rfl, rfl, ti9, Tryz.underlying9, rfl⟩
theorem fl49_2 : Fld Tryz.prog 49 2 2 2 true := ⟨_, _, _, _, _, Tryz.underlying49, rfl, rfl, ti47, Tryz.underlying47, rfl⟩
theorem fl49_3 : Fld Tryz.prog 49 3 4 1 false := ⟨_, _, _, _, _, Tryz.underlying49, rfl, rfl, ti9, Tryz.underlying9, rfl⟩
theorem sp49 : SP Tryz.prog 49 [(0, 1), (1, 1), (2, 2), (4, 1)] := ⟨_, Tryz.underlying49, fun _ => by simp [ti47.size, ti5.size, ti9.size, Sem.run_bind, Sem.run_pure]⟩
theorem fl57_0 : Fld Tryz.prog 57 0 0 1 false := ⟨_, _, _, _, _, Tryz.underlying57, rfl, rfl, ti52, Tryz.underlying52, rfl⟩
theorem fl57_1 : Fld Tryz.prog 57 1 1 1 false := ⟨_, _, _, _, _, Tryz.underlying57, rfl, rfl, ti56, Tryz.underlying56, rfl⟩
theorem sp57 : SP Tryz.prog 57 [(0, 1), (1, 1)] := ⟨_, Tryz.underlying57, fun _ => by simp [ti52.size, ti56.size, Sem.run_bind, Sem.run_pure]⟩
theorem fl58_0 : Fld Tryz.prog 58 0 0 1 false := ⟨_, _, _, _, _, Tryz.underlying58, rfl, rfl, ti52, Tryz.underlying52, rfl⟩
theorem fl58_1 : Fld Tryz.prog 58 1 1 1 false := ⟨_, _, _, _, _, Tryz.underlying58, rfl, rfl, ti56, Tryz.underlying56, rfl⟩
theorem sp58 : SP Tryz.prog 58 [(0, 1), (1, 1)] := ⟨_, Tryz.underlying58, fun _ => by simp [ti52.size, ti56.size, Sem.run_bind, Sem.run_pure]⟩
theorem fl64_0 : Fld Tryz.prog 64 0 0 1 false := ⟨_, _, _, _, _, Tryz.underlying64, rfl, rfl, ti3, Tryz.underlying3, rfl⟩
theorem fl64_1 : Fld Tryz.prog 64 1 1 1 false := ⟨_, _, _, _, _, Tryz.underlying64, rfl, rfl, ti3, Tryz.underlying3, rfl⟩
theorem sp64 : SP Tryz.prog 64 [(0, 1), (1, 1)] := ⟨_, Tryz.underlying64, fun _ => by simp [ti3.size, Sem.run_bind, Sem.run_pure]⟩
theorem fl65_0 : Fld Tryz.prog 65 0 0 1 false := ⟨_, _, _, _, _, Tryz.underlying65, rfl, rfl, ti3, Tryz.underlying3, rfl⟩
theorem fl65_1 : Fld Tryz.prog 65 1 1 1 false := ⟨_, _, _, _, _, Tryz.underlying65, rfl, rfl, ti3, Tryz.underlying3, rfl⟩
theorem sp65 : SP Tryz.prog 65 [(0, 1), (1, 1)] := ⟨_, Tryz.underlying65, fun _ => by simp [ti3.size, Sem.run_bind, Sem.run_pure]⟩
theorem fl67_0 : Fld Tryz.prog 67 0 0 1 false := ⟨_, _, _, _, _, Tryz.underlying67, rfl, rfl, ti3, Tryz.underlying3, rfl⟩
theorem sp67 : SP Tryz.prog 67 [(0, 1)] := ⟨_, Tryz.underlying67, fun _ => by simp [ti3.size, Sem.run_bind, Sem.run_pure]⟩
theorem fl68_0 : Fld Tryz.prog 68 0 0 1 false := ⟨_, _, _, _, _, Tryz.underlying68, rfl, rfl, ti3, Tryz.underlying3, rfl⟩
theorem sp68 : SP Tryz.prog 68 [(0, 1)] := ⟨_, Tryz.underlying68, fun _ => by simp [ti3.size, Sem.run_bind, Sem.run_pure]⟩
theorem fl74_0 : Fld Tryz.prog 74 0 0 1 false := ⟨_, _, _, _, _, Tryz.underlying74, rfl, rfl, ti5, Tryz.underlying5, rfl⟩
theorem fl74_1 : Fld Tryz.prog 74 1 1 1 false := ⟨_, _, _, _, _, Tryz.underlying74, rfl, rfl, ti9, Tryz.underlying9, rfl⟩
theorem sp74 : SP Tryz.prog 74 [(0, 1), (1, 1)] := ⟨_, Tryz.underlying74, fun _ => by simp [ti5.size, ti9.size, Sem.run_bind, Sem.run_pure]⟩
theorem fl75_0 : Fld Tryz.prog 75 0 0 1 false := ⟨_, _, _, _, _, Tryz.underlying75, rfl, rfl, ti5, Tryz.underlying5, rfl⟩
theorem fl75_1 : Fld Tryz.prog 75 1 1 1 false := ⟨_, _, _, _, _, Tryz.underlying75, rfl, rfl, ti9, Tryz.underlying9, rfl⟩
theorem sp75 : SP Tryz.prog 75 [(0, 1), (1, 1)] := ⟨_, Tryz.underlying75, fun _ => by simp [ti5.size, ti9.size, Sem.run_bind, Sem.run_pure]⟩
theorem fl81_0 : Fld Tryz.prog 81 0 0 1 false := ⟨_, _, _, _, _, Tryz.underlying81, rfl, rfl, ti3, Tryz.underlying3, rfl⟩
theorem fl81_1 : Fld Tryz.prog 81 1 1 1 false := ⟨_, _, _, _, _, Tryz.underlying81, rfl, rfl, ti3, Tryz.underlying3, rfl⟩
theorem fl81_2 : Fld Tryz.prog 81 2 2 1 false := ⟨_, _, _, _, _, Tryz.underlying81, rfl, rfl, ti3, Tryz.underlying3, rfl⟩
theorem fl81_3 : Fld Tryz.prog 81 3 3 1 false := ⟨_, _, _, _, _, Tryz.underlying81, rfl, rfl, ti3, Tryz.underlying3, rfl⟩
theorem fl81_4 : Fld Tryz.prog 81 4 4 1 false := ⟨_, _, _, _, _, Tryz.underlying81, rfl, rfl, ti3, Tryz.underlying3, rfl⟩
theorem fl81_5 : Fld Tryz.prog 81 5 5 1 false := ⟨_, _, _, _, _, Tryz.underlying81, rfl, rfl, ti80, Tryz.underlying80, rfl⟩
theorem fl81_6 : Fld Tryz.prog 81 6 6 1 false := ⟨_, _, _, _, _, Tryz.underlying81, rfl, rfl, ti25, Tryz.underlying25, rfl⟩
theorem fl81_7 : Fld Tryz.prog 81 7 7 1 false := ⟨_, _, _, _, _, Tryz.underlying81, rfl, rfl, ti78, Tryz.underlying78, rfl⟩
theorem fl81_8 : Fld Tryz.prog 81 8 8 1 false := ⟨_, _, _, _, _, Tryz.underlying81, rfl, rfl, ti78, Tryz.underlying78, rfl⟩
theorem sp81 : SP Tryz.prog 81 [(0, 1), (1, 1), (2, 1), (3, 1), (4, 1), (5, 1), (6, 1), (7, 1), (8, 1)] := ⟨_, Tryz.underlying81, fun _ => by simp [ti25.size, ti3.size, ti78.size, ti80.size, Sem.run_bind, Sem.run_pure]⟩
theorem fl82_0 : Fld Tryz.prog 82 0 0 1 false := ⟨_, _, _, _, _, Tryz.underlying82, rfl, rfl, ti3, Tryz.underlying3, rfl⟩
theorem fl82_1 : Fld Tryz.prog 82 1 1 1 false := ⟨_, _, _, _, _, Tryz.underlying82, rfl, rfl, ti3, Tryz.underlying3, rfl⟩
theorem fl82_2 : Fld Tryz.prog 82 2 2 1 false := ⟨_, _, _, _, _, Tryz.underlying82, rfl, rfl, ti3, Tryz.underlying3, rfl⟩
theorem fl82_3 : Fld Tryz.prog 82 3 3 1 false := ⟨_, _, _, _, _, Tryz.underlying82, rfl, rfl, ti3, Tryz.underlying3, rfl⟩
theorem fl82_4 : Fld Tryz.prog 82 4 4 1 false := ⟨_, _, _, _, _, Tryz.underlying82, rfl, rfl, ti3, Tryz.underlying3, rfl⟩
theorem fl82_5 : Fld Tryz.prog 82 5 5 1 false := ⟨_, _, _, _, _, Tryz.underlying82, rfl, rfl, ti80, Tryz.underlying80, rfl⟩
theorem fl82_6 : Fld Tryz.prog 82 6 6 1 false := ⟨_, _, _, _, _, Tryz.underlying82, rfl, rfl, ti25, Tryz.underlying25, rfl⟩
theorem fl82_7 : Fld Tryz.prog 82 7 7 1 false := ⟨_, _, _, _, _, Tryz.underlying82, rfl, rfl, ti78, Tryz.underlying78, rfl⟩
theorem fl82_8 : Fld Tryz.prog 82 8 8 1 false := ⟨_, _, _, _, _, Tryz.underlying82, rfl, rfl, ti78, Tryz.underlying78, rfl⟩
theorem sp82 : SP Tryz.prog 82 [(0, 1), (1, 1), (2, 1), (3, 1), (4, 1), (5, 1), (6, 1), (7, 1), (8, 1)] := ⟨_, Tryz.underlying82, fun _ => by simp [ti25.size, ti3.size, ti78.size, ti80.size, Sem.run_bind, Sem.run_pure]⟩
theorem fl91_0 : Fld Tryz.prog 91 0 0 1 false := ⟨_, _, _, _, _, Tryz.underlying91, rfl, rfl, ti4, Tryz.underlying4, rfl⟩
theorem fl91_1 : Fld Tryz.prog 91 1 1 1 false := ⟨_, _, _, _, _, Tryz.underlying91, rfl, rfl, ti89, Tryz.underlying89, rfl⟩
theorem fl91_2 : Fld Tryz.prog 91 2 2 1 false := ⟨_, _, _, _, _, Tryz.underlying91, rfl, rfl, ti89, Tryz.underlying89, rfl⟩
theorem fl91_3 : Fld Tryz.prog 91 3 3 1 false := ⟨_, _, _, _, _, Tryz.underlying91, rfl, rfl, ti90, Tryz.underlying90, rfl⟩
theorem sp91 : SP Tryz.prog 91 [(0, 1), (1, 1), (2, 1), (3, 1)] := ⟨_, Tryz.underlying91, fun _ => by simp [ti4.size, ti89.size, ti90.size, Sem.run_bind, Sem.run_pure]⟩
theorem fl92_0 : Fld Tryz.prog 92 0 0 1 false := ⟨_, _, _, _, _, Tryz.underlying92, rfl, rfl, ti4, Tryz.underlying4, rfl⟩
theorem fl92_1 : Fld Tryz.prog 92 1 1 1 false := ⟨_, _, _, _, _, Tryz.underlying92, rfl, rfl, ti89, Tryz.underlying89, rfl⟩
theorem fl92_2 : Fld Tryz.prog 92 2 2 1 false := ⟨_, _, _, _, _, Tryz.underlying92, rfl, rfl, ti89, Tryz.underlying89, rfl⟩
theorem fl92_3 : Fld Tryz.prog 92 3 3 1 false := ⟨_, _, _, _, _, Tryz.underlying92, rfl, rfl, ti90, Tryz.underlying90, rfl⟩
theorem sp92 : SP Tryz.prog 92 [(0, 1), (1, 1), (2, 1), (3, 1)] := ⟨_, Tryz.underlying92, fun _ => by simp [ti4.size, ti89.size, ti90.size, Sem.run_bind, Sem.run_pure]⟩
theorem fl106_0 : Fld Tryz.prog 106 0 0 1 false := ⟨_, _, _, _, _, Tryz.underlying106, rfl, rfl, ti9, Tryz.underlying9, rfl⟩
theorem fl106_1 : Fld Tryz.prog 106 1 1 1 false := ⟨_, _, _, _, _, Tryz.underlying106, rfl, rfl, ti9, Tryz.underlying9, rfl⟩
theorem sp106 : SP Tryz.prog 106 [(0, 1), (1, 1)] := ⟨_, Tryz.underlying106, fun _ => by simp [ti9.size, Sem.run_bind, Sem.run_pure]⟩
theorem fl107_0 : Fld Tryz.prog 107 0 0 1 false := ⟨_, _, _, _, _, Tryz.underlying107, rfl, rfl, ti9, Tryz.underlying9, rfl⟩
theorem fl107_1 : Fld Tryz.prog 107 1 1 1 false := ⟨_, _, _, _, _, Tryz.underlying107, rfl, rfl, ti9, Tryz.underlying9, rfl⟩
theorem sp107 : SP Tryz.prog 107 [(0, 1), (1, 1)] := ⟨_, Tryz.underlying107, fun _ => by simp [ti9.size, Sem.run_bind, Sem.run_pure]⟩
theorem fl116_0 : Fld Tryz.prog 116 0 0 1 false := ⟨_, _, _, _, _, Tryz.underlying116, rfl, rfl, ti3, Tryz.underlying3, rfl⟩
theorem fl116_1 : Fld Tryz.prog 116 1 1 1 false := ⟨_, _, _, _, _, Tryz.underlying116, rfl, rfl, ti3, Tryz.underlying3, rfl⟩
theorem fl116_2 : Fld Tryz.prog 116 2 2 1 false := ⟨_, _, _, _, _, Tryz.underlying116, rfl, rfl, ti3, Tryz.underlying3, rfl⟩
theorem fl116_3 : Fld Tryz.prog 116 3 3 1 false := ⟨_, _, _, _, _, Tryz.underlying116, rfl, rfl, ti3, Tryz.underlying3, rfl⟩
theorem sp116 : SP Tryz.prog 116 [(0, 1), (1, 1), (2, 1), (3, 1)] := ⟨_, Tryz.underlying116, fun _ => by simp [ti3.size, Sem.run_bind, Sem.run_pure]⟩
theorem fl117_0 : Fld Tryz.prog 117 0 0 1 false := ⟨_, _, _, _, _, Tryz.underlying117, rfl, rfl, ti3, Tryz.underlying3, rfl⟩
theorem fl117_1 : Fld Tryz.prog 117 1 1 1 false := ⟨_, _, _, _, _, Tryz.underlying117, rfl, rfl, ti3, Tryz.underlying3, rfl⟩
theorem fl117_2 : Fld Tryz.prog 117 2 2 1 false := ⟨_, _, _, _, _, Tryz.underlying117, rfl, rfl, ti3, Tryz.underlying3, rfl⟩
theorem fl117_3 : Fld Tryz.prog 117 3 3 1 false := ⟨_, _, _, _, _, Tryz.underlying117, rfl, rfl, ti3, Tryz.underlying3, rfl⟩
theorem sp117 : SP Tryz.prog 117 [(0, 1), (1, 1), (2, 1), (3, 1)] := ⟨_, Tryz.underlying117, fun _ => by simp [ti3.size, Sem.run_bind, Sem.run_pure]⟩
theorem fl119_0 : Fld Tryz.prog 119 0 0 4 true := ⟨_, _, _, _, _, Tryz.underlying119, rfl, rfl, ti117, Tryz.underlying117, rfl⟩
theorem fl119_1 : Fld Tryz.prog 119 1 4 1 false := ⟨_, _, _, _, _, Tryz.underlying119, rfl, rfl, ti61, Tryz.underlying61, rfl⟩
theorem fl119_2 : Fld Tryz.prog 119 2 5 1 false := ⟨_, _, _, _, _, Tryz.underlying119, rfl, rfl, ti118, Tryz.underlying118, rfl⟩
theorem fl119_3 : Fld Tryz.prog 119 3 6 1 false := ⟨_, _, _, _, _, Tryz.underlying119, rfl, rfl, ti59, Tryz.underlying59, rfl⟩
theorem fl119_4 : Fld Tryz.prog 119 4 7 1 false := ⟨_, _, _, _, _, Tryz.underlying119, rfl, rfl, ti76, Tryz.underlying76, rfl⟩
theorem fl119_5 : Fld Tryz.prog 119 5 8 1 false := ⟨_, _, _, _, _, Tryz.underlying119, rfl, rfl, ti22, Tryz.underlying22, rfl⟩
theorem fl119_6 : Fld Tryz.prog 119 6 9 1 false := ⟨_, _, _, _, _, Tryz.underlying119, rfl, rfl, ti4, Tryz.underlying4, rfl⟩
theorem sp119 : SP Tryz.prog 119 [(0, 4), (4, 1), (5, 1), (6, 1), (7, 1), (8, 1), (9, 1)] := ⟨_, Tryz.underlying119, fun _ => by simp [ti117.size, ti118.size, ti22.size, ti4.size, ti59.size, ti61.size, ti76.size, Sem.run_bind, Sem.run_pure]⟩
theorem fl120_0 : Fld Tryz.prog 120 0 0 4 true := ⟨_, _, _, _, _, Tryz.underlying120, rfl, rfl, ti117, Tryz.underlying117, rfl⟩
theorem fl120_1 : Fld Tryz.prog 120 1 4 1 false := ⟨_, _, _, _, _, Tryz.underlying120, rfl, rfl, ti61, Tryz.underlying61, rfl⟩
theorem fl120_2 : Fld Tryz.prog 120 2 5 1 false := ⟨_, _, _, _, _, Tryz.underlying120, rfl, rfl, ti118, Tryz.underlying118, rfl⟩
theorem fl120_3 : Fld Tryz.prog 120 3 6 1 false := ⟨_, _, _, _, _, Tryz.underlying120, rfl, rfl, ti59, Tryz.underlying59, rfl⟩
theorem fl120_4 : Fld Tryz.prog 120 4 7 1 false := ⟨_, _, _, _, _, Tryz.underlying120, rfl, rfl, ti76, Tryz.underlying76, rfl⟩
theorem fl120_5 : Fld Tryz.prog 120 5 8 1 false := ⟨_, _, _, _, _, Tryz.underlying120, rfl, rfl, ti22, Tryz.underlying22, rfl⟩
theorem fl120_6 : Fld Tryz.prog 120 6 9 1 false := ⟨_, _, _, _, _, Tryz.underlying120, rfl, rfl, ti4, Tryz.underlying4, rfl⟩
theorem sp120 : SP Tryz.prog 120 [(0, 4), (4, 1), (5, 1), (6, 1), (7, 1), (8, 1), (9, 1)] := ⟨_, Tryz.underlying120, fun _ => by simp [ti117.size, ti118.size, ti22.size, ti4.size, ti59.size, ti61.size, ti76.size, Sem.run_bind, Sem.run_pure]⟩
theorem fl127_0 : Fld Tryz.prog 127 0 0 1 false := ⟨_, _, _, _, _, Tryz.underlying127, rfl, rfl, ti45, Tryz.underlying45, rfl⟩
theorem fl127_1 : Fld Tryz.prog 127 1 1 1 false := ⟨_, _, _, _, _, Tryz.underlying127, rfl, rfl, ti76, Tryz.underlying76, rfl⟩
theorem fl127_2 : Fld Tryz.prog 127 2 2 1 false := ⟨_, _, _, _, _, Tryz.underlying127, rfl, rfl, ti126, Tryz.underlying126, rfl⟩
theorem fl127_3 : Fld Tryz.prog 127 3 3 1 false := ⟨_, _, _, _, _, Tryz.underlying127, rfl, rfl, ti25, Tryz.underlying25, rfl⟩
theorem sp127 : SP Tryz.prog 127 [(0, 1), (1, 1), (2, 1), (3, 1)] := ⟨_, Tryz.underlying127, fun _ => by simp [ti126.size, ti25.size, ti45.size, ti76.size, Sem.run_bind, Sem.run_pure]⟩
theorem fl128_0 : Fld Tryz.prog 128 0 0 1 false := ⟨_, _, _, _, _, Tryz.underlying128, rfl, rfl, ti45, Tryz.underlying45, rfl⟩
theorem fl128_1 : Fld Tryz.prog 128 1 1 1 false := ⟨_, _, _, _, _, Tryz.underlying128, rfl, rfl, ti76, Tryz.underlying76, rfl⟩
theorem fl128_2 : Fld Tryz.prog 128 2 2 1 false := ⟨_, _, _, _, _, Tryz.underlying128, rfl, rfl, ti126, Tryz.underlying126, rfl⟩
theorem fl128_3 : Fld Tryz.prog 128 3 3 1 false := ⟨_, _, _, _, _, Tryz.underlying128, rfl, rfl, ti25, Tryz.underlying25, rfl⟩
theorem sp128 : SP Tryz.prog 128 [(0, 1), (1, 1), (2, 1), (3, 1)] := ⟨_, Tryz.underlying128, fun _ => by simp [ti126.size, ti25.size, ti45.size, ti76.size, Sem.run_bind, Sem.run_pure]⟩
theorem fl133_0 : Fld Tryz.prog 133 0 0 1 false := ⟨_, _, _, _, _, Tryz.underlying133, rfl, rfl, ti25, Tryz.underlying25, rfl⟩
theorem fl133_1 : Fld Tryz.prog 133 1 1 1 false := ⟨_, _, _, _, _, Tryz.underlying133, rfl, rfl, ti3, Tryz.underlying3, rfl⟩
theorem fl133_2 : Fld Tryz.prog 133 2 2 1 false := ⟨_, _, _, _, _, Tryz.underlying133, rfl, rfl, ti5, Tryz.underlying5, rfl⟩
theorem sp133 : SP Tryz.prog 133 [(0, 1), (1, 1), (2, 1)] := ⟨_, Tryz.underlying133, fun _ => by simp [ti25.size, ti3.size, ti5.size, Sem.run_bind, Sem.run_pure]⟩
theorem fl134_0 : Fld Tryz.prog 134 0 0 1 false := ⟨_, _, _, _, _, Tryz.underlying134, rfl, rfl, ti25, Tryz.underlying25, rfl⟩
theorem fl134_1 : Fld Tryz.prog 134 1 1 1 false := ⟨_, _, _, _, _, Tryz.underlying134, rfl, rfl, ti3, Tryz.underlying3, rfl⟩
theorem fl134_2 : Fld Tryz.prog 134 2 2 1 false := ⟨_, _, _, _, _, Tryz.underlying134, rfl, rfl, ti5, Tryz.underlying5, rfl⟩
theorem sp134 : SP Tryz.prog 134 [(0, 1), (1, 1), (2, 1)] := ⟨_, Tryz.underlying134, fun _ => by simp [ti25.size, ti3.size, ti5.size, Sem.run_bind, Sem.run_pure]⟩
theorem fl135_0 : Fld Tryz.prog 135 0 0 1 false := ⟨_, _, _, _, _, Tryz.underlying135, rfl, rfl, ti3, Tryz.underlying3, rfl⟩
theorem fl135_1 : Fld Tryz.prog 135 1 1 3 true := ⟨_, _, _, _, _, Tryz.underlying135, rfl, rfl, ti134, Tryz.underlying134, rfl⟩
theorem sp135 : SP Tryz.prog 135 [(0, 1), (1, 3)] := ⟨_, Tryz.underlying135, fun _ => by simp [ti134.size, ti3.size, Sem.run_bind, Sem.run_pure]⟩
theorem fl136_0 : Fld Tryz.prog 136 0 0 1 false := ⟨_, _, _, _, _, Tryz.underlying136, rfl, rfl, ti3, Tryz.underlying3, rfl⟩
theorem fl136_1 : Fld Tryz.prog 136 1 1 3 true := ⟨_, _, _, _, _, Tryz.underlying136, rfl, rfl, ti134, Tryz.underlying134, rfl⟩
theorem sp136 : SP Tryz.prog 136 [(0, 1), (1, 3)] := ⟨_, Tryz.underlying136, fun _ => by simp [ti134.size, ti3.size, Sem.run_bind, Sem.run_pure]⟩
theorem fl138_0 : Fld Tryz.prog 138 0 0 4 true := ⟨_, _, _, _, _, Tryz.underlying138, rfl, rfl, ti136, Tryz.underlying136, rfl⟩
theorem fl138_1 : Fld Tryz.prog 138 1 4 2 true := ⟨_, _, _, _, _, Tryz.underlying138, rfl, rfl, ti65, Tryz.underlying65, rfl⟩
theorem fl138_2 : Fld Tryz.prog 138 2 6 1 false := ⟨_, _, _, _, _, Tryz.underlying138, rfl, rfl, ti132, Tryz.underlying132, rfl⟩
theorem fl138_3 : Fld Tryz.prog 138 3 7 1 false := ⟨_, _, _, _, _, Tryz.underlying138, rfl, rfl, ti137, Tryz.underlying137, rfl⟩
theorem fl138_4 : Fld Tryz.prog 138 4 8 1 false := ⟨_, _, _, _, _, Tryz.underlying138, rfl, rfl, ti4, Tryz.underlying4, rfl⟩
theorem fl138_5 : Fld Tryz.prog 138 5 9 1 false := ⟨_, _, _, _, _, Tryz.underlying138, rfl, rfl, ti3, Tryz.underlying3, rfl⟩
theorem fl138_6 : Fld Tryz.prog 138 6 10 1 false := ⟨_, _, _, _, _, Tryz.underlying138, rfl, rfl, ti3, Tryz.underlying3, rfl⟩
theorem sp138 : SP Tryz.prog 138 [(0, 4), (4, 2), (6, 1), (7, 1), (8, 1), (9, 1), (10, 1)] := ⟨_, Tryz.underlying138, fun _ => by simp [ti132.size, ti136.size, ti137.size, ti3.size, ti4.size, ti65.size, Sem.run_bind, Sem.run_pure]⟩
theorem fl139_0 : Fld Tryz.prog 139 0 0 4 true := ⟨_, _, _, _, _, Tryz.underlying139, rfl, rfl, ti136, Tryz.underlying136, rfl⟩
theorem fl139_1 : Fld Tryz.prog 139 1 4 2 true := ⟨_, _, _, _, _, Tryz.underlying139, rfl, rfl, ti65, Tryz.underlying65, rfl⟩
theorem fl139_2 : Fld Tryz.prog 139 2 6 1 false := ⟨_, _, _, _, _, Tryz.underlying139, rfl, rfl, ti132, Tryz.underlying132, rfl⟩
theorem fl139_3 : Fld Tryz.prog 139 3 7 1 false := ⟨_, _, _, _, _, Tryz.underlying139, rfl, rfl, ti137, Tryz.underlying137, rfl⟩
theorem fl139_4 : Fld Tryz.prog 139 4 8 1 false := ⟨_, _, _, _, _, Tryz.underlying139, rfl, rfl, ti4, Tryz.underlying4, rfl⟩
theorem fl139_5 : Fld Tryz.prog 139 5 9 1 false := ⟨_, _, _, _, _, Tryz.underlying139, rfl, rfl, ti3, Tryz.underlying3, rfl⟩
theorem fl139_6 : Fld Tryz.prog 139 6 10 1 false := ⟨_, _, _, _, _, Tryz.underlying139, rfl, rfl, ti3, Tryz.underlying3, rfl⟩
theorem sp139 : SP Tryz.prog 139 [(0, 4), (4, 2), (6, 1), (7, 1), (8, 1), (9, 1), (10, 1)] := ⟨_, Tryz.underlying139, fun _ => by simp [ti132.size, ti136.size, ti137.size, ti3.size, ti4.size, ti65.size, Sem.run_bind, Sem.run_pure]⟩
theorem fl159_0 : Fld Tryz.prog 159 0 0 1 false := ⟨_, _, _, _, _, Tryz.underlying159, rfl, rfl, ti3, Tryz.underlying3, rfl⟩
theorem fl159_1 : Fld Tryz.prog 159 1 1 1 false := ⟨_, _, _, _, _, Tryz.underlying159, rfl, rfl, ti3, Tryz.underlying3, rfl⟩
theorem fl159_2 : Fld Tryz.prog 159 2 2 1 false := ⟨_, _, _, _, _, Tryz.underlying159, rfl, rfl, ti3, Tryz.underlying3, rfl⟩
theorem fl159_3 : Fld Tryz.prog 159 3 3 1 false := ⟨_, _, _, _, _, Tryz.underlying159, rfl, rfl, ti3, Tryz.underlying3, rfl⟩
theorem fl159_4 : Fld Tryz.prog 159 4 4 1 false := ⟨_, _, _, _, _, Tryz.underlying159, rfl, rfl, ti3, Tryz.underlying3, rfl⟩
theorem fl159_5 : Fld Tryz.prog 159 5 5 1 false := ⟨_, _, _, _, _, Tryz.underlying159, rfl, rfl, ti3, Tryz.underlying3, rfl⟩
theorem fl159_6 : Fld Tryz.prog 159 6 6 1 false := ⟨_, _, _, _, _, Tryz.underlying159, rfl, rfl, ti3, Tryz.underlying3, rfl⟩
theorem sp159 : SP Tryz.prog 159 [(0, 1), (1, 1), (2, 1), (3, 1), (4, 1), (5, 1), (6, 1)] := ⟨_, Tryz.underlying159, fun _ => by simp [ti3.size, Sem.run_bind, Sem.run_pure]⟩
theorem fl160_0 : Fld Tryz.prog 160 0 0 1 false := ⟨_, _, _, _, _, Tryz.underlying160, rfl, rfl, ti3, Tryz.underlying3, rfl⟩
theorem fl160_1 : Fld Tryz.prog 160 1 1 1 false := ⟨_, _, _, _, _, Tryz.underlying160, rfl, rfl, ti3, Tryz.underlying3, rfl⟩
theorem fl160_2 : Fld Tryz.prog 160 2 2 1 false := ⟨_, _, _, _, _, Tryz.underlying160, rfl, rfl, ti3, Tryz.underlying3, rfl⟩
theorem fl160_3 : Fld Tryz.prog 160 3 3 1 false := ⟨_, _, _, _, _, Tryz.underlying160, rfl, rfl, ti3, Tryz.underlying3, rfl⟩
theorem fl160_4 : Fld Tryz.prog 160 4 4 1 false := ⟨_, _, _, _, _, Tryz.underlying160, rfl, rfl, ti3, Tryz.underlying3, rfl⟩
theorem fl160_5 : Fld Tryz.prog 160 5 5 1 false := ⟨_, _, _, _, _, Tryz.underlying160, rfl, rfl, ti3, Tryz.underlying3, rfl⟩
theorem fl160_6 : Fld Tryz.prog 160 6 6 1 false := ⟨_, _, _, _, _, Tryz.underlying160, rfl, rfl, ti3, Tryz.underlying3, rfl⟩
theorem sp160 : SP Tryz.prog 160 [(0, 1), (1, 1), (2, 1), (3, 1), (4, 1), (5, 1), (6, 1)] := ⟨_, Tryz.underlying160, fun _ => by simp [ti3.size, Sem.run_bind, Sem.run_pure]⟩
theorem fl161_0 : Fld Tryz.prog 161 0 0 1 false := ⟨_, _, _, _, _, Tryz.underlying161, rfl, rfl, ti61, Tryz.underlying61, rfl⟩
theorem fl161_1 : Fld Tryz.prog 161 1 1 1 false := ⟨_, _, _, _, _, Tryz.underlying161, rfl, rfl, ti76, Tryz.underlying76, rfl⟩
theorem fl161_2 : Fld Tryz.prog 161 2 2 1 false := ⟨_, _, _, _, _, Tryz.underlying161, rfl, rfl, ti157, Tryz.underlying157, rfl⟩
theorem fl161_3 : Fld Tryz.prog 161 3 3 1 false := ⟨_, _, _, _, _, Tryz.underlying161, rfl, rfl, ti158, Tryz.underlying158, rfl⟩
theorem fl161_4 : Fld Tryz.prog 161 4 4 7 true := ⟨_, _, _, _, _, Tryz.underlying161, rfl, rfl, ti160, Tryz.underlying160, rfl⟩
theorem fl161_5 : Fld Tryz.prog 161 5 11 1 false := ⟨_, _, _, _, _, Tryz.underlying161, rfl, rfl, ti4, Tryz.underlying4, rfl⟩
theorem sp161 : SP Tryz.prog 161 [(0, 1), (1, 1), (2, 1), (3, 1), (4, 7), (11, 1)] := ⟨_, Tryz.underlying161, fun _ => by simp [ti157.size, ti158.size, ti160.size, ti4.size, ti61.size, ti76.size, Sem.run_bind, Sem.run_pure]⟩
theorem fl162_0 : Fld Tryz.prog 162 0 0 1 false := ⟨_, _, _, _, _, Tryz.underlying162, rfl, rfl, ti61, Tryz.underlying61, rfl⟩
theorem fl162_1 : Fld Tryz.prog 162 1 1 1 false := ⟨_, _, _, _, _, Tryz.underlying162, rfl, rfl, ti76, Tryz.underlying76, rfl⟩
theorem fl162_2 : Fld Tryz.prog 162 2 2 1 false := ⟨_, _, _, _, _, Tryz.underlying162, rfl, rfl, ti157, Tryz.underlying157, rfl⟩
theorem fl162_3 : Fld Tryz.prog 162 3 3 1 false := ⟨_, _, _, _, _, Tryz.underlying162, rfl, rfl, ti158, Tryz.underlying158, rfl⟩
theorem fl162_4 : Fld Tryz.prog 162 4 4 7 true := ⟨_, _, _, _, _, Tryz.underlying162, rfl, rfl, ti160, Tryz.underlying160, rfl⟩
theorem fl162_5 : Fld Tryz.prog 162 5 11 1 false := ⟨_, _, _, _, _, Tryz.underlying162, rfl, rfl, ti4, Tryz.underlying4, rfl⟩
theorem sp162 : SP Tryz.prog 162 [(0, 1), (1, 1), (2, 1), (3, 1), (4, 7), (11, 1)] := ⟨_, Tryz.underlying162, fun _ => by simp [ti157.size, ti158.size, ti160.size, ti4.size, ti61.size, ti76.size, Sem.run_bind, Sem.run_pure]⟩
theorem fl184_0 : Fld Tryz.prog 184 0 0 1 false := ⟨_, _, _, _, _, Tryz.underlying184, rfl, rfl, ti9, Tryz.underlying9, rfl⟩
theorem fl184_1 : Fld Tryz.prog 184 1 1 1 false := ⟨_, _, _, _, _, Tryz.underlying184, rfl, rfl, ti9, Tryz.underlying9, rfl⟩
theorem fl184_2 : Fld Tryz.prog 184 2 2 1 false := ⟨_, _, _, _, _, Tryz.underlying184, rfl, rfl, ti4, Tryz.underlying4, rfl⟩
theorem sp184 : SP Tryz.prog 184 [(0, 1), (1, 1), (2, 1)] := ⟨_, Tryz.underlying184, fun _ => by simp [ti4.size, ti9.size, Sem.run_bind, Sem.run_pure]⟩
theorem fl185_0 : Fld Tryz.prog 185 0 0 1 false := ⟨_, _, _, _, _, Tryz.underlying185, rfl, rfl, ti9, Tryz.underlying9, rfl⟩
theorem fl185_1 : Fld Tryz.prog 185 1 1 1 false := ⟨_, _, _, _, _, Tryz.underlying185, rfl, rfl, ti9, Tryz.underlying9, rfl⟩
theorem fl185_2 : Fld Tryz.prog 185 2 2 1 false := ⟨_, _, _, _, _, Tryz.underlying185, rfl, rfl, ti4, Tryz.underlying4, rfl⟩
theorem sp185 : SP Tryz.prog 185 [(0, 1), (1, 1), (2, 1)] := ⟨_, Tryz.underlying185, fun _ => by simp [ti4.size, ti9.size, Sem.run_bind, Sem.run_pure]⟩
theorem fl201_0 : Fld Tryz.prog 201 0 0 1 false := ⟨_, _, _, _, _, Tryz.underlying201, rfl, rfl, ti3, Tryz.underlying3, rfl⟩
theorem fl201_1 : Fld Tryz.prog 201 1 1 1 false := ⟨_, _, _, _, _, Tryz.underlying201, rfl, rfl, ti200, Tryz.underlying200, rfl⟩
theorem fl201_2 : Fld Tryz.prog 201 2 2 1 false := ⟨_, _, _, _, _, Tryz.underlying201, rfl, rfl, ti200, Tryz.underlying200, rfl⟩
theorem fl201_3 : Fld Tryz.prog 201 3 3 1 false := ⟨_, _, _, _, _, Tryz.underlying201, rfl, rfl, ti4, Tryz.underlying4, rfl⟩
theorem sp201 : SP Tryz.prog 201 [(0, 1), (1, 1), (2, 1), (3, 1)] := ⟨_, Tryz.underlying201, fun _ => by simp [ti200.size, ti3.size, ti4.size, Sem.run_bind, Sem.run_pure]⟩
theorem fl202_0 : Fld Tryz.prog 202 0 0 1 false := ⟨_, _, _, _, _, Tryz.underlying202, rfl, rfl, ti3, Tryz.underlying3, rfl⟩
theorem fl202_1 : Fld Tryz.prog 202 1 1 1 false := ⟨_, _, _, _, _, Tryz.underlying202, rfl, rfl, ti200, Tryz.underlying200, rfl⟩
theorem fl202_2 : Fld Tryz.prog 202 2 2 1 false := ⟨_, _, _, _, _, Tryz.underlying202, rfl, rfl, ti200, Tryz.underlying200, rfl⟩
theorem fl202_3 : Fld Tryz.prog 202 3 3 1 false := ⟨_, _, _, _, _, Tryz.underlying202, rfl, rfl, ti4, Tryz.underlying4, rfl⟩
theorem sp202 : SP Tryz.prog 202 [(0, 1), (1, 1), (2, 1), (3, 1)] := ⟨_, Tryz.underlying202, fun _ => by simp [ti200.size, ti3.size, ti4.size, Sem.run_bind, Sem.run_pure]⟩
theorem fl210_0 : Fld Tryz.prog 210 0 0 1 false := ⟨_, _, _, _, _, Tryz.underlying210, rfl, rfl, ti3, Tryz.underlying3, rfl⟩
theorem fl210_1 : Fld Tryz.prog 210 1 1 1 false := ⟨_, _, _, _, _, Tryz.underlying210, rfl, rfl, ti9, Tryz.underlying9, rfl⟩
theorem sp210 : SP Tryz.prog 210 [(0, 1), (1, 1)] := ⟨_, Tryz.underlying210, fun _ => by simp [ti3.size, ti9.size, Sem.run_bind, Sem.run_pure]⟩
theorem fl211_0 : Fld Tryz.prog 211 0 0 1 false := ⟨_, _, _, _, _, Tryz.underlying211, rfl, rfl, ti3, Tryz.underlying3, rfl⟩
theorem fl211_1 : Fld Tryz.prog 211 1 1 1 false := ⟨_, _, _, _, _, Tryz.underlying211, rfl, rfl, ti9, Tryz.underlying9, rfl⟩
theorem sp211 : SP Tryz.prog 211 [(0, 1), (1, 1)] := ⟨_, Tryz.underlying211, fun _ => by simp [ti3.size, ti9.size, Sem.run_bind, Sem.run_pure]⟩
theorem fl216_0 : Fld Tryz.prog 216 0 0 1 false := ⟨_, _, _, _, _, Tryz.underlying216, rfl, rfl, ti3, Tryz.underlying3, rfl⟩
theorem fl216_1 : Fld Tryz.prog 216 1 1 1 false := ⟨_, _, _, _, _, Tryz.underlying216, rfl, rfl, ti9, Tryz.underlying9, rfl⟩
theorem sp216 : SP Tryz.prog 216 [(0, 1), (1, 1)] := ⟨_, Tryz.underlying216, fun _ => by simp [ti3.size, ti9.size, Sem.run_bind, Sem.run_pure]⟩
theorem fl217_0 : Fld Tryz.prog 217 0 0 1 false := ⟨_, _, _, _, _, Tryz.underlying217, rfl, rfl, ti3, Tryz.underlying3, rfl⟩
theorem fl217_1 : Fld Tryz.prog 217 1 1 1 false := ⟨_, _, _, _, _, Tryz.underlying217, rfl, rfl, ti9, Tryz.underlying9, rfl⟩
theorem sp217 : SP Tryz.prog 217 [(0, 1), (1, 1)] := ⟨_, Tryz.underlying217, fun _ => by simp [ti3.size, ti9.size, Sem.run_bind, Sem.run_pure]⟩
theorem fl219_0 : Fld Tryz.prog 219 0 0 1 false := ⟨_, _, _, _, _, Tryz.underlying219, rfl, rfl, ti61, Tryz.underlying61, rfl⟩
theorem fl219_1 : Fld Tryz.prog 219 1 1 1 false := ⟨_, _, _, _, _, Tryz.underlying219, rfl, rfl, ti3, Tryz.underlying3, rfl⟩
theorem fl219_2 : Fld Tryz.prog 219 2 2 1 false := ⟨_, _, _, _, _, Tryz.underlying219, rfl, rfl, ti3, Tryz.underlying3, rfl⟩
theorem sp219 : SP Tryz.prog 219 [(0, 1), (1, 1), (2, 1)] := ⟨_, Tryz.underlying219, fun _ => by simp [ti3.size, ti61.size, Sem.run_bind, Sem.run_pure]⟩
theorem fl220_0 : Fld Tryz.prog 220 0 0 1 false := ⟨_, _, _, _, _, Tryz.underlying220, rfl, rfl, ti61, Tryz.underlying61, rfl⟩
theorem fl220_1 : Fld Tryz.prog 220 1 1 1 false := ⟨_, _, _, _, _, Tryz.underlying220, rfl, rfl, ti3, Tryz.underlying3, rfl⟩
theorem fl220_2 : Fld Tryz.prog 220 2 2 1 false := ⟨_, _, _, _, _, Tryz.underlying220, rfl, rfl, ti3, Tryz.underlying3, rfl⟩
theorem sp220 : SP Tryz.prog 220 [(0, 1), (1, 1), (2, 1)] := ⟨_, Tryz.underlying220, fun _ => by simp [ti3.size, ti61.size, Sem.run_bind, Sem.run_pure]⟩
theorem fl222_0 : Fld Tryz.prog 222 0 0 1 false := ⟨_, _, _, _, _, Tryz.underlying222, rfl, rfl, ti_mk (z := Value.nilFunc) (s := 1) (bytes := 8) (by kernel_rfl), Tryz.underlying33, rfl⟩
theorem fl223_0 : Fld Tryz.prog 223 0 0 1 false := ⟨_, _, _, _, _, Tryz.underlying223, rfl, rfl, ti_mk (z := Value.nilFunc) (s := 1) (bytes := 8) (by kernel_rfl), Tryz.underlying33, rfl⟩
theorem fl227_0 : Fld Tryz.prog 227 0 0 1 false := ⟨_, _, _, _, _, Tryz.underlying227, rfl, rfl, ti226, Tryz.underlying226, rfl⟩
theorem fl227_1 : Fld Tryz.prog 227 1 1 1 false := ⟨_, _, _, _, _, Tryz.underlying227, rfl, rfl, ti3, Tryz.underlying3, rfl⟩
theorem fl227_2 : Fld Tryz.prog 227 2 2 1 false := ⟨_, _, _, _, _, Tryz.underlying227, rfl, rfl, ti226, Tryz.underlying226, rfl⟩
theorem sp227 : SP Tryz.prog 227 [(0, 1), (1, 1), (2, 1)] := ⟨_, Tryz.underlying227, fun _ => by simp [ti226.size, ti3.size, Sem.run_bind, Sem.run_pure]⟩
theorem fl228_0 : Fld Tryz.prog 228 0 0 1 false := ⟨_, _, _, _, _, Tryz.underlying228, rfl, rfl, ti226, Tryz.underlying226, rfl⟩
theorem fl228_1 : Fld Tryz.prog 228 1 1 1 false := ⟨_, _, _, _, _, Tryz.underlying228, rfl, rfl, ti3, Tryz.underlying3, rfl⟩
theorem fl228_2 : Fld Tryz.prog 228 2 2 1 false := ⟨_, _, _, _, _, Tryz.underlying228, rfl, rfl, ti226, Tryz.underlying226, rfl⟩
theorem sp228 : SP Tryz.prog 228 [(0, 1), (1, 1), (2, 1)] := ⟨_, Tryz.underlying228, fun _ => by simp [ti226.size, ti3.size, Sem.run_bind, Sem.run_pure]⟩
theorem fl232_0 : Fld Tryz.prog 232 0 0 3 true := ⟨_, _, _, _, _, Tryz.underlying232, rfl, rfl, ti220, Tryz.underlying220, rfl⟩
theorem fl232_1 : Fld Tryz.prog 232 1 3 3 true := ⟨_, _, _, _, _, Tryz.underlying232, rfl, rfl, ti228, Tryz.underlying228, rfl⟩
theorem fl232_2 : Fld Tryz.prog 232 2 6 1 false := ⟨_, _, _, _, _, Tryz.underlying232, rfl, rfl, ti3, Tryz.underlying3, rfl⟩
theorem fl232_3 : Fld Tryz.prog 232 3 7 1 false := ⟨_, _, _, _, _, Tryz.underlying232, rfl, rfl, ti3, Tryz.underlying3, rfl⟩
theorem fl232_4 : Fld Tryz.prog 232 4 8 1 false := ⟨_, _, _, _, _, Tryz.underlying232, rfl, rfl, ti4, Tryz.underlying4, rfl⟩
theorem sp232 : SP Tryz.prog 232 [(0, 3), (3, 3), (6, 1), (7, 1), (8, 1)] := ⟨_, Tryz.underlying232, fun _ => by simp [ti220.size, ti228.size, ti3.size, ti4.size, Sem.run_bind, Sem.run_pure]⟩
theorem fl233_0 : Fld Tryz.prog 233 0 0 3 true := ⟨_, _, _, _, _, Tryz.underlying233, rfl, rfl, ti220, Tryz.underlying220, rfl⟩
theorem fl233_1 : Fld Tryz.prog 233 1 3 3 true := ⟨_, _, _, _, _, Tryz.underlying233, rfl, rfl, ti228, Tryz.underlying228, rfl⟩
theorem fl233_2 : Fld Tryz.prog 233 2 6 1 false := ⟨_, _, _, _, _, Tryz.underlying233, rfl, rfl, ti3, Tryz.underlying3, rfl⟩
theorem fl233_3 : Fld Tryz.prog 233 3 7 1 false := ⟨_, _, _, _, _, Tryz.underlying233, rfl, rfl, ti3, Tryz.underlying3, rfl⟩
theorem fl233_4 : Fld Tryz.prog 233 4 8 1 false := ⟨_, _, _, _, _, Tryz.underlying233, rfl, rfl, ti4, Tryz.underlying4, rfl⟩
theorem sp233 : SP Tryz.prog 233 [(0, 3), (3, 3), (6, 1), (7, 1), (8, 1)] := ⟨_, Tryz.underlying233, fun _ => by simp [ti220.size, ti228.size, ti3.size, ti4.size, Sem.run_bind, Sem.run_pure]⟩
theorem fl250_0 : Fld Tryz.prog 250 0 0 1 false := ⟨_, _, _, _, _, Tryz.underlying250, rfl, rfl, ti79, Tryz.underlying79, rfl⟩
theorem fl250_1 : Fld Tryz.prog 250 1 1 1 false := ⟨_, _, _, _, _, Tryz.underlying250, rfl, rfl, ti3, Tryz.underlying3, rfl⟩
theorem fl250_2 : Fld Tryz.prog 250 2 2 1 false := ⟨_, _, _, _, _, Tryz.underlying250, rfl, rfl, ti79, Tryz.underlying79, rfl⟩
theorem fl250_3 : Fld Tryz.prog 250 3 3 1 false := ⟨_, _, _, _, _, Tryz.underlying250, rfl, rfl, ti79, Tryz.underlying79, rfl⟩
theorem sp250 : SP Tryz.prog 250 [(0, 1), (1, 1), (2, 1), (3, 1)] := ⟨_, Tryz.underlying250, fun _ => by simp [ti3.size, ti79.size, Sem.run_bind, Sem.run_pure]⟩
theorem fl251_0 : Fld Tryz.prog 251 0 0 1 false := ⟨_, _, _, _, _, Tryz.underlying251, rfl, rfl, ti79, Tryz.underlying79, rfl⟩
theorem fl251_1 : Fld Tryz.prog 251 1 1 1 false := ⟨_, _, _, _, _, Tryz.underlying251, rfl, rfl, ti3, Tryz.underlying3, rfl⟩
theorem fl251_2 : Fld Tryz.prog 251 2 2 1 false := ⟨_, _, _, _, _, Tryz.underlying251, rfl, rfl, ti79, Tryz.underlying79, rfl⟩
theorem fl251_3 : Fld Tryz.prog 251 3 3 1 false := ⟨_, _, _, _, _, Tryz.underlying251, rfl, rfl, ti79, Tryz.underlying79, rfl⟩
theorem sp251 : SP Tryz.prog 251 [(0, 1), (1, 1), (2, 1), (3, 1)] := ⟨_, Tryz.underlying251, fun _ => by simp [ti3.size, ti79.size, Sem.run_bind, Sem.run_pure]⟩
theorem fl255_0 : Fld Tryz.prog 255 0 0 1 false := ⟨_, _, _, _, _, Tryz.underlying255, rfl, rfl, ti254, Tryz.underlying254, rfl⟩
theorem fl255_1 : Fld Tryz.prog 255 1 1 1 false := ⟨_, _, _, _, _, Tryz.underlying255, rfl, rfl, ti36, Tryz.underlying36, rfl⟩
theorem sp255 : SP Tryz.prog 255 [(0, 1), (1, 1)] := ⟨_, Tryz.underlying255, fun _ => by simp [ti254.size, ti36.size, Sem.run_bind, Sem.run_pure]⟩
theorem fl256_0 : Fld Tryz.prog 256 0 0 1 false := ⟨_, _, _, _, _, Tryz.underlying256, rfl, rfl, ti254, Tryz.underlying254, rfl⟩
theorem fl256_1 : Fld Tryz.prog 256 1 1 1 false := ⟨_, _, _, _, _, Tryz.underlying256, rfl, rfl, ti36, Tryz.underlying36, rfl⟩
theorem sp256 : SP Tryz.prog 256 [(0, 1), (1, 1)] := ⟨_, Tryz.underlying256, fun _ => by simp [ti254.size, ti36.size, Sem.run_bind, Sem.run_pure]⟩
theorem fl265_0 : Fld Tryz.prog 265 0 0 1 false := ⟨_, _, _, _, _, Tryz.underlying265, rfl, rfl, ti9, Tryz.underlying9, rfl⟩
theorem fl265_1 : Fld Tryz.prog 265 1 1 1 false := ⟨_, _, _, _, _, Tryz.underlying265, rfl, rfl, ti4, Tryz.underlying4, rfl⟩
theorem sp265 : SP Tryz.prog 265 [(0, 1), (1, 1)] := ⟨_, Tryz.underlying265, fun _ => by simp [ti4.size, ti9.size, Sem.run_bind, Sem.run_pure]⟩
theorem fl266_0 : Fld Tryz.prog 266 0 0 1 false := ⟨_, _, _, _, _, Tryz.underlying266, rfl, rfl, ti9, Tryz.underlying9, rfl⟩
theorem fl266_1 : Fld Tryz.prog 266 1 1 1 false := ⟨_, _, _, _, _, Tryz.underlying266, rfl, rfl, ti4, Tryz.underlying4, rfl⟩
theorem sp266 : SP Tryz.prog 266 [(0, 1), (1, 1)] := ⟨_, Tryz.underlying266, fun _ => by simp [ti4.size, ti9.size, Sem.run_bind, Sem.run_pure]⟩
theorem fl267_0 : Fld Tryz.prog 267 0 0 2 true := ⟨_, _, _, _, _, Tryz.underlying267, rfl, rfl, ti266, Tryz.underlying266, rfl⟩
theorem fl267_1 : Fld Tryz.prog 267 1 2 1 false := ⟨_, _, _, _, _, Tryz.underlying267, rfl, rfl, ti3, Tryz.underlying3, rfl⟩
theorem sp267 : SP Tryz.prog 267 [(0, 2), (2, 1)] := ⟨_, Tryz.underlying267, fun _ => by simp [ti266.size, ti3.size, Sem.run_bind, Sem.run_pure]⟩
theorem fl268_0 : Fld Tryz.prog 268 0 0 2 true := ⟨_, _, _, _, _, Tryz.underlying268, rfl, rfl, ti266, Tryz.underlying266, rfl⟩
theorem fl268_1 : Fld Tryz.prog 268 1 2 1 false := ⟨_, _, _, _, _, Tryz.underlying268, rfl, rfl, ti3, Tryz.underlying3, rfl⟩
theorem sp268 : SP Tryz.prog 268 [(0, 2), (2, 1)] := ⟨_, Tryz.underlying268, fun _ => by simp [ti266.size, ti3.size, Sem.run_bind, Sem.run_pure]⟩
theorem fl285_0 : Fld Tryz.prog 285 0 0 1 false := ⟨_, _, _, _, _, Tryz.underlying285, rfl, rfl, ti25, Tryz.underlying25, rfl⟩
theorem fl285_1 : Fld Tryz.prog 285 1 1 1 false := ⟨_, _, _, _, _, Tryz.underlying285, rfl, rfl, ti78, Tryz.underlying78, rfl⟩
theorem sp285 : SP Tryz.prog 285 [(0, 1), (1, 1)] := ⟨_, Tryz.underlying285, fun _ => by simp [ti25.size, ti78.size, Sem.run_bind, Sem.run_pure]⟩
theorem fl286_0 : Fld Tryz.prog 286 0 0 1 false := ⟨_, _, _, _, _, Tryz.underlying286, rfl, rfl, ti25, Tryz.underlying25, rfl⟩
theorem fl286_1 : Fld Tryz.prog 286 1 1 1 false := ⟨_, _, _, _, _, Tryz.underlying286, rfl, rfl, ti78, Tryz.underlying78, rfl⟩
theorem sp286 : SP Tryz.prog 286 [(0, 1), (1, 1)] := ⟨_, Tryz.underlying286, fun _ => by simp [ti25.size, ti78.size, Sem.run_bind, Sem.run_pure]⟩
theorem fl287_0 : Fld Tryz.prog 287 0 0 1 false := ⟨_, _, _, _, _, Tryz.underlying287, rfl, rfl, ti3, Tryz.underlying3, rfl⟩
theorem fl287_1 : Fld Tryz.prog 287 1 1 2 true := ⟨_, _, _, _, _, Tryz.underlying287, rfl, rfl, ti286, Tryz.underlying286, rfl⟩
theorem fl287_2 : Fld Tryz.prog 287 2 3 2 true := ⟨_, _, _, _, _, Tryz.underlying287, rfl, rfl, ti286, Tryz.underlying286, rfl⟩
theorem fl287_3 : Fld Tryz.prog 287 3 5 2 true := ⟨_, _, _, _, _, Tryz.underlying287, rfl, rfl, ti286, Tryz.underlying286, rfl⟩
theorem fl287_4 : Fld Tryz.prog 287 4 7 2 true := ⟨_, _, _, _, _, Tryz.underlying287, rfl, rfl, ti286, Tryz.underlying286, rfl⟩
theorem fl287_5 : Fld Tryz.prog 287 5 9 1 false := ⟨_, _, _, _, _, Tryz.underlying287, rfl, rfl, ti3, Tryz.underlying3, rfl⟩
theorem fl287_6 : Fld Tryz.prog 287 6 10 1 false := ⟨_, _, _, _, _, Tryz.underlying287, rfl, rfl, ti78, Tryz.underlying78, rfl⟩
theorem sp287 : SP Tryz.prog 287 [(0, 1), (1, 2), (3, 2), (5, 2), (7, 2), (9, 1), (10, 1)] := ⟨_, Tryz.underlying287, fun _ => by simp [ti286.size, ti3.size, ti78.size, Sem.run_bind, Sem.run_pure]⟩
theorem fl288_0 : Fld Tryz.prog 288 0 0 1 false := ⟨_, _, _, _, _, Tryz.underlying288, rfl, rfl, ti3, Tryz.underlying3, rfl⟩
theorem fl288_1 : Fld Tryz.prog 288 1 1 2 true := ⟨_, _, _, _, _, Tryz.underlying288, rfl, rfl, ti286, Tryz.underlying286, rfl⟩
theorem fl288_2 : Fld Tryz.prog 288 2 3 2 true := ⟨_, _, _, _, _, Tryz.underlying288, rfl, rfl, ti286, Tryz.underlying286, rfl⟩
theorem fl288_3 : Fld Tryz.prog 288 3 5 2 true := ⟨_, _, _, _, _, Tryz.underlying288, rfl, rfl, ti286, Tryz.underlying286, rfl⟩
theorem fl288_4 : Fld Tryz.prog 288 4 7 2 true := ⟨_, _, _, _, _, Tryz.underlying288, rfl, rfl, ti286, Tryz.underlying286, rfl⟩
theorem fl288_5 : Fld Tryz.prog 288 5 9 1 false := ⟨_, _, _, _, _, Tryz.underlying288, rfl, rfl, ti3, Tryz.underlying3, rfl⟩
theorem fl288_6 : Fld Tryz.prog 288 6 10 1 false := ⟨_, _, _, _, _, Tryz.underlying288, rfl, rfl, ti78, Tryz.underlying78, rfl⟩
theorem sp288 : SP Tryz.prog 288 [(0, 1), (1, 2), (3, 2), (5, 2), (7, 2), (9, 1), (10, 1)] := ⟨_, Tryz.underlying288, fun _ => by simp [ti286.size, ti3.size, ti78.size, Sem.run_bind, Sem.run_pure]⟩
theorem fl330_0 : Fld Tryz.prog 330 0 0 1 false := ⟨_, _, _, _, _, Tryz.underlying330, rfl, rfl, ti17, Tryz.underlying17, rfl⟩
theorem fl330_1 : Fld Tryz.prog 330 1 1 1 false := ⟨_, _, _, _, _, Tryz.underlying330, rfl, rfl, ti17, Tryz.underlying17, rfl⟩
theorem fl330_2 : Fld Tryz.prog 330 2 2 1 false := ⟨_, _, _, _, _, Tryz.underlying330, rfl, rfl, ti17, Tryz.underlying17, rfl⟩
theorem fl330_3 : Fld Tryz.prog 330 3 3 1 false := ⟨_, _, _, _, _, Tryz.underlying330, rfl, rfl, ti9, Tryz.underlying9, rfl⟩
theorem sp330 : SP Tryz.prog 330 [(0, 1), (1, 1), (2, 1), (3, 1)] := ⟨_, Tryz.underlying330, fun _ => by simp [ti17.size, ti9.size, Sem.run_bind, Sem.run_pure]⟩
theorem fl331_0 : Fld Tryz.prog 331 0 0 1 false := ⟨_, _, _, _, _, Tryz.underlying331, rfl, rfl, ti17, Tryz.underlying17, rfl⟩
theorem fl331_1 : Fld Tryz.prog 331 1 1 1 false := ⟨_, _, _, _, _, Tryz.underlying331, rfl, rfl, ti17, Tryz.underlying17, rfl⟩
theorem fl331_2 : Fld Tryz.prog 331 2 2 1 false := ⟨_, _, _, _, _, Tryz.underlying331, rfl, rfl, ti17, Tryz.underlying17, rfl⟩
theorem fl331_3 : Fld Tryz.prog 331 3 3 1 false := ⟨_, _, _, _, _, Tryz.underlying331, rfl, rfl, ti9, Tryz.underlying9, rfl⟩
theorem sp331 : SP Tryz.prog 331 [(0, 1), (1, 1), (2, 1), (3, 1)] := ⟨_, Tryz.underlying331, fun _ => by simp [ti17.size, ti9.size, Sem.run_bind, Sem.run_pure]⟩
theorem fl333_0 : Fld Tryz.prog 333 0 0 0 true := ⟨_, _, _, _, _, Tryz.underlying333, rfl, rfl, ti332, Tryz.underlying332, rfl⟩
theorem sp333 : SP Tryz.prog 333 [(0, 0)] := ⟨_, Tryz.underlying333, fun _ => by simp [ti332.size, Sem.run_bind, Sem.run_pure]⟩
theorem fl334_0 : Fld Tryz.prog 334 0 0 0 true := ⟨_, _, _, _, _, Tryz.underlying334, rfl, rfl, ti332, Tryz.underlying332, rfl⟩
theorem sp334 : SP Tryz.prog 334 [(0, 0)] := ⟨_, Tryz.underlying334, fun _ => by simp [ti332.size, Sem.run_bind, Sem.run_pure]⟩
theorem fl340_0 : Fld Tryz.prog 340 0 0 1 false := ⟨_, _, _, _, _, Tryz.underlying340, rfl, rfl, ti12, Tryz.underlying12, rfl⟩
theorem fl340_1 : Fld Tryz.prog 340 1 1 1 false := ⟨_, _, _, _, _, Tryz.underlying340, rfl, rfl, ti12, Tryz.underlying12, rfl⟩
theorem fl340_2 : Fld Tryz.prog 340 2 2 1 false := ⟨_, _, _, _, _, Tryz.underlying340, rfl, rfl, ti99, Tryz.underlying99, rfl⟩
theorem fl340_3 : Fld Tryz.prog 340 3 3 1 false := ⟨_, _, _, _, _, Tryz.underlying340, rfl, rfl, ti335, Tryz.underlying335, rfl⟩
theorem fl340_4 : Fld Tryz.prog 340 4 4 1 false := ⟨_, _, _, _, _, Tryz.underlying340, rfl, rfl, ti5, Tryz.underlying5, rfl⟩
theorem fl340_5 : Fld Tryz.prog 340 5 5 1 false := ⟨_, _, _, _, _, Tryz.underlying340, rfl, rfl, ti5, Tryz.underlying5, rfl⟩
theorem fl340_6 : Fld Tryz.prog 340 6 6 1 false := ⟨_, _, _, _, _, Tryz.underlying340, rfl, rfl, ti336, Tryz.underlying336, rfl⟩
theorem fl340_7 : Fld Tryz.prog 340 7 7 1 false := ⟨_, _, _, _, _, Tryz.underlying340, rfl, rfl, ti_mk (z := Value.nilFunc) (s := 1) (bytes := 8) (by kernel_rfl), Tryz.underlying337, rfl⟩
theorem fl340_8 : Fld Tryz.prog 340 8 8 1 false := ⟨_, _, _, _, _, Tryz.underlying340, rfl, rfl, ti301, Tryz.underlying301, rfl⟩
theorem fl340_9 : Fld Tryz.prog 340 9 9 1 false := ⟨_, _, _, _, _, Tryz.underlying340, rfl, rfl, ti338, Tryz.underlying338, rfl⟩
theorem fl340_10 : Fld Tryz.prog 340 10 10 1 false := ⟨_, _, _, _, _, Tryz.underlying340, rfl, rfl, ti339, Tryz.underlying339, rfl⟩
theorem fl341_0 : Fld Tryz.prog 341 0 0 1 false := ⟨_, _, _, _, _, Tryz.underlying341, rfl, rfl, ti12, Tryz.underlying12, rfl⟩
theorem fl341_1 : Fld Tryz.prog 341 1 1 1 false := ⟨_, _, _, _, _, Tryz.underlying341, rfl, rfl, ti12, Tryz.underlying12, rfl⟩
theorem fl341_2 : Fld Tryz.prog 341 2 2 1 false := ⟨_, _, _, _, _, Tryz.underlying341, rfl, rfl, ti99, Tryz.underlying99, rfl⟩
theorem fl341_3 : Fld Tryz.prog 341 3 3 1 false := ⟨_, _, _, _, _, Tryz.underlying341, rfl, rfl, ti335, Tryz.underlying335, rfl⟩
theorem fl341_4 : Fld Tryz.prog 341 4 4 1 false := ⟨_, _, _, _, _, Tryz.underlying341, rfl, rfl, ti5, Tryz.underlying5, rfl⟩
theorem fl341_5 : Fld Tryz.prog 341 5 5 1 false := ⟨_, _, _, _, _, Tryz.underlying341, rfl, rfl, ti5, Tryz.underlying5, rfl⟩
theorem fl341_6 : Fld Tryz.prog 341 6 6 1 false := ⟨_, _, _, _, _, Tryz.underlying341, rfl, rfl, ti336, Tryz.underlying336, rfl⟩
theorem fl341_7 : Fld Tryz.prog 341 7 7 1 false := ⟨_, _, _, _, _, Tryz.underlying341, rfl, rfl, ti_mk (z := Value.nilFunc) (s := 1) (bytes := 8) (by kernel_rfl), Tryz.underlying337, rfl⟩
theorem fl341_8 : Fld Tryz.prog 341 8 8 1 false := ⟨_, _, _, _, _, Tryz.underlying341, rfl, rfl, ti301, Tryz.underlying301, rfl⟩
theorem fl341_9 : Fld Tryz.prog 341 9 9 1 false := ⟨_, _, _, _, _, Tryz.underlying341, rfl, rfl, ti338, Tryz.underlying338, rfl⟩
theorem fl341_10 : Fld Tryz.prog 341 10 10 1 false := ⟨_, _, _, _, _, Tryz.underlying341, rfl, rfl, ti339, Tryz.underlying339, rfl⟩
theorem cf2 : CF Tryz.prog 2 := ⟨_, Tryz.func2, by kernel_rfl, rfl⟩
theorem cf3 : CF Tryz.prog 3 := ⟨_, Tryz.func3, by kernel_rfl, rfl⟩
theorem cf4 : CF Tryz.prog 4 := ⟨_, Tryz.func4, by kernel_rfl, rfl⟩
theorem cf5 : CF Tryz.prog 5 := ⟨_, Tryz.func5, by kernel_rfl, rfl⟩
theorem cf6 : CF Tryz.prog 6 := ⟨_, Tryz.func6, by kernel_rfl, rfl⟩
theorem cf7 : CF Tryz.prog 7 := ⟨_, Tryz.func7, by kernel_rfl, rfl⟩
theorem cf8 : CF Tryz.prog 8 := ⟨_, Tryz.func8, by kernel_rfl, rfl⟩
theorem cf9 : CF Tryz.prog 9 := ⟨_, Tryz.func9, by kernel_rfl, rfl⟩
theorem cf10 : CF Tryz.prog 10 := ⟨_, Tryz.func10, by kernel_rfl, rfl⟩
theorem cf11 : CF Tryz.prog 11 := ⟨_, Tryz.func11, by kernel_rfl, rfl⟩
theorem cf12 : CF Tryz.prog 12 := ⟨_, Tryz.func12, by kernel_rfl, rfl⟩
theorem cf13 : CF Tryz.prog 13 := ⟨_, Tryz.func13, by kernel_rfl, rfl⟩
theorem cf14 : CF Tryz.prog 14 := ⟨_, Tryz.func14, by kernel_rfl, rfl⟩
theorem cf15 : CF Tryz.prog 15 := ⟨_, Tryz.func15, by kernel_rfl, rfl⟩
theorem cf16 : CF Tryz.prog 16 := ⟨_, Tryz.func16, by kernel_rfl, rfl⟩
theorem cf17 : CF Tryz.prog 17 := ⟨_, Tryz.func17, by kernel_rfl, rfl⟩
theorem cf18 : CF Tryz.prog 18 := ⟨_, Tryz.func18, by kernel_rfl, rfl⟩
theorem cf19 : CF Tryz.prog 19 := ⟨_, Tryz.func19, by kernel_rfl, rfl⟩
theorem cf20 : CF Tryz.prog 20 := ⟨_, Tryz.func20, by kernel_rfl, rfl⟩
theorem cf21 : CF Tryz.prog 21 := ⟨_, Tryz.func21, by kernel_rfl, rfl⟩
theorem cf22 : CF Tryz.prog 22 := ⟨_, Tryz.func22, by kernel_rfl, rfl⟩
theorem cf23 : CF Tryz.prog 23 := ⟨_, Tryz.func23, by kernel_rfl, rfl⟩
theorem cf24 : CF Tryz.prog 24 := ⟨_, Tryz.func24, by kernel_rfl, rfl⟩
theorem cf25 : CF Tryz.prog 25 := ⟨_, Tryz.func25, by kernel_rfl, rfl⟩
theorem cf26 : CF Tryz.prog 26 := ⟨_, Tryz.func26, by kernel_rfl, rfl⟩
theorem cf27 : CF Tryz.prog 27 := ⟨_, Tryz.func27, by kernel_rfl, rfl⟩
theorem cf28 : CF Tryz.prog 28 := ⟨_, Tryz.func28, by kernel_rfl, rfl⟩
theorem cf29 : CF Tryz.prog 29 := ⟨_, Tryz.func29, by kernel_rfl, rfl⟩
theorem cf30 : CF Tryz.prog 30 := ⟨_, Tryz.func30, by kernel_rfl, rfl⟩
theorem cf31 : CF Tryz.prog 31 := ⟨_, Tryz.func31, by kernel_rfl, rfl⟩
theorem cf32 : CF Tryz.prog 32 := ⟨_, Tryz.func32, by kernel_rfl, rfl⟩
theorem cf33 : CF Tryz.prog 33 := ⟨_, Tryz.func33, by kernel_rfl, rfl⟩
theorem cf34 : CF Tryz.prog 34 := ⟨_, Tryz.func34, by kernel_rfl, rfl⟩
theorem cf35 : CF Tryz.prog 35 := ⟨_, Tryz.func35, by kernel_rfl, rfl⟩
theorem cf36 : CF Tryz.prog 36 := ⟨_, Tryz.func36, by kernel_rfl, rfl⟩
theorem cf37 : CF Tryz.prog 37 := ⟨_, Tryz.func37, by kernel_rfl, rfl⟩
theorem cf38 : CF Tryz.prog 38 := ⟨_, Tryz.func38, by kernel_rfl, rfl⟩
theorem cf39 : CF Tryz.prog 39 := ⟨_, Tryz.func39, by kernel_rfl, rfl⟩
theorem cf40 : CF Tryz.prog 40 := ⟨_, Tryz.func40, by kernel_rfl, rfl⟩
theorem cf41 : CF Tryz.prog 41 := ⟨_, Tryz.func41, by kernel_rfl, rfl⟩
theorem cf42 : CF Tryz.prog 42 := ⟨_, Tryz.func42, by kernel_rfl, rfl⟩
theorem cf43 : CF Tryz.prog 43 := ⟨_, Tryz.func43, by kernel_rfl, rfl⟩
theorem cf44 : CF Tryz.prog 44 := ⟨_, Tryz.func44, by kernel_rfl, rfl⟩
theorem cf45 : CF Tryz.prog 45 := ⟨_, Tryz.func45, by kernel_rfl, rfl⟩
theorem cf46 : CF Tryz.prog 46 := ⟨_, Tryz.func46, by kernel_rfl, rfl⟩
theorem cf47 : CF Tryz.prog 47 := ⟨_, Tryz.func47, by kernel_rfl, rfl⟩
theorem cf48 : CF Tryz.prog 48 := ⟨_, Tryz.func48, by kernel_rfl, rfl⟩
theorem cf49 : CF Tryz.prog 49 := ⟨_, Tryz.func49, by kernel_rfl, rfl⟩
theorem cf50 : CF Tryz.prog 50 := ⟨_, Tryz.func50, by kernel_rfl, rfl⟩
theorem cf51 : CF Tryz.prog 51 := ⟨_, Tryz.func51, by kernel_rfl, rfl⟩
theorem cf52 : CF Tryz.prog 52 := ⟨_, Tryz.func52, by kernel_rfl, rfl⟩
theorem cf53 : CF Tryz.prog 53 := ⟨_, Tryz.func53, by kernel_rfl, rfl⟩
theorem cf54 : CF Tryz.prog 54 := ⟨_, Tryz.func54, by kernel_rfl, rfl⟩
theorem cf55 : CF Tryz.prog 55 := ⟨_, Tryz.func55, by kernel_rfl, rfl⟩
theorem cf56 : CF Tryz.prog 56 := ⟨_, Tryz.func56, by kernel_rfl, rfl⟩
theorem cf57 : CF Tryz.prog 57 := ⟨_, Tryz.func57, by kernel_rfl, rfl⟩
theorem cf58 : CF Tryz.prog 58 := ⟨_, Tryz.func58, by kernel_rfl, rfl⟩
theorem cf59 : CF Tryz.prog 59 := ⟨_, Tryz.func59, by kernel_rfl, rfl⟩
theorem cf60 : CF Tryz.prog 60 := ⟨_, Tryz.func60, by kernel_rfl, rfl⟩
theorem cf61 : CF Tryz.prog 61 := ⟨_, Tryz.func61, by kernel_rfl, rfl⟩
theorem cf62 : CF Tryz.prog 62 := ⟨_, Tryz.func62, by kernel_rfl, rfl⟩
theorem cf63 : CF Tryz.prog 63 := ⟨_, Tryz.func63, by kernel_rfl, rfl⟩
theorem cf64 : CF Tryz.prog 64 := ⟨_, Tryz.func64, by kernel_rfl, rfl⟩
theorem cf65 : CF Tryz.prog 65 := ⟨_, Tryz.func65, by kernel_rfl, rfl⟩
theorem cf66 : CF Tryz.prog 66 := ⟨_, Tryz.func66, by kernel_rfl, rfl⟩
theorem cf67 : CF Tryz.prog 67 := ⟨_, Tryz.func67, by kernel_rfl, rfl⟩
theorem cf68 : CF Tryz.prog 68 := ⟨_, Tryz.func68, by kernel_rfl, rfl⟩
theorem cf69 : CF Tryz.prog 69 := ⟨_, Tryz.func69, by kernel_rfl, rfl⟩
theorem cf70 : CF Tryz.prog 70 := ⟨_, Tryz.func70, by kernel_rfl, rfl⟩
theorem cf71 : CF Tryz.prog 71 := ⟨_, Tryz.func71, by kernel_rfl, rfl⟩
theorem cf72 : CF Tryz.prog 72 := ⟨_, Tryz.func72, by kernel_rfl, rfl⟩
theorem cf73 : CF Tryz.prog 73 := ⟨_, Tryz.func73, by kernel_rfl, rfl⟩
theorem cf74 : CF Tryz.prog 74 := ⟨_, Tryz.func74, by kernel_rfl, rfl⟩
theorem cf75 : CF Tryz.prog 75 := ⟨_, Tryz.func75, by kernel_rfl, rfl⟩
theorem cf76 : CF Tryz.prog 76 := ⟨_, Tryz.func76, by kernel_rfl, rfl⟩
theorem cf77 : CF Tryz.prog 77 := ⟨_, Tryz.func77, by kernel_rfl, rfl⟩
theorem cf78 : CF Tryz.prog 78 := ⟨_, Tryz.func78, by kernel_rfl, rfl⟩
theorem cf79 : CF Tryz.prog 79 := ⟨_, Tryz.func79, by kernel_rfl, rfl⟩
theorem cf80 : CF Tryz.prog 80 := ⟨_, Tryz.func80, by kernel_rfl, rfl⟩
theorem cf81 : CF Tryz.prog 81 := ⟨_, Tryz.func81, by kernel_rfl, rfl⟩
theorem cf82 : CF Tryz.prog 82 := ⟨_, Tryz.func82, by kernel_rfl, rfl⟩
theorem cf83 : CF Tryz.prog 83 := ⟨_, Tryz.func83, by kernel_rfl, rfl⟩
theorem cf84 : CF Tryz.prog 84 := ⟨_, Tryz.func84, by kernel_rfl, rfl⟩
theorem cf85 : CF Tryz.prog 85 := ⟨_, Tryz.func85, by kernel_rfl, rfl⟩
theorem cf86 : CF Tryz.prog 86 := ⟨_, Tryz.func86, by kernel_rfl, rfl⟩
theorem cf87 : CF Tryz.prog 87 := ⟨_, Tryz.func87, by kernel_rfl, rfl⟩
theorem cf88 : CF Tryz.prog 88 := ⟨_, Tryz.func88, by kernel_rfl, rfl⟩
theorem cf89 : CF Tryz.prog 89 := ⟨_, Tryz.func89, by kernel_rfl, rfl⟩
theorem cf90 : CF Tryz.prog 90 := ⟨_, Tryz.func90, by kernel_rfl, rfl⟩
theorem cf91 : CF Tryz.prog 91 := ⟨_, Tryz.func91, by kernel_rfl, rfl⟩
theorem cf92 : CF Tryz.prog 92 := ⟨_, Tryz.func92, by kernel_rfl, rfl⟩
theorem cf93 : CF Tryz.prog 93 := ⟨_, Tryz.func93, by kernel_rfl, rfl⟩
theorem cf94 : CF Tryz.prog 94 := ⟨_, Tryz.func94, by kernel_rfl, rfl⟩
theorem cf95 : CF Tryz.prog 95 := ⟨_, Tryz.func95, by kernel_rfl, rfl⟩
theorem cf96 : CF Tryz.prog 96 := ⟨_, Tryz.func96, by kernel_rfl, rfl⟩
theorem cf97 : CF Tryz.prog 97 := ⟨_, Tryz.func97, by kernel_rfl, rfl⟩
theorem cf98 : CF Tryz.prog 98 := ⟨_, Tryz.func98, by kernel_rfl, rfl⟩
theorem cf99 : CF Tryz.prog 99 := ⟨_, Tryz.func99, by kernel_rfl, rfl⟩
theorem cf100 : CF Tryz.prog 100 := ⟨_, Tryz.func100, by kernel_rfl, rfl⟩
theorem cf101 : CF Tryz.prog 101 := ⟨_, Tryz.func101, by kernel_rfl, rfl⟩
theorem cf102 : CF Tryz.prog 102 := ⟨_, Tryz.func102, by kernel_rfl, rfl⟩
theorem cf104 : CF Tryz.prog 104 := ⟨_, Tryz.func104, by kernel_rfl, rfl⟩
theorem cf105 : CF Tryz.prog 105 := ⟨_, Tryz.func105, by kernel_rfl, rfl⟩
theorem cf106 : CF Tryz.prog 106 := ⟨_, Tryz.func106, by kernel_rfl, rfl⟩
theorem cf107 : CF Tryz.prog 107 := ⟨_, Tryz.func107, by kernel_rfl, rfl⟩
theorem cf108 : CF Tryz.prog 108 := ⟨_, Tryz.func108, by kernel_rfl, rfl⟩
theorem cf109 : CF Tryz.prog 109 := ⟨_, Tryz.func109, by kernel_rfl, rfl⟩
theorem cf111 : CF Tryz.prog 111 := ⟨_, Tryz.func111, by kernel_rfl, rfl⟩
theorem cf112 : CF Tryz.prog 112 := ⟨_, Tryz.func112, by kernel_rfl, rfl⟩
theorem cf113 : CF Tryz.prog 113 := ⟨_, Tryz.func113, by kernel_rfl, rfl⟩
theorem cf114 : CF Tryz.prog 114 := ⟨_, Tryz.func114, by kernel_rfl, rfl⟩
theorem cf115 : CF Tryz.prog 115 := ⟨_, Tryz.func115, by kernel_rfl, rfl⟩
theorem cf116 : CF Tryz.prog 116 := ⟨_, Tryz.func116, by kernel_rfl, rfl⟩
theorem cf117 : CF Tryz.prog 117 := ⟨_, Tryz.func117, by kernel_rfl, rfl⟩
theorem cf118 : CF Tryz.prog 118 := ⟨_, Tryz.func118, by kernel_rfl, rfl⟩
theorem cf119 : CF Tryz.prog 119 := ⟨_, Tryz.func119, by kernel_rfl, rfl⟩
theorem cf120 : CF Tryz.prog 120 := ⟨_, Tryz.func120, by kernel_rfl, rfl⟩
theorem cf121 : CF Tryz.prog 121 := ⟨_, Tryz.func121, by kernel_rfl, rfl⟩
theorem cf122 : CF Tryz.prog 122 := ⟨_, Tryz.func122, by kernel_rfl, rfl⟩
theorem cf123 : CF Tryz.prog 123 := ⟨_, Tryz.func123, by kernel_rfl, rfl⟩
theorem cf124 : CF Tryz.prog 124 := ⟨_, Tryz.func124, by kernel_rfl, rfl⟩
theorem cf125 : CF Tryz.prog 125 := ⟨_, Tryz.func125, by kernel_rfl, rfl⟩
theorem cf126 : CF Tryz.prog 126 := ⟨_, Tryz.func126, by kernel_rfl, rfl⟩
theorem cf127 : CF Tryz.prog 127 := ⟨_, Tryz.func127, by kernel_rfl, rfl⟩
theorem cf128 : CF Tryz.prog 128 := ⟨_, Tryz.func128, by kernel_rfl, rfl⟩
theorem cf129 : CF Tryz.prog 129 := ⟨_, Tryz.func129, by kernel_rfl, rfl⟩
theorem cf130 : CF Tryz.prog 130 := ⟨_, Tryz.func130, by kernel_rfl, rfl⟩
theorem cf131 : CF Tryz.prog 131 := ⟨_, Tryz.func131, by kernel_rfl, rfl⟩
theorem cf132 : CF Tryz.prog 132 := ⟨_, Tryz.func132, by kernel_rfl, rfl⟩
theorem cf133 : CF Tryz.prog 133 := ⟨_, Tryz.func133, by kernel_rfl, rfl⟩
theorem cf134 : CF Tryz.prog 134 := ⟨_, Tryz.func134, by kernel_rfl, rfl⟩
theorem cf135 : CF Tryz.prog 135 := ⟨_, Tryz.func135, by kernel_rfl, rfl⟩
theorem cf136 : CF Tryz.prog 136 := ⟨_, Tryz.func136, by kernel_rfl, rfl⟩
theorem cf137 : CF Tryz.prog 137 := ⟨_, Tryz.func137, by kernel_rfl, rfl⟩
theorem cf138 : CF Tryz.prog 138 := ⟨_, Tryz.func138, by kernel_rfl, rfl⟩
theorem cf139 : CF Tryz.prog 139 := ⟨_, Tryz.func139, by kernel_rfl, rfl⟩
theorem cf140 : CF Tryz.prog 140 := ⟨_, Tryz.func140, by kernel_rfl, rfl⟩
theorem cf141 : CF Tryz.prog 141 := ⟨_, Tryz.func141, by kernel_rfl, rfl⟩
theorem cf142 : CF Tryz.prog 142 := ⟨_, Tryz.func142, by kernel_rfl, rfl⟩
theorem cf143 : CF Tryz.prog 143 := ⟨_, Tryz.func143, by kernel_rfl, rfl⟩
theorem cf144 : CF Tryz.prog 144 := ⟨_, Tryz.func144, by kernel_rfl, rfl⟩
theorem cf145 : CF Tryz.prog 145 := ⟨_, Tryz.func145, by kernel_rfl, rfl⟩
theorem cf146 : CF Tryz.prog 146 := ⟨_, Tryz.func146, by kernel_rfl, rfl⟩
theorem cf147 : CF Tryz.prog 147 := ⟨_, Tryz.func147, by kernel_rfl, rfl⟩
theorem cf148 : CF Tryz.prog 148 := ⟨_, Tryz.func148, by kernel_rfl, rfl⟩
theorem cf149 : CF Tryz.prog 149 := ⟨_, Tryz.func149, by kernel_rfl, rfl⟩
theorem cf150 : CF Tryz.prog 150 := ⟨_, Tryz.func150, by kernel_rfl, rfl⟩
theorem cf151 : CF Tryz.prog 151 := ⟨_, Tryz.func151, by kernel_rfl, rfl⟩
theorem cf152 : CF Tryz.prog 152 := ⟨_, Tryz.func152, by kernel_rfl, rfl⟩
theorem cf153 : CF Tryz.prog 153 := ⟨_, Tryz.func153, by kernel_rfl, rfl⟩
theorem cf154 : CF Tryz.prog 154 := ⟨_, Tryz.func154, by kernel_rfl, rfl⟩
theorem cf155 : CF Tryz.prog 155 := ⟨_, Tryz.func155, by kernel_rfl, rfl⟩
theorem cf156 : CF Tryz.prog 156 := ⟨_, Tryz.func156, by kernel_rfl, rfl⟩
theorem cf157 : CF Tryz.prog 157 := ⟨_, Tryz.func157, by kernel_rfl, rfl⟩
theorem cf158 : CF Tryz.prog 158 := ⟨_, Tryz.func158, by kernel_rfl, rfl⟩
theorem cf159 : CF Tryz.prog 159 := ⟨_, Tryz.func159, by kernel_rfl, rfl⟩
theorem cf160 : CF Tryz.prog 160 := ⟨_, Tryz.func160, by kernel_rfl, rfl⟩
theorem cf161 : CF Tryz.prog 161 := ⟨_, Tryz.func161, by kernel_rfl, rfl⟩
theorem cf162 : CF Tryz.prog 162 := ⟨_, Tryz.func162, by kernel_rfl, rfl⟩
theorem cf163 : CF Tryz.prog 163 := ⟨_, Tryz.func163, by kernel_rfl, rfl⟩
theorem cf164 : CF Tryz.prog 164 := ⟨_, Tryz.func164, by kernel_rfl, rfl⟩
theorem cf165 : CF Tryz.prog 165 := ⟨_, Tryz.func165, by kernel_rfl, rfl⟩
theorem cf166 : CF Tryz.prog 166 := ⟨_, Tryz.func166, by kernel_rfl, rfl⟩
theorem cf167 : CF Tryz.prog 167 := ⟨_, Tryz.func167, by kernel_rfl, rfl⟩
theorem cf168 : CF Tryz.prog 168 := ⟨_, Tryz.func168, by kernel_rfl, rfl⟩
theorem cf169 : CF Tryz.prog 169 := ⟨_, Tryz.func169, by kernel_rfl, rfl⟩
theorem cf170 : CF Tryz.prog 170 := ⟨_, Tryz.func170, by kernel_rfl, rfl⟩
theorem cf171 : CF Tryz.prog 171 := ⟨_, Tryz.func171, by kernel_rfl, rfl⟩
theorem cf172 : CF Tryz.prog 172 := ⟨_, Tryz.func172, by kernel_rfl, rfl⟩
theorem cf173 : CF Tryz.prog 173 := ⟨_, Tryz.func173, by kernel_rfl, rfl⟩
theorem cf174 : CF Tryz.prog 174 := ⟨_, Tryz.func174, by kernel_rfl, rfl⟩
theorem cf175 : CF Tryz.prog 175 := ⟨_, Tryz.func175, by kernel_rfl, rfl⟩
theorem cf176 : CF Tryz.prog 176 := ⟨_, Tryz.func176, by kernel_rfl, rfl⟩
theorem cf177 : CF Tryz.prog 177 := ⟨_, Tryz.func177, by kernel_rfl, rfl⟩
theorem cf178 : CF Tryz.prog 178 := ⟨_, Tryz.func178, by kernel_rfl, rfl⟩
theorem cf179 : CF Tryz.prog 179 := ⟨_, Tryz.func179, by kernel_rfl, rfl⟩
theorem cf180 : CF Tryz.prog 180 := ⟨_, Tryz.func180, by kernel_rfl, rfl⟩
theorem cf181 : CF Tryz.prog 181 := ⟨_, Tryz.func181, by kernel_rfl, rfl⟩
theorem cf182 : CF Tryz.prog 182 := ⟨_, Tryz.func182, by kernel_rfl, rfl⟩
theorem cf183 : CF Tryz.prog 183 := ⟨_, Tryz.func183, by kernel_rfl, rfl⟩
theorem cf184 : CF Tryz.prog 184 := ⟨_, Tryz.func184, by kernel_rfl, rfl⟩
theorem cf185 : CF Tryz.prog 185 := ⟨_, Tryz.func185, by kernel_rfl, rfl⟩
theorem cf186 : CF Tryz.prog 186 := ⟨_, Tryz.func186, by kernel_rfl, rfl⟩
theorem cf187 : CF Tryz.prog 187 := ⟨_, Tryz.func187, by kernel_rfl, rfl⟩
theorem cf188 : CF Tryz.prog 188 := ⟨_, Tryz.func188, by kernel_rfl, rfl⟩
theorem cf189 : CF Tryz.prog 189 := ⟨_, Tryz.func189, by kernel_rfl, rfl⟩
theorem cf190 : CF Tryz.prog 190 := ⟨_, Tryz.func190, by kernel_rfl, rfl⟩
theorem cf191 : CF Tryz.prog 191 := ⟨_, Tryz.func191, by kernel_rfl, rfl⟩
theorem cf192 : CF Tryz.prog 192 := ⟨_, Tryz.func192, by kernel_rfl, rfl⟩
theorem cf193 : CF Tryz.prog 193 := ⟨_, Tryz.func193, by kernel_rfl, rfl⟩
theorem cf194 : CF Tryz.prog 194 := ⟨_, Tryz.func194, by kernel_rfl, rfl⟩
theorem cf195 : CF Tryz.prog 195 := ⟨_, Tryz.func195, by kernel_rfl, rfl⟩
theorem cf196 : CF Tryz.prog 196 := ⟨_, Tryz.func196, by kernel_rfl, rfl⟩
theorem cf197 : CF Tryz.prog 197 := ⟨_, Tryz.func197, by kernel_rfl, rfl⟩
theorem cf198 : CF Tryz.prog 198 := ⟨_, Tryz.func198, by kernel_rfl, rfl⟩
theorem cf199 : CF Tryz.prog 199 := ⟨_, Tryz.func199, by kernel_rfl, rfl⟩
theorem cf200 : CF Tryz.prog 200 := ⟨_, Tryz.func200, by kernel_rfl, rfl⟩
theorem cf201 : CF Tryz.prog 201 := ⟨_, Tryz.func201, by kernel_rfl, rfl⟩
theorem cf202 : CF Tryz.prog 202 := ⟨_, Tryz.func202, by kernel_rfl, rfl⟩
theorem cf203 : CF Tryz.prog 203 := ⟨_, Tryz.func203, by kernel_rfl, rfl⟩
theorem cf204 : CF Tryz.prog 204 := ⟨_, Tryz.func204, by kernel_rfl, rfl⟩
theorem cf205 : CF Tryz.prog 205 := ⟨_, Tryz.func205, by kernel_rfl, rfl⟩
theorem cf206 : CF Tryz.prog 206 := ⟨_, Tryz.func206, by kernel_rfl, rfl⟩
theorem cf207 : CF Tryz.prog 207 := ⟨_, Tryz.func207, by kernel_rfl, rfl⟩
theorem cf208 : CF Tryz.prog 208 := ⟨_, Tryz.func208, by kernel_rfl, rfl⟩
theorem cf209 : CF Tryz.prog 209 := ⟨_, Tryz.func209, by kernel_rfl, rfl⟩
theorem cf210 : CF Tryz.prog 210 := ⟨_, Tryz.func210, by kernel_rfl, rfl⟩
theorem cf211 : CF Tryz.prog 211 := ⟨_, Tryz.func211, by kernel_rfl, rfl⟩
theorem cf212 : CF Tryz.prog 212 := ⟨_, Tryz.func212, by kernel_rfl, rfl⟩
theorem cf213 : CF Tryz.prog 213 := ⟨_, Tryz.func213, by kernel_rfl, rfl⟩
theorem cf214 : CF Tryz.prog 214 := ⟨_, Tryz.func214, by kernel_rfl, rfl⟩
theorem cf215 : CF Tryz.prog 215 := ⟨_, Tryz.func215, by kernel_rfl, rfl⟩
theorem cf216 : CF Tryz.prog 216 := ⟨_, Tryz.func216, by kernel_rfl, rfl⟩
theorem cf217 : CF Tryz.prog 217 := ⟨_, Tryz.func217, by kernel_rfl, rfl⟩
theorem cf218 : CF Tryz.prog 218 := ⟨_, Tryz.func218, by kernel_rfl, rfl⟩
theorem cf219 : CF Tryz.prog 219 := ⟨_, Tryz.func219, by kernel_rfl, rfl⟩
theorem cf220 : CF Tryz.prog 220 := ⟨_, Tryz.func220, by kernel_rfl, rfl⟩
theorem cf221 : CF Tryz.prog 221 := ⟨_, Tryz.func221, by kernel_rfl, rfl⟩
theorem cf222 : CF Tryz.prog 222 := ⟨_, Tryz.func222, by kernel_rfl, rfl⟩
theorem cf223 : CF Tryz.prog 223 := ⟨_, Tryz.func223, by kernel_rfl, rfl⟩
theorem cf224 : CF Tryz.prog 224 := ⟨_, Tryz.func224, by kernel_rfl, rfl⟩
theorem cf225 : CF Tryz.prog 225 := ⟨_, Tryz.func225, by kernel_rfl, rfl⟩
theorem cf226 : CF Tryz.prog 226 := ⟨_, Tryz.func226, by kernel_rfl, rfl⟩
theorem cf227 : CF Tryz.prog 227 := ⟨_, Tryz.func227, by kernel_rfl, rfl⟩
theorem cf228 : CF Tryz.prog 228 := ⟨_, Tryz.func228, by kernel_rfl, rfl⟩
theorem cf229 : CF Tryz.prog 229 := ⟨_, Tryz.func229, by kernel_rfl, rfl⟩
theorem cf230 : CF Tryz.prog 230 := ⟨_, Tryz.func230, by kernel_rfl, rfl⟩
theorem cf231 : CF Tryz.prog 231 := ⟨_, Tryz.func231, by kernel_rfl, rfl⟩
theorem cf232 : CF Tryz.prog 232 := ⟨_, Tryz.func232, by kernel_rfl, rfl⟩
theorem cf233 : CF Tryz.prog 233 := ⟨_, Tryz.func233, by kernel_rfl, rfl⟩
theorem cf234 : CF Tryz.prog 234 := ⟨_, Tryz.func234, by kernel_rfl, rfl⟩
theorem cf235 : CF Tryz.prog 235 := ⟨_, Tryz.func235, by kernel_rfl, rfl⟩
theorem cf236 : CF Tryz.prog 236 := ⟨_, Tryz.func236, by kernel_rfl, rfl⟩
theorem cf237 : CF Tryz.prog 237 := ⟨_, Tryz.func237, by kernel_rfl, rfl⟩
theorem cf238 : CF Tryz.prog 238 := ⟨_, Tryz.func238, by kernel_rfl, rfl⟩
theorem cf239 : CF Tryz.prog 239 := ⟨_, Tryz.func239, by kernel_rfl, rfl⟩
theorem cf240 : CF Tryz.prog 240 := ⟨_, Tryz.func240, by kernel_rfl, rfl⟩
theorem cf241 : CF Tryz.prog 241 := ⟨_, Tryz.func241, by kernel_rfl, rfl⟩
theorem cf242 : CF Tryz.prog 242 := ⟨_, Tryz.func242, by kernel_rfl, rfl⟩
theorem cf243 : CF Tryz.prog 243 := ⟨_, Tryz.func243, by kernel_rfl, rfl⟩
theorem cf244 : CF Tryz.prog 244 := ⟨_, Tryz.func244, by kernel_rfl, rfl⟩
theorem cf245 : CF Tryz.prog 245 := ⟨_, Tryz.func245, by kernel_rfl, rfl⟩
theorem cf246 : CF Tryz.prog 246 := ⟨_, Tryz.func246, by kernel_rfl, rfl⟩
theorem cf247 : CF Tryz.prog 247 := ⟨_, Tryz.func247, by kernel_rfl, rfl⟩
theorem cf248 : CF Tryz.prog 248 := ⟨_, Tryz.func248, by kernel_rfl, rfl⟩
theorem cf249 : CF Tryz.prog 249 := ⟨_, Tryz.func249, by kernel_rfl, rfl⟩
theorem cf250 : CF Tryz.prog 250 := ⟨_, Tryz.func250, by kernel_rfl, rfl⟩
theorem cf251 : CF Tryz.prog 251 := ⟨_, Tryz.func251, by kernel_rfl, rfl⟩
theorem cf252 : CF Tryz.prog 252 := ⟨_, Tryz.func252, by kernel_rfl, rfl⟩
theorem cf253 : CF Tryz.prog 253 := ⟨_, Tryz.func253, by kernel_rfl, rfl⟩
theorem cf254 : CF Tryz.prog 254 := ⟨_, Tryz.func254, by kernel_rfl, rfl⟩
theorem cf255 : CF Tryz.prog 255 := ⟨_, Tryz.func255, by kernel_rfl, rfl⟩
theorem cf256 : CF Tryz.prog 256 := ⟨_, Tryz.func256, by kernel_rfl, rfl⟩
theorem cf257 : CF Tryz.prog 257 := ⟨_, Tryz.func257, by kernel_rfl, rfl⟩
theorem cf258 : CF Tryz.prog 258 := ⟨_, Tryz.func258, by kernel_rfl, rfl⟩
theorem cf259 : CF Tryz.prog 259 := ⟨_, Tryz.func259, by kernel_rfl, rfl⟩
theorem cf261 : CF Tryz.prog 261 := ⟨_, Tryz.func261, by kernel_rfl, rfl⟩
theorem cf262 : CF Tryz.prog 262 := ⟨_, Tryz.func262, by kernel_rfl, rfl⟩
theorem cf263 : CF Tryz.prog 263 := ⟨_, Tryz.func263, by kernel_rfl, rfl⟩
theorem cf264 : CF Tryz.prog 264 := ⟨_, Tryz.func264, by kernel_rfl, rfl⟩
theorem cf265 : CF Tryz.prog 265 := ⟨_, Tryz.func265, by kernel_rfl, rfl⟩
theorem cf266 : CF Tryz.prog 266 := ⟨_, Tryz.func266, by kernel_rfl, rfl⟩
theorem cf267 : CF Tryz.prog 267 := ⟨_, Tryz.func267, by kernel_rfl, rfl⟩
theorem cf269 : CF Tryz.prog 269 := ⟨_, Tryz.func269, by kernel_rfl, rfl⟩
end Go.Proofs.YtbhepednfnmngaaGreat
