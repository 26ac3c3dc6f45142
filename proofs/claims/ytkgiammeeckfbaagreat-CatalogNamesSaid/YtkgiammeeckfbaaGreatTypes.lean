/- Facts on the types and the functions of the translation, by program: each by the kernel. -/
import Derived.Test.YtkgiammeeckfbaaGreatRows
import Derived.Test.YtkgiammeeckfbaaGreatHeap
import Derived.KernelRfl
namespace Go.Proofs.YtkgiammeeckfbaaGreat
open Go Go.RowKit
set_option maxRecDepth 100000
set_option linter.unusedSimpArgs false
theorem ti2 : TI Tryz.prog 2 (Value.int .i64 0) 1 8 := ti_mk (by kernel_rfl)
theorem ti3 : TI Tryz.prog 3 (Value.int .i64 0) 1 8 := ti_mk (by kernel_rfl)
theorem ti4 : TI Tryz.prog 4 (Value.bool false) 1 1 := ti_mk (by kernel_rfl)
theorem ti5 : TI Tryz.prog 5 (Value.int .u8 0) 1 1 := ti_mk (by kernel_rfl)
theorem ti6 : TI Tryz.prog 6 (Value.int .u8 0) 1 1 := ti_mk (by kernel_rfl)
theorem ti7 : TI Tryz.prog 7 (Value.agg #[Value.int .i64 0, Value.int .i64 0, Value.bool false, Value.int .u8 0]) 4 24 := ti_mk (by kernel_rfl)
theorem ti8 : TI Tryz.prog 8 (Value.agg #[Value.int .i64 0, Value.int .i64 0, Value.bool false, Value.int .u8 0]) 4 24 := ti_mk (by kernel_rfl)
theorem ti9 : TI Tryz.prog 9 (Value.string ⟨#[]⟩) 1 16 := ti_mk (by kernel_rfl)
theorem ti10 : TI Tryz.prog 10 (Value.string ⟨#[]⟩) 1 16 := ti_mk (by kernel_rfl)
theorem ti11 : TI Tryz.prog 11 (Value.string ⟨#[]⟩) 1 16 := ti_mk (by kernel_rfl)
theorem ti12 : TI Tryz.prog 12 (Value.int .u64 0) 1 8 := ti_mk (by kernel_rfl)
theorem ti13 : TI Tryz.prog 13 (Value.agg #[Value.string ⟨#[]⟩, Value.int .u64 0]) 2 24 := ti_mk (by kernel_rfl)
theorem ti14 : TI Tryz.prog 14 (Value.agg #[Value.string ⟨#[]⟩, Value.int .u64 0]) 2 24 := ti_mk (by kernel_rfl)
theorem ti15 : TI Tryz.prog 15 (Value.pointer none) 1 8 := ti_mk (by kernel_rfl)
theorem ti16 : TI Tryz.prog 16 (Value.pointer none) 1 8 := ti_mk (by kernel_rfl)
theorem ti17 : TI Tryz.prog 17 (Value.pointer none) 1 8 := ti_mk (by kernel_rfl)
theorem ti18 : TI Tryz.prog 18 (Value.agg #[Value.pointer none]) 1 8 := ti_mk (by kernel_rfl)
theorem ti19 : TI Tryz.prog 19 (Value.agg #[Value.pointer none]) 1 8 := ti_mk (by kernel_rfl)
theorem ti20 : TI Tryz.prog 20 (Value.nilIface) 1 16 := ti_mk (by kernel_rfl)
theorem ti21 : TI Tryz.prog 21 (Value.int .i32 0) 1 4 := ti_mk (by kernel_rfl)
theorem ti22 : TI Tryz.prog 22 (Value.pointer none) 1 8 := ti_mk (by kernel_rfl)
theorem ti23 : TI Tryz.prog 23 (Value.agg #[Value.int .i64 0, Value.int .i64 0]) 2 16 := ti_mk (by kernel_rfl)
theorem ti24 : TI Tryz.prog 24 (Value.agg #[Value.int .i64 0, Value.int .i64 0]) 2 16 := ti_mk (by kernel_rfl)
theorem ti25 : TI Tryz.prog 25 (Value.agg #[Value.int .u8 0, Value.string ⟨#[]⟩, Value.int .i64 0, Value.int .i64 0, Value.string ⟨#[]⟩]) 5 56 := ti_mk (by kernel_rfl)
theorem ti26 : TI Tryz.prog 26 (Value.agg #[Value.int .u8 0, Value.string ⟨#[]⟩, Value.int .i64 0, Value.int .i64 0, Value.string ⟨#[]⟩]) 5 56 := ti_mk (by kernel_rfl)
theorem ti27 : TI Tryz.prog 27 (Value.int .i64 0) 1 8 := ti_mk (by kernel_rfl)
theorem ti30 : TI Tryz.prog 30 (Value.slice none 0 0) 1 24 := ti_mk (by kernel_rfl)
theorem ti34 : TI Tryz.prog 34 (Value.slice none 0 0) 1 24 := ti_mk (by kernel_rfl)
theorem ti35 : TI Tryz.prog 35 (Value.agg #[Value.slice none 0 0, Value.slice none 0 0]) 2 48 := ti_mk (by kernel_rfl)
theorem ti36 : TI Tryz.prog 36 (Value.agg #[Value.slice none 0 0, Value.slice none 0 0]) 2 48 := ti_mk (by kernel_rfl)
theorem ti38 : TI Tryz.prog 38 (Value.pointer none) 1 8 := ti_mk (by kernel_rfl)
theorem ti40 : TI Tryz.prog 40 (Value.pointer none) 1 8 := ti_mk (by kernel_rfl)
theorem ti43 : TI Tryz.prog 43 (Value.agg #[Value.int .i64 0, Value.int .i64 0]) 2 16 := ti_mk (by kernel_rfl)
theorem ti44 : TI Tryz.prog 44 (Value.agg #[Value.int .i64 0, Value.int .i64 0]) 2 16 := ti_mk (by kernel_rfl)
theorem ti46 : TI Tryz.prog 46 (Value.agg #[Value.int .i64 0]) 1 8 := ti_mk (by kernel_rfl)
theorem ti47 : TI Tryz.prog 47 (Value.agg #[Value.int .i64 0]) 1 8 := ti_mk (by kernel_rfl)
theorem ti53 : TI Tryz.prog 53 (Value.slice none 0 0) 1 24 := ti_mk (by kernel_rfl)
theorem ti54 : TI Tryz.prog 54 (Value.agg #[Value.int .u8 0, Value.string ⟨#[]⟩]) 2 24 := ti_mk (by kernel_rfl)
theorem ti55 : TI Tryz.prog 55 (Value.agg #[Value.int .u8 0, Value.string ⟨#[]⟩]) 2 24 := ti_mk (by kernel_rfl)
theorem ti56 : TI Tryz.prog 56 (Value.pointer none) 1 8 := ti_mk (by kernel_rfl)
theorem ti61 : TI Tryz.prog 61 (Value.slice none 0 0) 1 24 := ti_mk (by kernel_rfl)
theorem ti63 : TI Tryz.prog 63 (Value.agg #[Value.int .i64 0, Value.int .i64 0, Value.int .i64 0, Value.int .i64 0]) 4 32 := ti_mk (by kernel_rfl)
theorem ti64 : TI Tryz.prog 64 (Value.agg #[Value.int .i64 0, Value.int .i64 0, Value.int .i64 0, Value.int .i64 0]) 4 32 := ti_mk (by kernel_rfl)
theorem ti65 : TI Tryz.prog 65 (Value.pointer none) 1 8 := ti_mk (by kernel_rfl)
theorem ti66 : TI Tryz.prog 66 (Value.pointer none) 1 8 := ti_mk (by kernel_rfl)
theorem ti67 : TI Tryz.prog 67 (Value.agg #[Value.int .i64 0, Value.int .i64 0, Value.int .i64 0, Value.int .i64 0, Value.pointer none, Value.pointer none, Value.pointer none, Value.pointer none, Value.pointer none, Value.bool false]) 10 80 := ti_mk (by kernel_rfl)
theorem ti68 : TI Tryz.prog 68 (Value.agg #[Value.int .i64 0, Value.int .i64 0, Value.int .i64 0, Value.int .i64 0, Value.pointer none, Value.pointer none, Value.pointer none, Value.pointer none, Value.pointer none, Value.bool false]) 10 80 := ti_mk (by kernel_rfl)
theorem ti70 : TI Tryz.prog 70 (Value.agg #[Value.string ⟨#[]⟩, Value.string ⟨#[]⟩]) 2 32 := ti_mk (by kernel_rfl)
theorem ti71 : TI Tryz.prog 71 (Value.agg #[Value.string ⟨#[]⟩, Value.string ⟨#[]⟩]) 2 32 := ti_mk (by kernel_rfl)
theorem ti76 : TI Tryz.prog 76 (Value.pointer none) 1 8 := ti_mk (by kernel_rfl)
theorem ti77 : TI Tryz.prog 77 (Value.slice none 0 0) 1 24 := ti_mk (by kernel_rfl)
theorem ti78 : TI Tryz.prog 78 (Value.slice none 0 0) 1 24 := ti_mk (by kernel_rfl)
theorem ti79 : TI Tryz.prog 79 (Value.agg #[Value.pointer none, Value.pointer none, Value.slice none 0 0, Value.slice none 0 0]) 4 64 := ti_mk (by kernel_rfl)
theorem ti80 : TI Tryz.prog 80 (Value.agg #[Value.pointer none, Value.pointer none, Value.slice none 0 0, Value.slice none 0 0]) 4 64 := ti_mk (by kernel_rfl)
theorem ti85 : TI Tryz.prog 85 (Value.map none) 1 8 := ti_mk (by kernel_rfl)
theorem ti86 : TI Tryz.prog 86 (Value.agg #[Value.slice none 0 0, Value.int .i64 0, Value.int .u8 0]) 3 40 := ti_mk (by kernel_rfl)
theorem ti87 : TI Tryz.prog 87 (Value.agg #[Value.slice none 0 0, Value.int .i64 0, Value.int .u8 0]) 3 40 := ti_mk (by kernel_rfl)
theorem ti88 : TI Tryz.prog 88 (Value.agg #[Value.int .i64 0, Value.slice none 0 0, Value.int .i64 0, Value.int .u8 0]) 4 48 := ti_mk (by kernel_rfl)
theorem ti89 : TI Tryz.prog 89 (Value.agg #[Value.int .i64 0, Value.slice none 0 0, Value.int .i64 0, Value.int .u8 0]) 4 48 := ti_mk (by kernel_rfl)
theorem ti90 : TI Tryz.prog 90 (Value.slice none 0 0) 1 24 := ti_mk (by kernel_rfl)
theorem ti91 : TI Tryz.prog 91 (Value.agg #[Value.int .i64 0, Value.slice none 0 0, Value.int .i64 0, Value.int .u8 0, Value.int .i64 0, Value.int .i64 0, Value.map none, Value.slice none 0 0, Value.bool false, Value.int .i64 0, Value.int .i64 0]) 11 120 := ti_mk (by kernel_rfl)
theorem ti92 : TI Tryz.prog 92 (Value.agg #[Value.int .i64 0, Value.slice none 0 0, Value.int .i64 0, Value.int .u8 0, Value.int .i64 0, Value.int .i64 0, Value.map none, Value.slice none 0 0, Value.bool false, Value.int .i64 0, Value.int .i64 0]) 11 120 := ti_mk (by kernel_rfl)
theorem ti101 : TI Tryz.prog 101 (Value.slice none 0 0) 1 24 := ti_mk (by kernel_rfl)
theorem ti102 : TI Tryz.prog 102 (Value.slice none 0 0) 1 24 := ti_mk (by kernel_rfl)
theorem ti112 : TI Tryz.prog 112 (Value.pointer none) 1 8 := ti_mk (by kernel_rfl)
theorem ti113 : TI Tryz.prog 113 (Value.map none) 1 8 := ti_mk (by kernel_rfl)
theorem ti114 : TI Tryz.prog 114 (Value.agg #[Value.int .i64 0, Value.int .i64 0, Value.int .i64 0, Value.int .i64 0, Value.int .i64 0, Value.int .i64 0, Value.int .i64 0]) 7 56 := ti_mk (by kernel_rfl)
theorem ti115 : TI Tryz.prog 115 (Value.agg #[Value.int .i64 0, Value.int .i64 0, Value.int .i64 0, Value.int .i64 0, Value.int .i64 0, Value.int .i64 0, Value.int .i64 0]) 7 56 := ti_mk (by kernel_rfl)
theorem ti116 : TI Tryz.prog 116 (Value.agg #[Value.pointer none, Value.pointer none, Value.pointer none, Value.map none, Value.int .i64 0, Value.int .i64 0, Value.int .i64 0, Value.int .i64 0, Value.int .i64 0, Value.int .i64 0, Value.int .i64 0, Value.bool false]) 12 96 := ti_mk (by kernel_rfl)
theorem ti117 : TI Tryz.prog 117 (Value.agg #[Value.pointer none, Value.pointer none, Value.pointer none, Value.map none, Value.int .i64 0, Value.int .i64 0, Value.int .i64 0, Value.int .i64 0, Value.int .i64 0, Value.int .i64 0, Value.int .i64 0, Value.bool false]) 12 96 := ti_mk (by kernel_rfl)
theorem ti119 : TI Tryz.prog 119 (Value.nilFunc) 1 8 := ti_mk (by kernel_rfl)
theorem ti123 : TI Tryz.prog 123 (Value.pointer none) 1 8 := ti_mk (by kernel_rfl)
theorem ti124 : TI Tryz.prog 124 (Value.map none) 1 8 := ti_mk (by kernel_rfl)
theorem ti125 : TI Tryz.prog 125 (Value.map none) 1 8 := ti_mk (by kernel_rfl)
theorem ti126 : TI Tryz.prog 126 (Value.agg #[Value.int .i64 0, Value.int .i64 0, Value.int .i64 0, Value.int .i64 0, Value.int .i64 0, Value.map none, Value.slice none 0 0, Value.map none, Value.map none]) 9 88 := ti_mk (by kernel_rfl)
theorem ti127 : TI Tryz.prog 127 (Value.agg #[Value.int .i64 0, Value.int .i64 0, Value.int .i64 0, Value.int .i64 0, Value.int .i64 0, Value.map none, Value.slice none 0 0, Value.map none, Value.map none]) 9 88 := ti_mk (by kernel_rfl)
theorem ti128 : TI Tryz.prog 128 (Value.slice none 0 0) 1 24 := ti_mk (by kernel_rfl)
theorem ti129 : TI Tryz.prog 129 (Value.agg #[Value.bool false, Value.slice none 0 0, Value.slice none 0 0, Value.slice none 0 0]) 4 80 := ti_mk (by kernel_rfl)
theorem ti130 : TI Tryz.prog 130 (Value.agg #[Value.bool false, Value.slice none 0 0, Value.slice none 0 0, Value.slice none 0 0]) 4 80 := ti_mk (by kernel_rfl)
theorem ti132 : TI Tryz.prog 132 (Value.int .u32 0) 1 4 := ti_mk (by kernel_rfl)
theorem ti135 : TI Tryz.prog 135 (Value.map none) 1 8 := ti_mk (by kernel_rfl)
theorem ti140 : TI Tryz.prog 140 (Value.nilFunc) 1 8 := ti_mk (by kernel_rfl)
theorem ti142 : TI Tryz.prog 142 (Value.pointer none) 1 8 := ti_mk (by kernel_rfl)
theorem ti144 : TI Tryz.prog 144 (Value.slice none 0 0) 1 24 := ti_mk (by kernel_rfl)
theorem ti145 : TI Tryz.prog 145 (Value.agg #[Value.int .i64 0, Value.slice none 0 0, Value.slice none 0 0, Value.bool false]) 4 64 := ti_mk (by kernel_rfl)
theorem ti146 : TI Tryz.prog 146 (Value.agg #[Value.int .i64 0, Value.slice none 0 0, Value.slice none 0 0, Value.bool false]) 4 64 := ti_mk (by kernel_rfl)
theorem ti148 : TI Tryz.prog 148 (Value.int .u8 0) 1 1 := ti_mk (by kernel_rfl)
theorem ti149 : TI Tryz.prog 149 (Value.slice none 0 0) 1 24 := ti_mk (by kernel_rfl)
theorem ti152 : TI Tryz.prog 152 (Value.slice none 0 0) 1 24 := ti_mk (by kernel_rfl)
theorem ti156 : TI Tryz.prog 156 (Value.agg #[Value.int .i64 0, Value.string ⟨#[]⟩]) 2 24 := ti_mk (by kernel_rfl)
theorem ti157 : TI Tryz.prog 157 (Value.agg #[Value.int .i64 0, Value.string ⟨#[]⟩]) 2 24 := ti_mk (by kernel_rfl)
theorem ti159 : TI Tryz.prog 159 (Value.nilFunc) 1 8 := ti_mk (by kernel_rfl)
theorem ti161 : TI Tryz.prog 161 (Value.agg #[Value.int .i64 0, Value.string ⟨#[]⟩]) 2 24 := ti_mk (by kernel_rfl)
theorem ti162 : TI Tryz.prog 162 (Value.agg #[Value.int .i64 0, Value.string ⟨#[]⟩]) 2 24 := ti_mk (by kernel_rfl)
theorem ti166 : TI Tryz.prog 166 (Value.agg #[Value.int .i64 0, Value.string ⟨#[]⟩]) 2 24 := ti_mk (by kernel_rfl)
theorem ti167 : TI Tryz.prog 167 (Value.agg #[Value.int .i64 0, Value.string ⟨#[]⟩]) 2 24 := ti_mk (by kernel_rfl)
theorem ti169 : TI Tryz.prog 169 (Value.agg #[Value.pointer none, Value.int .i64 0, Value.int .i64 0]) 3 24 := ti_mk (by kernel_rfl)
theorem ti170 : TI Tryz.prog 170 (Value.agg #[Value.pointer none, Value.int .i64 0, Value.int .i64 0]) 3 24 := ti_mk (by kernel_rfl)
theorem ti171 : TI Tryz.prog 171 (Value.slice none 0 0) 1 24 := ti_mk (by kernel_rfl)
theorem ti172 : TI Tryz.prog 172 (Value.agg #[Value.nilFunc]) 1 8 := ti_mk (by kernel_rfl)
theorem ti173 : TI Tryz.prog 173 (Value.agg #[Value.nilFunc]) 1 8 := ti_mk (by kernel_rfl)
theorem ti176 : TI Tryz.prog 176 (Value.int .u64 0) 1 8 := ti_mk (by kernel_rfl)
theorem ti177 : TI Tryz.prog 177 (Value.agg #[Value.int .u64 0, Value.int .i64 0, Value.int .u64 0]) 3 24 := ti_mk (by kernel_rfl)
theorem ti178 : TI Tryz.prog 178 (Value.agg #[Value.int .u64 0, Value.int .i64 0, Value.int .u64 0]) 3 24 := ti_mk (by kernel_rfl)
theorem ti183 : TI Tryz.prog 183 (Value.agg #[Value.pointer none, Value.int .i64 0, Value.int .i64 0, Value.int .u64 0, Value.int .i64 0, Value.int .u64 0, Value.int .i64 0, Value.int .i64 0, Value.bool false]) 9 72 := ti_mk (by kernel_rfl)
theorem ti184 : TI Tryz.prog 184 (Value.agg #[Value.pointer none, Value.int .i64 0, Value.int .i64 0, Value.int .u64 0, Value.int .i64 0, Value.int .u64 0, Value.int .i64 0, Value.int .i64 0, Value.bool false]) 9 72 := ti_mk (by kernel_rfl)
theorem ti196 : TI Tryz.prog 196 (Value.int .u64 0) 1 8 := ti_mk (by kernel_rfl)
theorem ti199 : TI Tryz.prog 199 (Value.agg #[Value.string ⟨#[]⟩, Value.bool false]) 2 24 := ti_mk (by kernel_rfl)
theorem ti200 : TI Tryz.prog 200 (Value.agg #[Value.string ⟨#[]⟩, Value.bool false]) 2 24 := ti_mk (by kernel_rfl)
theorem ti201 : TI Tryz.prog 201 (Value.agg #[Value.string ⟨#[]⟩, Value.bool false, Value.int .i64 0]) 3 32 := ti_mk (by kernel_rfl)
theorem ti202 : TI Tryz.prog 202 (Value.agg #[Value.string ⟨#[]⟩, Value.bool false, Value.int .i64 0]) 3 32 := ti_mk (by kernel_rfl)
theorem ti221 : TI Tryz.prog 221 (Value.nilFunc) 1 8 := ti_mk (by kernel_rfl)
theorem ti227 : TI Tryz.prog 227 (Value.agg #[Value.slice none 0 0, Value.map none]) 2 32 := ti_mk (by kernel_rfl)
theorem ti228 : TI Tryz.prog 228 (Value.agg #[Value.slice none 0 0, Value.map none]) 2 32 := ti_mk (by kernel_rfl)
theorem ti229 : TI Tryz.prog 229 (Value.agg #[Value.int .i64 0, Value.slice none 0 0, Value.map none, Value.slice none 0 0, Value.map none, Value.slice none 0 0, Value.map none, Value.slice none 0 0, Value.map none, Value.int .i64 0, Value.map none]) 11 152 := ti_mk (by kernel_rfl)
theorem ti230 : TI Tryz.prog 230 (Value.agg #[Value.int .i64 0, Value.slice none 0 0, Value.map none, Value.slice none 0 0, Value.map none, Value.slice none 0 0, Value.map none, Value.slice none 0 0, Value.map none, Value.int .i64 0, Value.map none]) 11 152 := ti_mk (by kernel_rfl)
theorem ti251 : TI Tryz.prog 251 (Value.pointer none) 1 8 := ti_mk (by kernel_rfl)
theorem ti252 : TI Tryz.prog 252 (Value.slice none 0 0) 1 24 := ti_mk (by kernel_rfl)
theorem ti253 : TI Tryz.prog 253 (Value.pointer none) 1 8 := ti_mk (by kernel_rfl)
theorem ti254 : TI Tryz.prog 254 (Value.agg #[Value.pointer none, Value.slice none 0 0]) 2 32 := ti_mk (by kernel_rfl)
theorem ti255 : TI Tryz.prog 255 (Value.agg #[Value.pointer none, Value.slice none 0 0]) 2 32 := ti_mk (by kernel_rfl)
theorem ti256 : TI Tryz.prog 256 (Value.nilIface) 1 16 := ti_mk (by kernel_rfl)
theorem ti257 : TI Tryz.prog 257 (Value.nilIface) 1 16 := ti_mk (by kernel_rfl)
theorem ti264 : TI Tryz.prog 264 (Value.agg #[Value.string ⟨#[]⟩, Value.string ⟨#[]⟩, Value.bool false]) 3 40 := ti_mk (by kernel_rfl)
theorem ti265 : TI Tryz.prog 265 (Value.agg #[Value.string ⟨#[]⟩, Value.string ⟨#[]⟩, Value.bool false]) 3 40 := ti_mk (by kernel_rfl)
theorem ti274 : TI Tryz.prog 274 (Value.int .i64 0) 1 8 := ti_mk (by kernel_rfl)
theorem ti284 : TI Tryz.prog 284 (Value.agg #[Value.int .u8 0, Value.int .u8 0, Value.int .u8 0, Value.int .u8 0]) 4 4 := ti_mk (by kernel_rfl)
theorem ti295 : TI Tryz.prog 295 (Value.pointer none) 1 8 := ti_mk (by kernel_rfl)
theorem ti296 : TI Tryz.prog 296 (Value.int .u64 0) 1 8 := ti_mk (by kernel_rfl)
theorem ti300 : TI Tryz.prog 300 (Value.pointer none) 1 8 := ti_mk (by kernel_rfl)
theorem ti311 : TI Tryz.prog 311 (Value.agg #[Value.pointer none, Value.int .i64 0, Value.pointer none, Value.pointer none]) 4 32 := ti_mk (by kernel_rfl)
theorem ti312 : TI Tryz.prog 312 (Value.agg #[Value.pointer none, Value.int .i64 0, Value.pointer none, Value.pointer none]) 4 32 := ti_mk (by kernel_rfl)
theorem ti314 : TI Tryz.prog 314 (Value.pointer none) 1 8 := ti_mk (by kernel_rfl)
theorem ti317 : TI Tryz.prog 317 (Value.pointer none) 1 8 := ti_mk (by kernel_rfl)
theorem ti330 : TI Tryz.prog 330 (Value.agg #[Value.pointer none, Value.pointer none, Value.pointer none, Value.string ⟨#[]⟩]) 4 40 := ti_mk (by kernel_rfl)
theorem ti331 : TI Tryz.prog 331 (Value.agg #[Value.pointer none, Value.pointer none, Value.pointer none, Value.string ⟨#[]⟩]) 4 40 := ti_mk (by kernel_rfl)
theorem ti332 : TI Tryz.prog 332 (Value.agg #[]) 0 0 := ti_mk (by kernel_rfl)
theorem ti333 : TI Tryz.prog 333 (Value.agg #[]) 0 0 := ti_mk (by kernel_rfl)
theorem ti334 : TI Tryz.prog 334 (Value.agg #[]) 0 0 := ti_mk (by kernel_rfl)
theorem ti335 : TI Tryz.prog 335 (Value.int .u8 0) 1 1 := ti_mk (by kernel_rfl)
theorem ti336 : TI Tryz.prog 336 (Value.int .u8 0) 1 1 := ti_mk (by kernel_rfl)
theorem ti338 : TI Tryz.prog 338 (Value.int .i32 0) 1 4 := ti_mk (by kernel_rfl)
theorem ti339 : TI Tryz.prog 339 (Value.int .i32 0) 1 4 := ti_mk (by kernel_rfl)
theorem ti340 : TI Tryz.prog 340 (Value.agg #[Value.int .u64 0, Value.int .u64 0, Value.int .u32 0, Value.int .u8 0, Value.int .u8 0, Value.int .u8 0, Value.int .u8 0, Value.nilFunc, Value.pointer none, Value.int .i32 0, Value.int .i32 0]) 11 48 := ti_mk (by kernel_rfl)
theorem ti341 : TI Tryz.prog 341 (Value.agg #[Value.int .u64 0, Value.int .u64 0, Value.int .u32 0, Value.int .u8 0, Value.int .u8 0, Value.int .u8 0, Value.int .u8 0, Value.nilFunc, Value.pointer none, Value.int .i32 0, Value.int .i32 0]) 11 48 := ti_mk (by kernel_rfl)
theorem fl7_0 : Fld Tryz.prog 7 0 0 1 false := ⟨_, _, _, _, _, Tryz.underlying7, rfl, rfl, ti2, Tryz.underlying2, rfl⟩
theorem fl7_1 : Fld Tryz.prog 7 1 1 1 false := ⟨_, _, _, _, _, Tryz.underlying7, rfl, rfl, ti3, Tryz.underlying3, rfl⟩
theorem fl7_2 : Fld Tryz.prog 7 2 2 1 false := ⟨_, _, _, _, _, Tryz.underlying7, rfl, rfl, ti4, Tryz.underlying4, rfl⟩
theorem fl7_3 : Fld Tryz.prog 7 3 3 1 false := ⟨_, _, _, _, _, Tryz.underlying7, rfl, rfl, ti6, Tryz.underlying6, rfl⟩
theorem sp7 : SP Tryz.prog 7 [(0, 1), (1, 1), (2, 1), (3, 1)] := ⟨_, Tryz.underlying7, fun _ => by simp [ti2.size, ti3.size, ti4.size, ti6.size, Sem.run_bind, Sem.run_pure]⟩
theorem fl8_0 : Fld Tryz.prog 8 0 0 1 false := ⟨_, _, _, _, _, Tryz.underlying8, rfl, rfl, ti2, Tryz.underlying2, rfl⟩
theorem fl8_1 : Fld Tryz.prog 8 1 1 1 false := ⟨_, _, _, _, _, Tryz.underlying8, rfl, rfl, ti3, Tryz.underlying3, rfl⟩
theorem fl8_2 : Fld Tryz.prog 8 2 2 1 false := ⟨_, _, _, _, _, Tryz.underlying8, rfl, rfl, ti4, Tryz.underlying4, rfl⟩
theorem fl8_3 : Fld Tryz.prog 8 3 3 1 false := ⟨_, _, _, _, _, Tryz.underlying8, rfl, rfl, ti6, Tryz.underlying6, rfl⟩
theorem sp8 : SP Tryz.prog 8 [(0, 1), (1, 1), (2, 1), (3, 1)] := ⟨_, Tryz.underlying8, fun _ => by simp [ti2.size, ti3.size, ti4.size, ti6.size, Sem.run_bind, Sem.run_pure]⟩
theorem fl13_0 : Fld Tryz.prog 13 0 0 1 false := ⟨_, _, _, _, _, Tryz.underlying13, rfl, rfl, ti9, Tryz.underlying9, rfl⟩
theorem fl13_1 : Fld Tryz.prog 13 1 1 1 false := ⟨_, _, _, _, _, Tryz.underlying13, rfl, rfl, ti12, Tryz.underlying12, rfl⟩
theorem sp13 : SP Tryz.prog 13 [(0, 1), (1, 1)] := ⟨_, Tryz.underlying13, fun _ => by simp [ti12.size, ti9.size, Sem.run_bind, Sem.run_pure]⟩
theorem fl14_0 : Fld Tryz.prog 14 0 0 1 false := ⟨_, _, _, _, _, Tryz.underlying14, rfl, rfl, ti9, Tryz.underlying9, rfl⟩
theorem fl14_1 : Fld Tryz.prog 14 1 1 1 false := ⟨_, _, _, _, _, Tryz.underlying14, rfl, rfl, ti12, Tryz.underlying12, rfl⟩
theorem sp14 : SP Tryz.prog 14 [(0, 1), (1, 1)] := ⟨_, Tryz.underlying14, fun _ => by simp [ti12.size, ti9.size, Sem.run_bind, Sem.run_pure]⟩
theorem fl18_0 : Fld Tryz.prog 18 0 0 1 false := ⟨_, _, _, _, _, Tryz.underlying18, rfl, rfl, ti17, Tryz.underlying17, rfl⟩
theorem sp18 : SP Tryz.prog 18 [(0, 1)] := ⟨_, Tryz.underlying18, fun _ => by simp [ti17.size, Sem.run_bind, Sem.run_pure]⟩
theorem fl19_0 : Fld Tryz.prog 19 0 0 1 false := ⟨_, _, _, _, _, Tryz.underlying19, rfl, rfl, ti17, Tryz.underlying17, rfl⟩
theorem sp19 : SP Tryz.prog 19 [(0, 1)] := ⟨_, Tryz.underlying19, fun _ => by simp [ti17.size, Sem.run_bind, Sem.run_pure]⟩
theorem fl23_0 : Fld Tryz.prog 23 0 0 1 false := ⟨_, _, _, _, _, Tryz.underlying23, rfl, rfl, ti3, Tryz.underlying3, rfl⟩
theorem fl23_1 : Fld Tryz.prog 23 1 1 1 false := ⟨_, _, _, _, _, Tryz.underlying23, rfl, rfl, ti3, Tryz.underlying3, rfl⟩
theorem sp23 : SP Tryz.prog 23 [(0, 1), (1, 1)] := ⟨_, Tryz.underlying23, fun _ => by simp [ti3.size, Sem.run_bind, Sem.run_pure]⟩
theorem fl24_0 : Fld Tryz.prog 24 0 0 1 false := ⟨_, _, _, _, _, Tryz.underlying24, rfl, rfl, ti3, Tryz.underlying3, rfl⟩
theorem fl24_1 : Fld Tryz.prog 24 1 1 1 false := ⟨_, _, _, _, _, Tryz.underlying24, rfl, rfl, ti3, Tryz.underlying3, rfl⟩
theorem sp24 : SP Tryz.prog 24 [(0, 1), (1, 1)] := ⟨_, Tryz.underlying24, fun _ => by simp [ti3.size, Sem.run_bind, Sem.run_pure]⟩
theorem fl25_0 : Fld Tryz.prog 25 0 0 1 false := ⟨_, _, _, _, _, Tryz.underlying25, rfl, rfl, ti5, Tryz.underlying5, rfl⟩
theorem fl25_1 : Fld Tryz.prog 25 1 1 1 false := ⟨_, _, _, _, _, Tryz.underlying25, rfl, rfl, ti9, Tryz.underlying9, rfl⟩
theorem fl25_2 : Fld Tryz.prog 25 2 2 2 true := ⟨_, _, _, _, _, Tryz.underlying25, rfl, rfl, ti24, Tryz.underlying24, rfl⟩
theorem fl25_3 : Fld Tryz.prog 25 3 4 1 false := ⟨_, _, _, _, _, Tryz.underlying25, rfl, rfl, ti9, Tryz.underlying9, rfl⟩
theorem sp25 : SP Tryz.prog 25 [(0, 1), (1, 1), (2, 2), (4, 1)] := ⟨_, Tryz.underlying25, fun _ => by simp [ti24.size, ti5.size, ti9.size, Sem.run_bind, Sem.run_pure]⟩
theorem fl26_0 : Fld Tryz.prog 26 0 0 1 false := ⟨_, _, _, _, _, Tryz.underlying26, rfl, rfl, ti5, Tryz.underlying5, rfl⟩
theorem fl26_1 : Fld Tryz.prog 26 1 1 1 false := ⟨_, _, _, _, _, Tryz.underlying26, rfl, rfl, ti9, Tryz.underlying9, rfl⟩
theorem fl26_2 : Fld Tryz.prog 26 2 2 2 true := ⟨_, _, _, _, _, Tryz.underlying26, rfl, rfl, ti24, Tryz.underlying24, rfl⟩
theorem fl26_3 : Fld Tryz.prog 26 3 4 1 false := ⟨_, _, _, _, _, Tryz.underlying26, rfl, rfl, ti9, Tryz.underlying9, rfl⟩
theorem sp26 : SP Tryz.prog 26 [(0, 1), (1, 1), (2, 2), (4, 1)] := ⟨_, Tryz.underlying26, fun _ => by simp [ti24.size, ti5.size, ti9.size, Sem.run_bind, Sem.run_pure]⟩
theorem fl35_0 : Fld Tryz.prog 35 0 0 1 false := ⟨_, _, _, _, _, Tryz.underlying35, rfl, rfl, ti30, Tryz.underlying30, rfl⟩
theorem fl35_1 : Fld Tryz.prog 35 1 1 1 false := ⟨_, _, _, _, _, Tryz.underlying35, rfl, rfl, ti34, Tryz.underlying34, rfl⟩
theorem sp35 : SP Tryz.prog 35 [(0, 1), (1, 1)] := ⟨_, Tryz.underlying35, fun _ => by simp [ti30.size, ti34.size, Sem.run_bind, Sem.run_pure]⟩
theorem fl36_0 : Fld Tryz.prog 36 0 0 1 false := ⟨_, _, _, _, _, Tryz.underlying36, rfl, rfl, ti30, Tryz.underlying30, rfl⟩
theorem fl36_1 : Fld Tryz.prog 36 1 1 1 false := ⟨_, _, _, _, _, Tryz.underlying36, rfl, rfl, ti34, Tryz.underlying34, rfl⟩
theorem sp36 : SP Tryz.prog 36 [(0, 1), (1, 1)] := ⟨_, Tryz.underlying36, fun _ => by simp [ti30.size, ti34.size, Sem.run_bind, Sem.run_pure]⟩
theorem fl43_0 : Fld Tryz.prog 43 0 0 1 false := ⟨_, _, _, _, _, Tryz.underlying43, rfl, rfl, ti3, Tryz.underlying3, rfl⟩
theorem fl43_1 : Fld Tryz.prog 43 1 1 1 false := ⟨_, _, _, _, _, Tryz.underlying43, rfl, rfl, ti3, Tryz.underlying3, rfl⟩
theorem sp43 : SP Tryz.prog 43 [(0, 1), (1, 1)] := ⟨_, Tryz.underlying43, fun _ => by simp [ti3.size, Sem.run_bind, Sem.run_pure]⟩
theorem fl44_0 : Fld Tryz.prog 44 0 0 1 false := ⟨_, _, _, _, _, Tryz.underlying44, rfl, rfl, ti3, Tryz.underlying3, rfl⟩
theorem fl44_1 : Fld Tryz.prog 44 1 1 1 false := ⟨_, _, _, _, _, Tryz.underlying44, rfl, rfl, ti3, Tryz.underlying3, rfl⟩
theorem sp44 : SP Tryz.prog 44 [(0, 1), (1, 1)] := ⟨_, Tryz.underlying44, fun _ => by simp [ti3.size, Sem.run_bind, Sem.run_pure]⟩
theorem fl46_0 : Fld Tryz.prog 46 0 0 1 false := ⟨_, _, _, _, _, Tryz.underlying46, rfl, rfl, ti3, Tryz.underlying3, rfl⟩
theorem sp46 : SP Tryz.prog 46 [(0, 1)] := ⟨_, Tryz.underlying46, fun _ => by simp [ti3.size, Sem.run_bind, Sem.run_pure]⟩
theorem fl47_0 : Fld Tryz.prog 47 0 0 1 false := ⟨_, _, _, _, _, Tryz.underlying47, rfl, rfl, ti3, Tryz.underlying3, rfl⟩
theorem sp47 : SP Tryz.prog 47 [(0, 1)] := ⟨_, Tryz.underlying47, fun _ => by simp [ti3.size, Sem.run_bind, Sem.run_pure]⟩
theorem fl54_0 : Fld Tryz.prog 54 0 0 1 false := ⟨_, _, _, _, _, Tryz.underlying54, rfl, rfl, ti5, Tryz.underlying5, rfl⟩
theorem fl54_1 : Fld Tryz.prog 54 1 1 1 false := ⟨_, _, _, _, _, Tryz.underlying54, rfl, rfl, ti9, Tryz.underlying9, rfl⟩
theorem sp54 : SP Tryz.prog 54 [(0, 1), (1, 1)] := ⟨_, Tryz.underlying54, fun _ => by simp [ti5.size, ti9.size, Sem.run_bind, Sem.run_pure]⟩
theorem fl55_0 : Fld Tryz.prog 55 0 0 1 false := ⟨_, _, _, _, _, Tryz.underlying55, rfl, rfl, ti5, Tryz.underlying5, rfl⟩
theorem fl55_1 : Fld Tryz.prog 55 1 1 1 false := ⟨_, _, _, _, _, Tryz.underlying55, rfl, rfl, ti9, Tryz.underlying9, rfl⟩
theorem sp55 : SP Tryz.prog 55 [(0, 1), (1, 1)] := ⟨_, Tryz.underlying55, fun _ => by simp [ti5.size, ti9.size, Sem.run_bind, Sem.run_pure]⟩
theorem fl63_0 : Fld Tryz.prog 63 0 0 1 false := ⟨_, _, _, _, _, Tryz.underlying63, rfl, rfl, ti3, Tryz.underlying3, rfl⟩
theorem fl63_1 : Fld Tryz.prog 63 1 1 1 false := ⟨_, _, _, _, _, Tryz.underlying63, rfl, rfl, ti3, Tryz.underlying3, rfl⟩
theorem fl63_2 : Fld Tryz.prog 63 2 2 1 false := ⟨_, _, _, _, _, Tryz.underlying63, rfl, rfl, ti3, Tryz.underlying3, rfl⟩
theorem fl63_3 : Fld Tryz.prog 63 3 3 1 false := ⟨_, _, _, _, _, Tryz.underlying63, rfl, rfl, ti3, Tryz.underlying3, rfl⟩
theorem sp63 : SP Tryz.prog 63 [(0, 1), (1, 1), (2, 1), (3, 1)] := ⟨_, Tryz.underlying63, fun _ => by simp [ti3.size, Sem.run_bind, Sem.run_pure]⟩
theorem fl64_0 : Fld Tryz.prog 64 0 0 1 false := ⟨_, _, _, _, _, Tryz.underlying64, rfl, rfl, ti3, Tryz.underlying3, rfl⟩
theorem fl64_1 : Fld Tryz.prog 64 1 1 1 false := ⟨_, _, _, _, _, Tryz.underlying64, rfl, rfl, ti3, Tryz.underlying3, rfl⟩
theorem fl64_2 : Fld Tryz.prog 64 2 2 1 false := ⟨_, _, _, _, _, Tryz.underlying64, rfl, rfl, ti3, Tryz.underlying3, rfl⟩
theorem fl64_3 : Fld Tryz.prog 64 3 3 1 false := ⟨_, _, _, _, _, Tryz.underlying64, rfl, rfl, ti3, Tryz.underlying3, rfl⟩
theorem sp64 : SP Tryz.prog 64 [(0, 1), (1, 1), (2, 1), (3, 1)] := ⟨_, Tryz.underlying64, fun _ => by simp [ti3.size, Sem.run_bind, Sem.run_pure]⟩
theorem fl67_0 : Fld Tryz.prog 67 0 0 4 true := ⟨_, _, _, _, _, Tryz.underlying67, rfl, rfl, ti64, Tryz.underlying64, rfl⟩
theorem fl67_1 : Fld Tryz.prog 67 1 4 1 false := ⟨_, _, _, _, _, Tryz.underlying67, rfl, rfl, ti40, Tryz.underlying40, rfl⟩
theorem fl67_2 : Fld Tryz.prog 67 2 5 1 false := ⟨_, _, _, _, _, Tryz.underlying67, rfl, rfl, ti65, Tryz.underlying65, rfl⟩
theorem fl67_3 : Fld Tryz.prog 67 3 6 1 false := ⟨_, _, _, _, _, Tryz.underlying67, rfl, rfl, ti38, Tryz.underlying38, rfl⟩
theorem fl67_4 : Fld Tryz.prog 67 4 7 1 false := ⟨_, _, _, _, _, Tryz.underlying67, rfl, rfl, ti56, Tryz.underlying56, rfl⟩
theorem fl67_5 : Fld Tryz.prog 67 5 8 1 false := ⟨_, _, _, _, _, Tryz.underlying67, rfl, rfl, ti66, Tryz.underlying66, rfl⟩
theorem fl67_6 : Fld Tryz.prog 67 6 9 1 false := ⟨_, _, _, _, _, Tryz.underlying67, rfl, rfl, ti4, Tryz.underlying4, rfl⟩
theorem sp67 : SP Tryz.prog 67 [(0, 4), (4, 1), (5, 1), (6, 1), (7, 1), (8, 1), (9, 1)] := ⟨_, Tryz.underlying67, fun _ => by simp [ti38.size, ti4.size, ti40.size, ti56.size, ti64.size, ti65.size, ti66.size, Sem.run_bind, Sem.run_pure]⟩
theorem fl68_0 : Fld Tryz.prog 68 0 0 4 true := ⟨_, _, _, _, _, Tryz.underlying68, rfl, rfl, ti64, Tryz.underlying64, rfl⟩
theorem fl68_1 : Fld Tryz.prog 68 1 4 1 false := ⟨_, _, _, _, _, Tryz.underlying68, rfl, rfl, ti40, Tryz.underlying40, rfl⟩
theorem fl68_2 : Fld Tryz.prog 68 2 5 1 false := ⟨_, _, _, _, _, Tryz.underlying68, rfl, rfl, ti65, Tryz.underlying65, rfl⟩
theorem fl68_3 : Fld Tryz.prog 68 3 6 1 false := ⟨_, _, _, _, _, Tryz.underlying68, rfl, rfl, ti38, Tryz.underlying38, rfl⟩
theorem fl68_4 : Fld Tryz.prog 68 4 7 1 false := ⟨_, _, _, _, _, Tryz.underlying68, rfl, rfl, ti56, Tryz.underlying56, rfl⟩
theorem fl68_5 : Fld Tryz.prog 68 5 8 1 false := ⟨_, _, _, _, _, Tryz.underlying68, rfl, rfl, ti66, Tryz.underlying66, rfl⟩
theorem fl68_6 : Fld Tryz.prog 68 6 9 1 false := ⟨_, _, _, _, _, Tryz.underlying68, rfl, rfl, ti4, Tryz.underlying4, rfl⟩
theorem sp68 : SP Tryz.prog 68 [(0, 4), (4, 1), (5, 1), (6, 1), (7, 1), (8, 1), (9, 1)] := ⟨_, Tryz.underlying68, fun _ => by simp [ti38.size, ti4.size, ti40.size, ti56.size, ti64.size, ti65.size, ti66.size, Sem.run_bind, Sem.run_pure]⟩
theorem fl70_0 : Fld Tryz.prog 70 0 0 1 false := ⟨_, _, _, _, _, Tryz.underlying70, rfl, rfl, ti9, Tryz.underlying9, rfl⟩
theorem fl70_1 : Fld Tryz.prog 70 1 1 1 false := ⟨_, _, _, _, _, Tryz.underlying70, rfl, rfl, ti9, Tryz.underlying9, rfl⟩
theorem sp70 : SP Tryz.prog 70 [(0, 1), (1, 1)] := ⟨_, Tryz.underlying70, fun _ => by simp [ti9.size, Sem.run_bind, Sem.run_pure]⟩
theorem fl71_0 : Fld Tryz.prog 71 0 0 1 false := ⟨_, _, _, _, _, Tryz.underlying71, rfl, rfl, ti9, Tryz.underlying9, rfl⟩
theorem fl71_1 : Fld Tryz.prog 71 1 1 1 false := ⟨_, _, _, _, _, Tryz.underlying71, rfl, rfl, ti9, Tryz.underlying9, rfl⟩
theorem sp71 : SP Tryz.prog 71 [(0, 1), (1, 1)] := ⟨_, Tryz.underlying71, fun _ => by simp [ti9.size, Sem.run_bind, Sem.run_pure]⟩
theorem fl79_0 : Fld Tryz.prog 79 0 0 1 false := ⟨_, _, _, _, _, Tryz.underlying79, rfl, rfl, ti22, Tryz.underlying22, rfl⟩
theorem fl79_1 : Fld Tryz.prog 79 1 1 1 false := ⟨_, _, _, _, _, Tryz.underlying79, rfl, rfl, ti56, Tryz.underlying56, rfl⟩
theorem fl79_2 : Fld Tryz.prog 79 2 2 1 false := ⟨_, _, _, _, _, Tryz.underlying79, rfl, rfl, ti77, Tryz.underlying77, rfl⟩
theorem fl79_3 : Fld Tryz.prog 79 3 3 1 false := ⟨_, _, _, _, _, Tryz.underlying79, rfl, rfl, ti78, Tryz.underlying78, rfl⟩
theorem sp79 : SP Tryz.prog 79 [(0, 1), (1, 1), (2, 1), (3, 1)] := ⟨_, Tryz.underlying79, fun _ => by simp [ti22.size, ti56.size, ti77.size, ti78.size, Sem.run_bind, Sem.run_pure]⟩
theorem fl80_0 : Fld Tryz.prog 80 0 0 1 false := ⟨_, _, _, _, _, Tryz.underlying80, rfl, rfl, ti22, Tryz.underlying22, rfl⟩
theorem fl80_1 : Fld Tryz.prog 80 1 1 1 false := ⟨_, _, _, _, _, Tryz.underlying80, rfl, rfl, ti56, Tryz.underlying56, rfl⟩
theorem fl80_2 : Fld Tryz.prog 80 2 2 1 false := ⟨_, _, _, _, _, Tryz.underlying80, rfl, rfl, ti77, Tryz.underlying77, rfl⟩
theorem fl80_3 : Fld Tryz.prog 80 3 3 1 false := ⟨_, _, _, _, _, Tryz.underlying80, rfl, rfl, ti78, Tryz.underlying78, rfl⟩
theorem sp80 : SP Tryz.prog 80 [(0, 1), (1, 1), (2, 1), (3, 1)] := ⟨_, Tryz.underlying80, fun _ => by simp [ti22.size, ti56.size, ti77.size, ti78.size, Sem.run_bind, Sem.run_pure]⟩
theorem fl86_0 : Fld Tryz.prog 86 0 0 1 false := ⟨_, _, _, _, _, Tryz.underlying86, rfl, rfl, ti78, Tryz.underlying78, rfl⟩
theorem fl86_1 : Fld Tryz.prog 86 1 1 1 false := ⟨_, _, _, _, _, Tryz.underlying86, rfl, rfl, ti3, Tryz.underlying3, rfl⟩
theorem fl86_2 : Fld Tryz.prog 86 2 2 1 false := ⟨_, _, _, _, _, Tryz.underlying86, rfl, rfl, ti5, Tryz.underlying5, rfl⟩
theorem sp86 : SP Tryz.prog 86 [(0, 1), (1, 1), (2, 1)] := ⟨_, Tryz.underlying86, fun _ => by simp [ti3.size, ti5.size, ti78.size, Sem.run_bind, Sem.run_pure]⟩
theorem fl87_0 : Fld Tryz.prog 87 0 0 1 false := ⟨_, _, _, _, _, Tryz.underlying87, rfl, rfl, ti78, Tryz.underlying78, rfl⟩
theorem fl87_1 : Fld Tryz.prog 87 1 1 1 false := ⟨_, _, _, _, _, Tryz.underlying87, rfl, rfl, ti3, Tryz.underlying3, rfl⟩
theorem fl87_2 : Fld Tryz.prog 87 2 2 1 false := ⟨_, _, _, _, _, Tryz.underlying87, rfl, rfl, ti5, Tryz.underlying5, rfl⟩
theorem sp87 : SP Tryz.prog 87 [(0, 1), (1, 1), (2, 1)] := ⟨_, Tryz.underlying87, fun _ => by simp [ti3.size, ti5.size, ti78.size, Sem.run_bind, Sem.run_pure]⟩
theorem fl88_0 : Fld Tryz.prog 88 0 0 1 false := ⟨_, _, _, _, _, Tryz.underlying88, rfl, rfl, ti3, Tryz.underlying3, rfl⟩
theorem fl88_1 : Fld Tryz.prog 88 1 1 3 true := ⟨_, _, _, _, _, Tryz.underlying88, rfl, rfl, ti87, Tryz.underlying87, rfl⟩
theorem sp88 : SP Tryz.prog 88 [(0, 1), (1, 3)] := ⟨_, Tryz.underlying88, fun _ => by simp [ti3.size, ti87.size, Sem.run_bind, Sem.run_pure]⟩
theorem fl89_0 : Fld Tryz.prog 89 0 0 1 false := ⟨_, _, _, _, _, Tryz.underlying89, rfl, rfl, ti3, Tryz.underlying3, rfl⟩
theorem fl89_1 : Fld Tryz.prog 89 1 1 3 true := ⟨_, _, _, _, _, Tryz.underlying89, rfl, rfl, ti87, Tryz.underlying87, rfl⟩
theorem sp89 : SP Tryz.prog 89 [(0, 1), (1, 3)] := ⟨_, Tryz.underlying89, fun _ => by simp [ti3.size, ti87.size, Sem.run_bind, Sem.run_pure]⟩
theorem fl91_0 : Fld Tryz.prog 91 0 0 4 true := ⟨_, _, _, _, _, Tryz.underlying91, rfl, rfl, ti89, Tryz.underlying89, rfl⟩
theorem fl91_1 : Fld Tryz.prog 91 1 4 2 true := ⟨_, _, _, _, _, Tryz.underlying91, rfl, rfl, ti44, Tryz.underlying44, rfl⟩
theorem fl91_2 : Fld Tryz.prog 91 2 6 1 false := ⟨_, _, _, _, _, Tryz.underlying91, rfl, rfl, ti85, Tryz.underlying85, rfl⟩
theorem fl91_3 : Fld Tryz.prog 91 3 7 1 false := ⟨_, _, _, _, _, Tryz.underlying91, rfl, rfl, ti90, Tryz.underlying90, rfl⟩
theorem fl91_4 : Fld Tryz.prog 91 4 8 1 false := ⟨_, _, _, _, _, Tryz.underlying91, rfl, rfl, ti4, Tryz.underlying4, rfl⟩
theorem fl91_5 : Fld Tryz.prog 91 5 9 1 false := ⟨_, _, _, _, _, Tryz.underlying91, rfl, rfl, ti3, Tryz.underlying3, rfl⟩
theorem fl91_6 : Fld Tryz.prog 91 6 10 1 false := ⟨_, _, _, _, _, Tryz.underlying91, rfl, rfl, ti3, Tryz.underlying3, rfl⟩
theorem sp91 : SP Tryz.prog 91 [(0, 4), (4, 2), (6, 1), (7, 1), (8, 1), (9, 1), (10, 1)] := ⟨_, Tryz.underlying91, fun _ => by simp [ti3.size, ti4.size, ti44.size, ti85.size, ti89.size, ti90.size, Sem.run_bind, Sem.run_pure]⟩
theorem fl92_0 : Fld Tryz.prog 92 0 0 4 true := ⟨_, _, _, _, _, Tryz.underlying92, rfl, rfl, ti89, Tryz.underlying89, rfl⟩
theorem fl92_1 : Fld Tryz.prog 92 1 4 2 true := ⟨_, _, _, _, _, Tryz.underlying92, rfl, rfl, ti44, Tryz.underlying44, rfl⟩
theorem fl92_2 : Fld Tryz.prog 92 2 6 1 false := ⟨_, _, _, _, _, Tryz.underlying92, rfl, rfl, ti85, Tryz.underlying85, rfl⟩
theorem fl92_3 : Fld Tryz.prog 92 3 7 1 false := ⟨_, _, _, _, _, Tryz.underlying92, rfl, rfl, ti90, Tryz.underlying90, rfl⟩
theorem fl92_4 : Fld Tryz.prog 92 4 8 1 false := ⟨_, _, _, _, _, Tryz.underlying92, rfl, rfl, ti4, Tryz.underlying4, rfl⟩
theorem fl92_5 : Fld Tryz.prog 92 5 9 1 false := ⟨_, _, _, _, _, Tryz.underlying92, rfl, rfl, ti3, Tryz.underlying3, rfl⟩
theorem fl92_6 : Fld Tryz.prog 92 6 10 1 false := ⟨_, _, _, _, _, Tryz.underlying92, rfl, rfl, ti3, Tryz.underlying3, rfl⟩
theorem sp92 : SP Tryz.prog 92 [(0, 4), (4, 2), (6, 1), (7, 1), (8, 1), (9, 1), (10, 1)] := ⟨_, Tryz.underlying92, fun _ => by simp [ti3.size, ti4.size, ti44.size, ti85.size, ti89.size, ti90.size, Sem.run_bind, Sem.run_pure]⟩
theorem fl114_0 : Fld Tryz.prog 114 0 0 1 false := ⟨_, _, _, _, _, Tryz.underlying114, rfl, rfl, ti3, Tryz.underlying3, rfl⟩
theorem fl114_1 : Fld Tryz.prog 114 1 1 1 false := ⟨_, _, _, _, _, Tryz.underlying114, rfl, rfl, ti3, Tryz.underlying3, rfl⟩
theorem fl114_2 : Fld Tryz.prog 114 2 2 1 false := ⟨_, _, _, _, _, Tryz.underlying114, rfl, rfl, ti3, Tryz.underlying3, rfl⟩
theorem fl114_3 : Fld Tryz.prog 114 3 3 1 false := ⟨_, _, _, _, _, Tryz.underlying114, rfl, rfl, ti3, Tryz.underlying3, rfl⟩
theorem fl114_4 : Fld Tryz.prog 114 4 4 1 false := ⟨_, _, _, _, _, Tryz.underlying114, rfl, rfl, ti3, Tryz.underlying3, rfl⟩
theorem fl114_5 : Fld Tryz.prog 114 5 5 1 false := ⟨_, _, _, _, _, Tryz.underlying114, rfl, rfl, ti3, Tryz.underlying3, rfl⟩
theorem fl114_6 : Fld Tryz.prog 114 6 6 1 false := ⟨_, _, _, _, _, Tryz.underlying114, rfl, rfl, ti3, Tryz.underlying3, rfl⟩
theorem sp114 : SP Tryz.prog 114 [(0, 1), (1, 1), (2, 1), (3, 1), (4, 1), (5, 1), (6, 1)] := ⟨_, Tryz.underlying114, fun _ => by simp [ti3.size, Sem.run_bind, Sem.run_pure]⟩
theorem fl115_0 : Fld Tryz.prog 115 0 0 1 false := ⟨_, _, _, _, _, Tryz.underlying115, rfl, rfl, ti3, Tryz.underlying3, rfl⟩
theorem fl115_1 : Fld Tryz.prog 115 1 1 1 false := ⟨_, _, _, _, _, Tryz.underlying115, rfl, rfl, ti3, Tryz.underlying3, rfl⟩
theorem fl115_2 : Fld Tryz.prog 115 2 2 1 false := ⟨_, _, _, _, _, Tryz.underlying115, rfl, rfl, ti3, Tryz.underlying3, rfl⟩
theorem fl115_3 : Fld Tryz.prog 115 3 3 1 false := ⟨_, _, _, _, _, Tryz.underlying115, rfl, rfl, ti3, Tryz.underlying3, rfl⟩
theorem fl115_4 : Fld Tryz.prog 115 4 4 1 false := ⟨_, _, _, _, _, Tryz.underlying115, rfl, rfl, ti3, Tryz.underlying3, rfl⟩
theorem fl115_5 : Fld Tryz.prog 115 5 5 1 false := ⟨_, _, _, _, _, Tryz.underlying115, rfl, rfl, ti3, Tryz.underlying3, rfl⟩
theorem fl115_6 : Fld Tryz.prog 115 6 6 1 false := ⟨_, _, _, _, _, Tryz.underlying115, rfl, rfl, ti3, Tryz.underlying3, rfl⟩
theorem sp115 : SP Tryz.prog 115 [(0, 1), (1, 1), (2, 1), (3, 1), (4, 1), (5, 1), (6, 1)] := ⟨_, Tryz.underlying115, fun _ => by simp [ti3.size, Sem.run_bind, Sem.run_pure]⟩
theorem fl116_0 : Fld Tryz.prog 116 0 0 1 false := ⟨_, _, _, _, _, Tryz.underlying116, rfl, rfl, ti40, Tryz.underlying40, rfl⟩
theorem fl116_1 : Fld Tryz.prog 116 1 1 1 false := ⟨_, _, _, _, _, Tryz.underlying116, rfl, rfl, ti56, Tryz.underlying56, rfl⟩
theorem fl116_2 : Fld Tryz.prog 116 2 2 1 false := ⟨_, _, _, _, _, Tryz.underlying116, rfl, rfl, ti112, Tryz.underlying112, rfl⟩
theorem fl116_3 : Fld Tryz.prog 116 3 3 1 false := ⟨_, _, _, _, _, Tryz.underlying116, rfl, rfl, ti113, Tryz.underlying113, rfl⟩
theorem fl116_4 : Fld Tryz.prog 116 4 4 7 true := ⟨_, _, _, _, _, Tryz.underlying116, rfl, rfl, ti115, Tryz.underlying115, rfl⟩
theorem fl116_5 : Fld Tryz.prog 116 5 11 1 false := ⟨_, _, _, _, _, Tryz.underlying116, rfl, rfl, ti4, Tryz.underlying4, rfl⟩
theorem sp116 : SP Tryz.prog 116 [(0, 1), (1, 1), (2, 1), (3, 1), (4, 7), (11, 1)] := ⟨_, Tryz.underlying116, fun _ => by simp [ti112.size, ti113.size, ti115.size, ti4.size, ti40.size, ti56.size, Sem.run_bind, Sem.run_pure]⟩
theorem fl117_0 : Fld Tryz.prog 117 0 0 1 false := ⟨_, _, _, _, _, Tryz.underlying117, rfl, rfl, ti40, Tryz.underlying40, rfl⟩
theorem fl117_1 : Fld Tryz.prog 117 1 1 1 false := ⟨_, _, _, _, _, Tryz.underlying117, rfl, rfl, ti56, Tryz.underlying56, rfl⟩
theorem fl117_2 : Fld Tryz.prog 117 2 2 1 false := ⟨_, _, _, _, _, Tryz.underlying117, rfl, rfl, ti112, Tryz.underlying112, rfl⟩
theorem fl117_3 : Fld Tryz.prog 117 3 3 1 false := ⟨_, _, _, _, _, Tryz.underlying117, rfl, rfl, ti113, Tryz.underlying113, rfl⟩
theorem fl117_4 : Fld Tryz.prog 117 4 4 7 true := ⟨_, _, _, _, _, Tryz.underlying117, rfl, rfl, ti115, Tryz.underlying115, rfl⟩
theorem fl117_5 : Fld Tryz.prog 117 5 11 1 false := ⟨_, _, _, _, _, Tryz.underlying117, rfl, rfl, ti4, Tryz.underlying4, rfl⟩
theorem sp117 : SP Tryz.prog 117 [(0, 1), (1, 1), (2, 1), (3, 1), (4, 7), (11, 1)] := ⟨_, Tryz.underlying117, fun _ => by simp [ti112.size, ti113.size, ti115.size, ti4.size, ti40.size, ti56.size, Sem.run_bind, Sem.run_pure]⟩
theorem fl126_0 : Fld Tryz.prog 126 0 0 1 false := ⟨_, _, _, _, _, Tryz.underlying126, rfl, rfl, ti3, Tryz.underlying3, rfl⟩
theorem fl126_1 : Fld Tryz.prog 126 1 1 1 false := ⟨_, _, _, _, _, Tryz.underlying126, rfl, rfl, ti3, Tryz.underlying3, rfl⟩
theorem fl126_2 : Fld Tryz.prog 126 2 2 1 false := ⟨_, _, _, _, _, Tryz.underlying126, rfl, rfl, ti3, Tryz.underlying3, rfl⟩
theorem fl126_3 : Fld Tryz.prog 126 3 3 1 false := ⟨_, _, _, _, _, Tryz.underlying126, rfl, rfl, ti3, Tryz.underlying3, rfl⟩
theorem fl126_4 : Fld Tryz.prog 126 4 4 1 false := ⟨_, _, _, _, _, Tryz.underlying126, rfl, rfl, ti3, Tryz.underlying3, rfl⟩
theorem fl126_5 : Fld Tryz.prog 126 5 5 1 false := ⟨_, _, _, _, _, Tryz.underlying126, rfl, rfl, ti124, Tryz.underlying124, rfl⟩
theorem fl126_6 : Fld Tryz.prog 126 6 6 1 false := ⟨_, _, _, _, _, Tryz.underlying126, rfl, rfl, ti78, Tryz.underlying78, rfl⟩
theorem fl126_7 : Fld Tryz.prog 126 7 7 1 false := ⟨_, _, _, _, _, Tryz.underlying126, rfl, rfl, ti125, Tryz.underlying125, rfl⟩
theorem fl126_8 : Fld Tryz.prog 126 8 8 1 false := ⟨_, _, _, _, _, Tryz.underlying126, rfl, rfl, ti125, Tryz.underlying125, rfl⟩
theorem sp126 : SP Tryz.prog 126 [(0, 1), (1, 1), (2, 1), (3, 1), (4, 1), (5, 1), (6, 1), (7, 1), (8, 1)] := ⟨_, Tryz.underlying126, fun _ => by simp [ti124.size, ti125.size, ti3.size, ti78.size, Sem.run_bind, Sem.run_pure]⟩
theorem fl127_0 : Fld Tryz.prog 127 0 0 1 false := ⟨_, _, _, _, _, Tryz.underlying127, rfl, rfl, ti3, Tryz.underlying3, rfl⟩
theorem fl127_1 : Fld Tryz.prog 127 1 1 1 false := ⟨_, _, _, _, _, Tryz.underlying127, rfl, rfl, ti3, Tryz.underlying3, rfl⟩
theorem fl127_2 : Fld Tryz.prog 127 2 2 1 false := ⟨_, _, _, _, _, Tryz.underlying127, rfl, rfl, ti3, Tryz.underlying3, rfl⟩
theorem fl127_3 : Fld Tryz.prog 127 3 3 1 false := ⟨_, _, _, _, _, Tryz.underlying127, rfl, rfl, ti3, Tryz.underlying3, rfl⟩
theorem fl127_4 : Fld Tryz.prog 127 4 4 1 false := ⟨_, _, _, _, _, Tryz.underlying127, rfl, rfl, ti3, Tryz.underlying3, rfl⟩
theorem fl127_5 : Fld Tryz.prog 127 5 5 1 false := ⟨_, _, _, _, _, Tryz.underlying127, rfl, rfl, ti124, Tryz.underlying124, rfl⟩
theorem fl127_6 : Fld Tryz.prog 127 6 6 1 false := ⟨_, _, _, _, _, Tryz.underlying127, rfl, rfl, ti78, Tryz.underlying78, rfl⟩
theorem fl127_7 : Fld Tryz.prog 127 7 7 1 false := ⟨_, _, _, _, _, Tryz.underlying127, rfl, rfl, ti125, Tryz.underlying125, rfl⟩
theorem fl127_8 : Fld Tryz.prog 127 8 8 1 false := ⟨_, _, _, _, _, Tryz.underlying127, rfl, rfl, ti125, Tryz.underlying125, rfl⟩
theorem sp127 : SP Tryz.prog 127 [(0, 1), (1, 1), (2, 1), (3, 1), (4, 1), (5, 1), (6, 1), (7, 1), (8, 1)] := ⟨_, Tryz.underlying127, fun _ => by simp [ti124.size, ti125.size, ti3.size, ti78.size, Sem.run_bind, Sem.run_pure]⟩
theorem fl129_0 : Fld Tryz.prog 129 0 0 1 false := ⟨_, _, _, _, _, Tryz.underlying129, rfl, rfl, ti4, Tryz.underlying4, rfl⟩
theorem fl129_1 : Fld Tryz.prog 129 1 1 1 false := ⟨_, _, _, _, _, Tryz.underlying129, rfl, rfl, ti102, Tryz.underlying102, rfl⟩
theorem fl129_2 : Fld Tryz.prog 129 2 2 1 false := ⟨_, _, _, _, _, Tryz.underlying129, rfl, rfl, ti102, Tryz.underlying102, rfl⟩
theorem fl129_3 : Fld Tryz.prog 129 3 3 1 false := ⟨_, _, _, _, _, Tryz.underlying129, rfl, rfl, ti128, Tryz.underlying128, rfl⟩
theorem sp129 : SP Tryz.prog 129 [(0, 1), (1, 1), (2, 1), (3, 1)] := ⟨_, Tryz.underlying129, fun _ => by simp [ti102.size, ti128.size, ti4.size, Sem.run_bind, Sem.run_pure]⟩
theorem fl130_0 : Fld Tryz.prog 130 0 0 1 false := ⟨_, _, _, _, _, Tryz.underlying130, rfl, rfl, ti4, Tryz.underlying4, rfl⟩
theorem fl130_1 : Fld Tryz.prog 130 1 1 1 false := ⟨_, _, _, _, _, Tryz.underlying130, rfl, rfl, ti102, Tryz.underlying102, rfl⟩
theorem fl130_2 : Fld Tryz.prog 130 2 2 1 false := ⟨_, _, _, _, _, Tryz.underlying130, rfl, rfl, ti102, Tryz.underlying102, rfl⟩
theorem fl130_3 : Fld Tryz.prog 130 3 3 1 false := ⟨_, _, _, _, _, Tryz.underlying130, rfl, rfl, ti128, Tryz.underlying128, rfl⟩
theorem sp130 : SP Tryz.prog 130 [(0, 1), (1, 1), (2, 1), (3, 1)] := ⟨_, Tryz.underlying130, fun _ => by simp [ti102.size, ti128.size, ti4.size, Sem.run_bind, Sem.run_pure]⟩
theorem fl145_0 : Fld Tryz.prog 145 0 0 1 false := ⟨_, _, _, _, _, Tryz.underlying145, rfl, rfl, ti3, Tryz.underlying3, rfl⟩
theorem fl145_1 : Fld Tryz.prog 145 1 1 1 false := ⟨_, _, _, _, _, Tryz.underlying145, rfl, rfl, ti144, Tryz.underlying144, rfl⟩
theorem fl145_2 : Fld Tryz.prog 145 2 2 1 false := ⟨_, _, _, _, _, Tryz.underlying145, rfl, rfl, ti144, Tryz.underlying144, rfl⟩
theorem fl145_3 : Fld Tryz.prog 145 3 3 1 false := ⟨_, _, _, _, _, Tryz.underlying145, rfl, rfl, ti4, Tryz.underlying4, rfl⟩
theorem sp145 : SP Tryz.prog 145 [(0, 1), (1, 1), (2, 1), (3, 1)] := ⟨_, Tryz.underlying145, fun _ => by simp [ti144.size, ti3.size, ti4.size, Sem.run_bind, Sem.run_pure]⟩
theorem fl146_0 : Fld Tryz.prog 146 0 0 1 false := ⟨_, _, _, _, _, Tryz.underlying146, rfl, rfl, ti3, Tryz.underlying3, rfl⟩
theorem fl146_1 : Fld Tryz.prog 146 1 1 1 false := ⟨_, _, _, _, _, Tryz.underlying146, rfl, rfl, ti144, Tryz.underlying144, rfl⟩
theorem fl146_2 : Fld Tryz.prog 146 2 2 1 false := ⟨_, _, _, _, _, Tryz.underlying146, rfl, rfl, ti144, Tryz.underlying144, rfl⟩
theorem fl146_3 : Fld Tryz.prog 146 3 3 1 false := ⟨_, _, _, _, _, Tryz.underlying146, rfl, rfl, ti4, Tryz.underlying4, rfl⟩
theorem sp146 : SP Tryz.prog 146 [(0, 1), (1, 1), (2, 1), (3, 1)] := ⟨_, Tryz.underlying146, fun _ => by simp [ti144.size, ti3.size, ti4.size, Sem.run_bind, Sem.run_pure]⟩
theorem fl156_0 : Fld Tryz.prog 156 0 0 1 false := ⟨_, _, _, _, _, Tryz.underlying156, rfl, rfl, ti3, Tryz.underlying3, rfl⟩
theorem fl156_1 : Fld Tryz.prog 156 1 1 1 false := ⟨_, _, _, _, _, Tryz.underlying156, rfl, rfl, ti9, Tryz.underlying9, rfl⟩
theorem sp156 : SP Tryz.prog 156 [(0, 1), (1, 1)] := ⟨_, Tryz.underlying156, fun _ => by simp [ti3.size, ti9.size, Sem.run_bind, Sem.run_pure]⟩
theorem fl157_0 : Fld Tryz.prog 157 0 0 1 false := ⟨_, _, _, _, _, Tryz.underlying157, rfl, rfl, ti3, Tryz.underlying3, rfl⟩
theorem fl157_1 : Fld Tryz.prog 157 1 1 1 false := ⟨_, _, _, _, _, Tryz.underlying157, rfl, rfl, ti9, Tryz.underlying9, rfl⟩
theorem sp157 : SP Tryz.prog 157 [(0, 1), (1, 1)] := ⟨_, Tryz.underlying157, fun _ => by simp [ti3.size, ti9.size, Sem.run_bind, Sem.run_pure]⟩
theorem fl161_0 : Fld Tryz.prog 161 0 0 1 false := ⟨_, _, _, _, _, Tryz.underlying161, rfl, rfl, ti3, Tryz.underlying3, rfl⟩
theorem fl161_1 : Fld Tryz.prog 161 1 1 1 false := ⟨_, _, _, _, _, Tryz.underlying161, rfl, rfl, ti9, Tryz.underlying9, rfl⟩
theorem sp161 : SP Tryz.prog 161 [(0, 1), (1, 1)] := ⟨_, Tryz.underlying161, fun _ => by simp [ti3.size, ti9.size, Sem.run_bind, Sem.run_pure]⟩
theorem fl162_0 : Fld Tryz.prog 162 0 0 1 false := ⟨_, _, _, _, _, Tryz.underlying162, rfl, rfl, ti3, Tryz.underlying3, rfl⟩
theorem fl162_1 : Fld Tryz.prog 162 1 1 1 false := ⟨_, _, _, _, _, Tryz.underlying162, rfl, rfl, ti9, Tryz.underlying9, rfl⟩
theorem sp162 : SP Tryz.prog 162 [(0, 1), (1, 1)] := ⟨_, Tryz.underlying162, fun _ => by simp [ti3.size, ti9.size, Sem.run_bind, Sem.run_pure]⟩
theorem fl166_0 : Fld Tryz.prog 166 0 0 1 false := ⟨_, _, _, _, _, Tryz.underlying166, rfl, rfl, ti3, Tryz.underlying3, rfl⟩
theorem fl166_1 : Fld Tryz.prog 166 1 1 1 false := ⟨_, _, _, _, _, Tryz.underlying166, rfl, rfl, ti9, Tryz.underlying9, rfl⟩
theorem sp166 : SP Tryz.prog 166 [(0, 1), (1, 1)] := ⟨_, Tryz.underlying166, fun _ => by simp [ti3.size, ti9.size, Sem.run_bind, Sem.run_pure]⟩
theorem fl167_0 : Fld Tryz.prog 167 0 0 1 false := ⟨_, _, _, _, _, Tryz.underlying167, rfl, rfl, ti3, Tryz.underlying3, rfl⟩
theorem fl167_1 : Fld Tryz.prog 167 1 1 1 false := ⟨_, _, _, _, _, Tryz.underlying167, rfl, rfl, ti9, Tryz.underlying9, rfl⟩
theorem sp167 : SP Tryz.prog 167 [(0, 1), (1, 1)] := ⟨_, Tryz.underlying167, fun _ => by simp [ti3.size, ti9.size, Sem.run_bind, Sem.run_pure]⟩
theorem fl169_0 : Fld Tryz.prog 169 0 0 1 false := ⟨_, _, _, _, _, Tryz.underlying169, rfl, rfl, ti40, Tryz.underlying40, rfl⟩
theorem fl169_1 : Fld Tryz.prog 169 1 1 1 false := ⟨_, _, _, _, _, Tryz.underlying169, rfl, rfl, ti3, Tryz.underlying3, rfl⟩
theorem fl169_2 : Fld Tryz.prog 169 2 2 1 false := ⟨_, _, _, _, _, Tryz.underlying169, rfl, rfl, ti3, Tryz.underlying3, rfl⟩
theorem sp169 : SP Tryz.prog 169 [(0, 1), (1, 1), (2, 1)] := ⟨_, Tryz.underlying169, fun _ => by simp [ti3.size, ti40.size, Sem.run_bind, Sem.run_pure]⟩
theorem fl170_0 : Fld Tryz.prog 170 0 0 1 false := ⟨_, _, _, _, _, Tryz.underlying170, rfl, rfl, ti40, Tryz.underlying40, rfl⟩
theorem fl170_1 : Fld Tryz.prog 170 1 1 1 false := ⟨_, _, _, _, _, Tryz.underlying170, rfl, rfl, ti3, Tryz.underlying3, rfl⟩
theorem fl170_2 : Fld Tryz.prog 170 2 2 1 false := ⟨_, _, _, _, _, Tryz.underlying170, rfl, rfl, ti3, Tryz.underlying3, rfl⟩
theorem sp170 : SP Tryz.prog 170 [(0, 1), (1, 1), (2, 1)] := ⟨_, Tryz.underlying170, fun _ => by simp [ti3.size, ti40.size, Sem.run_bind, Sem.run_pure]⟩
theorem fl172_0 : Fld Tryz.prog 172 0 0 1 false := ⟨_, _, _, _, _, Tryz.underlying172, rfl, rfl, ti_mk (z := Value.nilFunc) (s := 1) (bytes := 8) (by kernel_rfl), Tryz.underlying37, rfl⟩
theorem fl173_0 : Fld Tryz.prog 173 0 0 1 false := ⟨_, _, _, _, _, Tryz.underlying173, rfl, rfl, ti_mk (z := Value.nilFunc) (s := 1) (bytes := 8) (by kernel_rfl), Tryz.underlying37, rfl⟩
theorem fl177_0 : Fld Tryz.prog 177 0 0 1 false := ⟨_, _, _, _, _, Tryz.underlying177, rfl, rfl, ti176, Tryz.underlying176, rfl⟩
theorem fl177_1 : Fld Tryz.prog 177 1 1 1 false := ⟨_, _, _, _, _, Tryz.underlying177, rfl, rfl, ti3, Tryz.underlying3, rfl⟩
theorem fl177_2 : Fld Tryz.prog 177 2 2 1 false := ⟨_, _, _, _, _, Tryz.underlying177, rfl, rfl, ti176, Tryz.underlying176, rfl⟩
theorem sp177 : SP Tryz.prog 177 [(0, 1), (1, 1), (2, 1)] := ⟨_, Tryz.underlying177, fun _ => by simp [ti176.size, ti3.size, Sem.run_bind, Sem.run_pure]⟩
theorem fl178_0 : Fld Tryz.prog 178 0 0 1 false := ⟨_, _, _, _, _, Tryz.underlying178, rfl, rfl, ti176, Tryz.underlying176, rfl⟩
theorem fl178_1 : Fld Tryz.prog 178 1 1 1 false := ⟨_, _, _, _, _, Tryz.underlying178, rfl, rfl, ti3, Tryz.underlying3, rfl⟩
theorem fl178_2 : Fld Tryz.prog 178 2 2 1 false := ⟨_, _, _, _, _, Tryz.underlying178, rfl, rfl, ti176, Tryz.underlying176, rfl⟩
theorem sp178 : SP Tryz.prog 178 [(0, 1), (1, 1), (2, 1)] := ⟨_, Tryz.underlying178, fun _ => by simp [ti176.size, ti3.size, Sem.run_bind, Sem.run_pure]⟩
theorem fl183_0 : Fld Tryz.prog 183 0 0 3 true := ⟨_, _, _, _, _, Tryz.underlying183, rfl, rfl, ti170, Tryz.underlying170, rfl⟩
theorem fl183_1 : Fld Tryz.prog 183 1 3 3 true := ⟨_, _, _, _, _, Tryz.underlying183, rfl, rfl, ti178, Tryz.underlying178, rfl⟩
theorem fl183_2 : Fld Tryz.prog 183 2 6 1 false := ⟨_, _, _, _, _, Tryz.underlying183, rfl, rfl, ti3, Tryz.underlying3, rfl⟩
theorem fl183_3 : Fld Tryz.prog 183 3 7 1 false := ⟨_, _, _, _, _, Tryz.underlying183, rfl, rfl, ti3, Tryz.underlying3, rfl⟩
theorem fl183_4 : Fld Tryz.prog 183 4 8 1 false := ⟨_, _, _, _, _, Tryz.underlying183, rfl, rfl, ti4, Tryz.underlying4, rfl⟩
theorem sp183 : SP Tryz.prog 183 [(0, 3), (3, 3), (6, 1), (7, 1), (8, 1)] := ⟨_, Tryz.underlying183, fun _ => by simp [ti170.size, ti178.size, ti3.size, ti4.size, Sem.run_bind, Sem.run_pure]⟩
theorem fl184_0 : Fld Tryz.prog 184 0 0 3 true := ⟨_, _, _, _, _, Tryz.underlying184, rfl, rfl, ti170, Tryz.underlying170, rfl⟩
theorem fl184_1 : Fld Tryz.prog 184 1 3 3 true := ⟨_, _, _, _, _, Tryz.underlying184, rfl, rfl, ti178, Tryz.underlying178, rfl⟩
theorem fl184_2 : Fld Tryz.prog 184 2 6 1 false := ⟨_, _, _, _, _, Tryz.underlying184, rfl, rfl, ti3, Tryz.underlying3, rfl⟩
theorem fl184_3 : Fld Tryz.prog 184 3 7 1 false := ⟨_, _, _, _, _, Tryz.underlying184, rfl, rfl, ti3, Tryz.underlying3, rfl⟩
theorem fl184_4 : Fld Tryz.prog 184 4 8 1 false := ⟨_, _, _, _, _, Tryz.underlying184, rfl, rfl, ti4, Tryz.underlying4, rfl⟩
theorem sp184 : SP Tryz.prog 184 [(0, 3), (3, 3), (6, 1), (7, 1), (8, 1)] := ⟨_, Tryz.underlying184, fun _ => by simp [ti170.size, ti178.size, ti3.size, ti4.size, Sem.run_bind, Sem.run_pure]⟩
theorem fl199_0 : Fld Tryz.prog 199 0 0 1 false := ⟨_, _, _, _, _, Tryz.underlying199, rfl, rfl, ti9, Tryz.underlying9, rfl⟩
theorem fl199_1 : Fld Tryz.prog 199 1 1 1 false := ⟨_, _, _, _, _, Tryz.underlying199, rfl, rfl, ti4, Tryz.underlying4, rfl⟩
theorem sp199 : SP Tryz.prog 199 [(0, 1), (1, 1)] := ⟨_, Tryz.underlying199, fun _ => by simp [ti4.size, ti9.size, Sem.run_bind, Sem.run_pure]⟩
theorem fl200_0 : Fld Tryz.prog 200 0 0 1 false := ⟨_, _, _, _, _, Tryz.underlying200, rfl, rfl, ti9, Tryz.underlying9, rfl⟩
theorem fl200_1 : Fld Tryz.prog 200 1 1 1 false := ⟨_, _, _, _, _, Tryz.underlying200, rfl, rfl, ti4, Tryz.underlying4, rfl⟩
theorem sp200 : SP Tryz.prog 200 [(0, 1), (1, 1)] := ⟨_, Tryz.underlying200, fun _ => by simp [ti4.size, ti9.size, Sem.run_bind, Sem.run_pure]⟩
theorem fl201_0 : Fld Tryz.prog 201 0 0 2 true := ⟨_, _, _, _, _, Tryz.underlying201, rfl, rfl, ti200, Tryz.underlying200, rfl⟩
theorem fl201_1 : Fld Tryz.prog 201 1 2 1 false := ⟨_, _, _, _, _, Tryz.underlying201, rfl, rfl, ti3, Tryz.underlying3, rfl⟩
theorem sp201 : SP Tryz.prog 201 [(0, 2), (2, 1)] := ⟨_, Tryz.underlying201, fun _ => by simp [ti200.size, ti3.size, Sem.run_bind, Sem.run_pure]⟩
theorem fl202_0 : Fld Tryz.prog 202 0 0 2 true := ⟨_, _, _, _, _, Tryz.underlying202, rfl, rfl, ti200, Tryz.underlying200, rfl⟩
theorem fl202_1 : Fld Tryz.prog 202 1 2 1 false := ⟨_, _, _, _, _, Tryz.underlying202, rfl, rfl, ti3, Tryz.underlying3, rfl⟩
theorem sp202 : SP Tryz.prog 202 [(0, 2), (2, 1)] := ⟨_, Tryz.underlying202, fun _ => by simp [ti200.size, ti3.size, Sem.run_bind, Sem.run_pure]⟩
theorem fl227_0 : Fld Tryz.prog 227 0 0 1 false := ⟨_, _, _, _, _, Tryz.underlying227, rfl, rfl, ti78, Tryz.underlying78, rfl⟩
theorem fl227_1 : Fld Tryz.prog 227 1 1 1 false := ⟨_, _, _, _, _, Tryz.underlying227, rfl, rfl, ti125, Tryz.underlying125, rfl⟩
theorem sp227 : SP Tryz.prog 227 [(0, 1), (1, 1)] := ⟨_, Tryz.underlying227, fun _ => by simp [ti125.size, ti78.size, Sem.run_bind, Sem.run_pure]⟩
theorem fl228_0 : Fld Tryz.prog 228 0 0 1 false := ⟨_, _, _, _, _, Tryz.underlying228, rfl, rfl, ti78, Tryz.underlying78, rfl⟩
theorem fl228_1 : Fld Tryz.prog 228 1 1 1 false := ⟨_, _, _, _, _, Tryz.underlying228, rfl, rfl, ti125, Tryz.underlying125, rfl⟩
theorem sp228 : SP Tryz.prog 228 [(0, 1), (1, 1)] := ⟨_, Tryz.underlying228, fun _ => by simp [ti125.size, ti78.size, Sem.run_bind, Sem.run_pure]⟩
theorem fl229_0 : Fld Tryz.prog 229 0 0 1 false := ⟨_, _, _, _, _, Tryz.underlying229, rfl, rfl, ti3, Tryz.underlying3, rfl⟩
theorem fl229_1 : Fld Tryz.prog 229 1 1 2 true := ⟨_, _, _, _, _, Tryz.underlying229, rfl, rfl, ti228, Tryz.underlying228, rfl⟩
theorem fl229_2 : Fld Tryz.prog 229 2 3 2 true := ⟨_, _, _, _, _, Tryz.underlying229, rfl, rfl, ti228, Tryz.underlying228, rfl⟩
theorem fl229_3 : Fld Tryz.prog 229 3 5 2 true := ⟨_, _, _, _, _, Tryz.underlying229, rfl, rfl, ti228, Tryz.underlying228, rfl⟩
theorem fl229_4 : Fld Tryz.prog 229 4 7 2 true := ⟨_, _, _, _, _, Tryz.underlying229, rfl, rfl, ti228, Tryz.underlying228, rfl⟩
theorem fl229_5 : Fld Tryz.prog 229 5 9 1 false := ⟨_, _, _, _, _, Tryz.underlying229, rfl, rfl, ti3, Tryz.underlying3, rfl⟩
theorem fl229_6 : Fld Tryz.prog 229 6 10 1 false := ⟨_, _, _, _, _, Tryz.underlying229, rfl, rfl, ti125, Tryz.underlying125, rfl⟩
theorem sp229 : SP Tryz.prog 229 [(0, 1), (1, 2), (3, 2), (5, 2), (7, 2), (9, 1), (10, 1)] := ⟨_, Tryz.underlying229, fun _ => by simp [ti125.size, ti228.size, ti3.size, Sem.run_bind, Sem.run_pure]⟩
theorem fl230_0 : Fld Tryz.prog 230 0 0 1 false := ⟨_, _, _, _, _, Tryz.underlying230, rfl, rfl, ti3, Tryz.underlying3, rfl⟩
theorem fl230_1 : Fld Tryz.prog 230 1 1 2 true := ⟨_, _, _, _, _, Tryz.underlying230, rfl, rfl, ti228, Tryz.underlying228, rfl⟩
theorem fl230_2 : Fld Tryz.prog 230 2 3 2 true := ⟨_, _, _, _, _, Tryz.underlying230, rfl, rfl, ti228, Tryz.underlying228, rfl⟩
theorem fl230_3 : Fld Tryz.prog 230 3 5 2 true := ⟨_, _, _, _, _, Tryz.underlying230, rfl, rfl, ti228, Tryz.underlying228, rfl⟩
theorem fl230_4 : Fld Tryz.prog 230 4 7 2 true := ⟨_, _, _, _, _, Tryz.underlying230, rfl, rfl, ti228, Tryz.underlying228, rfl⟩
theorem fl230_5 : Fld Tryz.prog 230 5 9 1 false := ⟨_, _, _, _, _, Tryz.underlying230, rfl, rfl, ti3, Tryz.underlying3, rfl⟩
theorem fl230_6 : Fld Tryz.prog 230 6 10 1 false := ⟨_, _, _, _, _, Tryz.underlying230, rfl, rfl, ti125, Tryz.underlying125, rfl⟩
theorem sp230 : SP Tryz.prog 230 [(0, 1), (1, 2), (3, 2), (5, 2), (7, 2), (9, 1), (10, 1)] := ⟨_, Tryz.underlying230, fun _ => by simp [ti125.size, ti228.size, ti3.size, Sem.run_bind, Sem.run_pure]⟩
theorem fl254_0 : Fld Tryz.prog 254 0 0 1 false := ⟨_, _, _, _, _, Tryz.underlying254, rfl, rfl, ti253, Tryz.underlying253, rfl⟩
theorem fl254_1 : Fld Tryz.prog 254 1 1 1 false := ⟨_, _, _, _, _, Tryz.underlying254, rfl, rfl, ti53, Tryz.underlying53, rfl⟩
theorem sp254 : SP Tryz.prog 254 [(0, 1), (1, 1)] := ⟨_, Tryz.underlying254, fun _ => by simp [ti253.size, ti53.size, Sem.run_bind, Sem.run_pure]⟩
theorem fl255_0 : Fld Tryz.prog 255 0 0 1 false := ⟨_, _, _, _, _, Tryz.underlying255, rfl, rfl, ti253, Tryz.underlying253, rfl⟩
theorem fl255_1 : Fld Tryz.prog 255 1 1 1 false := ⟨_, _, _, _, _, Tryz.underlying255, rfl, rfl, ti53, Tryz.underlying53, rfl⟩
theorem sp255 : SP Tryz.prog 255 [(0, 1), (1, 1)] := ⟨_, Tryz.underlying255, fun _ => by simp [ti253.size, ti53.size, Sem.run_bind, Sem.run_pure]⟩
theorem fl264_0 : Fld Tryz.prog 264 0 0 1 false := ⟨_, _, _, _, _, Tryz.underlying264, rfl, rfl, ti9, Tryz.underlying9, rfl⟩
theorem fl264_1 : Fld Tryz.prog 264 1 1 1 false := ⟨_, _, _, _, _, Tryz.underlying264, rfl, rfl, ti9, Tryz.underlying9, rfl⟩
theorem fl264_2 : Fld Tryz.prog 264 2 2 1 false := ⟨_, _, _, _, _, Tryz.underlying264, rfl, rfl, ti4, Tryz.underlying4, rfl⟩
theorem sp264 : SP Tryz.prog 264 [(0, 1), (1, 1), (2, 1)] := ⟨_, Tryz.underlying264, fun _ => by simp [ti4.size, ti9.size, Sem.run_bind, Sem.run_pure]⟩
theorem fl265_0 : Fld Tryz.prog 265 0 0 1 false := ⟨_, _, _, _, _, Tryz.underlying265, rfl, rfl, ti9, Tryz.underlying9, rfl⟩
theorem fl265_1 : Fld Tryz.prog 265 1 1 1 false := ⟨_, _, _, _, _, Tryz.underlying265, rfl, rfl, ti9, Tryz.underlying9, rfl⟩
theorem fl265_2 : Fld Tryz.prog 265 2 2 1 false := ⟨_, _, _, _, _, Tryz.underlying265, rfl, rfl, ti4, Tryz.underlying4, rfl⟩
theorem sp265 : SP Tryz.prog 265 [(0, 1), (1, 1), (2, 1)] := ⟨_, Tryz.underlying265, fun _ => by simp [ti4.size, ti9.size, Sem.run_bind, Sem.run_pure]⟩
theorem fl311_0 : Fld Tryz.prog 311 0 0 1 false := ⟨_, _, _, _, _, Tryz.underlying311, rfl, rfl, ti123, Tryz.underlying123, rfl⟩
theorem fl311_1 : Fld Tryz.prog 311 1 1 1 false := ⟨_, _, _, _, _, Tryz.underlying311, rfl, rfl, ti3, Tryz.underlying3, rfl⟩
theorem fl311_2 : Fld Tryz.prog 311 2 2 1 false := ⟨_, _, _, _, _, Tryz.underlying311, rfl, rfl, ti123, Tryz.underlying123, rfl⟩
theorem fl311_3 : Fld Tryz.prog 311 3 3 1 false := ⟨_, _, _, _, _, Tryz.underlying311, rfl, rfl, ti123, Tryz.underlying123, rfl⟩
theorem sp311 : SP Tryz.prog 311 [(0, 1), (1, 1), (2, 1), (3, 1)] := ⟨_, Tryz.underlying311, fun _ => by simp [ti123.size, ti3.size, Sem.run_bind, Sem.run_pure]⟩
theorem fl312_0 : Fld Tryz.prog 312 0 0 1 false := ⟨_, _, _, _, _, Tryz.underlying312, rfl, rfl, ti123, Tryz.underlying123, rfl⟩
theorem fl312_1 : Fld Tryz.prog 312 1 1 1 false := ⟨_, _, _, _, _, Tryz.underlying312, rfl, rfl, ti3, Tryz.underlying3, rfl⟩
theorem fl312_2 : Fld Tryz.prog 312 2 2 1 false := ⟨_, _, _, _, _, Tryz.underlying312, rfl, rfl, ti123, Tryz.underlying123, rfl⟩
theorem fl312_3 : Fld Tryz.prog 312 3 3 1 false := ⟨_, _, _, _, _, Tryz.underlying312, rfl, rfl, ti123, Tryz.underlying123, rfl⟩
theorem sp312 : SP Tryz.prog 312 [(0, 1), (1, 1), (2, 1), (3, 1)] := ⟨_, Tryz.underlying312, fun _ => by simp [ti123.size, ti3.size, Sem.run_bind, Sem.run_pure]⟩
theorem fl330_0 : Fld Tryz.prog 330 0 0 1 false := ⟨_, _, _, _, _, Tryz.underlying330, rfl, rfl, ti17, Tryz.underlying17, rfl⟩
theorem fl330_1 : Fld Tryz.prog 330 1 1 1 false := ⟨_, _, _, _, _, Tryz.underlying330, rfl, rfl, ti17, Tryz.underlying17, rfl⟩
theorem fl330_2 : Fld Tryz.prog 330 2 2 1 false := ⟨_, _, _, _, _, Tryz.underlying330, rfl, rfl, ti17, Tryz.underlying17, rfl⟩
theorem fl330_3 : Fld Tryz.prog 330 3 3 1 false := ⟨_, _, _, _, _, Tryz.underlying330, rfl, rfl, ti9, Tryz.underlying9, rfl⟩
theorem sp330 : SP Tryz.prog 330 [(0, 1), (1, 1), (2, 1), (3, 1)] := ⟨_, Tryz.underlying330, fun _ => by simp [ti17.size, ti9.size, Sem.run_bind, Sem.run_pure]⟩
theorem fl331_0 : Fld Tryz.prog 331 0 0 1 false := ⟨_, _, _, _, _, Tryz.underlying331, rfl, rfl, ti17, Tryz.underlying17, rfl⟩
theorem fl331_1 : Fld Tryz.prog 331 1 1 1 false := ⟨_, _, _, _, _, Tryz.underlying331, rfl, rfl, ti17, Tryz.underlying17, rfl⟩
theorem fl331_2 : Fld Tryz.prog 331 2 2 1 false := ⟨_, _, _, _, _, Tryz.underlying331, rfl, rfl, ti17, Tryz.underlying17, rfl⟩
theorem fl331_3 : Fld Tryz.prog 331 3 3 1 false := ⟨_, _, _, _, _, Tryz.underlying331, rfl, rfl, ti9, Tryz.underlying9, rfl⟩
theorem sp331 : SP Tryz.prog 331 [(0, 1), (1, 1), (2, 1), (3, 1)] := ⟨_, Tryz.underlying331, fun _ => by simp [ti17.size, ti9.size, Sem.run_bind, Sem.run_pure]⟩
theorem fl333_0 : Fld Tryz.prog 333 0 0 0 true := ⟨_, _, _, _, _, Tryz.underlying333, rfl, rfl, ti332, Tryz.underlying332, rfl⟩
theorem sp333 : SP Tryz.prog 333 [(0, 0)] := ⟨_, Tryz.underlying333, fun _ => by simp [ti332.size, Sem.run_bind, Sem.run_pure]⟩
theorem fl334_0 : Fld Tryz.prog 334 0 0 0 true := ⟨_, _, _, _, _, Tryz.underlying334, rfl, rfl, ti332, Tryz.underlying332, rfl⟩
theorem sp334 : SP Tryz.prog 334 [(0, 0)] := ⟨_, Tryz.underlying334, fun _ => by simp [ti332.size, Sem.run_bind, Sem.run_pure]⟩
theorem fl340_0 : Fld Tryz.prog 340 0 0 1 false := ⟨_, _, _, _, _, Tryz.underlying340, rfl, rfl, ti12, Tryz.underlying12, rfl⟩
theorem fl340_1 : Fld Tryz.prog 340 1 1 1 false := ⟨_, _, _, _, _, Tryz.underlying340, rfl, rfl, ti12, Tryz.underlying12, rfl⟩
theorem fl340_2 : Fld Tryz.prog 340 2 2 1 false := ⟨_, _, _, _, _, Tryz.underlying340, rfl, rfl, ti132, Tryz.underlying132, rfl⟩
theorem fl340_3 : Fld Tryz.prog 340 3 3 1 false := ⟨_, _, _, _, _, Tryz.underlying340, rfl, rfl, ti335, Tryz.underlying335, rfl⟩
theorem fl340_4 : Fld Tryz.prog 340 4 4 1 false := ⟨_, _, _, _, _, Tryz.underlying340, rfl, rfl, ti5, Tryz.underlying5, rfl⟩
theorem fl340_5 : Fld Tryz.prog 340 5 5 1 false := ⟨_, _, _, _, _, Tryz.underlying340, rfl, rfl, ti5, Tryz.underlying5, rfl⟩
theorem fl340_6 : Fld Tryz.prog 340 6 6 1 false := ⟨_, _, _, _, _, Tryz.underlying340, rfl, rfl, ti336, Tryz.underlying336, rfl⟩
theorem fl340_7 : Fld Tryz.prog 340 7 7 1 false := ⟨_, _, _, _, _, Tryz.underlying340, rfl, rfl, ti_mk (z := Value.nilFunc) (s := 1) (bytes := 8) (by kernel_rfl), Tryz.underlying337, rfl⟩
theorem fl340_8 : Fld Tryz.prog 340 8 8 1 false := ⟨_, _, _, _, _, Tryz.underlying340, rfl, rfl, ti295, Tryz.underlying295, rfl⟩
theorem fl340_9 : Fld Tryz.prog 340 9 9 1 false := ⟨_, _, _, _, _, Tryz.underlying340, rfl, rfl, ti338, Tryz.underlying338, rfl⟩
theorem fl340_10 : Fld Tryz.prog 340 10 10 1 false := ⟨_, _, _, _, _, Tryz.underlying340, rfl, rfl, ti339, Tryz.underlying339, rfl⟩
theorem fl341_0 : Fld Tryz.prog 341 0 0 1 false := ⟨_, _, _, _, _, Tryz.underlying341, rfl, rfl, ti12, Tryz.underlying12, rfl⟩
theorem fl341_1 : Fld Tryz.prog 341 1 1 1 false := ⟨_, _, _, _, _, Tryz.underlying341, rfl, rfl, ti12, Tryz.underlying12, rfl⟩
theorem fl341_2 : Fld Tryz.prog 341 2 2 1 false := ⟨_, _, _, _, _, Tryz.underlying341, rfl, rfl, ti132, Tryz.underlying132, rfl⟩
theorem fl341_3 : Fld Tryz.prog 341 3 3 1 false := ⟨_, _, _, _, _, Tryz.underlying341, rfl, rfl, ti335, Tryz.underlying335, rfl⟩
theorem fl341_4 : Fld Tryz.prog 341 4 4 1 false := ⟨_, _, _, _, _, Tryz.underlying341, rfl, rfl, ti5, Tryz.underlying5, rfl⟩
theorem fl341_5 : Fld Tryz.prog 341 5 5 1 false := ⟨_, _, _, _, _, Tryz.underlying341, rfl, rfl, ti5, Tryz.underlying5, rfl⟩
theorem fl341_6 : Fld Tryz.prog 341 6 6 1 false := ⟨_, _, _, _, _, Tryz.underlying341, rfl, rfl, ti336, Tryz.underlying336, rfl⟩
theorem fl341_7 : Fld Tryz.prog 341 7 7 1 false := ⟨_, _, _, _, _, Tryz.underlying341, rfl, rfl, ti_mk (z := Value.nilFunc) (s := 1) (bytes := 8) (by kernel_rfl), Tryz.underlying337, rfl⟩
theorem fl341_8 : Fld Tryz.prog 341 8 8 1 false := ⟨_, _, _, _, _, Tryz.underlying341, rfl, rfl, ti295, Tryz.underlying295, rfl⟩
theorem fl341_9 : Fld Tryz.prog 341 9 9 1 false := ⟨_, _, _, _, _, Tryz.underlying341, rfl, rfl, ti338, Tryz.underlying338, rfl⟩
theorem fl341_10 : Fld Tryz.prog 341 10 10 1 false := ⟨_, _, _, _, _, Tryz.underlying341, rfl, rfl, ti339, Tryz.underlying339, rfl⟩
theorem cf2 : CF Tryz.prog 2 := ⟨_, Tryz.func2, by kernel_rfl, rfl⟩
theorem cf3 : CF Tryz.prog 3 := ⟨_, Tryz.func3, by kernel_rfl, rfl⟩
theorem cf4 : CF Tryz.prog 4 := ⟨_, Tryz.func4, by kernel_rfl, rfl⟩
theorem cf5 : CF Tryz.prog 5 := ⟨_, Tryz.func5, by kernel_rfl, rfl⟩
theorem cf6 : CF Tryz.prog 6 := ⟨_, Tryz.func6, by kernel_rfl, rfl⟩
theorem cf7 : CF Tryz.prog 7 := ⟨_, Tryz.func7, by kernel_rfl, rfl⟩
theorem cf8 : CF Tryz.prog 8 := ⟨_, Tryz.func8, by kernel_rfl, rfl⟩
theorem cf9 : CF Tryz.prog 9 := ⟨_, Tryz.func9, by kernel_rfl, rfl⟩
theorem cf10 : CF Tryz.prog 10 := ⟨_, Tryz.func10, by kernel_rfl, rfl⟩
theorem cf11 : CF Tryz.prog 11 := ⟨_, Tryz.func11, by kernel_rfl, rfl⟩
theorem cf12 : CF Tryz.prog 12 := ⟨_, Tryz.func12, by kernel_rfl, rfl⟩
theorem cf13 : CF Tryz.prog 13 := ⟨_, Tryz.func13, by kernel_rfl, rfl⟩
theorem cf14 : CF Tryz.prog 14 := ⟨_, Tryz.func14, by kernel_rfl, rfl⟩
theorem cf15 : CF Tryz.prog 15 := ⟨_, Tryz.func15, by kernel_rfl, rfl⟩
theorem cf16 : CF Tryz.prog 16 := ⟨_, Tryz.func16, by kernel_rfl, rfl⟩
theorem cf17 : CF Tryz.prog 17 := ⟨_, Tryz.func17, by kernel_rfl, rfl⟩
theorem cf18 : CF Tryz.prog 18 := ⟨_, Tryz.func18, by kernel_rfl, rfl⟩
theorem cf19 : CF Tryz.prog 19 := ⟨_, Tryz.func19, by kernel_rfl, rfl⟩
theorem cf20 : CF Tryz.prog 20 := ⟨_, Tryz.func20, by kernel_rfl, rfl⟩
theorem cf21 : CF Tryz.prog 21 := ⟨_, Tryz.func21, by kernel_rfl, rfl⟩
theorem cf22 : CF Tryz.prog 22 := ⟨_, Tryz.func22, by kernel_rfl, rfl⟩
theorem cf23 : CF Tryz.prog 23 := ⟨_, Tryz.func23, by kernel_rfl, rfl⟩
theorem cf24 : CF Tryz.prog 24 := ⟨_, Tryz.func24, by kernel_rfl, rfl⟩
theorem cf25 : CF Tryz.prog 25 := ⟨_, Tryz.func25, by kernel_rfl, rfl⟩
theorem cf26 : CF Tryz.prog 26 := ⟨_, Tryz.func26, by kernel_rfl, rfl⟩
theorem cf27 : CF Tryz.prog 27 := ⟨_, Tryz.func27, by kernel_rfl, rfl⟩
theorem cf28 : CF Tryz.prog 28 := ⟨_, Tryz.func28, by kernel_rfl, rfl⟩
theorem cf29 : CF Tryz.prog 29 := ⟨_, Tryz.func29, by kernel_rfl, rfl⟩
theorem cf30 : CF Tryz.prog 30 := ⟨_, Tryz.func30, by kernel_rfl, rfl⟩
theorem cf31 : CF Tryz.prog 31 := ⟨_, Tryz.func31, by kernel_rfl, rfl⟩
theorem cf32 : CF Tryz.prog 32 := ⟨_, Tryz.func32, by kernel_rfl, rfl⟩
theorem cf33 : CF Tryz.prog 33 := ⟨_, Tryz.func33, by kernel_rfl, rfl⟩
theorem cf34 : CF Tryz.prog 34 := ⟨_, Tryz.func34, by kernel_rfl, rfl⟩
theorem cf35 : CF Tryz.prog 35 := ⟨_, Tryz.func35, by kernel_rfl, rfl⟩
theorem cf36 : CF Tryz.prog 36 := ⟨_, Tryz.func36, by kernel_rfl, rfl⟩
theorem cf37 : CF Tryz.prog 37 := ⟨_, Tryz.func37, by kernel_rfl, rfl⟩
theorem cf38 : CF Tryz.prog 38 := ⟨_, Tryz.func38, by kernel_rfl, rfl⟩
theorem cf39 : CF Tryz.prog 39 := ⟨_, Tryz.func39, by kernel_rfl, rfl⟩
theorem cf40 : CF Tryz.prog 40 := ⟨_, Tryz.func40, by kernel_rfl, rfl⟩
theorem cf41 : CF Tryz.prog 41 := ⟨_, Tryz.func41, by kernel_rfl, rfl⟩
theorem cf42 : CF Tryz.prog 42 := ⟨_, Tryz.func42, by kernel_rfl, rfl⟩
theorem cf43 : CF Tryz.prog 43 := ⟨_, Tryz.func43, by kernel_rfl, rfl⟩
theorem cf44 : CF Tryz.prog 44 := ⟨_, Tryz.func44, by kernel_rfl, rfl⟩
theorem cf45 : CF Tryz.prog 45 := ⟨_, Tryz.func45, by kernel_rfl, rfl⟩
theorem cf46 : CF Tryz.prog 46 := ⟨_, Tryz.func46, by kernel_rfl, rfl⟩
theorem cf47 : CF Tryz.prog 47 := ⟨_, Tryz.func47, by kernel_rfl, rfl⟩
theorem cf48 : CF Tryz.prog 48 := ⟨_, Tryz.func48, by kernel_rfl, rfl⟩
theorem cf49 : CF Tryz.prog 49 := ⟨_, Tryz.func49, by kernel_rfl, rfl⟩
theorem cf50 : CF Tryz.prog 50 := ⟨_, Tryz.func50, by kernel_rfl, rfl⟩
theorem cf51 : CF Tryz.prog 51 := ⟨_, Tryz.func51, by kernel_rfl, rfl⟩
theorem cf52 : CF Tryz.prog 52 := ⟨_, Tryz.func52, by kernel_rfl, rfl⟩
theorem cf53 : CF Tryz.prog 53 := ⟨_, Tryz.func53, by kernel_rfl, rfl⟩
theorem cf54 : CF Tryz.prog 54 := ⟨_, Tryz.func54, by kernel_rfl, rfl⟩
theorem cf55 : CF Tryz.prog 55 := ⟨_, Tryz.func55, by kernel_rfl, rfl⟩
theorem cf56 : CF Tryz.prog 56 := ⟨_, Tryz.func56, by kernel_rfl, rfl⟩
theorem cf57 : CF Tryz.prog 57 := ⟨_, Tryz.func57, by kernel_rfl, rfl⟩
theorem cf58 : CF Tryz.prog 58 := ⟨_, Tryz.func58, by kernel_rfl, rfl⟩
theorem cf59 : CF Tryz.prog 59 := ⟨_, Tryz.func59, by kernel_rfl, rfl⟩
theorem cf60 : CF Tryz.prog 60 := ⟨_, Tryz.func60, by kernel_rfl, rfl⟩
theorem cf61 : CF Tryz.prog 61 := ⟨_, Tryz.func61, by kernel_rfl, rfl⟩
theorem cf62 : CF Tryz.prog 62 := ⟨_, Tryz.func62, by kernel_rfl, rfl⟩
theorem cf63 : CF Tryz.prog 63 := ⟨_, Tryz.func63, by kernel_rfl, rfl⟩
theorem cf64 : CF Tryz.prog 64 := ⟨_, Tryz.func64, by kernel_rfl, rfl⟩
theorem cf65 : CF Tryz.prog 65 := ⟨_, Tryz.func65, by kernel_rfl, rfl⟩
theorem cf66 : CF Tryz.prog 66 := ⟨_, Tryz.func66, by kernel_rfl, rfl⟩
theorem cf67 : CF Tryz.prog 67 := ⟨_, Tryz.func67, by kernel_rfl, rfl⟩
theorem cf68 : CF Tryz.prog 68 := ⟨_, Tryz.func68, by kernel_rfl, rfl⟩
theorem cf69 : CF Tryz.prog 69 := ⟨_, Tryz.func69, by kernel_rfl, rfl⟩
theorem cf70 : CF Tryz.prog 70 := ⟨_, Tryz.func70, by kernel_rfl, rfl⟩
theorem cf71 : CF Tryz.prog 71 := ⟨_, Tryz.func71, by kernel_rfl, rfl⟩
theorem cf72 : CF Tryz.prog 72 := ⟨_, Tryz.func72, by kernel_rfl, rfl⟩
theorem cf73 : CF Tryz.prog 73 := ⟨_, Tryz.func73, by kernel_rfl, rfl⟩
theorem cf74 : CF Tryz.prog 74 := ⟨_, Tryz.func74, by kernel_rfl, rfl⟩
theorem cf75 : CF Tryz.prog 75 := ⟨_, Tryz.func75, by kernel_rfl, rfl⟩
theorem cf76 : CF Tryz.prog 76 := ⟨_, Tryz.func76, by kernel_rfl, rfl⟩
theorem cf77 : CF Tryz.prog 77 := ⟨_, Tryz.func77, by kernel_rfl, rfl⟩
theorem cf78 : CF Tryz.prog 78 := ⟨_, Tryz.func78, by kernel_rfl, rfl⟩
theorem cf79 : CF Tryz.prog 79 := ⟨_, Tryz.func79, by kernel_rfl, rfl⟩
theorem cf80 : CF Tryz.prog 80 := ⟨_, Tryz.func80, by kernel_rfl, rfl⟩
theorem cf81 : CF Tryz.prog 81 := ⟨_, Tryz.func81, by kernel_rfl, rfl⟩
theorem cf82 : CF Tryz.prog 82 := ⟨_, Tryz.func82, by kernel_rfl, rfl⟩
theorem cf83 : CF Tryz.prog 83 := ⟨_, Tryz.func83, by kernel_rfl, rfl⟩
theorem cf84 : CF Tryz.prog 84 := ⟨_, Tryz.func84, by kernel_rfl, rfl⟩
theorem cf85 : CF Tryz.prog 85 := ⟨_, Tryz.func85, by kernel_rfl, rfl⟩
theorem cf86 : CF Tryz.prog 86 := ⟨_, Tryz.func86, by kernel_rfl, rfl⟩
theorem cf87 : CF Tryz.prog 87 := ⟨_, Tryz.func87, by kernel_rfl, rfl⟩
theorem cf88 : CF Tryz.prog 88 := ⟨_, Tryz.func88, by kernel_rfl, rfl⟩
theorem cf89 : CF Tryz.prog 89 := ⟨_, Tryz.func89, by kernel_rfl, rfl⟩
theorem cf90 : CF Tryz.prog 90 := ⟨_, Tryz.func90, by kernel_rfl, rfl⟩
theorem cf91 : CF Tryz.prog 91 := ⟨_, Tryz.func91, by kernel_rfl, rfl⟩
theorem cf92 : CF Tryz.prog 92 := ⟨_, Tryz.func92, by kernel_rfl, rfl⟩
theorem cf93 : CF Tryz.prog 93 := ⟨_, Tryz.func93, by kernel_rfl, rfl⟩
theorem cf94 : CF Tryz.prog 94 := ⟨_, Tryz.func94, by kernel_rfl, rfl⟩
theorem cf95 : CF Tryz.prog 95 := ⟨_, Tryz.func95, by kernel_rfl, rfl⟩
theorem cf96 : CF Tryz.prog 96 := ⟨_, Tryz.func96, by kernel_rfl, rfl⟩
theorem cf97 : CF Tryz.prog 97 := ⟨_, Tryz.func97, by kernel_rfl, rfl⟩
theorem cf98 : CF Tryz.prog 98 := ⟨_, Tryz.func98, by kernel_rfl, rfl⟩
theorem cf99 : CF Tryz.prog 99 := ⟨_, Tryz.func99, by kernel_rfl, rfl⟩
theorem cf100 : CF Tryz.prog 100 := ⟨_, Tryz.func100, by kernel_rfl, rfl⟩
theorem cf101 : CF Tryz.prog 101 := ⟨_, Tryz.func101, by kernel_rfl, rfl⟩
theorem cf102 : CF Tryz.prog 102 := ⟨_, Tryz.func102, by kernel_rfl, rfl⟩
theorem cf103 : CF Tryz.prog 103 := ⟨_, Tryz.func103, by kernel_rfl, rfl⟩
theorem cf104 : CF Tryz.prog 104 := ⟨_, Tryz.func104, by kernel_rfl, rfl⟩
theorem cf105 : CF Tryz.prog 105 := ⟨_, Tryz.func105, by kernel_rfl, rfl⟩
theorem cf106 : CF Tryz.prog 106 := ⟨_, Tryz.func106, by kernel_rfl, rfl⟩
theorem cf107 : CF Tryz.prog 107 := ⟨_, Tryz.func107, by kernel_rfl, rfl⟩
theorem cf108 : CF Tryz.prog 108 := ⟨_, Tryz.func108, by kernel_rfl, rfl⟩
theorem cf109 : CF Tryz.prog 109 := ⟨_, Tryz.func109, by kernel_rfl, rfl⟩
theorem cf110 : CF Tryz.prog 110 := ⟨_, Tryz.func110, by kernel_rfl, rfl⟩
theorem cf111 : CF Tryz.prog 111 := ⟨_, Tryz.func111, by kernel_rfl, rfl⟩
theorem cf112 : CF Tryz.prog 112 := ⟨_, Tryz.func112, by kernel_rfl, rfl⟩
theorem cf113 : CF Tryz.prog 113 := ⟨_, Tryz.func113, by kernel_rfl, rfl⟩
theorem cf114 : CF Tryz.prog 114 := ⟨_, Tryz.func114, by kernel_rfl, rfl⟩
theorem cf115 : CF Tryz.prog 115 := ⟨_, Tryz.func115, by kernel_rfl, rfl⟩
theorem cf116 : CF Tryz.prog 116 := ⟨_, Tryz.func116, by kernel_rfl, rfl⟩
theorem cf117 : CF Tryz.prog 117 := ⟨_, Tryz.func117, by kernel_rfl, rfl⟩
theorem cf118 : CF Tryz.prog 118 := ⟨_, Tryz.func118, by kernel_rfl, rfl⟩
theorem cf119 : CF Tryz.prog 119 := ⟨_, Tryz.func119, by kernel_rfl, rfl⟩
theorem cf120 : CF Tryz.prog 120 := ⟨_, Tryz.func120, by kernel_rfl, rfl⟩
theorem cf121 : CF Tryz.prog 121 := ⟨_, Tryz.func121, by kernel_rfl, rfl⟩
theorem cf122 : CF Tryz.prog 122 := ⟨_, Tryz.func122, by kernel_rfl, rfl⟩
theorem cf123 : CF Tryz.prog 123 := ⟨_, Tryz.func123, by kernel_rfl, rfl⟩
theorem cf124 : CF Tryz.prog 124 := ⟨_, Tryz.func124, by kernel_rfl, rfl⟩
theorem cf125 : CF Tryz.prog 125 := ⟨_, Tryz.func125, by kernel_rfl, rfl⟩
theorem cf126 : CF Tryz.prog 126 := ⟨_, Tryz.func126, by kernel_rfl, rfl⟩
theorem cf127 : CF Tryz.prog 127 := ⟨_, Tryz.func127, by kernel_rfl, rfl⟩
theorem cf128 : CF Tryz.prog 128 := ⟨_, Tryz.func128, by kernel_rfl, rfl⟩
theorem cf129 : CF Tryz.prog 129 := ⟨_, Tryz.func129, by kernel_rfl, rfl⟩
theorem cf130 : CF Tryz.prog 130 := ⟨_, Tryz.func130, by kernel_rfl, rfl⟩
theorem cf131 : CF Tryz.prog 131 := ⟨_, Tryz.func131, by kernel_rfl, rfl⟩
theorem cf132 : CF Tryz.prog 132 := ⟨_, Tryz.func132, by kernel_rfl, rfl⟩
theorem cf133 : CF Tryz.prog 133 := ⟨_, Tryz.func133, by kernel_rfl, rfl⟩
theorem cf134 : CF Tryz.prog 134 := ⟨_, Tryz.func134, by kernel_rfl, rfl⟩
theorem cf135 : CF Tryz.prog 135 := ⟨_, Tryz.func135, by kernel_rfl, rfl⟩
theorem cf136 : CF Tryz.prog 136 := ⟨_, Tryz.func136, by kernel_rfl, rfl⟩
theorem cf137 : CF Tryz.prog 137 := ⟨_, Tryz.func137, by kernel_rfl, rfl⟩
theorem cf138 : CF Tryz.prog 138 := ⟨_, Tryz.func138, by kernel_rfl, rfl⟩
theorem cf139 : CF Tryz.prog 139 := ⟨_, Tryz.func139, by kernel_rfl, rfl⟩
theorem cf140 : CF Tryz.prog 140 := ⟨_, Tryz.func140, by kernel_rfl, rfl⟩
theorem cf141 : CF Tryz.prog 141 := ⟨_, Tryz.func141, by kernel_rfl, rfl⟩
theorem cf142 : CF Tryz.prog 142 := ⟨_, Tryz.func142, by kernel_rfl, rfl⟩
theorem cf143 : CF Tryz.prog 143 := ⟨_, Tryz.func143, by kernel_rfl, rfl⟩
theorem cf144 : CF Tryz.prog 144 := ⟨_, Tryz.func144, by kernel_rfl, rfl⟩
theorem cf145 : CF Tryz.prog 145 := ⟨_, Tryz.func145, by kernel_rfl, rfl⟩
theorem cf146 : CF Tryz.prog 146 := ⟨_, Tryz.func146, by kernel_rfl, rfl⟩
theorem cf147 : CF Tryz.prog 147 := ⟨_, Tryz.func147, by kernel_rfl, rfl⟩
theorem cf148 : CF Tryz.prog 148 := ⟨_, Tryz.func148, by kernel_rfl, rfl⟩
theorem cf149 : CF Tryz.prog 149 := ⟨_, Tryz.func149, by kernel_rfl, rfl⟩
theorem cf150 : CF Tryz.prog 150 := ⟨_, Tryz.func150, by kernel_rfl, rfl⟩
theorem cf151 : CF Tryz.prog 151 := ⟨_, Tryz.func151, by kernel_rfl, rfl⟩
theorem cf152 : CF Tryz.prog 152 := ⟨_, Tryz.func152, by kernel_rfl, rfl⟩
theorem cf153 : CF Tryz.prog 153 := ⟨_, Tryz.func153, by kernel_rfl, rfl⟩
theorem cf154 : CF Tryz.prog 154 := ⟨_, Tryz.func154, by kernel_rfl, rfl⟩
theorem cf155 : CF Tryz.prog 155 := ⟨_, Tryz.func155, by kernel_rfl, rfl⟩
theorem cf156 : CF Tryz.prog 156 := ⟨_, Tryz.func156, by kernel_rfl, rfl⟩
theorem cf157 : CF Tryz.prog 157 := ⟨_, Tryz.func157, by kernel_rfl, rfl⟩
theorem cf158 : CF Tryz.prog 158 := ⟨_, Tryz.func158, by kernel_rfl, rfl⟩
theorem cf159 : CF Tryz.prog 159 := ⟨_, Tryz.func159, by kernel_rfl, rfl⟩
theorem cf160 : CF Tryz.prog 160 := ⟨_, Tryz.func160, by kernel_rfl, rfl⟩
theorem cf161 : CF Tryz.prog 161 := ⟨_, Tryz.func161, by kernel_rfl, rfl⟩
theorem cf162 : CF Tryz.prog 162 := ⟨_, Tryz.func162, by kernel_rfl, rfl⟩
theorem cf163 : CF Tryz.prog 163 := ⟨_, Tryz.func163, by kernel_rfl, rfl⟩
theorem cf164 : CF Tryz.prog 164 := ⟨_, Tryz.func164, by kernel_rfl, rfl⟩
theorem cf165 : CF Tryz.prog 165 := ⟨_, Tryz.func165, by kernel_rfl, rfl⟩
theorem cf166 : CF Tryz.prog 166 := ⟨_, Tryz.func166, by kernel_rfl, rfl⟩
theorem cf167 : CF Tryz.prog 167 := ⟨_, Tryz.func167, by kernel_rfl, rfl⟩
theorem cf168 : CF Tryz.prog 168 := ⟨_, Tryz.func168, by kernel_rfl, rfl⟩
theorem cf169 : CF Tryz.prog 169 := ⟨_, Tryz.func169, by kernel_rfl, rfl⟩
theorem cf170 : CF Tryz.prog 170 := ⟨_, Tryz.func170, by kernel_rfl, rfl⟩
theorem cf171 : CF Tryz.prog 171 := ⟨_, Tryz.func171, by kernel_rfl, rfl⟩
theorem cf172 : CF Tryz.prog 172 := ⟨_, Tryz.func172, by kernel_rfl, rfl⟩
theorem cf173 : CF Tryz.prog 173 := ⟨_, Tryz.func173, by kernel_rfl, rfl⟩
theorem cf174 : CF Tryz.prog 174 := ⟨_, Tryz.func174, by kernel_rfl, rfl⟩
theorem cf175 : CF Tryz.prog 175 := ⟨_, Tryz.func175, by kernel_rfl, rfl⟩
theorem cf176 : CF Tryz.prog 176 := ⟨_, Tryz.func176, by kernel_rfl, rfl⟩
theorem cf177 : CF Tryz.prog 177 := ⟨_, Tryz.func177, by kernel_rfl, rfl⟩
theorem cf178 : CF Tryz.prog 178 := ⟨_, Tryz.func178, by kernel_rfl, rfl⟩
theorem cf179 : CF Tryz.prog 179 := ⟨_, Tryz.func179, by kernel_rfl, rfl⟩
theorem cf180 : CF Tryz.prog 180 := ⟨_, Tryz.func180, by kernel_rfl, rfl⟩
theorem cf181 : CF Tryz.prog 181 := ⟨_, Tryz.func181, by kernel_rfl, rfl⟩
theorem cf182 : CF Tryz.prog 182 := ⟨_, Tryz.func182, by kernel_rfl, rfl⟩
theorem cf183 : CF Tryz.prog 183 := ⟨_, Tryz.func183, by kernel_rfl, rfl⟩
theorem cf184 : CF Tryz.prog 184 := ⟨_, Tryz.func184, by kernel_rfl, rfl⟩
theorem cf185 : CF Tryz.prog 185 := ⟨_, Tryz.func185, by kernel_rfl, rfl⟩
theorem cf186 : CF Tryz.prog 186 := ⟨_, Tryz.func186, by kernel_rfl, rfl⟩
theorem cf187 : CF Tryz.prog 187 := ⟨_, Tryz.func187, by kernel_rfl, rfl⟩
theorem cf188 : CF Tryz.prog 188 := ⟨_, Tryz.func188, by kernel_rfl, rfl⟩
theorem cf189 : CF Tryz.prog 189 := ⟨_, Tryz.func189, by kernel_rfl, rfl⟩
theorem cf190 : CF Tryz.prog 190 := ⟨_, Tryz.func190, by kernel_rfl, rfl⟩
theorem cf191 : CF Tryz.prog 191 := ⟨_, Tryz.func191, by kernel_rfl, rfl⟩
theorem cf192 : CF Tryz.prog 192 := ⟨_, Tryz.func192, by kernel_rfl, rfl⟩
theorem cf193 : CF Tryz.prog 193 := ⟨_, Tryz.func193, by kernel_rfl, rfl⟩
theorem cf194 : CF Tryz.prog 194 := ⟨_, Tryz.func194, by kernel_rfl, rfl⟩
theorem cf195 : CF Tryz.prog 195 := ⟨_, Tryz.func195, by kernel_rfl, rfl⟩
theorem cf196 : CF Tryz.prog 196 := ⟨_, Tryz.func196, by kernel_rfl, rfl⟩
theorem cf197 : CF Tryz.prog 197 := ⟨_, Tryz.func197, by kernel_rfl, rfl⟩
theorem cf198 : CF Tryz.prog 198 := ⟨_, Tryz.func198, by kernel_rfl, rfl⟩
theorem cf199 : CF Tryz.prog 199 := ⟨_, Tryz.func199, by kernel_rfl, rfl⟩
theorem cf200 : CF Tryz.prog 200 := ⟨_, Tryz.func200, by kernel_rfl, rfl⟩
theorem cf201 : CF Tryz.prog 201 := ⟨_, Tryz.func201, by kernel_rfl, rfl⟩
theorem cf202 : CF Tryz.prog 202 := ⟨_, Tryz.func202, by kernel_rfl, rfl⟩
theorem cf203 : CF Tryz.prog 203 := ⟨_, Tryz.func203, by kernel_rfl, rfl⟩
theorem cf204 : CF Tryz.prog 204 := ⟨_, Tryz.func204, by kernel_rfl, rfl⟩
theorem cf205 : CF Tryz.prog 205 := ⟨_, Tryz.func205, by kernel_rfl, rfl⟩
theorem cf206 : CF Tryz.prog 206 := ⟨_, Tryz.func206, by kernel_rfl, rfl⟩
theorem cf207 : CF Tryz.prog 207 := ⟨_, Tryz.func207, by kernel_rfl, rfl⟩
theorem cf208 : CF Tryz.prog 208 := ⟨_, Tryz.func208, by kernel_rfl, rfl⟩
theorem cf209 : CF Tryz.prog 209 := ⟨_, Tryz.func209, by kernel_rfl, rfl⟩
theorem cf210 : CF Tryz.prog 210 := ⟨_, Tryz.func210, by kernel_rfl, rfl⟩
theorem cf211 : CF Tryz.prog 211 := ⟨_, Tryz.func211, by kernel_rfl, rfl⟩
theorem cf212 : CF Tryz.prog 212 := ⟨_, Tryz.func212, by kernel_rfl, rfl⟩
theorem cf213 : CF Tryz.prog 213 := ⟨_, Tryz.func213, by kernel_rfl, rfl⟩
theorem cf214 : CF Tryz.prog 214 := ⟨_, Tryz.func214, by kernel_rfl, rfl⟩
theorem cf215 : CF Tryz.prog 215 := ⟨_, Tryz.func215, by kernel_rfl, rfl⟩
theorem cf216 : CF Tryz.prog 216 := ⟨_, Tryz.func216, by kernel_rfl, rfl⟩
theorem cf217 : CF Tryz.prog 217 := ⟨_, Tryz.func217, by kernel_rfl, rfl⟩
theorem cf218 : CF Tryz.prog 218 := ⟨_, Tryz.func218, by kernel_rfl, rfl⟩
theorem cf219 : CF Tryz.prog 219 := ⟨_, Tryz.func219, by kernel_rfl, rfl⟩
theorem cf220 : CF Tryz.prog 220 := ⟨_, Tryz.func220, by kernel_rfl, rfl⟩
theorem cf222 : CF Tryz.prog 222 := ⟨_, Tryz.func222, by kernel_rfl, rfl⟩
theorem cf223 : CF Tryz.prog 223 := ⟨_, Tryz.func223, by kernel_rfl, rfl⟩
theorem cf224 : CF Tryz.prog 224 := ⟨_, Tryz.func224, by kernel_rfl, rfl⟩
theorem cf225 : CF Tryz.prog 225 := ⟨_, Tryz.func225, by kernel_rfl, rfl⟩
theorem cf227 : CF Tryz.prog 227 := ⟨_, Tryz.func227, by kernel_rfl, rfl⟩
theorem cf228 : CF Tryz.prog 228 := ⟨_, Tryz.func228, by kernel_rfl, rfl⟩
theorem cf229 : CF Tryz.prog 229 := ⟨_, Tryz.func229, by kernel_rfl, rfl⟩
theorem cf230 : CF Tryz.prog 230 := ⟨_, Tryz.func230, by kernel_rfl, rfl⟩
theorem cf231 : CF Tryz.prog 231 := ⟨_, Tryz.func231, by kernel_rfl, rfl⟩
theorem cf232 : CF Tryz.prog 232 := ⟨_, Tryz.func232, by kernel_rfl, rfl⟩
theorem cf233 : CF Tryz.prog 233 := ⟨_, Tryz.func233, by kernel_rfl, rfl⟩
theorem cf234 : CF Tryz.prog 234 := ⟨_, Tryz.func234, by kernel_rfl, rfl⟩
theorem cf235 : CF Tryz.prog 235 := ⟨_, Tryz.func235, by kernel_rfl, rfl⟩
theorem cf236 : CF Tryz.prog 236 := ⟨_, Tryz.func236, by kernel_rfl, rfl⟩
theorem cf237 : CF Tryz.prog 237 := ⟨_, Tryz.func237, by kernel_rfl, rfl⟩
theorem cf238 : CF Tryz.prog 238 := ⟨_, Tryz.func238, by kernel_rfl, rfl⟩
theorem cf239 : CF Tryz.prog 239 := ⟨_, Tryz.func239, by kernel_rfl, rfl⟩
theorem cf240 : CF Tryz.prog 240 := ⟨_, Tryz.func240, by kernel_rfl, rfl⟩
theorem cf241 : CF Tryz.prog 241 := ⟨_, Tryz.func241, by kernel_rfl, rfl⟩
theorem cf242 : CF Tryz.prog 242 := ⟨_, Tryz.func242, by kernel_rfl, rfl⟩
theorem cf243 : CF Tryz.prog 243 := ⟨_, Tryz.func243, by kernel_rfl, rfl⟩
theorem cf244 : CF Tryz.prog 244 := ⟨_, Tryz.func244, by kernel_rfl, rfl⟩
theorem cf245 : CF Tryz.prog 245 := ⟨_, Tryz.func245, by kernel_rfl, rfl⟩
theorem cf246 : CF Tryz.prog 246 := ⟨_, Tryz.func246, by kernel_rfl, rfl⟩
theorem cf247 : CF Tryz.prog 247 := ⟨_, Tryz.func247, by kernel_rfl, rfl⟩
theorem cf248 : CF Tryz.prog 248 := ⟨_, Tryz.func248, by kernel_rfl, rfl⟩
theorem cf249 : CF Tryz.prog 249 := ⟨_, Tryz.func249, by kernel_rfl, rfl⟩
theorem cf250 : CF Tryz.prog 250 := ⟨_, Tryz.func250, by kernel_rfl, rfl⟩
theorem cf251 : CF Tryz.prog 251 := ⟨_, Tryz.func251, by kernel_rfl, rfl⟩
theorem cf252 : CF Tryz.prog 252 := ⟨_, Tryz.func252, by kernel_rfl, rfl⟩
theorem cf255 : CF Tryz.prog 255 := ⟨_, Tryz.func255, by kernel_rfl, rfl⟩
theorem cf256 : CF Tryz.prog 256 := ⟨_, Tryz.func256, by kernel_rfl, rfl⟩
theorem cf257 : CF Tryz.prog 257 := ⟨_, Tryz.func257, by kernel_rfl, rfl⟩
theorem cf258 : CF Tryz.prog 258 := ⟨_, Tryz.func258, by kernel_rfl, rfl⟩
theorem cf259 : CF Tryz.prog 259 := ⟨_, Tryz.func259, by kernel_rfl, rfl⟩
theorem cf260 : CF Tryz.prog 260 := ⟨_, Tryz.func260, by kernel_rfl, rfl⟩
theorem cf261 : CF Tryz.prog 261 := ⟨_, Tryz.func261, by kernel_rfl, rfl⟩
theorem cf262 : CF Tryz.prog 262 := ⟨_, Tryz.func262, by kernel_rfl, rfl⟩
theorem cf263 : CF Tryz.prog 263 := ⟨_, Tryz.func263, by kernel_rfl, rfl⟩
theorem cf264 : CF Tryz.prog 264 := ⟨_, Tryz.func264, by kernel_rfl, rfl⟩
theorem cf265 : CF Tryz.prog 265 := ⟨_, Tryz.func265, by kernel_rfl, rfl⟩
theorem cf266 : CF Tryz.prog 266 := ⟨_, Tryz.func266, by kernel_rfl, rfl⟩
end Go.Proofs.YtkgiammeeckfbaaGreat
