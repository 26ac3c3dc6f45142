/- Merged by program. -/
import Derived.Test.YtfgjaafcgghnoaaGreatDoorRows
import Derived.Test.YtfgjaafcgghnoaaGreatDoorCNp1
import Derived.KernelRfl
import Derived.Lib.AppendZerosOnto
import Derived.Lib.Overlaps
import Derived.Maps.RangeRun
set_option linter.all false
set_option maxRecDepth 1000000
set_option maxHeartbeats 16000000
namespace Go.Proofs.YtfgjaafcgghnoaaGreatDoor
open Go Go.RowKit
set_option linter.unusedSimpArgs false
theorem Md:TI Tryz.prog 3 (Value.int .i64 0) 1 8:=LX (by kernel_rfl)
theorem Rz:TI Tryz.prog 4 (Value.bool false) 1 1:=LX (by kernel_rfl)
theorem Tq:TI Tryz.prog 5 (Value.int .u8 0) 1 1:=LX (by kernel_rfl)
theorem XB:TI Tryz.prog 9 (Value.string ⟨#[]⟩) 1 16:=LX (by kernel_rfl)
theorem zf7:TI Tryz.prog 22 (Value.slice none 0 0) 1 24:=LX (by kernel_rfl)
theorem zfC:TI Tryz.prog 24 (Value.agg #[Value.int .i64 0,Value.slice none 0 0,Value.bool false,Value.int .i64 0,Value.int .i64 0]) 5 56:=LX (by kernel_rfl)
theorem zaD:TI Tryz.prog 27 (Value.pointer none) 1 8:=LX (by kernel_rfl)
theorem z5v:TI Tryz.prog 28 (Value.pointer none) 1 8:=LX (by kernel_rfl)
theorem z8h:TI Tryz.prog 29 (Value.pointer none) 1 8:=LX (by kernel_rfl)
theorem Zd:TI Tryz.prog 31 (Value.agg #[Value.pointer none,Value.pointer none,Value.pointer none,Value.pointer none,Value.int .i64 0]) 5 40:=LX (by kernel_rfl)
theorem z54:TI Tryz.prog 35 (Value.int .i64 0) 1 8:=LX (by kernel_rfl)
theorem z1f:TI Tryz.prog 40 (Value.slice none 0 0) 1 24:=LX (by kernel_rfl)
theorem QA:TI Tryz.prog 41 (Value.int .u64 0) 1 8:=LX (by kernel_rfl)
theorem O2:TI Tryz.prog 45 (Value.slice none 0 0) 1 24:=LX (by kernel_rfl)
theorem Lz:TI Tryz.prog 46 (Value.int .u32 0) 1 4:=LX (by kernel_rfl)
theorem zcW:TI Tryz.prog 48 (Value.pointer none) 1 8:=LX (by kernel_rfl)
theorem zaR:TI Tryz.prog 58 (Value.nilFunc) 1 8:=LX (by kernel_rfl)
theorem za9:TI Tryz.prog 71 (Value.agg #[Value.int .i64 0,Value.int .i64 0,Value.int .i64 0,Value.int .i64 0,Value.int .i64 0,Value.int .i64 0,Value.int .i64 0]) 7 56:=LX (by kernel_rfl)
theorem z7B:TI Tryz.prog 80 (Value.agg #[Value.int .i64 0,Value.int .i64 0]) 2 16:=LX (by kernel_rfl)
theorem Nw:TI Tryz.prog 88 (Value.agg #[Value.int .i64 0,Value.int .i64 0,Value.int .i64 0,Value.int .i64 0,Value.int .i64 0]) 5 40:=LX (by kernel_rfl)
theorem zaV:TI Tryz.prog 90 (Value.pointer none) 1 8:=LX (by kernel_rfl)
theorem zb4:TI Tryz.prog 97 (Value.agg #[Value.int .i64 0,Value.int .i64 0,Value.bool false]) 3 24:=LX (by kernel_rfl)
theorem zes:TI Tryz.prog 99 (Value.agg #[Value.int .i64 0,Value.int .i64 0,Value.bool false,Value.pointer none,Value.pointer none,Value.bool false]) 6 48:=LX (by kernel_rfl)
theorem z9T:TI Tryz.prog 100 (Value.pointer none) 1 8:=LX (by kernel_rfl)
theorem z9b:TI Tryz.prog 101 (Value.map none) 1 8:=LX (by kernel_rfl)
theorem zaY:TI Tryz.prog 103 (Value.agg #[Value.pointer none,Value.pointer none,Value.pointer none,Value.map none,Value.int .i64 0,Value.int .i64 0,Value.int .i64 0,Value.int .i64 0,Value.int .i64 0,Value.int .i64 0,Value.int .i64 0,Value.bool false]) 12 96:=LX (by kernel_rfl)
theorem MX:TI Tryz.prog 108 (Value.agg #[Value.int .i64 0,Value.int .i64 0]) 2 16:=LX (by kernel_rfl)
theorem PC:TI Tryz.prog 113 (Value.agg #[Value.int .u32 0,Value.int .u32 0]) 2 8:=LX (by kernel_rfl)
theorem z9z:TI Tryz.prog 116 (Value.map none) 1 8:=LX (by kernel_rfl)
theorem z6J:TI Tryz.prog 118 (Value.agg #[Value.slice none 0 0,Value.int .i64 0,Value.int .u8 0]) 3 40:=LX (by kernel_rfl)
theorem z2Z:TI Tryz.prog 120 (Value.agg #[Value.int .i64 0,Value.slice none 0 0,Value.int .i64 0,Value.int .u8 0]) 4 48:=LX (by kernel_rfl)
theorem z3q:TI Tryz.prog 121 (Value.slice none 0 0) 1 24:=LX (by kernel_rfl)
theorem zd5:TI Tryz.prog 123 (Value.agg #[Value.int .i64 0,Value.slice none 0 0,Value.int .i64 0,Value.int .u8 0,Value.int .i64 0,Value.int .i64 0,Value.map none,Value.slice none 0 0,Value.bool false,Value.int .i64 0,Value.int .i64 0]) 11 120:=LX (by kernel_rfl)
theorem z95:TI Tryz.prog 124 (Value.slice none 0 0) 1 24:=LX (by kernel_rfl)
theorem zbV:TI Tryz.prog 126 (Value.agg #[Value.int .i64 0,Value.slice none 0 0,Value.slice none 0 0,Value.bool false]) 4 64:=LX (by kernel_rfl)
theorem XW:TI Tryz.prog 133 (Value.pointer none) 1 8:=LX (by kernel_rfl)
theorem TC:TI Tryz.prog 143 (Value.agg #[Value.int .i64 0,Value.int .i64 0,Value.int .i64 0]) 3 24:=LX (by kernel_rfl)
theorem zc4:TI Tryz.prog 145 (Value.agg #[Value.int .i64 0,Value.int .i64 0,Value.int .i64 0,Value.int .i64 0,Value.int .i64 0,Value.pointer none,Value.bool false]) 7 56:=LX (by kernel_rfl)
theorem Pz:TI Tryz.prog 149 (Value.agg #[Value.int .i64 0,Value.int .i64 0,Value.int .i64 0,Value.int .i64 0,Value.int .i64 0,Value.int .i64 0,Value.int .i64 0,Value.int .i64 0]) 8 64:=LX (by kernel_rfl)
theorem XY:TI Tryz.prog 151 (Value.nilIface) 1 16:=LX (by kernel_rfl)
theorem z9K:TI Tryz.prog 152 (Value.pointer none) 1 8:=LX (by kernel_rfl)
theorem zbf:TI Tryz.prog 154 (Value.agg #[Value.int .i64 0,Value.int .i64 0,Value.int .i64 0,Value.int .i64 0,Value.int .i64 0,Value.int .i64 0,Value.int .i64 0,Value.int .i64 0,Value.nilIface,Value.pointer none]) 10 88:=LX (by kernel_rfl)
theorem NS:TI Tryz.prog 157 (Value.agg #[Value.int .i64 0,Value.int .i64 0]) 2 16:=LX (by kernel_rfl)
theorem XJ:TI Tryz.prog 158 (Value.pointer none) 1 8:=LX (by kernel_rfl)
theorem SV:TI Tryz.prog 171 (Value.slice none 0 0) 1 24:=LX (by kernel_rfl)
theorem XO:TI Tryz.prog 174 (Value.int .u8 0) 1 1:=LX (by kernel_rfl)
theorem zb6:TI Tryz.prog 177 (Value.agg #[Value.pointer none,Value.slice none 0 0]) 2 32:=LX (by kernel_rfl)
theorem z3E:TI Tryz.prog 187 (Value.map none) 1 8:=LX (by kernel_rfl)
theorem z0o:TI Tryz.prog 189 (Value.agg #[Value.slice none 0 0,Value.map none]) 2 32:=LX (by kernel_rfl)
theorem zck:TI Tryz.prog 191 (Value.agg #[Value.int .i64 0,Value.slice none 0 0,Value.map none,Value.slice none 0 0,Value.map none,Value.slice none 0 0,Value.map none,Value.slice none 0 0,Value.map none,Value.int .i64 0,Value.map none]) 11 152:=LX (by kernel_rfl)
theorem RU:TI Tryz.prog 198 (Value.agg #[Value.pointer none,Value.int .i64 0,Value.int .i64 0]) 3 24:=LX (by kernel_rfl)
theorem z96:TI Tryz.prog 200 (Value.agg #[Value.pointer none,Value.int .i64 0,Value.int .i64 0,Value.slice none 0 0,Value.int .i64 0,Value.int .i64 0,Value.int .u32 0,Value.nilFunc,Value.bool false]) 9 88:=LX (by kernel_rfl)
theorem zd3:TI Tryz.prog 204 (Value.agg #[Value.pointer none,Value.int .i64 0,Value.int .i64 0,Value.int .i64 0,Value.int .u32 0]) 5 40:=LX (by kernel_rfl)
theorem PH:TI Tryz.prog 212 (Value.agg #[Value.int .i64 0,Value.int .i64 0,Value.int .i64 0]) 3 24:=LX (by kernel_rfl)
theorem z63:TI Tryz.prog 215 (Value.pointer none) 1 8:=LX (by kernel_rfl)
theorem z3g:TI Tryz.prog 217 (Value.agg #[Value.string ⟨#[]⟩,Value.bool false]) 2 24:=LX (by kernel_rfl)
theorem zdk:TI Tryz.prog 219 (Value.agg #[Value.string ⟨#[]⟩,Value.bool false,Value.int .i64 0]) 3 32:=LX (by kernel_rfl)
theorem z3u:TI Tryz.prog 231 (Value.pointer none) 1 8:=LX (by kernel_rfl)
theorem R7:TI Tryz.prog 233 (Value.agg #[Value.int .i64 0,Value.int .i64 0]) 2 16:=LX (by kernel_rfl)
theorem OW:TI Tryz.prog 238 (Value.agg #[Value.int .i64 0,Value.int .u64 0,Value.int .i64 0,Value.int .i64 0]) 4 32:=LX (by kernel_rfl)
theorem zbZ:TI Tryz.prog 251 (Value.agg #[Value.nilIface,Value.int .i64 0,Value.int .i64 0]) 3 32:=LX (by kernel_rfl)
theorem MO:TI Tryz.prog 260 (Value.agg #[Value.int .u8 0,Value.int .u64 0]) 2 16:=LX (by kernel_rfl)
theorem zcR:TI Tryz.prog 262 (Value.agg #[Value.string ⟨#[]⟩,Value.int .i64 0]) 2 24:=LX (by kernel_rfl)
theorem LW:TI Tryz.prog 265 (Value.agg #[Value.bool false,Value.bool false,Value.int .i64 0]) 3 16:=LX (by kernel_rfl)
theorem z9k:TI Tryz.prog 269 (Value.nilFunc) 1 8:=LX (by kernel_rfl)
theorem Mr:TI Tryz.prog 274 (Value.agg #[Value.slice none 0 0,Value.int .i64 0]) 2 32:=LX (by kernel_rfl)
theorem zb9:TI Tryz.prog 275 (Value.agg #[Value.slice none 0 0,Value.int .i64 0,Value.slice none 0 0,Value.int .i64 0,Value.slice none 0 0,Value.int .i64 0,Value.slice none 0 0,Value.int .i64 0,Value.slice none 0 0,Value.int .i64 0,Value.slice none 0 0,Value.int .i64 0,Value.slice none 0 0,Value.int .i64 0,Value.slice none 0 0,Value.int .i64 0,Value.slice none 0 0,Value.int .i64 0,Value.slice none 0 0,Value.int .i64 0,Value.slice none 0 0,Value.int .i64 0,Value.slice none 0 0,Value.int .i64 0,Value.slice none 0 0,Value.int .i64 0,Value.slice none 0 0,Value.int .i64 0,Value.slice none 0 0,Value.int .i64 0,Value.slice none 0 0,Value.int .i64 0,Value.slice none 0 0,Value.int .i64 0]) 34 544:=LX (by kernel_rfl)
theorem z9p:TI Tryz.prog 277 (Value.agg #[Value.slice none 0 0,Value.int .i64 0,Value.slice none 0 0,Value.int .i64 0,Value.slice none 0 0,Value.int .i64 0,Value.slice none 0 0,Value.int .i64 0,Value.slice none 0 0,Value.int .i64 0,Value.slice none 0 0,Value.int .i64 0,Value.slice none 0 0,Value.int .i64 0,Value.slice none 0 0,Value.int .i64 0,Value.slice none 0 0,Value.int .i64 0,Value.slice none 0 0,Value.int .i64 0,Value.slice none 0 0,Value.int .i64 0,Value.slice none 0 0,Value.int .i64 0,Value.slice none 0 0,Value.int .i64 0,Value.slice none 0 0,Value.int .i64 0,Value.slice none 0 0,Value.int .i64 0,Value.slice none 0 0,Value.int .i64 0,Value.slice none 0 0,Value.int .i64 0,Value.int .i64 0]) 35 552:=LX (by kernel_rfl)
theorem zbG:TI Tryz.prog 279 (Value.agg #[Value.int .i64 0,Value.int .i64 0,Value.int .i64 0,Value.int .i64 0,Value.int .i64 0,Value.slice none 0 0,Value.int .i64 0,Value.slice none 0 0,Value.int .i64 0,Value.slice none 0 0,Value.int .i64 0,Value.slice none 0 0,Value.int .i64 0,Value.slice none 0 0,Value.int .i64 0,Value.slice none 0 0,Value.int .i64 0,Value.slice none 0 0,Value.int .i64 0,Value.slice none 0 0,Value.int .i64 0,Value.slice none 0 0,Value.int .i64 0,Value.slice none 0 0,Value.int .i64 0,Value.slice none 0 0,Value.int .i64 0,Value.slice none 0 0,Value.int .i64 0,Value.slice none 0 0,Value.int .i64 0,Value.slice none 0 0,Value.int .i64 0,Value.slice none 0 0,Value.int .i64 0,Value.slice none 0 0,Value.int .i64 0,Value.slice none 0 0,Value.int .i64 0,Value.int .i64 0,Value.pointer none,Value.int .i64 0,Value.int .i64 0]) 43 616:=LX (by kernel_rfl)
theorem zd4:TI Tryz.prog 286 (Value.agg #[Value.slice none 0 0,Value.int .i64 0]) 2 32:=LX (by kernel_rfl)
theorem zdO:TI Tryz.prog 294 (Value.agg #[Value.int .i64 0,Value.int .u64 0,Value.int .i64 0,Value.int .i64 0,Value.nilIface]) 5 48:=LX (by kernel_rfl)
theorem z9e:TI Tryz.prog 300 (Value.pointer none) 1 8:=LX (by kernel_rfl)
theorem zca:TI Tryz.prog 306 (Value.agg #[Value.pointer none,Value.bool false]) 2 16:=LX (by kernel_rfl)
theorem zbN:TI Tryz.prog 316 (Value.agg #[Value.pointer none,Value.bool false]) 2 16:=LX (by kernel_rfl)
theorem z71:TI Tryz.prog 320 (Value.slice none 0 0) 1 24:=LX (by kernel_rfl)
theorem R5:TI Tryz.prog 323 (Value.agg #[Value.int .u8 0,Value.int .u64 0,Value.int .u64 0]) 3 24:=LX (by kernel_rfl)
theorem S3:TI Tryz.prog 334 (Value.agg #[Value.int .i64 0,Value.string ⟨#[]⟩]) 2 24:=LX (by kernel_rfl)
theorem WJ:TI Tryz.prog 350 (Value.agg #[Value.int .i64 0,Value.int .i64 0]) 2 16:=LX (by kernel_rfl)
theorem Ow:TI Tryz.prog 353 (Value.agg #[Value.int .u64 0,Value.int .i64 0]) 2 16:=LX (by kernel_rfl)
theorem Qc:TI Tryz.prog 354 (Value.agg #[Value.int .u64 0,Value.int .i64 0,Value.int .u64 0,Value.int .i64 0]) 4 32:=LX (by kernel_rfl)
theorem z0j:TI Tryz.prog 373 (Value.int .u64 0) 1 8:=LX (by kernel_rfl)
theorem za2:Mt Tryz.prog 24 0 0 1 false:=⟨_,_,_,_,_,Tryz.underlying24,rfl,rfl,Md,Tryz.underlying3,rfl⟩
theorem zas:Mt Tryz.prog 24 1 1 1 false:=⟨_,_,_,_,_,Tryz.underlying24,rfl,rfl,zf7,Tryz.underlying22,rfl⟩
theorem z2d:Mt Tryz.prog 24 2 2 1 false:=⟨_,_,_,_,_,Tryz.underlying24,rfl,rfl,Rz,Tryz.underlying4,rfl⟩
theorem zaK:Mt Tryz.prog 24 3 3 1 false:=⟨_,_,_,_,_,Tryz.underlying24,rfl,rfl,Md,Tryz.underlying3,rfl⟩
theorem z9Z:Mt Tryz.prog 24 4 4 1 false:=⟨_,_,_,_,_,Tryz.underlying24,rfl,rfl,Md,Tryz.underlying3,rfl⟩
theorem z1Q:Mt Tryz.prog 31 1 1 1 false:=⟨_,_,_,_,_,Tryz.underlying31,rfl,rfl,z5v,Tryz.underlying28,rfl⟩
theorem z5N:Mt Tryz.prog 31 2 2 1 false:=⟨_,_,_,_,_,Tryz.underlying31,rfl,rfl,z8h,Tryz.underlying29,rfl⟩
theorem zal:Mt Tryz.prog 31 4 4 1 false:=⟨_,_,_,_,_,Tryz.underlying31,rfl,rfl,Md,Tryz.underlying3,rfl⟩
theorem zeC:SP Tryz.prog 31 [(0,1),(1,1),(2,1),(3,1),(4,1)]:=⟨_,Tryz.underlying31,λ_=>by simp[zaD.size,z5v.size,z8h.size,Md.size,Sem.run_bind,Sem.run_pure]⟩
theorem z7b:Mt Tryz.prog 71 1 1 1 false:=⟨_,_,_,_,_,Tryz.underlying71,rfl,rfl,Md,Tryz.underlying3,rfl⟩
theorem z6G:Mt Tryz.prog 71 2 2 1 false:=⟨_,_,_,_,_,Tryz.underlying71,rfl,rfl,Md,Tryz.underlying3,rfl⟩
theorem z6e:Mt Tryz.prog 71 3 3 1 false:=⟨_,_,_,_,_,Tryz.underlying71,rfl,rfl,Md,Tryz.underlying3,rfl⟩
theorem zeF:SP Tryz.prog 71 [(0,1),(1,1),(2,1),(3,1),(4,1),(5,1),(6,1)]:=⟨_,Tryz.underlying71,λ_=>by simp[Md.size,Sem.run_bind,Sem.run_pure]⟩
theorem UD:Mt Tryz.prog 80 0 0 1 false:=⟨_,_,_,_,_,Tryz.underlying80,rfl,rfl,Md,Tryz.underlying3,rfl⟩
theorem V7:Mt Tryz.prog 80 1 1 1 false:=⟨_,_,_,_,_,Tryz.underlying80,rfl,rfl,Md,Tryz.underlying3,rfl⟩
theorem zf5:SP Tryz.prog 80 [(0,1),(1,1)]:=⟨_,Tryz.underlying80,λ_=>by simp[Md.size,Sem.run_bind,Sem.run_pure]⟩
theorem Xe:Mt Tryz.prog 88 0 0 1 false:=⟨_,_,_,_,_,Tryz.underlying88,rfl,rfl,Md,Tryz.underlying3,rfl⟩
theorem UH:Mt Tryz.prog 88 1 1 1 false:=⟨_,_,_,_,_,Tryz.underlying88,rfl,rfl,Md,Tryz.underlying3,rfl⟩
theorem z60:Mt Tryz.prog 88 2 2 1 false:=⟨_,_,_,_,_,Tryz.underlying88,rfl,rfl,Md,Tryz.underlying3,rfl⟩
theorem z7z:Mt Tryz.prog 88 3 3 1 false:=⟨_,_,_,_,_,Tryz.underlying88,rfl,rfl,Md,Tryz.underlying3,rfl⟩
theorem Ph:Mt Tryz.prog 88 4 4 1 false:=⟨_,_,_,_,_,Tryz.underlying88,rfl,rfl,Md,Tryz.underlying3,rfl⟩
theorem z8q:SP Tryz.prog 88 [(0,1),(1,1),(2,1),(3,1),(4,1)]:=⟨_,Tryz.underlying88,λ_=>by simp[Md.size,Sem.run_bind,Sem.run_pure]⟩
theorem z1z:Mt Tryz.prog 97 0 0 1 false:=⟨_,_,_,_,_,Tryz.underlying97,rfl,rfl,Md,Tryz.underlying3,rfl⟩
theorem YI:Mt Tryz.prog 97 1 1 1 false:=⟨_,_,_,_,_,Tryz.underlying97,rfl,rfl,Md,Tryz.underlying3,rfl⟩
theorem Xc:Mt Tryz.prog 97 2 2 1 false:=⟨_,_,_,_,_,Tryz.underlying97,rfl,rfl,Rz,Tryz.underlying4,rfl⟩
theorem PF:Mt Tryz.prog 99 0 0 3 true:=⟨_,_,_,_,_,Tryz.underlying99,rfl,rfl,zb4,Tryz.underlying97,rfl⟩
theorem z6f:Mt Tryz.prog 99 1 3 1 false:=⟨_,_,_,_,_,Tryz.underlying99,rfl,rfl,z8h,Tryz.underlying29,rfl⟩
theorem RV:Mt Tryz.prog 99 2 4 1 false:=⟨_,_,_,_,_,Tryz.underlying99,rfl,rfl,zaV,Tryz.underlying90,rfl⟩
theorem z5P:Mt Tryz.prog 99 3 5 1 false:=⟨_,_,_,_,_,Tryz.underlying99,rfl,rfl,Rz,Tryz.underlying4,rfl⟩
theorem zfr:SP Tryz.prog 99 [(0,3),(3,1),(4,1),(5,1)]:=⟨_,Tryz.underlying99,λ_=>by simp[z8h.size,Rz.size,zaV.size,zb4.size,Sem.run_bind,Sem.run_pure]⟩
theorem QL:Mt Tryz.prog 103 0 0 1 false:=⟨_,_,_,_,_,Tryz.underlying103,rfl,rfl,zaD,Tryz.underlying27,rfl⟩
theorem Yu:Mt Tryz.prog 103 1 1 1 false:=⟨_,_,_,_,_,Tryz.underlying103,rfl,rfl,zcW,Tryz.underlying48,rfl⟩
theorem z2J:Mt Tryz.prog 103 2 2 1 false:=⟨_,_,_,_,_,Tryz.underlying103,rfl,rfl,z9T,Tryz.underlying100,rfl⟩
theorem R9:Mt Tryz.prog 103 3 3 1 false:=⟨_,_,_,_,_,Tryz.underlying103,rfl,rfl,z9b,Tryz.underlying101,rfl⟩
theorem SD:Mt Tryz.prog 103 4 4 7 true:=⟨_,_,_,_,_,Tryz.underlying103,rfl,rfl,za9,Tryz.underlying71,rfl⟩
theorem z2Q:Mt Tryz.prog 103 5 11 1 false:=⟨_,_,_,_,_,Tryz.underlying103,rfl,rfl,Rz,Tryz.underlying4,rfl⟩
theorem ze1:SP Tryz.prog 103 [(0,1),(1,1),(2,1),(3,1),(4,7),(11,1)]:=⟨_,Tryz.underlying103,λ_=>by simp[z9T.size,z9b.size,zaD.size,Rz.size,zcW.size,za9.size,Sem.run_bind,Sem.run_pure]⟩
theorem MV:Mt Tryz.prog 108 0 0 1 false:=⟨_,_,_,_,_,Tryz.underlying108,rfl,rfl,Md,Tryz.underlying3,rfl⟩
theorem N2:Mt Tryz.prog 108 1 1 1 false:=⟨_,_,_,_,_,Tryz.underlying108,rfl,rfl,Md,Tryz.underlying3,rfl⟩
theorem zc1:SP Tryz.prog 108 [(0,1),(1,1)]:=⟨_,Tryz.underlying108,λ_=>by simp[Md.size,Sem.run_bind,Sem.run_pure]⟩
theorem SG:Mt Tryz.prog 113 0 0 1 false:=⟨_,_,_,_,_,Tryz.underlying113,rfl,rfl,Lz,Tryz.underlying46,rfl⟩
theorem Re:Mt Tryz.prog 113 1 1 1 false:=⟨_,_,_,_,_,Tryz.underlying113,rfl,rfl,Lz,Tryz.underlying46,rfl⟩
theorem z9M:SP Tryz.prog 113 [(0,1),(1,1)]:=⟨_,Tryz.underlying113,λ_=>by simp[Lz.size,Sem.run_bind,Sem.run_pure]⟩
theorem z8t:Mt Tryz.prog 118 0 0 1 false:=⟨_,_,_,_,_,Tryz.underlying118,rfl,rfl,z1f,Tryz.underlying40,rfl⟩
theorem z84:Mt Tryz.prog 118 1 1 1 false:=⟨_,_,_,_,_,Tryz.underlying118,rfl,rfl,Md,Tryz.underlying3,rfl⟩
theorem z8n:Mt Tryz.prog 118 2 2 1 false:=⟨_,_,_,_,_,Tryz.underlying118,rfl,rfl,Tq,Tryz.underlying5,rfl⟩
theorem VH:Mt Tryz.prog 120 0 0 1 false:=⟨_,_,_,_,_,Tryz.underlying120,rfl,rfl,Md,Tryz.underlying3,rfl⟩
theorem z8V:Mt Tryz.prog 120 1 1 3 true:=⟨_,_,_,_,_,Tryz.underlying120,rfl,rfl,z6J,Tryz.underlying118,rfl⟩
theorem zcx:SP Tryz.prog 120 [(0,1),(1,3)]:=⟨_,Tryz.underlying120,λ_=>by simp[z6J.size,Md.size,Sem.run_bind,Sem.run_pure]⟩
theorem St:Mt Tryz.prog 123 0 0 4 true:=⟨_,_,_,_,_,Tryz.underlying123,rfl,rfl,z2Z,Tryz.underlying120,rfl⟩
theorem VI:Mt Tryz.prog 123 1 4 2 true:=⟨_,_,_,_,_,Tryz.underlying123,rfl,rfl,z7B,Tryz.underlying80,rfl⟩
theorem YG:Mt Tryz.prog 123 2 6 1 false:=⟨_,_,_,_,_,Tryz.underlying123,rfl,rfl,z9z,Tryz.underlying116,rfl⟩
theorem TE:Mt Tryz.prog 123 3 7 1 false:=⟨_,_,_,_,_,Tryz.underlying123,rfl,rfl,z3q,Tryz.underlying121,rfl⟩
theorem YL:Mt Tryz.prog 123 4 8 1 false:=⟨_,_,_,_,_,Tryz.underlying123,rfl,rfl,Rz,Tryz.underlying4,rfl⟩
theorem z3v:Mt Tryz.prog 123 5 9 1 false:=⟨_,_,_,_,_,Tryz.underlying123,rfl,rfl,Md,Tryz.underlying3,rfl⟩
theorem z3y:Mt Tryz.prog 123 6 10 1 false:=⟨_,_,_,_,_,Tryz.underlying123,rfl,rfl,Md,Tryz.underlying3,rfl⟩
theorem zeo:SP Tryz.prog 123 [(0,4),(4,2),(6,1),(7,1),(8,1),(9,1),(10,1)]:=⟨_,Tryz.underlying123,λ_=>by simp[z9z.size,z2Z.size,z3q.size,Md.size,Rz.size,z7B.size,Sem.run_bind,Sem.run_pure]⟩
theorem z2Y:Mt Tryz.prog 126 0 0 1 false:=⟨_,_,_,_,_,Tryz.underlying126,rfl,rfl,Md,Tryz.underlying3,rfl⟩
theorem QF:Mt Tryz.prog 126 1 1 1 false:=⟨_,_,_,_,_,Tryz.underlying126,rfl,rfl,z95,Tryz.underlying124,rfl⟩
theorem z7J:Mt Tryz.prog 126 3 3 1 false:=⟨_,_,_,_,_,Tryz.underlying126,rfl,rfl,Rz,Tryz.underlying4,rfl⟩
theorem zdx:SP Tryz.prog 126 [(0,1),(1,1),(2,1),(3,1)]:=⟨_,Tryz.underlying126,λ_=>by simp[z95.size,Md.size,Rz.size,Sem.run_bind,Sem.run_pure]⟩
theorem VK:Mt Tryz.prog 143 0 0 1 false:=⟨_,_,_,_,_,Tryz.underlying143,rfl,rfl,Md,Tryz.underlying3,rfl⟩
theorem Rt:Mt Tryz.prog 143 1 1 1 false:=⟨_,_,_,_,_,Tryz.underlying143,rfl,rfl,Md,Tryz.underlying3,rfl⟩
theorem TF:Mt Tryz.prog 143 2 2 1 false:=⟨_,_,_,_,_,Tryz.underlying143,rfl,rfl,Md,Tryz.underlying3,rfl⟩
theorem zbA:SP Tryz.prog 143 [(0,1),(1,1),(2,1)]:=⟨_,Tryz.underlying143,λ_=>by simp[Md.size,Sem.run_bind,Sem.run_pure]⟩
theorem NO:Mt Tryz.prog 145 0 0 3 true:=⟨_,_,_,_,_,Tryz.underlying145,rfl,rfl,TC,Tryz.underlying143,rfl⟩
theorem VZ:Mt Tryz.prog 145 1 3 2 true:=⟨_,_,_,_,_,Tryz.underlying145,rfl,rfl,MX,Tryz.underlying108,rfl⟩
theorem SB:Mt Tryz.prog 145 2 5 1 false:=⟨_,_,_,_,_,Tryz.underlying145,rfl,rfl,z5v,Tryz.underlying28,rfl⟩
theorem z3A:Mt Tryz.prog 145 3 6 1 false:=⟨_,_,_,_,_,Tryz.underlying145,rfl,rfl,Rz,Tryz.underlying4,rfl⟩
theorem zbv:SP Tryz.prog 145 [(0,3),(3,2),(5,1),(6,1)]:=⟨_,Tryz.underlying145,λ_=>by simp[MX.size,TC.size,z5v.size,Rz.size,Sem.run_bind,Sem.run_pure]⟩
theorem PR:Mt Tryz.prog 149 0 0 1 false:=⟨_,_,_,_,_,Tryz.underlying149,rfl,rfl,Md,Tryz.underlying3,rfl⟩
theorem Yz:Mt Tryz.prog 149 1 1 1 false:=⟨_,_,_,_,_,Tryz.underlying149,rfl,rfl,Md,Tryz.underlying3,rfl⟩
theorem Uj:Mt Tryz.prog 149 2 2 5 true:=⟨_,_,_,_,_,Tryz.underlying149,rfl,rfl,Nw,Tryz.underlying88,rfl⟩
theorem QC:Mt Tryz.prog 149 3 7 1 false:=⟨_,_,_,_,_,Tryz.underlying149,rfl,rfl,Md,Tryz.underlying3,rfl⟩
theorem z9t:SP Tryz.prog 149 [(0,1),(1,1),(2,5),(7,1)]:=⟨_,Tryz.underlying149,λ_=>by simp[Md.size,Nw.size,Sem.run_bind,Sem.run_pure]⟩
theorem Sh:Mt Tryz.prog 154 0 0 8 true:=⟨_,_,_,_,_,Tryz.underlying154,rfl,rfl,Pz,Tryz.underlying149,rfl⟩
theorem z7Q:Mt Tryz.prog 154 1 8 1 false:=⟨_,_,_,_,_,Tryz.underlying154,rfl,rfl,XY,Tryz.underlying151,rfl⟩
theorem z33:Mt Tryz.prog 154 2 9 1 false:=⟨_,_,_,_,_,Tryz.underlying154,rfl,rfl,z9K,Tryz.underlying152,rfl⟩
theorem zdp:SP Tryz.prog 154 [(0,8),(8,1),(9,1)]:=⟨_,Tryz.underlying154,λ_=>by simp[Pz.size,XY.size,z9K.size,Sem.run_bind,Sem.run_pure]⟩
theorem Oz:Mt Tryz.prog 157 0 0 1 false:=⟨_,_,_,_,_,Tryz.underlying157,rfl,rfl,Md,Tryz.underlying3,rfl⟩
theorem Od:Mt Tryz.prog 157 1 1 1 false:=⟨_,_,_,_,_,Tryz.underlying157,rfl,rfl,Md,Tryz.underlying3,rfl⟩
theorem z5Z:SP Tryz.prog 157 [(0,1),(1,1)]:=⟨_,Tryz.underlying157,λ_=>by simp[Md.size,Sem.run_bind,Sem.run_pure]⟩
theorem VW:Mt Tryz.prog 177 1 1 1 false:=⟨_,_,_,_,_,Tryz.underlying177,rfl,rfl,SV,Tryz.underlying171,rfl⟩
theorem Mj:Mt Tryz.prog 189 0 0 1 false:=⟨_,_,_,_,_,Tryz.underlying189,rfl,rfl,z1f,Tryz.underlying40,rfl⟩
theorem U8:Mt Tryz.prog 189 1 1 1 false:=⟨_,_,_,_,_,Tryz.underlying189,rfl,rfl,z3E,Tryz.underlying187,rfl⟩
theorem Oe:Mt Tryz.prog 191 0 0 1 false:=⟨_,_,_,_,_,Tryz.underlying191,rfl,rfl,Md,Tryz.underlying3,rfl⟩
theorem MF:Mt Tryz.prog 191 1 1 2 true:=⟨_,_,_,_,_,Tryz.underlying191,rfl,rfl,z0o,Tryz.underlying189,rfl⟩
theorem Nf:Mt Tryz.prog 191 2 3 2 true:=⟨_,_,_,_,_,Tryz.underlying191,rfl,rfl,z0o,Tryz.underlying189,rfl⟩
theorem MT:Mt Tryz.prog 191 3 5 2 true:=⟨_,_,_,_,_,Tryz.underlying191,rfl,rfl,z0o,Tryz.underlying189,rfl⟩
theorem N9:Mt Tryz.prog 191 4 7 2 true:=⟨_,_,_,_,_,Tryz.underlying191,rfl,rfl,z0o,Tryz.underlying189,rfl⟩
theorem N8:Mt Tryz.prog 191 5 9 1 false:=⟨_,_,_,_,_,Tryz.underlying191,rfl,rfl,Md,Tryz.underlying3,rfl⟩
theorem VM:Mt Tryz.prog 191 6 10 1 false:=⟨_,_,_,_,_,Tryz.underlying191,rfl,rfl,z3E,Tryz.underlying187,rfl⟩
theorem zbI:SP Tryz.prog 191 [(0,1),(1,2),(3,2),(5,2),(7,2),(9,1),(10,1)]:=⟨_,Tryz.underlying191,λ_=>by simp[z3E.size,z0o.size,Md.size,Sem.run_bind,Sem.run_pure]⟩
theorem QN:Mt Tryz.prog 198 0 0 1 false:=⟨_,_,_,_,_,Tryz.underlying198,rfl,rfl,z5v,Tryz.underlying28,rfl⟩
theorem PJ:Mt Tryz.prog 198 1 1 2 true:=⟨_,_,_,_,_,Tryz.underlying198,rfl,rfl,MX,Tryz.underlying108,rfl⟩
theorem z9x:SP Tryz.prog 198 [(0,1),(1,2)]:=⟨_,Tryz.underlying198,λ_=>by simp[MX.size,z5v.size,Sem.run_bind,Sem.run_pure]⟩
theorem SE:Mt Tryz.prog 200 0 0 3 true:=⟨_,_,_,_,_,Tryz.underlying200,rfl,rfl,RU,Tryz.underlying198,rfl⟩
theorem OB:Mt Tryz.prog 200 1 3 1 false:=⟨_,_,_,_,_,Tryz.underlying200,rfl,rfl,SV,Tryz.underlying171,rfl⟩
theorem Tz:Mt Tryz.prog 200 2 4 1 false:=⟨_,_,_,_,_,Tryz.underlying200,rfl,rfl,Md,Tryz.underlying3,rfl⟩
theorem VT:Mt Tryz.prog 200 3 5 1 false:=⟨_,_,_,_,_,Tryz.underlying200,rfl,rfl,Md,Tryz.underlying3,rfl⟩
theorem Yt:Mt Tryz.prog 200 4 6 1 false:=⟨_,_,_,_,_,Tryz.underlying200,rfl,rfl,Lz,Tryz.underlying46,rfl⟩
theorem W1:Mt Tryz.prog 200 5 7 1 false:=⟨_,_,_,_,_,Tryz.underlying200,rfl,rfl,zaR,Tryz.underlying58,rfl⟩
theorem TW:Mt Tryz.prog 200 6 8 1 false:=⟨_,_,_,_,_,Tryz.underlying200,rfl,rfl,Rz,Tryz.underlying4,rfl⟩
theorem z9W:SP Tryz.prog 200 [(0,3),(3,1),(4,1),(5,1),(6,1),(7,1),(8,1)]:=⟨_,Tryz.underlying200,λ_=>by simp[SV.size,RU.size,Md.size,Rz.size,Lz.size,zaR.size,Sem.run_bind,Sem.run_pure]⟩
theorem TR:Mt Tryz.prog 204 0 0 3 true:=⟨_,_,_,_,_,Tryz.underlying204,rfl,rfl,RU,Tryz.underlying198,rfl⟩
theorem W2:Mt Tryz.prog 204 1 3 1 false:=⟨_,_,_,_,_,Tryz.underlying204,rfl,rfl,Md,Tryz.underlying3,rfl⟩
theorem z8j:Mt Tryz.prog 204 2 4 1 false:=⟨_,_,_,_,_,Tryz.underlying204,rfl,rfl,Lz,Tryz.underlying46,rfl⟩
theorem zdM:SP Tryz.prog 204 [(0,3),(3,1),(4,1)]:=⟨_,Tryz.underlying204,λ_=>by simp[RU.size,Md.size,Lz.size,Sem.run_bind,Sem.run_pure]⟩
theorem OS:Mt Tryz.prog 212 0 0 1 false:=⟨_,_,_,_,_,Tryz.underlying212,rfl,rfl,Md,Tryz.underlying3,rfl⟩
theorem PK:Mt Tryz.prog 212 1 1 1 false:=⟨_,_,_,_,_,Tryz.underlying212,rfl,rfl,Md,Tryz.underlying3,rfl⟩
theorem VL:Mt Tryz.prog 212 2 2 1 false:=⟨_,_,_,_,_,Tryz.underlying212,rfl,rfl,Md,Tryz.underlying3,rfl⟩
theorem zcQ:SP Tryz.prog 212 [(0,1),(1,1),(2,1)]:=⟨_,Tryz.underlying212,λ_=>by simp[Md.size,Sem.run_bind,Sem.run_pure]⟩
theorem YU:Mt Tryz.prog 217 0 0 1 false:=⟨_,_,_,_,_,Tryz.underlying217,rfl,rfl,XB,Tryz.underlying9,rfl⟩
theorem YJ:Mt Tryz.prog 217 1 1 1 false:=⟨_,_,_,_,_,Tryz.underlying217,rfl,rfl,Rz,Tryz.underlying4,rfl⟩
theorem zdB:SP Tryz.prog 217 [(0,1),(1,1)]:=⟨_,Tryz.underlying217,λ_=>by simp[Rz.size,XB.size,Sem.run_bind,Sem.run_pure]⟩
theorem Rq:Mt Tryz.prog 219 0 0 2 true:=⟨_,_,_,_,_,Tryz.underlying219,rfl,rfl,z3g,Tryz.underlying217,rfl⟩
theorem z8i:Mt Tryz.prog 219 1 2 1 false:=⟨_,_,_,_,_,Tryz.underlying219,rfl,rfl,Md,Tryz.underlying3,rfl⟩
theorem zc7:SP Tryz.prog 219 [(0,2),(2,1)]:=⟨_,Tryz.underlying219,λ_=>by simp[z3g.size,Md.size,Sem.run_bind,Sem.run_pure]⟩
theorem z7H:Mt Tryz.prog 233 0 0 1 false:=⟨_,_,_,_,_,Tryz.underlying233,rfl,rfl,Md,Tryz.underlying3,rfl⟩
theorem z7K:Mt Tryz.prog 233 1 1 1 false:=⟨_,_,_,_,_,Tryz.underlying233,rfl,rfl,Md,Tryz.underlying3,rfl⟩
theorem VC:SP Tryz.prog 233 [(0,1),(1,1)]:=⟨_,Tryz.underlying233,λ_=>by simp[Md.size,Sem.run_bind,Sem.run_pure]⟩
theorem Ue:Mt Tryz.prog 238 0 0 1 false:=⟨_,_,_,_,_,Tryz.underlying238,rfl,rfl,Md,Tryz.underlying3,rfl⟩
theorem z8p:Mt Tryz.prog 238 1 1 1 false:=⟨_,_,_,_,_,Tryz.underlying238,rfl,rfl,QA,Tryz.underlying41,rfl⟩
theorem P5:Mt Tryz.prog 238 2 2 1 false:=⟨_,_,_,_,_,Tryz.underlying238,rfl,rfl,Md,Tryz.underlying3,rfl⟩
theorem TJ:Mt Tryz.prog 238 3 3 1 false:=⟨_,_,_,_,_,Tryz.underlying238,rfl,rfl,Md,Tryz.underlying3,rfl⟩
theorem zcC:SP Tryz.prog 238 [(0,1),(1,1),(2,1),(3,1)]:=⟨_,Tryz.underlying238,λ_=>by simp[Md.size,QA.size,Sem.run_bind,Sem.run_pure]⟩
theorem z8A:Mt Tryz.prog 251 0 0 1 false:=⟨_,_,_,_,_,Tryz.underlying251,rfl,rfl,XY,Tryz.underlying151,rfl⟩
theorem z8D:Mt Tryz.prog 251 1 1 1 false:=⟨_,_,_,_,_,Tryz.underlying251,rfl,rfl,Md,Tryz.underlying3,rfl⟩
theorem YK:Mt Tryz.prog 251 2 2 1 false:=⟨_,_,_,_,_,Tryz.underlying251,rfl,rfl,Md,Tryz.underlying3,rfl⟩
theorem zcN:SP Tryz.prog 251 [(0,1),(1,1),(2,1)]:=⟨_,Tryz.underlying251,λ_=>by simp[XY.size,Md.size,Sem.run_bind,Sem.run_pure]⟩
theorem O0:Mt Tryz.prog 260 0 0 1 false:=⟨_,_,_,_,_,Tryz.underlying260,rfl,rfl,Tq,Tryz.underlying5,rfl⟩
theorem Sn:Mt Tryz.prog 260 1 1 1 false:=⟨_,_,_,_,_,Tryz.underlying260,rfl,rfl,QA,Tryz.underlying41,rfl⟩
theorem z9s:SP Tryz.prog 260 [(0,1),(1,1)]:=⟨_,Tryz.underlying260,λ_=>by simp[QA.size,Tq.size,Sem.run_bind,Sem.run_pure]⟩
theorem Yr:Mt Tryz.prog 262 0 0 1 false:=⟨_,_,_,_,_,Tryz.underlying262,rfl,rfl,XB,Tryz.underlying9,rfl⟩
theorem QB:Mt Tryz.prog 262 1 1 1 false:=⟨_,_,_,_,_,Tryz.underlying262,rfl,rfl,Md,Tryz.underlying3,rfl⟩
theorem zc3:SP Tryz.prog 262 [(0,1),(1,1)]:=⟨_,Tryz.underlying262,λ_=>by simp[Md.size,XB.size,Sem.run_bind,Sem.run_pure]⟩
theorem z8P:Mt Tryz.prog 265 0 0 1 false:=⟨_,_,_,_,_,Tryz.underlying265,rfl,rfl,Rz,Tryz.underlying4,rfl⟩
theorem z80:Mt Tryz.prog 265 1 1 1 false:=⟨_,_,_,_,_,Tryz.underlying265,rfl,rfl,Rz,Tryz.underlying4,rfl⟩
theorem YW:Mt Tryz.prog 265 2 2 1 false:=⟨_,_,_,_,_,Tryz.underlying265,rfl,rfl,Md,Tryz.underlying3,rfl⟩
theorem RD:SP Tryz.prog 265 [(0,1),(1,1),(2,1)]:=⟨_,Tryz.underlying265,λ_=>by simp[Md.size,Rz.size,Sem.run_bind,Sem.run_pure]⟩
theorem Oc:Mt Tryz.prog 274 0 0 1 false:=⟨_,_,_,_,_,Tryz.underlying274,rfl,rfl,O2,Tryz.underlying45,rfl⟩
theorem Yg:Mt Tryz.prog 274 1 1 1 false:=⟨_,_,_,_,_,Tryz.underlying274,rfl,rfl,Md,Tryz.underlying3,rfl⟩
theorem z9C:SP Tryz.prog 274 [(0,1),(1,1)]:=⟨_,Tryz.underlying274,λ_=>by simp[Md.size,O2.size,Sem.run_bind,Sem.run_pure]⟩
theorem z3D:Mt Tryz.prog 277 0 0 34 true:=⟨_,_,_,_,_,Tryz.underlying277,rfl,rfl,zb9,Tryz.underlying275,rfl⟩
theorem QI:Mt Tryz.prog 277 1 34 1 false:=⟨_,_,_,_,_,Tryz.underlying277,rfl,rfl,Md,Tryz.underlying3,rfl⟩
theorem Sc:Mt Tryz.prog 279 0 0 5 true:=⟨_,_,_,_,_,Tryz.underlying279,rfl,rfl,Nw,Tryz.underlying88,rfl⟩
theorem U0:Mt Tryz.prog 279 1 5 35 true:=⟨_,_,_,_,_,Tryz.underlying279,rfl,rfl,z9p,Tryz.underlying277,rfl⟩
theorem YM:Mt Tryz.prog 279 2 40 1 false:=⟨_,_,_,_,_,Tryz.underlying279,rfl,rfl,z3u,Tryz.underlying231,rfl⟩
theorem Yw:Mt Tryz.prog 279 3 41 1 false:=⟨_,_,_,_,_,Tryz.underlying279,rfl,rfl,Md,Tryz.underlying3,rfl⟩
theorem z7I:Mt Tryz.prog 279 4 42 1 false:=⟨_,_,_,_,_,Tryz.underlying279,rfl,rfl,Md,Tryz.underlying3,rfl⟩
theorem zbB:SP Tryz.prog 279 [(0,5),(5,35),(40,1),(41,1),(42,1)]:=⟨_,Tryz.underlying279,λ_=>by simp[z3u.size,z9p.size,Md.size,Nw.size,Sem.run_bind,Sem.run_pure]⟩
theorem TT:Mt Tryz.prog 286 0 0 1 false:=⟨_,_,_,_,_,Tryz.underlying286,rfl,rfl,SV,Tryz.underlying171,rfl⟩
theorem Sx:Mt Tryz.prog 286 1 1 1 false:=⟨_,_,_,_,_,Tryz.underlying286,rfl,rfl,Md,Tryz.underlying3,rfl⟩
theorem zds:SP Tryz.prog 286 [(0,1),(1,1)]:=⟨_,Tryz.underlying286,λ_=>by simp[SV.size,Md.size,Sem.run_bind,Sem.run_pure]⟩
theorem O7:Mt Tryz.prog 294 0 0 4 true:=⟨_,_,_,_,_,Tryz.underlying294,rfl,rfl,OW,Tryz.underlying238,rfl⟩
theorem Yo:Mt Tryz.prog 294 1 4 1 false:=⟨_,_,_,_,_,Tryz.underlying294,rfl,rfl,XY,Tryz.underlying151,rfl⟩
theorem zbS:SP Tryz.prog 294 [(0,4),(4,1)]:=⟨_,Tryz.underlying294,λ_=>by simp[XY.size,OW.size,Sem.run_bind,Sem.run_pure]⟩
theorem z8y:Mt Tryz.prog 306 0 0 1 false:=⟨_,_,_,_,_,Tryz.underlying306,rfl,rfl,XJ,Tryz.underlying158,rfl⟩
theorem VJ:Mt Tryz.prog 306 1 1 1 false:=⟨_,_,_,_,_,Tryz.underlying306,rfl,rfl,Rz,Tryz.underlying4,rfl⟩
theorem zcA:SP Tryz.prog 306 [(0,1),(1,1)]:=⟨_,Tryz.underlying306,λ_=>by simp[XJ.size,Rz.size,Sem.run_bind,Sem.run_pure]⟩
theorem z8g:Mt Tryz.prog 316 0 0 1 false:=⟨_,_,_,_,_,Tryz.underlying316,rfl,rfl,XJ,Tryz.underlying158,rfl⟩
theorem Pw:Mt Tryz.prog 316 1 1 1 false:=⟨_,_,_,_,_,Tryz.underlying316,rfl,rfl,Rz,Tryz.underlying4,rfl⟩
theorem zbX:SP Tryz.prog 316 [(0,1),(1,1)]:=⟨_,Tryz.underlying316,λ_=>by simp[XJ.size,Rz.size,Sem.run_bind,Sem.run_pure]⟩
theorem z3d:Mt Tryz.prog 323 0 0 2 true:=⟨_,_,_,_,_,Tryz.underlying323,rfl,rfl,MO,Tryz.underlying260,rfl⟩
theorem z2U:Mt Tryz.prog 323 1 2 1 false:=⟨_,_,_,_,_,Tryz.underlying323,rfl,rfl,QA,Tryz.underlying41,rfl⟩
theorem z9Y:SP Tryz.prog 323 [(0,2),(2,1)]:=⟨_,Tryz.underlying323,λ_=>by simp[MO.size,QA.size,Sem.run_bind,Sem.run_pure]⟩
theorem VS:Mt Tryz.prog 334 0 0 1 false:=⟨_,_,_,_,_,Tryz.underlying334,rfl,rfl,Md,Tryz.underlying3,rfl⟩
theorem YX:Mt Tryz.prog 334 1 1 1 false:=⟨_,_,_,_,_,Tryz.underlying334,rfl,rfl,XB,Tryz.underlying9,rfl⟩
theorem zcv:SP Tryz.prog 334 [(0,1),(1,1)]:=⟨_,Tryz.underlying334,λ_=>by simp[Md.size,XB.size,Sem.run_bind,Sem.run_pure]⟩
theorem YR:Mt Tryz.prog 350 0 0 1 false:=⟨_,_,_,_,_,Tryz.underlying350,rfl,rfl,Md,Tryz.underlying3,rfl⟩
theorem z30:Mt Tryz.prog 350 1 1 1 false:=⟨_,_,_,_,_,Tryz.underlying350,rfl,rfl,Md,Tryz.underlying3,rfl⟩
theorem zcE:SP Tryz.prog 350 [(0,1),(1,1)]:=⟨_,Tryz.underlying350,λ_=>by simp[Md.size,Sem.run_bind,Sem.run_pure]⟩
theorem z2P:Mt Tryz.prog 353 0 0 1 false:=⟨_,_,_,_,_,Tryz.underlying353,rfl,rfl,QA,Tryz.underlying41,rfl⟩
theorem VO:Mt Tryz.prog 353 1 1 1 false:=⟨_,_,_,_,_,Tryz.underlying353,rfl,rfl,Md,Tryz.underlying3,rfl⟩
theorem z7a:SP Tryz.prog 353 [(0,1),(1,1)]:=⟨_,Tryz.underlying353,λ_=>by simp[Md.size,QA.size,Sem.run_bind,Sem.run_pure]⟩
theorem cf6:CF Tryz.prog 6:=⟨_,Tryz.func6,by kernel_rfl,rfl⟩
theorem cf7:CF Tryz.prog 7:=⟨_,Tryz.func7,by kernel_rfl,rfl⟩
theorem cf8:CF Tryz.prog 8:=⟨_,Tryz.func8,by kernel_rfl,rfl⟩
theorem cf9:CF Tryz.prog 9:=⟨_,Tryz.func9,by kernel_rfl,rfl⟩
theorem zaB:CF Tryz.prog 10:=⟨_,Tryz.func10,by kernel_rfl,rfl⟩
theorem zf2:CF Tryz.prog 11:=⟨_,Tryz.func11,by kernel_rfl,rfl⟩
theorem zfn:CF Tryz.prog 12:=⟨_,Tryz.func12,by kernel_rfl,rfl⟩
theorem zeE:CF Tryz.prog 13:=⟨_,Tryz.func13,by kernel_rfl,rfl⟩
theorem zdI:CF Tryz.prog 14:=⟨_,Tryz.func14,by kernel_rfl,rfl⟩
theorem zeZ:CF Tryz.prog 15:=⟨_,Tryz.func15,by kernel_rfl,rfl⟩
theorem zeL:CF Tryz.prog 18:=⟨_,Tryz.func18,by kernel_rfl,rfl⟩
theorem zer:CF Tryz.prog 24:=⟨_,Tryz.func24,by kernel_rfl,rfl⟩
theorem zfh:CF Tryz.prog 25:=⟨_,Tryz.func25,by kernel_rfl,rfl⟩
theorem zfK:CF Tryz.prog 26:=⟨_,Tryz.func26,by kernel_rfl,rfl⟩
theorem zfq:CF Tryz.prog 27:=⟨_,Tryz.func27,by kernel_rfl,rfl⟩
theorem zfM:CF Tryz.prog 28:=⟨_,Tryz.func28,by kernel_rfl,rfl⟩
theorem zfO:CF Tryz.prog 29:=⟨_,Tryz.func29,by kernel_rfl,rfl⟩
theorem zdi:CF Tryz.prog 30:=⟨_,Tryz.func30,by kernel_rfl,rfl⟩
theorem zcY:CF Tryz.prog 31:=⟨_,Tryz.func31,by kernel_rfl,rfl⟩
theorem zfA:CF Tryz.prog 32:=⟨_,Tryz.func32,by kernel_rfl,rfl⟩
theorem zeW:CF Tryz.prog 33:=⟨_,Tryz.func33,by kernel_rfl,rfl⟩
theorem za1:CF Tryz.prog 34:=⟨_,Tryz.func34,by kernel_rfl,rfl⟩
theorem zfG:CF Tryz.prog 35:=⟨_,Tryz.func35,by kernel_rfl,rfl⟩
theorem zar:CF Tryz.prog 36:=⟨_,Tryz.func36,by kernel_rfl,rfl⟩
theorem zeG:CF Tryz.prog 37:=⟨_,Tryz.func37,by kernel_rfl,rfl⟩
theorem zcB:CF Tryz.prog 38:=⟨_,Tryz.func38,by kernel_rfl,rfl⟩
theorem zeV:CF Tryz.prog 39:=⟨_,Tryz.func39,by kernel_rfl,rfl⟩
theorem z7E:CF Tryz.prog 40:=⟨_,Tryz.func40,by kernel_rfl,rfl⟩
theorem zdt:CF Tryz.prog 41:=⟨_,Tryz.func41,by kernel_rfl,rfl⟩
theorem zeD:CF Tryz.prog 51:=⟨_,Tryz.func51,by kernel_rfl,rfl⟩
theorem zfN:CF Tryz.prog 52:=⟨_,Tryz.func52,by kernel_rfl,rfl⟩
theorem zfH:CF Tryz.prog 53:=⟨_,Tryz.func53,by kernel_rfl,rfl⟩
theorem zfl:CF Tryz.prog 54:=⟨_,Tryz.func54,by kernel_rfl,rfl⟩
theorem zfj:CF Tryz.prog 55:=⟨_,Tryz.func55,by kernel_rfl,rfl⟩
theorem z0i:CF Tryz.prog 56:=⟨_,Tryz.func56,by kernel_rfl,rfl⟩
theorem zbO:CF Tryz.prog 57:=⟨_,Tryz.func57,by kernel_rfl,rfl⟩
theorem zeJ:CF Tryz.prog 58:=⟨_,Tryz.func58,by kernel_rfl,rfl⟩
theorem zfB:CF Tryz.prog 59:=⟨_,Tryz.func59,by kernel_rfl,rfl⟩
theorem zfP:CF Tryz.prog 60:=⟨_,Tryz.func60,by kernel_rfl,rfl⟩
theorem zeP:CF Tryz.prog 61:=⟨_,Tryz.func61,by kernel_rfl,rfl⟩
theorem zfz:CF Tryz.prog 62:=⟨_,Tryz.func62,by kernel_rfl,rfl⟩
theorem zdN:CF Tryz.prog 63:=⟨_,Tryz.func63,by kernel_rfl,rfl⟩
theorem zez:CF Tryz.prog 64:=⟨_,Tryz.func64,by kernel_rfl,rfl⟩
theorem zeB:CF Tryz.prog 65:=⟨_,Tryz.func65,by kernel_rfl,rfl⟩
theorem zdW:CF Tryz.prog 66:=⟨_,Tryz.func66,by kernel_rfl,rfl⟩
theorem zdP:CF Tryz.prog 67:=⟨_,Tryz.func67,by kernel_rfl,rfl⟩
theorem z7w:CF Tryz.prog 68:=⟨_,Tryz.func68,by kernel_rfl,rfl⟩
theorem zba:CF Tryz.prog 69:=⟨_,Tryz.func69,by kernel_rfl,rfl⟩
theorem zcZ:CF Tryz.prog 70:=⟨_,Tryz.func70,by kernel_rfl,rfl⟩
theorem z88:CF Tryz.prog 71:=⟨_,Tryz.func71,by kernel_rfl,rfl⟩
theorem zaO:CF Tryz.prog 72:=⟨_,Tryz.func72,by kernel_rfl,rfl⟩
theorem zat:CF Tryz.prog 73:=⟨_,Tryz.func73,by kernel_rfl,rfl⟩
theorem zeX:CF Tryz.prog 74:=⟨_,Tryz.func74,by kernel_rfl,rfl⟩
theorem zfQ:CF Tryz.prog 75:=⟨_,Tryz.func75,by kernel_rfl,rfl⟩
theorem zfp:CF Tryz.prog 76:=⟨_,Tryz.func76,by kernel_rfl,rfl⟩
theorem zb0:CF Tryz.prog 77:=⟨_,Tryz.func77,by kernel_rfl,rfl⟩
theorem zeO:CF Tryz.prog 78:=⟨_,Tryz.func78,by kernel_rfl,rfl⟩
theorem zfJ:CF Tryz.prog 79:=⟨_,Tryz.func79,by kernel_rfl,rfl⟩
theorem zfR:CF Tryz.prog 80:=⟨_,Tryz.func80,by kernel_rfl,rfl⟩
theorem zeR:CF Tryz.prog 84:=⟨_,Tryz.func84,by kernel_rfl,rfl⟩
theorem zf0:CF Tryz.prog 85:=⟨_,Tryz.func85,by kernel_rfl,rfl⟩
theorem zeu:CF Tryz.prog 86:=⟨_,Tryz.func86,by kernel_rfl,rfl⟩
theorem zfd:CF Tryz.prog 87:=⟨_,Tryz.func87,by kernel_rfl,rfl⟩
theorem zfo:CF Tryz.prog 88:=⟨_,Tryz.func88,by kernel_rfl,rfl⟩
theorem za3:CF Tryz.prog 89:=⟨_,Tryz.func89,by kernel_rfl,rfl⟩
theorem zf1:CF Tryz.prog 90:=⟨_,Tryz.func90,by kernel_rfl,rfl⟩
theorem zaZ:CF Tryz.prog 91:=⟨_,Tryz.func91,by kernel_rfl,rfl⟩
theorem zbm:CF Tryz.prog 92:=⟨_,Tryz.func92,by kernel_rfl,rfl⟩
theorem za4:CF Tryz.prog 93:=⟨_,Tryz.func93,by kernel_rfl,rfl⟩
theorem zdg:CF Tryz.prog 94:=⟨_,Tryz.func94,by kernel_rfl,rfl⟩
theorem zev:CF Tryz.prog 95:=⟨_,Tryz.func95,by kernel_rfl,rfl⟩
theorem zec:CF Tryz.prog 96:=⟨_,Tryz.func96,by kernel_rfl,rfl⟩
theorem zcs:CF Tryz.prog 97:=⟨_,Tryz.func97,by kernel_rfl,rfl⟩
theorem zcD:CF Tryz.prog 98:=⟨_,Tryz.func98,by kernel_rfl,rfl⟩
theorem zbk:CF Tryz.prog 99:=⟨_,Tryz.func99,by kernel_rfl,rfl⟩
theorem zb5:CF Tryz.prog 100:=⟨_,Tryz.func100,by kernel_rfl,rfl⟩
theorem z6W:CF Tryz.prog 101:=⟨_,Tryz.func101,by kernel_rfl,rfl⟩
theorem zb1:CF Tryz.prog 102:=⟨_,Tryz.func102,by kernel_rfl,rfl⟩
theorem zbb:CF Tryz.prog 103:=⟨_,Tryz.func103,by kernel_rfl,rfl⟩
theorem ze4:CF Tryz.prog 104:=⟨_,Tryz.func104,by kernel_rfl,rfl⟩
theorem zdE:CF Tryz.prog 105:=⟨_,Tryz.func105,by kernel_rfl,rfl⟩
theorem z9U:CF Tryz.prog 106:=⟨_,Tryz.func106,by kernel_rfl,rfl⟩
theorem WM:CF Tryz.prog 107:=⟨_,Tryz.func107,by kernel_rfl,rfl⟩
theorem Tu:CF Tryz.prog 108:=⟨_,Tryz.func108,by kernel_rfl,rfl⟩
theorem z9A:CF Tryz.prog 109:=⟨_,Tryz.func109,by kernel_rfl,rfl⟩
theorem z9d:CF Tryz.prog 110:=⟨_,Tryz.func110,by kernel_rfl,rfl⟩
theorem zbl:CF Tryz.prog 111:=⟨_,Tryz.func111,by kernel_rfl,rfl⟩
theorem zbn:CF Tryz.prog 112:=⟨_,Tryz.func112,by kernel_rfl,rfl⟩
theorem zdR:CF Tryz.prog 113:=⟨_,Tryz.func113,by kernel_rfl,rfl⟩
theorem zcj:CF Tryz.prog 114:=⟨_,Tryz.func114,by kernel_rfl,rfl⟩
theorem zcG:CF Tryz.prog 115:=⟨_,Tryz.func115,by kernel_rfl,rfl⟩
theorem zbM:CF Tryz.prog 116:=⟨_,Tryz.func116,by kernel_rfl,rfl⟩
theorem zbU:CF Tryz.prog 117:=⟨_,Tryz.func117,by kernel_rfl,rfl⟩
theorem zcd:CF Tryz.prog 118:=⟨_,Tryz.func118,by kernel_rfl,rfl⟩
theorem zc0:CF Tryz.prog 119:=⟨_,Tryz.func119,by kernel_rfl,rfl⟩
theorem zd8:CF Tryz.prog 120:=⟨_,Tryz.func120,by kernel_rfl,rfl⟩
theorem z6N:CF Tryz.prog 121:=⟨_,Tryz.func121,by kernel_rfl,rfl⟩
theorem WR:CF Tryz.prog 122:=⟨_,Tryz.func122,by kernel_rfl,rfl⟩
theorem S5:CF Tryz.prog 123:=⟨_,Tryz.func123,by kernel_rfl,rfl⟩
theorem z3a:CF Tryz.prog 124:=⟨_,Tryz.func124,by kernel_rfl,rfl⟩
theorem zbw:CF Tryz.prog 125:=⟨_,Tryz.func125,by kernel_rfl,rfl⟩
theorem z5E:CF Tryz.prog 126:=⟨_,Tryz.func126,by kernel_rfl,rfl⟩
theorem Y9:CF Tryz.prog 127:=⟨_,Tryz.func127,by kernel_rfl,rfl⟩
theorem z9N:CF Tryz.prog 128:=⟨_,Tryz.func128,by kernel_rfl,rfl⟩
theorem z92:CF Tryz.prog 129:=⟨_,Tryz.func129,by kernel_rfl,rfl⟩
theorem Zs:CF Tryz.prog 130:=⟨_,Tryz.func130,by kernel_rfl,rfl⟩
theorem zek:CF Tryz.prog 131:=⟨_,Tryz.func131,by kernel_rfl,rfl⟩
theorem zbP:CF Tryz.prog 132:=⟨_,Tryz.func132,by kernel_rfl,rfl⟩
theorem zbD:CF Tryz.prog 133:=⟨_,Tryz.func133,by kernel_rfl,rfl⟩
theorem zdU:CF Tryz.prog 134:=⟨_,Tryz.func134,by kernel_rfl,rfl⟩
theorem zcw:CF Tryz.prog 135:=⟨_,Tryz.func135,by kernel_rfl,rfl⟩
theorem zci:CF Tryz.prog 140:=⟨_,Tryz.func140,by kernel_rfl,rfl⟩
theorem zee:CF Tryz.prog 141:=⟨_,Tryz.func141,by kernel_rfl,rfl⟩
theorem zdo:CF Tryz.prog 142:=⟨_,Tryz.func142,by kernel_rfl,rfl⟩
theorem z9a:CF Tryz.prog 143:=⟨_,Tryz.func143,by kernel_rfl,rfl⟩
theorem z2H:CF Tryz.prog 144:=⟨_,Tryz.func144,by kernel_rfl,rfl⟩
theorem z5y:CF Tryz.prog 145:=⟨_,Tryz.func145,by kernel_rfl,rfl⟩
theorem z0z:CF Tryz.prog 146:=⟨_,Tryz.func146,by kernel_rfl,rfl⟩
theorem z6H:CF Tryz.prog 147:=⟨_,Tryz.func147,by kernel_rfl,rfl⟩
theorem zcT:CF Tryz.prog 148:=⟨_,Tryz.func148,by kernel_rfl,rfl⟩
theorem zdH:CF Tryz.prog 150:=⟨_,Tryz.func150,by kernel_rfl,rfl⟩
theorem zdF:CF Tryz.prog 151:=⟨_,Tryz.func151,by kernel_rfl,rfl⟩
theorem zbT:CF Tryz.prog 152:=⟨_,Tryz.func152,by kernel_rfl,rfl⟩
theorem z9m:CF Tryz.prog 153:=⟨_,Tryz.func153,by kernel_rfl,rfl⟩
theorem zel:CF Tryz.prog 154:=⟨_,Tryz.func154,by kernel_rfl,rfl⟩
theorem z97:CF Tryz.prog 156:=⟨_,Tryz.func156,by kernel_rfl,rfl⟩
theorem ZZ:CF Tryz.prog 157:=⟨_,Tryz.func157,by kernel_rfl,rfl⟩
theorem zd2:CF Tryz.prog 158:=⟨_,Tryz.func158,by kernel_rfl,rfl⟩
theorem z2E:CF Tryz.prog 159:=⟨_,Tryz.func159,by kernel_rfl,rfl⟩
theorem z9R:CF Tryz.prog 160:=⟨_,Tryz.func160,by kernel_rfl,rfl⟩
theorem zej:CF Tryz.prog 161:=⟨_,Tryz.func161,by kernel_rfl,rfl⟩
theorem zcp:CF Tryz.prog 162:=⟨_,Tryz.func162,by kernel_rfl,rfl⟩
theorem zdv:CF Tryz.prog 163:=⟨_,Tryz.func163,by kernel_rfl,rfl⟩
theorem XL:CF Tryz.prog 164:=⟨_,Tryz.func164,by kernel_rfl,rfl⟩
theorem zc2:CF Tryz.prog 165:=⟨_,Tryz.func165,by kernel_rfl,rfl⟩
theorem Ve:CF Tryz.prog 166:=⟨_,Tryz.func166,by kernel_rfl,rfl⟩
theorem ZO:CF Tryz.prog 167:=⟨_,Tryz.func167,by kernel_rfl,rfl⟩
theorem zcS:CF Tryz.prog 168:=⟨_,Tryz.func168,by kernel_rfl,rfl⟩
theorem z2V:CF Tryz.prog 169:=⟨_,Tryz.func169,by kernel_rfl,rfl⟩
theorem z9h:CF Tryz.prog 170:=⟨_,Tryz.func170,by kernel_rfl,rfl⟩
theorem zch:CF Tryz.prog 173:=⟨_,Tryz.func173,by kernel_rfl,rfl⟩
theorem z8Y:CF Tryz.prog 175:=⟨_,Tryz.func175,by kernel_rfl,rfl⟩
theorem SN:CF Tryz.prog 176:=⟨_,Tryz.func176,by kernel_rfl,rfl⟩
theorem Ou:CF Tryz.prog 177:=⟨_,Tryz.func177,by kernel_rfl,rfl⟩
theorem zbE:CF Tryz.prog 178:=⟨_,Tryz.func178,by kernel_rfl,rfl⟩
theorem ze8:CF Tryz.prog 179:=⟨_,Tryz.func179,by kernel_rfl,rfl⟩
theorem z9i:CF Tryz.prog 180:=⟨_,Tryz.func180,by kernel_rfl,rfl⟩
theorem ze6:CF Tryz.prog 181:=⟨_,Tryz.func181,by kernel_rfl,rfl⟩
theorem zdD:CF Tryz.prog 182:=⟨_,Tryz.func182,by kernel_rfl,rfl⟩
theorem z0I:CF Tryz.prog 183:=⟨_,Tryz.func183,by kernel_rfl,rfl⟩
theorem zdf:CF Tryz.prog 184:=⟨_,Tryz.func184,by kernel_rfl,rfl⟩
theorem zbW:CF Tryz.prog 185:=⟨_,Tryz.func185,by kernel_rfl,rfl⟩
theorem z9v:CF Tryz.prog 186:=⟨_,Tryz.func186,by kernel_rfl,rfl⟩
theorem OV:CF Tryz.prog 187:=⟨_,Tryz.func187,by kernel_rfl,rfl⟩
theorem Ul:CF Tryz.prog 188:=⟨_,Tryz.func188,by kernel_rfl,rfl⟩
theorem z9P:CF Tryz.prog 189:=⟨_,Tryz.func189,by kernel_rfl,rfl⟩
theorem Xf:CF Tryz.prog 190:=⟨_,Tryz.func190,by kernel_rfl,rfl⟩
theorem z5B:CF Tryz.prog 191:=⟨_,Tryz.func191,by kernel_rfl,rfl⟩
theorem zcU:CF Tryz.prog 192:=⟨_,Tryz.func192,by kernel_rfl,rfl⟩
theorem z9u:CF Tryz.prog 193:=⟨_,Tryz.func193,by kernel_rfl,rfl⟩
theorem z9o:CF Tryz.prog 194:=⟨_,Tryz.func194,by kernel_rfl,rfl⟩
theorem zeh:CF Tryz.prog 195:=⟨_,Tryz.func195,by kernel_rfl,rfl⟩
theorem z3m:CF Tryz.prog 196:=⟨_,Tryz.func196,by kernel_rfl,rfl⟩
theorem z0V:CF Tryz.prog 197:=⟨_,Tryz.func197,by kernel_rfl,rfl⟩
theorem zdu:CF Tryz.prog 198:=⟨_,Tryz.func198,by kernel_rfl,rfl⟩
theorem zbi:CF Tryz.prog 199:=⟨_,Tryz.func199,by kernel_rfl,rfl⟩
theorem zc9:CF Tryz.prog 200:=⟨_,Tryz.func200,by kernel_rfl,rfl⟩
theorem z9S:CF Tryz.prog 201:=⟨_,Tryz.func201,by kernel_rfl,rfl⟩
theorem z9f:CF Tryz.prog 202:=⟨_,Tryz.func202,by kernel_rfl,rfl⟩
theorem zcV:CF Tryz.prog 203:=⟨_,Tryz.func203,by kernel_rfl,rfl⟩
theorem zdl:CF Tryz.prog 204:=⟨_,Tryz.func204,by kernel_rfl,rfl⟩
theorem ze5:CF Tryz.prog 205:=⟨_,Tryz.func205,by kernel_rfl,rfl⟩
theorem zeb:CF Tryz.prog 206:=⟨_,Tryz.func206,by kernel_rfl,rfl⟩
theorem z9n:CF Tryz.prog 208:=⟨_,Tryz.func208,by kernel_rfl,rfl⟩
theorem zct:CF Tryz.prog 209:=⟨_,Tryz.func209,by kernel_rfl,rfl⟩
theorem zcF:CF Tryz.prog 210:=⟨_,Tryz.func210,by kernel_rfl,rfl⟩
theorem z9D:CF Tryz.prog 211:=⟨_,Tryz.func211,by kernel_rfl,rfl⟩
theorem zbu:CF Tryz.prog 212:=⟨_,Tryz.func212,by kernel_rfl,rfl⟩
theorem zbo:CF Tryz.prog 213:=⟨_,Tryz.func213,by kernel_rfl,rfl⟩
theorem z9O:CF Tryz.prog 214:=⟨_,Tryz.func214,by kernel_rfl,rfl⟩
theorem z6x:CF Tryz.prog 215:=⟨_,Tryz.func215,by kernel_rfl,rfl⟩
theorem zcO:CF Tryz.prog 216:=⟨_,Tryz.func216,by kernel_rfl,rfl⟩
theorem z2W:CF Tryz.prog 217:=⟨_,Tryz.func217,by kernel_rfl,rfl⟩
theorem zb8:CF Tryz.prog 218:=⟨_,Tryz.func218,by kernel_rfl,rfl⟩
theorem zcu:CF Tryz.prog 219:=⟨_,Tryz.func219,by kernel_rfl,rfl⟩
theorem zdm:CF Tryz.prog 220:=⟨_,Tryz.func220,by kernel_rfl,rfl⟩
theorem zcX:CF Tryz.prog 221:=⟨_,Tryz.func221,by kernel_rfl,rfl⟩
theorem z9H:CF Tryz.prog 222:=⟨_,Tryz.func222,by kernel_rfl,rfl⟩
theorem zcH:CF Tryz.prog 223:=⟨_,Tryz.func223,by kernel_rfl,rfl⟩
theorem zc5:CF Tryz.prog 224:=⟨_,Tryz.func224,by kernel_rfl,rfl⟩
theorem zdA:CF Tryz.prog 225:=⟨_,Tryz.func225,by kernel_rfl,rfl⟩
theorem zbH:CF Tryz.prog 226:=⟨_,Tryz.func226,by kernel_rfl,rfl⟩
theorem TK:CF Tryz.prog 227:=⟨_,Tryz.func227,by kernel_rfl,rfl⟩
theorem zcy:CF Tryz.prog 228:=⟨_,Tryz.func228,by kernel_rfl,rfl⟩
theorem ZX:CF Tryz.prog 229:=⟨_,Tryz.func229,by kernel_rfl,rfl⟩
theorem zem:CF Tryz.prog 230:=⟨_,Tryz.func230,by kernel_rfl,rfl⟩
theorem z9l:CF Tryz.prog 231:=⟨_,Tryz.func231,by kernel_rfl,rfl⟩
theorem zdj:CF Tryz.prog 232:=⟨_,Tryz.func232,by kernel_rfl,rfl⟩
theorem z9J:CF Tryz.prog 233:=⟨_,Tryz.func233,by kernel_rfl,rfl⟩
theorem zbQ:CF Tryz.prog 234:=⟨_,Tryz.func234,by kernel_rfl,rfl⟩
theorem zdC:CF Tryz.prog 235:=⟨_,Tryz.func235,by kernel_rfl,rfl⟩
theorem XH:CF Tryz.prog 236:=⟨_,Tryz.func236,by kernel_rfl,rfl⟩
theorem z9g:CF Tryz.prog 237:=⟨_,Tryz.func237,by kernel_rfl,rfl⟩
theorem z5x:CF Tryz.prog 238:=⟨_,Tryz.func238,by kernel_rfl,rfl⟩
theorem z9B:CF Tryz.prog 239:=⟨_,Tryz.func239,by kernel_rfl,rfl⟩
theorem zei:CF Tryz.prog 240:=⟨_,Tryz.func240,by kernel_rfl,rfl⟩
theorem zcf:CF Tryz.prog 241:=⟨_,Tryz.func241,by kernel_rfl,rfl⟩
theorem zbe:CF Tryz.prog 242:=⟨_,Tryz.func242,by kernel_rfl,rfl⟩
theorem zdJ:CF Tryz.prog 243:=⟨_,Tryz.func243,by kernel_rfl,rfl⟩
theorem zbJ:CF Tryz.prog 244:=⟨_,Tryz.func244,by kernel_rfl,rfl⟩
theorem ze3:CF Tryz.prog 245:=⟨_,Tryz.func245,by kernel_rfl,rfl⟩
theorem zdb:CF Tryz.prog 246:=⟨_,Tryz.func246,by kernel_rfl,rfl⟩
theorem RE:CF Tryz.prog 247:=⟨_,Tryz.func247,by kernel_rfl,rfl⟩
theorem zcg:CF Tryz.prog 248:=⟨_,Tryz.func248,by kernel_rfl,rfl⟩
theorem zdK:CF Tryz.prog 249:=⟨_,Tryz.func249,by kernel_rfl,rfl⟩
theorem z9c:CF Tryz.prog 251:=⟨_,Tryz.func251,by kernel_rfl,rfl⟩
theorem zda:CF Tryz.prog 252:=⟨_,Tryz.func252,by kernel_rfl,rfl⟩
theorem zcr:CF Tryz.prog 253:=⟨_,Tryz.func253,by kernel_rfl,rfl⟩
theorem zbd:CF Tryz.prog 255:=⟨_,Tryz.func255,by kernel_rfl,rfl⟩
theorem zcm:CF Tryz.prog 256:=⟨_,Tryz.func256,by kernel_rfl,rfl⟩
theorem z6i:CF Tryz.prog 257:=⟨_,Tryz.func257,by kernel_rfl,rfl⟩
theorem zde:CF Tryz.prog 278:=⟨_,Tryz.func278,by kernel_rfl,rfl⟩
theorem zbL:CF Tryz.prog 279:=⟨_,Tryz.func279,by kernel_rfl,rfl⟩
theorem ze7:CF Tryz.prog 281:=⟨_,Tryz.func281,by kernel_rfl,rfl⟩
theorem zdy:CF Tryz.prog 282:=⟨_,Tryz.func282,by kernel_rfl,rfl⟩
section
variable {D:RC}{l:List Oper}{e:Env}{w w':World}{d:Nat}{op:Op}{ty:TypeId}{pos:String}{aft:Array Edge}{g:Option (Nat×Bool)}{v:Value}
theorem qV (hy:Y D.C.P e ⟨some d,op,ty,pos,aft,g⟩ v w w')(h:RL D l ((d,v)::e) w')(ho:Pf D e g true=true:=by exact rfl)(hd:Nat.blt d D.C.n=true:=by exact rfl):RL D (⟨some d,op,ty,pos,aft,g⟩::l) e w:=QQ ho hd hy h
theorem qS (h:RL D l ((d,undef)::e) w)(ho:Pf D e g false=true:=by exact rfl)(hd:Nat.blt d D.C.n=true:=by exact rfl):RL D (⟨some d,op,ty,pos,aft,g⟩::l) e w:=zcq ho hd h
theorem Le {x:Operand}(hx:look e x=some v)(h:RL D l ((d,v)::e) w)(ho:Pf D e g true=true:=by exact rfl)(hd:Nat.blt d D.C.n=true:=by exact rfl):RL D (⟨some d,.move x,ty,pos,aft,g⟩::l) e w:=QQ ho hd (M0 hx) h
theorem Lw {x:Operand}(hx:look e x=some v)(h:RL D l ((d,v)::e) w)(ho:Pf D e g true=true:=by exact rfl)(hd:Nat.blt d D.C.n=true:=by exact rfl):RL D (⟨some d,.assign x,ty,pos,aft,g⟩::l) e w:=QQ ho hd (Ni hx) h
theorem Mb {x y:Operand}{t t':TypeId}{a b:Int}(hx:look e x=some (I a))(hy:look e y=some (I b))(h:RL D l ((d,I (a+b))::e) w)(hb: -9223372036854775808<=a+b/\a+b<=9223372036854775807:=by omega)(ho:Pf D e g true=true:=by exact rfl)(hd:Nat.blt d D.C.n=true:=by exact rfl):RL D (⟨some d,.binOp .add t x y t',ty,pos,aft,g⟩::l) e w:=QQ ho hd (Qu hx hy hb) h
theorem LD {f:FuncId}{vs:List Value}{S:Value->World->Prop}{ts:Array TypeId}{args:List Operand}(hf:CF D.C.P f)(ha:looks e args=some vs)(hc:LP D.C.P f vs w S)(h:∀v w',S v w'->RL D l ((d,v)::e) w')(ho:Pf D e g true=true:=by exact rfl)(hd:Nat.blt d D.C.n=true:=by exact rfl):RL D (⟨some d,.call ⟨.value (.func f),args.toArray,ts⟩,ty,pos,aft,g⟩::l) e w:=MK ho hd (yc hf ha) hc h
theorem Ns {p:Prop}[hp:Decidable p](hr:RL D l ((d,.bool true)::e) w)(h:p:=by first|rfl|assumption|omega|decide):RL D l ((d,.bool (decide p))::e) w:=zdT h hr
theorem M5 {p:Prop}[hp:Decidable p](hr:RL D l ((d,.bool false)::e) w)(h:¬p:=by first|exact λh=>h O|assumption|omega):RL D l ((d,.bool (decide p))::e) w:=zad h hr
theorem Mw {x y:Operand}{t t':TypeId}{k:IntKind}{a b:Int}(hx:look e x=some (.int k a))(hy:look e y=some (.int k b))(h:RL D l ((d,.bool (decide (a<b)))::e) w)(ho:Pf D e g true=true:=by exact rfl)(hd:Nat.blt d D.C.n=true:=by exact rfl):RL D (⟨some d,.binOp .lss t x y t',ty,pos,aft,g⟩::l) e w:=QQ ho hd (Wr hx hy) h
theorem zle {x y:Operand}{t t':TypeId}{k:IntKind}{a b:Int}(hx:look e x=some (.int k a))(hy:look e y=some (.int k b))(h:RL D l ((d,.bool (decide (a<=b)))::e) w)(ho:Pf D e g true=true:=by exact rfl)(hd:Nat.blt d D.C.n=true:=by exact rfl):RL D (⟨some d,.binOp .leq t x y t',ty,pos,aft,g⟩::l) e w:=QQ ho hd (Up hx hy) h
theorem MH {x y:Operand}{t t':TypeId}{k:IntKind}{a b:Int}(hx:look e x=some (.int k a))(hy:look e y=some (.int k b))(h:RL D l ((d,.bool (decide (b<a)))::e) w)(ho:Pf D e g true=true:=by exact rfl)(hd:Nat.blt d D.C.n=true:=by exact rfl):RL D (⟨some d,.binOp .gtr t x y t',ty,pos,aft,g⟩::l) e w:=QQ ho hd (TN hx hy) h
theorem Pa {x y:Operand}{t t':TypeId}{k:IntKind}{a b:Int}(hx:look e x=some (.int k a))(hy:look e y=some (.int k b))(h:RL D l ((d,.bool (decide (b<=a)))::e) w)(ho:Pf D e g true=true:=by exact rfl)(hd:Nat.blt d D.C.n=true:=by exact rfl):RL D (⟨some d,.binOp .geq t x y t',ty,pos,aft,g⟩::l) e w:=QQ ho hd (yge hx hy) h
theorem Nb {x y:Operand}{t t':TypeId}{k:IntKind}{a b:Int}(hx:look e x=some (.int k a))(hy:look e y=some (.int k b))(h:RL D l ((d,.bool (decide (a=b)))::e) w)(ho:Pf D e g true=true:=by exact rfl)(hd:Nat.blt d D.C.n=true:=by exact rfl):RL D (⟨some d,.binOp .eql t x y t',ty,pos,aft,g⟩::l) e w:=QQ ho hd (Xu hx hy) h
theorem Mu {x y:Operand}{t t':TypeId}{k:IntKind}{a b:Int}(hx:look e x=some (.int k a))(hy:look e y=some (.int k b))(h:RL D l ((d,.bool (decide (a≠b)))::e) w)(ho:Pf D e g true=true:=by exact rfl)(hd:Nat.blt d D.C.n=true:=by exact rfl):RL D (⟨some d,.binOp .neq t x y t',ty,pos,aft,g⟩::l) e w:=QQ ho hd (yne hx hy) h
theorem MU {c x y:Operand}(hc:look e c=some (.bool true))(hx:look e x=some v)(h:RL D l ((d,v)::e) w)(ho:Pf D e g true=true:=by exact rfl)(hd:Nat.blt d D.C.n=true:=by exact rfl):RL D (⟨some d,.pick c x y,ty,pos,aft,g⟩::l) e w:=QQ ho hd (Qy hc hx) h
theorem M8 {c x y:Operand}(hc:look e c=some (.bool false))(hy:look e y=some v)(h:RL D l ((d,v)::e) w)(ho:Pf D e g true=true:=by exact rfl)(hd:Nat.blt d D.C.n=true:=by exact rfl):RL D (⟨some d,.pick c x y,ty,pos,aft,g⟩::l) e w:=QQ ho hd (Qt hc hy) h
theorem Mp {x:Operand}{vs:Array Value}{i:Nat}(hx:look e x=some (.tuple vs))(hv:vs[i]? =some v)(h:RL D l ((d,v)::e) w)(ho:Pf D e g true=true:=by exact rfl)(hd:Nat.blt d D.C.n=true:=by exact rfl):RL D (⟨some d,.extract x i,ty,pos,aft,g⟩::l) e w:=QQ ho hd (Nq hx hv) h
theorem Lt {t:TypeId}{i off n b m:Nat}{agg:Bool}{x:Operand}(hf:Mt D.C.P t i off (n+1) agg)(hx:look e x=some (ptr b m))(h:RL D l ((d,ptr b (m+off))::e) w)(ho:Pf D e g true=true:=by exact rfl)(hd:Nat.blt d D.C.n=true:=by exact rfl):RL D (⟨some d,.fieldAddr t x i,ty,pos,aft,g⟩::l) e w:=QQ ho hd (LV hf hx) h
theorem Nd {t el:TypeId}{x:Operand}{a:Option Addr}{len cap:Nat}(ht:D.C.P.underlying t=some (.slice el))(hx:look e x=some (.slice a len cap))(h:RL D l ((d,I (len:Int))::e) w)(ho:Pf D e g true=true:=by exact rfl)(hd:Nat.blt d D.C.n=true:=by exact rfl):RL D (⟨some d,.call ⟨.builtin .len,#[x],#[t]⟩,ty,pos,aft,g⟩::l) e w:=QQ ho hd (Ol ht hx) h
theorem Np {x y:Operand}{t t':TypeId}{a b:Int}(hx:look e x=some (I a))(hy:look e y=some (I b))(h:RL D l ((d,I (a-b))::e) w)(hb: -9223372036854775808<=a-b/\a-b<=9223372036854775807:=by omega)(ho:Pf D e g true=true:=by exact rfl)(hd:Nat.blt d D.C.n=true:=by exact rfl):RL D (⟨some d,.binOp .sub t x y t',ty,pos,aft,g⟩::l) e w:=QQ ho hd (SR hx hy hb) h
theorem Lk {D:RC}{x:Operand}(hx:look e x=some v)(h:LS D.C D.k ((d,v)::e) w)(ho:Pf D e g true=true:=by exact rfl)(hd:Nat.blt d D.C.n=true:=by exact rfl):RL D [⟨some d,.assign x,ty,pos,aft,g⟩] e w:=QQ ho hd (Ni hx) (Lf h)
theorem Lu {x y:Operand}{d':Nat}{v':Value}{ty':TypeId}{pos':String}{aft':Array Edge}{g':Option (Nat×Bool)}(hx:look e x=some v)(hy:look ((d,v)::e) y=some v')(h:RL D l ((d',v')::(d,v)::e) w)(ho:Pf D e g true=true:=by exact rfl)(hd:Nat.blt d D.C.n=true:=by exact rfl)(ho':Pf D ((d,v)::e) g' true=true:=by exact rfl)(hd':Nat.blt d' D.C.n=true:=by exact rfl):RL D (⟨some d,.move x,ty,pos,aft,g⟩::⟨some d',.move y,ty',pos',aft',g'⟩::l) e w:=QQ ho hd (M0 hx) (QQ ho' hd' (M0 hy) h)
def z0Z:Value->Bool
  | .pointer (some _)=>true
  | .func (.func _) _ _=>true
  |_=>false
theorem Mo {P:Program}{d:Option Nat}{x:Operand}(hx:look e x=some v)(hv:z0Z v=true:=by exact rfl):Y P e ⟨d,.nilCheck x,ty,pos,aft,g⟩ v w w:=by
  unfold z0Z at hv
  split at hv
  · exact ync hx
  · exact zfx hx
  · cases hv
theorem LU {x:Operand}(hx:look e x=some v)(h:RL D l ((d,v)::e) w)(hv:z0Z v=true:=by exact rfl)(ho:Pf D e g true=true:=by exact rfl)(hd:Nat.blt d D.C.n=true:=by exact rfl):RL D (⟨some d,.nilCheck x,ty,pos,aft,g⟩::l) e w:=QQ ho hd (Mo hx hv) h
end
section
variable {C:Cx}{k:List Item}{e e':Env}{w:World}{id:Nat}{ops:List Oper}{y:Code}
theorem qN {x:Code}(ho:Rb C.n ops=true)(h:RL ⟨C,ops,.code x::k,ho⟩ ops e w):LS C (.code (.seq (.region id ops.toArray false) x)::k) e w:=run_seq (Li ho h)
theorem Nj {α:Type}{c:Code}(x0:α)(E:α->Env)(I:α->World->Prop)(μ:α->Nat)(hI:I x0 w)(round:∀x w,I x w->(∀y w',I y w'->μ y<μ x->LS C (.inLoop c::k) (E y) w')->LS C (.code c:: .inLoop c::k) (E x) w)(hE:Sub (E x0) e:=by repeat (first|exact Sub.nil|refine Sub.cons O ?_)):LS C (.code (.loop c)::k) e w:=z7i x0 E I μ hE hI round
theorem LS.qb (h:LS C k e w)(hs:Sub e e':=by repeat (first|exact Sub.nil|refine Sub.cons O ?_)):LS C k e' w:=h.sub hs
end
section
variable {D:RC}{k:List Item}{e:Env}{w:World}{id:Nat}{ops:List Oper}{x:Code}
theorem qM {C:Cx}{ops0:List Oper}{h0:Rb C.n ops0=true}(ho:Rb C.n ops=true)(h:RL ⟨C,ops,.code x::k,ho⟩ ops e w):RL ⟨C,ops0,.code (.seq (.region id ops.toArray false) x)::k,h0⟩ [] e w:=Lf (run_seq (Li ho h))
end
section
variable {D:RC}{late:List Nat}{S:World->Prop}{e:Env}{w w':World}{d fuel:Nat}{op:Op}{ty:TypeId}{pos:String}{aft:Array Edge}{g:Option (Nat×Bool)}{listed:Array Bool}{v:Value}
theorem qT (i:Nat)(hi:D.ops[i]? =some ⟨some d,op,ty,pos,aft,g⟩)(hy:∀w,S w->Y D.C.P e ⟨some d,op,ty,pos,aft,g⟩ v w w)(hS:S w)(h:RH D S fuel (listed.setIfInBounds i true) ((d,v)::e) w)
    (hf:OU D.ops listed i=true:=by kernel_rfl) (ho:Pf D e g true=true:=by exact rfl) (hd:Nat.blt d D.C.n=true:=by exact rfl):RH D S (fuel+1) listed e w:=z6A hi hf ho hd hy hS h
theorem Ll (i:Nat)(hi:D.ops[i]? =some ⟨some d,op,ty,pos,aft,g⟩)(hy:∀{w},Y D.C.P e ⟨some d,op,ty,pos,aft,g⟩ v w w)(hS:S w)(h:RH D S fuel (listed.setIfInBounds i true) ((d,v)::e) w)
    (hf:OU D.ops listed i=true:=by kernel_rfl) (ho:Pf D e g true=true:=by exact rfl) (hd:Nat.blt d D.C.n=true:=by exact rfl):RH D S (fuel+1) listed e w:=z6A hi hf ho hd (λ_ _=>hy) hS h
theorem Pu {p:Prop}[hp:Decidable p](hr:RH D S fuel listed ((d,.bool true)::e) w)(h:p:=by first|rfl|assumption|omega|decide):RH D S fuel listed ((d,.bool (decide p))::e) w:=zbx h hr
theorem PU {p:Prop}[hp:Decidable p](hr:RH D S fuel listed ((d,.bool false)::e) w)(h:¬p:=by first|exact λh=>h O|assumption|omega):RH D S fuel listed ((d,.bool (decide p))::e) w:=za6 h hr
theorem OY {late:List Nat}(rs:List Nat)(h:RH D (λ_=>True) fuel listed e w)(hr:NB D.ops listed rs=true:=by kernel_rfl)(hl:z9Q rs late=true:=by kernel_rfl):RHL D late S fuel listed e w:=zef rs hr hl h
theorem LA {x:Operand}(i:Nat)(hi:D.ops[i]? =some ⟨some d,.move x,ty,pos,aft,g⟩)(hx:look e x=some v)(hS:S w)(h:RH D S fuel (listed.setIfInBounds i true) ((d,v)::e) w)
    (hf:OU D.ops listed i=true:=by kernel_rfl) (ho:Pf D e g true=true:=by exact rfl) (hd:Nat.blt d D.C.n=true:=by exact rfl):RH D S (fuel+1) listed e w:=z6A hi hf ho hd (λ_ _=>M0 hx) hS h
theorem qJ (i:Nat)(hi:D.ops[i]? =some ⟨some d,op,ty,pos,aft,g⟩)(hS:S w)(h:RH D S fuel (listed.setIfInBounds i true) ((d,undef)::e) w)
    (hf:OU D.ops listed i=true:=by kernel_rfl) (ho:Pf D e g false=true:=by exact rfl) (hd:Nat.blt d D.C.n=true:=by exact rfl):RH D S (fuel+1) listed e w:=zcc hi hf ho hd hS h
theorem qO (i:Nat)(h:Nx D S fuel listed e w i)(hr:NB D.ops listed [i]=true:=by kernel_rfl):RH D S (fuel+1) listed e w:=zcz hr h
theorem OA {f:FuncId}{vs:List Value}{T:Value->World->Prop}{ts:Array TypeId}{args:List Operand}(i:Nat)(hi:D.ops[i]? =some ⟨some d,.call ⟨.value (.func f),args.toArray,ts⟩,ty,pos,aft,g⟩)(hf:CF D.C.P f)(ha:looks e args=some vs)(hc:LP D.C.P f vs w T)(h:∀v w',T v w'->S w'/\RH D S fuel (listed.setIfInBounds i true) ((d,v)::e) w')
    (hr:NB D.ops listed [i]=true:=by kernel_rfl) (ho:Pf D e g true=true:=by exact rfl) (hd:Nat.blt d D.C.n=true:=by exact rfl):RH D S (fuel+1) listed e w:=zcz hr (RT hi ho hd (yc hf ha) hc h)
theorem qE (h:LS D.C D.k e w)(hr:NB D.ops listed []=true:=by kernel_rfl):RH D S fuel listed e w:=zfc hr h
theorem qL (dn:List Nat)(i:Nat)(hi:D.ops[i]? =some ⟨some d,op,ty,pos,aft,g⟩)(hy:∀w,S w->Y D.C.P e ⟨some d,op,ty,pos,aft,g⟩ v w w)(hS:S w)(h:RHL D late S fuel (listed.setIfInBounds i true) ((d,v)::e) w)
    (hf:(OU D.ops listed i&&waits D.ops listed late dn i)=true:=by kernel_rfl) (ho:Pf D e g true=true:=by exact rfl) (hd:Nat.blt d D.C.n=true:=by exact rfl):RHL D late S (fuel+1) listed e w:=zaC dn hi hf ho hd hy hS h
end
theorem N7 {C:Cx}{id:Nat}{ops:List Oper}{k:List Item}{e:Env}{w:World}(S:World->Prop)(ho:Rb C.n ops=true)(h:RH ⟨C,ops,k,ho⟩ S ops.length (Array.replicate ops.length false) e w.drew)(hm:C.P.follows .mixedOrders=true:=by kernel_rfl)(hc:calm ops=true:=by rfl):LS C (.code (.region id ops.toArray true)::k) e w:=ZD S hm ho h hc
theorem ML {α:Type}{a b:α}(h:some a=some b):a=b:=Option.some.inj h
def U2:=Tryz.underlying2
def U3:=Tryz.underlying3
def U4:=Tryz.underlying4
def U5:=Tryz.underlying5
def U9:=Tryz.underlying9
def XN:=Tryz.underlying22
def U24:=Tryz.underlying24
def Qq:=Tryz.underlying25
def U27:=Tryz.underlying27
def SJ:=Tryz.underlying28
def Zl:=Tryz.underlying29
def U31:=Tryz.underlying31
def VP:=Tryz.underlying34
def U35:=Tryz.underlying35
def N3:=Tryz.underlying40
def MP:=Tryz.underlying41
def LI:=Tryz.underlying45
def Mx:=Tryz.underlying46
def Xj:=Tryz.underlying48
def U58:=Tryz.underlying58
def U80:=Tryz.underlying80
def Wq:=Tryz.underlying88
def U90:=Tryz.underlying90
def z3Z:=Tryz.underlying100
def RF:=Tryz.underlying101
def S2:=Tryz.underlying108
def zeM:=Tryz.underlying113
def ZJ:=Tryz.underlying116
def zew:=Tryz.underlying118
def WW:=Tryz.underlying121
def Pm:=Tryz.underlying124
def S6:=Tryz.underlying133
def z7R:=Tryz.underlying136
def z7V:=Tryz.underlying141
def z4w:=Tryz.underlying143
def z2q:=Tryz.underlying149
def z0t:=Tryz.underlying151
def Ui:=Tryz.underlying152
def ZS:=Tryz.underlying157
def Pn:=Tryz.underlying158
def Mz:=Tryz.underlying171
def z6L:=Tryz.underlying172
def z5H:=Tryz.underlying174
def SH:=Tryz.underlying187
def UZ:=Tryz.underlying192
def z6C:=Tryz.underlying198
def Ut:=Tryz.underlying212
def zcn:=Tryz.underlying215
def zfI:=Tryz.underlying224
def NG:=Tryz.underlying225
def YY:=Tryz.underlying231
def zeI:=Tryz.underlying233
def za7:=Tryz.underlying234
def z0P:=Tryz.underlying238
def zaw:=Tryz.underlying240
def zeA:=Tryz.underlying251
def O9:=Tryz.underlying260
def Oj:=Tryz.underlying265
def z7Y:=Tryz.underlying269
def QP:=Tryz.underlying274
def zdS:=Tryz.underlying275
def zet:=Tryz.underlying300
def zaP:=Tryz.underlying301
def VE:=Tryz.underlying320
def zb7:=Tryz.underlying323
def ze9:=Tryz.underlying334
def z6g:=Tryz.underlying346
def zeK:=Tryz.underlying350
def z7s:=Tryz.underlying353
def Xa:=Tryz.underlying354
def Yx:=Tryz.underlying373
def Qz (w:World)(g:Nat)(cs:List Value)(T:TypeId):Prop:=w.heap[g]? =some (.cells cs.toArray T (0,0))
theorem Qz.Lg {w:World}{g:Nat}{cs:List Value}{T:TypeId}(h:Qz w g cs T):Lq w g cs T:=⟨(0,0),h,λi _ h=>by omega⟩
theorem Qz.set {w:World}{g:Nat}{cs:List Value}{T:TypeId}(h:Qz w g cs T)(i:Nat)(v:Value):Qz (w.setCell ⟨g,i,none⟩ v) g (cs.set i v) T:=by
 unfold Qz at h⊢
 simp[World.setCell,Array.getElem?_modify,h]
theorem Qz.ext {w w':World}{g:Nat}{cs:List Value}{T:TypeId}(h:Qz w g cs T)(k:Ext w w'):Qz w' g cs T:=k.heap h id
theorem Sl.row {w:World}{g n cap:Nat}{e:TypeId}{size:Nat}{cs:List Value}(h:Sl w (.slice (some ⟨g,0,none⟩) n cap) e size n cs):∃cur,Qz w g cur e/\n<=cap/\cap<=maxLen/\cur.length=cap*size/\cur.take (n*size)=cs:=by
 rcases h.2 with⟨hz,-⟩|⟨g1,cap1,cur,hv,-,hg,hn,hm,hs,ht⟩
 ·cases hz
 ·cases hv;exact⟨cur.toList,by unfold Qz;simpa using hg,hn,hm,by simpa using hs,ht⟩
theorem Qz.sl {w:World}{g n cap:Nat}{e:TypeId}{size:Nat}{cur:List Value}(h:Qz w g cur e)(hn:n<=cap)(hm:cap<=maxLen)(hs:cur.length=cap*size):Sl w (.slice (some ⟨g,0,none⟩) n cap) e size n (cur.take (n*size)):=
 ⟨by rw[List.length_take,hs];exact Nat.min_eq_left (Nat.mul_le_mul_right _ hn),.inr ⟨g,cap,cur.toArray,rfl,Nat.zero_le _,h,hn,hm,by simpa using hs,by simp⟩⟩
theorem Qz.cell {w:World}{g i:Nat}{cur:List Value}{e:TypeId}(h:Qz w g cur e):w.cell? ⟨g,i,none⟩=cur[i]? :=h.Lg.cell i
theorem Qz.rd {w:World}{g i n c:Nat}{e:TypeId}{cur:List Value}(h:Qz w g cur e)(hl:i+n<=cur.length):Rd w (.slice (some ⟨g,i,none⟩) n c) 1 n ((cur.drop i).take n):=by
 refine⟨by simp;omega,.inr ⟨g,i,c,rfl,λj u hj=>?_⟩⟩
 rw[h.cell]
 rw[List.getElem?_take] at hj
 split at hj
 ·rwa [List.getElem?_drop] at hj
 ·cases hj
theorem QX {w:World}{a:Option Addr}{c:Nat}:Rd w (.slice a 0 c) 1 0 []:=⟨rfl,.inl ⟨(a,c),rfl,rfl⟩⟩
theorem Rd.kpz {S:Nat->Prop}{w w':World}{v:Value}{size n:Nat}{cs:List Value}(h:Rd w v size n cs)(k:Kp S w w')(hn:0<n->∀g,v.ownBlock=some g->¬S g):Rd w' v size n cs:=by
 rcases Nat.eq_zero_or_pos n with h0|h0
 ·subst h0;refine⟨h.1,?_⟩;have hl:cs=[]:=List.eq_nil_of_length_eq_zero (by have:=h.1;omega);rcases h.2 with h2|⟨b,off,cap,e,-⟩
  ·exact .inl h2
  ·exact .inr ⟨b,off,cap,e,λj u hj=>by rw[hl] at hj;simp at hj⟩
 ·exact h.kp k (hn h0)
theorem Rd.ltz {w:World}{v:Value}{size n g:Nat}{cs:List Value}(h:Rd w v size n cs)(hs:0<size)(hn:0<n)(hg:v.ownBlock=some g):g<w.heap.size:=by
 rcases h.2 with⟨c,-,h2⟩|⟨b,off,cap,e,hc⟩
 ·omega
 ·rw[e] at hg;have e2:b=g:=ML hg;subst e2;have hl:0<cs.length:=by rw[h.1];exact Nat.mul_pos hn hs
  exact World.block_lt_of_cell? w _ (hc 0 cs[0] (List.getElem?_eq_getElem hl))
theorem z1I (cs:List Value)(i:Nat):MN cs i []=cs:=by simp[MN]
theorem Xr (cs vs:List Value)(i:Nat)(h:i+vs.length<=cs.length):(MN cs i vs).length=cs.length:=by simp[MN];omega
theorem We (cs vs:List Value)(i j:Nat)(h:i+vs.length<=cs.length):(MN cs i vs)[j]? =if i<=j/\j<i+vs.length then vs[j-i]? else cs[j]? :=by
 unfold MN
 rw[List.append_assoc]
 by_cases h1:j<i
 ·rw[List.getElem?_append_left (by simp;omega),List.getElem?_take,if_pos h1,if_neg (by omega)]
 ·rw[List.getElem?_append_right (by simp;omega)];have e:(cs.take i).length=i:=by simp;omega
  rw[e];by_cases h2:j<i+vs.length
  ·rw[List.getElem?_append_left (by omega),if_pos ⟨by omega,h2⟩]
  ·rw[List.getElem?_append_right (by omega),List.getElem?_drop,if_neg (by omega)]
   congr 1;omega
theorem Qn {P:Program}{b:Nat}{T:TypeId}(o:Nat):∀(vs:List Value) (i:Nat) (cs:List Value) (w:World),Qz w b cs T->o+i+vs.length<=cs.length->(∀v∈vs,v.oneCell'=true)->
  ∃w',(storeCells ⟨b,o,none⟩ vs i).run P w= .ok () w'/\Qz w' b (MN cs (o+i) vs) T/\Kp (λk=>k=b) w w'
 |[],i,cs,w,hB,_,_=>⟨w,rfl,by simpa[MN] using hB,Kp.refl _ _⟩
 | v :: r, i, cs, w, hB, hl, h1 => by
   simp only[List.length_cons] at hl;have aV:o+i<cs.length:=by omega
   have hc:w.cell? ⟨b,o+i,none⟩=some cs[o+i]:=by rw[hB.cell];simp[aV]
   have hf:=hB.Lg.free aV;obtain⟨w',hr,zY,hk⟩:=Qn (P:=P) o r (i+1) (cs.set (o+i) v) _ (hB.set (o+i) v) (by simp;omega) (λu hu=>h1 u (List.mem_cons_of_mem _ hu));refine⟨w',?_,?_,(Pr w b (o+i) v).trans hk⟩
   ·simp only[storeCells,Sem.run_bind,Ng,run_store P w _ v _ (h1 v (List.mem_cons_self ..)),hc,hf]
    simpa using hr
   ·have he:MN (cs.set (o+i) v) (o+(i+1)) r=MN cs (o+i) (v::r):=by
     apply List.ext_getElem?;intro j;rw[We _ _ _ _ (by simp;omega),We _ _ _ _ (by simp;omega)];simp only[List.length_cons];by_cases h2:o+i=j
     ·subst h2;rw[if_neg (by omega),if_pos (by omega)];simp[aV]
     ·by_cases h3:o+i<j/\j<o+i+1+r.length
      ·rw[if_pos (by omega),if_pos (by omega),show j-(o+i)=(j-(o+(i+1)))+1 by omega];simp
      ·rw[if_neg (by omega),if_neg (by omega),List.getElem?_set_ne h2]
    rw[<-he];exact zY
section
variable {P:Program}{e:Env}{d:Option Nat}{ty t t' kt el:TypeId}{pos:String}{aft:Array Edge}{g:Option (Nat×Bool)}{x y u u2:Operand}{w:World}
theorem T7 {z:Value}{size bytes n cap i:Nat}{a:Option Addr}{k:IntKind}{za:Int}[qX:OQ za i](ht:P.underlying t=some (.slice el))(hs:TI P el z size bytes)(hx:look e x=some (.slice a n cap))
  (hy:look e y=some (.int k za)) (h:i<=n) (hc:n<=cap):
  Y P e ⟨d,.slice t x (some y) none none,ty,pos,aft,g⟩ (.slice (if cap=i then a else a.map (·.add (i*size))) (n-i) (cap-i)) w w:=fun ρ hρ=>by
 obtain⟨rfl⟩:=qX
 have cF:=hs.size (w:=w)
 have h2:∀w,(Instr.sliceBound (.int k (i:Int)) n .sliceB).run P w= .ok i w:=λw=>by rw[run_sliceBound _ _ _ _ _ (by omega) (by omega)];simp
 simp[execOp,hρ _ _ hx,hρ _ _ hy,Instr.sliceAt,run_underlying ht,Instr.slice,Instr.sliceBounds,h2,cF]
theorem zfL {z:Value}{size bytes n cap i j m:Nat}{a:Option Addr}{k k' k2:IntKind}{za zb zc:Int}[qX:OQ za i][um:OQ zb j][bu:OQ zc m](ht:P.underlying t=some (.slice el))(hs:TI P el z size bytes)(hx:look e x=some (.slice a n cap))
  (hy:look e y=some (.int k za)) (hu:look e u=some (.int k' zb)) (m4:look e u2=some (.int k2 zc)) (h:i<=j/\j<=m/\m<=cap):
  Y P e ⟨d,.slice t x (some y) (some u) (some u2),ty,pos,aft,g⟩ (.slice (if m=i then a else a.map (·.add (i*size))) (j-i) (m-i)) w w:=fun ρ hρ=>by
 obtain⟨rfl⟩:=qX
 obtain⟨rfl⟩:=um
 obtain⟨rfl⟩:=bu
 have cF:=hs.size (w:=w)
 have h0:∀w,(Instr.sliceBound (.int k2 (m:Int)) cap .slice3Acap).run P w= .ok m w:=λw=>by rw[run_sliceBound _ _ _ _ _ (by omega) (by omega)];simp
 have h1:∀w,(Instr.sliceBound (.int k' (j:Int)) m .slice3B).run P w= .ok j w:=λw=>by rw[run_sliceBound _ _ _ _ _ (by omega) (by omega)];simp
 have h2:∀w,(Instr.sliceBound (.int k (i:Int)) j .slice3C).run P w= .ok i w:=λw=>by rw[run_sliceBound _ _ _ _ _ (by omega) (by omega)];simp
 simp[execOp,hρ _ _ hx,hρ _ _ hy,hρ _ _ hu,hρ _ _ m4,Instr.sliceAt,run_underlying ht,Instr.slice,Instr.sliceBounds,h0,h1,h2,cF]
theorem SW (z:Value)(n:Nat)(h:oneV z=true):(Builtin.zeroCells z.cells n).toList=List.replicate n z:=by
 rw[Rs h]
 apply List.ext_getElem
 ·simp[Builtin.zeroCells]
 ·intro i h1 h2;simp[Builtin.zeroCells,Nat.mod_one]
theorem zfe {z:Value}{bytes b i n cap:Nat}{T:TypeId}{cs:List Value}(ht:P.underlying t=some (.slice el))(hs:TI P el z 1 bytes)(hz:oneV z=true)(hx:look e x=some (.slice (some ⟨b,i,none⟩) n cap))
  (hB:Qz w b cs T) (hi:i+n<=cs.length):
  Yp P e ⟨d,.call ⟨.builtin .clear,#[x],#[t]⟩,ty,pos,aft,g⟩ w λv w'=>Qz w' b (MN cs i (List.replicate n z)) T/\Kp (λk=>k=b) w w':=by
 obtain⟨w',hr,zY,hk⟩:=Qn (P:=P) i (List.replicate n z) 0 cs w hB (by simp;omega) (λu hu=>by rw[(List.mem_replicate.1 hu).2];exact Tv hz)
 rcases Nat.eq_zero_or_pos n with h0|h0
 ·subst h0;refine⟨.tuple #[],w,fun ρ hρ=>?_,by simpa[z1I] using hB,Kp.refl _ _⟩;simp[execOp,resolve,invoke,builtin,hρ _ _ hx,Builtin.clear_,run_underlying ht,go_sem]
 ·refine⟨.tuple #[],w',fun ρ hρ=>?_,by simpa using zY,hk⟩;have Gh:=hs.zero (w:=w);obtain⟨k,rfl⟩:∃k,n=k+1:=⟨n-1,by omega⟩
  have hc:(Builtin.clear_ #[t] ty #[.slice (some ⟨b,i,none⟩) (k+1) cap]).run P w= .ok (.tuple #[]) w':=by
   unfold Builtin.clear_;simp only[List.getElem?_toArray,List.getElem?_cons_zero,pure_bind,Sem.run_bind,run_underlying ht,Result.andThen,Gh,SW z _ hz,hr,Sem.run_pure]
  simp[execOp,resolve,invoke,builtin,hρ _ _ hx,hc]
theorem zfb {z u:Value}{size bytes gb n cap m:Nat}{cs news:List Value}(ht:P.underlying t=some (.slice el))(hs:TI P el z size bytes)(cF:0<size)
  (hx:look e x=some (.slice (some ⟨gb,0,none⟩) n cap)) (hy:look e y=some u) (hv:Sl w (.slice (some ⟨gb,0,none⟩) n cap) el size n cs) (hu:Rd w u size m news) (h1:∀c∈news,c.oneCell'=true) (hr:n+m<=cap):
  Yp P e ⟨d,.call ⟨.builtin .append,#[x,y],#[t,t]⟩,ty,pos,aft,g⟩ w λv' w'=>v'= .slice (some ⟨gb,0,none⟩) (n+m) cap/\Sl w' v' el size (n+m) (cs++news)/\Kp (λk=>k=gb) w w':=by
 obtain⟨i,hi,oA,jp,qd⟩:=hs
 subst jp
 rcases hu.2 with⟨⟨ca,c⟩,rfl,rfl⟩|⟨b,off,cap2,rfl,qY⟩
 ·have eP:news=[]:=List.eq_nil_of_length_eq_zero (by simpa using hu.1);subst eP
  have hr:(Builtin.append_ #[t,t] ty #[.slice (some ⟨gb,0,none⟩) n cap,.slice ca 0 c]).run P w= .ok (.slice (some ⟨gb,0,none⟩) n cap) w:=by
   have j8:n<=cap:=by omega
   cases ca
   ·simp[Builtin.append_,run_underlying ht,sizeOf,typeInfo,hi,Builtin.lenOf,Builtin.firstCells,j8,storeCells]
   ·simp[Builtin.append_,run_underlying ht,sizeOf,typeInfo,hi,Builtin.lenOf,Builtin.firstCells,j8,storeCells,loadCells,loadCellsFrom]
  refine⟨_,w,fun ρ hρ=>?_,rfl,by simpa using hv,Kp.refl _ _⟩;simp[execOp,resolve,invoke,builtin,hρ _ _ hx,hρ _ _ hy,hr]
 ·have uo:∀j u,news[j]? =some u->w.cell? ((⟨b,off,none⟩:Addr).add j)=some u:=λj u hu=>by rw[Ng];exact qY j u hu
  obtain⟨w',Gi,yH,cN⟩:=run_append_fits (P:=P) w 0 t ty el i i.size ht hi O gb n cap cs hv ⟨b,off,none⟩ m cap2 news hu.1 uo h1 hr;refine⟨_,w',fun ρ hρ=>?_,rfl,yH,(Kp.Ql cN).Lv λk hk=>(ML hk).symm⟩;simp[execOp,resolve,invoke,builtin,hρ _ _ hx,hρ _ _ hy,Gi]
end
abbrev Bytes:=List UInt8
abbrev lt (a b:Bytes):Bool:=Op.bytesLess a b
section
variable {P:Program}{e:Env}{d:Option Nat}{ty t t':TypeId}{pos:String}{aft:Array Edge}{g:Option (Nat×Bool)}{x y:Operand}{w:World}{l l':Bytes}
end
def pos (l:List Bytes)(t:Bytes):Nat:=(l.takeWhile (λk=>lt k t)).length
theorem WV (cs vs:List Value)(i m:Nat)(h:m<=i)(hl:i<=cs.length):(MN cs i vs).take m=cs.take m:=by
 unfold MN
 rw[List.append_assoc,List.take_append_of_le_length (by simp;omega),List.take_take,Nat.min_eq_left h]
theorem z5C {w:World}{sv:Value}{cs:List Value}{i n:Nat}(hS:Sl w sv 3 1 n cs)(fB:∀c∈cs,c.oneCell'=true)(hi:i<n)(hn:n<=8589934592):
  LP Tryz.prog 209 [sv,I (i:Int),I ((i:Int)+1)] w λv w'=>Sl w' v 3 1 (n-1) (cs.take i++cs.drop (i+1))/\Kp (λk=>sv.ownBlock=some k) w w'/\(∀g,v.ownBlock=some g->sv.ownBlock=some g):=by
 have ev:maxLen=9223372036854775807:=rfl
 have aD:=hS.len
 rw[Nat.mul_one] at aD
 obtain⟨g,cap,rfl,j8⟩:∃g cap,sv= .slice (some ⟨g,0,none⟩) n cap/\n<=cap:=by
  rcases hS.shape with⟨e,h0⟩|⟨g,cap,e,h⟩
  ·omega
  ·exact⟨g,cap,e,h⟩
 obtain⟨cur,jq,-,mj,dt,zZ⟩:=hS.row
 rw[Nat.mul_one] at dt zZ
 rw[show(i:Int)+1=((i+1:Nat):Int) by omega]
 refine Lb (e:=[(0,_),(1,_),(2,_)]) Tryz.func209 O Tryz.ntmps209 O O$ qN O$ Lw O$ qM O$ Lu O O$ Lu O O$ Nd N3 O$ qV (zfL N3 Md O O O O ⟨by omega,by omega,j8⟩) ?_
 refine Lf$ run_seq$ qN O$ Lu O O$ Nb O O$ M5$ Lf$ An O$ py$ qN O$ Le O$ Nd N3 O$ Lk O$ run_seq ?_
 refine N7 (λw'=>Kp (λk=>k=g) w w') O ?_
 have h0:=Ext.LC w
 refine LA 0 O O ((Ext.LC w).kp)$ LA 1 O O ((Ext.LC w).kp)$ LA 3 O O ((Ext.LC w).kp)$ LA 4 O O ((Ext.LC w).kp)$ Ll 2 O (z5R N3 Md O O (by omega)) ((Ext.LC w).kp)$ Ll 5 O (T7 N3 Md O O (by omega) j8) ((Ext.LC w).kp) ?_
 have cG:Sl w (.slice (some ⟨g,0,none⟩) i cap) 3 1 i (cs.take i):=by
  have:=jq.sl (n:=i) (by omega) mj (by rw[Nat.mul_one];exact dt);rw[Nat.mul_one,show cur.take i=cs.take i by rw[<-zZ,List.take_take,Nat.min_eq_left (by omega)]] at this;exact this
 have A0:(cur.drop (i+1)).take (n-(i+1))=cs.drop (i+1):=by
  rw[<-zZ,List.drop_take]
 have hR:Rd w.drew (.slice (if cap=i+1 then some ⟨g,0,none⟩ else(some (⟨g,0,none⟩:Addr)).map (·.add ((i+1)*1))) (n-(i+1)) (cap-(i+1))) 1 (n-(i+1)) (cs.drop (i+1)):=by
  by_cases hc:cap=i+1
  ·rw[if_pos hc,show n-(i+1)=0 by omega,List.drop_eq_nil_of_le (by omega)];exact QX
  ·rw[if_neg hc,Option.map_some,Ng,Nat.zero_add,Nat.mul_one,<-A0];exact(jq.ext h0).rd (by omega)
 refine qO 6$ NY (i:=6) O O O (zfb N3 Md (by decide) O O (cG.ext h0) hR (λc hc=>fB c (List.mem_of_mem_drop hc)) (by omega)) ?_
 rintro _ w1 ⟨rfl,cC,ax⟩
 refine⟨h0.kp.trans ax,?_⟩
 have e1:i+(n-(i+1))=n-1:=by omega
 rw[e1] at cC⊢
 obtain⟨cur3,uq,Gj,Gk,ur,ut⟩:=cC.row
 rw[Nat.mul_one] at ur ut
 refine Ll 7 O (Ni O) (h0.kp.trans ax)$ qE$ qN O$ Lu O O$ Nd N3 O$ Le O$ qV (zaN N3 Md O O O (by omega) (by omega))$ z5D O (zfe N3 Md O O uq (by omega)) ?_
 rintro _ w2 ⟨uu,av⟩
 refine Lf$ LS.qb (e:=[(0,_),(6,_)]) ?_
 refine qN O$ Le O$ Lk O$ Lh Tryz.func209 O ?_
 have uv:=uu.sl (n:=n-1) (cap:=cap) (by omega) mj (by rw[Xr _ _ _ (by simp;omega),ur,Nat.mul_one])
 rw[Nat.mul_one,WV _ _ _ _ (by omega) (by omega),ut] at uv
 exact⟨_,rfl,uv,((h0.kp.trans ax).trans av).Lv (λk hk=>by subst hk;rfl),λg' cN=>cN⟩
end Go.Proofs.YtfgjaafcgghnoaaGreatDoor
namespace Go.Proofs.YtfgjaafcgghnoaaGreatDoor
open Go Go.RowKit
open Go.ChangeMaps (setBlock)
def Oo {κ:Type}(K:κ->Value)(w:World)(m:Nat)(kv:List (κ×Value)):Prop:=(∃es clock,w.heap[m]? =some (.map es clock)/\PQ K es.toList kv/\(∀e∈es.toList,e.born<clock)/\(es.toList.map (·.born)).Nodup)/\(kv.map (·.1)).Nodup
section
variable {κ:Type}[DecidableEq κ]{K:κ->Value}
theorem Oo.l {w:World}{m:Nat}{kv:List (κ×Value)}(h:Oo K w m kv):SK K w m kv:=by
 obtain⟨⟨es,c,h1,h2,-,-⟩,h3⟩:=h
 exact⟨⟨es,c,h1,h2⟩,h3⟩
theorem Oo.lt {w:World}{m:Nat}{kv:List (κ×Value)}(h:Oo K w m kv):m<w.heap.size:=h.l.lt
theorem Oo.nd {w:World}{m:Nat}{kv:List (κ×Value)}(h:Oo K w m kv):(kv.map (·.1)).Nodup:=h.2
theorem Oo.kp {S:Nat->Prop}{w w':World}{m:Nat}{kv:List (κ×Value)}(h:Oo K w m kv)(k:Kp S w w')(hn:¬S m):Oo K w' m kv:=by
 obtain⟨⟨es,c,h,he⟩,hd⟩:=h
 exact⟨⟨es,c,k.heap h hn,he⟩,hd⟩
theorem Oo.ext {w w':World}{m:Nat}{kv:List (κ×Value)}(h:Oo K w m kv)(k:Ext w w'):Oo K w' m kv:=h.kp k id
theorem Oo.new {w:World}{m:Nat}(h:w.heap[m]? =some (.map #[] 0)):Oo K w m []:=⟨⟨#[],0,h,rfl,by simp,by simp⟩,by simp⟩
def delL:List (κ×Value)->κ->List (κ×Value)
 |[],_=>[]
 |(a,v)::r,k=>if k=a then r else(a,v)::delL r k
theorem Zz:∀(kv:List (κ×Value)) (k:κ),(delL kv k).Sublist kv
 |[],_=> .slnil
 | (a, v) :: r, k => by
   simp only[delL];split
   ·exact List.sublist_cons_self _ _
   ·exact(Zz r k).cons_cons _
theorem XU {kv:List (κ×Value)}{k:κ}(h:k∉kv.map (·.1)):getL kv k=none:=by
 induction kv with
 |nil=>rfl
 | cons p r ih =>
   obtain⟨a,u⟩:=p;simp only[List.map_cons,List.mem_cons,not_or] at h;simp only[getL,h.1,if_false];exact ih h.2
theorem zbg {kv:List (κ×Value)}(hn:(kv.map (·.1)).Nodup)(k x:κ):getL (delL kv k) x=if x=k then none else getL kv x:=by
 induction kv with
 |nil=>simp[delL,getL]
 | cons p r ih =>
   obtain⟨a,u⟩:=p;simp only[List.map_cons,List.nodup_cons] at hn;simp only[delL];by_cases h:k=a
   ·subst h;simp only[if_true,getL];by_cases hx:x=k
    ·subst hx;simp[XU hn.1]
    ·simp[hx]
   ·simp only[h,if_false,getL,ih hn.2];by_cases hx:x=a
    ·subst hx;simp[Ne.symm h]
    ·simp[hx]
theorem z0l {kv:List (κ×Value)}(hn:(kv.map (·.1)).Nodup){k:κ}{v:Value}(h:(k,v)∈kv):getL kv k=some v:=by
 induction kv with
 |nil=>cases h
 | cons p r ih =>
   obtain⟨a,u⟩:=p;simp only[List.map_cons,List.nodup_cons] at hn;rcases List.mem_cons.1 h with e| h
   ·cases e;simp[getL]
   ·have:k≠a:=λe=>hn.1 (List.mem_map.2 ⟨(k,v),h,e⟩);simp only[getL,this,if_false];exact ih hn.2 h
theorem Vl {td:TypeDesc}(hs:∀a b,Instr.sameNow td (K a) (K b)=some (decide (a=b))):∀{es:List MapEntry} {kv:List (κ×Value)} (i:Nat) {k:κ} {v:Value},PQ K es kv->getL kv k=some v->
  ∃j,Instr.findNow td (K k) es i=some (some (i+j,v))/\j<es.length/\PQ K (es.eraseIdx j) (delL kv k)
 | e :: es, (a, v') :: kv, i, k, v, h, hg => by
   simp only[PQ,List.map_cons,List.cons.injEq,Prod.mk.injEq] at h;simp only[getL] at hg;split at hg
   ·rename_i he
    subst he;cases hg;refine⟨0,by simp[Instr.findNow,h.1.1,hs,h.1.2],by simp,?_⟩;simp only[List.eraseIdx_zero,List.tail_cons,delL,if_true];exact h.2
   ·rename_i bN
    obtain⟨j,h1,h2,h3⟩:=Vl hs (i+1) h.2 hg;refine⟨j+1,?_,by simp;omega,?_⟩
    ·simp only[Instr.findNow,h.1.1,hs,bN,decide_false,h1]
     congr 3;omega
    ·simp only[delL,bN,if_false,List.eraseIdx_cons_succ,PQ,List.map_cons,List.cons.injEq,Prod.mk.injEq]
     exact⟨h.1,h3⟩
 |[],[],_,_,_,_,hg=>by simp[getL] at hg
 |[],_::_,_,_,_,h,_=>by simp[PQ] at h
 |_::_,[],_,_,_,h,_=>by simp[PQ] at h
variable {P:Program}{e:Env}{d:Option Nat}{ty t kt el:TypeId}{pos:String}{aft:Array Edge}{g:Option (Nat×Bool)}{x y u:Operand}{w:World}{m:Nat}{kv:List (κ×Value)}{z:Value}{size bytes:Nat}{k:κ}{v:Value}
theorem zao (ht:P.underlying t=some (.map kt el))(hK:Ky P kt K)(hx:look e x=some (.map (some m)))(hy:look e y=some (K k))(hu:look e u=some v)(hm:Oo K w m kv):
  Zp P e ⟨d,.mapUpdate t x y u,ty,pos,aft,g⟩ w λw'=>Oo K w' m (putL kv k v)/\Kp (λi=>i=m) w w':=by
 have aV:=hm.lt
 obtain⟨⟨es,c,hh,he,bR,c6⟩,hd⟩:=hm
 have qZ:=λb=>hK.same.choose_spec.2.2 w b 9999 k
 have hg:(getObj m).run P w= .ok (.map es c) w:=by simp[getObj,Sem.run,hh]
 have gx:∀o,(setObj m o).run P w= .ok () (w.putObj m o):=λo=>by simp[setObj,Sem.run,hh,World.putObj]
 cases kU:getL kv k with
 | none =>
   have hf:=PN (P:=P) (w:=w) hK he kU;refine⟨w.putObj m (.map (es.push {key:=K k,val:=v,born:=c}) (c+1)),fun ρ hρ=>?_,⟨⟨_,_,World.putObj_heap_same aV,?_,?_,?_⟩,?_⟩,MM w m _⟩
   ·simp[execOp,hρ _ _ hx,hρ _ _ hy,hρ _ _ hu,Instr.mapUpdate,run_underlying ht,hg,qZ,hf,gx]
   ·rw[Qo _ _ _ kU]
    simpa[PQ] using he
   ·intro x hx;simp at hx;rcases hx with hx|rfl
    ·have:=bR x (by simpa using hx);omega
    ·simp
   ·simp only[Array.toList_push,List.map_append,List.map_cons,List.map_nil];refine List.nodup_append.2 ⟨c6,by simp,λa ha b hb j9=>?_⟩;simp at hb;subst hb;subst j9;obtain⟨x,hx,Ex⟩:=List.mem_map.1 ha;have:=bR x hx;omega
   ·rw[Qo _ _ _ kU,List.map_append,List.nodup_append];refine⟨hd,by simp,λa ha b hb j9=>?_⟩;simp at hb;subst hb;subst j9
    exact Ww kU ha
 | some v0 =>
   obtain⟨j,hf,⟨ej,Gl,A1⟩,mm⟩:=PM (P:=P) (w:=w) hK he kU
   have kl:(es.modify j λe=>{e with key:=K k,val:=v}).toList.map (·.born)=es.toList.map (·.born):=by
    apply List.ext_getElem?;intro i;simp only[Array.toList_modify,List.getElem?_map,List.getElem?_modify];by_cases gW:j=i
    ·subst gW;simp;cases es[j]?<;>rfl
    ·simp[gW]
   refine⟨w.putObj m (.map (es.modify j λe=>{e with key:=K k,val:=v}) c),fun ρ hρ=>?_,⟨⟨_,_,World.putObj_heap_same aV,mm v,?_,?_⟩,?_⟩,MM w m _⟩
   ·simp[execOp,hρ _ _ hx,hρ _ _ hy,hρ _ _ hu,Instr.mapUpdate,run_underlying ht,hg,qZ,hf,gx,Gl,A1,Instr.keyThatStays,hK.bits]
   ·intro x hx;have:x.born∈es.toList.map (·.born):=by rw[<-kl];exact List.mem_map.2 ⟨x,hx,rfl⟩
    obtain⟨y,hy,uw⟩:=List.mem_map.1 this;rw[<-uw];exact bR y hy
   ·rw[kl];exact c6
   ·rw[XV _ _ _ (by rw[kU];rfl)];exact hd
theorem zaU (ht:P.underlying t=some (.map kt el))(hK:Ky P kt K)(hx:look e x=some (.map (some m)))(hy:look e y=some (K k))(hm:Oo K w m kv){ts:Array TypeId}(tF:ts[0]? =some t):
  Yp P e ⟨d,.call ⟨.builtin .delete,#[x,y],ts⟩,ty,pos,aft,g⟩ w λv' w'=>Oo K w' m (delL kv k)/\Kp (λi=>i=m) w w':=by
 have aV:=hm.lt
 obtain⟨⟨es,c,hh,he,bR,c6⟩,hd⟩:=hm
 obtain⟨⟨td,hu,hs,A3⟩,-⟩:=hK
 have qZ:=λb=>A3 w b 9999 k
 have hg:(getObj m).run P w= .ok (.map es c) w:=by simp[getObj,Sem.run,hh]
 have gx:∀o,(setObj m o).run P w= .ok () (w.putObj m o):=λo=>by simp[setObj,Sem.run,hh,World.putObj]
 have dx:=(Zz kv k).map (·.1)
 cases kU:getL kv k with
 | none =>
   have hf:(Instr.findKey kt (K k) es.toList).run P w= .ok none w:=by simp[Instr.findKey,run_underlying hu,Rj hs 0 he kU]
   have km:delL kv k=kv:=by
    clear he hh hd dx
    induction kv with
    |nil=>rfl
    | cons p r ih =>
      obtain⟨a,u⟩:=p;simp only[getL] at kU;split at kU
      ·cases kU
      ·rename_i bN;simp only[delL,bN,if_false,ih kU]
   refine⟨.tuple #[],w.putObj m (.map es c),fun ρ hρ=>?_,⟨⟨es,c,World.putObj_heap_same aV,by rw[km];exact he,bR,c6⟩,by rw[km];exact hd⟩,MM w m _⟩
   simp[execOp,resolve,invoke,builtin,hρ _ _ hx,hρ _ _ hy,Builtin.delete_,tF,run_underlying ht,hg,qZ,hf,gx,Result.andThen]
 | some v0 =>
   obtain⟨j,ux,hj,mm⟩:=Vl hs 0 he kU
   have hf:(Instr.findKey kt (K k) es.toList).run P w= .ok (some (j,v0)) w:=by
    rw[Nat.zero_add] at ux;simp[Instr.findKey,run_underlying hu,ux]
   have A4:(es.eraseIdxIfInBounds j).toList=es.toList.eraseIdx j:=by
    simp at hj;simp[Array.eraseIdxIfInBounds,hj]
   refine⟨.tuple #[],w.putObj m (.map (es.eraseIdxIfInBounds j) c),fun ρ hρ=>?_,⟨⟨_,c,World.putObj_heap_same aV,by rw[A4];exact mm,?_,?_⟩,dx.nodup hd⟩,MM w m _⟩
   ·simp[execOp,resolve,invoke,builtin,hρ _ _ hx,hρ _ _ hy,Builtin.delete_,tF,run_underlying ht,hg,qZ,hf,gx,Result.andThen]
   ·rw[A4];exact λx hx=>bR x ((List.eraseIdx_sublist _ _).subset hx)
   ·rw[A4];exact((List.eraseIdx_sublist _ _).map _).nodup c6
end
def bitsN:Nat->Nat->List Bool
 |0,_=>[]
 |n+1,v=>v.testBit n::bitsN n v
def valB:List Bool->Nat
 |[]=>0
 |b::l=>b.toNat*2^l.length+valB l
@[simp] theorem bitsN_length:∀(n v:Nat),(bitsN n v).length=n
 |0,_=>rfl
 |n+1,v=>by simp[bitsN,bitsN_length n v]
theorem N1:∀(l:List Bool),valB l<2^l.length
 |[]=>by simp[valB]
 | b :: l => by
   have:=N1 l;simp only[valB,List.length_cons,Nat.pow_succ];have:b.toNat<=1:=by cases b<;>simp
   have:b.toNat*2^l.length<=1*2^l.length:=Nat.mul_le_mul_right _ this;omega
theorem NK:∀(a b:List Bool),valB (a++b)=valB a*2^b.length+valB b
 |[],b=>by simp[valB]
 | x :: a, b => by
   rw[List.cons_append,valB,NK a b,valB,List.length_append,Nat.pow_add,Nat.add_mul,Nat.mul_assoc];omega
theorem NM:∀(m n v:Nat),bitsN (m+n) v=bitsN m (v / 2^n)++bitsN n v
 |0,n,v=>by simp[bitsN]
 | m + 1, n, v => by
   rw[show m+1+n=(m+n)+1 by omega,bitsN,bitsN,List.cons_append,NM m n v,Nat.testBit_div_two_pow]
theorem Me:∀(n v:Nat),valB (bitsN n v)=v%2^n
 |0,v=>by simp[bitsN,valB,Nat.mod_one]
 | n + 1, v => by
   rw[bitsN,valB,bitsN_length,Me n v,Nat.pow_succ,Nat.mod_mul,Nat.testBit_eq_decide_div_mod_eq];rcases Nat.mod_two_eq_zero_or_one (v / 2^n) with e|e<;>simp[e]<;>omega
theorem Sa:∀{n v u:Nat},v%2^n=u%2^n->bitsN n v=bitsN n u
 |0,_,_,_=>rfl
 | n + 1, v, u, h => by
   have h1:v.testBit n=u.testBit n:=by
    have e1:(v%2^(n+1)).testBit n=v.testBit n:=by rw[Nat.testBit_mod_two_pow];simp
    have e2:(u%2^(n+1)).testBit n=u.testBit n:=by rw[Nat.testBit_mod_two_pow];simp
    rw[<-e1,<-e2,h]
   have h2:v%2^n=u%2^n:=by
    have e1:v%2^(n+1)%2^n=v%2^n:=Nat.mod_mod_of_dvd _ (Nat.pow_dvd_pow 2 (Nat.le_succ n));have e2:u%2^(n+1)%2^n=u%2^n:=Nat.mod_mod_of_dvd _ (Nat.pow_dvd_pow 2 (Nat.le_succ n));rw[<-e1,<-e2,h]
   rw[bitsN,bitsN,h1,Sa h2]
theorem Uf:∀{a b:List Bool},a.length=b.length->valB a=valB b->a=b
 |[],[],_,_=>rfl
 | x :: a, y :: b, hl, hv => by
   have hl':a.length=b.length:=by simpa using hl
   have h1:=N1 a;have h2:=N1 b;rw[valB,valB,hl'] at hv;rw[hl'] at h1
   have hx:x=y:=by
    cases x<;>cases y<;>simp at hv⊢<;>omega
   subst hx;rw[Uf hl' (by omega)]
theorem X7 (l:List Bool):bitsN l.length (valB l)=l:=Uf (by simp) (by rw[Me,Nat.mod_eq_of_lt (N1 l)])
/-! ### Bytes -/
def LF (s:Bytes):List Bool:=s.flatMap λc=>bitsN 8 c.toNat
@[simp] theorem bitsT_length (s:Bytes):(LF s).length=8*s.length:=by
 induction s with
 |nil=>rfl
 |cons c s ih=>simp[LF] at ih⊢;omega
theorem Tw (a b:Bytes):LF (a++b)=LF a++LF b:=by simp[LF]
def RA (d:List Bool):UInt8:=UInt8.ofNat (valB d*2^(8-d.length))
def LK (l:List Bool):Bytes:=(List.range ((l.length+7) / 8)).map λi=>RA ((l.drop (8*i)).take 8)
theorem LY (l:List Bool):(LK l).length=(l.length+7) / 8:=by simp[LK]
theorem Te {c d:List Bool}(hc:c.length%8=0)(h1:1<=d.length)(h8:d.length<=8):LK (c++d)=LK c++[RA d]:=by
 obtain⟨m,hm⟩:∃m,c.length=8*m:=⟨c.length / 8,by omega⟩
 unfold LK
 rw[List.length_append,show(c.length+d.length+7) / 8=m+1 by omega,show(c.length+7) / 8=m by omega,List.range_succ,List.map_append]
 congr 1
 ·apply List.map_congr_left;intro i hi;rw[List.mem_range] at hi;rw[List.drop_append_of_le_length (by omega),List.take_append_of_le_length (by rw[List.length_drop];omega)]
 ·simp only[List.map_cons,List.map_nil];rw[<-hm,List.drop_left,List.take_of_length_le h8]
theorem z5k {d e:List Bool}(h:d.length+e.length<=8):(RA (d++e)).toNat=(RA d).toNat |||(valB e*2^(8-d.length-e.length)):=by
 have h1:=N1 d
 have h2:=N1 e
 have hp:∀(x:List Bool),x.length<=8->valB x*2^(8-x.length)<256:=λx hx=>by
  have h3:=N1 x;have:valB x*2^(8-x.length)<2^x.length*2^(8-x.length):=Nat.mul_lt_mul_of_pos_right h3 (Nat.two_pow_pos _);rw[<-Nat.pow_add,show x.length+(8-x.length)=8 by omega] at this;exact this
 have e1:(RA (d++e)).toNat=valB (d++e)*2^(8-(d++e).length):=by
  unfold RA;rw[UInt8.toNat_ofNat'];exact Nat.mod_eq_of_lt (hp _ (by rw[List.length_append];omega))
 have e2:(RA d).toNat=valB d*2^(8-d.length):=by
  unfold RA;rw[UInt8.toNat_ofNat'];exact Nat.mod_eq_of_lt (hp _ (by omega))
 rw[e1,e2,NK,List.length_append,Nat.add_mul]
 have h5:valB d*2^e.length*2^(8-(d.length+e.length))=2^(8-d.length)*valB d:=by
  rw[Nat.mul_assoc,<-Nat.pow_add,show e.length+(8-(d.length+e.length))=8-d.length by omega,Nat.mul_comm]
 have h6:valB e*2^(8-(d.length+e.length))<2^(8-d.length):=by
  have:valB e*2^(8-(d.length+e.length))<2^e.length*2^(8-(d.length+e.length)):=Nat.mul_lt_mul_of_pos_right h2 (Nat.two_pow_pos _);rw[<-Nat.pow_add,show e.length+(8-(d.length+e.length))=8-d.length by omega] at this;exact this
 rw[h5,Nat.two_pow_add_eq_or_of_lt h6,Nat.mul_comm (2^(8-d.length)),show 8-d.length-e.length=8-(d.length+e.length) by omega]
theorem z4M:RA []=0:=by decide
theorem O5 (l:List Bool):∃z,LF (LK l)=l++List.replicate z false/\(l.length+z)%8=0/\z<8:=by
 have key : ∀ (m : Nat) (l : List Bool), l.length <= 8 * m -> ∃ z, LF (LK l) = l ++ List.replicate z false /\ (l.length + z) % 8 = 0 /\ z < 8 := by
  intro m
  induction m with
  | zero =>
    intro l h;have:l=[]:=List.eq_nil_of_length_eq_zero (by omega);subst this
    exact⟨0,rfl,rfl,by omega⟩
  | succ m ih =>
    intro l h;by_cases h0:l=[]
    ·subst h0;exact⟨0,rfl,rfl,by omega⟩
    ·have hpos:1<=l.length:=by
      cases l with
      |nil=>exact absurd O h0
      |cons a r=>simp
     obtain⟨c,d,rfl,hc,h1,h8⟩:∃c d,l=c++d/\c.length%8=0/\1<=d.length/\d.length<=8:=by
      refine⟨l.take (8*((l.length-1) / 8)),l.drop (8*((l.length-1) / 8)),(List.take_append_drop _ _).symm,?_,?_,?_⟩
      ·rw[List.length_take];omega
      ·rw[List.length_drop];omega
      ·rw[List.length_drop];omega
     rw[List.length_append] at h;obtain⟨z,hz,hm,hl⟩:=ih c (by omega);have hz0:z=0:=by omega
     subst hz0;simp at hz;refine⟨8-d.length,?_,by rw[List.length_append];omega,by omega⟩;rw[Te hc h1 h8,Tw,hz,List.append_assoc]
     congr 1
     simp only[LF,List.flatMap_cons,List.flatMap_nil,List.append_nil]
     have hv:valB (d++List.replicate (8-d.length) false)=valB d*2^(8-d.length):=by
      rw[NK,List.length_replicate]
      have:∀n,valB (List.replicate n false)=0:=λn=>by
       induction n with
       |zero=>rfl
       |succ n ih=>rw[List.replicate_succ,valB,ih];simp
      rw[this];rfl
     refine Uf (by simp;omega) ?_;rw[Me,hv];have h3:=N1 d
     have:valB d*2^(8-d.length)<2^8:=by
      have:valB d*2^(8-d.length)<2^d.length*2^(8-d.length):=Nat.mul_lt_mul_of_pos_right h3 (Nat.two_pow_pos _)
      rwa [<-Nat.pow_add,show d.length+(8-d.length)=8 by omega] at this
     unfold RA;rw[UInt8.toNat_ofNat'];rw[Nat.mod_mod,Nat.mod_eq_of_lt this]
 exact key l.length l (by omega)
theorem z1A (c:Nat)(hc:c<256)(room n:Nat)(hr:room<=8)(hn:n<=room):valB (((bitsN 8 c).drop (8-room)).take n)=c%2^room / 2^(room-n):=by
 have e1:bitsN 8 c=bitsN (8-room) (c / 2^room)++bitsN room c:=by rw[<-NM,show 8-room+room=8 by omega]
 have e2:bitsN room c=bitsN n (c / 2^(room-n))++bitsN (room-n) c:=by rw[<-NM,show n+(room-n)=room by omega]
 rw[e1,List.drop_left' (by simp),e2,List.take_left' (by simp),Me]
 have:c%2^room / 2^(room-n)=c / 2^(room-n)%2^n:=by
  have h2:2^room=2^(room-n)*2^n:=by rw[<-Nat.pow_add,show room-n+n=room by omega]
  rw[h2,Nat.mod_mul_right_div_self]
 rw[this]
theorem Ps (c:UInt8)(s:Bytes):LF (c::s)=bitsN 8 c.toNat++LF s:=rfl
theorem Po:∀(k:Nat) (s:Bytes),LF (s.drop k)=(LF s).drop (8*k)
 |0,s=>by simp
 |k+1,[]=>by simp[LF]
 | k + 1, c :: s => by
   have e:(bitsN 8 c.toNat++LF s).drop (8+8*k)=(LF s).drop (8*k):=by rw[<-List.drop_drop,List.drop_left' (by simp)]
   rw[List.drop_succ_cons,Po k s,Ps,show 8*(k+1)=8+8*k by omega,e]
theorem Q7:∀(k:Nat) (s:Bytes),LF (s.take k)=(LF s).take (8*k)
 |0,s=>by simp[LF]
 |k+1,[]=>by simp[LF]
 | k + 1, c :: s => by
   have e:(bitsN 8 c.toNat++LF s).take (8+8*k)=bitsN 8 c.toNat++(LF s).take (8*k):=by
    have:=List.take_length_add_append (l₁:=bitsN 8 c.toNat) (l₂:=LF s) (8*k)
    rwa [bitsN_length] at this
   rw[List.take_succ_cons,Ps,Q7 k s,Ps,show 8*(k+1)=8+8*k by omega,e]
theorem z8O {s:Bytes}{i:Nat}{c:UInt8}(h:s[i]? =some c):((LF s).drop (8*i)).take 8=bitsN 8 c.toNat:=by
 rw[<-Po]
 obtain⟨hi,e⟩:=List.getElem?_eq_some_iff.1 h
 rw[List.drop_eq_getElem_cons hi,e,show LF (c::s.drop (i+1))=bitsN 8 c.toNat++LF (s.drop (i+1)) from rfl,List.take_left' (by simp)]
theorem z2x {s:Bytes}{at' n:Nat}{c:UInt8}(h:s[at' / 8]? =some c)(hn:n<=8-at'%8):valB (((LF s).drop at').take n)=c.toNat%2^(8-at'%8) / 2^(8-at'%8-n):=by
 have h1:=z8O h
 have h2:=z1A c.toNat (by have:=c.toNat_lt;omega) (8-at'%8) n (by omega) hn
 rw[<-h2,<-h1]
 congr 1
 rw[List.drop_take,List.take_take,List.drop_drop,show 8*(at' / 8)+(8-(8-at'%8))=at' by omega]
 congr 1
 omega
theorem z1L {bs e:List Bool}(h1:1<=e.length)(h8:bs.length%8+e.length<=8):∃(c:Bytes) (x y:UInt8),(if bs.length%8=0 then LK bs++[0] else LK bs)=c++[x]/\LK (bs++e)=c++[y]/\y.toNat=(x.toNat |||(valB e*2^(8-bs.length%8-e.length))):=by
 obtain⟨c,d,hcd,hc,hd⟩:∃c d,bs=c++d/\c.length%8=0/\d.length=bs.length%8:=⟨bs.take (8*(bs.length / 8)),bs.drop (8*(bs.length / 8)),(List.take_append_drop _ _).symm,by rw[List.length_take];omega,by rw[List.length_drop];omega⟩
 have hb:=z5k (d:=d) (e:=e) (by omega)
 rw[<-hd]
 refine⟨LK c,RA d,RA (d++e),?_,?_,hb⟩
 ·by_cases h0:d.length=0
  ·have:d=[]:=List.eq_nil_of_length_eq_zero h0;subst this;rw[if_pos (by simp),hcd,List.append_nil,z4M]
  ·rw[if_neg (by omega),hcd,Te hc (by omega) (by omega)]
 ·rw[hcd,List.append_assoc,Te hc (by rw[List.length_append];omega) (by rw[List.length_append];omega)]
abbrev Ly (n:Nat):Value:= .int .u64 (n:Int)
theorem Sw {w:World}{v:Value}{T s n}{us:List Value}(h:Sl w v T s n us):oneV v=true:=by
 rcases h.shape with⟨rfl,-⟩|⟨g,c,rfl,-⟩<;>rfl
section
variable {P:Program}{e:Env}{d:Option Nat}{ty t t':TypeId}{pos:String}{aft:Array Edge}{g:Option (Nat×Bool)}{x y:Operand}{w:World}{k:IntKind}{m n:Nat}
theorem RO (hx:look e x=some (.int k (m:Int)))(hy:look e y=some (.int k (n:Int)))(hs:k.signed=false)(hm:m<2^k.bits)(h:n<=m):Y P e ⟨d,.binOp .sub t x y t',ty,pos,aft,g⟩ (.int k ((m-n:Nat):Int)) w w:=fun ρ hρ=>by
 have h1:(m:Int)-n=((m-n:Nat):Int):=by omega
 have h2:k.wrap ((m-n:Nat):Int)=((m-n:Nat):Int):=Vv hs (by omega)
 simp[execOp,go_sem,hρ _ _ hx,hρ _ _ hy,h1,h2]
theorem zdn {el:TypeId}{c:Nat}(hs:P.underlying t=some (.slice el))(he:P.underlying el=some (.int .u8))(hd:P.underlying t'=some .string)(hx:look e x=some (.slice none 0 c)):Y P e ⟨d,.convert t t' x,ty,pos,aft,g⟩ (S []) w w:=fun ρ hρ=>by
 have hr:(convert t t' (.slice none 0 c)).run P w= .ok (S []) w:=by
  rw[run_convert_bytes_string w t t' el none 0 c hs he hd];rfl
 simp only[execOp,hρ _ _ hx,Sem.run_bind,hr,Result.andThen_ok,Sem.run_pure]
theorem zcl {el:TypeId}{gb n cap:Nat}{l:List UInt8}(hs:P.underlying t=some (.slice el))(he:P.underlying el=some (.int .u8))(hd:P.underlying t'=some .string)(hx:look e x=some (.slice (some ⟨gb,0,none⟩) n cap))(hS:Sl w (.slice (some ⟨gb,0,none⟩) n cap) el 1 n (l.map P9)):
  Y P e ⟨d,.convert t t' x,ty,pos,aft,g⟩ (S l) w w:=by
 obtain⟨cur,hr,-,-,-,ht⟩:=hS.row
 refine z3I hs he hd hx hr.Lg (by rw[List.drop_zero,<-ht,Nat.mul_one]) ?_
 have:=hS.len
 rw[List.length_map] at this
 omega
end
theorem Mn {w:World}{b off n cap i:Nat}{vs:List Value}{v:Value}(h:Rd w (.slice (some ⟨b,off,none⟩) n cap) 1 n vs)(hv:vs[i]? =some v):w.cell? ⟨b,off+i*1,none⟩=some v:=by
 rcases h.2 with⟨c,hc,h0⟩|⟨b',off',cap',e,hc⟩
 ·have hi:=(List.getElem?_eq_some_iff.1 hv).1;have:=h.1;omega
 ·cases e;rw[Nat.mul_one];exact hc i v hv
structure WrM (w:World)(p:Nat)(bv:Value)(bs:List Bool):Prop where
 Lg:Lq w p [bv,I (bs.length:Int)] 286
 sl:Sl w bv 5 1 (LK bs).length ((LK bs).map P9)
 ne:bv.ownBlock≠some p
def Y5 (p:Nat)(bv:Value)(k:Nat):Prop:=k=p\/bv.ownBlock=some k
def TX (w:World)(p:Nat)(bs:List Bool)(F:Nat->Prop):Prop:=∃bv,WrM w p bv bs/\∀k,F k↔Y5 p bv k
def WrR (p:Nat)(F:Nat->Prop)(w w':World)(bs:List Bool):Prop:=∃F',TX w' p bs F'/\Kp F w w'/\∀k,F' k->F k\/w.heap.size<=k
section
variable {w w':World}{p:Nat}{bs:List Bool}{F S:Nat->Prop}
theorem TX.lt (h:TX w p bs F){k:Nat}(hk:F k):k<w.heap.size:=by
 obtain⟨bv,hM,hF⟩:=h
 rcases (hF k).1 hk with e| e
 ·rw[e];exact hM.Lg.lt
 ·exact hM.sl.lt e
theorem TX.kp (h:TX w p bs F)(k:Kp S w w')(hn:∀i,F i->¬S i):TX w' p bs F:=by
 obtain⟨bv,hM,hF⟩:=h
 exact⟨bv,⟨k.Lg hM.Lg (hn p ((hF p).2 (.inl O))),hM.sl.kp k (λg hg=>hn g ((hF g).2 (.inr hg))),hM.ne⟩,hF⟩
theorem TX.ext (h:TX w p bs F)(k:Ext w w'):TX w' p bs F:=h.kp k.kp λ_ _=>id
end
section
variable {w:World}{p:Nat}{bs:List Bool}{F:Nat->Prop}
theorem Qk (w:World):LP Tryz.prog 122 [] w λv w'=>∃p F,v=ptr p 0/\TX w' p [] F/\Ext w w'/\∀k,F k->w.heap.size<=k:=by
 refine Lb (e:=[]) Tryz.func122 O Tryz.ntmps122 O O$ qN O$ Lw O$ qM O$ qV (O6 (cs:=[_,_]) zd4 O zds O O)$ Lm O O (Nc O O) ?_
 rintro _ w1 ⟨p,rfl,hp,hx,hB⟩
 refine Lk O$ Lh Tryz.func122 O ?_
 exact⟨_,rfl,p,_,rfl,⟨_,⟨hB,Sl.nil _ _ _,by simp[Value.ownBlock]⟩,λ_=>Iff.rfl⟩,hx,λk hk=>by
  rcases hk with e| e
  ·omega
  ·simp[Value.ownBlock] at e⟩
theorem z7n (h:TX w p bs F)(v n:Nat)(hn:n<=64)(hv:v<2^n)(hl:bs.length+n<=1000000000):
  LP Tryz.prog 163 [ptr p 0,Ly v,I (n:Int)] w λu w'=>u= .tuple #[]/\WrR p F w w' (bs++bitsN n v):=by
 obtain⟨bv,hM,hF⟩:=h
 have Gm:v<18446744073709551616:=by
  have:=Nat.pow_le_pow_right (show 0<2 by decide) hn;have e:(2:Nat)^64=18446744073709551616:=by decide
  omega
 have ev:maxLen=9223372036854775807:=rfl
 refine Lb (e:=[(0,_),(1,_),(2,_)]) Tryz.func163 O Tryz.ntmps163 O O$ Lc$ Nj (α:=Nat×Value×List Bool) ((n,bv,bs)) (λx=>[(0,ptr p 0),(1,Ly v),(2,I (x.1:Int))]) (λx w'=>x.1<=n/\WrM w' p x.2.1 x.2.2/\x.2.2=bs++bitsN (n-x.1) (v / 2^x.1)/\Kp F w w'/\(∀k,Y5 p x.2.1 k->F k\/w.heap.size<=k)) (λx=>x.1) ?hI ?hround
 case hI=>exact⟨Nat.le_refl _,hM,by rw[Nat.sub_self];simp[bitsN],Kp.refl _ _,λk hk=> .inl ((hF k).2 hk)⟩
 case hround =>
  rintro⟨k,bv1,b1⟩ w1 ⟨hk,dJ,bR,aN,iA⟩ ih;dsimp only at hk dJ bR iA;have ai:=dJ.Lg;have Gn:b1.length<=bs.length+n:=by rw[bR,List.length_append,bitsN_length];omega
  have jr:b1.length&&&7=b1.length%8:=Nat.and_two_pow_sub_one_eq_mod b1.length 3;have m5:=aN.size;have eQ:=ai.lt
  try dsimp only
  refine run_seq$ qN O$ Le O$ MH O O$ Lf$ Lp O (λaV=>?_)$ λaV=>?_
  ·have gN : 0 < k := by omega
   obtain⟨take,js⟩:∃take,min k (8-b1.length%8)=take:=⟨_,rfl⟩;have rf:1<=take/\take<=k/\take<=8-b1.length%8:=by omega
   obtain⟨e,he⟩:∃e,bitsN take (v / 2^(k-take))=e:=⟨_,rfl⟩;have nY:e.length=take:=by rw[<-he];simp
   have Ey:valB e=v / 2^(k-take)%2^take:=by rw[<-he,Me]
   obtain⟨c,x,y,hL,hY,du⟩:=z1L (bs:=b1) (e:=e) (by omega) (by omega);refine py$ Lc$ run_seq$ qN O$ Le O$ LU O$ Lt Sx O$ qV (Lj U3 O O ai O)$ qV (SO O O (by omega) (by omega)) ?_;rw[jr];refine Nb O O$ Lf$ M6 (λe' w'=>e'=[(0,ptr p 0),(1,Ly v),(2,I (k:Int))]/\∃bv2,Lq w' p [bv2,I (b1.length:Int)] 286/\Sl w' bv2 5 1 (c++[x]).length ((c++[x]).map P9)/\bv2.ownBlock≠some p/\Kp F w w'/\∀k,Y5 p bv2 k->F k\/w.heap.size<=k) ?mn$ λmn=>?mq
   case mn=>
    rintro e' w2 ⟨rfl,bv2,am,cG,fC,ao,rg⟩
    obtain⟨g2,c2,rfl,dM⟩:∃g cp,bv2= .slice (some ⟨g,0,none⟩) (c++[x]).length cp/\(c++[x]).length<=cp:=by
     rcases cG.shape with⟨-,e⟩| h
     ·simp at e
     ·exact h
    have dt:(c++[x]).length=c.length+1:=by simp
    have Gp:p≠g2:=λe=>fC (by rw[e];rfl);have kV:(LK (b1++e)).length=c.length+1:=by rw[hY];simp
    rw[LY,List.length_append] at kV;obtain⟨T,hT⟩:∃T,2^take=T:=⟨_,rfl⟩;obtain⟨D,hD⟩:∃D,2^(k-take)=D:=⟨_,rfl⟩;obtain⟨R,hR⟩:∃R,2^(8-b1.length%8-take)=R:=⟨_,rfl⟩;rw[hT,hD] at Ey;rw[nY,hR] at du
    have Ez:1<=T/\T<=256:=by
     rw[<-hT];exact⟨Nat.two_pow_pos _,by have:=Nat.pow_le_pow_right (show 0<2 by decide) (show take<=8 by omega);simpa using this⟩
    have iG:(v / D)&&&(T-1)=v / D%T:=by rw[<-hT];exact Nat.and_two_pow_sub_one_eq_mod _ _
    have Kc:v / D<=v:=Nat.div_le_self _ _;have Gq:v / D%T<T:=Nat.mod_lt _ (by omega)
    have Kd:valB e*R<256:=by
     have h1:=N1 e;rw[nY,hT] at h1;have h2:valB e*R<T*R:=Nat.mul_lt_mul_of_pos_right h1 (by rw[<-hR];exact Nat.two_pow_pos _);have h3:T*R=2^(8-b1.length%8):=by rw[<-hT,<-hR,<-Nat.pow_add,show take+(8-b1.length%8-take)=8-b1.length%8 by omega]
     have h4:=Nat.pow_le_pow_right (show 0<2 by decide) (show 8-b1.length%8<=8 by omega);have h5:(2:Nat)^8=256:=by decide
     omega
    have dy:=x.toNat_lt;refine qN O$ Le O$ LU O$ Lt Sx O$ qV (Lj U3 O O am O)$ qV (SO O O (by omega) (by omega)) ?_;rw[jr];refine Np O O ?_;rw[show(8-((b1.length%8:Nat):Int))=((8-b1.length%8:Nat):Int) by omega];refine Lw O$ qM O$ Lu O O$ qV (ymi O O) ?_;rw[show min (k:Int) ((8-b1.length%8:Nat):Int)=((take:Nat):Int) by omega];have hg:=Ext.LC w2;refine Lk O$ run_seq$ N7 (λw'=>Ext w2 w') O$ LA 0 O O (hg)$ LA 1 O O (hg)$ LA 2 O O (hg)$ Ll 3 O (SR O O (by omega)) hg$ LA 5 O O (hg) ?_;rw[show((k:Int)-(take:Int))=((k-take:Nat):Int) by omega];refine Ll 4 O (Qg (k-take) D O O (by show k-take<=64;omega) hD) hg ?_;refine Ll 6 O (Na take T O O (by omega) hT) hg ?_;rw[show(1*T)%18446744073709551616=T by omega];refine Ll 7 O (RO (n:=1) O O O (by show T<2^64;omega) (by omega)) hg ?_;refine Ll 8 O (Qj O O (by omega) (by omega)) hg ?_;rw[iG];refine Ll 9 O (z7M O MP U5) hg ?_;rw[show v / D%T%256=valB e by rw[Ey];exact Nat.mod_eq_of_lt (Nat.lt_of_lt_of_le Gq Ez.2)];have aq:=hg.Lg am;have cC:=cG.ext hg;have ae:Ext w2.drew w2.drew.drew:=Ext.LC w2.drew;refine Ll 10 O (Ni O) hg$ qE$ run_seq$ LH [19] (λw'=>Ext w2.drew w') (by kernel_rfl) O$ qL [1,2,3,10,11,17,18,19] 0 O (λ_ h=>M0 O) ae$ qL [2,3,10,11,17,18,19] 1 O (λ_ h=>Mo O) ae$ qL [3,10,11,17,18,19] 2 O (λ_ h=>LV TT O) ae$ qL [10,11,17,18,19] 3 O (λ_ h=>Lj Mz O O (h.Lg aq) O) ae$ qL [5,6,7,8,9,10,11,17,18,19] 4 O (λ_ h=>M0 O) ae$ qL [6,7,8,9,10,11,17,18,19] 5 O (λ_ h=>Mo O) ae$ qL [7,8,9,10,11,17,18,19] 6 O (λ_ h=>LV TT O) ae$ qL [8,9,10,11,17,18,19] 7 O (λ_ h=>Lj Mz O O (h.Lg aq) O) ae$ qL [9,10,11,17,18,19] 8 O (λ_ h=>Ol Mz O) ae$ qL [16,17,18,19] 12 O (λ_ h=>M0 O) ae ?_;refine qL [15,16,17,18,19] 13 O (λ_ h=>M0 O) ae$ qL [15,16,17,18,19] 14 O (λ_ h=>M0 O) ae$ qL [16,17,18,19] 15 O (λ_ h=>SR O O (by omega)) ae$ qL [10,11,17,18,19] 9 O (λ_ h=>SR O O (by omega)) ae ?_;rw[show(((c++[x]).length:Int)-1)=((c.length:Nat):Int) by omega];refine qL [11,17,18,19] 10 O (λ_ h=>M9 Mz Tq O O (by omega)) ae$ qL [17,18,19] 11 O (λ_ hS=>LN U5 O O (Mn (cC.rd.ext hS) (show((c++[x]).map P9)[c.length]? =some (P9 x) by simp))) ae ?_;rw[show(((8-b1.length%8:Nat):Int)-(take:Int))=((8-b1.length%8-take:Nat):Int) by omega];refine qL [17,18,19] 16 O (λ_ h=>zep (8-b1.length%8-take) R O O (by omega) hR) ae ?_;rw[show valB e*R%256=valB e*R by omega];refine qL [18,19] 17 O (λ_ h=>zf6 O O (by omega) (by omega)) ae$ qL [19] 18 O (λ_ h=>M9 Mz Tq O O (by omega)) ae$ OY [19]$ qO 19$ M1 (i:=19) O O (NH Tq O O O (cC.ext ae) (by simp)) ?_
    rintro w4 ⟨dT,av⟩;refine⟨trivial,?_⟩
    rw[show((c++[x]).map P9).set (0+c.length*1) (.int .u8 ((x.toNat |||valB e*R:Nat):Int))=(c++[y]).map P9 by
     rw[Nat.zero_add,Nat.mul_one,List.map_append,List.map_append,List.set_append_right _ _ (by simp)]
     simp[P9,du]] at dT
    have aF:=av.Lg (ae.Lg aq) Gp;refine qE$ qN O$ Le O$ LU O$ Lt Sx O$ qV (Lj U3 O O aF O)$ Le O$ Mb O O$ LU O$ Lt Sx O$ Ls O (MY Md O O O aF (by simp)) ?_;rintro w5 ⟨aI,ak⟩;rw[show((b1.length:Int)+(take:Int))=(((b1++e).length:Nat):Int) by rw[List.length_append,nY];omega] at aI;replace aI:Lq w5 p [.slice (some ⟨g2,0,none⟩) (c++[x]).length c2,I ((b1++e).length:Int)] 286:=aI
    have fD:=dT.kp ak (λg hg e=>by
                         have:g2=g:=by simpa[Value.ownBlock] using hg
                         omega)
    refine Lf$ Li O$ Lu O O$ Np O O$ Lk O$ Ld ?_;rw[show((k:Int)-(take:Int))=((k-take:Nat):Int) by omega];refine(ih (k-take,.slice (some ⟨g2,0,none⟩) (c++[x]).length c2,b1++e) w5 ⟨by dsimp only;omega,⟨aI,?_,fC⟩,?_,?_,rg⟩ (by dsimp only;omega)).qb
    ·rw[hY];have e1:(c++[y]).length=(c++[x]).length:=by simp
     rw[e1];exact fD
    ·dsimp only;rw[bR,List.append_assoc]
     congr 1
     rw[<-he,show n-(k-take)=(n-k)+take by omega,NM]
     congr 2
     rw[Nat.div_div_eq_div_mul,<-Nat.pow_add,show k-take+take=k by omega]
    ·have A7:Kp (Y5 p (.slice (some ⟨g2,0,none⟩) (c++[x]).length c2)) w2 w5:=((hg.trans ae).kp.trans (av.Lv (λi e=> .inr (by rw[e];rfl)))).trans (ak.Lv (λi e=> .inl e));exact ao.It A7 (λi hi=>(rg i hi).symm)
   case mq=>
    refine Lp O (λh0=>?_)$ λh0=>?_
    ·rw[if_pos (by omega)] at hL;refine Li O$ Lu O O$ LU O$ Lt TT O$ qV (Lj Mz O O ai O)$ Lm O O (RN (cs:=[_]) (zs:=[Value.int .u8 0]) Mz Tq O (by kernel_rfl) O O O (by decide)) ?_;rintro _ w2 ⟨b2,rfl,⟨c6,ag,am⟩,cG⟩;refine Lm O O (pap Mz Tq O (by decide) O O (dJ.sl.ext ag) cG.rd (by intro c hc;simp at hc;subst hc;rfl) (by rw[LY];omega) (by rw[LY];omega)) ?_;rintro bv3 w3 ⟨cC,ax,gO,-⟩;have aq:=ax.Lg (ag.Lg ai) dJ.ne;refine LU O$ Lt TT O$ Ls O (MY SV O O (Sw cC) aq (by simp)) ?_;rintro w4 ⟨aF,av⟩;replace aF:Lq w4 p [bv3,I (b1.length:Int)] 286:=aF;refine Lf ?_
     have eR:bv3.ownBlock≠some p:=λe=>by
      rcases gO p e with e| e
      ·exact dJ.ne e
      ·have:=ag.size;omega
     refine(mn _ _ ⟨rfl,bv3,aF,?_,eR,?_,?_⟩).qb
     ·rw[<-hL,List.length_append,List.map_append];exact cC.kp av (λg hg e=>eR (e▸hg))
     ·exact aN.It ((ag.kp.trans (ax.Lv (λk e=> .inr e))).trans (av.Lv (λk e=> .inl e))) (λi hi=>(iA i hi).symm)
     ·intro i hi;rcases hi with e| e
      ·exact iA i (.inl e)
      ·rcases gO i e with e| e
       ·exact iA i (.inr e)
       ·have:=ag.size;exact .inr (by omega)
    ·rw[if_neg (by omega)] at hL;refine py ?_;exact(mn _ _ ⟨rfl,bv1,ai,by rw[<-hL];exact dJ.sl,dJ.ne,aN,iA⟩).qb
  ·have:k=0:=by omega
   subst this;refine Ln O$ ME Tryz.func163 O (⟨_,rfl,rfl,_,⟨bv1,?_,λ_=>Iff.rfl⟩,aN,iA⟩);rw[bR,Nat.sub_zero,Nat.pow_zero,Nat.div_one] at dJ;exact dJ
theorem z4I (v n:Nat)(hn:n<=64)(hv:v<2^n)(w:World):LP Tryz.prog 162 [Ly v,I (n:Int)] w λu w'=>u= .bool true/\w'=w:=by
 refine Lb (e:=[(0,_),(1,_)]) Tryz.func162 O Tryz.ntmps162 O O$ qN O$ Lw O$ qM O$ Le O$ Pa O O$ Le O$ Oh (λh1=>?_)$ λh1=>?_
 ·refine qS$ qS$ qS$ qS$ MU O O$ Lk O$ Lh Tryz.func162 O ?_;exact⟨_,rfl,rfl,rfl⟩
 ·refine Lu O O$ qV (Qg n (2^n) O O (by show n<=64;omega) O) ?_;rw[Nat.div_eq_of_lt hv];refine Nb O O$ M8 O O$ Lk O$ Lh Tryz.func162 O ?_;exact⟨_,rfl,by simp[resVal],rfl⟩
theorem O4 (h:TX w p bs F)(v n:Nat)(hn:n<=64)(hv:v<2^n)(hl:bs.length+n<=134217728):
  LP Tryz.prog 123 [ptr p 0,Ly v,I (n:Int)] w λu w'=>u=I 0/\WrR p F w w' (bs++bitsN n v):=by
 obtain⟨bv,hM,hF⟩:=id h
 have hB:=hM.Lg
 refine Lb (e:=[(0,_),(1,_),(2,_)]) Tryz.func123 O Tryz.ntmps123 O O$ qN O$ Lk O$ run_seq$ Lc$ qN O$ Le O$ qV (Ml YY O O)$ Lk O$ An O$ qN O$ Le O$ Mw O O$ Le O ?_
 refine Oh (λh1=>?_)$ λh1=>?_
 ·omega
 ·refine Le O$ MH O O$ M8 O O$ Le O$ Oh (λh2=>?_)$ λh2=>?_
  ·omega
  ·refine Lu O O$ LD zcp O (z4I v n hn hv w) ?_;rintro _ w ⟨rfl,rfl⟩;refine qV ((by first|exact Mh O|exact NL O)) ?_;refine M8 O O$ Lk O$ An O$ qN O$ Lu O O$ LU O$ Lt Sx O$ qV (Lj U3 O O hB O)$ Np O O$ MH O O$ Lk O$ LS.qb (e:=[(0,_),(1,_),(2,_),(6,_),(23,_)]) ?_;refine Lp O (λh3=>?_)$ λh3=>?_
   ·omega
   ·refine py$ Ld$ qN O$ Lu O O$ Le O$ LD zdv O (z7n h v n hn hv (by omega)) ?_;rintro _ w1 ⟨rfl,hR⟩;refine qM O$ Lk O$ Lh Tryz.func123 O ?_;exact⟨_,rfl,rfl,hR⟩
theorem Sd (h:TX w p bs F):LP Tryz.prog 124 [ptr p 0] w λu w'=>u= .tuple #[S (LK bs),I 0]/\w'=w:=by
 obtain⟨bv,hM,hF⟩:=h
 have hB:=hM.Lg
 have hS:=hM.sl
 refine Lb (e:=[(0,_)]) Tryz.func124 O Tryz.ntmps124 O O$ qN O$ Lw O$ Lk O$ run_seq$ qN O$ Le O$ qV (Ml YY O O)$ Lf$ An O$ py$ qN O$ Le O$ LU O ?_
 refine Lt TT O$ qV (Lj Mz O O hB O) ?_
 rcases hS.shape with⟨rfl,h0⟩|⟨g,cap,rfl,jt⟩
 ·have hn:LK bs=[]:=List.eq_nil_of_length_eq_zero h0;rw[hn];refine qV (zdn Mz U5 U9 O)$ Lw O$ Lk O$ Lh Tryz.func124 O ?_;exact⟨_,rfl,rfl,rfl⟩
 ·refine qV (zcl (l:=LK bs) Mz U5 U9 O hS)$ Lw O$ Lk O$ Lh Tryz.func124 O ?_;exact⟨_,rfl,rfl,rfl⟩
theorem R1 (h:TX w p bs F):LP Tryz.prog 127 [ptr p 0] w λu w'=>u=I (bs.length:Int)/\w'=w:=by
 obtain⟨bv,hM,hF⟩:=h
 have hB:=hM.Lg
 refine Lb (e:=[(0,_)]) Tryz.func127 O Tryz.ntmps127 O O$ qN O$ Lk O$ run_seq$ qN O$ Le O$ qV (Ml YY O O)$ Lf$ An O$ py$ qN O$ Le O$ LU O$ Lt Sx O ?_
 refine qV (Lj U3 O O hB O)$ Lk O$ Lh Tryz.func127 O ?_
 exact⟨_,rfl,rfl,rfl⟩
end
def Py (w:World)(r:Nat)(s:Bytes)(a:Nat):Prop:=Lq w r [S s,I (a:Int)] 262/\a<=8*s.length/\s.length<=1000000000
section
variable {w:World}{r:Nat}{s:Bytes}{a:Nat}
theorem Sz (s:Bytes)(hs:s.length<=1000000000)(w:World):LP Tryz.prog 144 [S s] w λv w'=>∃r,v=ptr r 0/\Py w' r s 0/\Ext w w'/\w.heap.size<=r:=by
 refine Lb (e:=[(0,_)]) Tryz.func144 O Tryz.ntmps144 O O$ qN O$ Lw O$ qM O$ Le O$ qV (O6 (cs:=[_,_]) zcR O zc3 O O)$ Lm O O (Nc O O) ?_
 rintro _ w1 ⟨r,rfl,hr,hx,hB⟩
 refine Lk O$ Lh Tryz.func144 O ?_
 exact⟨_,rfl,r,rfl,⟨hB,Nat.zero_le _,hs⟩,hx,by omega⟩
theorem PO (h:Py w r s a):LP Tryz.prog 108 [ptr r 0] w λv w'=>v=I (a:Int)/\w'=w:=by
 obtain⟨hB,h1,h2⟩:=h
 refine Lb (e:=[(0,_)]) Tryz.func108 O Tryz.ntmps108 O O$ qN O$ Lk O$ run_seq$ qN O$ Le O$ qV (Ml Pn O O)$ Lf$ An O$ py$ qN O$ Le O$ LU O$ Lt QB O ?_
 refine qV (Lj U3 O O hB O)$ Lk O$ Lh Tryz.func108 O ?_
 exact⟨_,rfl,rfl,rfl⟩
theorem z5h (h:Py w r s a):LP Tryz.prog 205 [ptr r 0] w λv w'=>v=I ((8*s.length-a:Nat):Int)/\Ext w w':=by
 obtain⟨hB,h1,h2⟩:=h
 refine Lb (e:=[(0,_)]) Tryz.func205 O Tryz.ntmps205 O O$ qN O$ Lk O$ run_seq$ qN O$ Le O$ qV (Ml Pn O O) ?_
 have hg:=Ext.LC w
 refine Lf$ An O$ py$ run_seq$ N7 (λw'=>Ext w w') O$ LA 0 O O (hg)$ Ll 1 O (Mo O) hg$ Ll 2 O (LV Yr O) hg$ qT 3 O (λ_ h=>Lj U9 O O (h.Lg hB) O) hg$ Ll 4 O (RK U9 O) hg$ Ll 5 O (T6 O O (by omega)) hg$ LA 6 O O (hg)$ Ll 7 O (Mo O) hg$ Ll 8 O (LV QB O) hg ?_
 refine qT 9 O (λ_ h=>Lj U3 O O (h.Lg hB) O) hg$ Ll 10 O (SR O O (by omega)) hg$ Ll 11 O (Ni O) hg$ qE$ Lh Tryz.func205 O (⟨_,rfl,?_,hg⟩)
 simp only[resVal]
 congr 1
 omega
theorem Ux (h:Py w r s a)(k:Nat)(hk:k<=8*s.length):LP Tryz.prog 145 [ptr r 0,I (k:Int)] w λv w'=>v=I 0/\Py w' r s k/\Kp (λi=>i=r) w w':=by
 obtain⟨hB,h1,h2⟩:=h
 refine Lb (e:=[(0,_),(1,_)]) Tryz.func145 O Tryz.ntmps145 O O$ qN O$ Lk O$ run_seq$ Lc$ qN O$ Le O$ qV (Ml Pn O O)$ Lk O$ An O$ qN O$ Le O$ Mw O O$ Le O ?_
 refine Oh (λc1=>?_)$ λc1=>?_
 ·omega
 ·refine Lu O O$ LU O$ Lt Yr O$ qV (Lj U9 O O hB O)$ qV (RK U9 O)$ qV (T6 O O (by omega))$ MH O O$ M8 O O$ Lk O$ Lp O (λc2=>?_)$ λc2=>?_
  ·omega
  ·refine py$ Ld$ qN O$ Lu O O$ LU O$ Lt QB O$ Ls O (MY Md O O O hB (by simp)) ?_;rintro w1 ⟨ai,aN⟩;refine qM O$ Lk O$ Lh Tryz.func145 O ?_;exact⟨_,rfl,rfl,⟨ai,hk,h2⟩,aN⟩
theorem z2f {b2 b6 V n:Nat}(h:Py w r s a)(h2:Lq w b2 [ptr r 0] 158)(h6:Lq w b6 [Ly V] 41)(hn:1<=n)(rh:n<=8-a%8)(hl:a+n<=8*s.length)(hV:V*2^n+2^n<=18446744073709551616)(d1:b6≠r)(d2:b2≠r)(d3:b2≠b6):
  LP Tryz.prog 206 [I (n:Int),ptr b2 0,ptr b6 0] w λu w'=>u= .tuple #[]/\Py w' r s (a+n)/\Lq w' b6 [Ly (V*2^n+valB (((LF s).drop a).take n))] 41/\Lq w' b2 [ptr r 0] 158/\Kp (λk=>k=b6\/k=r) w w':=by
 obtain⟨hB,ha,hs⟩:=h
 have jr:a&&&7=a%8:=Nat.and_two_pow_sub_one_eq_mod a 3
 obtain⟨c,hc⟩:∃c,s[a / 8]? =some c:=⟨_,List.getElem?_eq_getElem (by omega)⟩
 have hp:=z2x hc rh
 obtain⟨pc,kV⟩:∃pc,valB (((LF s).drop a).take n)=pc:=⟨_,rfl⟩
 have eQ:pc<2^n:=by
  rw[<-kV];have h1:=N1 (((LF s).drop a).take n);rw[List.length_take,List.length_drop,bitsT_length,Nat.min_eq_left (by omega)] at h1;exact h1
 rw[kV] at hp⊢
 have Ke:=c.toNat_lt
 obtain⟨rm,yI⟩:∃rm,8-a%8=rm:=⟨_,rfl⟩
 rw[yI] at hp rh
 have iG:c.toNat&&&(2^rm-1)=c.toNat%2^rm:=Nat.and_two_pow_sub_one_eq_mod _ _
 obtain⟨R,hR⟩:∃R,2^rm=R:=⟨_,rfl⟩
 have tG:1<=R/\R<=256:=by
  rw[<-hR];exact⟨Nat.two_pow_pos _,by have:=Nat.pow_le_pow_right (show 0<2 by decide) (show rm<=8 by omega);simpa using this⟩
 rw[hR] at hp iG
 have m6:c.toNat%R<=c.toNat:=Nat.mod_le _ _
 have Gs:s.getD (a / 8) 0=c:=by rw[List.getD_eq_getElem?_getD,hc];rfl
 refine Lb (e:=[(0,_),(1,_),(2,_)]) Tryz.func206 O Tryz.ntmps206 O O$ qN O$ qV ((by first|exact Lj Pn O O hB O|exact Lj Pn O O h2 O)) ?_
 refine LU O$ Lt QB O$ qV ((by first|exact Lj U3 O O hB O|exact Lj U3 O O h2 O)) ?_
 refine qV (SO O O (by omega) (by omega)) ?_
 rw[jr]
 refine Np O O ?_
 rw[show(8-((a%8:Nat):Int))=((rm:Nat):Int) by omega]
 have hg:=Ext.LC w
 refine Lk O$ run_seq$ N7 (λw'=>Ext w w') O$ qT 0 O (λ_ h=>(by first|exact Lj Pn O O (h.Lg hB) O|exact Lj Pn O O (h.Lg h2) O)) hg ?_
 refine Ll 1 O (Mo O) hg$ Ll 2 O (LV Yr O) hg$ qT 3 O (λ_ h=>(by first|exact Lj U9 O O (h.Lg hB) O|exact Lj U9 O O (h.Lg h2) O)) hg ?_
 refine qT 4 O (λ_ h=>(by first|exact Lj Pn O O (h.Lg hB) O|exact Lj Pn O O (h.Lg h2) O)) hg ?_
 refine Ll 5 O (Mo O) hg$ Ll 6 O (LV QB O) hg$ qT 7 O (λ_ h=>(by first|exact Lj U3 O O (h.Lg hB) O|exact Lj U3 O O (h.Lg h2) O)) hg ?_
 refine Ll 8 O (SC O O (by omega)) hg$ LA 11 O O (hg)$ LA 15 O O (hg)$ LA 16 O O (hg)$ Ll 17 O (SR O O (by omega)) hg ?_
 rw[show((a:Int) / 8)=((a / 8:Nat):Int) by omega]
 refine Ll 9 O (zed U9 O O (by omega)) hg$ Ll 10 O ((by first|exact z4t O U5 U3 (by decide)|exact M3 O U5 U3 (by omega))) hg ?_
 rw[Gs]
 refine Ll 12 O (zfk rm R O O (by omega) hR (by omega)) hg ?_
 rw[show(1*(R:Int))=((R:Nat):Int) by omega]
 refine Ll 13 O (SR O O (by omega)) hg ?_
 rw[show((R:Int)-1)=((R-1:Nat):Int) by omega]
 refine Ll 14 O (SO O O (by omega) (by omega)) hg ?_
 rw[iG]
 rw[show((rm:Int)-(n:Int))=((rm-n:Nat):Int) by omega]
 refine Ll 18 O (Qg (rm-n) (2^(rm-n)) O O (by show rm-n<=64;omega) O) hg ?_
 rw[<-hp]
 refine Ll 19 O (Ni O) hg$ qE$ LS.qb (e:=[(0,_),(1,_),(2,_),(5,_)]) ?_
 refine qN O ?_
 have ai:=hg.Lg hB
 have EA:=hg.Lg h2
 have yJ:=hg.Lg h6
 obtain⟨N,hN⟩:∃N,2^n=N:=⟨_,rfl⟩
 rw[hN] at hV eQ
 have Kf:1<=N:=by rw[<-hN];exact Nat.two_pow_pos _
 obtain⟨M,hM⟩:∃M,V*N=M:=⟨_,rfl⟩
 rw[hM] at hV
 have nZ:M |||pc=M+pc:=by
  have:=Nat.two_pow_add_eq_or_of_lt (i:=n) (b:=pc) (by rw[hN];exact eQ) V;rw[hN,Nat.mul_comm N V,hM] at this;exact this.symm
 rw[hN,hM]
 have ri:n<=64:=by omega
 refine qV ((by first|exact Lj MP O O ai O|exact Lj MP O O EA O|exact Lj MP O O yJ O)) ?_
 refine Le O$ qV (Na n N O O ri hN) ?_
 rw[hM,Nat.mod_eq_of_lt (show M<18446744073709551616 by omega)]
 refine Le O$ qV ((by first|exact Mc O U3 MP (by omega)|exact Ny O U3 MP)) ?_
 refine qV (Xi O O (by omega) (by omega)) ?_
 rw[nZ]
 refine Ls O (MY QA O O O yJ (by simp)) ?_
 rintro w2 ⟨A8,ao⟩
 have am:=ao.Lg ai (Ne.symm d1)
 have A9:=ao.Lg EA d3
 refine Lf$ Li O$ qV ((by first|exact Lj Pn O O am O|exact Lj Pn O O A9 O|exact Lj Pn O O A8 O)) ?_
 refine LU O$ Lt QB O$ qV ((by first|exact Lj U3 O O am O|exact Lj U3 O O A9 O|exact Lj U3 O O A8 O)) ?_
 refine Le O$ Mb O O$ LU O$ Lt QB O$ Ls O (MY Md O O O am (by simp)) ?_
 rintro w3 ⟨aq,ax⟩
 rw[show((a:Int)+(n:Int))=((a+n:Nat):Int) by omega] at aq
 refine Lf$ ME Tryz.func206 O ?_
 exact⟨_,rfl,rfl,⟨aq,hl,hs⟩,ax.Lg A8 d1,ax.Lg A9 d2,(hg.kp.trans (ao.Lv (λk e=> .inl e))).trans (ax.Lv (λk e=> .inr e))⟩
theorem R6 (h:Py w r s a)(n:Nat)(hn:n<=64):
  LP Tryz.prog 167 [ptr r 0,I (n:Int)] w λv w'=>(a+n<=8*s.length/\v= .tuple #[Ly (valB (((LF s).drop a).take n)),I 0]/\Py w' r s (a+n)/\Kp (λk=>k=r) w w')\/(8*s.length<a+n/\v= .tuple #[Ly 0,I 4]/\Ext w w'):=by
 have gP:=h.1.lt
 obtain⟨-,ha,hs⟩:=id h
 refine Lb (e:=[(0,_),(1,_)]) Tryz.func167 O Tryz.ntmps167 O O$ qN O$ Lm O O (Nc O (cs:=[ptr r 0]) O) ?_
 rintro _ w1 ⟨b2,rfl,c6,ad,am⟩
 have h1:Py w1 r s a:=⟨ad.Lg h.1,h.2⟩
 refine Lw O$ Lk O$ run_seq$ Lc$ qN O$ qV (Lj Pn O O am O)$ qV (Ml Pn O O)$ Lk O$ An O$ qN O$ Le O$ Mw O O$ Le O$ Oh (λc1=>?_)$ λc1=>?_
 ·omega
 ·refine Le O$ MH O O$ M8 O O$ Lk O$ Lp O (λc2=>?_)$ λc2=>?_
  ·omega
  ·refine qN O$ Le O$ qV (Lj Pn O O am O)$ LD ze5 O (z5h h1) ?_;rintro _ w2 ⟨rfl,ag⟩;refine MH O O$ Lk O$ Lp O (λc3=>?_)$ λc3=>?_
   ·refine qN O$ Lw O$ Lk O$ Lh Tryz.func167 O ?_;exact⟨_,rfl,.inr ⟨by omega,rfl,ad.trans ag⟩⟩
   ·refine py$ Ld$ qN O$ Lm O O (NJ (cs:=[_]) QA O) ?_;rintro _ w3 ⟨b6,rfl,m7,ah,aR⟩;replace aR:Lq w3 b6 [Ly 0] 41:=aR;have aL:=ag.trans ah;have db:=ad.trans aL;have m5:=ad.size;have m8:=ag.size;have gy:=am.lt;have ct:a+n<=8*s.length:=by omega
    refine qM O$ qV (Z9 (first:=[]) (caps:=[.tmp 2,.tmp 6]) O O)$ Lk O$ run_seq$ Lc$ Nj (α:=Nat) (n) (λk=>[(1,I (k:Int)),(2,ptr b2 0),(6,ptr b6 0),(7,.func (.func 206) #[] #[ptr b2 0,ptr b6 0])]) (λk w'=>k<=n/\Py w' r s (a+(n-k))/\Lq w' b6 [Ly (valB (((LF s).drop a).take (n-k)))] 41/\Lq w' b2 [ptr r 0] 158/\Kp (λi=>i=r) w w') (λk=>k) ?hI ?hround
    case hI=>exact⟨Nat.le_refl _,⟨by rw[Nat.sub_self];exact db.Lg h.1,by omega,hs⟩,by rw[Nat.sub_self];exact aR,aL.Lg am,db.kp⟩
    case hround=>
     rintro k w4 ⟨hk,fE,rj,Aa,av⟩ ih;have Ab:=fE.1
     try dsimp only
     refine run_seq$ qN O$ Le O$ MH O O$ Lf$ Lp O (λaV=>?_)$ λaV=>?_
     ·obtain⟨p,hp⟩:∃p,a+(n-k)=p:=⟨_,rfl⟩;rw[hp] at Ab fE;have jr:p&&&7=p%8:=Nat.and_two_pow_sub_one_eq_mod p 3;obtain⟨take,js⟩:∃take,min k (8-p%8)=take:=⟨_,rfl⟩;have rf:1<=take/\take<=k/\take<=8-p%8:=by omega
      refine py$ Lc$ qN O$ Le O$ qV ((by first|exact Lj Pn O O Aa O|exact Lj Pn O O Ab O)) ?_;refine LU O$ Lt QB O$ qV ((by first|exact Lj U3 O O Aa O|exact Lj U3 O O Ab O)) ?_;refine qV (SO O O (by omega) (by omega)) ?_;rw[jr];refine Np O O$ qV (ymi O O) ?_;rw[show min (k:Int) (8-((p%8:Nat):Int))=((take:Nat):Int) by omega];obtain⟨V,hV⟩:∃V,valB (((LF s).drop a).take (n-k))=V:=⟨_,rfl⟩;rw[hV] at rj
      have EB:V*2^take+2^take<=18446744073709551616:=by
       have h1:=N1 (((LF s).drop a).take (n-k));rw[hV,List.length_take,List.length_drop,bitsT_length,Nat.min_eq_left (by omega)] at h1;have h2:(V+1)*2^take<=2^(n-k)*2^take:=Nat.mul_le_mul_right _ h1;rw[<-Nat.pow_add,Nat.add_mul,Nat.one_mul] at h2;have h3:=Nat.pow_le_pow_right (show 0<2 by decide) (show n-k+take<=64 by omega);have h4:(2:Nat)^64=18446744073709551616:=by decide
       omega
      refine Lw O$ qM O$ Lu O O$ MK O O (NW zeb O O) (z2f fE Aa rj rf.1 rf.2.2 (by omega) EB (by omega) (by omega) (by omega)) ?_;rintro _ w5 ⟨rfl,rk,Gt,Gu,ak⟩;refine Lf$ Li O$ Lu O O$ Np O O$ Lk O$ Ld ?_;rw[show((k:Int)-(take:Int))=((k-take:Nat):Int) by omega];refine(ih (k-take) w5 ⟨by omega,?_,?_,Gu,?_⟩ (by omega)).qb
      ·rw[show a+(n-(k-take))=p+take by omega];exact rk
      ·rw[show n-(k-take)=(n-k)+take by omega,List.take_add,NK,hV,List.drop_drop,hp];have hl:(((LF s).drop p).take take).length=take:=by rw[List.length_take,List.length_drop,bitsT_length];omega
       rw[hl];exact Gt
      ·exact av.It ak (λi hi=>hi.elim (λe=> .inl (by omega)) .inr)
     ·have:k=0:=by omega
      subst this;rw[Nat.sub_zero] at fE rj;refine Ln O$ qN O$ qV (Lj MP O O rj O)$ Lw O$ Lk O$ Lh Tryz.func167 O ?_;exact⟨_,rfl,.inl ⟨ct,rfl,fE,av⟩⟩
end
def Ma (v:Nat):Nat:=if v=0 then 0 else Nat.log2 v+1
theorem Ss {v:Nat}:v<2^Ma v:=by
 unfold Ma
 split
 ·subst_vars;simp
 ·exact Nat.lt_log2_self
theorem VY {v:Nat}(h:v≠0):2^(Ma v-1)<=v:=by
 unfold Ma
 rw[if_neg h,Nat.add_sub_cancel]
 exact Nat.log2_self_le h
theorem z2R {v n:Nat}(h1:2^n<=v)(h2:v<2^(n+1)):Ma v=n+1:=by
 have hp:=Nat.two_pow_pos n
 have h0:v≠0:=by omega
 unfold Ma
 rw[if_neg h0]
 have:=(Nat.log2_eq_iff h0).2 ⟨h1,h2⟩
 omega
theorem N0 {v n:Nat}(h:v<2^n):Ma v<=n:=by
 by_cases h0:v=0
 ·subst h0;simp[Ma]
 ·have h1:=VY h0;have h2:2^(Ma v-1)<2^n:=by omega
  have h3:=(Nat.pow_lt_pow_iff_right (by decide:1<2)).1 h2;have:Ma v≠0:=by unfold Ma;rw[if_neg h0];omega
  omega
def Nt (v K:Nat):Nat×Nat:=
 let s:=Ma (K-1)
 let m:=2^s-K
 if v<m then(v,s-1) else(v+m,s)
def MI (v K:Nat):List Bool:=bitsN (Nt v K).2 (Nt v K).1
theorem QJ {K:Nat}(hK:1<=K):K<=2^Ma (K-1)/\(1<K->1<=Ma (K-1)/\2^(Ma (K-1)-1)+1<=K):=by
 have h1:=Ss (v:=K-1)
 refine⟨by omega,λh=>?_⟩
 have h2:=VY (v:=K-1) (by omega)
 refine⟨?_,by omega⟩
 unfold Ma
 rw[if_neg (by omega)];omega
theorem z4E {v K:Nat}(h:v<K):(Nt v K).1<2^(Nt v K).2:=by
 obtain⟨h1,h2⟩:=QJ (K:=K) (by omega)
 unfold Nt
 dsimp only
 split
 ·rename_i hm
  by_cases hK:K=1
  ·subst hK;simp[Ma] at hm
  ·obtain⟨h3,h4⟩:=h2 (by omega);have:2^Ma (K-1)=2*2^(Ma (K-1)-1):=by rw[<-Nat.pow_succ',show(Ma (K-1)-1).succ=Ma (K-1) by omega]
   dsimp only;omega
 ·dsimp only;omega
theorem z1s {v K:Nat}(h:v<K)(hK:1<K)(rest:List Bool):
  let s:=Ma (K-1)
  let m:=2^s-K
  1<=s/\s-1<=(MI v K).length/\
  ((valB ((MI v K).take (s-1))<m/\(MI v K).length=s-1/\valB ((MI v K).take (s-1))=v)\/
   (m<=valB ((MI v K).take (s-1))/\(MI v K).length=s/\2*valB ((MI v K).take (s-1))+valB ((MI v K).drop (s-1))=v+m)):=by
 obtain⟨h1,h2⟩:=QJ (K:=K) (by omega)
 obtain⟨h3,h4⟩:=h2 hK
 have h5:2^Ma (K-1)=2*2^(Ma (K-1)-1):=by rw[<-Nat.pow_succ',show(Ma (K-1)-1).succ=Ma (K-1) by omega]
 dsimp only
 unfold MI Nt
 dsimp only
 refine⟨h3,?_⟩
 split
 ·rename_i hm
  dsimp only;rw[bitsN_length,List.take_of_length_le (by simp),Me,Nat.mod_eq_of_lt (by omega)];exact⟨Nat.le_refl _,.inl ⟨hm,rfl,rfl⟩⟩
 ·rename_i hm
  dsimp only;rw[bitsN_length]
  have e:bitsN (Ma (K-1)) (v+(2^Ma (K-1)-K))=bitsN (Ma (K-1)-1) ((v+(2^Ma (K-1)-K)) / 2^1)++bitsN 1 (v+(2^Ma (K-1)-K)):=by
   rw[<-NM,show Ma (K-1)-1+1=Ma (K-1) by omega]
  rw[e,List.take_left' (by simp),List.drop_left' (by simp),Me,Me,Nat.mod_eq_of_lt (by omega)];exact⟨by omega,.inr ⟨by omega,rfl,by omega⟩⟩
inductive Cd where
 |unary
 |gamma
 |zeta (k:Nat)
def Cd.zeros:Cd->Nat->Nat
 | .unary,v=>v
 | .gamma,v=>Nat.log2 (v+1)
 | .zeta k,v=>Nat.log2 (v+1) / k
def Cd.rest:Cd->Nat->List Bool
 | .unary,_=>[]
 | .gamma,v=>bitsN (Nat.log2 (v+1)) (v+1-2^Nat.log2 (v+1))
 | .zeta k,v=>let h:=Nat.log2 (v+1) / k;MI (v+1-2^(h*k)) (2^(h*k)*2^k-2^(h*k))
def Cd.enc (c:Cd)(v:Nat):List Bool:=List.replicate (c.zeros v) false++true::c.rest v
theorem Ri {v:Nat}(h:v<=281474976710654):2^Nat.log2 (v+1)<=v+1/\v+1<2^(Nat.log2 (v+1)+1)/\Nat.log2 (v+1)<=47:=by
 have h1:=Nat.log2_self_le (n:=v+1) (by omega)
 have h2:=Nat.lt_log2_self (n:=v+1)
 refine⟨h1,h2,?_⟩
 have h3:2^Nat.log2 (v+1)<2^48:=by
  have:(2:Nat)^48=281474976710656:=by decide
  omega
 have:=(Nat.pow_lt_pow_iff_right (by decide:1<2)).1 h3
 omega
theorem Tm {k v:Nat}(hk:1<=k):let h:=Nat.log2 (v+1) / k;2^(h*k)<=v+1/\v+1-2^(h*k)<2^(h*k)*2^k-2^(h*k)/\1<=2^(h*k)*2^k-2^(h*k):=by
 dsimp only
 have h1:=Nat.log2_self_le (n:=v+1) (by omega)
 have h2:=Nat.lt_log2_self (n:=v+1)
 have h3:Nat.log2 (v+1) / k*k<=Nat.log2 (v+1):=Nat.div_mul_le_self _ _
 have h4:Nat.log2 (v+1)+1<=Nat.log2 (v+1) / k*k+k:=by
  have:=Nat.div_add_mod (Nat.log2 (v+1)) k;have:=Nat.mod_lt (Nat.log2 (v+1)) (show 0<k by omega);have e:=Nat.mul_comm k (Nat.log2 (v+1) / k);omega
 have h5:2^(Nat.log2 (v+1) / k*k)<=2^Nat.log2 (v+1):=Nat.pow_le_pow_right (by decide) h3
 have h6:2^(Nat.log2 (v+1)+1)<=2^(Nat.log2 (v+1) / k*k+k):=Nat.pow_le_pow_right (by decide) h4
 rw[Nat.pow_add 2 (Nat.log2 (v+1) / k*k) k] at h6
 have h7:2<=2^k:=by
  have:=Nat.pow_le_pow_right (show 0<2 by decide) hk
  simpa using this
 have h8:2^(Nat.log2 (v+1) / k*k)*2<=2^(Nat.log2 (v+1) / k*k)*2^k:=Nat.mul_le_mul_left _ h7
 have h9:=Nat.two_pow_pos (Nat.log2 (v+1) / k*k)
 omega
theorem Tg {x k:Nat}(h:2^k<=x):Ma x=Ma (x / 2^k)+k:=by
 have hk:=Nat.two_pow_pos k
 have hy:x / 2^k≠0:=by have:=Nat.div_pos h hk;omega
 have h1:=VY hy
 have h2:=Ss (v:=x / 2^k)
 have h0:Ma (x / 2^k)≠0:=by unfold Ma;rw[if_neg hy];omega
 obtain⟨n,hn⟩:∃n,Ma (x / 2^k)=n+1:=⟨Ma (x / 2^k)-1,by omega⟩
 rw[hn] at h1 h2⊢
 rw[Nat.add_sub_cancel] at h1
 have h3:2^(n+k)<=x:=by
  rw[Nat.pow_add];exact Nat.le_trans (Nat.mul_le_mul_right _ h1) (Nat.div_mul_le_self _ _)
 have h4:x<2^(n+k+1):=by
  rw[show n+k+1=(n+1)+k by omega,Nat.pow_add];exact(Nat.div_lt_iff_lt_mul hk).1 h2
 rw[z2R h3 h4];omega
def zac:Bytes:=[0,1,2,2,3,3,3,3,4,4,4,4,4,4,4,4,5,5,5,5,5,5,5,5,5,5,5,5,5,5,5,5,6,6,6,6,6,6,6,6,6,6,6,6,6,6,6,6,6,6,6,6,6,6,6,6,6,6,6,6,6,6,6,6,7,7,7,7,7,7,7,7,7,7,7,7,7,7,7,7,7,7,7,7,7,7,7,7,7,7,7,7,7,7,7,7,7,7,7,7,7,7,7,7,7,7,7,7,7,7,7,7,7,7,7,7,7,7,7,7,7,7,7,7,7,7,7,7,8,8,8,8,8,8,8,8,8,8,8,8,8,8,8,8,8,8,8,8,8,8,8,8,8,8,8,8,8,8,8,8,8,8,8,8,8,8,8,8,8,8,8,8,8,8,8,8,8,8,8,8,8,8,8,8,8,8,8,8,8,8,8,8,8,8,8,8,8,8,8,8,8,8,8,8,8,8,8,8,8,8,8,8,8,8,8,8,8,8,8,8,8,8,8,8,8,8,8,8,8,8,8,8,8,8,8,8,8,8,8,8,8,8,8,8,8,8,8,8,8,8,8,8,8,8,8,8]
theorem z7q:zac.length=256:=by decide+kernel
theorem zfE:∀x:Fin 256,(zac.getD x.val 0).toNat=Ma x.val:=by decide+kernel
section
variable {w:World}
theorem PV (x:Nat)(hx:x<18446744073709551616)(w:World):LP Tryz.prog 164 [Ly x] w λv w'=>v=I (Ma x:Int)/\w'=w:=by
 refine Lb (e:=[(0,_)]) Tryz.func164 O Tryz.ntmps164 O O$ qN O$ Lk O$ run_seq$ qN O$ Le O$ Pa O O$ Lf$ M6 (λe' w'=>w=w'/\∃x1 n1:Nat,e'=[(0,Ly x1),(2,I (n1:Int))]/\Ma x=Ma x1+n1/\x1<4294967296/\n1<=32) ?cD$ λcD=>?cQ
 case cD=>
  rintro e' w' ⟨rfl,x1,n1,rfl,h1,h2,h3⟩;refine run_seq$ qN O$ Le O$ Pa O O$ Lf$ M6 (λe' w'=>w=w'/\∃x2 n2:Nat,e'=[(0,Ly x2),(2,I (n2:Int))]/\Ma x=Ma x2+n2/\x2<65536/\n2<=48) ?e8$ λe8=>?eS
  case e8=>
   rintro e' w' ⟨rfl,x2,n2,rfl,h4,h5,h6⟩;refine run_seq$ qN O$ Le O$ Pa O O$ Lf$ M6 (λe' w'=>w=w'/\∃x3 n3:Nat,e'=[(0,Ly x3),(2,I (n3:Int))]/\Ma x=Ma x3+n3/\x3<256/\n3<=56) ?au$ λau=>?dz
   case au=>
    rintro e' w' ⟨rfl,x3,n3,rfl,h7,h8,h9⟩;have dj:=zfE ⟨x3,h8⟩;dsimp only at dj;have ko:Ma x3<=8:=N0 (by omega);refine qN O$ Lu O O$ qV (z7M O MP U5) ?_;rw[Nat.mod_eq_of_lt h8];refine qV (zed (l:=zac) U9 O O (by rw[z7q];exact h8)) ?_;rw[dj];refine qV ((by first|exact z4t O U5 U3 (by decide)|exact M3 O U5 U3 (by omega))) ?_;refine Mb O O$ Lk O$ Lh Tryz.func164 O ?_;exact⟨_,rfl,by simp only[resVal];congr 1;omega,rfl⟩
   case dz=>
    refine Lp O (λhc=>?_)$ λhc=>?_
    ·refine qN O$ Le O$ qV (Qg 8 256 O O (by decide) O)$ Lk O$ Li O$ Le O$ Mb O O$ Lk O ((au _ _ ⟨rfl,x2 / 256,n2+8,rfl,?_,?_,?_⟩).qb)
     ·have e1:=Tg (x:=x2) (k:=8) (by omega);rw[show x2 / 2^8=x2 / 256 from rfl] at e1;omega
     ·omega
     ·omega
    ·refine py ?_;exact(au _ _ ⟨rfl,x2,n2,rfl,h4,by omega,by omega⟩).qb
  case eS=>
   refine Lp O (λhc=>?_)$ λhc=>?_
   ·refine qN O$ Le O$ qV (Qg 16 65536 O O (by decide) O)$ Lk O$ Li O$ Le O$ Mb O O$ Lk O ((e8 _ _ ⟨rfl,x1 / 65536,n1+16,rfl,?_,?_,?_⟩).qb)
    ·have e1:=Tg (x:=x1) (k:=16) (by omega);rw[show x1 / 2^16=x1 / 65536 from rfl] at e1;omega
    ·omega
    ·omega
   ·refine py ?_;exact(e8 _ _ ⟨rfl,x1,n1,rfl,h1,by omega,by omega⟩).qb
 case cQ=>
  refine Lp O (λhc=>?_)$ λhc=>?_
  ·refine qN O$ Le O$ qV (Qg 32 4294967296 O O (by decide) O)$ Lk O$ Li O$ Lk O ((cD _ _ ⟨rfl,x / 4294967296,32,rfl,?_,?_,?_⟩).qb)
   ·exact Tg (x:=x) (k:=32) (by omega)
   ·omega
   ·omega
  ·refine py ?_;exact(cD _ _ ⟨rfl,x,0,rfl,by omega,by omega,by omega⟩).qb
/-! ### Codes -/
def Og:Cd->List Value
 | .unary=>[.int .u8 0,Ly 0]
 | .gamma=>[.int .u8 1,Ly 0]
 | .zeta k=>[.int .u8 3,Ly k]
abbrev YN (c:Cd):Value:= .agg (Og c).toArray
def Cd.My:Cd->Prop
 | .zeta k=>1<=k/\k<=16
 |_=>True
def Cd.most:Cd->Nat
 | .unary=>65535
 |_=>281474976710654
def Cd.p0:Cd->Nat->Nat×Nat
 | .unary,_=>(0,0)
 | .gamma,v=>(v+1-2^Nat.log2 (v+1),Nat.log2 (v+1))
 | .zeta k,v=>let h:=Nat.log2 (v+1) / k;Nt (v+1-2^(h*k)) (2^(h*k)*2^k-2^(h*k))
theorem Qb (c:Cd)(hc:c.My)(w:World):LP Tryz.prog 183 [YN c] w λv w'=>v=I 0/\Ext w w':=by
 cases c with
 | unary =>
   refine Lb (e:=[(0,_)]) Tryz.func183 O Tryz.ntmps183 O O$ qN O$ Lm O O (Nc O (cs:=[.int .u8 0,Ly 0]) O) ?_;rintro _ w1 ⟨b1,rfl,bR,ad,ai⟩;refine Lw O$ qM O$ Lk O$ run_seq$ qN O$ Lt O0 O$ qV (Lj U5 O O ai O)$ Lf$ Lc$ run_seq$ qN O$ Nb O O$ Ns$ Lk O ?_;refine Lr O$ py$ Lr O$ Li O$ Lt Sn O$ qV (Lj MP O O ai O)$ Nb O O$ Ns$ Lk O$ Ld$ run_seq$ qN O$ Le O$ qV ((by first|exact Mh O|exact NL O)) ?_;refine Lf$ An O$ py$ qN O$ Lk O$ Lh Tryz.func183 O ?_
   exact⟨_,rfl,rfl,ad⟩
 | gamma =>
   refine Lb (e:=[(0,_)]) Tryz.func183 O Tryz.ntmps183 O O$ qN O$ Lm O O (Nc O (cs:=[.int .u8 1,Ly 0]) O) ?_;rintro _ w1 ⟨b1,rfl,bR,ad,ai⟩;refine Lw O$ qM O$ Lk O$ run_seq$ qN O$ Lt O0 O$ qV (Lj U5 O O ai O)$ Lf$ Lc$ run_seq$ qN O$ Nb O O$ M5$ Lk O ?_;refine An O$ qN O$ Nb O O$ Ns$ Lk O$ Lr O$ py$ Lr O$ Li O$ Lt Sn O$ qV (Lj MP O O ai O)$ Nb O O$ Ns$ Lk O ?_;refine Ld$ run_seq$ qN O$ Le O$ qV ((by first|exact Mh O|exact NL O)) ?_;refine Lf$ An O$ py$ qN O$ Lk O$ Lh Tryz.func183 O ?_
   exact⟨_,rfl,rfl,ad⟩
 | zeta k =>
   obtain⟨aN,ao⟩:1<=k/\k<=16:=hc;refine Lb (e:=[(0,_)]) Tryz.func183 O Tryz.ntmps183 O O$ qN O$ Lm O O (Nc O (cs:=[.int .u8 3,Ly k]) O) ?_;rintro _ w1 ⟨b1,rfl,bR,ad,ai⟩;refine Lw O$ qM O$ Lk O$ run_seq$ qN O$ Lt O0 O$ qV (Lj U5 O O ai O)$ Lf$ Lc$ run_seq$ qN O$ Nb O O$ M5$ Lk O ?_;refine An O$ qN O$ Nb O O$ M5$ Lk O$ An O$ Li O$ Nb O O$ M5$ Lk O$ An O$ qN O$ Nb O O$ Ns ?_;refine Lk O$ Lr O$ Li O$ Lt Sn O$ qV (Lj MP O O ai O)$ Pa O O$ Ns$ Le O$ Lt Sn O$ qV (Lj MP O O ai O)$ zle O O$ Ns$ MU O O$ Lk O ?_;refine Ld$ run_seq$ qN O$ Le O$ qV ((by first|exact Mh O|exact NL O)) ?_;refine Lf$ An O$ py$ qN O$ Lk O$ Lh Tryz.func183 O ?_;exact⟨_,rfl,rfl,ad⟩
theorem Y4 (c:Cd)(hc:c.My)(w:World):LP Tryz.prog 186 [YN c] w λv w'=>v=Ly c.most/\Ext w w':=by
 cases c with
 | unary =>
   refine Lb (e:=[(0,_)]) Tryz.func186 O Tryz.ntmps186 O O$ qN O$ Lm O O (Nc O (cs:=[.int .u8 0,Ly 0]) O) ?_;rintro _ w1 ⟨b1,rfl,bR,ad,ai⟩;refine Lk O$ run_seq$ Lc$ qN O$ qV (LM (news:=[.int .u8 0,Ly 0]) O9 O MO O (ai.cells (n:=2) O) O)$ LD z0I O (Qb (.unary) hc w1) ?_;rintro _ w2 ⟨rfl,ag⟩;have am:=ag.Lg ai;refine Mu O O$ M5$ Lk O$ An O$ qN O$ Lt O0 O$ qV (Lj U5 O O am O)$ Nb O O$ Ns$ Lk O$ Lr O$ qN O$ Lk O$ Lh Tryz.func186 O ?_
   exact⟨_,rfl,rfl,ad.trans ag⟩
 | gamma =>
   refine Lb (e:=[(0,_)]) Tryz.func186 O Tryz.ntmps186 O O$ qN O$ Lm O O (Nc O (cs:=[.int .u8 1,Ly 0]) O) ?_;rintro _ w1 ⟨b1,rfl,bR,ad,ai⟩;refine Lk O$ run_seq$ Lc$ qN O$ qV (LM (news:=[.int .u8 1,Ly 0]) O9 O MO O (ai.cells (n:=2) O) O)$ LD z0I O (Qb (.gamma) hc w1) ?_;rintro _ w2 ⟨rfl,ag⟩;have am:=ag.Lg ai;refine Mu O O$ M5$ Lk O$ An O$ qN O$ Lt O0 O$ qV (Lj U5 O O am O)$ Nb O O$ M5$ Lk O$ An O$ qN O$ Lt O0 O$ qV (Lj U5 O O am O) ?_;refine Nb O O$ M5$ Lk O$ An O$ py$ Ld$ qN O$ Lk O$ Lh Tryz.func186 O ?_
   exact⟨_,rfl,rfl,ad.trans ag⟩
 | zeta k =>
   refine Lb (e:=[(0,_)]) Tryz.func186 O Tryz.ntmps186 O O$ qN O$ Lm O O (Nc O (cs:=[.int .u8 3,Ly k]) O) ?_;rintro _ w1 ⟨b1,rfl,bR,ad,ai⟩;refine Lk O$ run_seq$ Lc$ qN O$ qV (LM (news:=[.int .u8 3,Ly k]) O9 O MO O (ai.cells (n:=2) O) O)$ LD z0I O (Qb (.zeta k) hc w1) ?_;rintro _ w2 ⟨rfl,ag⟩;have am:=ag.Lg ai;refine Mu O O$ M5$ Lk O$ An O$ qN O$ Lt O0 O$ qV (Lj U5 O O am O)$ Nb O O$ M5$ Lk O$ An O$ qN O$ Lt O0 O$ qV (Lj U5 O O am O) ?_;refine Nb O O$ M5$ Lk O$ An O$ py$ Ld$ qN O$ Lk O$ Lh Tryz.func186 O ?_;exact⟨_,rfl,rfl,ad.trans ag⟩
theorem z6Z (c:Cd)(v:Nat)(hc:c.My)(hv:v<=c.most)(w:World):LP Tryz.prog 232 [YN c,Ly v] w λu w'=>u= .bool true/\Ext w w':=by
 obtain⟨x,y,du⟩:∃x y,Og c=[x,y]:=by cases c<;>exact⟨_,_,rfl⟩
 refine Lb (e:=[(0,_),(1,_)]) Tryz.func232 O Tryz.ntmps232 O O$ qN O$ Lm O O (Nc O (cs:=Og c) O) ?_
 rintro _ w1 ⟨b1,rfl,bR,ad,ai⟩
 refine Lw O$ qM O$ qV (LM (news:=Og c) O9 O MO O (ai.cells (n:=2) (by rw[du];rfl)) (by rw[du];rfl)) ?_
 refine LD z0I O (Qb c hc w1) ?_
 rintro _ w2 ⟨rfl,ag⟩
 have am:=ag.Lg ai
 refine Nb O O$ Ns$ Lu O O$ qV (LM (news:=Og c) O9 O MO O (am.cells (n:=2) (by rw[du];rfl)) (by rw[du];rfl)) ?_
 refine LD z9v O (Y4 c hc w2) ?_
 rintro _ w3 ⟨rfl,ah⟩
 refine zle O O$ Ns$ MU O O$ Lk O$ Lh Tryz.func232 O ?_
 exact⟨_,rfl,rfl,(ad.trans ag).trans ah⟩
end
section
theorem z1k (v K:Nat)(hK:1<=K)(hv:v<K)(Gv:K<=9223372036854775808)(w:World):LP Tryz.prog 240 [Ly v,Ly K] w λu w'=>u= .agg #[Ly (Nt v K).1,I ((Nt v K).2:Int)]/\Ext w w':=by
 obtain⟨s,hs⟩:∃s,Ma (K-1)=s:=⟨_,rfl⟩
 have hf:=QJ hK
 rw[hs] at hf
 obtain⟨h1,h2⟩:=hf
 have e63:(2:Nat)^63=9223372036854775808:=by decide
 have Ac:s<=63:=by rw[<-hs];exact N0 (by omega)
 obtain⟨Q,hQ⟩:∃Q,2^s=Q:=⟨_,rfl⟩
 have Ad:Q<=9223372036854775808:=by
  have:=Nat.pow_le_pow_right (show 0<2 by decide) Ac;omega
 rw[hQ] at h1
 have hP:Nt v K=if v<Q-K then(v,s-1) else(v+(Q-K),s):=by unfold Nt;rw[hs];dsimp only;rw[hQ]
 refine Lb (e:=[(0,_),(1,_)]) Tryz.func240 O Tryz.ntmps240 O O$ qN O$ Lm O O (NJ (cs:=[_,_]) Ow O) ?_
 rintro _ w1 ⟨b4,rfl,gn,ad,aF⟩
 refine qM O$ Le O$ qV (RO (n:=1) O O O (by show K<2^64;omega) hK) ?_
 refine LD XL O (PV (K-1) (by omega) w1) ?_
 rintro _ w1 ⟨rfl,rfl⟩
 rw[hs]
 refine Lk O$ run_seq$ qN O$ Le O$ qV (Na s Q O O (by omega) hQ) ?_
 rw[show 1*Q%18446744073709551616=Q by omega]
 refine Le O$ qV (RO O O O (by show Q<2^64;omega) h1) ?_
 refine Lw O$ qM O$ Lu O O$ Pa O O$ Lf$ Lp O (λiH=>?_)$ λiH=>?_
 ·rw[if_neg (by omega)] at hP;rw[hP];refine qN O$ Lu O O$ qV (QD O O) ?_;rw[Nat.mod_eq_of_lt (show v+(Q-K)<18446744073709551616 by omega)];refine Le O$ qV (O6 (cs:=[_,_]) Ow O z7a O O)$ Ls O (M7 (news:=[Ly (v+(Q-K)),I (s:Int)]) Ow O O O O aF (by simp)) ?_;rintro w2 ⟨am,ao⟩;replace am:Lq w2 b4 [Ly (v+(Q-K)),I (s:Int)] 353:=am;refine Lf$ LL Tryz.func240 (.cell z7s O Ow O (Lq.cells (n:=2) am (news:=[_,_]) O) O .nil) ?_;exact⟨_,rfl,rfl,ad.It ao (λi hi=>by omega)⟩
 ·rw[if_pos (by omega)] at hP;rw[hP]
  have EC:K≠1:=λe=>by
   have e0:s=0:=by rw[<-hs,e];rfl
   have e1:Q=1:=by rw[<-hQ,e0]
   omega
  have dU:1<=s:=(h2 (by omega)).1;refine py$ qN O$ Lu O O$ Np O O ?_;rw[show((s:Int)-1)=((s-1:Nat):Int) by omega];refine qV (O6 (cs:=[_,_]) Ow O z7a O O)$ Ls O (M7 (news:=[Ly v,I ((s-1:Nat):Int)]) Ow O O O O aF (by simp)) ?_;rintro w2 ⟨am,ao⟩;replace am:Lq w2 b4 [Ly v,I ((s-1:Nat):Int)] 353:=am;refine Lf$ LL Tryz.func240 (.cell z7s O Ow O (Lq.cells (n:=2) am (news:=[_,_]) O) O .nil) ?_;exact⟨_,rfl,rfl,ad.It ao (λi hi=>by omega)⟩
theorem z4H (n:Nat)(h:n≠0):Ma n-1=Nat.log2 n/\1<=Ma n:=by
 unfold Ma;rw[if_neg h];exact⟨rfl,by omega⟩
theorem Wn (c:Cd)(v:Nat)(hc:c.My)(hv:v<=281474976710654)(w:World):LP Tryz.prog 233 [YN c,Ly v] w λu w'=>u= .tuple #[I (c.zeros v:Int),.agg #[Ly (c.p0 v).1,I ((c.p0 v).2:Int),Ly 0,I 0]]/\Ext w w':=by
 obtain⟨l1,l2⟩:=z4H (v+1) (by omega)
 obtain⟨g1,g2,g3⟩:=Ri hv
 obtain⟨b,hb⟩:∃b,Nat.log2 (v+1)=b:=⟨_,rfl⟩
 rw[hb] at l1 g1 g2 g3
 obtain⟨Q,hQ⟩:∃Q,2^b=Q:=⟨_,rfl⟩
 rw[hQ] at g1
 have Ae:Q<=281474976710656:=by omega
 obtain⟨x,y,du⟩:∃x y,Og c=[x,y]:=by cases c<;>exact⟨_,_,rfl⟩
 refine Lb (e:=[(0,_),(1,_)]) Tryz.func233 O Tryz.ntmps233 O O$ qN O$ Lm O O (Nc O (cs:=Og c) O) ?_
 rintro _ w1 ⟨b2,rfl,c6,ad,am⟩
 refine Lw O$ Lm O O (NJ (cs:=[_,_,_,_]) Qc O) ?_
 rintro _ w2 ⟨b5,rfl,gQ,ag,aI⟩
 replace aI:Lq w2 b5 [Ly 0,I 0,Ly 0,I 0] 354:=aI
 refine qM O$ Le O$ qV (QD O O) ?_
 rw[show(v+1)%18446744073709551616=v+1 by omega]
 refine Lw O$ qM O$ Le O$ LD XL O (PV (v+1) (by omega) w2) ?_
 rintro _ w2 ⟨rfl,rfl⟩
 refine Np O O ?_
 rw[show((Ma (v+1):Int)-1)=((b:Nat):Int) by omega]
 refine Lw O$ qM O$ Lu O O$ qV (Na b Q O O (by omega) hQ) ?_
 rw[show 1*Q%18446744073709551616=Q by omega]
 refine qV (RO O O O (by show v+1<2^64;omega) g1) ?_
 refine Le O$ qV (O6 (cs:=[_,_]) Ow O z7a O O)$ Lm O O (NJ (cs:=[_,_]) Ow O) ?_
 rintro _ w3 ⟨b8,rfl,ja,ah,cu⟩
 refine Ls O (M7 (news:=[Ly (v+1-Q),I (b:Int)]) Ow O O O O cu (by simp)) ?_
 rintro w4 ⟨rl,av⟩
 replace rl:Lq w4 b8 [Ly (v+1-Q),I (b:Int)] 353:=rl
 have z1:=ad.size
 have z2:=ag.size
 have z3:=ah.size
 have l2':=am.lt
 have l5':=aI.lt
 have ez:=av.Lg (ah.Lg (ag.Lg am)) (by omega)
 have dA:=av.Lg (ah.Lg aI) (by omega)
 have cR:Ext w w4:=((ad.trans ag).trans ah).It av (λi hi=>by omega)
 cases c with
 | unary =>
   replace ez:Lq w4 b2 [.int .u8 0,Ly 0] 260:=ez;have hg:=Ext.LC w4;refine Lf$ run_seq$ qN O$ Lt O0 O$ qV (Lj U5 O O ez O)$ Lf$ Lc$ qN O$ Nb O O$ Ns$ Lk O$ Lr O$ run_seq$ LH [4] (λw'=>Ext w4 w') (by kernel_rfl) O ?_;refine qL [1,3,4] 0 O (λ_ h=>M0 O) hg$ qL [3,4] 1 O (λ_ h=>M3 O MP U3 (by omega)) hg$ qL [4] 3 O (λ_ h=>Ni O) hg$ qL [4] 2 O (λ_ h=>LM (news:=[Ly 0,I 0,Ly 0,I 0]) Xa O Qc O ((h.Lg dA).cells (n:=4) O) O) hg$ OY [4]$ qO 4$ M1 (i:=4) O O (M7 (news:=[Ly 0,I 0,Ly 0,I 0]) Qc O O O O (hg.Lg dA) (by simp)) ?_;rintro w5 ⟨aR,ak⟩;refine⟨trivial,?_⟩;replace aR:Lq w5 b5 [Ly 0,I 0,Ly 0,I 0] 354:=aR;refine qE$ LS.qb (e:=[(1,_),(2,_),(4,_),(5,_)]) ?_;refine LL Tryz.func233 (.tmp O (.cell Xa O Qc O (Lq.cells (n:=4) aR (news:=[_,_,_,_]) O) O .nil)) ?_
   exact⟨_,rfl,rfl,(cR.trans hg).It ak (λi hi=>by omega)⟩
 | gamma =>
   replace ez:Lq w4 b2 [.int .u8 1,Ly 0] 260:=ez;have hg:=Ext.LC w4;refine Lf$ run_seq$ qN O$ Lt O0 O$ qV (Lj U5 O O ez O)$ Lf$ Lc$ qN O$ Nb O O$ M5$ Lk O$ An O$ qN O$ Nb O O ?_;refine Ns$ Lk O$ LS.qb (e:=[(1,_),(2,_),(4,_),(5,_),(6,_),(7,_),(8,_),(24,_),(30,_)]) ?_;refine Lr O$ run_seq$ LH [4] (λw'=>Ext w4 w') (by kernel_rfl) O$ qL [3,4] 0 O (λ_ h=>M0 O) hg$ qL [4] 3 O (λ_ h=>Ni O) hg$ qL [2,4] 1 O (λ_ h=>LM (news:=[Ly (v+1-Q),I (b:Int)]) z7s O Ow O ((h.Lg rl).cells (n:=2) O) O) hg$ qL [4] 2 O (λ_ h=>zdc (parts:=[(0,.tmp 33)]) (cs:=[_,_,_,_]) Qc O Xa Ow O O) hg$ OY [4]$ qO 4$ M1 (i:=4) O O (M7 (news:=[Ly (v+1-Q),I (b:Int),Ly 0,I 0]) Qc O O O O (hg.Lg dA) (by simp)) ?_;rintro w5 ⟨aR,ak⟩;refine⟨trivial,?_⟩;replace aR:Lq w5 b5 [Ly (v+1-Q),I (b:Int),Ly 0,I 0] 354:=aR;refine qE$ LL Tryz.func233 (.tmp O (.cell Xa O Qc O (Lq.cells (n:=4) aR (news:=[_,_,_,_]) O) O .nil)) ?_
   exact⟨_,rfl,by simp[resVal,Cd.zeros,Cd.p0,hb,hQ],(cR.trans hg).It ak (λi hi=>by omega)⟩
 | zeta k =>
   obtain⟨aN,ao⟩:1<=k/\k<=16:=hc;have f:=Tm (k:=k) (v:=v) aN;dsimp only at f;rw[hb] at f;obtain⟨h,hh⟩:∃h,b / k=h:=⟨_,rfl⟩;obtain⟨m,hm⟩:∃m,h*k=m:=⟨_,rfl⟩;have Gw:m<=b:=by rw[<-hm,<-hh];exact Nat.div_mul_le_self _ _
   rw[hh,hm] at f;obtain⟨F,hF⟩:∃F,2^m=F:=⟨_,rfl⟩;obtain⟨G,hG⟩:∃G,2^k=G:=⟨_,rfl⟩;rw[hF,hG] at f;obtain⟨f1,f2,f3⟩:=f;obtain⟨E,hE⟩:∃E,F*G=E:=⟨_,rfl⟩
   have Af:E<=9223372036854775808:=by
    rw[<-hE,<-hF,<-hG,<-Nat.pow_add];have:=Nat.pow_le_pow_right (show 0<2 by decide) (show m+k<=63 by omega);have e63:(2:Nat)^63=9223372036854775808:=by decide
    omega
   rw[hE] at f2 f3;have Ag:(Cd.zeta k).zeros v=h:=by show Nat.log2 (v+1) / k=h;rw[hb,hh]
   have Ah:(Cd.zeta k).p0 v=Nt (v+1-F) (E-F):=by
    show Nt (v+1-2^(Nat.log2 (v+1) / k*k)) (2^(Nat.log2 (v+1) / k*k)*2^k-2^(Nat.log2 (v+1) / k*k))=_;rw[hb,hh,hm,hF,hG,hE]
   rw[Ag,Ah];have o2:(h:Int)*(k:Int)=(m:Int):=by rw[<-hm];simp
   have gp:(b:Int) / (k:Int)=(h:Int):=by rw[<-hh];simp
   replace ez:Lq w4 b2 [.int .u8 3,Ly k] 260:=ez;refine Lf$ run_seq$ qN O$ Lt O0 O$ qV (Lj U5 O O ez O)$ Lf$ Lc$ qN O$ Nb O O$ M5$ Lk O$ An O$ qN O$ Nb O O ?_;refine M5$ Lk O$ LS.qb (e:=[(1,_),(2,_),(4,_),(5,_),(6,_),(7,_),(8,_),(24,_),(30,_)]) ?_;refine An O$ qN O$ Nb O O$ M5$ Lk O$ An O$ qN O$ Nb O O$ Ns$ Lk O$ Lr O$ qN O$ Lt Sn O$ qV (Lj MP O O ez O) ?_;refine qV (M3 O MP U3 (by omega))$ Lw O$ qM O$ Lu O O$ qV (SC O O (by omega)) ?_;rw[gp];refine Lw O$ qM O$ Lu O O$ qV (T6 O O (by rw[o2];omega)) ?_;rw[o2];refine qV (Na m F O O (by omega) hF) ?_;rw[show 1*F%18446744073709551616=F by omega];refine Lk O$ LS.qb (e:=[(1,_),(2,_),(4,_),(5,_),(6,_),(9,_),(10,_),(11,_)]) ?_;refine qN O$ Lu O O$ Le O$ qV (RO O O O (by show v+1<2^64;omega) f1) ?_;refine Lu O O$ qV (Na k G O O (by omega) hG) ?_;rw[hE,Nat.mod_eq_of_lt (show E<18446744073709551616 by omega)];refine Le O$ qV (RO O O O (by show E<2^64;omega) (by omega)) ?_;refine LD zei O (z1k (v+1-F) (E-F) f3 f2 (by omega) w4) ?_;rintro _ w5 ⟨rfl,aX⟩;refine qV (zdc (parts:=[(0,.tmp 69)]) (cs:=[_,_,_,_]) Qc O Xa Ow O O)$ Lw O ?_;have uy:=aX.Lg dA;refine Ls O (M7 (news:=[Ly (Nt (v+1-F) (E-F)).1,I ((Nt (v+1-F) (E-F)).2:Int),Ly 0,I 0]) Qc O O O O uy (by simp)) ?_;rintro w6 ⟨aR,aU⟩;replace aR:Lq w6 b5 [Ly (Nt (v+1-F) (E-F)).1,I ((Nt (v+1-F) (E-F)).2:Int),Ly 0,I 0] 354:=aR;refine Lf$ LL Tryz.func233 (.tmp O (.cell Xa O Qc O (Lq.cells (n:=4) aR (news:=[_,_,_,_]) O) O .nil)) ?_;exact⟨_,rfl,rfl,(cR.trans aX).It aU (λi hi=>by omega)⟩
end
def hiB (w:Nat):Nat->Nat->List Nat->List Bool
 |_,_,[]=>[]
 |len,i,v::r=>List.replicate (v / 2^w+i-len) false++true::hiB w (v / 2^w+i+1) (i+1) r
abbrev Nof (l:List Nat):Prop:=l.Pairwise (·<=·)
def nth1:List Bool->Nat->Option Nat
 |[],_=>none
 |true::l,0=>some 0
 |true::l,k+1=>(nth1 l k).map (·+1)
 |false::l,k=>(nth1 l k).map (·+1)
theorem Q8:∀(z:Nat) (l:List Bool) (k:Nat),nth1 (List.replicate z false++l) k=(nth1 l k).map (·+z)
 |0,l,k=>by simp
 | z + 1, l, k => by
   rw[List.replicate_succ,List.cons_append,nth1,Q8 z l k,Option.map_map]
   congr 1
theorem W8 (w:Nat):∀(l:List Nat) (len i k:Nat) (v:Nat),Nof l->l[k]? =some v->(∀x,l.head? =some x->len<=x / 2^w+i)->nth1 (hiB w len i l) k=some (v / 2^w+i+k-len)
 |[],len,i,k,v,_,h,_=>by simp at h
 | x :: r, len, i, 0, v, _, h, hl => by
   simp at h;subst h;have:=hl x O;rw[hiB,Q8,nth1]
   simp
 | x :: r, len, i, k + 1, v, hn, h, hl => by
   rw[List.getElem?_cons_succ] at h;obtain⟨n1,n2⟩:=List.pairwise_cons.1 hn;have hx:=hl x O;have hxv:x<=v:=n1 v (List.mem_of_getElem? h);have hd:=Nat.div_le_div_right (c:=2^w) hxv
   rw[hiB,Q8,nth1,W8 w r _ (i+1) k v n2 h (λy hy=>by
    have hxy:x<=y:=n1 y (by cases r with
     |nil=>simp at hy
     |cons a r=>simp at hy;simp[hy])
    have:=Nat.div_le_div_right (c:=2^w) hxy
    omega)]
   simp;omega
theorem UN:∀(l:List Bool) (j p m:Nat),nth1 l j=some p->nth1 (l.drop p) m=(nth1 l (j+m)).map (·-p)
 |[],j,p,m,h=>by simp[nth1] at h
 | true :: l, 0, p, m, h => by
   simp[nth1] at h;subst h
   simp
 | true :: l, j + 1, p, m, h => by
   simp only[nth1,Option.map_eq_some_iff] at h;obtain⟨q,hq,rfl⟩:=h;rw[List.drop_succ_cons,UN l j q m hq,show j+1+m=(j+m)+1 by omega,nth1,Option.map_map]
   congr 1
   funext x;simp
 | false :: l, j, p, m, h => by
   simp only[nth1,Option.map_eq_some_iff] at h;obtain⟨q,hq,rfl⟩:=h;rw[List.drop_succ_cons,UN l j q m hq,nth1,Option.map_map]
   congr 1
   funext x;simp
theorem RZ:∀(a b:List Bool) (k:Nat),nth1 (a++b) k=if k<a.count true then nth1 a k else(nth1 b (k-a.count true)).map (·+a.length)
 |[],b,k=>by simp
 |true::a,b,0=>by simp[nth1]
 | true :: a, b, k + 1 => by
   rw[List.cons_append,nth1,RZ a b k,List.count_cons_self];split
   ·rename_i h
    rw[if_pos (by omega),nth1]
   ·rename_i h
    rw[if_neg (by omega),Option.map_map,show k+1-(a.count true+1)=k-a.count true by omega]
    congr 1
 | false :: a, b, k => by
   rw[List.cons_append,nth1,RZ a b k,List.count_cons_of_ne (by decide)];split
   ·rw[nth1]
   ·rw[Option.map_map]
    congr 1
theorem VR:∀{l:List Bool} {k p:Nat},nth1 l k=some p->p<l.length/\l[p]? =some true
 |true::l,0,p,h=>by simp[nth1] at h;subst h;simp
 | true :: l, k + 1, p, h => by
   simp only[nth1,Option.map_eq_some_iff] at h;obtain⟨q,hq,rfl⟩:=h;have:=VR hq
   simp;exact this
 | false :: l, k, p, h => by
   simp only[nth1,Option.map_eq_some_iff] at h;obtain⟨q,hq,rfl⟩:=h;have:=VR hq
   simp;exact this
 |[],k,p,h=>by simp[nth1] at h
theorem z3j (w:Nat):∀(l:List Nat) (len i:Nat),Nof l->(∀x,l.head? =some x->len<=x / 2^w+i)->∀v,l.getLast? =some v->len+(hiB w len i l).length=v / 2^w+i+l.length
 |[],len,i,_,_,v,h=>by simp at h
 | [x], len, i, _, hl, v, h => by
   simp at h;subst h;have:=hl x O
   simp[hiB];omega
 | x :: y :: r, len, i, hn, hl, v, h => by
   obtain⟨n1,n2⟩:=List.pairwise_cons.1 hn;have hx:=hl x O;have hxy:=Nat.div_le_div_right (c:=2^w) (n1 y (by simp));have:=z3j w (y::r) (x / 2^w+i+1) (i+1) n2 (λz hz=>by simp at hz;subst hz;omega) v (by simpa using h);rw[hiB,List.length_append,List.length_replicate,List.length_cons];simp only[List.length_cons] at this⊢;omega
theorem Tl (z:Nat)(r:List Bool):valB (List.replicate z false++true::r)=2^r.length+valB r:=by
 induction z with
 |zero=>simp[valB]
 |succ z ih=>rw[List.replicate_succ,List.cons_append,valB,ih];simp
theorem Z4 (c:Cd)(v:Nat):c.rest v=bitsN (c.p0 v).2 (c.p0 v).1:=by cases c<;>rfl
theorem Sj (c:Cd)(v:Nat):(c.enc v).length=c.zeros v+1+(c.p0 v).2:=by
 unfold Cd.enc
 rw[List.length_append,List.length_replicate,List.length_cons,Z4,bitsN_length];omega
theorem Cd.W3 (c:Cd):c.most<=281474976710654:=by cases c<;>simp[Cd.most]
theorem Rp:∀n:Nat,bitsN n 0=List.replicate n false
 |0=>rfl
 |n+1=>by rw[bitsN,Rp n,List.replicate_succ];simp
theorem z55 (z:Nat):bitsN (z+1) 1=List.replicate z false++[true]:=by
 refine Uf (by simp) ?_
 rw[Me,Tl]
 simp[valB]
theorem Sq {c:Cd}{v:Nat}(hc:c.My)(hv:v<=c.most):c.zeros v<=65535/\(c.p0 v).2<=63/\(c.p0 v).1<2^(c.p0 v).2:=by
 cases c with
 |unary=>exact⟨hv,by simp[Cd.p0],by simp[Cd.p0]⟩
 | gamma =>
   obtain⟨g1,g2,g3⟩:=Ri hv;refine⟨by show Nat.log2 (v+1)<=_;omega,by show Nat.log2 (v+1)<=_;omega,?_⟩;show v+1-2^Nat.log2 (v+1)<2^Nat.log2 (v+1);rw[Nat.pow_succ] at g2
   omega
 | zeta k =>
   obtain⟨aN,ao⟩:1<=k/\k<=16:=hc;obtain⟨g1,g2,g3⟩:=Ri hv;have f:=Tm (k:=k) (v:=v) aN;dsimp only at f;have hd:Nat.log2 (v+1) / k<=Nat.log2 (v+1):=Nat.div_le_self _ _;have hm:Nat.log2 (v+1) / k*k<=Nat.log2 (v+1):=Nat.div_mul_le_self _ _;refine⟨by show Nat.log2 (v+1) / k<=_;omega,?_,?_⟩
   ·show(Nt _ _).2<=63
    have h1:Ma (2^(Nat.log2 (v+1) / k*k)*2^k-2^(Nat.log2 (v+1) / k*k)-1)<=63:=by
     refine N0 ?_;have h2:=Nat.pow_le_pow_right (show 0<2 by decide) (show Nat.log2 (v+1) / k*k+k<=63 by omega);rw[Nat.pow_add] at h2;have h3:=f.2.2
     revert h2 h3
     generalize 2^(Nat.log2 (v+1) / k*k)*2^k=E
     generalize 2^(Nat.log2 (v+1) / k*k)=F
     intro h2 h3;omega
    unfold Nt;dsimp only;split<;>dsimp only<;>omega
   ·exact z4E f.2.1
section
variable {P:Program}{e:Env}{d:Option Nat}{ty t t' el:TypeId}{pos:String}{aft:Array Edge}{g:Option (Nat×Bool)}{x y:Operand}{w:World}{k:IntKind}{n:Nat}{td:TypeDesc}
theorem zb2 {za:Int}[qX:OQ za n]{len size bytes:Nat}{z:Value}{vs:Array Value}(ht:P.underlying t=some (.array len el))(hs:TI P el z size bytes)(hu:P.underlying el=some td)(ha:aggOf td=true)(hx:look e x=some (.agg vs))(hy:look e y=some (.int k za))(hn:n<len):
  Y P e ⟨d,.index t x y,ty,pos,aft,g⟩ (.agg (vs.extract (n*size) (n*size+size))) w w:=fun ρ hρ=>by
 obtain⟨rfl⟩:=qX
 have hs:=hs.size (w:=w)
 simp[execOp,hρ _ _ hx,hρ _ _ hy,Instr.index,asIntOf,run_underlying ht,hn,hs,part,PZ hu,ha]
end
section
theorem ZP (c:Cd)(v:Nat)(hc:c.My)(hv:v<=c.most)(w:World):LP Tryz.prog 202 [YN c,Ly v] w λu w'=>u= .tuple #[I ((c.enc v).length:Int),I 0]/\Ext w w':=by
 obtain⟨x,y,du⟩:∃x y,Og c=[x,y]:=by cases c<;>exact⟨_,_,rfl⟩
 obtain⟨q1,q2,-⟩:=Sq hc hv
 have hl:=Sj c v
 have ev:=c.W3
 refine Lb (e:=[(0,_),(1,_)]) Tryz.func202 O Tryz.ntmps202 O O$ qN O$ Lm O O (Nc O (cs:=Og c) O) ?_
 rintro _ w1 ⟨b2,rfl,c6,ad,am⟩
 refine Lw O$ Lk O$ run_seq$ qN O$ qV (LM (news:=Og c) O9 O MO O (am.cells (n:=2) (by rw[du];rfl)) (by rw[du];rfl)) ?_
 refine Le O$ LD zdj O (z6Z c v hc hv w1) ?_
 rintro _ w2 ⟨rfl,ag⟩
 refine qV ((by first|exact Mh O|exact NL O)) ?_
 refine Lf$ An O$ py$ qN O$ qV (LM (news:=Og c) O9 O MO O ((ag.Lg am).cells (n:=2) (by rw[du];rfl)) (by rw[du];rfl)) ?_
 refine Le O$ LD z9J O (Wn c v hc (by omega) w2) ?_
 rintro _ w3 ⟨rfl,ah⟩
 refine Le O$ Mp O O$ Mp O O$ Lm O O (NJ (cs:=[_,_,_,_]) Qc O) ?_
 rintro _ w4 ⟨b7,rfl,kW,ay,bJ⟩
 refine Lw O$ Ls O (M7 (news:=[Ly (c.p0 v).1,I ((c.p0 v).2:Int),Ly 0,I 0]) Qc O O O O bJ (by simp)) ?_
 rintro w5 ⟨fF,ak⟩
 replace fF:Lq w5 b7 [Ly (c.p0 v).1,I ((c.p0 v).2:Int),Ly 0,I 0] 354:=fF
 refine qM O$ Le O$ Mb O O$ qV (yia Xa Ow O O (by omega))$ Lt VO O$ qV (Lj U3 O O fF O)$ Mb O O$ qV (yia Xa Ow O O (by omega))$ Lt VO O$ qV (Lj U3 O O fF O)$ Mb O O$ Lw O$ Lk O$ LS.qb (e:=[(4,_),(5,_)]) ?_
 refine Lh Tryz.func202 O ?_
 have z1:=ad.size
 have z2:=ag.size
 have z3:=ah.size
 refine⟨_,rfl,?_,(((ad.trans ag).trans ah).trans ay).It ak (λi hi=>by omega)⟩
 simp only[resVal]
 congr 4
 omega
theorem z5z {w : World}{p : Nat}{bs : List Bool}{F : Nat -> Prop}(h : TX w p bs F)(c : Cd)(v : Nat)(hc : c.My)(hv : v <= c.most)(hl : bs.length + (c.enc v).length <= 134217728) :
  LP Tryz.prog 203 [ptr p 0,YN c,Ly v] w λu w'=>u=I 0/\WrR p F w w' (bs++c.enc v):=by
 obtain⟨x,y,du⟩:∃x y,Og c=[x,y]:=by cases c<;>exact⟨_,_,rfl⟩
 obtain⟨q1,q2,q3⟩:=Sq hc hv
 have nY:=Sj c v
 have ev:=c.W3
 refine Lb (e:=[(0,_),(1,_),(2,_)]) Tryz.func203 O Tryz.ntmps203 O O$ qN O$ Lm O O (Nc O (cs:=Og c) O) ?_
 rintro _ w1 ⟨b4,rfl,gn,ad,aF⟩
 refine Lk O$ run_seq$ qN O$ Le O$ qV (Ml YY O O)$ Lf$ An O$ py$ qN O$ qV (LM (news:=Og c) O9 O MO O (aF.cells (n:=2) (by rw[du];rfl)) (by rw[du];rfl)) ?_
 refine Le O$ LD z9f O (ZP c v hc hv w1) ?_
 rintro _ w2 ⟨rfl,ag⟩
 refine Le O$ Mp O O$ Mp O O$ Lw O$ Lk O$ run_seq$ Lc$ qN O$ Le O$ Mu O O$ Lk O$ Lp O (λe0=>?_)$ λe0=>?_
 ·exact absurd O e0
 ·refine qN O$ Lu O O$ LD Y9 O (R1 ((h.ext ad).ext ag)) ?_; rintro _ w2 ⟨rfl, rfl⟩; refine Np O O (MH O O (Lk O (Lp O (λe1 => ?_) (λe1 => ?_))))
  ·omega
  ·refine py$ Ld$ qN O$ qV (LM (news := Og c) O9 O MO O ((ag.Lg aF).cells (n := 2) (by rw [du]; rfl)) (by rw [du]; rfl)) ?_; refine Le O (LD z9J O (Wn c v hc (by omega) w2) ?_); rintro _ w3 ⟨rfl, ah⟩; refine Le O (Mp O O (Mp O O (Lm O O (NJ (cs := [_, _, _, _]) Qc O) ?_))); rintro _ w4 ⟨b10, rfl, Ai, ay, dc⟩; refine Lw O (Ls O (M7 (news := [Ly (c.p0 v).1, I ((c.p0 v).2 : Int), Ly 0, I 0]) Qc O O O O dc (by simp)) ?_); rintro w5 ⟨kq, ak⟩; replace kq : Lq w5 b10 [Ly (c.p0 v).1, I ((c.p0 v).2 : Int), Ly 0, I 0] 354 := kq; have z1 := ad.size; have z2 := ag.size; have z3 := ah.size; have bK : Ext w w5 := (((ad.trans ag).trans ah).trans ay).It ak (λi hi => by omega); have z5 := bK.size; have l10 := kq.lt; have ju : ∀ i, F i -> i < w.heap.size := λi hi => h.lt hi
   have ED:∀(F':Nat->Prop),(∀k,F' k->F k\/w5.heap.size<=k)->¬F' b10:=λF' hf e=>by
    rcases hf b10 e with e| e
    ·have:=ju b10 e;omega
    ·omega
   refine Lf$ LS.qb (e:=[(0,_),(6,_),(9,_),(10,_)]) ?_;refine run_seq$ Lc$ Nj (α:=Nat×(Nat->Prop)×List Bool) ((c.zeros v,F,bs)) (λx=>[(0,ptr p 0),(9,I (x.1:Int)),(10,ptr b10 0)]) (λx w'=>x.1<=c.zeros v/\TX w' p x.2.2 x.2.1/\x.2.2=bs++List.replicate (c.zeros v-x.1) false/\Kp F w w'/\(∀k,x.2.1 k->F k\/w5.heap.size<=k)/\Lq w' b10 [Ly (c.p0 v).1,I ((c.p0 v).2:Int),Ly 0,I 0] 354/\w5.heap.size<=w'.heap.size) (λx=>x.1) ?hI ?hround
   case hI=>exact⟨Nat.le_refl _,h.ext bK,by simp,bK.kp,λ_ h=> .inl h,kq,Nat.le_refl _⟩
   case hround =>
    rintro⟨z,F1,b1⟩ w6 ⟨hz,kX,bR,aU,mt,aR,z6⟩ ih;dsimp only at hz kX bR mt;have eT:b1.length=bs.length+(c.zeros v-z):=by rw[bR,List.length_append,List.length_replicate]
    try dsimp only
    refine run_seq$ qN O$ Le O$ MH O O$ Lf$ Lp O (λaV=>?_)$ λaV=>?_
    ·refine py$ run_seq$ Lc$ Li O$ Le O$ LD S5 O (O4 kX 0 63 (by decide) (by decide) (by omega)) ?_;rintro _ w7 ⟨rfl,F7,o3,aC,o4⟩;have bJ:=aC.Lg aR (ED F1 mt);have z7:=aC.size;refine Lf$ Ld$ Li O$ Le O$ Np O O$ Lk O ?_;rw[show((z:Int)-63)=((z-63:Nat):Int) by omega];refine(ih (z-63,F7,b1++bitsN 63 0) w7 ⟨by dsimp only;omega,o3,?_,?_,?_,bJ,by omega⟩ (by dsimp only;omega)).qb
     ·dsimp only;rw[bR,Rp,List.append_assoc,List.replicate_append_replicate,show c.zeros v-z+63=c.zeros v-(z-63) by omega]
     ·exact aU.It aC (λi hi=>(mt i hi).elim .inr (λe=> .inl (by omega)))
     ·intro i hi;rcases o4 i hi with e| e
      ·exact mt i e
      ·exact .inr (by omega)
    ·refine Ln O$ run_seq$ qN O$ Le O$ Pa O O$ Lf$ Lp O (λg0=>?_)$ λg0=>?_
     ·refine Li O$ Lu O O$ Mb O O ?_;rw[show((z:Int)+1)=((z+1:Nat):Int) by omega];refine LD S5 O (O4 kX 1 (z+1) (by omega) (by have:=Nat.pow_le_pow_right (show 0<2 by decide) (show 1<=z+1 by omega);omega) (by omega)) ?_;rintro _ w7 ⟨rfl,F7,o3,aC,o4⟩;have bJ:=aC.Lg aR (ED F1 mt);have z7:=aC.size;have Aj:Kp F w w7:=aU.It aC (λi hi=>(mt i hi).elim .inr (λe=> .inl (by omega)));have Ak:∀i,F7 i->F i\/w5.heap.size<=i:=λi hi=>(o4 i hi).elim (mt i) (λe=> .inr (by omega))
      have kW:b1++bitsN (z+1) 1=bs++(List.replicate (c.zeros v) false++[true]):=by
       rw[bR,z55,List.append_assoc]
       congr 1
       rw[<-List.append_assoc,List.replicate_append_replicate,show c.zeros v-z+z=c.zeros v by omega]
      rw[kW] at o3;clear ih;refine Lf$ run_seq$ qN O$ qV (LM (news:=[Ly (c.p0 v).1,I ((c.p0 v).2:Int),Ly 0,I 0]) Xa O Qc O (bJ.cells (n:=4) O) O)$ Le O$ Lf$ Lc$ Nj (α:=Nat×(Nat->Prop)×List Bool) ((0,F7,bs++(List.replicate (c.zeros v) false++[true]))) (λx=>[(0,ptr p 0),(49,.agg #[Ly (c.p0 v).1,I ((c.p0 v).2:Int),Ly 0,I 0]),(50,I (x.1:Int))]) (λx w'=>x.1<=2/\TX w' p x.2.2 x.2.1/\x.2.2=(bs++(List.replicate (c.zeros v) false++[true]))++(if x.1=0 then [] else c.rest v)/\Kp F w w'/\(∀k,x.2.1 k->F k\/w5.heap.size<=k)/\w5.heap.size<=w'.heap.size) (λx=>2-x.1) ?hI ?hround
      case hI=>exact⟨by dsimp only;omega,o3,by simp,Aj,Ak,by omega⟩
      case hround=>
       rintro⟨i,F8,b8⟩ w8 ⟨hi,ro,ja,bB,tH,z8⟩ ih;dsimp only at hi ro ja tH
       try dsimp only
       refine qN O$ Mw O O$ Lf$ run_seq$ Lp O (λoB=>?_)$ λoB=>?_
       ·have uz:b8.length<=bs.length+(c.zeros v+1)+(if i=0 then 0 else(c.p0 v).2):=by
         rw[ja];simp only[List.length_append,List.length_replicate,List.length_cons,List.length_nil];split
         ·simp
         ·rw[Z4,bitsN_length];omega
        refine py$ run_seq$ Lc$ qN O ?_;rcases (show i=0\/i=1 by omega) with rfl|rfl
        ·rw[if_pos O] at uz ja;refine qV (zb2 (n:=0) Xa Ow z7s O O O (by decide)) ?_;rw[show(#[Ly (c.p0 v).1,I ((c.p0 v).2:Int),Ly 0,I 0]:Array Value).extract (0*2) (0*2+2)=#[Ly (c.p0 v).1,I ((c.p0 v).2:Int)] from rfl];refine Lm O O (NJ (cs:=[_,_]) Ow O) ?_;rintro _ w9 ⟨b12,rfl,Al,eI,bz⟩;refine Ls O (M7 (news:=[Ly (c.p0 v).1,I ((c.p0 v).2:Int)]) Ow O O O O bz (by simp)) ?_;rintro w10 ⟨eA,ar⟩;replace eA:Lq w10 b12 [Ly (c.p0 v).1,I ((c.p0 v).2:Int)] 353:=eA;have z9:=eI.size;have fG:Ext w8 w10:=eI.It ar (λi hi=>by omega);have z10:=fG.size;refine Lf$ Li O$ Le O$ Lt z2P O$ qV (Lj MP O O eA O)$ Lt VO O$ qV (Lj U3 O O eA O)$ LD S5 O (O4 (ro.ext fG) (c.p0 v).1 (c.p0 v).2 (by omega) q3 (by omega)) ?_;rintro _ w11 ⟨rfl,F11,rp,bA,rq⟩;have iI:=fG.kp.trans bA;refine Lf$ Ld$ Li O$ Mb O O$ Le O$ Lf ((ih (1,F11,b8++bitsN (c.p0 v).2 (c.p0 v).1) w11 ⟨by dsimp only;omega,rp,?_,?_,?_,?_⟩ (by dsimp only;omega)).qb)
         ·dsimp only;rw[ja];rw[List.append_nil,if_neg (by decide),Z4]
         ·exact bB.It iI (λi hi=>(tH i hi).elim .inr (λe=> .inl (by omega)))
         ·intro i hi;rcases rq i hi with e| e
          ·exact tH i e
          ·exact .inr (by omega)
         ·have:=iI.size;omega
        ·rw[if_neg (by decide)] at uz ja;refine qV (zb2 (n:=1) Xa Ow z7s O O O (by decide)) ?_;rw[show(#[Ly (c.p0 v).1,I ((c.p0 v).2:Int),Ly 0,I 0]:Array Value).extract (1*2) (1*2+2)=#[Ly 0,I 0] from rfl];refine Lm O O (NJ (cs:=[_,_]) Ow O) ?_;rintro _ w9 ⟨b12,rfl,Al,eI,bz⟩;refine Ls O (M7 (news:=[Ly 0,I 0]) Ow O O O O bz (by simp)) ?_;rintro w10 ⟨eA,ar⟩;replace eA:Lq w10 b12 [Ly 0,I 0] 353:=eA;have z9:=eI.size;have fG:Ext w8 w10:=eI.It ar (λi hi=>by omega);have z10:=fG.size;refine Lf$ Li O$ Le O$ Lt z2P O$ qV (Lj MP O O eA O)$ Lt VO O$ qV (Lj U3 O O eA O)$ LD S5 O (O4 (ro.ext fG) 0 0 (by omega) (by decide) (by omega)) ?_;rintro _ w11 ⟨rfl,F11,rp,bA,rq⟩;have iI:=fG.kp.trans bA;refine Lf$ Ld$ Li O$ Mb O O$ Le O$ Lf ((ih (2,F11,b8++bitsN 0 0) w11 ⟨by dsimp only;omega,rp,?_,?_,?_,?_⟩ (by dsimp only;omega)).qb)
         ·dsimp only;rw[ja];rw[if_neg (by decide)];simp[bitsN]
         ·exact bB.It iI (λi hi=>(tH i hi).elim .inr (λe=> .inl (by omega)))
         ·intro i hi;rcases rq i hi with e| e
          ·exact tH i e
          ·exact .inr (by omega)
         ·have:=iI.size;omega
       ·have:i=2:=by omega
        subst this;rw[if_neg (by decide)] at ja;refine Ln O$ qN O$ Lk O$ Lh Tryz.func203 O (⟨_,rfl,rfl,F8,?_,bB,λi hi=>(tH i hi).imp id (λe=>by omega)⟩);rw[ja] at ro;unfold Cd.enc
        simpa using ro
     ·omega
end
structure RgM (w:World)(x r:Nat)(s:Bytes)(a:Nat):Prop where
 Lg:Lq w x [ptr r 0,.bool false] 306
 rd:Py w r s a
 ne:x≠r
theorem RgM.ext {w w':World}{x r:Nat}{s:Bytes}{a:Nat}(h:RgM w x r s a)(k:Ext w w'):RgM w' x r s a:=⟨k.Lg h.Lg,⟨k.Lg h.rd.1,h.rd.2⟩,h.ne⟩
section
variable {w:World}{x r:Nat}{s:Bytes}{a:Nat}
theorem Si (h:RgM w x r s a)(n:Nat)(hn:n<=64)(hl:a+n<=8*s.length):
  LP Tryz.prog 217 [ptr x 0,I (n:Int)] w λv w'=>v=Ly (valB (((LF s).drop a).take n))/\RgM w' x r s (a+n)/\Kp (λk=>k=x\/k=r) w w':=by
 obtain⟨hB,hR,bN⟩:=h
 refine Lb (e:=[(0,_),(1,_)]) Tryz.func217 O Tryz.ntmps217 O O$ qN O$ Lw O$ qM O$ Le O$ LU O$ Lt z8y O$ qV (Lj Pn O O hB O)$ Le O$ LD ZO O (R6 hR n hn) ?_
 rintro v1 w1 fj
 obtain⟨rfl,kr,aN⟩:v1= .tuple #[Ly (valB (((LF s).drop a).take n)),I 0]/\Py w1 r s (a+n)/\Kp (λk=>k=r) w w1:=by
  rcases fj with⟨-,h⟩|⟨h,-⟩
  ·exact h
  ·omega
 have ai:=aN.Lg hB bN
 refine Le O$ Mp O O$ Mp O O$ Lw O$ Lw O$ qM O$ Lu O O$ LU O$ Lt VJ O$ qV (Lj U4 O O ai O)$ Lu O O$ Mu O O$ M5$ M8 O O ?_
 refine LU O$ Lt VJ O$ Ls O (MY Rz O O O ai (by simp)) ?_
 rintro w2 ⟨am,ao⟩
 replace am:Lq w2 x [ptr r 0,.bool false] 306:=am
 refine Lf$ LS.qb (e:=[(4,_),(5,_)]) ?_
 refine qN O$ Le O$ Lk O$ Lh Tryz.func217 O ?_
 exact⟨_,rfl,rfl,⟨am,⟨ao.Lg kr.1 (Ne.symm bN),kr.2⟩,bN⟩,(aN.Lv (λk e=> .inr e)).trans (ao.Lv (λk e=> .inl e))⟩
theorem Td (h:RgM w x r s a)(z most:Nat)(rest:List Bool)(hb:(LF s).drop a=List.replicate z false++true::rest)(hz:z<=most)(hm:most<=65535):
  LP Tryz.prog 215 [ptr x 0,I (most:Int)] w λv w'=>v=I (z:Int)/\RgM w' x r s (a+z+1)/\Kp (λk=>k=x\/k=r) w w':=by
 have aD:a+z+1<=8*s.length:=by
  have:=congrArg List.length hb;rw[List.length_drop,bitsT_length,List.length_append,List.length_replicate,List.length_cons] at this;omega
 refine Lb (e:=[(0,_),(1,_)]) Tryz.func215 O Tryz.ntmps215 O O$ qN O$ Lk O$ run_seq$ qN O$ Lk O$ Lc$ Nj (α:=Nat) (0) (λn=>[(0,ptr x 0),(1,I (most:Int)),(5,I (n:Int))]) (λn w'=>n<=z/\RgM w' x r s (a+n)/\Kp (λk=>k=x\/k=r) w w') (λn=>z-n) ?hI ?hround
 case hI=>exact⟨Nat.zero_le _,h,Kp.refl _ _⟩
 case hround=>
  rintro n w1 ⟨hn,h1,aN⟩ ih;have ai:=h1.Lg
  have hd:(LF s).drop (a+n)=List.replicate (z-n) false++true::rest:=by
   rw[<-List.drop_drop,hb,List.drop_append_of_le_length (by simp;omega),List.drop_replicate]
  try dsimp only
  refine run_seq$ qN O$ Lu O O$ zle O O$ Le O$ Oh (λc1=>?_)$ λc1=>?_
  ·have hv:valB (((LF s).drop (a+n)).take 1)=if n=z then 1 else 0:=by
    rw[hd];by_cases e:n=z
    ·subst e;rw[Nat.sub_self,if_pos O];rfl
    ·rw[if_neg e,show z-n=(z-n-1)+1 by omega,List.replicate_succ];rfl
   refine Le O$ LU O$ Lt VJ O$ qV (Lj U4 O O ai O)$ qV ((by first|exact Mh O|exact NL O)) ?_;refine MU O O$ Lf$ Lr O$ py$ run_seq$ Lc$ qN O$ Le O$ LD z2W O (Si h1 1 (by decide) (by omega)) ?_;rintro _ w2 ⟨rfl,h2,ao⟩;rw[hv];refine Nb O O$ Lf$ Lp O (λc2=>?_)$ λc2=>?_
   ·have EE:n=z:=by
     by_cases e:n=z
     ·exact e
     ·rw[if_neg e] at c2;simp at c2
    subst EE;refine qN O$ Le O$ Lk O$ Lh Tryz.func215 O ?_;exact⟨_,rfl,rfl,h2,aN.trans ao⟩
   ·have EE:n≠z:=λe=>by rw[if_pos e] at c2;simp at c2
    refine py$ Ld$ Li O$ Le O$ Mb O O$ Lk O ?_;exact(ih (n+1) w2 ⟨by omega,by rw[<-Nat.add_assoc];exact h2,aN.trans ao⟩ (by omega)).qb
  ·omega
theorem z1R (h:RgM w x r s a)(z q:Nat)(rest:List Bool)(hb:(LF s).drop a=List.replicate z false++true::(bitsN z q++rest))(hq:q<2^z)(hz:z<=47):
  LP Tryz.prog 216 [ptr x 0,I 47] w λv w'=>v=Ly (q+2^z-1)/\RgM w' x r s (a+z+1+z)/\Kp (λk=>k=x\/k=r) w w':=by
 have aD:a+z+1+z<=8*s.length:=by
  have:=congrArg List.length hb;rw[List.length_drop,bitsT_length,List.length_append,List.length_replicate,List.length_cons,List.length_append,bitsN_length] at this;omega
 have hd:(LF s).drop (a+z+1)=bitsN z q++rest:=by
  rw[show a+z+1=a+(z+1) by omega,<-List.drop_drop,hb];rw[<-List.drop_drop,List.drop_left' (by simp)];rfl
 have hv:valB (((LF s).drop (a+z+1)).take z)=q:=by
  rw[hd,List.take_left' (by simp),Me,Nat.mod_eq_of_lt hq]
 obtain⟨Q,hQ⟩:∃Q,2^z=Q:=⟨_,rfl⟩
 rw[hQ] at hq⊢
 have Ae:1<=Q/\Q<=281474976710656:=by
  rw[<-hQ];exact⟨Nat.two_pow_pos _,by have:=Nat.pow_le_pow_right (show 0<2 by decide) (show z<=48 by omega);simpa using this⟩
 refine Lb (e:=[(0,_),(1,_)]) Tryz.func216 O Tryz.ntmps216 O O$ qN O$ Lw O$ qM O$ Lu O O$ LD z6x O (Td h z 47 _ hb hz (by decide)) ?_
 rintro _ w1 ⟨rfl,h1,aN⟩
 have hg:=Ext.LC w1
 refine Lk O$ run_seq$ N7 (λw'=>Kp (λk=>k=x\/k=r) w1 w') O$ LA 0 O O (hg.kp)$ LA 1 O O (hg.kp)$ LA 3 O O (hg.kp)$ Ll 4 O (Na z Q O O (by omega) hQ) (hg.kp) ?_
 rw[show 1*Q%18446744073709551616=Q by omega]
 refine OA 2 O z2W O (Si (h1.ext hg) z (by omega) (by omega)) ?_
 rintro _ w2 ⟨rfl,h2,ao⟩
 refine⟨hg.kp.trans ao,?_⟩
 rw[hv]
 refine Ll 5 O (QD O O) (hg.kp.trans ao) ?_
 rw[show(q+Q)%18446744073709551616=q+Q by omega]
 refine Ll 6 O (RO (n:=1) O O O (by show q+Q<2^64;omega) (by omega)) (hg.kp.trans ao) ?_
 refine Ll 7 O (Ni O) (hg.kp.trans ao)$ qE$ Lh Tryz.func216 O ?_
 exact⟨_,rfl,rfl,h2,aN.trans (hg.kp.trans ao)⟩
theorem z2r (h:RgM w x r s a)(v K:Nat)(rest:List Bool)(hb:(LF s).drop a=MI v K++rest)(hv:v<K)(Gv:K<=9223372036854775808):
  LP Tryz.prog 218 [ptr x 0,Ly K] w λu w'=>u=Ly v/\RgM w' x r s (a+(MI v K).length)/\Kp (λk=>k=x\/k=r) w w':=by
 have aD:a+(MI v K).length<=8*s.length:=by
  have:=congrArg List.length hb;have ha:=h.rd.2.1;rw[List.length_drop,bitsT_length,List.length_append] at this;omega
 refine Lb (e:=[(0,_),(1,_)]) Tryz.func218 O Tryz.ntmps218 O O$ qN O$ Lw O$ qM O$ Le O$ qV (RO (n:=1) O O O (by show K<2^64;omega) (by omega)) ?_
 refine LD XL O (PV (K-1) (by omega) w) ?_
 rintro _ w ⟨rfl,rfl⟩
 refine Lk O$ run_seq$ qN O$ Le O$ Nb O O$ Lf ?_
 by_cases EC:K=1
 ·subst EC;have oC:v=0:=by omega
  subst oC;rw[show Ma (1-1)=0 from rfl];refine Lp O (λc0=>?_)$ λc0=>?_
  ·refine qN O$ Lk O$ Lh Tryz.func218 O ?_;exact⟨_,rfl,rfl,h,Kp.refl _ _⟩
  ·exact absurd O c0
 ·have f:=z1s hv (by omega) rest;dsimp only at f;obtain⟨n,hn⟩:∃n,Ma (K-1)=n:=⟨_,rfl⟩;rw[hn] at f⊢;have g:=QJ (K:=K) (by omega);rw[hn] at g;obtain⟨Q,hQ⟩:∃Q,2^n=Q:=⟨_,rfl⟩;rw[hQ] at f g;obtain⟨f1,f2,f3⟩:=f
  have Am:n<=63:=by
   rw[<-hn];have e63:(2:Nat)^63=9223372036854775808:=by decide
   exact N0 (by omega)
  have Ad:Q<=9223372036854775808:=by
   rw[<-hQ];have:=Nat.pow_le_pow_right (show 0<2 by decide) Am;have e63:(2:Nat)^63=9223372036854775808:=by decide
   omega
  have t1:((LF s).drop a).take (n-1)=(MI v K).take (n-1):=by rw[hb,List.take_append_of_le_length f2]
  obtain⟨u,hu⟩:∃u,valB ((MI v K).take (n-1))=u:=⟨_,rfl⟩
  have rt:u<Q:=by
   have h1:=N1 ((MI v K).take (n-1));rw[hu,List.length_take] at h1;have h2:=Nat.pow_le_pow_right (show 0<2 by decide) (show min (n-1) (MI v K).length<=n by omega);omega
  rw[hu] at f3;refine Lp O (λc0=>?_)$ λc0=>?_
  ·omega
  ·refine py$ qN O$ Le O$ qV (Na n Q O O (by omega) hQ) ?_;rw[show 1*Q%18446744073709551616=Q by omega];refine Le O$ qV (RO O O O (by show Q<2^64;omega) g.1) ?_;refine Lw O$ qM O$ Lu O O$ Np O O ?_;rw[show((n:Int)-1)=((n-1:Nat):Int) by omega];refine LD z2W O (Si h (n-1) (by omega) (by omega)) ?_;rintro _ w1 ⟨rfl,h1,aN⟩;rw[t1,hu];refine Lk O$ run_seq$ qN O$ Lu O O$ Pa O O$ Lf$ Lp O (λc1=>?_)$ λc1=>?_
   ·obtain⟨m1,m2,m3⟩:Q-K<=u/\(MI v K).length=n/\2*u+valB ((MI v K).drop (n-1))=v+(Q-K):=by
     rcases f3 with⟨e,-⟩| e
     ·omega
     ·exact e
    have t2:((LF s).drop (a+(n-1))).take 1=(MI v K).drop (n-1):=by
     rw[<-List.drop_drop,hb,List.drop_append_of_le_length f2,List.take_append_of_le_length (by rw[List.length_drop];omega),List.take_of_length_le (by rw[List.length_drop];omega)]
    have m9:valB ((MI v K).drop (n-1))<2:=by
     have:=N1 ((MI v K).drop (n-1));rw[List.length_drop,m2,show n-(n-1)=1 by omega] at this;exact this
    refine Li O$ Le O$ qV (Na 1 2 O O (by decide) O) ?_;rw[show u*2%18446744073709551616=u*2 by omega];refine Le O$ LD z2W O (Si h1 1 (by decide) (by omega)) ?_;rintro _ w2 ⟨rfl,h2,ao⟩;rw[t2];refine qV (QD O O) ?_;rw[show(u*2+valB ((MI v K).drop (n-1)))%18446744073709551616=v+(Q-K) by omega];refine Le O$ qV (RO O O O (by show v+(Q-K)<2^64;omega) (by omega)) ?_;rw[show v+(Q-K)-(Q-K)=v by omega];refine Lk O$ LS.qb (e:=[(4,_),(7,_)]) ?_;refine qN O$ Le O$ Lk O$ Lh Tryz.func218 O ?_;rw[m2];exact⟨_,rfl,rfl,by rw[show a+n=a+(n-1)+1 by omega];exact h2,aN.trans ao⟩
   ·obtain⟨m1,m2,m3⟩:u<Q-K/\(MI v K).length=n-1/\u=v:=by
     rcases f3 with e|⟨e,-⟩
     ·exact e
     ·omega
    refine py$ qN O$ Le O$ Lk O$ Lh Tryz.func218 O ?_;rw[m2];exact⟨_,rfl,by rw[m3];rfl,h1,aN⟩
end
section
variable {w:World}{x r:Nat}{s:Bytes}{a:Nat}
theorem z0y (h:RgM w x r s a)(c:Cd)(v:Nat)(hc:c.My)(hv:v<=c.most)(rest:List Bool)(hb:(LF s).drop a=c.enc v++rest):
  LP Tryz.prog 185 [ptr x 0,YN c] w λu w'=>u=Ly v/\RgM w' x r s (a+(c.enc v).length)/\Kp (λk=>k=x\/k=r) w w':=by
 have nY:=Sj c v
 have f9:=h.Lg.lt
 have gP:=h.rd.1.lt
 have aD:a+(c.enc v).length<=8*s.length:=by
  have:=congrArg List.length hb;have ha:=h.rd.2.1;rw[List.length_drop,bitsT_length,List.length_append] at this;omega
 unfold Cd.enc at hb
 rw[List.append_assoc,List.cons_append] at hb
 cases c with
 | unary =>
   refine Lb (e:=[(0,_),(1,_)]) Tryz.func185 O Tryz.ntmps185 O O$ qN O$ Lm O O (Nc O (cs:=[.int .u8 0,Ly 0]) O) ?_;rintro _ w1 ⟨b3,rfl,eB,ad,aq⟩;refine Lk O$ run_seq$ qN O$ Lt O0 O$ qV (Lj U5 O O aq O)$ Lf$ Lc$ qN O$ Nb O O$ Ns$ Lk O$ Lr O$ qN O$ Le O ?_;refine LD z6x O (Td (h.ext ad) v 65535 rest hb hv (by decide)) ?_;rintro _ w2 ⟨rfl,h2,ao⟩;have fd:v<=65535:=hv;refine qV ((by first|exact Mc O U3 MP (by omega)|exact Ny O U3 MP)) ?_;refine Lk O$ Lh Tryz.func185 O (⟨_,rfl,rfl,?_,ad.kp.trans ao⟩);have e:(Cd.enc .unary v).length=v+1:=by rw[nY];rfl
   rw[e];exact h2
 | gamma =>
   obtain⟨g1,g2,g3⟩:=Ri hv;obtain⟨z,hz⟩:∃z,Nat.log2 (v+1)=z:=⟨_,rfl⟩;rw[hz] at g1 g2 g3;rw[Nat.pow_succ] at g2
   have tI:(LF s).drop a=List.replicate z false++true::(bitsN z (v+1-2^z)++rest):=by
    rw[hb];show List.replicate (Nat.log2 (v+1)) false++true::(bitsN (Nat.log2 (v+1)) (v+1-2^Nat.log2 (v+1))++rest)=_;rw[hz]
   have e:(Cd.enc .gamma v).length=z+1+z:=by rw[nY];show Nat.log2 (v+1)+1+Nat.log2 (v+1)=_;rw[hz]
   refine Lb (e:=[(0,_),(1,_)]) Tryz.func185 O Tryz.ntmps185 O O$ qN O$ Lm O O (Nc O (cs:=[.int .u8 1,Ly 0]) O) ?_;rintro _ w1 ⟨b3,rfl,eB,ad,aq⟩;refine Lk O$ run_seq$ qN O$ Lt O0 O$ qV (Lj U5 O O aq O)$ Lf$ Lc$ qN O$ Nb O O$ M5$ Lk O$ An O$ qN O$ Nb O O ?_;refine Ns$ Lk O$ Lr O$ qN O$ Le O$ LD zcO O (z1R (h.ext ad) z (v+1-2^z) rest tI (by omega) g3) ?_;rintro _ w2 ⟨rfl,h2,ao⟩;rw[show v+1-2^z+2^z-1=v by omega];refine Lk O$ Lh Tryz.func185 O (⟨_,rfl,rfl,?_,ad.kp.trans ao⟩)
   rw[e,show a+(z+1+z)=a+z+1+z by omega];exact h2
 | zeta k =>
   obtain⟨aN,ao⟩:1<=k/\k<=16:=hc;obtain⟨g1,g2,g3⟩:=Ri hv;have f:=Tm (k:=k) (v:=v) aN;dsimp only at f;obtain⟨b,uA⟩:∃b,Nat.log2 (v+1)=b:=⟨_,rfl⟩;rw[uA] at f g1 g2 g3;obtain⟨z,hz⟩:∃z,b / k=z:=⟨_,rfl⟩;obtain⟨m,hm⟩:∃m,z*k=m:=⟨_,rfl⟩;have Gw:m<=b:=by rw[<-hm,<-hz];exact Nat.div_mul_le_self _ _
   have Ao:z<=47 / k:=by rw[<-hz];exact Nat.div_le_div_right g3
   have Kg:47 / k<=47:=Nat.div_le_self _ _;rw[hz,hm] at f
   have tI:(LF s).drop a=List.replicate z false++true::(MI (v+1-2^m) (2^m*2^k-2^m)++rest):=by
    rw[hb];show List.replicate (Nat.log2 (v+1) / k) false++true::(MI (v+1-2^(Nat.log2 (v+1) / k*k)) (2^(Nat.log2 (v+1) / k*k)*2^k-2^(Nat.log2 (v+1) / k*k))++rest)=_;rw[uA,hz,hm]
   obtain⟨F,hF⟩:∃F,2^m=F:=⟨_,rfl⟩;obtain⟨G,hG⟩:∃G,2^k=G:=⟨_,rfl⟩;rw[hF,hG] at f tI;obtain⟨f1,f2,f3⟩:=f;obtain⟨E,hE⟩:∃E,F*G=E:=⟨_,rfl⟩
   have Af:E<=9223372036854775808:=by
    rw[<-hE,<-hF,<-hG,<-Nat.pow_add];have:=Nat.pow_le_pow_right (show 0<2 by decide) (show m+k<=63 by omega);have e63:(2:Nat)^63=9223372036854775808:=by decide
    omega
   rw[hE] at f2 f3 tI
   have e:(Cd.enc (.zeta k) v).length=z+1+(MI (v+1-F) (E-F)).length:=by
    rw[Cd.enc,List.length_append,List.length_replicate,List.length_cons];show Nat.log2 (v+1) / k+((MI (v+1-2^(Nat.log2 (v+1) / k*k)) (2^(Nat.log2 (v+1) / k*k)*2^k-2^(Nat.log2 (v+1) / k*k))).length+1)=_;rw[uA,hz,hm,hF,hG,hE];omega
   have hd:(LF s).drop (a+z+1)=MI (v+1-F) (E-F)++rest:=by
    rw[show a+z+1=a+(z+1) by omega,<-List.drop_drop,tI];rw[<-List.drop_drop,List.drop_left' (by simp)];rfl
   have o2:(z:Int)*(k:Int)=(m:Int):=by rw[<-hm];simp
   have gp:(47:Int) / (k:Int)=((47 / k:Nat):Int):=by simp
   refine Lb (e:=[(0,_),(1,_)]) Tryz.func185 O Tryz.ntmps185 O O$ qN O$ Lm O O (Nc O (cs:=[.int .u8 3,Ly k]) O) ?_;rintro _ w1 ⟨b3,rfl,eB,ad,aq⟩;refine Lk O$ run_seq$ qN O$ Lt O0 O$ qV (Lj U5 O O aq O)$ Lf$ Lc$ qN O$ Nb O O$ M5$ Lk O$ An O$ qN O$ Nb O O ?_;refine M5$ Lk O$ An O$ qN O$ Nb O O$ M5$ Lk O$ An O$ qN O$ Nb O O$ Ns$ Lk O$ Lr O$ qN O ?_;refine Lt Sn O$ qV (Lj MP O O aq O)$ qV (M3 O MP U3 (by omega))$ Lw O$ qM O$ Lu O O$ qV (SC O O (by omega)) ?_;rw[gp];refine LD z6x O (Td (h.ext ad) z (47 / k) _ tI Ao (by omega)) ?_;rintro _ w2 ⟨rfl,h2,Ap⟩;refine Le O$ qV (T6 O O (by rw[o2];omega)) ?_;rw[o2];refine qV (Na m F O O (by omega) hF) ?_;rw[show 1*F%18446744073709551616=F by omega];refine Lk O$ LS.qb (e:=[(0,_),(3,_),(4,_),(6,_),(7,_)]) ?_;refine qN O$ Lu O O$ Le O$ qV (Na k G O O (by omega) hG) ?_;rw[hE,Nat.mod_eq_of_lt (show E<18446744073709551616 by omega)];refine Le O$ qV (RO O O O (by show E<2^64;omega) (by omega)) ?_;refine LD zb8 O (z2r h2 (v+1-F) (E-F) rest hd f2 (by omega)) ?_;rintro _ w3 ⟨rfl,h3,ax⟩;refine Le O$ qV (QD O O) ?_;rw[show(v+1-F+F)%18446744073709551616=v+1 by omega];refine qV (RO (n:=1) O O O (by show v+1<2^64;omega) (by omega)) ?_;rw[show v+1-1=v by omega];refine Lk O$ Lh Tryz.func185 O (⟨_,rfl,rfl,?_,(ad.kp.trans Ap).trans ax⟩);rw[e,show a+(z+1+(MI (v+1-F) (E-F)).length)=a+z+1+(MI (v+1-F) (E-F)).length by omega];exact h3
end
theorem z1D {P:Program}{fn:Func}{tmps:Array Value}{R:Ending->World->Prop}{g:FuncId}{cap args:List Value}{w:World}{S:Value->World->Prop}(oD:CF P g)(hD:z8G P g (args++cap) w S)
  (h:∀u w',S u w'->∃v,(results fn tmps).run P w'= .ok v w'/\R (.returned v) w'):LeavesInM Fence.wide 0 P fn tmps R (marks [.call g cap args]) .returning w:=by
 refine⟨by simp,.inr ⟨(λh=>by cases h),.func g,cap.toArray,g,(args++cap).toArray,rfl,?_,(λ_ _=>trivial),?_⟩⟩
 ·simp[Dfr.d,invoke,OT oD]
 ·refine CallsDIn.mono hD ?_;rintro x u w1 ⟨rfl,v1,rfl,hS⟩;exact h v1 w1 hS
theorem z4i {P:Program}{f:FuncId}{R:Value->World->Prop}{n:Nat}{k:List Item}{e:Env}{w:World}{fn:Func}{g:FuncId}{cap args:List Value}{S:Value->World->Prop}(hf:P.funcs[f]? =some fn)(oD:CF P g)(hD:z8G P g (args++cap) w S)
  (h:∀u w',S u w'->∃vs,Tt P w' e fn.results.toList vs/\Th R (.returned (resVal vs)) w'):LS ⟨P,f,R,n,none,[.call g cap args],false⟩ (.code .ret::k) e w:=
 z0R O O hf λa ha=>z1D oD hD λu w' hs=>by
  obtain⟨vs,h1,h2⟩:=h u w' hs;exact⟨_,Rr ha P w' fn vs h1,h2⟩
theorem ydf {P:Program}{e:Env}{ty:TypeId}{pos:String}{aft:Array Edge}{g:Option (Nat×Bool)}{w:World}{f:FuncId}{x:Operand}{q:List Value}(hv:look e x=some (.func (.func f) #[] q.toArray)):
  ∀ρ:Operand->Value,(∀x v,look e x=some v->ρ x=v)->(execOp ρ ⟨none,.defer ⟨.value x,#[],#[]⟩,ty,pos,aft,g⟩).run P w= .ok (.defer (Dfr.d (.call f q []))) w:=fun ρ hρ=>by
 simp[execOp,resolve,hρ _ _ hv,Dfr.d,Deferred.ofValue]
section
variable {w:World}{r:Nat}{s:Bytes}{a:Nat}
theorem z0G {b2 b5 b6:Nat}(hB:Lq w b5 [I 0] 35):z8G Tryz.prog 184 [ptr b5 0,ptr b2 0,ptr b6 0] w λu w'=>w'=w:=by
 refine z0M (e:=[(0,_),(1,_),(2,_)]) Tryz.func184 O Tryz.ntmps184 O O$ qN O$ qV (Lj U35 O O hB O)$ Mu O O$ Lf$ Lp O (λc0=>?_)$ λc0=>?_
 ·exact absurd O c0
 ·refine py$ z7p O O O Tryz.func184$ λa ha=>⟨_,QG ha _ _ _ _ O,?_⟩;exact⟨_,rfl,rfl⟩
theorem Uu (h:Py w r s a)(c:Cd)(v:Nat)(hc:c.My)(hv:v<=c.most)(rest:List Bool)(hb:(LF s).drop a=c.enc v++rest):
  LP Tryz.prog 147 [ptr r 0,YN c] w λu w'=>u= .tuple #[Ly v,I 0]/\Py w' r s (a+(c.enc v).length)/\Kp (λk=>k=r) w w':=by
 obtain⟨x,y,du⟩:∃x y,Og c=[x,y]:=by cases c<;>exact⟨_,_,rfl⟩
 have gP:=h.1.lt
 have ev:=c.W3
 refine Lb (e:=[(0,_),(1,_)]) Tryz.func147 O Tryz.ntmps147 O O$ qN O$ Lm O O (Nc O (cs:=[ptr r 0]) O) ?_
 rintro _ w1 ⟨b2,rfl,c6,ad,am⟩
 refine Lm O O (Nc O (cs:=Og c) O) ?_
 rintro _ w2 ⟨b3,rfl,eB,ag,aq⟩
 refine Lw O$ Lm O O (NJ (cs:=[_]) z54 O) ?_
 rintro _ w3 ⟨b5,rfl,gQ,ah,aI⟩
 replace aI:Lq w3 b5 [I 0] 35:=aI
 have h3:Py w3 r s a:=⟨ah.Lg (ag.Lg (ad.Lg h.1)),h.2⟩
 have cS:=ah.Lg (ag.Lg am)
 have dl:=ah.Lg aq
 refine Lf$ run_seq$ Lc$ qN O$ qV (Lj Pn O O cS O)$ qV (Ml Pn O O)$ Lk O$ An O$ qN O$ qV (LM (news:=Og c) O9 O MO O (dl.cells (n:=2) (by rw[du];rfl)) (by rw[du];rfl)) ?_
 refine LD z0I O (Qb c hc w3) ?_
 rintro _ w4 ⟨rfl,ay⟩
 have h4:Py w4 r s a:=⟨ay.Lg h3.1,h3.2⟩
 have gz:=ay.Lg cS
 refine Mu O O$ Lk O$ Lp O (λc0=>?_)$ λc0=>?_
 ·exact absurd O c0
 ·refine py$ Ld$ qN O$ qV (Lj Pn O O gz O)$ LD Tu O (PO h4) ?_;rintro _ w4 ⟨rfl,rfl⟩;refine Lm O O (NJ (cs:=[_]) Md O) ?_;rintro _ w5 ⟨b6,rfl,m7,aX,aR⟩;refine Ls O (MY Md O O O aR (by simp)) ?_;rintro w6 ⟨mu,aU⟩;have z1:=ad.size;have z2:=ag.size;have z3:=ah.size;have z4:=ay.size;have z5:=aX.size;have l2:=am.lt;have l3:=aq.lt;have l5:=aI.lt;have cO:Ext w4 w6:=aX.It aU (λi hi=>by omega);have gX:=cO.Lg gz;refine qM O$ qV (Z9 (first:=[]) (caps:=[.tmp 5,.tmp 2,.tmp 6]) O O)$ zaL O O (ydf O)$ qM O$ qV (Lj Pn O O gX O)$ qV (O6 (cs:=[_,_]) zca O zcA O O)$ Lm O O (Nc O O) ?_;rintro _ w7 ⟨b7,rfl,kW,cg,bJ⟩;replace bJ:Lq w7 b7 [ptr r 0,.bool false] 306:=bJ;have z6:=cO.size;have z7:=cg.size;have oE:Ext w3 w7:=(ay.trans cO).trans cg;have h7:RgM w7 b7 r s a:=⟨bJ,⟨oE.Lg h3.1,h3.2⟩,by omega⟩;have kY:=oE.Lg dl;have jv:=oE.Lg aI;refine Lk O$ run_seq$ qN O$ Le O$ qV (LM (news:=Og c) O9 O MO O (kY.cells (n:=2) (by rw[du];rfl)) (by rw[du];rfl)) ?_;refine LD zbW O (z0y h7 c v hc hv rest hb) ?_;rintro _ w8 ⟨rfl,h8,bB⟩;have mv:=bB.Lg kY (by omega);have Aq:=bB.Lg jv (by omega);have cu:=h8.Lg;refine Lw O$ qM O$ Le O$ LU O$ Lt VJ O$ qV (Lj U4 O O cu O)$ Lu O O$ qV (LM (news:=Og c) O9 O MO O (mv.cells (n:=2) (by rw[du];rfl)) (by rw[du];rfl)) ?_;refine LD z9v O (Y4 c hc w8) ?_;rintro _ w9 ⟨rfl,eI⟩;refine MH O O$ M8 O O$ Lf$ LS.qb (e:=[(4,_),(5,_),(33,_)]) ?_;refine Lp O (λc1=>?_)$ λc1=>?_
  ·omega
  ·have Ar:=eI.Lg Aq;refine py$ qN O$ Le O$ Lw O$ Ls O (MY z54 O O O Ar (by simp)) ?_;rintro w10 ⟨dc,ar⟩;replace dc:Lq w10 b5 [I 0] 35:=dc;refine Lf$ z4i Tryz.func147 zdf (z0G (b2:=b2) (b6:=b6) dc) ?_;rintro u w' rfl;have tJ:Py w9 r s (a+(c.enc v).length):=⟨eI.Lg h8.rd.1,h8.rd.2⟩;refine⟨_,.tmp O (.cell1 U35 O O ((dc).cell _) .nil),_,rfl,rfl,⟨ar.Lg tJ.1 (by omega),tJ.2⟩,?_⟩;have jw:Ext w w7:=((ad.trans ag).trans ah).trans oE;have mw:Kp (λk=>k=r) w w8:=jw.kp.It bB (λi hi=>hi.elim (λe=> .inl (by omega)) .inr);exact(mw.trans eI.kp).It ar (λi hi=> .inl (by omega))
end
end Go.Proofs.YtfgjaafcgghnoaaGreatDoor
