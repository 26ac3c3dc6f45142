/- Merged by program. -/
import Derived.Test.YtfgjaafcgghnoaaGreatDoorRows
import Derived.Test.YtfgjaafcgghnoaaGreatDoorCTp1
import Derived.KernelRfl
import Derived.Lib.AppendZerosOnto
import Derived.Lib.Overlaps
import Derived.Maps.RangeRun
set_option linter.all false
set_option maxRecDepth 1000000
set_option maxHeartbeats 16000000
namespace Go.Proofs.YtfgjaafcgghnoaaGreatDoor
open Go Go.RowKit
set_option linter.unusedSimpArgs false
theorem MV:TI Tryz.prog 3 (Value.int .i64 0) 1 8:=ME (by kernel_rfl)
theorem Sx:TI Tryz.prog 4 (Value.bool false) 1 1:=ME (by kernel_rfl)
theorem TS:TI Tryz.prog 5 (Value.int .u8 0) 1 1:=ME (by kernel_rfl)
theorem Z0:TI Tryz.prog 9 (Value.string ⟨#[]⟩) 1 16:=ME (by kernel_rfl)
theorem zgC:TI Tryz.prog 22 (Value.slice none 0 0) 1 24:=ME (by kernel_rfl)
theorem zgl:TI Tryz.prog 24 (Value.agg #[Value.int .i64 0,Value.slice none 0 0,Value.bool false,Value.int .i64 0,Value.int .i64 0]) 5 56:=ME (by kernel_rfl)
theorem zbd:TI Tryz.prog 27 (Value.pointer none) 1 8:=ME (by kernel_rfl)
theorem z4O:TI Tryz.prog 28 (Value.pointer none) 1 8:=ME (by kernel_rfl)
theorem z8w:TI Tryz.prog 29 (Value.pointer none) 1 8:=ME (by kernel_rfl)
theorem Wz:TI Tryz.prog 31 (Value.agg #[Value.pointer none,Value.pointer none,Value.pointer none,Value.pointer none,Value.int .i64 0]) 5 40:=ME (by kernel_rfl)
theorem z54:TI Tryz.prog 35 (Value.int .i64 0) 1 8:=ME (by kernel_rfl)
theorem z32:TI Tryz.prog 40 (Value.slice none 0 0) 1 24:=ME (by kernel_rfl)
theorem Rq:TI Tryz.prog 41 (Value.int .u64 0) 1 8:=ME (by kernel_rfl)
theorem Pq:TI Tryz.prog 45 (Value.slice none 0 0) 1 24:=ME (by kernel_rfl)
theorem Mi:TI Tryz.prog 46 (Value.int .u32 0) 1 4:=ME (by kernel_rfl)
theorem zdz:TI Tryz.prog 48 (Value.pointer none) 1 8:=ME (by kernel_rfl)
theorem zbD:TI Tryz.prog 55 (Value.agg #[Value.int .i64 0,Value.int .i64 0,Value.int .i64 0]) 3 24:=ME (by kernel_rfl)
theorem zbO:TI Tryz.prog 58 (Value.nilFunc) 1 8:=ME (by kernel_rfl)
theorem zby:TI Tryz.prog 71 (Value.agg #[Value.int .i64 0,Value.int .i64 0,Value.int .i64 0,Value.int .i64 0,Value.int .i64 0,Value.int .i64 0,Value.int .i64 0]) 7 56:=ME (by kernel_rfl)
theorem z6S:TI Tryz.prog 80 (Value.agg #[Value.int .i64 0,Value.int .i64 0]) 2 16:=ME (by kernel_rfl)
theorem Oi:TI Tryz.prog 88 (Value.agg #[Value.int .i64 0,Value.int .i64 0,Value.int .i64 0,Value.int .i64 0,Value.int .i64 0]) 5 40:=ME (by kernel_rfl)
theorem zbx:TI Tryz.prog 90 (Value.pointer none) 1 8:=ME (by kernel_rfl)
theorem z9i:TI Tryz.prog 97 (Value.agg #[Value.int .i64 0,Value.int .i64 0,Value.bool false]) 3 24:=ME (by kernel_rfl)
theorem zgk:TI Tryz.prog 99 (Value.agg #[Value.int .i64 0,Value.int .i64 0,Value.bool false,Value.pointer none,Value.pointer none,Value.bool false]) 6 48:=ME (by kernel_rfl)
theorem z9W:TI Tryz.prog 100 (Value.pointer none) 1 8:=ME (by kernel_rfl)
theorem z9Y:TI Tryz.prog 101 (Value.map none) 1 8:=ME (by kernel_rfl)
theorem zcC:TI Tryz.prog 103 (Value.agg #[Value.pointer none,Value.pointer none,Value.pointer none,Value.map none,Value.int .i64 0,Value.int .i64 0,Value.int .i64 0,Value.int .i64 0,Value.int .i64 0,Value.int .i64 0,Value.int .i64 0,Value.bool false]) 12 96:=ME (by kernel_rfl)
theorem NO:TI Tryz.prog 108 (Value.agg #[Value.int .i64 0,Value.int .i64 0]) 2 16:=ME (by kernel_rfl)
theorem Qs:TI Tryz.prog 113 (Value.agg #[Value.int .u32 0,Value.int .u32 0]) 2 8:=ME (by kernel_rfl)
theorem zaD:TI Tryz.prog 116 (Value.map none) 1 8:=ME (by kernel_rfl)
theorem z7y:TI Tryz.prog 118 (Value.agg #[Value.slice none 0 0,Value.int .i64 0,Value.int .u8 0]) 3 40:=ME (by kernel_rfl)
theorem z4t:TI Tryz.prog 120 (Value.agg #[Value.int .i64 0,Value.slice none 0 0,Value.int .i64 0,Value.int .u8 0]) 4 48:=ME (by kernel_rfl)
theorem z3O:TI Tryz.prog 121 (Value.slice none 0 0) 1 24:=ME (by kernel_rfl)
theorem zce:TI Tryz.prog 123 (Value.agg #[Value.int .i64 0,Value.slice none 0 0,Value.int .i64 0,Value.int .u8 0,Value.int .i64 0,Value.int .i64 0,Value.map none,Value.slice none 0 0,Value.bool false,Value.int .i64 0,Value.int .i64 0]) 11 120:=ME (by kernel_rfl)
theorem za7:TI Tryz.prog 124 (Value.slice none 0 0) 1 24:=ME (by kernel_rfl)
theorem zeS:TI Tryz.prog 126 (Value.agg #[Value.int .i64 0,Value.slice none 0 0,Value.slice none 0 0,Value.bool false]) 4 64:=ME (by kernel_rfl)
theorem Z1:TI Tryz.prog 133 (Value.pointer none) 1 8:=ME (by kernel_rfl)
theorem UQ:TI Tryz.prog 143 (Value.agg #[Value.int .i64 0,Value.int .i64 0,Value.int .i64 0]) 3 24:=ME (by kernel_rfl)
theorem zd7:TI Tryz.prog 145 (Value.agg #[Value.int .i64 0,Value.int .i64 0,Value.int .i64 0,Value.int .i64 0,Value.int .i64 0,Value.pointer none,Value.bool false]) 7 56:=ME (by kernel_rfl)
theorem Qv:TI Tryz.prog 149 (Value.agg #[Value.int .i64 0,Value.int .i64 0,Value.int .i64 0,Value.int .i64 0,Value.int .i64 0,Value.int .i64 0,Value.int .i64 0,Value.int .i64 0]) 8 64:=ME (by kernel_rfl)
theorem Z6:TI Tryz.prog 151 (Value.nilIface) 1 16:=ME (by kernel_rfl)
theorem zax:TI Tryz.prog 152 (Value.pointer none) 1 8:=ME (by kernel_rfl)
theorem zc3:TI Tryz.prog 154 (Value.agg #[Value.int .i64 0,Value.int .i64 0,Value.int .i64 0,Value.int .i64 0,Value.int .i64 0,Value.int .i64 0,Value.int .i64 0,Value.int .i64 0,Value.nilIface,Value.pointer none]) 10 88:=ME (by kernel_rfl)
theorem OG:TI Tryz.prog 157 (Value.agg #[Value.int .i64 0,Value.int .i64 0]) 2 16:=ME (by kernel_rfl)
theorem YI:TI Tryz.prog 158 (Value.pointer none) 1 8:=ME (by kernel_rfl)
theorem TU:TI Tryz.prog 171 (Value.slice none 0 0) 1 24:=ME (by kernel_rfl)
theorem YU:TI Tryz.prog 174 (Value.int .u8 0) 1 1:=ME (by kernel_rfl)
theorem za2:TI Tryz.prog 177 (Value.agg #[Value.pointer none,Value.slice none 0 0]) 2 32:=ME (by kernel_rfl)
theorem z4v:TI Tryz.prog 187 (Value.map none) 1 8:=ME (by kernel_rfl)
theorem z1m:TI Tryz.prog 189 (Value.agg #[Value.slice none 0 0,Value.map none]) 2 32:=ME (by kernel_rfl)
theorem zf1:TI Tryz.prog 191 (Value.agg #[Value.int .i64 0,Value.slice none 0 0,Value.map none,Value.slice none 0 0,Value.map none,Value.slice none 0 0,Value.map none,Value.slice none 0 0,Value.map none,Value.int .i64 0,Value.map none]) 11 152:=ME (by kernel_rfl)
theorem SM:TI Tryz.prog 198 (Value.agg #[Value.pointer none,Value.int .i64 0,Value.int .i64 0]) 3 24:=ME (by kernel_rfl)
theorem z9N:TI Tryz.prog 200 (Value.agg #[Value.pointer none,Value.int .i64 0,Value.int .i64 0,Value.slice none 0 0,Value.int .i64 0,Value.int .i64 0,Value.int .u32 0,Value.nilFunc,Value.bool false]) 9 88:=ME (by kernel_rfl)
theorem zea:TI Tryz.prog 204 (Value.agg #[Value.pointer none,Value.int .i64 0,Value.int .i64 0,Value.int .i64 0,Value.int .u32 0]) 5 40:=ME (by kernel_rfl)
theorem QC:TI Tryz.prog 212 (Value.agg #[Value.int .i64 0,Value.int .i64 0,Value.int .i64 0]) 3 24:=ME (by kernel_rfl)
theorem z7g:TI Tryz.prog 215 (Value.pointer none) 1 8:=ME (by kernel_rfl)
theorem z4g:TI Tryz.prog 217 (Value.agg #[Value.string ⟨#[]⟩,Value.bool false]) 2 24:=ME (by kernel_rfl)
theorem zd4:TI Tryz.prog 219 (Value.agg #[Value.string ⟨#[]⟩,Value.bool false,Value.int .i64 0]) 3 32:=ME (by kernel_rfl)
theorem z4b:TI Tryz.prog 231 (Value.pointer none) 1 8:=ME (by kernel_rfl)
theorem S3:TI Tryz.prog 233 (Value.agg #[Value.int .i64 0,Value.int .i64 0]) 2 16:=ME (by kernel_rfl)
theorem Q0:TI Tryz.prog 238 (Value.agg #[Value.int .i64 0,Value.int .u64 0,Value.int .i64 0,Value.int .i64 0]) 4 32:=ME (by kernel_rfl)
theorem zcH:TI Tryz.prog 251 (Value.agg #[Value.nilIface,Value.int .i64 0,Value.int .i64 0]) 3 32:=ME (by kernel_rfl)
theorem ND:TI Tryz.prog 260 (Value.agg #[Value.int .u8 0,Value.int .u64 0]) 2 16:=ME (by kernel_rfl)
theorem zdC:TI Tryz.prog 262 (Value.agg #[Value.string ⟨#[]⟩,Value.int .i64 0]) 2 24:=ME (by kernel_rfl)
theorem MD:TI Tryz.prog 265 (Value.agg #[Value.bool false,Value.bool false,Value.int .i64 0]) 3 16:=ME (by kernel_rfl)
theorem zaM:TI Tryz.prog 269 (Value.nilFunc) 1 8:=ME (by kernel_rfl)
theorem Nf:TI Tryz.prog 274 (Value.agg #[Value.slice none 0 0,Value.int .i64 0]) 2 32:=ME (by kernel_rfl)
theorem zcM:TI Tryz.prog 275 (Value.agg #[Value.slice none 0 0,Value.int .i64 0,Value.slice none 0 0,Value.int .i64 0,Value.slice none 0 0,Value.int .i64 0,Value.slice none 0 0,Value.int .i64 0,Value.slice none 0 0,Value.int .i64 0,Value.slice none 0 0,Value.int .i64 0,Value.slice none 0 0,Value.int .i64 0,Value.slice none 0 0,Value.int .i64 0,Value.slice none 0 0,Value.int .i64 0,Value.slice none 0 0,Value.int .i64 0,Value.slice none 0 0,Value.int .i64 0,Value.slice none 0 0,Value.int .i64 0,Value.slice none 0 0,Value.int .i64 0,Value.slice none 0 0,Value.int .i64 0,Value.slice none 0 0,Value.int .i64 0,Value.slice none 0 0,Value.int .i64 0,Value.slice none 0 0,Value.int .i64 0]) 34 544:=ME (by kernel_rfl)
theorem zan:TI Tryz.prog 277 (Value.agg #[Value.slice none 0 0,Value.int .i64 0,Value.slice none 0 0,Value.int .i64 0,Value.slice none 0 0,Value.int .i64 0,Value.slice none 0 0,Value.int .i64 0,Value.slice none 0 0,Value.int .i64 0,Value.slice none 0 0,Value.int .i64 0,Value.slice none 0 0,Value.int .i64 0,Value.slice none 0 0,Value.int .i64 0,Value.slice none 0 0,Value.int .i64 0,Value.slice none 0 0,Value.int .i64 0,Value.slice none 0 0,Value.int .i64 0,Value.slice none 0 0,Value.int .i64 0,Value.slice none 0 0,Value.int .i64 0,Value.slice none 0 0,Value.int .i64 0,Value.slice none 0 0,Value.int .i64 0,Value.slice none 0 0,Value.int .i64 0,Value.slice none 0 0,Value.int .i64 0,Value.int .i64 0]) 35 552:=ME (by kernel_rfl)
theorem zcd:TI Tryz.prog 279 (Value.agg #[Value.int .i64 0,Value.int .i64 0,Value.int .i64 0,Value.int .i64 0,Value.int .i64 0,Value.slice none 0 0,Value.int .i64 0,Value.slice none 0 0,Value.int .i64 0,Value.slice none 0 0,Value.int .i64 0,Value.slice none 0 0,Value.int .i64 0,Value.slice none 0 0,Value.int .i64 0,Value.slice none 0 0,Value.int .i64 0,Value.slice none 0 0,Value.int .i64 0,Value.slice none 0 0,Value.int .i64 0,Value.slice none 0 0,Value.int .i64 0,Value.slice none 0 0,Value.int .i64 0,Value.slice none 0 0,Value.int .i64 0,Value.slice none 0 0,Value.int .i64 0,Value.slice none 0 0,Value.int .i64 0,Value.slice none 0 0,Value.int .i64 0,Value.slice none 0 0,Value.int .i64 0,Value.slice none 0 0,Value.int .i64 0,Value.slice none 0 0,Value.int .i64 0,Value.int .i64 0,Value.pointer none,Value.int .i64 0,Value.int .i64 0]) 43 616:=ME (by kernel_rfl)
theorem zf3:TI Tryz.prog 286 (Value.agg #[Value.slice none 0 0,Value.int .i64 0]) 2 32:=ME (by kernel_rfl)
theorem zdy:TI Tryz.prog 294 (Value.agg #[Value.int .i64 0,Value.int .u64 0,Value.int .i64 0,Value.int .i64 0,Value.nilIface]) 5 48:=ME (by kernel_rfl)
theorem zaF:TI Tryz.prog 300 (Value.pointer none) 1 8:=ME (by kernel_rfl)
theorem zdI:TI Tryz.prog 306 (Value.agg #[Value.pointer none,Value.bool false]) 2 16:=ME (by kernel_rfl)
theorem zfi:TI Tryz.prog 316 (Value.agg #[Value.pointer none,Value.bool false]) 2 16:=ME (by kernel_rfl)
theorem z7c:TI Tryz.prog 320 (Value.slice none 0 0) 1 24:=ME (by kernel_rfl)
theorem RS:TI Tryz.prog 323 (Value.agg #[Value.int .u8 0,Value.int .u64 0,Value.int .u64 0]) 3 24:=ME (by kernel_rfl)
theorem SZ:TI Tryz.prog 334 (Value.agg #[Value.int .i64 0,Value.string ⟨#[]⟩]) 2 24:=ME (by kernel_rfl)
theorem Y1:TI Tryz.prog 350 (Value.agg #[Value.int .i64 0,Value.int .i64 0]) 2 16:=ME (by kernel_rfl)
theorem Pt:TI Tryz.prog 353 (Value.agg #[Value.int .u64 0,Value.int .i64 0]) 2 16:=ME (by kernel_rfl)
theorem Rh:TI Tryz.prog 354 (Value.agg #[Value.int .u64 0,Value.int .i64 0,Value.int .u64 0,Value.int .i64 0]) 4 32:=ME (by kernel_rfl)
theorem z1q:TI Tryz.prog 373 (Value.int .u64 0) 1 8:=ME (by kernel_rfl)
theorem zbI:Nd Tryz.prog 24 0 0 1 false:=⟨_,_,_,_,_,Tryz.underlying24,rfl,rfl,MV,Tryz.underlying3,rfl⟩
theorem zb0:Nd Tryz.prog 24 1 1 1 false:=⟨_,_,_,_,_,Tryz.underlying24,rfl,rfl,zgC,Tryz.underlying22,rfl⟩
theorem z8c:Nd Tryz.prog 24 2 2 1 false:=⟨_,_,_,_,_,Tryz.underlying24,rfl,rfl,Sx,Tryz.underlying4,rfl⟩
theorem zbE:Nd Tryz.prog 24 3 3 1 false:=⟨_,_,_,_,_,Tryz.underlying24,rfl,rfl,MV,Tryz.underlying3,rfl⟩
theorem zbp:Nd Tryz.prog 24 4 4 1 false:=⟨_,_,_,_,_,Tryz.underlying24,rfl,rfl,MV,Tryz.underlying3,rfl⟩
theorem ZH:Nd Tryz.prog 31 1 1 1 false:=⟨_,_,_,_,_,Tryz.underlying31,rfl,rfl,z4O,Tryz.underlying28,rfl⟩
theorem Zz:Nd Tryz.prog 31 2 2 1 false:=⟨_,_,_,_,_,Tryz.underlying31,rfl,rfl,z8w,Tryz.underlying29,rfl⟩
theorem zgj:SP Tryz.prog 31 [(0,1),(1,1),(2,1),(3,1),(4,1)]:=⟨_,Tryz.underlying31,λ_=>by simp[zbd.size,z4O.size,z8w.size,MV.size,Sem.run_bind,Sem.run_pure]⟩
theorem zbf:Nd Tryz.prog 55 0 0 1 false:=⟨_,_,_,_,_,Tryz.underlying55,rfl,rfl,MV,Tryz.underlying3,rfl⟩
theorem zbj:Nd Tryz.prog 55 1 1 1 false:=⟨_,_,_,_,_,Tryz.underlying55,rfl,rfl,MV,Tryz.underlying3,rfl⟩
theorem zb9:Nd Tryz.prog 55 2 2 1 false:=⟨_,_,_,_,_,Tryz.underlying55,rfl,rfl,MV,Tryz.underlying3,rfl⟩
theorem z7d:Nd Tryz.prog 71 1 1 1 false:=⟨_,_,_,_,_,Tryz.underlying71,rfl,rfl,MV,Tryz.underlying3,rfl⟩
theorem z6C:Nd Tryz.prog 71 2 2 1 false:=⟨_,_,_,_,_,Tryz.underlying71,rfl,rfl,MV,Tryz.underlying3,rfl⟩
theorem z8n:Nd Tryz.prog 71 3 3 1 false:=⟨_,_,_,_,_,Tryz.underlying71,rfl,rfl,MV,Tryz.underlying3,rfl⟩
theorem zgr:SP Tryz.prog 71 [(0,1),(1,1),(2,1),(3,1),(4,1),(5,1),(6,1)]:=⟨_,Tryz.underlying71,λ_=>by simp[MV.size,Sem.run_bind,Sem.run_pure]⟩
theorem Vy:Nd Tryz.prog 80 0 0 1 false:=⟨_,_,_,_,_,Tryz.underlying80,rfl,rfl,MV,Tryz.underlying3,rfl⟩
theorem VF:Nd Tryz.prog 80 1 1 1 false:=⟨_,_,_,_,_,Tryz.underlying80,rfl,rfl,MV,Tryz.underlying3,rfl⟩
theorem zfF:SP Tryz.prog 80 [(0,1),(1,1)]:=⟨_,Tryz.underlying80,λ_=>by simp[MV.size,Sem.run_bind,Sem.run_pure]⟩
theorem XG:Nd Tryz.prog 88 0 0 1 false:=⟨_,_,_,_,_,Tryz.underlying88,rfl,rfl,MV,Tryz.underlying3,rfl⟩
theorem VH:Nd Tryz.prog 88 1 1 1 false:=⟨_,_,_,_,_,Tryz.underlying88,rfl,rfl,MV,Tryz.underlying3,rfl⟩
theorem z6P:Nd Tryz.prog 88 2 2 1 false:=⟨_,_,_,_,_,Tryz.underlying88,rfl,rfl,MV,Tryz.underlying3,rfl⟩
theorem z7u:Nd Tryz.prog 88 3 3 1 false:=⟨_,_,_,_,_,Tryz.underlying88,rfl,rfl,MV,Tryz.underlying3,rfl⟩
theorem Qb:Nd Tryz.prog 88 4 4 1 false:=⟨_,_,_,_,_,Tryz.underlying88,rfl,rfl,MV,Tryz.underlying3,rfl⟩
theorem z8B:SP Tryz.prog 88 [(0,1),(1,1),(2,1),(3,1),(4,1)]:=⟨_,Tryz.underlying88,λ_=>by simp[MV.size,Sem.run_bind,Sem.run_pure]⟩
theorem z06:Nd Tryz.prog 97 0 0 1 false:=⟨_,_,_,_,_,Tryz.underlying97,rfl,rfl,MV,Tryz.underlying3,rfl⟩
theorem XC:Nd Tryz.prog 97 1 1 1 false:=⟨_,_,_,_,_,Tryz.underlying97,rfl,rfl,MV,Tryz.underlying3,rfl⟩
theorem VV:Nd Tryz.prog 97 2 2 1 false:=⟨_,_,_,_,_,Tryz.underlying97,rfl,rfl,Sx,Tryz.underlying4,rfl⟩
theorem zgn:SP Tryz.prog 97 [(0,1),(1,1),(2,1)]:=⟨_,Tryz.underlying97,λ_=>by simp[MV.size,Sx.size,Sem.run_bind,Sem.run_pure]⟩
theorem Pa:Nd Tryz.prog 99 0 0 3 true:=⟨_,_,_,_,_,Tryz.underlying99,rfl,rfl,z9i,Tryz.underlying97,rfl⟩
theorem z2L:Nd Tryz.prog 99 1 3 1 false:=⟨_,_,_,_,_,Tryz.underlying99,rfl,rfl,z8w,Tryz.underlying29,rfl⟩
theorem RP:Nd Tryz.prog 99 2 4 1 false:=⟨_,_,_,_,_,Tryz.underlying99,rfl,rfl,zbx,Tryz.underlying90,rfl⟩
theorem z7n:Nd Tryz.prog 99 3 5 1 false:=⟨_,_,_,_,_,Tryz.underlying99,rfl,rfl,Sx,Tryz.underlying4,rfl⟩
theorem zg0:SP Tryz.prog 99 [(0,3),(3,1),(4,1),(5,1)]:=⟨_,Tryz.underlying99,λ_=>by simp[z8w.size,Sx.size,zbx.size,z9i.size,Sem.run_bind,Sem.run_pure]⟩
theorem RF:Nd Tryz.prog 103 0 0 1 false:=⟨_,_,_,_,_,Tryz.underlying103,rfl,rfl,zbd,Tryz.underlying27,rfl⟩
theorem z3M:Nd Tryz.prog 103 1 1 1 false:=⟨_,_,_,_,_,Tryz.underlying103,rfl,rfl,zdz,Tryz.underlying48,rfl⟩
theorem z4y:Nd Tryz.prog 103 2 2 1 false:=⟨_,_,_,_,_,Tryz.underlying103,rfl,rfl,z9W,Tryz.underlying100,rfl⟩
theorem Sj:Nd Tryz.prog 103 3 3 1 false:=⟨_,_,_,_,_,Tryz.underlying103,rfl,rfl,z9Y,Tryz.underlying101,rfl⟩
theorem TA:Nd Tryz.prog 103 4 4 7 true:=⟨_,_,_,_,_,Tryz.underlying103,rfl,rfl,zby,Tryz.underlying71,rfl⟩
theorem z4u:Nd Tryz.prog 103 5 11 1 false:=⟨_,_,_,_,_,Tryz.underlying103,rfl,rfl,Sx,Tryz.underlying4,rfl⟩
theorem zeV:SP Tryz.prog 103 [(0,1),(1,1),(2,1),(3,1),(4,7),(11,1)]:=⟨_,Tryz.underlying103,λ_=>by simp[z9W.size,z9Y.size,zbd.size,Sx.size,zdz.size,zby.size,Sem.run_bind,Sem.run_pure]⟩
theorem NK:Nd Tryz.prog 108 0 0 1 false:=⟨_,_,_,_,_,Tryz.underlying108,rfl,rfl,MV,Tryz.underlying3,rfl⟩
theorem NQ:Nd Tryz.prog 108 1 1 1 false:=⟨_,_,_,_,_,Tryz.underlying108,rfl,rfl,MV,Tryz.underlying3,rfl⟩
theorem zbT:SP Tryz.prog 108 [(0,1),(1,1)]:=⟨_,Tryz.underlying108,λ_=>by simp[MV.size,Sem.run_bind,Sem.run_pure]⟩
theorem Ts:Nd Tryz.prog 113 0 0 1 false:=⟨_,_,_,_,_,Tryz.underlying113,rfl,rfl,Mi,Tryz.underlying46,rfl⟩
theorem Si:Nd Tryz.prog 113 1 1 1 false:=⟨_,_,_,_,_,Tryz.underlying113,rfl,rfl,Mi,Tryz.underlying46,rfl⟩
theorem zaK:SP Tryz.prog 113 [(0,1),(1,1)]:=⟨_,Tryz.underlying113,λ_=>by simp[Mi.size,Sem.run_bind,Sem.run_pure]⟩
theorem z8T:Nd Tryz.prog 118 0 0 1 false:=⟨_,_,_,_,_,Tryz.underlying118,rfl,rfl,z32,Tryz.underlying40,rfl⟩
theorem z9f:Nd Tryz.prog 118 1 1 1 false:=⟨_,_,_,_,_,Tryz.underlying118,rfl,rfl,MV,Tryz.underlying3,rfl⟩
theorem z9H:Nd Tryz.prog 118 2 2 1 false:=⟨_,_,_,_,_,Tryz.underlying118,rfl,rfl,TS,Tryz.underlying5,rfl⟩
theorem WJ:Nd Tryz.prog 120 0 0 1 false:=⟨_,_,_,_,_,Tryz.underlying120,rfl,rfl,MV,Tryz.underlying3,rfl⟩
theorem z8K:Nd Tryz.prog 120 1 1 3 true:=⟨_,_,_,_,_,Tryz.underlying120,rfl,rfl,z7y,Tryz.underlying118,rfl⟩
theorem zc1:SP Tryz.prog 120 [(0,1),(1,3)]:=⟨_,Tryz.underlying120,λ_=>by simp[z7y.size,MV.size,Sem.run_bind,Sem.run_pure]⟩
theorem Ta:Nd Tryz.prog 123 0 0 4 true:=⟨_,_,_,_,_,Tryz.underlying123,rfl,rfl,z4t,Tryz.underlying120,rfl⟩
theorem X7:Nd Tryz.prog 123 1 4 2 true:=⟨_,_,_,_,_,Tryz.underlying123,rfl,rfl,z6S,Tryz.underlying80,rfl⟩
theorem ZB:Nd Tryz.prog 123 2 6 1 false:=⟨_,_,_,_,_,Tryz.underlying123,rfl,rfl,zaD,Tryz.underlying116,rfl⟩
theorem Ut:Nd Tryz.prog 123 3 7 1 false:=⟨_,_,_,_,_,Tryz.underlying123,rfl,rfl,z3O,Tryz.underlying121,rfl⟩
theorem ZD:Nd Tryz.prog 123 4 8 1 false:=⟨_,_,_,_,_,Tryz.underlying123,rfl,rfl,Sx,Tryz.underlying4,rfl⟩
theorem z3F:Nd Tryz.prog 123 5 9 1 false:=⟨_,_,_,_,_,Tryz.underlying123,rfl,rfl,MV,Tryz.underlying3,rfl⟩
theorem z3U:Nd Tryz.prog 123 6 10 1 false:=⟨_,_,_,_,_,Tryz.underlying123,rfl,rfl,MV,Tryz.underlying3,rfl⟩
theorem zdv:SP Tryz.prog 123 [(0,4),(4,2),(6,1),(7,1),(8,1),(9,1),(10,1)]:=⟨_,Tryz.underlying123,λ_=>by simp[zaD.size,z4t.size,z3O.size,MV.size,Sx.size,z6S.size,Sem.run_bind,Sem.run_pure]⟩
theorem z3Z:Nd Tryz.prog 126 0 0 1 false:=⟨_,_,_,_,_,Tryz.underlying126,rfl,rfl,MV,Tryz.underlying3,rfl⟩
theorem RI:Nd Tryz.prog 126 1 1 1 false:=⟨_,_,_,_,_,Tryz.underlying126,rfl,rfl,za7,Tryz.underlying124,rfl⟩
theorem z8D:Nd Tryz.prog 126 3 3 1 false:=⟨_,_,_,_,_,Tryz.underlying126,rfl,rfl,Sx,Tryz.underlying4,rfl⟩
theorem zeo:SP Tryz.prog 126 [(0,1),(1,1),(2,1),(3,1)]:=⟨_,Tryz.underlying126,λ_=>by simp[za7.size,MV.size,Sx.size,Sem.run_bind,Sem.run_pure]⟩
theorem Tw:Nd Tryz.prog 143 0 0 1 false:=⟨_,_,_,_,_,Tryz.underlying143,rfl,rfl,MV,Tryz.underlying3,rfl⟩
theorem Qp:Nd Tryz.prog 143 1 1 1 false:=⟨_,_,_,_,_,Tryz.underlying143,rfl,rfl,MV,Tryz.underlying3,rfl⟩
theorem Sg:Nd Tryz.prog 143 2 2 1 false:=⟨_,_,_,_,_,Tryz.underlying143,rfl,rfl,MV,Tryz.underlying3,rfl⟩
theorem zd5:SP Tryz.prog 143 [(0,1),(1,1),(2,1)]:=⟨_,Tryz.underlying143,λ_=>by simp[MV.size,Sem.run_bind,Sem.run_pure]⟩
theorem NM:Nd Tryz.prog 145 0 0 3 true:=⟨_,_,_,_,_,Tryz.underlying145,rfl,rfl,UQ,Tryz.underlying143,rfl⟩
theorem Uu:Nd Tryz.prog 145 1 3 2 true:=⟨_,_,_,_,_,Tryz.underlying145,rfl,rfl,NO,Tryz.underlying108,rfl⟩
theorem Sc:Nd Tryz.prog 145 2 5 1 false:=⟨_,_,_,_,_,Tryz.underlying145,rfl,rfl,z4O,Tryz.underlying28,rfl⟩
theorem z4e:Nd Tryz.prog 145 3 6 1 false:=⟨_,_,_,_,_,Tryz.underlying145,rfl,rfl,Sx,Tryz.underlying4,rfl⟩
theorem zdB:SP Tryz.prog 145 [(0,3),(3,2),(5,1),(6,1)]:=⟨_,Tryz.underlying145,λ_=>by simp[NO.size,UQ.size,z4O.size,Sx.size,Sem.run_bind,Sem.run_pure]⟩
theorem QJ:Nd Tryz.prog 149 0 0 1 false:=⟨_,_,_,_,_,Tryz.underlying149,rfl,rfl,MV,Tryz.underlying3,rfl⟩
theorem Zn:Nd Tryz.prog 149 1 1 1 false:=⟨_,_,_,_,_,Tryz.underlying149,rfl,rfl,MV,Tryz.underlying3,rfl⟩
theorem Vh:Nd Tryz.prog 149 2 2 5 true:=⟨_,_,_,_,_,Tryz.underlying149,rfl,rfl,Oi,Tryz.underlying88,rfl⟩
theorem RA:Nd Tryz.prog 149 3 7 1 false:=⟨_,_,_,_,_,Tryz.underlying149,rfl,rfl,MV,Tryz.underlying3,rfl⟩
theorem zaL:SP Tryz.prog 149 [(0,1),(1,1),(2,5),(7,1)]:=⟨_,Tryz.underlying149,λ_=>by simp[MV.size,Oi.size,Sem.run_bind,Sem.run_pure]⟩
theorem Tg:Nd Tryz.prog 154 0 0 8 true:=⟨_,_,_,_,_,Tryz.underlying154,rfl,rfl,Qv,Tryz.underlying149,rfl⟩
theorem z8t:Nd Tryz.prog 154 1 8 1 false:=⟨_,_,_,_,_,Tryz.underlying154,rfl,rfl,Z6,Tryz.underlying151,rfl⟩
theorem z44:Nd Tryz.prog 154 2 9 1 false:=⟨_,_,_,_,_,Tryz.underlying154,rfl,rfl,zax,Tryz.underlying152,rfl⟩
theorem zc9:SP Tryz.prog 154 [(0,8),(8,1),(9,1)]:=⟨_,Tryz.underlying154,λ_=>by simp[Qv.size,Z6.size,zax.size,Sem.run_bind,Sem.run_pure]⟩
theorem Pu:Nd Tryz.prog 157 0 0 1 false:=⟨_,_,_,_,_,Tryz.underlying157,rfl,rfl,MV,Tryz.underlying3,rfl⟩
theorem OW:Nd Tryz.prog 157 1 1 1 false:=⟨_,_,_,_,_,Tryz.underlying157,rfl,rfl,MV,Tryz.underlying3,rfl⟩
theorem z6t:SP Tryz.prog 157 [(0,1),(1,1)]:=⟨_,Tryz.underlying157,λ_=>by simp[MV.size,Sem.run_bind,Sem.run_pure]⟩
theorem WZ:Nd Tryz.prog 177 1 1 1 false:=⟨_,_,_,_,_,Tryz.underlying177,rfl,rfl,TU,Tryz.underlying171,rfl⟩
theorem N0:Nd Tryz.prog 189 0 0 1 false:=⟨_,_,_,_,_,Tryz.underlying189,rfl,rfl,z32,Tryz.underlying40,rfl⟩
theorem UK:Nd Tryz.prog 189 1 1 1 false:=⟨_,_,_,_,_,Tryz.underlying189,rfl,rfl,z4v,Tryz.underlying187,rfl⟩
theorem P7:Nd Tryz.prog 191 0 0 1 false:=⟨_,_,_,_,_,Tryz.underlying191,rfl,rfl,MV,Tryz.underlying3,rfl⟩
theorem Ns:Nd Tryz.prog 191 1 1 2 true:=⟨_,_,_,_,_,Tryz.underlying191,rfl,rfl,z1m,Tryz.underlying189,rfl⟩
theorem O5:Nd Tryz.prog 191 2 3 2 true:=⟨_,_,_,_,_,Tryz.underlying191,rfl,rfl,z1m,Tryz.underlying189,rfl⟩
theorem NG:Nd Tryz.prog 191 3 5 2 true:=⟨_,_,_,_,_,Tryz.underlying191,rfl,rfl,z1m,Tryz.underlying189,rfl⟩
theorem NZ:Nd Tryz.prog 191 4 7 2 true:=⟨_,_,_,_,_,Tryz.underlying191,rfl,rfl,z1m,Tryz.underlying189,rfl⟩
theorem O0:Nd Tryz.prog 191 5 9 1 false:=⟨_,_,_,_,_,Tryz.underlying191,rfl,rfl,MV,Tryz.underlying3,rfl⟩
theorem WV:Nd Tryz.prog 191 6 10 1 false:=⟨_,_,_,_,_,Tryz.underlying191,rfl,rfl,z4v,Tryz.underlying187,rfl⟩
theorem zcv:SP Tryz.prog 191 [(0,1),(1,2),(3,2),(5,2),(7,2),(9,1),(10,1)]:=⟨_,Tryz.underlying191,λ_=>by simp[z4v.size,z1m.size,MV.size,Sem.run_bind,Sem.run_pure]⟩
theorem RB:Nd Tryz.prog 198 0 0 1 false:=⟨_,_,_,_,_,Tryz.underlying198,rfl,rfl,z4O,Tryz.underlying28,rfl⟩
theorem QL:Nd Tryz.prog 198 1 1 2 true:=⟨_,_,_,_,_,Tryz.underlying198,rfl,rfl,NO,Tryz.underlying108,rfl⟩
theorem zay:SP Tryz.prog 198 [(0,1),(1,2)]:=⟨_,Tryz.underlying198,λ_=>by simp[NO.size,z4O.size,Sem.run_bind,Sem.run_pure]⟩
theorem TE:Nd Tryz.prog 200 0 0 3 true:=⟨_,_,_,_,_,Tryz.underlying200,rfl,rfl,SM,Tryz.underlying198,rfl⟩
theorem Pv:Nd Tryz.prog 200 1 3 1 false:=⟨_,_,_,_,_,Tryz.underlying200,rfl,rfl,TU,Tryz.underlying171,rfl⟩
theorem UN:Nd Tryz.prog 200 2 4 1 false:=⟨_,_,_,_,_,Tryz.underlying200,rfl,rfl,MV,Tryz.underlying3,rfl⟩
theorem WN:Nd Tryz.prog 200 3 5 1 false:=⟨_,_,_,_,_,Tryz.underlying200,rfl,rfl,MV,Tryz.underlying3,rfl⟩
theorem z04:Nd Tryz.prog 200 4 6 1 false:=⟨_,_,_,_,_,Tryz.underlying200,rfl,rfl,Mi,Tryz.underlying46,rfl⟩
theorem WG:Nd Tryz.prog 200 5 7 1 false:=⟨_,_,_,_,_,Tryz.underlying200,rfl,rfl,zbO,Tryz.underlying58,rfl⟩
theorem Vj:Nd Tryz.prog 200 6 8 1 false:=⟨_,_,_,_,_,Tryz.underlying200,rfl,rfl,Sx,Tryz.underlying4,rfl⟩
theorem z9R:SP Tryz.prog 200 [(0,3),(3,1),(4,1),(5,1),(6,1),(7,1),(8,1)]:=⟨_,Tryz.underlying200,λ_=>by simp[TU.size,SM.size,MV.size,Sx.size,Mi.size,zbO.size,Sem.run_bind,Sem.run_pure]⟩
theorem Vb:Nd Tryz.prog 204 0 0 3 true:=⟨_,_,_,_,_,Tryz.underlying204,rfl,rfl,SM,Tryz.underlying198,rfl⟩
theorem WK:Nd Tryz.prog 204 1 3 1 false:=⟨_,_,_,_,_,Tryz.underlying204,rfl,rfl,MV,Tryz.underlying3,rfl⟩
theorem z8M:Nd Tryz.prog 204 2 4 1 false:=⟨_,_,_,_,_,Tryz.underlying204,rfl,rfl,Mi,Tryz.underlying46,rfl⟩
theorem zdY:SP Tryz.prog 204 [(0,3),(3,1),(4,1)]:=⟨_,Tryz.underlying204,λ_=>by simp[SM.size,MV.size,Mi.size,Sem.run_bind,Sem.run_pure]⟩
theorem PN:Nd Tryz.prog 212 0 0 1 false:=⟨_,_,_,_,_,Tryz.underlying212,rfl,rfl,MV,Tryz.underlying3,rfl⟩
theorem QF:Nd Tryz.prog 212 1 1 1 false:=⟨_,_,_,_,_,Tryz.underlying212,rfl,rfl,MV,Tryz.underlying3,rfl⟩
theorem WO:Nd Tryz.prog 212 2 2 1 false:=⟨_,_,_,_,_,Tryz.underlying212,rfl,rfl,MV,Tryz.underlying3,rfl⟩
theorem zdG:SP Tryz.prog 212 [(0,1),(1,1),(2,1)]:=⟨_,Tryz.underlying212,λ_=>by simp[MV.size,Sem.run_bind,Sem.run_pure]⟩
theorem ZO:Nd Tryz.prog 217 0 0 1 false:=⟨_,_,_,_,_,Tryz.underlying217,rfl,rfl,Z0,Tryz.underlying9,rfl⟩
theorem ZJ:Nd Tryz.prog 217 1 1 1 false:=⟨_,_,_,_,_,Tryz.underlying217,rfl,rfl,Sx,Tryz.underlying4,rfl⟩
theorem zeU:SP Tryz.prog 217 [(0,1),(1,1)]:=⟨_,Tryz.underlying217,λ_=>by simp[Sx.size,Z0.size,Sem.run_bind,Sem.run_pure]⟩
theorem S5:Nd Tryz.prog 219 0 0 2 true:=⟨_,_,_,_,_,Tryz.underlying219,rfl,rfl,z4g,Tryz.underlying217,rfl⟩
theorem z9w:Nd Tryz.prog 219 1 2 1 false:=⟨_,_,_,_,_,Tryz.underlying219,rfl,rfl,MV,Tryz.underlying3,rfl⟩
theorem zc5:SP Tryz.prog 219 [(0,2),(2,1)]:=⟨_,Tryz.underlying219,λ_=>by simp[z4g.size,MV.size,Sem.run_bind,Sem.run_pure]⟩
theorem z8I:Nd Tryz.prog 233 0 0 1 false:=⟨_,_,_,_,_,Tryz.underlying233,rfl,rfl,MV,Tryz.underlying3,rfl⟩
theorem z9e:Nd Tryz.prog 233 1 1 1 false:=⟨_,_,_,_,_,Tryz.underlying233,rfl,rfl,MV,Tryz.underlying3,rfl⟩
theorem Wq:SP Tryz.prog 233 [(0,1),(1,1)]:=⟨_,Tryz.underlying233,λ_=>by simp[MV.size,Sem.run_bind,Sem.run_pure]⟩
theorem UC:Nd Tryz.prog 238 0 0 1 false:=⟨_,_,_,_,_,Tryz.underlying238,rfl,rfl,MV,Tryz.underlying3,rfl⟩
theorem z9v:Nd Tryz.prog 238 1 1 1 false:=⟨_,_,_,_,_,Tryz.underlying238,rfl,rfl,Rq,Tryz.underlying41,rfl⟩
theorem PV:Nd Tryz.prog 238 2 2 1 false:=⟨_,_,_,_,_,Tryz.underlying238,rfl,rfl,MV,Tryz.underlying3,rfl⟩
theorem UG:Nd Tryz.prog 238 3 3 1 false:=⟨_,_,_,_,_,Tryz.underlying238,rfl,rfl,MV,Tryz.underlying3,rfl⟩
theorem zcX:SP Tryz.prog 238 [(0,1),(1,1),(2,1),(3,1)]:=⟨_,Tryz.underlying238,λ_=>by simp[MV.size,Rq.size,Sem.run_bind,Sem.run_pure]⟩
theorem z95:Nd Tryz.prog 251 0 0 1 false:=⟨_,_,_,_,_,Tryz.underlying251,rfl,rfl,Z6,Tryz.underlying151,rfl⟩
theorem z9A:Nd Tryz.prog 251 1 1 1 false:=⟨_,_,_,_,_,Tryz.underlying251,rfl,rfl,MV,Tryz.underlying3,rfl⟩
theorem Zq:Nd Tryz.prog 251 2 2 1 false:=⟨_,_,_,_,_,Tryz.underlying251,rfl,rfl,MV,Tryz.underlying3,rfl⟩
theorem zeD:SP Tryz.prog 251 [(0,1),(1,1),(2,1)]:=⟨_,Tryz.underlying251,λ_=>by simp[Z6.size,MV.size,Sem.run_bind,Sem.run_pure]⟩
theorem OM:Nd Tryz.prog 260 0 0 1 false:=⟨_,_,_,_,_,Tryz.underlying260,rfl,rfl,TS,Tryz.underlying5,rfl⟩
theorem T7:Nd Tryz.prog 260 1 1 1 false:=⟨_,_,_,_,_,Tryz.underlying260,rfl,rfl,Rq,Tryz.underlying41,rfl⟩
theorem zap:SP Tryz.prog 260 [(0,1),(1,1)]:=⟨_,Tryz.underlying260,λ_=>by simp[Rq.size,TS.size,Sem.run_bind,Sem.run_pure]⟩
theorem ZM:Nd Tryz.prog 262 0 0 1 false:=⟨_,_,_,_,_,Tryz.underlying262,rfl,rfl,Z0,Tryz.underlying9,rfl⟩
theorem RE:Nd Tryz.prog 262 1 1 1 false:=⟨_,_,_,_,_,Tryz.underlying262,rfl,rfl,MV,Tryz.underlying3,rfl⟩
theorem zct:SP Tryz.prog 262 [(0,1),(1,1)]:=⟨_,Tryz.underlying262,λ_=>by simp[MV.size,Z0.size,Sem.run_bind,Sem.run_pure]⟩
theorem z8Y:Nd Tryz.prog 265 0 0 1 false:=⟨_,_,_,_,_,Tryz.underlying265,rfl,rfl,Sx,Tryz.underlying4,rfl⟩
theorem z8X:Nd Tryz.prog 265 1 1 1 false:=⟨_,_,_,_,_,Tryz.underlying265,rfl,rfl,Sx,Tryz.underlying4,rfl⟩
theorem Zy:Nd Tryz.prog 265 2 2 1 false:=⟨_,_,_,_,_,Tryz.underlying265,rfl,rfl,MV,Tryz.underlying3,rfl⟩
theorem So:SP Tryz.prog 265 [(0,1),(1,1),(2,1)]:=⟨_,Tryz.underlying265,λ_=>by simp[MV.size,Sx.size,Sem.run_bind,Sem.run_pure]⟩
theorem OX:Nd Tryz.prog 274 0 0 1 false:=⟨_,_,_,_,_,Tryz.underlying274,rfl,rfl,Pq,Tryz.underlying45,rfl⟩
theorem ZK:Nd Tryz.prog 274 1 1 1 false:=⟨_,_,_,_,_,Tryz.underlying274,rfl,rfl,MV,Tryz.underlying3,rfl⟩
theorem zaA:SP Tryz.prog 274 [(0,1),(1,1)]:=⟨_,Tryz.underlying274,λ_=>by simp[MV.size,Pq.size,Sem.run_bind,Sem.run_pure]⟩
theorem z41:Nd Tryz.prog 277 0 0 34 true:=⟨_,_,_,_,_,Tryz.underlying277,rfl,rfl,zcM,Tryz.underlying275,rfl⟩
theorem RJ:Nd Tryz.prog 277 1 34 1 false:=⟨_,_,_,_,_,Tryz.underlying277,rfl,rfl,MV,Tryz.underlying3,rfl⟩
theorem Tt:Nd Tryz.prog 279 0 0 5 true:=⟨_,_,_,_,_,Tryz.underlying279,rfl,rfl,Oi,Tryz.underlying88,rfl⟩
theorem UX:Nd Tryz.prog 279 1 5 35 true:=⟨_,_,_,_,_,Tryz.underlying279,rfl,rfl,zan,Tryz.underlying277,rfl⟩
theorem ZF:Nd Tryz.prog 279 2 40 1 false:=⟨_,_,_,_,_,Tryz.underlying279,rfl,rfl,z4b,Tryz.underlying231,rfl⟩
theorem ZC:Nd Tryz.prog 279 3 41 1 false:=⟨_,_,_,_,_,Tryz.underlying279,rfl,rfl,MV,Tryz.underlying3,rfl⟩
theorem z8Q:Nd Tryz.prog 279 4 42 1 false:=⟨_,_,_,_,_,Tryz.underlying279,rfl,rfl,MV,Tryz.underlying3,rfl⟩
theorem zdM:SP Tryz.prog 279 [(0,5),(5,35),(40,1),(41,1),(42,1)]:=⟨_,Tryz.underlying279,λ_=>by simp[z4b.size,zan.size,MV.size,Oi.size,Sem.run_bind,Sem.run_pure]⟩
theorem UJ:Nd Tryz.prog 286 0 0 1 false:=⟨_,_,_,_,_,Tryz.underlying286,rfl,rfl,TU,Tryz.underlying171,rfl⟩
theorem Td:Nd Tryz.prog 286 1 1 1 false:=⟨_,_,_,_,_,Tryz.underlying286,rfl,rfl,MV,Tryz.underlying3,rfl⟩
theorem zdD:SP Tryz.prog 286 [(0,1),(1,1)]:=⟨_,Tryz.underlying286,λ_=>by simp[TU.size,MV.size,Sem.run_bind,Sem.run_pure]⟩
theorem OY:Nd Tryz.prog 294 0 0 4 true:=⟨_,_,_,_,_,Tryz.underlying294,rfl,rfl,Q0,Tryz.underlying238,rfl⟩
theorem z0b:Nd Tryz.prog 294 1 4 1 false:=⟨_,_,_,_,_,Tryz.underlying294,rfl,rfl,Z6,Tryz.underlying151,rfl⟩
theorem zf7:SP Tryz.prog 294 [(0,4),(4,1)]:=⟨_,Tryz.underlying294,λ_=>by simp[Z6.size,Q0.size,Sem.run_bind,Sem.run_pure]⟩
theorem z8F:Nd Tryz.prog 306 0 0 1 false:=⟨_,_,_,_,_,Tryz.underlying306,rfl,rfl,YI,Tryz.underlying158,rfl⟩
theorem WL:Nd Tryz.prog 306 1 1 1 false:=⟨_,_,_,_,_,Tryz.underlying306,rfl,rfl,Sx,Tryz.underlying4,rfl⟩
theorem zdw:SP Tryz.prog 306 [(0,1),(1,1)]:=⟨_,Tryz.underlying306,λ_=>by simp[YI.size,Sx.size,Sem.run_bind,Sem.run_pure]⟩
theorem z8A:Nd Tryz.prog 316 0 0 1 false:=⟨_,_,_,_,_,Tryz.underlying316,rfl,rfl,YI,Tryz.underlying158,rfl⟩
theorem Qn:Nd Tryz.prog 316 1 1 1 false:=⟨_,_,_,_,_,Tryz.underlying316,rfl,rfl,Sx,Tryz.underlying4,rfl⟩
theorem zek:SP Tryz.prog 316 [(0,1),(1,1)]:=⟨_,Tryz.underlying316,λ_=>by simp[YI.size,Sx.size,Sem.run_bind,Sem.run_pure]⟩
theorem z42:Nd Tryz.prog 323 0 0 2 true:=⟨_,_,_,_,_,Tryz.underlying323,rfl,rfl,ND,Tryz.underlying260,rfl⟩
theorem z3V:Nd Tryz.prog 323 1 2 1 false:=⟨_,_,_,_,_,Tryz.underlying323,rfl,rfl,Rq,Tryz.underlying41,rfl⟩
theorem z9Q:SP Tryz.prog 323 [(0,2),(2,1)]:=⟨_,Tryz.underlying323,λ_=>by simp[ND.size,Rq.size,Sem.run_bind,Sem.run_pure]⟩
theorem WX:Nd Tryz.prog 334 0 0 1 false:=⟨_,_,_,_,_,Tryz.underlying334,rfl,rfl,MV,Tryz.underlying3,rfl⟩
theorem z09:Nd Tryz.prog 334 1 1 1 false:=⟨_,_,_,_,_,Tryz.underlying334,rfl,rfl,Z0,Tryz.underlying9,rfl⟩
theorem zet:SP Tryz.prog 334 [(0,1),(1,1)]:=⟨_,Tryz.underlying334,λ_=>by simp[MV.size,Z0.size,Sem.run_bind,Sem.run_pure]⟩
theorem ZX:Nd Tryz.prog 350 0 0 1 false:=⟨_,_,_,_,_,Tryz.underlying350,rfl,rfl,MV,Tryz.underlying3,rfl⟩
theorem z48:Nd Tryz.prog 350 1 1 1 false:=⟨_,_,_,_,_,Tryz.underlying350,rfl,rfl,MV,Tryz.underlying3,rfl⟩
theorem zeY:SP Tryz.prog 350 [(0,1),(1,1)]:=⟨_,Tryz.underlying350,λ_=>by simp[MV.size,Sem.run_bind,Sem.run_pure]⟩
theorem z3I:Nd Tryz.prog 353 0 0 1 false:=⟨_,_,_,_,_,Tryz.underlying353,rfl,rfl,Rq,Tryz.underlying41,rfl⟩
theorem WI:Nd Tryz.prog 353 1 1 1 false:=⟨_,_,_,_,_,Tryz.underlying353,rfl,rfl,MV,Tryz.underlying3,rfl⟩
theorem z81:SP Tryz.prog 353 [(0,1),(1,1)]:=⟨_,Tryz.underlying353,λ_=>by simp[MV.size,Rq.size,Sem.run_bind,Sem.run_pure]⟩
theorem cf6:CF Tryz.prog 6:=⟨_,Tryz.func6,by kernel_rfl,rfl⟩
theorem cf7:CF Tryz.prog 7:=⟨_,Tryz.func7,by kernel_rfl,rfl⟩
theorem cf8:CF Tryz.prog 8:=⟨_,Tryz.func8,by kernel_rfl,rfl⟩
theorem cf9:CF Tryz.prog 9:=⟨_,Tryz.func9,by kernel_rfl,rfl⟩
theorem z99:CF Tryz.prog 10:=⟨_,Tryz.func10,by kernel_rfl,rfl⟩
theorem zfz:CF Tryz.prog 12:=⟨_,Tryz.func12,by kernel_rfl,rfl⟩
theorem zfv:CF Tryz.prog 14:=⟨_,Tryz.func14,by kernel_rfl,rfl⟩
theorem zg3:CF Tryz.prog 15:=⟨_,Tryz.func15,by kernel_rfl,rfl⟩
theorem zgK:CF Tryz.prog 16:=⟨_,Tryz.func16,by kernel_rfl,rfl⟩
theorem zfY:CF Tryz.prog 17:=⟨_,Tryz.func17,by kernel_rfl,rfl⟩
theorem zbA:CF Tryz.prog 18:=⟨_,Tryz.func18,by kernel_rfl,rfl⟩
theorem zgH:CF Tryz.prog 24:=⟨_,Tryz.func24,by kernel_rfl,rfl⟩
theorem zfD:CF Tryz.prog 25:=⟨_,Tryz.func25,by kernel_rfl,rfl⟩
theorem zfG:CF Tryz.prog 26:=⟨_,Tryz.func26,by kernel_rfl,rfl⟩
theorem zfm:CF Tryz.prog 27:=⟨_,Tryz.func27,by kernel_rfl,rfl⟩
theorem zfW:CF Tryz.prog 28:=⟨_,Tryz.func28,by kernel_rfl,rfl⟩
theorem zgF:CF Tryz.prog 29:=⟨_,Tryz.func29,by kernel_rfl,rfl⟩
theorem zfd:CF Tryz.prog 30:=⟨_,Tryz.func30,by kernel_rfl,rfl⟩
theorem zed:CF Tryz.prog 31:=⟨_,Tryz.func31,by kernel_rfl,rfl⟩
theorem zga:CF Tryz.prog 32:=⟨_,Tryz.func32,by kernel_rfl,rfl⟩
theorem zgz:CF Tryz.prog 33:=⟨_,Tryz.func33,by kernel_rfl,rfl⟩
theorem z8S:CF Tryz.prog 34:=⟨_,Tryz.func34,by kernel_rfl,rfl⟩
theorem zfX:CF Tryz.prog 35:=⟨_,Tryz.func35,by kernel_rfl,rfl⟩
theorem zbG:CF Tryz.prog 36:=⟨_,Tryz.func36,by kernel_rfl,rfl⟩
theorem zfP:CF Tryz.prog 37:=⟨_,Tryz.func37,by kernel_rfl,rfl⟩
theorem z96:CF Tryz.prog 38:=⟨_,Tryz.func38,by kernel_rfl,rfl⟩
theorem zgc:CF Tryz.prog 39:=⟨_,Tryz.func39,by kernel_rfl,rfl⟩
theorem z8Z:CF Tryz.prog 40:=⟨_,Tryz.func40,by kernel_rfl,rfl⟩
theorem zdm:CF Tryz.prog 41:=⟨_,Tryz.func41,by kernel_rfl,rfl⟩
theorem zfx:CF Tryz.prog 42:=⟨_,Tryz.func42,by kernel_rfl,rfl⟩
theorem zeb:CF Tryz.prog 43:=⟨_,Tryz.func43,by kernel_rfl,rfl⟩
theorem zgo:CF Tryz.prog 44:=⟨_,Tryz.func44,by kernel_rfl,rfl⟩
theorem zcI:CF Tryz.prog 45:=⟨_,Tryz.func45,by kernel_rfl,rfl⟩
theorem zg1:CF Tryz.prog 46:=⟨_,Tryz.func46,by kernel_rfl,rfl⟩
theorem zfA:CF Tryz.prog 51:=⟨_,Tryz.func51,by kernel_rfl,rfl⟩
theorem zfL:CF Tryz.prog 52:=⟨_,Tryz.func52,by kernel_rfl,rfl⟩
theorem zfy:CF Tryz.prog 53:=⟨_,Tryz.func53,by kernel_rfl,rfl⟩
theorem zgh:CF Tryz.prog 54:=⟨_,Tryz.func54,by kernel_rfl,rfl⟩
theorem zfs:CF Tryz.prog 55:=⟨_,Tryz.func55,by kernel_rfl,rfl⟩
theorem z0Y:CF Tryz.prog 56:=⟨_,Tryz.func56,by kernel_rfl,rfl⟩
theorem ze9:CF Tryz.prog 57:=⟨_,Tryz.func57,by kernel_rfl,rfl⟩
theorem zgE:CF Tryz.prog 58:=⟨_,Tryz.func58,by kernel_rfl,rfl⟩
theorem zg7:CF Tryz.prog 59:=⟨_,Tryz.func59,by kernel_rfl,rfl⟩
theorem zgI:CF Tryz.prog 60:=⟨_,Tryz.func60,by kernel_rfl,rfl⟩
theorem zgB:CF Tryz.prog 61:=⟨_,Tryz.func61,by kernel_rfl,rfl⟩
theorem zfn:CF Tryz.prog 62:=⟨_,Tryz.func62,by kernel_rfl,rfl⟩
theorem zdx:CF Tryz.prog 63:=⟨_,Tryz.func63,by kernel_rfl,rfl⟩
theorem zfw:CF Tryz.prog 64:=⟨_,Tryz.func64,by kernel_rfl,rfl⟩
theorem zfu:CF Tryz.prog 65:=⟨_,Tryz.func65,by kernel_rfl,rfl⟩
theorem ze3:CF Tryz.prog 66:=⟨_,Tryz.func66,by kernel_rfl,rfl⟩
theorem zbY:CF Tryz.prog 67:=⟨_,Tryz.func67,by kernel_rfl,rfl⟩
theorem z2m:CF Tryz.prog 68:=⟨_,Tryz.func68,by kernel_rfl,rfl⟩
theorem zeT:CF Tryz.prog 69:=⟨_,Tryz.func69,by kernel_rfl,rfl⟩
theorem zcL:CF Tryz.prog 70:=⟨_,Tryz.func70,by kernel_rfl,rfl⟩
theorem z6U:CF Tryz.prog 71:=⟨_,Tryz.func71,by kernel_rfl,rfl⟩
theorem zbt:CF Tryz.prog 72:=⟨_,Tryz.func72,by kernel_rfl,rfl⟩
theorem zbs:CF Tryz.prog 73:=⟨_,Tryz.func73,by kernel_rfl,rfl⟩
theorem zgs:CF Tryz.prog 74:=⟨_,Tryz.func74,by kernel_rfl,rfl⟩
theorem zfZ:CF Tryz.prog 75:=⟨_,Tryz.func75,by kernel_rfl,rfl⟩
theorem zg2:CF Tryz.prog 76:=⟨_,Tryz.func76,by kernel_rfl,rfl⟩
theorem zbZ:CF Tryz.prog 77:=⟨_,Tryz.func77,by kernel_rfl,rfl⟩
theorem zc0:CF Tryz.prog 78:=⟨_,Tryz.func78,by kernel_rfl,rfl⟩
theorem zcg:CF Tryz.prog 79:=⟨_,Tryz.func79,by kernel_rfl,rfl⟩
theorem zev:CF Tryz.prog 80:=⟨_,Tryz.func80,by kernel_rfl,rfl⟩
theorem zfH:CF Tryz.prog 81:=⟨_,Tryz.func81,by kernel_rfl,rfl⟩
theorem zg9:CF Tryz.prog 84:=⟨_,Tryz.func84,by kernel_rfl,rfl⟩
theorem zfK:CF Tryz.prog 85:=⟨_,Tryz.func85,by kernel_rfl,rfl⟩
theorem zft:CF Tryz.prog 86:=⟨_,Tryz.func86,by kernel_rfl,rfl⟩
theorem zgi:CF Tryz.prog 87:=⟨_,Tryz.func87,by kernel_rfl,rfl⟩
theorem zgp:CF Tryz.prog 88:=⟨_,Tryz.func88,by kernel_rfl,rfl⟩
theorem zbn:CF Tryz.prog 89:=⟨_,Tryz.func89,by kernel_rfl,rfl⟩
theorem zgu:CF Tryz.prog 90:=⟨_,Tryz.func90,by kernel_rfl,rfl⟩
theorem zdR:CF Tryz.prog 91:=⟨_,Tryz.func91,by kernel_rfl,rfl⟩
theorem ze8:CF Tryz.prog 92:=⟨_,Tryz.func92,by kernel_rfl,rfl⟩
theorem zaS:CF Tryz.prog 93:=⟨_,Tryz.func93,by kernel_rfl,rfl⟩
theorem zdP:CF Tryz.prog 94:=⟨_,Tryz.func94,by kernel_rfl,rfl⟩
theorem zgq:CF Tryz.prog 95:=⟨_,Tryz.func95,by kernel_rfl,rfl⟩
theorem zcs:CF Tryz.prog 96:=⟨_,Tryz.func96,by kernel_rfl,rfl⟩
theorem zdp:CF Tryz.prog 97:=⟨_,Tryz.func97,by kernel_rfl,rfl⟩
theorem zeB:CF Tryz.prog 98:=⟨_,Tryz.func98,by kernel_rfl,rfl⟩
theorem zdX:CF Tryz.prog 99:=⟨_,Tryz.func99,by kernel_rfl,rfl⟩
theorem zbR:CF Tryz.prog 100:=⟨_,Tryz.func100,by kernel_rfl,rfl⟩
theorem z7G:CF Tryz.prog 101:=⟨_,Tryz.func101,by kernel_rfl,rfl⟩
theorem zep:CF Tryz.prog 102:=⟨_,Tryz.func102,by kernel_rfl,rfl⟩
theorem zbV:CF Tryz.prog 103:=⟨_,Tryz.func103,by kernel_rfl,rfl⟩
theorem zfb:CF Tryz.prog 104:=⟨_,Tryz.func104,by kernel_rfl,rfl⟩
theorem zcT:CF Tryz.prog 105:=⟨_,Tryz.func105,by kernel_rfl,rfl⟩
theorem z9J:CF Tryz.prog 106:=⟨_,Tryz.func106,by kernel_rfl,rfl⟩
theorem Y0:CF Tryz.prog 107:=⟨_,Tryz.func107,by kernel_rfl,rfl⟩
theorem Uz:CF Tryz.prog 108:=⟨_,Tryz.func108,by kernel_rfl,rfl⟩
theorem zac:CF Tryz.prog 109:=⟨_,Tryz.func109,by kernel_rfl,rfl⟩
theorem zau:CF Tryz.prog 110:=⟨_,Tryz.func110,by kernel_rfl,rfl⟩
theorem zf2:CF Tryz.prog 111:=⟨_,Tryz.func111,by kernel_rfl,rfl⟩
theorem zcO:CF Tryz.prog 112:=⟨_,Tryz.func112,by kernel_rfl,rfl⟩
theorem zcZ:CF Tryz.prog 113:=⟨_,Tryz.func113,by kernel_rfl,rfl⟩
theorem zeX:CF Tryz.prog 114:=⟨_,Tryz.func114,by kernel_rfl,rfl⟩
theorem zcY:CF Tryz.prog 115:=⟨_,Tryz.func115,by kernel_rfl,rfl⟩
theorem zcE:CF Tryz.prog 116:=⟨_,Tryz.func116,by kernel_rfl,rfl⟩
theorem zel:CF Tryz.prog 117:=⟨_,Tryz.func117,by kernel_rfl,rfl⟩
theorem zdo:CF Tryz.prog 118:=⟨_,Tryz.func118,by kernel_rfl,rfl⟩
theorem zbW:CF Tryz.prog 119:=⟨_,Tryz.func119,by kernel_rfl,rfl⟩
theorem zf9:CF Tryz.prog 120:=⟨_,Tryz.func120,by kernel_rfl,rfl⟩
theorem z74:CF Tryz.prog 121:=⟨_,Tryz.func121,by kernel_rfl,rfl⟩
theorem Xf:CF Tryz.prog 122:=⟨_,Tryz.func122,by kernel_rfl,rfl⟩
theorem T4:CF Tryz.prog 123:=⟨_,Tryz.func123,by kernel_rfl,rfl⟩
theorem z4A:CF Tryz.prog 124:=⟨_,Tryz.func124,by kernel_rfl,rfl⟩
theorem zcW:CF Tryz.prog 125:=⟨_,Tryz.func125,by kernel_rfl,rfl⟩
theorem z6y:CF Tryz.prog 126:=⟨_,Tryz.func126,by kernel_rfl,rfl⟩
theorem Z3:CF Tryz.prog 127:=⟨_,Tryz.func127,by kernel_rfl,rfl⟩
theorem zao:CF Tryz.prog 128:=⟨_,Tryz.func128,by kernel_rfl,rfl⟩
theorem z9T:CF Tryz.prog 129:=⟨_,Tryz.func129,by kernel_rfl,rfl⟩
theorem z0v:CF Tryz.prog 130:=⟨_,Tryz.func130,by kernel_rfl,rfl⟩
theorem zes:CF Tryz.prog 131:=⟨_,Tryz.func131,by kernel_rfl,rfl⟩
theorem zdW:CF Tryz.prog 132:=⟨_,Tryz.func132,by kernel_rfl,rfl⟩
theorem zdb:CF Tryz.prog 133:=⟨_,Tryz.func133,by kernel_rfl,rfl⟩
theorem zcD:CF Tryz.prog 134:=⟨_,Tryz.func134,by kernel_rfl,rfl⟩
theorem zeG:CF Tryz.prog 135:=⟨_,Tryz.func135,by kernel_rfl,rfl⟩
theorem zeE:CF Tryz.prog 140:=⟨_,Tryz.func140,by kernel_rfl,rfl⟩
theorem zcy:CF Tryz.prog 141:=⟨_,Tryz.func141,by kernel_rfl,rfl⟩
theorem zec:CF Tryz.prog 142:=⟨_,Tryz.func142,by kernel_rfl,rfl⟩
theorem z9P:CF Tryz.prog 143:=⟨_,Tryz.func143,by kernel_rfl,rfl⟩
theorem z4k:CF Tryz.prog 144:=⟨_,Tryz.func144,by kernel_rfl,rfl⟩
theorem z7F:CF Tryz.prog 145:=⟨_,Tryz.func145,by kernel_rfl,rfl⟩
theorem z0e:CF Tryz.prog 146:=⟨_,Tryz.func146,by kernel_rfl,rfl⟩
theorem z7O:CF Tryz.prog 147:=⟨_,Tryz.func147,by kernel_rfl,rfl⟩
theorem zcV:CF Tryz.prog 148:=⟨_,Tryz.func148,by kernel_rfl,rfl⟩
theorem zcc:CF Tryz.prog 150:=⟨_,Tryz.func150,by kernel_rfl,rfl⟩
theorem zcj:CF Tryz.prog 151:=⟨_,Tryz.func151,by kernel_rfl,rfl⟩
theorem zdH:CF Tryz.prog 152:=⟨_,Tryz.func152,by kernel_rfl,rfl⟩
theorem zaH:CF Tryz.prog 153:=⟨_,Tryz.func153,by kernel_rfl,rfl⟩
theorem zef:CF Tryz.prog 154:=⟨_,Tryz.func154,by kernel_rfl,rfl⟩
theorem zab:CF Tryz.prog 156:=⟨_,Tryz.func156,by kernel_rfl,rfl⟩
theorem z1i:CF Tryz.prog 157:=⟨_,Tryz.func157,by kernel_rfl,rfl⟩
theorem zcb:CF Tryz.prog 158:=⟨_,Tryz.func158,by kernel_rfl,rfl⟩
theorem z3N:CF Tryz.prog 159:=⟨_,Tryz.func159,by kernel_rfl,rfl⟩
theorem za5:CF Tryz.prog 160:=⟨_,Tryz.func160,by kernel_rfl,rfl⟩
theorem zff:CF Tryz.prog 161:=⟨_,Tryz.func161,by kernel_rfl,rfl⟩
theorem zeC:CF Tryz.prog 162:=⟨_,Tryz.func162,by kernel_rfl,rfl⟩
theorem zcq:CF Tryz.prog 163:=⟨_,Tryz.func163,by kernel_rfl,rfl⟩
theorem YN:CF Tryz.prog 164:=⟨_,Tryz.func164,by kernel_rfl,rfl⟩
theorem zdk:CF Tryz.prog 165:=⟨_,Tryz.func165,by kernel_rfl,rfl⟩
theorem W7:CF Tryz.prog 166:=⟨_,Tryz.func166,by kernel_rfl,rfl⟩
theorem z1e:CF Tryz.prog 167:=⟨_,Tryz.func167,by kernel_rfl,rfl⟩
theorem zcQ:CF Tryz.prog 168:=⟨_,Tryz.func168,by kernel_rfl,rfl⟩
theorem z4x:CF Tryz.prog 169:=⟨_,Tryz.func169,by kernel_rfl,rfl⟩
theorem zak:CF Tryz.prog 170:=⟨_,Tryz.func170,by kernel_rfl,rfl⟩
theorem zch:CF Tryz.prog 173:=⟨_,Tryz.func173,by kernel_rfl,rfl⟩
theorem za6:CF Tryz.prog 175:=⟨_,Tryz.func175,by kernel_rfl,rfl⟩
theorem TN:CF Tryz.prog 176:=⟨_,Tryz.func176,by kernel_rfl,rfl⟩
theorem Pn:CF Tryz.prog 177:=⟨_,Tryz.func177,by kernel_rfl,rfl⟩
theorem zew:CF Tryz.prog 178:=⟨_,Tryz.func178,by kernel_rfl,rfl⟩
theorem zdQ:CF Tryz.prog 179:=⟨_,Tryz.func179,by kernel_rfl,rfl⟩
theorem za1:CF Tryz.prog 180:=⟨_,Tryz.func180,by kernel_rfl,rfl⟩
theorem zf4:CF Tryz.prog 181:=⟨_,Tryz.func181,by kernel_rfl,rfl⟩
theorem zcN:CF Tryz.prog 182:=⟨_,Tryz.func182,by kernel_rfl,rfl⟩
theorem z1G:CF Tryz.prog 183:=⟨_,Tryz.func183,by kernel_rfl,rfl⟩
theorem zcS:CF Tryz.prog 184:=⟨_,Tryz.func184,by kernel_rfl,rfl⟩
theorem ze5:CF Tryz.prog 185:=⟨_,Tryz.func185,by kernel_rfl,rfl⟩
theorem z9V:CF Tryz.prog 186:=⟨_,Tryz.func186,by kernel_rfl,rfl⟩
theorem PU:CF Tryz.prog 187:=⟨_,Tryz.func187,by kernel_rfl,rfl⟩
theorem Ur:CF Tryz.prog 188:=⟨_,Tryz.func188,by kernel_rfl,rfl⟩
theorem za0:CF Tryz.prog 189:=⟨_,Tryz.func189,by kernel_rfl,rfl⟩
theorem XP:CF Tryz.prog 190:=⟨_,Tryz.func190,by kernel_rfl,rfl⟩
theorem z6o:CF Tryz.prog 191:=⟨_,Tryz.func191,by kernel_rfl,rfl⟩
theorem zeg:CF Tryz.prog 192:=⟨_,Tryz.func192,by kernel_rfl,rfl⟩
theorem zah:CF Tryz.prog 193:=⟨_,Tryz.func193,by kernel_rfl,rfl⟩
theorem zaw:CF Tryz.prog 194:=⟨_,Tryz.func194,by kernel_rfl,rfl⟩
theorem zcB:CF Tryz.prog 195:=⟨_,Tryz.func195,by kernel_rfl,rfl⟩
theorem z3L:CF Tryz.prog 196:=⟨_,Tryz.func196,by kernel_rfl,rfl⟩
theorem z0V:CF Tryz.prog 197:=⟨_,Tryz.func197,by kernel_rfl,rfl⟩
theorem zdn:CF Tryz.prog 198:=⟨_,Tryz.func198,by kernel_rfl,rfl⟩
theorem zdZ:CF Tryz.prog 199:=⟨_,Tryz.func199,by kernel_rfl,rfl⟩
theorem zfg:CF Tryz.prog 200:=⟨_,Tryz.func200,by kernel_rfl,rfl⟩
theorem zaI:CF Tryz.prog 201:=⟨_,Tryz.func201,by kernel_rfl,rfl⟩
theorem z9O:CF Tryz.prog 202:=⟨_,Tryz.func202,by kernel_rfl,rfl⟩
theorem zds:CF Tryz.prog 203:=⟨_,Tryz.func203,by kernel_rfl,rfl⟩
theorem zdt:CF Tryz.prog 204:=⟨_,Tryz.func204,by kernel_rfl,rfl⟩
theorem zer:CF Tryz.prog 205:=⟨_,Tryz.func205,by kernel_rfl,rfl⟩
theorem zei:CF Tryz.prog 206:=⟨_,Tryz.func206,by kernel_rfl,rfl⟩
theorem zar:CF Tryz.prog 208:=⟨_,Tryz.func208,by kernel_rfl,rfl⟩
theorem zbQ:CF Tryz.prog 209:=⟨_,Tryz.func209,by kernel_rfl,rfl⟩
theorem zdA:CF Tryz.prog 210:=⟨_,Tryz.func210,by kernel_rfl,rfl⟩
theorem zaf:CF Tryz.prog 211:=⟨_,Tryz.func211,by kernel_rfl,rfl⟩
theorem zf5:CF Tryz.prog 212:=⟨_,Tryz.func212,by kernel_rfl,rfl⟩
theorem zem:CF Tryz.prog 213:=⟨_,Tryz.func213,by kernel_rfl,rfl⟩
theorem zam:CF Tryz.prog 214:=⟨_,Tryz.func214,by kernel_rfl,rfl⟩
theorem z6q:CF Tryz.prog 215:=⟨_,Tryz.func215,by kernel_rfl,rfl⟩
theorem zdL:CF Tryz.prog 216:=⟨_,Tryz.func216,by kernel_rfl,rfl⟩
theorem z4h:CF Tryz.prog 217:=⟨_,Tryz.func217,by kernel_rfl,rfl⟩
theorem ze2:CF Tryz.prog 218:=⟨_,Tryz.func218,by kernel_rfl,rfl⟩
theorem zc4:CF Tryz.prog 219:=⟨_,Tryz.func219,by kernel_rfl,rfl⟩
theorem zdc:CF Tryz.prog 220:=⟨_,Tryz.func220,by kernel_rfl,rfl⟩
theorem zeh:CF Tryz.prog 221:=⟨_,Tryz.func221,by kernel_rfl,rfl⟩
theorem z9K:CF Tryz.prog 222:=⟨_,Tryz.func222,by kernel_rfl,rfl⟩
theorem zd0:CF Tryz.prog 223:=⟨_,Tryz.func223,by kernel_rfl,rfl⟩
theorem zeZ:CF Tryz.prog 224:=⟨_,Tryz.func224,by kernel_rfl,rfl⟩
theorem zdS:CF Tryz.prog 225:=⟨_,Tryz.func225,by kernel_rfl,rfl⟩
theorem zbX:CF Tryz.prog 226:=⟨_,Tryz.func226,by kernel_rfl,rfl⟩
theorem UP:CF Tryz.prog 227:=⟨_,Tryz.func227,by kernel_rfl,rfl⟩
theorem zeR:CF Tryz.prog 228:=⟨_,Tryz.func228,by kernel_rfl,rfl⟩
theorem z1D:CF Tryz.prog 229:=⟨_,Tryz.func229,by kernel_rfl,rfl⟩
theorem zd3:CF Tryz.prog 230:=⟨_,Tryz.func230,by kernel_rfl,rfl⟩
theorem z9L:CF Tryz.prog 231:=⟨_,Tryz.func231,by kernel_rfl,rfl⟩
theorem zf0:CF Tryz.prog 232:=⟨_,Tryz.func232,by kernel_rfl,rfl⟩
theorem zad:CF Tryz.prog 233:=⟨_,Tryz.func233,by kernel_rfl,rfl⟩
theorem zcx:CF Tryz.prog 234:=⟨_,Tryz.func234,by kernel_rfl,rfl⟩
theorem zd6:CF Tryz.prog 235:=⟨_,Tryz.func235,by kernel_rfl,rfl⟩
theorem Zf:CF Tryz.prog 236:=⟨_,Tryz.func236,by kernel_rfl,rfl⟩
theorem zal:CF Tryz.prog 237:=⟨_,Tryz.func237,by kernel_rfl,rfl⟩
theorem z7R:CF Tryz.prog 238:=⟨_,Tryz.func238,by kernel_rfl,rfl⟩
theorem za4:CF Tryz.prog 239:=⟨_,Tryz.func239,by kernel_rfl,rfl⟩
theorem zeA:CF Tryz.prog 240:=⟨_,Tryz.func240,by kernel_rfl,rfl⟩
theorem zc7:CF Tryz.prog 241:=⟨_,Tryz.func241,by kernel_rfl,rfl⟩
theorem zeW:CF Tryz.prog 242:=⟨_,Tryz.func242,by kernel_rfl,rfl⟩
theorem zcF:CF Tryz.prog 243:=⟨_,Tryz.func243,by kernel_rfl,rfl⟩
theorem zcU:CF Tryz.prog 244:=⟨_,Tryz.func244,by kernel_rfl,rfl⟩
theorem zcl:CF Tryz.prog 245:=⟨_,Tryz.func245,by kernel_rfl,rfl⟩
theorem zfe:CF Tryz.prog 246:=⟨_,Tryz.func246,by kernel_rfl,rfl⟩
theorem St:CF Tryz.prog 247:=⟨_,Tryz.func247,by kernel_rfl,rfl⟩
theorem zde:CF Tryz.prog 248:=⟨_,Tryz.func248,by kernel_rfl,rfl⟩
theorem zeO:CF Tryz.prog 249:=⟨_,Tryz.func249,by kernel_rfl,rfl⟩
theorem z9Z:CF Tryz.prog 251:=⟨_,Tryz.func251,by kernel_rfl,rfl⟩
theorem zcP:CF Tryz.prog 252:=⟨_,Tryz.func252,by kernel_rfl,rfl⟩
theorem zfj:CF Tryz.prog 253:=⟨_,Tryz.func253,by kernel_rfl,rfl⟩
theorem zdj:CF Tryz.prog 255:=⟨_,Tryz.func255,by kernel_rfl,rfl⟩
theorem zbU:CF Tryz.prog 256:=⟨_,Tryz.func256,by kernel_rfl,rfl⟩
theorem z6z:CF Tryz.prog 257:=⟨_,Tryz.func257,by kernel_rfl,rfl⟩
theorem zcm:CF Tryz.prog 278:=⟨_,Tryz.func278,by kernel_rfl,rfl⟩
theorem zeQ:CF Tryz.prog 279:=⟨_,Tryz.func279,by kernel_rfl,rfl⟩
theorem zdE:CF Tryz.prog 281:=⟨_,Tryz.func281,by kernel_rfl,rfl⟩
theorem zdl:CF Tryz.prog 282:=⟨_,Tryz.func282,by kernel_rfl,rfl⟩
section
variable {D:RC}{l:List Oper}{e:Env}{w w':World}{d:Nat}{op:Op}{ty:TypeId}{pos:String}{aft:Array Edge}{g:Option (Nat×Bool)}{v:Value}
theorem qV (hy:Y D.C.P e ⟨some d,op,ty,pos,aft,g⟩ v w w')(h:RL D l ((d,v)::e) w')(ho:Q7 D e g true=true:=by exact rfl)(hd:Nat.blt d D.C.n=true:=by exact rfl):RL D (⟨some d,op,ty,pos,aft,g⟩::l) e w:=RQ ho hd hy h
theorem qS (h:RL D l ((d,undef)::e) w)(ho:Q7 D e g false=true:=by exact rfl)(hd:Nat.blt d D.C.n=true:=by exact rfl):RL D (⟨some d,op,ty,pos,aft,g⟩::l) e w:=zej ho hd h
theorem LW {x:Operand}(hx:look e x=some v)(h:RL D l ((d,v)::e) w)(ho:Q7 D e g true=true:=by exact rfl)(hd:Nat.blt d D.C.n=true:=by exact rfl):RL D (⟨some d,.move x,ty,pos,aft,g⟩::l) e w:=RQ ho hd (MH hx) h
theorem Me {x:Operand}(hx:look e x=some v)(h:RL D l ((d,v)::e) w)(ho:Q7 D e g true=true:=by exact rfl)(hd:Nat.blt d D.C.n=true:=by exact rfl):RL D (⟨some d,.assign x,ty,pos,aft,g⟩::l) e w:=RQ ho hd (NX hx) h
theorem MT {x y:Operand}{t t':TypeId}{a b:Int}(hx:look e x=some (I a))(hy:look e y=some (I b))(h:RL D l ((d,I (a+b))::e) w)(hb: -9223372036854775808<=a+b/\a+b<=9223372036854775807:=by omega)(ho:Q7 D e g true=true:=by exact rfl)(hd:Nat.blt d D.C.n=true:=by exact rfl):RL D (⟨some d,.binOp .add t x y t',ty,pos,aft,g⟩::l) e w:=RQ ho hd (R4 hx hy hb) h
theorem Mn {f:FuncId}{vs:List Value}{S:Value->World->Prop}{ts:Array TypeId}{args:List Operand}(hf:CF D.C.P f)(ha:looks e args=some vs)(hc:Mw D.C.P f vs w S)(h:∀v w',S v w'->RL D l ((d,v)::e) w')(ho:Q7 D e g true=true:=by exact rfl)(hd:Nat.blt d D.C.n=true:=by exact rfl):RL D (⟨some d,.call ⟨.value (.func f),args.toArray,ts⟩,ty,pos,aft,g⟩::l) e w:=Ny ho hd (yc hf ha) hc h
theorem O4 {p:Prop}[hp:Decidable p](hr:RL D l ((d,.bool true)::e) w)(h:p:=by first|rfl|assumption|omega|decide):RL D l ((d,.bool (decide p))::e) w:=ze0 h hr
theorem ML {p:Prop}[hp:Decidable p](hr:RL D l ((d,.bool false)::e) w)(h:¬p:=by first|exact λh=>h O|assumption|omega):RL D l ((d,.bool (decide p))::e) w:=zb7 h hr
theorem Ni {x y:Operand}{t t':TypeId}{k:IntKind}{a b:Int}(hx:look e x=some (.int k a))(hy:look e y=some (.int k b))(h:RL D l ((d,.bool (decide (a<b)))::e) w)(ho:Q7 D e g true=true:=by exact rfl)(hd:Nat.blt d D.C.n=true:=by exact rfl):RL D (⟨some d,.binOp .lss t x y t',ty,pos,aft,g⟩::l) e w:=RQ ho hd (Xc hx hy) h
theorem zle {x y:Operand}{t t':TypeId}{k:IntKind}{a b:Int}(hx:look e x=some (.int k a))(hy:look e y=some (.int k b))(h:RL D l ((d,.bool (decide (a<=b)))::e) w)(ho:Q7 D e g true=true:=by exact rfl)(hd:Nat.blt d D.C.n=true:=by exact rfl):RL D (⟨some d,.binOp .leq t x y t',ty,pos,aft,g⟩::l) e w:=RQ ho hd (Vn hx hy) h
theorem Ng {x y:Operand}{t t':TypeId}{k:IntKind}{a b:Int}(hx:look e x=some (.int k a))(hy:look e y=some (.int k b))(h:RL D l ((d,.bool (decide (b<a)))::e) w)(ho:Q7 D e g true=true:=by exact rfl)(hd:Nat.blt d D.C.n=true:=by exact rfl):RL D (⟨some d,.binOp .gtr t x y t',ty,pos,aft,g⟩::l) e w:=RQ ho hd (UL hx hy) h
theorem PD {x y:Operand}{t t':TypeId}{k:IntKind}{a b:Int}(hx:look e x=some (.int k a))(hy:look e y=some (.int k b))(h:RL D l ((d,.bool (decide (b<=a)))::e) w)(ho:Q7 D e g true=true:=by exact rfl)(hd:Nat.blt d D.C.n=true:=by exact rfl):RL D (⟨some d,.binOp .geq t x y t',ty,pos,aft,g⟩::l) e w:=RQ ho hd (yge hx hy) h
theorem O3 {x y:Operand}{t t':TypeId}{k:IntKind}{a b:Int}(hx:look e x=some (.int k a))(hy:look e y=some (.int k b))(h:RL D l ((d,.bool (decide (a=b)))::e) w)(ho:Q7 D e g true=true:=by exact rfl)(hd:Nat.blt d D.C.n=true:=by exact rfl):RL D (⟨some d,.binOp .eql t x y t',ty,pos,aft,g⟩::l) e w:=RQ ho hd (yeq hx hy) h
theorem N9 {x y:Operand}{t t':TypeId}{k:IntKind}{a b:Int}(hx:look e x=some (.int k a))(hy:look e y=some (.int k b))(h:RL D l ((d,.bool (decide (a≠b)))::e) w)(ho:Q7 D e g true=true:=by exact rfl)(hd:Nat.blt d D.C.n=true:=by exact rfl):RL D (⟨some d,.binOp .neq t x y t',ty,pos,aft,g⟩::l) e w:=RQ ho hd (yne hx hy) h
theorem NC {c x y:Operand}(hc:look e c=some (.bool true))(hx:look e x=some v)(h:RL D l ((d,v)::e) w)(ho:Q7 D e g true=true:=by exact rfl)(hd:Nat.blt d D.C.n=true:=by exact rfl):RL D (⟨some d,.pick c x y,ty,pos,aft,g⟩::l) e w:=RQ ho hd (RM hc hx) h
theorem MN {c x y:Operand}(hc:look e c=some (.bool false))(hy:look e y=some v)(h:RL D l ((d,v)::e) w)(ho:Q7 D e g true=true:=by exact rfl)(hd:Nat.blt d D.C.n=true:=by exact rfl):RL D (⟨some d,.pick c x y,ty,pos,aft,g⟩::l) e w:=RQ ho hd (Ro hc hy) h
theorem N5 {x:Operand}{vs:Array Value}{i:Nat}(hx:look e x=some (.tuple vs))(hv:vs[i]? =some v)(h:RL D l ((d,v)::e) w)(ho:Q7 D e g true=true:=by exact rfl)(hd:Nat.blt d D.C.n=true:=by exact rfl):RL D (⟨some d,.extract x i,ty,pos,aft,g⟩::l) e w:=RQ ho hd (O6 hx hv) h
theorem Ma {t:TypeId}{i off n b m:Nat}{agg:Bool}{x:Operand}(hf:Nd D.C.P t i off (n+1) agg)(hx:look e x=some (ptr b m))(h:RL D l ((d,ptr b (m+off))::e) w)(ho:Q7 D e g true=true:=by exact rfl)(hd:Nat.blt d D.C.n=true:=by exact rfl):RL D (⟨some d,.fieldAddr t x i,ty,pos,aft,g⟩::l) e w:=RQ ho hd (My hf hx) h
theorem O9 {t el:TypeId}{x:Operand}{a:Option Addr}{len cap:Nat}(ht:D.C.P.underlying t=some (.slice el))(hx:look e x=some (.slice a len cap))(h:RL D l ((d,I (len:Int))::e) w)(ho:Q7 D e g true=true:=by exact rfl)(hd:Nat.blt d D.C.n=true:=by exact rfl):RL D (⟨some d,.call ⟨.builtin .len,#[x],#[t]⟩,ty,pos,aft,g⟩::l) e w:=RQ ho hd (Pb ht hx) h
theorem Oa {x y:Operand}{t t':TypeId}{a b:Int}(hx:look e x=some (I a))(hy:look e y=some (I b))(h:RL D l ((d,I (a-b))::e) w)(hb: -9223372036854775808<=a-b/\a-b<=9223372036854775807:=by omega)(ho:Q7 D e g true=true:=by exact rfl)(hd:Nat.blt d D.C.n=true:=by exact rfl):RL D (⟨some d,.binOp .sub t x y t',ty,pos,aft,g⟩::l) e w:=RQ ho hd (TO hx hy hb) h
theorem M4 {D:RC}{x:Operand}(hx:look e x=some v)(h:Mz D.C D.k ((d,v)::e) w)(ho:Q7 D e g true=true:=by exact rfl)(hd:Nat.blt d D.C.n=true:=by exact rfl):RL D [⟨some d,.assign x,ty,pos,aft,g⟩] e w:=RQ ho hd (NX hx) (LX h)
theorem Md {x y:Operand}{d':Nat}{v':Value}{ty':TypeId}{pos':String}{aft':Array Edge}{g':Option (Nat×Bool)}(hx:look e x=some v)(hy:look ((d,v)::e) y=some v')(h:RL D l ((d',v')::(d,v)::e) w)(ho:Q7 D e g true=true:=by exact rfl)(hd:Nat.blt d D.C.n=true:=by exact rfl)(ho':Q7 D ((d,v)::e) g' true=true:=by exact rfl)(hd':Nat.blt d' D.C.n=true:=by exact rfl):RL D (⟨some d,.move x,ty,pos,aft,g⟩::⟨some d',.move y,ty',pos',aft',g'⟩::l) e w:=RQ ho hd (MH hx) (RQ ho' hd' (MH hy) h)
def z2a:Value->Bool
  | .pointer (some _)=>true
  | .func (.func _) _ _=>true
  |_=>false
theorem N4 {P:Program}{d:Option Nat}{x:Operand}(hx:look e x=some v)(hv:z2a v=true:=by exact rfl):Y P e ⟨d,.nilCheck x,ty,pos,aft,g⟩ v w w:=by
  unfold z2a at hv
  split at hv
  · exact ync hx
  · exact zgd hx
  · cases hv
theorem MC {x:Operand}(hx:look e x=some v)(h:RL D l ((d,v)::e) w)(hv:z2a v=true:=by exact rfl)(ho:Q7 D e g true=true:=by exact rfl)(hd:Nat.blt d D.C.n=true:=by exact rfl):RL D (⟨some d,.nilCheck x,ty,pos,aft,g⟩::l) e w:=RQ ho hd (N4 hx hv) h
end
section
variable {C:Cx}{k:List Item}{e e':Env}{w:World}{id:Nat}{ops:List Oper}{y:Code}
theorem qN {x:Code}(ho:S7 C.n ops=true)(h:RL ⟨C,ops,.code x::k,ho⟩ ops e w):Mz C (.code (.seq (.region id ops.toArray false) x)::k) e w:=run_seq (M0 ho h)
theorem Oh {α:Type}{c:Code}(x0:α)(E:α->Env)(I:α->World->Prop)(μ:α->Nat)(hI:I x0 w)(round:∀x w,I x w->(∀y w',I y w'->μ y<μ x->Mz C (.inLoop c::k) (E y) w')->Mz C (.code c:: .inLoop c::k) (E x) w)(hE:Sub (E x0) e:=by repeat (first|exact Sub.nil|refine Sub.cons O ?_)):Mz C (.code (.loop c)::k) e w:=z6n x0 E I μ hE hI round
theorem Mz.qb (h:Mz C k e w)(hs:Sub e e':=by repeat (first|exact Sub.nil|refine Sub.cons O ?_)):Mz C k e' w:=h.sub hs
end
section
variable {D:RC}{k:List Item}{e:Env}{w:World}{id:Nat}{ops:List Oper}{x:Code}
theorem qM {C:Cx}{ops0:List Oper}{h0:S7 C.n ops0=true}(ho:S7 C.n ops=true)(h:RL ⟨C,ops,.code x::k,ho⟩ ops e w):RL ⟨C,ops0,.code (.seq (.region id ops.toArray false) x)::k,h0⟩ [] e w:=LX (run_seq (M0 ho h))
end
section
variable {D:RC}{late:List Nat}{S:World->Prop}{e:Env}{w w':World}{d fuel:Nat}{op:Op}{ty:TypeId}{pos:String}{aft:Array Edge}{g:Option (Nat×Bool)}{listed:Array Bool}{v:Value}
theorem qT (i:Nat)(hi:D.ops[i]? =some ⟨some d,op,ty,pos,aft,g⟩)(hy:∀w,S w->Y D.C.P e ⟨some d,op,ty,pos,aft,g⟩ v w w)(hS:S w)(h:RH D S fuel (listed.setIfInBounds i true) ((d,v)::e) w)
    (hf:PY D.ops listed i=true:=by kernel_rfl) (ho:Q7 D e g true=true:=by exact rfl) (hd:Nat.blt d D.C.n=true:=by exact rfl):RH D S (fuel+1) listed e w:=z6B hi hf ho hd hy hS h
theorem M3 (i:Nat)(hi:D.ops[i]? =some ⟨some d,op,ty,pos,aft,g⟩)(hy:∀{w},Y D.C.P e ⟨some d,op,ty,pos,aft,g⟩ v w w)(hS:S w)(h:RH D S fuel (listed.setIfInBounds i true) ((d,v)::e) w)
    (hf:PY D.ops listed i=true:=by kernel_rfl) (ho:Q7 D e g true=true:=by exact rfl) (hd:Nat.blt d D.C.n=true:=by exact rfl):RH D S (fuel+1) listed e w:=z6B hi hf ho hd (λ_ _=>hy) hS h
theorem QB {p:Prop}[hp:Decidable p](hr:RH D S fuel listed ((d,.bool true)::e) w)(h:p:=by first|rfl|assumption|omega|decide):RH D S fuel listed ((d,.bool (decide p))::e) w:=zf8 h hr
theorem QT {p:Prop}[hp:Decidable p](hr:RH D S fuel listed ((d,.bool false)::e) w)(h:¬p:=by first|exact λh=>h O|assumption|omega):RH D S fuel listed ((d,.bool (decide p))::e) w:=zbJ h hr
theorem PH {late:List Nat}(rs:List Nat)(h:RH D (λ_=>True) fuel listed e w)(hr:Oq D.ops listed rs=true:=by kernel_rfl)(hl:zaE rs late=true:=by kernel_rfl):RHL D late S fuel listed e w:=zcp rs hr hl h
theorem Mj {x:Operand}(i:Nat)(hi:D.ops[i]? =some ⟨some d,.move x,ty,pos,aft,g⟩)(hx:look e x=some v)(hS:S w)(h:RH D S fuel (listed.setIfInBounds i true) ((d,v)::e) w)
    (hf:PY D.ops listed i=true:=by kernel_rfl) (ho:Q7 D e g true=true:=by exact rfl) (hd:Nat.blt d D.C.n=true:=by exact rfl):RH D S (fuel+1) listed e w:=z6B hi hf ho hd (λ_ _=>MH hx) hS h
theorem qJ (i:Nat)(hi:D.ops[i]? =some ⟨some d,op,ty,pos,aft,g⟩)(hS:S w)(h:RH D S fuel (listed.setIfInBounds i true) ((d,undef)::e) w)
    (hf:PY D.ops listed i=true:=by kernel_rfl) (ho:Q7 D e g false=true:=by exact rfl) (hd:Nat.blt d D.C.n=true:=by exact rfl):RH D S (fuel+1) listed e w:=zc8 hi hf ho hd hS h
theorem qO (i:Nat)(h:Nx D S fuel listed e w i)(hr:Oq D.ops listed [i]=true:=by kernel_rfl):RH D S (fuel+1) listed e w:=zdi hr h
theorem Pm {f:FuncId}{vs:List Value}{T:Value->World->Prop}{ts:Array TypeId}{args:List Operand}(i:Nat)(hi:D.ops[i]? =some ⟨some d,.call ⟨.value (.func f),args.toArray,ts⟩,ty,pos,aft,g⟩)(hf:CF D.C.P f)(ha:looks e args=some vs)(hc:Mw D.C.P f vs w T)(h:∀v w',T v w'->S w'/\RH D S fuel (listed.setIfInBounds i true) ((d,v)::e) w')
    (hr:Oq D.ops listed [i]=true:=by kernel_rfl) (ho:Q7 D e g true=true:=by exact rfl) (hd:Nat.blt d D.C.n=true:=by exact rfl):RH D S (fuel+1) listed e w:=zdi hr (SJ hi ho hd (yc hf ha) hc h)
theorem qE (h:Mz D.C D.k e w)(hr:Oq D.ops listed []=true:=by kernel_rfl):RH D S fuel listed e w:=zgy hr h
theorem qL (dn:List Nat)(i:Nat)(hi:D.ops[i]? =some ⟨some d,op,ty,pos,aft,g⟩)(hy:∀w,S w->Y D.C.P e ⟨some d,op,ty,pos,aft,g⟩ v w w)(hS:S w)(h:RHL D late S fuel (listed.setIfInBounds i true) ((d,v)::e) w)
    (hf:(PY D.ops listed i&&waits D.ops listed late dn i)=true:=by kernel_rfl) (ho:Q7 D e g true=true:=by exact rfl) (hd:Nat.blt d D.C.n=true:=by exact rfl):RHL D late S (fuel+1) listed e w:=zaO dn hi hf ho hd hy hS h
end
theorem NV {C:Cx}{id:Nat}{ops:List Oper}{k:List Item}{e:Env}{w:World}(S:World->Prop)(ho:S7 C.n ops=true)(h:RH ⟨C,ops,k,ho⟩ S ops.length (Array.replicate ops.length false) e w.drew)(hm:C.P.follows .mixedOrders=true:=by kernel_rfl)(hc:calm ops=true:=by rfl):Mz C (.code (.region id ops.toArray true)::k) e w:=z0c S hm ho h hc
theorem NF {α:Type}{a b:α}(h:some a=some b):a=b:=Option.some.inj h
def U2:=Tryz.underlying2
def U3:=Tryz.underlying3
def U4:=Tryz.underlying4
def U5:=Tryz.underlying5
def U9:=Tryz.underlying9
def YT:=Tryz.underlying22
def U24:=Tryz.underlying24
def SN:=Tryz.underlying25
def U27:=Tryz.underlying27
def To:=Tryz.underlying28
def Ze:=Tryz.underlying29
def U31:=Tryz.underlying31
def WQ:=Tryz.underlying34
def U35:=Tryz.underlying35
def O8:=Tryz.underlying40
def Nv:=Tryz.underlying41
def Mr:=Tryz.underlying45
def Np:=Tryz.underlying46
def Yn:=Tryz.underlying48
def U53:=Tryz.underlying53
def U58:=Tryz.underlying58
def U80:=Tryz.underlying80
def Y4:=Tryz.underlying88
def U90:=Tryz.underlying90
def z5F:=Tryz.underlying100
def SE:=Tryz.underlying101
def SO:=Tryz.underlying108
def zgg:=Tryz.underlying113
def z1Q:=Tryz.underlying116
def zgJ:=Tryz.underlying118
def Xv:=Tryz.underlying121
def Qh:=Tryz.underlying124
def SW:=Tryz.underlying133
def z9j:=Tryz.underlying136
def z9z:=Tryz.underlying141
def z4X:=Tryz.underlying143
def z2R:=Tryz.underlying149
def z1z:=Tryz.underlying151
def UH:=Tryz.underlying152
def z0m:=Tryz.underlying157
def Qe:=Tryz.underlying158
def Nc:=Tryz.underlying171
def z7o:=Tryz.underlying172
def z7v:=Tryz.underlying174
def TH:=Tryz.underlying187
def VI:=Tryz.underlying192
def z7a:=Tryz.underlying198
def Vv:=Tryz.underlying212
def zdT:=Tryz.underlying215
def zgD:=Tryz.underlying224
def Ou:=Tryz.underlying225
def Zl:=Tryz.underlying231
def zfJ:=Tryz.underlying233
def zb1:=Tryz.underlying234
def z1R:=Tryz.underlying238
def zbM:=Tryz.underlying240
def zfU:=Tryz.underlying251
def OV:=Tryz.underlying260
def Pc:=Tryz.underlying265
def z9u:=Tryz.underlying269
def RO:=Tryz.underlying274
def zeI:=Tryz.underlying275
def zgb:=Tryz.underlying300
def zbv:=Tryz.underlying301
def WA:=Tryz.underlying320
def zcu:=Tryz.underlying323
def zdK:=Tryz.underlying334
def z6W:=Tryz.underlying346
def zg4:=Tryz.underlying350
def z6L:=Tryz.underlying353
def XA:=Tryz.underlying354
def ZV:=Tryz.underlying373
def Rt (w:World)(g:Nat)(cs:List Value)(T:TypeId):Prop:=w.heap[g]? =some (.cells cs.toArray T (0,0))
theorem Rt.LY {w:World}{g:Nat}{cs:List Value}{T:TypeId}(h:Rt w g cs T):M7 w g cs T:=⟨(0,0),h,λi _ h=>by omega⟩
theorem Rt.set {w:World}{g:Nat}{cs:List Value}{T:TypeId}(h:Rt w g cs T)(i:Nat)(v:Value):Rt (w.setCell ⟨g,i,none⟩ v) g (cs.set i v) T:=by
 unfold Rt at h⊢
 simp[World.setCell,Array.getElem?_modify,h]
theorem Rt.ext {w w':World}{g:Nat}{cs:List Value}{T:TypeId}(h:Rt w g cs T)(k:Ext w w'):Rt w' g cs T:=k.heap h id
theorem Sl.row {w:World}{g n cap:Nat}{e:TypeId}{size:Nat}{cs:List Value}(h:Sl w (.slice (some ⟨g,0,none⟩) n cap) e size n cs):∃cur,Rt w g cur e/\n<=cap/\cap<=maxLen/\cur.length=cap*size/\cur.take (n*size)=cs:=by
 rcases h.2 with⟨hz,-⟩|⟨g1,cap1,cur,hv,-,hg,hn,hm,hs,ht⟩
 ·cases hz
 ·cases hv;exact⟨cur.toList,by unfold Rt;simpa using hg,hn,hm,by simpa using hs,ht⟩
theorem Rt.sl {w:World}{g n cap:Nat}{e:TypeId}{size:Nat}{cur:List Value}(h:Rt w g cur e)(hn:n<=cap)(hm:cap<=maxLen)(hs:cur.length=cap*size):Sl w (.slice (some ⟨g,0,none⟩) n cap) e size n (cur.take (n*size)):=
 ⟨by rw[List.length_take,hs];exact Nat.min_eq_left (Nat.mul_le_mul_right _ hn),.inr ⟨g,cap,cur.toArray,rfl,Nat.zero_le _,h,hn,hm,by simpa using hs,by simp⟩⟩
theorem Rt.cell {w:World}{g i:Nat}{cur:List Value}{e:TypeId}(h:Rt w g cur e):w.cell? ⟨g,i,none⟩=cur[i]? :=h.LY.cell i
theorem Rt.rd {w:World}{g i n c:Nat}{e:TypeId}{cur:List Value}(h:Rt w g cur e)(hl:i+n<=cur.length):Rd w (.slice (some ⟨g,i,none⟩) n c) 1 n ((cur.drop i).take n):=by
 refine⟨by simp;omega,.inr ⟨g,i,c,rfl,λj u hj=>?_⟩⟩
 rw[h.cell]
 rw[List.getElem?_take] at hj
 split at hj
 ·rwa [List.getElem?_drop] at hj
 ·cases hj
theorem S2 {w:World}{a:Option Addr}{c:Nat}:Rd w (.slice a 0 c) 1 0 []:=⟨rfl,.inl ⟨(a,c),rfl,rfl⟩⟩
theorem Rd.kpz {S:Nat->Prop}{w w':World}{v:Value}{size n:Nat}{cs:List Value}(h:Rd w v size n cs)(k:Kp S w w')(hn:0<n->∀g,v.ownBlock=some g->¬S g):Rd w' v size n cs:=by
 rcases Nat.eq_zero_or_pos n with h0|h0
 ·subst h0;refine⟨h.1,?_⟩;have hl:cs=[]:=List.eq_nil_of_length_eq_zero (by have:=h.1;omega);rcases h.2 with h2|⟨b,off,cap,e,-⟩
  ·exact .inl h2
  ·exact .inr ⟨b,off,cap,e,λj u hj=>by rw[hl] at hj;simp at hj⟩
 ·exact h.kp k (hn h0)
theorem Rd.ltz {w:World}{v:Value}{size n g:Nat}{cs:List Value}(h:Rd w v size n cs)(hs:0<size)(hn:0<n)(hg:v.ownBlock=some g):g<w.heap.size:=by
 rcases h.2 with⟨c,-,h2⟩|⟨b,off,cap,e,hc⟩
 ·omega
 ·rw[e] at hg;have e2:b=g:=NF hg;subst e2;have hl:0<cs.length:=by rw[h.1];exact Nat.mul_pos hn hs
  exact World.block_lt_of_cell? w _ (hc 0 cs[0] (List.getElem?_eq_getElem hl))
theorem z1T (cs:List Value)(i:Nat):NB cs i []=cs:=by simp[NB]
theorem Yt (cs vs:List Value)(i:Nat)(h:i+vs.length<=cs.length):(NB cs i vs).length=cs.length:=by simp[NB];omega
theorem XH (cs vs:List Value)(i j:Nat)(h:i+vs.length<=cs.length):(NB cs i vs)[j]? =if i<=j/\j<i+vs.length then vs[j-i]? else cs[j]? :=by
 unfold NB
 rw[List.append_assoc]
 by_cases h1:j<i
 ·rw[List.getElem?_append_left (by simp;omega),List.getElem?_take,if_pos h1,if_neg (by omega)]
 ·rw[List.getElem?_append_right (by simp;omega)];have e:(cs.take i).length=i:=by simp;omega
  rw[e];by_cases h2:j<i+vs.length
  ·rw[List.getElem?_append_left (by omega),if_pos ⟨by omega,h2⟩]
  ·rw[List.getElem?_append_right (by omega),List.getElem?_drop,if_neg (by omega)]
   congr 1;omega
theorem Re {P:Program}{b:Nat}{T:TypeId}(o:Nat):∀(vs:List Value) (i:Nat) (cs:List Value) (w:World),Rt w b cs T->o+i+vs.length<=cs.length->(∀v∈vs,v.oneCell'=true)->
  ∃w',(storeCells ⟨b,o,none⟩ vs i).run P w= .ok () w'/\Rt w' b (NB cs (o+i) vs) T/\Kp (λk=>k=b) w w'
 |[],i,cs,w,hB,_,_=>⟨w,rfl,by simpa[NB] using hB,Kp.refl _ _⟩
 | v :: r, i, cs, w, hB, hl, h1 => by
   simp only[List.length_cons] at hl;have aP:o+i<cs.length:=by omega
   have hc:w.cell? ⟨b,o+i,none⟩=some cs[o+i]:=by rw[hB.cell];simp[aP]
   have hf:=hB.LY.free aP;obtain⟨w',hr,Aq,hk⟩:=Re (P:=P) o r (i+1) (cs.set (o+i) v) _ (hB.set (o+i) v) (by simp;omega) (λu hu=>h1 u (List.mem_cons_of_mem _ hu));refine⟨w',?_,?_,(Qf w b (o+i) v).trans hk⟩
   ·simp only[storeCells,Sem.run_bind,NS,run_store P w _ v _ (h1 v (List.mem_cons_self ..)),hc,hf]
    simpa using hr
   ·have he:NB (cs.set (o+i) v) (o+(i+1)) r=NB cs (o+i) (v::r):=by
     apply List.ext_getElem?;intro j;rw[XH _ _ _ _ (by simp;omega),XH _ _ _ _ (by simp;omega)];simp only[List.length_cons];by_cases h2:o+i=j
     ·subst h2;rw[if_neg (by omega),if_pos (by omega)];simp[aP]
     ·by_cases h3:o+i<j/\j<o+i+1+r.length
      ·rw[if_pos (by omega),if_pos (by omega),show j-(o+i)=(j-(o+(i+1)))+1 by omega];simp
      ·rw[if_neg (by omega),if_neg (by omega),List.getElem?_set_ne h2]
    rw[<-he];exact Aq
section
variable {P:Program}{e:Env}{d:Option Nat}{ty t t' kt el:TypeId}{pos:String}{aft:Array Edge}{g:Option (Nat×Bool)}{x y u u2:Operand}{w:World}
theorem Ua {z:Value}{size bytes n cap i:Nat}{a:Option Addr}{k:IntKind}{za:Int}[rD:PS za i](ht:P.underlying t=some (.slice el))(hs:TI P el z size bytes)(hx:look e x=some (.slice a n cap))
  (hy:look e y=some (.int k za)) (h:i<=n) (hc:n<=cap):
  Y P e ⟨d,.slice t x (some y) none none,ty,pos,aft,g⟩ (.slice (if cap=i then a else a.map (·.add (i*size))) (n-i) (cap-i)) w w:=fun ρ hρ=>by
 obtain⟨rfl⟩:=rD
 have cG:=hs.size (w:=w)
 have h2:∀w,(Instr.sliceBound (.int k (i:Int)) n .sliceB).run P w= .ok i w:=λw=>by rw[run_sliceBound _ _ _ _ _ (by omega) (by omega)];simp
 simp[execOp,hρ _ _ hx,hρ _ _ hy,Instr.sliceAt,run_underlying ht,Instr.slice,Instr.sliceBounds,h2,cG]
theorem zfT {z:Value}{size bytes n cap i j m:Nat}{a:Option Addr}{k k' k2:IntKind}{za zb zc:Int}[rD:PS za i][uL:PS zb j][bc:PS zc m](ht:P.underlying t=some (.slice el))(hs:TI P el z size bytes)(hx:look e x=some (.slice a n cap))
  (hy:look e y=some (.int k za)) (hu:look e u=some (.int k' zb)) (mg:look e u2=some (.int k2 zc)) (h:i<=j/\j<=m/\m<=cap):
  Y P e ⟨d,.slice t x (some y) (some u) (some u2),ty,pos,aft,g⟩ (.slice (if m=i then a else a.map (·.add (i*size))) (j-i) (m-i)) w w:=fun ρ hρ=>by
 obtain⟨rfl⟩:=rD
 obtain⟨rfl⟩:=uL
 obtain⟨rfl⟩:=bc
 have cG:=hs.size (w:=w)
 have h0:∀w,(Instr.sliceBound (.int k2 (m:Int)) cap .slice3Acap).run P w= .ok m w:=λw=>by rw[run_sliceBound _ _ _ _ _ (by omega) (by omega)];simp
 have h1:∀w,(Instr.sliceBound (.int k' (j:Int)) m .slice3B).run P w= .ok j w:=λw=>by rw[run_sliceBound _ _ _ _ _ (by omega) (by omega)];simp
 have h2:∀w,(Instr.sliceBound (.int k (i:Int)) j .slice3C).run P w= .ok i w:=λw=>by rw[run_sliceBound _ _ _ _ _ (by omega) (by omega)];simp
 simp[execOp,hρ _ _ hx,hρ _ _ hy,hρ _ _ hu,hρ _ _ mg,Instr.sliceAt,run_underlying ht,Instr.slice,Instr.sliceBounds,h0,h1,h2,cG]
theorem TT (z:Value)(n:Nat)(h:oneV z=true):(Builtin.zeroCells z.cells n).toList=List.replicate n z:=by
 rw[Sa h]
 apply List.ext_getElem
 ·simp[Builtin.zeroCells]
 ·intro i h1 h2;simp[Builtin.zeroCells,Nat.mod_one]
theorem zgf {z:Value}{bytes b i n cap:Nat}{T:TypeId}{cs:List Value}(ht:P.underlying t=some (.slice el))(hs:TI P el z 1 bytes)(hz:oneV z=true)(hx:look e x=some (.slice (some ⟨b,i,none⟩) n cap))
  (hB:Rt w b cs T) (hi:i+n<=cs.length):
  Yp P e ⟨d,.call ⟨.builtin .clear,#[x],#[t]⟩,ty,pos,aft,g⟩ w λv w'=>Rt w' b (NB cs i (List.replicate n z)) T/\Kp (λk=>k=b) w w':=by
 obtain⟨w',hr,Aq,hk⟩:=Re (P:=P) i (List.replicate n z) 0 cs w hB (by simp;omega) (λu hu=>by rw[(List.mem_replicate.1 hu).2];exact Uv hz)
 rcases Nat.eq_zero_or_pos n with h0|h0
 ·subst h0;refine⟨.tuple #[],w,fun ρ hρ=>?_,by simpa[z1T] using hB,Kp.refl _ _⟩;simp[execOp,resolve,invoke,builtin,hρ _ _ hx,Builtin.clear_,run_underlying ht,go_sem]
 ·refine⟨.tuple #[],w',fun ρ hρ=>?_,by simpa using Aq,hk⟩;have GM:=hs.zero (w:=w);obtain⟨k,rfl⟩:∃k,n=k+1:=⟨n-1,by omega⟩
  have hc:(Builtin.clear_ #[t] ty #[.slice (some ⟨b,i,none⟩) (k+1) cap]).run P w= .ok (.tuple #[]) w':=by
   unfold Builtin.clear_;simp only[List.getElem?_toArray,List.getElem?_cons_zero,pure_bind,Sem.run_bind,run_underlying ht,Result.andThen,GM,TT z _ hz,hr,Sem.run_pure]
  simp[execOp,resolve,invoke,builtin,hρ _ _ hx,hc]
theorem zfQ {z u:Value}{size bytes gb n cap m:Nat}{cs news:List Value}(ht:P.underlying t=some (.slice el))(hs:TI P el z size bytes)(cG:0<size)
  (hx:look e x=some (.slice (some ⟨gb,0,none⟩) n cap)) (hy:look e y=some u) (hv:Sl w (.slice (some ⟨gb,0,none⟩) n cap) el size n cs) (hu:Rd w u size m news) (h1:∀c∈news,c.oneCell'=true) (hr:n+m<=cap):
  Yp P e ⟨d,.call ⟨.builtin .append,#[x,y],#[t,t]⟩,ty,pos,aft,g⟩ w λv' w'=>v'= .slice (some ⟨gb,0,none⟩) (n+m) cap/\Sl w' v' el size (n+m) (cs++news)/\Kp (λk=>k=gb) w w':=by
 obtain⟨i,hi,oP,jw,qu⟩:=hs
 subst jw
 rcases hu.2 with⟨⟨ca,c⟩,rfl,rfl⟩|⟨b,off,cap2,rfl,rE⟩
 ·have eP:news=[]:=List.eq_nil_of_length_eq_zero (by simpa using hu.1);subst eP
  have hr:(Builtin.append_ #[t,t] ty #[.slice (some ⟨gb,0,none⟩) n cap,.slice ca 0 c]).run P w= .ok (.slice (some ⟨gb,0,none⟩) n cap) w:=by
   have jh:n<=cap:=by omega
   cases ca
   ·simp[Builtin.append_,run_underlying ht,sizeOf,typeInfo,hi,Builtin.lenOf,Builtin.firstCells,jh,storeCells]
   ·simp[Builtin.append_,run_underlying ht,sizeOf,typeInfo,hi,Builtin.lenOf,Builtin.firstCells,jh,storeCells,loadCells,loadCellsFrom]
  refine⟨_,w,fun ρ hρ=>?_,rfl,by simpa using hv,Kp.refl _ _⟩;simp[execOp,resolve,invoke,builtin,hρ _ _ hx,hρ _ _ hy,hr]
 ·have uM:∀j u,news[j]? =some u->w.cell? ((⟨b,off,none⟩:Addr).add j)=some u:=λj u hu=>by rw[NS];exact rE j u hu
  obtain⟨w',GN,zd,cO⟩:=run_append_fits (P:=P) w 0 t ty el i i.size ht hi O gb n cap cs hv ⟨b,off,none⟩ m cap2 news hu.1 uM h1 hr;refine⟨_,w',fun ρ hρ=>?_,rfl,zd,(Kp.QX cO).Mc λk hk=>(NF hk).symm⟩;simp[execOp,resolve,invoke,builtin,hρ _ _ hx,hρ _ _ hy,GN]
end
abbrev Bytes:=List UInt8
abbrev lt (a b:Bytes):Bool:=Op.bytesLess a b
section
variable {P:Program}{e:Env}{d:Option Nat}{ty t t':TypeId}{pos:String}{aft:Array Edge}{g:Option (Nat×Bool)}{x y:Operand}{w:World}{l l':Bytes}
end
def pos (l:List Bytes)(t:Bytes):Nat:=(l.takeWhile (λk=>lt k t)).length
theorem Y6 (cs vs:List Value)(i m:Nat)(h:m<=i)(hl:i<=cs.length):(NB cs i vs).take m=cs.take m:=by
 unfold NB
 rw[List.append_assoc,List.take_append_of_le_length (by simp;omega),List.take_take,Nat.min_eq_left h]
theorem z86 {w:World}{sv:Value}{cs:List Value}{i n:Nat}(hS:Sl w sv 3 1 n cs)(fA:∀c∈cs,c.oneCell'=true)(hi:i<n)(hn:n<=8589934592):
  Mw Tryz.prog 209 [sv,I (i:Int),I ((i:Int)+1)] w λv w'=>Sl w' v 3 1 (n-1) (cs.take i++cs.drop (i+1))/\Kp (λk=>sv.ownBlock=some k) w w'/\(∀g,v.ownBlock=some g->sv.ownBlock=some g):=by
 have eH:maxLen=9223372036854775807:=rfl
 have aA:=hS.len
 rw[Nat.mul_one] at aA
 obtain⟨g,cap,rfl,jh⟩:∃g cap,sv= .slice (some ⟨g,0,none⟩) n cap/\n<=cap:=by
  rcases hS.shape with⟨e,h0⟩|⟨g,cap,e,h⟩
  ·omega
  ·exact⟨g,cap,e,h⟩
 obtain⟨cur,jx,-,mz,dN,Ar⟩:=hS.row
 rw[Nat.mul_one] at dN Ar
 rw[show(i:Int)+1=((i+1:Nat):Int) by omega]
 refine It (e:=[(0,_),(1,_),(2,_)]) Tryz.func209 O Tryz.ntmps209 O O$ qN O$ Me O$ qM O$ Md O O$ Md O O$ O9 O8 O$ qV (zfT O8 MV O O O O ⟨by omega,by omega,jh⟩) ?_
 refine LX$ run_seq$ qN O$ Md O O$ O3 O O$ ML$ LX$ An O$ py$ qN O$ LW O$ O9 O8 O$ M4 O$ run_seq ?_
 refine NV (λw'=>Kp (λk=>k=g) w w') O ?_
 have h0:=Ext.Mm w
 refine Mj 0 O O ((Ext.Mm w).kp)$ Mj 1 O O ((Ext.Mm w).kp)$ Mj 3 O O ((Ext.Mm w).kp)$ Mj 4 O O ((Ext.Mm w).kp)$ M3 2 O (z7J O8 MV O O (by omega)) ((Ext.Mm w).kp)$ M3 5 O (Ua O8 MV O O (by omega) jh) ((Ext.Mm w).kp) ?_
 have cH:Sl w (.slice (some ⟨g,0,none⟩) i cap) 3 1 i (cs.take i):=by
  have:=jx.sl (n:=i) (by omega) mz (by rw[Nat.mul_one];exact dN);rw[Nat.mul_one,show cur.take i=cs.take i by rw[<-Ar,List.take_take,Nat.min_eq_left (by omega)]] at this;exact this
 have As:(cur.drop (i+1)).take (n-(i+1))=cs.drop (i+1):=by
  rw[<-Ar,List.drop_take]
 have hR:Rd w.drew (.slice (if cap=i+1 then some ⟨g,0,none⟩ else(some (⟨g,0,none⟩:Addr)).map (·.add ((i+1)*1))) (n-(i+1)) (cap-(i+1))) 1 (n-(i+1)) (cs.drop (i+1)):=by
  by_cases hc:cap=i+1
  ·rw[if_pos hc,show n-(i+1)=0 by omega,List.drop_eq_nil_of_le (by omega)];exact S2
  ·rw[if_neg hc,Option.map_some,NS,Nat.zero_add,Nat.mul_one,<-As];exact(jx.ext h0).rd (by omega)
 refine qO 6$ ON (i:=6) O O O (zfQ O8 MV (by decide) O O (cH.ext h0) hR (λc hc=>fA c (List.mem_of_mem_drop hc)) (by omega)) ?_
 rintro _ w1 ⟨rfl,cE,au⟩
 refine⟨h0.kp.trans au,?_⟩
 have e1:i+(n-(i+1))=n-1:=by omega
 rw[e1] at cE⊢
 obtain⟨cur3,uN,GO,GP,uO,uP⟩:=cE.row
 rw[Nat.mul_one] at uO uP
 refine M3 7 O (NX O) (h0.kp.trans au)$ qE$ qN O$ Md O O$ O9 O8 O$ LW O$ qV (zbK O8 MV O O O (by omega) (by omega))$ z8g O (zgf O8 MV O O uN (by omega)) ?_
 rintro _ w2 ⟨uQ,av⟩
 refine LX$ Mz.qb (e:=[(0,_),(6,_)]) ?_
 refine qN O$ LW O$ M4 O$ LZ Tryz.func209 O ?_
 have i6:=uQ.sl (n:=n-1) (cap:=cap) (by omega) mz (by rw[Yt _ _ _ (by simp;omega),uO,Nat.mul_one])
 rw[Nat.mul_one,Y6 _ _ _ _ (by omega) (by omega),uP] at i6
 exact⟨_,rfl,i6,((h0.kp.trans au).trans av).Mc (λk hk=>by subst hk;rfl),λg' cO=>cO⟩
end Go.Proofs.YtfgjaafcgghnoaaGreatDoor
namespace Go.Proofs.YtfgjaafcgghnoaaGreatDoor
open Go Go.RowKit
open Go.ChangeMaps (setBlock)
def Pk {κ:Type}(K:κ->Value)(w:World)(m:Nat)(kv:List (κ×Value)):Prop:=(∃es clock,w.heap[m]? =some (.map es clock)/\QO K es.toList kv/\(∀e∈es.toList,e.born<clock)/\(es.toList.map (·.born)).Nodup)/\(kv.map (·.1)).Nodup
section
variable {κ:Type}[DecidableEq κ]{K:κ->Value}
theorem Pk.l {w:World}{m:Nat}{kv:List (κ×Value)}(h:Pk K w m kv):TG K w m kv:=by
 obtain⟨⟨es,c,h1,h2,-,-⟩,h3⟩:=h
 exact⟨⟨es,c,h1,h2⟩,h3⟩
theorem Pk.lt {w:World}{m:Nat}{kv:List (κ×Value)}(h:Pk K w m kv):m<w.heap.size:=h.l.lt
theorem Pk.nd {w:World}{m:Nat}{kv:List (κ×Value)}(h:Pk K w m kv):(kv.map (·.1)).Nodup:=h.2
theorem Pk.kp {S:Nat->Prop}{w w':World}{m:Nat}{kv:List (κ×Value)}(h:Pk K w m kv)(k:Kp S w w')(hn:¬S m):Pk K w' m kv:=by
 obtain⟨⟨es,c,h,he⟩,hd⟩:=h
 exact⟨⟨es,c,k.heap h hn,he⟩,hd⟩
theorem Pk.ext {w w':World}{m:Nat}{kv:List (κ×Value)}(h:Pk K w m kv)(k:Ext w w'):Pk K w' m kv:=h.kp k id
theorem Pk.new {w:World}{m:Nat}(h:w.heap[m]? =some (.map #[] 0)):Pk K w m []:=⟨⟨#[],0,h,rfl,by simp,by simp⟩,by simp⟩
def delL:List (κ×Value)->κ->List (κ×Value)
 |[],_=>[]
 |(a,v)::r,k=>if k=a then r else(a,v)::delL r k
theorem z0l:∀(kv:List (κ×Value)) (k:κ),(delL kv k).Sublist kv
 |[],_=> .slnil
 | (a, v) :: r, k => by
   simp only[delL];split
   ·exact List.sublist_cons_self _ _
   ·exact(z0l r k).cons_cons _
theorem YO {kv:List (κ×Value)}{k:κ}(h:k∉kv.map (·.1)):getL kv k=none:=by
 induction kv with
 |nil=>rfl
 | cons p r ih =>
   obtain⟨a,u⟩:=p;simp only[List.map_cons,List.mem_cons,not_or] at h;simp only[getL,h.1,if_false];exact ih h.2
theorem zfk {kv:List (κ×Value)}(hn:(kv.map (·.1)).Nodup)(k x:κ):getL (delL kv k) x=if x=k then none else getL kv x:=by
 induction kv with
 |nil=>simp[delL,getL]
 | cons p r ih =>
   obtain⟨a,u⟩:=p;simp only[List.map_cons,List.nodup_cons] at hn;simp only[delL];by_cases h:k=a
   ·subst h;simp only[if_true,getL];by_cases hx:x=k
    ·subst hx;simp[YO hn.1]
    ·simp[hx]
   ·simp only[h,if_false,getL,ih hn.2];by_cases hx:x=a
    ·subst hx;simp[Ne.symm h]
    ·simp[hx]
theorem z0E {kv:List (κ×Value)}(hn:(kv.map (·.1)).Nodup){k:κ}{v:Value}(h:(k,v)∈kv):getL kv k=some v:=by
 induction kv with
 |nil=>cases h
 | cons p r ih =>
   obtain⟨a,u⟩:=p;simp only[List.map_cons,List.nodup_cons] at hn;rcases List.mem_cons.1 h with e| h
   ·cases e;simp[getL]
   ·have:k≠a:=λe=>hn.1 (List.mem_map.2 ⟨(k,v),h,e⟩);simp only[getL,this,if_false];exact ih hn.2 h
theorem W5 {td:TypeDesc}(hs:∀a b,Instr.sameNow td (K a) (K b)=some (decide (a=b))):∀{es:List MapEntry} {kv:List (κ×Value)} (i:Nat) {k:κ} {v:Value},QO K es kv->getL kv k=some v->
  ∃j,Instr.findNow td (K k) es i=some (some (i+j,v))/\j<es.length/\QO K (es.eraseIdx j) (delL kv k)
 | e :: es, (a, v') :: kv, i, k, v, h, hg => by
   simp only[QO,List.map_cons,List.cons.injEq,Prod.mk.injEq] at h;simp only[getL] at hg;split at hg
   ·rename_i he
    subst he;cases hg;refine⟨0,by simp[Instr.findNow,h.1.1,hs,h.1.2],by simp,?_⟩;simp only[List.eraseIdx_zero,List.tail_cons,delL,if_true];exact h.2
   ·rename_i bO
    obtain⟨j,h1,h2,h3⟩:=W5 hs (i+1) h.2 hg;refine⟨j+1,?_,by simp;omega,?_⟩
    ·simp only[Instr.findNow,h.1.1,hs,bO,decide_false,h1]
     congr 3;omega
    ·simp only[delL,bO,if_false,List.eraseIdx_cons_succ,QO,List.map_cons,List.cons.injEq,Prod.mk.injEq]
     exact⟨h.1,h3⟩
 |[],[],_,_,_,_,hg=>by simp[getL] at hg
 |[],_::_,_,_,_,h,_=>by simp[QO] at h
 |_::_,[],_,_,_,h,_=>by simp[QO] at h
variable {P:Program}{e:Env}{d:Option Nat}{ty t kt el:TypeId}{pos:String}{aft:Array Edge}{g:Option (Nat×Bool)}{x y u:Operand}{w:World}{m:Nat}{kv:List (κ×Value)}{z:Value}{size bytes:Nat}{k:κ}{v:Value}
theorem zbL (ht:P.underlying t=some (.map kt el))(hK:Ky P kt K)(hx:look e x=some (.map (some m)))(hy:look e y=some (K k))(hu:look e u=some v)(hm:Pk K w m kv):
  Zp P e ⟨d,.mapUpdate t x y u,ty,pos,aft,g⟩ w λw'=>Pk K w' m (putL kv k v)/\Kp (λi=>i=m) w w':=by
 have aP:=hm.lt
 obtain⟨⟨es,c,hh,he,bR,bY⟩,hd⟩:=hm
 have rF:=λb=>hK.same.choose_spec.2.2 w b 9999 k
 have hg:(getObj m).run P w= .ok (.map es c) w:=by simp[getObj,Sem.run,hh]
 have gE:∀o,(setObj m o).run P w= .ok () (w.putObj m o):=λo=>by simp[setObj,Sem.run,hh,World.putObj]
 cases lu:getL kv k with
 | none =>
   have hf:=QG (P:=P) (w:=w) hK he lu;refine⟨w.putObj m (.map (es.push {key:=K k,val:=v,born:=c}) (c+1)),fun ρ hρ=>?_,⟨⟨_,_,World.putObj_heap_same aP,?_,?_,?_⟩,?_⟩,Nz w m _⟩
   ·simp[execOp,hρ _ _ hx,hρ _ _ hy,hρ _ _ hu,Instr.mapUpdate,run_underlying ht,hg,rF,hf,gE]
   ·rw[R3 _ _ _ lu]
    simpa[QO] using he
   ·intro x hx;simp at hx;rcases hx with hx|rfl
    ·have:=bR x (by simpa using hx);omega
    ·simp
   ·simp only[Array.toList_push,List.map_append,List.map_cons,List.map_nil];refine List.nodup_append.2 ⟨bY,by simp,λa ha b hb ji=>?_⟩;simp at hb;subst hb;subst ji;obtain⟨x,hx,Fa⟩:=List.mem_map.1 ha;have:=bR x hx;omega
   ·rw[R3 _ _ _ lu,List.map_append,List.nodup_append];refine⟨hd,by simp,λa ha b hb ji=>?_⟩;simp at hb;subst hb;subst ji
    exact XW lu ha
 | some v0 =>
   obtain⟨j,hf,⟨ej,GQ,At⟩,mA⟩:=QI (P:=P) (w:=w) hK he lu
   have kD:(es.modify j λe=>{e with key:=K k,val:=v}).toList.map (·.born)=es.toList.map (·.born):=by
    apply List.ext_getElem?;intro i;simp only[Array.toList_modify,List.getElem?_map,List.getElem?_modify];by_cases i7:j=i
    ·subst i7;simp;cases es[j]?<;>rfl
    ·simp[i7]
   refine⟨w.putObj m (.map (es.modify j λe=>{e with key:=K k,val:=v}) c),fun ρ hρ=>?_,⟨⟨_,_,World.putObj_heap_same aP,mA v,?_,?_⟩,?_⟩,Nz w m _⟩
   ·simp[execOp,hρ _ _ hx,hρ _ _ hy,hρ _ _ hu,Instr.mapUpdate,run_underlying ht,hg,rF,hf,gE,GQ,At,Instr.keyThatStays,hK.bits]
   ·intro x hx;have:x.born∈es.toList.map (·.born):=by rw[<-kD];exact List.mem_map.2 ⟨x,hx,rfl⟩
    obtain⟨y,hy,uR⟩:=List.mem_map.1 this;rw[<-uR];exact bR y hy
   ·rw[kD];exact bY
   ·rw[YL _ _ _ (by rw[lu];rfl)];exact hd
theorem zbo (ht:P.underlying t=some (.map kt el))(hK:Ky P kt K)(hx:look e x=some (.map (some m)))(hy:look e y=some (K k))(hm:Pk K w m kv){ts:Array TypeId}(ue:ts[0]? =some t):
  Yp P e ⟨d,.call ⟨.builtin .delete,#[x,y],ts⟩,ty,pos,aft,g⟩ w λv' w'=>Pk K w' m (delL kv k)/\Kp (λi=>i=m) w w':=by
 have aP:=hm.lt
 obtain⟨⟨es,c,hh,he,bR,bY⟩,hd⟩:=hm
 obtain⟨⟨td,hu,hs,Au⟩,-⟩:=hK
 have rF:=λb=>Au w b 9999 k
 have hg:(getObj m).run P w= .ok (.map es c) w:=by simp[getObj,Sem.run,hh]
 have gE:∀o,(setObj m o).run P w= .ok () (w.putObj m o):=λo=>by simp[setObj,Sem.run,hh,World.putObj]
 have dv:=(z0l kv k).map (·.1)
 cases lu:getL kv k with
 | none =>
   have hf:(Instr.findKey kt (K k) es.toList).run P w= .ok none w:=by simp[Instr.findKey,run_underlying hu,Sd hs 0 he lu]
   have kE:delL kv k=kv:=by
    clear he hh hd dv
    induction kv with
    |nil=>rfl
    | cons p r ih =>
      obtain⟨a,u⟩:=p;simp only[getL] at lu;split at lu
      ·cases lu
      ·rename_i bO;simp only[delL,bO,if_false,ih lu]
   refine⟨.tuple #[],w.putObj m (.map es c),fun ρ hρ=>?_,⟨⟨es,c,World.putObj_heap_same aP,by rw[kE];exact he,bR,bY⟩,by rw[kE];exact hd⟩,Nz w m _⟩
   simp[execOp,resolve,invoke,builtin,hρ _ _ hx,hρ _ _ hy,Builtin.delete_,ue,run_underlying ht,hg,rF,hf,gE,Result.andThen]
 | some v0 =>
   obtain⟨j,uS,hj,mA⟩:=W5 hs 0 he lu
   have hf:(Instr.findKey kt (K k) es.toList).run P w= .ok (some (j,v0)) w:=by
    rw[Nat.zero_add] at uS;simp[Instr.findKey,run_underlying hu,uS]
   have Av:(es.eraseIdxIfInBounds j).toList=es.toList.eraseIdx j:=by
    simp at hj;simp[Array.eraseIdxIfInBounds,hj]
   refine⟨.tuple #[],w.putObj m (.map (es.eraseIdxIfInBounds j) c),fun ρ hρ=>?_,⟨⟨_,c,World.putObj_heap_same aP,by rw[Av];exact mA,?_,?_⟩,dv.nodup hd⟩,Nz w m _⟩
   ·simp[execOp,resolve,invoke,builtin,hρ _ _ hx,hρ _ _ hy,Builtin.delete_,ue,run_underlying ht,hg,rF,hf,gE,Result.andThen]
   ·rw[Av];exact λx hx=>bR x ((List.eraseIdx_sublist _ _).subset hx)
   ·rw[Av];exact((List.eraseIdx_sublist _ _).map _).nodup bY
end
def bitsN:Nat->Nat->List Bool
 |0,_=>[]
 |n+1,v=>v.testBit n::bitsN n v
def valB:List Bool->Nat
 |[]=>0
 |b::l=>b.toNat*2^l.length+valB l
@[simp] theorem bitsN_length:∀(n v:Nat),(bitsN n v).length=n
 |0,_=>rfl
 |n+1,v=>by simp[bitsN,bitsN_length n v]
theorem NA:∀(l:List Bool),valB l<2^l.length
 |[]=>by simp[valB]
 | b :: l => by
   have:=NA l;simp only[valB,List.length_cons,Nat.pow_succ];have:b.toNat<=1:=by cases b<;>simp
   have:b.toNat*2^l.length<=1*2^l.length:=Nat.mul_le_mul_right _ this;omega
theorem Oz:∀(a b:List Bool),valB (a++b)=valB a*2^b.length+valB b
 |[],b=>by simp[valB]
 | x :: a, b => by
   rw[List.cons_append,valB,Oz a b,valB,List.length_append,Nat.pow_add,Nat.add_mul,Nat.mul_assoc];omega
theorem OC:∀(m n v:Nat),bitsN (m+n) v=bitsN m (v / 2^n)++bitsN n v
 |0,n,v=>by simp[bitsN]
 | m + 1, n, v => by
   rw[show m+1+n=(m+n)+1 by omega,bitsN,bitsN,List.cons_append,OC m n v,Nat.testBit_div_two_pow]
theorem MW:∀(n v:Nat),valB (bitsN n v)=v%2^n
 |0,v=>by simp[bitsN,valB,Nat.mod_one]
 | n + 1, v => by
   rw[bitsN,valB,bitsN_length,MW n v,Nat.pow_succ,Nat.mod_mul,Nat.testBit_eq_decide_div_mod_eq];rcases Nat.mod_two_eq_zero_or_one (v / 2^n) with e|e<;>simp[e]<;>omega
theorem SK:∀{n v u:Nat},v%2^n=u%2^n->bitsN n v=bitsN n u
 |0,_,_,_=>rfl
 | n + 1, v, u, h => by
   have h1:v.testBit n=u.testBit n:=by
    have e1:(v%2^(n+1)).testBit n=v.testBit n:=by rw[Nat.testBit_mod_two_pow];simp
    have e2:(u%2^(n+1)).testBit n=u.testBit n:=by rw[Nat.testBit_mod_two_pow];simp
    rw[<-e1,<-e2,h]
   have h2:v%2^n=u%2^n:=by
    have e1:v%2^(n+1)%2^n=v%2^n:=Nat.mod_mod_of_dvd _ (Nat.pow_dvd_pow 2 (Nat.le_succ n));have e2:u%2^(n+1)%2^n=u%2^n:=Nat.mod_mod_of_dvd _ (Nat.pow_dvd_pow 2 (Nat.le_succ n));rw[<-e1,<-e2,h]
   rw[bitsN,bitsN,h1,SK h2]
theorem UA:∀{a b:List Bool},a.length=b.length->valB a=valB b->a=b
 |[],[],_,_=>rfl
 | x :: a, y :: b, hl, hv => by
   have hl':a.length=b.length:=by simpa using hl
   have h1:=NA a;have h2:=NA b;rw[valB,valB,hl'] at hv;rw[hl'] at h1
   have hx:x=y:=by
    cases x<;>cases y<;>simp at hv⊢<;>omega
   subst hx;rw[UA hl' (by omega)]
theorem Yf (l:List Bool):bitsN l.length (valB l)=l:=UA (by simp) (by rw[MW,Nat.mod_eq_of_lt (NA l)])
/-! ### Bytes -/
def Ml (s:Bytes):List Bool:=s.flatMap λc=>bitsN 8 c.toNat
@[simp] theorem bitsT_length (s:Bytes):(Ml s).length=8*s.length:=by
 induction s with
 |nil=>rfl
 |cons c s ih=>simp[Ml] at ih⊢;omega
theorem UO (a b:Bytes):Ml (a++b)=Ml a++Ml b:=by simp[Ml]
def Ss (d:List Bool):UInt8:=UInt8.ofNat (valB d*2^(8-d.length))
def Ms (l:List Bool):Bytes:=(List.range ((l.length+7) / 8)).map λi=>Ss ((l.drop (8*i)).take 8)
theorem MF (l:List Bool):(Ms l).length=(l.length+7) / 8:=by simp[Ms]
theorem Ui {c d:List Bool}(hc:c.length%8=0)(h1:1<=d.length)(h8:d.length<=8):Ms (c++d)=Ms c++[Ss d]:=by
 obtain⟨m,hm⟩:∃m,c.length=8*m:=⟨c.length / 8,by omega⟩
 unfold Ms
 rw[List.length_append,show(c.length+d.length+7) / 8=m+1 by omega,show(c.length+7) / 8=m by omega,List.range_succ,List.map_append]
 congr 1
 ·apply List.map_congr_left;intro i hi;rw[List.mem_range] at hi;rw[List.drop_append_of_le_length (by omega),List.take_append_of_le_length (by rw[List.length_drop];omega)]
 ·simp only[List.map_cons,List.map_nil];rw[<-hm,List.drop_left,List.take_of_length_le h8]
theorem z55 {d e:List Bool}(h:d.length+e.length<=8):(Ss (d++e)).toNat=(Ss d).toNat |||(valB e*2^(8-d.length-e.length)):=by
 have h1:=NA d
 have h2:=NA e
 have hp:∀(x:List Bool),x.length<=8->valB x*2^(8-x.length)<256:=λx hx=>by
  have h3:=NA x;have:valB x*2^(8-x.length)<2^x.length*2^(8-x.length):=Nat.mul_lt_mul_of_pos_right h3 (Nat.two_pow_pos _);rw[<-Nat.pow_add,show x.length+(8-x.length)=8 by omega] at this;exact this
 have e1:(Ss (d++e)).toNat=valB (d++e)*2^(8-(d++e).length):=by
  unfold Ss;rw[UInt8.toNat_ofNat'];exact Nat.mod_eq_of_lt (hp _ (by rw[List.length_append];omega))
 have e2:(Ss d).toNat=valB d*2^(8-d.length):=by
  unfold Ss;rw[UInt8.toNat_ofNat'];exact Nat.mod_eq_of_lt (hp _ (by omega))
 rw[e1,e2,Oz,List.length_append,Nat.add_mul]
 have h5:valB d*2^e.length*2^(8-(d.length+e.length))=2^(8-d.length)*valB d:=by
  rw[Nat.mul_assoc,<-Nat.pow_add,show e.length+(8-(d.length+e.length))=8-d.length by omega,Nat.mul_comm]
 have h6:valB e*2^(8-(d.length+e.length))<2^(8-d.length):=by
  have:valB e*2^(8-(d.length+e.length))<2^e.length*2^(8-(d.length+e.length)):=Nat.mul_lt_mul_of_pos_right h2 (Nat.two_pow_pos _);rw[<-Nat.pow_add,show e.length+(8-(d.length+e.length))=8-d.length by omega] at this;exact this
 rw[h5,Nat.two_pow_add_eq_or_of_lt h6,Nat.mul_comm (2^(8-d.length)),show 8-d.length-e.length=8-(d.length+e.length) by omega]
theorem z4Q:Ss []=0:=by decide
theorem OQ (l:List Bool):∃z,Ml (Ms l)=l++List.replicate z false/\(l.length+z)%8=0/\z<8:=by
 have key : ∀ (m : Nat) (l : List Bool), l.length <= 8 * m -> ∃ z, Ml (Ms l) = l ++ List.replicate z false /\ (l.length + z) % 8 = 0 /\ z < 8 := by
  intro m
  induction m with
  | zero =>
    intro l h;have:l=[]:=List.eq_nil_of_length_eq_zero (by omega);subst this
    exact⟨0,rfl,rfl,by omega⟩
  | succ m ih =>
    intro l h;by_cases h0:l=[]
    ·subst h0;exact⟨0,rfl,rfl,by omega⟩
    ·have hpos:1<=l.length:=by
      cases l with
      |nil=>exact absurd O h0
      |cons a r=>simp
     obtain⟨c,d,rfl,hc,h1,h8⟩:∃c d,l=c++d/\c.length%8=0/\1<=d.length/\d.length<=8:=by
      refine⟨l.take (8*((l.length-1) / 8)),l.drop (8*((l.length-1) / 8)),(List.take_append_drop _ _).symm,?_,?_,?_⟩
      ·rw[List.length_take];omega
      ·rw[List.length_drop];omega
      ·rw[List.length_drop];omega
     rw[List.length_append] at h;obtain⟨z,hz,hm,hl⟩:=ih c (by omega);have hz0:z=0:=by omega
     subst hz0;simp at hz;refine⟨8-d.length,?_,by rw[List.length_append];omega,by omega⟩;rw[Ui hc h1 h8,UO,hz,List.append_assoc]
     congr 1
     simp only[Ml,List.flatMap_cons,List.flatMap_nil,List.append_nil]
     have hv:valB (d++List.replicate (8-d.length) false)=valB d*2^(8-d.length):=by
      rw[Oz,List.length_replicate]
      have:∀n,valB (List.replicate n false)=0:=λn=>by
       induction n with
       |zero=>rfl
       |succ n ih=>rw[List.replicate_succ,valB,ih];simp
      rw[this];rfl
     refine UA (by simp;omega) ?_;rw[MW,hv];have h3:=NA d
     have:valB d*2^(8-d.length)<2^8:=by
      have:valB d*2^(8-d.length)<2^d.length*2^(8-d.length):=Nat.mul_lt_mul_of_pos_right h3 (Nat.two_pow_pos _)
      rwa [<-Nat.pow_add,show d.length+(8-d.length)=8 by omega] at this
     unfold Ss;rw[UInt8.toNat_ofNat'];rw[Nat.mod_mod,Nat.mod_eq_of_lt this]
 exact key l.length l (by omega)
theorem z2f (c:Nat)(hc:c<256)(room n:Nat)(hr:room<=8)(hn:n<=room):valB (((bitsN 8 c).drop (8-room)).take n)=c%2^room / 2^(room-n):=by
 have e1:bitsN 8 c=bitsN (8-room) (c / 2^room)++bitsN room c:=by rw[<-OC,show 8-room+room=8 by omega]
 have e2:bitsN room c=bitsN n (c / 2^(room-n))++bitsN (room-n) c:=by rw[<-OC,show n+(room-n)=room by omega]
 rw[e1,List.drop_left' (by simp),e2,List.take_left' (by simp),MW]
 have:c%2^room / 2^(room-n)=c / 2^(room-n)%2^n:=by
  have h2:2^room=2^(room-n)*2^n:=by rw[<-Nat.pow_add,show room-n+n=room by omega]
  rw[h2,Nat.mod_mul_right_div_self]
 rw[this]
theorem Qc (c:UInt8)(s:Bytes):Ml (c::s)=bitsN 8 c.toNat++Ml s:=rfl
theorem Qj:∀(k:Nat) (s:Bytes),Ml (s.drop k)=(Ml s).drop (8*k)
 |0,s=>by simp
 |k+1,[]=>by simp[Ml]
 | k + 1, c :: s => by
   have e:(bitsN 8 c.toNat++Ml s).drop (8+8*k)=(Ml s).drop (8*k):=by rw[<-List.drop_drop,List.drop_left' (by simp)]
   rw[List.drop_succ_cons,Qj k s,Qc,show 8*(k+1)=8+8*k by omega,e]
theorem QZ:∀(k:Nat) (s:Bytes),Ml (s.take k)=(Ml s).take (8*k)
 |0,s=>by simp[Ml]
 |k+1,[]=>by simp[Ml]
 | k + 1, c :: s => by
   have e:(bitsN 8 c.toNat++Ml s).take (8+8*k)=bitsN 8 c.toNat++(Ml s).take (8*k):=by
    have:=List.take_length_add_append (l₁:=bitsN 8 c.toNat) (l₂:=Ml s) (8*k)
    rwa [bitsN_length] at this
   rw[List.take_succ_cons,Qc,QZ k s,Qc,show 8*(k+1)=8+8*k by omega,e]
theorem z8r {s:Bytes}{i:Nat}{c:UInt8}(h:s[i]? =some c):((Ml s).drop (8*i)).take 8=bitsN 8 c.toNat:=by
 rw[<-Qj]
 obtain⟨hi,e⟩:=List.getElem?_eq_some_iff.1 h
 rw[List.drop_eq_getElem_cons hi,e,show Ml (c::s.drop (i+1))=bitsN 8 c.toNat++Ml (s.drop (i+1)) from rfl,List.take_left' (by simp)]
theorem z3e {s:Bytes}{at' n:Nat}{c:UInt8}(h:s[at' / 8]? =some c)(hn:n<=8-at'%8):valB (((Ml s).drop at').take n)=c.toNat%2^(8-at'%8) / 2^(8-at'%8-n):=by
 have h1:=z8r h
 have h2:=z2f c.toNat (by have:=c.toNat_lt;omega) (8-at'%8) n (by omega) hn
 rw[<-h2,<-h1]
 congr 1
 rw[List.drop_take,List.take_take,List.drop_drop,show 8*(at' / 8)+(8-(8-at'%8))=at' by omega]
 congr 1
 omega
theorem z35 {bs e:List Bool}(h1:1<=e.length)(h8:bs.length%8+e.length<=8):∃(c:Bytes) (x y:UInt8),(if bs.length%8=0 then Ms bs++[0] else Ms bs)=c++[x]/\Ms (bs++e)=c++[y]/\y.toNat=(x.toNat |||(valB e*2^(8-bs.length%8-e.length))):=by
 obtain⟨c,d,hcd,hc,hd⟩:∃c d,bs=c++d/\c.length%8=0/\d.length=bs.length%8:=⟨bs.take (8*(bs.length / 8)),bs.drop (8*(bs.length / 8)),(List.take_append_drop _ _).symm,by rw[List.length_take];omega,by rw[List.length_drop];omega⟩
 have hb:=z55 (d:=d) (e:=e) (by omega)
 rw[<-hd]
 refine⟨Ms c,Ss d,Ss (d++e),?_,?_,hb⟩
 ·by_cases h0:d.length=0
  ·have:d=[]:=List.eq_nil_of_length_eq_zero h0;subst this;rw[if_pos (by simp),hcd,List.append_nil,z4Q]
  ·rw[if_neg (by omega),hcd,Ui hc (by omega) (by omega)]
 ·rw[hcd,List.append_assoc,Ui hc (by rw[List.length_append];omega) (by rw[List.length_append];omega)]
abbrev Mh (n:Nat):Value:= .int .u64 (n:Int)
theorem Tc {w:World}{v:Value}{T s n}{us:List Value}(h:Sl w v T s n us):oneV v=true:=by
 rcases h.shape with⟨rfl,-⟩|⟨g,c,rfl,-⟩<;>rfl
section
variable {P:Program}{e:Env}{d:Option Nat}{ty t t':TypeId}{pos:String}{aft:Array Edge}{g:Option (Nat×Bool)}{x y:Operand}{w:World}{k:IntKind}{m n:Nat}
theorem SC (hx:look e x=some (.int k (m:Int)))(hy:look e y=some (.int k (n:Int)))(hs:k.signed=false)(hm:m<2^k.bits)(h:n<=m):Y P e ⟨d,.binOp .sub t x y t',ty,pos,aft,g⟩ (.int k ((m-n:Nat):Int)) w w:=fun ρ hρ=>by
 have h1:(m:Int)-n=((m-n:Nat):Int):=by omega
 have h2:k.wrap ((m-n:Nat):Int)=((m-n:Nat):Int):=Wp hs (by omega)
 simp[execOp,go_sem,hρ _ _ hx,hρ _ _ hy,h1,h2]
theorem zdq {el:TypeId}{c:Nat}(hs:P.underlying t=some (.slice el))(he:P.underlying el=some (.int .u8))(hd:P.underlying t'=some .string)(hx:look e x=some (.slice none 0 c)):Y P e ⟨d,.convert t t' x,ty,pos,aft,g⟩ (S []) w w:=fun ρ hρ=>by
 have hr:(convert t t' (.slice none 0 c)).run P w= .ok (S []) w:=by
  rw[run_convert_bytes_string w t t' el none 0 c hs he hd];rfl
 simp only[execOp,hρ _ _ hx,Sem.run_bind,hr,Result.andThen_ok,Sem.run_pure]
theorem zeu {el:TypeId}{gb n cap:Nat}{l:List UInt8}(hs:P.underlying t=some (.slice el))(he:P.underlying el=some (.int .u8))(hd:P.underlying t'=some .string)(hx:look e x=some (.slice (some ⟨gb,0,none⟩) n cap))(hS:Sl w (.slice (some ⟨gb,0,none⟩) n cap) el 1 n (l.map PF)):
  Y P e ⟨d,.convert t t' x,ty,pos,aft,g⟩ (S l) w w:=by
 obtain⟨cur,hr,-,-,-,ht⟩:=hS.row
 refine z2u hs he hd hx hr.LY (by rw[List.drop_zero,<-ht,Nat.mul_one]) ?_
 have:=hS.len
 rw[List.length_map] at this
 omega
end
theorem Na {w:World}{b off n cap i:Nat}{vs:List Value}{v:Value}(h:Rd w (.slice (some ⟨b,off,none⟩) n cap) 1 n vs)(hv:vs[i]? =some v):w.cell? ⟨b,off+i*1,none⟩=some v:=by
 rcases h.2 with⟨c,hc,h0⟩|⟨b',off',cap',e,hc⟩
 ·have hi:=(List.getElem?_eq_some_iff.1 hv).1;have:=h.1;omega
 ·cases e;rw[Nat.mul_one];exact hc i v hv
structure WrM (w:World)(p:Nat)(bv:Value)(bs:List Bool):Prop where
 LY:M7 w p [bv,I (bs.length:Int)] 286
 sl:Sl w bv 5 1 (Ms bs).length ((Ms bs).map PF)
 ne:bv.ownBlock≠some p
def YB (p:Nat)(bv:Value)(k:Nat):Prop:=k=p\/bv.ownBlock=some k
def UT (w:World)(p:Nat)(bs:List Bool)(F:Nat->Prop):Prop:=∃bv,WrM w p bv bs/\∀k,F k↔YB p bv k
def WrR (p:Nat)(F:Nat->Prop)(w w':World)(bs:List Bool):Prop:=∃F',UT w' p bs F'/\Kp F w w'/\∀k,F' k->F k\/w.heap.size<=k
section
variable {w w':World}{p:Nat}{bs:List Bool}{F S:Nat->Prop}
theorem UT.lt (h:UT w p bs F){k:Nat}(hk:F k):k<w.heap.size:=by
 obtain⟨bv,hM,hF⟩:=h
 rcases (hF k).1 hk with e| e
 ·rw[e];exact hM.LY.lt
 ·exact hM.sl.lt e
theorem UT.kp (h:UT w p bs F)(k:Kp S w w')(hn:∀i,F i->¬S i):UT w' p bs F:=by
 obtain⟨bv,hM,hF⟩:=h
 exact⟨bv,⟨k.LY hM.LY (hn p ((hF p).2 (.inl O))),hM.sl.kp k (λg hg=>hn g ((hF g).2 (.inr hg))),hM.ne⟩,hF⟩
theorem UT.ext (h:UT w p bs F)(k:Ext w w'):UT w' p bs F:=h.kp k.kp λ_ _=>id
end
section
variable {w:World}{p:Nat}{bs:List Bool}{F:Nat->Prop}
theorem Rj (w:World):Mw Tryz.prog 122 [] w λv w'=>∃p F,v=ptr p 0/\UT w' p [] F/\Ext w w'/\∀k,F k->w.heap.size<=k:=by
 refine It (e:=[]) Tryz.func122 O Tryz.ntmps122 O O$ qN O$ Me O$ qM O$ qV (OO (cs:=[_,_]) zf3 O zdD O O)$ M5 O O (O2 O O) ?_
 rintro _ w1 ⟨p,rfl,hp,hx,hB⟩
 refine M4 O$ LZ Tryz.func122 O ?_
 exact⟨_,rfl,p,_,rfl,⟨_,⟨hB,Sl.nil _ _ _,by simp[Value.ownBlock]⟩,λ_=>Iff.rfl⟩,hx,λk hk=>by
  rcases hk with e| e
  ·omega
  ·simp[Value.ownBlock] at e⟩
theorem z73 (h:UT w p bs F)(v n:Nat)(hn:n<=64)(hv:v<2^n)(hl:bs.length+n<=1000000000):
  Mw Tryz.prog 163 [ptr p 0,Mh v,I (n:Int)] w λu w'=>u= .tuple #[]/\WrR p F w w' (bs++bitsN n v):=by
 obtain⟨bv,hM,hF⟩:=h
 have GR:v<18446744073709551616:=by
  have:=Nat.pow_le_pow_right (show 0<2 by decide) hn;have e:(2:Nat)^64=18446744073709551616:=by decide
  omega
 have eH:maxLen=9223372036854775807:=rfl
 refine It (e:=[(0,_),(1,_),(2,_)]) Tryz.func163 O Tryz.ntmps163 O O$ LU$ Oh (α:=Nat×Value×List Bool) ((n,bv,bs)) (λx=>[(0,ptr p 0),(1,Mh v),(2,I (x.1:Int))]) (λx w'=>x.1<=n/\WrM w' p x.2.1 x.2.2/\x.2.2=bs++bitsN (n-x.1) (v / 2^x.1)/\Kp F w w'/\(∀k,YB p x.2.1 k->F k\/w.heap.size<=k)) (λx=>x.1) ?hI ?hround
 case hI=>exact⟨Nat.le_refl _,hM,by rw[Nat.sub_self];simp[bitsN],Kp.refl _ _,λk hk=> .inl ((hF k).2 hk)⟩
 case hround =>
  rintro⟨k,bv1,b1⟩ w1 ⟨hk,dK,bR,aK,iI⟩ ih;dsimp only at hk dK bR iI;have aj:=dK.LY;have GS:b1.length<=bs.length+n:=by rw[bR,List.length_append,bitsN_length];omega
  have jy:b1.length&&&7=b1.length%8:=Nat.and_two_pow_sub_one_eq_mod b1.length 3;have mh:=aK.size;have eQ:=aj.lt
  try dsimp only
  refine run_seq$ qN O$ LW O$ Ng O O$ LX$ M8 O (λaP=>?_)$ λaP=>?_
  ·have gU : 0 < k := by omega
   obtain⟨take,jz⟩:∃take,min k (8-b1.length%8)=take:=⟨_,rfl⟩;have rG:1<=take/\take<=k/\take<=8-b1.length%8:=by omega
   obtain⟨e,he⟩:∃e,bitsN take (v / 2^(k-take))=e:=⟨_,rfl⟩;have og:e.length=take:=by rw[<-he];simp
   have Fb:valB e=v / 2^(k-take)%2^take:=by rw[<-he,MW]
   obtain⟨c,x,y,hL,hY,dt⟩:=z35 (bs:=b1) (e:=e) (by omega) (by omega);refine py$ LU$ run_seq$ qN O$ LW O$ MC O$ Ma Td O$ qV (M1 U3 O O aj O)$ qV (TX O O (by omega) (by omega)) ?_;rw[jy];refine O3 O O$ LX$ MM (λe' w'=>e'=[(0,ptr p 0),(1,Mh v),(2,I (k:Int))]/\∃bv2,M7 w' p [bv2,I (b1.length:Int)] 286/\Sl w' bv2 5 1 (c++[x]).length ((c++[x]).map PF)/\bv2.ownBlock≠some p/\Kp F w w'/\∀k,YB p bv2 k->F k\/w.heap.size<=k) ?mB$ λmB=>?mC
   case mB=>
    rintro e' w2 ⟨rfl,bv2,am,cH,fB,ao,rH⟩
    obtain⟨g2,c2,rfl,dU⟩:∃g cp,bv2= .slice (some ⟨g,0,none⟩) (c++[x]).length cp/\(c++[x]).length<=cp:=by
     rcases cH.shape with⟨-,e⟩| h
     ·simp at e
     ·exact h
    have dN:(c++[x]).length=c.length+1:=by simp
    have GT:p≠g2:=λe=>fB (by rw[e];rfl);have jj:(Ms (b1++e)).length=c.length+1:=by rw[hY];simp
    rw[MF,List.length_append] at jj;obtain⟨T,hT⟩:∃T,2^take=T:=⟨_,rfl⟩;obtain⟨D,hD⟩:∃D,2^(k-take)=D:=⟨_,rfl⟩;obtain⟨R,hR⟩:∃R,2^(8-b1.length%8-take)=R:=⟨_,rfl⟩;rw[hT,hD] at Fb;rw[og,hR] at dt
    have Fc:1<=T/\T<=256:=by
     rw[<-hT];exact⟨Nat.two_pow_pos _,by have:=Nat.pow_le_pow_right (show 0<2 by decide) (show take<=8 by omega);simpa using this⟩
    have iO:(v / D)&&&(T-1)=v / D%T:=by rw[<-hT];exact Nat.and_two_pow_sub_one_eq_mod _ _
    have KR:v / D<=v:=Nat.div_le_self _ _;have GU:v / D%T<T:=Nat.mod_lt _ (by omega)
    have KS:valB e*R<256:=by
     have h1:=NA e;rw[og,hT] at h1;have h2:valB e*R<T*R:=Nat.mul_lt_mul_of_pos_right h1 (by rw[<-hR];exact Nat.two_pow_pos _);have h3:T*R=2^(8-b1.length%8):=by rw[<-hT,<-hR,<-Nat.pow_add,show take+(8-b1.length%8-take)=8-b1.length%8 by omega]
     have h4:=Nat.pow_le_pow_right (show 0<2 by decide) (show 8-b1.length%8<=8 by omega);have h5:(2:Nat)^8=256:=by decide
     omega
    have dw:=x.toNat_lt;refine qN O$ LW O$ MC O$ Ma Td O$ qV (M1 U3 O O am O)$ qV (TX O O (by omega) (by omega)) ?_;rw[jy];refine Oa O O ?_;rw[show(8-((b1.length%8:Nat):Int))=((8-b1.length%8:Nat):Int) by omega];refine Me O$ qM O$ Md O O$ qV (ymi O O) ?_;rw[show min (k:Int) ((8-b1.length%8:Nat):Int)=((take:Nat):Int) by omega];have hg:=Ext.Mm w2;refine M4 O$ run_seq$ NV (λw'=>Ext w2 w') O$ Mj 0 O O (hg)$ Mj 1 O O (hg)$ Mj 2 O O (hg)$ M3 3 O (TO O O (by omega)) hg$ Mj 5 O O (hg) ?_;rw[show((k:Int)-(take:Int))=((k-take:Nat):Int) by omega];refine M3 4 O (Qy (k-take) D O O (by show k-take<=64;omega) hD) hg ?_;refine M3 6 O (NW take T O O (by omega) hT) hg ?_;rw[show(1*T)%18446744073709551616=T by omega];refine M3 7 O (SC (n:=1) O O O (by show T<2^64;omega) (by omega)) hg ?_;refine M3 8 O (Rk O O (by omega) (by omega)) hg ?_;rw[iO];refine M3 9 O (z0L O Nv U5) hg ?_;rw[show v / D%T%256=valB e by rw[Fb];exact Nat.mod_eq_of_lt (Nat.lt_of_lt_of_le GU Fc.2)];have ar:=hg.LY am;have cE:=cH.ext hg;have ae:Ext w2.drew w2.drew.drew:=Ext.Mm w2.drew;refine M3 10 O (NX O) hg$ qE$ run_seq$ Mo [19] (λw'=>Ext w2.drew w') (by kernel_rfl) O$ qL [1,2,3,10,11,17,18,19] 0 O (λ_ h=>MH O) ae$ qL [2,3,10,11,17,18,19] 1 O (λ_ h=>N4 O) ae$ qL [3,10,11,17,18,19] 2 O (λ_ h=>My UJ O) ae$ qL [10,11,17,18,19] 3 O (λ_ h=>M1 Nc O O (h.LY ar) O) ae$ qL [5,6,7,8,9,10,11,17,18,19] 4 O (λ_ h=>MH O) ae$ qL [6,7,8,9,10,11,17,18,19] 5 O (λ_ h=>N4 O) ae$ qL [7,8,9,10,11,17,18,19] 6 O (λ_ h=>My UJ O) ae$ qL [8,9,10,11,17,18,19] 7 O (λ_ h=>M1 Nc O O (h.LY ar) O) ae$ qL [9,10,11,17,18,19] 8 O (λ_ h=>Pb Nc O) ae$ qL [16,17,18,19] 12 O (λ_ h=>MH O) ae ?_;refine qL [15,16,17,18,19] 13 O (λ_ h=>MH O) ae$ qL [15,16,17,18,19] 14 O (λ_ h=>MH O) ae$ qL [16,17,18,19] 15 O (λ_ h=>TO O O (by omega)) ae$ qL [10,11,17,18,19] 9 O (λ_ h=>TO O O (by omega)) ae ?_;rw[show(((c++[x]).length:Int)-1)=((c.length:Nat):Int) by omega];refine qL [11,17,18,19] 10 O (λ_ h=>MS Nc TS O O (by omega)) ae$ qL [17,18,19] 11 O (λ_ hS=>MA U5 O O (Na (cE.rd.ext hS) (show((c++[x]).map PF)[c.length]? =some (PF x) by simp))) ae ?_;rw[show(((8-b1.length%8:Nat):Int)-(take:Int))=((8-b1.length%8-take:Nat):Int) by omega];refine qL [17,18,19] 16 O (λ_ h=>zfo (8-b1.length%8-take) R O O (by omega) hR) ae ?_;rw[show valB e*R%256=valB e*R by omega];refine qL [18,19] 17 O (λ_ h=>zfV O O (by omega) (by omega)) ae$ qL [19] 18 O (λ_ h=>MS Nc TS O O (by omega)) ae$ PH [19]$ qO 19$ MI (i:=19) O O (Ox TS O O O (cE.ext ae) (by simp)) ?_
    rintro w4 ⟨dV,av⟩;refine⟨trivial,?_⟩
    rw[show((c++[x]).map PF).set (0+c.length*1) (.int .u8 ((x.toNat |||valB e*R:Nat):Int))=(c++[y]).map PF by
     rw[Nat.zero_add,Nat.mul_one,List.map_append,List.map_append,List.set_append_right _ _ (by simp)]
     simp[PF,dt]] at dV
    have aH:=av.LY (ae.LY ar) GT;refine qE$ qN O$ LW O$ MC O$ Ma Td O$ qV (M1 U3 O O aH O)$ LW O$ MT O O$ MC O$ Ma Td O$ Mb O (NT MV O O O aH (by simp)) ?_;rintro w5 ⟨aI,ak⟩;rw[show((b1.length:Int)+(take:Int))=(((b1++e).length:Nat):Int) by rw[List.length_append,og];omega] at aI;replace aI:M7 w5 p [.slice (some ⟨g2,0,none⟩) (c++[x]).length c2,I ((b1++e).length:Int)] 286:=aI
    have fC:=dV.kp ak (λg hg e=>by
                         have:g2=g:=by simpa[Value.ownBlock] using hg
                         omega)
    refine LX$ M0 O$ Md O O$ Oa O O$ M4 O$ LV ?_;rw[show((k:Int)-(take:Int))=((k-take:Nat):Int) by omega];refine(ih (k-take,.slice (some ⟨g2,0,none⟩) (c++[x]).length c2,b1++e) w5 ⟨by dsimp only;omega,⟨aI,?_,fB⟩,?_,?_,rH⟩ (by dsimp only;omega)).qb
    ·rw[hY];have e1:(c++[y]).length=(c++[x]).length:=by simp
     rw[e1];exact fC
    ·dsimp only;rw[bR,List.append_assoc]
     congr 1
     rw[<-he,show n-(k-take)=(n-k)+take by omega,OC]
     congr 2
     rw[Nat.div_div_eq_div_mul,<-Nat.pow_add,show k-take+take=k by omega]
    ·have Aw:Kp (YB p (.slice (some ⟨g2,0,none⟩) (c++[x]).length c2)) w2 w5:=((hg.trans ae).kp.trans (av.Mc (λi e=> .inr (by rw[e];rfl)))).trans (ak.Mc (λi e=> .inl e));exact ao.LS Aw (λi hi=>(rH i hi).symm)
   case mC=>
    refine M8 O (λh0=>?_)$ λh0=>?_
    ·rw[if_pos (by omega)] at hL;refine M0 O$ Md O O$ MC O$ Ma UJ O$ qV (M1 Nc O O aj O)$ M5 O O (SA (cs:=[_]) (zs:=[Value.int .u8 0]) Nc TS O (by kernel_rfl) O O O (by decide)) ?_;rintro _ w2 ⟨b2,rfl,⟨bY,af,am⟩,cH⟩;refine M5 O O (pap Nc TS O (by decide) O O (dK.sl.ext af) cH.rd (by intro c hc;simp at hc;subst hc;rfl) (by rw[MF];omega) (by rw[MF];omega)) ?_;rintro bv3 w3 ⟨cE,au,gV,-⟩;have ar:=au.LY (af.LY aj) dK.ne;refine MC O$ Ma UJ O$ Mb O (NT TU O O (Tc cE) ar (by simp)) ?_;rintro w4 ⟨aH,av⟩;replace aH:M7 w4 p [bv3,I (b1.length:Int)] 286:=aH;refine LX ?_
     have eR:bv3.ownBlock≠some p:=λe=>by
      rcases gV p e with e| e
      ·exact dK.ne e
      ·have:=af.size;omega
     refine(mB _ _ ⟨rfl,bv3,aH,?_,eR,?_,?_⟩).qb
     ·rw[<-hL,List.length_append,List.map_append];exact cE.kp av (λg hg e=>eR (e▸hg))
     ·exact aK.LS ((af.kp.trans (au.Mc (λk e=> .inr e))).trans (av.Mc (λk e=> .inl e))) (λi hi=>(iI i hi).symm)
     ·intro i hi;rcases hi with e| e
      ·exact iI i (.inl e)
      ·rcases gV i e with e| e
       ·exact iI i (.inr e)
       ·have:=af.size;exact .inr (by omega)
    ·rw[if_neg (by omega)] at hL;refine py ?_;exact(mB _ _ ⟨rfl,bv1,aj,by rw[<-hL];exact dK.sl,dK.ne,aK,iI⟩).qb
  ·have:k=0:=by omega
   subst this;refine M6 O$ Nq Tryz.func163 O (⟨_,rfl,rfl,_,⟨bv1,?_,λ_=>Iff.rfl⟩,aK,iI⟩);rw[bR,Nat.sub_zero,Nat.pow_zero,Nat.div_one] at dK;exact dK
theorem z5S (v n:Nat)(hn:n<=64)(hv:v<2^n)(w:World):Mw Tryz.prog 162 [Mh v,I (n:Int)] w λu w'=>u= .bool true/\w'=w:=by
 refine It (e:=[(0,_),(1,_)]) Tryz.func162 O Tryz.ntmps162 O O$ qN O$ Me O$ qM O$ LW O$ PD O O$ LW O$ P4 (λh1=>?_)$ λh1=>?_
 ·refine qS$ qS$ qS$ qS$ NC O O$ M4 O$ LZ Tryz.func162 O ?_;exact⟨_,rfl,rfl,rfl⟩
 ·refine Md O O$ qV (Qy n (2^n) O O (by show n<=64;omega) O) ?_;rw[Nat.div_eq_of_lt hv];refine O3 O O$ MN O O$ M4 O$ LZ Tryz.func162 O ?_;exact⟨_,rfl,by simp[resVal],rfl⟩
theorem OP (h:UT w p bs F)(v n:Nat)(hn:n<=64)(hv:v<2^n)(hl:bs.length+n<=134217728):
  Mw Tryz.prog 123 [ptr p 0,Mh v,I (n:Int)] w λu w'=>u=I 0/\WrR p F w w' (bs++bitsN n v):=by
 obtain⟨bv,hM,hF⟩:=id h
 have hB:=hM.LY
 refine It (e:=[(0,_),(1,_),(2,_)]) Tryz.func123 O Tryz.ntmps123 O O$ qN O$ M4 O$ run_seq$ LU$ qN O$ LW O$ qV (N7 Zl O O)$ M4 O$ An O$ qN O$ LW O$ Ni O O$ LW O ?_
 refine P4 (λh1=>?_)$ λh1=>?_
 ·omega
 ·refine LW O$ Ng O O$ MN O O$ LW O$ P4 (λh2=>?_)$ λh2=>?_
  ·omega
  ·refine Md O O$ Mn zeC O (z5S v n hn hv w) ?_;rintro _ w ⟨rfl,rfl⟩;refine qV ((by first|exact MX O|exact Oy O)) ?_;refine MN O O$ M4 O$ An O$ qN O$ Md O O$ MC O$ Ma Td O$ qV (M1 U3 O O hB O)$ Oa O O$ Ng O O$ M4 O$ Mz.qb (e:=[(0,_),(1,_),(2,_),(6,_),(23,_)]) ?_;refine M8 O (λh3=>?_)$ λh3=>?_
   ·omega
   ·refine py$ LV$ qN O$ Md O O$ LW O$ Mn zcq O (z73 h v n hn hv (by omega)) ?_;rintro _ w1 ⟨rfl,hR⟩;refine qM O$ M4 O$ LZ Tryz.func123 O ?_;exact⟨_,rfl,rfl,hR⟩
theorem Tz (h:UT w p bs F):Mw Tryz.prog 124 [ptr p 0] w λu w'=>u= .tuple #[S (Ms bs),I 0]/\w'=w:=by
 obtain⟨bv,hM,hF⟩:=h
 have hB:=hM.LY
 have hS:=hM.sl
 refine It (e:=[(0,_)]) Tryz.func124 O Tryz.ntmps124 O O$ qN O$ Me O$ M4 O$ run_seq$ qN O$ LW O$ qV (N7 Zl O O)$ LX$ An O$ py$ qN O$ LW O$ MC O ?_
 refine Ma UJ O$ qV (M1 Nc O O hB O) ?_
 rcases hS.shape with⟨rfl,h0⟩|⟨g,cap,rfl,jA⟩
 ·have hn:Ms bs=[]:=List.eq_nil_of_length_eq_zero h0;rw[hn];refine qV (zdq Nc U5 U9 O)$ Me O$ M4 O$ LZ Tryz.func124 O ?_;exact⟨_,rfl,rfl,rfl⟩
 ·refine qV (zeu (l:=Ms bs) Nc U5 U9 O hS)$ Me O$ M4 O$ LZ Tryz.func124 O ?_;exact⟨_,rfl,rfl,rfl⟩
theorem RX (h:UT w p bs F):Mw Tryz.prog 127 [ptr p 0] w λu w'=>u=I (bs.length:Int)/\w'=w:=by
 obtain⟨bv,hM,hF⟩:=h
 have hB:=hM.LY
 refine It (e:=[(0,_)]) Tryz.func127 O Tryz.ntmps127 O O$ qN O$ M4 O$ run_seq$ qN O$ LW O$ qV (N7 Zl O O)$ LX$ An O$ py$ qN O$ LW O$ MC O$ Ma Td O ?_
 refine qV (M1 U3 O O hB O)$ M4 O$ LZ Tryz.func127 O ?_
 exact⟨_,rfl,rfl,rfl⟩
end
def Ql (w:World)(r:Nat)(s:Bytes)(a:Nat):Prop:=M7 w r [S s,I (a:Int)] 262/\a<=8*s.length/\s.length<=1000000000
section
variable {w:World}{r:Nat}{s:Bytes}{a:Nat}
theorem Tu (s:Bytes)(hs:s.length<=1000000000)(w:World):Mw Tryz.prog 144 [S s] w λv w'=>∃r,v=ptr r 0/\Ql w' r s 0/\Ext w w'/\w.heap.size<=r:=by
 refine It (e:=[(0,_)]) Tryz.func144 O Tryz.ntmps144 O O$ qN O$ Me O$ qM O$ LW O$ qV (OO (cs:=[_,_]) zdC O zct O O)$ M5 O O (O2 O O) ?_
 rintro _ w1 ⟨r,rfl,hr,hx,hB⟩
 refine M4 O$ LZ Tryz.func144 O ?_
 exact⟨_,rfl,r,rfl,⟨hB,Nat.zero_le _,hs⟩,hx,by omega⟩
theorem QH (h:Ql w r s a):Mw Tryz.prog 108 [ptr r 0] w λv w'=>v=I (a:Int)/\w'=w:=by
 obtain⟨hB,h1,h2⟩:=h
 refine It (e:=[(0,_)]) Tryz.func108 O Tryz.ntmps108 O O$ qN O$ M4 O$ run_seq$ qN O$ LW O$ qV (N7 Qe O O)$ LX$ An O$ py$ qN O$ LW O$ MC O$ Ma RE O ?_
 refine qV (M1 U3 O O hB O)$ M4 O$ LZ Tryz.func108 O ?_
 exact⟨_,rfl,rfl,rfl⟩
theorem z5C (h:Ql w r s a):Mw Tryz.prog 205 [ptr r 0] w λv w'=>v=I ((8*s.length-a:Nat):Int)/\Ext w w':=by
 obtain⟨hB,h1,h2⟩:=h
 refine It (e:=[(0,_)]) Tryz.func205 O Tryz.ntmps205 O O$ qN O$ M4 O$ run_seq$ qN O$ LW O$ qV (N7 Qe O O) ?_
 have hg:=Ext.Mm w
 refine LX$ An O$ py$ run_seq$ NV (λw'=>Ext w w') O$ Mj 0 O O (hg)$ M3 1 O (N4 O) hg$ M3 2 O (My ZM O) hg$ qT 3 O (λ_ h=>M1 U9 O O (h.LY hB) O) hg$ M3 4 O (Rr U9 O) hg$ M3 5 O (SB O O (by omega)) hg$ Mj 6 O O (hg)$ M3 7 O (N4 O) hg$ M3 8 O (My RE O) hg ?_
 refine qT 9 O (λ_ h=>M1 U3 O O (h.LY hB) O) hg$ M3 10 O (TO O O (by omega)) hg$ M3 11 O (NX O) hg$ qE$ LZ Tryz.func205 O (⟨_,rfl,?_,hg⟩)
 simp only[resVal]
 congr 1
 omega
theorem VN (h:Ql w r s a)(k:Nat)(hk:k<=8*s.length):Mw Tryz.prog 145 [ptr r 0,I (k:Int)] w λv w'=>v=I 0/\Ql w' r s k/\Kp (λi=>i=r) w w':=by
 obtain⟨hB,h1,h2⟩:=h
 refine It (e:=[(0,_),(1,_)]) Tryz.func145 O Tryz.ntmps145 O O$ qN O$ M4 O$ run_seq$ LU$ qN O$ LW O$ qV (N7 Qe O O)$ M4 O$ An O$ qN O$ LW O$ Ni O O$ LW O ?_
 refine P4 (λc1=>?_)$ λc1=>?_
 ·omega
 ·refine Md O O$ MC O$ Ma ZM O$ qV (M1 U9 O O hB O)$ qV (Rr U9 O)$ qV (SB O O (by omega))$ Ng O O$ MN O O$ M4 O$ M8 O (λc2=>?_)$ λc2=>?_
  ·omega
  ·refine py$ LV$ qN O$ Md O O$ MC O$ Ma RE O$ Mb O (NT MV O O O hB (by simp)) ?_;rintro w1 ⟨aj,aK⟩;refine qM O$ M4 O$ LZ Tryz.func145 O ?_;exact⟨_,rfl,rfl,⟨aj,hk,h2⟩,aK⟩
theorem z3l {b2 b6 V n:Nat}(h:Ql w r s a)(h2:M7 w b2 [ptr r 0] 158)(h6:M7 w b6 [Mh V] 41)(hn:1<=n)(rI:n<=8-a%8)(hl:a+n<=8*s.length)(hV:V*2^n+2^n<=18446744073709551616)(d1:b6≠r)(d2:b2≠r)(d3:b2≠b6):
  Mw Tryz.prog 206 [I (n:Int),ptr b2 0,ptr b6 0] w λu w'=>u= .tuple #[]/\Ql w' r s (a+n)/\M7 w' b6 [Mh (V*2^n+valB (((Ml s).drop a).take n))] 41/\M7 w' b2 [ptr r 0] 158/\Kp (λk=>k=b6\/k=r) w w':=by
 obtain⟨hB,ha,hs⟩:=h
 have jy:a&&&7=a%8:=Nat.and_two_pow_sub_one_eq_mod a 3
 obtain⟨c,hc⟩:∃c,s[a / 8]? =some c:=⟨_,List.getElem?_eq_getElem (by omega)⟩
 have hp:=z3e hc rI
 obtain⟨pc,jj⟩:∃pc,valB (((Ml s).drop a).take n)=pc:=⟨_,rfl⟩
 have eQ:pc<2^n:=by
  rw[<-jj];have h1:=NA (((Ml s).drop a).take n);rw[List.length_take,List.length_drop,bitsT_length,Nat.min_eq_left (by omega)] at h1;exact h1
 rw[jj] at hp⊢
 have KT:=c.toNat_lt
 obtain⟨rm,zf⟩:∃rm,8-a%8=rm:=⟨_,rfl⟩
 rw[zf] at hp rI
 have iO:c.toNat&&&(2^rm-1)=c.toNat%2^rm:=Nat.and_two_pow_sub_one_eq_mod _ _
 obtain⟨R,hR⟩:∃R,2^rm=R:=⟨_,rfl⟩
 have uf:1<=R/\R<=256:=by
  rw[<-hR];exact⟨Nat.two_pow_pos _,by have:=Nat.pow_le_pow_right (show 0<2 by decide) (show rm<=8 by omega);simpa using this⟩
 rw[hR] at hp iO
 have mj:c.toNat%R<=c.toNat:=Nat.mod_le _ _
 have GV:s.getD (a / 8) 0=c:=by rw[List.getD_eq_getElem?_getD,hc];rfl
 refine It (e:=[(0,_),(1,_),(2,_)]) Tryz.func206 O Tryz.ntmps206 O O$ qN O$ qV ((by first|exact M1 Qe O O hB O|exact M1 Qe O O h2 O)) ?_
 refine MC O$ Ma RE O$ qV ((by first|exact M1 U3 O O hB O|exact M1 U3 O O h2 O)) ?_
 refine qV (TX O O (by omega) (by omega)) ?_
 rw[jy]
 refine Oa O O ?_
 rw[show(8-((a%8:Nat):Int))=((rm:Nat):Int) by omega]
 have hg:=Ext.Mm w
 refine M4 O$ run_seq$ NV (λw'=>Ext w w') O$ qT 0 O (λ_ h=>(by first|exact M1 Qe O O (h.LY hB) O|exact M1 Qe O O (h.LY h2) O)) hg ?_
 refine M3 1 O (N4 O) hg$ M3 2 O (My ZM O) hg$ qT 3 O (λ_ h=>(by first|exact M1 U9 O O (h.LY hB) O|exact M1 U9 O O (h.LY h2) O)) hg ?_
 refine qT 4 O (λ_ h=>(by first|exact M1 Qe O O (h.LY hB) O|exact M1 Qe O O (h.LY h2) O)) hg ?_
 refine M3 5 O (N4 O) hg$ M3 6 O (My RE O) hg$ qT 7 O (λ_ h=>(by first|exact M1 U3 O O (h.LY hB) O|exact M1 U3 O O (h.LY h2) O)) hg ?_
 refine M3 8 O (Te O O (by omega)) hg$ Mj 11 O O (hg)$ Mj 15 O O (hg)$ Mj 16 O O (hg)$ M3 17 O (TO O O (by omega)) hg ?_
 rw[show((a:Int) / 8)=((a / 8:Nat):Int) by omega]
 refine M3 9 O (zbq U9 O O (by omega)) hg$ M3 10 O ((by first|exact z2n O U5 U3 (by decide)|exact MK O U5 U3 (by omega))) hg ?_
 rw[GV]
 refine M3 12 O (zgx rm R O O (by omega) hR (by omega)) hg ?_
 rw[show(1*(R:Int))=((R:Nat):Int) by omega]
 refine M3 13 O (TO O O (by omega)) hg ?_
 rw[show((R:Int)-1)=((R-1:Nat):Int) by omega]
 refine M3 14 O (TX O O (by omega) (by omega)) hg ?_
 rw[iO]
 rw[show((rm:Int)-(n:Int))=((rm-n:Nat):Int) by omega]
 refine M3 18 O (Qy (rm-n) (2^(rm-n)) O O (by show rm-n<=64;omega) O) hg ?_
 rw[<-hp]
 refine M3 19 O (NX O) hg$ qE$ Mz.qb (e:=[(0,_),(1,_),(2,_),(5,_)]) ?_
 refine qN O ?_
 have aj:=hg.LY hB
 have Fe:=hg.LY h2
 have zh:=hg.LY h6
 obtain⟨N,hN⟩:∃N,2^n=N:=⟨_,rfl⟩
 rw[hN] at hV eQ
 have KU:1<=N:=by rw[<-hN];exact Nat.two_pow_pos _
 obtain⟨M,hM⟩:∃M,V*N=M:=⟨_,rfl⟩
 rw[hM] at hV
 have mm:M |||pc=M+pc:=by
  have:=Nat.two_pow_add_eq_or_of_lt (i:=n) (b:=pc) (by rw[hN];exact eQ) V;rw[hN,Nat.mul_comm N V,hM] at this;exact this.symm
 rw[hN,hM]
 have rJ:n<=64:=by omega
 refine qV ((by first|exact M1 Nv O O aj O|exact M1 Nv O O Fe O|exact M1 Nv O O zh O)) ?_
 refine LW O$ qV (NW n N O O rJ hN) ?_
 rw[hM,Nat.mod_eq_of_lt (show M<18446744073709551616 by omega)]
 refine LW O$ qV ((by first|exact MQ O U3 Nv (by omega)|exact Ob O U3 Nv)) ?_
 refine qV (W3 O O (by omega) (by omega)) ?_
 rw[mm]
 refine Mb O (NT Rq O O O zh (by simp)) ?_
 rintro w2 ⟨Ax,ao⟩
 have am:=ao.LY aj (Ne.symm d1)
 have Ay:=ao.LY Fe d3
 refine LX$ M0 O$ qV ((by first|exact M1 Qe O O am O|exact M1 Qe O O Ay O|exact M1 Qe O O Ax O)) ?_
 refine MC O$ Ma RE O$ qV ((by first|exact M1 U3 O O am O|exact M1 U3 O O Ay O|exact M1 U3 O O Ax O)) ?_
 refine LW O$ MT O O$ MC O$ Ma RE O$ Mb O (NT MV O O O am (by simp)) ?_
 rintro w3 ⟨ar,au⟩
 rw[show((a:Int)+(n:Int))=((a+n:Nat):Int) by omega] at ar
 refine LX$ Nq Tryz.func206 O ?_
 exact⟨_,rfl,rfl,⟨ar,hl,hs⟩,au.LY Ax d1,au.LY Ay d2,(hg.kp.trans (ao.Mc (λk e=> .inl e))).trans (au.Mc (λk e=> .inr e))⟩
theorem RW (h:Ql w r s a)(n:Nat)(hn:n<=64):
  Mw Tryz.prog 167 [ptr r 0,I (n:Int)] w λv w'=>(a+n<=8*s.length/\v= .tuple #[Mh (valB (((Ml s).drop a).take n)),I 0]/\Ql w' r s (a+n)/\Kp (λk=>k=r) w w')\/(8*s.length<a+n/\v= .tuple #[Mh 0,I 4]/\Ext w w'):=by
 have gW:=h.1.lt
 obtain⟨-,ha,hs⟩:=id h
 refine It (e:=[(0,_),(1,_)]) Tryz.func167 O Tryz.ntmps167 O O$ qN O$ M5 O O (O2 O (cs:=[ptr r 0]) O) ?_
 rintro _ w1 ⟨b2,rfl,bY,ad,am⟩
 have h1:Ql w1 r s a:=⟨ad.LY h.1,h.2⟩
 refine Me O$ M4 O$ run_seq$ LU$ qN O$ qV (M1 Qe O O am O)$ qV (N7 Qe O O)$ M4 O$ An O$ qN O$ LW O$ Ni O O$ LW O$ P4 (λc1=>?_)$ λc1=>?_
 ·omega
 ·refine LW O$ Ng O O$ MN O O$ M4 O$ M8 O (λc2=>?_)$ λc2=>?_
  ·omega
  ·refine qN O$ LW O$ qV (M1 Qe O O am O)$ Mn zer O (z5C h1) ?_;rintro _ w2 ⟨rfl,af⟩;refine Ng O O$ M4 O$ M8 O (λc3=>?_)$ λc3=>?_
   ·refine qN O$ Me O$ M4 O$ LZ Tryz.func167 O ?_;exact⟨_,rfl,.inr ⟨by omega,rfl,ad.trans af⟩⟩
   ·refine py$ LV$ qN O$ M5 O O (Oo (cs:=[_]) Rq O) ?_;rintro _ w3 ⟨b6,rfl,mn,ai,aS⟩;replace aS:M7 w3 b6 [Mh 0] 41:=aS;have aN:=af.trans ai;have db:=ad.trans aN;have mh:=ad.size;have mq:=af.size;have gF:=am.lt;have bP:a+n<=8*s.length:=by omega
    refine qM O$ qV (Zm (first:=[]) (caps:=[.tmp 2,.tmp 6]) O O)$ M4 O$ run_seq$ LU$ Oh (α:=Nat) (n) (λk=>[(1,I (k:Int)),(2,ptr b2 0),(6,ptr b6 0),(7,.func (.func 206) #[] #[ptr b2 0,ptr b6 0])]) (λk w'=>k<=n/\Ql w' r s (a+(n-k))/\M7 w' b6 [Mh (valB (((Ml s).drop a).take (n-k)))] 41/\M7 w' b2 [ptr r 0] 158/\Kp (λi=>i=r) w w') (λk=>k) ?hI ?hround
    case hI=>exact⟨Nat.le_refl _,⟨by rw[Nat.sub_self];exact db.LY h.1,by omega,hs⟩,by rw[Nat.sub_self];exact aS,aN.LY am,db.kp⟩
    case hround=>
     rintro k w4 ⟨hk,fD,rK,Az,av⟩ ih;have AA:=fD.1
     try dsimp only
     refine run_seq$ qN O$ LW O$ Ng O O$ LX$ M8 O (λaP=>?_)$ λaP=>?_
     ·obtain⟨p,hp⟩:∃p,a+(n-k)=p:=⟨_,rfl⟩;rw[hp] at AA fD;have jy:p&&&7=p%8:=Nat.and_two_pow_sub_one_eq_mod p 3;obtain⟨take,jz⟩:∃take,min k (8-p%8)=take:=⟨_,rfl⟩;have rG:1<=take/\take<=k/\take<=8-p%8:=by omega
      refine py$ LU$ qN O$ LW O$ qV ((by first|exact M1 Qe O O Az O|exact M1 Qe O O AA O)) ?_;refine MC O$ Ma RE O$ qV ((by first|exact M1 U3 O O Az O|exact M1 U3 O O AA O)) ?_;refine qV (TX O O (by omega) (by omega)) ?_;rw[jy];refine Oa O O$ qV (ymi O O) ?_;rw[show min (k:Int) (8-((p%8:Nat):Int))=((take:Nat):Int) by omega];obtain⟨V,hV⟩:∃V,valB (((Ml s).drop a).take (n-k))=V:=⟨_,rfl⟩;rw[hV] at rK
      have Ff:V*2^take+2^take<=18446744073709551616:=by
       have h1:=NA (((Ml s).drop a).take (n-k));rw[hV,List.length_take,List.length_drop,bitsT_length,Nat.min_eq_left (by omega)] at h1;have h2:(V+1)*2^take<=2^(n-k)*2^take:=Nat.mul_le_mul_right _ h1;rw[<-Nat.pow_add,Nat.add_mul,Nat.one_mul] at h2;have h3:=Nat.pow_le_pow_right (show 0<2 by decide) (show n-k+take<=64 by omega);have h4:(2:Nat)^64=18446744073709551616:=by decide
       omega
      refine Me O$ qM O$ Md O O$ Ny O O (OK zei O O) (z3l fD Az rK rG.1 rG.2.2 (by omega) Ff (by omega) (by omega) (by omega)) ?_;rintro _ w5 ⟨rfl,rL,GW,GX,ak⟩;refine LX$ M0 O$ Md O O$ Oa O O$ M4 O$ LV ?_;rw[show((k:Int)-(take:Int))=((k-take:Nat):Int) by omega];refine(ih (k-take) w5 ⟨by omega,?_,?_,GX,?_⟩ (by omega)).qb
      ·rw[show a+(n-(k-take))=p+take by omega];exact rL
      ·rw[show n-(k-take)=(n-k)+take by omega,List.take_add,Oz,hV,List.drop_drop,hp];have hl:(((Ml s).drop p).take take).length=take:=by rw[List.length_take,List.length_drop,bitsT_length];omega
       rw[hl];exact GW
      ·exact av.LS ak (λi hi=>hi.elim (λe=> .inl (by omega)) .inr)
     ·have:k=0:=by omega
      subst this;rw[Nat.sub_zero] at fD rK;refine M6 O$ qN O$ qV (M1 Nv O O rK O)$ Me O$ M4 O$ LZ Tryz.func167 O ?_;exact⟨_,rfl,.inl ⟨bP,rfl,fD,av⟩⟩
end
def MR (v:Nat):Nat:=if v=0 then 0 else Nat.log2 v+1
theorem Tl {v:Nat}:v<2^MR v:=by
 unfold MR
 split
 ·subst_vars;simp
 ·exact Nat.lt_log2_self
theorem X5 {v:Nat}(h:v≠0):2^(MR v-1)<=v:=by
 unfold MR
 rw[if_neg h,Nat.add_sub_cancel]
 exact Nat.log2_self_le h
theorem z4l {v n:Nat}(h1:2^n<=v)(h2:v<2^(n+1)):MR v=n+1:=by
 have hp:=Nat.two_pow_pos n
 have h0:v≠0:=by omega
 unfold MR
 rw[if_neg h0]
 have:=(Nat.log2_eq_iff h0).2 ⟨h1,h2⟩
 omega
theorem NR {v n:Nat}(h:v<2^n):MR v<=n:=by
 by_cases h0:v=0
 ·subst h0;simp[MR]
 ·have h1:=X5 h0;have h2:2^(MR v-1)<2^n:=by omega
  have h3:=(Nat.pow_lt_pow_iff_right (by decide:1<2)).1 h2;have:MR v≠0:=by unfold MR;rw[if_neg h0];omega
  omega
def Of (v K:Nat):Nat×Nat:=
 let s:=MR (K-1)
 let m:=2^s-K
 if v<m then(v,s-1) else(v+m,s)
def Nu (v K:Nat):List Bool:=bitsN (Of v K).2 (Of v K).1
theorem RK {K:Nat}(hK:1<=K):K<=2^MR (K-1)/\(1<K->1<=MR (K-1)/\2^(MR (K-1)-1)+1<=K):=by
 have h1:=Tl (v:=K-1)
 refine⟨by omega,λh=>?_⟩
 have h2:=X5 (v:=K-1) (by omega)
 refine⟨?_,by omega⟩
 unfold MR
 rw[if_neg (by omega)];omega
theorem z6j {v K:Nat}(h:v<K):(Of v K).1<2^(Of v K).2:=by
 obtain⟨h1,h2⟩:=RK (K:=K) (by omega)
 unfold Of
 dsimp only
 split
 ·rename_i hm
  by_cases hK:K=1
  ·subst hK;simp[MR] at hm
  ·obtain⟨h3,h4⟩:=h2 (by omega);have:2^MR (K-1)=2*2^(MR (K-1)-1):=by rw[<-Nat.pow_succ',show(MR (K-1)-1).succ=MR (K-1) by omega]
   dsimp only;omega
 ·dsimp only;omega
theorem z3j {v K:Nat}(h:v<K)(hK:1<K)(rest:List Bool):
  let s:=MR (K-1)
  let m:=2^s-K
  1<=s/\s-1<=(Nu v K).length/\
  ((valB ((Nu v K).take (s-1))<m/\(Nu v K).length=s-1/\valB ((Nu v K).take (s-1))=v)\/
   (m<=valB ((Nu v K).take (s-1))/\(Nu v K).length=s/\2*valB ((Nu v K).take (s-1))+valB ((Nu v K).drop (s-1))=v+m)):=by
 obtain⟨h1,h2⟩:=RK (K:=K) (by omega)
 obtain⟨h3,h4⟩:=h2 hK
 have h5:2^MR (K-1)=2*2^(MR (K-1)-1):=by rw[<-Nat.pow_succ',show(MR (K-1)-1).succ=MR (K-1) by omega]
 dsimp only
 unfold Nu Of
 dsimp only
 refine⟨h3,?_⟩
 split
 ·rename_i hm
  dsimp only;rw[bitsN_length,List.take_of_length_le (by simp),MW,Nat.mod_eq_of_lt (by omega)];exact⟨Nat.le_refl _,.inl ⟨hm,rfl,rfl⟩⟩
 ·rename_i hm
  dsimp only;rw[bitsN_length]
  have e:bitsN (MR (K-1)) (v+(2^MR (K-1)-K))=bitsN (MR (K-1)-1) ((v+(2^MR (K-1)-K)) / 2^1)++bitsN 1 (v+(2^MR (K-1)-K)):=by
   rw[<-OC,show MR (K-1)-1+1=MR (K-1) by omega]
  rw[e,List.take_left' (by simp),List.drop_left' (by simp),MW,MW,Nat.mod_eq_of_lt (by omega)];exact⟨by omega,.inr ⟨by omega,rfl,by omega⟩⟩
inductive Cd where
 |unary
 |gamma
 |zeta (k:Nat)
def Cd.zeros:Cd->Nat->Nat
 | .unary,v=>v
 | .gamma,v=>Nat.log2 (v+1)
 | .zeta k,v=>Nat.log2 (v+1) / k
def Cd.rest:Cd->Nat->List Bool
 | .unary,_=>[]
 | .gamma,v=>bitsN (Nat.log2 (v+1)) (v+1-2^Nat.log2 (v+1))
 | .zeta k,v=>let h:=Nat.log2 (v+1) / k;Nu (v+1-2^(h*k)) (2^(h*k)*2^k-2^(h*k))
def Cd.enc (c:Cd)(v:Nat):List Bool:=List.replicate (c.zeros v) false++true::c.rest v
theorem Sm {v:Nat}(h:v<=281474976710654):2^Nat.log2 (v+1)<=v+1/\v+1<2^(Nat.log2 (v+1)+1)/\Nat.log2 (v+1)<=47:=by
 have h1:=Nat.log2_self_le (n:=v+1) (by omega)
 have h2:=Nat.lt_log2_self (n:=v+1)
 refine⟨h1,h2,?_⟩
 have h3:2^Nat.log2 (v+1)<2^48:=by
  have:(2:Nat)^48=281474976710656:=by decide
  omega
 have:=(Nat.pow_lt_pow_iff_right (by decide:1<2)).1 h3
 omega
theorem U8 {k v:Nat}(hk:1<=k):let h:=Nat.log2 (v+1) / k;2^(h*k)<=v+1/\v+1-2^(h*k)<2^(h*k)*2^k-2^(h*k)/\1<=2^(h*k)*2^k-2^(h*k):=by
 dsimp only
 have h1:=Nat.log2_self_le (n:=v+1) (by omega)
 have h2:=Nat.lt_log2_self (n:=v+1)
 have h3:Nat.log2 (v+1) / k*k<=Nat.log2 (v+1):=Nat.div_mul_le_self _ _
 have h4:Nat.log2 (v+1)+1<=Nat.log2 (v+1) / k*k+k:=by
  have:=Nat.div_add_mod (Nat.log2 (v+1)) k;have:=Nat.mod_lt (Nat.log2 (v+1)) (show 0<k by omega);have e:=Nat.mul_comm k (Nat.log2 (v+1) / k);omega
 have h5:2^(Nat.log2 (v+1) / k*k)<=2^Nat.log2 (v+1):=Nat.pow_le_pow_right (by decide) h3
 have h6:2^(Nat.log2 (v+1)+1)<=2^(Nat.log2 (v+1) / k*k+k):=Nat.pow_le_pow_right (by decide) h4
 rw[Nat.pow_add 2 (Nat.log2 (v+1) / k*k) k] at h6
 have h7:2<=2^k:=by
  have:=Nat.pow_le_pow_right (show 0<2 by decide) hk
  simpa using this
 have h8:2^(Nat.log2 (v+1) / k*k)*2<=2^(Nat.log2 (v+1) / k*k)*2^k:=Nat.mul_le_mul_left _ h7
 have h9:=Nat.two_pow_pos (Nat.log2 (v+1) / k*k)
 omega
theorem Un {x k:Nat}(h:2^k<=x):MR x=MR (x / 2^k)+k:=by
 have hk:=Nat.two_pow_pos k
 have hy:x / 2^k≠0:=by have:=Nat.div_pos h hk;omega
 have h1:=X5 hy
 have h2:=Tl (v:=x / 2^k)
 have h0:MR (x / 2^k)≠0:=by unfold MR;rw[if_neg hy];omega
 obtain⟨n,hn⟩:∃n,MR (x / 2^k)=n+1:=⟨MR (x / 2^k)-1,by omega⟩
 rw[hn] at h1 h2⊢
 rw[Nat.add_sub_cancel] at h1
 have h3:2^(n+k)<=x:=by
  rw[Nat.pow_add];exact Nat.le_trans (Nat.mul_le_mul_right _ h1) (Nat.div_mul_le_self _ _)
 have h4:x<2^(n+k+1):=by
  rw[show n+k+1=(n+1)+k by omega,Nat.pow_add];exact(Nat.div_lt_iff_lt_mul hk).1 h2
 rw[z4l h3 h4];omega
def zbH:Bytes:=[0,1,2,2,3,3,3,3,4,4,4,4,4,4,4,4,5,5,5,5,5,5,5,5,5,5,5,5,5,5,5,5,6,6,6,6,6,6,6,6,6,6,6,6,6,6,6,6,6,6,6,6,6,6,6,6,6,6,6,6,6,6,6,6,7,7,7,7,7,7,7,7,7,7,7,7,7,7,7,7,7,7,7,7,7,7,7,7,7,7,7,7,7,7,7,7,7,7,7,7,7,7,7,7,7,7,7,7,7,7,7,7,7,7,7,7,7,7,7,7,7,7,7,7,7,7,7,7,8,8,8,8,8,8,8,8,8,8,8,8,8,8,8,8,8,8,8,8,8,8,8,8,8,8,8,8,8,8,8,8,8,8,8,8,8,8,8,8,8,8,8,8,8,8,8,8,8,8,8,8,8,8,8,8,8,8,8,8,8,8,8,8,8,8,8,8,8,8,8,8,8,8,8,8,8,8,8,8,8,8,8,8,8,8,8,8,8,8,8,8,8,8,8,8,8,8,8,8,8,8,8,8,8,8,8,8,8,8,8,8,8,8,8,8,8,8,8,8,8,8,8,8,8,8,8,8]
theorem z83:zbH.length=256:=by decide+kernel
theorem zgm:∀x:Fin 256,(zbH.getD x.val 0).toNat=MR x.val:=by decide+kernel
section
variable {w:World}
theorem QP (x:Nat)(hx:x<18446744073709551616)(w:World):Mw Tryz.prog 164 [Mh x] w λv w'=>v=I (MR x:Int)/\w'=w:=by
 refine It (e:=[(0,_)]) Tryz.func164 O Tryz.ntmps164 O O$ qN O$ M4 O$ run_seq$ qN O$ LW O$ PD O O$ LX$ MM (λe' w'=>w=w'/\∃x1 n1:Nat,e'=[(0,Mh x1),(2,I (n1:Int))]/\MR x=MR x1+n1/\x1<4294967296/\n1<=32) ?cA$ λcA=>?cS
 case cA=>
  rintro e' w' ⟨rfl,x1,n1,rfl,h1,h2,h3⟩;refine run_seq$ qN O$ LW O$ PD O O$ LX$ MM (λe' w'=>w=w'/\∃x2 n2:Nat,e'=[(0,Mh x2),(2,I (n2:Int))]/\MR x=MR x2+n2/\x2<65536/\n2<=48) ?dO$ λdO=>?eS
  case dO=>
   rintro e' w' ⟨rfl,x2,n2,rfl,h4,h5,h6⟩;refine run_seq$ qN O$ LW O$ PD O O$ LX$ MM (λe' w'=>w=w'/\∃x3 n3:Nat,e'=[(0,Mh x3),(2,I (n3:Int))]/\MR x=MR x3+n3/\x3<256/\n3<=56) ?ax$ λax=>?dx
   case ax=>
    rintro e' w' ⟨rfl,x3,n3,rfl,h7,h8,h9⟩;have eI:=zgm ⟨x3,h8⟩;dsimp only at eI;have oQ:MR x3<=8:=NR (by omega);refine qN O$ Md O O$ qV (z0L O Nv U5) ?_;rw[Nat.mod_eq_of_lt h8];refine qV (zbq (l:=zbH) U9 O O (by rw[z83];exact h8)) ?_;rw[eI];refine qV ((by first|exact z2n O U5 U3 (by decide)|exact MK O U5 U3 (by omega))) ?_;refine MT O O$ M4 O$ LZ Tryz.func164 O ?_;exact⟨_,rfl,by simp only[resVal];congr 1;omega,rfl⟩
   case dx=>
    refine M8 O (λhc=>?_)$ λhc=>?_
    ·refine qN O$ LW O$ qV (Qy 8 256 O O (by decide) O)$ M4 O$ M0 O$ LW O$ MT O O$ M4 O ((ax _ _ ⟨rfl,x2 / 256,n2+8,rfl,?_,?_,?_⟩).qb)
     ·have e1:=Un (x:=x2) (k:=8) (by omega);rw[show x2 / 2^8=x2 / 256 from rfl] at e1;omega
     ·omega
     ·omega
    ·refine py ?_;exact(ax _ _ ⟨rfl,x2,n2,rfl,h4,by omega,by omega⟩).qb
  case eS=>
   refine M8 O (λhc=>?_)$ λhc=>?_
   ·refine qN O$ LW O$ qV (Qy 16 65536 O O (by decide) O)$ M4 O$ M0 O$ LW O$ MT O O$ M4 O ((dO _ _ ⟨rfl,x1 / 65536,n1+16,rfl,?_,?_,?_⟩).qb)
    ·have e1:=Un (x:=x1) (k:=16) (by omega);rw[show x1 / 2^16=x1 / 65536 from rfl] at e1;omega
    ·omega
    ·omega
   ·refine py ?_;exact(dO _ _ ⟨rfl,x1,n1,rfl,h1,by omega,by omega⟩).qb
 case cS=>
  refine M8 O (λhc=>?_)$ λhc=>?_
  ·refine qN O$ LW O$ qV (Qy 32 4294967296 O O (by decide) O)$ M4 O$ M0 O$ M4 O ((cA _ _ ⟨rfl,x / 4294967296,32,rfl,?_,?_,?_⟩).qb)
   ·exact Un (x:=x) (k:=32) (by omega)
   ·omega
   ·omega
  ·refine py ?_;exact(cA _ _ ⟨rfl,x,0,rfl,by omega,by omega,by omega⟩).qb
/-! ### Codes -/
def OZ:Cd->List Value
 | .unary=>[.int .u8 0,Mh 0]
 | .gamma=>[.int .u8 1,Mh 0]
 | .zeta k=>[.int .u8 3,Mh k]
abbrev ZR (c:Cd):Value:= .agg (OZ c).toArray
def Cd.Nj:Cd->Prop
 | .zeta k=>1<=k/\k<=16
 |_=>True
def Cd.most:Cd->Nat
 | .unary=>65535
 |_=>281474976710654
def Cd.p0:Cd->Nat->Nat×Nat
 | .unary,_=>(0,0)
 | .gamma,v=>(v+1-2^Nat.log2 (v+1),Nat.log2 (v+1))
 | .zeta k,v=>let h:=Nat.log2 (v+1) / k;Of (v+1-2^(h*k)) (2^(h*k)*2^k-2^(h*k))
theorem Rb (c:Cd)(hc:c.Nj)(w:World):Mw Tryz.prog 183 [ZR c] w λv w'=>v=I 0/\Ext w w':=by
 cases c with
 | unary =>
   refine It (e:=[(0,_)]) Tryz.func183 O Tryz.ntmps183 O O$ qN O$ M5 O O (O2 O (cs:=[.int .u8 0,Mh 0]) O) ?_;rintro _ w1 ⟨b1,rfl,bR,ad,aj⟩;refine Me O$ qM O$ M4 O$ run_seq$ qN O$ Ma OM O$ qV (M1 U5 O O aj O)$ LX$ LU$ run_seq$ qN O$ O3 O O$ O4$ M4 O ?_;refine M9 O$ py$ M9 O$ M0 O$ Ma T7 O$ qV (M1 Nv O O aj O)$ O3 O O$ O4$ M4 O$ LV$ run_seq$ qN O$ LW O$ qV ((by first|exact MX O|exact Oy O)) ?_;refine LX$ An O$ py$ qN O$ M4 O$ LZ Tryz.func183 O ?_
   exact⟨_,rfl,rfl,ad⟩
 | gamma =>
   refine It (e:=[(0,_)]) Tryz.func183 O Tryz.ntmps183 O O$ qN O$ M5 O O (O2 O (cs:=[.int .u8 1,Mh 0]) O) ?_;rintro _ w1 ⟨b1,rfl,bR,ad,aj⟩;refine Me O$ qM O$ M4 O$ run_seq$ qN O$ Ma OM O$ qV (M1 U5 O O aj O)$ LX$ LU$ run_seq$ qN O$ O3 O O$ ML$ M4 O ?_;refine An O$ qN O$ O3 O O$ O4$ M4 O$ M9 O$ py$ M9 O$ M0 O$ Ma T7 O$ qV (M1 Nv O O aj O)$ O3 O O$ O4$ M4 O ?_;refine LV$ run_seq$ qN O$ LW O$ qV ((by first|exact MX O|exact Oy O)) ?_;refine LX$ An O$ py$ qN O$ M4 O$ LZ Tryz.func183 O ?_
   exact⟨_,rfl,rfl,ad⟩
 | zeta k =>
   obtain⟨aK,ao⟩:1<=k/\k<=16:=hc;refine It (e:=[(0,_)]) Tryz.func183 O Tryz.ntmps183 O O$ qN O$ M5 O O (O2 O (cs:=[.int .u8 3,Mh k]) O) ?_;rintro _ w1 ⟨b1,rfl,bR,ad,aj⟩;refine Me O$ qM O$ M4 O$ run_seq$ qN O$ Ma OM O$ qV (M1 U5 O O aj O)$ LX$ LU$ run_seq$ qN O$ O3 O O$ ML$ M4 O ?_;refine An O$ qN O$ O3 O O$ ML$ M4 O$ An O$ M0 O$ O3 O O$ ML$ M4 O$ An O$ qN O$ O3 O O$ O4 ?_;refine M4 O$ M9 O$ M0 O$ Ma T7 O$ qV (M1 Nv O O aj O)$ PD O O$ O4$ LW O$ Ma T7 O$ qV (M1 Nv O O aj O)$ zle O O$ O4$ NC O O$ M4 O ?_;refine LV$ run_seq$ qN O$ LW O$ qV ((by first|exact MX O|exact Oy O)) ?_;refine LX$ An O$ py$ qN O$ M4 O$ LZ Tryz.func183 O ?_;exact⟨_,rfl,rfl,ad⟩
theorem YX (c:Cd)(hc:c.Nj)(w:World):Mw Tryz.prog 186 [ZR c] w λv w'=>v=Mh c.most/\Ext w w':=by
 cases c with
 | unary =>
   refine It (e:=[(0,_)]) Tryz.func186 O Tryz.ntmps186 O O$ qN O$ M5 O O (O2 O (cs:=[.int .u8 0,Mh 0]) O) ?_;rintro _ w1 ⟨b1,rfl,bR,ad,aj⟩;refine M4 O$ run_seq$ LU$ qN O$ qV (Mv (news:=[.int .u8 0,Mh 0]) OV O ND O (aj.cells (n:=2) O) O)$ Mn z1G O (Rb (.unary) hc w1) ?_;rintro _ w2 ⟨rfl,af⟩;have am:=af.LY aj;refine N9 O O$ ML$ M4 O$ An O$ qN O$ Ma OM O$ qV (M1 U5 O O am O)$ O3 O O$ O4$ M4 O$ M9 O$ qN O$ M4 O$ LZ Tryz.func186 O ?_
   exact⟨_,rfl,rfl,ad.trans af⟩
 | gamma =>
   refine It (e:=[(0,_)]) Tryz.func186 O Tryz.ntmps186 O O$ qN O$ M5 O O (O2 O (cs:=[.int .u8 1,Mh 0]) O) ?_;rintro _ w1 ⟨b1,rfl,bR,ad,aj⟩;refine M4 O$ run_seq$ LU$ qN O$ qV (Mv (news:=[.int .u8 1,Mh 0]) OV O ND O (aj.cells (n:=2) O) O)$ Mn z1G O (Rb (.gamma) hc w1) ?_;rintro _ w2 ⟨rfl,af⟩;have am:=af.LY aj;refine N9 O O$ ML$ M4 O$ An O$ qN O$ Ma OM O$ qV (M1 U5 O O am O)$ O3 O O$ ML$ M4 O$ An O$ qN O$ Ma OM O$ qV (M1 U5 O O am O) ?_;refine O3 O O$ ML$ M4 O$ An O$ py$ LV$ qN O$ M4 O$ LZ Tryz.func186 O ?_
   exact⟨_,rfl,rfl,ad.trans af⟩
 | zeta k =>
   refine It (e:=[(0,_)]) Tryz.func186 O Tryz.ntmps186 O O$ qN O$ M5 O O (O2 O (cs:=[.int .u8 3,Mh k]) O) ?_;rintro _ w1 ⟨b1,rfl,bR,ad,aj⟩;refine M4 O$ run_seq$ LU$ qN O$ qV (Mv (news:=[.int .u8 3,Mh k]) OV O ND O (aj.cells (n:=2) O) O)$ Mn z1G O (Rb (.zeta k) hc w1) ?_;rintro _ w2 ⟨rfl,af⟩;have am:=af.LY aj;refine N9 O O$ ML$ M4 O$ An O$ qN O$ Ma OM O$ qV (M1 U5 O O am O)$ O3 O O$ ML$ M4 O$ An O$ qN O$ Ma OM O$ qV (M1 U5 O O am O) ?_;refine O3 O O$ ML$ M4 O$ An O$ py$ LV$ qN O$ M4 O$ LZ Tryz.func186 O ?_;exact⟨_,rfl,rfl,ad.trans af⟩
theorem z8f (c:Cd)(v:Nat)(hc:c.Nj)(hv:v<=c.most)(w:World):Mw Tryz.prog 232 [ZR c,Mh v] w λu w'=>u= .bool true/\Ext w w':=by
 obtain⟨x,y,dt⟩:∃x y,OZ c=[x,y]:=by cases c<;>exact⟨_,_,rfl⟩
 refine It (e:=[(0,_),(1,_)]) Tryz.func232 O Tryz.ntmps232 O O$ qN O$ M5 O O (O2 O (cs:=OZ c) O) ?_
 rintro _ w1 ⟨b1,rfl,bR,ad,aj⟩
 refine Me O$ qM O$ qV (Mv (news:=OZ c) OV O ND O (aj.cells (n:=2) (by rw[dt];rfl)) (by rw[dt];rfl)) ?_
 refine Mn z1G O (Rb c hc w1) ?_
 rintro _ w2 ⟨rfl,af⟩
 have am:=af.LY aj
 refine O3 O O$ O4$ Md O O$ qV (Mv (news:=OZ c) OV O ND O (am.cells (n:=2) (by rw[dt];rfl)) (by rw[dt];rfl)) ?_
 refine Mn z9V O (YX c hc w2) ?_
 rintro _ w3 ⟨rfl,ai⟩
 refine zle O O$ O4$ NC O O$ M4 O$ LZ Tryz.func232 O ?_
 exact⟨_,rfl,rfl,(ad.trans af).trans ai⟩
end
section
theorem z2Q (v K:Nat)(hK:1<=K)(hv:v<K)(rM:K<=9223372036854775808)(w:World):Mw Tryz.prog 240 [Mh v,Mh K] w λu w'=>u= .agg #[Mh (Of v K).1,I ((Of v K).2:Int)]/\Ext w w':=by
 obtain⟨s,hs⟩:∃s,MR (K-1)=s:=⟨_,rfl⟩
 have hf:=RK hK
 rw[hs] at hf
 obtain⟨h1,h2⟩:=hf
 have e63:(2:Nat)^63=9223372036854775808:=by decide
 have AB:s<=63:=by rw[<-hs];exact NR (by omega)
 obtain⟨Q,hQ⟩:∃Q,2^s=Q:=⟨_,rfl⟩
 have AC:Q<=9223372036854775808:=by
  have:=Nat.pow_le_pow_right (show 0<2 by decide) AB;omega
 rw[hQ] at h1
 have hP:Of v K=if v<Q-K then(v,s-1) else(v+(Q-K),s):=by unfold Of;rw[hs];dsimp only;rw[hQ]
 refine It (e:=[(0,_),(1,_)]) Tryz.func240 O Tryz.ntmps240 O O$ qN O$ M5 O O (Oo (cs:=[_,_]) Pt O) ?_
 rintro _ w1 ⟨b4,rfl,f9,ad,aH⟩
 refine qM O$ LW O$ qV (SC (n:=1) O O O (by show K<2^64;omega) hK) ?_
 refine Mn YN O (QP (K-1) (by omega) w1) ?_
 rintro _ w1 ⟨rfl,rfl⟩
 rw[hs]
 refine M4 O$ run_seq$ qN O$ LW O$ qV (NW s Q O O (by omega) hQ) ?_
 rw[show 1*Q%18446744073709551616=Q by omega]
 refine LW O$ qV (SC O O O (by show Q<2^64;omega) h1) ?_
 refine Me O$ qM O$ Md O O$ PD O O$ LX$ M8 O (λjB=>?_)$ λjB=>?_
 ·rw[if_neg (by omega)] at hP;rw[hP];refine qN O$ Md O O$ qV (RD O O) ?_;rw[Nat.mod_eq_of_lt (show v+(Q-K)<18446744073709551616 by omega)];refine LW O$ qV (OO (cs:=[_,_]) Pt O z81 O O)$ Mb O (MO (news:=[Mh (v+(Q-K)),I (s:Int)]) Pt O O O O aH (by simp)) ?_;rintro w2 ⟨am,ao⟩;replace am:M7 w2 b4 [Mh (v+(Q-K)),I (s:Int)] 353:=am;refine LX$ Mt Tryz.func240 (.cell z6L O Pt O (M7.cells (n:=2) am (news:=[_,_]) O) O .nil) ?_;exact⟨_,rfl,rfl,ad.LS ao (λi hi=>by omega)⟩
 ·rw[if_pos (by omega)] at hP;rw[hP]
  have rN:K≠1:=λe=>by
   have e0:s=0:=by rw[<-hs,e];rfl
   have e1:Q=1:=by rw[<-hQ,e0]
   omega
  have dW:1<=s:=(h2 (by omega)).1;refine py$ qN O$ Md O O$ Oa O O ?_;rw[show((s:Int)-1)=((s-1:Nat):Int) by omega];refine qV (OO (cs:=[_,_]) Pt O z81 O O)$ Mb O (MO (news:=[Mh v,I ((s-1:Nat):Int)]) Pt O O O O aH (by simp)) ?_;rintro w2 ⟨am,ao⟩;replace am:M7 w2 b4 [Mh v,I ((s-1:Nat):Int)] 353:=am;refine LX$ Mt Tryz.func240 (.cell z6L O Pt O (M7.cells (n:=2) am (news:=[_,_]) O) O .nil) ?_;exact⟨_,rfl,rfl,ad.LS ao (λi hi=>by omega)⟩
theorem z5V (n:Nat)(h:n≠0):MR n-1=Nat.log2 n/\1<=MR n:=by
 unfold MR;rw[if_neg h];exact⟨rfl,by omega⟩
theorem Xi (c:Cd)(v:Nat)(hc:c.Nj)(hv:v<=281474976710654)(w:World):Mw Tryz.prog 233 [ZR c,Mh v] w λu w'=>u= .tuple #[I (c.zeros v:Int),.agg #[Mh (c.p0 v).1,I ((c.p0 v).2:Int),Mh 0,I 0]]/\Ext w w':=by
 obtain⟨l1,l2⟩:=z5V (v+1) (by omega)
 obtain⟨g1,g2,g3⟩:=Sm hv
 obtain⟨b,hb⟩:∃b,Nat.log2 (v+1)=b:=⟨_,rfl⟩
 rw[hb] at l1 g1 g2 g3
 obtain⟨Q,hQ⟩:∃Q,2^b=Q:=⟨_,rfl⟩
 rw[hQ] at g1
 have AD:Q<=281474976710656:=by omega
 obtain⟨x,y,dt⟩:∃x y,OZ c=[x,y]:=by cases c<;>exact⟨_,_,rfl⟩
 refine It (e:=[(0,_),(1,_)]) Tryz.func233 O Tryz.ntmps233 O O$ qN O$ M5 O O (O2 O (cs:=OZ c) O) ?_
 rintro _ w1 ⟨b2,rfl,bY,ad,am⟩
 refine Me O$ M5 O O (Oo (cs:=[_,_,_,_]) Rh O) ?_
 rintro _ w2 ⟨b5,rfl,fE,af,aI⟩
 replace aI:M7 w2 b5 [Mh 0,I 0,Mh 0,I 0] 354:=aI
 refine qM O$ LW O$ qV (RD O O) ?_
 rw[show(v+1)%18446744073709551616=v+1 by omega]
 refine Me O$ qM O$ LW O$ Mn YN O (QP (v+1) (by omega) w2) ?_
 rintro _ w2 ⟨rfl,rfl⟩
 refine Oa O O ?_
 rw[show((MR (v+1):Int)-1)=((b:Nat):Int) by omega]
 refine Me O$ qM O$ Md O O$ qV (NW b Q O O (by omega) hQ) ?_
 rw[show 1*Q%18446744073709551616=Q by omega]
 refine qV (SC O O O (by show v+1<2^64;omega) g1) ?_
 refine LW O$ qV (OO (cs:=[_,_]) Pt O z81 O O)$ M5 O O (Oo (cs:=[_,_]) Pt O) ?_
 rintro _ w3 ⟨b8,rfl,jk,ai,cu⟩
 refine Mb O (MO (news:=[Mh (v+1-Q),I (b:Int)]) Pt O O O O cu (by simp)) ?_
 rintro w4 ⟨rO,av⟩
 replace rO:M7 w4 b8 [Mh (v+1-Q),I (b:Int)] 353:=rO
 have z1:=ad.size
 have z2:=af.size
 have z3:=ai.size
 have l2':=am.lt
 have l5':=aI.lt
 have ey:=av.LY (ai.LY (af.LY am)) (by omega)
 have dy:=av.LY (ai.LY aI) (by omega)
 have cn:Ext w w4:=((ad.trans af).trans ai).LS av (λi hi=>by omega)
 cases c with
 | unary =>
   replace ey:M7 w4 b2 [.int .u8 0,Mh 0] 260:=ey;have hg:=Ext.Mm w4;refine LX$ run_seq$ qN O$ Ma OM O$ qV (M1 U5 O O ey O)$ LX$ LU$ qN O$ O3 O O$ O4$ M4 O$ M9 O$ run_seq$ Mo [4] (λw'=>Ext w4 w') (by kernel_rfl) O ?_;refine qL [1,3,4] 0 O (λ_ h=>MH O) hg$ qL [3,4] 1 O (λ_ h=>MK O Nv U3 (by omega)) hg$ qL [4] 3 O (λ_ h=>NX O) hg$ qL [4] 2 O (λ_ h=>Mv (news:=[Mh 0,I 0,Mh 0,I 0]) XA O Rh O ((h.LY dy).cells (n:=4) O) O) hg$ PH [4]$ qO 4$ MI (i:=4) O O (MO (news:=[Mh 0,I 0,Mh 0,I 0]) Rh O O O O (hg.LY dy) (by simp)) ?_;rintro w5 ⟨aS,ak⟩;refine⟨trivial,?_⟩;replace aS:M7 w5 b5 [Mh 0,I 0,Mh 0,I 0] 354:=aS;refine qE$ Mz.qb (e:=[(1,_),(2,_),(4,_),(5,_)]) ?_;refine Mt Tryz.func233 (.tmp O (.cell XA O Rh O (M7.cells (n:=4) aS (news:=[_,_,_,_]) O) O .nil)) ?_
   exact⟨_,rfl,rfl,(cn.trans hg).LS ak (λi hi=>by omega)⟩
 | gamma =>
   replace ey:M7 w4 b2 [.int .u8 1,Mh 0] 260:=ey;have hg:=Ext.Mm w4;refine LX$ run_seq$ qN O$ Ma OM O$ qV (M1 U5 O O ey O)$ LX$ LU$ qN O$ O3 O O$ ML$ M4 O$ An O$ qN O$ O3 O O ?_;refine O4$ M4 O$ Mz.qb (e:=[(1,_),(2,_),(4,_),(5,_),(6,_),(7,_),(8,_),(24,_),(30,_)]) ?_;refine M9 O$ run_seq$ Mo [4] (λw'=>Ext w4 w') (by kernel_rfl) O$ qL [3,4] 0 O (λ_ h=>MH O) hg$ qL [4] 3 O (λ_ h=>NX O) hg$ qL [2,4] 1 O (λ_ h=>Mv (news:=[Mh (v+1-Q),I (b:Int)]) z6L O Pt O ((h.LY rO).cells (n:=2) O) O) hg$ qL [4] 2 O (λ_ h=>zcG (parts:=[(0,.tmp 33)]) (cs:=[_,_,_,_]) Rh O XA Pt O O) hg$ PH [4]$ qO 4$ MI (i:=4) O O (MO (news:=[Mh (v+1-Q),I (b:Int),Mh 0,I 0]) Rh O O O O (hg.LY dy) (by simp)) ?_;rintro w5 ⟨aS,ak⟩;refine⟨trivial,?_⟩;replace aS:M7 w5 b5 [Mh (v+1-Q),I (b:Int),Mh 0,I 0] 354:=aS;refine qE$ Mt Tryz.func233 (.tmp O (.cell XA O Rh O (M7.cells (n:=4) aS (news:=[_,_,_,_]) O) O .nil)) ?_
   exact⟨_,rfl,by simp[resVal,Cd.zeros,Cd.p0,hb,hQ],(cn.trans hg).LS ak (λi hi=>by omega)⟩
 | zeta k =>
   obtain⟨aK,ao⟩:1<=k/\k<=16:=hc;have f:=U8 (k:=k) (v:=v) aK;dsimp only at f;rw[hb] at f;obtain⟨h,hh⟩:∃h,b / k=h:=⟨_,rfl⟩;obtain⟨m,hm⟩:∃m,h*k=m:=⟨_,rfl⟩;have GY:m<=b:=by rw[<-hm,<-hh];exact Nat.div_mul_le_self _ _
   rw[hh,hm] at f;obtain⟨F,hF⟩:∃F,2^m=F:=⟨_,rfl⟩;obtain⟨G,hG⟩:∃G,2^k=G:=⟨_,rfl⟩;rw[hF,hG] at f;obtain⟨f1,f2,f3⟩:=f;obtain⟨E,hE⟩:∃E,F*G=E:=⟨_,rfl⟩
   have AE:E<=9223372036854775808:=by
    rw[<-hE,<-hF,<-hG,<-Nat.pow_add];have:=Nat.pow_le_pow_right (show 0<2 by decide) (show m+k<=63 by omega);have e63:(2:Nat)^63=9223372036854775808:=by decide
    omega
   rw[hE] at f2 f3;have AF:(Cd.zeta k).zeros v=h:=by show Nat.log2 (v+1) / k=h;rw[hb,hh]
   have AG:(Cd.zeta k).p0 v=Of (v+1-F) (E-F):=by
    show Of (v+1-2^(Nat.log2 (v+1) / k*k)) (2^(Nat.log2 (v+1) / k*k)*2^k-2^(Nat.log2 (v+1) / k*k))=_;rw[hb,hh,hm,hF,hG,hE]
   rw[AF,AG];have qv:(h:Int)*(k:Int)=(m:Int):=by rw[<-hm];simp
   have gy:(b:Int) / (k:Int)=(h:Int):=by rw[<-hh];simp
   replace ey:M7 w4 b2 [.int .u8 3,Mh k] 260:=ey;refine LX$ run_seq$ qN O$ Ma OM O$ qV (M1 U5 O O ey O)$ LX$ LU$ qN O$ O3 O O$ ML$ M4 O$ An O$ qN O$ O3 O O ?_;refine ML$ M4 O$ Mz.qb (e:=[(1,_),(2,_),(4,_),(5,_),(6,_),(7,_),(8,_),(24,_),(30,_)]) ?_;refine An O$ qN O$ O3 O O$ ML$ M4 O$ An O$ qN O$ O3 O O$ O4$ M4 O$ M9 O$ qN O$ Ma T7 O$ qV (M1 Nv O O ey O) ?_;refine qV (MK O Nv U3 (by omega))$ Me O$ qM O$ Md O O$ qV (Te O O (by omega)) ?_;rw[gy];refine Me O$ qM O$ Md O O$ qV (SB O O (by rw[qv];omega)) ?_;rw[qv];refine qV (NW m F O O (by omega) hF) ?_;rw[show 1*F%18446744073709551616=F by omega];refine M4 O$ Mz.qb (e:=[(1,_),(2,_),(4,_),(5,_),(6,_),(9,_),(10,_),(11,_)]) ?_;refine qN O$ Md O O$ LW O$ qV (SC O O O (by show v+1<2^64;omega) f1) ?_;refine Md O O$ qV (NW k G O O (by omega) hG) ?_;rw[hE,Nat.mod_eq_of_lt (show E<18446744073709551616 by omega)];refine LW O$ qV (SC O O O (by show E<2^64;omega) (by omega)) ?_;refine Mn zeA O (z2Q (v+1-F) (E-F) f3 f2 (by omega) w4) ?_;rintro _ w5 ⟨rfl,aW⟩;refine qV (zcG (parts:=[(0,.tmp 69)]) (cs:=[_,_,_,_]) Rh O XA Pt O O)$ Me O ?_;have uT:=aW.LY dy;refine Mb O (MO (news:=[Mh (Of (v+1-F) (E-F)).1,I ((Of (v+1-F) (E-F)).2:Int),Mh 0,I 0]) Rh O O O O uT (by simp)) ?_;rintro w6 ⟨aS,aR⟩;replace aS:M7 w6 b5 [Mh (Of (v+1-F) (E-F)).1,I ((Of (v+1-F) (E-F)).2:Int),Mh 0,I 0] 354:=aS;refine LX$ Mt Tryz.func233 (.tmp O (.cell XA O Rh O (M7.cells (n:=4) aS (news:=[_,_,_,_]) O) O .nil)) ?_;exact⟨_,rfl,rfl,(cn.trans aW).LS aR (λi hi=>by omega)⟩
end
def hiB (w:Nat):Nat->Nat->List Nat->List Bool
 |_,_,[]=>[]
 |len,i,v::r=>List.replicate (v / 2^w+i-len) false++true::hiB w (v / 2^w+i+1) (i+1) r
abbrev Nof (l:List Nat):Prop:=l.Pairwise (·<=·)
def nth1:List Bool->Nat->Option Nat
 |[],_=>none
 |true::l,0=>some 0
 |true::l,k+1=>(nth1 l k).map (·+1)
 |false::l,k=>(nth1 l k).map (·+1)
theorem Rf:∀(z:Nat) (l:List Bool) (k:Nat),nth1 (List.replicate z false++l) k=(nth1 l k).map (·+z)
 |0,l,k=>by simp
 | z + 1, l, k => by
   rw[List.replicate_succ,List.cons_append,nth1,Rf z l k,Option.map_map]
   congr 1
theorem XM (w:Nat):∀(l:List Nat) (len i k:Nat) (v:Nat),Nof l->l[k]? =some v->(∀x,l.head? =some x->len<=x / 2^w+i)->nth1 (hiB w len i l) k=some (v / 2^w+i+k-len)
 |[],len,i,k,v,_,h,_=>by simp at h
 | x :: r, len, i, 0, v, _, h, hl => by
   simp at h;subst h;have:=hl x O;rw[hiB,Rf,nth1]
   simp
 | x :: r, len, i, k + 1, v, hn, h, hl => by
   rw[List.getElem?_cons_succ] at h;obtain⟨n1,n2⟩:=List.pairwise_cons.1 hn;have hx:=hl x O;have hxv:x<=v:=n1 v (List.mem_of_getElem? h);have hd:=Nat.div_le_div_right (c:=2^w) hxv
   rw[hiB,Rf,nth1,XM w r _ (i+1) k v n2 h (λy hy=>by
    have hxy:x<=y:=n1 y (by cases r with
     |nil=>simp at hy
     |cons a r=>simp at hy;simp[hy])
    have:=Nat.div_le_div_right (c:=2^w) hxy
    omega)]
   simp;omega
theorem VS:∀(l:List Bool) (j p m:Nat),nth1 l j=some p->nth1 (l.drop p) m=(nth1 l (j+m)).map (·-p)
 |[],j,p,m,h=>by simp[nth1] at h
 | true :: l, 0, p, m, h => by
   simp[nth1] at h;subst h
   simp
 | true :: l, j + 1, p, m, h => by
   simp only[nth1,Option.map_eq_some_iff] at h;obtain⟨q,hq,rfl⟩:=h;rw[List.drop_succ_cons,VS l j q m hq,show j+1+m=(j+m)+1 by omega,nth1,Option.map_map]
   congr 1
   funext x;simp
 | false :: l, j, p, m, h => by
   simp only[nth1,Option.map_eq_some_iff] at h;obtain⟨q,hq,rfl⟩:=h;rw[List.drop_succ_cons,VS l j q m hq,nth1,Option.map_map]
   congr 1
   funext x;simp
theorem SR:∀(a b:List Bool) (k:Nat),nth1 (a++b) k=if k<a.count true then nth1 a k else(nth1 b (k-a.count true)).map (·+a.length)
 |[],b,k=>by simp
 |true::a,b,0=>by simp[nth1]
 | true :: a, b, k + 1 => by
   rw[List.cons_append,nth1,SR a b k,List.count_cons_self];split
   ·rename_i h
    rw[if_pos (by omega),nth1]
   ·rename_i h
    rw[if_neg (by omega),Option.map_map,show k+1-(a.count true+1)=k-a.count true by omega]
    congr 1
 | false :: a, b, k => by
   rw[List.cons_append,nth1,SR a b k,List.count_cons_of_ne (by decide)];split
   ·rw[nth1]
   ·rw[Option.map_map]
    congr 1
theorem WY:∀{l:List Bool} {k p:Nat},nth1 l k=some p->p<l.length/\l[p]? =some true
 |true::l,0,p,h=>by simp[nth1] at h;subst h;simp
 | true :: l, k + 1, p, h => by
   simp only[nth1,Option.map_eq_some_iff] at h;obtain⟨q,hq,rfl⟩:=h;have:=WY hq
   simp;exact this
 | false :: l, k, p, h => by
   simp only[nth1,Option.map_eq_some_iff] at h;obtain⟨q,hq,rfl⟩:=h;have:=WY hq
   simp;exact this
 |[],k,p,h=>by simp[nth1] at h
theorem z3J (w:Nat):∀(l:List Nat) (len i:Nat),Nof l->(∀x,l.head? =some x->len<=x / 2^w+i)->∀v,l.getLast? =some v->len+(hiB w len i l).length=v / 2^w+i+l.length
 |[],len,i,_,_,v,h=>by simp at h
 | [x], len, i, _, hl, v, h => by
   simp at h;subst h;have:=hl x O
   simp[hiB];omega
 | x :: y :: r, len, i, hn, hl, v, h => by
   obtain⟨n1,n2⟩:=List.pairwise_cons.1 hn;have hx:=hl x O;have hxy:=Nat.div_le_div_right (c:=2^w) (n1 y (by simp));have:=z3J w (y::r) (x / 2^w+i+1) (i+1) n2 (λz hz=>by simp at hz;subst hz;omega) v (by simpa using h);rw[hiB,List.length_append,List.length_replicate,List.length_cons];simp only[List.length_cons] at this⊢;omega
theorem Uc (z:Nat)(r:List Bool):valB (List.replicate z false++true::r)=2^r.length+valB r:=by
 induction z with
 |zero=>simp[valB]
 |succ z ih=>rw[List.replicate_succ,List.cons_append,valB,ih];simp
theorem ZY (c:Cd)(v:Nat):c.rest v=bitsN (c.p0 v).2 (c.p0 v).1:=by cases c<;>rfl
theorem T9 (c:Cd)(v:Nat):(c.enc v).length=c.zeros v+1+(c.p0 v).2:=by
 unfold Cd.enc
 rw[List.length_append,List.length_replicate,List.length_cons,ZY,bitsN_length];omega
theorem Cd.WW (c:Cd):c.most<=281474976710654:=by cases c<;>simp[Cd.most]
theorem S9:∀n:Nat,bitsN n 0=List.replicate n false
 |0=>rfl
 |n+1=>by rw[bitsN,S9 n,List.replicate_succ];simp
theorem z5e (z:Nat):bitsN (z+1) 1=List.replicate z false++[true]:=by
 refine UA (by simp) ?_
 rw[MW,Uc]
 simp[valB]
theorem Th {c:Cd}{v:Nat}(hc:c.Nj)(hv:v<=c.most):c.zeros v<=65535/\(c.p0 v).2<=63/\(c.p0 v).1<2^(c.p0 v).2:=by
 cases c with
 |unary=>exact⟨hv,by simp[Cd.p0],by simp[Cd.p0]⟩
 | gamma =>
   obtain⟨g1,g2,g3⟩:=Sm hv;refine⟨by show Nat.log2 (v+1)<=_;omega,by show Nat.log2 (v+1)<=_;omega,?_⟩;show v+1-2^Nat.log2 (v+1)<2^Nat.log2 (v+1);rw[Nat.pow_succ] at g2
   omega
 | zeta k =>
   obtain⟨aK,ao⟩:1<=k/\k<=16:=hc;obtain⟨g1,g2,g3⟩:=Sm hv;have f:=U8 (k:=k) (v:=v) aK;dsimp only at f;have hd:Nat.log2 (v+1) / k<=Nat.log2 (v+1):=Nat.div_le_self _ _;have hm:Nat.log2 (v+1) / k*k<=Nat.log2 (v+1):=Nat.div_mul_le_self _ _;refine⟨by show Nat.log2 (v+1) / k<=_;omega,?_,?_⟩
   ·show(Of _ _).2<=63
    have h1:MR (2^(Nat.log2 (v+1) / k*k)*2^k-2^(Nat.log2 (v+1) / k*k)-1)<=63:=by
     refine NR ?_;have h2:=Nat.pow_le_pow_right (show 0<2 by decide) (show Nat.log2 (v+1) / k*k+k<=63 by omega);rw[Nat.pow_add] at h2;have h3:=f.2.2
     revert h2 h3
     generalize 2^(Nat.log2 (v+1) / k*k)*2^k=E
     generalize 2^(Nat.log2 (v+1) / k*k)=F
     intro h2 h3;omega
    unfold Of;dsimp only;split<;>dsimp only<;>omega
   ·exact z6j f.2.1
section
variable {P:Program}{e:Env}{d:Option Nat}{ty t t' el:TypeId}{pos:String}{aft:Array Edge}{g:Option (Nat×Bool)}{x y:Operand}{w:World}{k:IntKind}{n:Nat}{td:TypeDesc}
theorem ze6 {za:Int}[rD:PS za n]{len size bytes:Nat}{z:Value}{vs:Array Value}(ht:P.underlying t=some (.array len el))(hs:TI P el z size bytes)(hu:P.underlying el=some td)(ha:aggOf td=true)(hx:look e x=some (.agg vs))(hy:look e y=some (.int k za))(hn:n<len):
  Y P e ⟨d,.index t x y,ty,pos,aft,g⟩ (.agg (vs.extract (n*size) (n*size+size))) w w:=fun ρ hρ=>by
 obtain⟨rfl⟩:=rD
 have hs:=hs.size (w:=w)
 simp[execOp,hρ _ _ hx,hρ _ _ hy,Instr.index,asIntOf,run_underlying ht,hn,hs,part,QV hu,ha]
end
section
theorem z0u (c:Cd)(v:Nat)(hc:c.Nj)(hv:v<=c.most)(w:World):Mw Tryz.prog 202 [ZR c,Mh v] w λu w'=>u= .tuple #[I ((c.enc v).length:Int),I 0]/\Ext w w':=by
 obtain⟨x,y,dt⟩:∃x y,OZ c=[x,y]:=by cases c<;>exact⟨_,_,rfl⟩
 obtain⟨q1,q2,-⟩:=Th hc hv
 have hl:=T9 c v
 have eH:=c.WW
 refine It (e:=[(0,_),(1,_)]) Tryz.func202 O Tryz.ntmps202 O O$ qN O$ M5 O O (O2 O (cs:=OZ c) O) ?_
 rintro _ w1 ⟨b2,rfl,bY,ad,am⟩
 refine Me O$ M4 O$ run_seq$ qN O$ qV (Mv (news:=OZ c) OV O ND O (am.cells (n:=2) (by rw[dt];rfl)) (by rw[dt];rfl)) ?_
 refine LW O$ Mn zf0 O (z8f c v hc hv w1) ?_
 rintro _ w2 ⟨rfl,af⟩
 refine qV ((by first|exact MX O|exact Oy O)) ?_
 refine LX$ An O$ py$ qN O$ qV (Mv (news:=OZ c) OV O ND O ((af.LY am).cells (n:=2) (by rw[dt];rfl)) (by rw[dt];rfl)) ?_
 refine LW O$ Mn zad O (Xi c v hc (by omega) w2) ?_
 rintro _ w3 ⟨rfl,ai⟩
 refine LW O$ N5 O O$ N5 O O$ M5 O O (Oo (cs:=[_,_,_,_]) Rh O) ?_
 rintro _ w4 ⟨b7,rfl,kF,ay,bK⟩
 refine Me O$ Mb O (MO (news:=[Mh (c.p0 v).1,I ((c.p0 v).2:Int),Mh 0,I 0]) Rh O O O O bK (by simp)) ?_
 rintro w5 ⟨fF,ak⟩
 replace fF:M7 w5 b7 [Mh (c.p0 v).1,I ((c.p0 v).2:Int),Mh 0,I 0] 354:=fF
 refine qM O$ LW O$ MT O O$ qV (yia XA Pt O O (by omega))$ Ma WI O$ qV (M1 U3 O O fF O)$ MT O O$ qV (yia XA Pt O O (by omega))$ Ma WI O$ qV (M1 U3 O O fF O)$ MT O O$ Me O$ M4 O$ Mz.qb (e:=[(4,_),(5,_)]) ?_
 refine LZ Tryz.func202 O ?_
 have z1:=ad.size
 have z2:=af.size
 have z3:=ai.size
 refine⟨_,rfl,?_,(((ad.trans af).trans ai).trans ay).LS ak (λi hi=>by omega)⟩
 simp only[resVal]
 congr 4
 omega
theorem z6V {w : World}{p : Nat}{bs : List Bool}{F : Nat -> Prop}(h : UT w p bs F)(c : Cd)(v : Nat)(hc : c.Nj)(hv : v <= c.most)(hl : bs.length + (c.enc v).length <= 134217728) :
  Mw Tryz.prog 203 [ptr p 0,ZR c,Mh v] w λu w'=>u=I 0/\WrR p F w w' (bs++c.enc v):=by
 obtain⟨x,y,dt⟩:∃x y,OZ c=[x,y]:=by cases c<;>exact⟨_,_,rfl⟩
 obtain⟨q1,q2,q3⟩:=Th hc hv
 have og:=T9 c v
 have eH:=c.WW
 refine It (e:=[(0,_),(1,_),(2,_)]) Tryz.func203 O Tryz.ntmps203 O O$ qN O$ M5 O O (O2 O (cs:=OZ c) O) ?_
 rintro _ w1 ⟨b4,rfl,f9,ad,aH⟩
 refine M4 O$ run_seq$ qN O$ LW O$ qV (N7 Zl O O)$ LX$ An O$ py$ qN O$ qV (Mv (news:=OZ c) OV O ND O (aH.cells (n:=2) (by rw[dt];rfl)) (by rw[dt];rfl)) ?_
 refine LW O$ Mn z9O O (z0u c v hc hv w1) ?_
 rintro _ w2 ⟨rfl,af⟩
 refine LW O$ N5 O O$ N5 O O$ Me O$ M4 O$ run_seq$ LU$ qN O$ LW O$ N9 O O$ M4 O$ M8 O (λe0=>?_)$ λe0=>?_
 ·exact absurd O e0
 ·refine qN O$ Md O O$ Mn Z3 O (RX ((h.ext ad).ext af)) ?_; rintro _ w2 ⟨rfl, rfl⟩; refine Oa O O (Ng O O (M4 O (M8 O (λe1 => ?_) (λe1 => ?_))))
  ·omega
  ·refine py$ LV$ qN O$ qV (Mv (news := OZ c) OV O ND O ((af.LY aH).cells (n := 2) (by rw [dt]; rfl)) (by rw [dt]; rfl)) ?_; refine LW O (Mn zad O (Xi c v hc (by omega) w2) ?_); rintro _ w3 ⟨rfl, ai⟩; refine LW O (N5 O O (N5 O O (M5 O O (Oo (cs := [_, _, _, _]) Rh O) ?_))); rintro _ w4 ⟨b10, rfl, AH, ay, fi⟩; refine Me O (Mb O (MO (news := [Mh (c.p0 v).1, I ((c.p0 v).2 : Int), Mh 0, I 0]) Rh O O O O fi (by simp)) ?_); rintro w5 ⟨kG, ak⟩; replace kG : M7 w5 b10 [Mh (c.p0 v).1, I ((c.p0 v).2 : Int), Mh 0, I 0] 354 := kG; have z1 := ad.size; have z2 := af.size; have z3 := ai.size; have bG : Ext w w5 := (((ad.trans af).trans ai).trans ay).LS ak (λi hi => by omega); have z5 := bG.size; have l10 := kG.lt; have jC : ∀ i, F i -> i < w.heap.size := λi hi => h.lt hi
   have Fg:∀(F':Nat->Prop),(∀k,F' k->F k\/w5.heap.size<=k)->¬F' b10:=λF' hf e=>by
    rcases hf b10 e with e| e
    ·have:=jC b10 e;omega
    ·omega
   refine LX$ Mz.qb (e:=[(0,_),(6,_),(9,_),(10,_)]) ?_;refine run_seq$ LU$ Oh (α:=Nat×(Nat->Prop)×List Bool) ((c.zeros v,F,bs)) (λx=>[(0,ptr p 0),(9,I (x.1:Int)),(10,ptr b10 0)]) (λx w'=>x.1<=c.zeros v/\UT w' p x.2.2 x.2.1/\x.2.2=bs++List.replicate (c.zeros v-x.1) false/\Kp F w w'/\(∀k,x.2.1 k->F k\/w5.heap.size<=k)/\M7 w' b10 [Mh (c.p0 v).1,I ((c.p0 v).2:Int),Mh 0,I 0] 354/\w5.heap.size<=w'.heap.size) (λx=>x.1) ?hI ?hround
   case hI=>exact⟨Nat.le_refl _,h.ext bG,by simp,bG.kp,λ_ h=> .inl h,kG,Nat.le_refl _⟩
   case hround =>
    rintro⟨z,F1,b1⟩ w6 ⟨hz,lw,bR,aR,mD,aS,z6⟩ ih;dsimp only at hz lw bR mD;have fj:b1.length=bs.length+(c.zeros v-z):=by rw[bR,List.length_append,List.length_replicate]
    try dsimp only
    refine run_seq$ qN O$ LW O$ Ng O O$ LX$ M8 O (λaP=>?_)$ λaP=>?_
    ·refine py$ run_seq$ LU$ M0 O$ LW O$ Mn T4 O (OP lw 0 63 (by decide) (by decide) (by omega)) ?_;rintro _ w7 ⟨rfl,F7,oh,aD,ol⟩;have bK:=aD.LY aS (Fg F1 mD);have z7:=aD.size;refine LX$ LV$ M0 O$ LW O$ Oa O O$ M4 O ?_;rw[show((z:Int)-63)=((z-63:Nat):Int) by omega];refine(ih (z-63,F7,b1++bitsN 63 0) w7 ⟨by dsimp only;omega,oh,?_,?_,?_,bK,by omega⟩ (by dsimp only;omega)).qb
     ·dsimp only;rw[bR,S9,List.append_assoc,List.replicate_append_replicate,show c.zeros v-z+63=c.zeros v-(z-63) by omega]
     ·exact aR.LS aD (λi hi=>(mD i hi).elim .inr (λe=> .inl (by omega)))
     ·intro i hi;rcases ol i hi with e| e
      ·exact mD i e
      ·exact .inr (by omega)
    ·refine M6 O$ run_seq$ qN O$ LW O$ PD O O$ LX$ M8 O (λg0=>?_)$ λg0=>?_
     ·refine M0 O$ Md O O$ MT O O ?_;rw[show((z:Int)+1)=((z+1:Nat):Int) by omega];refine Mn T4 O (OP lw 1 (z+1) (by omega) (by have:=Nat.pow_le_pow_right (show 0<2 by decide) (show 1<=z+1 by omega);omega) (by omega)) ?_;rintro _ w7 ⟨rfl,F7,oh,aD,ol⟩;have bK:=aD.LY aS (Fg F1 mD);have z7:=aD.size;have AI:Kp F w w7:=aR.LS aD (λi hi=>(mD i hi).elim .inr (λe=> .inl (by omega)));have AJ:∀i,F7 i->F i\/w5.heap.size<=i:=λi hi=>(ol i hi).elim (mD i) (λe=> .inr (by omega))
      have kF:b1++bitsN (z+1) 1=bs++(List.replicate (c.zeros v) false++[true]):=by
       rw[bR,z5e,List.append_assoc]
       congr 1
       rw[<-List.append_assoc,List.replicate_append_replicate,show c.zeros v-z+z=c.zeros v by omega]
      rw[kF] at oh;clear ih;refine LX$ run_seq$ qN O$ qV (Mv (news:=[Mh (c.p0 v).1,I ((c.p0 v).2:Int),Mh 0,I 0]) XA O Rh O (bK.cells (n:=4) O) O)$ LW O$ LX$ LU$ Oh (α:=Nat×(Nat->Prop)×List Bool) ((0,F7,bs++(List.replicate (c.zeros v) false++[true]))) (λx=>[(0,ptr p 0),(49,.agg #[Mh (c.p0 v).1,I ((c.p0 v).2:Int),Mh 0,I 0]),(50,I (x.1:Int))]) (λx w'=>x.1<=2/\UT w' p x.2.2 x.2.1/\x.2.2=(bs++(List.replicate (c.zeros v) false++[true]))++(if x.1=0 then [] else c.rest v)/\Kp F w w'/\(∀k,x.2.1 k->F k\/w5.heap.size<=k)/\w5.heap.size<=w'.heap.size) (λx=>2-x.1) ?hI ?hround
      case hI=>exact⟨by dsimp only;omega,oh,by simp,AI,AJ,by omega⟩
      case hround=>
       rintro⟨i,F8,b8⟩ w8 ⟨hi,rP,jk,bz,ug,z8⟩ ih;dsimp only at hi rP jk ug
       try dsimp only
       refine qN O$ Ni O O$ LX$ run_seq$ M8 O (λly=>?_)$ λly=>?_
       ·have uU:b8.length<=bs.length+(c.zeros v+1)+(if i=0 then 0 else(c.p0 v).2):=by
         rw[jk];simp only[List.length_append,List.length_replicate,List.length_cons,List.length_nil];split
         ·simp
         ·rw[ZY,bitsN_length];omega
        refine py$ run_seq$ LU$ qN O ?_;rcases (show i=0\/i=1 by omega) with rfl|rfl
        ·rw[if_pos O] at uU jk;refine qV (ze6 (n:=0) XA Pt z6L O O O (by decide)) ?_;rw[show(#[Mh (c.p0 v).1,I ((c.p0 v).2:Int),Mh 0,I 0]:Array Value).extract (0*2) (0*2+2)=#[Mh (c.p0 v).1,I ((c.p0 v).2:Int)] from rfl];refine M5 O O (Oo (cs:=[_,_]) Pt O) ?_;rintro _ w9 ⟨b12,rfl,AK,eJ,bB⟩;refine Mb O (MO (news:=[Mh (c.p0 v).1,I ((c.p0 v).2:Int)]) Pt O O O O bB (by simp)) ?_;rintro w10 ⟨ez,aq⟩;replace ez:M7 w10 b12 [Mh (c.p0 v).1,I ((c.p0 v).2:Int)] 353:=ez;have z9:=eJ.size;have fG:Ext w8 w10:=eJ.LS aq (λi hi=>by omega);have z10:=fG.size;refine LX$ M0 O$ LW O$ Ma z3I O$ qV (M1 Nv O O ez O)$ Ma WI O$ qV (M1 U3 O O ez O)$ Mn T4 O (OP (rP.ext fG) (c.p0 v).1 (c.p0 v).2 (by omega) q3 (by omega)) ?_;rintro _ w11 ⟨rfl,F11,rQ,bC,rR⟩;have iP:=fG.kp.trans bC;refine LX$ LV$ M0 O$ MT O O$ LW O$ LX ((ih (1,F11,b8++bitsN (c.p0 v).2 (c.p0 v).1) w11 ⟨by dsimp only;omega,rQ,?_,?_,?_,?_⟩ (by dsimp only;omega)).qb)
         ·dsimp only;rw[jk];rw[List.append_nil,if_neg (by decide),ZY]
         ·exact bz.LS iP (λi hi=>(ug i hi).elim .inr (λe=> .inl (by omega)))
         ·intro i hi;rcases rR i hi with e| e
          ·exact ug i e
          ·exact .inr (by omega)
         ·have:=iP.size;omega
        ·rw[if_neg (by decide)] at uU jk;refine qV (ze6 (n:=1) XA Pt z6L O O O (by decide)) ?_;rw[show(#[Mh (c.p0 v).1,I ((c.p0 v).2:Int),Mh 0,I 0]:Array Value).extract (1*2) (1*2+2)=#[Mh 0,I 0] from rfl];refine M5 O O (Oo (cs:=[_,_]) Pt O) ?_;rintro _ w9 ⟨b12,rfl,AK,eJ,bB⟩;refine Mb O (MO (news:=[Mh 0,I 0]) Pt O O O O bB (by simp)) ?_;rintro w10 ⟨ez,aq⟩;replace ez:M7 w10 b12 [Mh 0,I 0] 353:=ez;have z9:=eJ.size;have fG:Ext w8 w10:=eJ.LS aq (λi hi=>by omega);have z10:=fG.size;refine LX$ M0 O$ LW O$ Ma z3I O$ qV (M1 Nv O O ez O)$ Ma WI O$ qV (M1 U3 O O ez O)$ Mn T4 O (OP (rP.ext fG) 0 0 (by omega) (by decide) (by omega)) ?_;rintro _ w11 ⟨rfl,F11,rQ,bC,rR⟩;have iP:=fG.kp.trans bC;refine LX$ LV$ M0 O$ MT O O$ LW O$ LX ((ih (2,F11,b8++bitsN 0 0) w11 ⟨by dsimp only;omega,rQ,?_,?_,?_,?_⟩ (by dsimp only;omega)).qb)
         ·dsimp only;rw[jk];rw[if_neg (by decide)];simp[bitsN]
         ·exact bz.LS iP (λi hi=>(ug i hi).elim .inr (λe=> .inl (by omega)))
         ·intro i hi;rcases rR i hi with e| e
          ·exact ug i e
          ·exact .inr (by omega)
         ·have:=iP.size;omega
       ·have:i=2:=by omega
        subst this;rw[if_neg (by decide)] at jk;refine M6 O$ qN O$ M4 O$ LZ Tryz.func203 O (⟨_,rfl,rfl,F8,?_,bz,λi hi=>(ug i hi).imp id (λe=>by omega)⟩);rw[jk] at rP;unfold Cd.enc
        simpa using rP
     ·omega
end
structure RgM (w:World)(x r:Nat)(s:Bytes)(a:Nat):Prop where
 LY:M7 w x [ptr r 0,.bool false] 306
 rd:Ql w r s a
 ne:x≠r
theorem RgM.ext {w w':World}{x r:Nat}{s:Bytes}{a:Nat}(h:RgM w x r s a)(k:Ext w w'):RgM w' x r s a:=⟨k.LY h.LY,⟨k.LY h.rd.1,h.rd.2⟩,h.ne⟩
section
variable {w:World}{x r:Nat}{s:Bytes}{a:Nat}
theorem Ty (h:RgM w x r s a)(n:Nat)(hn:n<=64)(hl:a+n<=8*s.length):
  Mw Tryz.prog 217 [ptr x 0,I (n:Int)] w λv w'=>v=Mh (valB (((Ml s).drop a).take n))/\RgM w' x r s (a+n)/\Kp (λk=>k=x\/k=r) w w':=by
 obtain⟨hB,hR,bO⟩:=h
 refine It (e:=[(0,_),(1,_)]) Tryz.func217 O Tryz.ntmps217 O O$ qN O$ Me O$ qM O$ LW O$ MC O$ Ma z8F O$ qV (M1 Qe O O hB O)$ LW O$ Mn z1e O (RW hR n hn) ?_
 rintro v1 w1 eT
 obtain⟨rfl,kH,aK⟩:v1= .tuple #[Mh (valB (((Ml s).drop a).take n)),I 0]/\Ql w1 r s (a+n)/\Kp (λk=>k=r) w w1:=by
  rcases eT with⟨-,h⟩|⟨h,-⟩
  ·exact h
  ·omega
 have aj:=aK.LY hB bO
 refine LW O$ N5 O O$ N5 O O$ Me O$ Me O$ qM O$ Md O O$ MC O$ Ma WL O$ qV (M1 U4 O O aj O)$ Md O O$ N9 O O$ ML$ MN O O ?_
 refine MC O$ Ma WL O$ Mb O (NT Sx O O O aj (by simp)) ?_
 rintro w2 ⟨am,ao⟩
 replace am:M7 w2 x [ptr r 0,.bool false] 306:=am
 refine LX$ Mz.qb (e:=[(4,_),(5,_)]) ?_
 refine qN O$ LW O$ M4 O$ LZ Tryz.func217 O ?_
 exact⟨_,rfl,rfl,⟨am,⟨ao.LY kH.1 (Ne.symm bO),kH.2⟩,bO⟩,(aK.Mc (λk e=> .inr e)).trans (ao.Mc (λk e=> .inl e))⟩
theorem Ue (h:RgM w x r s a)(z most:Nat)(rest:List Bool)(hb:(Ml s).drop a=List.replicate z false++true::rest)(hz:z<=most)(hm:most<=65535):
  Mw Tryz.prog 215 [ptr x 0,I (most:Int)] w λv w'=>v=I (z:Int)/\RgM w' x r s (a+z+1)/\Kp (λk=>k=x\/k=r) w w':=by
 have aA:a+z+1<=8*s.length:=by
  have:=congrArg List.length hb;rw[List.length_drop,bitsT_length,List.length_append,List.length_replicate,List.length_cons] at this;omega
 refine It (e:=[(0,_),(1,_)]) Tryz.func215 O Tryz.ntmps215 O O$ qN O$ M4 O$ run_seq$ qN O$ M4 O$ LU$ Oh (α:=Nat) (0) (λn=>[(0,ptr x 0),(1,I (most:Int)),(5,I (n:Int))]) (λn w'=>n<=z/\RgM w' x r s (a+n)/\Kp (λk=>k=x\/k=r) w w') (λn=>z-n) ?hI ?hround
 case hI=>exact⟨Nat.zero_le _,h,Kp.refl _ _⟩
 case hround=>
  rintro n w1 ⟨hn,h1,aK⟩ ih;have aj:=h1.LY
  have hd:(Ml s).drop (a+n)=List.replicate (z-n) false++true::rest:=by
   rw[<-List.drop_drop,hb,List.drop_append_of_le_length (by simp;omega),List.drop_replicate]
  try dsimp only
  refine run_seq$ qN O$ Md O O$ zle O O$ LW O$ P4 (λc1=>?_)$ λc1=>?_
  ·have hv:valB (((Ml s).drop (a+n)).take 1)=if n=z then 1 else 0:=by
    rw[hd];by_cases e:n=z
    ·subst e;rw[Nat.sub_self,if_pos O];rfl
    ·rw[if_neg e,show z-n=(z-n-1)+1 by omega,List.replicate_succ];rfl
   refine LW O$ MC O$ Ma WL O$ qV (M1 U4 O O aj O)$ qV ((by first|exact MX O|exact Oy O)) ?_;refine NC O O$ LX$ M9 O$ py$ run_seq$ LU$ qN O$ LW O$ Mn z4h O (Ty h1 1 (by decide) (by omega)) ?_;rintro _ w2 ⟨rfl,h2,ao⟩;rw[hv];refine O3 O O$ LX$ M8 O (λc2=>?_)$ λc2=>?_
   ·have Fh:n=z:=by
     by_cases e:n=z
     ·exact e
     ·rw[if_neg e] at c2;simp at c2
    subst Fh;refine qN O$ LW O$ M4 O$ LZ Tryz.func215 O ?_;exact⟨_,rfl,rfl,h2,aK.trans ao⟩
   ·have Fh:n≠z:=λe=>by rw[if_pos e] at c2;simp at c2
    refine py$ LV$ M0 O$ LW O$ MT O O$ M4 O ?_;exact(ih (n+1) w2 ⟨by omega,by rw[<-Nat.add_assoc];exact h2,aK.trans ao⟩ (by omega)).qb
  ·omega
theorem z2I (h:RgM w x r s a)(z q:Nat)(rest:List Bool)(hb:(Ml s).drop a=List.replicate z false++true::(bitsN z q++rest))(hq:q<2^z)(hz:z<=47):
  Mw Tryz.prog 216 [ptr x 0,I 47] w λv w'=>v=Mh (q+2^z-1)/\RgM w' x r s (a+z+1+z)/\Kp (λk=>k=x\/k=r) w w':=by
 have aA:a+z+1+z<=8*s.length:=by
  have:=congrArg List.length hb;rw[List.length_drop,bitsT_length,List.length_append,List.length_replicate,List.length_cons,List.length_append,bitsN_length] at this;omega
 have hd:(Ml s).drop (a+z+1)=bitsN z q++rest:=by
  rw[show a+z+1=a+(z+1) by omega,<-List.drop_drop,hb];rw[<-List.drop_drop,List.drop_left' (by simp)];rfl
 have hv:valB (((Ml s).drop (a+z+1)).take z)=q:=by
  rw[hd,List.take_left' (by simp),MW,Nat.mod_eq_of_lt hq]
 obtain⟨Q,hQ⟩:∃Q,2^z=Q:=⟨_,rfl⟩
 rw[hQ] at hq⊢
 have AD:1<=Q/\Q<=281474976710656:=by
  rw[<-hQ];exact⟨Nat.two_pow_pos _,by have:=Nat.pow_le_pow_right (show 0<2 by decide) (show z<=48 by omega);simpa using this⟩
 refine It (e:=[(0,_),(1,_)]) Tryz.func216 O Tryz.ntmps216 O O$ qN O$ Me O$ qM O$ Md O O$ Mn z6q O (Ue h z 47 _ hb hz (by decide)) ?_
 rintro _ w1 ⟨rfl,h1,aK⟩
 have hg:=Ext.Mm w1
 refine M4 O$ run_seq$ NV (λw'=>Kp (λk=>k=x\/k=r) w1 w') O$ Mj 0 O O (hg.kp)$ Mj 1 O O (hg.kp)$ Mj 3 O O (hg.kp)$ M3 4 O (NW z Q O O (by omega) hQ) (hg.kp) ?_
 rw[show 1*Q%18446744073709551616=Q by omega]
 refine Pm 2 O z4h O (Ty (h1.ext hg) z (by omega) (by omega)) ?_
 rintro _ w2 ⟨rfl,h2,ao⟩
 refine⟨hg.kp.trans ao,?_⟩
 rw[hv]
 refine M3 5 O (RD O O) (hg.kp.trans ao) ?_
 rw[show(q+Q)%18446744073709551616=q+Q by omega]
 refine M3 6 O (SC (n:=1) O O O (by show q+Q<2^64;omega) (by omega)) (hg.kp.trans ao) ?_
 refine M3 7 O (NX O) (hg.kp.trans ao)$ qE$ LZ Tryz.func216 O ?_
 exact⟨_,rfl,rfl,h2,aK.trans (hg.kp.trans ao)⟩
theorem z27 (h:RgM w x r s a)(v K:Nat)(rest:List Bool)(hb:(Ml s).drop a=Nu v K++rest)(hv:v<K)(rM:K<=9223372036854775808):
  Mw Tryz.prog 218 [ptr x 0,Mh K] w λu w'=>u=Mh v/\RgM w' x r s (a+(Nu v K).length)/\Kp (λk=>k=x\/k=r) w w':=by
 have aA:a+(Nu v K).length<=8*s.length:=by
  have:=congrArg List.length hb;have ha:=h.rd.2.1;rw[List.length_drop,bitsT_length,List.length_append] at this;omega
 refine It (e:=[(0,_),(1,_)]) Tryz.func218 O Tryz.ntmps218 O O$ qN O$ Me O$ qM O$ LW O$ qV (SC (n:=1) O O O (by show K<2^64;omega) (by omega)) ?_
 refine Mn YN O (QP (K-1) (by omega) w) ?_
 rintro _ w ⟨rfl,rfl⟩
 refine M4 O$ run_seq$ qN O$ LW O$ O3 O O$ LX ?_
 by_cases rN:K=1
 ·subst rN;have mE:v=0:=by omega
  subst mE;rw[show MR (1-1)=0 from rfl];refine M8 O (λc0=>?_)$ λc0=>?_
  ·refine qN O$ M4 O$ LZ Tryz.func218 O ?_;exact⟨_,rfl,rfl,h,Kp.refl _ _⟩
  ·exact absurd O c0
 ·have f:=z3j hv (by omega) rest;dsimp only at f;obtain⟨n,hn⟩:∃n,MR (K-1)=n:=⟨_,rfl⟩;rw[hn] at f⊢;have g:=RK (K:=K) (by omega);rw[hn] at g;obtain⟨Q,hQ⟩:∃Q,2^n=Q:=⟨_,rfl⟩;rw[hQ] at f g;obtain⟨f1,f2,f3⟩:=f
  have AL:n<=63:=by
   rw[<-hn];have e63:(2:Nat)^63=9223372036854775808:=by decide
   exact NR (by omega)
  have AC:Q<=9223372036854775808:=by
   rw[<-hQ];have:=Nat.pow_le_pow_right (show 0<2 by decide) AL;have e63:(2:Nat)^63=9223372036854775808:=by decide
   omega
  have t1:((Ml s).drop a).take (n-1)=(Nu v K).take (n-1):=by rw[hb,List.take_append_of_le_length f2]
  obtain⟨u,hu⟩:∃u,valB ((Nu v K).take (n-1))=u:=⟨_,rfl⟩
  have rS:u<Q:=by
   have h1:=NA ((Nu v K).take (n-1));rw[hu,List.length_take] at h1;have h2:=Nat.pow_le_pow_right (show 0<2 by decide) (show min (n-1) (Nu v K).length<=n by omega);omega
  rw[hu] at f3;refine M8 O (λc0=>?_)$ λc0=>?_
  ·omega
  ·refine py$ qN O$ LW O$ qV (NW n Q O O (by omega) hQ) ?_;rw[show 1*Q%18446744073709551616=Q by omega];refine LW O$ qV (SC O O O (by show Q<2^64;omega) g.1) ?_;refine Me O$ qM O$ Md O O$ Oa O O ?_;rw[show((n:Int)-1)=((n-1:Nat):Int) by omega];refine Mn z4h O (Ty h (n-1) (by omega) (by omega)) ?_;rintro _ w1 ⟨rfl,h1,aK⟩;rw[t1,hu];refine M4 O$ run_seq$ qN O$ Md O O$ PD O O$ LX$ M8 O (λc1=>?_)$ λc1=>?_
   ·obtain⟨m1,m2,m3⟩:Q-K<=u/\(Nu v K).length=n/\2*u+valB ((Nu v K).drop (n-1))=v+(Q-K):=by
     rcases f3 with⟨e,-⟩| e
     ·omega
     ·exact e
    have t2:((Ml s).drop (a+(n-1))).take 1=(Nu v K).drop (n-1):=by
     rw[<-List.drop_drop,hb,List.drop_append_of_le_length f2,List.take_append_of_le_length (by rw[List.length_drop];omega),List.take_of_length_le (by rw[List.length_drop];omega)]
    have iQ:valB ((Nu v K).drop (n-1))<2:=by
     have:=NA ((Nu v K).drop (n-1));rw[List.length_drop,m2,show n-(n-1)=1 by omega] at this;exact this
    refine M0 O$ LW O$ qV (NW 1 2 O O (by decide) O) ?_;rw[show u*2%18446744073709551616=u*2 by omega];refine LW O$ Mn z4h O (Ty h1 1 (by decide) (by omega)) ?_;rintro _ w2 ⟨rfl,h2,ao⟩;rw[t2];refine qV (RD O O) ?_;rw[show(u*2+valB ((Nu v K).drop (n-1)))%18446744073709551616=v+(Q-K) by omega];refine LW O$ qV (SC O O O (by show v+(Q-K)<2^64;omega) (by omega)) ?_;rw[show v+(Q-K)-(Q-K)=v by omega];refine M4 O$ Mz.qb (e:=[(4,_),(7,_)]) ?_;refine qN O$ LW O$ M4 O$ LZ Tryz.func218 O ?_;rw[m2];exact⟨_,rfl,rfl,by rw[show a+n=a+(n-1)+1 by omega];exact h2,aK.trans ao⟩
   ·obtain⟨m1,m2,m3⟩:u<Q-K/\(Nu v K).length=n-1/\u=v:=by
     rcases f3 with e|⟨e,-⟩
     ·exact e
     ·omega
    refine py$ qN O$ LW O$ M4 O$ LZ Tryz.func218 O ?_;rw[m2];exact⟨_,rfl,by rw[m3];rfl,h1,aK⟩
end
section
variable {w:World}{x r:Nat}{s:Bytes}{a:Nat}
theorem z1g (h:RgM w x r s a)(c:Cd)(v:Nat)(hc:c.Nj)(hv:v<=c.most)(rest:List Bool)(hb:(Ml s).drop a=c.enc v++rest):
  Mw Tryz.prog 185 [ptr x 0,ZR c] w λu w'=>u=Mh v/\RgM w' x r s (a+(c.enc v).length)/\Kp (λk=>k=x\/k=r) w w':=by
 have og:=T9 c v
 have dz:=h.LY.lt
 have gW:=h.rd.1.lt
 have aA:a+(c.enc v).length<=8*s.length:=by
  have:=congrArg List.length hb;have ha:=h.rd.2.1;rw[List.length_drop,bitsT_length,List.length_append] at this;omega
 unfold Cd.enc at hb
 rw[List.append_assoc,List.cons_append] at hb
 cases c with
 | unary =>
   refine It (e:=[(0,_),(1,_)]) Tryz.func185 O Tryz.ntmps185 O O$ qN O$ M5 O O (O2 O (cs:=[.int .u8 0,Mh 0]) O) ?_;rintro _ w1 ⟨b3,rfl,ek,ad,ar⟩;refine M4 O$ run_seq$ qN O$ Ma OM O$ qV (M1 U5 O O ar O)$ LX$ LU$ qN O$ O3 O O$ O4$ M4 O$ M9 O$ qN O$ LW O ?_;refine Mn z6q O (Ue (h.ext ad) v 65535 rest hb hv (by decide)) ?_;rintro _ w2 ⟨rfl,h2,ao⟩;have fH:v<=65535:=hv;refine qV ((by first|exact MQ O U3 Nv (by omega)|exact Ob O U3 Nv)) ?_;refine M4 O$ LZ Tryz.func185 O (⟨_,rfl,rfl,?_,ad.kp.trans ao⟩);have e:(Cd.enc .unary v).length=v+1:=by rw[og];rfl
   rw[e];exact h2
 | gamma =>
   obtain⟨g1,g2,g3⟩:=Sm hv;obtain⟨z,hz⟩:∃z,Nat.log2 (v+1)=z:=⟨_,rfl⟩;rw[hz] at g1 g2 g3;rw[Nat.pow_succ] at g2
   have uh:(Ml s).drop a=List.replicate z false++true::(bitsN z (v+1-2^z)++rest):=by
    rw[hb];show List.replicate (Nat.log2 (v+1)) false++true::(bitsN (Nat.log2 (v+1)) (v+1-2^Nat.log2 (v+1))++rest)=_;rw[hz]
   have e:(Cd.enc .gamma v).length=z+1+z:=by rw[og];show Nat.log2 (v+1)+1+Nat.log2 (v+1)=_;rw[hz]
   refine It (e:=[(0,_),(1,_)]) Tryz.func185 O Tryz.ntmps185 O O$ qN O$ M5 O O (O2 O (cs:=[.int .u8 1,Mh 0]) O) ?_;rintro _ w1 ⟨b3,rfl,ek,ad,ar⟩;refine M4 O$ run_seq$ qN O$ Ma OM O$ qV (M1 U5 O O ar O)$ LX$ LU$ qN O$ O3 O O$ ML$ M4 O$ An O$ qN O$ O3 O O ?_;refine O4$ M4 O$ M9 O$ qN O$ LW O$ Mn zdL O (z2I (h.ext ad) z (v+1-2^z) rest uh (by omega) g3) ?_;rintro _ w2 ⟨rfl,h2,ao⟩;rw[show v+1-2^z+2^z-1=v by omega];refine M4 O$ LZ Tryz.func185 O (⟨_,rfl,rfl,?_,ad.kp.trans ao⟩)
   rw[e,show a+(z+1+z)=a+z+1+z by omega];exact h2
 | zeta k =>
   obtain⟨aK,ao⟩:1<=k/\k<=16:=hc;obtain⟨g1,g2,g3⟩:=Sm hv;have f:=U8 (k:=k) (v:=v) aK;dsimp only at f;obtain⟨b,ui⟩:∃b,Nat.log2 (v+1)=b:=⟨_,rfl⟩;rw[ui] at f g1 g2 g3;obtain⟨z,hz⟩:∃z,b / k=z:=⟨_,rfl⟩;obtain⟨m,hm⟩:∃m,z*k=m:=⟨_,rfl⟩;have GY:m<=b:=by rw[<-hm,<-hz];exact Nat.div_mul_le_self _ _
   have AM:z<=47 / k:=by rw[<-hz];exact Nat.div_le_div_right g3
   have KV:47 / k<=47:=Nat.div_le_self _ _;rw[hz,hm] at f
   have uh:(Ml s).drop a=List.replicate z false++true::(Nu (v+1-2^m) (2^m*2^k-2^m)++rest):=by
    rw[hb];show List.replicate (Nat.log2 (v+1) / k) false++true::(Nu (v+1-2^(Nat.log2 (v+1) / k*k)) (2^(Nat.log2 (v+1) / k*k)*2^k-2^(Nat.log2 (v+1) / k*k))++rest)=_;rw[ui,hz,hm]
   obtain⟨F,hF⟩:∃F,2^m=F:=⟨_,rfl⟩;obtain⟨G,hG⟩:∃G,2^k=G:=⟨_,rfl⟩;rw[hF,hG] at f uh;obtain⟨f1,f2,f3⟩:=f;obtain⟨E,hE⟩:∃E,F*G=E:=⟨_,rfl⟩
   have AE:E<=9223372036854775808:=by
    rw[<-hE,<-hF,<-hG,<-Nat.pow_add];have:=Nat.pow_le_pow_right (show 0<2 by decide) (show m+k<=63 by omega);have e63:(2:Nat)^63=9223372036854775808:=by decide
    omega
   rw[hE] at f2 f3 uh
   have e:(Cd.enc (.zeta k) v).length=z+1+(Nu (v+1-F) (E-F)).length:=by
    rw[Cd.enc,List.length_append,List.length_replicate,List.length_cons];show Nat.log2 (v+1) / k+((Nu (v+1-2^(Nat.log2 (v+1) / k*k)) (2^(Nat.log2 (v+1) / k*k)*2^k-2^(Nat.log2 (v+1) / k*k))).length+1)=_;rw[ui,hz,hm,hF,hG,hE];omega
   have hd:(Ml s).drop (a+z+1)=Nu (v+1-F) (E-F)++rest:=by
    rw[show a+z+1=a+(z+1) by omega,<-List.drop_drop,uh];rw[<-List.drop_drop,List.drop_left' (by simp)];rfl
   have qv:(z:Int)*(k:Int)=(m:Int):=by rw[<-hm];simp
   have gy:(47:Int) / (k:Int)=((47 / k:Nat):Int):=by simp
   refine It (e:=[(0,_),(1,_)]) Tryz.func185 O Tryz.ntmps185 O O$ qN O$ M5 O O (O2 O (cs:=[.int .u8 3,Mh k]) O) ?_;rintro _ w1 ⟨b3,rfl,ek,ad,ar⟩;refine M4 O$ run_seq$ qN O$ Ma OM O$ qV (M1 U5 O O ar O)$ LX$ LU$ qN O$ O3 O O$ ML$ M4 O$ An O$ qN O$ O3 O O ?_;refine ML$ M4 O$ An O$ qN O$ O3 O O$ ML$ M4 O$ An O$ qN O$ O3 O O$ O4$ M4 O$ M9 O$ qN O ?_;refine Ma T7 O$ qV (M1 Nv O O ar O)$ qV (MK O Nv U3 (by omega))$ Me O$ qM O$ Md O O$ qV (Te O O (by omega)) ?_;rw[gy];refine Mn z6q O (Ue (h.ext ad) z (47 / k) _ uh AM (by omega)) ?_;rintro _ w2 ⟨rfl,h2,AN⟩;refine LW O$ qV (SB O O (by rw[qv];omega)) ?_;rw[qv];refine qV (NW m F O O (by omega) hF) ?_;rw[show 1*F%18446744073709551616=F by omega];refine M4 O$ Mz.qb (e:=[(0,_),(3,_),(4,_),(6,_),(7,_)]) ?_;refine qN O$ Md O O$ LW O$ qV (NW k G O O (by omega) hG) ?_;rw[hE,Nat.mod_eq_of_lt (show E<18446744073709551616 by omega)];refine LW O$ qV (SC O O O (by show E<2^64;omega) (by omega)) ?_;refine Mn ze2 O (z27 h2 (v+1-F) (E-F) rest hd f2 (by omega)) ?_;rintro _ w3 ⟨rfl,h3,au⟩;refine LW O$ qV (RD O O) ?_;rw[show(v+1-F+F)%18446744073709551616=v+1 by omega];refine qV (SC (n:=1) O O O (by show v+1<2^64;omega) (by omega)) ?_;rw[show v+1-1=v by omega];refine M4 O$ LZ Tryz.func185 O (⟨_,rfl,rfl,?_,(ad.kp.trans AN).trans au⟩);rw[e,show a+(z+1+(Nu (v+1-F) (E-F)).length)=a+z+1+(Nu (v+1-F) (E-F)).length by omega];exact h3
end
theorem z2i {P:Program}{fn:Func}{tmps:Array Value}{R:Ending->World->Prop}{g:FuncId}{cap args:List Value}{w:World}{S:Value->World->Prop}(oR:CF P g)(hD:z90 P g (args++cap) w S)
  (h:∀u w',S u w'->∃v,(results fn tmps).run P w'= .ok v w'/\R (.returned v) w'):LeavesInM Fence.wide 0 P fn tmps R (marks [.call g cap args]) .returning w:=by
 refine⟨by simp,.inr ⟨(λh=>by cases h),.func g,cap.toArray,g,(args++cap).toArray,rfl,?_,(λ_ _=>trivial),?_⟩⟩
 ·simp[Dfr.d,invoke,PZ oR]
 ·refine CallsDIn.mono hD ?_;rintro x u w1 ⟨rfl,v1,rfl,hS⟩;exact h v1 w1 hS
theorem z5u {P:Program}{f:FuncId}{R:Value->World->Prop}{n:Nat}{k:List Item}{e:Env}{w:World}{fn:Func}{g:FuncId}{cap args:List Value}{S:Value->World->Prop}(hf:P.funcs[f]? =some fn)(oR:CF P g)(hD:z90 P g (args++cap) w S)
  (h:∀u w',S u w'->∃vs,UE P w' e fn.results.toList vs/\Ul R (.returned (resVal vs)) w'):Mz ⟨P,f,R,n,none,[.call g cap args],false⟩ (.code .ret::k) e w:=
 z0A O O hf λa ha=>z2i oR hD λu w' hs=>by
  obtain⟨vs,h1,h2⟩:=h u w' hs;exact⟨_,Sb ha P w' fn vs h1,h2⟩
theorem ydf {P:Program}{e:Env}{ty:TypeId}{pos:String}{aft:Array Edge}{g:Option (Nat×Bool)}{w:World}{f:FuncId}{x:Operand}{q:List Value}(hv:look e x=some (.func (.func f) #[] q.toArray)):
  ∀ρ:Operand->Value,(∀x v,look e x=some v->ρ x=v)->(execOp ρ ⟨none,.defer ⟨.value x,#[],#[]⟩,ty,pos,aft,g⟩).run P w= .ok (.defer (Dfr.d (.call f q []))) w:=fun ρ hρ=>by
 simp[execOp,resolve,hρ _ _ hv,Dfr.d,Deferred.ofValue]
section
variable {w:World}{r:Nat}{s:Bytes}{a:Nat}
theorem z1y {b2 b5 b6:Nat}(hB:M7 w b5 [I 0] 35):z90 Tryz.prog 184 [ptr b5 0,ptr b2 0,ptr b6 0] w λu w'=>w'=w:=by
 refine z1k (e:=[(0,_),(1,_),(2,_)]) Tryz.func184 O Tryz.ntmps184 O O$ qN O$ qV (M1 U35 O O hB O)$ N9 O O$ LX$ M8 O (λc0=>?_)$ λc0=>?_
 ·exact absurd O c0
 ·refine py$ z6Q O O O Tryz.func184$ λa ha=>⟨_,Rw ha _ _ _ _ O,?_⟩;exact⟨_,rfl,rfl⟩
theorem W1 (h:Ql w r s a)(c:Cd)(v:Nat)(hc:c.Nj)(hv:v<=c.most)(rest:List Bool)(hb:(Ml s).drop a=c.enc v++rest):
  Mw Tryz.prog 147 [ptr r 0,ZR c] w λu w'=>u= .tuple #[Mh v,I 0]/\Ql w' r s (a+(c.enc v).length)/\Kp (λk=>k=r) w w':=by
 obtain⟨x,y,dt⟩:∃x y,OZ c=[x,y]:=by cases c<;>exact⟨_,_,rfl⟩
 have gW:=h.1.lt
 have eH:=c.WW
 refine It (e:=[(0,_),(1,_)]) Tryz.func147 O Tryz.ntmps147 O O$ qN O$ M5 O O (O2 O (cs:=[ptr r 0]) O) ?_
 rintro _ w1 ⟨b2,rfl,bY,ad,am⟩
 refine M5 O O (O2 O (cs:=OZ c) O) ?_
 rintro _ w2 ⟨b3,rfl,ek,af,ar⟩
 refine Me O$ M5 O O (Oo (cs:=[_]) z54 O) ?_
 rintro _ w3 ⟨b5,rfl,fE,ai,aI⟩
 replace aI:M7 w3 b5 [I 0] 35:=aI
 have h3:Ql w3 r s a:=⟨ai.LY (af.LY (ad.LY h.1)),h.2⟩
 have cT:=ai.LY (af.LY am)
 have dl:=ai.LY ar
 refine LX$ run_seq$ LU$ qN O$ qV (M1 Qe O O cT O)$ qV (N7 Qe O O)$ M4 O$ An O$ qN O$ qV (Mv (news:=OZ c) OV O ND O (dl.cells (n:=2) (by rw[dt];rfl)) (by rw[dt];rfl)) ?_
 refine Mn z1G O (Rb c hc w3) ?_
 rintro _ w4 ⟨rfl,ay⟩
 have h4:Ql w4 r s a:=⟨ay.LY h3.1,h3.2⟩
 have gG:=ay.LY cT
 refine N9 O O$ M4 O$ M8 O (λc0=>?_)$ λc0=>?_
 ·exact absurd O c0
 ·refine py$ LV$ qN O$ qV (M1 Qe O O gG O)$ Mn Uz O (QH h4) ?_;rintro _ w4 ⟨rfl,rfl⟩;refine M5 O O (Oo (cs:=[_]) MV O) ?_;rintro _ w5 ⟨b6,rfl,mn,aW,aS⟩;refine Mb O (NT MV O O O aS (by simp)) ?_;rintro w6 ⟨mF,aR⟩;have z1:=ad.size;have z2:=af.size;have z3:=ai.size;have z4:=ay.size;have z5:=aW.size;have l2:=am.lt;have l3:=ar.lt;have l5:=aI.lt;have cP:Ext w4 w6:=aW.LS aR (λi hi=>by omega);have bZ:=cP.LY gG;refine qM O$ qV (Zm (first:=[]) (caps:=[.tmp 5,.tmp 2,.tmp 6]) O O)$ zbF O O (ydf O)$ qM O$ qV (M1 Qe O O bZ O)$ qV (OO (cs:=[_,_]) zdI O zdw O O)$ M5 O O (O2 O O) ?_;rintro _ w7 ⟨b7,rfl,kF,ck,bK⟩;replace bK:M7 w7 b7 [ptr r 0,.bool false] 306:=bK;have z6:=cP.size;have z7:=ck.size;have oS:Ext w3 w7:=(ay.trans cP).trans ck;have h7:RgM w7 b7 r s a:=⟨bK,⟨oS.LY h3.1,h3.2⟩,by omega⟩;have lz:=oS.LY dl;have jD:=oS.LY aI;refine M4 O$ run_seq$ qN O$ LW O$ qV (Mv (news:=OZ c) OV O ND O (lz.cells (n:=2) (by rw[dt];rfl)) (by rw[dt];rfl)) ?_;refine Mn ze5 O (z1g h7 c v hc hv rest hb) ?_;rintro _ w8 ⟨rfl,h8,bz⟩;have mG:=bz.LY lz (by omega);have AO:=bz.LY jD (by omega);have cu:=h8.LY;refine Me O$ qM O$ LW O$ MC O$ Ma WL O$ qV (M1 U4 O O cu O)$ Md O O$ qV (Mv (news:=OZ c) OV O ND O (mG.cells (n:=2) (by rw[dt];rfl)) (by rw[dt];rfl)) ?_;refine Mn z9V O (YX c hc w8) ?_;rintro _ w9 ⟨rfl,eJ⟩;refine Ng O O$ MN O O$ LX$ Mz.qb (e:=[(4,_),(5,_),(33,_)]) ?_;refine M8 O (λc1=>?_)$ λc1=>?_
  ·omega
  ·have AP:=eJ.LY AO;refine py$ qN O$ LW O$ Me O$ Mb O (NT z54 O O O AP (by simp)) ?_;rintro w10 ⟨fi,aq⟩;replace fi:M7 w10 b5 [I 0] 35:=fi;refine LX$ z5u Tryz.func147 zcS (z1y (b2:=b2) (b6:=b6) fi) ?_;rintro u w' rfl;have uj:Ql w9 r s (a+(c.enc v).length):=⟨eJ.LY h8.rd.1,h8.rd.2⟩;refine⟨_,.tmp O (.cell1 U35 O O ((fi).cell _) .nil),_,rfl,rfl,⟨aq.LY uj.1 (by omega),uj.2⟩,?_⟩;have iR:Ext w w7:=((ad.trans af).trans ai).trans oS;have mH:Kp (λk=>k=r) w w8:=iR.kp.LS bz (λi hi=>hi.elim (λe=> .inl (by omega)) .inr);exact(mH.trans eJ.kp).LS aq (λi hi=> .inl (by omega))
end
end Go.Proofs.YtfgjaafcgghnoaaGreatDoor
