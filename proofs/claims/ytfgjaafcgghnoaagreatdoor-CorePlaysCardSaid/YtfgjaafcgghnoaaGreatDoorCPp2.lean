/- Merged by program. -/
import Derived.Test.YtfgjaafcgghnoaaGreatDoorRows
import Derived.Test.YtfgjaafcgghnoaaGreatDoorCPp1
import Derived.KernelRfl
import Derived.Lib.AppendZerosOnto
import Derived.Lib.Overlaps
import Derived.Maps.RangeRun
set_option linter.all false
set_option maxRecDepth 1000000
set_option maxHeartbeats 16000000
namespace Go.Proofs.YtfgjaafcgghnoaaGreatDoor
open Go Go.RowKit Go.Proofs.Tryz
set_option linter.unusedSimpArgs false
theorem Oo {P:Program}{f:FuncId}{fn:Func}(h:P.funcs[f]? =some fn)(h2:(fn.name=="runtime.NumGoroutine")=false:=by kernel_rfl)(h3:fn.body.isNone=false:=by rfl):CF P f:=⟨fn,h,h2,h3⟩
theorem OL:TI prog 3 (Value.int .i64 0) 1 8:=Om (by kernel_rfl)
theorem Tf:TI prog 4 (Value.bool false) 1 1:=Om (by kernel_rfl)
theorem VO:TI prog 5 (Value.int .u8 0) 1 1:=Om (by kernel_rfl)
theorem ti9:TI prog 9 (Value.string ⟨#[]⟩) 1 16:=Om (by kernel_rfl)
theorem ziP:TI prog 22 (Value.slice none 0 0) 1 24:=Om (by kernel_rfl)
theorem zjg:TI prog 24 (Value.agg #[Value.int .i64 0,Value.slice none 0 0,Value.bool false,Value.int .i64 0,Value.int .i64 0]) 5 56:=Om (by kernel_rfl)
theorem zgB:TI prog 25 (Value.slice none 0 0) 1 24:=Om (by kernel_rfl)
theorem zeg:TI prog 27 (Value.pointer none) 1 8:=Om (by kernel_rfl)
theorem z7v:TI prog 28 (Value.pointer none) 1 8:=Om (by kernel_rfl)
theorem zc1:TI prog 29 (Value.pointer none) 1 8:=Om (by kernel_rfl)
theorem Tv:TI prog 31 (Value.agg #[Value.pointer none,Value.pointer none,Value.pointer none,Value.pointer none,Value.int .i64 0]) 5 40:=Om (by kernel_rfl)
theorem z8A:TI prog 35 (Value.int .i64 0) 1 8:=Om (by kernel_rfl)
theorem z4a:TI prog 40 (Value.slice none 0 0) 1 24:=Om (by kernel_rfl)
theorem Tr:TI prog 41 (Value.int .u64 0) 1 8:=Om (by kernel_rfl)
theorem QC:TI prog 45 (Value.slice none 0 0) 1 24:=Om (by kernel_rfl)
theorem NV:TI prog 46 (Value.int .u32 0) 1 4:=Om (by kernel_rfl)
theorem zfZ:TI prog 48 (Value.pointer none) 1 8:=Om (by kernel_rfl)
theorem zdM:TI prog 58 (Value.nilFunc) 1 8:=Om (by kernel_rfl)
theorem z7Y:TI prog 64 (Value.agg #[Value.int .i64 0,Value.int .i64 0,Value.int .i64 0,Value.int .i64 0,Value.string ⟨#[]⟩,Value.bool false]) 6 56:=Om (by kernel_rfl)
theorem zin:TI prog 66 (Value.agg #[Value.slice none 0 0,Value.slice none 0 0,Value.int .i64 0,Value.int .i64 0,Value.bool false,Value.bool false]) 6 72:=Om (by kernel_rfl)
theorem z0s:TI prog 71 (Value.agg #[Value.int .i64 0,Value.int .i64 0,Value.int .i64 0,Value.int .i64 0,Value.int .i64 0,Value.int .i64 0,Value.int .i64 0]) 7 56:=Om (by kernel_rfl)
theorem z9P:TI prog 80 (Value.agg #[Value.int .i64 0,Value.int .i64 0]) 2 16:=Om (by kernel_rfl)
theorem Qm:TI prog 88 (Value.agg #[Value.int .i64 0,Value.int .i64 0,Value.int .i64 0,Value.int .i64 0,Value.int .i64 0]) 5 40:=Om (by kernel_rfl)
theorem zdQ:TI prog 90 (Value.pointer none) 1 8:=Om (by kernel_rfl)
theorem zbi:TI prog 97 (Value.agg #[Value.int .i64 0,Value.int .i64 0,Value.bool false]) 3 24:=Om (by kernel_rfl)
theorem ziN:TI prog 99 (Value.agg #[Value.int .i64 0,Value.int .i64 0,Value.bool false,Value.pointer none,Value.pointer none,Value.bool false]) 6 48:=Om (by kernel_rfl)
theorem zca:TI prog 100 (Value.pointer none) 1 8:=Om (by kernel_rfl)
theorem zcg:TI prog 101 (Value.map none) 1 8:=Om (by kernel_rfl)
theorem zhA:TI prog 103 (Value.agg #[Value.pointer none,Value.pointer none,Value.pointer none,Value.map none,Value.int .i64 0,Value.int .i64 0,Value.int .i64 0,Value.int .i64 0,Value.int .i64 0,Value.int .i64 0,Value.int .i64 0,Value.bool false]) 12 96:=Om (by kernel_rfl)
theorem PN:TI prog 108 (Value.agg #[Value.int .i64 0,Value.int .i64 0]) 2 16:=Om (by kernel_rfl)
theorem Su:TI prog 113 (Value.agg #[Value.int .u32 0,Value.int .u32 0]) 2 8:=Om (by kernel_rfl)
theorem zd6:TI prog 116 (Value.map none) 1 8:=Om (by kernel_rfl)
theorem z9L:TI prog 118 (Value.agg #[Value.slice none 0 0,Value.int .i64 0,Value.int .u8 0]) 3 40:=Om (by kernel_rfl)
theorem z6A:TI prog 120 (Value.agg #[Value.int .i64 0,Value.slice none 0 0,Value.int .i64 0,Value.int .u8 0]) 4 48:=Om (by kernel_rfl)
theorem z5N:TI prog 121 (Value.slice none 0 0) 1 24:=Om (by kernel_rfl)
theorem zhD:TI prog 123 (Value.agg #[Value.int .i64 0,Value.slice none 0 0,Value.int .i64 0,Value.int .u8 0,Value.int .i64 0,Value.int .i64 0,Value.map none,Value.slice none 0 0,Value.bool false,Value.int .i64 0,Value.int .i64 0]) 11 120:=Om (by kernel_rfl)
theorem zcs:TI prog 124 (Value.slice none 0 0) 1 24:=Om (by kernel_rfl)
theorem zgk:TI prog 126 (Value.agg #[Value.int .i64 0,Value.slice none 0 0,Value.slice none 0 0,Value.bool false]) 4 64:=Om (by kernel_rfl)
theorem z0T:TI prog 133 (Value.pointer none) 1 8:=Om (by kernel_rfl)
theorem WK:TI prog 143 (Value.agg #[Value.int .i64 0,Value.int .i64 0,Value.int .i64 0]) 3 24:=Om (by kernel_rfl)
theorem zgC:TI prog 145 (Value.agg #[Value.int .i64 0,Value.int .i64 0,Value.int .i64 0,Value.int .i64 0,Value.int .i64 0,Value.pointer none,Value.bool false]) 7 56:=Om (by kernel_rfl)
theorem Ss:TI prog 149 (Value.agg #[Value.int .i64 0,Value.int .i64 0,Value.int .i64 0,Value.int .i64 0,Value.int .i64 0,Value.int .i64 0,Value.int .i64 0,Value.int .i64 0]) 8 64:=Om (by kernel_rfl)
theorem z0M:TI prog 151 (Value.nilIface) 1 16:=Om (by kernel_rfl)
theorem zcK:TI prog 152 (Value.pointer none) 1 8:=Om (by kernel_rfl)
theorem zeL:TI prog 154 (Value.agg #[Value.int .i64 0,Value.int .i64 0,Value.int .i64 0,Value.int .i64 0,Value.int .i64 0,Value.int .i64 0,Value.int .i64 0,Value.int .i64 0,Value.nilIface,Value.pointer none]) 10 88:=Om (by kernel_rfl)
theorem QD:TI prog 157 (Value.agg #[Value.int .i64 0,Value.int .i64 0]) 2 16:=Om (by kernel_rfl)
theorem z0E:TI prog 158 (Value.pointer none) 1 8:=Om (by kernel_rfl)
theorem VZ:TI prog 171 (Value.slice none 0 0) 1 24:=Om (by kernel_rfl)
theorem z1l:TI prog 174 (Value.int .u8 0) 1 1:=Om (by kernel_rfl)
theorem zcZ:TI prog 177 (Value.agg #[Value.pointer none,Value.slice none 0 0]) 2 32:=Om (by kernel_rfl)
theorem z62:TI prog 187 (Value.map none) 1 8:=Om (by kernel_rfl)
theorem z2t:TI prog 189 (Value.agg #[Value.slice none 0 0,Value.map none]) 2 32:=Om (by kernel_rfl)
theorem zhf:TI prog 191 (Value.agg #[Value.int .i64 0,Value.slice none 0 0,Value.map none,Value.slice none 0 0,Value.map none,Value.slice none 0 0,Value.map none,Value.slice none 0 0,Value.map none,Value.int .i64 0,Value.map none]) 11 152:=Om (by kernel_rfl)
theorem VX:TI prog 198 (Value.agg #[Value.pointer none,Value.int .i64 0,Value.int .i64 0]) 3 24:=Om (by kernel_rfl)
theorem zc8:TI prog 200 (Value.agg #[Value.pointer none,Value.int .i64 0,Value.int .i64 0,Value.slice none 0 0,Value.int .i64 0,Value.int .i64 0,Value.int .u32 0,Value.nilFunc,Value.bool false]) 9 88:=Om (by kernel_rfl)
theorem zg8:TI prog 204 (Value.agg #[Value.pointer none,Value.int .i64 0,Value.int .i64 0,Value.int .i64 0,Value.int .u32 0]) 5 40:=Om (by kernel_rfl)
theorem SK:TI prog 212 (Value.agg #[Value.int .i64 0,Value.int .i64 0,Value.int .i64 0]) 3 24:=Om (by kernel_rfl)
theorem z9k:TI prog 215 (Value.pointer none) 1 8:=Om (by kernel_rfl)
theorem z6u:TI prog 217 (Value.agg #[Value.string ⟨#[]⟩,Value.bool false]) 2 24:=Om (by kernel_rfl)
theorem zgv:TI prog 219 (Value.agg #[Value.string ⟨#[]⟩,Value.bool false,Value.int .i64 0]) 3 32:=Om (by kernel_rfl)
theorem z6l:TI prog 231 (Value.pointer none) 1 8:=Om (by kernel_rfl)
theorem TV:TI prog 233 (Value.agg #[Value.int .i64 0,Value.int .i64 0]) 2 16:=Om (by kernel_rfl)
theorem S2:TI prog 238 (Value.agg #[Value.int .i64 0,Value.int .u64 0,Value.int .i64 0,Value.int .i64 0]) 4 32:=Om (by kernel_rfl)
theorem zfu:TI prog 251 (Value.agg #[Value.nilIface,Value.int .i64 0,Value.int .i64 0]) 3 32:=Om (by kernel_rfl)
theorem PB:TI prog 260 (Value.agg #[Value.int .u8 0,Value.int .u64 0]) 2 16:=Om (by kernel_rfl)
theorem zfB:TI prog 262 (Value.agg #[Value.string ⟨#[]⟩,Value.int .i64 0]) 2 24:=Om (by kernel_rfl)
theorem On:TI prog 265 (Value.agg #[Value.bool false,Value.bool false,Value.int .i64 0]) 3 16:=Om (by kernel_rfl)
theorem zcw:TI prog 269 (Value.nilFunc) 1 8:=Om (by kernel_rfl)
theorem PD:TI prog 274 (Value.agg #[Value.slice none 0 0,Value.int .i64 0]) 2 32:=Om (by kernel_rfl)
theorem zeo:TI prog 275 (Value.agg #[Value.slice none 0 0,Value.int .i64 0,Value.slice none 0 0,Value.int .i64 0,Value.slice none 0 0,Value.int .i64 0,Value.slice none 0 0,Value.int .i64 0,Value.slice none 0 0,Value.int .i64 0,Value.slice none 0 0,Value.int .i64 0,Value.slice none 0 0,Value.int .i64 0,Value.slice none 0 0,Value.int .i64 0,Value.slice none 0 0,Value.int .i64 0,Value.slice none 0 0,Value.int .i64 0,Value.slice none 0 0,Value.int .i64 0,Value.slice none 0 0,Value.int .i64 0,Value.slice none 0 0,Value.int .i64 0,Value.slice none 0 0,Value.int .i64 0,Value.slice none 0 0,Value.int .i64 0,Value.slice none 0 0,Value.int .i64 0,Value.slice none 0 0,Value.int .i64 0]) 34 544:=Om (by kernel_rfl)
theorem zc4:TI prog 277 (Value.agg #[Value.slice none 0 0,Value.int .i64 0,Value.slice none 0 0,Value.int .i64 0,Value.slice none 0 0,Value.int .i64 0,Value.slice none 0 0,Value.int .i64 0,Value.slice none 0 0,Value.int .i64 0,Value.slice none 0 0,Value.int .i64 0,Value.slice none 0 0,Value.int .i64 0,Value.slice none 0 0,Value.int .i64 0,Value.slice none 0 0,Value.int .i64 0,Value.slice none 0 0,Value.int .i64 0,Value.slice none 0 0,Value.int .i64 0,Value.slice none 0 0,Value.int .i64 0,Value.slice none 0 0,Value.int .i64 0,Value.slice none 0 0,Value.int .i64 0,Value.slice none 0 0,Value.int .i64 0,Value.slice none 0 0,Value.int .i64 0,Value.slice none 0 0,Value.int .i64 0,Value.int .i64 0]) 35 552:=Om (by kernel_rfl)
theorem zfJ:TI prog 279 (Value.agg #[Value.int .i64 0,Value.int .i64 0,Value.int .i64 0,Value.int .i64 0,Value.int .i64 0,Value.slice none 0 0,Value.int .i64 0,Value.slice none 0 0,Value.int .i64 0,Value.slice none 0 0,Value.int .i64 0,Value.slice none 0 0,Value.int .i64 0,Value.slice none 0 0,Value.int .i64 0,Value.slice none 0 0,Value.int .i64 0,Value.slice none 0 0,Value.int .i64 0,Value.slice none 0 0,Value.int .i64 0,Value.slice none 0 0,Value.int .i64 0,Value.slice none 0 0,Value.int .i64 0,Value.slice none 0 0,Value.int .i64 0,Value.slice none 0 0,Value.int .i64 0,Value.slice none 0 0,Value.int .i64 0,Value.slice none 0 0,Value.int .i64 0,Value.slice none 0 0,Value.int .i64 0,Value.slice none 0 0,Value.int .i64 0,Value.slice none 0 0,Value.int .i64 0,Value.int .i64 0,Value.pointer none,Value.int .i64 0,Value.int .i64 0]) 43 616:=Om (by kernel_rfl)
theorem zeW:TI prog 286 (Value.agg #[Value.slice none 0 0,Value.int .i64 0]) 2 32:=Om (by kernel_rfl)
theorem zfo:TI prog 294 (Value.agg #[Value.int .i64 0,Value.int .u64 0,Value.int .i64 0,Value.int .i64 0,Value.nilIface]) 5 48:=Om (by kernel_rfl)
theorem zcP:TI prog 300 (Value.pointer none) 1 8:=Om (by kernel_rfl)
theorem zez:TI prog 306 (Value.agg #[Value.pointer none,Value.bool false]) 2 16:=Om (by kernel_rfl)
theorem zfR:TI prog 316 (Value.agg #[Value.pointer none,Value.bool false]) 2 16:=Om (by kernel_rfl)
theorem z8G:TI prog 320 (Value.slice none 0 0) 1 24:=Om (by kernel_rfl)
theorem U7:TI prog 323 (Value.agg #[Value.int .u8 0,Value.int .u64 0,Value.int .u64 0]) 3 24:=Om (by kernel_rfl)
theorem Vb:TI prog 334 (Value.agg #[Value.int .i64 0,Value.string ⟨#[]⟩]) 2 24:=Om (by kernel_rfl)
theorem Zz:TI prog 350 (Value.agg #[Value.int .i64 0,Value.int .i64 0]) 2 16:=Om (by kernel_rfl)
theorem Rr:TI prog 353 (Value.agg #[Value.int .u64 0,Value.int .i64 0]) 2 16:=Om (by kernel_rfl)
theorem Tk:TI prog 354 (Value.agg #[Value.int .u64 0,Value.int .i64 0,Value.int .u64 0,Value.int .i64 0]) 4 32:=Om (by kernel_rfl)
theorem z3h:TI prog 373 (Value.int .u64 0) 1 8:=Om (by kernel_rfl)
theorem zee:OY prog 24 0 0 1 false:=⟨_,_,_,_,_,underlying24,rfl,rfl,OL,underlying3,rfl⟩
theorem zdj:OY prog 24 1 1 1 false:=⟨_,_,_,_,_,underlying24,rfl,rfl,ziP,underlying22,rfl⟩
theorem z9w:OY prog 24 2 2 1 false:=⟨_,_,_,_,_,underlying24,rfl,rfl,Tf,underlying4,rfl⟩
theorem ze6:OY prog 24 3 3 1 false:=⟨_,_,_,_,_,underlying24,rfl,rfl,OL,underlying3,rfl⟩
theorem zdV:OY prog 24 4 4 1 false:=⟨_,_,_,_,_,underlying24,rfl,rfl,OL,underlying3,rfl⟩
theorem V7:OY prog 31 1 1 1 false:=⟨_,_,_,_,_,underlying31,rfl,rfl,z7v,underlying28,rfl⟩
theorem z4T:OY prog 31 2 2 1 false:=⟨_,_,_,_,_,underlying31,rfl,rfl,zc1,underlying29,rfl⟩
theorem zdY:OY prog 31 4 4 1 false:=⟨_,_,_,_,_,underlying31,rfl,rfl,OL,underlying3,rfl⟩
theorem ziU:SP prog 31 [(0,1),(1,1),(2,1),(3,1),(4,1)]:=⟨_,underlying31,λ_=>by simp[zeg.size,z7v.size,zc1.size,OL.size,Sem.run_bind,Sem.run_pure]⟩
theorem z4L:OY prog 64 0 0 1 false:=⟨_,_,_,_,_,underlying64,rfl,rfl,OL,underlying3,rfl⟩
theorem z4C:OY prog 64 1 1 1 false:=⟨_,_,_,_,_,underlying64,rfl,rfl,OL,underlying3,rfl⟩
theorem ze2:OY prog 64 2 2 1 false:=⟨_,_,_,_,_,underlying64,rfl,rfl,OL,underlying3,rfl⟩
theorem ze1:OY prog 64 3 3 1 false:=⟨_,_,_,_,_,underlying64,rfl,rfl,OL,underlying3,rfl⟩
theorem z9u:OY prog 64 4 4 1 false:=⟨_,_,_,_,_,underlying64,rfl,rfl,ti9,underlying9,rfl⟩
theorem z8Q:OY prog 64 5 5 1 false:=⟨_,_,_,_,_,underlying64,rfl,rfl,Tf,underlying4,rfl⟩
theorem Wl:OY prog 66 0 0 1 false:=⟨_,_,_,_,_,underlying66,rfl,rfl,zgB,underlying25,rfl⟩
theorem SE:OY prog 66 1 1 1 false:=⟨_,_,_,_,_,underlying66,rfl,rfl,QC,underlying45,rfl⟩
theorem Wx:OY prog 66 2 2 1 false:=⟨_,_,_,_,_,underlying66,rfl,rfl,OL,underlying3,rfl⟩
theorem Xw:OY prog 66 3 3 1 false:=⟨_,_,_,_,_,underlying66,rfl,rfl,OL,underlying3,rfl⟩
theorem Ta:OY prog 66 4 4 1 false:=⟨_,_,_,_,_,underlying66,rfl,rfl,Tf,underlying4,rfl⟩
theorem QI:OY prog 66 5 5 1 false:=⟨_,_,_,_,_,underlying66,rfl,rfl,Tf,underlying4,rfl⟩
theorem ziq:SP prog 66 [(0,1),(1,1),(2,1),(3,1),(4,1),(5,1)]:=⟨_,underlying66,λ_=>by simp[zgB.size,OL.size,Tf.size,QC.size,Sem.run_bind,Sem.run_pure]⟩
theorem zar:OY prog 71 1 1 1 false:=⟨_,_,_,_,_,underlying71,rfl,rfl,OL,underlying3,rfl⟩
theorem z9X:OY prog 71 2 2 1 false:=⟨_,_,_,_,_,underlying71,rfl,rfl,OL,underlying3,rfl⟩
theorem za4:OY prog 71 3 3 1 false:=⟨_,_,_,_,_,underlying71,rfl,rfl,OL,underlying3,rfl⟩
theorem zd8:OY prog 71 4 4 1 false:=⟨_,_,_,_,_,underlying71,rfl,rfl,OL,underlying3,rfl⟩
theorem z9b:OY prog 71 5 5 1 false:=⟨_,_,_,_,_,underlying71,rfl,rfl,OL,underlying3,rfl⟩
theorem z9M:OY prog 71 6 6 1 false:=⟨_,_,_,_,_,underlying71,rfl,rfl,OL,underlying3,rfl⟩
theorem zie:SP prog 71 [(0,1),(1,1),(2,1),(3,1),(4,1),(5,1),(6,1)]:=⟨_,underlying71,λ_=>by simp[OL.size,Sem.run_bind,Sem.run_pure]⟩
theorem XB:OY prog 80 0 0 1 false:=⟨_,_,_,_,_,underlying80,rfl,rfl,OL,underlying3,rfl⟩
theorem XJ:OY prog 80 1 1 1 false:=⟨_,_,_,_,_,underlying80,rfl,rfl,OL,underlying3,rfl⟩
theorem zj9:SP prog 80 [(0,1),(1,1)]:=⟨_,underlying80,λ_=>by simp[OL.size,Sem.run_bind,Sem.run_pure]⟩
theorem z0d:OY prog 88 0 0 1 false:=⟨_,_,_,_,_,underlying88,rfl,rfl,OL,underlying3,rfl⟩
theorem XF:OY prog 88 1 1 1 false:=⟨_,_,_,_,_,underlying88,rfl,rfl,OL,underlying3,rfl⟩
theorem z9C:OY prog 88 2 2 1 false:=⟨_,_,_,_,_,underlying88,rfl,rfl,OL,underlying3,rfl⟩
theorem z9F:OY prog 88 3 3 1 false:=⟨_,_,_,_,_,underlying88,rfl,rfl,OL,underlying3,rfl⟩
theorem Sd:OY prog 88 4 4 1 false:=⟨_,_,_,_,_,underlying88,rfl,rfl,OL,underlying3,rfl⟩
theorem zbt:SP prog 88 [(0,1),(1,1),(2,1),(3,1),(4,1)]:=⟨_,underlying88,λ_=>by simp[OL.size,Sem.run_bind,Sem.run_pure]⟩
theorem z2h:OY prog 97 0 0 1 false:=⟨_,_,_,_,_,underlying97,rfl,rfl,OL,underlying3,rfl⟩
theorem Zq:OY prog 97 1 1 1 false:=⟨_,_,_,_,_,underlying97,rfl,rfl,OL,underlying3,rfl⟩
theorem Wf:OY prog 97 2 2 1 false:=⟨_,_,_,_,_,underlying97,rfl,rfl,Tf,underlying4,rfl⟩
theorem zia:SP prog 97 [(0,1),(1,1),(2,1)]:=⟨_,underlying97,λ_=>by simp[OL.size,Tf.size,Sem.run_bind,Sem.run_pure]⟩
theorem QT:OY prog 99 0 0 3 true:=⟨_,_,_,_,_,underlying99,rfl,rfl,zbi,underlying97,rfl⟩
theorem z0l:OY prog 99 1 3 1 false:=⟨_,_,_,_,_,underlying99,rfl,rfl,zc1,underlying29,rfl⟩
theorem T4:OY prog 99 2 4 1 false:=⟨_,_,_,_,_,underlying99,rfl,rfl,zdQ,underlying90,rfl⟩
theorem z5z:OY prog 99 3 5 1 false:=⟨_,_,_,_,_,underlying99,rfl,rfl,Tf,underlying4,rfl⟩
theorem zi1:SP prog 99 [(0,3),(3,1),(4,1),(5,1)]:=⟨_,underlying99,λ_=>by simp[zc1.size,Tf.size,zdQ.size,zbi.size,Sem.run_bind,Sem.run_pure]⟩
theorem Tw:OY prog 103 0 0 1 false:=⟨_,_,_,_,_,underlying103,rfl,rfl,zeg,underlying27,rfl⟩
theorem z2a:OY prog 103 1 1 1 false:=⟨_,_,_,_,_,underlying103,rfl,rfl,zfZ,underlying48,rfl⟩
theorem z68:OY prog 103 2 2 1 false:=⟨_,_,_,_,_,underlying103,rfl,rfl,zca,underlying100,rfl⟩
theorem TE:OY prog 103 3 3 1 false:=⟨_,_,_,_,_,underlying103,rfl,rfl,zcg,underlying101,rfl⟩
theorem Uj:OY prog 103 4 4 7 true:=⟨_,_,_,_,_,underlying103,rfl,rfl,z0s,underlying71,rfl⟩
theorem z6t:OY prog 103 5 11 1 false:=⟨_,_,_,_,_,underlying103,rfl,rfl,Tf,underlying4,rfl⟩
theorem zg7:SP prog 103 [(0,1),(1,1),(2,1),(3,1),(4,7),(11,1)]:=⟨_,underlying103,λ_=>by simp[zca.size,zcg.size,zeg.size,Tf.size,zfZ.size,z0s.size,Sem.run_bind,Sem.run_pure]⟩
theorem PF:OY prog 108 0 0 1 false:=⟨_,_,_,_,_,underlying108,rfl,rfl,OL,underlying3,rfl⟩
theorem PR:OY prog 108 1 1 1 false:=⟨_,_,_,_,_,underlying108,rfl,rfl,OL,underlying3,rfl⟩
theorem zg4:SP prog 108 [(0,1),(1,1)]:=⟨_,underlying108,λ_=>by simp[OL.size,Sem.run_bind,Sem.run_pure]⟩
theorem VE:OY prog 113 0 0 1 false:=⟨_,_,_,_,_,underlying113,rfl,rfl,NV,underlying46,rfl⟩
theorem Us:OY prog 113 1 1 1 false:=⟨_,_,_,_,_,underlying113,rfl,rfl,NV,underlying46,rfl⟩
theorem zcA:SP prog 113 [(0,1),(1,1)]:=⟨_,underlying113,λ_=>by simp[NV.size,Sem.run_bind,Sem.run_pure]⟩
theorem zaW:OY prog 118 0 0 1 false:=⟨_,_,_,_,_,underlying118,rfl,rfl,z4a,underlying40,rfl⟩
theorem zb8:OY prog 118 1 1 1 false:=⟨_,_,_,_,_,underlying118,rfl,rfl,OL,underlying3,rfl⟩
theorem zc0:OY prog 118 2 2 1 false:=⟨_,_,_,_,_,underlying118,rfl,rfl,VO,underlying5,rfl⟩
theorem Z7:OY prog 120 0 0 1 false:=⟨_,_,_,_,_,underlying120,rfl,rfl,OL,underlying3,rfl⟩
theorem zb6:OY prog 120 1 1 3 true:=⟨_,_,_,_,_,underlying120,rfl,rfl,z9L,underlying118,rfl⟩
theorem zeA:SP prog 120 [(0,1),(1,3)]:=⟨_,underlying120,λ_=>by simp[z9L.size,OL.size,Sem.run_bind,Sem.run_pure]⟩
theorem Vs:OY prog 123 0 0 4 true:=⟨_,_,_,_,_,underlying123,rfl,rfl,z6A,underlying120,rfl⟩
theorem Z3:OY prog 123 1 4 2 true:=⟨_,_,_,_,_,underlying123,rfl,rfl,z9P,underlying80,rfl⟩
theorem z1B:OY prog 123 2 6 1 false:=⟨_,_,_,_,_,underlying123,rfl,rfl,zd6,underlying116,rfl⟩
theorem WZ:OY prog 123 3 7 1 false:=⟨_,_,_,_,_,underlying123,rfl,rfl,z5N,underlying121,rfl⟩
theorem z25:OY prog 123 4 8 1 false:=⟨_,_,_,_,_,underlying123,rfl,rfl,Tf,underlying4,rfl⟩
theorem z6p:OY prog 123 5 9 1 false:=⟨_,_,_,_,_,underlying123,rfl,rfl,OL,underlying3,rfl⟩
theorem z6c:OY prog 123 6 10 1 false:=⟨_,_,_,_,_,underlying123,rfl,rfl,OL,underlying3,rfl⟩
theorem zeQ:SP prog 123 [(0,4),(4,2),(6,1),(7,1),(8,1),(9,1),(10,1)]:=⟨_,underlying123,λ_=>by simp[zd6.size,z6A.size,z5N.size,OL.size,Tf.size,z9P.size,Sem.run_bind,Sem.run_pure]⟩
theorem z6B:OY prog 126 0 0 1 false:=⟨_,_,_,_,_,underlying126,rfl,rfl,OL,underlying3,rfl⟩
theorem TL:OY prog 126 1 1 1 false:=⟨_,_,_,_,_,underlying126,rfl,rfl,zcs,underlying124,rfl⟩
theorem zbA:OY prog 126 3 3 1 false:=⟨_,_,_,_,_,underlying126,rfl,rfl,Tf,underlying4,rfl⟩
theorem zeS:SP prog 126 [(0,1),(1,1),(2,1),(3,1)]:=⟨_,underlying126,λ_=>by simp[zcs.size,OL.size,Tf.size,Sem.run_bind,Sem.run_pure]⟩
theorem VK:OY prog 143 0 0 1 false:=⟨_,_,_,_,_,underlying143,rfl,rfl,OL,underlying3,rfl⟩
theorem Sr:OY prog 143 1 1 1 false:=⟨_,_,_,_,_,underlying143,rfl,rfl,OL,underlying3,rfl⟩
theorem Ub:OY prog 143 2 2 1 false:=⟨_,_,_,_,_,underlying143,rfl,rfl,OL,underlying3,rfl⟩
theorem zgM:SP prog 143 [(0,1),(1,1),(2,1)]:=⟨_,underlying143,λ_=>by simp[OL.size,Sem.run_bind,Sem.run_pure]⟩
theorem PM:OY prog 145 0 0 3 true:=⟨_,_,_,_,_,underlying145,rfl,rfl,WK,underlying143,rfl⟩
theorem WV:OY prog 145 1 3 2 true:=⟨_,_,_,_,_,underlying145,rfl,rfl,PN,underlying108,rfl⟩
theorem Uc:OY prog 145 2 5 1 false:=⟨_,_,_,_,_,underlying145,rfl,rfl,z7v,underlying28,rfl⟩
theorem z69:OY prog 145 3 6 1 false:=⟨_,_,_,_,_,underlying145,rfl,rfl,Tf,underlying4,rfl⟩
theorem zhd:SP prog 145 [(0,3),(3,2),(5,1),(6,1)]:=⟨_,underlying145,λ_=>by simp[PN.size,WK.size,z7v.size,Tf.size,Sem.run_bind,Sem.run_pure]⟩
theorem SV:OY prog 149 0 0 1 false:=⟨_,_,_,_,_,underlying149,rfl,rfl,OL,underlying3,rfl⟩
theorem z1w:OY prog 149 1 1 1 false:=⟨_,_,_,_,_,underlying149,rfl,rfl,OL,underlying3,rfl⟩
theorem Xq:OY prog 149 2 2 5 true:=⟨_,_,_,_,_,underlying149,rfl,rfl,Qm,underlying88,rfl⟩
theorem TJ:OY prog 149 3 7 1 false:=⟨_,_,_,_,_,underlying149,rfl,rfl,OL,underlying3,rfl⟩
theorem zcr:SP prog 149 [(0,1),(1,1),(2,5),(7,1)]:=⟨_,underlying149,λ_=>by simp[OL.size,Qm.size,Sem.run_bind,Sem.run_pure]⟩
theorem VC:OY prog 154 0 0 8 true:=⟨_,_,_,_,_,underlying154,rfl,rfl,Ss,underlying149,rfl⟩
theorem zbj:OY prog 154 1 8 1 false:=⟨_,_,_,_,_,underlying154,rfl,rfl,z0M,underlying151,rfl⟩
theorem z6z:OY prog 154 2 9 1 false:=⟨_,_,_,_,_,underlying154,rfl,rfl,zcK,underlying152,rfl⟩
theorem zhk:SP prog 154 [(0,8),(8,1),(9,1)]:=⟨_,underlying154,λ_=>by simp[Ss.size,z0M.size,zcK.size,Sem.run_bind,Sem.run_pure]⟩
theorem Ru:OY prog 157 0 0 1 false:=⟨_,_,_,_,_,underlying157,rfl,rfl,OL,underlying3,rfl⟩
theorem R9:OY prog 157 1 1 1 false:=⟨_,_,_,_,_,underlying157,rfl,rfl,OL,underlying3,rfl⟩
theorem za0:SP prog 157 [(0,1),(1,1)]:=⟨_,underlying157,λ_=>by simp[OL.size,Sem.run_bind,Sem.run_pure]⟩
theorem YV:OY prog 177 1 1 1 false:=⟨_,_,_,_,_,underlying177,rfl,rfl,VZ,underlying171,rfl⟩
theorem OW:OY prog 189 0 0 1 false:=⟨_,_,_,_,_,underlying189,rfl,rfl,z4a,underlying40,rfl⟩
theorem WL:OY prog 189 1 1 1 false:=⟨_,_,_,_,_,underlying189,rfl,rfl,z62,underlying187,rfl⟩
theorem Ra:OY prog 191 0 0 1 false:=⟨_,_,_,_,_,underlying191,rfl,rfl,OL,underlying3,rfl⟩
theorem Pp:OY prog 191 1 1 2 true:=⟨_,_,_,_,_,underlying191,rfl,rfl,z2t,underlying189,rfl⟩
theorem Q4:OY prog 191 2 3 2 true:=⟨_,_,_,_,_,underlying191,rfl,rfl,z2t,underlying189,rfl⟩
theorem PI:OY prog 191 3 5 2 true:=⟨_,_,_,_,_,underlying191,rfl,rfl,z2t,underlying189,rfl⟩
theorem PZ:OY prog 191 4 7 2 true:=⟨_,_,_,_,_,underlying191,rfl,rfl,z2t,underlying189,rfl⟩
theorem PY:OY prog 191 5 9 1 false:=⟨_,_,_,_,_,underlying191,rfl,rfl,OL,underlying3,rfl⟩
theorem YU:OY prog 191 6 10 1 false:=⟨_,_,_,_,_,underlying191,rfl,rfl,z62,underlying187,rfl⟩
theorem zfU:SP prog 191 [(0,1),(1,2),(3,2),(5,2),(7,2),(9,1),(10,1)]:=⟨_,underlying191,λ_=>by simp[z62.size,z2t.size,OL.size,Sem.run_bind,Sem.run_pure]⟩
theorem Ty:OY prog 198 0 0 1 false:=⟨_,_,_,_,_,underlying198,rfl,rfl,z7v,underlying28,rfl⟩
theorem SN:OY prog 198 1 1 2 true:=⟨_,_,_,_,_,underlying198,rfl,rfl,PN,underlying108,rfl⟩
theorem zcH:SP prog 198 [(0,1),(1,2)]:=⟨_,underlying198,λ_=>by simp[PN.size,z7v.size,Sem.run_bind,Sem.run_pure]⟩
theorem Vx:OY prog 200 0 0 3 true:=⟨_,_,_,_,_,underlying200,rfl,rfl,VX,underlying198,rfl⟩
theorem Rt:OY prog 200 1 3 1 false:=⟨_,_,_,_,_,underlying200,rfl,rfl,VZ,underlying171,rfl⟩
theorem WJ:OY prog 200 2 4 1 false:=⟨_,_,_,_,_,underlying200,rfl,rfl,OL,underlying3,rfl⟩
theorem Zd:OY prog 200 3 5 1 false:=⟨_,_,_,_,_,underlying200,rfl,rfl,OL,underlying3,rfl⟩
theorem z26:OY prog 200 4 6 1 false:=⟨_,_,_,_,_,underlying200,rfl,rfl,NV,underlying46,rfl⟩
theorem YW:OY prog 200 5 7 1 false:=⟨_,_,_,_,_,underlying200,rfl,rfl,zdM,underlying58,rfl⟩
theorem WQ:OY prog 200 6 8 1 false:=⟨_,_,_,_,_,underlying200,rfl,rfl,Tf,underlying4,rfl⟩
theorem zcn:SP prog 200 [(0,3),(3,1),(4,1),(5,1),(6,1),(7,1),(8,1)]:=⟨_,underlying200,λ_=>by simp[VZ.size,VX.size,OL.size,Tf.size,NV.size,zdM.size,Sem.run_bind,Sem.run_pure]⟩
theorem Xp:OY prog 204 0 0 3 true:=⟨_,_,_,_,_,underlying204,rfl,rfl,VX,underlying198,rfl⟩
theorem Zb:OY prog 204 1 3 1 false:=⟨_,_,_,_,_,underlying204,rfl,rfl,OL,underlying3,rfl⟩
theorem zbb:OY prog 204 2 4 1 false:=⟨_,_,_,_,_,underlying204,rfl,rfl,NV,underlying46,rfl⟩
theorem zfD:SP prog 204 [(0,3),(3,1),(4,1)]:=⟨_,underlying204,λ_=>by simp[VX.size,OL.size,NV.size,Sem.run_bind,Sem.run_pure]⟩
theorem RO:OY prog 212 0 0 1 false:=⟨_,_,_,_,_,underlying212,rfl,rfl,OL,underlying3,rfl⟩
theorem SQ:OY prog 212 1 1 1 false:=⟨_,_,_,_,_,underlying212,rfl,rfl,OL,underlying3,rfl⟩
theorem Z1:OY prog 212 2 2 1 false:=⟨_,_,_,_,_,underlying212,rfl,rfl,OL,underlying3,rfl⟩
theorem zeH:SP prog 212 [(0,1),(1,1),(2,1)]:=⟨_,underlying212,λ_=>by simp[OL.size,Sem.run_bind,Sem.run_pure]⟩
theorem z1S:OY prog 217 0 0 1 false:=⟨_,_,_,_,_,underlying217,rfl,rfl,ti9,underlying9,rfl⟩
theorem z1D:OY prog 217 1 1 1 false:=⟨_,_,_,_,_,underlying217,rfl,rfl,Tf,underlying4,rfl⟩
theorem zgq:SP prog 217 [(0,1),(1,1)]:=⟨_,underlying217,λ_=>by simp[Tf.size,ti9.size,Sem.run_bind,Sem.run_pure]⟩
theorem Ut:OY prog 219 0 0 2 true:=⟨_,_,_,_,_,underlying219,rfl,rfl,z6u,underlying217,rfl⟩
theorem zaT:OY prog 219 1 2 1 false:=⟨_,_,_,_,_,underlying219,rfl,rfl,OL,underlying3,rfl⟩
theorem zhn:SP prog 219 [(0,2),(2,1)]:=⟨_,underlying219,λ_=>by simp[z6u.size,OL.size,Sem.run_bind,Sem.run_pure]⟩
theorem zb5:OY prog 233 0 0 1 false:=⟨_,_,_,_,_,underlying233,rfl,rfl,OL,underlying3,rfl⟩
theorem zbx:OY prog 233 1 1 1 false:=⟨_,_,_,_,_,underlying233,rfl,rfl,OL,underlying3,rfl⟩
theorem Yr:SP prog 233 [(0,1),(1,1)]:=⟨_,underlying233,λ_=>by simp[OL.size,Sem.run_bind,Sem.run_pure]⟩
theorem Xd:OY prog 238 0 0 1 false:=⟨_,_,_,_,_,underlying238,rfl,rfl,OL,underlying3,rfl⟩
theorem zb9:OY prog 238 1 1 1 false:=⟨_,_,_,_,_,underlying238,rfl,rfl,Tr,underlying41,rfl⟩
theorem RR:OY prog 238 2 2 1 false:=⟨_,_,_,_,_,underlying238,rfl,rfl,OL,underlying3,rfl⟩
theorem X8:OY prog 238 3 3 1 false:=⟨_,_,_,_,_,underlying238,rfl,rfl,OL,underlying3,rfl⟩
theorem zhm:SP prog 238 [(0,1),(1,1),(2,1),(3,1)]:=⟨_,underlying238,λ_=>by simp[OL.size,Tr.size,Sem.run_bind,Sem.run_pure]⟩
theorem zbH:OY prog 251 0 0 1 false:=⟨_,_,_,_,_,underlying251,rfl,rfl,z0M,underlying151,rfl⟩
theorem zbs:OY prog 251 1 1 1 false:=⟨_,_,_,_,_,underlying251,rfl,rfl,OL,underlying3,rfl⟩
theorem z1L:OY prog 251 2 2 1 false:=⟨_,_,_,_,_,underlying251,rfl,rfl,OL,underlying3,rfl⟩
theorem zhN:SP prog 251 [(0,1),(1,1),(2,1)]:=⟨_,underlying251,λ_=>by simp[z0M.size,OL.size,Sem.run_bind,Sem.run_pure]⟩
theorem QN:OY prog 260 0 0 1 false:=⟨_,_,_,_,_,underlying260,rfl,rfl,VO,underlying5,rfl⟩
theorem VJ:OY prog 260 1 1 1 false:=⟨_,_,_,_,_,underlying260,rfl,rfl,Tr,underlying41,rfl⟩
theorem zcb:SP prog 260 [(0,1),(1,1)]:=⟨_,underlying260,λ_=>by simp[Tr.size,VO.size,Sem.run_bind,Sem.run_pure]⟩
theorem z1F:OY prog 262 0 0 1 false:=⟨_,_,_,_,_,underlying262,rfl,rfl,ti9,underlying9,rfl⟩
theorem TC:OY prog 262 1 1 1 false:=⟨_,_,_,_,_,underlying262,rfl,rfl,OL,underlying3,rfl⟩
theorem zga:SP prog 262 [(0,1),(1,1)]:=⟨_,underlying262,λ_=>by simp[OL.size,ti9.size,Sem.run_bind,Sem.run_pure]⟩
theorem zbM:OY prog 265 0 0 1 false:=⟨_,_,_,_,_,underlying265,rfl,rfl,Tf,underlying4,rfl⟩
theorem zbO:OY prog 265 1 1 1 false:=⟨_,_,_,_,_,underlying265,rfl,rfl,Tf,underlying4,rfl⟩
theorem z1J:OY prog 265 2 2 1 false:=⟨_,_,_,_,_,underlying265,rfl,rfl,OL,underlying3,rfl⟩
theorem Uz:SP prog 265 [(0,1),(1,1),(2,1)]:=⟨_,underlying265,λ_=>by simp[OL.size,Tf.size,Sem.run_bind,Sem.run_pure]⟩
theorem R5:OY prog 274 0 0 1 false:=⟨_,_,_,_,_,underlying274,rfl,rfl,QC,underlying45,rfl⟩
theorem z1y:OY prog 274 1 1 1 false:=⟨_,_,_,_,_,underlying274,rfl,rfl,OL,underlying3,rfl⟩
theorem zck:SP prog 274 [(0,1),(1,1)]:=⟨_,underlying274,λ_=>by simp[OL.size,QC.size,Sem.run_bind,Sem.run_pure]⟩
theorem z6a:OY prog 277 0 0 34 true:=⟨_,_,_,_,_,underlying277,rfl,rfl,zeo,underlying275,rfl⟩
theorem TD:OY prog 277 1 34 1 false:=⟨_,_,_,_,_,underlying277,rfl,rfl,OL,underlying3,rfl⟩
theorem VD:OY prog 279 0 0 5 true:=⟨_,_,_,_,_,underlying279,rfl,rfl,Qm,underlying88,rfl⟩
theorem Xg:OY prog 279 1 5 35 true:=⟨_,_,_,_,_,underlying279,rfl,rfl,zc4,underlying277,rfl⟩
theorem z1V:OY prog 279 2 40 1 false:=⟨_,_,_,_,_,underlying279,rfl,rfl,z6l,underlying231,rfl⟩
theorem z1K:OY prog 279 3 41 1 false:=⟨_,_,_,_,_,underlying279,rfl,rfl,OL,underlying3,rfl⟩
theorem zaR:OY prog 279 4 42 1 false:=⟨_,_,_,_,_,underlying279,rfl,rfl,OL,underlying3,rfl⟩
theorem zhb:SP prog 279 [(0,5),(5,35),(40,1),(41,1),(42,1)]:=⟨_,underlying279,λ_=>by simp[z6l.size,zc4.size,OL.size,Qm.size,Sem.run_bind,Sem.run_pure]⟩
theorem WM:OY prog 286 0 0 1 false:=⟨_,_,_,_,_,underlying286,rfl,rfl,VZ,underlying171,rfl⟩
theorem Vy:OY prog 286 1 1 1 false:=⟨_,_,_,_,_,underlying286,rfl,rfl,OL,underlying3,rfl⟩
theorem zfW:SP prog 286 [(0,1),(1,1)]:=⟨_,underlying286,λ_=>by simp[VZ.size,OL.size,Sem.run_bind,Sem.run_pure]⟩
theorem R0:OY prog 294 0 0 4 true:=⟨_,_,_,_,_,underlying294,rfl,rfl,S2,underlying238,rfl⟩
theorem z27:OY prog 294 1 4 1 false:=⟨_,_,_,_,_,underlying294,rfl,rfl,z0M,underlying151,rfl⟩
theorem zeI:SP prog 294 [(0,4),(4,1)]:=⟨_,underlying294,λ_=>by simp[z0M.size,S2.size,Sem.run_bind,Sem.run_pure]⟩
theorem zbE:OY prog 306 0 0 1 false:=⟨_,_,_,_,_,underlying306,rfl,rfl,z0E,underlying158,rfl⟩
theorem YY:OY prog 306 1 1 1 false:=⟨_,_,_,_,_,underlying306,rfl,rfl,Tf,underlying4,rfl⟩
theorem zgP:SP prog 306 [(0,1),(1,1)]:=⟨_,underlying306,λ_=>by simp[z0E.size,Tf.size,Sem.run_bind,Sem.run_pure]⟩
theorem zbQ:OY prog 316 0 0 1 false:=⟨_,_,_,_,_,underlying316,rfl,rfl,z0E,underlying158,rfl⟩
theorem Sm:OY prog 316 1 1 1 false:=⟨_,_,_,_,_,underlying316,rfl,rfl,Tf,underlying4,rfl⟩
theorem zeC:SP prog 316 [(0,1),(1,1)]:=⟨_,underlying316,λ_=>by simp[z0E.size,Tf.size,Sem.run_bind,Sem.run_pure]⟩
theorem z5U:OY prog 323 0 0 2 true:=⟨_,_,_,_,_,underlying323,rfl,rfl,PB,underlying260,rfl⟩
theorem z5W:OY prog 323 1 2 1 false:=⟨_,_,_,_,_,underlying323,rfl,rfl,Tr,underlying41,rfl⟩
theorem zcW:SP prog 323 [(0,2),(2,1)]:=⟨_,underlying323,λ_=>by simp[PB.size,Tr.size,Sem.run_bind,Sem.run_pure]⟩
theorem Z4:OY prog 334 0 0 1 false:=⟨_,_,_,_,_,underlying334,rfl,rfl,OL,underlying3,rfl⟩
theorem z1z:OY prog 334 1 1 1 false:=⟨_,_,_,_,_,underlying334,rfl,rfl,ti9,underlying9,rfl⟩
theorem zfn:SP prog 334 [(0,1),(1,1)]:=⟨_,underlying334,λ_=>by simp[OL.size,ti9.size,Sem.run_bind,Sem.run_pure]⟩
theorem z1C:OY prog 350 0 0 1 false:=⟨_,_,_,_,_,underlying350,rfl,rfl,OL,underlying3,rfl⟩
theorem z6r:OY prog 350 1 1 1 false:=⟨_,_,_,_,_,underlying350,rfl,rfl,OL,underlying3,rfl⟩
theorem zgE:SP prog 350 [(0,1),(1,1)]:=⟨_,underlying350,λ_=>by simp[OL.size,Sem.run_bind,Sem.run_pure]⟩
theorem z6k:OY prog 353 0 0 1 false:=⟨_,_,_,_,_,underlying353,rfl,rfl,Tr,underlying41,rfl⟩
theorem YZ:OY prog 353 1 1 1 false:=⟨_,_,_,_,_,underlying353,rfl,rfl,OL,underlying3,rfl⟩
theorem z9Z:SP prog 353 [(0,1),(1,1)]:=⟨_,underlying353,λ_=>by simp[OL.size,Tr.size,Sem.run_bind,Sem.run_pure]⟩
def cf6:=Oo func6
def cf7:=Oo func7
def cf8:=Oo func8
def cf9:=Oo func9
def zbp:=Oo func10
def zdZ:=Oo func12
def zjb:=Oo func13
def zgO:=Oo func14
def zhB:=Oo func15
def zda:=Oo func16
def zdL:=Oo func17
def zgY:=Oo func18
def zgw:=Oo func19
def ziC:=Oo func20
def zi4:=Oo func21
def zi0:=Oo func22
def zbY:=Oo func23
def zib:=Oo func24
def zja:=Oo func25
def ziQ:=Oo func26
def ziF:=Oo func27
def ziy:=Oo func28
def ziu:=Oo func29
def zgH:=Oo func30
def zgT:=Oo func31
def zih:=Oo func32
def ziM:=Oo func33
def z7u:=Oo func34
def zj3:=Oo func35
def zdb:=Oo func36
def zhV:=Oo func37
def z2d:=Oo func38
def ziR:=Oo func39
def zbf:=Oo func40
def zh4:=Oo func41
def ziO:=Oo func42
def zhT:=Oo func43
def ziX:=Oo func44
def zgK:=Oo func45
def zjl:=Oo func46
def zdG:=Oo func47
def zaY:=Oo func48
def zdo:=Oo func49
def zg2:=Oo func50
def zjh:=Oo func51
def ziV:=Oo func52
def zhW:=Oo func53
def zic:=Oo func54
def ziH:=Oo func55
def z2s:=Oo func56
def zgz:=Oo func57
def zhY:=Oo func58
def zj7:=Oo func59
def zir:=Oo func60
def zjf:=Oo func61
def zji:=Oo func62
def zeK:=Oo func63
def zjc:=Oo func64
def ziI:=Oo func65
def zft:=Oo func66
def zhu:=Oo func67
def z58:=Oo func68
def zgl:=Oo func69
def zhc:=Oo func70
def z9U:=Oo func71
def ze0:=Oo func72
def zdt:=Oo func73
def zhX:=Oo func74
def zj0:=Oo func75
def ziW:=Oo func76
def zhs:=Oo func77
def zhG:=Oo func78
def zeB:=Oo func79
def zfN:=Oo func80
def zis:=Oo func81
def z99:=Oo func82
def z9Y:=Oo func83
def ziv:=Oo func84
def zi8:=Oo func85
def zif:=Oo func86
def zi6:=Oo func87
def ziL:=Oo func88
def zdW:=Oo func89
def zj8:=Oo func90
def zeM:=Oo func91
def zf5:=Oo func92
def ze7:=Oo func93
def zhR:=Oo func94
def ziE:=Oo func95
def zfG:=Oo func96
def zgD:=Oo func97
def zeE:=Oo func98
def zfc:=Oo func99
def zgh:=Oo func100
def z98:=Oo func101
def zfe:=Oo func102
def zf3:=Oo func103
def zf9:=Oo func104
def zfA:=Oo func105
def zcC:=Oo func106
def Zg:=Oo func107
def WO:=Oo func108
def zce:=Oo func109
def zc5:=Oo func110
def zfl:=Oo func111
def zfq:=Oo func112
def zey:=Oo func113
def zh6:=Oo func114
def zeO:=Oo func115
def zh3:=Oo func116
def zeY:=Oo func117
def zes:=Oo func118
def zhg:=Oo func119
def zhO:=Oo func120
def za7:=Oo func121
def Zi:=Oo func122
def UT:=Oo func123
def z6v:=Oo func124
def zgx:=Oo func125
def zat:=Oo func126
def z0F:=Oo func127
def zd5:=Oo func128
def zcJ:=Oo func129
def z3Q:=Oo func130
def zgs:=Oo func131
def zep:=Oo func132
def zfI:=Oo func133
def zeu:=Oo func134
def zg9:=Oo func135
def zh7:=Oo func140
def zf7:=Oo func141
def zf8:=Oo func142
def zcI:=Oo func143
def z63:=Oo func144
def zaG:=Oo func145
def z2y:=Oo func146
def z9q:=Oo func147
def zfh:=Oo func148
def zfE:=Oo func150
def zet:=Oo func151
def zhh:=Oo func152
def zco:=Oo func153
def zfz:=Oo func154
def zcf:=Oo func156
def z3f:=Oo func157
def zhj:=Oo func158
def z6q:=Oo func159
def zcO:=Oo func160
def zgI:=Oo func161
def zh5:=Oo func162
def zfX:=Oo func163
def z0H:=Oo func164
def zeP:=Oo func165
def YK:=Oo func166
def z2q:=Oo func167
def zhy:=Oo func168
def z5T:=Oo func169
def zcd:=Oo func170
def zej:=Oo func173
def zcj:=Oo func175
def W9:=Oo func176
def Rm:=Oo func177
def zgy:=Oo func178
def zh1:=Oo func179
def zcS:=Oo func180
def zfY:=Oo func181
def zgJ:=Oo func182
def z2m:=Oo func183
def zgf:=Oo func184
def zgd:=Oo func185
def zcy:=Oo func186
def S0:=Oo func187
def WG:=Oo func188
def zcF:=Oo func189
def z0h:=Oo func190
def zaH:=Oo func191
def zfP:=Oo func192
def zcG:=Oo func193
def zcE:=Oo func194
def zhM:=Oo func195
def z6e:=Oo func196
def z2L:=Oo func197
def zgR:=Oo func198
def zgn:=Oo func199
def zfC:=Oo func200
def zcl:=Oo func201
def zcB:=Oo func202
def zfH:=Oo func203
def zeN:=Oo func204
def zgg:=Oo func205
def zfT:=Oo func206
def zd4:=Oo func208
def zgr:=Oo func209
def zgo:=Oo func210
def zcR:=Oo func211
def zff:=Oo func212
def zhP:=Oo func213
def zcY:=Oo func214
def zaz:=Oo func215
def zhl:=Oo func216
def z5M:=Oo func217
def zek:=Oo func218
def zhe:=Oo func219
def zgi:=Oo func220
def zfM:=Oo func221
def zc7:=Oo func222
def zhQ:=Oo func223
def zh8:=Oo func224
def zew:=Oo func225
def zfK:=Oo func226
def WR:=Oo func227
def zeZ:=Oo func228
def z3g:=Oo func229
def zg3:=Oo func230
def zcU:=Oo func231
def zem:=Oo func232
def zcM:=Oo func233
def zhp:=Oo func234
def zhx:=Oo func235
def z0S:=Oo func236
def zcX:=Oo func237
def z9A:=Oo func238
def zcq:=Oo func239
def zhz:=Oo func240
def zgj:=Oo func241
def zf0:=Oo func242
def zhS:=Oo func243
def zgW:=Oo func244
def zeR:=Oo func245
def zeX:=Oo func246
def UE:=Oo func247
def zfp:=Oo func248
def zfi:=Oo func249
def zcV:=Oo func251
def zgA:=Oo func252
def zfj:=Oo func253
def zgL:=Oo func255
def zgc:=Oo func256
def z9h:=Oo func257
def zfd:=Oo func278
def zhL:=Oo func279
def zev:=Oo func281
def zfO:=Oo func282
section
variable {D:RC}{l:List Oper}{e:Env}{w w':World}{d:Nat}{op:Op}{ty:TypeId}{pos:String}{aft:Array Edge}{g:Option (Nat×Bool)}{v:Value}
theorem qV (hy:Y D.C.P e ⟨some d,op,ty,pos,aft,g⟩ v w w')(h:RL D l ((d,v)::e) w')(ho:S8 D e g true=true:=by exact rfl)(hd:Nat.blt d D.C.n=true:=by exact rfl):RL D (⟨some d,op,ty,pos,aft,g⟩::l) e w:=TO ho hd hy h
theorem qS (h:RL D l ((d,undef)::e) w)(ho:S8 D e g false=true:=by exact rfl)(hd:Nat.blt d D.C.n=true:=by exact rfl):RL D (⟨some d,op,ty,pos,aft,g⟩::l) e w:=zh9 ho hd h
theorem Nz {x:Operand}(hx:look e x=some v)(h:RL D l ((d,v)::e) w)(ho:S8 D e g true=true:=by exact rfl)(hd:Nat.blt d D.C.n=true:=by exact rfl):RL D (⟨some d,.move x,ty,pos,aft,g⟩::l) e w:=TO ho hd (Oq hx) h
theorem NQ {x:Operand}(hx:look e x=some v)(h:RL D l ((d,v)::e) w)(ho:S8 D e g true=true:=by exact rfl)(hd:Nat.blt d D.C.n=true:=by exact rfl):RL D (⟨some d,.assign x,ty,pos,aft,g⟩::l) e w:=TO ho hd (PO hx) h
theorem OI {x y:Operand}{t t':TypeId}{a b:Int}(hx:look e x=some (I a))(hy:look e y=some (I b))(h:RL D l ((d,I (a+b))::e) w)(hb: -9223372036854775808<=a+b/\a+b<=9223372036854775807:=by omega)(ho:S8 D e g true=true:=by exact rfl)(hd:Nat.blt d D.C.n=true:=by exact rfl):RL D (⟨some d,.binOp .add t x y t',ty,pos,aft,g⟩::l) e w:=TO ho hd (SX hx hy hb) h
theorem NZ {f:FuncId}{vs:List Value}{S:Value->World->Prop}{ts:Array TypeId}{args:List Operand}(hf:CF D.C.P f)(ha:looks e args=some vs)(hc:Oa D.C.P f vs w S)(h:∀v w',S v w'->RL D l ((d,v)::e) w')(ho:S8 D e g true=true:=by exact rfl)(hd:Nat.blt d D.C.n=true:=by exact rfl):RL D (⟨some d,.call ⟨.value (.func f),args.toArray,ts⟩,ty,pos,aft,g⟩::l) e w:=Pv ho hd (yc hf ha) hc h
theorem PE {p:Prop}[hp:Decidable p](hr:RL D l ((d,.bool true)::e) w)(h:p:=by first|rfl|assumption|omega|decide):RL D l ((d,.bool (decide p))::e) w:=z6n h hr
theorem Ox {p:Prop}[hp:Decidable p](hr:RL D l ((d,.bool false)::e) w)(h:¬p:=by first|exact λh=>h O|assumption|omega):RL D l ((d,.bool (decide p))::e) w:=zaw h hr
theorem Pb {x y:Operand}{t t':TypeId}{k:IntKind}{a b:Int}(hx:look e x=some (.int k a))(hy:look e y=some (.int k b))(h:RL D l ((d,.bool (decide (a<b)))::e) w)(ho:S8 D e g true=true:=by exact rfl)(hd:Nat.blt d D.C.n=true:=by exact rfl):RL D (⟨some d,.binOp .lss t x y t',ty,pos,aft,g⟩::l) e w:=TO ho hd (ZQ hx hy) h
theorem zle {x y:Operand}{t t':TypeId}{k:IntKind}{a b:Int}(hx:look e x=some (.int k a))(hy:look e y=some (.int k b))(h:RL D l ((d,.bool (decide (a<=b)))::e) w)(ho:S8 D e g true=true:=by exact rfl)(hd:Nat.blt d D.C.n=true:=by exact rfl):RL D (⟨some d,.binOp .leq t x y t',ty,pos,aft,g⟩::l) e w:=TO ho hd (Xu hx hy) h
theorem P9 {x y:Operand}{t t':TypeId}{k:IntKind}{a b:Int}(hx:look e x=some (.int k a))(hy:look e y=some (.int k b))(h:RL D l ((d,.bool (decide (b<a)))::e) w)(ho:S8 D e g true=true:=by exact rfl)(hd:Nat.blt d D.C.n=true:=by exact rfl):RL D (⟨some d,.binOp .gtr t x y t',ty,pos,aft,g⟩::l) e w:=TO ho hd (VP hx hy) h
theorem RN {x y:Operand}{t t':TypeId}{k:IntKind}{a b:Int}(hx:look e x=some (.int k a))(hy:look e y=some (.int k b))(h:RL D l ((d,.bool (decide (b<=a)))::e) w)(ho:S8 D e g true=true:=by exact rfl)(hd:Nat.blt d D.C.n=true:=by exact rfl):RL D (⟨some d,.binOp .geq t x y t',ty,pos,aft,g⟩::l) e w:=TO ho hd (yge hx hy) h
theorem Px {x y:Operand}{t t':TypeId}{k:IntKind}{a b:Int}(hx:look e x=some (.int k a))(hy:look e y=some (.int k b))(h:RL D l ((d,.bool (decide (a=b)))::e) w)(ho:S8 D e g true=true:=by exact rfl)(hd:Nat.blt d D.C.n=true:=by exact rfl):RL D (⟨some d,.binOp .eql t x y t',ty,pos,aft,g⟩::l) e w:=TO ho hd (yeq hx hy) h
theorem P3 {x y:Operand}{t t':TypeId}{k:IntKind}{a b:Int}(hx:look e x=some (.int k a))(hy:look e y=some (.int k b))(h:RL D l ((d,.bool (decide (a≠b)))::e) w)(ho:S8 D e g true=true:=by exact rfl)(hd:Nat.blt d D.C.n=true:=by exact rfl):RL D (⟨some d,.binOp .neq t x y t',ty,pos,aft,g⟩::l) e w:=TO ho hd (yne hx hy) h
theorem Pc {c x y:Operand}(hc:look e c=some (.bool true))(hx:look e x=some v)(h:RL D l ((d,v)::e) w)(ho:S8 D e g true=true:=by exact rfl)(hd:Nat.blt d D.C.n=true:=by exact rfl):RL D (⟨some d,.pick c x y,ty,pos,aft,g⟩::l) e w:=TO ho hd (Tu hc hx) h
theorem OC {c x y:Operand}(hc:look e c=some (.bool false))(hy:look e y=some v)(h:RL D l ((d,v)::e) w)(ho:S8 D e g true=true:=by exact rfl)(hd:Nat.blt d D.C.n=true:=by exact rfl):RL D (⟨some d,.pick c x y,ty,pos,aft,g⟩::l) e w:=TO ho hd (S6 hc hy) h
theorem ON {x:Operand}{vs:Array Value}{i:Nat}(hx:look e x=some (.tuple vs))(hv:vs[i]? =some v)(h:RL D l ((d,v)::e) w)(ho:S8 D e g true=true:=by exact rfl)(hd:Nat.blt d D.C.n=true:=by exact rfl):RL D (⟨some d,.extract x i,ty,pos,aft,g⟩::l) e w:=TO ho hd (Q8 hx hv) h
theorem NO {t:TypeId}{i off n b m:Nat}{agg:Bool}{x:Operand}(hf:OY D.C.P t i off (n+1) agg)(hx:look e x=some (ptr b m))(h:RL D l ((d,ptr b (m+off))::e) w)(ho:S8 D e g true=true:=by exact rfl)(hd:Nat.blt d D.C.n=true:=by exact rfl):RL D (⟨some d,.fieldAddr t x i,ty,pos,aft,g⟩::l) e w:=TO ho hd (Og hf hx) h
theorem Q0 {t el:TypeId}{x:Operand}{a:Option Addr}{len cap:Nat}(ht:D.C.P.underlying t=some (.slice el))(hx:look e x=some (.slice a len cap))(h:RL D l ((d,I (len:Int))::e) w)(ho:S8 D e g true=true:=by exact rfl)(hd:Nat.blt d D.C.n=true:=by exact rfl):RL D (⟨some d,.call ⟨.builtin .len,#[x],#[t]⟩,ty,pos,aft,g⟩::l) e w:=TO ho hd (R7 ht hx) h
theorem Qc {x y:Operand}{t t':TypeId}{a b:Int}(hx:look e x=some (I a))(hy:look e y=some (I b))(h:RL D l ((d,I (a-b))::e) w)(hb: -9223372036854775808<=a-b/\a-b<=9223372036854775807:=by omega)(ho:S8 D e g true=true:=by exact rfl)(hd:Nat.blt d D.C.n=true:=by exact rfl):RL D (⟨some d,.binOp .sub t x y t',ty,pos,aft,g⟩::l) e w:=TO ho hd (W5 hx hy hb) h
theorem NF {D:RC}{x:Operand}(hx:look e x=some v)(h:Of D.C D.k ((d,v)::e) w)(ho:S8 D e g true=true:=by exact rfl)(hd:Nat.blt d D.C.n=true:=by exact rfl):RL D [⟨some d,.assign x,ty,pos,aft,g⟩] e w:=TO ho hd (PO hx) (NB h)
theorem NT {x y:Operand}{d':Nat}{v':Value}{ty':TypeId}{pos':String}{aft':Array Edge}{g':Option (Nat×Bool)}(hx:look e x=some v)(hy:look ((d,v)::e) y=some v')(h:RL D l ((d',v')::(d,v)::e) w)(ho:S8 D e g true=true:=by exact rfl)(hd:Nat.blt d D.C.n=true:=by exact rfl)(ho':S8 D ((d,v)::e) g' true=true:=by exact rfl)(hd':Nat.blt d' D.C.n=true:=by exact rfl):RL D (⟨some d,.move x,ty,pos,aft,g⟩::⟨some d',.move y,ty',pos',aft',g'⟩::l) e w:=TO ho hd (Oq hx) (TO ho' hd' (Oq hy) h)
def z5c:Value->Bool
  | .pointer (some _)=>true
  | .func (.func _) _ _=>true
  |_=>false
theorem OQ {P:Program}{d:Option Nat}{x:Operand}(hx:look e x=some v)(hv:z5c v=true:=by exact rfl):Y P e ⟨d,.nilCheck x,ty,pos,aft,g⟩ v w w:=by
  unfold z5c at hv
  split at hv
  · exact ync hx
  · exact zhZ hx
  · cases hv
theorem O8 {x:Operand}(hx:look e x=some v)(h:RL D l ((d,v)::e) w)(hv:z5c v=true:=by exact rfl)(ho:S8 D e g true=true:=by exact rfl)(hd:Nat.blt d D.C.n=true:=by exact rfl):RL D (⟨some d,.nilCheck x,ty,pos,aft,g⟩::l) e w:=TO ho hd (OQ hx hv) h
end
section
variable {C:Cx}{k:List Item}{e e':Env}{w:World}{id:Nat}{ops:List Oper}{y:Code}
theorem qN {x:Code}(ho:Uk C.n ops=true)(h:RL ⟨C,ops,.code x::k,ho⟩ ops e w):Of C (.code (.seq (.region id ops.toArray false) x)::k) e w:=py (NC ho h)
theorem Qb {α:Type}{c:Code}(x0:α)(E:α->Env)(I:α->World->Prop)(μ:α->Nat)(hI:I x0 w)(round:∀x w,I x w->(∀y w',I y w'->μ y<μ x->Of C (.inLoop c::k) (E y) w')->Of C (.code c:: .inLoop c::k) (E x) w)(hE:Sub (E x0) e:=by repeat (first|exact Sub.nil|refine Sub.cons O ?_)):Of C (.code (.loop c)::k) e w:=zao x0 E I μ hE hI round
theorem Of.qb (h:Of C k e w)(hs:Sub e e':=by repeat (first|exact Sub.nil|refine Sub.cons O ?_)):Of C k e' w:=h.sub hs
end
section
variable {D:RC}{k:List Item}{e:Env}{w:World}{id:Nat}{ops:List Oper}{x:Code}
theorem qM {C:Cx}{ops0:List Oper}{h0:Uk C.n ops0=true}(ho:Uk C.n ops=true)(h:RL ⟨C,ops,.code x::k,ho⟩ ops e w):RL ⟨C,ops0,.code (.seq (.region id ops.toArray false) x)::k,h0⟩ [] e w:=NB (py (NC ho h))
end
section
variable {D:RC}{late:List Nat}{S:World->Prop}{e:Env}{w w':World}{d fuel:Nat}{op:Op}{ty:TypeId}{pos:String}{aft:Array Edge}{g:Option (Nat×Bool)}{listed:Array Bool}{v:Value}
theorem qT (i:Nat)(hi:D.ops[i]? =some ⟨some d,op,ty,pos,aft,g⟩)(hy:∀w,S w->Y D.C.P e ⟨some d,op,ty,pos,aft,g⟩ v w w)(hS:S w)(h:RH D S fuel (listed.setIfInBounds i true) ((d,v)::e) w)
    (hf:RV D.ops listed i=true:=by kernel_rfl) (ho:S8 D e g true=true:=by exact rfl) (hd:Nat.blt d D.C.n=true:=by exact rfl):RH D S (fuel+1) listed e w:=zaM hi hf ho hd hy hS h
theorem NG (i:Nat)(hi:D.ops[i]? =some ⟨some d,op,ty,pos,aft,g⟩)(hy:∀{w},Y D.C.P e ⟨some d,op,ty,pos,aft,g⟩ v w w)(hS:S w)(h:RH D S fuel (listed.setIfInBounds i true) ((d,v)::e) w)
    (hf:RV D.ops listed i=true:=by kernel_rfl) (ho:S8 D e g true=true:=by exact rfl) (hd:Nat.blt d D.C.n=true:=by exact rfl):RH D S (fuel+1) listed e w:=zaM hi hf ho hd (λ_ _=>hy) hS h
theorem SC {p:Prop}[hp:Decidable p](hr:RH D S fuel listed ((d,.bool true)::e) w)(h:p:=by first|rfl|assumption|omega|decide):RH D S fuel listed ((d,.bool (decide p))::e) w:=zg0 h hr
theorem S4 {p:Prop}[hp:Decidable p](hr:RH D S fuel listed ((d,.bool false)::e) w)(h:¬p:=by first|exact λh=>h O|assumption|omega):RH D S fuel listed ((d,.bool (decide p))::e) w:=ze8 h hr
theorem Rs {late:List Nat}(rs:List Nat)(h:RH D (λ_=>True) fuel listed e w)(hr:Qq D.ops listed rs=true:=by kernel_rfl)(hl:zcc rs late=true:=by kernel_rfl):RHL D late S fuel listed e w:=zfS rs hr hl h
theorem NX {x:Operand}(i:Nat)(hi:D.ops[i]? =some ⟨some d,.move x,ty,pos,aft,g⟩)(hx:look e x=some v)(hS:S w)(h:RH D S fuel (listed.setIfInBounds i true) ((d,v)::e) w)
    (hf:RV D.ops listed i=true:=by kernel_rfl) (ho:S8 D e g true=true:=by exact rfl) (hd:Nat.blt d D.C.n=true:=by exact rfl):RH D S (fuel+1) listed e w:=zaM hi hf ho hd (λ_ _=>Oq hx) hS h
theorem qJ (i:Nat)(hi:D.ops[i]? =some ⟨some d,op,ty,pos,aft,g⟩)(hS:S w)(h:RH D S fuel (listed.setIfInBounds i true) ((d,undef)::e) w)
    (hf:RV D.ops listed i=true:=by kernel_rfl) (ho:S8 D e g false=true:=by exact rfl) (hd:Nat.blt d D.C.n=true:=by exact rfl):RH D S (fuel+1) listed e w:=zhH hi hf ho hd hS h
theorem qO (i:Nat)(h:Nx D S fuel listed e w i)(hr:Qq D.ops listed [i]=true:=by kernel_rfl):RH D S (fuel+1) listed e w:=zgm hr h
theorem Qv {f:FuncId}{vs:List Value}{T:Value->World->Prop}{ts:Array TypeId}{args:List Operand}(i:Nat)(hi:D.ops[i]? =some ⟨some d,.call ⟨.value (.func f),args.toArray,ts⟩,ty,pos,aft,g⟩)(hf:CF D.C.P f)(ha:looks e args=some vs)(hc:Oa D.C.P f vs w T)(h:∀v w',T v w'->S w'/\RH D S fuel (listed.setIfInBounds i true) ((d,v)::e) w')
    (hr:Qq D.ops listed [i]=true:=by kernel_rfl) (ho:S8 D e g true=true:=by exact rfl) (hd:Nat.blt d D.C.n=true:=by exact rfl):RH D S (fuel+1) listed e w:=zgm hr (UO hi ho hd (yc hf ha) hc h)
theorem qE (h:Of D.C D.k e w)(hr:Qq D.ops listed []=true:=by kernel_rfl):RH D S fuel listed e w:=ziG hr h
theorem qL (dn:List Nat)(i:Nat)(hi:D.ops[i]? =some ⟨some d,op,ty,pos,aft,g⟩)(hy:∀w,S w->Y D.C.P e ⟨some d,op,ty,pos,aft,g⟩ v w w)(hS:S w)(h:RHL D late S fuel (listed.setIfInBounds i true) ((d,v)::e) w)
    (hf:(RV D.ops listed i&&waits D.ops listed late dn i)=true:=by kernel_rfl) (ho:S8 D e g true=true:=by exact rfl) (hd:Nat.blt d D.C.n=true:=by exact rfl):RHL D late S (fuel+1) listed e w:=zde dn hi hf ho hd hy hS h
end
theorem PK {C:Cx}{id:Nat}{ops:List Oper}{k:List Item}{e:Env}{w:World}(S:World->Prop)(ho:Uk C.n ops=true)(h:RH ⟨C,ops,k,ho⟩ S ops.length (Array.replicate ops.length false) e w.drew)(hm:C.P.follows .mixedOrders=true:=by kernel_rfl)(hc:calm ops=true:=by rfl):Of C (.code (.region id ops.toArray true)::k) e w:=z3G S hm ho h hc
theorem Pz {α:Type}{a b:α}(h:some a=some b):a=b:=Option.some.inj h
def U2:=underlying2
def U3:=underlying3
def U4:=underlying4
def U5:=underlying5
def U9:=underlying9
def U22:=underlying22
def U24:=underlying24
def SH:=underlying25
def U27:=underlying27
def UM:=underlying28
def U29:=underlying29
def U31:=underlying31
def U34:=underlying34
def U35:=underlying35
def Qd:=underlying40
def Qe:=underlying41
def Ob:=underlying45
def OX:=underlying46
def U48:=underlying48
def U58:=underlying58
def U60:=underlying60
def U64:=underlying64
def U71:=underlying71
def U80:=underlying80
def U88:=underlying88
def U90:=underlying90
def z9p:=underlying100
def VN:=underlying101
def VQ:=underlying108
def zj1:=underlying113
def z8a:=underlying116
def ziJ:=underlying118
def ZK:=underlying121
def Up:=underlying124
def z1T:=underlying133
def zbS:=underlying136
def zaP:=underlying141
def z80:=underlying143
def z5h:=underlying149
def z5b:=underlying151
def z2b:=underlying152
def z2o:=underlying157
def TN:=underlying158
def P8:=underlying171
def zed:=underlying172
def z96:=underlying174
def VS:=underlying187
def Y3:=underlying192
def zbd:=underlying198
def Y4:=underlying212
def zeT:=underlying215
def zil:=underlying224
def UL:=underlying225
def z1E:=underlying231
def zij:=underlying233
def zdm:=underlying234
def z3O:=underlying238
def zdR:=underlying240
def zj2:=underlying251
def R8:=underlying260
def Rh:=underlying265
def zgS:=underlying269
def Wt:=underlying274
def zgU:=underlying275
def zjk:=underlying300
def zdi:=underlying301
def z08:=underlying320
def zgp:=underlying323
def zeJ:=underlying334
def zaK:=underlying346
def zje:=underlying350
def z8E:=underlying353
def ZI:=underlying354
def z3r:=underlying373
end Go.Proofs.YtfgjaafcgghnoaaGreatDoor
namespace Go.Proofs.YtfgjaafcgghnoaaGreatDoor
open Go Go.RowKit
def Ts (w:World)(g:Nat)(cs:List Value)(T:TypeId):Prop:=w.heap[g]? =some (.cells cs.toArray T (0,0))
theorem Ts.ND {w:World}{g:Nat}{cs:List Value}{T:TypeId}(h:Ts w g cs T):NM w g cs T:=⟨(0,0),h,λi _ h=>by omega⟩
theorem Ts.set {w:World}{g:Nat}{cs:List Value}{T:TypeId}(h:Ts w g cs T)(i:Nat)(v:Value):Ts (w.setCell ⟨g,i,none⟩ v) g (cs.set i v) T:=by
 unfold Ts at h⊢
 simp[World.setCell,Array.getElem?_modify,h]
theorem Ts.ext {w w':World}{g:Nat}{cs:List Value}{T:TypeId}(h:Ts w g cs T)(k:Ext w w'):Ts w' g cs T:=k.heap h id
theorem Sl.row {w:World}{g n cap:Nat}{e:TypeId}{size:Nat}{cs:List Value}(h:Sl w (.slice (some ⟨g,0,none⟩) n cap) e size n cs):∃cur,Ts w g cur e/\n<=cap/\cap<=maxLen/\cur.length=cap*size/\cur.take (n*size)=cs:=by
 rcases h.2 with⟨hz,-⟩|⟨g1,cap1,cur,hv,-,hg,hn,hm,hs,ht⟩
 ·cases hz
 ·cases hv;exact⟨cur.toList,by unfold Ts;simpa using hg,hn,hm,by simpa using hs,ht⟩
theorem Ts.sl {w:World}{g n cap:Nat}{e:TypeId}{size:Nat}{cur:List Value}(h:Ts w g cur e)(hn:n<=cap)(hm:cap<=maxLen)(hs:cur.length=cap*size):Sl w (.slice (some ⟨g,0,none⟩) n cap) e size n (cur.take (n*size)):=
 ⟨by rw[List.length_take,hs];exact Nat.min_eq_left (Nat.mul_le_mul_right _ hn),.inr ⟨g,cap,cur.toArray,rfl,Nat.zero_le _,h,hn,hm,by simpa using hs,by simp⟩⟩
theorem Ts.cell {w:World}{g i:Nat}{cur:List Value}{e:TypeId}(h:Ts w g cur e):w.cell? ⟨g,i,none⟩=cur[i]? :=h.ND.cell i
theorem Ts.rd {w:World}{g i n c:Nat}{e:TypeId}{cur:List Value}(h:Ts w g cur e)(hl:i+n<=cur.length):Rd w (.slice (some ⟨g,i,none⟩) n c) 1 n ((cur.drop i).take n):=by
 refine⟨by simp;omega,.inr ⟨g,i,c,rfl,λj u hj=>?_⟩⟩
 rw[h.cell]
 rw[List.getElem?_take] at hj
 split at hj
 ·rwa [List.getElem?_drop] at hj
 ·cases hj
theorem U1 {w:World}{a:Option Addr}{c:Nat}:Rd w (.slice a 0 c) 1 0 []:=⟨rfl,.inl ⟨(a,c),rfl,rfl⟩⟩
theorem Rd.kpz {S:Nat->Prop}{w w':World}{v:Value}{size n:Nat}{cs:List Value}(h:Rd w v size n cs)(k:Kp S w w')(hn:0<n->∀g,v.ownBlock=some g->¬S g):Rd w' v size n cs:=by
 rcases Nat.eq_zero_or_pos n with h0|h0
 ·subst h0;refine⟨h.1,?_⟩;have hl:cs=[]:=List.eq_nil_of_length_eq_zero (by have:=h.1;omega);rcases h.2 with h2|⟨b,off,cap,e,-⟩
  ·exact .inl h2
  ·exact .inr ⟨b,off,cap,e,λj u hj=>by rw[hl] at hj;simp at hj⟩
 ·exact h.kp k (hn h0)
theorem Rd.ltz {w:World}{v:Value}{size n g:Nat}{cs:List Value}(h:Rd w v size n cs)(hs:0<size)(hn:0<n)(hg:v.ownBlock=some g):g<w.heap.size:=by
 rcases h.2 with⟨c,-,h2⟩|⟨b,off,cap,e,hc⟩
 ·omega
 ·rw[e] at hg;have e2:b=g:=Pz hg;subst e2;have hl:0<cs.length:=by rw[h.1];exact Nat.mul_pos hn hs
  exact World.block_lt_of_cell? w _ (hc 0 cs[0] (List.getElem?_eq_getElem hl))
theorem z4o (cs:List Value)(i:Nat):Py cs i []=cs:=by simp[Py]
theorem z0r (cs vs:List Value)(i:Nat)(h:i+vs.length<=cs.length):(Py cs i vs).length=cs.length:=by simp[Py];omega
theorem ZC (cs vs:List Value)(i j:Nat)(h:i+vs.length<=cs.length):(Py cs i vs)[j]? =if i<=j/\j<i+vs.length then vs[j-i]? else cs[j]? :=by
 unfold Py
 rw[List.append_assoc]
 by_cases h1:j<i
 ·rw[List.getElem?_append_left (by simp;omega),List.getElem?_take,if_pos h1,if_neg (by omega)]
 ·rw[List.getElem?_append_right (by simp;omega)];have e:(cs.take i).length=i:=by simp;omega
  rw[e];by_cases h2:j<i+vs.length
  ·rw[List.getElem?_append_left (by omega),if_pos ⟨by omega,h2⟩]
  ·rw[List.getElem?_append_right (by omega),List.getElem?_drop,if_neg (by omega)]
   congr 1;omega
theorem T9 {P:Program}{b:Nat}{T:TypeId}(o:Nat):∀(vs:List Value) (i:Nat) (cs:List Value) (w:World),Ts w b cs T->o+i+vs.length<=cs.length->(∀v∈vs,v.oneCell'=true)->
  ∃w',(storeCells ⟨b,o,none⟩ vs i).run P w= .ok () w'/\Ts w' b (Py cs (o+i) vs) T/\Kp (λk=>k=b) w w'
 |[],i,cs,w,hB,_,_=>⟨w,rfl,by simpa[Py] using hB,Kp.refl _ _⟩
 | v :: r, i, cs, w, hB, hl, h1 => by
   simp only[List.length_cons] at hl;have aU:o+i<cs.length:=by omega
   have hc:w.cell? ⟨b,o+i,none⟩=some cs[o+i]:=by rw[hB.cell];simp[aU]
   have hf:=hB.ND.free aU;obtain⟨w',hr,wG,hk⟩:=T9 (P:=P) o r (i+1) (cs.set (o+i) v) _ (hB.set (o+i) v) (by simp;omega) (λu hu=>h1 u (List.mem_cons_of_mem _ hu));refine⟨w',?_,?_,(Sa w b (o+i) v).trans hk⟩
   ·simp only[storeCells,Sem.run_bind,PS,run_store P w _ v _ (h1 v (List.mem_cons_self ..)),hc,hf]
    simpa using hr
   ·have he:Py (cs.set (o+i) v) (o+(i+1)) r=Py cs (o+i) (v::r):=by
     apply List.ext_getElem?;intro j;rw[ZC _ _ _ _ (by simp;omega),ZC _ _ _ _ (by simp;omega)];simp only[List.length_cons];by_cases h2:o+i=j
     ·subst h2;rw[if_neg (by omega),if_pos (by omega)];simp[aU]
     ·by_cases h3:o+i<j/\j<o+i+1+r.length
      ·rw[if_pos (by omega),if_pos (by omega),show j-(o+i)=(j-(o+(i+1)))+1 by omega];simp
      ·rw[if_neg (by omega),if_neg (by omega),List.getElem?_set_ne h2]
    rw[<-he];exact wG
section
variable {P:Program}{e:Env}{d:Option Nat}{ty t t' kt el:TypeId}{pos:String}{aft:Array Edge}{g:Option (Nat×Bool)}{x y u u2:Operand}{w:World}
theorem WA {z:Value}{size bytes n cap i:Nat}{a:Option Addr}{k:IntKind}{za:Int}[sD:RU za i](ht:P.underlying t=some (.slice el))(hs:TI P el z size bytes)(hx:look e x=some (.slice a n cap))
  (hy:look e y=some (.int k za)) (h:i<=n) (hc:n<=cap):
  Y P e ⟨d,.slice t x (some y) none none,ty,pos,aft,g⟩ (.slice (if cap=i then a else a.map (·.add (i*size))) (n-i) (cap-i)) w w:=fun ρ hρ=>by
 obtain⟨rfl⟩:=sD
 have cH:=hs.size (w:=w)
 have h2:∀w,(Instr.sliceBound (.int k (i:Int)) n .sliceB).run P w= .ok i w:=λw=>by rw[run_sliceBound _ _ _ _ _ (by omega) (by omega)];simp
 simp[execOp,hρ _ _ hx,hρ _ _ hy,Instr.sliceAt,run_underlying ht,Instr.slice,Instr.sliceBounds,h2,cH]
theorem zj5 {z:Value}{size bytes n cap i j m:Nat}{a:Option Addr}{k k' k2:IntKind}{za zb zc:Int}[sD:RU za i][wH:RU zb j][bB:RU zc m](ht:P.underlying t=some (.slice el))(hs:TI P el z size bytes)(hx:look e x=some (.slice a n cap))
  (hy:look e y=some (.int k za)) (hu:look e u=some (.int k' zb)) (mJ:look e u2=some (.int k2 zc)) (h:i<=j/\j<=m/\m<=cap):
  Y P e ⟨d,.slice t x (some y) (some u) (some u2),ty,pos,aft,g⟩ (.slice (if m=i then a else a.map (·.add (i*size))) (j-i) (m-i)) w w:=fun ρ hρ=>by
 obtain⟨rfl⟩:=sD
 obtain⟨rfl⟩:=wH
 obtain⟨rfl⟩:=bB
 have cH:=hs.size (w:=w)
 have h0:∀w,(Instr.sliceBound (.int k2 (m:Int)) cap .slice3Acap).run P w= .ok m w:=λw=>by rw[run_sliceBound _ _ _ _ _ (by omega) (by omega)];simp
 have h1:∀w,(Instr.sliceBound (.int k' (j:Int)) m .slice3B).run P w= .ok j w:=λw=>by rw[run_sliceBound _ _ _ _ _ (by omega) (by omega)];simp
 have h2:∀w,(Instr.sliceBound (.int k (i:Int)) j .slice3C).run P w= .ok i w:=λw=>by rw[run_sliceBound _ _ _ _ _ (by omega) (by omega)];simp
 simp[execOp,hρ _ _ hx,hρ _ _ hy,hρ _ _ hu,hρ _ _ mJ,Instr.sliceAt,run_underlying ht,Instr.slice,Instr.sliceBounds,h0,h1,h2,cH]
theorem VV (z:Value)(n:Nat)(h:oneV z=true):(Builtin.zeroCells z.cells n).toList=List.replicate n z:=by
 rw[Ug h]
 apply List.ext_getElem
 ·simp[Builtin.zeroCells]
 ·intro i h1 h2;simp[Builtin.zeroCells,Nat.mod_one]
theorem ziY {z:Value}{bytes b i n cap:Nat}{T:TypeId}{cs:List Value}(ht:P.underlying t=some (.slice el))(hs:TI P el z 1 bytes)(hz:oneV z=true)(hx:look e x=some (.slice (some ⟨b,i,none⟩) n cap))
  (hB:Ts w b cs T) (hi:i+n<=cs.length):
  Yp P e ⟨d,.call ⟨.builtin .clear,#[x],#[t]⟩,ty,pos,aft,g⟩ w λv w'=>Ts w' b (Py cs i (List.replicate n z)) T/\Kp (λk=>k=b) w w':=by
 obtain⟨w',hr,wG,hk⟩:=T9 (P:=P) i (List.replicate n z) 0 cs w hB (by simp;omega) (λu hu=>by rw[(List.mem_replicate.1 hu).2];exact WT hz)
 rcases Nat.eq_zero_or_pos n with h0|h0
 ·subst h0;refine⟨.tuple #[],w,fun ρ hρ=>?_,by simpa[z4o] using hB,Kp.refl _ _⟩;simp[execOp,resolve,invoke,builtin,hρ _ _ hx,Builtin.clear_,run_underlying ht,go_sem]
 ·refine⟨.tuple #[],w',fun ρ hρ=>?_,by simpa using wG,hk⟩;have Ii:=hs.zero (w:=w);obtain⟨k,rfl⟩:∃k,n=k+1:=⟨n-1,by omega⟩
  have hc:(Builtin.clear_ #[t] ty #[.slice (some ⟨b,i,none⟩) (k+1) cap]).run P w= .ok (.tuple #[]) w':=by
   unfold Builtin.clear_;simp only[List.getElem?_toArray,List.getElem?_cons_zero,pure_bind,Sem.run_bind,run_underlying ht,Result.andThen,Ii,VV z _ hz,hr,Sem.run_pure]
  simp[execOp,resolve,invoke,builtin,hρ _ _ hx,hc]
theorem ziw {z u:Value}{size bytes gb n cap m:Nat}{cs news:List Value}(ht:P.underlying t=some (.slice el))(hs:TI P el z size bytes)(cH:0<size)
  (hx:look e x=some (.slice (some ⟨gb,0,none⟩) n cap)) (hy:look e y=some u) (hv:Sl w (.slice (some ⟨gb,0,none⟩) n cap) el size n cs) (hu:Rd w u size m news) (h1:∀c∈news,c.oneCell'=true) (hr:n+m<=cap):
  Yp P e ⟨d,.call ⟨.builtin .append,#[x,y],#[t,t]⟩,ty,pos,aft,g⟩ w λv' w'=>v'= .slice (some ⟨gb,0,none⟩) (n+m) cap/\Sl w' v' el size (n+m) (cs++news)/\Kp (λk=>k=gb) w w':=by
 obtain⟨i,hi,pH,jR,rA⟩:=hs
 subst jR
 rcases hu.2 with⟨⟨ca,c⟩,rfl,rfl⟩|⟨b,off,cap2,rfl,sE⟩
 ·have fm:news=[]:=List.eq_nil_of_length_eq_zero (by simpa using hu.1);subst fm
  have hr:(Builtin.append_ #[t,t] ty #[.slice (some ⟨gb,0,none⟩) n cap,.slice ca 0 c]).run P w= .ok (.slice (some ⟨gb,0,none⟩) n cap) w:=by
   have jB:n<=cap:=by omega
   cases ca
   ·simp[Builtin.append_,run_underlying ht,sizeOf,typeInfo,hi,Builtin.lenOf,Builtin.firstCells,jB,storeCells]
   ·simp[Builtin.append_,run_underlying ht,sizeOf,typeInfo,hi,Builtin.lenOf,Builtin.firstCells,jB,storeCells,loadCells,loadCellsFrom]
  refine⟨_,w,fun ρ hρ=>?_,rfl,by simpa using hv,Kp.refl _ _⟩;simp[execOp,resolve,invoke,builtin,hρ _ _ hx,hρ _ _ hy,hr]
 ·have wI:∀j u,news[j]? =some u->w.cell? ((⟨b,off,none⟩:Addr).add j)=some u:=λj u hu=>by rw[PS];exact sE j u hu
  obtain⟨w',GD,Aw,cP⟩:=run_append_fits (P:=P) w 0 t ty el i i.size ht hi O gb n cap cs hv ⟨b,off,none⟩ m cap2 news hu.1 wI h1 hr;refine⟨_,w',fun ρ hρ=>?_,rfl,Aw,(Kp.Th cP).NR λk hk=>(Pz hk).symm⟩;simp[execOp,resolve,invoke,builtin,hρ _ _ hx,hρ _ _ hy,GD]
end
abbrev NH:=List UInt8
abbrev lt (a b:NH):Bool:=Op.bytesLess a b
section
variable {P:Program}{e:Env}{d:Option Nat}{ty t t':TypeId}{pos:String}{aft:Array Edge}{g:Option (Nat×Bool)}{x y:Operand}{w:World}{l l':NH}
end
def pos (l:List NH)(t:NH):Nat:=(l.takeWhile (λk=>lt k t)).length
end Go.Proofs.YtfgjaafcgghnoaaGreatDoor
namespace Go.Proofs.YtfgjaafcgghnoaaGreatDoor
open Go Go.RowKit Go.Proofs.Tryz
theorem Zu (cs vs:List Value)(i m:Nat)(h:m<=i)(hl:i<=cs.length):(Py cs i vs).take m=cs.take m:=by
 unfold Py
 rw[List.append_assoc,List.take_append_of_le_length (by simp;omega),List.take_take,Nat.min_eq_left h]
theorem z9e {w:World}{sv:Value}{cs:List Value}{i n:Nat}(hS:Sl w sv 3 1 n cs)(eL:∀c∈cs,c.oneCell'=true)(hi:i<n)(hn:n<=8589934592):
  Oa prog 209 [sv,I (i:Int),I ((i:Int)+1)] w λv w'=>Sl w' v 3 1 (n-1) (cs.take i++cs.drop (i+1))/\Kp (λk=>sv.ownBlock=some k) w w'/\(∀g,v.ownBlock=some g->sv.ownBlock=some g):=by
 have eJ:maxLen=9223372036854775807:=rfl
 have aA:=hS.len
 rw[Nat.mul_one] at aA
 obtain⟨g,cap,rfl,jB⟩:∃g cap,sv= .slice (some ⟨g,0,none⟩) n cap/\n<=cap:=by
  rcases hS.shape with⟨e,h0⟩|⟨g,cap,e,h⟩
  ·omega
  ·exact⟨g,cap,e,h⟩
 obtain⟨cur,jS,-,nh,dx,Br⟩:=hS.row
 rw[Nat.mul_one] at dx Br
 rw[show(i:Int)+1=((i+1:Nat):Int) by omega]
 refine Nu (e:=[(0,_),(1,_),(2,_)]) func209 O ntmps209 O O$ qN O$ NQ O$ qM O$ NT O O$ NT O O$ Q0 Qd O$ qV (zj5 Qd OL O O O O ⟨by omega,by omega,jB⟩) ?_
 refine NB$ py$ qN O$ NT O O$ Px O O$ Ox$ NB$ It O$ An$ qN O$ Nz O$ Q0 Qd O$ NF O$ py ?_
 refine PK (λw'=>Kp (λk=>k=g) w w') O ?_
 have h0:=Ext.NY w
 refine NX 0 O O ((Ext.NY w).kp)$ NX 1 O O ((Ext.NY w).kp)$ NX 3 O O ((Ext.NY w).kp)$ NX 4 O O ((Ext.NY w).kp)$ NG 2 O (z9Q Qd OL O O (by omega)) ((Ext.NY w).kp)$ NG 5 O (WA Qd OL O O (by omega) jB) ((Ext.NY w).kp) ?_
 have cm:Sl w (.slice (some ⟨g,0,none⟩) i cap) 3 1 i (cs.take i):=by
  have:=jS.sl (n:=i) (by omega) nh (by rw[Nat.mul_one];exact dx);rw[Nat.mul_one,show cur.take i=cs.take i by rw[<-Br,List.take_take,Nat.min_eq_left (by omega)]] at this;exact this
 have sF:(cur.drop (i+1)).take (n-(i+1))=cs.drop (i+1):=by
  rw[<-Br,List.drop_take]
 have hR:Rd w.drew (.slice (if cap=i+1 then some ⟨g,0,none⟩ else(some (⟨g,0,none⟩:Addr)).map (·.add ((i+1)*1))) (n-(i+1)) (cap-(i+1))) 1 (n-(i+1)) (cs.drop (i+1)):=by
  by_cases hc:cap=i+1
  ·rw[if_pos hc,show n-(i+1)=0 by omega,List.drop_eq_nil_of_le (by omega)];exact U1
  ·rw[if_neg hc,Option.map_some,PS,Nat.zero_add,Nat.mul_one,<-sF];exact(jS.ext h0).rd (by omega)
 refine qO 6$ QO (i:=6) O O O (ziw Qd OL (by decide) O O (cm.ext h0) hR (λc hc=>eL c (List.mem_of_mem_drop hc)) (by omega)) ?_
 rintro _ w1 ⟨rfl,cz,aw⟩
 refine⟨h0.kp.trans aw,?_⟩
 have e1:i+(n-(i+1))=n-1:=by omega
 rw[e1] at cz⊢
 obtain⟨cur3,wJ,Ij,Ik,wK,wL⟩:=cz.row
 rw[Nat.mul_one] at wK wL
 refine NG 7 O (PO O) (h0.kp.trans aw)$ qE$ qN O$ NT O O$ Q0 Qd O$ Nz O$ qV (zdT Qd OL O O O (by omega) (by omega))$ zaE O (ziY Qd OL O O wJ (by omega)) ?_
 rintro _ w2 ⟨wM,ao⟩
 refine NB$ Of.qb (e:=[(0,_),(6,_)]) ?_
 refine qN O$ Nz O$ NF O$ NA func209 O ?_
 have dA:=wM.sl (n:=n-1) (cap:=cap) (by omega) nh (by rw[z0r _ _ _ (by simp;omega),wK,Nat.mul_one])
 rw[Nat.mul_one,Zu _ _ _ _ (by omega) (by omega),wL] at dA
 exact⟨_,rfl,dA,((h0.kp.trans aw).trans ao).NR (λk hk=>by subst hk;rfl),λg' cP=>cP⟩
end Go.Proofs.YtfgjaafcgghnoaaGreatDoor
namespace Go.Proofs.YtfgjaafcgghnoaaGreatDoor
open Go Go.RowKit
open Go.ChangeMaps (setBlock)
def Rg {κ:Type}(K:κ->Value)(w:World)(m:Nat)(kv:List (κ×Value)):Prop:=(∃es clock,w.heap[m]? =some (.map es clock)/\SM K es.toList kv/\(∀e∈es.toList,e.born<clock)/\(es.toList.map (·.born)).Nodup)/\(kv.map (·.1)).Nodup
section
variable {κ:Type}[DecidableEq κ]{K:κ->Value}
theorem Rg.l {w:World}{m:Nat}{kv:List (κ×Value)}(h:Rg K w m kv):Vf K w m kv:=by
 obtain⟨⟨es,c,h1,h2,-,-⟩,h3⟩:=h
 exact⟨⟨es,c,h1,h2⟩,h3⟩
theorem Rg.lt {w:World}{m:Nat}{kv:List (κ×Value)}(h:Rg K w m kv):m<w.heap.size:=h.l.lt
theorem Rg.nd {w:World}{m:Nat}{kv:List (κ×Value)}(h:Rg K w m kv):(kv.map (·.1)).Nodup:=h.2
theorem Rg.kp {S:Nat->Prop}{w w':World}{m:Nat}{kv:List (κ×Value)}(h:Rg K w m kv)(k:Kp S w w')(hn:¬S m):Rg K w' m kv:=by
 obtain⟨⟨es,c,h,he⟩,hd⟩:=h
 exact⟨⟨es,c,k.heap h hn,he⟩,hd⟩
theorem Rg.ext {w w':World}{m:Nat}{kv:List (κ×Value)}(h:Rg K w m kv)(k:Ext w w'):Rg K w' m kv:=h.kp k id
theorem Rg.new {w:World}{m:Nat}(h:w.heap[m]? =some (.map #[] 0)):Rg K w m []:=⟨⟨#[],0,h,rfl,by simp,by simp⟩,by simp⟩
def delL:List (κ×Value)->κ->List (κ×Value)
 |[],_=>[]
 |(a,v)::r,k=>if k=a then r else(a,v)::delL r k
theorem z3w:∀(kv:List (κ×Value)) (k:κ),(delL kv k).Sublist kv
 |[],_=> .slnil
 | (a, v) :: r, k => by
   simp only[delL];split
   ·exact List.sublist_cons_self _ _
   ·exact(z3w r k).cons_cons _
theorem z1o {kv:List (κ×Value)}{k:κ}(h:k∉kv.map (·.1)):PX kv k=none:=by
 induction kv with
 |nil=>rfl
 | cons p r ih =>
   obtain⟨a,u⟩:=p;simp only[List.map_cons,List.mem_cons,not_or] at h;simp only[PX,h.1,if_false];exact ih h.2
theorem zho {kv:List (κ×Value)}(hn:(kv.map (·.1)).Nodup)(k x:κ):PX (delL kv k) x=if x=k then none else PX kv x:=by
 induction kv with
 |nil=>simp[delL,PX]
 | cons p r ih =>
   obtain⟨a,u⟩:=p;simp only[List.map_cons,List.nodup_cons] at hn;simp only[delL];by_cases h:k=a
   ·subst h;simp only[if_true,PX];by_cases hx:x=k
    ·subst hx;simp[z1o hn.1]
    ·simp[hx]
   ·simp only[h,if_false,PX,ih hn.2];by_cases hx:x=a
    ·subst hx;simp[Ne.symm h]
    ·simp[hx]
theorem z3d {kv:List (κ×Value)}(hn:(kv.map (·.1)).Nodup){k:κ}{v:Value}(h:(k,v)∈kv):PX kv k=some v:=by
 induction kv with
 |nil=>cases h
 | cons p r ih =>
   obtain⟨a,u⟩:=p;simp only[List.map_cons,List.nodup_cons] at hn;rcases List.mem_cons.1 h with e| h
   ·cases e;simp[PX]
   ·have:k≠a:=λe=>hn.1 (List.mem_map.2 ⟨(k,v),h,e⟩);simp only[PX,this,if_false];exact ih hn.2 h
theorem Ys {td:TypeDesc}(hs:∀a b,Instr.sameNow td (K a) (K b)=some (decide (a=b))):∀{es:List MapEntry} {kv:List (κ×Value)} (i:Nat) {k:κ} {v:Value},SM K es kv->PX kv k=some v->
  ∃j,Instr.findNow td (K k) es i=some (some (i+j,v))/\j<es.length/\SM K (es.eraseIdx j) (delL kv k)
 | e :: es, (a, v') :: kv, i, k, v, h, hg => by
   simp only[SM,List.map_cons,List.cons.injEq,Prod.mk.injEq] at h;simp only[PX] at hg;split at hg
   ·rename_i he
    subst he;cases hg;refine⟨0,by simp[Instr.findNow,h.1.1,hs,h.1.2],by simp,?_⟩;simp only[List.eraseIdx_zero,List.tail_cons,delL,if_true];exact h.2
   ·rename_i bD
    obtain⟨j,h1,h2,h3⟩:=Ys hs (i+1) h.2 hg;refine⟨j+1,?_,by simp;omega,?_⟩
    ·simp only[Instr.findNow,h.1.1,hs,bD,decide_false,h1]
     congr 3;omega
    ·simp only[delL,bD,if_false,List.eraseIdx_cons_succ,SM,List.map_cons,List.cons.injEq,Prod.mk.injEq]
     exact⟨h.1,h3⟩
 |[],[],_,_,_,_,hg=>by simp[PX] at hg
 |[],_::_,_,_,_,h,_=>by simp[SM] at h
 |_::_,[],_,_,_,h,_=>by simp[SM] at h
variable {P:Program}{e:Env}{d:Option Nat}{ty t kt el:TypeId}{pos:String}{aft:Array Edge}{g:Option (Nat×Bool)}{x y u:Operand}{w:World}{m:Nat}{kv:List (κ×Value)}{z:Value}{size bytes:Nat}{k:κ}{v:Value}
theorem zht (ht:P.underlying t=some (.map kt el))(hx:look e x=some (.map (some m)))(hm:Vf K w m kv):Y P e ⟨d,.call ⟨.builtin .len,#[x],#[t]⟩,ty,pos,aft,g⟩ (I (kv.length:Int)) w w:=fun ρ hρ=>by
 obtain⟨⟨es,c,hh,he⟩,-⟩:=hm
 have hl:es.size=kv.length:=by
  have:=congrArg List.length he
  simpa using this
 have hg:(getObj m).run P w= .ok (.map es c) w:=by simp[getObj,Sem.run,hh]
 simp[execOp,resolve,invoke,builtin,hρ _ _ hx,Builtin.len_,run_underlying ht,hg,goInt,hl,go_sem,Result.andThen]
theorem ze3 (ht:P.underlying t=some (.map kt el))(hK:Ky P kt K)(hx:look e x=some (.map (some m)))(hy:look e y=some (K k))(hu:look e u=some v)(hm:Rg K w m kv):
  Zp P e ⟨d,.mapUpdate t x y u,ty,pos,aft,g⟩ w λw'=>Rg K w' m (putL kv k v)/\Kp (λi=>i=m) w w':=by
 have aU:=hm.lt
 obtain⟨⟨es,c,hh,he,bN,bQ⟩,hd⟩:=hm
 have sG:=λb=>hK.same.choose_spec.2.2 w b 9999 k
 have hg:(getObj m).run P w= .ok (.map es c) w:=by simp[getObj,Sem.run,hh]
 have gU:∀o,(setObj m o).run P w= .ok () (w.putObj m o):=λo=>by simp[setObj,Sem.run,hh,World.putObj]
 cases lH:PX kv k with
 | none =>
   have hf:=SS (P:=P) (w:=w) hK he lH;refine⟨w.putObj m (.map (es.push {key:=K k,val:=v,born:=c}) (c+1)),fun ρ hρ=>?_,⟨⟨_,_,World.putObj_heap_same aU,?_,?_,?_⟩,?_⟩,Pu w m _⟩
   ·simp[execOp,hρ _ _ hx,hρ _ _ hy,hρ _ _ hu,Instr.mapUpdate,run_underlying ht,hg,sG,hf,gU]
   ·rw[Tj _ _ _ lH]
    simpa[SM] using he
   ·intro x hx;simp at hx;rcases hx with hx|rfl
    ·have:=bN x (by simpa using hx);omega
    ·simp
   ·simp only[Array.toList_push,List.map_append,List.map_cons,List.map_nil];refine List.nodup_append.2 ⟨bQ,by simp,λa ha b hb jC=>?_⟩;simp at hb;subst hb;subst jC;obtain⟨x,hx,wO⟩:=List.mem_map.1 ha;have:=bN x hx;omega
   ·rw[Tj _ _ _ lH,List.map_append,List.nodup_append];refine⟨hd,by simp,λa ha b hb jC=>?_⟩;simp at hb;subst hb;subst jC
    exact ZR lH ha
 | some v0 =>
   obtain⟨j,hf,⟨ej,Il,Bs⟩,ni⟩:=SO (P:=P) (w:=w) hK he lH
   have lI:(es.modify j λe=>{e with key:=K k,val:=v}).toList.map (·.born)=es.toList.map (·.born):=by
    apply List.ext_getElem?;intro i;simp only[Array.toList_modify,List.getElem?_map,List.getElem?_modify];by_cases iq:j=i
    ·subst iq;simp;cases es[j]?<;>rfl
    ·simp[iq]
   refine⟨w.putObj m (.map (es.modify j λe=>{e with key:=K k,val:=v}) c),fun ρ hρ=>?_,⟨⟨_,_,World.putObj_heap_same aU,ni v,?_,?_⟩,?_⟩,Pu w m _⟩
   ·simp[execOp,hρ _ _ hx,hρ _ _ hy,hρ _ _ hu,Instr.mapUpdate,run_underlying ht,hg,sG,hf,gU,Il,Bs,Instr.keyThatStays,hK.bits]
   ·intro x hx;have:x.born∈es.toList.map (·.born):=by rw[<-lI];exact List.mem_map.2 ⟨x,hx,rfl⟩
    obtain⟨y,hy,sH⟩:=List.mem_map.1 this;rw[<-sH];exact bN y hy
   ·rw[lI];exact bQ
   ·rw[z1i _ _ _ (by rw[lH];rfl)];exact hd
theorem zdU (ht:P.underlying t=some (.map kt el))(hK:Ky P kt K)(hx:look e x=some (.map (some m)))(hy:look e y=some (K k))(hm:Rg K w m kv){ts:Array TypeId}(vw:ts[0]? =some t):
  Yp P e ⟨d,.call ⟨.builtin .delete,#[x,y],ts⟩,ty,pos,aft,g⟩ w λv' w'=>Rg K w' m (delL kv k)/\Kp (λi=>i=m) w w':=by
 have aU:=hm.lt
 obtain⟨⟨es,c,hh,he,bN,bQ⟩,hd⟩:=hm
 obtain⟨⟨td,hu,hs,Bt⟩,-⟩:=hK
 have sG:=λb=>Bt w b 9999 k
 have hg:(getObj m).run P w= .ok (.map es c) w:=by simp[getObj,Sem.run,hh]
 have gU:∀o,(setObj m o).run P w= .ok () (w.putObj m o):=λo=>by simp[setObj,Sem.run,hh,World.putObj]
 have dB:=(z3w kv k).map (·.1)
 cases lH:PX kv k with
 | none =>
   have hf:(Instr.findKey kt (K k) es.toList).run P w= .ok none w:=by simp[Instr.findKey,run_underlying hu,Uu hs 0 he lH]
   have kN:delL kv k=kv:=by
    clear he hh hd dB
    induction kv with
    |nil=>rfl
    | cons p r ih =>
      obtain⟨a,u⟩:=p;simp only[PX] at lH;split at lH
      ·cases lH
      ·rename_i bD;simp only[delL,bD,if_false,ih lH]
   refine⟨.tuple #[],w.putObj m (.map es c),fun ρ hρ=>?_,⟨⟨es,c,World.putObj_heap_same aU,by rw[kN];exact he,bN,bQ⟩,by rw[kN];exact hd⟩,Pu w m _⟩
   simp[execOp,resolve,invoke,builtin,hρ _ _ hx,hρ _ _ hy,Builtin.delete_,vw,run_underlying ht,hg,sG,hf,gU,Result.andThen]
 | some v0 =>
   obtain⟨j,wP,hj,ni⟩:=Ys hs 0 he lH
   have hf:(Instr.findKey kt (K k) es.toList).run P w= .ok (some (j,v0)) w:=by
    rw[Nat.zero_add] at wP;simp[Instr.findKey,run_underlying hu,wP]
   have Bu:(es.eraseIdxIfInBounds j).toList=es.toList.eraseIdx j:=by
    simp at hj;simp[Array.eraseIdxIfInBounds,hj]
   refine⟨.tuple #[],w.putObj m (.map (es.eraseIdxIfInBounds j) c),fun ρ hρ=>?_,⟨⟨_,c,World.putObj_heap_same aU,by rw[Bu];exact ni,?_,?_⟩,dB.nodup hd⟩,Pu w m _⟩
   ·simp[execOp,resolve,invoke,builtin,hρ _ _ hx,hρ _ _ hy,Builtin.delete_,vw,run_underlying ht,hg,sG,hf,gU,Result.andThen]
   ·rw[Bu];exact λx hx=>bN x ((List.eraseIdx_sublist _ _).subset hx)
   ·rw[Bu];exact((List.eraseIdx_sublist _ _).map _).nodup bQ
end
def O7:Nat->Nat->List Bool
 |0,_=>[]
 |n+1,v=>v.testBit n::O7 n v
def Ol:List Bool->Nat
 |[]=>0
 |b::l=>b.toNat*2^l.length+Ol l
@[simp] theorem bitsN_length:∀(n v:Nat),(O7 n v).length=n
 |0,_=>rfl
 |n+1,v=>by simp[O7,bitsN_length n v]
theorem Pw:∀(l:List Bool),Ol l<2^l.length
 |[]=>by simp[Ol]
 | b :: l => by
   have:=Pw l;simp only[Ol,List.length_cons,Nat.pow_succ];have:b.toNat<=1:=by cases b<;>simp
   have:b.toNat*2^l.length<=1*2^l.length:=Nat.mul_le_mul_right _ this;omega
theorem Qw:∀(a b:List Bool),Ol (a++b)=Ol a*2^b.length+Ol b
 |[],b=>by simp[Ol]
 | x :: a, b => by
   rw[List.cons_append,Ol,Qw a b,Ol,List.length_append,Nat.pow_add,Nat.add_mul,Nat.mul_assoc];omega
theorem Qx:∀(m n v:Nat),O7 (m+n) v=O7 m (v / 2^n)++O7 n v
 |0,n,v=>by simp[O7]
 | m + 1, n, v => by
   rw[show m+1+n=(m+n)+1 by omega,O7,O7,List.cons_append,Qx m n v,Nat.testBit_div_two_pow]
theorem OT:∀(n v:Nat),Ol (O7 n v)=v%2^n
 |0,v=>by simp[O7,Ol,Nat.mod_one]
 | n + 1, v => by
   rw[O7,Ol,bitsN_length,OT n v,Nat.pow_succ,Nat.mod_mul,Nat.testBit_eq_decide_div_mod_eq];rcases Nat.mod_two_eq_zero_or_one (v / 2^n) with e|e<;>simp[e]<;>omega
theorem UW:∀{n v u:Nat},v%2^n=u%2^n->O7 n v=O7 n u
 |0,_,_,_=>rfl
 | n + 1, v, u, h => by
   have h1:v.testBit n=u.testBit n:=by
    have e1:(v%2^(n+1)).testBit n=v.testBit n:=by rw[Nat.testBit_mod_two_pow];simp
    have e2:(u%2^(n+1)).testBit n=u.testBit n:=by rw[Nat.testBit_mod_two_pow];simp
    rw[<-e1,<-e2,h]
   have h2:v%2^n=u%2^n:=by
    have e1:v%2^(n+1)%2^n=v%2^n:=Nat.mod_mod_of_dvd _ (Nat.pow_dvd_pow 2 (Nat.le_succ n));have e2:u%2^(n+1)%2^n=u%2^n:=Nat.mod_mod_of_dvd _ (Nat.pow_dvd_pow 2 (Nat.le_succ n));rw[<-e1,<-e2,h]
   rw[O7,O7,h1,UW h2]
theorem X9:∀{a b:List Bool},a.length=b.length->Ol a=Ol b->a=b
 |[],[],_,_=>rfl
 | x :: a, y :: b, hl, hv => by
   have hl':a.length=b.length:=by simpa using hl
   have h1:=Pw a;have h2:=Pw b;rw[Ol,Ol,hl'] at hv;rw[hl'] at h1
   have hx:x=y:=by
    cases x<;>cases y<;>simp at hv⊢<;>omega
   subst hx;rw[X9 hl' (by omega)]
theorem ZB (l:List Bool):O7 l.length (Ol l)=l:=X9 (by simp) (by rw[OT,Nat.mod_eq_of_lt (Pw l)])
/-! ### Bytes -/
def O0 (s:NH):List Bool:=s.flatMap λc=>O7 8 c.toNat
@[simp] theorem bitsT_length (s:NH):(O0 s).length=8*s.length:=by
 induction s with
 |nil=>rfl
 |cons c s ih=>simp[O0] at ih⊢;omega
theorem Xf (a b:NH):O0 (a++b)=O0 a++O0 b:=by simp[O0]
def UH (d:List Bool):UInt8:=UInt8.ofNat (Ol d*2^(8-d.length))
def Oc (l:List Bool):NH:=(List.range ((l.length+7) / 8)).map λi=>UH ((l.drop (8*i)).take 8)
theorem Ot (l:List Bool):(Oc l).length=(l.length+7) / 8:=by simp[Oc]
theorem Wv {c d:List Bool}(hc:c.length%8=0)(h1:1<=d.length)(h8:d.length<=8):Oc (c++d)=Oc c++[UH d]:=by
 obtain⟨m,hm⟩:∃m,c.length=8*m:=⟨c.length / 8,by omega⟩
 unfold Oc
 rw[List.length_append,show(c.length+d.length+7) / 8=m+1 by omega,show(c.length+7) / 8=m by omega,List.range_succ,List.map_append]
 congr 1
 ·apply List.map_congr_left;intro i hi;rw[List.mem_range] at hi;rw[List.drop_append_of_le_length (by omega),List.take_append_of_le_length (by rw[List.length_drop];omega)]
 ·simp only[List.map_cons,List.map_nil];rw[<-hm,List.drop_left,List.take_of_length_le h8]
theorem z7C {d e:List Bool}(h:d.length+e.length<=8):(UH (d++e)).toNat=(UH d).toNat |||(Ol e*2^(8-d.length-e.length)):=by
 have h1:=Pw d
 have h2:=Pw e
 have hp:∀(x:List Bool),x.length<=8->Ol x*2^(8-x.length)<256:=λx hx=>by
  have h3:=Pw x;have:Ol x*2^(8-x.length)<2^x.length*2^(8-x.length):=Nat.mul_lt_mul_of_pos_right h3 (Nat.two_pow_pos _);rw[<-Nat.pow_add,show x.length+(8-x.length)=8 by omega] at this;exact this
 have e1:(UH (d++e)).toNat=Ol (d++e)*2^(8-(d++e).length):=by
  unfold UH;rw[UInt8.toNat_ofNat'];exact Nat.mod_eq_of_lt (hp _ (by rw[List.length_append];omega))
 have e2:(UH d).toNat=Ol d*2^(8-d.length):=by
  unfold UH;rw[UInt8.toNat_ofNat'];exact Nat.mod_eq_of_lt (hp _ (by omega))
 rw[e1,e2,Qw,List.length_append,Nat.add_mul]
 have h5:Ol d*2^e.length*2^(8-(d.length+e.length))=2^(8-d.length)*Ol d:=by
  rw[Nat.mul_assoc,<-Nat.pow_add,show e.length+(8-(d.length+e.length))=8-d.length by omega,Nat.mul_comm]
 have h6:Ol e*2^(8-(d.length+e.length))<2^(8-d.length):=by
  have:Ol e*2^(8-(d.length+e.length))<2^e.length*2^(8-(d.length+e.length)):=Nat.mul_lt_mul_of_pos_right h2 (Nat.two_pow_pos _);rw[<-Nat.pow_add,show e.length+(8-(d.length+e.length))=8-d.length by omega] at this;exact this
 rw[h5,Nat.two_pow_add_eq_or_of_lt h6,Nat.mul_comm (2^(8-d.length)),show 8-d.length-e.length=8-(d.length+e.length) by omega]
theorem z7z:UH []=0:=by decide
theorem QV (l:List Bool):∃z,O0 (Oc l)=l++List.replicate z false/\(l.length+z)%8=0/\z<8:=by
 have key : ∀ (m : Nat) (l : List Bool), l.length <= 8 * m -> ∃ z, O0 (Oc l) = l ++ List.replicate z false /\ (l.length + z) % 8 = 0 /\ z < 8 := by
  intro m
  induction m with
  | zero =>
    intro l h;have:l=[]:=List.eq_nil_of_length_eq_zero (by omega);subst this
    exact⟨0,rfl,rfl,by omega⟩
  | succ m ih =>
    intro l h;by_cases h0:l=[]
    ·subst h0;exact⟨0,rfl,rfl,by omega⟩
    ·have hpos:1<=l.length:=by
      cases l with
      |nil=>exact absurd O h0
      |cons a r=>simp
     obtain⟨c,d,rfl,hc,h1,h8⟩:∃c d,l=c++d/\c.length%8=0/\1<=d.length/\d.length<=8:=by
      refine⟨l.take (8*((l.length-1) / 8)),l.drop (8*((l.length-1) / 8)),(List.take_append_drop _ _).symm,?_,?_,?_⟩
      ·rw[List.length_take];omega
      ·rw[List.length_drop];omega
      ·rw[List.length_drop];omega
     rw[List.length_append] at h;obtain⟨z,hz,hm,hl⟩:=ih c (by omega);have hz0:z=0:=by omega
     subst hz0;simp at hz;refine⟨8-d.length,?_,by rw[List.length_append];omega,by omega⟩;rw[Wv hc h1 h8,Xf,hz,List.append_assoc]
     congr 1
     simp only[O0,List.flatMap_cons,List.flatMap_nil,List.append_nil]
     have hv:Ol (d++List.replicate (8-d.length) false)=Ol d*2^(8-d.length):=by
      rw[Qw,List.length_replicate]
      have:∀n,Ol (List.replicate n false)=0:=λn=>by
       induction n with
       |zero=>rfl
       |succ n ih=>rw[List.replicate_succ,Ol,ih];simp
      rw[this];rfl
     refine X9 (by simp;omega) ?_;rw[OT,hv];have h3:=Pw d
     have:Ol d*2^(8-d.length)<2^8:=by
      have:Ol d*2^(8-d.length)<2^d.length*2^(8-d.length):=Nat.mul_lt_mul_of_pos_right h3 (Nat.two_pow_pos _)
      rwa [<-Nat.pow_add,show d.length+(8-d.length)=8 by omega] at this
     unfold UH;rw[UInt8.toNat_ofNat'];rw[Nat.mod_mod,Nat.mod_eq_of_lt this]
 exact key l.length l (by omega)
theorem z4y (c:Nat)(hc:c<256)(room n:Nat)(hr:room<=8)(hn:n<=room):Ol (((O7 8 c).drop (8-room)).take n)=c%2^room / 2^(room-n):=by
 have e1:O7 8 c=O7 (8-room) (c / 2^room)++O7 room c:=by rw[<-Qx,show 8-room+room=8 by omega]
 have e2:O7 room c=O7 n (c / 2^(room-n))++O7 (room-n) c:=by rw[<-Qx,show n+(room-n)=room by omega]
 rw[e1,List.drop_left' (by simp),e2,List.take_left' (by simp),OT]
 have:c%2^room / 2^(room-n)=c / 2^(room-n)%2^n:=by
  have h2:2^room=2^(room-n)*2^n:=by rw[<-Nat.pow_add,show room-n+n=room by omega]
  rw[h2,Nat.mod_mul_right_div_self]
 rw[this]
theorem Sf (c:UInt8)(s:NH):O0 (c::s)=O7 8 c.toNat++O0 s:=rfl
theorem Si:∀(k:Nat) (s:NH),O0 (s.drop k)=(O0 s).drop (8*k)
 |0,s=>by simp
 |k+1,[]=>by simp[O0]
 | k + 1, c :: s => by
   have e:(O7 8 c.toNat++O0 s).drop (8+8*k)=(O0 s).drop (8*k):=by rw[<-List.drop_drop,List.drop_left' (by simp)]
   rw[List.drop_succ_cons,Si k s,Sf,show 8*(k+1)=8+8*k by omega,e]
theorem Tc:∀(k:Nat) (s:NH),O0 (s.take k)=(O0 s).take (8*k)
 |0,s=>by simp[O0]
 |k+1,[]=>by simp[O0]
 | k + 1, c :: s => by
   have e:(O7 8 c.toNat++O0 s).take (8+8*k)=O7 8 c.toNat++(O0 s).take (8*k):=by
    have:=List.take_length_add_append (l₁:=O7 8 c.toNat) (l₂:=O0 s) (8*k)
    rwa [bitsN_length] at this
   rw[List.take_succ_cons,Sf,Tc k s,Sf,show 8*(k+1)=8+8*k by omega,e]
theorem zbZ {s:NH}{i:Nat}{c:UInt8}(h:s[i]? =some c):((O0 s).drop (8*i)).take 8=O7 8 c.toNat:=by
 rw[<-Si]
 obtain⟨hi,e⟩:=List.getElem?_eq_some_iff.1 h
 rw[List.drop_eq_getElem_cons hi,e,show O0 (c::s.drop (i+1))=O7 8 c.toNat++O0 (s.drop (i+1)) from rfl,List.take_left' (by simp)]
theorem z4O {s:NH}{at' n:Nat}{c:UInt8}(h:s[at' / 8]? =some c)(hn:n<=8-at'%8):Ol (((O0 s).drop at').take n)=c.toNat%2^(8-at'%8) / 2^(8-at'%8-n):=by
 have h1:=zbZ h
 have h2:=z4y c.toNat (by have:=c.toNat_lt;omega) (8-at'%8) n (by omega) hn
 rw[<-h2,<-h1]
 congr 1
 rw[List.drop_take,List.take_take,List.drop_drop,show 8*(at' / 8)+(8-(8-at'%8))=at' by omega]
 congr 1
 omega
theorem z4j {bs e:List Bool}(h1:1<=e.length)(h8:bs.length%8+e.length<=8):∃(c:NH) (x y:UInt8),(if bs.length%8=0 then Oc bs++[0] else Oc bs)=c++[x]/\Oc (bs++e)=c++[y]/\y.toNat=(x.toNat |||(Ol e*2^(8-bs.length%8-e.length))):=by
 obtain⟨c,d,hcd,hc,hd⟩:∃c d,bs=c++d/\c.length%8=0/\d.length=bs.length%8:=⟨bs.take (8*(bs.length / 8)),bs.drop (8*(bs.length / 8)),(List.take_append_drop _ _).symm,by rw[List.length_take];omega,by rw[List.length_drop];omega⟩
 have hb:=z7C (d:=d) (e:=e) (by omega)
 rw[<-hd]
 refine⟨Oc c,UH d,UH (d++e),?_,?_,hb⟩
 ·by_cases h0:d.length=0
  ·have:d=[]:=List.eq_nil_of_length_eq_zero h0;subst this;rw[if_pos (by simp),hcd,List.append_nil,z7z]
  ·rw[if_neg (by omega),hcd,Wv hc (by omega) (by omega)]
 ·rw[hcd,List.append_assoc,Wv hc (by rw[List.length_append];omega) (by rw[List.length_append];omega)]
end Go.Proofs.YtfgjaafcgghnoaaGreatDoor
namespace Go.Proofs.YtfgjaafcgghnoaaGreatDoor
open Go Go.RowKit Go.Proofs.Tryz
abbrev NW (n:Nat):Value:= .int .u64 (n:Int)
theorem Uq {w:World}{v:Value}{T s n}{us:List Value}(h:Sl w v T s n us):oneV v=true:=by
 rcases h.shape with⟨rfl,-⟩|⟨g,c,rfl,-⟩<;>rfl
section
variable {P:Program}{e:Env}{d:Option Nat}{ty t t':TypeId}{pos:String}{aft:Array Edge}{g:Option (Nat×Bool)}{x y:Operand}{w:World}{k:IntKind}{m n:Nat}
theorem Uh (hx:look e x=some (.int k (m:Int)))(hy:look e y=some (.int k (n:Int)))(hs:k.signed=false)(hm:m<2^k.bits)(h:n<=m):Y P e ⟨d,.binOp .sub t x y t',ty,pos,aft,g⟩ (.int k ((m-n:Nat):Int)) w w:=fun ρ hρ=>by
 have h1:(m:Int)-n=((m-n:Nat):Int):=by omega
 have h2:k.wrap ((m-n:Nat):Int)=((m-n:Nat):Int):=Yu hs (by omega)
 simp[execOp,go_sem,hρ _ _ hx,hρ _ _ hy,h1,h2]
theorem zfy {el:TypeId}{c:Nat}(hs:P.underlying t=some (.slice el))(he:P.underlying el=some (.int .u8))(hd:P.underlying t'=some .string)(hx:look e x=some (.slice none 0 c)):Y P e ⟨d,.convert t t' x,ty,pos,aft,g⟩ (S []) w w:=fun ρ hρ=>by
 have hr:(convert t t' (.slice none 0 c)).run P w= .ok (S []) w:=by
  rw[run_convert_bytes_string w t t' el none 0 c hs he hd];rfl
 simp only[execOp,hρ _ _ hx,Sem.run_bind,hr,Result.andThen_ok,Sem.run_pure]
theorem zgV {el:TypeId}{gb n cap:Nat}{l:List UInt8}(hs:P.underlying t=some (.slice el))(he:P.underlying el=some (.int .u8))(hd:P.underlying t'=some .string)(hx:look e x=some (.slice (some ⟨gb,0,none⟩) n cap))(hS:Sl w (.slice (some ⟨gb,0,none⟩) n cap) el 1 n (l.map Rq)):
  Y P e ⟨d,.convert t t' x,ty,pos,aft,g⟩ (S l) w w:=by
 obtain⟨cur,hr,-,-,-,ht⟩:=hS.row
 refine z2Z hs he hd hx hr.ND (by rw[List.drop_zero,<-ht,Nat.mul_one]) ?_
 have:=hS.len
 rw[List.length_map] at this
 omega
end
theorem P6 {w:World}{b off n cap i:Nat}{vs:List Value}{v:Value}(h:Rd w (.slice (some ⟨b,off,none⟩) n cap) 1 n vs)(hv:vs[i]? =some v):w.cell? ⟨b,off+i*1,none⟩=some v:=by
 rcases h.2 with⟨c,hc,h0⟩|⟨b',off',cap',e,hc⟩
 ·have hi:=(List.getElem?_eq_some_iff.1 hv).1;have:=h.1;omega
 ·cases e;rw[Nat.mul_one];exact hc i v hv
structure WrM (w:World)(p:Nat)(bv:Value)(bs:List Bool):Prop where
 ND:NM w p [bv,I (bs.length:Int)] 286
 sl:Sl w bv 5 1 (Oc bs).length ((Oc bs).map Rq)
 ne:bv.ownBlock≠some p
def fpW (p:Nat)(bv:Value)(k:Nat):Prop:=k=p\/bv.ownBlock=some k
def Xk (w:World)(p:Nat)(bs:List Bool)(F:Nat->Prop):Prop:=∃bv,WrM w p bv bs/\∀k,F k↔fpW p bv k
def WrR (p:Nat)(F:Nat->Prop)(w w':World)(bs:List Bool):Prop:=∃F',Xk w' p bs F'/\Kp F w w'/\∀k,F' k->F k\/w.heap.size<=k
section
variable {w w':World}{p:Nat}{bs:List Bool}{F S:Nat->Prop}
theorem Xk.lt (h:Xk w p bs F){k:Nat}(hk:F k):k<w.heap.size:=by
 obtain⟨bv,hM,hF⟩:=h
 rcases (hF k).1 hk with e| e
 ·rw[e];exact hM.ND.lt
 ·exact hM.sl.lt e
theorem Xk.kp (h:Xk w p bs F)(k:Kp S w w')(hn:∀i,F i->¬S i):Xk w' p bs F:=by
 obtain⟨bv,hM,hF⟩:=h
 exact⟨bv,⟨k.ND hM.ND (hn p ((hF p).2 (.inl O))),hM.sl.kp k (λg hg=>hn g ((hF g).2 (.inr hg))),hM.ne⟩,hF⟩
theorem Xk.ext (h:Xk w p bs F)(k:Ext w w'):Xk w' p bs F:=h.kp k.kp λ_ _=>id
end
section
variable {w:World}{p:Nat}{bs:List Bool}{F:Nat->Prop}
theorem T8 (w:World):Oa prog 122 [] w λv w'=>∃p F,v=ptr p 0/\Xk w' p [] F/\Ext w w'/\∀k,F k->w.heap.size<=k:=by
 refine Nu (e:=[]) func122 O ntmps122 O O$ qN O$ NQ O$ qM O$ qV (QP (cs:=[_,_]) zeW O zfW O O)$ NK O O (PW O O) ?_
 rintro _ w1 ⟨p,rfl,hp,hx,hB⟩
 refine NF O$ NA func122 O ?_
 exact⟨_,rfl,p,_,rfl,⟨_,⟨hB,Sl.nil _ _ _,by simp[Value.ownBlock]⟩,λ_=>Iff.rfl⟩,hx,λk hk=>by
  rcases hk with e| e
  ·omega
  ·simp[Value.ownBlock] at e⟩
theorem z8F (h:Xk w p bs F)(v n:Nat)(hn:n<=64)(hv:v<2^n)(hl:bs.length+n<=1000000000):
  Oa prog 163 [ptr p 0,NW v,I (n:Int)] w λu w'=>u= .tuple #[]/\WrR p F w w' (bs++O7 n v):=by
 obtain⟨bv,hM,hF⟩:=h
 have Im:v<18446744073709551616:=by
  have:=Nat.pow_le_pow_right (show 0<2 by decide) hn;have e:(2:Nat)^64=18446744073709551616:=by decide
  omega
 have eJ:maxLen=9223372036854775807:=rfl
 refine Nu (e:=[(0,_),(1,_),(2,_)]) func163 O ntmps163 O O$ Nw$ Qb (α:=Nat×Value×List Bool) ((n,bv,bs)) (λx=>[(0,ptr p 0),(1,NW v),(2,I (x.1:Int))]) (λx w'=>x.1<=n/\WrM w' p x.2.1 x.2.2/\x.2.2=bs++O7 (n-x.1) (v / 2^x.1)/\Kp F w w'/\(∀k,fpW p x.2.1 k->F k\/w.heap.size<=k)) (λx=>x.1) ?hI ?hround
 case hI=>exact⟨Nat.le_refl _,hM,by rw[Nat.sub_self];simp[O7],Kp.refl _ _,λk hk=> .inl ((hF k).2 hk)⟩
 case hround =>
  rintro⟨k,bv1,b1⟩ w1 ⟨hk,dQ,bN,aM,iY⟩ ih;dsimp only at hk dQ bN iY;have aj:=dQ.ND;have In:b1.length<=bs.length+n:=by rw[bN,List.length_append,bitsN_length];omega
  have jT:b1.length&&&7=b1.length%8:=Nat.and_two_pow_sub_one_eq_mod b1.length 3;have mK:=aM.size;have et:=aj.lt
  try dsimp only
  refine py$ qN O$ Nz O$ P9 O O$ NB$ NN O (λaU=>?_)$ λaU=>?_
  ·have ia : 0 < k := by omega
   obtain⟨take,jU⟩:∃take,min k (8-b1.length%8)=take:=⟨_,rfl⟩;have sI:1<=take/\take<=k/\take<=8-b1.length%8:=by omega
   obtain⟨e,he⟩:∃e,O7 take (v / 2^(k-take))=e:=⟨_,rfl⟩;have lJ:e.length=take:=by rw[<-he];simp
   have GE:Ol e=v / 2^(k-take)%2^take:=by rw[<-he,OT]
   obtain⟨c,x,y,hL,hY,dy⟩:=z4j (bs:=b1) (e:=e) (by omega) (by omega);refine An$ Nw$ py$ qN O$ Nz O$ O8 O$ NO Vy O$ qV (NJ U3 O O aj O)$ qV (W8 O O (by omega) (by omega)) ?_;rw[jT];refine Px O O$ NB$ Oy (λe' w'=>e'=[(0,ptr p 0),(1,NW v),(2,I (k:Int))]/\∃bv2,NM w' p [bv2,I (b1.length:Int)] 286/\Sl w' bv2 5 1 (c++[x]).length ((c++[x]).map Rq)/\bv2.ownBlock≠some p/\Kp F w w'/\∀k,fpW p bv2 k->F k\/w.heap.size<=k) ?nj$ λnj=>?nl
   case nj=>
    rintro e' w2 ⟨rfl,bv2,am,cm,ft,aq,sJ⟩
    obtain⟨g2,c2,rfl,eM⟩:∃g cp,bv2= .slice (some ⟨g,0,none⟩) (c++[x]).length cp/\(c++[x]).length<=cp:=by
     rcases cm.shape with⟨-,e⟩| h
     ·simp at e
     ·exact h
    have dx:(c++[x]).length=c.length+1:=by simp
    have Io:p≠g2:=λe=>ft (by rw[e];rfl);have jD:(Oc (b1++e)).length=c.length+1:=by rw[hY];simp
    rw[Ot,List.length_append] at jD;obtain⟨T,hT⟩:∃T,2^take=T:=⟨_,rfl⟩;obtain⟨D,hD⟩:∃D,2^(k-take)=D:=⟨_,rfl⟩;obtain⟨R,hR⟩:∃R,2^(8-b1.length%8-take)=R:=⟨_,rfl⟩;rw[hT,hD] at GE;rw[lJ,hR] at dy
    have GF:1<=T/\T<=256:=by
     rw[<-hT];exact⟨Nat.two_pow_pos _,by have:=Nat.pow_le_pow_right (show 0<2 by decide) (show take<=8 by omega);simpa using this⟩
    have j9:(v / D)&&&(T-1)=v / D%T:=by rw[<-hT];exact Nat.and_two_pow_sub_one_eq_mod _ _
    have Ms:v / D<=v:=Nat.div_le_self _ _;have Ip:v / D%T<T:=Nat.mod_lt _ (by omega)
    have Mt:Ol e*R<256:=by
     have h1:=Pw e;rw[lJ,hT] at h1;have h2:Ol e*R<T*R:=Nat.mul_lt_mul_of_pos_right h1 (by rw[<-hR];exact Nat.two_pow_pos _);have h3:T*R=2^(8-b1.length%8):=by rw[<-hT,<-hR,<-Nat.pow_add,show take+(8-b1.length%8-take)=8-b1.length%8 by omega]
     have h4:=Nat.pow_le_pow_right (show 0<2 by decide) (show 8-b1.length%8<=8 by omega);have h5:(2:Nat)^8=256:=by decide
     omega
    have dC:=x.toNat_lt;refine qN O$ Nz O$ O8 O$ NO Vy O$ qV (NJ U3 O O am O)$ qV (W8 O O (by omega) (by omega)) ?_;rw[jT];refine Qc O O ?_;rw[show(8-((b1.length%8:Nat):Int))=((8-b1.length%8:Nat):Int) by omega];refine NQ O$ qM O$ NT O O$ qV (ymi O O) ?_;rw[show min (k:Int) ((8-b1.length%8:Nat):Int)=((take:Nat):Int) by omega];have hg:=Ext.NY w2;refine NF O$ py$ PK (λw'=>Ext w2 w') O$ NX 0 O O (hg)$ NX 1 O O (hg)$ NX 2 O O (hg)$ NG 3 O (W5 O O (by omega)) hg$ NX 5 O O (hg) ?_;rw[show((k:Int)-(take:Int))=((k-take:Nat):Int) by omega];refine NG 4 O (RS (k-take) D O O (by show k-take<=64;omega) hD) hg ?_;refine NG 6 O (PV take T O O (by omega) hT) hg ?_;rw[show(1*T)%18446744073709551616=T by omega];refine NG 7 O (Uh (n:=1) O O O (by show T<2^64;omega) (by omega)) hg ?_;refine NG 8 O (Td O O (by omega) (by omega)) hg ?_;rw[j9];refine NG 9 O (YS O Qe U5) hg ?_;rw[show v / D%T%256=Ol e by rw[GE];exact Nat.mod_eq_of_lt (Nat.lt_of_lt_of_le Ip GF.2)];have ar:=hg.ND am;have cz:=cm.ext hg;have ae:Ext w2.drew w2.drew.drew:=Ext.NY w2.drew;refine NG 10 O (PO O) hg$ qE$ py$ O3 [19] (λw'=>Ext w2.drew w') (by kernel_rfl) O$ qL [1,2,3,10,11,17,18,19] 0 O (λ_ h=>Oq O) ae$ qL [2,3,10,11,17,18,19] 1 O (λ_ h=>OQ O) ae$ qL [3,10,11,17,18,19] 2 O (λ_ h=>Og WM O) ae$ qL [10,11,17,18,19] 3 O (λ_ h=>NJ P8 O O (h.ND ar) O) ae$ qL [5,6,7,8,9,10,11,17,18,19] 4 O (λ_ h=>Oq O) ae$ qL [6,7,8,9,10,11,17,18,19] 5 O (λ_ h=>OQ O) ae$ qL [7,8,9,10,11,17,18,19] 6 O (λ_ h=>Og WM O) ae$ qL [8,9,10,11,17,18,19] 7 O (λ_ h=>NJ P8 O O (h.ND ar) O) ae$ qL [9,10,11,17,18,19] 8 O (λ_ h=>R7 P8 O) ae$ qL [16,17,18,19] 12 O (λ_ h=>Oq O) ae ?_;refine qL [15,16,17,18,19] 13 O (λ_ h=>Oq O) ae$ qL [15,16,17,18,19] 14 O (λ_ h=>Oq O) ae$ qL [16,17,18,19] 15 O (λ_ h=>W5 O O (by omega)) ae$ qL [10,11,17,18,19] 9 O (λ_ h=>W5 O O (by omega)) ae ?_;rw[show(((c++[x]).length:Int)-1)=((c.length:Nat):Int) by omega];refine qL [11,17,18,19] 10 O (λ_ h=>OH P8 VO O O (by omega)) ae$ qL [17,18,19] 11 O (λ_ hS=>Oi U5 O O (P6 (cz.rd.ext hS) (show((c++[x]).map Rq)[c.length]? =some (Rq x) by simp))) ae ?_;rw[show(((8-b1.length%8:Nat):Int)-(take:Int))=((8-b1.length%8-take:Nat):Int) by omega];refine qL [17,18,19] 16 O (λ_ h=>zid (8-b1.length%8-take) R O O (by omega) hR) ae ?_;rw[show Ol e*R%256=Ol e*R by omega];refine qL [18,19] 17 O (λ_ h=>zi2 O O (by omega) (by omega)) ae$ qL [19] 18 O (λ_ h=>OH P8 VO O O (by omega)) ae$ Rs [19]$ qO 19$ Ou (i:=19) O O (Qt VO O O O (cz.ext ae) (by simp)) ?_
    rintro w4 ⟨ee,ao⟩;refine⟨trivial,?_⟩
    rw[show((c++[x]).map Rq).set (0+c.length*1) (.int .u8 ((x.toNat |||Ol e*R:Nat):Int))=(c++[y]).map Rq by
     rw[Nat.zero_add,Nat.mul_one,List.map_append,List.map_append,List.set_append_right _ _ (by simp)]
     simp[Rq,dy]] at ee
    have aH:=ao.ND (ae.ND ar) Io;refine qE$ qN O$ Nz O$ O8 O$ NO Vy O$ qV (NJ U3 O O aH O)$ Nz O$ OI O O$ O8 O$ NO Vy O$ NP O (PA OL O O O aH (by simp)) ?_;rintro w5 ⟨aC,ai⟩;rw[show((b1.length:Int)+(take:Int))=(((b1++e).length:Nat):Int) by rw[List.length_append,lJ];omega] at aC;replace aC:NM w5 p [.slice (some ⟨g2,0,none⟩) (c++[x]).length c2,I ((b1++e).length:Int)] 286:=aC
    have fE:=ee.kp ai (λg hg e=>by
                         have:g2=g:=by simpa[Value.ownBlock] using hg
                         omega)
    refine NB$ NC O$ NT O O$ Qc O O$ NF O$ Ny ?_;rw[show((k:Int)-(take:Int))=((k-take:Nat):Int) by omega];refine(ih (k-take,.slice (some ⟨g2,0,none⟩) (c++[x]).length c2,b1++e) w5 ⟨by dsimp only;omega,⟨aC,?_,ft⟩,?_,?_,sJ⟩ (by dsimp only;omega)).qb
    ·rw[hY];have e1:(c++[y]).length=(c++[x]).length:=by simp
     rw[e1];exact fE
    ·dsimp only;rw[bN,List.append_assoc]
     congr 1
     rw[<-he,show n-(k-take)=(n-k)+take by omega,Qx]
     congr 2
     rw[Nat.div_div_eq_div_mul,<-Nat.pow_add,show k-take+take=k by omega]
    ·have pI:Kp (fpW p (.slice (some ⟨g2,0,none⟩) (c++[x]).length c2)) w2 w5:=((hg.trans ae).kp.trans (ao.NR (λi e=> .inr (by rw[e];rfl)))).trans (ai.NR (λi e=> .inl e));exact aq.Nv pI (λi hi=>(sJ i hi).symm)
   case nl=>
    refine NN O (λh0=>?_)$ λh0=>?_
    ·rw[if_pos (by omega)] at hL;refine NC O$ NT O O$ O8 O$ NO WM O$ qV (NJ P8 O O aj O)$ NK O O (Ur (cs:=[_]) (zs:=[Value.int .u8 0]) P8 VO O (by kernel_rfl) O O O (by decide)) ?_;rintro _ w2 ⟨b2,rfl,⟨bQ,ag,am⟩,cm⟩;refine NK O O (pap P8 VO O (by decide) O O (dQ.sl.ext ag) cm.rd (by intro c hc;simp at hc;subst hc;rfl) (by rw[Ot];omega) (by rw[Ot];omega)) ?_;rintro bv3 w3 ⟨cz,aw,ib,-⟩;have ar:=aw.ND (ag.ND aj) dQ.ne;refine O8 O$ NO WM O$ NP O (PA VZ O O (Uq cz) ar (by simp)) ?_;rintro w4 ⟨aH,ao⟩;replace aH:NM w4 p [bv3,I (b1.length:Int)] 286:=aH;refine NB ?_
     have fu:bv3.ownBlock≠some p:=λe=>by
      rcases ib p e with e| e
      ·exact dQ.ne e
      ·have:=ag.size;omega
     refine(nj _ _ ⟨rfl,bv3,aH,?_,fu,?_,?_⟩).qb
     ·rw[<-hL,List.length_append,List.map_append];exact cz.kp ao (λg hg e=>fu (e▸hg))
     ·exact aM.Nv ((ag.kp.trans (aw.NR (λk e=> .inr e))).trans (ao.NR (λk e=> .inl e))) (λi hi=>(iY i hi).symm)
     ·intro i hi;rcases hi with e| e
      ·exact iY i (.inl e)
      ·rcases ib i e with e| e
       ·exact iY i (.inr e)
       ·have:=ag.size;exact .inr (by omega)
    ·rw[if_neg (by omega)] at hL;refine An ?_;exact(nj _ _ ⟨rfl,bv1,aj,by rw[<-hL];exact dQ.sl,dQ.ne,aM,iY⟩).qb
  ·have:k=0:=by omega
   subst this;refine NL O$ Pq func163 O (⟨_,rfl,rfl,_,⟨bv1,?_,λ_=>Iff.rfl⟩,aM,iY⟩);rw[bN,Nat.sub_zero,Nat.pow_zero,Nat.div_one] at dQ;exact dQ
theorem z81 (v n:Nat)(hn:n<=64)(hv:v<2^n)(w:World):Oa prog 162 [NW v,I (n:Int)] w λu w'=>u= .bool true/\w'=w:=by
 refine Nu (e:=[(0,_),(1,_)]) func162 O ntmps162 O O$ qN O$ NQ O$ qM O$ Nz O$ RN O O$ Nz O$ QZ (λh1=>?_)$ λh1=>?_
 ·refine qS$ qS$ qS$ qS$ Pc O O$ NF O$ NA func162 O ?_;exact⟨_,rfl,rfl,rfl⟩
 ·refine NT O O$ qV (RS n (2^n) O O (by show n<=64;omega) O) ?_;rw[Nat.div_eq_of_lt hv];refine Px O O$ OC O O$ NF O$ NA func162 O ?_;exact⟨_,rfl,by simp[OR],rfl⟩
theorem QS (h:Xk w p bs F)(v n:Nat)(hn:n<=64)(hv:v<2^n)(hl:bs.length+n<=134217728):
  Oa prog 123 [ptr p 0,NW v,I (n:Int)] w λu w'=>u=I 0/\WrR p F w w' (bs++O7 n v):=by
 obtain⟨bv,hM,hF⟩:=id h
 have hB:=hM.ND
 refine Nu (e:=[(0,_),(1,_),(2,_)]) func123 O ntmps123 O O$ qN O$ NF O$ py$ Nw$ qN O$ Nz O$ qV (OP z1E O O)$ NF O$ It O$ qN O$ Nz O$ Pb O O$ Nz O ?_
 refine QZ (λh1=>?_)$ λh1=>?_
 ·omega
 ·refine Nz O$ P9 O O$ OC O O$ Nz O$ QZ (λh2=>?_)$ λh2=>?_
  ·omega
  ·refine NT O O$ NZ zh5 O (z81 v n hn hv w) ?_;rintro _ w ⟨rfl,rfl⟩;refine qV ((Qr O))$ OC O O$ NF O$ It O$ qN O$ NT O O$ O8 O$ NO Vy O$ qV (NJ U3 O O hB O)$ Qc O O$ P9 O O$ NF O$ Of.qb (e:=[(0,_),(1,_),(2,_),(6,_),(23,_)]) ?_;refine NN O (λh3=>?_)$ λh3=>?_
   ·omega
   ·refine An$ Ny$ qN O$ NT O O$ Nz O$ NZ zfX O (z8F h v n hn hv (by omega)) ?_;rintro _ w1 ⟨rfl,hR⟩;refine qM O$ NF O$ NA func123 O ?_;exact⟨_,rfl,rfl,hR⟩
theorem VA (h:Xk w p bs F):Oa prog 124 [ptr p 0] w λu w'=>u= .tuple #[S (Oc bs),I 0]/\w'=w:=by
 obtain⟨bv,hM,hF⟩:=h
 have hB:=hM.ND
 have hS:=hM.sl
 refine Nu (e:=[(0,_)]) func124 O ntmps124 O O$ qN O$ NQ O$ NF O$ py$ qN O$ Nz O$ qV (OP z1E O O)$ NB$ It O$ An$ qN O$ Nz O$ O8 O ?_
 refine NO WM O$ qV (NJ P8 O O hB O) ?_
 rcases hS.shape with⟨rfl,h0⟩|⟨g,cap,rfl,ja⟩
 ·have hn:Oc bs=[]:=List.eq_nil_of_length_eq_zero h0;rw[hn];refine qV (zfy P8 U5 U9 O)$ NQ O$ NF O$ NA func124 O ?_;exact⟨_,rfl,rfl,rfl⟩
 ·refine qV (zgV (l:=Oc bs) P8 U5 U9 O hS)$ NQ O$ NF O$ NA func124 O ?_;exact⟨_,rfl,rfl,rfl⟩
theorem U6 (h:Xk w p bs F):Oa prog 127 [ptr p 0] w λu w'=>u=I (bs.length:Int)/\w'=w:=by
 obtain⟨bv,hM,hF⟩:=h
 have hB:=hM.ND
 refine Nu (e:=[(0,_)]) func127 O ntmps127 O O$ qN O$ NF O$ py$ qN O$ Nz O$ qV (OP z1E O O)$ NB$ It O$ An$ qN O$ Nz O$ O8 O$ NO Vy O ?_
 refine qV (NJ U3 O O hB O)$ NF O$ NA func127 O ?_
 exact⟨_,rfl,rfl,rfl⟩
end
def Sn (w:World)(r:Nat)(s:NH)(a:Nat):Prop:=NM w r [S s,I (a:Int)] 262/\a<=8*s.length/\s.length<=1000000000
section
variable {w:World}{r:Nat}{s:NH}{a:Nat}
theorem VG (s:NH)(hs:s.length<=1000000000)(w:World):Oa prog 144 [S s] w λv w'=>∃r,v=ptr r 0/\Sn w' r s 0/\Ext w w'/\w.heap.size<=r:=by
 refine Nu (e:=[(0,_)]) func144 O ntmps144 O O$ qN O$ NQ O$ qM O$ Nz O$ qV (QP (cs:=[_,_]) zfB O zga O O)$ NK O O (PW O O) ?_
 rintro _ w1 ⟨r,rfl,hr,hx,hB⟩
 refine NF O$ NA func144 O ?_
 exact⟨_,rfl,r,rfl,⟨hB,Nat.zero_le _,hs⟩,hx,by omega⟩
theorem SL (h:Sn w r s a):Oa prog 108 [ptr r 0] w λv w'=>v=I (a:Int)/\w'=w:=by
 obtain⟨hB,h1,h2⟩:=h
 refine Nu (e:=[(0,_)]) func108 O ntmps108 O O$ qN O$ NF O$ py$ qN O$ Nz O$ qV (OP TN O O)$ NB$ It O$ An$ qN O$ Nz O$ O8 O$ NO TC O ?_
 refine qV (NJ U3 O O hB O)$ NF O$ NA func108 O ?_
 exact⟨_,rfl,rfl,rfl⟩
theorem z7N (h:Sn w r s a):Oa prog 205 [ptr r 0] w λv w'=>v=I ((8*s.length-a:Nat):Int)/\Ext w w':=by
 obtain⟨hB,h1,h2⟩:=h
 refine Nu (e:=[(0,_)]) func205 O ntmps205 O O$ qN O$ NF O$ py$ qN O$ Nz O$ qV (OP TN O O) ?_
 have hg:=Ext.NY w
 refine NB$ It O$ An$ py$ PK (λw'=>Ext w w') O$ NX 0 O O (hg)$ NG 1 O (OQ O) hg$ NG 2 O (Og z1F O) hg$ qT 3 O (λ_ h=>NJ U9 O O (h.ND hB) O) hg$ NG 4 O (SG U9 O) hg$ NG 5 O (TT O O (by omega)) hg$ NX 6 O O (hg)$ NG 7 O (OQ O) hg$ NG 8 O (Og TC O) hg ?_
 refine qT 9 O (λ_ h=>NJ U3 O O (h.ND hB) O) hg$ NG 10 O (W5 O O (by omega)) hg$ NG 11 O (PO O) hg$ qE$ NA func205 O (⟨_,rfl,?_,hg⟩)
 simp only[OR]
 congr 1
 omega
theorem Ya (h:Sn w r s a)(k:Nat)(hk:k<=8*s.length):Oa prog 145 [ptr r 0,I (k:Int)] w λv w'=>v=I 0/\Sn w' r s k/\Kp (λi=>i=r) w w':=by
 obtain⟨hB,h1,h2⟩:=h
 refine Nu (e:=[(0,_),(1,_)]) func145 O ntmps145 O O$ qN O$ NF O$ py$ Nw$ qN O$ Nz O$ qV (OP TN O O)$ NF O$ It O$ qN O$ Nz O$ Pb O O$ Nz O ?_
 refine QZ (λc1=>?_)$ λc1=>?_
 ·omega
 ·refine NT O O$ O8 O$ NO z1F O$ qV (NJ U9 O O hB O)$ qV (SG U9 O)$ qV (TT O O (by omega))$ P9 O O$ OC O O$ NF O$ NN O (λc2=>?_)$ λc2=>?_
  ·omega
  ·refine An$ Ny$ qN O$ NT O O$ O8 O$ NO TC O$ NP O (PA OL O O O hB (by simp)) ?_;rintro w1 ⟨aj,aM⟩;refine qM O$ NF O$ NA func145 O ?_;exact⟨_,rfl,rfl,⟨aj,hk,h2⟩,aM⟩
theorem z5r {b2 b6 V n:Nat}(h:Sn w r s a)(h2:NM w b2 [ptr r 0] 158)(h6:NM w b6 [NW V] 41)(hn:1<=n)(sK:n<=8-a%8)(hl:a+n<=8*s.length)(hV:V*2^n+2^n<=18446744073709551616)(d1:b6≠r)(d2:b2≠r)(d3:b2≠b6):
  Oa prog 206 [I (n:Int),ptr b2 0,ptr b6 0] w λu w'=>u= .tuple #[]/\Sn w' r s (a+n)/\NM w' b6 [NW (V*2^n+Ol (((O0 s).drop a).take n))] 41/\NM w' b2 [ptr r 0] 158/\Kp (λk=>k=b6\/k=r) w w':=by
 obtain⟨hB,ha,hs⟩:=h
 have jT:a&&&7=a%8:=Nat.and_two_pow_sub_one_eq_mod a 3
 obtain⟨c,hc⟩:∃c,s[a / 8]? =some c:=⟨_,List.getElem?_eq_getElem (by omega)⟩
 have hp:=z4O hc sK
 obtain⟨pc,jD⟩:∃pc,Ol (((O0 s).drop a).take n)=pc:=⟨_,rfl⟩
 have et:pc<2^n:=by
  rw[<-jD];have h1:=Pw (((O0 s).drop a).take n);rw[List.length_take,List.length_drop,bitsT_length,Nat.min_eq_left (by omega)] at h1;exact h1
 rw[jD] at hp⊢
 have Mu:=c.toNat_lt
 obtain⟨rm,Ax⟩:∃rm,8-a%8=rm:=⟨_,rfl⟩
 rw[Ax] at hp sK
 have j9:c.toNat&&&(2^rm-1)=c.toNat%2^rm:=Nat.and_two_pow_sub_one_eq_mod _ _
 obtain⟨R,hR⟩:∃R,2^rm=R:=⟨_,rfl⟩
 have jV:1<=R/\R<=256:=by
  rw[<-hR];exact⟨Nat.two_pow_pos _,by have:=Nat.pow_le_pow_right (show 0<2 by decide) (show rm<=8 by omega);simpa using this⟩
 rw[hR] at hp j9
 have mL:c.toNat%R<=c.toNat:=Nat.mod_le _ _
 have Iq:s.getD (a / 8) 0=c:=by rw[List.getD_eq_getElem?_getD,hc];rfl
 refine Nu (e:=[(0,_),(1,_),(2,_)]) func206 O ntmps206 O O$ qN O$ qV ((NJ TN O O h2 O))$ O8 O$ NO TC O$ qV ((NJ U3 O O hB O))$ qV (W8 O O (by omega) (by omega)) ?_
 rw[jT]
 refine Qc O O ?_
 rw[show(8-((a%8:Nat):Int))=((rm:Nat):Int) by omega]
 have hg:=Ext.NY w
 refine NF O$ py$ PK (λw'=>Ext w w') O$ qT 0 O (λ_ h=>(NJ TN O O (h.ND h2) O)) hg$ NG 1 O (OQ O) hg$ NG 2 O (Og z1F O) hg$ qT 3 O (λ_ h=>(NJ U9 O O (h.ND hB) O)) hg$ qT 4 O (λ_ h=>(NJ TN O O (h.ND h2) O)) hg$ NG 5 O (OQ O) hg$ NG 6 O (Og TC O) hg$ qT 7 O (λ_ h=>(NJ U3 O O (h.ND hB) O)) hg$ NG 8 O (Vu O O (by omega)) hg$ NX 11 O O (hg)$ NX 15 O O (hg) ?_
 refine NX 16 O O (hg)$ NG 17 O (W5 O O (by omega)) hg ?_
 rw[show((a:Int) / 8)=((a / 8:Nat):Int) by omega]
 refine NG 9 O (z1Y U9 O O (by omega)) hg$ NG 10 O ((z0x O U5 U3 (by decide))) hg ?_
 rw[Iq]
 refine NG 12 O (zii rm R O O (by omega) hR (by omega)) hg ?_
 rw[show(1*(R:Int))=((R:Nat):Int) by omega]
 refine NG 13 O (W5 O O (by omega)) hg ?_
 rw[show((R:Int)-1)=((R-1:Nat):Int) by omega]
 refine NG 14 O (W8 O O (by omega) (by omega)) hg ?_
 rw[j9]
 rw[show((rm:Int)-(n:Int))=((rm-n:Nat):Int) by omega]
 refine NG 18 O (RS (rm-n) (2^(rm-n)) O O (by show rm-n<=64;omega) O) hg ?_
 rw[<-hp]
 refine NG 19 O (PO O) hg$ qE$ Of.qb (e:=[(0,_),(1,_),(2,_),(5,_)]) ?_
 refine qN O ?_
 have aj:=hg.ND hB
 have Ir:=hg.ND h2
 have Ay:=hg.ND h6
 obtain⟨N,hN⟩:∃N,2^n=N:=⟨_,rfl⟩
 rw[hN] at hV et
 have Mv:1<=N:=by rw[<-hN];exact Nat.two_pow_pos _
 obtain⟨M,hM⟩:∃M,V*N=M:=⟨_,rfl⟩
 rw[hM] at hV
 have mM:M |||pc=M+pc:=by
  have:=Nat.two_pow_add_eq_or_of_lt (i:=n) (b:=pc) (by rw[hN];exact et) V;rw[hN,Nat.mul_comm N V,hM] at this;exact this.symm
 rw[hN,hM]
 have sL:n<=64:=by omega
 refine qV ((NJ Qe O O Ay O))$ Nz O$ qV (PV n N O O sL hN) ?_
 rw[hM,Nat.mod_eq_of_lt (show M<18446744073709551616 by omega)]
 refine Nz O$ qV ((OM O U3 Qe (by omega)))$ qV (XZ O O (by omega) (by omega)) ?_
 rw[mM]
 refine NP O (PA Tr O O O Ay (by simp)) ?_
 rintro w2 ⟨Is,aq⟩
 have am:=aq.ND aj (Ne.symm d1)
 have GG:=aq.ND Ir d3
 refine NB$ NC O$ qV ((NJ TN O O GG O))$ O8 O$ NO TC O$ qV ((NJ U3 O O am O))$ Nz O$ OI O O$ O8 O$ NO TC O$ NP O (PA OL O O O am (by simp)) ?_
 rintro w3 ⟨ar,aw⟩
 rw[show((a:Int)+(n:Int))=((a+n:Nat):Int) by omega] at ar
 refine NB$ Pq func206 O ?_
 exact⟨_,rfl,rfl,⟨ar,hl,hs⟩,aw.ND Is d1,aw.ND GG d2,(hg.kp.trans (aq.NR (λk e=> .inl e))).trans (aw.NR (λk e=> .inr e))⟩
theorem TS (h:Sn w r s a)(n:Nat)(hn:n<=64):
  Oa prog 167 [ptr r 0,I (n:Int)] w λv w'=>(a+n<=8*s.length/\v= .tuple #[NW (Ol (((O0 s).drop a).take n)),I 0]/\Sn w' r s (a+n)/\Kp (λk=>k=r) w w')\/(8*s.length<a+n/\v= .tuple #[NW 0,I 4]/\Ext w w'):=by
 have ic:=h.1.lt
 obtain⟨-,ha,hs⟩:=id h
 refine Nu (e:=[(0,_),(1,_)]) func167 O ntmps167 O O$ qN O$ NK O O (PW O (cs:=[ptr r 0]) O) ?_
 rintro _ w1 ⟨b2,rfl,bQ,ad,am⟩
 have h1:Sn w1 r s a:=⟨ad.ND h.1,h.2⟩
 refine NQ O$ NF O$ py$ Nw$ qN O$ qV (NJ TN O O am O)$ qV (OP TN O O)$ NF O$ It O$ qN O$ Nz O$ Pb O O$ Nz O$ QZ (λc1=>?_)$ λc1=>?_
 ·omega
 ·refine Nz O$ P9 O O$ OC O O$ NF O$ NN O (λc2=>?_)$ λc2=>?_
  ·omega
  ·refine qN O$ Nz O$ qV (NJ TN O O am O)$ NZ zgg O (z7N h1) ?_;rintro _ w2 ⟨rfl,ag⟩;refine P9 O O$ NF O$ NN O (λc3=>?_)$ λc3=>?_
   ·refine qN O$ NQ O$ NF O$ NA func167 O ?_;exact⟨_,rfl,.inr ⟨by omega,rfl,ad.trans ag⟩⟩
   ·refine An$ Ny$ qN O$ NK O O (Qk (cs:=[_]) Tr O) ?_;rintro _ w3 ⟨b6,rfl,mN,ah,aR⟩;replace aR:NM w3 b6 [NW 0] 41:=aR;have aO:=ag.trans ah;have cI:=ad.trans aO;have mK:=ad.size;have mO:=ag.size;have gV:=am.lt;have cj:a+n<=8*s.length:=by omega
    refine qM O$ qV (ymf (first:=[]) (caps:=[.tmp 2,.tmp 6]) O O)$ NF O$ py$ Nw$ Qb (α:=Nat) (n) (λk=>[(1,I (k:Int)),(2,ptr b2 0),(6,ptr b6 0),(7,.func (.func 206) #[] #[ptr b2 0,ptr b6 0])]) (λk w'=>k<=n/\Sn w' r s (a+(n-k))/\NM w' b6 [NW (Ol (((O0 s).drop a).take (n-k)))] 41/\NM w' b2 [ptr r 0] 158/\Kp (λi=>i=r) w w') (λk=>k) ?hI ?hround
    case hI=>exact⟨Nat.le_refl _,⟨by rw[Nat.sub_self];exact cI.ND h.1,by omega,hs⟩,by rw[Nat.sub_self];exact aR,aO.ND am,cI.kp⟩
    case hround=>
     rintro k w4 ⟨hk,dz,sM,GH,ao⟩ ih;have GI:=dz.1
     try dsimp only
     refine py$ qN O$ Nz O$ P9 O O$ NB$ NN O (λaU=>?_)$ λaU=>?_
     ·obtain⟨p,hp⟩:∃p,a+(n-k)=p:=⟨_,rfl⟩;rw[hp] at GI dz;have jT:p&&&7=p%8:=Nat.and_two_pow_sub_one_eq_mod p 3;obtain⟨take,jU⟩:∃take,min k (8-p%8)=take:=⟨_,rfl⟩;have sI:1<=take/\take<=k/\take<=8-p%8:=by omega
      refine An$ Nw$ qN O$ Nz O$ qV ((NJ TN O O GH O))$ O8 O$ NO TC O$ qV ((NJ U3 O O GI O))$ qV (W8 O O (by omega) (by omega)) ?_;rw[jT];refine Qc O O$ qV (ymi O O) ?_;rw[show min (k:Int) (8-((p%8:Nat):Int))=((take:Nat):Int) by omega];obtain⟨V,hV⟩:∃V,Ol (((O0 s).drop a).take (n-k))=V:=⟨_,rfl⟩;rw[hV] at sM
      have GJ:V*2^take+2^take<=18446744073709551616:=by
       have h1:=Pw (((O0 s).drop a).take (n-k));rw[hV,List.length_take,List.length_drop,bitsT_length,Nat.min_eq_left (by omega)] at h1;have h2:(V+1)*2^take<=2^(n-k)*2^take:=Nat.mul_le_mul_right _ h1;rw[<-Nat.pow_add,Nat.add_mul,Nat.one_mul] at h2;have h3:=Nat.pow_le_pow_right (show 0<2 by decide) (show n-k+take<=64 by omega);have h4:(2:Nat)^64=18446744073709551616:=by decide
       omega
      refine NQ O$ qM O$ NT O O$ Pv O O (QH zfT O O) (z5r dz GH sM sI.1 sI.2.2 (by omega) GJ (by omega) (by omega) (by omega)) ?_;rintro _ w5 ⟨rfl,sN,Iu,Iv,ai⟩;refine NB$ NC O$ NT O O$ Qc O O$ NF O$ Ny ?_;rw[show((k:Int)-(take:Int))=((k-take:Nat):Int) by omega];refine(ih (k-take) w5 ⟨by omega,?_,?_,Iv,?_⟩ (by omega)).qb
      ·rw[show a+(n-(k-take))=p+take by omega];exact sN
      ·rw[show n-(k-take)=(n-k)+take by omega,List.take_add,Qw,hV,List.drop_drop,hp];have hl:(((O0 s).drop p).take take).length=take:=by rw[List.length_take,List.length_drop,bitsT_length];omega
       rw[hl];exact Iu
      ·exact ao.Nv ai (λi hi=>hi.elim (λe=> .inl (by omega)) .inr)
     ·have:k=0:=by omega
      subst this;rw[Nat.sub_zero] at dz sM;refine NL O$ qN O$ qV (NJ Qe O O sM O)$ NQ O$ NF O$ NA func167 O ?_;exact⟨_,rfl,.inl ⟨cj,rfl,dz,ao⟩⟩
end
end Go.Proofs.YtfgjaafcgghnoaaGreatDoor
namespace Go.Proofs.YtfgjaafcgghnoaaGreatDoor
open Go Go.RowKit
def OJ (v:Nat):Nat:=if v=0 then 0 else Nat.log2 v+1
theorem Vr {v:Nat}:v<2^OJ v:=by
 unfold OJ
 split
 ·subst_vars;simp
 ·exact Nat.lt_log2_self
theorem Z0 {v:Nat}(h:v≠0):2^(OJ v-1)<=v:=by
 unfold OJ
 rw[if_neg h,Nat.add_sub_cancel]
 exact Nat.log2_self_le h
theorem z64 {v n:Nat}(h1:2^n<=v)(h2:v<2^(n+1)):OJ v=n+1:=by
 have hp:=Nat.two_pow_pos n
 have h0:v≠0:=by omega
 unfold OJ
 rw[if_neg h0]
 have:=(Nat.log2_eq_iff h0).2 ⟨h1,h2⟩
 omega
theorem PQ {v n:Nat}(h:v<2^n):OJ v<=n:=by
 by_cases h0:v=0
 ·subst h0;simp[OJ]
 ·have h1:=Z0 h0;have h2:2^(OJ v-1)<2^n:=by omega
  have h3:=(Nat.pow_lt_pow_iff_right (by decide:1<2)).1 h2;have:OJ v≠0:=by unfold OJ;rw[if_neg h0];omega
  omega
def Qi (v K:Nat):Nat×Nat:=
 let s:=OJ (K-1)
 let m:=2^s-K
 if v<m then(v,s-1) else(v+m,s)
def Ps (v K:Nat):List Bool:=O7 (Qi v K).2 (Qi v K).1
theorem TK {K:Nat}(hK:1<=K):K<=2^OJ (K-1)/\(1<K->1<=OJ (K-1)/\2^(OJ (K-1)-1)+1<=K):=by
 have h1:=Vr (v:=K-1)
 refine⟨by omega,λh=>?_⟩
 have h2:=Z0 (v:=K-1) (by omega)
 refine⟨?_,by omega⟩
 unfold OJ
 rw[if_neg (by omega)];omega
theorem z7L {v K:Nat}(h:v<K):(Qi v K).1<2^(Qi v K).2:=by
 obtain⟨h1,h2⟩:=TK (K:=K) (by omega)
 unfold Qi
 dsimp only
 split
 ·rename_i hm
  by_cases hK:K=1
  ·subst hK;simp[OJ] at hm
  ·obtain⟨h3,h4⟩:=h2 (by omega);have:2^OJ (K-1)=2*2^(OJ (K-1)-1):=by rw[<-Nat.pow_succ',show(OJ (K-1)-1).succ=OJ (K-1) by omega]
   dsimp only;omega
 ·dsimp only;omega
theorem z5e {v K:Nat}(h:v<K)(hK:1<K)(rest:List Bool):
  let s:=OJ (K-1)
  let m:=2^s-K
  1<=s/\s-1<=(Ps v K).length/\
  ((Ol ((Ps v K).take (s-1))<m/\(Ps v K).length=s-1/\Ol ((Ps v K).take (s-1))=v)\/
   (m<=Ol ((Ps v K).take (s-1))/\(Ps v K).length=s/\2*Ol ((Ps v K).take (s-1))+Ol ((Ps v K).drop (s-1))=v+m)):=by
 obtain⟨h1,h2⟩:=TK (K:=K) (by omega)
 obtain⟨h3,h4⟩:=h2 hK
 have h5:2^OJ (K-1)=2*2^(OJ (K-1)-1):=by rw[<-Nat.pow_succ',show(OJ (K-1)-1).succ=OJ (K-1) by omega]
 dsimp only
 unfold Ps Qi
 dsimp only
 refine⟨h3,?_⟩
 split
 ·rename_i hm
  dsimp only;rw[bitsN_length,List.take_of_length_le (by simp),OT,Nat.mod_eq_of_lt (by omega)];exact⟨Nat.le_refl _,.inl ⟨hm,rfl,rfl⟩⟩
 ·rename_i hm
  dsimp only;rw[bitsN_length]
  have e:O7 (OJ (K-1)) (v+(2^OJ (K-1)-K))=O7 (OJ (K-1)-1) ((v+(2^OJ (K-1)-K)) / 2^1)++O7 1 (v+(2^OJ (K-1)-K)):=by
   rw[<-Qx,show OJ (K-1)-1+1=OJ (K-1) by omega]
  rw[e,List.take_left' (by simp),List.drop_left' (by simp),OT,OT,Nat.mod_eq_of_lt (by omega)];exact⟨by omega,.inr ⟨by omega,rfl,by omega⟩⟩
inductive Cd where
 |unary
 |gamma
 |zeta (k:Nat)
def Cd.zeros:Cd->Nat->Nat
 | .unary,v=>v
 | .gamma,v=>Nat.log2 (v+1)
 | .zeta k,v=>Nat.log2 (v+1) / k
def Cd.rest:Cd->Nat->List Bool
 | .unary,_=>[]
 | .gamma,v=>O7 (Nat.log2 (v+1)) (v+1-2^Nat.log2 (v+1))
 | .zeta k,v=>let h:=Nat.log2 (v+1) / k;Ps (v+1-2^(h*k)) (2^(h*k)*2^k-2^(h*k))
def Cd.enc (c:Cd)(v:Nat):List Bool:=List.replicate (c.zeros v) false++true::c.rest v
theorem Ui {v:Nat}(h:v<=281474976710654):2^Nat.log2 (v+1)<=v+1/\v+1<2^(Nat.log2 (v+1)+1)/\Nat.log2 (v+1)<=47:=by
 have h1:=Nat.log2_self_le (n:=v+1) (by omega)
 have h2:=Nat.lt_log2_self (n:=v+1)
 refine⟨h1,h2,?_⟩
 have h3:2^Nat.log2 (v+1)<2^48:=by
  have:(2:Nat)^48=281474976710656:=by decide
  omega
 have:=(Nat.pow_lt_pow_iff_right (by decide:1<2)).1 h3
 omega
theorem Ws {k v:Nat}(hk:1<=k):let h:=Nat.log2 (v+1) / k;2^(h*k)<=v+1/\v+1-2^(h*k)<2^(h*k)*2^k-2^(h*k)/\1<=2^(h*k)*2^k-2^(h*k):=by
 dsimp only
 have h1:=Nat.log2_self_le (n:=v+1) (by omega)
 have h2:=Nat.lt_log2_self (n:=v+1)
 have h3:Nat.log2 (v+1) / k*k<=Nat.log2 (v+1):=Nat.div_mul_le_self _ _
 have h4:Nat.log2 (v+1)+1<=Nat.log2 (v+1) / k*k+k:=by
  have:=Nat.div_add_mod (Nat.log2 (v+1)) k;have:=Nat.mod_lt (Nat.log2 (v+1)) (show 0<k by omega);have e:=Nat.mul_comm k (Nat.log2 (v+1) / k);omega
 have h5:2^(Nat.log2 (v+1) / k*k)<=2^Nat.log2 (v+1):=Nat.pow_le_pow_right (by decide) h3
 have h6:2^(Nat.log2 (v+1)+1)<=2^(Nat.log2 (v+1) / k*k+k):=Nat.pow_le_pow_right (by decide) h4
 rw[Nat.pow_add 2 (Nat.log2 (v+1) / k*k) k] at h6
 have h7:2<=2^k:=by
  have:=Nat.pow_le_pow_right (show 0<2 by decide) hk
  simpa using this
 have h8:2^(Nat.log2 (v+1) / k*k)*2<=2^(Nat.log2 (v+1) / k*k)*2^k:=Nat.mul_le_mul_left _ h7
 have h9:=Nat.two_pow_pos (Nat.log2 (v+1) / k*k)
 omega
end Go.Proofs.YtfgjaafcgghnoaaGreatDoor
namespace Go.Proofs.YtfgjaafcgghnoaaGreatDoor
open Go Go.RowKit Go.Proofs.Tryz
theorem Wk {x k:Nat}(h:2^k<=x):OJ x=OJ (x / 2^k)+k:=by
 have hk:=Nat.two_pow_pos k
 have hy:x / 2^k≠0:=by have:=Nat.div_pos h hk;omega
 have h1:=Z0 hy
 have h2:=Vr (v:=x / 2^k)
 have h0:OJ (x / 2^k)≠0:=by unfold OJ;rw[if_neg hy];omega
 obtain⟨n,hn⟩:∃n,OJ (x / 2^k)=n+1:=⟨OJ (x / 2^k)-1,by omega⟩
 rw[hn] at h1 h2⊢
 rw[Nat.add_sub_cancel] at h1
 have h3:2^(n+k)<=x:=by
  rw[Nat.pow_add];exact Nat.le_trans (Nat.mul_le_mul_right _ h1) (Nat.div_mul_le_self _ _)
 have h4:x<2^(n+k+1):=by
  rw[show n+k+1=(n+1)+k by omega,Nat.pow_add];exact(Nat.div_lt_iff_lt_mul hk).1 h2
 rw[z64 h3 h4];omega
def zdh:NH:=[0,1,2,2,3,3,3,3,4,4,4,4,4,4,4,4,5,5,5,5,5,5,5,5,5,5,5,5,5,5,5,5,6,6,6,6,6,6,6,6,6,6,6,6,6,6,6,6,6,6,6,6,6,6,6,6,6,6,6,6,6,6,6,6,7,7,7,7,7,7,7,7,7,7,7,7,7,7,7,7,7,7,7,7,7,7,7,7,7,7,7,7,7,7,7,7,7,7,7,7,7,7,7,7,7,7,7,7,7,7,7,7,7,7,7,7,7,7,7,7,7,7,7,7,7,7,7,7,8,8,8,8,8,8,8,8,8,8,8,8,8,8,8,8,8,8,8,8,8,8,8,8,8,8,8,8,8,8,8,8,8,8,8,8,8,8,8,8,8,8,8,8,8,8,8,8,8,8,8,8,8,8,8,8,8,8,8,8,8,8,8,8,8,8,8,8,8,8,8,8,8,8,8,8,8,8,8,8,8,8,8,8,8,8,8,8,8,8,8,8,8,8,8,8,8,8,8,8,8,8,8,8,8,8,8,8,8,8,8,8,8,8,8,8,8,8,8,8,8,8,8,8,8,8,8,8]
theorem zam:zdh.length=256:=by decide+kernel
theorem zj4:∀x:Fin 256,(zdh.getD x.val 0).toNat=OJ x.val:=by decide+kernel
section
variable {w:World}
theorem T0 (x:Nat)(hx:x<18446744073709551616)(w:World):Oa prog 164 [NW x] w λv w'=>v=I (OJ x:Int)/\w'=w:=by
 refine Nu (e:=[(0,_)]) func164 O ntmps164 O O$ qN O$ NF O$ py$ qN O$ Nz O$ RN O O$ NB$ Oy (λe' w'=>w=w'/\∃x1 n1:Nat,e'=[(0,NW x1),(2,I (n1:Int))]/\OJ x=OJ x1+n1/\x1<4294967296/\n1<=32) ?cJ$ λcJ=>?di
 case cJ=>
  rintro e' w' ⟨rfl,x1,n1,rfl,h1,h2,h3⟩;refine py$ qN O$ Nz O$ RN O O$ NB$ Oy (λe' w'=>w=w'/\∃x2 n2:Nat,e'=[(0,NW x2),(2,I (n2:Int))]/\OJ x=OJ x2+n2/\x2<65536/\n2<=48) ?fd$ λfd=>?fY
  case fd=>
   rintro e' w' ⟨rfl,x2,n2,rfl,h4,h5,h6⟩;refine py$ qN O$ Nz O$ RN O O$ NB$ Oy (λe' w'=>w=w'/\∃x3 n3:Nat,e'=[(0,NW x3),(2,I (n3:Int))]/\OJ x=OJ x3+n3/\x3<256/\n3<=56) ?az$ λaz=>?eu
   case az=>
    rintro e' w' ⟨rfl,x3,n3,rfl,h7,h8,h9⟩;have fX:=zj4 ⟨x3,h8⟩;dsimp only at fX;have pJ:OJ x3<=8:=PQ (by omega);refine qN O$ NT O O$ qV (YS O Qe U5) ?_;rw[Nat.mod_eq_of_lt h8];refine qV (z1Y (l:=zdh) U9 O O (by rw[zam];exact h8)) ?_;rw[fX];refine qV ((Ow O U5 U3 (by omega)))$ OI O O$ NF O$ NA func164 O ?_;exact⟨_,rfl,by simp only[OR];congr 1;omega,rfl⟩
   case eu=>
    refine NN O (λhc=>?_)$ λhc=>?_
    ·refine qN O$ Nz O$ qV (RS 8 256 O O (by decide) O)$ NF O$ NC O$ Nz O$ OI O O$ NF O ((az _ _ ⟨rfl,x2 / 256,n2+8,rfl,?_,?_,?_⟩).qb)
     ·have e1:=Wk (x:=x2) (k:=8) (by omega);rw[show x2 / 2^8=x2 / 256 from rfl] at e1;omega
     ·omega
     ·omega
    ·refine An ?_;exact(az _ _ ⟨rfl,x2,n2,rfl,h4,by omega,by omega⟩).qb
  case fY=>
   refine NN O (λhc=>?_)$ λhc=>?_
   ·refine qN O$ Nz O$ qV (RS 16 65536 O O (by decide) O)$ NF O$ NC O$ Nz O$ OI O O$ NF O ((fd _ _ ⟨rfl,x1 / 65536,n1+16,rfl,?_,?_,?_⟩).qb)
    ·have e1:=Wk (x:=x1) (k:=16) (by omega);rw[show x1 / 2^16=x1 / 65536 from rfl] at e1;omega
    ·omega
    ·omega
   ·refine An ?_;exact(fd _ _ ⟨rfl,x1,n1,rfl,h1,by omega,by omega⟩).qb
 case di=>
  refine NN O (λhc=>?_)$ λhc=>?_
  ·refine qN O$ Nz O$ qV (RS 32 4294967296 O O (by decide) O)$ NF O$ NC O$ NF O ((cJ _ _ ⟨rfl,x / 4294967296,32,rfl,?_,?_,?_⟩).qb)
   ·exact Wk (x:=x) (k:=32) (by omega)
   ·omega
   ·omega
  ·refine An ?_;exact(cJ _ _ ⟨rfl,x,0,rfl,by omega,by omega,by omega⟩).qb
/-! ### Codes -/
def QX:Cd->List Value
 | .unary=>[.int .u8 0,NW 0]
 | .gamma=>[.int .u8 1,NW 0]
 | .zeta k=>[.int .u8 3,NW k]
abbrev cdV (c:Cd):Value:= .agg (QX c).toArray
def Cd.Pk:Cd->Prop
 | .zeta k=>1<=k/\k<=16
 |_=>True
def Cd.most:Cd->Nat
 | .unary=>65535
 |_=>281474976710654
def Cd.p0:Cd->Nat->Nat×Nat
 | .unary,_=>(0,0)
 | .gamma,v=>(v+1-2^Nat.log2 (v+1),Nat.log2 (v+1))
 | .zeta k,v=>let h:=Nat.log2 (v+1) / k;Qi (v+1-2^(h*k)) (2^(h*k)*2^k-2^(h*k))
theorem Ti (c:Cd)(hc:c.Pk)(w:World):Oa prog 183 [cdV c] w λv w'=>v=I 0/\Ext w w':=by
 cases c with
 | unary =>
   refine Nu (e:=[(0,_)]) func183 O ntmps183 O O$ qN O$ NK O O (PW O (cs:=[.int .u8 0,NW 0]) O) ?_;rintro _ w1 ⟨b1,rfl,bN,ad,aj⟩;refine NQ O$ qM O$ NF O$ py$ qN O$ NO QN O$ qV (NJ U5 O O aj O)$ NB$ Nw$ py$ qN O$ Px O O$ PE$ NF O ?_;refine NI O$ An$ NI O$ NC O$ NO VJ O$ qV (NJ Qe O O aj O)$ Px O O$ PE$ NF O$ Ny$ py$ qN O$ Nz O$ qV ((Qr O)) ?_;refine NB$ It O$ An$ qN O$ NF O$ NA func183 O ?_
   exact⟨_,rfl,rfl,ad⟩
 | gamma =>
   refine Nu (e:=[(0,_)]) func183 O ntmps183 O O$ qN O$ NK O O (PW O (cs:=[.int .u8 1,NW 0]) O) ?_;rintro _ w1 ⟨b1,rfl,bN,ad,aj⟩;refine NQ O$ qM O$ NF O$ py$ qN O$ NO QN O$ qV (NJ U5 O O aj O)$ NB$ Nw$ py$ qN O$ Px O O$ Ox$ NF O ?_;refine It O$ qN O$ Px O O$ PE$ NF O$ NI O$ An$ NI O$ NC O$ NO VJ O$ qV (NJ Qe O O aj O)$ Px O O$ PE$ NF O ?_;refine Ny$ py$ qN O$ Nz O$ qV ((Qr O))$ NB$ It O$ An$ qN O$ NF O$ NA func183 O ?_
   exact⟨_,rfl,rfl,ad⟩
 | zeta k =>
   obtain⟨aM,aq⟩:1<=k/\k<=16:=hc;refine Nu (e:=[(0,_)]) func183 O ntmps183 O O$ qN O$ NK O O (PW O (cs:=[.int .u8 3,NW k]) O) ?_;rintro _ w1 ⟨b1,rfl,bN,ad,aj⟩;refine NQ O$ qM O$ NF O$ py$ qN O$ NO QN O$ qV (NJ U5 O O aj O)$ NB$ Nw$ py$ qN O$ Px O O$ Ox$ NF O ?_;refine It O$ qN O$ Px O O$ Ox$ NF O$ It O$ NC O$ Px O O$ Ox$ NF O$ It O$ qN O$ Px O O$ PE ?_;refine NF O$ NI O$ NC O$ NO VJ O$ qV (NJ Qe O O aj O)$ RN O O$ PE$ Nz O$ NO VJ O$ qV (NJ Qe O O aj O)$ zle O O$ PE$ Pc O O$ NF O ?_;refine Ny$ py$ qN O$ Nz O$ qV ((Qr O))$ NB$ It O$ An$ qN O$ NF O$ NA func183 O ?_;exact⟨_,rfl,rfl,ad⟩
theorem z1a (c:Cd)(hc:c.Pk)(w:World):Oa prog 186 [cdV c] w λv w'=>v=NW c.most/\Ext w w':=by
 cases c with
 | unary =>
   refine Nu (e:=[(0,_)]) func186 O ntmps186 O O$ qN O$ NK O O (PW O (cs:=[.int .u8 0,NW 0]) O) ?_;rintro _ w1 ⟨b1,rfl,bN,ad,aj⟩;refine NF O$ py$ Nw$ qN O$ qV (Oh (news:=[.int .u8 0,NW 0]) R8 O PB O (aj.cells (n:=2) O) O)$ NZ z2m O (Ti (.unary) hc w1) ?_;rintro _ w2 ⟨rfl,ag⟩;have am:=ag.ND aj;refine P3 O O$ Ox$ NF O$ It O$ qN O$ NO QN O$ qV (NJ U5 O O am O)$ Px O O$ PE$ NF O$ NI O$ qN O$ NF O$ NA func186 O ?_
   exact⟨_,rfl,rfl,ad.trans ag⟩
 | gamma =>
   refine Nu (e:=[(0,_)]) func186 O ntmps186 O O$ qN O$ NK O O (PW O (cs:=[.int .u8 1,NW 0]) O) ?_;rintro _ w1 ⟨b1,rfl,bN,ad,aj⟩;refine NF O$ py$ Nw$ qN O$ qV (Oh (news:=[.int .u8 1,NW 0]) R8 O PB O (aj.cells (n:=2) O) O)$ NZ z2m O (Ti (.gamma) hc w1) ?_;rintro _ w2 ⟨rfl,ag⟩;have am:=ag.ND aj;refine P3 O O$ Ox$ NF O$ It O$ qN O$ NO QN O$ qV (NJ U5 O O am O)$ Px O O$ Ox$ NF O$ It O$ qN O$ NO QN O$ qV (NJ U5 O O am O) ?_;refine Px O O$ Ox$ NF O$ It O$ An$ Ny$ qN O$ NF O$ NA func186 O ?_
   exact⟨_,rfl,rfl,ad.trans ag⟩
 | zeta k =>
   refine Nu (e:=[(0,_)]) func186 O ntmps186 O O$ qN O$ NK O O (PW O (cs:=[.int .u8 3,NW k]) O) ?_;rintro _ w1 ⟨b1,rfl,bN,ad,aj⟩;refine NF O$ py$ Nw$ qN O$ qV (Oh (news:=[.int .u8 3,NW k]) R8 O PB O (aj.cells (n:=2) O) O)$ NZ z2m O (Ti (.zeta k) hc w1) ?_;rintro _ w2 ⟨rfl,ag⟩;have am:=ag.ND aj;refine P3 O O$ Ox$ NF O$ It O$ qN O$ NO QN O$ qV (NJ U5 O O am O)$ Px O O$ Ox$ NF O$ It O$ qN O$ NO QN O$ qV (NJ U5 O O am O) ?_;refine Px O O$ Ox$ NF O$ It O$ An$ Ny$ qN O$ NF O$ NA func186 O ?_;exact⟨_,rfl,rfl,ad.trans ag⟩
theorem z8V (c:Cd)(v:Nat)(hc:c.Pk)(hv:v<=c.most)(w:World):Oa prog 232 [cdV c,NW v] w λu w'=>u= .bool true/\Ext w w':=by
 obtain⟨x,y,dy⟩:∃x y,QX c=[x,y]:=by cases c<;>exact⟨_,_,rfl⟩
 refine Nu (e:=[(0,_),(1,_)]) func232 O ntmps232 O O$ qN O$ NK O O (PW O (cs:=QX c) O) ?_
 rintro _ w1 ⟨b1,rfl,bN,ad,aj⟩
 refine NQ O$ qM O$ qV (Oh (news:=QX c) R8 O PB O (aj.cells (n:=2) (by rw[dy];rfl)) (by rw[dy];rfl)) ?_
 refine NZ z2m O (Ti c hc w1) ?_
 rintro _ w2 ⟨rfl,ag⟩
 have am:=ag.ND aj
 refine Px O O$ PE$ NT O O$ qV (Oh (news:=QX c) R8 O PB O (am.cells (n:=2) (by rw[dy];rfl)) (by rw[dy];rfl)) ?_
 refine NZ zcy O (z1a c hc w2) ?_
 rintro _ w3 ⟨rfl,ah⟩
 refine zle O O$ PE$ Pc O O$ NF O$ NA func232 O ?_
 exact⟨_,rfl,rfl,(ad.trans ag).trans ah⟩
end
section
theorem z5B (v K:Nat)(hK:1<=K)(hv:v<K)(Iw:K<=9223372036854775808)(w:World):Oa prog 240 [NW v,NW K] w λu w'=>u= .agg #[NW (Qi v K).1,I ((Qi v K).2:Int)]/\Ext w w':=by
 obtain⟨s,hs⟩:∃s,OJ (K-1)=s:=⟨_,rfl⟩
 have hf:=TK hK
 rw[hs] at hf
 obtain⟨h1,h2⟩:=hf
 have e63:(2:Nat)^63=9223372036854775808:=by decide
 have Bv:s<=63:=by rw[<-hs];exact PQ (by omega)
 obtain⟨Q,hQ⟩:∃Q,2^s=Q:=⟨_,rfl⟩
 have Bw:Q<=9223372036854775808:=by
  have:=Nat.pow_le_pow_right (show 0<2 by decide) Bv;omega
 rw[hQ] at h1
 have hP:Qi v K=if v<Q-K then(v,s-1) else(v+(Q-K),s):=by unfold Qi;rw[hs];dsimp only;rw[hQ]
 refine Nu (e:=[(0,_),(1,_)]) func240 O ntmps240 O O$ qN O$ NK O O (Qk (cs:=[_,_]) Rr O) ?_
 rintro _ w1 ⟨b4,rfl,ev,ad,aH⟩
 refine qM O$ Nz O$ qV (Uh (n:=1) O O O (by show K<2^64;omega) hK) ?_
 refine NZ z0H O (T0 (K-1) (by omega) w1) ?_
 rintro _ w1 ⟨rfl,rfl⟩
 rw[hs]
 refine NF O$ py$ qN O$ Nz O$ qV (PV s Q O O (by omega) hQ) ?_
 rw[show 1*Q%18446744073709551616=Q by omega]
 refine Nz O$ qV (Uh O O O (by show Q<2^64;omega) h1) ?_
 refine NQ O$ qM O$ NT O O$ RN O O$ NB$ NN O (λjb=>?_)$ λjb=>?_
 ·rw[if_neg (by omega)] at hP;rw[hP];refine qN O$ NT O O$ qV (TF O O) ?_;rw[Nat.mod_eq_of_lt (show v+(Q-K)<18446744073709551616 by omega)];refine Nz O$ qV (QP (cs:=[_,_]) Rr O z9Z O O)$ NP O (OA (news:=[NW (v+(Q-K)),I (s:Int)]) Rr O O O O aH (by simp)) ?_;rintro w2 ⟨am,aq⟩;replace am:NM w2 b4 [NW (v+(Q-K)),I (s:Int)] 353:=am;refine NB$ O9 func240 (.cell z8E O Rr O (NM.cells (n:=2) am (news:=[_,_]) O) O .nil) ?_;exact⟨_,rfl,rfl,ad.Nv aq (λi hi=>by omega)⟩
 ·rw[if_pos (by omega)] at hP;rw[hP]
  have GK:K≠1:=λe=>by
   have e0:s=0:=by rw[<-hs,e];rfl
   have e1:Q=1:=by rw[<-hQ,e0]
   omega
  have eg:1<=s:=(h2 (by omega)).1;refine An$ qN O$ NT O O$ Qc O O ?_;rw[show((s:Int)-1)=((s-1:Nat):Int) by omega];refine qV (QP (cs:=[_,_]) Rr O z9Z O O)$ NP O (OA (news:=[NW v,I ((s-1:Nat):Int)]) Rr O O O O aH (by simp)) ?_;rintro w2 ⟨am,aq⟩;replace am:NM w2 b4 [NW v,I ((s-1:Nat):Int)] 353:=am;refine NB$ O9 func240 (.cell z8E O Rr O (NM.cells (n:=2) am (news:=[_,_]) O) O .nil) ?_;exact⟨_,rfl,rfl,ad.Nv aq (λi hi=>by omega)⟩
theorem z8t (n:Nat)(h:n≠0):OJ n-1=Nat.log2 n/\1<=OJ n:=by
 unfold OJ;rw[if_neg h];exact⟨rfl,by omega⟩
theorem z06 (c:Cd)(v:Nat)(hc:c.Pk)(hv:v<=281474976710654)(w:World):Oa prog 233 [cdV c,NW v] w λu w'=>u= .tuple #[I (c.zeros v:Int),.agg #[NW (c.p0 v).1,I ((c.p0 v).2:Int),NW 0,I 0]]/\Ext w w':=by
 obtain⟨l1,l2⟩:=z8t (v+1) (by omega)
 obtain⟨g1,g2,g3⟩:=Ui hv
 obtain⟨b,hb⟩:∃b,Nat.log2 (v+1)=b:=⟨_,rfl⟩
 rw[hb] at l1 g1 g2 g3
 obtain⟨Q,hQ⟩:∃Q,2^b=Q:=⟨_,rfl⟩
 rw[hQ] at g1
 have Bx:Q<=281474976710656:=by omega
 obtain⟨x,y,dy⟩:∃x y,QX c=[x,y]:=by cases c<;>exact⟨_,_,rfl⟩
 refine Nu (e:=[(0,_),(1,_)]) func233 O ntmps233 O O$ qN O$ NK O O (PW O (cs:=QX c) O) ?_
 rintro _ w1 ⟨b2,rfl,bQ,ad,am⟩
 refine NQ O$ NK O O (Qk (cs:=[_,_,_,_]) Tk O) ?_
 rintro _ w2 ⟨b5,rfl,ff,ag,aC⟩
 replace aC:NM w2 b5 [NW 0,I 0,NW 0,I 0] 354:=aC
 refine qM O$ Nz O$ qV (TF O O) ?_
 rw[show(v+1)%18446744073709551616=v+1 by omega]
 refine NQ O$ qM O$ Nz O$ NZ z0H O (T0 (v+1) (by omega) w2) ?_
 rintro _ w2 ⟨rfl,rfl⟩
 refine Qc O O ?_
 rw[show((OJ (v+1):Int)-1)=((b:Nat):Int) by omega]
 refine NQ O$ qM O$ NT O O$ qV (PV b Q O O (by omega) hQ) ?_
 rw[show 1*Q%18446744073709551616=Q by omega]
 refine qV (Uh O O O (by show v+1<2^64;omega) g1) ?_
 refine Nz O$ qV (QP (cs:=[_,_]) Rr O z9Z O O)$ NK O O (Qk (cs:=[_,_]) Rr O) ?_
 rintro _ w3 ⟨b8,rfl,jE,ah,ck⟩
 refine NP O (OA (news:=[NW (v+1-Q),I (b:Int)]) Rr O O O O ck (by simp)) ?_
 rintro w4 ⟨sO,ao⟩
 replace sO:NM w4 b8 [NW (v+1-Q),I (b:Int)] 353:=sO
 have z1:=ad.size
 have z2:=ag.size
 have z3:=ah.size
 have l2':=am.lt
 have l5':=aC.lt
 have eN:=ao.ND (ah.ND (ag.ND am)) (by omega)
 have dT:=ao.ND (ah.ND aC) (by omega)
 have bU:Ext w w4:=((ad.trans ag).trans ah).Nv ao (λi hi=>by omega)
 cases c with
 | unary =>
   replace eN:NM w4 b2 [.int .u8 0,NW 0] 260:=eN;have hg:=Ext.NY w4;refine NB$ py$ qN O$ NO QN O$ qV (NJ U5 O O eN O)$ NB$ Nw$ qN O$ Px O O$ PE$ NF O$ NI O$ py$ O3 [4] (λw'=>Ext w4 w') (by kernel_rfl) O ?_;refine qL [1,3,4] 0 O (λ_ h=>Oq O) hg$ qL [3,4] 1 O (λ_ h=>Ow O Qe U3 (by omega)) hg$ qL [4] 3 O (λ_ h=>PO O) hg$ qL [4] 2 O (λ_ h=>Oh (news:=[NW 0,I 0,NW 0,I 0]) ZI O Tk O ((h.ND dT).cells (n:=4) O) O) hg$ Rs [4]$ qO 4$ Ou (i:=4) O O (OA (news:=[NW 0,I 0,NW 0,I 0]) Tk O O O O (hg.ND dT) (by simp)) ?_;rintro w5 ⟨aR,ai⟩;refine⟨trivial,?_⟩;replace aR:NM w5 b5 [NW 0,I 0,NW 0,I 0] 354:=aR;refine qE$ Of.qb (e:=[(1,_),(2,_),(4,_),(5,_)]) ?_;refine O9 func233 (.tmp O (.cell ZI O Tk O (NM.cells (n:=4) aR (news:=[_,_,_,_]) O) O .nil)) ?_
   exact⟨_,rfl,rfl,(bU.trans hg).Nv ai (λi hi=>by omega)⟩
 | gamma =>
   replace eN:NM w4 b2 [.int .u8 1,NW 0] 260:=eN;have hg:=Ext.NY w4;refine NB$ py$ qN O$ NO QN O$ qV (NJ U5 O O eN O)$ NB$ Nw$ qN O$ Px O O$ Ox$ NF O$ It O$ qN O$ Px O O ?_;refine PE$ NF O$ Of.qb (e:=[(1,_),(2,_),(4,_),(5,_),(6,_),(7,_),(8,_),(24,_),(30,_)]) ?_;refine NI O$ py$ O3 [4] (λw'=>Ext w4 w') (by kernel_rfl) O$ qL [3,4] 0 O (λ_ h=>Oq O) hg$ qL [4] 3 O (λ_ h=>PO O) hg$ qL [2,4] 1 O (λ_ h=>Oh (news:=[NW (v+1-Q),I (b:Int)]) z8E O Rr O ((h.ND sO).cells (n:=2) O) O) hg$ qL [4] 2 O (λ_ h=>zg1 (parts:=[(0,.tmp 33)]) (cs:=[_,_,_,_]) Tk O ZI Rr O O) hg$ Rs [4]$ qO 4$ Ou (i:=4) O O (OA (news:=[NW (v+1-Q),I (b:Int),NW 0,I 0]) Tk O O O O (hg.ND dT) (by simp)) ?_;rintro w5 ⟨aR,ai⟩;refine⟨trivial,?_⟩;replace aR:NM w5 b5 [NW (v+1-Q),I (b:Int),NW 0,I 0] 354:=aR;refine qE$ O9 func233 (.tmp O (.cell ZI O Tk O (NM.cells (n:=4) aR (news:=[_,_,_,_]) O) O .nil)) ?_
   exact⟨_,rfl,by simp[OR,Cd.zeros,Cd.p0,hb,hQ],(bU.trans hg).Nv ai (λi hi=>by omega)⟩
 | zeta k =>
   obtain⟨aM,aq⟩:1<=k/\k<=16:=hc;have f:=Ws (k:=k) (v:=v) aM;dsimp only at f;rw[hb] at f;obtain⟨h,hh⟩:∃h,b / k=h:=⟨_,rfl⟩;obtain⟨m,hm⟩:∃m,h*k=m:=⟨_,rfl⟩;have GL:m<=b:=by rw[<-hm,<-hh];exact Nat.div_mul_le_self _ _
   rw[hh,hm] at f;obtain⟨F,hF⟩:∃F,2^m=F:=⟨_,rfl⟩;obtain⟨G,hG⟩:∃G,2^k=G:=⟨_,rfl⟩;rw[hF,hG] at f;obtain⟨f1,f2,f3⟩:=f;obtain⟨E,hE⟩:∃E,F*G=E:=⟨_,rfl⟩
   have Bz:E<=9223372036854775808:=by
    rw[<-hE,<-hF,<-hG,<-Nat.pow_add];have:=Nat.pow_le_pow_right (show 0<2 by decide) (show m+k<=63 by omega);have e63:(2:Nat)^63=9223372036854775808:=by decide
    omega
   rw[hE] at f2 f3;have BA:(Cd.zeta k).zeros v=h:=by show Nat.log2 (v+1) / k=h;rw[hb,hh]
   have BB:(Cd.zeta k).p0 v=Qi (v+1-F) (E-F):=by
    show Qi (v+1-2^(Nat.log2 (v+1) / k*k)) (2^(Nat.log2 (v+1) / k*k)*2^k-2^(Nat.log2 (v+1) / k*k))=_;rw[hb,hh,hm,hF,hG,hE]
   rw[BA,BB];have rB:(h:Int)*(k:Int)=(m:Int):=by rw[<-hm];simp
   have gW:(b:Int) / (k:Int)=(h:Int):=by rw[<-hh];simp
   replace eN:NM w4 b2 [.int .u8 3,NW k] 260:=eN;refine NB$ py$ qN O$ NO QN O$ qV (NJ U5 O O eN O)$ NB$ Nw$ qN O$ Px O O$ Ox$ NF O$ It O$ qN O$ Px O O ?_;refine Ox$ NF O$ Of.qb (e:=[(1,_),(2,_),(4,_),(5,_),(6,_),(7,_),(8,_),(24,_),(30,_)]) ?_;refine It O$ qN O$ Px O O$ Ox$ NF O$ It O$ qN O$ Px O O$ PE$ NF O$ NI O$ qN O$ NO VJ O$ qV (NJ Qe O O eN O) ?_;refine qV (Ow O Qe U3 (by omega))$ NQ O$ qM O$ NT O O$ qV (Vu O O (by omega)) ?_;rw[gW];refine NQ O$ qM O$ NT O O$ qV (TT O O (by rw[rB];omega)) ?_;rw[rB];refine qV (PV m F O O (by omega) hF) ?_;rw[show 1*F%18446744073709551616=F by omega];refine NF O$ Of.qb (e:=[(1,_),(2,_),(4,_),(5,_),(6,_),(9,_),(10,_),(11,_)]) ?_;refine qN O$ NT O O$ Nz O$ qV (Uh O O O (by show v+1<2^64;omega) f1) ?_;refine NT O O$ qV (PV k G O O (by omega) hG) ?_;rw[hE,Nat.mod_eq_of_lt (show E<18446744073709551616 by omega)];refine Nz O$ qV (Uh O O O (by show E<2^64;omega) (by omega)) ?_;refine NZ zhz O (z5B (v+1-F) (E-F) f3 f2 (by omega) w4) ?_;rintro _ w5 ⟨rfl,aT⟩;refine qV (zg1 (parts:=[(0,.tmp 69)]) (cs:=[_,_,_,_]) Tk O ZI Rr O O)$ NQ O ?_;have wQ:=aT.ND dT;refine NP O (OA (news:=[NW (Qi (v+1-F) (E-F)).1,I ((Qi (v+1-F) (E-F)).2:Int),NW 0,I 0]) Tk O O O O wQ (by simp)) ?_;rintro w6 ⟨aR,aP⟩;replace aR:NM w6 b5 [NW (Qi (v+1-F) (E-F)).1,I ((Qi (v+1-F) (E-F)).2:Int),NW 0,I 0] 354:=aR;refine NB$ O9 func233 (.tmp O (.cell ZI O Tk O (NM.cells (n:=4) aR (news:=[_,_,_,_]) O) O .nil)) ?_;exact⟨_,rfl,rfl,(bU.trans aT).Nv aP (λi hi=>by omega)⟩
end
end Go.Proofs.YtfgjaafcgghnoaaGreatDoor
namespace Go.Proofs.YtfgjaafcgghnoaaGreatDoor
open Go Go.RowKit
def hiB (w:Nat):Nat->Nat->List Nat->List Bool
 |_,_,[]=>[]
 |len,i,v::r=>List.replicate (v / 2^w+i-len) false++true::hiB w (v / 2^w+i+1) (i+1) r
abbrev Nof (l:List Nat):Prop:=l.Pairwise (·<=·)
def Qj:List Bool->Nat->Option Nat
 |[],_=>none
 |true::l,0=>some 0
 |true::l,k+1=>(Qj l k).map (·+1)
 |false::l,k=>(Qj l k).map (·+1)
theorem T6:∀(z:Nat) (l:List Bool) (k:Nat),Qj (List.replicate z false++l) k=(Qj l k).map (·+z)
 |0,l,k=>by simp
 | z + 1, l, k => by
   rw[List.replicate_succ,List.cons_append,Qj,T6 z l k,Option.map_map]
   congr 1
theorem ZL (w:Nat):∀(l:List Nat) (len i k:Nat) (v:Nat),Nof l->l[k]? =some v->(∀x,l.head? =some x->len<=x / 2^w+i)->Qj (hiB w len i l) k=some (v / 2^w+i+k-len)
 |[],len,i,k,v,_,h,_=>by simp at h
 | x :: r, len, i, 0, v, _, h, hl => by
   simp at h;subst h;have:=hl x O;rw[hiB,T6,Qj]
   simp
 | x :: r, len, i, k + 1, v, hn, h, hl => by
   rw[List.getElem?_cons_succ] at h;obtain⟨n1,n2⟩:=List.pairwise_cons.1 hn;have hx:=hl x O;have hxv:x<=v:=n1 v (List.mem_of_getElem? h);have hd:=Nat.div_le_div_right (c:=2^w) hxv
   rw[hiB,T6,Qj,ZL w r _ (i+1) k v n2 h (λy hy=>by
    have hxy:x<=y:=n1 y (by cases r with
     |nil=>simp at hy
     |cons a r=>simp at hy;simp[hy])
    have:=Nat.div_le_div_right (c:=2^w) hxy
    omega)]
   simp;omega
theorem XU:∀(l:List Bool) (j p m:Nat),Qj l j=some p->Qj (l.drop p) m=(Qj l (j+m)).map (·-p)
 |[],j,p,m,h=>by simp[Qj] at h
 | true :: l, 0, p, m, h => by
   simp[Qj] at h;subst h
   simp
 | true :: l, j + 1, p, m, h => by
   simp only[Qj,Option.map_eq_some_iff] at h;obtain⟨q,hq,rfl⟩:=h;rw[List.drop_succ_cons,XU l j q m hq,show j+1+m=(j+m)+1 by omega,Qj,Option.map_map]
   congr 1
   funext x;simp
 | false :: l, j, p, m, h => by
   simp only[Qj,Option.map_eq_some_iff] at h;obtain⟨q,hq,rfl⟩:=h;rw[List.drop_succ_cons,XU l j q m hq,Qj,Option.map_map]
   congr 1
   funext x;simp
theorem UU:∀(a b:List Bool) (k:Nat),Qj (a++b) k=if k<a.count true then Qj a k else(Qj b (k-a.count true)).map (·+a.length)
 |[],b,k=>by simp
 |true::a,b,0=>by simp[Qj]
 | true :: a, b, k + 1 => by
   rw[List.cons_append,Qj,UU a b k,List.count_cons_self];split
   ·rename_i h
    rw[if_pos (by omega),Qj]
   ·rename_i h
    rw[if_neg (by omega),Option.map_map,show k+1-(a.count true+1)=k-a.count true by omega]
    congr 1
 | false :: a, b, k => by
   rw[List.cons_append,Qj,UU a b k,List.count_cons_of_ne (by decide)];split
   ·rw[Qj]
   ·rw[Option.map_map]
    congr 1
theorem Z5:∀{l:List Bool} {k p:Nat},Qj l k=some p->p<l.length/\l[p]? =some true
 |true::l,0,p,h=>by simp[Qj] at h;subst h;simp
 | true :: l, k + 1, p, h => by
   simp only[Qj,Option.map_eq_some_iff] at h;obtain⟨q,hq,rfl⟩:=h;have:=Z5 hq
   simp;exact this
 | false :: l, k, p, h => by
   simp only[Qj,Option.map_eq_some_iff] at h;obtain⟨q,hq,rfl⟩:=h;have:=Z5 hq
   simp;exact this
 |[],k,p,h=>by simp[Qj] at h
theorem z6L (w:Nat):∀(l:List Nat) (len i:Nat),Nof l->(∀x,l.head? =some x->len<=x / 2^w+i)->∀v,l.getLast? =some v->len+(hiB w len i l).length=v / 2^w+i+l.length
 |[],len,i,_,_,v,h=>by simp at h
 | [x], len, i, _, hl, v, h => by
   simp at h;subst h;have:=hl x O
   simp[hiB];omega
 | x :: y :: r, len, i, hn, hl, v, h => by
   obtain⟨n1,n2⟩:=List.pairwise_cons.1 hn;have hx:=hl x O;have hxy:=Nat.div_le_div_right (c:=2^w) (n1 y (by simp));have:=z6L w (y::r) (x / 2^w+i+1) (i+1) n2 (λz hz=>by simp at hz;subst hz;omega) v (by simpa using h);rw[hiB,List.length_append,List.length_replicate,List.length_cons];simp only[List.length_cons] at this⊢;omega
theorem Wh (z:Nat)(r:List Bool):Ol (List.replicate z false++true::r)=2^r.length+Ol r:=by
 induction z with
 |zero=>simp[Ol]
 |succ z ih=>rw[List.replicate_succ,List.cons_append,Ol,ih];simp
end Go.Proofs.YtfgjaafcgghnoaaGreatDoor
namespace Go.Proofs.YtfgjaafcgghnoaaGreatDoor
open Go Go.RowKit Go.Proofs.Tryz
theorem z1u (c:Cd)(v:Nat):c.rest v=O7 (c.p0 v).2 (c.p0 v).1:=by cases c<;>rfl
theorem VL (c:Cd)(v:Nat):(c.enc v).length=c.zeros v+1+(c.p0 v).2:=by
 unfold Cd.enc
 rw[List.length_append,List.length_replicate,List.length_cons,z1u,bitsN_length];omega
theorem Cd.Z2 (c:Cd):c.most<=281474976710654:=by cases c<;>simp[Cd.most]
theorem Ul:∀n:Nat,O7 n 0=List.replicate n false
 |0=>rfl
 |n+1=>by rw[O7,Ul n,List.replicate_succ];simp
theorem z7H (z:Nat):O7 (z+1) 1=List.replicate z false++[true]:=by
 refine X9 (by simp) ?_
 rw[OT,Wh]
 simp[Ol]
theorem Vj {c:Cd}{v:Nat}(hc:c.Pk)(hv:v<=c.most):c.zeros v<=65535/\(c.p0 v).2<=63/\(c.p0 v).1<2^(c.p0 v).2:=by
 cases c with
 |unary=>exact⟨hv,by simp[Cd.p0],by simp[Cd.p0]⟩
 | gamma =>
   obtain⟨g1,g2,g3⟩:=Ui hv;refine⟨by show Nat.log2 (v+1)<=_;omega,by show Nat.log2 (v+1)<=_;omega,?_⟩;show v+1-2^Nat.log2 (v+1)<2^Nat.log2 (v+1);rw[Nat.pow_succ] at g2
   omega
 | zeta k =>
   obtain⟨aM,aq⟩:1<=k/\k<=16:=hc;obtain⟨g1,g2,g3⟩:=Ui hv;have f:=Ws (k:=k) (v:=v) aM;dsimp only at f;have hd:Nat.log2 (v+1) / k<=Nat.log2 (v+1):=Nat.div_le_self _ _;have hm:Nat.log2 (v+1) / k*k<=Nat.log2 (v+1):=Nat.div_mul_le_self _ _;refine⟨by show Nat.log2 (v+1) / k<=_;omega,?_,?_⟩
   ·show(Qi _ _).2<=63
    have h1:OJ (2^(Nat.log2 (v+1) / k*k)*2^k-2^(Nat.log2 (v+1) / k*k)-1)<=63:=by
     refine PQ ?_;have h2:=Nat.pow_le_pow_right (show 0<2 by decide) (show Nat.log2 (v+1) / k*k+k<=63 by omega);rw[Nat.pow_add] at h2;have h3:=f.2.2
     revert h2 h3
     generalize 2^(Nat.log2 (v+1) / k*k)*2^k=E
     generalize 2^(Nat.log2 (v+1) / k*k)=F
     intro h2 h3;omega
    unfold Qi;dsimp only;split<;>dsimp only<;>omega
   ·exact z7L f.2.1
section
variable {P:Program}{e:Env}{d:Option Nat}{ty t t' el:TypeId}{pos:String}{aft:Array Edge}{g:Option (Nat×Bool)}{x y:Operand}{w:World}{k:IntKind}{n:Nat}{td:TypeDesc}
theorem zgX {za:Int}[sD:RU za n]{len size bytes:Nat}{z:Value}{vs:Array Value}(ht:P.underlying t=some (.array len el))(hs:TI P el z size bytes)(hu:P.underlying el=some td)(ha:aggOf td=true)(hx:look e x=some (.agg vs))(hy:look e y=some (.int k za))(hn:n<len):
  Y P e ⟨d,.index t x y,ty,pos,aft,g⟩ (.agg (vs.extract (n*size) (n*size+size))) w w:=fun ρ hρ=>by
 obtain⟨rfl⟩:=sD
 have hs:=hs.size (w:=w)
 simp[execOp,hρ _ _ hx,hρ _ _ hy,Instr.index,asIntOf,run_underlying ht,hn,hs,part,Sg hu,ha]
end
section
theorem z2v (c:Cd)(v:Nat)(hc:c.Pk)(hv:v<=c.most)(w:World):Oa prog 202 [cdV c,NW v] w λu w'=>u= .tuple #[I ((c.enc v).length:Int),I 0]/\Ext w w':=by
 obtain⟨x,y,dy⟩:∃x y,QX c=[x,y]:=by cases c<;>exact⟨_,_,rfl⟩
 obtain⟨q1,q2,-⟩:=Vj hc hv
 have hl:=VL c v
 have eJ:=c.Z2
 refine Nu (e:=[(0,_),(1,_)]) func202 O ntmps202 O O$ qN O$ NK O O (PW O (cs:=QX c) O) ?_
 rintro _ w1 ⟨b2,rfl,bQ,ad,am⟩
 refine NQ O$ NF O$ py$ qN O$ qV (Oh (news:=QX c) R8 O PB O (am.cells (n:=2) (by rw[dy];rfl)) (by rw[dy];rfl)) ?_
 refine Nz O$ NZ zem O (z8V c v hc hv w1) ?_
 rintro _ w2 ⟨rfl,ag⟩
 refine qV ((Qr O))$ NB$ It O$ An$ qN O$ qV (Oh (news:=QX c) R8 O PB O ((ag.ND am).cells (n:=2) (by rw[dy];rfl)) (by rw[dy];rfl)) ?_
 refine Nz O$ NZ zcM O (z06 c v hc (by omega) w2) ?_
 rintro _ w3 ⟨rfl,ah⟩
 refine Nz O$ ON O O$ ON O O$ NK O O (Qk (cs:=[_,_,_,_]) Tk O) ?_
 rintro _ w4 ⟨b7,rfl,kO,aB,bj⟩
 refine NQ O$ NP O (OA (news:=[NW (c.p0 v).1,I ((c.p0 v).2:Int),NW 0,I 0]) Tk O O O O bj (by simp)) ?_
 rintro w5 ⟨fZ,ai⟩
 replace fZ:NM w5 b7 [NW (c.p0 v).1,I ((c.p0 v).2:Int),NW 0,I 0] 354:=fZ
 refine qM O$ Nz O$ OI O O$ qV (yia ZI Rr O O (by omega))$ NO YZ O$ qV (NJ U3 O O fZ O)$ OI O O$ qV (yia ZI Rr O O (by omega))$ NO YZ O$ qV (NJ U3 O O fZ O)$ OI O O$ NQ O$ NF O$ Of.qb (e:=[(4,_),(5,_)]) ?_
 refine NA func202 O ?_
 have z1:=ad.size
 have z2:=ag.size
 have z3:=ah.size
 refine⟨_,rfl,?_,(((ad.trans ag).trans ah).trans aB).Nv ai (λi hi=>by omega)⟩
 simp only[OR]
 congr 4
 omega
theorem z8W {w : World}{p : Nat}{bs : List Bool}{F : Nat -> Prop}(h : Xk w p bs F)(c : Cd)(v : Nat)(hc : c.Pk)(hv : v <= c.most)(hl : bs.length + (c.enc v).length <= 134217728) :
  Oa prog 203 [ptr p 0,cdV c,NW v] w λu w'=>u=I 0/\WrR p F w w' (bs++c.enc v):=by
 obtain⟨x,y,dy⟩:∃x y,QX c=[x,y]:=by cases c<;>exact⟨_,_,rfl⟩
 obtain⟨q1,q2,q3⟩:=Vj hc hv
 have lJ:=VL c v
 have eJ:=c.Z2
 refine Nu (e:=[(0,_),(1,_),(2,_)]) func203 O ntmps203 O O$ qN O$ NK O O (PW O (cs:=QX c) O) ?_
 rintro _ w1 ⟨b4,rfl,ev,ad,aH⟩
 refine NF O$ py$ qN O$ Nz O$ qV (OP z1E O O)$ NB$ It O$ An$ qN O$ qV (Oh (news:=QX c) R8 O PB O (aH.cells (n:=2) (by rw[dy];rfl)) (by rw[dy];rfl)) ?_
 refine Nz O$ NZ zcB O (z2v c v hc hv w1) ?_
 rintro _ w2 ⟨rfl,ag⟩
 refine Nz O$ ON O O$ ON O O$ NQ O$ NF O$ py$ Nw$ qN O$ Nz O$ P3 O O$ NF O$ NN O (λe0=>?_)$ λe0=>?_
 ·exact absurd O e0
 ·refine qN O$ NT O O$ NZ z0F O (U6 ((h.ext ad).ext ag)) ?_; rintro _ w2 ⟨rfl, rfl⟩; refine Qc O O (P9 O O (NF O (NN O (λe1 => ?_) (λe1 => ?_))))
  ·omega
  ·refine An$ Ny$ qN O$ qV (Oh (news := QX c) R8 O PB O ((ag.ND aH).cells (n := 2) (by rw [dy]; rfl)) (by rw [dy]; rfl)) ?_; refine Nz O (NZ zcM O (z06 c v hc (by omega) w2) ?_); rintro _ w3 ⟨rfl, ah⟩; refine Nz O (ON O O (ON O O (NK O O (Qk (cs := [_, _, _, _]) Tk O) ?_))); rintro _ w4 ⟨b10, rfl, wR, aB, dD⟩; refine NQ O (NP O (OA (news := [NW (c.p0 v).1, I ((c.p0 v).2 : Int), NW 0, I 0]) Tk O O O O dD (by simp)) ?_); rintro w5 ⟨kP, ai⟩; replace kP : NM w5 b10 [NW (c.p0 v).1, I ((c.p0 v).2 : Int), NW 0, I 0] 354 := kP; have z1 := ad.size; have z2 := ag.size; have z3 := ah.size; have bM : Ext w w5 := (((ad.trans ag).trans ah).trans aB).Nv ai (λi hi => by omega); have z5 := bM.size; have l10 := kP.lt; have jW : ∀ i, F i -> i < w.heap.size := λi hi => h.lt hi
   have GM:∀(F':Nat->Prop),(∀k,F' k->F k\/w5.heap.size<=k)->¬F' b10:=λF' hf e=>by
    rcases hf b10 e with e| e
    ·have:=jW b10 e;omega
    ·omega
   refine NB$ Of.qb (e:=[(0,_),(6,_),(9,_),(10,_)]) ?_;refine py$ Nw$ Qb (α:=Nat×(Nat->Prop)×List Bool) ((c.zeros v,F,bs)) (λx=>[(0,ptr p 0),(9,I (x.1:Int)),(10,ptr b10 0)]) (λx w'=>x.1<=c.zeros v/\Xk w' p x.2.2 x.2.1/\x.2.2=bs++List.replicate (c.zeros v-x.1) false/\Kp F w w'/\(∀k,x.2.1 k->F k\/w5.heap.size<=k)/\NM w' b10 [NW (c.p0 v).1,I ((c.p0 v).2:Int),NW 0,I 0] 354/\w5.heap.size<=w'.heap.size) (λx=>x.1) ?hI ?hround
   case hI=>exact⟨Nat.le_refl _,h.ext bM,by simp,bM.kp,λ_ h=> .inl h,kP,Nat.le_refl _⟩
   case hround =>
    rintro⟨z,F1,b1⟩ w6 ⟨hz,lK,bN,aP,nn,aR,z6⟩ ih;dsimp only at hz lK bN nn;have fL:b1.length=bs.length+(c.zeros v-z):=by rw[bN,List.length_append,List.length_replicate]
    try dsimp only
    refine py$ qN O$ Nz O$ P9 O O$ NB$ NN O (λaU=>?_)$ λaU=>?_
    ·refine An$ py$ Nw$ NC O$ Nz O$ NZ UT O (QS lK 0 63 (by decide) (by decide) (by omega)) ?_;rintro _ w7 ⟨rfl,F7,pe,ax,pf⟩;have bj:=ax.ND aR (GM F1 nn);have z7:=ax.size;refine NB$ Ny$ NC O$ Nz O$ Qc O O$ NF O ?_;rw[show((z:Int)-63)=((z-63:Nat):Int) by omega];refine(ih (z-63,F7,b1++O7 63 0) w7 ⟨by dsimp only;omega,pe,?_,?_,?_,bj,by omega⟩ (by dsimp only;omega)).qb
     ·dsimp only;rw[bN,Ul,List.append_assoc,List.replicate_append_replicate,show c.zeros v-z+63=c.zeros v-(z-63) by omega]
     ·exact aP.Nv ax (λi hi=>(nn i hi).elim .inr (λe=> .inl (by omega)))
     ·intro i hi;rcases pf i hi with e| e
      ·exact nn i e
      ·exact .inr (by omega)
    ·refine NL O$ py$ qN O$ Nz O$ RN O O$ NB$ NN O (λg0=>?_)$ λg0=>?_
     ·refine NC O$ NT O O$ OI O O ?_;rw[show((z:Int)+1)=((z+1:Nat):Int) by omega];refine NZ UT O (QS lK 1 (z+1) (by omega) (by have:=Nat.pow_le_pow_right (show 0<2 by decide) (show 1<=z+1 by omega);omega) (by omega)) ?_;rintro _ w7 ⟨rfl,F7,pe,ax,pf⟩;have bj:=ax.ND aR (GM F1 nn);have z7:=ax.size;have sP:Kp F w w7:=aP.Nv ax (λi hi=>(nn i hi).elim .inr (λe=> .inl (by omega)));have BC:∀i,F7 i->F i\/w5.heap.size<=i:=λi hi=>(pf i hi).elim (nn i) (λe=> .inr (by omega))
      have kO:b1++O7 (z+1) 1=bs++(List.replicate (c.zeros v) false++[true]):=by
       rw[bN,z7H,List.append_assoc]
       congr 1
       rw[<-List.append_assoc,List.replicate_append_replicate,show c.zeros v-z+z=c.zeros v by omega]
      rw[kO] at pe;clear ih;refine NB$ py$ qN O$ qV (Oh (news:=[NW (c.p0 v).1,I ((c.p0 v).2:Int),NW 0,I 0]) ZI O Tk O (bj.cells (n:=4) O) O)$ Nz O$ NB$ Nw$ Qb (α:=Nat×(Nat->Prop)×List Bool) ((0,F7,bs++(List.replicate (c.zeros v) false++[true]))) (λx=>[(0,ptr p 0),(49,.agg #[NW (c.p0 v).1,I ((c.p0 v).2:Int),NW 0,I 0]),(50,I (x.1:Int))]) (λx w'=>x.1<=2/\Xk w' p x.2.2 x.2.1/\x.2.2=(bs++(List.replicate (c.zeros v) false++[true]))++(if x.1=0 then [] else c.rest v)/\Kp F w w'/\(∀k,x.2.1 k->F k\/w5.heap.size<=k)/\w5.heap.size<=w'.heap.size) (λx=>2-x.1) ?hI ?hround
      case hI=>exact⟨by dsimp only;omega,pe,by simp,sP,BC,by omega⟩
      case hround=>
       rintro⟨i,F8,b8⟩ w8 ⟨hi,sQ,jE,aV,vx,z8⟩ ih;dsimp only at hi sQ jE vx
       try dsimp only
       refine qN O$ Pb O O$ NB$ py$ NN O (λlL=>?_)$ λlL=>?_
       ·have wS:b8.length<=bs.length+(c.zeros v+1)+(if i=0 then 0 else(c.p0 v).2):=by
         rw[jE];simp only[List.length_append,List.length_replicate,List.length_cons,List.length_nil];split
         ·simp
         ·rw[z1u,bitsN_length];omega
        refine An$ py$ Nw$ qN O ?_;rcases (show i=0\/i=1 by omega) with rfl|rfl
        ·rw[if_pos O] at wS jE;refine qV (zgX (n:=0) ZI Rr z8E O O O (by decide)) ?_;rw[show(#[NW (c.p0 v).1,I ((c.p0 v).2:Int),NW 0,I 0]:Array Value).extract (0*2) (0*2+2)=#[NW (c.p0 v).1,I ((c.p0 v).2:Int)] from rfl];refine NK O O (Qk (cs:=[_,_]) Rr O) ?_;rintro _ w9 ⟨b12,rfl,wT,dE,bq⟩;refine NP O (OA (news:=[NW (c.p0 v).1,I ((c.p0 v).2:Int)]) Rr O O O O bq (by simp)) ?_;rintro w10 ⟨eO,au⟩;replace eO:NM w10 b12 [NW (c.p0 v).1,I ((c.p0 v).2:Int)] 353:=eO;have z9:=dE.size;have g7:Ext w8 w10:=dE.Nv au (λi hi=>by omega);have z10:=g7.size;refine NB$ NC O$ Nz O$ NO z6k O$ qV (NJ Qe O O eO O)$ NO YZ O$ qV (NJ U3 O O eO O)$ NZ UT O (QS (sQ.ext g7) (c.p0 v).1 (c.p0 v).2 (by omega) q3 (by omega)) ?_;rintro _ w11 ⟨rfl,F11,sR,bu,sS⟩;have jc:=g7.kp.trans bu;refine NB$ Ny$ NC O$ OI O O$ Nz O$ NB ((ih (1,F11,b8++O7 (c.p0 v).2 (c.p0 v).1) w11 ⟨by dsimp only;omega,sR,?_,?_,?_,?_⟩ (by dsimp only;omega)).qb)
         ·dsimp only;rw[jE];rw[List.append_nil,if_neg (by decide),z1u]
         ·exact aV.Nv jc (λi hi=>(vx i hi).elim .inr (λe=> .inl (by omega)))
         ·intro i hi;rcases sS i hi with e| e
          ·exact vx i e
          ·exact .inr (by omega)
         ·have:=jc.size;omega
        ·rw[if_neg (by decide)] at wS jE;refine qV (zgX (n:=1) ZI Rr z8E O O O (by decide)) ?_;rw[show(#[NW (c.p0 v).1,I ((c.p0 v).2:Int),NW 0,I 0]:Array Value).extract (1*2) (1*2+2)=#[NW 0,I 0] from rfl];refine NK O O (Qk (cs:=[_,_]) Rr O) ?_;rintro _ w9 ⟨b12,rfl,wT,dE,bq⟩;refine NP O (OA (news:=[NW 0,I 0]) Rr O O O O bq (by simp)) ?_;rintro w10 ⟨eO,au⟩;replace eO:NM w10 b12 [NW 0,I 0] 353:=eO;have z9:=dE.size;have g7:Ext w8 w10:=dE.Nv au (λi hi=>by omega);have z10:=g7.size;refine NB$ NC O$ Nz O$ NO z6k O$ qV (NJ Qe O O eO O)$ NO YZ O$ qV (NJ U3 O O eO O)$ NZ UT O (QS (sQ.ext g7) 0 0 (by omega) (by decide) (by omega)) ?_;rintro _ w11 ⟨rfl,F11,sR,bu,sS⟩;have jc:=g7.kp.trans bu;refine NB$ Ny$ NC O$ OI O O$ Nz O$ NB ((ih (2,F11,b8++O7 0 0) w11 ⟨by dsimp only;omega,sR,?_,?_,?_,?_⟩ (by dsimp only;omega)).qb)
         ·dsimp only;rw[jE];rw[if_neg (by decide)];simp[O7]
         ·exact aV.Nv jc (λi hi=>(vx i hi).elim .inr (λe=> .inl (by omega)))
         ·intro i hi;rcases sS i hi with e| e
          ·exact vx i e
          ·exact .inr (by omega)
         ·have:=jc.size;omega
       ·have:i=2:=by omega
        subst this;rw[if_neg (by decide)] at jE;refine NL O$ qN O$ NF O$ NA func203 O (⟨_,rfl,rfl,F8,?_,aV,λi hi=>(vx i hi).imp id (λe=>by omega)⟩);rw[jE] at sQ;unfold Cd.enc
        simpa using sQ
     ·omega
end
structure RgM (w:World)(x r:Nat)(s:NH)(a:Nat):Prop where
 ND:NM w x [ptr r 0,.bool false] 306
 rd:Sn w r s a
 ne:x≠r
theorem RgM.ext {w w':World}{x r:Nat}{s:NH}{a:Nat}(h:RgM w x r s a)(k:Ext w w'):RgM w' x r s a:=⟨k.ND h.ND,⟨k.ND h.rd.1,h.rd.2⟩,h.ne⟩
section
variable {w:World}{x r:Nat}{s:NH}{a:Nat}
theorem Vp (h:RgM w x r s a)(n:Nat)(hn:n<=64)(hl:a+n<=8*s.length):
  Oa prog 217 [ptr x 0,I (n:Int)] w λv w'=>v=NW (Ol (((O0 s).drop a).take n))/\RgM w' x r s (a+n)/\Kp (λk=>k=x\/k=r) w w':=by
 obtain⟨hB,hR,bD⟩:=h
 refine Nu (e:=[(0,_),(1,_)]) func217 O ntmps217 O O$ qN O$ NQ O$ qM O$ Nz O$ O8 O$ NO zbE O$ qV (NJ TN O O hB O)$ Nz O$ NZ z2q O (TS hR n hn) ?_
 rintro v1 w1 fM
 obtain⟨rfl,kQ,aM⟩:v1= .tuple #[NW (Ol (((O0 s).drop a).take n)),I 0]/\Sn w1 r s (a+n)/\Kp (λk=>k=r) w w1:=by
  rcases fM with⟨-,h⟩|⟨h,-⟩
  ·exact h
  ·omega
 have aj:=aM.ND hB bD
 refine Nz O$ ON O O$ ON O O$ NQ O$ NQ O$ qM O$ NT O O$ O8 O$ NO YY O$ qV (NJ U4 O O aj O)$ NT O O$ P3 O O$ Ox$ OC O O ?_
 refine O8 O$ NO YY O$ NP O (PA Tf O O O aj (by simp)) ?_
 rintro w2 ⟨am,aq⟩
 replace am:NM w2 x [ptr r 0,.bool false] 306:=am
 refine NB$ Of.qb (e:=[(4,_),(5,_)]) ?_
 refine qN O$ Nz O$ NF O$ NA func217 O ?_
 exact⟨_,rfl,rfl,⟨am,⟨aq.ND kQ.1 (Ne.symm bD),kQ.2⟩,bD⟩,(aM.NR (λk e=> .inr e)).trans (aq.NR (λk e=> .inl e))⟩
theorem Wm (h:RgM w x r s a)(z most:Nat)(rest:List Bool)(hb:(O0 s).drop a=List.replicate z false++true::rest)(hz:z<=most)(hm:most<=65535):
  Oa prog 215 [ptr x 0,I (most:Int)] w λv w'=>v=I (z:Int)/\RgM w' x r s (a+z+1)/\Kp (λk=>k=x\/k=r) w w':=by
 have aA:a+z+1<=8*s.length:=by
  have:=congrArg List.length hb;rw[List.length_drop,bitsT_length,List.length_append,List.length_replicate,List.length_cons] at this;omega
 refine Nu (e:=[(0,_),(1,_)]) func215 O ntmps215 O O$ qN O$ NF O$ py$ qN O$ NF O$ Nw$ Qb (α:=Nat) (0) (λn=>[(0,ptr x 0),(1,I (most:Int)),(5,I (n:Int))]) (λn w'=>n<=z/\RgM w' x r s (a+n)/\Kp (λk=>k=x\/k=r) w w') (λn=>z-n) ?hI ?hround
 case hI=>exact⟨Nat.zero_le _,h,Kp.refl _ _⟩
 case hround=>
  rintro n w1 ⟨hn,h1,aM⟩ ih;have aj:=h1.ND
  have hd:(O0 s).drop (a+n)=List.replicate (z-n) false++true::rest:=by
   rw[<-List.drop_drop,hb,List.drop_append_of_le_length (by simp;omega),List.drop_replicate]
  try dsimp only
  refine py$ qN O$ NT O O$ zle O O$ Nz O$ QZ (λc1=>?_)$ λc1=>?_
  ·have hv:Ol (((O0 s).drop (a+n)).take 1)=if n=z then 1 else 0:=by
    rw[hd];by_cases e:n=z
    ·subst e;rw[Nat.sub_self,if_pos O];rfl
    ·rw[if_neg e,show z-n=(z-n-1)+1 by omega,List.replicate_succ];rfl
   refine Nz O$ O8 O$ NO YY O$ qV (NJ U4 O O aj O)$ qV ((Qr O))$ Pc O O$ NB$ NI O$ An$ py$ Nw$ qN O$ Nz O$ NZ z5M O (Vp h1 1 (by decide) (by omega)) ?_;rintro _ w2 ⟨rfl,h2,aq⟩;rw[hv];refine Px O O$ NB$ NN O (λc2=>?_)$ λc2=>?_
   ·have Az:n=z:=by
     by_cases e:n=z
     ·exact e
     ·rw[if_neg e] at c2;simp at c2
    subst Az;refine qN O$ Nz O$ NF O$ NA func215 O ?_;exact⟨_,rfl,rfl,h2,aM.trans aq⟩
   ·have Az:n≠z:=λe=>by rw[if_pos e] at c2;simp at c2
    refine An$ Ny$ NC O$ Nz O$ OI O O$ NF O ?_;exact(ih (n+1) w2 ⟨by omega,by rw[<-Nat.add_assoc];exact h2,aM.trans aq⟩ (by omega)).qb
  ·omega
theorem z5u (h:RgM w x r s a)(z q:Nat)(rest:List Bool)(hb:(O0 s).drop a=List.replicate z false++true::(O7 z q++rest))(hq:q<2^z)(hz:z<=47):
  Oa prog 216 [ptr x 0,I 47] w λv w'=>v=NW (q+2^z-1)/\RgM w' x r s (a+z+1+z)/\Kp (λk=>k=x\/k=r) w w':=by
 have aA:a+z+1+z<=8*s.length:=by
  have:=congrArg List.length hb;rw[List.length_drop,bitsT_length,List.length_append,List.length_replicate,List.length_cons,List.length_append,bitsN_length] at this;omega
 have hd:(O0 s).drop (a+z+1)=O7 z q++rest:=by
  rw[show a+z+1=a+(z+1) by omega,<-List.drop_drop,hb];rw[<-List.drop_drop,List.drop_left' (by simp)];rfl
 have hv:Ol (((O0 s).drop (a+z+1)).take z)=q:=by
  rw[hd,List.take_left' (by simp),OT,Nat.mod_eq_of_lt hq]
 obtain⟨Q,hQ⟩:∃Q,2^z=Q:=⟨_,rfl⟩
 rw[hQ] at hq⊢
 have Bx:1<=Q/\Q<=281474976710656:=by
  rw[<-hQ];exact⟨Nat.two_pow_pos _,by have:=Nat.pow_le_pow_right (show 0<2 by decide) (show z<=48 by omega);simpa using this⟩
 refine Nu (e:=[(0,_),(1,_)]) func216 O ntmps216 O O$ qN O$ NQ O$ qM O$ NT O O$ NZ zaz O (Wm h z 47 _ hb hz (by decide)) ?_
 rintro _ w1 ⟨rfl,h1,aM⟩
 have hg:=Ext.NY w1
 refine NF O$ py$ PK (λw'=>Kp (λk=>k=x\/k=r) w1 w') O$ NX 0 O O (hg.kp)$ NX 1 O O (hg.kp)$ NX 3 O O (hg.kp)$ NG 4 O (PV z Q O O (by omega) hQ) (hg.kp) ?_
 rw[show 1*Q%18446744073709551616=Q by omega]
 refine Qv 2 O z5M O (Vp (h1.ext hg) z (by omega) (by omega)) ?_
 rintro _ w2 ⟨rfl,h2,aq⟩
 refine⟨hg.kp.trans aq,?_⟩
 rw[hv]
 refine NG 5 O (TF O O) (hg.kp.trans aq) ?_
 rw[show(q+Q)%18446744073709551616=q+Q by omega]
 refine NG 6 O (Uh (n:=1) O O O (by show q+Q<2^64;omega) (by omega)) (hg.kp.trans aq) ?_
 refine NG 7 O (PO O) (hg.kp.trans aq)$ qE$ NA func216 O ?_
 exact⟨_,rfl,rfl,h2,aM.trans (hg.kp.trans aq)⟩
theorem z4e (h:RgM w x r s a)(v K:Nat)(rest:List Bool)(hb:(O0 s).drop a=Ps v K++rest)(hv:v<K)(Iw:K<=9223372036854775808):
  Oa prog 218 [ptr x 0,NW K] w λu w'=>u=NW v/\RgM w' x r s (a+(Ps v K).length)/\Kp (λk=>k=x\/k=r) w w':=by
 have aA:a+(Ps v K).length<=8*s.length:=by
  have:=congrArg List.length hb;have ha:=h.rd.2.1;rw[List.length_drop,bitsT_length,List.length_append] at this;omega
 refine Nu (e:=[(0,_),(1,_)]) func218 O ntmps218 O O$ qN O$ NQ O$ qM O$ Nz O$ qV (Uh (n:=1) O O O (by show K<2^64;omega) (by omega)) ?_
 refine NZ z0H O (T0 (K-1) (by omega) w) ?_
 rintro _ w ⟨rfl,rfl⟩
 refine NF O$ py$ qN O$ Nz O$ Px O O$ NB ?_
 by_cases GK:K=1
 ·subst GK;have nq:v=0:=by omega
  subst nq;rw[show OJ (1-1)=0 from rfl];refine NN O (λc0=>?_)$ λc0=>?_
  ·refine qN O$ NF O$ NA func218 O ?_;exact⟨_,rfl,rfl,h,Kp.refl _ _⟩
  ·exact absurd O c0
 ·have f:=z5e hv (by omega) rest;dsimp only at f;obtain⟨n,hn⟩:∃n,OJ (K-1)=n:=⟨_,rfl⟩;rw[hn] at f⊢;have g:=TK (K:=K) (by omega);rw[hn] at g;obtain⟨Q,hQ⟩:∃Q,2^n=Q:=⟨_,rfl⟩;rw[hQ] at f g;obtain⟨f1,f2,f3⟩:=f
  have BD:n<=63:=by
   rw[<-hn];have e63:(2:Nat)^63=9223372036854775808:=by decide
   exact PQ (by omega)
  have Bw:Q<=9223372036854775808:=by
   rw[<-hQ];have:=Nat.pow_le_pow_right (show 0<2 by decide) BD;have e63:(2:Nat)^63=9223372036854775808:=by decide
   omega
  have t1:((O0 s).drop a).take (n-1)=(Ps v K).take (n-1):=by rw[hb,List.take_append_of_le_length f2]
  obtain⟨u,hu⟩:∃u,Ol ((Ps v K).take (n-1))=u:=⟨_,rfl⟩
  have sT:u<Q:=by
   have h1:=Pw ((Ps v K).take (n-1));rw[hu,List.length_take] at h1;have h2:=Nat.pow_le_pow_right (show 0<2 by decide) (show min (n-1) (Ps v K).length<=n by omega);omega
  rw[hu] at f3;refine NN O (λc0=>?_)$ λc0=>?_
  ·omega
  ·refine An$ qN O$ Nz O$ qV (PV n Q O O (by omega) hQ) ?_;rw[show 1*Q%18446744073709551616=Q by omega];refine Nz O$ qV (Uh O O O (by show Q<2^64;omega) g.1) ?_;refine NQ O$ qM O$ NT O O$ Qc O O ?_;rw[show((n:Int)-1)=((n-1:Nat):Int) by omega];refine NZ z5M O (Vp h (n-1) (by omega) (by omega)) ?_;rintro _ w1 ⟨rfl,h1,aM⟩;rw[t1,hu];refine NF O$ py$ qN O$ NT O O$ RN O O$ NB$ NN O (λc1=>?_)$ λc1=>?_
   ·obtain⟨m1,m2,m3⟩:Q-K<=u/\(Ps v K).length=n/\2*u+Ol ((Ps v K).drop (n-1))=v+(Q-K):=by
     rcases f3 with⟨e,-⟩| e
     ·omega
     ·exact e
    have t2:((O0 s).drop (a+(n-1))).take 1=(Ps v K).drop (n-1):=by
     rw[<-List.drop_drop,hb,List.drop_append_of_le_length f2,List.take_append_of_le_length (by rw[List.length_drop];omega),List.take_of_length_le (by rw[List.length_drop];omega)]
    have lM:Ol ((Ps v K).drop (n-1))<2:=by
     have:=Pw ((Ps v K).drop (n-1));rw[List.length_drop,m2,show n-(n-1)=1 by omega] at this;exact this
    refine NC O$ Nz O$ qV (PV 1 2 O O (by decide) O) ?_;rw[show u*2%18446744073709551616=u*2 by omega];refine Nz O$ NZ z5M O (Vp h1 1 (by decide) (by omega)) ?_;rintro _ w2 ⟨rfl,h2,aq⟩;rw[t2];refine qV (TF O O) ?_;rw[show(u*2+Ol ((Ps v K).drop (n-1)))%18446744073709551616=v+(Q-K) by omega];refine Nz O$ qV (Uh O O O (by show v+(Q-K)<2^64;omega) (by omega)) ?_;rw[show v+(Q-K)-(Q-K)=v by omega];refine NF O$ Of.qb (e:=[(4,_),(7,_)]) ?_;refine qN O$ Nz O$ NF O$ NA func218 O ?_;rw[m2];exact⟨_,rfl,rfl,by rw[show a+n=a+(n-1)+1 by omega];exact h2,aM.trans aq⟩
   ·obtain⟨m1,m2,m3⟩:u<Q-K/\(Ps v K).length=n-1/\u=v:=by
     rcases f3 with e|⟨e,-⟩
     ·exact e
     ·omega
    refine An$ qN O$ Nz O$ NF O$ NA func218 O ?_;rw[m2];exact⟨_,rfl,by rw[m3];rfl,h1,aM⟩
end
section
variable {w:World}{x r:Nat}{s:NH}{a:Nat}
theorem z3t (h:RgM w x r s a)(c:Cd)(v:Nat)(hc:c.Pk)(hv:v<=c.most)(rest:List Bool)(hb:(O0 s).drop a=c.enc v++rest):
  Oa prog 185 [ptr x 0,cdV c] w λu w'=>u=NW v/\RgM w' x r s (a+(c.enc v).length)/\Kp (λk=>k=x\/k=r) w w':=by
 have lJ:=VL c v
 have fF:=h.ND.lt
 have ic:=h.rd.1.lt
 have aA:a+(c.enc v).length<=8*s.length:=by
  have:=congrArg List.length hb;have ha:=h.rd.2.1;rw[List.length_drop,bitsT_length,List.length_append] at this;omega
 unfold Cd.enc at hb
 rw[List.append_assoc,List.cons_append] at hb
 cases c with
 | unary =>
   refine Nu (e:=[(0,_),(1,_)]) func185 O ntmps185 O O$ qN O$ NK O O (PW O (cs:=[.int .u8 0,NW 0]) O) ?_;rintro _ w1 ⟨b3,rfl,dF,ad,ar⟩;refine NF O$ py$ qN O$ NO QN O$ qV (NJ U5 O O ar O)$ NB$ Nw$ qN O$ Px O O$ PE$ NF O$ NI O$ qN O$ Nz O ?_;refine NZ zaz O (Wm (h.ext ad) v 65535 rest hb hv (by decide)) ?_;rintro _ w2 ⟨rfl,h2,aq⟩;have fT:v<=65535:=hv;refine qV ((OM O U3 Qe (by omega)))$ NF O$ NA func185 O (⟨_,rfl,rfl,?_,ad.kp.trans aq⟩);have e:(Cd.enc .unary v).length=v+1:=by rw[lJ];rfl
   rw[e];exact h2
 | gamma =>
   obtain⟨g1,g2,g3⟩:=Ui hv;obtain⟨z,hz⟩:∃z,Nat.log2 (v+1)=z:=⟨_,rfl⟩;rw[hz] at g1 g2 g3;rw[Nat.pow_succ] at g2
   have vy:(O0 s).drop a=List.replicate z false++true::(O7 z (v+1-2^z)++rest):=by
    rw[hb];show List.replicate (Nat.log2 (v+1)) false++true::(O7 (Nat.log2 (v+1)) (v+1-2^Nat.log2 (v+1))++rest)=_;rw[hz]
   have e:(Cd.enc .gamma v).length=z+1+z:=by rw[lJ];show Nat.log2 (v+1)+1+Nat.log2 (v+1)=_;rw[hz]
   refine Nu (e:=[(0,_),(1,_)]) func185 O ntmps185 O O$ qN O$ NK O O (PW O (cs:=[.int .u8 1,NW 0]) O) ?_;rintro _ w1 ⟨b3,rfl,dF,ad,ar⟩;refine NF O$ py$ qN O$ NO QN O$ qV (NJ U5 O O ar O)$ NB$ Nw$ qN O$ Px O O$ Ox$ NF O$ It O$ qN O$ Px O O ?_;refine PE$ NF O$ NI O$ qN O$ Nz O$ NZ zhl O (z5u (h.ext ad) z (v+1-2^z) rest vy (by omega) g3) ?_;rintro _ w2 ⟨rfl,h2,aq⟩;rw[show v+1-2^z+2^z-1=v by omega];refine NF O$ NA func185 O (⟨_,rfl,rfl,?_,ad.kp.trans aq⟩)
   rw[e,show a+(z+1+z)=a+z+1+z by omega];exact h2
 | zeta k =>
   obtain⟨aM,aq⟩:1<=k/\k<=16:=hc;obtain⟨g1,g2,g3⟩:=Ui hv;have f:=Ws (k:=k) (v:=v) aM;dsimp only at f;obtain⟨b,vz⟩:∃b,Nat.log2 (v+1)=b:=⟨_,rfl⟩;rw[vz] at f g1 g2 g3;obtain⟨z,hz⟩:∃z,b / k=z:=⟨_,rfl⟩;obtain⟨m,hm⟩:∃m,z*k=m:=⟨_,rfl⟩;have GL:m<=b:=by rw[<-hm,<-hz];exact Nat.div_mul_le_self _ _
   have BE:z<=47 / k:=by rw[<-hz];exact Nat.div_le_div_right g3
   have Mw:47 / k<=47:=Nat.div_le_self _ _;rw[hz,hm] at f
   have vy:(O0 s).drop a=List.replicate z false++true::(Ps (v+1-2^m) (2^m*2^k-2^m)++rest):=by
    rw[hb];show List.replicate (Nat.log2 (v+1) / k) false++true::(Ps (v+1-2^(Nat.log2 (v+1) / k*k)) (2^(Nat.log2 (v+1) / k*k)*2^k-2^(Nat.log2 (v+1) / k*k))++rest)=_;rw[vz,hz,hm]
   obtain⟨F,hF⟩:∃F,2^m=F:=⟨_,rfl⟩;obtain⟨G,hG⟩:∃G,2^k=G:=⟨_,rfl⟩;rw[hF,hG] at f vy;obtain⟨f1,f2,f3⟩:=f;obtain⟨E,hE⟩:∃E,F*G=E:=⟨_,rfl⟩
   have Bz:E<=9223372036854775808:=by
    rw[<-hE,<-hF,<-hG,<-Nat.pow_add];have:=Nat.pow_le_pow_right (show 0<2 by decide) (show m+k<=63 by omega);have e63:(2:Nat)^63=9223372036854775808:=by decide
    omega
   rw[hE] at f2 f3 vy
   have e:(Cd.enc (.zeta k) v).length=z+1+(Ps (v+1-F) (E-F)).length:=by
    rw[Cd.enc,List.length_append,List.length_replicate,List.length_cons];show Nat.log2 (v+1) / k+((Ps (v+1-2^(Nat.log2 (v+1) / k*k)) (2^(Nat.log2 (v+1) / k*k)*2^k-2^(Nat.log2 (v+1) / k*k))).length+1)=_;rw[vz,hz,hm,hF,hG,hE];omega
   have hd:(O0 s).drop (a+z+1)=Ps (v+1-F) (E-F)++rest:=by
    rw[show a+z+1=a+(z+1) by omega,<-List.drop_drop,vy];rw[<-List.drop_drop,List.drop_left' (by simp)];rfl
   have rB:(z:Int)*(k:Int)=(m:Int):=by rw[<-hm];simp
   have gW:(47:Int) / (k:Int)=((47 / k:Nat):Int):=by simp
   refine Nu (e:=[(0,_),(1,_)]) func185 O ntmps185 O O$ qN O$ NK O O (PW O (cs:=[.int .u8 3,NW k]) O) ?_;rintro _ w1 ⟨b3,rfl,dF,ad,ar⟩;refine NF O$ py$ qN O$ NO QN O$ qV (NJ U5 O O ar O)$ NB$ Nw$ qN O$ Px O O$ Ox$ NF O$ It O$ qN O$ Px O O ?_;refine Ox$ NF O$ It O$ qN O$ Px O O$ Ox$ NF O$ It O$ qN O$ Px O O$ PE$ NF O$ NI O$ qN O ?_;refine NO VJ O$ qV (NJ Qe O O ar O)$ qV (Ow O Qe U3 (by omega))$ NQ O$ qM O$ NT O O$ qV (Vu O O (by omega)) ?_;rw[gW];refine NZ zaz O (Wm (h.ext ad) z (47 / k) _ vy BE (by omega)) ?_;rintro _ w2 ⟨rfl,h2,BF⟩;refine Nz O$ qV (TT O O (by rw[rB];omega)) ?_;rw[rB];refine qV (PV m F O O (by omega) hF) ?_;rw[show 1*F%18446744073709551616=F by omega];refine NF O$ Of.qb (e:=[(0,_),(3,_),(4,_),(6,_),(7,_)]) ?_;refine qN O$ NT O O$ Nz O$ qV (PV k G O O (by omega) hG) ?_;rw[hE,Nat.mod_eq_of_lt (show E<18446744073709551616 by omega)];refine Nz O$ qV (Uh O O O (by show E<2^64;omega) (by omega)) ?_;refine NZ zek O (z4e h2 (v+1-F) (E-F) rest hd f2 (by omega)) ?_;rintro _ w3 ⟨rfl,h3,aw⟩;refine Nz O$ qV (TF O O) ?_;rw[show(v+1-F+F)%18446744073709551616=v+1 by omega];refine qV (Uh (n:=1) O O O (by show v+1<2^64;omega) (by omega)) ?_;rw[show v+1-1=v by omega];refine NF O$ NA func185 O (⟨_,rfl,rfl,?_,(ad.kp.trans BF).trans aw⟩);rw[e,show a+(z+1+(Ps (v+1-F) (E-F)).length)=a+z+1+(Ps (v+1-F) (E-F)).length by omega];exact h3
end
theorem z5t {P:Program}{fn:Func}{tmps:Array Value}{R:Ending->World->Prop}{g:FuncId}{cap args:List Value}{w:World}{S:Value->World->Prop}(pK:CF P g)(hD:zbL P g (args++cap) w S)
  (h:∀u w',S u w'->∃v,(results fn tmps).run P w'= .ok v w'/\R (.returned v) w'):LeavesInM Fence.wide 0 P fn tmps R (marks [.call g cap args]) .returning w:=by
 refine⟨by simp,.inr ⟨(λh=>by cases h),.func g,cap.toArray,g,(args++cap).toArray,rfl,?_,(λ_ _=>trivial),?_⟩⟩
 ·simp[Dfr.d,invoke,RT pK]
 ·refine CallsDIn.mono hD ?_;rintro x u w1 ⟨rfl,v1,rfl,hS⟩;exact h v1 w1 hS
theorem z7g {P:Program}{f:FuncId}{R:Value->World->Prop}{n:Nat}{k:List Item}{e:Env}{w:World}{fn:Func}{g:FuncId}{cap args:List Value}{S:Value->World->Prop}(hf:P.funcs[f]? =some fn)(pK:CF P g)(hD:zbL P g (args++cap) w S)
  (h:∀u w',S u w'->∃vs,Xn P w' e fn.results.toList vs/\Wp R (.returned (OR vs)) w'):Of ⟨P,f,R,n,none,[.call g cap args],false⟩ (.code .ret::k) e w:=
 z2u O O hf λa ha=>z5t pK hD λu w' hs=>by
  obtain⟨vs,h1,h2⟩:=h u w' hs;exact⟨_,Uw ha P w' fn vs h1,h2⟩
theorem ydf {P:Program}{e:Env}{ty:TypeId}{pos:String}{aft:Array Edge}{g:Option (Nat×Bool)}{w:World}{f:FuncId}{x:Operand}{q:List Value}(hv:look e x=some (.func (.func f) #[] q.toArray)):
  ∀ρ:Operand->Value,(∀x v,look e x=some v->ρ x=v)->(execOp ρ ⟨none,.defer ⟨.value x,#[],#[]⟩,ty,pos,aft,g⟩).run P w= .ok (.defer (Dfr.d (.call f q []))) w:=fun ρ hρ=>by
 simp[execOp,resolve,hρ _ _ hv,Dfr.d,Deferred.ofValue]
section
variable {w:World}{r:Nat}{s:NH}{a:Nat}
theorem z3A {b2 b5 b6:Nat}(hB:NM w b5 [I 0] 35):zbL prog 184 [ptr b5 0,ptr b2 0,ptr b6 0] w λu w'=>w'=w:=by
 refine z3E (e:=[(0,_),(1,_),(2,_)]) func184 O ntmps184 O O$ qN O$ qV (NJ U35 O O hB O)$ P3 O O$ NB$ NN O (λc0=>?_)$ λc0=>?_
 ·exact absurd O c0
 ·refine An$ zaA O O O func184$ λa ha=>⟨_,TH ha _ _ _ _ O,?_⟩;exact⟨_,rfl,rfl⟩
theorem Ye (h:Sn w r s a)(c:Cd)(v:Nat)(hc:c.Pk)(hv:v<=c.most)(rest:List Bool)(hb:(O0 s).drop a=c.enc v++rest):
  Oa prog 147 [ptr r 0,cdV c] w λu w'=>u= .tuple #[NW v,I 0]/\Sn w' r s (a+(c.enc v).length)/\Kp (λk=>k=r) w w':=by
 obtain⟨x,y,dy⟩:∃x y,QX c=[x,y]:=by cases c<;>exact⟨_,_,rfl⟩
 have ic:=h.1.lt
 have eJ:=c.Z2
 refine Nu (e:=[(0,_),(1,_)]) func147 O ntmps147 O O$ qN O$ NK O O (PW O (cs:=[ptr r 0]) O) ?_
 rintro _ w1 ⟨b2,rfl,bQ,ad,am⟩
 refine NK O O (PW O (cs:=QX c) O) ?_
 rintro _ w2 ⟨b3,rfl,dF,ag,ar⟩
 refine NQ O$ NK O O (Qk (cs:=[_]) z8A O) ?_
 rintro _ w3 ⟨b5,rfl,ff,ah,aC⟩
 replace aC:NM w3 b5 [I 0] 35:=aC
 have h3:Sn w3 r s a:=⟨ah.ND (ag.ND (ad.ND h.1)),h.2⟩
 have cX:=ah.ND (ag.ND am)
 have eP:=ah.ND ar
 refine NB$ py$ Nw$ qN O$ qV (NJ TN O O cX O)$ qV (OP TN O O)$ NF O$ It O$ qN O$ qV (Oh (news:=QX c) R8 O PB O (eP.cells (n:=2) (by rw[dy];rfl)) (by rw[dy];rfl)) ?_
 refine NZ z2m O (Ti c hc w3) ?_
 rintro _ w4 ⟨rfl,aB⟩
 have h4:Sn w4 r s a:=⟨aB.ND h3.1,h3.2⟩
 have ir:=aB.ND cX
 refine P3 O O$ NF O$ NN O (λc0=>?_)$ λc0=>?_
 ·exact absurd O c0
 ·refine An$ Ny$ qN O$ qV (NJ TN O O ir O)$ NZ WO O (SL h4) ?_;rintro _ w4 ⟨rfl,rfl⟩;refine NK O O (Qk (cs:=[_]) OL O) ?_;rintro _ w5 ⟨b6,rfl,mN,aT,aR⟩;refine NP O (PA OL O O O aR (by simp)) ?_;rintro w6 ⟨nr,aP⟩;have z1:=ad.size;have z2:=ag.size;have z3:=ah.size;have z4:=aB.size;have z5:=aT.size;have l2:=am.lt;have l3:=ar.lt;have l5:=aC.lt;have cQ:Ext w4 w6:=aT.Nv aP (λi hi=>by omega);have jd:=cQ.ND ir;refine qM O$ qV (ymf (first:=[]) (caps:=[.tmp 5,.tmp 2,.tmp 6]) O O)$ zdA O O (ydf O)$ qM O$ qV (NJ TN O O jd O)$ qV (QP (cs:=[_,_]) zez O zgP O O)$ NK O O (PW O O) ?_;rintro _ w7 ⟨b7,rfl,kO,bV,bj⟩;replace bj:NM w7 b7 [ptr r 0,.bool false] 306:=bj;have z6:=cQ.size;have z7:=bV.size;have pL:Ext w3 w7:=(aB.trans cQ).trans bV;have h7:RgM w7 b7 r s a:=⟨bj,⟨pL.ND h3.1,h3.2⟩,by omega⟩;have ns:=pL.ND eP;have jX:=pL.ND aC;refine NF O$ py$ qN O$ Nz O$ qV (Oh (news:=QX c) R8 O PB O (ns.cells (n:=2) (by rw[dy];rfl)) (by rw[dy];rfl)) ?_;refine NZ zgd O (z3t h7 c v hc hv rest hb) ?_;rintro _ w8 ⟨rfl,h8,aV⟩;have nt:=aV.ND ns (by omega);have nu:=aV.ND jX (by omega);have ck:=h8.ND;refine NQ O$ qM O$ Nz O$ O8 O$ NO YY O$ qV (NJ U4 O O ck O)$ NT O O$ qV (Oh (news:=QX c) R8 O PB O (nt.cells (n:=2) (by rw[dy];rfl)) (by rw[dy];rfl)) ?_;refine NZ zcy O (z1a c hc w8) ?_;rintro _ w9 ⟨rfl,dE⟩;refine P9 O O$ OC O O$ NB$ Of.qb (e:=[(4,_),(5,_),(33,_)]) ?_;refine NN O (λc1=>?_)$ λc1=>?_
  ·omega
  ·have BG:=dE.ND nu;refine An$ qN O$ Nz O$ NQ O$ NP O (PA z8A O O O BG (by simp)) ?_;rintro w10 ⟨dD,au⟩;replace dD:NM w10 b5 [I 0] 35:=dD;refine NB$ z7g func147 zgf (z3A (b2:=b2) (b6:=b6) dD) ?_;rintro u w' rfl;have vA:Sn w9 r s (a+(c.enc v).length):=⟨dE.ND h8.rd.1,h8.rd.2⟩;refine⟨_,.tmp O (.cell1 U35 O O ((dD).cell _) .nil),_,rfl,rfl,⟨au.ND vA.1 (by omega),vA.2⟩,?_⟩;have jY:Ext w w7:=((ad.trans ag).trans ah).trans pL;have nv:Kp (λk=>k=r) w w8:=jY.kp.Nv aV (λi hi=>hi.elim (λe=> .inl (by omega)) .inr);exact(nv.trans dE.kp).Nv au (λi hi=> .inl (by omega))
end
end Go.Proofs.YtfgjaafcgghnoaaGreatDoor
namespace Go.Proofs.YtfgjaafcgghnoaaGreatDoor
open Go Go.RowKit
/-! ### Runs -/
def expand:Bool->List Nat->List Bool
 |_,[]=>[]
 |b,n::r=>List.replicate n b++expand (!b) r
theorem Wo:∀(b:Bool) (r s:List Nat),expand b (r++s)=expand b r++expand (if r.length%2=0 then b else !b) s
 |b,[],s=>by simp[expand]
 | b, n :: r, s => by
   rw[List.cons_append,expand,expand,Wo (!b) r s,List.append_assoc]
   congr 2
   rcases Nat.mod_two_eq_zero_or_one r.length with e| e
   ·rw[if_pos e,if_neg (by rw[List.length_cons];omega)]
   ·rw[if_neg (by omega),if_pos (by rw[List.length_cons];omega)];simp
theorem Rp:∀(b:Bool) (r:List Nat),(expand b r).length=r.sum
 |_,[]=>rfl
 |b,n::r=>by rw[expand,List.length_append,List.length_replicate,Rp (!b) r,List.sum_cons]
def PL (rs:List Nat)(f:Bool):List Nat:=
 let rs':=if f !=(rs.length%2==1) then rs++[0] else rs
 rs'.modify (rs'.length-1) (·+1)
theorem Vd (l:List Nat)(n:Nat):(l++[n]).modify ((l++[n]).length-1) (·+1)=l++[n+1]:=by
 have key:∀l:List Nat,(l++[n]).modify l.length (·+1)=l++[n+1]:=λl=>by
  induction l with
  |nil=>rfl
  |cons a l ih=>simpa using ih
 have:(l++[n]).length-1=l.length:=by simp
 rw[this,key]
structure S7 (rs:List Nat)(fs:List Bool):Prop where
 ne:rs≠[]
 exp:expand true rs=fs
 pos:∀n∈rs.drop 1,1<=n
theorem S7.zero:S7 [0] []:=⟨by simp,rfl,by simp⟩
theorem S7.step {rs:List Nat}{fs:List Bool}(h:S7 rs fs)(f:Bool):S7 (PL rs f) (fs++[f]):=by
 obtain⟨h1,h2,h3⟩:=h
 obtain⟨l,n,rfl⟩:∃l n,rs=l++[n]:=⟨rs.dropLast,rs.getLast h1,(List.dropLast_concat_getLast h1).symm⟩
 unfold PL
 dsimp only
 have hlen:(l++[n]).length=l.length+1:=by simp
 rw[hlen]
 split
 ·rename_i hf
  rw[Vd];refine⟨by simp,?_,λk hk=>?_⟩
  ·rw[Wo,h2,hlen]
   congr 1
   rcases Nat.mod_two_eq_zero_or_one l.length with e|e<;>cases f<;>simp[expand,e,Nat.add_mod] at hf⊢
  ·rw[List.drop_append_of_le_length (by rw[hlen];omega)] at hk;rcases List.mem_append.1 hk with hk|hk
   ·exact h3 k hk
   ·simp at hk;omega
 ·rename_i hf
  rw[Vd];refine⟨by simp,?_,λk hk=>?_⟩
  ·rw[Wo] at h2⊢;rw[<-h2,List.append_assoc]
   congr 1
   simp only[expand,List.append_nil,List.replicate_succ']
   congr 1
   rcases Nat.mod_two_eq_zero_or_one l.length with e|e<;>cases f<;>simp[e,Nat.add_mod] at hf⊢
  ·cases l with
   |nil=>simp at hk
   | cons a l =>
     rw[List.cons_append,List.drop_succ_cons,List.drop_zero] at hk h3;rcases List.mem_append.1 hk with hk|hk
     ·exact h3 k (List.mem_append_left _ hk)
     ·simp at hk;omega
def copyL:Bool->List Nat->List Nat->List Nat
 |b,[],ref=>if b then ref else []
 |b,n::r,ref=>(if b then ref.take n else [])++copyL (!b) r (ref.drop n)
def sel:List Nat->List Bool->List Nat
 |x::l,f::fs=>if f then x::sel l fs else sel l fs
 |_,_=>[]
theorem z6G:∀{a b:List Nat} {fs gs:List Bool},a.length=fs.length->sel (a++b) (fs++gs)=sel a fs++sel b gs
 |[],b,[],gs,_=>rfl
 | x :: a, b, f :: fs, gs, h => by
   have h':a.length=fs.length:=by simpa using h
   rw[List.cons_append,List.cons_append,sel,sel,z6G h'];cases f<;>simp
theorem z22:∀(l:List Nat) (b:Bool),sel l (List.replicate l.length b)=if b then l else []
 |[],b=>by cases b<;>rfl
 | x :: l, b => by
   rw[List.length_cons,List.replicate_succ,sel,z22 l b];cases b<;>rfl
theorem z2B:∀(b:Bool) (rs:List Nat) (m:Nat) (ref:List Nat),ref.length=(rs++[m]).sum->copyL b rs ref=sel ref (expand b (rs++[m]))
 | b, [], m, ref, h => by
   have hm:m=ref.length:=by simpa using h.symm
   subst hm;simp only[copyL,List.nil_append,expand,List.append_nil]
   rw[z22]
 | b, n :: rs, m, ref, h => by
   rw[List.cons_append,List.sum_cons] at h;have hl:(ref.take n).length=n:=by rw[List.length_take];omega
   rw[copyL,List.cons_append,expand,z2B (!b) rs m (ref.drop n) (by rw[List.length_drop];omega)]
   conv=>rhs;rw[<-List.take_append_drop n ref,z6G (by rw[hl,List.length_replicate])]
   congr 1
   have:=z22 (ref.take n) b;rw[hl] at this;exact this.symm
/-! ### Rows of numbers that follow one another -/
def OG:Nat->List Nat->Nat
 |_,[]=>0
 |x,y::l=>if y=x+1 then OG y l+1 else 0
theorem Vk:∀(x:Nat) (l:List Nat),OG x l<=l.length
 |_,[]=>Nat.le_refl _
 | x, y :: l => by
   unfold OG;split
   ·have:=Vk y l;simp;omega
   ·exact Nat.zero_le _
theorem Ue:∀(x:Nat) (l:List Nat) (i:Nat),i<OG x l->l[i]? =some (x+1+i)
 |_,[],i,h=>by simp[OG] at h
 | x, y :: l, i, h => by
   unfold OG at h;split at h
   ·rename_i e
    subst e
    cases i with
    |zero=>rfl
    |succ i=>rw[List.getElem?_cons_succ,Ue (x+1) l i (by omega)];congr 1;omega
   ·omega
theorem UP:∀(x:Nat) (l:List Nat) (y:Nat),l[OG x l]? =some y->y≠x+1+OG x l
 |_,[],y,h=>by simp at h
 | x, z :: l, y, h => by
   unfold OG at h⊢;split
   ·rename_i e
    rw[if_pos e,List.getElem?_cons_succ] at h;have:=UP z l y h;omega
   ·rename_i e
    rw[if_neg e,List.getElem?_cons_zero] at h;cases h;omega
def OK (least:Nat):List Nat->List (Nat×Nat)×List Nat
 |[]=>([],[])
 | x :: l =>
   let n:=OG x l+1
   let q:=OK least (l.drop (OG x l))
   if 0<least/\least<=n then((x,n)::q.1,q.2) else(q.1,x::l.take (OG x l)++q.2)
termination_by l=>l.length
decreasing_by simp[List.length_drop];omega
def PJ (l:List (Nat×Nat)):List Nat:=l.flatMap λp=>(List.range p.2).map (p.1+·)
abbrev Ris (l:List Nat):Prop:=l.Pairwise (·<·)
theorem zaD (x:Nat)(l:List Nat):x::l.take (OG x l)=(List.range (OG x l+1)).map (x+·):=by
 apply List.ext_getElem?
 intro i
 have hle:=Vk x l
 cases i with
 |zero=>simp
 | succ i =>
   rw[List.getElem?_cons_succ,List.getElem?_take,List.getElem?_map];split
   ·rename_i h
    rw[Ue x l i h,List.getElem?_range (by omega)];simp;omega
   ·rw[List.getElem?_eq_none (by simp;omega)];rfl
theorem Sh (least:Nat):∀(l:List Nat),(PJ (OK least l).1++(OK least l).2).Perm l
 |[]=>by simp[OK,PJ]
 | x :: l => by
   have ih:=Sh least (l.drop (OG x l));have hx:=zaD x l;have hc:x::l=(x::l.take (OG x l))++l.drop (OG x l):=by rw[List.cons_append,List.take_append_drop]
   rw[OK];split
   ·rw[show PJ ((x,OG x l+1)::(OK least (l.drop (OG x l))).1)=(List.range (OG x l+1)).map (x+·)++PJ (OK least (l.drop (OG x l))).1 by simp[PJ]];rw[<-hx,List.append_assoc]
    conv=>rhs;rw[hc]
    exact ih.append_left _
   ·conv=>rhs;rw[hc]
    refine List.Perm.trans ?_$ ih.append_left _;rw[<-List.append_assoc,<-List.append_assoc];exact(List.perm_append_comm).append_right _
 termination_by l=>l.length
 decreasing_by simp[List.length_drop];omega
def zig (z:Int):Nat:=if 0<=z then(2*z).toNat else(-2*z-1).toNat
def zag (n:Nat):Int:=if n%2=0 then((n / 2:Nat):Int) else -((n / 2:Nat):Int)-1
theorem z6K (z:Int):zag (zig z)=z:=by
 unfold zig zag
 split
 ·rw[if_pos (by omega)];omega
 ·rw[if_neg (by omega)];omega
theorem XY {z:Int}{n:Nat}(h1: -(n:Int)<=z)(h2:z<(n:Int)):zig z<2*n:=by
 unfold zig
 split<;>omega
structure QB where
 O6:Nat
 interval:Nat
 zeta:Nat
def PT (succ ref:List Nat):List Nat:=ref.foldl (λrs y=>PL rs (decide (y∈succ))) [0]
theorem RI (succ ref:List Nat):S7 (PT succ ref) (ref.map λy=>decide (y∈succ)):=by
 unfold PT
 have key:∀(l:List Nat) (rs:List Nat) (fs:List Bool),S7 rs fs->S7 (l.foldl (λrs y=>PL rs (decide (y∈succ))) rs) (fs++l.map λy=>decide (y∈succ)):=by
  intro l
  induction l with
  |nil=>intro rs fs h;simpa using h
  | cons y l ih =>
    intro rs fs h;have:=ih _ _ (h.step (decide (y∈succ)))
    simpa using this
 simpa using key ref [0] [] S7.zero
def Od (succ ref:List Nat):List Nat:=succ.filter λv=>decide (v∉ref)
theorem z6C (P:Nat->Bool):∀l:List Nat,sel l (l.map P)=l.filter P
 |[]=>rfl
 | x :: l => by
   rw[List.map_cons,sel,z6C P l];cases h:P x<;>simp[h]
theorem z7I (succ ref:List Nat):copyL true (PT succ ref).dropLast ref=ref.filter λy=>decide (y∈succ):=by
 have h:=RI succ ref
 obtain⟨l,n,e⟩:∃l n,PT succ ref=l++[n]:=⟨_,_,(List.dropLast_concat_getLast h.ne).symm⟩
 rw[e,List.dropLast_concat]
 have he:=h.exp
 rw[e] at he
 have hl:ref.length=(l++[n]).sum:=by
  have:=congrArg List.length he;rw[Rp,List.length_map] at this;exact this.symm
 rw[z2B true l n ref hl,he,z6C]
def P7:Nat->List Nat->List (Cd×Nat)
 |_,[]=>[]
 |i,n::r=>(.gamma,n-min i 1)::P7 (i+1) r
def OD (x least:Nat):Option Nat->List (Nat×Nat)->List (Cd×Nat)
 |_,[]=>[]
 |none,p::r=>(.gamma,zig ((p.1:Int)-x))::(.gamma,p.2-least)::OD x least (some (p.1+p.2-1)) r
 |some e,p::r=>(.gamma,p.1-e-2)::(.gamma,p.2-least)::OD x least (some (p.1+p.2-1)) r
def OE (x k:Nat):Option Nat->List Nat->List (Cd×Nat)
 |_,[]=>[]
 |none,v::r=>(.zeta k,zig ((v:Int)-x))::OE x k (some v) r
 |some u,v::r=>(.zeta k,v-u-1)::OE x k (some v) r
def Qg (p:QB)(x:Nat)(succ ref:List Nat)(r:Nat):List (Cd×Nat):=
 (.gamma,succ.length)::if succ=[] then [] else
  (if 0<p.O6 then [(.unary,r)] else [])++
  ((if 0<r then(.gamma,(PT succ ref).length-1)::P7 0 (PT succ ref).dropLast else [])++
  (if Od succ ref=[] then [] else
   (if 0<p.interval then(.gamma,(OK p.interval (Od succ ref)).1.length)::OD x p.interval none (OK p.interval (Od succ ref)).1 else [])++
   OE x p.zeta none (OK p.interval (Od succ ref)).2))
def O5 (l:List (Cd×Nat)):List Bool:=l.flatMap λp=>p.1.enc p.2
theorem z4p {succ ref:List Nat}(hs:Ris succ)(hr:Ris ref)(p:Nat):(ref.filter (λy=>decide (y∈succ))++(PJ (OK p (Od succ ref)).1++(OK p (Od succ ref)).2)).Perm succ:=by
 have h1:(ref.filter λy=>decide (y∈succ)).Perm (succ.filter λv=>decide (v∈ref)):=by
  refine(List.perm_ext_iff_of_nodup (hr.imp (λh=>by omega) |>.filter _) (hs.imp (λh=>by omega) |>.filter _)).2 λa=>?_;simp only[List.mem_filter,decide_eq_true_eq];exact And.comm
 refine(h1.append (Sh p _)).trans ?_
 unfold Od
 have:=List.filter_append_perm (λv=>decide (v∈ref)) succ
 refine List.Perm.trans ?_ this
 refine List.Perm.append_left _ ?_
 simp
theorem z4k {a b:List Nat}(h:a.Perm b)(ha:a.Pairwise (·<=·))(hb:Ris b):a=b:=
 h.eq_of_pairwise (le:=(·<=·)) (λx y _ _ h1 h2=>by omega) ha (hb.imp (λh=>by omega))
def Rx (least:Nat):Nat->List (Nat×Nat)->Prop
 |_,[]=>True
 |lo,p::r=>lo<=p.1/\1<=p.2/\least<=p.2/\Rx least (p.1+p.2+1) r
theorem Rx.mono {least:Nat}:∀{r:List (Nat×Nat)} {a b:Nat},Rx least b r->a<=b->Rx least a r
 |[],_,_,_,_=>trivial
 |p::r,a,b,h,hab=>⟨Nat.le_trans hab h.1,h.2⟩
theorem z5k {x:Nat}{l:List Nat}(h:Ris (x::l)):∀y∈l.drop (OG x l),x+OG x l+2<=y:=by
 intro y hy
 obtain⟨j,hj,e⟩:=List.mem_iff_getElem.1 hy
 rw[List.getElem_drop] at e
 rw[List.length_drop] at hj
 obtain⟨h1,h2⟩:=List.pairwise_cons.1 h
 have hle:=Vk x l
 have h0:OG x l<l.length:=by omega
 obtain⟨z,hz⟩:∃z,l[OG x l]? =some z:=⟨_,List.getElem?_eq_getElem h0⟩
 have hs:=UP x l z hz
 have hz':=(List.getElem?_eq_some_iff.1 hz).2
 have hzx:x+OG x l<z:=by
  by_cases e0:OG x l=0
  ·have:=h1 z (List.mem_of_getElem? hz);omega
  ·have hg:=Ue x l (OG x l-1) (by omega);obtain⟨g1,g2⟩:=List.getElem?_eq_some_iff.1 hg;have:=List.pairwise_iff_getElem.1 h2 (OG x l-1) (OG x l) g1 h0 (by omega);rw[g2,hz'] at this;omega
 have hzy:z<=y:=by
  by_cases e0:j=0
  ·subst e0;simp at e;rw[<-e,<-hz'];exact Nat.le_refl _
  ·have:=List.pairwise_iff_getElem.1 h2 (OG x l) (OG x l+j) h0 (by omega) (by omega);rw[e,hz'] at this;omega
 omega
theorem TG (least:Nat):∀(l:List Nat) (lo:Nat),Ris l->(∀y∈l,lo<=y)->Rx least lo (OK least l).1
 |[],lo,_,_=>by rw[OK];trivial
 | x :: l, lo, h, hl => by
   have hb:=z5k h;have h2:Ris (l.drop (OG x l)):=(List.pairwise_cons.1 h).2.sublist (List.drop_sublist _ _);rw[OK];split
   ·rename_i hc
    refine⟨hl x (by simp),by omega,hc.2,TG least _ _ h2 λy hy=>?_⟩;have:=hb y hy;omega
   ·refine TG least _ _ h2 λy hy=>?_;have:=hb y hy;have:=hl x (by simp);omega
 termination_by l=>l.length
 decreasing_by all_goals (simp[List.length_drop];omega)
theorem T5 (least:Nat):∀(l:List Nat),(OK least l).2.Sublist l
 |[]=>by rw[OK];exact List.Sublist.refl _
 | x :: l => by
   have ih:=T5 least (l.drop (OG x l));rw[OK];split
   ·exact(ih.trans (List.drop_sublist _ _)).cons x
   ·have hc:x::l=(x::l.take (OG x l))++l.drop (OG x l):=by rw[List.cons_append,List.take_append_drop]
    conv=>rhs;rw[hc]
    exact ih.append_left _
 termination_by l=>l.length
 decreasing_by simp[List.length_drop];omega
end Go.Proofs.YtfgjaafcgghnoaaGreatDoor
