/- Merged by program. -/
import Derived.Test.YtgdkbagngobdlaaGreatDoorZt1
import Derived.KernelRfl
import Derived.Lib.AppendZerosOnto
import Derived.Lib.Overlaps
import Derived.Maps.RangeRun
set_option linter.all false
set_option maxRecDepth 1000000
set_option maxHeartbeats 16000000
namespace Go.Proofs.YtgdkbagngobdlaaGreatDoor
open Go Go.RowKit Go.Proofs.Tryz
set_option linter.unusedSimpArgs false
def PB {P:Program}{f:FuncId}{fn:Func}(h:P.funcs[f]? =some fn)(h2:(fn.name=="runtime.NumGoroutine")=false:=by kernel_rfl)(h3:fn.body.isNone=false:=by rfl):CF P f:=⟨fn,h,h2,h3⟩
theorem Q7:TI prog 3 (Value.int .i64 0) 1 8:=Pz (by kernel_rfl)
theorem W3:TI prog 4 (Value.bool false) 1 1:=Pz (by kernel_rfl)
theorem VK:TI prog 5 (Value.int .u8 0) 1 1:=Pz (by kernel_rfl)
theorem ti9:TI prog 9 (Value.string ⟨#[]⟩) 1 16:=Pz (by kernel_rfl)
def zld:TI prog 22 (Value.slice none 0 0) 1 24:=Pz (by kernel_rfl)
theorem Tf:TI prog 23 (Value.int .u64 0) 1 8:=Pz (by kernel_rfl)
def zlA:TI prog 25 (Value.agg #[Value.int .i64 0,Value.slice none 0 0,Value.bool false,Value.int .i64 0,Value.int .i64 0,Value.int .i64 0,Value.int .i64 0,Value.int .u64 0]) 8 80:=Pz (by kernel_rfl)
theorem zgi:TI prog 28 (Value.pointer none) 1 8:=Pz (by kernel_rfl)
theorem za0:TI prog 29 (Value.pointer none) 1 8:=Pz (by kernel_rfl)
theorem zdj:TI prog 30 (Value.pointer none) 1 8:=Pz (by kernel_rfl)
def z0p:TI prog 32 (Value.agg #[Value.pointer none,Value.pointer none,Value.pointer none,Value.pointer none,Value.int .i64 0]) 5 40:=Pz (by kernel_rfl)
def z29:TI prog 36 (Value.int .i64 0) 1 8:=Pz (by kernel_rfl)
def z64:TI prog 43 (Value.slice none 0 0) 1 24:=Pz (by kernel_rfl)
theorem SO:TI prog 49 (Value.slice none 0 0) 1 24:=Pz (by kernel_rfl)
theorem ziE:TI prog 51 (Value.pointer none) 1 8:=Pz (by kernel_rfl)
def zgm:TI prog 58 (Value.agg #[Value.int .i64 0,Value.int .i64 0,Value.int .i64 0]) 3 24:=Pz (by kernel_rfl)
theorem zg5:TI prog 60 (Value.nilFunc) 1 8:=Pz (by kernel_rfl)
theorem zfJ:TI prog 77 (Value.agg #[Value.int .i64 0,Value.int .i64 0,Value.int .i64 0,Value.int .i64 0,Value.int .i64 0,Value.int .i64 0,Value.int .i64 0]) 7 56:=Pz (by kernel_rfl)
theorem zaH:TI prog 86 (Value.agg #[Value.int .i64 0,Value.int .i64 0]) 2 16:=Pz (by kernel_rfl)
theorem RK:TI prog 94 (Value.agg #[Value.int .i64 0,Value.int .i64 0,Value.int .i64 0,Value.int .i64 0,Value.int .i64 0]) 5 40:=Pz (by kernel_rfl)
theorem ze5:TI prog 97 (Value.agg #[Value.int .i64 0,Value.bool false]) 2 16:=Pz (by kernel_rfl)
theorem YS:TI prog 98 (Value.pointer none) 1 8:=Pz (by kernel_rfl)
def zhH:TI prog 100 (Value.agg #[Value.int .i64 0,Value.bool false,Value.pointer none,Value.int .i64 0,Value.int .i64 0,Value.pointer none,Value.pointer none,Value.pointer none,Value.bool false]) 9 72:=Pz (by kernel_rfl)
theorem Wg:TI prog 105 (Value.slice none 0 0) 1 24:=Pz (by kernel_rfl)
theorem OP:TI prog 106 (Value.int .u32 0) 1 4:=Pz (by kernel_rfl)
theorem zeB:TI prog 111 (Value.pointer none) 1 8:=Pz (by kernel_rfl)
theorem zeU:TI prog 112 (Value.map none) 1 8:=Pz (by kernel_rfl)
def zjS:TI prog 114 (Value.agg #[Value.pointer none,Value.pointer none,Value.pointer none,Value.map none,Value.int .i64 0,Value.int .i64 0,Value.int .i64 0,Value.int .i64 0,Value.int .i64 0,Value.int .i64 0,Value.int .i64 0,Value.bool false]) 12 96:=Pz (by kernel_rfl)
theorem R6:TI prog 119 (Value.agg #[Value.int .i64 0,Value.int .i64 0]) 2 16:=Pz (by kernel_rfl)
def TY:TI prog 125 (Value.agg #[Value.int .u32 0,Value.int .u32 0]) 2 8:=Pz (by kernel_rfl)
theorem zfj:TI prog 128 (Value.map none) 1 8:=Pz (by kernel_rfl)
theorem zaJ:TI prog 130 (Value.agg #[Value.slice none 0 0,Value.int .i64 0,Value.int .u8 0]) 3 40:=Pz (by kernel_rfl)
theorem z7W:TI prog 132 (Value.agg #[Value.int .i64 0,Value.slice none 0 0,Value.int .i64 0,Value.int .u8 0]) 4 48:=Pz (by kernel_rfl)
theorem z7G:TI prog 133 (Value.slice none 0 0) 1 24:=Pz (by kernel_rfl)
def zhP:TI prog 135 (Value.agg #[Value.int .i64 0,Value.slice none 0 0,Value.int .i64 0,Value.int .u8 0,Value.int .i64 0,Value.int .i64 0,Value.map none,Value.slice none 0 0,Value.bool false,Value.int .i64 0,Value.int .i64 0]) 11 120:=Pz (by kernel_rfl)
theorem zeM:TI prog 136 (Value.slice none 0 0) 1 24:=Pz (by kernel_rfl)
def zhx:TI prog 138 (Value.agg #[Value.int .i64 0,Value.slice none 0 0,Value.slice none 0 0,Value.bool false]) 4 64:=Pz (by kernel_rfl)
def z2Q:TI prog 145 (Value.pointer none) 1 8:=Pz (by kernel_rfl)
theorem Yo:TI prog 155 (Value.agg #[Value.int .i64 0,Value.int .i64 0,Value.int .i64 0]) 3 24:=Pz (by kernel_rfl)
def zgN:TI prog 157 (Value.agg #[Value.int .i64 0,Value.int .i64 0,Value.int .i64 0,Value.int .i64 0,Value.int .i64 0,Value.pointer none,Value.bool false]) 7 56:=Pz (by kernel_rfl)
theorem U7:TI prog 160 (Value.agg #[Value.int .i64 0,Value.int .i64 0,Value.int .i64 0,Value.int .i64 0,Value.int .i64 0,Value.int .i64 0,Value.int .i64 0,Value.int .i64 0]) 8 64:=Pz (by kernel_rfl)
theorem z2r:TI prog 162 (Value.nilIface) 1 16:=Pz (by kernel_rfl)
theorem zfs:TI prog 163 (Value.pointer none) 1 8:=Pz (by kernel_rfl)
def zht:TI prog 165 (Value.agg #[Value.int .i64 0,Value.int .i64 0,Value.int .i64 0,Value.int .i64 0,Value.int .i64 0,Value.int .i64 0,Value.int .i64 0,Value.int .i64 0,Value.nilIface,Value.pointer none]) 10 88:=Pz (by kernel_rfl)
def z2D:TI prog 172 (Value.int .u8 0) 1 1:=Pz (by kernel_rfl)
def zeT:TI prog 175 (Value.agg #[Value.pointer none,Value.slice none 0 0]) 2 32:=Pz (by kernel_rfl)
theorem z8K:TI prog 188 (Value.map none) 1 8:=Pz (by kernel_rfl)
theorem z42:TI prog 190 (Value.agg #[Value.slice none 0 0,Value.map none]) 2 32:=Pz (by kernel_rfl)
def zgO:TI prog 192 (Value.agg #[Value.int .i64 0,Value.slice none 0 0,Value.map none,Value.slice none 0 0,Value.map none,Value.slice none 0 0,Value.map none,Value.slice none 0 0,Value.map none,Value.int .i64 0,Value.map none]) 11 152:=Pz (by kernel_rfl)
theorem XI:TI prog 198 (Value.agg #[Value.pointer none,Value.int .i64 0,Value.int .i64 0]) 3 24:=Pz (by kernel_rfl)
def zf7:TI prog 200 (Value.agg #[Value.pointer none,Value.int .i64 0,Value.int .i64 0,Value.slice none 0 0,Value.int .i64 0,Value.int .i64 0,Value.int .u32 0,Value.nilFunc,Value.bool false]) 9 88:=Pz (by kernel_rfl)
def zjZ:TI prog 205 (Value.agg #[Value.pointer none,Value.int .i64 0,Value.int .i64 0,Value.int .i64 0,Value.int .u32 0]) 5 40:=Pz (by kernel_rfl)
def zcq:TI prog 214 (Value.pointer none) 1 8:=Pz (by kernel_rfl)
theorem z89:TI prog 216 (Value.agg #[Value.string ⟨#[]⟩,Value.bool false]) 2 24:=Pz (by kernel_rfl)
def zk9:TI prog 218 (Value.agg #[Value.string ⟨#[]⟩,Value.bool false,Value.int .i64 0]) 3 32:=Pz (by kernel_rfl)
theorem z7T:TI prog 227 (Value.pointer none) 1 8:=Pz (by kernel_rfl)
def Vu:TI prog 229 (Value.agg #[Value.int .i64 0,Value.int .i64 0]) 2 16:=Pz (by kernel_rfl)
theorem Ti:TI prog 234 (Value.agg #[Value.int .i64 0,Value.int .u64 0,Value.int .i64 0,Value.int .i64 0]) 4 32:=Pz (by kernel_rfl)
def zgR:TI prog 247 (Value.agg #[Value.nilIface,Value.int .i64 0,Value.int .i64 0]) 3 32:=Pz (by kernel_rfl)
def zf4:TI prog 258 (Value.agg #[Value.int .u64 0,Value.int .u64 0,Value.int .u64 0,Value.int .u64 0,Value.int .u64 0,Value.int .u64 0,Value.int .u64 0,Value.int .u64 0,Value.int .u64 0,Value.int .u64 0,Value.int .u64 0,Value.int .u64 0,Value.int .u64 0,Value.int .u64 0,Value.int .u64 0,Value.int .u64 0,Value.int .u64 0,Value.int .u64 0,Value.int .u64 0,Value.int .u64 0,Value.int .u64 0,Value.int .u64 0,Value.int .u64 0,Value.int .u64 0,Value.int .u64 0,Value.int .u64 0,Value.int .u64 0,Value.int .u64 0,Value.int .u64 0,Value.int .u64 0,Value.int .u64 0,Value.int .u64 0,Value.int .u64 0,Value.int .u64 0,Value.int .u64 0,Value.int .u64 0,Value.int .u64 0,Value.int .u64 0,Value.int .u64 0,Value.int .u64 0,Value.int .u64 0]) 41 328:=Pz (by kernel_rfl)
def PA:TI prog 264 (Value.agg #[Value.bool false,Value.bool false,Value.int .i64 0]) 3 16:=Pz (by kernel_rfl)
def QT:TI prog 271 (Value.agg #[Value.slice none 0 0,Value.int .i64 0]) 2 32:=Pz (by kernel_rfl)
def zgU:TI prog 272 (Value.agg #[Value.slice none 0 0,Value.int .i64 0,Value.slice none 0 0,Value.int .i64 0,Value.slice none 0 0,Value.int .i64 0,Value.slice none 0 0,Value.int .i64 0,Value.slice none 0 0,Value.int .i64 0,Value.slice none 0 0,Value.int .i64 0,Value.slice none 0 0,Value.int .i64 0,Value.slice none 0 0,Value.int .i64 0,Value.slice none 0 0,Value.int .i64 0,Value.slice none 0 0,Value.int .i64 0,Value.slice none 0 0,Value.int .i64 0,Value.slice none 0 0,Value.int .i64 0,Value.slice none 0 0,Value.int .i64 0,Value.slice none 0 0,Value.int .i64 0,Value.slice none 0 0,Value.int .i64 0,Value.slice none 0 0,Value.int .i64 0,Value.slice none 0 0,Value.int .i64 0]) 34 544:=Pz (by kernel_rfl)
theorem zf9:TI prog 274 (Value.agg #[Value.slice none 0 0,Value.int .i64 0,Value.slice none 0 0,Value.int .i64 0,Value.slice none 0 0,Value.int .i64 0,Value.slice none 0 0,Value.int .i64 0,Value.slice none 0 0,Value.int .i64 0,Value.slice none 0 0,Value.int .i64 0,Value.slice none 0 0,Value.int .i64 0,Value.slice none 0 0,Value.int .i64 0,Value.slice none 0 0,Value.int .i64 0,Value.slice none 0 0,Value.int .i64 0,Value.slice none 0 0,Value.int .i64 0,Value.slice none 0 0,Value.int .i64 0,Value.slice none 0 0,Value.int .i64 0,Value.slice none 0 0,Value.int .i64 0,Value.slice none 0 0,Value.int .i64 0,Value.slice none 0 0,Value.int .i64 0,Value.slice none 0 0,Value.int .i64 0,Value.int .i64 0]) 35 552:=Pz (by kernel_rfl)
def zgZ:TI prog 276 (Value.agg #[Value.int .i64 0,Value.int .i64 0,Value.int .i64 0,Value.int .i64 0,Value.int .i64 0,Value.slice none 0 0,Value.int .i64 0,Value.slice none 0 0,Value.int .i64 0,Value.slice none 0 0,Value.int .i64 0,Value.slice none 0 0,Value.int .i64 0,Value.slice none 0 0,Value.int .i64 0,Value.slice none 0 0,Value.int .i64 0,Value.slice none 0 0,Value.int .i64 0,Value.slice none 0 0,Value.int .i64 0,Value.slice none 0 0,Value.int .i64 0,Value.slice none 0 0,Value.int .i64 0,Value.slice none 0 0,Value.int .i64 0,Value.slice none 0 0,Value.int .i64 0,Value.slice none 0 0,Value.int .i64 0,Value.slice none 0 0,Value.int .i64 0,Value.slice none 0 0,Value.int .i64 0,Value.slice none 0 0,Value.int .i64 0,Value.slice none 0 0,Value.int .i64 0,Value.int .i64 0,Value.pointer none,Value.int .i64 0,Value.int .i64 0]) 43 616:=Pz (by kernel_rfl)
def Uf:TI prog 279 (Value.agg #[Value.int .i64 0,Value.int .i64 0,Value.int .i64 0]) 3 24:=Pz (by kernel_rfl)
def ziz:TI prog 286 (Value.agg #[Value.slice none 0 0,Value.int .i64 0]) 2 32:=Pz (by kernel_rfl)
theorem z2G:TI prog 291 (Value.pointer none) 1 8:=Pz (by kernel_rfl)
def zjA:TI prog 295 (Value.agg #[Value.int .i64 0,Value.int .u64 0,Value.int .i64 0,Value.int .i64 0,Value.nilIface]) 5 48:=Pz (by kernel_rfl)
def zf1:TI prog 299 (Value.pointer none) 1 8:=Pz (by kernel_rfl)
def zbu:TI prog 314 (Value.slice none 0 0) 1 24:=Pz (by kernel_rfl)
theorem QS:TI prog 317 (Value.agg #[Value.int .u8 0,Value.int .u64 0]) 2 16:=Pz (by kernel_rfl)
def Vy:TI prog 319 (Value.agg #[Value.int .u8 0,Value.int .u64 0,Value.int .u64 0]) 3 24:=Pz (by kernel_rfl)
def zhe:TI prog 324 (Value.agg #[Value.string ⟨#[]⟩,Value.int .i64 0]) 2 24:=Pz (by kernel_rfl)
def zec:TI prog 330 (Value.nilFunc) 1 8:=Pz (by kernel_rfl)
def So:TI prog 332 (Value.agg #[Value.int .i64 0,Value.int .i64 0]) 2 16:=Pz (by kernel_rfl)
def WB:TI prog 337 (Value.agg #[Value.int .i64 0,Value.string ⟨#[]⟩]) 2 24:=Pz (by kernel_rfl)
def z1V:TI prog 350 (Value.agg #[Value.int .i64 0,Value.int .i64 0]) 2 16:=Pz (by kernel_rfl)
def SQ:TI prog 353 (Value.agg #[Value.int .u64 0,Value.int .i64 0]) 2 16:=Pz (by kernel_rfl)
def UI:TI prog 354 (Value.agg #[Value.int .u64 0,Value.int .i64 0,Value.int .u64 0,Value.int .i64 0]) 4 32:=Pz (by kernel_rfl)
def zjd:TI prog 363 (Value.agg #[Value.pointer none,Value.bool false]) 2 16:=Pz (by kernel_rfl)
def zj0:TI prog 377 (Value.agg #[Value.pointer none,Value.bool false]) 2 16:=Pz (by kernel_rfl)
def z5u:TI prog 392 (Value.int .u64 0) 1 8:=Pz (by kernel_rfl)
def zgc:Qs prog 25 0 0 1 false:=⟨_,_,_,_,_,underlying25,rfl,rfl,Q7,underlying3,rfl⟩
def zfL:Qs prog 25 1 1 1 false:=⟨_,_,_,_,_,underlying25,rfl,rfl,zld,underlying22,rfl⟩
def zbA:Qs prog 25 2 2 1 false:=⟨_,_,_,_,_,underlying25,rfl,rfl,W3,underlying4,rfl⟩
def zgb:Qs prog 25 3 3 1 false:=⟨_,_,_,_,_,underlying25,rfl,rfl,Q7,underlying3,rfl⟩
def zgv:Qs prog 25 4 4 1 false:=⟨_,_,_,_,_,underlying25,rfl,rfl,Q7,underlying3,rfl⟩
def zgj:Qs prog 25 5 5 1 false:=⟨_,_,_,_,_,underlying25,rfl,rfl,Q7,underlying3,rfl⟩
def z6c:Qs prog 25 7 7 1 false:=⟨_,_,_,_,_,underlying25,rfl,rfl,Tf,underlying23,rfl⟩
def z3s:Qs prog 32 1 1 1 false:=⟨_,_,_,_,_,underlying32,rfl,rfl,za0,underlying29,rfl⟩
def z3K:Qs prog 32 2 2 1 false:=⟨_,_,_,_,_,underlying32,rfl,rfl,zdj,underlying30,rfl⟩
def zlk:SP prog 32 [(0,1),(1,1),(2,1),(3,1),(4,1)]:=⟨_,underlying32,λ_=>by simp[zgi.size,za0.size,Q7.size,zdj.size,Sem.run_bind,Sem.run_pure]⟩
def zgo:Qs prog 58 0 0 1 false:=⟨_,_,_,_,_,underlying58,rfl,rfl,Q7,underlying3,rfl⟩
def zgg:Qs prog 58 1 1 1 false:=⟨_,_,_,_,_,underlying58,rfl,rfl,Q7,underlying3,rfl⟩
def zg9:Qs prog 58 2 2 1 false:=⟨_,_,_,_,_,underlying58,rfl,rfl,Q7,underlying3,rfl⟩
def zaL:Qs prog 77 1 1 1 false:=⟨_,_,_,_,_,underlying77,rfl,rfl,Q7,underlying3,rfl⟩
def zbp:Qs prog 77 2 2 1 false:=⟨_,_,_,_,_,underlying77,rfl,rfl,Q7,underlying3,rfl⟩
def zaZ:Qs prog 77 3 3 1 false:=⟨_,_,_,_,_,underlying77,rfl,rfl,Q7,underlying3,rfl⟩
def zkn:SP prog 77 [(0,1),(1,1),(2,1),(3,1),(4,1),(5,1),(6,1)]:=⟨_,underlying77,λ_=>by simp[Q7.size,Sem.run_bind,Sem.run_pure]⟩
def Zl:Qs prog 86 0 0 1 false:=⟨_,_,_,_,_,underlying86,rfl,rfl,Q7,underlying3,rfl⟩
def ZM:Qs prog 86 1 1 1 false:=⟨_,_,_,_,_,underlying86,rfl,rfl,Q7,underlying3,rfl⟩
def zkL:SP prog 86 [(0,1),(1,1)]:=⟨_,underlying86,λ_=>by simp[Q7.size,Sem.run_bind,Sem.run_pure]⟩
def z0T:Qs prog 94 0 0 1 false:=⟨_,_,_,_,_,underlying94,rfl,rfl,Q7,underlying3,rfl⟩
def Zm:Qs prog 94 1 1 1 false:=⟨_,_,_,_,_,underlying94,rfl,rfl,Q7,underlying3,rfl⟩
def zcP:Qs prog 94 2 2 1 false:=⟨_,_,_,_,_,underlying94,rfl,rfl,Q7,underlying3,rfl⟩
def zbd:Qs prog 94 3 3 1 false:=⟨_,_,_,_,_,underlying94,rfl,rfl,Q7,underlying3,rfl⟩
def TM:Qs prog 94 4 4 1 false:=⟨_,_,_,_,_,underlying94,rfl,rfl,Q7,underlying3,rfl⟩
def zd2:SP prog 94 [(0,1),(1,1),(2,1),(3,1),(4,1)]:=⟨_,underlying94,λ_=>by simp[Q7.size,Sem.run_bind,Sem.run_pure]⟩
def Zz:Qs prog 97 0 0 1 false:=⟨_,_,_,_,_,underlying97,rfl,rfl,Q7,underlying3,rfl⟩
def Zk:Qs prog 97 1 1 1 false:=⟨_,_,_,_,_,underlying97,rfl,rfl,W3,underlying4,rfl⟩
def zlc:SP prog 97 [(0,1),(1,1)]:=⟨_,underlying97,λ_=>by simp[Q7.size,W3.size,Sem.run_bind,Sem.run_pure]⟩
def Sv:Qs prog 100 0 0 2 true:=⟨_,_,_,_,_,underlying100,rfl,rfl,ze5,underlying97,rfl⟩
def YH:Qs prog 100 1 2 1 false:=⟨_,_,_,_,_,underlying100,rfl,rfl,zdj,underlying30,rfl⟩
def WM:Qs prog 100 2 3 1 false:=⟨_,_,_,_,_,underlying100,rfl,rfl,Q7,underlying3,rfl⟩
def z7S:Qs prog 100 3 4 1 false:=⟨_,_,_,_,_,underlying100,rfl,rfl,Q7,underlying3,rfl⟩
def TU:Qs prog 100 4 5 1 false:=⟨_,_,_,_,_,underlying100,rfl,rfl,YS,underlying98,rfl⟩
def Xq:Qs prog 100 5 6 1 false:=⟨_,_,_,_,_,underlying100,rfl,rfl,YS,underlying98,rfl⟩
def Ve:Qs prog 100 6 7 1 false:=⟨_,_,_,_,_,underlying100,rfl,rfl,YS,underlying98,rfl⟩
def z8g:Qs prog 100 7 8 1 false:=⟨_,_,_,_,_,underlying100,rfl,rfl,W3,underlying4,rfl⟩
def zgH:SP prog 100 [(0,2),(2,1),(3,1),(4,1),(5,1),(6,1),(7,1),(8,1)]:=⟨_,underlying100,λ_=>by simp[Q7.size,zdj.size,W3.size,ze5.size,YS.size,Sem.run_bind,Sem.run_pure]⟩
def UX:Qs prog 114 0 0 1 false:=⟨_,_,_,_,_,underlying114,rfl,rfl,zgi,underlying28,rfl⟩
def z7Q:Qs prog 114 1 1 1 false:=⟨_,_,_,_,_,underlying114,rfl,rfl,ziE,underlying51,rfl⟩
def z7Y:Qs prog 114 2 2 1 false:=⟨_,_,_,_,_,underlying114,rfl,rfl,zeB,underlying111,rfl⟩
def VP:Qs prog 114 3 3 1 false:=⟨_,_,_,_,_,underlying114,rfl,rfl,zeU,underlying112,rfl⟩
def WU:Qs prog 114 4 4 7 true:=⟨_,_,_,_,_,underlying114,rfl,rfl,zfJ,underlying77,rfl⟩
def z7V:Qs prog 114 5 11 1 false:=⟨_,_,_,_,_,underlying114,rfl,rfl,W3,underlying4,rfl⟩
def zi9:SP prog 114 [(0,1),(1,1),(2,1),(3,1),(4,7),(11,1)]:=⟨_,underlying114,λ_=>by simp[zeB.size,zeU.size,zgi.size,W3.size,ziE.size,zfJ.size,Sem.run_bind,Sem.run_pure]⟩
def QX:Qs prog 119 0 0 1 false:=⟨_,_,_,_,_,underlying119,rfl,rfl,Q7,underlying3,rfl⟩
def Ra:Qs prog 119 1 1 1 false:=⟨_,_,_,_,_,underlying119,rfl,rfl,Q7,underlying3,rfl⟩
def ziq:SP prog 119 [(0,1),(1,1)]:=⟨_,underlying119,λ_=>by simp[Q7.size,Sem.run_bind,Sem.run_pure]⟩
def Xn:Qs prog 125 0 0 1 false:=⟨_,_,_,_,_,underlying125,rfl,rfl,OP,underlying106,rfl⟩
def VL:Qs prog 125 1 1 1 false:=⟨_,_,_,_,_,underlying125,rfl,rfl,OP,underlying106,rfl⟩
def zfg:SP prog 125 [(0,1),(1,1)]:=⟨_,underlying125,λ_=>by simp[OP.size,Sem.run_bind,Sem.run_pure]⟩
def ze8:Qs prog 130 0 0 1 false:=⟨_,_,_,_,_,underlying130,rfl,rfl,z64,underlying43,rfl⟩
def zda:Qs prog 130 1 1 1 false:=⟨_,_,_,_,_,underlying130,rfl,rfl,Q7,underlying3,rfl⟩
def zcR:Qs prog 130 2 2 1 false:=⟨_,_,_,_,_,underlying130,rfl,rfl,VK,underlying5,rfl⟩
def z0w:Qs prog 132 0 0 1 false:=⟨_,_,_,_,_,underlying132,rfl,rfl,Q7,underlying3,rfl⟩
def zdZ:Qs prog 132 1 1 3 true:=⟨_,_,_,_,_,underlying132,rfl,rfl,zaJ,underlying130,rfl⟩
def zh2:SP prog 132 [(0,1),(1,3)]:=⟨_,underlying132,λ_=>by simp[zaJ.size,Q7.size,Sem.run_bind,Sem.run_pure]⟩
def WX:Qs prog 135 0 0 4 true:=⟨_,_,_,_,_,underlying135,rfl,rfl,z7W,underlying132,rfl⟩
def z0t:Qs prog 135 1 4 2 true:=⟨_,_,_,_,_,underlying135,rfl,rfl,zaH,underlying86,rfl⟩
def z3t:Qs prog 135 2 6 1 false:=⟨_,_,_,_,_,underlying135,rfl,rfl,zfj,underlying128,rfl⟩
def YE:Qs prog 135 3 7 1 false:=⟨_,_,_,_,_,underlying135,rfl,rfl,z7G,underlying133,rfl⟩
def z3S:Qs prog 135 4 8 1 false:=⟨_,_,_,_,_,underlying135,rfl,rfl,W3,underlying4,rfl⟩
def z8k:Qs prog 135 5 9 1 false:=⟨_,_,_,_,_,underlying135,rfl,rfl,Q7,underlying3,rfl⟩
def z8h:Qs prog 135 6 10 1 false:=⟨_,_,_,_,_,underlying135,rfl,rfl,Q7,underlying3,rfl⟩
def zhA:SP prog 135 [(0,4),(4,2),(6,1),(7,1),(8,1),(9,1),(10,1)]:=⟨_,underlying135,λ_=>by simp[zfj.size,z7W.size,z7G.size,Q7.size,W3.size,zaH.size,Sem.run_bind,Sem.run_pure]⟩
def z7I:Qs prog 138 0 0 1 false:=⟨_,_,_,_,_,underlying138,rfl,rfl,Q7,underlying3,rfl⟩
def Va:Qs prog 138 1 1 1 false:=⟨_,_,_,_,_,underlying138,rfl,rfl,zeM,underlying136,rfl⟩
def zd7:Qs prog 138 3 3 1 false:=⟨_,_,_,_,_,underlying138,rfl,rfl,W3,underlying4,rfl⟩
def ziy:SP prog 138 [(0,1),(1,1),(2,1),(3,1)]:=⟨_,underlying138,λ_=>by simp[zeM.size,Q7.size,W3.size,Sem.run_bind,Sem.run_pure]⟩
def WT:Qs prog 155 0 0 1 false:=⟨_,_,_,_,_,underlying155,rfl,rfl,Q7,underlying3,rfl⟩
def TW:Qs prog 155 1 1 1 false:=⟨_,_,_,_,_,underlying155,rfl,rfl,Q7,underlying3,rfl⟩
def VX:Qs prog 155 2 2 1 false:=⟨_,_,_,_,_,underlying155,rfl,rfl,Q7,underlying3,rfl⟩
def zjp:SP prog 155 [(0,1),(1,1),(2,1)]:=⟨_,underlying155,λ_=>by simp[Q7.size,Sem.run_bind,Sem.run_pure]⟩
def R4:Qs prog 157 0 0 3 true:=⟨_,_,_,_,_,underlying157,rfl,rfl,Yo,underlying155,rfl⟩
def YZ:Qs prog 157 1 3 2 true:=⟨_,_,_,_,_,underlying157,rfl,rfl,R6,underlying119,rfl⟩
def W1:Qs prog 157 2 5 1 false:=⟨_,_,_,_,_,underlying157,rfl,rfl,za0,underlying29,rfl⟩
def z8q:Qs prog 157 3 6 1 false:=⟨_,_,_,_,_,underlying157,rfl,rfl,W3,underlying4,rfl⟩
def zhf:SP prog 157 [(0,3),(3,2),(5,1),(6,1)]:=⟨_,underlying157,λ_=>by simp[R6.size,Yo.size,za0.size,W3.size,Sem.run_bind,Sem.run_pure]⟩
def Uj:Qs prog 160 0 0 1 false:=⟨_,_,_,_,_,underlying160,rfl,rfl,Q7,underlying3,rfl⟩
def z3o:Qs prog 160 1 1 1 false:=⟨_,_,_,_,_,underlying160,rfl,rfl,Q7,underlying3,rfl⟩
def Yj:Qs prog 160 2 2 5 true:=⟨_,_,_,_,_,underlying160,rfl,rfl,RK,underlying94,rfl⟩
def UT:Qs prog 160 3 7 1 false:=⟨_,_,_,_,_,underlying160,rfl,rfl,Q7,underlying3,rfl⟩
def zfu:SP prog 160 [(0,1),(1,1),(2,5),(7,1)]:=⟨_,underlying160,λ_=>by simp[Q7.size,RK.size,Sem.run_bind,Sem.run_pure]⟩
def WQ:Qs prog 165 0 0 8 true:=⟨_,_,_,_,_,underlying165,rfl,rfl,U7,underlying160,rfl⟩
def zdw:Qs prog 165 1 8 1 false:=⟨_,_,_,_,_,underlying165,rfl,rfl,z2r,underlying162,rfl⟩
def z7C:Qs prog 165 2 9 1 false:=⟨_,_,_,_,_,underlying165,rfl,rfl,zfs,underlying163,rfl⟩
def zhO:SP prog 165 [(0,8),(8,1),(9,1)]:=⟨_,underlying165,λ_=>by simp[U7.size,z2r.size,zfs.size,Sem.run_bind,Sem.run_pure]⟩
def z0B:Qs prog 175 1 1 1 false:=⟨_,_,_,_,_,underlying175,rfl,rfl,Wg,underlying105,rfl⟩
def Qg:Qs prog 190 0 0 1 false:=⟨_,_,_,_,_,underlying190,rfl,rfl,z64,underlying43,rfl⟩
def Yz:Qs prog 190 1 1 1 false:=⟨_,_,_,_,_,underlying190,rfl,rfl,z8K,underlying188,rfl⟩
def SE:Qs prog 192 0 0 1 false:=⟨_,_,_,_,_,underlying192,rfl,rfl,Q7,underlying3,rfl⟩
def QE:Qs prog 192 1 1 2 true:=⟨_,_,_,_,_,underlying192,rfl,rfl,z42,underlying190,rfl⟩
def Rt:Qs prog 192 2 3 2 true:=⟨_,_,_,_,_,underlying192,rfl,rfl,z42,underlying190,rfl⟩
def R0:Qs prog 192 3 5 2 true:=⟨_,_,_,_,_,underlying192,rfl,rfl,z42,underlying190,rfl⟩
def Rk:Qs prog 192 4 7 2 true:=⟨_,_,_,_,_,underlying192,rfl,rfl,z42,underlying190,rfl⟩
def Rj:Qs prog 192 5 9 1 false:=⟨_,_,_,_,_,underlying192,rfl,rfl,Q7,underlying3,rfl⟩
def z0A:Qs prog 192 6 10 1 false:=⟨_,_,_,_,_,underlying192,rfl,rfl,z8K,underlying188,rfl⟩
def zk1:SP prog 192 [(0,1),(1,2),(3,2),(5,2),(7,2),(9,1),(10,1)]:=⟨_,underlying192,λ_=>by simp[z8K.size,z42.size,Q7.size,Sem.run_bind,Sem.run_pure]⟩
def US:Qs prog 198 0 0 1 false:=⟨_,_,_,_,_,underlying198,rfl,rfl,za0,underlying29,rfl⟩
def Ui:Qs prog 198 1 1 2 true:=⟨_,_,_,_,_,underlying198,rfl,rfl,R6,underlying119,rfl⟩
def zeW:SP prog 198 [(0,1),(1,2)]:=⟨_,underlying198,λ_=>by simp[R6.size,za0.size,Sem.run_bind,Sem.run_pure]⟩
def WZ:Qs prog 200 0 0 3 true:=⟨_,_,_,_,_,underlying200,rfl,rfl,XI,underlying198,rfl⟩
def SZ:Qs prog 200 1 3 1 false:=⟨_,_,_,_,_,underlying200,rfl,rfl,Wg,underlying105,rfl⟩
def Z0:Qs prog 200 2 4 1 false:=⟨_,_,_,_,_,underlying200,rfl,rfl,Q7,underlying3,rfl⟩
def z0y:Qs prog 200 3 5 1 false:=⟨_,_,_,_,_,underlying200,rfl,rfl,Q7,underlying3,rfl⟩
def z3X:Qs prog 200 4 6 1 false:=⟨_,_,_,_,_,underlying200,rfl,rfl,OP,underlying106,rfl⟩
def z0s:Qs prog 200 5 7 1 false:=⟨_,_,_,_,_,underlying200,rfl,rfl,zg5,underlying60,rfl⟩
def YP:Qs prog 200 6 8 1 false:=⟨_,_,_,_,_,underlying200,rfl,rfl,W3,underlying4,rfl⟩
def zeA:SP prog 200 [(0,3),(3,1),(4,1),(5,1),(6,1),(7,1),(8,1)]:=⟨_,underlying200,λ_=>by simp[Wg.size,OP.size,XI.size,Q7.size,W3.size,zg5.size,Sem.run_bind,Sem.run_pure]⟩
def Z7:Qs prog 205 0 0 3 true:=⟨_,_,_,_,_,underlying205,rfl,rfl,XI,underlying198,rfl⟩
def z0D:Qs prog 205 1 3 1 false:=⟨_,_,_,_,_,underlying205,rfl,rfl,Q7,underlying3,rfl⟩
def ze7:Qs prog 205 2 4 1 false:=⟨_,_,_,_,_,underlying205,rfl,rfl,OP,underlying106,rfl⟩
def zgQ:SP prog 205 [(0,3),(3,1),(4,1)]:=⟨_,underlying205,λ_=>by simp[OP.size,XI.size,Q7.size,Sem.run_bind,Sem.run_pure]⟩
def z3J:Qs prog 216 0 0 1 false:=⟨_,_,_,_,_,underlying216,rfl,rfl,ti9,underlying9,rfl⟩
def z3I:Qs prog 216 1 1 1 false:=⟨_,_,_,_,_,underlying216,rfl,rfl,W3,underlying4,rfl⟩
def zgM:SP prog 216 [(0,1),(1,1)]:=⟨_,underlying216,λ_=>by simp[W3.size,ti9.size,Sem.run_bind,Sem.run_pure]⟩
def VG:Qs prog 218 0 0 2 true:=⟨_,_,_,_,_,underlying218,rfl,rfl,z89,underlying216,rfl⟩
def zdv:Qs prog 218 1 2 1 false:=⟨_,_,_,_,_,underlying218,rfl,rfl,Q7,underlying3,rfl⟩
def zhD:SP prog 218 [(0,2),(2,1)]:=⟨_,underlying218,λ_=>by simp[z89.size,Q7.size,Sem.run_bind,Sem.run_pure]⟩
def zcV:Qs prog 229 0 0 1 false:=⟨_,_,_,_,_,underlying229,rfl,rfl,Q7,underlying3,rfl⟩
def zcQ:Qs prog 229 1 1 1 false:=⟨_,_,_,_,_,underlying229,rfl,rfl,Q7,underlying3,rfl⟩
def ZU:SP prog 229 [(0,1),(1,1)]:=⟨_,underlying229,λ_=>by simp[Q7.size,Sem.run_bind,Sem.run_pure]⟩
def Yx:Qs prog 234 0 0 1 false:=⟨_,_,_,_,_,underlying234,rfl,rfl,Q7,underlying3,rfl⟩
def zdQ:Qs prog 234 1 1 1 false:=⟨_,_,_,_,_,underlying234,rfl,rfl,Tf,underlying23,rfl⟩
def Tp:Qs prog 234 2 2 1 false:=⟨_,_,_,_,_,underlying234,rfl,rfl,Q7,underlying3,rfl⟩
def Z3:Qs prog 234 3 3 1 false:=⟨_,_,_,_,_,underlying234,rfl,rfl,Q7,underlying3,rfl⟩
def ziG:SP prog 234 [(0,1),(1,1),(2,1),(3,1)]:=⟨_,underlying234,λ_=>by simp[Tf.size,Q7.size,Sem.run_bind,Sem.run_pure]⟩
def zd1:Qs prog 247 0 0 1 false:=⟨_,_,_,_,_,underlying247,rfl,rfl,z2r,underlying162,rfl⟩
def zdX:Qs prog 247 1 1 1 false:=⟨_,_,_,_,_,underlying247,rfl,rfl,Q7,underlying3,rfl⟩
def z3i:Qs prog 247 2 2 1 false:=⟨_,_,_,_,_,underlying247,rfl,rfl,Q7,underlying3,rfl⟩
def zk4:SP prog 247 [(0,1),(1,1),(2,1)]:=⟨_,underlying247,λ_=>by simp[z2r.size,Q7.size,Sem.run_bind,Sem.run_pure]⟩
def zde:Qs prog 264 0 0 1 false:=⟨_,_,_,_,_,underlying264,rfl,rfl,W3,underlying4,rfl⟩
def zdk:Qs prog 264 1 1 1 false:=⟨_,_,_,_,_,underlying264,rfl,rfl,W3,underlying4,rfl⟩
def z3T:Qs prog 264 2 2 1 false:=⟨_,_,_,_,_,underlying264,rfl,rfl,Q7,underlying3,rfl⟩
def Wb:SP prog 264 [(0,1),(1,1),(2,1)]:=⟨_,underlying264,λ_=>by simp[Q7.size,W3.size,Sem.run_bind,Sem.run_pure]⟩
def Sz:Qs prog 271 0 0 1 false:=⟨_,_,_,_,_,underlying271,rfl,rfl,SO,underlying49,rfl⟩
def z3h:Qs prog 271 1 1 1 false:=⟨_,_,_,_,_,underlying271,rfl,rfl,Q7,underlying3,rfl⟩
def zfv:SP prog 271 [(0,1),(1,1)]:=⟨_,underlying271,λ_=>by simp[Q7.size,SO.size,Sem.run_bind,Sem.run_pure]⟩
def z8a:Qs prog 274 0 0 34 true:=⟨_,_,_,_,_,underlying274,rfl,rfl,zgU,underlying272,rfl⟩
def Vc:Qs prog 274 1 34 1 false:=⟨_,_,_,_,_,underlying274,rfl,rfl,Q7,underlying3,rfl⟩
def Xo:Qs prog 276 0 0 5 true:=⟨_,_,_,_,_,underlying276,rfl,rfl,RK,underlying94,rfl⟩
def Ym:Qs prog 276 1 5 35 true:=⟨_,_,_,_,_,underlying276,rfl,rfl,zf9,underlying274,rfl⟩
def z3g:Qs prog 276 2 40 1 false:=⟨_,_,_,_,_,underlying276,rfl,rfl,z7T,underlying227,rfl⟩
def z3a:Qs prog 276 3 41 1 false:=⟨_,_,_,_,_,underlying276,rfl,rfl,Q7,underlying3,rfl⟩
def zdm:Qs prog 276 4 42 1 false:=⟨_,_,_,_,_,underlying276,rfl,rfl,Q7,underlying3,rfl⟩
def ziI:SP prog 276 [(0,5),(5,35),(40,1),(41,1),(42,1)]:=⟨_,underlying276,λ_=>by simp[z7T.size,zf9.size,Q7.size,RK.size,Sem.run_bind,Sem.run_pure]⟩
def Tg:Qs prog 279 0 0 1 false:=⟨_,_,_,_,_,underlying279,rfl,rfl,Q7,underlying3,rfl⟩
def Ul:Qs prog 279 1 1 1 false:=⟨_,_,_,_,_,underlying279,rfl,rfl,Q7,underlying3,rfl⟩
def z0J:Qs prog 279 2 2 1 false:=⟨_,_,_,_,_,underlying279,rfl,rfl,Q7,underlying3,rfl⟩
def zjV:SP prog 279 [(0,1),(1,1),(2,1)]:=⟨_,underlying279,λ_=>by simp[Q7.size,Sem.run_bind,Sem.run_pure]⟩
def YX:Qs prog 286 0 0 1 false:=⟨_,_,_,_,_,underlying286,rfl,rfl,Wg,underlying105,rfl⟩
def Xi:Qs prog 286 1 1 1 false:=⟨_,_,_,_,_,underlying286,rfl,rfl,Q7,underlying3,rfl⟩
def zk3:SP prog 286 [(0,1),(1,1)]:=⟨_,underlying286,λ_=>by simp[Wg.size,Q7.size,Sem.run_bind,Sem.run_pure]⟩
def Sw:Qs prog 295 0 0 4 true:=⟨_,_,_,_,_,underlying295,rfl,rfl,Ti,underlying234,rfl⟩
def z3C:Qs prog 295 1 4 1 false:=⟨_,_,_,_,_,underlying295,rfl,rfl,z2r,underlying162,rfl⟩
def zj5:SP prog 295 [(0,4),(4,1)]:=⟨_,underlying295,λ_=>by simp[z2r.size,Ti.size,Sem.run_bind,Sem.run_pure]⟩
def Sj:Qs prog 317 0 0 1 false:=⟨_,_,_,_,_,underlying317,rfl,rfl,VK,underlying5,rfl⟩
def Xk:Qs prog 317 1 1 1 false:=⟨_,_,_,_,_,underlying317,rfl,rfl,Tf,underlying23,rfl⟩
def zeh:SP prog 317 [(0,1),(1,1)]:=⟨_,underlying317,λ_=>by simp[Tf.size,VK.size,Sem.run_bind,Sem.run_pure]⟩
def z8f:Qs prog 319 0 0 2 true:=⟨_,_,_,_,_,underlying319,rfl,rfl,QS,underlying317,rfl⟩
def z8n:Qs prog 319 1 2 1 false:=⟨_,_,_,_,_,underlying319,rfl,rfl,Tf,underlying23,rfl⟩
def zev:SP prog 319 [(0,2),(2,1)]:=⟨_,underlying319,λ_=>by simp[Tf.size,QS.size,Sem.run_bind,Sem.run_pure]⟩
def z3L:Qs prog 324 0 0 1 false:=⟨_,_,_,_,_,underlying324,rfl,rfl,ti9,underlying9,rfl⟩
def UY:Qs prog 324 1 1 1 false:=⟨_,_,_,_,_,underlying324,rfl,rfl,Q7,underlying3,rfl⟩
def zhX:SP prog 324 [(0,1),(1,1)]:=⟨_,underlying324,λ_=>by simp[Q7.size,ti9.size,Sem.run_bind,Sem.run_pure]⟩
def Tq:Qs prog 332 0 0 1 false:=⟨_,_,_,_,_,underlying332,rfl,rfl,Q7,underlying3,rfl⟩
def SA:Qs prog 332 1 1 1 false:=⟨_,_,_,_,_,underlying332,rfl,rfl,Q7,underlying3,rfl⟩
def zcr:SP prog 332 [(0,1),(1,1)]:=⟨_,underlying332,λ_=>by simp[Q7.size,Sem.run_bind,Sem.run_pure]⟩
def z0H:Qs prog 337 0 0 1 false:=⟨_,_,_,_,_,underlying337,rfl,rfl,Q7,underlying3,rfl⟩
def z3Q:Qs prog 337 1 1 1 false:=⟨_,_,_,_,_,underlying337,rfl,rfl,ti9,underlying9,rfl⟩
def zhG:SP prog 337 [(0,1),(1,1)]:=⟨_,underlying337,λ_=>by simp[Q7.size,ti9.size,Sem.run_bind,Sem.run_pure]⟩
def z3q:Qs prog 350 0 0 1 false:=⟨_,_,_,_,_,underlying350,rfl,rfl,Q7,underlying3,rfl⟩
def z8t:Qs prog 350 1 1 1 false:=⟨_,_,_,_,_,underlying350,rfl,rfl,Q7,underlying3,rfl⟩
def zgW:SP prog 350 [(0,1),(1,1)]:=⟨_,underlying350,λ_=>by simp[Q7.size,Sem.run_bind,Sem.run_pure]⟩
def z8F:Qs prog 353 0 0 1 false:=⟨_,_,_,_,_,underlying353,rfl,rfl,Tf,underlying23,rfl⟩
def z0r:Qs prog 353 1 1 1 false:=⟨_,_,_,_,_,underlying353,rfl,rfl,Q7,underlying3,rfl⟩
def zcs:SP prog 353 [(0,1),(1,1)]:=⟨_,underlying353,λ_=>by simp[Tf.size,Q7.size,Sem.run_bind,Sem.run_pure]⟩
def zdb:Qs prog 363 0 0 1 false:=⟨_,_,_,_,_,underlying363,rfl,rfl,z2G,underlying291,rfl⟩
def TS:Qs prog 363 1 1 1 false:=⟨_,_,_,_,_,underlying363,rfl,rfl,W3,underlying4,rfl⟩
def zhY:SP prog 363 [(0,1),(1,1)]:=⟨_,underlying363,λ_=>by simp[z2G.size,W3.size,Sem.run_bind,Sem.run_pure]⟩
def zdc:Qs prog 377 0 0 1 false:=⟨_,_,_,_,_,underlying377,rfl,rfl,z2G,underlying291,rfl⟩
def z0E:Qs prog 377 1 1 1 false:=⟨_,_,_,_,_,underlying377,rfl,rfl,W3,underlying4,rfl⟩
def zjK:SP prog 377 [(0,1),(1,1)]:=⟨_,underlying377,λ_=>by simp[z2G.size,W3.size,Sem.run_bind,Sem.run_pure]⟩
def cf6:=PB func6
def cf7:=PB func7
def cf8:=PB func8
def zbi:=PB func10
def zkO:=PB func14
def zfI:=PB func15
def zlv:=PB func16
def zlu:=PB func18
def zkX:=PB func19
def zl3:=PB func20
def zkU:=PB func21
def zgs:=PB func22
def zkS:=PB func29
def zkk:=PB func30
def zku:=PB func31
def zli:=PB func32
def zkW:=PB func33
def zkR:=PB func34
def zi7:=PB func35
def zhN:=PB func36
def zkK:=PB func37
def zfO:=PB func38
def zkl:=PB func39
def zar:=PB func40
def zlb:=PB func41
def zkE:=PB func42
def zaW:=PB func43
def zkm:=PB func44
def zgk:=PB func47
def zdA:=PB func48
def zik:=PB func49
def zij:=PB func50
def zlB:=PB func51
def zkB:=PB func52
def zfx:=PB func53
def zk8:=PB func54
def zkg:=PB func61
def zlf:=PB func62
def zls:=PB func63
def zl7:=PB func64
def zlw:=PB func65
def z5P:=PB func66
def zj9:=PB func67
def zkz:=PB func68
def zkf:=PB func69
def zkY:=PB func70
def zlo:=PB func71
def zkw:=PB func72
def zhV:=PB func73
def zkV:=PB func74
def zkj:=PB func75
def zkC:=PB func76
def zkH:=PB func77
def zlz:=PB func78
def zil:=PB func79
def zlx:=PB func80
def zl8:=PB func81
def z73:=PB func82
def zhR:=PB func83
def zbP:=PB func84
def zjl:=PB func85
def ziO:=PB func86
def zjv:=PB func87
def ziR:=PB func88
def zlr:=PB func89
def zlh:=PB func95
def zl5:=PB func96
def zl1:=PB func97
def zlj:=PB func98
def zko:=PB func99
def zcv:=PB func100
def zhn:=PB func101
def zeX:=PB func102
def zeE:=PB func103
def zba:=PB func104
def zbc:=PB func105
def zf2:=PB func106
def zid:=PB func107
def zff:=PB func108
def zeG:=PB func109
def zfp:=PB func110
def zes:=PB func111
def zjN:=PB func112
def zft:=PB func113
def z8r:=PB func114
def zbK:=PB func115
def zie:=PB func116
def zjk:=PB func117
def ziW:=PB func118
def z88:=PB func119
def zbv:=PB func120
def zf5:=PB func121
def zhS:=PB func122
def zen:=PB func123
def zir:=PB func124
def zeb:=PB func125
def zfd:=PB func126
def zk0:=PB func127
def zjm:=PB func128
def zjc:=PB func130
def zih:=PB func131
def zio:=PB func132
def zix:=PB func133
def ziM:=PB func134
def zcI:=PB func135
def z1e:=PB func136
def WI:=PB func137
def z81:=PB func138
def ziF:=PB func139
def zaD:=PB func140
def z2U:=PB func141
def zf8:=PB func142
def zeZ:=PB func143
def z48:=PB func144
def ziV:=PB func145
def zhT:=PB func146
def zjF:=PB func147
def zjR:=PB func148
def zgG:=PB func149
def zjw:=PB func150
def zgV:=PB func155
def ziS:=PB func156
def zjT:=PB func157
def zbD:=PB func158
def z35:=PB func159
def zjW:=PB func160
def zit:=PB func161
def zhs:=PB func162
def zhK:=PB func163
def zk5:=PB func164
def zjq:=PB func166
def zgS:=PB func167
def zi3:=PB func168
def zed:=PB func170
def z5a:=PB func171
def z0M:=PB func172
def zhi:=PB func173
def z8J:=PB func174
def zf0:=PB func175
def zk2:=PB func176
def ziw:=PB func177
def ziA:=PB func178
def zhI:=PB func179
def z84:=PB func180
def ZZ:=PB func181
def z43:=PB func182
def ziu:=PB func183
def z7X:=PB func184
def zeL:=PB func185
def ziL:=PB func187
def zeP:=PB func189
def XC:=PB func190
def SU:=PB func191
def zjU:=PB func192
def zjt:=PB func193
def zhC:=PB func195
def zhr:=PB func196
def ziJ:=PB func197
def zhZ:=PB func198
def To:=PB func199
def YK:=PB func200
def zfr:=PB func201
def z1Z:=PB func202
def zbN:=PB func203
def zk7:=PB func204
def zeo:=PB func205
def zeH:=PB func206
def zj6:=PB func207
def z5n:=PB func208
def zho:=PB func209
def zfc:=PB func210
def zfn:=PB func211
def zhm:=PB func212
def zi5:=PB func213
def zjJ:=PB func214
def zi6:=PB func215
def zeS:=PB func216
def zf6:=PB func218
def zib:=PB func219
def zjI:=PB func220
def zin:=PB func221
def zeg:=PB func222
def zjH:=PB func223
def zhw:=PB func224
def Ys:=PB func225
def ziP:=PB func226
def zjs:=PB func227
def zhW:=PB func228
def zem:=PB func229
def z7K:=PB func230
def z5C:=PB func231
def Yr:=PB func232
def ziC:=PB func233
def z4s:=PB func234
def zji:=PB func235
def zfm:=PB func236
def zj7:=PB func237
def zeO:=PB func238
def zeJ:=PB func239
def zjO:=PB func240
def zey:=PB func241
def zjB:=PB func242
def zj2:=PB func243
def zaS:=PB func244
def zh4:=PB func245
def zjn:=PB func246
def z4Y:=PB func247
def zet:=PB func248
def zjz:=PB func249
def zfb:=PB func250
def zb6:=PB func251
def zhE:=PB func252
def zjE:=PB func253
def zhU:=PB func254
def zhc:=PB func255
def zgL:=PB func256
def ziX:=PB func257
def zis:=PB func258
def zk6:=PB func259
def z2W:=PB func260
def zei:=PB func261
def zb0:=PB func262
def zjX:=PB func263
def zja:=PB func264
def zb4:=PB func265
def zhJ:=PB func266
def z8l:=PB func267
def zh5:=PB func268
def zha:=PB func269
def zi2:=PB func270
def zjY:=PB func271
def zhk:=PB func272
def zhl:=PB func273
def zhz:=PB func274
def Wf:=PB func275
def zif:=PB func276
def zjC:=PB func277
def zeY:=PB func278
def zjD:=PB func279
def zjy:=PB func280
def zi1:=PB func282
def ziU:=PB func283
def zbz:=PB func284
def zgF:=PB func305
def zgK:=PB func306
def zjj:=PB func308
def zhF:=PB func309
def wtr (ops:List Oper)(i:Nat):List Nat:=(List.range ops.length).foldl (λa j=>match ops[j]? with|some o=>if o.after.any (λx=>Region.binds .any x&&(x.on==i ||a.contains x.on)) then a++[j] else a|none=>a) []
section
variable {D:RC}{l:List Oper}{e:Env}{w w':World}{d:Nat}{op:Op}{ty:TypeId}{pos:String}{aft:Array Edge}{g:Option (Nat×Bool)}{v:Value}
def qV (hy:Y D.C.P e ⟨some d,op,ty,pos,aft,g⟩ v w w')(h:RL D l ((d,v)::e) w')(ho:Sf D e g true=true:=by exact rfl)(hd:Nat.blt d D.C.n=true:=by exact rfl):RL D (⟨some d,op,ty,pos,aft,g⟩::l) e w:=Vl ho hd hy h
theorem qS (h:RL D l ((d,undef)::e) w)(ho:Sf D e g false=true:=by exact rfl)(hd:Nat.blt d D.C.n=true:=by exact rfl):RL D (⟨some d,op,ty,pos,aft,g⟩::l) e w:=zhp ho hd h
theorem OK {x:Operand}(hx:look e x=some v)(h:RL D l ((d,v)::e) w)(ho:Sf D e g true=true:=by exact rfl)(hd:Nat.blt d D.C.n=true:=by exact rfl):RL D (⟨some d,.move x,ty,pos,aft,g⟩::l) e w:=Vl ho hd (Xv hx) h
theorem RT {x:Operand}(hx:look e x=some v)(h:RL D l ((d,v)::e) w)(ho:Sf D e g true=true:=by exact rfl)(hd:Nat.blt d D.C.n=true:=by exact rfl):RL D (⟨some d,.assign x,ty,pos,aft,g⟩::l) e w:=Vl ho hd (R7 hx) h
theorem PV {x y:Operand}{t t':TypeId}{a b:Int}(h0:(look e x,look e y)=(some (I a),some (I b)))(h:RL D l ((d,I (a+b))::e) w)(hb:JIq (a+b):=by omega)(ho:Sf D e g true=true:=by exact rfl)(hd:Nat.blt d D.C.n=true:=by exact rfl):RL D (⟨some d,.binOp .add t x y t',ty,pos,aft,g⟩::l) e w:=Vl ho hd (Ud (congrArg Prod.fst h0) (congrArg Prod.snd h0) hb) h
theorem P4 {f:FuncId}{vs:List Value}{S:Value->World->Prop}{ts:Array TypeId}{args:List Operand}(hf:CF D.C.P f)(ha:looks e args=some vs)(hc:Pm D.C.P f vs w S)(h:∀v w',S v w'->RL D l ((d,v)::e) w')(ho:Sf D e g true=true:=by exact rfl)(hd:Nat.blt d D.C.n=true:=by exact rfl):RL D (⟨some d,.call ⟨.value (.func f),args.toArray,ts⟩,ty,pos,aft,g⟩::l) e w:=Qz ho hd (yc hf ha) hc h
def Rp {p:Prop}[hp:Decidable p](hr:RL D l ((d,.bool true)::e) w)(h:p:=by first|rfl|assumption|omega|decide):RL D l ((d,.bool (decide p))::e) w:=zjg h hr
def PF {p:Prop}[hp:Decidable p](hr:RL D l ((d,.bool false)::e) w)(h:¬p:=by first|exact λh=>h O|assumption|omega):RL D l ((d,.bool (decide p))::e) w:=zfU h hr
theorem Qq {x y:Operand}{t t':TypeId}{k:IntKind}{a b:Int}(h0:(look e x,look e y)=(some (.int k a),some (.int k b)))(h:RL D l ((d,.bool (decide (a<b)))::e) w)(ho:Sf D e g true=true:=by exact rfl)(hd:Nat.blt d D.C.n=true:=by exact rfl):RL D (⟨some d,.binOp .lss t x y t',ty,pos,aft,g⟩::l) e w:=Vl ho hd (ylt (congrArg Prod.fst h0) (congrArg Prod.snd h0)) h
theorem zle {x y:Operand}{t t':TypeId}{k:IntKind}{a b:Int}(h0:(look e x,look e y)=(some (.int k a),some (.int k b)))(h:RL D l ((d,.bool (decide (a<=b)))::e) w)(ho:Sf D e g true=true:=by exact rfl)(hd:Nat.blt d D.C.n=true:=by exact rfl):RL D (⟨some d,.binOp .leq t x y t',ty,pos,aft,g⟩::l) e w:=Vl ho hd (Zb (congrArg Prod.fst h0) (congrArg Prod.snd h0)) h
theorem Qu {x y:Operand}{t t':TypeId}{k:IntKind}{a b:Int}(h0:(look e x,look e y)=(some (.int k a),some (.int k b)))(h:RL D l ((d,.bool (decide (b<a)))::e) w)(ho:Sf D e g true=true:=by exact rfl)(hd:Nat.blt d D.C.n=true:=by exact rfl):RL D (⟨some d,.binOp .gtr t x y t',ty,pos,aft,g⟩::l) e w:=Vl ho hd (Xw (congrArg Prod.fst h0) (congrArg Prod.snd h0)) h
theorem Te {x y:Operand}{t t':TypeId}{k:IntKind}{a b:Int}(h0:(look e x,look e y)=(some (.int k a),some (.int k b)))(h:RL D l ((d,.bool (decide (b<=a)))::e) w)(ho:Sf D e g true=true:=by exact rfl)(hd:Nat.blt d D.C.n=true:=by exact rfl):RL D (⟨some d,.binOp .geq t x y t',ty,pos,aft,g⟩::l) e w:=Vl ho hd (yge (congrArg Prod.fst h0) (congrArg Prod.snd h0)) h
theorem Ri {x y:Operand}{t t':TypeId}{k:IntKind}{a b:Int}(h0:(look e x,look e y)=(some (.int k a),some (.int k b)))(h:RL D l ((d,.bool (decide (a=b)))::e) w)(ho:Sf D e g true=true:=by exact rfl)(hd:Nat.blt d D.C.n=true:=by exact rfl):RL D (⟨some d,.binOp .eql t x y t',ty,pos,aft,g⟩::l) e w:=Vl ho hd (yeq (congrArg Prod.fst h0) (congrArg Prod.snd h0)) h
theorem Qf {x y:Operand}{t t':TypeId}{k:IntKind}{a b:Int}(h0:(look e x,look e y)=(some (.int k a),some (.int k b)))(h:RL D l ((d,.bool (decide (a≠b)))::e) w)(ho:Sf D e g true=true:=by exact rfl)(hd:Nat.blt d D.C.n=true:=by exact rfl):RL D (⟨some d,.binOp .neq t x y t',ty,pos,aft,g⟩::l) e w:=Vl ho hd (yne (congrArg Prod.fst h0) (congrArg Prod.snd h0)) h
theorem QJ {c x y:Operand}(h0:(look e c,look e x)=(some (.bool true),some v))(h:RL D l ((d,v)::e) w)(ho:Sf D e g true=true:=by exact rfl)(hd:Nat.blt d D.C.n=true:=by exact rfl):RL D (⟨some d,.pick c x y,ty,pos,aft,g⟩::l) e w:=Vl ho hd (UJ (congrArg Prod.fst h0) (congrArg Prod.snd h0)) h
theorem PK {c x y:Operand}(h0:(look e c,look e y)=(some (.bool false),some v))(h:RL D l ((d,v)::e) w)(ho:Sf D e g true=true:=by exact rfl)(hd:Nat.blt d D.C.n=true:=by exact rfl):RL D (⟨some d,.pick c x y,ty,pos,aft,g⟩::l) e w:=Vl ho hd (Ub (congrArg Prod.fst h0) (congrArg Prod.snd h0)) h
theorem zex {x:Operand}{vs:Array Value}{i:Nat}(h0:(look e x,vs[i]?)=(some (.tuple vs),some v))(h:RL D l ((d,v)::e) w)(ho:Sf D e g true=true:=by exact rfl)(hd:Nat.blt d D.C.n=true:=by exact rfl):RL D (⟨some d,.extract x i,ty,pos,aft,g⟩::l) e w:=Vl ho hd (Rw (congrArg Prod.fst h0) (congrArg Prod.snd h0)) h
theorem OX {t:TypeId}{i off n b m:Nat}{agg:Bool}{x:Operand}(hf:Qs D.C.P t i off (n+1) agg)(hx:look e x=some (ptr b m))(h:RL D l ((d,ptr b (m+off))::e) w)(ho:Sf D e g true=true:=by exact rfl)(hd:Nat.blt d D.C.n=true:=by exact rfl):RL D (⟨some d,.fieldAddr t x i,ty,pos,aft,g⟩::l) e w:=Vl ho hd (Pp hf hx) h
theorem Rv {t el:TypeId}{x:Operand}{a:Option Addr}{len cap:Nat}(ht:D.C.P.underlying t=some (.slice el))(hx:look e x=some (.slice a len cap))(h:RL D l ((d,I (len:Int))::e) w)(ho:Sf D e g true=true:=by exact rfl)(hd:Nat.blt d D.C.n=true:=by exact rfl):RL D (⟨some d,.call ⟨.builtin .len,#[x],#[t]⟩,ty,pos,aft,g⟩::l) e w:=Vl ho hd (SF ht hx) h
theorem Ro {x y:Operand}{t t':TypeId}{a b:Int}(h0:(look e x,look e y)=(some (I a),some (I b)))(h:RL D l ((d,I (a-b))::e) w)(hb:JIq (a-b):=by omega)(ho:Sf D e g true=true:=by exact rfl)(hd:Nat.blt d D.C.n=true:=by exact rfl):RL D (⟨some d,.binOp .sub t x y t',ty,pos,aft,g⟩::l) e w:=Vl ho hd (XH (congrArg Prod.fst h0) (congrArg Prod.snd h0) hb) h
theorem OU {D:RC}{x:Operand}(hx:look e x=some v)(h:Pn D.C D.k ((d,v)::e) w)(ho:Sf D e g true=true:=by exact rfl)(hd:Nat.blt d D.C.n=true:=by exact rfl):RL D [⟨some d,.assign x,ty,pos,aft,g⟩] e w:=Vl ho hd (R7 hx) (OD h)
theorem P8 {x y:Operand}{d':Nat}{v':Value}{ty':TypeId}{pos':String}{aft':Array Edge}{g':Option (Nat×Bool)}(h0:(look e x,look ((d,v)::e) y)=(some v,some v'))(h:RL D l ((d',v')::(d,v)::e) w)(ho:Sf D e g true=true:=by exact rfl)(hd:Nat.blt d D.C.n=true:=by exact rfl)(ho':Sf D ((d,v)::e) g' true=true:=by exact rfl)(hd':Nat.blt d' D.C.n=true:=by exact rfl):RL D (⟨some d,.move x,ty,pos,aft,g⟩::⟨some d',.move y,ty',pos',aft',g'⟩::l) e w:=Vl ho hd (Xv (congrArg Prod.fst h0)) (Vl ho' hd' (Xv (congrArg Prod.snd h0)) h)
def z6Q:Value->Bool
  | .pointer (some _)=>true
  | .func (.func _) _ _=>true
  |_=>false
theorem Q4 {P:Program}{d:Option Nat}{x:Operand}(hx:look e x=some v)(hv:z6Q v=true:=by exact rfl):Y P e ⟨d,.nilCheck x,ty,pos,aft,g⟩ v w w:=by
  unfold z6Q at hv
  split at hv
  · exact ync hx
  · exact zlg hx
  · cases hv
theorem Pu {x:Operand}(hx:look e x=some v)(h:RL D l ((d,v)::e) w)(hv:z6Q v=true:=by exact rfl)(ho:Sf D e g true=true:=by exact rfl)(hd:Nat.blt d D.C.n=true:=by exact rfl):RL D (⟨some d,.nilCheck x,ty,pos,aft,g⟩::l) e w:=Vl ho hd (Q4 hx hv) h
end
section
variable {C:Cx}{k:List Item}{e e':Env}{w:World}{id:Nat}{ops:List Oper}{y:Code}
def qN {x:Code}(ho:S2 C.n ops=true)(h:RL ⟨C,ops,.code x::k,ho⟩ ops e w):Pn C (.code (.seq (.region id ops.toArray false) x)::k) e w:=It (OL ho h)
def Rq {α:Type}{c:Code}(x0:α)(E:α->Env)(I:α->World->Prop)(μ:α->Nat)(hI:I x0 w)(round:∀x w,I x w->(∀y w',I y w'->μ y<μ x->Pn C (.inLoop c::k) (E y) w')->Pn C (.code c:: .inLoop c::k) (E x) w)(hE:Sub (E x0) e:=by repeat (first|exact Sub.nil|refine Sub.cons O ?_)):Pn C (.code (.loop c)::k) e w:=zbm x0 E I μ hE hI round
def Pn.qb (h:Pn C k e w)(hs:Sub e e':=by repeat (first|exact Sub.nil|refine Sub.cons O ?_)):Pn C k e' w:=h.sub hs
end
section
variable {k:List Item}{e:Env}{w:World}{id:Nat}{ops:List Oper}{x:Code}
def qM {C:Cx}{ops0:List Oper}{h0:S2 C.n ops0=true}(ho:S2 C.n ops=true)(h:RL ⟨C,ops,.code x::k,ho⟩ ops e w):RL ⟨C,ops0,.code (.seq (.region id ops.toArray false) x)::k,h0⟩ [] e w:=OD (It (OL ho h))
end
section
variable {D:RC}{late:List Nat}{S:World->Prop}{e:Env}{w w':World}{d fuel:Nat}{op:Op}{ty:TypeId}{pos:String}{aft:Array Edge}{g:Option (Nat×Bool)}{listed:Array Bool}{v:Value}
def qT (i:Nat)(hi:D.ops[i]? =some ⟨some d,op,ty,pos,aft,g⟩)(hy:∀w,S w->Y D.C.P e ⟨some d,op,ty,pos,aft,g⟩ v w w)(hS:S w)(h:RH D S fuel (listed.setIfInBounds i true) ((d,v)::e) w)
    (hf:Sh D.ops listed i=true:=by kernel_rfl) (ho:Sf D e g true=true:=by exact rfl) (hd:Nat.blt d D.C.n=true:=by exact rfl):RH D S (fuel+1) listed e w:=zbl hi hf ho hd hy hS h
def OI (i:Nat)(hi:D.ops[i]? =some ⟨some d,op,ty,pos,aft,g⟩)(hy:∀{w},Y D.C.P e ⟨some d,op,ty,pos,aft,g⟩ v w w)(hS:S w)(h:RH D S fuel (listed.setIfInBounds i true) ((d,v)::e) w)
    (hf:Sh D.ops listed i=true:=by kernel_rfl) (ho:Sf D e g true=true:=by exact rfl) (hd:Nat.blt d D.C.n=true:=by exact rfl):RH D S (fuel+1) listed e w:=zbl hi hf ho hd (λ_ _=>hy) hS h
def TT {p:Prop}[hp:Decidable p](hr:RH D S fuel listed ((d,.bool true)::e) w)(h:p:=by first|rfl|assumption|omega|decide):RH D S fuel listed ((d,.bool (decide p))::e) w:=zim h hr
def Uc {p:Prop}[hp:Decidable p](hr:RH D S fuel listed ((d,.bool false)::e) w)(h:¬p:=by first|exact λh=>h O|assumption|omega):RH D S fuel listed ((d,.bool (decide p))::e) w:=zg4 h hr
theorem SM {late:List Nat}(rs:List Nat)(h:RH D (λ_=>True) fuel listed e w)(hr:RU D.ops listed rs=true:=by kernel_rfl)(hl:zef rs late=true:=by kernel_rfl):RHL D late S fuel listed e w:=zhq rs hr hl h
def OZ {x:Operand}(i:Nat)(hi:D.ops[i]? =some ⟨some d,.move x,ty,pos,aft,g⟩)(hx:look e x=some v)(hS:S w)(h:RH D S fuel (listed.setIfInBounds i true) ((d,v)::e) w)
    (hf:Sh D.ops listed i=true:=by kernel_rfl) (ho:Sf D e g true=true:=by exact rfl) (hd:Nat.blt d D.C.n=true:=by exact rfl):RH D S (fuel+1) listed e w:=zbl hi hf ho hd (λ_ _=>Xv hx) hS h
def qJ (i:Nat)(hi:D.ops[i]? =some ⟨some d,op,ty,pos,aft,g⟩)(hS:S w)(h:RH D S fuel (listed.setIfInBounds i true) ((d,undef)::e) w)
    (hf:Sh D.ops listed i=true:=by kernel_rfl) (ho:Sf D e g false=true:=by exact rfl) (hd:Nat.blt d D.C.n=true:=by exact rfl):RH D S (fuel+1) listed e w:=zgY hi hf ho hd hS h
def qO (i:Nat)(h:Nx D S fuel listed e w i)(hr:RU D.ops listed [i]=true:=by kernel_rfl):RH D S (fuel+1) listed e w:=zh6 hr h
def SK {f:FuncId}{vs:List Value}{T:Value->World->Prop}{ts:Array TypeId}{args:List Operand}(i:Nat)(hi:D.ops[i]? =some ⟨some d,.call ⟨.value (.func f),args.toArray,ts⟩,ty,pos,aft,g⟩)(hf:CF D.C.P f)(ha:looks e args=some vs)(hc:Pm D.C.P f vs w T)(h:∀v w',T v w'->S w'/\RH D S fuel (listed.setIfInBounds i true) ((d,v)::e) w')
    (hr:RU D.ops listed [i]=true:=by kernel_rfl) (ho:Sf D e g true=true:=by exact rfl) (hd:Nat.blt d D.C.n=true:=by exact rfl):RH D S (fuel+1) listed e w:=zh6 hr (Wa hi ho hd (yc hf ha) hc h)
theorem qE (h:Pn D.C D.k e w)(hr:RU D.ops listed []=true:=by kernel_rfl):RH D S fuel listed e w:=zkI hr h
def qL (i:Nat)(hi:D.ops[i]? =some ⟨some d,op,ty,pos,aft,g⟩)(hy:∀w,S w->Y D.C.P e ⟨some d,op,ty,pos,aft,g⟩ v w w)(hS:S w)(h:RHL D late S fuel (listed.setIfInBounds i true) ((d,v)::e) w)
    (hf:(Sh D.ops listed i&&waits D.ops listed late (wtr D.ops i) i)=true:=by kernel_rfl) (ho:Sf D e g true=true:=by exact rfl) (hd:Nat.blt d D.C.n=true:=by exact rfl):RHL D late S (fuel+1) listed e w:=z7c _ hi hf ho hd hy hS h
def P9 (i:Nat)(hi:D.ops[i]? =some ⟨some d,op,ty,pos,aft,g⟩)(hy:∀{w},Y D.C.P e ⟨some d,op,ty,pos,aft,g⟩ v w w)(hS:S w)(h:RHL D late S fuel (listed.setIfInBounds i true) ((d,v)::e) w)
    (hf:(Sh D.ops listed i&&waits D.ops listed late (wtr D.ops i) i)=true:=by kernel_rfl) (ho:Sf D e g true=true:=by exact rfl) (hd:Nat.blt d D.C.n=true:=by exact rfl):RHL D late S (fuel+1) listed e w:=z7c _ hi hf ho hd (λ_ _=>hy) hS h
def PL {x:Operand}(i:Nat)(hi:D.ops[i]? =some ⟨some d,.move x,ty,pos,aft,g⟩)(hx:look e x=some v)(hS:S w)(h:RHL D late S fuel (listed.setIfInBounds i true) ((d,v)::e) w)
    (hf:(Sh D.ops listed i&&waits D.ops listed late (wtr D.ops i) i)=true:=by kernel_rfl) (ho:Sf D e g true=true:=by exact rfl) (hd:Nat.blt d D.C.n=true:=by exact rfl):RHL D late S (fuel+1) listed e w:=z7c _ hi hf ho hd (λ_ _=>Xv hx) hS h
end
section
variable {C:Cx}{k:List Item}{e:Env}{w:World}{id:Nat}{ops ops0 l:List Oper}{y y2:Code}{d d':Nat}{op op':Op}{ty ty':TypeId}{pos pos':String}{aft aft':Array Edge}{g g':Option (Nat×Bool)}{v v':Value}{x x':Operand}
theorem Pf (h0:(S2 C.n (⟨some d,.move x,ty,pos,aft,g⟩::l),look e x)=(true,some v))(h:RL ⟨C,⟨some d,.move x,ty,pos,aft,g⟩::l,.code y::k,congrArg Prod.fst h0⟩ l ((d,v)::e) w)(ho:Sf ⟨C,⟨some d,.move x,ty,pos,aft,g⟩::l,.code y::k,congrArg Prod.fst h0⟩ e g true=true:=by exact rfl)(hd:Nat.blt d C.n=true:=by exact rfl):Pn C (.code (.seq (.region id (⟨some d,.move x,ty,pos,aft,g⟩::l).toArray false) y)::k) e w:=qN (congrArg Prod.fst h0) (OK (congrArg Prod.snd h0) h ho hd)
theorem Qw {h1:S2 C.n ops0=true}(h0:(look e x,S2 C.n ops)=(some v,true))(h:RL ⟨C,ops,.code y::k,congrArg Prod.snd h0⟩ ops ((d,v)::e) w)(ho:Sf ⟨C,ops0,.code (.seq (.region id ops.toArray false) y)::k,h1⟩ e g true=true:=by exact rfl)(hd:Nat.blt d C.n=true:=by exact rfl):RL ⟨C,ops0,.code (.seq (.region id ops.toArray false) y)::k,h1⟩ [⟨some d,.assign x,ty,pos,aft,g⟩] e w:=RT (congrArg Prod.fst h0) (qM (congrArg Prod.snd h0) h) ho hd
theorem Qm (h0:((S2 C.n (⟨some d,.move x,ty,pos,aft,g⟩::⟨some d',.move x',ty',pos',aft',g'⟩::l),look e x),look ((d,v)::e) x')=((true,some v),some v'))(h:RL ⟨C,⟨some d,.move x,ty,pos,aft,g⟩::⟨some d',.move x',ty',pos',aft',g'⟩::l,.code y::k,congrArg (λz=>z.1.1) h0⟩ l ((d',v')::(d,v)::e) w)(ho:Sf ⟨C,⟨some d,.move x,ty,pos,aft,g⟩::⟨some d',.move x',ty',pos',aft',g'⟩::l,.code y::k,congrArg (λz=>z.1.1) h0⟩ e g true=true:=by exact rfl)(hd:Nat.blt d C.n=true:=by exact rfl)(ho':Sf ⟨C,⟨some d,.move x,ty,pos,aft,g⟩::⟨some d',.move x',ty',pos',aft',g'⟩::l,.code y::k,congrArg (λz=>z.1.1) h0⟩ ((d,v)::e) g' true=true:=by exact rfl)(hd':Nat.blt d' C.n=true:=by exact rfl):Pn C (.code (.seq (.region id (⟨some d,.move x,ty,pos,aft,g⟩::⟨some d',.move x',ty',pos',aft',g'⟩::l).toArray false) y)::k) e w:=qN (congrArg (λz=>z.1.1) h0) (OK (congrArg (λz=>z.1.2) h0) (OK (congrArg Prod.snd h0) h ho' hd') ho hd)
theorem PU {D:RC}(h0:(look e x,look ((d,v)::e) x')=(some v,some v'))(h:Pn D.C D.k ((d',v')::(d,v)::e) w)(ho:Sf D e g true=true:=by exact rfl)(hd:Nat.blt d D.C.n=true:=by exact rfl)(ho':Sf D ((d,v)::e) g' true=true:=by exact rfl)(hd':Nat.blt d' D.C.n=true:=by exact rfl):RL D [⟨some d,.assign x,ty,pos,aft,g⟩,⟨some d',.assign x',ty',pos',aft',g'⟩] e w:=RT (congrArg Prod.fst h0) (OU (congrArg Prod.snd h0) h ho' hd') ho hd
theorem RA {D:RC}{vs vs':Array Value}{i i':Nat}(h0:((look e x,vs[i]?),(look ((d,v)::e) x',vs'[i']?))=((some (.tuple vs),some v),(some (.tuple vs'),some v')))(h:RL D l ((d',v')::(d,v)::e) w)(ho:Sf D e g true=true:=by exact rfl)(hd:Nat.blt d D.C.n=true:=by exact rfl)(ho':Sf D ((d,v)::e) g' true=true:=by exact rfl)(hd':Nat.blt d' D.C.n=true:=by exact rfl):RL D (⟨some d,.extract x i,ty,pos,aft,g⟩::⟨some d',.extract x' i',ty',pos',aft',g'⟩::l) e w:=zex (congrArg Prod.fst h0) (zex (congrArg Prod.snd h0) h ho' hd') ho hd
theorem PG (h0:(S2 C.n (⟨some d,.move x,ty,pos,aft,g⟩::l),look e x)=(true,some v))(h:RL ⟨C,⟨some d,.move x,ty,pos,aft,g⟩::l,.code y:: .code y2::k,congrArg Prod.fst h0⟩ l ((d,v)::e) w)(ho:Sf ⟨C,⟨some d,.move x,ty,pos,aft,g⟩::l,.code y:: .code y2::k,congrArg Prod.fst h0⟩ e g true=true:=by exact rfl)(hd:Nat.blt d C.n=true:=by exact rfl):Pn C (.code (.seq (.seq (.region id (⟨some d,.move x,ty,pos,aft,g⟩::l).toArray false) y) y2)::k) e w:=It (Pf h0 h ho hd)
theorem QG {D:RC}(h:RL D l ((d',undef)::(d,undef)::e) w)(ho:Sf D e g false=true:=by exact rfl)(hd:Nat.blt d D.C.n=true:=by exact rfl)(ho':Sf D ((d,undef)::e) g' false=true:=by exact rfl)(hd':Nat.blt d' D.C.n=true:=by exact rfl):RL D (⟨some d,op,ty,pos,aft,g⟩::⟨some d',op',ty',pos',aft',g'⟩::l) e w:=qS (qS h ho' hd') ho hd
def Tu {c:Operand}(hc:look e c=some (.bool false))(h:Pn C k e w):Pn C (.code (.cond c y .skip)::k) e w:=OJ hc (OE h)
theorem QB (h0:(S2 C.n [⟨some d,.assign x,ty,pos,aft,g⟩],look e x)=(true,some v))(h:Pn C (.code y::k) ((d,v)::e) w)(ho:Sf ⟨C,[⟨some d,.assign x,ty,pos,aft,g⟩],.code y::k,congrArg Prod.fst h0⟩ e g true=true:=by exact rfl)(hd:Nat.blt d C.n=true:=by exact rfl):Pn C (.code (.seq (.region id ([⟨some d,.assign x,ty,pos,aft,g⟩]:List Oper).toArray false) y)::k) e w:=qN (congrArg Prod.fst h0) (OU (congrArg Prod.snd h0) h ho hd)
theorem Qt {h1:S2 C.n ops0=true}(h0:((look e x',S2 C.n (⟨some d,.move x,ty,pos,aft,g⟩::l)),look ((d',v')::e) x)=((some v',true),some v))(h:RL ⟨C,⟨some d,.move x,ty,pos,aft,g⟩::l,.code y::k,congrArg (λz=>z.1.2) h0⟩ l ((d,v)::(d',v')::e) w)(ho:Sf ⟨C,ops0,.code (.seq (.region id (⟨some d,.move x,ty,pos,aft,g⟩::l).toArray false) y)::k,h1⟩ e g' true=true:=by exact rfl)(hd:Nat.blt d' C.n=true:=by exact rfl)(ho':Sf ⟨C,⟨some d,.move x,ty,pos,aft,g⟩::l,.code y::k,congrArg (λz=>z.1.2) h0⟩ ((d',v')::e) g true=true:=by exact rfl)(hd':Nat.blt d C.n=true:=by exact rfl):RL ⟨C,ops0,.code (.seq (.region id (⟨some d,.move x,ty,pos,aft,g⟩::l).toArray false) y)::k,h1⟩ [⟨some d',.assign x',ty',pos',aft',g'⟩] e w:=Qw (congrArg Prod.fst h0) (OK (congrArg Prod.snd h0) h ho' hd') ho hd
def PW {h1:S2 C.n ops0=true}{c:Operand}(hc:look e c=some (.bool false))(h:Pn C k e w):RL ⟨C,ops0,.code (.cond c y .skip)::k,h1⟩ [] e w:=OD (Tu hc h)
theorem Rh (h0:(S2 C.n (⟨some d,.move x,ty,pos,aft,g⟩::l),look e x)=(true,some v))(h:RL ⟨C,⟨some d,.move x,ty,pos,aft,g⟩::l,k,congrArg Prod.fst h0⟩ l ((d,v)::e) w)(ho:Sf ⟨C,⟨some d,.move x,ty,pos,aft,g⟩::l,k,congrArg Prod.fst h0⟩ e g true=true:=by exact rfl)(hd:Nat.blt d C.n=true:=by exact rfl):Pn C (.code (.region id (⟨some d,.move x,ty,pos,aft,g⟩::l).toArray false)::k) e w:=OL (congrArg Prod.fst h0) (OK (congrArg Prod.snd h0) h ho hd)
def Qx (h:Pn C (.code y:: .inBlock id:: .code y2::k) e w):Pn C (.code (.seq (.block id y) y2)::k) e w:=It (OH h)
end
def R5 {C:Cx}{id:Nat}{ops:List Oper}{k:List Item}{e:Env}{w:World}(S:World->Prop)(ho:S2 C.n ops=true)(h:RH ⟨C,ops,k,ho⟩ S ops.length (Array.replicate ops.length false) e w.drew)(hm:C.P.follows .mixedOrders=true:=by kernel_rfl)(hc:calm ops=true:=by rfl):Pn C (.code (.region id ops.toArray true)::k) e w:=z55 S hm ho h hc
def QU {α:Type}{a b:α}(h:some a=some b):a=b:=Option.some.inj h
def U2:=underlying2
def U3:=underlying3
def U4:=underlying4
def U5:=underlying5
def U9:=underlying9
def U22:=underlying22
def Rr:=underlying23
def U25:=underlying25
def WR:=underlying26
def U28:=underlying28
def XF:=underlying29
def U30:=underlying30
def U32:=underlying32
def U35:=underlying35
def U36:=underlying36
def RB:=underlying43
def Ps:=underlying49
def U51:=underlying51
def U56:=underlying56
def U60:=underlying60
def U70:=underlying70
def U86:=underlying86
def U94:=underlying94
def U98:=underlying98
def Q5:=underlying105
def Py:=underlying106
def zdU:=underlying110
def zci:=underlying111
def YF:=underlying112
def Xu:=underlying119
def zl6:=underlying125
def z97:=underlying128
def zl9:=underlying130
def z0Y:=underlying133
def VR:=underlying136
def z36:=underlying145
def zdz:=underlying148
def ze1:=underlying153
def za9:=underlying155
def z6v:=underlying160
def z6B:=underlying162
def z3y:=underlying163
def zfQ:=underlying167
def zbH:=underlying172
def Xy:=underlying188
def zd8:=underlying198
def zhh:=underlying214
def zlq:=underlying220
def Wk:=underlying221
def z3Y:=underlying227
def zlC:=underlying229
def zg3:=underlying230
def z5x:=underlying234
def zfX:=underlying236
def zlp:=underlying247
def z98:=underlying258
def SI:=underlying264
def Y6:=underlying271
def zjM:=underlying272
def Zd:=underlying279
def Vj:=underlying291
def zkT:=underlying299
def zfY:=underlying300
def z1z:=underlying314
def St:=underlying317
def zi8:=underlying319
def zhy:=underlying330
def z5K:=underlying332
def zh3:=underlying337
def zbW:=underlying346
def zkQ:=underlying350
def zaM:=underlying353
def z1n:=underlying354
def z5z:=underlying392
def UQ (w:World)(g:Nat)(cs:List Value)(T:TypeId):Prop:=w.heap[g]? =some (.cells cs.toArray T (0,0))
theorem UQ.OC {w:World}{g:Nat}{cs:List Value}{T:TypeId}(h:UQ w g cs T):OR w g cs T:=⟨(0,0),h,λi _ h=>by omega⟩
theorem UQ.set {w:World}{g:Nat}{cs:List Value}{T:TypeId}(h:UQ w g cs T)(i:Nat)(v:Value):UQ (w.setCell ⟨g,i,none⟩ v) g (cs.set i v) T:=by
 unfold UQ at h⊢
 simp[World.setCell,Array.getElem?_modify,h]
def UQ.ext {w w':World}{g:Nat}{cs:List Value}{T:TypeId}(h:UQ w g cs T)(k:Ext w w'):UQ w' g cs T:=k.heap h id
def Sl.row {w:World}{g n cap:Nat}{e:TypeId}{size:Nat}{cs:List Value}(h:Sl w (.slice (some ⟨g,0,none⟩) n cap) e size n cs):∃cur,UQ w g cur e/\n<=cap/\cap<=maxLen/\cur.length=cap*size/\cur.take (n*size)=cs:=by
 rcases h.2 with⟨hz,-⟩|⟨g1,cap1,cur,hv,-,hg,hn,hm,hs,ht⟩
 ·cases hz
 ·cases hv;exact⟨cur.toList,by unfold UQ;simpa using hg,hn,hm,by simpa using hs,ht⟩
def UQ.sl {w:World}{g n cap:Nat}{e:TypeId}{size:Nat}{cur:List Value}(h:UQ w g cur e)(hn:n<=cap)(hm:cap<=maxLen)(hs:cur.length=cap*size):Sl w (.slice (some ⟨g,0,none⟩) n cap) e size n (cur.take (n*size)):=
 ⟨by rw[List.length_take,hs];exact Nat.min_eq_left (Nat.mul_le_mul_right _ hn),.inr ⟨g,cap,cur.toArray,rfl,Nat.zero_le _,h,hn,hm,by simpa using hs,by simp⟩⟩
theorem UQ.cell {w:World}{g i:Nat}{cur:List Value}{e:TypeId}(h:UQ w g cur e):w.cell? ⟨g,i,none⟩=cur[i]? :=h.OC.cell i
theorem UQ.rd {w:World}{g i n c:Nat}{e:TypeId}{cur:List Value}(h:UQ w g cur e)(hl:i+n<=cur.length):Rd w (.slice (some ⟨g,i,none⟩) n c) 1 n ((cur.drop i).take n):=by
 refine⟨by simp;omega,.inr ⟨g,i,c,rfl,λj u hj=>?_⟩⟩
 rw[h.cell]
 rw[List.getElem?_take] at hj
 split at hj
 ·rwa [List.getElem?_drop] at hj
 ·cases hj
def Vp {w:World}{a:Option Addr}{c:Nat}:Rd w (.slice a 0 c) 1 0 []:=⟨rfl,.inl ⟨(a,c),rfl,rfl⟩⟩
def Rd.kpz {S:Nat->Prop}{w w':World}{v:Value}{size n:Nat}{cs:List Value}(h:Rd w v size n cs)(k:Kp S w w')(hn:0<n->∀g,v.ownBlock=some g->¬S g):Rd w' v size n cs:=by
 rcases Nat.eq_zero_or_pos n with h0|h0
 ·subst h0;refine⟨h.1,?_⟩;have hl:cs=[]:=List.eq_nil_of_length_eq_zero (by have:=h.1;omega);rcases h.2 with h2|⟨b,off,cap,e,-⟩
  ·exact .inl h2
  ·exact .inr ⟨b,off,cap,e,λj u hj=>by rw[hl] at hj;simp at hj⟩
 ·exact h.kp k (hn h0)
def Rd.ltz {w:World}{v:Value}{size n g:Nat}{cs:List Value}(h:Rd w v size n cs)(hs:0<size)(hn:0<n)(hg:v.ownBlock=some g):g<w.heap.size:=by
 rcases h.2 with⟨c,-,h2⟩|⟨b,off,cap,e,hc⟩
 ·omega
 ·rw[e] at hg;have e2:b=g:=QU hg;subst e2;have hl:0<cs.length:=by rw[h.1];exact Nat.mul_pos hn hs
  exact World.block_lt_of_cell? w _ (hc 0 cs[0] (List.getElem?_eq_getElem hl))
theorem z6w (cs:List Value)(i:Nat):QR cs i []=cs:=by simp[QR]
theorem z2c (cs vs:List Value)(i:Nat)(h:i+vs.length<=cs.length):(QR cs i vs).length=cs.length:=by simp[QR];omega
theorem z1L (cs vs:List Value)(i j:Nat)(h:i+vs.length<=cs.length):(QR cs i vs)[j]? =if i<=j/\j<i+vs.length then vs[j-i]? else cs[j]? :=by
 unfold QR
 rw[List.append_assoc]
 by_cases h1:j<i
 ·rw[List.getElem?_append_left (by simp;omega),List.getElem?_take,if_pos h1,if_neg (by omega)]
 ·rw[List.getElem?_append_right (by simp;omega)];have e:(cs.take i).length=i:=by simp;omega
  rw[e];by_cases h2:j<i+vs.length
  ·rw[List.getElem?_append_left (by omega),if_pos ⟨by omega,h2⟩]
  ·rw[List.getElem?_append_right (by omega),List.getElem?_drop,if_neg (by omega)]
   congr 1;omega
def Uy {P:Program}{b:Nat}{T:TypeId}(o:Nat):∀(vs:List Value) (i:Nat) (cs:List Value) (w:World),UQ w b cs T->o+i+vs.length<=cs.length->(∀v∈vs,v.oneCell'=true)->
  ∃w',(storeCells ⟨b,o,none⟩ vs i).run P w= .ok () w'/\UQ w' b (QR cs (o+i) vs) T/\Kp (λk=>k=b) w w'
 |[],i,cs,w,hB,_,_=>⟨w,rfl,by simpa[QR] using hB,Kp.refl _ _⟩
 | v :: r, i, cs, w, hB, hl, h1 => by
   simp only[List.length_cons] at hl;have aZ:o+i<cs.length:=by omega
   have hc:w.cell? ⟨b,o+i,none⟩=some cs[o+i]:=by rw[hB.cell];simp[aZ]
   have hf:=hB.OC.free aZ;obtain⟨w',hr,BO,hk⟩:=Uy (P:=P) o r (i+1) (cs.set (o+i) v) _ (hB.set (o+i) v) (by simp;omega) (λu hu=>h1 u (List.mem_cons_of_mem _ hu));refine⟨w',?_,?_,(TC w b (o+i) v).trans hk⟩
   ·simp only[storeCells,Sem.run_bind,R8,run_store P w _ v _ (h1 v (List.mem_cons_self ..)),hc,hf]
    simpa using hr
   ·have he:QR (cs.set (o+i) v) (o+(i+1)) r=QR cs (o+i) (v::r):=by
     apply List.ext_getElem?;intro j;rw[z1L _ _ _ _ (by simp;omega),z1L _ _ _ _ (by simp;omega)];simp only[List.length_cons];by_cases h2:o+i=j
     ·subst h2;rw[if_neg (by omega),if_pos (by omega)];simp[aZ]
     ·by_cases h3:o+i<j/\j<o+i+1+r.length
      ·rw[if_pos (by omega),if_pos (by omega),show j-(o+i)=(j-(o+(i+1)))+1 by omega];simp
      ·rw[if_neg (by omega),if_neg (by omega),List.getElem?_set_ne h2]
    rw[<-he];exact BO
section
variable {P:Program}{e:Env}{d:Option Nat}{ty t el:TypeId}{pos:String}{aft:Array Edge}{g:Option (Nat×Bool)}{x y u u2:Operand}{w:World}
def XR {z:Value}{size bytes n cap i:Nat}{a:Option Addr}{k:IntKind}{za:Int}[si:SS za i](ht:P.underlying t=some (.slice el))(hs:TI P el z size bytes)(hx:look e x=some (.slice a n cap))
  (hy:look e y=some (.int k za)) (h:i<=n) (hc:n<=cap):
  Y P e ⟨d,.slice t x (some y) none none,ty,pos,aft,g⟩ (.slice (if cap=i then a else a.map (·.add (i*size))) (n-i) (cap-i)) w w:=fun ρ hρ=>by
 obtain⟨rfl⟩:=si
 have cG:=hs.size (w:=w)
 have h2:∀w,(Instr.sliceBound (.int k (i:Int)) n .sliceB).run P w= .ok i w:=λw=>by rw[run_sliceBound _ _ _ _ _ (by omega) (by omega)];simp
 simp[execOp,hρ _ _ hx,hρ _ _ hy,Instr.sliceAt,run_underlying ht,Instr.slice,Instr.sliceBounds,h2,cG]
def zkd {z:Value}{size bytes n cap i j m:Nat}{a:Option Addr}{k k' k2:IntKind}{za zb zc:Int}[si:SS za i][wc:SS zb j][aY:SS zc m](ht:P.underlying t=some (.slice el))(hs:TI P el z size bytes)(hx:look e x=some (.slice a n cap))
  (hy:look e y=some (.int k za)) (hu:look e u=some (.int k' zb)) (my:look e u2=some (.int k2 zc)) (h:i<=j/\j<=m/\m<=cap):
  Y P e ⟨d,.slice t x (some y) (some u) (some u2),ty,pos,aft,g⟩ (.slice (if m=i then a else a.map (·.add (i*size))) (j-i) (m-i)) w w:=fun ρ hρ=>by
 obtain⟨rfl⟩:=si
 obtain⟨rfl⟩:=wc
 obtain⟨rfl⟩:=aY
 have cG:=hs.size (w:=w)
 have h0:∀w,(Instr.sliceBound (.int k2 (m:Int)) cap .slice3Acap).run P w= .ok m w:=λw=>by rw[run_sliceBound _ _ _ _ _ (by omega) (by omega)];simp
 have h1:∀w,(Instr.sliceBound (.int k' (j:Int)) m .slice3B).run P w= .ok j w:=λw=>by rw[run_sliceBound _ _ _ _ _ (by omega) (by omega)];simp
 have h2:∀w,(Instr.sliceBound (.int k (i:Int)) j .slice3C).run P w= .ok i w:=λw=>by rw[run_sliceBound _ _ _ _ _ (by omega) (by omega)];simp
 simp[execOp,hρ _ _ hx,hρ _ _ hy,hρ _ _ hu,hρ _ _ my,Instr.sliceAt,run_underlying ht,Instr.slice,Instr.sliceBounds,h0,h1,h2,cG]
theorem XD (z:Value)(n:Nat)(h:oneV z=true):(Builtin.zeroCells z.cells n).toList=List.replicate n z:=by
 rw[VV h]
 apply List.ext_getElem
 ·simp[Builtin.zeroCells]
 ·intro i h1 h2;simp[Builtin.zeroCells,Nat.mod_one]
def zkt {z:Value}{bytes b i n cap:Nat}{T:TypeId}{cs:List Value}(ht:P.underlying t=some (.slice el))(hs:TI P el z 1 bytes)(hz:oneV z=true)(hx:look e x=some (.slice (some ⟨b,i,none⟩) n cap))
  (hB:UQ w b cs T) (hi:i+n<=cs.length):
  Yp P e ⟨d,.call ⟨.builtin .clear,#[x],#[t]⟩,ty,pos,aft,g⟩ w λv w'=>UQ w' b (QR cs i (List.replicate n z)) T/\Kp (λk=>k=b) w w':=by
 obtain⟨w',hr,BO,hk⟩:=Uy (P:=P) i (List.replicate n z) 0 cs w hB (by simp;omega) (λu hu=>by rw[(List.mem_replicate.1 hu).2];exact Yl hz)
 rcases Nat.eq_zero_or_pos n with h0|h0
 ·subst h0;refine⟨.tuple #[],w,fun ρ hρ=>?_,by simpa[z6w] using hB,Kp.refl _ _⟩;simp[execOp,resolve,invoke,builtin,hρ _ _ hx,Builtin.clear_,run_underlying ht,go_sem]
 ·refine⟨.tuple #[],w',fun ρ hρ=>?_,by simpa using BO,hk⟩;have Ji:=hs.zero (w:=w);obtain⟨k,rfl⟩:∃k,n=k+1:=⟨n-1,by omega⟩
  have hc:(Builtin.clear_ #[t] ty #[.slice (some ⟨b,i,none⟩) (k+1) cap]).run P w= .ok (.tuple #[]) w':=by
   unfold Builtin.clear_;simp only[List.getElem?_toArray,List.getElem?_cons_zero,pure_bind,Sem.run_bind,run_underlying ht,Result.andThen,Ji,XD z _ hz,hr,Sem.run_pure]
  simp[execOp,resolve,invoke,builtin,hρ _ _ hx,hc]
def zlm {z u:Value}{size bytes gb n cap m:Nat}{cs news:List Value}(ht:P.underlying t=some (.slice el))(hs:TI P el z size bytes)(cG:0<size)
  (hx:look e x=some (.slice (some ⟨gb,0,none⟩) n cap)) (hy:look e y=some u) (hv:Sl w (.slice (some ⟨gb,0,none⟩) n cap) el size n cs) (hu:Rd w u size m news) (h1:∀c∈news,c.oneCell'=true) (hr:n+m<=cap):
  Yp P e ⟨d,.call ⟨.builtin .append,#[x,y],#[t,t]⟩,ty,pos,aft,g⟩ w λv' w'=>v'= .slice (some ⟨gb,0,none⟩) (n+m) cap/\Sl w' v' el size (n+m) (cs++news)/\Kp (λk=>k=gb) w w':=by
 obtain⟨i,hi,p5,jL,qQ⟩:=hs
 subst jL
 rcases hu.2 with⟨⟨ca,c⟩,rfl,rfl⟩|⟨b,off,cap2,rfl,sj⟩
 ·have eZ:news=[]:=List.eq_nil_of_length_eq_zero (by simpa using hu.1);subst eZ
  have hr:(Builtin.append_ #[t,t] ty #[.slice (some ⟨gb,0,none⟩) n cap,.slice ca 0 c]).run P w= .ok (.slice (some ⟨gb,0,none⟩) n cap) w:=by
   have jy:n<=cap:=by omega
   cases ca
   ·simp[Builtin.append_,run_underlying ht,sizeOf,typeInfo,hi,Builtin.lenOf,Builtin.firstCells,jy,storeCells]
   ·simp[Builtin.append_,run_underlying ht,sizeOf,typeInfo,hi,Builtin.lenOf,Builtin.firstCells,jy,storeCells,loadCells,loadCellsFrom]
  refine⟨_,w,fun ρ hρ=>?_,rfl,by simpa using hv,Kp.refl _ _⟩;simp[execOp,resolve,invoke,builtin,hρ _ _ hx,hρ _ _ hy,hr]
 ·have wg:∀j u,news[j]? =some u->w.cell? ((⟨b,off,none⟩:Addr).add j)=some u:=λj u hu=>by rw[R8];exact sj j u hu
  obtain⟨w',Jj,AS,cP⟩:=run_append_fits (P:=P) w 0 t ty el i i.size ht hi O gb n cap cs hv ⟨b,off,none⟩ m cap2 news hu.1 wg h1 hr;refine⟨_,w',fun ρ hρ=>?_,rfl,AS,(Kp.Uu cP).OV λk hk=>(QU hk).symm⟩;simp[execOp,resolve,invoke,builtin,hρ _ _ hx,hρ _ _ hy,Jj]
end
abbrev OG:=List UInt8
abbrev lt (a b:OG):Bool:=Op.bytesLess a b
section
end
def pos (l:List OG)(t:OG):Nat:=(l.takeWhile (λk=>lt k t)).length
theorem z1O (cs vs:List Value)(i m:Nat)(h:m<=i)(hl:i<=cs.length):(QR cs i vs).take m=cs.take m:=by
 unfold QR
 rw[List.append_assoc,List.take_append_of_le_length (by simp;omega),List.take_take,Nat.min_eq_left h]
def zc3 {w:World}{sv:Value}{cs:List Value}{i n:Nat}(hS:Sl w sv 3 1 n cs)(fW:∀c∈cs,c.oneCell'=true)(hi:i<n)(hn:n<=8589934592):
  Pm prog 219 [sv,I (i:Int),I ((i:Int)+1)] w λv w'=>Sl w' v 3 1 (n-1) (cs.take i++cs.drop (i+1))/\Kp (λk=>sv.ownBlock=some k) w w'/\(∀g,v.ownBlock=some g->sv.ownBlock=some g):=by
 have eu:maxLen=9223372036854775807:=rfl
 have az:=hS.len
 rw[Nat.mul_one] at az
 obtain⟨g,cap,rfl,jy⟩:∃g cap,sv= .slice (some ⟨g,0,none⟩) n cap/\n<=cap:=by
  rcases hS.shape with⟨e,h0⟩|⟨g,cap,e,h⟩
  ·omega
  ·exact⟨g,cap,e,h⟩
 obtain⟨cur,gT,-,lJ,cN,BP⟩:=hS.row
 rw[Nat.mul_one] at cN BP
 rw[show(i:Int)+1=((i+1:Nat):Int) by omega]
 refine py (e:=[(0,_),(1,_),(2,_)]) func219 O ntmps219 O O$ qN O$ Qw O$ P8 O$ P8 O$ Rv RB O$ qV (zkd RB Q7 O O O O ⟨by omega,by omega,jy⟩) ?_
 refine OD$ It$ Qm O$ Ri O$ PF$ PW O$ Pf O$ Rv RB O$ OU O$ It$ R5 (λw'=>Kp (λk=>k=g) w w') O ?_
 have h0:=Ext.OT w
 refine OZ 0 O O ((Ext.OT w).kp)$ OZ 1 O O ((Ext.OT w).kp)$ OZ 3 O O ((Ext.OT w).kp)$ OZ 4 O O ((Ext.OT w).kp)$ OI 2 O (zc0 RB Q7 O O (by omega)) ((Ext.OT w).kp)$ OI 5 O (XR RB Q7 O O (by omega) jy) ((Ext.OT w).kp) ?_
 have cH:Sl w (.slice (some ⟨g,0,none⟩) i cap) 3 1 i (cs.take i):=by
  have:=gT.sl (n:=i) (by omega) lJ (by rw[Nat.mul_one];exact cN);rw[Nat.mul_one,show cur.take i=cs.take i by rw[<-BP,List.take_take,Nat.min_eq_left (by omega)]] at this;exact this
 have BQ:(cur.drop (i+1)).take (n-(i+1))=cs.drop (i+1):=by
  rw[<-BP,List.drop_take]
 have hR:Rd w.drew (.slice (if cap=i+1 then some ⟨g,0,none⟩ else(some (⟨g,0,none⟩:Addr)).map (·.add ((i+1)*1))) (n-(i+1)) (cap-(i+1))) 1 (n-(i+1)) (cs.drop (i+1)):=by
  by_cases hc:cap=i+1
  ·rw[if_pos hc,show n-(i+1)=0 by omega,List.drop_eq_nil_of_le (by omega)];exact Vp
  ·rw[if_neg hc,Option.map_some,R8,Nat.zero_add,Nat.mul_one,<-BQ];exact(gT.ext h0).rd (by omega)
 refine qO 6$ RZ (i:=6) O O O (zlm RB Q7 (by decide) O O (cH.ext h0) hR (λc hc=>fW c (List.mem_of_mem_drop hc)) (by omega)) ?_
 rintro _ w1 ⟨rfl,cy,av⟩
 refine⟨h0.kp.trans av,?_⟩
 have e1:i+(n-(i+1))=n-1:=by omega
 rw[e1] at cy⊢
 obtain⟨cur3,wh,Jk,Jl,wj,wk⟩:=cy.row
 rw[Nat.mul_one] at wj wk
 refine OI 7 O (R7 O) (h0.kp.trans av)$ qE$ Qm O$ Rv RB O$ OK O$ qV (zgB RB Q7 O O O (by omega) (by omega))$ zcG O (zkt RB Q7 O O wh (by omega)) ?_
 rintro _ w2 ⟨wm,ao⟩
 refine OD$ Pn.qb (e:=[(0,_),(6,_)]) ?_
 refine Pf O$ OU O$ OB func219 O ?_
 have jM:=wm.sl (n:=n-1) (cap:=cap) (by omega) lJ (by rw[z2c _ _ _ (by simp;omega),wj,Nat.mul_one])
 rw[Nat.mul_one,z1O _ _ _ _ (by omega) (by omega),wk] at jM
 exact⟨_,rfl,jM,((h0.kp.trans av).trans ao).OV (λk hk=>by subst hk;rfl),λg' cP=>cP⟩
open Go.ChangeMaps (setBlock)
def SL {κ:Type}(K:κ->Value)(w:World)(m:Nat)(kv:List (κ×Value)):Prop:=(∃es clock,w.heap[m]? =some (.map es clock)/\Un K es.toList kv/\(∀e∈es.toList,e.born<clock)/\(es.toList.map (·.born)).Nodup)/\(kv.map (·.1)).Nodup
section
variable {κ:Type}[DecidableEq κ]{K:κ->Value}
theorem SL.l {w:World}{m:Nat}{kv:List (κ×Value)}(h:SL K w m kv):Xz K w m kv:=by
 obtain⟨⟨es,c,h1,h2,-,-⟩,h3⟩:=h
 exact⟨⟨es,c,h1,h2⟩,h3⟩
def SL.lt {w:World}{m:Nat}{kv:List (κ×Value)}(h:SL K w m kv):m<w.heap.size:=h.l.lt
theorem SL.nd {w:World}{m:Nat}{kv:List (κ×Value)}(h:SL K w m kv):(kv.map (·.1)).Nodup:=h.2
def SL.kp {S:Nat->Prop}{w w':World}{m:Nat}{kv:List (κ×Value)}(h:SL K w m kv)(k:Kp S w w')(hn:¬S m):SL K w' m kv:=by
 obtain⟨⟨es,c,h,he⟩,hd⟩:=h
 exact⟨⟨es,c,k.heap h hn,he⟩,hd⟩
def SL.ext {w w':World}{m:Nat}{kv:List (κ×Value)}(h:SL K w m kv)(k:Ext w w'):SL K w' m kv:=h.kp k id
def SL.new {w:World}{m:Nat}(h:w.heap[m]? =some (.map #[] 0)):SL K w m []:=⟨⟨#[],0,h,rfl,by simp,by simp⟩,by simp⟩
def delL:List (κ×Value)->κ->List (κ×Value)
 |[],_=>[]
 |(a,v)::r,k=>if k=a then r else(a,v)::delL r k
def z4i:∀(kv:List (κ×Value)) (k:κ),(delL kv k).Sublist kv
 |[],_=> .slnil
 | (a, v) :: r, k => by
   simp only[delL];split
   ·exact List.sublist_cons_self _ _
   ·exact(z4i r k).cons_cons _
theorem z2Z {kv:List (κ×Value)}{k:κ}(h:k∉kv.map (·.1)):Rg kv k=none:=by
 induction kv with
 |nil=>rfl
 | cons p r ih =>
   obtain⟨a,u⟩:=p;simp only[List.map_cons,List.mem_cons,not_or] at h;simp only[Rg,h.1,if_false];exact ih h.2
def zjr {kv:List (κ×Value)}(hn:(kv.map (·.1)).Nodup)(k x:κ):Rg (delL kv k) x=if x=k then none else Rg kv x:=by
 induction kv with
 |nil=>simp[delL,Rg]
 | cons p r ih =>
   obtain⟨a,u⟩:=p;simp only[List.map_cons,List.nodup_cons] at hn;simp only[delL];by_cases h:k=a
   ·subst h;simp only[if_true,Rg];by_cases hx:x=k
    ·subst hx;simp[z2Z hn.1]
    ·simp[hx]
   ·simp only[h,if_false,Rg,ih hn.2];by_cases hx:x=a
    ·subst hx;simp[Ne.symm h]
    ·simp[hx]
def z4F {kv:List (κ×Value)}(hn:(kv.map (·.1)).Nodup){k:κ}{v:Value}(h:(k,v)∈kv):Rg kv k=some v:=by
 induction kv with
 |nil=>cases h
 | cons p r ih =>
   obtain⟨a,u⟩:=p;simp only[List.map_cons,List.nodup_cons] at hn;rcases List.mem_cons.1 h with e| h
   ·cases e;simp[Rg]
   ·have:k≠a:=λe=>hn.1 (List.mem_map.2 ⟨(k,v),h,e⟩);simp only[Rg,this,if_false];exact ih hn.2 h
def z04 {td:TypeDesc}(hs:∀a b,Instr.sameNow td (K a) (K b)=some (decide (a=b))):∀{es:List MapEntry} {kv:List (κ×Value)} (i:Nat) {k:κ} {v:Value},Un K es kv->Rg kv k=some v->
  ∃j,Instr.findNow td (K k) es i=some (some (i+j,v))/\j<es.length/\Un K (es.eraseIdx j) (delL kv k)
 | e :: es, (a, v') :: kv, i, k, v, h, hg => by
   simp only[Un,List.map_cons,List.cons.injEq,Prod.mk.injEq] at h;simp only[Rg] at hg;split at hg
   ·rename_i he
    subst he;cases hg;refine⟨0,by simp[Instr.findNow,h.1.1,hs,h.1.2],by simp,?_⟩;simp only[List.eraseIdx_zero,List.tail_cons,delL,if_true];exact h.2
   ·rename_i bT
    obtain⟨j,h1,h2,h3⟩:=z04 hs (i+1) h.2 hg;refine⟨j+1,?_,by simp;omega,?_⟩
    ·simp only[Instr.findNow,h.1.1,hs,bT,decide_false,h1]
     congr 3;omega
    ·simp only[delL,bT,if_false,List.eraseIdx_cons_succ,Un,List.map_cons,List.cons.injEq,Prod.mk.injEq]
     exact⟨h.1,h3⟩
 |[],[],_,_,_,_,hg=>by simp[Rg] at hg
 |[],_::_,_,_,_,h,_=>by simp[Un] at h
 |_::_,[],_,_,_,h,_=>by simp[Un] at h
variable {P:Program}{e:Env}{d:Option Nat}{ty t kt el:TypeId}{pos:String}{aft:Array Edge}{g:Option (Nat×Bool)}{x y u:Operand}{w:World}{m:Nat}{kv:List (κ×Value)}{size:Nat}{k:κ}{v:Value}
def zgh (ht:P.underlying t=some (.map kt el))(hK:Ky P kt K)(hx:look e x=some (.map (some m)))(hy:look e y=some (K k))(hu:look e u=some v)(hm:SL K w m kv):
  Zp P e ⟨d,.mapUpdate t x y u,ty,pos,aft,g⟩ w λw'=>SL K w' m (putL kv k v)/\Kp (λi=>i=m) w w':=by
 have aZ:=hm.lt
 obtain⟨⟨es,c,hh,he,bU,cn⟩,hd⟩:=hm
 have sq:=λb=>hK.same.choose_spec.2.2 w b 9999 k
 have hg:(getObj m).run P w= .ok (.map es c) w:=by simp[getObj,Sem.run,hh]
 have eC:∀o,(setObj m o).run P w= .ok () (w.putObj m o):=λo=>by simp[setObj,Sem.run,hh,World.putObj]
 cases lK:Rg kv k with
 | none =>
   have hf:=Uh (P:=P) (w:=w) hK he lK;refine⟨w.putObj m (.map (es.push {key:=K k,val:=v,born:=c}) (c+1)),fun ρ hρ=>?_,⟨⟨_,_,World.putObj_heap_same aZ,?_,?_,?_⟩,?_⟩,QN w m _⟩
   ·simp[execOp,hρ _ _ hx,hρ _ _ hy,hρ _ _ hu,Instr.mapUpdate,run_underlying ht,hg,sq,hf,eC]
   ·rw[UG _ _ _ lK]
    simpa[Un] using he
   ·intro x hx;simp at hx;rcases hx with hx|rfl
    ·have:=bU x (by simpa using hx);omega
    ·simp
   ·simp only[Array.toList_push,List.map_append,List.map_cons,List.map_nil];refine List.nodup_append.2 ⟨cn,by simp,λa ha b hb iV=>?_⟩;simp at hb;subst hb;subst iV;obtain⟨x,hx,sr⟩:=List.mem_map.1 ha;have:=bU x hx;omega
   ·rw[UG _ _ _ lK,List.map_append,List.nodup_append];refine⟨hd,by simp,λa ha b hb iV=>?_⟩;simp at hb;subst hb;subst iV
    exact z1u lK ha
 | some v0 =>
   obtain⟨j,hf,⟨ej,Jm,BR⟩,mP⟩:=Um (P:=P) (w:=w) hK he lK
   have lL:(es.modify j λe=>{e with key:=K k,val:=v}).toList.map (·.born)=es.toList.map (·.born):=by
    apply List.ext_getElem?;intro i;simp only[Array.toList_modify,List.getElem?_map,List.getElem?_modify];by_cases gU:j=i
    ·subst gU;simp;cases es[j]?<;>rfl
    ·simp[gU]
   refine⟨w.putObj m (.map (es.modify j λe=>{e with key:=K k,val:=v}) c),fun ρ hρ=>?_,⟨⟨_,_,World.putObj_heap_same aZ,mP v,?_,?_⟩,?_⟩,QN w m _⟩
   ·simp[execOp,hρ _ _ hx,hρ _ _ hy,hρ _ _ hu,Instr.mapUpdate,run_underlying ht,hg,sq,hf,eC,Jm,BR,Instr.keyThatStays,hK.bits]
   ·intro x hx;have:x.born∈es.toList.map (·.born):=by rw[<-lL];exact List.mem_map.2 ⟨x,hx,rfl⟩
    obtain⟨y,hy,wo⟩:=List.mem_map.1 this;rw[<-wo];exact bU y hy
   ·rw[lL];exact cn
   ·rw[z2E _ _ _ (by rw[lK];rfl)];exact hd
theorem zgn (ht:P.underlying t=some (.map kt el))(hK:Ky P kt K)(hx:look e x=some (.map (some m)))(hy:look e y=some (K k))(hm:SL K w m kv){ts:Array TypeId}(vp:ts[0]? =some t):
  Yp P e ⟨d,.call ⟨.builtin .delete,#[x,y],ts⟩,ty,pos,aft,g⟩ w λv' w'=>SL K w' m (delL kv k)/\Kp (λi=>i=m) w w':=by
 have aZ:=hm.lt
 obtain⟨⟨es,c,hh,he,bU,cn⟩,hd⟩:=hm
 obtain⟨⟨td,hu,hs,BS⟩,-⟩:=hK
 have sq:=λb=>BS w b 9999 k
 have hg:(getObj m).run P w= .ok (.map es c) w:=by simp[getObj,Sem.run,hh]
 have eC:∀o,(setObj m o).run P w= .ok () (w.putObj m o):=λo=>by simp[setObj,Sem.run,hh,World.putObj]
 have dx:=(z4i kv k).map (·.1)
 cases lK:Rg kv k with
 | none =>
   have hf:(Instr.findKey kt (K k) es.toList).run P w= .ok none w:=by simp[Instr.findKey,run_underlying hu,VS hs 0 he lK]
   have jz:delL kv k=kv:=by
    clear he hh hd dx
    induction kv with
    |nil=>rfl
    | cons p r ih =>
      obtain⟨a,u⟩:=p;simp only[Rg] at lK;split at lK
      ·cases lK
      ·rename_i bT;simp only[delL,bT,if_false,ih lK]
   refine⟨.tuple #[],w.putObj m (.map es c),fun ρ hρ=>?_,⟨⟨es,c,World.putObj_heap_same aZ,by rw[jz];exact he,bU,cn⟩,by rw[jz];exact hd⟩,QN w m _⟩
   simp[execOp,resolve,invoke,builtin,hρ _ _ hx,hρ _ _ hy,Builtin.delete_,vp,run_underlying ht,hg,sq,hf,eC,Result.andThen]
 | some v0 =>
   obtain⟨j,wq,hj,mP⟩:=z04 hs 0 he lK
   have hf:(Instr.findKey kt (K k) es.toList).run P w= .ok (some (j,v0)) w:=by
    rw[Nat.zero_add] at wq;simp[Instr.findKey,run_underlying hu,wq]
   have BT:(es.eraseIdxIfInBounds j).toList=es.toList.eraseIdx j:=by
    simp at hj;simp[Array.eraseIdxIfInBounds,hj]
   refine⟨.tuple #[],w.putObj m (.map (es.eraseIdxIfInBounds j) c),fun ρ hρ=>?_,⟨⟨_,c,World.putObj_heap_same aZ,by rw[BT];exact mP,?_,?_⟩,dx.nodup hd⟩,QN w m _⟩
   ·simp[execOp,resolve,invoke,builtin,hρ _ _ hx,hρ _ _ hy,Builtin.delete_,vp,run_underlying ht,hg,sq,hf,eC,Result.andThen]
   ·rw[BT];exact λx hx=>bU x ((List.eraseIdx_sublist _ _).subset hx)
   ·rw[BT];exact((List.eraseIdx_sublist _ _).map _).nodup cn
end
def Pc:Nat->Nat->List Bool
 |0,_=>[]
 |n+1,v=>v.testBit n::Pc n v
def Pv:List Bool->Nat
 |[]=>0
 |b::l=>b.toNat*2^l.length+Pv l
@[simp] theorem bitsN_length:∀(n v:Nat),(Pc n v).length=n
 |0,_=>rfl
 |n+1,v=>by simp[Pc,bitsN_length n v]
theorem QF:∀(l:List Bool),Pv l<2^l.length
 |[]=>by simp[Pv]
 | b :: l => by
   have:=QF l;simp only[Pv,List.length_cons,Nat.pow_succ];have:b.toNat<=1:=by cases b<;>simp
   have:b.toNat*2^l.length<=1*2^l.length:=Nat.mul_le_mul_right _ this;omega
theorem S0:∀(a b:List Bool),Pv (a++b)=Pv a*2^b.length+Pv b
 |[],b=>by simp[Pv]
 | x :: a, b => by
   rw[List.cons_append,Pv,S0 a b,Pv,List.length_append,Nat.pow_add,Nat.add_mul,Nat.mul_assoc];omega
theorem S5:∀(m n v:Nat),Pc (m+n) v=Pc m (v / 2^n)++Pc n v
 |0,n,v=>by simp[Pc]
 | m + 1, n, v => by
   rw[show m+1+n=(m+n)+1 by omega,Pc,Pc,List.cons_append,S5 m n v,Nat.testBit_div_two_pow]
theorem Qb:∀(n v:Nat),Pv (Pc n v)=v%2^n
 |0,v=>by simp[Pc,Pv,Nat.mod_one]
 | n + 1, v => by
   rw[Pc,Pv,bitsN_length,Qb n v,Nat.pow_succ,Nat.mod_mul,Nat.testBit_eq_decide_div_mod_eq];rcases Nat.mod_two_eq_zero_or_one (v / 2^n) with e|e<;>simp[e]<;>omega
theorem WD:∀{n v u:Nat},v%2^n=u%2^n->Pc n v=Pc n u
 |0,_,_,_=>rfl
 | n + 1, v, u, h => by
   have h1:v.testBit n=u.testBit n:=by
    have e1:(v%2^(n+1)).testBit n=v.testBit n:=by rw[Nat.testBit_mod_two_pow];simp
    have e2:(u%2^(n+1)).testBit n=u.testBit n:=by rw[Nat.testBit_mod_two_pow];simp
    rw[<-e1,<-e2,h]
   have h2:v%2^n=u%2^n:=by
    have e1:v%2^(n+1)%2^n=v%2^n:=Nat.mod_mod_of_dvd _ (Nat.pow_dvd_pow 2 (Nat.le_succ n));have e2:u%2^(n+1)%2^n=u%2^n:=Nat.mod_mod_of_dvd _ (Nat.pow_dvd_pow 2 (Nat.le_succ n));rw[<-e1,<-e2,h]
   rw[Pc,Pc,h1,WD h2]
theorem Yq:∀{a b:List Bool},a.length=b.length->Pv a=Pv b->a=b
 |[],[],_,_=>rfl
 | x :: a, y :: b, hl, hv => by
   have hl':a.length=b.length:=by simpa using hl
   have h1:=QF a;have h2:=QF b;rw[Pv,Pv,hl'] at hv;rw[hl'] at h1
   have hx:x=y:=by
    cases x<;>cases y<;>simp at hv⊢<;>omega
   subst hx;rw[Yq hl' (by omega)]
def z18 (l:List Bool):Pc l.length (Pv l)=l:=Yq (by simp) (by rw[Qb,Nat.mod_eq_of_lt (QF l)])
/-! ### Bytes -/
def P3 (s:OG):List Bool:=s.flatMap λc=>Pc 8 c.toNat
@[simp] theorem bitsT_length (s:OG):(P3 s).length=8*s.length:=by
 induction s with
 |nil=>rfl
 |cons c s ih=>simp[P3] at ih⊢;omega
theorem YJ (a b:OG):P3 (a++b)=P3 a++P3 b:=by simp[P3]
def W9 (d:List Bool):UInt8:=UInt8.ofNat (Pv d*2^(8-d.length))
def Ph (l:List Bool):OG:=(List.range ((l.length+7) / 8)).map λi=>W9 ((l.drop (8*i)).take 8)
theorem PD (l:List Bool):(Ph l).length=(l.length+7) / 8:=by simp[Ph]
theorem XU {c d:List Bool}(hc:c.length%8=0)(h1:1<=d.length)(h8:d.length<=8):Ph (c++d)=Ph c++[W9 d]:=by
 obtain⟨m,hm⟩:∃m,c.length=8*m:=⟨c.length / 8,by omega⟩
 unfold Ph
 rw[List.length_append,show(c.length+d.length+7) / 8=m+1 by omega,show(c.length+7) / 8=m by omega,List.range_succ,List.map_append]
 congr 1
 ·apply List.map_congr_left;intro i hi;rw[List.mem_range] at hi;rw[List.drop_append_of_le_length (by omega),List.take_append_of_le_length (by rw[List.length_drop];omega)]
 ·simp only[List.map_cons,List.map_nil];rw[<-hm,List.drop_left,List.take_of_length_le h8]
def z9p {d e:List Bool}(h:d.length+e.length<=8):(W9 (d++e)).toNat=(W9 d).toNat |||(Pv e*2^(8-d.length-e.length)):=by
 have h1:=QF d
 have h2:=QF e
 have hp:∀(x:List Bool),x.length<=8->Pv x*2^(8-x.length)<256:=λx hx=>by
  have h3:=QF x;have:Pv x*2^(8-x.length)<2^x.length*2^(8-x.length):=Nat.mul_lt_mul_of_pos_right h3 (Nat.two_pow_pos _);rw[<-Nat.pow_add,show x.length+(8-x.length)=8 by omega] at this;exact this
 have e1:(W9 (d++e)).toNat=Pv (d++e)*2^(8-(d++e).length):=by
  unfold W9;rw[UInt8.toNat_ofNat'];exact Nat.mod_eq_of_lt (hp _ (by rw[List.length_append];omega))
 have e2:(W9 d).toNat=Pv d*2^(8-d.length):=by
  unfold W9;rw[UInt8.toNat_ofNat'];exact Nat.mod_eq_of_lt (hp _ (by omega))
 rw[e1,e2,S0,List.length_append,Nat.add_mul]
 have h5:Pv d*2^e.length*2^(8-(d.length+e.length))=2^(8-d.length)*Pv d:=by
  rw[Nat.mul_assoc,<-Nat.pow_add,show e.length+(8-(d.length+e.length))=8-d.length by omega,Nat.mul_comm]
 have h6:Pv e*2^(8-(d.length+e.length))<2^(8-d.length):=by
  have:Pv e*2^(8-(d.length+e.length))<2^e.length*2^(8-(d.length+e.length)):=Nat.mul_lt_mul_of_pos_right h2 (Nat.two_pow_pos _);rw[<-Nat.pow_add,show e.length+(8-(d.length+e.length))=8-d.length by omega] at this;exact this
 rw[h5,Nat.two_pow_add_eq_or_of_lt h6,Nat.mul_comm (2^(8-d.length)),show 8-d.length-e.length=8-(d.length+e.length) by omega]
theorem z9Z:W9 []=0:=by decide
def Sn (l:List Bool):∃z,P3 (Ph l)=l++List.replicate z false/\(l.length+z)%8=0/\z<8:=by
 have key:∀(m:Nat) (l:List Bool),l.length<=8*m->∃z,P3 (Ph l)=l++List.replicate z false/\(l.length+z)%8=0/\z<8:=by
  intro m
  induction m with
  | zero =>
    intro l h;have:l=[]:=List.eq_nil_of_length_eq_zero (by omega);subst this
    exact⟨0,rfl,rfl,by omega⟩
  | succ m ih =>
    intro l h;by_cases h0:l=[]
    ·subst h0;exact⟨0,rfl,rfl,by omega⟩
    ·have hpos:1<=l.length:=by
      cases l with
      |nil=>exact absurd O h0
      |cons a r=>simp
     obtain⟨c,d,rfl,hc,h1,h8⟩:∃c d,l=c++d/\c.length%8=0/\1<=d.length/\d.length<=8:=by
      refine⟨l.take (8*((l.length-1) / 8)),l.drop (8*((l.length-1) / 8)),(List.take_append_drop _ _).symm,?_,?_,?_⟩
      ·rw[List.length_take];omega
      ·rw[List.length_drop];omega
      ·rw[List.length_drop];omega
     rw[List.length_append] at h;obtain⟨z,hz,hm,hl⟩:=ih c (by omega);have hz0:z=0:=by omega
     subst hz0;simp at hz;refine⟨8-d.length,?_,by rw[List.length_append];omega,by omega⟩;rw[XU hc h1 h8,YJ,hz,List.append_assoc]
     congr 1
     simp only[P3,List.flatMap_cons,List.flatMap_nil,List.append_nil]
     have hv:Pv (d++List.replicate (8-d.length) false)=Pv d*2^(8-d.length):=by
      rw[S0,List.length_replicate]
      have:∀n,Pv (List.replicate n false)=0:=λn=>by
       induction n with
       |zero=>rfl
       |succ n ih=>rw[List.replicate_succ,Pv,ih];simp
      rw[this];rfl
     refine Yq (by simp;omega) ?_;rw[Qb,hv];have h3:=QF d
     have:Pv d*2^(8-d.length)<2^8:=by
      have:Pv d*2^(8-d.length)<2^d.length*2^(8-d.length):=Nat.mul_lt_mul_of_pos_right h3 (Nat.two_pow_pos _)
      rwa [<-Nat.pow_add,show d.length+(8-d.length)=8 by omega] at this
     unfold W9;rw[UInt8.toNat_ofNat'];rw[Nat.mod_mod,Nat.mod_eq_of_lt this]
 exact key l.length l (by omega)
def z5W (c:Nat)(hc:c<256)(room n:Nat)(hr:room<=8)(hn:n<=room):Pv (((Pc 8 c).drop (8-room)).take n)=c%2^room / 2^(room-n):=by
 have e1:Pc 8 c=Pc (8-room) (c / 2^room)++Pc room c:=by rw[<-S5,show 8-room+room=8 by omega]
 have e2:Pc room c=Pc n (c / 2^(room-n))++Pc (room-n) c:=by rw[<-S5,show n+(room-n)=room by omega]
 rw[e1,List.drop_left' (by simp),e2,List.take_left' (by simp),Qb]
 have:c%2^room / 2^(room-n)=c / 2^(room-n)%2^n:=by
  have h2:2^room=2^(room-n)*2^n:=by rw[<-Nat.pow_add,show room-n+n=room by omega]
  rw[h2,Nat.mod_mul_right_div_self]
 rw[this]
theorem TN (c:UInt8)(s:OG):P3 (c::s)=Pc 8 c.toNat++P3 s:=rfl
theorem TO:∀(k:Nat) (s:OG),P3 (s.drop k)=(P3 s).drop (8*k)
 |0,s=>by simp
 |k+1,[]=>by simp[P3]
 | k + 1, c :: s => by
   have e:(Pc 8 c.toNat++P3 s).drop (8+8*k)=(P3 s).drop (8*k):=by rw[<-List.drop_drop,List.drop_left' (by simp)]
   rw[List.drop_succ_cons,TO k s,TN,show 8*(k+1)=8+8*k by omega,e]
theorem UE:∀(k:Nat) (s:OG),P3 (s.take k)=(P3 s).take (8*k)
 |0,s=>by simp[P3]
 |k+1,[]=>by simp[P3]
 | k + 1, c :: s => by
   have e:(Pc 8 c.toNat++P3 s).take (8+8*k)=Pc 8 c.toNat++(P3 s).take (8*k):=by
    have:=List.take_length_add_append (l₁:=Pc 8 c.toNat) (l₂:=P3 s) (8*k)
    rwa [bitsN_length] at this
   rw[List.take_succ_cons,TN,UE k s,TN,show 8*(k+1)=8+8*k by omega,e]
def zdD {s:OG}{i:Nat}{c:UInt8}(h:s[i]? =some c):((P3 s).drop (8*i)).take 8=Pc 8 c.toNat:=by
 rw[<-TO]
 obtain⟨hi,e⟩:=List.getElem?_eq_some_iff.1 h
 rw[List.drop_eq_getElem_cons hi,e,show P3 (c::s.drop (i+1))=Pc 8 c.toNat++P3 (s.drop (i+1)) from rfl,List.take_left' (by simp)]
def z6D {s:OG}{at' n:Nat}{c:UInt8}(h:s[at' / 8]? =some c)(hn:n<=8-at'%8):Pv (((P3 s).drop at').take n)=c.toNat%2^(8-at'%8) / 2^(8-at'%8-n):=by
 have h1:=zdD h
 have h2:=z5W c.toNat (by have:=c.toNat_lt;omega) (8-at'%8) n (by omega) hn
 rw[<-h2,<-h1]
 congr 1
 rw[List.drop_take,List.take_take,List.drop_drop,show 8*(at' / 8)+(8-(8-at'%8))=at' by omega]
 congr 1
 omega
def z6q {bs e:List Bool}(h1:1<=e.length)(h8:bs.length%8+e.length<=8):∃(c:OG) (x y:UInt8),(if bs.length%8=0 then Ph bs++[0] else Ph bs)=c++[x]/\Ph (bs++e)=c++[y]/\y.toNat=(x.toNat |||(Pv e*2^(8-bs.length%8-e.length))):=by
 obtain⟨c,d,hcd,hc,hd⟩:∃c d,bs=c++d/\c.length%8=0/\d.length=bs.length%8:=⟨bs.take (8*(bs.length / 8)),bs.drop (8*(bs.length / 8)),(List.take_append_drop _ _).symm,by rw[List.length_take];omega,by rw[List.length_drop];omega⟩
 have hb:=z9p (d:=d) (e:=e) (by omega)
 rw[<-hd]
 refine⟨Ph c,W9 d,W9 (d++e),?_,?_,hb⟩
 ·by_cases h0:d.length=0
  ·have:d=[]:=List.eq_nil_of_length_eq_zero h0;subst this;rw[if_pos (by simp),hcd,List.append_nil,z9Z]
  ·rw[if_neg (by omega),hcd,XU hc (by omega) (by omega)]
 ·rw[hcd,List.append_assoc,XU hc (by rw[List.length_append];omega) (by rw[List.length_append];omega)]
abbrev u64v (n:Nat):Value:= .int .u64 (n:Int)
def Xs {w:World}{v:Value}{T s n}{us:List Value}(h:Sl w v T s n us):oneV v=true:=by
 rcases h.shape with⟨rfl,-⟩|⟨g,c,rfl,-⟩<;>rfl
section
variable {P:Program}{e:Env}{d:Option Nat}{ty t t':TypeId}{pos:String}{aft:Array Edge}{g:Option (Nat×Bool)}{x y:Operand}{w:World}{k:IntKind}{m n:Nat}
def VZ (hx:look e x=some (.int k (m:Int)))(hy:look e y=some (.int k (n:Int)))(hs:k.signed=false)(hm:m<2^k.bits)(h:n<=m):Y P e ⟨d,.binOp .sub t x y t',ty,pos,aft,g⟩ (.int k ((m-n:Nat):Int)) w w:=fun ρ hρ=>by
 have h1:(m:Int)-n=((m-n:Nat):Int):=by omega
 have h2:k.wrap ((m-n:Nat):Int)=((m-n:Nat):Int):=z1Y hs (by omega)
 simp[execOp,go_sem,hρ _ _ hx,hρ _ _ hy,h1,h2]
def zh9 {el:TypeId}{c:Nat}(hs:P.underlying t=some (.slice el))(he:P.underlying el=some (.int .u8))(hd:P.underlying t'=some .string)(hx:look e x=some (.slice none 0 c)):Y P e ⟨d,.convert t t' x,ty,pos,aft,g⟩ (S []) w w:=fun ρ hρ=>by
 have hr:(convert t t' (.slice none 0 c)).run P w= .ok (S []) w:=by
  rw[run_convert_bytes_string w t t' el none 0 c hs he hd];rfl
 simp only[execOp,hρ _ _ hx,Sem.run_bind,hr,Result.andThen_ok,Sem.run_pure]
def zer {el:TypeId}{gb n cap:Nat}{l:List UInt8}(hs:P.underlying t=some (.slice el))(he:P.underlying el=some (.int .u8))(hd:P.underlying t'=some .string)(hx:look e x=some (.slice (some ⟨gb,0,none⟩) n cap))(hS:Sl w (.slice (some ⟨gb,0,none⟩) n cap) el 1 n (l.map S8)):
  Y P e ⟨d,.convert t t' x,ty,pos,aft,g⟩ (S l) w w:=by
 obtain⟨cur,hr,-,-,-,ht⟩:=hS.row
 refine z3z hs he hd hx hr.OC (by rw[List.drop_zero,<-ht,Nat.mul_one]) ?_
 have:=hS.len
 rw[List.length_map] at this
 omega
end
def Qo {w:World}{b off n cap i:Nat}{vs:List Value}{v:Value}(h:Rd w (.slice (some ⟨b,off,none⟩) n cap) 1 n vs)(hv:vs[i]? =some v):w.cell? ⟨b,off+i*1,none⟩=some v:=by
 rcases h.2 with⟨c,hc,h0⟩|⟨b',off',cap',e,hc⟩
 ·have hi:=(List.getElem?_eq_some_iff.1 hv).1;have:=h.1;omega
 ·cases e;rw[Nat.mul_one];exact hc i v hv
structure WrM (w:World)(p:Nat)(bv:Value)(bs:List Bool):Prop where
 OC:OR w p [bv,I (bs.length:Int)] 286
 sl:Sl w bv 5 1 (Ph bs).length ((Ph bs).map S8)
 ne:bv.ownBlock≠some p
def fpW (p:Nat)(bv:Value)(k:Nat):Prop:=k=p\/bv.ownBlock=some k
def Z2 (w:World)(p:Nat)(bs:List Bool)(F:Nat->Prop):Prop:=∃bv,WrM w p bv bs/\∀k,F k↔fpW p bv k
def WrR (p:Nat)(F:Nat->Prop)(w w':World)(bs:List Bool):Prop:=∃F',Z2 w' p bs F'/\Kp F w w'/\∀k,F' k->F k\/w.heap.size<=k
section
variable {w w':World}{p:Nat}{bs:List Bool}{F S:Nat->Prop}
def Z2.lt (h:Z2 w p bs F){k:Nat}(hk:F k):k<w.heap.size:=by
 obtain⟨bv,hM,hF⟩:=h
 rcases (hF k).1 hk with e| e
 ·rw[e];exact hM.OC.lt
 ·exact hM.sl.lt e
def Z2.kp (h:Z2 w p bs F)(k:Kp S w w')(hn:∀i,F i->¬S i):Z2 w' p bs F:=by
 obtain⟨bv,hM,hF⟩:=h
 exact⟨bv,⟨k.OC hM.OC (hn p ((hF p).2 (.inl O))),hM.sl.kp k (λg hg=>hn g ((hF g).2 (.inr hg))),hM.ne⟩,hF⟩
def Z2.ext (h:Z2 w p bs F)(k:Ext w w'):Z2 w' p bs F:=h.kp k.kp λ_ _=>id
end
section
variable {w:World}{p:Nat}{bs:List Bool}{F:Nat->Prop}
def UF (w:World):Pm prog 136 [] w λv w'=>∃p F,v=ptr p 0/\Z2 w' p [] F/\Ext w w'/\∀k,F k->w.heap.size<=k:=by
 refine py (e:=[]) func136 O ntmps136 O O$ qN O$ Qw O$ qV (Sk (cs:=[_,_]) ziz O zk3 O O)$ OM O O (Rm O O) ?_
 rintro _ w1 ⟨p,rfl,hp,hx,hB⟩
 refine OU O$ OB func136 O ?_
 exact⟨_,rfl,p,_,rfl,⟨_,⟨hB,Sl.nil _ _ _,by simp[Value.ownBlock]⟩,λ_=>Iff.rfl⟩,hx,λk hk=>by
  rcases hk with e| e
  ·omega
  ·simp[Value.ownBlock] at e⟩
def zcg (h:Z2 w p bs F)(v n:Nat)(hn:n<=64)(hv:v<2^n)(hl:bs.length+n<=1000000000):
  Pm prog 178 [ptr p 0,u64v v,I (n:Int)] w λu w'=>u= .tuple #[]/\WrR p F w w' (bs++Pc n v):=by
 obtain⟨bv,hM,hF⟩:=h
 have Jn:v<18446744073709551616:=by
  have:=Nat.pow_le_pow_right (show 0<2 by decide) hn;have e:(2:Nat)^64=18446744073709551616:=by decide
  omega
 have eu:maxLen=9223372036854775807:=rfl
 refine py (e:=[(0,_),(1,_),(2,_)]) func178 O ntmps178 O O$ OH$ Rq (α:=Nat×Value×List Bool) ((n,bv,bs)) (λx=>[(0,ptr p 0),(1,u64v v),(2,I (x.1:Int))]) (λx w'=>x.1<=n/\WrM w' p x.2.1 x.2.2/\x.2.2=bs++Pc (n-x.1) (v / 2^x.1)/\Kp F w w'/\(∀k,fpW p x.2.1 k->F k\/w.heap.size<=k)) (λx=>x.1) ?hI ?hround
 case hI=>exact⟨Nat.le_refl _,hM,by rw[Nat.sub_self];simp[Pc],Kp.refl _ _,λk hk=> .inl ((hF k).2 hk)⟩
 case hround =>
  rintro⟨k,bv1,b1⟩ w1 ⟨hk,dN,bU,aL,fX⟩ ih;dsimp only at hk dN bU fX;have aj:=dN.OC;have BU:b1.length<=bs.length+n:=by rw[bU,List.length_append,bitsN_length];omega
  have jN:b1.length&&&7=b1.length%8:=Nat.and_two_pow_sub_one_eq_mod b1.length 3;have mz:=aL.size;have fL:=aj.lt
  try dsimp only
  refine PG O$ Qu O$ OD$ OQ O (λaZ=>?_)$ λaZ=>?_
  ·have ie : 0 < k := by omega
   obtain⟨take,jO⟩:∃take,min k (8-b1.length%8)=take:=⟨_,rfl⟩;have ss:1<=take/\take<=k/\take<=8-b1.length%8:=by omega
   obtain⟨e,he⟩:∃e,Pc take (v / 2^(k-take))=e:=⟨_,rfl⟩;have oC:e.length=take:=by rw[<-he];simp
   have HC:Pv e=v / 2^(k-take)%2^take:=by rw[<-he,Qb]
   obtain⟨c,x,y,hL,hY,du⟩:=z6q (bs:=b1) (e:=e) (by omega) (by omega);refine OE$ OH$ PG O$ Pu O$ OX Xi O$ qV (OO U3 O O aj O)$ qV (XJ O O (by omega) (by omega)) ?_;rw[jN];refine Ri O$ OD$ PI (λe' w'=>e'=[(0,ptr p 0),(1,u64v v),(2,I (k:Int))]/\∃bv2,OR w' p [bv2,I (b1.length:Int)] 286/\Sl w' bv2 5 1 (c++[x]).length ((c++[x]).map S8)/\bv2.ownBlock≠some p/\Kp F w w'/\∀k,fpW p bv2 k->F k\/w.heap.size<=k) ?mQ$ λmQ=>?mR
   case mQ=>
    rintro e' w2 ⟨rfl,bv2,am,cH,fY,aq,oD⟩
    obtain⟨g2,c2,rfl,ev⟩:∃g cp,bv2= .slice (some ⟨g,0,none⟩) (c++[x]).length cp/\(c++[x]).length<=cp:=by
     rcases cH.shape with⟨-,e⟩| h
     ·simp at e
     ·exact h
    have cN:(c++[x]).length=c.length+1:=by simp
    have Jo:p≠g2:=λe=>fY (by rw[e];rfl);have jA:(Ph (b1++e)).length=c.length+1:=by rw[hY];simp
    rw[PD,List.length_append] at jA;obtain⟨T,hT⟩:∃T,2^take=T:=⟨_,rfl⟩;obtain⟨D,hD⟩:∃D,2^(k-take)=D:=⟨_,rfl⟩;obtain⟨R,hR⟩:∃R,2^(8-b1.length%8-take)=R:=⟨_,rfl⟩;rw[hT,hD] at HC;rw[oC,hR] at du
    have HD:1<=T/\T<=256:=by
     rw[<-hT];exact⟨Nat.two_pow_pos _,by have:=Nat.pow_le_pow_right (show 0<2 by decide) (show take<=8 by omega);simpa using this⟩
    have j5:(v / D)&&&(T-1)=v / D%T:=by rw[<-hT];exact Nat.and_two_pow_sub_one_eq_mod _ _
    have Nv:v / D<=v:=Nat.div_le_self _ _;have Jp:v / D%T<T:=Nat.mod_lt _ (by omega)
    have Nw:Pv e*R<256:=by
     have h1:=QF e;rw[oC,hT] at h1;have h2:Pv e*R<T*R:=Nat.mul_lt_mul_of_pos_right h1 (by rw[<-hR];exact Nat.two_pow_pos _);have h3:T*R=2^(8-b1.length%8):=by rw[<-hT,<-hR,<-Nat.pow_add,show take+(8-b1.length%8-take)=8-b1.length%8 by omega]
     have h4:=Nat.pow_le_pow_right (show 0<2 by decide) (show 8-b1.length%8<=8 by omega);have h5:(2:Nat)^8=256:=by decide
     omega
    have dy:=x.toNat_lt;refine Pf O$ Pu O$ OX Xi O$ qV (OO U3 O O am O)$ qV (XJ O O (by omega) (by omega)) ?_;rw[jN];refine Ro O ?_;rw[show(8-((b1.length%8:Nat):Int))=((8-b1.length%8:Nat):Int) by omega];refine Qw O$ P8 O$ qV (ymi O O) ?_;rw[show min (k:Int) ((8-b1.length%8:Nat):Int)=((take:Nat):Int) by omega];have hg:=Ext.OT w2;refine OU O$ It$ R5 (λw'=>Ext w2 w') O$ OZ 0 O O (hg)$ OZ 1 O O (hg)$ OZ 2 O O (hg)$ OI 3 O (XH O O (by omega)) hg$ OZ 5 O O (hg) ?_;rw[show((k:Int)-(take:Int))=((k-take:Nat):Int) by omega];refine OI 4 O (Sc (k-take) D O O (by show k-take<=64;omega) hD) hg ?_;refine OI 6 O (QP take T O O (by omega) hT) hg ?_;rw[show(1*T)%18446744073709551616=T by omega];refine OI 7 O (VZ (n:=1) O O O (by show T<2^64;omega) (by omega)) hg ?_;refine OI 8 O (Tk O O (by omega) (by omega)) hg ?_;rw[j5];refine OI 9 O (z2e O Rr U5) hg ?_;rw[show v / D%T%256=Pv e by rw[HC];exact Nat.mod_eq_of_lt (Nat.lt_of_lt_of_le Jp HD.2)];have au:=hg.OC am;have cy:=cH.ext hg;have af:Ext w2.drew w2.drew.drew:=Ext.OT w2.drew;refine OI 10 O (R7 O) hg$ qE$ It$ P7 [19] (λw'=>Ext w2.drew w') (by kernel_rfl) O$ PL 0 O O (af)$ P9 1 O (Q4 O) af$ P9 2 O (Pp YX O) af$ qL 3 O (λ_ h=>OO Q5 O O (h.OC au) O) af$ PL 4 O O (af)$ P9 5 O (Q4 O) af$ P9 6 O (Pp YX O) af$ qL 7 O (λ_ h=>OO Q5 O O (h.OC au) O) af$ P9 8 O (SF Q5 O) af$ PL 12 O O (af) ?_;refine PL 13 O O (af)$ PL 14 O O (af)$ P9 15 O (XH O O (by omega)) af$ P9 9 O (XH O O (by omega)) af ?_;rw[show(((c++[x]).length:Int)-1)=((c.length:Nat):Int) by omega];refine P9 10 O (PX Q5 VK O O (by omega)) af$ qL 11 O (λ_ hS=>Pr U5 O O (Qo (cy.rd.ext hS) (show((c++[x]).map S8)[c.length]? =some (S8 x) by simp))) af ?_;rw[show(((8-b1.length%8:Nat):Int)-(take:Int))=((8-b1.length%8-take:Nat):Int) by omega];refine P9 16 O (zkq (8-b1.length%8-take) R O O (by omega) hR) af ?_;rw[show Pv e*R%256=Pv e*R by omega];refine P9 17 O (zka O O (by omega) (by omega)) af$ P9 18 O (PX Q5 VK O O (by omega)) af$ SM [19]$ qO 19$ PC (i:=19) O O (RV VK O O O (cy.ext af) (by simp)) ?_;rintro w4 ⟨dO,ao⟩;refine⟨trivial,?_⟩
    rw[show((c++[x]).map S8).set (0+c.length*1) (.int .u8 ((x.toNat |||Pv e*R:Nat):Int))=(c++[y]).map S8 by
     rw[Nat.zero_add,Nat.mul_one,List.map_append,List.map_append,List.set_append_right _ _ (by simp)]
     simp[S8,du]] at dO
    have aK:=ao.OC (af.OC au) Jo;refine qE$ Pf O$ Pu O$ OX Xi O$ qV (OO U3 O O aK O)$ OK O$ PV O$ Pu O$ OX Xi O$ OW O (QQ Q7 O O O aK (by simp)) ?_;rintro w5 ⟨aH,ak⟩;rw[show((b1.length:Int)+(take:Int))=(((b1++e).length:Nat):Int) by rw[List.length_append,oC];omega] at aH;replace aH:OR w5 p [.slice (some ⟨g2,0,none⟩) (c++[x]).length c2,I ((b1++e).length:Int)] 286:=aH
    have ew:=dO.kp ak (λg hg e=>by
                         have:g2=g:=by simpa[Value.ownBlock] using hg
                         omega)
    refine OD$ OL O$ P8 O$ Ro O$ OU O$ OA ?_;rw[show((k:Int)-(take:Int))=((k-take:Nat):Int) by omega];refine(ih (k-take,.slice (some ⟨g2,0,none⟩) (c++[x]).length c2,b1++e) w5 ⟨by dsimp only;omega,⟨aH,?_,fY⟩,?_,?_,oD⟩ (by dsimp only;omega)).qb
    ·rw[hY];have e1:(c++[y]).length=(c++[x]).length:=by simp
     rw[e1];exact ew
    ·dsimp only;rw[bU,List.append_assoc]
     congr 1
     rw[<-he,show n-(k-take)=(n-k)+take by omega,S5]
     congr 2
     rw[Nat.div_div_eq_div_mul,<-Nat.pow_add,show k-take+take=k by omega]
    ·have BV:Kp (fpW p (.slice (some ⟨g2,0,none⟩) (c++[x]).length c2)) w2 w5:=((hg.trans af).kp.trans (ao.OV (λi e=> .inr (by rw[e];rfl)))).trans (ak.OV (λi e=> .inl e));exact aq.An BV (λi hi=>(oD i hi).symm)
   case mR=>
    refine OQ O (λh0=>?_)$ λh0=>?_
    ·rw[if_pos (by omega)] at hL;refine OL O$ P8 O$ Pu O$ OX YX O$ qV (OO Q5 O O aj O)$ OM O O (Wj (cs:=[_]) (zs:=[Value.int .u8 0]) Q5 VK O (by kernel_rfl) O O O (by decide)) ?_;rintro _ w2 ⟨b2,rfl,⟨cn,ae,am⟩,cH⟩;refine OM O O (pap Q5 VK O (by decide) O O (dN.sl.ext ae) cH.rd (by intro c hc;simp at hc;subst hc;rfl) (by rw[PD];omega) (by rw[PD];omega)) ?_;rintro bv3 w3 ⟨cy,av,fZ,-⟩;have au:=av.OC (ae.OC aj) dN.ne;refine Pu O$ OX YX O$ OW O (QQ Wg O O (Xs cy) au (by simp)) ?_;rintro w4 ⟨aK,ao⟩;replace aK:OR w4 p [bv3,I (b1.length:Int)] 286:=aK;refine OD ?_
     have f7:bv3.ownBlock≠some p:=λe=>by
      rcases fZ p e with e| e
      ·exact dN.ne e
      ·have:=ae.size;omega
     refine(mQ _ _ ⟨rfl,bv3,aK,?_,f7,?_,?_⟩).qb
     ·rw[<-hL,List.length_append,List.map_append];exact cy.kp ao (λg hg e=>f7 (e▸hg))
     ·exact aL.An ((ae.kp.trans (av.OV (λk e=> .inr e))).trans (ao.OV (λk e=> .inl e))) (λi hi=>(fX i hi).symm)
     ·intro i hi;rcases hi with e| e
      ·exact fX i (.inl e)
      ·rcases fZ i e with e| e
       ·exact fX i (.inr e)
       ·have:=ae.size;exact .inr (by omega)
    ·rw[if_neg (by omega)] at hL;refine OE ?_;exact(mQ _ _ ⟨rfl,bv1,aj,by rw[<-hL];exact dN.sl,dN.ne,aL,fX⟩).qb
  ·have:k=0:=by omega
   subst this;refine ON O$ Qv func178 O (⟨_,rfl,rfl,_,⟨bv1,?_,λ_=>Iff.rfl⟩,aL,fX⟩);rw[bU,Nat.sub_zero,Nat.pow_zero,Nat.div_one] at dN;exact dN
def z8U (v n:Nat)(hn:n<=64)(hv:v<2^n)(w:World):Pm prog 177 [u64v v,I (n:Int)] w λu w'=>u= .bool true/\w'=w:=by
 refine py (e:=[(0,_),(1,_)]) func177 O ntmps177 O O$ qN O$ Qt O$ Te O$ OK O$ SC (λh1=>?_)$ λh1=>?_
 ·refine QG$ QG$ QJ O$ OU O$ OB func177 O ?_;exact⟨_,rfl,rfl,rfl⟩
 ·refine P8 O$ qV (Sc n (2^n) O O (by show n<=64;omega) O) ?_;rw[Nat.div_eq_of_lt hv];refine Ri O$ PK O$ OU O$ OB func177 O ?_;exact⟨_,rfl,by simp[Qc],rfl⟩
def Sm (h:Z2 w p bs F)(v n:Nat)(hn:n<=64)(hv:v<2^n)(hl:bs.length+n<=134217728):
  Pm prog 137 [ptr p 0,u64v v,I (n:Int)] w λu w'=>u=I 0/\WrR p F w w' (bs++Pc n v):=by
 obtain⟨bv,hM,hF⟩:=id h
 have hB:=hM.OC
 refine py (e:=[(0,_),(1,_),(2,_)]) func137 O ntmps137 O O$ QB O$ Qx$ Pf O$ qV (Qi z3Y O O)$ OU O$ OJ O$ Pf O$ Qq O$ OK O$ SC (λh1=>?_)$ λh1=>?_
 ·omega
 ·refine OK O$ Qu O$ PK O$ OK O$ SC (λh2=>?_)$ λh2=>?_
  ·omega
  ·refine P8 O$ P4 ziw O (z8U v n hn hv w) ?_;rintro _ w ⟨rfl,rfl⟩;refine qV ((Sb O))$ PK O$ OU O$ OJ O$ Qm O$ Pu O$ OX Xi O$ qV (OO U3 O O hB O)$ Ro O$ Qu O$ OU O$ Pn.qb (e:=[(0,_),(1,_),(2,_),(6,_),(23,_)]) ?_;refine OQ O (λh3=>?_)$ λh3=>?_
   ·omega
   ·refine OE$ OA$ Qm O$ OK O$ P4 ziA O (zcg h v n hn hv (by omega)) ?_;rintro _ w1 ⟨rfl,hR⟩;refine qM O$ OU O$ OB func137 O ?_;exact⟨_,rfl,rfl,hR⟩
def Xf (h:Z2 w p bs F):Pm prog 138 [ptr p 0] w λu w'=>u= .tuple #[S (Ph bs),I 0]/\w'=w:=by
 obtain⟨bv,hM,hF⟩:=h
 have hB:=hM.OC
 have hS:=hM.sl
 refine py (e:=[(0,_)]) func138 O ntmps138 O O$ qN O$ PU O$ PG O$ qV (Qi z3Y O O)$ PW O$ Pf O$ Pu O$ OX YX O$ qV (OO Q5 O O hB O) ?_
 rcases hS.shape with⟨rfl,h0⟩|⟨g,cap,rfl,jP⟩
 ·have hn:Ph bs=[]:=List.eq_nil_of_length_eq_zero h0;rw[hn];refine qV (zh9 Q5 U5 U9 O)$ PU O$ OB func138 O ?_;exact⟨_,rfl,rfl,rfl⟩
 ·refine qV (zer (l:=Ph bs) Q5 U5 U9 O hS)$ PU O$ OB func138 O ?_;exact⟨_,rfl,rfl,rfl⟩
def Vs (h:Z2 w p bs F):Pm prog 141 [ptr p 0] w λu w'=>u=I (bs.length:Int)/\w'=w:=by
 obtain⟨bv,hM,hF⟩:=h
 have hB:=hM.OC
 refine py (e:=[(0,_)]) func141 O ntmps141 O O$ QB O$ PG O$ qV (Qi z3Y O O)$ PW O$ Pf O$ Pu O$ OX Xi O$ qV (OO U3 O O hB O)$ OU O$ OB func141 O ?_
 exact⟨_,rfl,rfl,rfl⟩
end
def TX (w:World)(r:Nat)(s:OG)(a:Nat):Prop:=OR w r [S s,I (a:Int)] 324/\a<=8*s.length/\s.length<=1000000000
section
variable {w:World}{r:Nat}{s:OG}{a:Nat}
def X8 (s:OG)(hs:s.length<=1000000000)(w:World):Pm prog 180 [S s] w λv w'=>∃r,v=ptr r 0/\TX w' r s 0/\Ext w w'/\w.heap.size<=r:=by
 refine py (e:=[(0,_)]) func180 O ntmps180 O O$ qN O$ Qt O$ qV (Sk (cs:=[_,_]) zhe O zhX O O)$ OM O O (Rm O O) ?_
 rintro _ w1 ⟨r,rfl,hr,hx,hB⟩
 refine OU O$ OB func180 O ?_
 exact⟨_,rfl,r,rfl,⟨hB,Nat.zero_le _,hs⟩,hx,by omega⟩
def Uk (h:TX w r s a):Pm prog 225 [ptr r 0] w λv w'=>v=I (a:Int)/\w'=w:=by
 obtain⟨hB,h1,h2⟩:=h
 refine py (e:=[(0,_)]) func225 O ntmps225 O O$ QB O$ PG O$ qV (Qi Vj O O)$ PW O$ Pf O$ Pu O$ OX UY O$ qV (OO U3 O O hB O)$ OU O$ OB func225 O ?_
 exact⟨_,rfl,rfl,rfl⟩
def za2 (h:TX w r s a):Pm prog 214 [ptr r 0] w λv w'=>v=I ((8*s.length-a:Nat):Int)/\Ext w w':=by
 obtain⟨hB,h1,h2⟩:=h
 refine py (e:=[(0,_)]) func214 O ntmps214 O O$ QB O$ PG O$ qV (Qi Vj O O) ?_
 have hg:=Ext.OT w
 refine PW O$ It$ R5 (λw'=>Ext w w') O$ OZ 0 O O (hg)$ OI 1 O (Q4 O) hg$ OI 2 O (Pp z3L O) hg$ qT 3 O (λ_ h=>OO U9 O O (h.OC hB) O) hg$ OI 4 O (SV U9 O) hg$ OI 5 O (Wm O O (by omega)) hg$ OZ 6 O O (hg)$ OI 7 O (Q4 O) hg$ OI 8 O (Pp UY O) hg$ qT 9 O (λ_ h=>OO U3 O O (h.OC hB) O) hg$ OI 10 O (XH O O (by omega)) hg ?_
 refine OI 11 O (R7 O) hg$ qE$ OB func214 O (⟨_,rfl,?_,hg⟩)
 simp only[Qc]
 congr 1
 omega
def ZI (h:TX w r s a)(k:Nat)(hk:k<=8*s.length):Pm prog 244 [ptr r 0,I (k:Int)] w λv w'=>v=I 0/\TX w' r s k/\Kp (λi=>i=r) w w':=by
 obtain⟨hB,h1,h2⟩:=h
 refine py (e:=[(0,_),(1,_)]) func244 O ntmps244 O O$ QB O$ Qx$ Pf O$ qV (Qi Vj O O)$ OU O$ OJ O$ Pf O$ Qq O$ OK O$ SC (λc1=>?_)$ λc1=>?_
 ·omega
 ·refine P8 O$ Pu O$ OX z3L O$ qV (OO U9 O O hB O)$ qV (SV U9 O)$ qV (Wm O O (by omega))$ Qu O$ PK O$ OU O$ OQ O (λc2=>?_)$ λc2=>?_
  ·omega
  ·refine OE$ OA$ Qm O$ Pu O$ OX UY O$ OW O (QQ Q7 O O O hB (by simp)) ?_;rintro w1 ⟨aj,aL⟩;refine qM O$ OU O$ OB func244 O ?_;exact⟨_,rfl,rfl,⟨aj,hk,h2⟩,aL⟩
def z77 {b2 b6 V n:Nat}(h:TX w r s a)(h2:OR w b2 [ptr r 0] 291)(h6:OR w b6 [u64v V] 23)(hn:1<=n)(su:n<=8-a%8)(hl:a+n<=8*s.length)(hV:V*2^n+2^n<=18446744073709551616)(d1:b6≠r)(d2:b2≠r)(d3:b2≠b6):
  Pm prog 215 [I (n:Int),ptr b2 0,ptr b6 0] w λu w'=>u= .tuple #[]/\TX w' r s (a+n)/\OR w' b6 [u64v (V*2^n+Pv (((P3 s).drop a).take n))] 23/\OR w' b2 [ptr r 0] 291/\Kp (λk=>k=b6\/k=r) w w':=by
 obtain⟨hB,ha,hs⟩:=h
 have jN:a&&&7=a%8:=Nat.and_two_pow_sub_one_eq_mod a 3
 obtain⟨c,hc⟩:∃c,s[a / 8]? =some c:=⟨_,List.getElem?_eq_getElem (by omega)⟩
 have hp:=z6D hc su
 obtain⟨pc,jA⟩:∃pc,Pv (((P3 s).drop a).take n)=pc:=⟨_,rfl⟩
 have fL:pc<2^n:=by
  rw[<-jA];have h1:=QF (((P3 s).drop a).take n);rw[List.length_take,List.length_drop,bitsT_length,Nat.min_eq_left (by omega)] at h1;exact h1
 rw[jA] at hp⊢
 have Jq:=c.toNat_lt
 obtain⟨rm,AU⟩:∃rm,8-a%8=rm:=⟨_,rfl⟩
 rw[AU] at hp su
 have j5:c.toNat&&&(2^rm-1)=c.toNat%2^rm:=Nat.and_two_pow_sub_one_eq_mod _ _
 obtain⟨R,hR⟩:∃R,2^rm=R:=⟨_,rfl⟩
 have vt:1<=R/\R<=256:=by
  rw[<-hR];exact⟨Nat.two_pow_pos _,by have:=Nat.pow_le_pow_right (show 0<2 by decide) (show rm<=8 by omega);simpa using this⟩
 rw[hR] at hp j5
 have mA:c.toNat%R<=c.toNat:=Nat.mod_le _ _
 have Jr:s.getD (a / 8) 0=c:=by rw[List.getD_eq_getElem?_getD,hc];rfl
 refine py (e:=[(0,_),(1,_),(2,_)]) func215 O ntmps215 O O$ qN O$ qV ((OO Vj O O h2 O))$ Pu O$ OX UY O$ qV ((OO U3 O O hB O))$ qV (XJ O O (by omega) (by omega)) ?_
 rw[jN]
 refine Ro O ?_
 rw[show(8-((a%8:Nat):Int))=((rm:Nat):Int) by omega]
 have hg:=Ext.OT w
 refine OU O$ It$ R5 (λw'=>Ext w w') O$ qT 0 O (λ_ h=>(OO Vj O O (h.OC h2) O)) hg$ OI 1 O (Q4 O) hg$ OI 2 O (Pp z3L O) hg$ qT 3 O (λ_ h=>(OO U9 O O (h.OC hB) O)) hg$ qT 4 O (λ_ h=>(OO Vj O O (h.OC h2) O)) hg$ OI 5 O (Q4 O) hg$ OI 6 O (Pp UY O) hg$ qT 7 O (λ_ h=>(OO U3 O O (h.OC hB) O)) hg$ OI 8 O (VI O O (by omega)) hg$ OZ 11 O O (hg)$ OZ 15 O O (hg) ?_
 refine OZ 16 O O (hg)$ OI 17 O (XH O O (by omega)) hg ?_
 rw[show((a:Int) / 8)=((a / 8:Nat):Int) by omega]
 refine OI 9 O (z0n U9 O O (by omega)) hg$ OI 10 O ((z2f O U5 U3 (by decide))) hg ?_
 rw[Jr]
 refine OI 12 O (zh7 rm R O O (by omega) hR (by omega)) hg ?_
 rw[show(1*(R:Int))=((R:Nat):Int) by omega]
 refine OI 13 O (XH O O (by omega)) hg ?_
 rw[show((R:Int)-1)=((R-1:Nat):Int) by omega]
 refine OI 14 O (XJ O O (by omega) (by omega)) hg ?_
 rw[j5]
 rw[show((rm:Int)-(n:Int))=((rm-n:Nat):Int) by omega]
 refine OI 18 O (Sc (rm-n) (2^(rm-n)) O O (by show rm-n<=64;omega) O) hg ?_
 rw[<-hp]
 refine OI 19 O (R7 O) hg$ qE$ Pn.qb (e:=[(0,_),(1,_),(2,_),(5,_)]) ?_
 refine qN O ?_
 have aj:=hg.OC hB
 have Js:=hg.OC h2
 have AV:=hg.OC h6
 obtain⟨N,hN⟩:∃N,2^n=N:=⟨_,rfl⟩
 rw[hN] at hV fL
 have Ny:1<=N:=by rw[<-hN];exact Nat.two_pow_pos _
 obtain⟨M,hM⟩:∃M,V*N=M:=⟨_,rfl⟩
 rw[hM] at hV
 have mB:M |||pc=M+pc:=by
  have:=Nat.two_pow_add_eq_or_of_lt (i:=n) (b:=pc) (by rw[hN];exact fL) V;rw[hN,Nat.mul_comm N V,hM] at this;exact this.symm
 rw[hN,hM]
 have sw:n<=64:=by omega
 refine qV ((OO Rr O O AV O))$ OK O$ qV (QP n N O O sw hN) ?_
 rw[hM,Nat.mod_eq_of_lt (show M<18446744073709551616 by omega)]
 refine OK O$ qV ((PZ O U3 Rr (by omega)))$ qV (Zv O O (by omega) (by omega)) ?_
 rw[mB]
 refine OW O (QQ Tf O O O AV (by simp)) ?_
 rintro w2 ⟨Jt,aq⟩
 have am:=aq.OC aj (Ne.symm d1)
 have HE:=aq.OC Js d3
 refine OD$ OL O$ qV ((OO Vj O O HE O))$ Pu O$ OX UY O$ qV ((OO U3 O O am O))$ OK O$ PV O$ Pu O$ OX UY O$ OW O (QQ Q7 O O O am (by simp)) ?_
 rintro w3 ⟨au,av⟩
 rw[show((a:Int)+(n:Int))=((a+n:Nat):Int) by omega] at au
 refine OD$ Qv func215 O ?_
 exact⟨_,rfl,rfl,⟨au,hl,hs⟩,av.OC Jt d1,av.OC HE d2,(hg.kp.trans (aq.OV (λk e=> .inl e))).trans (av.OV (λk e=> .inr e))⟩
def VD (h:TX w r s a)(n:Nat)(hn:n<=64):
  Pm prog 182 [ptr r 0,I (n:Int)] w λv w'=>(a+n<=8*s.length/\v= .tuple #[u64v (Pv (((P3 s).drop a).take n)),I 0]/\TX w' r s (a+n)/\Kp (λk=>k=r) w w')\/(8*s.length<a+n/\v= .tuple #[u64v 0,I 4]/\Ext w w'):=by
 have fR:=h.1.lt
 obtain⟨-,ha,hs⟩:=id h
 refine py (e:=[(0,_),(1,_)]) func182 O ntmps182 O O$ qN O$ OM O O (Rm O (cs:=[ptr r 0]) O) ?_
 rintro _ w1 ⟨b2,rfl,cn,ad,am⟩
 have h1:TX w1 r s a:=⟨ad.OC h.1,h.2⟩
 refine PU O$ Qx$ qN O$ qV (OO Vj O O am O)$ qV (Qi Vj O O)$ OU O$ OJ O$ Pf O$ Qq O$ OK O$ SC (λc1=>?_)$ λc1=>?_
 ·omega
 ·refine OK O$ Qu O$ PK O$ OU O$ OQ O (λc2=>?_)$ λc2=>?_
  ·omega
  ·refine Pf O$ qV (OO Vj O O am O)$ P4 zjJ O (za2 h1) ?_;rintro _ w2 ⟨rfl,ae⟩;refine Qu O$ OU O$ OQ O (λc3=>?_)$ λc3=>?_
   ·refine qN O$ PU O$ OB func182 O ?_;exact⟨_,rfl,.inr ⟨by omega,rfl,ad.trans ae⟩⟩
   ·refine OE$ OA$ qN O$ OM O O (RN (cs:=[_]) Tf O) ?_;rintro _ w3 ⟨b6,rfl,jQ,ai,aQ⟩;replace aQ:OR w3 b6 [u64v 0] 23:=aQ;have aO:=ae.trans ai;have dc:=ad.trans aO;have mz:=ad.size;have mS:=ae.size;have f9:=am.lt;have cd:a+n<=8*s.length:=by omega
    refine qM O$ qV (ymf (first:=[]) (caps:=[.tmp 2,.tmp 6]) O O)$ OU O$ Qx$ Rq (α:=Nat) (n) (λk=>[(1,I (k:Int)),(2,ptr b2 0),(6,ptr b6 0),(7,.func (.func 215) #[] #[ptr b2 0,ptr b6 0])]) (λk w'=>k<=n/\TX w' r s (a+(n-k))/\OR w' b6 [u64v (Pv (((P3 s).drop a).take (n-k)))] 23/\OR w' b2 [ptr r 0] 291/\Kp (λi=>i=r) w w') (λk=>k) ?hI ?hround
    case hI=>exact⟨Nat.le_refl _,⟨by rw[Nat.sub_self];exact dc.OC h.1,by omega,hs⟩,by rw[Nat.sub_self];exact aQ,aO.OC am,dc.kp⟩
    case hround=>
     rintro k w4 ⟨hk,g7,sx,HF,ao⟩ ih;have HG:=g7.1
     try dsimp only
     refine PG O$ Qu O$ OD$ OQ O (λaZ=>?_)$ λaZ=>?_
     ·obtain⟨p,hp⟩:∃p,a+(n-k)=p:=⟨_,rfl⟩;rw[hp] at HG g7;have jN:p&&&7=p%8:=Nat.and_two_pow_sub_one_eq_mod p 3;obtain⟨take,jO⟩:∃take,min k (8-p%8)=take:=⟨_,rfl⟩;have ss:1<=take/\take<=k/\take<=8-p%8:=by omega
      refine OE$ OH$ Pf O$ qV ((OO Vj O O HF O))$ Pu O$ OX UY O$ qV ((OO U3 O O HG O))$ qV (XJ O O (by omega) (by omega)) ?_;rw[jN];refine Ro O$ qV (ymi O O) ?_;rw[show min (k:Int) (8-((p%8:Nat):Int))=((take:Nat):Int) by omega];obtain⟨V,hV⟩:∃V,Pv (((P3 s).drop a).take (n-k))=V:=⟨_,rfl⟩;rw[hV] at sx
      have Ju:V*2^take+2^take<=18446744073709551616:=by
       have h1:=QF (((P3 s).drop a).take (n-k));rw[hV,List.length_take,List.length_drop,bitsT_length,Nat.min_eq_left (by omega)] at h1;have h2:(V+1)*2^take<=2^(n-k)*2^take:=Nat.mul_le_mul_right _ h1;rw[<-Nat.pow_add,Nat.add_mul,Nat.one_mul] at h2;have h3:=Nat.pow_le_pow_right (show 0<2 by decide) (show n-k+take<=64 by omega);have h4:(2:Nat)^64=18446744073709551616:=by decide
       omega
      refine Qw O$ P8 O$ Qz O O (RY zi6 O O) (z77 g7 HF sx ss.1 ss.2.2 (by omega) Ju (by omega) (by omega) (by omega)) ?_;rintro _ w5 ⟨rfl,sy,Jv,Jw,ak⟩;refine OD$ OL O$ P8 O$ Ro O$ OU O$ OA ?_;rw[show((k:Int)-(take:Int))=((k-take:Nat):Int) by omega];refine(ih (k-take) w5 ⟨by omega,?_,?_,Jw,?_⟩ (by omega)).qb
      ·rw[show a+(n-(k-take))=p+take by omega];exact sy
      ·rw[show n-(k-take)=(n-k)+take by omega,List.take_add,S0,hV,List.drop_drop,hp];have hl:(((P3 s).drop p).take take).length=take:=by rw[List.length_take,List.length_drop,bitsT_length];omega
       rw[hl];exact Jv
      ·exact ao.An ak (λi hi=>hi.elim (λe=> .inl (by omega)) .inr)
     ·have:k=0:=by omega
      subst this;rw[Nat.sub_zero] at g7 sx;refine ON O$ qN O$ qV (OO Rr O O sx O)$ PU O$ OB func182 O ?_;exact⟨_,rfl,.inl ⟨cd,rfl,g7,ao⟩⟩
end
def PR (v:Nat):Nat:=if v=0 then 0 else Nat.log2 v+1
def WY {v:Nat}:v<2^PR v:=by
 unfold PR
 split
 ·subst_vars;simp
 ·exact Nat.lt_log2_self
def z0z {v:Nat}(h:v≠0):2^(PR v-1)<=v:=by
 unfold PR
 rw[if_neg h,Nat.add_sub_cancel]
 exact Nat.log2_self_le h
theorem z3j {v n:Nat}(h1:2^n<=v)(h2:v<2^(n+1)):PR v=n+1:=by
 have hp:=Nat.two_pow_pos n
 have h0:v≠0:=by omega
 unfold PR
 rw[if_neg h0]
 have:=(Nat.log2_eq_iff h0).2 ⟨h1,h2⟩
 omega
def R9 {v n:Nat}(h:v<2^n):PR v<=n:=by
 by_cases h0:v=0
 ·subst h0;simp[PR]
 ·have h1:=z0z h0;have h2:2^(PR v-1)<2^n:=by omega
  have h3:=(Nat.pow_lt_pow_iff_right (by decide:1<2)).1 h2;have:PR v≠0:=by unfold PR;rw[if_neg h0];omega
  omega
def RI (v K:Nat):Nat×Nat:=
 let s:=PR (K-1)
 let m:=2^s-K
 if v<m then(v,s-1) else(v+m,s)
def QI (v K:Nat):List Bool:=Pc (RI v K).2 (RI v K).1
def Vd {K:Nat}(hK:1<=K):K<=2^PR (K-1)/\(1<K->1<=PR (K-1)/\2^(PR (K-1)-1)+1<=K):=by
 have h1:=WY (v:=K-1)
 refine⟨by omega,λh=>?_⟩
 have h2:=z0z (v:=K-1) (by omega)
 refine⟨?_,by omega⟩
 unfold PR
 rw[if_neg (by omega)];omega
def zaw {v K:Nat}(h:v<K):(RI v K).1<2^(RI v K).2:=by
 obtain⟨h1,h2⟩:=Vd (K:=K) (by omega)
 unfold RI
 dsimp only
 split
 ·rename_i hm
  by_cases hK:K=1
  ·subst hK;simp[PR] at hm
  ·obtain⟨h3,h4⟩:=h2 (by omega);have:2^PR (K-1)=2*2^(PR (K-1)-1):=by rw[<-Nat.pow_succ',show(PR (K-1)-1).succ=PR (K-1) by omega]
   dsimp only;omega
 ·dsimp only;omega
def z6P {v K:Nat}(h:v<K)(hK:1<K)(rest:List Bool):
  let s:=PR (K-1)
  let m:=2^s-K
  1<=s/\s-1<=(QI v K).length/\
  ((Pv ((QI v K).take (s-1))<m/\(QI v K).length=s-1/\Pv ((QI v K).take (s-1))=v)\/
   (m<=Pv ((QI v K).take (s-1))/\(QI v K).length=s/\2*Pv ((QI v K).take (s-1))+Pv ((QI v K).drop (s-1))=v+m)):=by
 obtain⟨h1,h2⟩:=Vd (K:=K) (by omega)
 obtain⟨h3,h4⟩:=h2 hK
 have h5:2^PR (K-1)=2*2^(PR (K-1)-1):=by rw[<-Nat.pow_succ',show(PR (K-1)-1).succ=PR (K-1) by omega]
 dsimp only
 unfold QI RI
 dsimp only
 refine⟨h3,?_⟩
 split
 ·rename_i hm
  dsimp only;rw[bitsN_length,List.take_of_length_le (by simp),Qb,Nat.mod_eq_of_lt (by omega)];exact⟨Nat.le_refl _,.inl ⟨hm,rfl,rfl⟩⟩
 ·rename_i hm
  dsimp only;rw[bitsN_length]
  have e:Pc (PR (K-1)) (v+(2^PR (K-1)-K))=Pc (PR (K-1)-1) ((v+(2^PR (K-1)-K)) / 2^1)++Pc 1 (v+(2^PR (K-1)-K)):=by
   rw[<-S5,show PR (K-1)-1+1=PR (K-1) by omega]
  rw[e,List.take_left' (by simp),List.drop_left' (by simp),Qb,Qb,Nat.mod_eq_of_lt (by omega)];exact⟨by omega,.inr ⟨by omega,rfl,by omega⟩⟩
inductive Cd where
 |unary
 |gamma
 |zeta (k:Nat)
def Cd.zeros:Cd->Nat->Nat
 | .unary,v=>v
 | .gamma,v=>Nat.log2 (v+1)
 | .zeta k,v=>Nat.log2 (v+1) / k
def Cd.rest:Cd->Nat->List Bool
 | .unary,_=>[]
 | .gamma,v=>Pc (Nat.log2 (v+1)) (v+1-2^Nat.log2 (v+1))
 | .zeta k,v=>let h:=Nat.log2 (v+1) / k;QI (v+1-2^(h*k)) (2^(h*k)*2^k-2^(h*k))
def Cd.enc (c:Cd)(v:Nat):List Bool:=List.replicate (c.zeros v) false++true::c.rest v
def W2 {v:Nat}(h:v<=281474976710654):2^Nat.log2 (v+1)<=v+1/\v+1<2^(Nat.log2 (v+1)+1)/\Nat.log2 (v+1)<=47:=by
 have h1:=Nat.log2_self_le (n:=v+1) (by omega)
 have h2:=Nat.lt_log2_self (n:=v+1)
 refine⟨h1,h2,?_⟩
 have h3:2^Nat.log2 (v+1)<2^48:=by
  have:(2:Nat)^48=281474976710656:=by decide
  omega
 have:=(Nat.pow_lt_pow_iff_right (by decide:1<2)).1 h3
 omega
def Y9 {k v:Nat}(hk:1<=k):let h:=Nat.log2 (v+1) / k;2^(h*k)<=v+1/\v+1-2^(h*k)<2^(h*k)*2^k-2^(h*k)/\1<=2^(h*k)*2^k-2^(h*k):=by
 dsimp only
 have h1:=Nat.log2_self_le (n:=v+1) (by omega)
 have h2:=Nat.lt_log2_self (n:=v+1)
 have h3:Nat.log2 (v+1) / k*k<=Nat.log2 (v+1):=Nat.div_mul_le_self _ _
 have h4:Nat.log2 (v+1)+1<=Nat.log2 (v+1) / k*k+k:=by
  have:=Nat.div_add_mod (Nat.log2 (v+1)) k;have:=Nat.mod_lt (Nat.log2 (v+1)) (show 0<k by omega);have e:=Nat.mul_comm k (Nat.log2 (v+1) / k);omega
 have h5:2^(Nat.log2 (v+1) / k*k)<=2^Nat.log2 (v+1):=Nat.pow_le_pow_right (by decide) h3
 have h6:2^(Nat.log2 (v+1)+1)<=2^(Nat.log2 (v+1) / k*k+k):=Nat.pow_le_pow_right (by decide) h4
 rw[Nat.pow_add 2 (Nat.log2 (v+1) / k*k) k] at h6
 have h7:2<=2^k:=by
  have:=Nat.pow_le_pow_right (show 0<2 by decide) hk
  simpa using this
 have h8:2^(Nat.log2 (v+1) / k*k)*2<=2^(Nat.log2 (v+1) / k*k)*2^k:=Nat.mul_le_mul_left _ h7
 have h9:=Nat.two_pow_pos (Nat.log2 (v+1) / k*k)
 omega
def Yd {x k:Nat}(h:2^k<=x):PR x=PR (x / 2^k)+k:=by
 have hk:=Nat.two_pow_pos k
 have hy:x / 2^k≠0:=by have:=Nat.div_pos h hk;omega
 have h1:=z0z hy
 have h2:=WY (v:=x / 2^k)
 have h0:PR (x / 2^k)≠0:=by unfold PR;rw[if_neg hy];omega
 obtain⟨n,hn⟩:∃n,PR (x / 2^k)=n+1:=⟨PR (x / 2^k)-1,by omega⟩
 rw[hn] at h1 h2⊢
 rw[Nat.add_sub_cancel] at h1
 have h3:2^(n+k)<=x:=by
  rw[Nat.pow_add];exact Nat.le_trans (Nat.mul_le_mul_right _ h1) (Nat.div_mul_le_self _ _)
 have h4:x<2^(n+k+1):=by
  rw[show n+k+1=(n+1)+k by omega,Nat.pow_add];exact(Nat.div_lt_iff_lt_mul hk).1 h2
 rw[z3j h3 h4];omega
def zfE:OG:=[0,1,2,2,3,3,3,3,4,4,4,4,4,4,4,4,5,5,5,5,5,5,5,5,5,5,5,5,5,5,5,5,6,6,6,6,6,6,6,6,6,6,6,6,6,6,6,6,6,6,6,6,6,6,6,6,6,6,6,6,6,6,6,6,7,7,7,7,7,7,7,7,7,7,7,7,7,7,7,7,7,7,7,7,7,7,7,7,7,7,7,7,7,7,7,7,7,7,7,7,7,7,7,7,7,7,7,7,7,7,7,7,7,7,7,7,7,7,7,7,7,7,7,7,7,7,7,7,8,8,8,8,8,8,8,8,8,8,8,8,8,8,8,8,8,8,8,8,8,8,8,8,8,8,8,8,8,8,8,8,8,8,8,8,8,8,8,8,8,8,8,8,8,8,8,8,8,8,8,8,8,8,8,8,8,8,8,8,8,8,8,8,8,8,8,8,8,8,8,8,8,8,8,8,8,8,8,8,8,8,8,8,8,8,8,8,8,8,8,8,8,8,8,8,8,8,8,8,8,8,8,8,8,8,8,8,8,8,8,8,8,8,8,8,8,8,8,8,8,8,8,8,8,8,8,8]
theorem zaI:zfE.length=256:=by decide+kernel
def zkN:∀x:Fin 256,(zfE.getD x.val 0).toNat=PR x.val:=by decide+kernel
section
variable {w:World}
def Us (x:Nat)(hx:x<18446744073709551616)(w:World):Pm prog 159 [u64v x] w λv w'=>v=I (PR x:Int)/\w'=w:=by
 refine py (e:=[(0,_)]) func159 O ntmps159 O O$ QB O$ PG O$ Te O$ OD$ PI (λe' w'=>w=w'/\∃x1 n1:Nat,e'=[(0,u64v x1),(2,I (n1:Int))]/\PR x=PR x1+n1/\x1<4294967296/\n1<=32) ?cE$ λcE=>?cV
 case cE=>
  rintro e' w' ⟨rfl,x1,n1,rfl,h1,h2,h3⟩;refine PG O$ Te O$ OD$ PI (λe' w'=>w=w'/\∃x2 n2:Nat,e'=[(0,u64v x2),(2,I (n2:Int))]/\PR x=PR x2+n2/\x2<65536/\n2<=48) ?dv$ λdv=>?ff
  case dv=>
   rintro e' w' ⟨rfl,x2,n2,rfl,h4,h5,h6⟩;refine PG O$ Te O$ OD$ PI (λe' w'=>w=w'/\∃x3 n3:Nat,e'=[(0,u64v x3),(2,I (n3:Int))]/\PR x=PR x3+n3/\x3<256/\n3<=56) ?aw$ λaw=>?dz
   case aw=>
    rintro e' w' ⟨rfl,x3,n3,rfl,h7,h8,h9⟩;have fd:=zkN ⟨x3,h8⟩;dsimp only at fd;have lM:PR x3<=8:=R9 (by omega);refine Qm O$ qV (z2e O Rr U5) ?_;rw[Nat.mod_eq_of_lt h8];refine qV (z0n (l:=zfE) U9 O O (by rw[zaI];exact h8)) ?_;rw[fd];refine qV ((PJ O U5 U3 (by omega)))$ PV O$ OU O$ OB func159 O ?_;exact⟨_,rfl,by simp only[Qc];congr 1;omega,rfl⟩
   case dz=>
    refine OQ O (λhc=>?_)$ λhc=>?_
    ·refine Pf O$ qV (Sc 8 256 O O (by decide) O)$ OU O$ Rh O$ PV O$ OU O ((aw _ _ ⟨rfl,x2 / 256,n2+8,rfl,?_,?_,?_⟩).qb)
     ·have e1:=Yd (x:=x2) (k:=8) (by omega);rw[show x2 / 2^8=x2 / 256 from rfl] at e1;omega
     ·omega
     ·omega
    ·refine OE ?_;exact(aw _ _ ⟨rfl,x2,n2,rfl,h4,by omega,by omega⟩).qb
  case ff=>
   refine OQ O (λhc=>?_)$ λhc=>?_
   ·refine Pf O$ qV (Sc 16 65536 O O (by decide) O)$ OU O$ Rh O$ PV O$ OU O ((dv _ _ ⟨rfl,x1 / 65536,n1+16,rfl,?_,?_,?_⟩).qb)
    ·have e1:=Yd (x:=x1) (k:=16) (by omega);rw[show x1 / 2^16=x1 / 65536 from rfl] at e1;omega
    ·omega
    ·omega
   ·refine OE ?_;exact(dv _ _ ⟨rfl,x1,n1,rfl,h1,by omega,by omega⟩).qb
 case cV=>
  refine OQ O (λhc=>?_)$ λhc=>?_
  ·refine Pf O$ qV (Sc 32 4294967296 O O (by decide) O)$ OU O$ OL O$ OU O ((cE _ _ ⟨rfl,x / 4294967296,32,rfl,?_,?_,?_⟩).qb)
   ·exact Yd (x:=x) (k:=32) (by omega)
   ·omega
   ·omega
  ·refine OE ?_;exact(cE _ _ ⟨rfl,x,0,rfl,by omega,by omega,by omega⟩).qb
/-! ### Codes -/
def Sy:Cd->List Value
 | .unary=>[.int .u8 0,u64v 0]
 | .gamma=>[.int .u8 1,u64v 0]
 | .zeta k=>[.int .u8 3,u64v k]
abbrev cdV (c:Cd):Value:= .agg (Sy c).toArray
def Cd.QA:Cd->Prop
 | .zeta k=>1<=k/\k<=16
 |_=>True
def Cd.most:Cd->Nat
 | .unary=>65535
 |_=>281474976710654
def Cd.p0:Cd->Nat->Nat×Nat
 | .unary,_=>(0,0)
 | .gamma,v=>(v+1-2^Nat.log2 (v+1),Nat.log2 (v+1))
 | .zeta k,v=>let h:=Nat.log2 (v+1) / k;RI (v+1-2^(h*k)) (2^(h*k)*2^k-2^(h*k))
def Uw (c:Cd)(hc:c.QA)(w:World):Pm prog 247 [cdV c] w λv w'=>v=I 0/\Ext w w':=by
 cases c with
 | unary =>
   refine py (e:=[(0,_)]) func247 O ntmps247 O O$ qN O$ OM O O (Rm O (cs:=[.int .u8 0,u64v 0]) O) ?_;rintro _ w1 ⟨b1,rfl,bU,ad,aj⟩;refine Qw O$ OU O$ It$ qN O$ OX Sj O$ qV (OO U5 O O aj O)$ OD$ OH$ It$ qN O$ Ri O$ Rp$ OU O$ OS O ?_;refine OE$ OS O$ OL O$ OX Xk O$ qV (OO Rr O O aj O)$ Ri O$ Rp$ OU O$ OA$ PG O$ qV ((Sb O))$ PW O$ QB O$ OB func247 O ?_
   exact⟨_,rfl,rfl,ad⟩
 | gamma =>
   refine py (e:=[(0,_)]) func247 O ntmps247 O O$ qN O$ OM O O (Rm O (cs:=[.int .u8 1,u64v 0]) O) ?_;rintro _ w1 ⟨b1,rfl,bU,ad,aj⟩;refine Qw O$ OU O$ It$ qN O$ OX Sj O$ qV (OO U5 O O aj O)$ OD$ OH$ It$ qN O$ Ri O$ PF$ OU O$ OJ O ?_;refine qN O$ Ri O$ Rp$ OU O$ OS O$ OE$ OS O$ OL O$ OX Xk O$ qV (OO Rr O O aj O)$ Ri O$ Rp$ OU O$ OA ?_;refine PG O$ qV ((Sb O))$ PW O$ QB O$ OB func247 O ?_
   exact⟨_,rfl,rfl,ad⟩
 | zeta k =>
   obtain⟨aL,aq⟩:1<=k/\k<=16:=hc;refine py (e:=[(0,_)]) func247 O ntmps247 O O$ qN O$ OM O O (Rm O (cs:=[.int .u8 3,u64v k]) O) ?_;rintro _ w1 ⟨b1,rfl,bU,ad,aj⟩;refine Qw O$ OU O$ It$ qN O$ OX Sj O$ qV (OO U5 O O aj O)$ OD$ OH$ It$ qN O$ Ri O$ PF$ OU O$ OJ O ?_;refine qN O$ Ri O$ PF$ OU O$ OJ O$ OL O$ Ri O$ PF$ OU O$ OJ O$ qN O$ Ri O$ Rp$ OU O ?_;refine OS O$ OL O$ OX Xk O$ qV (OO Rr O O aj O)$ Te O$ Rp$ OK O$ OX Xk O$ qV (OO Rr O O aj O)$ zle O$ Rp$ QJ O$ OU O$ OA ?_;refine PG O$ qV ((Sb O))$ PW O$ QB O$ OB func247 O ?_;exact⟨_,rfl,rfl,ad⟩
def z2t (c:Cd)(hc:c.QA)(w:World):Pm prog 248 [cdV c] w λv w'=>v=u64v c.most/\Ext w w':=by
 cases c with
 | unary =>
   refine py (e:=[(0,_)]) func248 O ntmps248 O O$ qN O$ OM O O (Rm O (cs:=[.int .u8 0,u64v 0]) O) ?_;rintro _ w1 ⟨b1,rfl,bU,ad,aj⟩;refine OU O$ Qx$ qN O$ qV (Pt (news:=[.int .u8 0,u64v 0]) St O QS O (aj.cells (n:=2) O) O)$ P4 z4Y O (Uw (.unary) hc w1) ?_;rintro _ w2 ⟨rfl,ae⟩;have am:=ae.OC aj;refine Qf O$ PF$ OU O$ OJ O$ qN O$ OX Sj O$ qV (OO U5 O O am O)$ Ri O$ Rp$ OU O$ OS O$ QB O$ OB func248 O ?_
   exact⟨_,rfl,rfl,ad.trans ae⟩
 | gamma =>
   refine py (e:=[(0,_)]) func248 O ntmps248 O O$ qN O$ OM O O (Rm O (cs:=[.int .u8 1,u64v 0]) O) ?_;rintro _ w1 ⟨b1,rfl,bU,ad,aj⟩;refine OU O$ Qx$ qN O$ qV (Pt (news:=[.int .u8 1,u64v 0]) St O QS O (aj.cells (n:=2) O) O)$ P4 z4Y O (Uw (.gamma) hc w1) ?_;rintro _ w2 ⟨rfl,ae⟩;have am:=ae.OC aj;refine Qf O$ PF$ OU O$ OJ O$ qN O$ OX Sj O$ qV (OO U5 O O am O)$ Ri O$ PF$ OU O$ OJ O$ qN O$ OX Sj O$ qV (OO U5 O O am O) ?_;refine Ri O$ PF$ OU O$ Tu O$ OA$ QB O$ OB func248 O ?_
   exact⟨_,rfl,rfl,ad.trans ae⟩
 | zeta k =>
   refine py (e:=[(0,_)]) func248 O ntmps248 O O$ qN O$ OM O O (Rm O (cs:=[.int .u8 3,u64v k]) O) ?_;rintro _ w1 ⟨b1,rfl,bU,ad,aj⟩;refine OU O$ Qx$ qN O$ qV (Pt (news:=[.int .u8 3,u64v k]) St O QS O (aj.cells (n:=2) O) O)$ P4 z4Y O (Uw (.zeta k) hc w1) ?_;rintro _ w2 ⟨rfl,ae⟩;have am:=ae.OC aj;refine Qf O$ PF$ OU O$ OJ O$ qN O$ OX Sj O$ qV (OO U5 O O am O)$ Ri O$ PF$ OU O$ OJ O$ qN O$ OX Sj O$ qV (OO U5 O O am O) ?_;refine Ri O$ PF$ OU O$ Tu O$ OA$ QB O$ OB func248 O ?_;exact⟨_,rfl,rfl,ad.trans ae⟩
def zaV (c:Cd)(v:Nat)(hc:c.QA)(hv:v<=c.most)(w:World):Pm prog 237 [cdV c,u64v v] w λu w'=>u= .bool true/\Ext w w':=by
 obtain⟨x,y,du⟩:∃x y,Sy c=[x,y]:=by cases c<;>exact⟨_,_,rfl⟩
 refine py (e:=[(0,_),(1,_)]) func237 O ntmps237 O O$ qN O$ OM O O (Rm O (cs:=Sy c) O) ?_
 rintro _ w1 ⟨b1,rfl,bU,ad,aj⟩
 refine Qw O$ qV (Pt (news:=Sy c) St O QS O (aj.cells (n:=2) (by rw[du];rfl)) (by rw[du];rfl)) ?_
 refine P4 z4Y O (Uw c hc w1) ?_
 rintro _ w2 ⟨rfl,ae⟩
 have am:=ae.OC aj
 refine Ri O$ Rp$ P8 O$ qV (Pt (news:=Sy c) St O QS O (am.cells (n:=2) (by rw[du];rfl)) (by rw[du];rfl)) ?_
 refine P4 zet O (z2t c hc w2) ?_
 rintro _ w3 ⟨rfl,ai⟩
 refine zle O$ Rp$ QJ O$ OU O$ OB func237 O ?_
 exact⟨_,rfl,rfl,(ad.trans ae).trans ai⟩
end
section
def z78 (v K:Nat)(hK:1<=K)(hv:v<K)(Jy:K<=9223372036854775808)(w:World):Pm prog 249 [u64v v,u64v K] w λu w'=>u= .agg #[u64v (RI v K).1,I ((RI v K).2:Int)]/\Ext w w':=by
 obtain⟨s,hs⟩:∃s,PR (K-1)=s:=⟨_,rfl⟩
 have hf:=Vd hK
 rw[hs] at hf
 obtain⟨h1,h2⟩:=hf
 have e63:(2:Nat)^63=9223372036854775808:=by decide
 have BW:s<=63:=by rw[<-hs];exact R9 (by omega)
 obtain⟨Q,hQ⟩:∃Q,2^s=Q:=⟨_,rfl⟩
 have BX:Q<=9223372036854775808:=by
  have:=Nat.pow_le_pow_right (show 0<2 by decide) BW;omega
 rw[hQ] at h1
 have hP:RI v K=if v<Q-K then(v,s-1) else(v+(Q-K),s):=by unfold RI;rw[hs];dsimp only;rw[hQ]
 refine py (e:=[(0,_),(1,_)]) func249 O ntmps249 O O$ qN O$ OM O O (RN (cs:=[_,_]) SQ O) ?_
 rintro _ w1 ⟨b4,rfl,fC,ad,aK⟩
 refine qM O$ OK O$ qV (VZ (n:=1) O O O (by show K<2^64;omega) hK) ?_
 refine P4 z35 O (Us (K-1) (by omega) w1) ?_
 rintro _ w1 ⟨rfl,rfl⟩
 rw[hs]
 refine OU O$ PG O$ qV (QP s Q O O (by omega) hQ) ?_
 rw[show 1*Q%18446744073709551616=Q by omega]
 refine OK O$ qV (VZ O O O (by show Q<2^64;omega) h1) ?_
 refine Qw O$ P8 O$ Te O$ OD$ OQ O (λjR=>?_)$ λjR=>?_
 ·rw[if_neg (by omega)] at hP;rw[hP];refine Qm O$ qV (RQ O O) ?_;rw[Nat.mod_eq_of_lt (show v+(Q-K)<18446744073709551616 by omega)];refine OK O$ qV (Sk (cs:=[_,_]) SQ O zcs O O)$ OW O (PO (news:=[u64v (v+(Q-K)),I (s:Int)]) SQ O O O O aK (by simp)) ?_;rintro w2 ⟨am,aq⟩;replace am:OR w2 b4 [u64v (v+(Q-K)),I (s:Int)] 353:=am;refine OD$ Po func249 (.cell zaM O SQ O (OR.cells (n:=2) am (news:=[_,_]) O) O .nil) ?_;exact⟨_,rfl,rfl,ad.An aq (λi hi=>by omega)⟩
 ·rw[if_pos (by omega)] at hP;rw[hP]
  have HH:K≠1:=λe=>by
   have e0:s=0:=by rw[<-hs,e];rfl
   have e1:Q=1:=by rw[<-hQ,e0]
   omega
  have dA:1<=s:=(h2 (by omega)).1;refine OE$ Qm O$ Ro O ?_;rw[show((s:Int)-1)=((s-1:Nat):Int) by omega];refine qV (Sk (cs:=[_,_]) SQ O zcs O O)$ OW O (PO (news:=[u64v v,I ((s-1:Nat):Int)]) SQ O O O O aK (by simp)) ?_;rintro w2 ⟨am,aq⟩;replace am:OR w2 b4 [u64v v,I ((s-1:Nat):Int)] 353:=am;refine OD$ Po func249 (.cell zaM O SQ O (OR.cells (n:=2) am (news:=[_,_]) O) O .nil) ?_;exact⟨_,rfl,rfl,ad.An aq (λi hi=>by omega)⟩
def z9m (n:Nat)(h:n≠0):PR n-1=Nat.log2 n/\1<=PR n:=by
 unfold PR;rw[if_neg h];exact⟨rfl,by omega⟩
def z1Q (c:Cd)(v:Nat)(hc:c.QA)(hv:v<=281474976710654)(w:World):Pm prog 238 [cdV c,u64v v] w λu w'=>u= .tuple #[I (c.zeros v:Int),.agg #[u64v (c.p0 v).1,I ((c.p0 v).2:Int),u64v 0,I 0]]/\Ext w w':=by
 obtain⟨l1,l2⟩:=z9m (v+1) (by omega)
 obtain⟨g1,g2,g3⟩:=W2 hv
 obtain⟨b,hb⟩:∃b,Nat.log2 (v+1)=b:=⟨_,rfl⟩
 rw[hb] at l1 g1 g2 g3
 obtain⟨Q,hQ⟩:∃Q,2^b=Q:=⟨_,rfl⟩
 rw[hQ] at g1
 have BY:Q<=281474976710656:=by omega
 obtain⟨x,y,du⟩:∃x y,Sy c=[x,y]:=by cases c<;>exact⟨_,_,rfl⟩
 refine py (e:=[(0,_),(1,_)]) func238 O ntmps238 O O$ qN O$ OM O O (Rm O (cs:=Sy c) O) ?_
 rintro _ w1 ⟨b2,rfl,cn,ad,am⟩
 refine RT O$ OM O O (RN (cs:=[_,_,_,_]) UI O) ?_
 rintro _ w2 ⟨b5,rfl,ig,ae,aH⟩
 replace aH:OR w2 b5 [u64v 0,I 0,u64v 0,I 0] 354:=aH
 refine qM O$ OK O$ qV (RQ O O) ?_
 rw[show(v+1)%18446744073709551616=v+1 by omega]
 refine Qt O$ P4 z35 O (Us (v+1) (by omega) w2) ?_
 rintro _ w2 ⟨rfl,rfl⟩
 refine Ro O ?_
 rw[show((PR (v+1):Int)-1)=((b:Nat):Int) by omega]
 refine Qw O$ P8 O$ qV (QP b Q O O (by omega) hQ) ?_
 rw[show 1*Q%18446744073709551616=Q by omega]
 refine qV (VZ O O O (by show v+1<2^64;omega) g1) ?_
 refine OK O$ qV (Sk (cs:=[_,_]) SQ O zcs O O)$ OM O O (RN (cs:=[_,_]) SQ O) ?_
 rintro _ w3 ⟨b8,rfl,gV,ai,ce⟩
 refine OW O (PO (news:=[u64v (v+1-Q),I (b:Int)]) SQ O O O O ce (by simp)) ?_
 rintro w4 ⟨sA,ao⟩
 replace sA:OR w4 b8 [u64v (v+1-Q),I (b:Int)] 353:=sA
 have z1:=ad.size
 have z2:=ae.size
 have z3:=ai.size
 have l2':=am.lt
 have l5':=aH.lt
 have eD:=ao.OC (ai.OC (ae.OC am)) (by omega)
 have eE:=ao.OC (ai.OC aH) (by omega)
 have bF:Ext w w4:=((ad.trans ae).trans ai).An ao (λi hi=>by omega)
 cases c with
 | unary =>
   replace eD:OR w4 b2 [.int .u8 0,u64v 0] 317:=eD;have hg:=Ext.OT w4;refine OD$ It$ qN O$ OX Sj O$ qV (OO U5 O O eD O)$ OD$ OH$ qN O$ Ri O$ Rp$ OU O$ OS O$ It$ P7 [4] (λw'=>Ext w4 w') (by kernel_rfl) O ?_;refine PL 0 O O (hg)$ P9 1 O (PJ O Rr U3 (by omega)) hg$ P9 3 O (R7 O) hg$ qL 2 O (λ_ h=>Pt (news:=[u64v 0,I 0,u64v 0,I 0]) z1n O UI O ((h.OC eE).cells (n:=4) O) O) hg$ SM [4]$ qO 4$ PC (i:=4) O O (PO (news:=[u64v 0,I 0,u64v 0,I 0]) UI O O O O (hg.OC eE) (by simp)) ?_;rintro w5 ⟨aQ,ak⟩;refine⟨trivial,?_⟩;replace aQ:OR w5 b5 [u64v 0,I 0,u64v 0,I 0] 354:=aQ;refine qE$ Pn.qb (e:=[(1,_),(2,_),(4,_),(5,_)]) ?_;refine Po func238 (.tmp O (.cell z1n O UI O (OR.cells (n:=4) aQ (news:=[_,_,_,_]) O) O .nil)) ?_
   exact⟨_,rfl,rfl,(bF.trans hg).An ak (λi hi=>by omega)⟩
 | gamma =>
   replace eD:OR w4 b2 [.int .u8 1,u64v 0] 317:=eD;have hg:=Ext.OT w4;refine OD$ It$ qN O$ OX Sj O$ qV (OO U5 O O eD O)$ OD$ OH$ qN O$ Ri O$ PF$ OU O$ OJ O$ qN O$ Ri O ?_;refine Rp$ OU O$ Pn.qb (e:=[(1,_),(2,_),(4,_),(5,_),(6,_),(7,_),(8,_),(24,_),(30,_)]) ?_;refine OS O$ It$ P7 [4] (λw'=>Ext w4 w') (by kernel_rfl) O$ PL 0 O O (hg)$ P9 3 O (R7 O) hg$ qL 1 O (λ_ h=>Pt (news:=[u64v (v+1-Q),I (b:Int)]) zaM O SQ O ((h.OC sA).cells (n:=2) O) O) hg$ P9 2 O (zjQ (parts:=[(0,.tmp 33)]) (cs:=[_,_,_,_]) UI O z1n SQ O O) hg$ SM [4]$ qO 4$ PC (i:=4) O O (PO (news:=[u64v (v+1-Q),I (b:Int),u64v 0,I 0]) UI O O O O (hg.OC eE) (by simp)) ?_;rintro w5 ⟨aQ,ak⟩;refine⟨trivial,?_⟩;replace aQ:OR w5 b5 [u64v (v+1-Q),I (b:Int),u64v 0,I 0] 354:=aQ;refine qE$ Po func238 (.tmp O (.cell z1n O UI O (OR.cells (n:=4) aQ (news:=[_,_,_,_]) O) O .nil)) ?_
   exact⟨_,rfl,by simp[Qc,Cd.zeros,Cd.p0,hb,hQ],(bF.trans hg).An ak (λi hi=>by omega)⟩
 | zeta k =>
   obtain⟨aL,aq⟩:1<=k/\k<=16:=hc;have f:=Y9 (k:=k) (v:=v) aL;dsimp only at f;rw[hb] at f;obtain⟨h,hh⟩:∃h,b / k=h:=⟨_,rfl⟩;obtain⟨m,hm⟩:∃m,h*k=m:=⟨_,rfl⟩;have lN:m<=b:=by rw[<-hm,<-hh];exact Nat.div_mul_le_self _ _
   rw[hh,hm] at f;obtain⟨F,hF⟩:∃F,2^m=F:=⟨_,rfl⟩;obtain⟨G,hG⟩:∃G,2^k=G:=⟨_,rfl⟩;rw[hF,hG] at f;obtain⟨f1,f2,f3⟩:=f;obtain⟨E,hE⟩:∃E,F*G=E:=⟨_,rfl⟩
   have BZ:E<=9223372036854775808:=by
    rw[<-hE,<-hF,<-hG,<-Nat.pow_add];have:=Nat.pow_le_pow_right (show 0<2 by decide) (show m+k<=63 by omega);have e63:(2:Nat)^63=9223372036854775808:=by decide
    omega
   rw[hE] at f2 f3;have C1:(Cd.zeta k).zeros v=h:=by show Nat.log2 (v+1) / k=h;rw[hb,hh]
   have C2:(Cd.zeta k).p0 v=RI (v+1-F) (E-F):=by
    show RI (v+1-2^(Nat.log2 (v+1) / k*k)) (2^(Nat.log2 (v+1) / k*k)*2^k-2^(Nat.log2 (v+1) / k*k))=_;rw[hb,hh,hm,hF,hG,hE]
   rw[C1,C2];have qR:(h:Int)*(k:Int)=(m:Int):=by rw[<-hm];simp
   have gW:(b:Int) / (k:Int)=(h:Int):=by rw[<-hh];simp
   replace eD:OR w4 b2 [.int .u8 3,u64v k] 317:=eD;refine OD$ It$ qN O$ OX Sj O$ qV (OO U5 O O eD O)$ OD$ OH$ qN O$ Ri O$ PF$ OU O$ OJ O$ qN O$ Ri O ?_;refine PF$ OU O$ Pn.qb (e:=[(1,_),(2,_),(4,_),(5,_),(6,_),(7,_),(8,_),(24,_),(30,_)]) ?_;refine OJ O$ qN O$ Ri O$ PF$ OU O$ OJ O$ qN O$ Ri O$ Rp$ OU O$ OS O$ qN O$ OX Xk O$ qV (OO Rr O O eD O) ?_;refine qV (PJ O Rr U3 (by omega))$ Qw O$ P8 O$ qV (VI O O (by omega)) ?_;rw[gW];refine Qw O$ P8 O$ qV (Wm O O (by rw[qR];omega)) ?_;rw[qR];refine qV (QP m F O O (by omega) hF) ?_;rw[show 1*F%18446744073709551616=F by omega];refine OU O$ Pn.qb (e:=[(1,_),(2,_),(4,_),(5,_),(6,_),(9,_),(10,_),(11,_)]) ?_;refine Qm O$ OK O$ qV (VZ O O O (by show v+1<2^64;omega) f1) ?_;refine P8 O$ qV (QP k G O O (by omega) hG) ?_;rw[hE,Nat.mod_eq_of_lt (show E<18446744073709551616 by omega)];refine OK O$ qV (VZ O O O (by show E<2^64;omega) (by omega)) ?_;refine P4 zjz O (z78 (v+1-F) (E-F) f3 f2 (by omega) w4) ?_;rintro _ w5 ⟨rfl,aT⟩;refine qV (zjQ (parts:=[(0,.tmp 69)]) (cs:=[_,_,_,_]) UI O z1n SQ O O)$ RT O ?_;have wu:=aT.OC eE;refine OW O (PO (news:=[u64v (RI (v+1-F) (E-F)).1,I ((RI (v+1-F) (E-F)).2:Int),u64v 0,I 0]) UI O O O O wu (by simp)) ?_;rintro w6 ⟨aQ,aP⟩;replace aQ:OR w6 b5 [u64v (RI (v+1-F) (E-F)).1,I ((RI (v+1-F) (E-F)).2:Int),u64v 0,I 0] 354:=aQ;refine OD$ Po func238 (.tmp O (.cell z1n O UI O (OR.cells (n:=4) aQ (news:=[_,_,_,_]) O) O .nil)) ?_;exact⟨_,rfl,rfl,(bF.trans aT).An aP (λi hi=>by omega)⟩
end
def hiB (w:Nat):Nat->Nat->List Nat->List Bool
 |_,_,[]=>[]
 |len,i,v::r=>List.replicate (v / 2^w+i-len) false++true::hiB w (v / 2^w+i+1) (i+1) r
abbrev Nof (l:List Nat):Prop:=l.Pairwise (·<=·)
def RG:List Bool->Nat->Option Nat
 |[],_=>none
 |true::l,0=>some 0
 |true::l,k+1=>(RG l k).map (·+1)
 |false::l,k=>(RG l k).map (·+1)
theorem Ux:∀(z:Nat) (l:List Bool) (k:Nat),RG (List.replicate z false++l) k=(RG l k).map (·+z)
 |0,l,k=>by simp
 | z + 1, l, k => by
   rw[List.replicate_succ,List.cons_append,RG,Ux z l k,Option.map_map]
   congr 1
theorem z0R (w:Nat):∀(l:List Nat) (len i k:Nat) (v:Nat),Nof l->l[k]? =some v->(∀x,l.head? =some x->len<=x / 2^w+i)->RG (hiB w len i l) k=some (v / 2^w+i+k-len)
 |[],len,i,k,v,_,h,_=>by simp at h
 | x :: r, len, i, 0, v, _, h, hl => by
   simp at h;subst h;have:=hl x O;rw[hiB,Ux,RG]
   simp
 | x :: r, len, i, k + 1, v, hn, h, hl => by
   rw[List.getElem?_cons_succ] at h;obtain⟨n1,n2⟩:=List.pairwise_cons.1 hn;have hx:=hl x O;have hxv:x<=v:=n1 v (List.mem_of_getElem? h);have hd:=Nat.div_le_div_right (c:=2^w) hxv
   rw[hiB,Ux,RG,z0R w r _ (i+1) k v n2 h (λy hy=>by
    have hxy:x<=y:=n1 y (by cases r with
     |nil=>simp at hy
     |cons a r=>simp at hy;simp[hy])
    have:=Nat.div_le_div_right (c:=2^w) hxy
    omega)]
   simp;omega
theorem Zr:∀(l:List Bool) (j p m:Nat),RG l j=some p->RG (l.drop p) m=(RG l (j+m)).map (·-p)
 |[],j,p,m,h=>by simp[RG] at h
 | true :: l, 0, p, m, h => by
   simp[RG] at h;subst h
   simp
 | true :: l, j + 1, p, m, h => by
   simp only[RG,Option.map_eq_some_iff] at h;obtain⟨q,hq,rfl⟩:=h;rw[List.drop_succ_cons,Zr l j q m hq,show j+1+m=(j+m)+1 by omega,RG,Option.map_map]
   congr 1
   funext x;simp
 | false :: l, j, p, m, h => by
   simp only[RG,Option.map_eq_some_iff] at h;obtain⟨q,hq,rfl⟩:=h;rw[List.drop_succ_cons,Zr l j q m hq,RG,Option.map_map]
   congr 1
   funext x;simp
theorem Wp:∀(a b:List Bool) (k:Nat),RG (a++b) k=if k<a.count true then RG a k else(RG b (k-a.count true)).map (·+a.length)
 |[],b,k=>by simp
 |true::a,b,0=>by simp[RG]
 | true :: a, b, k + 1 => by
   rw[List.cons_append,RG,Wp a b k,List.count_cons_self];split
   ·rename_i h
    rw[if_pos (by omega),RG]
   ·rename_i h
    rw[if_neg (by omega),Option.map_map,show k+1-(a.count true+1)=k-a.count true by omega]
    congr 1
 | false :: a, b, k => by
   rw[List.cons_append,RG,Wp a b k,List.count_cons_of_ne (by decide)];split
   ·rw[RG]
   ·rw[Option.map_map]
    congr 1
def z0I:∀{l:List Bool} {k p:Nat},RG l k=some p->p<l.length/\l[p]? =some true
 |true::l,0,p,h=>by simp[RG] at h;subst h;simp
 | true :: l, k + 1, p, h => by
   simp only[RG,Option.map_eq_some_iff] at h;obtain⟨q,hq,rfl⟩:=h;have:=z0I hq
   simp;exact this
 | false :: l, k, p, h => by
   simp only[RG,Option.map_eq_some_iff] at h;obtain⟨q,hq,rfl⟩:=h;have:=z0I hq
   simp;exact this
 |[],k,p,h=>by simp[RG] at h
def z7O (w:Nat):∀(l:List Nat) (len i:Nat),Nof l->(∀x,l.head? =some x->len<=x / 2^w+i)->∀v,l.getLast? =some v->len+(hiB w len i l).length=v / 2^w+i+l.length
 |[],len,i,_,_,v,h=>by simp at h
 | [x], len, i, _, hl, v, h => by
   simp at h;subst h;have:=hl x O
   simp[hiB];omega
 | x :: y :: r, len, i, hn, hl, v, h => by
   obtain⟨n1,n2⟩:=List.pairwise_cons.1 hn;have hx:=hl x O;have hxy:=Nat.div_le_div_right (c:=2^w) (n1 y (by simp));have:=z7O w (y::r) (x / 2^w+i+1) (i+1) n2 (λz hz=>by simp at hz;subst hz;omega) v (by simpa using h);rw[hiB,List.length_append,List.length_replicate,List.length_cons];simp only[List.length_cons] at this⊢;omega
theorem Y1 (z:Nat)(r:List Bool):Pv (List.replicate z false++true::r)=2^r.length+Pv r:=by
 induction z with
 |zero=>simp[Pv]
 |succ z ih=>rw[List.replicate_succ,List.cons_append,Pv,ih];simp
theorem z3d (c:Cd)(v:Nat):c.rest v=Pc (c.p0 v).2 (c.p0 v).1:=by cases c<;>rfl
theorem WJ (c:Cd)(v:Nat):(c.enc v).length=c.zeros v+1+(c.p0 v).2:=by
 unfold Cd.enc
 rw[List.length_append,List.length_replicate,List.length_cons,z3d,bitsN_length];omega
def Cd.z0C (c:Cd):c.most<=281474976710654:=by cases c<;>simp[Cd.most]
theorem VQ:∀n:Nat,Pc n 0=List.replicate n false
 |0=>rfl
 |n+1=>by rw[Pc,VQ n,List.replicate_succ];simp
theorem z9f (z:Nat):Pc (z+1) 1=List.replicate z false++[true]:=by
 refine Yq (by simp) ?_
 rw[Qb,Y1]
 simp[Pv]
def WL {c:Cd}{v:Nat}(hc:c.QA)(hv:v<=c.most):c.zeros v<=65535/\(c.p0 v).2<=63/\(c.p0 v).1<2^(c.p0 v).2:=by
 cases c with
 |unary=>exact⟨hv,by simp[Cd.p0],by simp[Cd.p0]⟩
 | gamma =>
   obtain⟨g1,g2,g3⟩:=W2 hv;refine⟨by show Nat.log2 (v+1)<=_;omega,by show Nat.log2 (v+1)<=_;omega,?_⟩;show v+1-2^Nat.log2 (v+1)<2^Nat.log2 (v+1);rw[Nat.pow_succ] at g2
   omega
 | zeta k =>
   obtain⟨aL,aq⟩:1<=k/\k<=16:=hc;obtain⟨g1,g2,g3⟩:=W2 hv;have f:=Y9 (k:=k) (v:=v) aL;dsimp only at f;have hd:Nat.log2 (v+1) / k<=Nat.log2 (v+1):=Nat.div_le_self _ _;have hm:Nat.log2 (v+1) / k*k<=Nat.log2 (v+1):=Nat.div_mul_le_self _ _;refine⟨by show Nat.log2 (v+1) / k<=_;omega,?_,?_⟩
   ·show(RI _ _).2<=63
    have h1:PR (2^(Nat.log2 (v+1) / k*k)*2^k-2^(Nat.log2 (v+1) / k*k)-1)<=63:=by
     refine R9 ?_;have h2:=Nat.pow_le_pow_right (show 0<2 by decide) (show Nat.log2 (v+1) / k*k+k<=63 by omega);rw[Nat.pow_add] at h2;have h3:=f.2.2
     revert h2 h3
     generalize 2^(Nat.log2 (v+1) / k*k)*2^k=E
     generalize 2^(Nat.log2 (v+1) / k*k)=F
     intro h2 h3;omega
    unfold RI;dsimp only;split<;>dsimp only<;>omega
   ·exact zaw f.2.1
section
variable {P:Program}{e:Env}{d:Option Nat}{ty t el:TypeId}{pos:String}{aft:Array Edge}{g:Option (Nat×Bool)}{x y:Operand}{w:World}{k:IntKind}{n:Nat}{td:TypeDesc}
def zhQ {za:Int}[si:SS za n]{len size bytes:Nat}{z:Value}{vs:Array Value}(ht:P.underlying t=some (.array len el))(hs:TI P el z size bytes)(hu:P.underlying el=some td)(ha:aggOf td=true)(hx:look e x=some (.agg vs))(hy:look e y=some (.int k za))(hn:n<len):
  Y P e ⟨d,.index t x y,ty,pos,aft,g⟩ (.agg (vs.extract (n*size) (n*size+size))) w w:=fun ρ hρ=>by
 obtain⟨rfl⟩:=si
 have hs:=hs.size (w:=w)
 simp[execOp,hρ _ _ hx,hρ _ _ hy,Instr.index,asIntOf,run_underlying ht,hn,hs,part,TP hu,ha]
end
section
def z5l (c:Cd)(v:Nat)(hc:c.QA)(hv:v<=c.most)(w:World):Pm prog 211 [cdV c,u64v v] w λu w'=>u= .tuple #[I ((c.enc v).length:Int),I 0]/\Ext w w':=by
 obtain⟨x,y,du⟩:∃x y,Sy c=[x,y]:=by cases c<;>exact⟨_,_,rfl⟩
 obtain⟨q1,q2,-⟩:=WL hc hv
 have hl:=WJ c v
 have eu:=c.z0C
 refine py (e:=[(0,_),(1,_)]) func211 O ntmps211 O O$ qN O$ OM O O (Rm O (cs:=Sy c) O) ?_
 rintro _ w1 ⟨b2,rfl,cn,ad,am⟩
 refine PU O$ It$ qN O$ qV (Pt (news:=Sy c) St O QS O (am.cells (n:=2) (by rw[du];rfl)) (by rw[du];rfl)) ?_
 refine OK O$ P4 zj7 O (zaV c v hc hv w1) ?_
 rintro _ w2 ⟨rfl,ae⟩
 refine qV ((Sb O))$ PW O$ qN O$ qV (Pt (news:=Sy c) St O QS O ((ae.OC am).cells (n:=2) (by rw[du];rfl)) (by rw[du];rfl)) ?_
 refine OK O$ P4 zeO O (z1Q c v hc (by omega) w2) ?_
 rintro _ w3 ⟨rfl,ai⟩
 refine OK O$ RA O$ OM O O (RN (cs:=[_,_,_,_]) UI O) ?_
 rintro _ w4 ⟨b7,rfl,jS,aD,bP⟩
 refine RT O$ OW O (PO (news:=[u64v (c.p0 v).1,I ((c.p0 v).2:Int),u64v 0,I 0]) UI O O O O bP (by simp)) ?_
 rintro w5 ⟨g8,ak⟩
 replace g8:OR w5 b7 [u64v (c.p0 v).1,I ((c.p0 v).2:Int),u64v 0,I 0] 354:=g8
 refine qM O$ OK O$ PV O$ qV (yia z1n SQ O O (by omega))$ OX z0r O$ qV (OO U3 O O g8 O)$ PV O$ qV (yia z1n SQ O O (by omega))$ OX z0r O$ qV (OO U3 O O g8 O)$ PV O$ PU O$ Pn.qb (e:=[(4,_),(5,_)]) ?_
 refine OB func211 O ?_
 have z1:=ad.size
 have z2:=ae.size
 have z3:=ai.size
 refine⟨_,rfl,?_,(((ad.trans ae).trans ai).trans aD).An ak (λi hi=>by omega)⟩
 simp only[Qc]
 congr 4
 omega
def zbb {w:World}{p:Nat}{bs:List Bool}{F:Nat->Prop}(h:Z2 w p bs F)(c:Cd)(v:Nat)(hc:c.QA)(hv:v<=c.most)(hl:bs.length+(c.enc v).length<=134217728):
  Pm prog 212 [ptr p 0,cdV c,u64v v] w λu w'=>u=I 0/\WrR p F w w' (bs++c.enc v):=by
 obtain⟨x,y,du⟩:∃x y,Sy c=[x,y]:=by cases c<;>exact⟨_,_,rfl⟩
 obtain⟨q1,q2,q3⟩:=WL hc hv
 have oC:=WJ c v
 have eu:=c.z0C
 refine py (e:=[(0,_),(1,_),(2,_)]) func212 O ntmps212 O O$ qN O$ OM O O (Rm O (cs:=Sy c) O) ?_
 rintro _ w1 ⟨b4,rfl,fC,ad,aK⟩
 refine OU O$ PG O$ qV (Qi z3Y O O)$ PW O$ qN O$ qV (Pt (news:=Sy c) St O QS O (aK.cells (n:=2) (by rw[du];rfl)) (by rw[du];rfl)) ?_
 refine OK O$ P4 zfn O (z5l c v hc hv w1) ?_
 rintro _ w2 ⟨rfl,ae⟩
 refine OK O$ RA O$ PU O$ Qx$ Pf O$ Qf O$ OU O$ OQ O (λe0=>?_)$ λe0=>?_
 ·exact absurd O e0
 ·refine Qm O$ P4 z2U O (Vs ((h.ext ad).ext ae)) ?_; rintro _ w2 ⟨rfl, rfl⟩; refine Ro O (Qu O (OU O (OQ O (λe1 => ?_) (λe1 => ?_))))
  ·omega
  ·refine OE$ OA$ qN O$ qV (Pt (news := Sy c) St O QS O ((ae.OC aK).cells (n := 2) (by rw [du]; rfl)) (by rw [du]; rfl)) ?_; refine OK O (P4 zeO O (z1Q c v hc (by omega) w2) ?_); rintro _ w3 ⟨rfl, ai⟩; refine OK O (RA O (OM O O (RN (cs := [_, _, _, _]) UI O) ?_)); rintro _ w4 ⟨b10, rfl, C3, aD, fM⟩; refine RT O (OW O (PO (news := [u64v (c.p0 v).1, I ((c.p0 v).2 : Int), u64v 0, I 0]) UI O O O O fM (by simp)) ?_); rintro w5 ⟨kN, ak⟩; replace kN : OR w5 b10 [u64v (c.p0 v).1, I ((c.p0 v).2 : Int), u64v 0, I 0] 354 := kN; have z1 := ad.size; have z2 := ae.size; have z3 := ai.size; have bL : Ext w w5 := (((ad.trans ae).trans ai).trans aD).An ak (λi hi => by omega); have z5 := bL.size; have l10 := kN.lt; have jT : ∀ i, F i -> i < w.heap.size := λi hi => h.lt hi
   have HI:∀(F':Nat->Prop),(∀k,F' k->F k\/w5.heap.size<=k)->¬F' b10:=λF' hf e=>by
    rcases hf b10 e with e| e
    ·have:=jT b10 e;omega
    ·omega
   refine OD$ Pn.qb (e:=[(0,_),(6,_),(9,_),(10,_)]) ?_;refine Qx$ Rq (α:=Nat×(Nat->Prop)×List Bool) ((c.zeros v,F,bs)) (λx=>[(0,ptr p 0),(9,I (x.1:Int)),(10,ptr b10 0)]) (λx w'=>x.1<=c.zeros v/\Z2 w' p x.2.2 x.2.1/\x.2.2=bs++List.replicate (c.zeros v-x.1) false/\Kp F w w'/\(∀k,x.2.1 k->F k\/w5.heap.size<=k)/\OR w' b10 [u64v (c.p0 v).1,I ((c.p0 v).2:Int),u64v 0,I 0] 354/\w5.heap.size<=w'.heap.size) (λx=>x.1) ?hI ?hround
   case hI=>exact⟨Nat.le_refl _,h.ext bL,by simp,bL.kp,λ_ h=> .inl h,kN,Nat.le_refl _⟩
   case hround =>
    rintro⟨z,F1,b1⟩ w6 ⟨hz,iq,bU,aP,mT,aQ,z6⟩ ih;dsimp only at hz iq bU mT;have fD:b1.length=bs.length+(c.zeros v-z):=by rw[bU,List.length_append,List.length_replicate]
    try dsimp only
    refine PG O$ Qu O$ OD$ OQ O (λaZ=>?_)$ λaZ=>?_
    ·refine OE$ Qx$ Rh O$ P4 WI O (Sm iq 0 63 (by decide) (by decide) (by omega)) ?_;rintro _ w7 ⟨rfl,F7,oE,aC,lO⟩;have bP:=aC.OC aQ (HI F1 mT);have z7:=aC.size;refine OD$ OA$ Rh O$ Ro O$ OU O ?_;rw[show((z:Int)-63)=((z-63:Nat):Int) by omega];refine(ih (z-63,F7,b1++Pc 63 0) w7 ⟨by dsimp only;omega,oE,?_,?_,?_,bP,by omega⟩ (by dsimp only;omega)).qb
     ·dsimp only;rw[bU,VQ,List.append_assoc,List.replicate_append_replicate,show c.zeros v-z+63=c.zeros v-(z-63) by omega]
     ·exact aP.An aC (λi hi=>(mT i hi).elim .inr (λe=> .inl (by omega)))
     ·intro i hi;rcases lO i hi with e| e
      ·exact mT i e
      ·exact .inr (by omega)
    ·refine ON O$ PG O$ Te O$ OD$ OQ O (λg0=>?_)$ λg0=>?_
     ·refine OL O$ P8 O$ PV O ?_;rw[show((z:Int)+1)=((z+1:Nat):Int) by omega];refine P4 WI O (Sm iq 1 (z+1) (by omega) (by have:=Nat.pow_le_pow_right (show 0<2 by decide) (show 1<=z+1 by omega);omega) (by omega)) ?_;rintro _ w7 ⟨rfl,F7,oE,aC,lO⟩;have bP:=aC.OC aQ (HI F1 mT);have z7:=aC.size;have C4:Kp F w w7:=aP.An aC (λi hi=>(mT i hi).elim .inr (λe=> .inl (by omega)));have C5:∀i,F7 i->F i\/w5.heap.size<=i:=λi hi=>(lO i hi).elim (mT i) (λe=> .inr (by omega))
      have jS:b1++Pc (z+1) 1=bs++(List.replicate (c.zeros v) false++[true]):=by
       rw[bU,z9f,List.append_assoc]
       congr 1
       rw[<-List.append_assoc,List.replicate_append_replicate,show c.zeros v-z+z=c.zeros v by omega]
      rw[jS] at oE;clear ih;refine OD$ It$ qN O$ qV (Pt (news:=[u64v (c.p0 v).1,I ((c.p0 v).2:Int),u64v 0,I 0]) z1n O UI O (bP.cells (n:=4) O) O)$ OK O$ OD$ OH$ Rq (α:=Nat×(Nat->Prop)×List Bool) ((0,F7,bs++(List.replicate (c.zeros v) false++[true]))) (λx=>[(0,ptr p 0),(49,.agg #[u64v (c.p0 v).1,I ((c.p0 v).2:Int),u64v 0,I 0]),(50,I (x.1:Int))]) (λx w'=>x.1<=2/\Z2 w' p x.2.2 x.2.1/\x.2.2=(bs++(List.replicate (c.zeros v) false++[true]))++(if x.1=0 then [] else c.rest v)/\Kp F w w'/\(∀k,x.2.1 k->F k\/w5.heap.size<=k)/\w5.heap.size<=w'.heap.size) (λx=>2-x.1) ?hI ?hround
      case hI=>exact⟨by dsimp only;omega,oE,by simp,C4,C5,by omega⟩
      case hround=>
       rintro⟨i,F8,b8⟩ w8 ⟨hi,mC,gV,aR,vw,z8⟩ ih;dsimp only at hi mC gV vw
       try dsimp only
       refine qN O$ Qq O$ OD$ It$ OQ O (λlP=>?_)$ λlP=>?_
       ·have wv:b8.length<=bs.length+(c.zeros v+1)+(if i=0 then 0 else(c.p0 v).2):=by
         rw[gV];simp only[List.length_append,List.length_replicate,List.length_cons,List.length_nil];split
         ·simp
         ·rw[z3d,bitsN_length];omega
        refine OE$ Qx$ qN O ?_;rcases (show i=0\/i=1 by omega) with rfl|rfl
        ·rw[if_pos O] at wv gV;refine qV (zhQ (n:=0) z1n SQ zaM O O O (by decide)) ?_;rw[show(#[u64v (c.p0 v).1,I ((c.p0 v).2:Int),u64v 0,I 0]:Array Value).extract (0*2) (0*2+2)=#[u64v (c.p0 v).1,I ((c.p0 v).2:Int)] from rfl];refine OM O O (RN (cs:=[_,_]) SQ O) ?_;rintro _ w9 ⟨b12,rfl,C6,fg,bC⟩;refine OW O (PO (news:=[u64v (c.p0 v).1,I ((c.p0 v).2:Int)]) SQ O O O O bC (by simp)) ?_;rintro w10 ⟨eF,ar⟩;replace eF:OR w10 b12 [u64v (c.p0 v).1,I ((c.p0 v).2:Int)] 353:=eF;have z9:=fg.size;have g9:Ext w8 w10:=fg.An ar (λi hi=>by omega);have z10:=g9.size;refine OD$ Rh O$ OX z8F O$ qV (OO Rr O O eF O)$ OX z0r O$ qV (OO U3 O O eF O)$ P4 WI O (Sm (mC.ext g9) (c.p0 v).1 (c.p0 v).2 (by omega) q3 (by omega)) ?_;rintro _ w11 ⟨rfl,F11,sB,bu,sC⟩;have j6:=g9.kp.trans bu;refine OD$ OA$ OL O$ PV O$ OK O$ OD ((ih (1,F11,b8++Pc (c.p0 v).2 (c.p0 v).1) w11 ⟨by dsimp only;omega,sB,?_,?_,?_,?_⟩ (by dsimp only;omega)).qb)
         ·dsimp only;rw[gV];rw[List.append_nil,if_neg (by decide),z3d]
         ·exact aR.An j6 (λi hi=>(vw i hi).elim .inr (λe=> .inl (by omega)))
         ·intro i hi;rcases sC i hi with e| e
          ·exact vw i e
          ·exact .inr (by omega)
         ·have:=j6.size;omega
        ·rw[if_neg (by decide)] at wv gV;refine qV (zhQ (n:=1) z1n SQ zaM O O O (by decide)) ?_;rw[show(#[u64v (c.p0 v).1,I ((c.p0 v).2:Int),u64v 0,I 0]:Array Value).extract (1*2) (1*2+2)=#[u64v 0,I 0] from rfl];refine OM O O (RN (cs:=[_,_]) SQ O) ?_;rintro _ w9 ⟨b12,rfl,C6,fg,bC⟩;refine OW O (PO (news:=[u64v 0,I 0]) SQ O O O O bC (by simp)) ?_;rintro w10 ⟨eF,ar⟩;replace eF:OR w10 b12 [u64v 0,I 0] 353:=eF;have z9:=fg.size;have g9:Ext w8 w10:=fg.An ar (λi hi=>by omega);have z10:=g9.size;refine OD$ Rh O$ OX z8F O$ qV (OO Rr O O eF O)$ OX z0r O$ qV (OO U3 O O eF O)$ P4 WI O (Sm (mC.ext g9) 0 0 (by omega) (by decide) (by omega)) ?_;rintro _ w11 ⟨rfl,F11,sB,bu,sC⟩;have j6:=g9.kp.trans bu;refine OD$ OA$ OL O$ PV O$ OK O$ OD ((ih (2,F11,b8++Pc 0 0) w11 ⟨by dsimp only;omega,sB,?_,?_,?_,?_⟩ (by dsimp only;omega)).qb)
         ·dsimp only;rw[gV];rw[if_neg (by decide)];simp[Pc]
         ·exact aR.An j6 (λi hi=>(vw i hi).elim .inr (λe=> .inl (by omega)))
         ·intro i hi;rcases sC i hi with e| e
          ·exact vw i e
          ·exact .inr (by omega)
         ·have:=j6.size;omega
       ·have:i=2:=by omega
        subst this;rw[if_neg (by decide)] at gV;refine ON O$ QB O$ OB func212 O (⟨_,rfl,rfl,F8,?_,aR,λi hi=>(vw i hi).imp id (λe=>by omega)⟩);rw[gV] at mC;unfold Cd.enc
        simpa using mC
     ·omega
end
structure RgM (w:World)(x r:Nat)(s:OG)(a:Nat):Prop where
 OC:OR w x [ptr r 0,.bool false] 377
 rd:TX w r s a
 ne:x≠r
def RgM.ext {w w':World}{x r:Nat}{s:OG}{a:Nat}(h:RgM w x r s a)(k:Ext w w'):RgM w' x r s a:=⟨k.OC h.OC,⟨k.OC h.rd.1,h.rd.2⟩,h.ne⟩
section
variable {w:World}{x r:Nat}{s:OG}{a:Nat}
def WS (h:RgM w x r s a)(n:Nat)(hn:n<=64)(hl:a+n<=8*s.length):
  Pm prog 267 [ptr x 0,I (n:Int)] w λv w'=>v=u64v (Pv (((P3 s).drop a).take n))/\RgM w' x r s (a+n)/\Kp (λk=>k=x\/k=r) w w':=by
 obtain⟨hB,hR,bT⟩:=h
 refine py (e:=[(0,_),(1,_)]) func267 O ntmps267 O O$ qN O$ Qt O$ Pu O$ OX zdc O$ qV (OO Vj O O hB O)$ OK O$ P4 z43 O (VD hR n hn) ?_
 rintro v1 w1 eU
 obtain⟨rfl,kO,aL⟩:v1= .tuple #[u64v (Pv (((P3 s).drop a).take n)),I 0]/\TX w1 r s (a+n)/\Kp (λk=>k=r) w w1:=by
  rcases eU with⟨-,h⟩|⟨h,-⟩
  ·exact h
  ·omega
 have aj:=aL.OC hB bT
 refine OK O$ RA O$ RT O$ Qw O$ P8 O$ Pu O$ OX z0E O$ qV (OO U4 O O aj O)$ P8 O$ Qf O$ PF$ PK O$ Pu O$ OX z0E O ?_
 refine OW O (QQ W3 O O O aj (by simp)) ?_
 rintro w2 ⟨am,aq⟩
 replace am:OR w2 x [ptr r 0,.bool false] 377:=am
 refine OD$ Pn.qb (e:=[(4,_),(5,_)]) ?_
 refine Pf O$ OU O$ OB func267 O ?_
 exact⟨_,rfl,rfl,⟨am,⟨aq.OC kO.1 (Ne.symm bT),kO.2⟩,bT⟩,(aL.OV (λk e=> .inr e)).trans (aq.OV (λk e=> .inl e))⟩
def XT (h:RgM w x r s a)(z most:Nat)(rest:List Bool)(hb:(P3 s).drop a=List.replicate z false++true::rest)(hz:z<=most)(hm:most<=65535):
  Pm prog 265 [ptr x 0,I (most:Int)] w λv w'=>v=I (z:Int)/\RgM w' x r s (a+z+1)/\Kp (λk=>k=x\/k=r) w w':=by
 have az:a+z+1<=8*s.length:=by
  have:=congrArg List.length hb;rw[List.length_drop,bitsT_length,List.length_append,List.length_replicate,List.length_cons] at this;omega
 refine py (e:=[(0,_),(1,_)]) func265 O ntmps265 O O$ QB O$ It$ QB O$ OH$ Rq (α:=Nat) (0) (λn=>[(0,ptr x 0),(1,I (most:Int)),(5,I (n:Int))]) (λn w'=>n<=z/\RgM w' x r s (a+n)/\Kp (λk=>k=x\/k=r) w w') (λn=>z-n) ?hI ?hround
 case hI=>exact⟨Nat.zero_le _,h,Kp.refl _ _⟩
 case hround=>
  rintro n w1 ⟨hn,h1,aL⟩ ih;have aj:=h1.OC
  have hd:(P3 s).drop (a+n)=List.replicate (z-n) false++true::rest:=by
   rw[<-List.drop_drop,hb,List.drop_append_of_le_length (by simp;omega),List.drop_replicate]
  try dsimp only
  refine It$ Qm O$ zle O$ OK O$ SC (λc1=>?_)$ λc1=>?_
  ·have hv:Pv (((P3 s).drop (a+n)).take 1)=if n=z then 1 else 0:=by
    rw[hd];by_cases e:n=z
    ·subst e;rw[Nat.sub_self,if_pos O];rfl
    ·rw[if_neg e,show z-n=(z-n-1)+1 by omega,List.replicate_succ];rfl
   refine OK O$ Pu O$ OX z0E O$ qV (OO U4 O O aj O)$ qV ((Sb O))$ QJ O$ OD$ OS O$ OE$ Qx$ Pf O$ P4 z8l O (WS h1 1 (by decide) (by omega)) ?_;rintro _ w2 ⟨rfl,h2,aq⟩;rw[hv];refine Ri O$ OD$ OQ O (λc2=>?_)$ λc2=>?_
   ·have HJ:n=z:=by
     by_cases e:n=z
     ·exact e
     ·rw[if_neg e] at c2;simp at c2
    subst HJ;refine Pf O$ OU O$ OB func265 O ?_;exact⟨_,rfl,rfl,h2,aL.trans aq⟩
   ·have HJ:n≠z:=λe=>by rw[if_pos e] at c2;simp at c2
    refine OE$ OA$ Rh O$ PV O$ OU O ?_;exact(ih (n+1) w2 ⟨by omega,by rw[<-Nat.add_assoc];exact h2,aL.trans aq⟩ (by omega)).qb
  ·omega
def z6H (h:RgM w x r s a)(z q:Nat)(rest:List Bool)(hb:(P3 s).drop a=List.replicate z false++true::(Pc z q++rest))(hq:q<2^z)(hz:z<=47):
  Pm prog 266 [ptr x 0,I 47] w λv w'=>v=u64v (q+2^z-1)/\RgM w' x r s (a+z+1+z)/\Kp (λk=>k=x\/k=r) w w':=by
 have az:a+z+1+z<=8*s.length:=by
  have:=congrArg List.length hb;rw[List.length_drop,bitsT_length,List.length_append,List.length_replicate,List.length_cons,List.length_append,bitsN_length] at this;omega
 have hd:(P3 s).drop (a+z+1)=Pc z q++rest:=by
  rw[show a+z+1=a+(z+1) by omega,<-List.drop_drop,hb];rw[<-List.drop_drop,List.drop_left' (by simp)];rfl
 have hv:Pv (((P3 s).drop (a+z+1)).take z)=q:=by
  rw[hd,List.take_left' (by simp),Qb,Nat.mod_eq_of_lt hq]
 obtain⟨Q,hQ⟩:∃Q,2^z=Q:=⟨_,rfl⟩
 rw[hQ] at hq⊢
 have BY:1<=Q/\Q<=281474976710656:=by
  rw[<-hQ];exact⟨Nat.two_pow_pos _,by have:=Nat.pow_le_pow_right (show 0<2 by decide) (show z<=48 by omega);simpa using this⟩
 refine py (e:=[(0,_),(1,_)]) func266 O ntmps266 O O$ qN O$ Qw O$ P8 O$ P4 zb4 O (XT h z 47 _ hb hz (by decide)) ?_
 rintro _ w1 ⟨rfl,h1,aL⟩
 have hg:=Ext.OT w1
 refine OU O$ It$ R5 (λw'=>Kp (λk=>k=x\/k=r) w1 w') O$ OZ 0 O O (hg.kp)$ OZ 1 O O (hg.kp)$ OZ 3 O O (hg.kp)$ OI 4 O (QP z Q O O (by omega) hQ) (hg.kp) ?_
 rw[show 1*Q%18446744073709551616=Q by omega]
 refine SK 2 O z8l O (WS (h1.ext hg) z (by omega) (by omega)) ?_
 rintro _ w2 ⟨rfl,h2,aq⟩
 refine⟨hg.kp.trans aq,?_⟩
 rw[hv]
 refine OI 5 O (RQ O O) (hg.kp.trans aq) ?_
 rw[show(q+Q)%18446744073709551616=q+Q by omega]
 refine OI 6 O (VZ (n:=1) O O O (by show q+Q<2^64;omega) (by omega)) (hg.kp.trans aq) ?_
 refine OI 7 O (R7 O) (hg.kp.trans aq)$ qE$ OB func266 O ?_
 exact⟨_,rfl,rfl,h2,aL.trans (hg.kp.trans aq)⟩
def z74 (h:RgM w x r s a)(v K:Nat)(rest:List Bool)(hb:(P3 s).drop a=QI v K++rest)(hv:v<K)(Jy:K<=9223372036854775808):
  Pm prog 268 [ptr x 0,u64v K] w λu w'=>u=u64v v/\RgM w' x r s (a+(QI v K).length)/\Kp (λk=>k=x\/k=r) w w':=by
 have az:a+(QI v K).length<=8*s.length:=by
  have:=congrArg List.length hb;have ha:=h.rd.2.1;rw[List.length_drop,bitsT_length,List.length_append] at this;omega
 refine py (e:=[(0,_),(1,_)]) func268 O ntmps268 O O$ qN O$ Qt O$ qV (VZ (n:=1) O O O (by show K<2^64;omega) (by omega)) ?_
 refine P4 z35 O (Us (K-1) (by omega) w) ?_
 rintro _ w ⟨rfl,rfl⟩
 refine OU O$ PG O$ Ri O$ OD ?_
 by_cases HH:K=1
 ·subst HH;have qU:v=0:=by omega
  subst qU;rw[show PR (1-1)=0 from rfl];refine OQ O (λc0=>?_)$ λc0=>?_
  ·refine QB O$ OB func268 O ?_;exact⟨_,rfl,rfl,h,Kp.refl _ _⟩
  ·exact absurd O c0
 ·have f:=z6P hv (by omega) rest;dsimp only at f;obtain⟨n,hn⟩:∃n,PR (K-1)=n:=⟨_,rfl⟩;rw[hn] at f⊢;have g:=Vd (K:=K) (by omega);rw[hn] at g;obtain⟨Q,hQ⟩:∃Q,2^n=Q:=⟨_,rfl⟩;rw[hQ] at f g;obtain⟨f1,f2,f3⟩:=f
  have C7:n<=63:=by
   rw[<-hn];have e63:(2:Nat)^63=9223372036854775808:=by decide
   exact R9 (by omega)
  have BX:Q<=9223372036854775808:=by
   rw[<-hQ];have:=Nat.pow_le_pow_right (show 0<2 by decide) C7;have e63:(2:Nat)^63=9223372036854775808:=by decide
   omega
  have t1:((P3 s).drop a).take (n-1)=(QI v K).take (n-1):=by rw[hb,List.take_append_of_le_length f2]
  obtain⟨u,hu⟩:∃u,Pv ((QI v K).take (n-1))=u:=⟨_,rfl⟩
  have mD:u<Q:=by
   have h1:=QF ((QI v K).take (n-1));rw[hu,List.length_take] at h1;have h2:=Nat.pow_le_pow_right (show 0<2 by decide) (show min (n-1) (QI v K).length<=n by omega);omega
  rw[hu] at f3;refine OQ O (λc0=>?_)$ λc0=>?_
  ·omega
  ·refine OE$ Pf O$ qV (QP n Q O O (by omega) hQ) ?_;rw[show 1*Q%18446744073709551616=Q by omega];refine OK O$ qV (VZ O O O (by show Q<2^64;omega) g.1) ?_;refine Qw O$ P8 O$ Ro O ?_;rw[show((n:Int)-1)=((n-1:Nat):Int) by omega];refine P4 z8l O (WS h (n-1) (by omega) (by omega)) ?_;rintro _ w1 ⟨rfl,h1,aL⟩;rw[t1,hu];refine OU O$ It$ Qm O$ Te O$ OD$ OQ O (λc1=>?_)$ λc1=>?_
   ·obtain⟨m1,m2,m3⟩:Q-K<=u/\(QI v K).length=n/\2*u+Pv ((QI v K).drop (n-1))=v+(Q-K):=by
     rcases f3 with⟨e,-⟩| e
     ·omega
     ·exact e
    have t2:((P3 s).drop (a+(n-1))).take 1=(QI v K).drop (n-1):=by
     rw[<-List.drop_drop,hb,List.drop_append_of_le_length f2,List.take_append_of_le_length (by rw[List.length_drop];omega),List.take_of_length_le (by rw[List.length_drop];omega)]
    have lQ:Pv ((QI v K).drop (n-1))<2:=by
     have:=QF ((QI v K).drop (n-1));rw[List.length_drop,m2,show n-(n-1)=1 by omega] at this;exact this
    refine Rh O$ qV (QP 1 2 O O (by decide) O) ?_;rw[show u*2%18446744073709551616=u*2 by omega];refine OK O$ P4 z8l O (WS h1 1 (by decide) (by omega)) ?_;rintro _ w2 ⟨rfl,h2,aq⟩;rw[t2];refine qV (RQ O O) ?_;rw[show(u*2+Pv ((QI v K).drop (n-1)))%18446744073709551616=v+(Q-K) by omega];refine OK O$ qV (VZ O O O (by show v+(Q-K)<2^64;omega) (by omega)) ?_;rw[show v+(Q-K)-(Q-K)=v by omega];refine OU O$ Pn.qb (e:=[(4,_),(7,_)]) ?_;refine Pf O$ OU O$ OB func268 O ?_;rw[m2];exact⟨_,rfl,rfl,by rw[show a+n=a+(n-1)+1 by omega];exact h2,aL.trans aq⟩
   ·obtain⟨m1,m2,m3⟩:u<Q-K/\(QI v K).length=n-1/\u=v:=by
     rcases f3 with e|⟨e,-⟩
     ·exact e
     ·omega
    refine OE$ Pf O$ OU O$ OB func268 O ?_;rw[m2];exact⟨_,rfl,by rw[m3];rfl,h1,aL⟩
end
section
variable {w:World}{x r:Nat}{s:OG}{a:Nat}
def z4C (h:RgM w x r s a)(c:Cd)(v:Nat)(hc:c.QA)(hv:v<=c.most)(rest:List Bool)(hb:(P3 s).drop a=c.enc v++rest):
  Pm prog 259 [ptr x 0,cdV c] w λu w'=>u=u64v v/\RgM w' x r s (a+(c.enc v).length)/\Kp (λk=>k=x\/k=r) w w':=by
 have oC:=WJ c v
 have dj:=h.OC.lt
 have fR:=h.rd.1.lt
 have az:a+(c.enc v).length<=8*s.length:=by
  have:=congrArg List.length hb;have ha:=h.rd.2.1;rw[List.length_drop,bitsT_length,List.length_append] at this;omega
 unfold Cd.enc at hb
 rw[List.append_assoc,List.cons_append] at hb
 cases c with
 | unary =>
   refine py (e:=[(0,_),(1,_)]) func259 O ntmps259 O O$ qN O$ OM O O (Rm O (cs:=[.int .u8 0,u64v 0]) O) ?_;rintro _ w1 ⟨b3,rfl,eG,ad,au⟩;refine OU O$ It$ qN O$ OX Sj O$ qV (OO U5 O O au O)$ OD$ OH$ qN O$ Ri O$ Rp$ OU O$ OS O$ Pf O$ P4 zb4 O (XT (h.ext ad) v 65535 rest hb hv (by decide)) ?_;rintro _ w2 ⟨rfl,h2,aq⟩;have gd:v<=65535:=hv;refine qV ((PZ O U3 Rr (by omega)))$ OU O$ OB func259 O (⟨_,rfl,rfl,?_,ad.kp.trans aq⟩);have e:(Cd.enc .unary v).length=v+1:=by rw[oC];rfl
   rw[e];exact h2
 | gamma =>
   obtain⟨g1,g2,g3⟩:=W2 hv;obtain⟨z,hz⟩:∃z,Nat.log2 (v+1)=z:=⟨_,rfl⟩;rw[hz] at g1 g2 g3;rw[Nat.pow_succ] at g2
   have vy:(P3 s).drop a=List.replicate z false++true::(Pc z (v+1-2^z)++rest):=by
    rw[hb];show List.replicate (Nat.log2 (v+1)) false++true::(Pc (Nat.log2 (v+1)) (v+1-2^Nat.log2 (v+1))++rest)=_;rw[hz]
   have e:(Cd.enc .gamma v).length=z+1+z:=by rw[oC];show Nat.log2 (v+1)+1+Nat.log2 (v+1)=_;rw[hz]
   refine py (e:=[(0,_),(1,_)]) func259 O ntmps259 O O$ qN O$ OM O O (Rm O (cs:=[.int .u8 1,u64v 0]) O) ?_;rintro _ w1 ⟨b3,rfl,eG,ad,au⟩;refine OU O$ It$ qN O$ OX Sj O$ qV (OO U5 O O au O)$ OD$ OH$ qN O$ Ri O$ PF$ OU O$ OJ O$ qN O$ Ri O ?_;refine Rp$ OU O$ OS O$ Pf O$ P4 zhJ O (z6H (h.ext ad) z (v+1-2^z) rest vy (by omega) g3) ?_;rintro _ w2 ⟨rfl,h2,aq⟩;rw[show v+1-2^z+2^z-1=v by omega];refine OU O$ OB func259 O (⟨_,rfl,rfl,?_,ad.kp.trans aq⟩)
   rw[e,show a+(z+1+z)=a+z+1+z by omega];exact h2
 | zeta k =>
   obtain⟨aL,aq⟩:1<=k/\k<=16:=hc;obtain⟨g1,g2,g3⟩:=W2 hv;have f:=Y9 (k:=k) (v:=v) aL;dsimp only at f;obtain⟨b,vz⟩:∃b,Nat.log2 (v+1)=b:=⟨_,rfl⟩;rw[vz] at f g1 g2 g3;obtain⟨z,hz⟩:∃z,b / k=z:=⟨_,rfl⟩;obtain⟨m,hm⟩:∃m,z*k=m:=⟨_,rfl⟩;have lN:m<=b:=by rw[<-hm,<-hz];exact Nat.div_mul_le_self _ _
   have C8:z<=47 / k:=by rw[<-hz];exact Nat.div_le_div_right g3
   have Nz:47 / k<=47:=Nat.div_le_self _ _;rw[hz,hm] at f
   have vy:(P3 s).drop a=List.replicate z false++true::(QI (v+1-2^m) (2^m*2^k-2^m)++rest):=by
    rw[hb];show List.replicate (Nat.log2 (v+1) / k) false++true::(QI (v+1-2^(Nat.log2 (v+1) / k*k)) (2^(Nat.log2 (v+1) / k*k)*2^k-2^(Nat.log2 (v+1) / k*k))++rest)=_;rw[vz,hz,hm]
   obtain⟨F,hF⟩:∃F,2^m=F:=⟨_,rfl⟩;obtain⟨G,hG⟩:∃G,2^k=G:=⟨_,rfl⟩;rw[hF,hG] at f vy;obtain⟨f1,f2,f3⟩:=f;obtain⟨E,hE⟩:∃E,F*G=E:=⟨_,rfl⟩
   have BZ:E<=9223372036854775808:=by
    rw[<-hE,<-hF,<-hG,<-Nat.pow_add];have:=Nat.pow_le_pow_right (show 0<2 by decide) (show m+k<=63 by omega);have e63:(2:Nat)^63=9223372036854775808:=by decide
    omega
   rw[hE] at f2 f3 vy
   have e:(Cd.enc (.zeta k) v).length=z+1+(QI (v+1-F) (E-F)).length:=by
    rw[Cd.enc,List.length_append,List.length_replicate,List.length_cons];show Nat.log2 (v+1) / k+((QI (v+1-2^(Nat.log2 (v+1) / k*k)) (2^(Nat.log2 (v+1) / k*k)*2^k-2^(Nat.log2 (v+1) / k*k))).length+1)=_;rw[vz,hz,hm,hF,hG,hE];omega
   have hd:(P3 s).drop (a+z+1)=QI (v+1-F) (E-F)++rest:=by
    rw[show a+z+1=a+(z+1) by omega,<-List.drop_drop,vy];rw[<-List.drop_drop,List.drop_left' (by simp)];rfl
   have qR:(z:Int)*(k:Int)=(m:Int):=by rw[<-hm];simp
   have gW:(47:Int) / (k:Int)=((47 / k:Nat):Int):=by simp
   refine py (e:=[(0,_),(1,_)]) func259 O ntmps259 O O$ qN O$ OM O O (Rm O (cs:=[.int .u8 3,u64v k]) O) ?_;rintro _ w1 ⟨b3,rfl,eG,ad,au⟩;refine OU O$ It$ qN O$ OX Sj O$ qV (OO U5 O O au O)$ OD$ OH$ qN O$ Ri O$ PF$ OU O$ OJ O$ qN O$ Ri O ?_;refine PF$ OU O$ OJ O$ qN O$ Ri O$ PF$ OU O$ OJ O$ qN O$ Ri O$ Rp$ OU O$ OS O$ qN O ?_;refine OX Xk O$ qV (OO Rr O O au O)$ qV (PJ O Rr U3 (by omega))$ Qw O$ P8 O$ qV (VI O O (by omega)) ?_;rw[gW];refine P4 zb4 O (XT (h.ext ad) z (47 / k) _ vy C8 (by omega)) ?_;rintro _ w2 ⟨rfl,h2,C9⟩;refine OK O$ qV (Wm O O (by rw[qR];omega)) ?_;rw[qR];refine qV (QP m F O O (by omega) hF) ?_;rw[show 1*F%18446744073709551616=F by omega];refine OU O$ Pn.qb (e:=[(0,_),(3,_),(4,_),(6,_),(7,_)]) ?_;refine Qm O$ OK O$ qV (QP k G O O (by omega) hG) ?_;rw[hE,Nat.mod_eq_of_lt (show E<18446744073709551616 by omega)];refine OK O$ qV (VZ O O O (by show E<2^64;omega) (by omega)) ?_;refine P4 zh5 O (z74 h2 (v+1-F) (E-F) rest hd f2 (by omega)) ?_;rintro _ w3 ⟨rfl,h3,av⟩;refine OK O$ qV (RQ O O) ?_;rw[show(v+1-F+F)%18446744073709551616=v+1 by omega];refine qV (VZ (n:=1) O O O (by show v+1<2^64;omega) (by omega)) ?_;rw[show v+1-1=v by omega];refine OU O$ OB func259 O (⟨_,rfl,rfl,?_,(ad.kp.trans C9).trans av⟩);rw[e,show a+(z+1+(QI (v+1-F) (E-F)).length)=a+z+1+(QI (v+1-F) (E-F)).length by omega];exact h3
end
def z6J {P:Program}{fn:Func}{tmps:Array Value}{R:Ending->World->Prop}{g:FuncId}{cap args:List Value}{w:World}{S:Value->World->Prop}(p8:CF P g)(hD:zcY P g (args++cap) w S)
  (h:∀u w',S u w'->∃v,(results fn tmps).run P w'= .ok v w'/\R (.returned v) w'):LeavesInM Fence.wide 0 P fn tmps R (marks [.call g cap args]) .returning w:=by
 refine⟨by simp,.inr ⟨(λh=>by cases h),.func g,cap.toArray,g,(args++cap).toArray,rfl,?_,(λ_ _=>trivial),?_⟩⟩
 ·simp[Dfr.d,invoke,Tr p8]
 ·refine CallsDIn.mono hD ?_;rintro x u w1 ⟨rfl,v1,rfl,hS⟩;exact h v1 w1 hS
def z9a {P:Program}{f:FuncId}{R:Value->World->Prop}{n:Nat}{k:List Item}{e:Env}{w:World}{fn:Func}{g:FuncId}{cap args:List Value}{S:Value->World->Prop}(hf:P.funcs[f]? =some fn)(p8:CF P g)(hD:zcY P g (args++cap) w S)
  (h:∀u w',S u w'->∃vs,Yu P w' e fn.results.toList vs/\XZ R (.returned (Qc vs)) w'):Pn ⟨P,f,R,n,none,[.call g cap args],false⟩ (.code .ret::k) e w:=
 z4E O O hf λa ha=>z6J p8 hD λu w' hs=>by
  obtain⟨vs,h1,h2⟩:=h u w' hs;exact⟨_,VM ha P w' fn vs h1,h2⟩
def ydf {P:Program}{e:Env}{ty:TypeId}{pos:String}{aft:Array Edge}{g:Option (Nat×Bool)}{w:World}{f:FuncId}{x:Operand}{q:List Value}(hv:look e x=some (.func (.func f) #[] q.toArray)):
  ∀ρ:Operand->Value,(∀x v,look e x=some v->ρ x=v)->(execOp ρ ⟨none,.defer ⟨.value x,#[],#[]⟩,ty,pos,aft,g⟩).run P w= .ok (.defer (Dfr.d (.call f q []))) w:=fun ρ hρ=>by
 simp[execOp,resolve,hρ _ _ hv,Dfr.d,Deferred.ofValue]
section
variable {w:World}{r:Nat}{s:OG}{a:Nat}
def z4u {b2 b5 b6:Nat}(hB:OR w b5 [I 0] 36):zcY prog 258 [ptr b5 0,ptr b2 0,ptr b6 0] w λu w'=>w'=w:=by
 refine z41 (e:=[(0,_),(1,_),(2,_)]) func258 O ntmps258 O O$ qN O$ qV (OO U36 O O hB O)$ Qf O$ OD$ OQ O (λc0=>?_)$ λc0=>?_
 ·exact absurd O c0
 ·refine OE$ zcm O O O func258$ λa ha=>⟨_,Vf ha _ _ _ _ O,?_⟩;exact⟨_,rfl,rfl⟩
def ZJ (h:TX w r s a)(c:Cd)(v:Nat)(hc:c.QA)(hv:v<=c.most)(rest:List Bool)(hb:(P3 s).drop a=c.enc v++rest):
  Pm prog 251 [ptr r 0,cdV c] w λu w'=>u= .tuple #[u64v v,I 0]/\TX w' r s (a+(c.enc v).length)/\Kp (λk=>k=r) w w':=by
 obtain⟨x,y,du⟩:∃x y,Sy c=[x,y]:=by cases c<;>exact⟨_,_,rfl⟩
 have fR:=h.1.lt
 have eu:=c.z0C
 refine py (e:=[(0,_),(1,_)]) func251 O ntmps251 O O$ qN O$ OM O O (Rm O (cs:=[ptr r 0]) O) ?_
 rintro _ w1 ⟨b2,rfl,cn,ad,am⟩
 refine OM O O (Rm O (cs:=Sy c) O) ?_
 rintro _ w2 ⟨b3,rfl,eG,ae,au⟩
 refine RT O$ OM O O (RN (cs:=[_]) z29 O) ?_
 rintro _ w3 ⟨b5,rfl,ig,ai,aH⟩
 replace aH:OR w3 b5 [I 0] 36:=aH
 have h3:TX w3 r s a:=⟨ai.OC (ae.OC (ad.OC h.1)),h.2⟩
 have cW:=ai.OC (ae.OC am)
 have eH:=ai.OC au
 refine OD$ Qx$ qN O$ qV (OO Vj O O cW O)$ qV (Qi Vj O O)$ OU O$ OJ O$ qN O$ qV (Pt (news:=Sy c) St O QS O (eH.cells (n:=2) (by rw[du];rfl)) (by rw[du];rfl)) ?_
 refine P4 z4Y O (Uw c hc w3) ?_
 rintro _ w4 ⟨rfl,aD⟩
 have h4:TX w4 r s a:=⟨aD.OC h3.1,h3.2⟩
 have ir:=aD.OC cW
 refine Qf O$ OU O$ OQ O (λc0=>?_)$ λc0=>?_
 ·exact absurd O c0
 ·refine OE$ OA$ qN O$ qV (OO Vj O O ir O)$ P4 Ys O (Uk h4) ?_;rintro _ w4 ⟨rfl,rfl⟩;refine OM O O (RN (cs:=[_]) Q7 O) ?_;rintro _ w5 ⟨b6,rfl,jQ,aT,aQ⟩;refine OW O (QQ Q7 O O O aQ (by simp)) ?_;rintro w6 ⟨mU,aP⟩;have z1:=ad.size;have z2:=ae.size;have z3:=ai.size;have z4:=aD.size;have z5:=aT.size;have l2:=am.lt;have l3:=au.lt;have l5:=aH.lt;have cQ:Ext w4 w6:=aT.An aP (λi hi=>by omega);have cq:=cQ.OC ir;refine qM O$ qV (ymf (first:=[]) (caps:=[.tmp 5,.tmp 2,.tmp 6]) O O)$ zfV O O (ydf O)$ qM O$ qV (OO Vj O O cq O)$ qV (Sk (cs:=[_,_]) zj0 O zjK O O)$ OM O O (Rm O O) ?_;rintro _ w7 ⟨b7,rfl,jS,bY,bP⟩;replace bP:OR w7 b7 [ptr r 0,.bool false] 377:=bP;have z6:=cQ.size;have z7:=bY.size;have p9:Ext w3 w7:=(aD.trans cQ).trans bY;have h7:RgM w7 b7 r s a:=⟨bP,⟨p9.OC h3.1,h3.2⟩,by omega⟩;have mV:=p9.OC eH;have jU:=p9.OC aH;refine OU O$ PG O$ qV (Pt (news:=Sy c) St O QS O (mV.cells (n:=2) (by rw[du];rfl)) (by rw[du];rfl)) ?_;refine P4 zk6 O (z4C h7 c v hc hv rest hb) ?_;rintro _ w8 ⟨rfl,h8,aR⟩;have sD:=aR.OC mV (by omega);have Ca:=aR.OC jU (by omega);have ce:=h8.OC;refine Qt O$ Pu O$ OX z0E O$ qV (OO U4 O O ce O)$ P8 O$ qV (Pt (news:=Sy c) St O QS O (sD.cells (n:=2) (by rw[du];rfl)) (by rw[du];rfl)) ?_;refine P4 zet O (z2t c hc w8) ?_;rintro _ w9 ⟨rfl,fg⟩;refine Qu O$ PK O$ OD$ Pn.qb (e:=[(4,_),(5,_),(33,_)]) ?_;refine OQ O (λc1=>?_)$ λc1=>?_
  ·omega
  ·have Cb:=fg.OC Ca;refine OE$ Pf O$ RT O$ OW O (QQ z29 O O O Cb (by simp)) ?_;rintro w10 ⟨fM,ar⟩;replace fM:OR w10 b5 [I 0] 36:=fM;refine OD$ z9a func251 zis (z4u (b2:=b2) (b6:=b6) fM) ?_;rintro u w' rfl;have vA:TX w9 r s (a+(c.enc v).length):=⟨fg.OC h8.rd.1,h8.rd.2⟩;refine⟨_,.tmp O (.cell1 U36 O O ((fM).cell _) .nil),_,rfl,rfl,⟨ar.OC vA.1 (by omega),vA.2⟩,?_⟩;have ge:Ext w w7:=((ad.trans ae).trans ai).trans p9;have sE:Kp (λk=>k=r) w w8:=ge.kp.An aR (λi hi=>hi.elim (λe=> .inl (by omega)) .inr);exact(sE.trans fg.kp).An ar (λi hi=> .inl (by omega))
end
/-! ### Runs -/
def expand:Bool->List Nat->List Bool
 |_,[]=>[]
 |b,n::r=>List.replicate n b++expand (!b) r
theorem Y8:∀(b:Bool) (r s:List Nat),expand b (r++s)=expand b r++expand (if r.length%2=0 then b else !b) s
 |b,[],s=>by simp[expand]
 | b, n :: r, s => by
   rw[List.cons_append,expand,expand,Y8 (!b) r s,List.append_assoc]
   congr 2
   rcases Nat.mod_two_eq_zero_or_one r.length with e| e
   ·rw[if_pos e,if_neg (by rw[List.length_cons];omega)]
   ·rw[if_neg (by omega),if_pos (by rw[List.length_cons];omega)];simp
theorem SW:∀(b:Bool) (r:List Nat),(expand b r).length=r.sum
 |_,[]=>rfl
 |b,n::r=>by rw[expand,List.length_append,List.length_replicate,SW (!b) r,List.sum_cons]
def R3 (rs:List Nat)(f:Bool):List Nat:=
 let rs':=if f !=(rs.length%2==1) then rs++[0] else rs
 rs'.modify (rs'.length-1) (·+1)
theorem Wx (l:List Nat)(n:Nat):(l++[n]).modify ((l++[n]).length-1) (·+1)=l++[n+1]:=by
 have key:∀l:List Nat,(l++[n]).modify l.length (·+1)=l++[n+1]:=λl=>by
  induction l with
  |nil=>rfl
  |cons a l ih=>simpa using ih
 have:(l++[n]).length-1=l.length:=by simp
 rw[this,key]
structure Ty (rs:List Nat)(fs:List Bool):Prop where
 ne:rs≠[]
 exp:expand true rs=fs
 pos:∀n∈rs.drop 1,1<=n
theorem Ty.zero:Ty [0] []:=⟨by simp,rfl,by simp⟩
theorem Ty.step {rs:List Nat}{fs:List Bool}(h:Ty rs fs)(f:Bool):Ty (R3 rs f) (fs++[f]):=by
 obtain⟨h1,h2,h3⟩:=h
 obtain⟨l,n,rfl⟩:∃l n,rs=l++[n]:=⟨rs.dropLast,rs.getLast h1,(List.dropLast_concat_getLast h1).symm⟩
 unfold R3
 dsimp only
 have hlen:(l++[n]).length=l.length+1:=by simp
 rw[hlen]
 split
 ·rename_i hf
  rw[Wx];refine⟨by simp,?_,λk hk=>?_⟩
  ·rw[Y8,h2,hlen]
   congr 1
   rcases Nat.mod_two_eq_zero_or_one l.length with e|e<;>cases f<;>simp[expand,e,Nat.add_mod] at hf⊢
  ·rw[List.drop_append_of_le_length (by rw[hlen];omega)] at hk;rcases List.mem_append.1 hk with hk|hk
   ·exact h3 k hk
   ·simp at hk;omega
 ·rename_i hf
  rw[Wx];refine⟨by simp,?_,λk hk=>?_⟩
  ·rw[Y8] at h2⊢;rw[<-h2,List.append_assoc]
   congr 1
   simp only[expand,List.append_nil,List.replicate_succ']
   congr 1
   rcases Nat.mod_two_eq_zero_or_one l.length with e|e<;>cases f<;>simp[e,Nat.add_mod] at hf⊢
  ·cases l with
   |nil=>simp at hk
   | cons a l =>
     rw[List.cons_append,List.drop_succ_cons,List.drop_zero] at hk h3;rcases List.mem_append.1 hk with hk|hk
     ·exact h3 k (List.mem_append_left _ hk)
     ·simp at hk;omega
def copyL:Bool->List Nat->List Nat->List Nat
 |b,[],ref=>if b then ref else []
 |b,n::r,ref=>(if b then ref.take n else [])++copyL (!b) r (ref.drop n)
def sel:List Nat->List Bool->List Nat
 |x::l,f::fs=>if f then x::sel l fs else sel l fs
 |_,_=>[]
theorem z7H:∀{a b:List Nat} {fs gs:List Bool},a.length=fs.length->sel (a++b) (fs++gs)=sel a fs++sel b gs
 |[],b,[],gs,_=>rfl
 | x :: a, b, f :: fs, gs, h => by
   have h':a.length=fs.length:=by simpa using h
   rw[List.cons_append,List.cons_append,sel,sel,z7H h'];cases f<;>simp
theorem z3r:∀(l:List Nat) (b:Bool),sel l (List.replicate l.length b)=if b then l else []
 |[],b=>by cases b<;>rfl
 | x :: l, b => by
   rw[List.length_cons,List.replicate_succ,sel,z3r l b];cases b<;>rfl
theorem z4R:∀(b:Bool) (rs:List Nat) (m:Nat) (ref:List Nat),ref.length=(rs++[m]).sum->copyL b rs ref=sel ref (expand b (rs++[m]))
 | b, [], m, ref, h => by
   have hm:m=ref.length:=by simpa using h.symm
   subst hm;simp only[copyL,List.nil_append,expand,List.append_nil]
   rw[z3r]
 | b, n :: rs, m, ref, h => by
   rw[List.cons_append,List.sum_cons] at h;have hl:(ref.take n).length=n:=by rw[List.length_take];omega
   rw[copyL,List.cons_append,expand,z4R (!b) rs m (ref.drop n) (by rw[List.length_drop];omega)]
   conv=>rhs;rw[<-List.take_append_drop n ref,z7H (by rw[hl,List.length_replicate])]
   congr 1
   have:=z3r (ref.take n) b;rw[hl] at this;exact this.symm
/-! ### Rows of numbers that follow one another -/
def PS:Nat->List Nat->Nat
 |_,[]=>0
 |x,y::l=>if y=x+1 then PS y l+1 else 0
def Xa:∀(x:Nat) (l:List Nat),PS x l<=l.length
 |_,[]=>Nat.le_refl _
 | x, y :: l => by
   unfold PS;split
   ·have:=Xa y l;simp;omega
   ·exact Nat.zero_le _
theorem VU:∀(x:Nat) (l:List Nat) (i:Nat),i<PS x l->l[i]? =some (x+1+i)
 |_,[],i,h=>by simp[PS] at h
 | x, y :: l, i, h => by
   unfold PS at h;split at h
   ·rename_i e
    subst e
    cases i with
    |zero=>rfl
    |succ i=>rw[List.getElem?_cons_succ,VU (x+1) l i (by omega)];congr 1;omega
   ·omega
def Ww:∀(x:Nat) (l:List Nat) (y:Nat),l[PS x l]? =some y->y≠x+1+PS x l
 |_,[],y,h=>by simp at h
 | x, z :: l, y, h => by
   unfold PS at h⊢;split
   ·rename_i e
    rw[if_pos e,List.getElem?_cons_succ] at h;have:=Ww z l y h;omega
   ·rename_i e
    rw[if_neg e,List.getElem?_cons_zero] at h;cases h;omega
def PT (least:Nat):List Nat->List (Nat×Nat)×List Nat
 |[]=>([],[])
 | x :: l =>
   let n:=PS x l+1
   let q:=PT least (l.drop (PS x l))
   if 0<least/\least<=n then((x,n)::q.1,q.2) else(q.1,x::l.take (PS x l)++q.2)
termination_by l=>l.length
decreasing_by simp[List.length_drop];omega
def QW (l:List (Nat×Nat)):List Nat:=l.flatMap λp=>(List.range p.2).map (p.1+·)
abbrev Ris (l:List Nat):Prop:=l.Pairwise (·<·)
def zc8 (x:Nat)(l:List Nat):x::l.take (PS x l)=(List.range (PS x l+1)).map (x+·):=by
 apply List.ext_getElem?
 intro i
 have hle:=Xa x l
 cases i with
 |zero=>simp
 | succ i =>
   rw[List.getElem?_cons_succ,List.getElem?_take,List.getElem?_map];split
   ·rename_i h
    rw[VU x l i h,List.getElem?_range (by omega)];simp;omega
   ·rw[List.getElem?_eq_none (by simp;omega)];rfl
def TD (least:Nat):∀(l:List Nat),(QW (PT least l).1++(PT least l).2).Perm l
 |[]=>by simp[PT,QW]
 | x :: l => by
   have ih:=TD least (l.drop (PS x l));have hx:=zc8 x l;have hc:x::l=(x::l.take (PS x l))++l.drop (PS x l):=by rw[List.cons_append,List.take_append_drop]
   rw[PT];split
   ·rw[show QW ((x,PS x l+1)::(PT least (l.drop (PS x l))).1)=(List.range (PS x l+1)).map (x+·)++QW (PT least (l.drop (PS x l))).1 by simp[QW]];rw[<-hx,List.append_assoc]
    conv=>rhs;rw[hc]
    exact ih.append_left _
   ·conv=>rhs;rw[hc]
    refine List.Perm.trans ?_$ ih.append_left _;rw[<-List.append_assoc,<-List.append_assoc];exact(List.perm_append_comm).append_right _
 termination_by l=>l.length
 decreasing_by simp[List.length_drop];omega
end Go.Proofs.YtgdkbagngobdlaaGreatDoor
