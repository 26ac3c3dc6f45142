/- Merged by program. -/
import Derived.Test.YtffbidffdbpcoaaGreatDoorRows
import Derived.Test.YtffbidffdbpcoaaGreatDoorZk1
import Derived.KernelRfl
import Derived.Lib.AppendZerosOnto
import Derived.Lib.Overlaps
import Derived.Maps.RangeRun
set_option linter.all false
set_option maxRecDepth 1000000
set_option maxHeartbeats 16000000
namespace Go.Proofs.YtffbidffdbpcoaaGreatDoor
open Go Go.RowKit Go.Proofs.Tryz
set_option linter.unusedSimpArgs false
def QI {P:Program}{f:FuncId}{fn:Func}(h:P.funcs[f]? =some fn)(h2:(fn.name=="runtime.NumGoroutine")=false:=by kernel_rfl)(h3:fn.body.isNone=false:=by rfl):CF P f:=⟨fn,h,h2,h3⟩
theorem Rl:TI prog 3 (Value.int .i64 0) 1 8:=QD (by kernel_rfl)
theorem VK:TI prog 4 (Value.bool false) 1 1:=QD (by kernel_rfl)
theorem Y7:TI prog 5 (Value.int .u8 0) 1 1:=QD (by kernel_rfl)
theorem ti9:TI prog 9 (Value.string ⟨#[]⟩) 1 16:=QD (by kernel_rfl)
theorem zgP:TI prog 26 (Value.pointer none) 1 8:=QD (by kernel_rfl)
theorem za4:TI prog 27 (Value.pointer none) 1 8:=QD (by kernel_rfl)
theorem z9V:TI prog 28 (Value.pointer none) 1 8:=QD (by kernel_rfl)
def z0f:TI prog 30 (Value.agg #[Value.pointer none,Value.pointer none,Value.pointer none,Value.pointer none,Value.int .i64 0]) 5 40:=QD (by kernel_rfl)
def z7c:TI prog 37 (Value.slice none 0 0) 1 24:=QD (by kernel_rfl)
theorem UK:TI prog 39 (Value.int .u64 0) 1 8:=QD (by kernel_rfl)
def z4D:TI prog 44 (Value.int .i64 0) 1 8:=QD (by kernel_rfl)
def zga:TI prog 48 (Value.agg #[Value.int .i64 0,Value.int .i64 0,Value.int .i64 0]) 3 24:=QD (by kernel_rfl)
theorem zha:TI prog 54 (Value.nilFunc) 1 8:=QD (by kernel_rfl)
theorem Ql:TI prog 59 (Value.int .u32 0) 1 4:=QD (by kernel_rfl)
def z5V:TI prog 61 (Value.agg #[Value.int .u32 0,Value.int .u32 0]) 2 8:=QD (by kernel_rfl)
theorem Vz:TI prog 62 (Value.slice none 0 0) 1 24:=QD (by kernel_rfl)
theorem zcH:TI prog 66 (Value.agg #[Value.int .i64 0,Value.int .i64 0]) 2 16:=QD (by kernel_rfl)
theorem ziN:TI prog 67 (Value.pointer none) 1 8:=QD (by kernel_rfl)
theorem SO:TI prog 75 (Value.agg #[Value.int .i64 0,Value.int .i64 0,Value.int .i64 0,Value.int .i64 0,Value.int .i64 0]) 5 40:=QD (by kernel_rfl)
theorem z3k:TI prog 79 (Value.agg #[Value.int .i64 0,Value.int .i64 0,Value.int .i64 0,Value.int .i64 0,Value.int .i64 0,Value.int .i64 0,Value.int .i64 0]) 7 56:=QD (by kernel_rfl)
theorem ZU:TI prog 83 (Value.pointer none) 1 8:=QD (by kernel_rfl)
theorem zaK:TI prog 84 (Value.int .i64 0) 1 8:=QD (by kernel_rfl)
def zlm:TI prog 86 (Value.agg #[Value.pointer none,Value.pointer none,Value.pointer none,Value.pointer none,Value.pointer none,Value.int .i64 0,Value.int .i64 0,Value.bool false,Value.bool false]) 9 64:=QD (by kernel_rfl)
theorem z3g:TI prog 93 (Value.slice none 0 0) 1 24:=QD (by kernel_rfl)
def zgr:TI prog 95 (Value.agg #[Value.pointer none,Value.pointer none,Value.pointer none]) 3 24:=QD (by kernel_rfl)
theorem zkc:TI prog 97 (Value.map none) 1 8:=QD (by kernel_rfl)
theorem zg2:TI prog 99 (Value.agg #[Value.slice none 0 0,Value.int .i64 0,Value.int .u8 0]) 3 40:=QD (by kernel_rfl)
theorem z8I:TI prog 101 (Value.agg #[Value.int .i64 0,Value.slice none 0 0,Value.int .i64 0,Value.int .u8 0]) 4 48:=QD (by kernel_rfl)
theorem z9Q:TI prog 102 (Value.slice none 0 0) 1 24:=QD (by kernel_rfl)
def ziY:TI prog 104 (Value.agg #[Value.int .i64 0,Value.slice none 0 0,Value.int .i64 0,Value.int .u8 0,Value.int .i64 0,Value.int .i64 0,Value.map none,Value.slice none 0 0,Value.bool false,Value.int .i64 0,Value.int .i64 0]) 11 120:=QD (by kernel_rfl)
theorem zfG:TI prog 105 (Value.slice none 0 0) 1 24:=QD (by kernel_rfl)
def zhO:TI prog 107 (Value.agg #[Value.int .i64 0,Value.slice none 0 0,Value.slice none 0 0,Value.bool false]) 4 64:=QD (by kernel_rfl)
theorem zfv:TI prog 108 (Value.pointer none) 1 8:=QD (by kernel_rfl)
theorem zfF:TI prog 111 (Value.map none) 1 8:=QD (by kernel_rfl)
def zkS:TI prog 113 (Value.agg #[Value.pointer none,Value.pointer none,Value.pointer none,Value.map none,Value.int .i64 0,Value.int .i64 0,Value.int .i64 0,Value.int .i64 0,Value.int .i64 0,Value.int .i64 0,Value.int .i64 0,Value.bool false]) 12 96:=QD (by kernel_rfl)
theorem Sd:TI prog 118 (Value.agg #[Value.int .i64 0,Value.int .i64 0]) 2 16:=QD (by kernel_rfl)
def z3w:TI prog 121 (Value.pointer none) 1 8:=QD (by kernel_rfl)
theorem Vl:TI prog 134 (Value.agg #[Value.int .i64 0,Value.int .i64 0,Value.int .i64 0,Value.int .i64 0,Value.int .i64 0,Value.int .i64 0,Value.int .i64 0,Value.int .i64 0]) 8 64:=QD (by kernel_rfl)
theorem z3W:TI prog 136 (Value.nilIface) 1 16:=QD (by kernel_rfl)
theorem zeT:TI prog 137 (Value.pointer none) 1 8:=QD (by kernel_rfl)
def zhR:TI prog 139 (Value.agg #[Value.int .i64 0,Value.int .i64 0,Value.int .i64 0,Value.int .i64 0,Value.int .i64 0,Value.int .i64 0,Value.int .i64 0,Value.int .i64 0,Value.nilIface,Value.pointer none]) 10 88:=QD (by kernel_rfl)
theorem z0g:TI prog 141 (Value.agg #[Value.int .i64 0,Value.int .i64 0,Value.int .i64 0]) 3 24:=QD (by kernel_rfl)
def ziL:TI prog 143 (Value.agg #[Value.int .i64 0,Value.int .i64 0,Value.int .i64 0,Value.int .i64 0,Value.int .i64 0,Value.pointer none,Value.bool false]) 7 56:=QD (by kernel_rfl)
theorem zfy:TI prog 150 (Value.nilFunc) 1 8:=QD (by kernel_rfl)
theorem zfB:TI prog 151 (Value.nilFunc) 1 8:=QD (by kernel_rfl)
def YL:TI prog 153 (Value.agg #[Value.nilFunc,Value.nilFunc,Value.int .i64 0]) 3 24:=QD (by kernel_rfl)
def z8G:TI prog 154 (Value.agg #[Value.nilFunc,Value.nilFunc,Value.int .i64 0,Value.nilFunc,Value.nilFunc,Value.int .i64 0,Value.nilFunc,Value.nilFunc,Value.int .i64 0]) 9 72:=QD (by kernel_rfl)
def zfO:TI prog 160 (Value.agg #[Value.pointer none,Value.slice none 0 0]) 2 32:=QD (by kernel_rfl)
theorem z8H:TI prog 169 (Value.map none) 1 8:=QD (by kernel_rfl)
theorem z5y:TI prog 171 (Value.agg #[Value.slice none 0 0,Value.map none]) 2 32:=QD (by kernel_rfl)
def zj2:TI prog 173 (Value.agg #[Value.int .i64 0,Value.slice none 0 0,Value.map none,Value.slice none 0 0,Value.map none,Value.slice none 0 0,Value.map none,Value.slice none 0 0,Value.map none,Value.int .i64 0,Value.map none]) 11 152:=QD (by kernel_rfl)
theorem YJ:TI prog 179 (Value.agg #[Value.pointer none,Value.int .i64 0,Value.int .i64 0]) 3 24:=QD (by kernel_rfl)
def zf0:TI prog 181 (Value.agg #[Value.pointer none,Value.int .i64 0,Value.int .i64 0,Value.slice none 0 0,Value.int .i64 0,Value.int .i64 0,Value.int .u32 0,Value.nilFunc,Value.bool false]) 9 88:=QD (by kernel_rfl)
def zjz:TI prog 186 (Value.agg #[Value.pointer none,Value.int .i64 0,Value.int .i64 0,Value.int .i64 0,Value.int .u32 0]) 5 40:=QD (by kernel_rfl)
def z3A:TI prog 190 (Value.int .u8 0) 1 1:=QD (by kernel_rfl)
def zc7:TI prog 200 (Value.pointer none) 1 8:=QD (by kernel_rfl)
theorem z9L:TI prog 202 (Value.agg #[Value.string ⟨#[]⟩,Value.bool false]) 2 24:=QD (by kernel_rfl)
def zjD:TI prog 204 (Value.agg #[Value.string ⟨#[]⟩,Value.bool false,Value.int .i64 0]) 3 32:=QD (by kernel_rfl)
theorem z9n:TI prog 213 (Value.pointer none) 1 8:=QD (by kernel_rfl)
def WG:TI prog 215 (Value.agg #[Value.int .i64 0,Value.int .i64 0]) 2 16:=QD (by kernel_rfl)
theorem Uz:TI prog 220 (Value.agg #[Value.int .i64 0,Value.int .u64 0,Value.int .i64 0,Value.int .i64 0]) 4 32:=QD (by kernel_rfl)
def zjY:TI prog 233 (Value.agg #[Value.nilIface,Value.int .i64 0,Value.int .i64 0]) 3 32:=QD (by kernel_rfl)
def QG:TI prog 245 (Value.agg #[Value.bool false,Value.bool false,Value.int .i64 0]) 3 16:=QD (by kernel_rfl)
def RY:TI prog 252 (Value.agg #[Value.slice none 0 0,Value.int .i64 0]) 2 32:=QD (by kernel_rfl)
def zhY:TI prog 253 (Value.agg #[Value.slice none 0 0,Value.int .i64 0,Value.slice none 0 0,Value.int .i64 0,Value.slice none 0 0,Value.int .i64 0,Value.slice none 0 0,Value.int .i64 0,Value.slice none 0 0,Value.int .i64 0,Value.slice none 0 0,Value.int .i64 0,Value.slice none 0 0,Value.int .i64 0,Value.slice none 0 0,Value.int .i64 0,Value.slice none 0 0,Value.int .i64 0,Value.slice none 0 0,Value.int .i64 0,Value.slice none 0 0,Value.int .i64 0,Value.slice none 0 0,Value.int .i64 0,Value.slice none 0 0,Value.int .i64 0,Value.slice none 0 0,Value.int .i64 0,Value.slice none 0 0,Value.int .i64 0,Value.slice none 0 0,Value.int .i64 0,Value.slice none 0 0,Value.int .i64 0]) 34 544:=QD (by kernel_rfl)
theorem zeX:TI prog 255 (Value.agg #[Value.slice none 0 0,Value.int .i64 0,Value.slice none 0 0,Value.int .i64 0,Value.slice none 0 0,Value.int .i64 0,Value.slice none 0 0,Value.int .i64 0,Value.slice none 0 0,Value.int .i64 0,Value.slice none 0 0,Value.int .i64 0,Value.slice none 0 0,Value.int .i64 0,Value.slice none 0 0,Value.int .i64 0,Value.slice none 0 0,Value.int .i64 0,Value.slice none 0 0,Value.int .i64 0,Value.slice none 0 0,Value.int .i64 0,Value.slice none 0 0,Value.int .i64 0,Value.slice none 0 0,Value.int .i64 0,Value.slice none 0 0,Value.int .i64 0,Value.slice none 0 0,Value.int .i64 0,Value.slice none 0 0,Value.int .i64 0,Value.slice none 0 0,Value.int .i64 0,Value.int .i64 0]) 35 552:=QD (by kernel_rfl)
def zkg:TI prog 257 (Value.agg #[Value.int .i64 0,Value.int .i64 0,Value.int .i64 0,Value.int .i64 0,Value.int .i64 0,Value.slice none 0 0,Value.int .i64 0,Value.slice none 0 0,Value.int .i64 0,Value.slice none 0 0,Value.int .i64 0,Value.slice none 0 0,Value.int .i64 0,Value.slice none 0 0,Value.int .i64 0,Value.slice none 0 0,Value.int .i64 0,Value.slice none 0 0,Value.int .i64 0,Value.slice none 0 0,Value.int .i64 0,Value.slice none 0 0,Value.int .i64 0,Value.slice none 0 0,Value.int .i64 0,Value.slice none 0 0,Value.int .i64 0,Value.slice none 0 0,Value.int .i64 0,Value.slice none 0 0,Value.int .i64 0,Value.slice none 0 0,Value.int .i64 0,Value.slice none 0 0,Value.int .i64 0,Value.slice none 0 0,Value.int .i64 0,Value.slice none 0 0,Value.int .i64 0,Value.int .i64 0,Value.pointer none,Value.int .i64 0,Value.int .i64 0]) 43 616:=QD (by kernel_rfl)
def Vu:TI prog 260 (Value.agg #[Value.int .i64 0,Value.int .i64 0,Value.int .i64 0]) 3 24:=QD (by kernel_rfl)
def zhp:TI prog 267 (Value.agg #[Value.slice none 0 0,Value.int .i64 0]) 2 32:=QD (by kernel_rfl)
theorem z3S:TI prog 273 (Value.pointer none) 1 8:=QD (by kernel_rfl)
def zhz:TI prog 277 (Value.agg #[Value.int .i64 0,Value.int .u64 0,Value.int .i64 0,Value.int .i64 0,Value.nilIface]) 5 48:=QD (by kernel_rfl)
def zf4:TI prog 278 (Value.pointer none) 1 8:=QD (by kernel_rfl)
def zci:TI prog 291 (Value.slice none 0 0) 1 24:=QD (by kernel_rfl)
theorem RX:TI prog 294 (Value.agg #[Value.int .u8 0,Value.int .u64 0]) 2 16:=QD (by kernel_rfl)
def WI:TI prog 296 (Value.agg #[Value.int .u8 0,Value.int .u64 0,Value.int .u64 0]) 3 24:=QD (by kernel_rfl)
def zji:TI prog 301 (Value.agg #[Value.string ⟨#[]⟩,Value.int .i64 0]) 2 24:=QD (by kernel_rfl)
def zfI:TI prog 306 (Value.nilFunc) 1 8:=QD (by kernel_rfl)
def Tv:TI prog 308 (Value.agg #[Value.int .i64 0,Value.int .i64 0]) 2 16:=QD (by kernel_rfl)
def XM:TI prog 313 (Value.agg #[Value.int .i64 0,Value.string ⟨#[]⟩]) 2 24:=QD (by kernel_rfl)
def z27:TI prog 326 (Value.agg #[Value.int .i64 0,Value.int .i64 0]) 2 16:=QD (by kernel_rfl)
def U6:TI prog 329 (Value.agg #[Value.int .u64 0,Value.int .i64 0]) 2 16:=QD (by kernel_rfl)
def W4:TI prog 330 (Value.agg #[Value.int .u64 0,Value.int .i64 0,Value.int .u64 0,Value.int .i64 0]) 4 32:=QD (by kernel_rfl)
def zi3:TI prog 339 (Value.agg #[Value.pointer none,Value.bool false]) 2 16:=QD (by kernel_rfl)
def zk2:TI prog 353 (Value.agg #[Value.pointer none,Value.bool false]) 2 16:=QD (by kernel_rfl)
def z61:TI prog 370 (Value.int .u64 0) 1 8:=QD (by kernel_rfl)
def z2P:Rz prog 30 1 1 1 false:=⟨_,_,_,_,_,underlying30,rfl,rfl,za4,underlying27,rfl⟩
def z82:Rz prog 30 2 2 1 false:=⟨_,_,_,_,_,underlying30,rfl,rfl,z9V,underlying28,rfl⟩
def z7m:Rz prog 30 3 3 1 false:=⟨_,_,_,_,_,underlying30,rfl,rfl,z9V,underlying28,rfl⟩
def zg4:Rz prog 30 4 4 1 false:=⟨_,_,_,_,_,underlying30,rfl,rfl,Rl,underlying3,rfl⟩
def zlR:SP prog 30 [(0,1),(1,1),(2,1),(3,1),(4,1)]:=⟨_,underlying30,λ_=>by simp[zgP.size,za4.size,z9V.size,Rl.size,Sem.run_bind,Sem.run_pure]⟩
def zgd:Rz prog 48 0 0 1 false:=⟨_,_,_,_,_,underlying48,rfl,rfl,Rl,underlying3,rfl⟩
def zg9:Rz prog 48 1 1 1 false:=⟨_,_,_,_,_,underlying48,rfl,rfl,Rl,underlying3,rfl⟩
def zgc:Rz prog 48 2 2 1 false:=⟨_,_,_,_,_,underlying48,rfl,rfl,Rl,underlying3,rfl⟩
def z7J:Rz prog 61 0 0 1 false:=⟨_,_,_,_,_,underlying61,rfl,rfl,Ql,underlying59,rfl⟩
def z2g:Rz prog 61 1 1 1 false:=⟨_,_,_,_,_,underlying61,rfl,rfl,Ql,underlying59,rfl⟩
def z0o:Rz prog 66 0 0 1 false:=⟨_,_,_,_,_,underlying66,rfl,rfl,Rl,underlying3,rfl⟩
def z0K:Rz prog 66 1 1 1 false:=⟨_,_,_,_,_,underlying66,rfl,rfl,Rl,underlying3,rfl⟩
def zlU:SP prog 66 [(0,1),(1,1)]:=⟨_,underlying66,λ_=>by simp[Rl.size,Sem.run_bind,Sem.run_pure]⟩
def z2T:Rz prog 75 0 0 1 false:=⟨_,_,_,_,_,underlying75,rfl,rfl,Rl,underlying3,rfl⟩
def z0L:Rz prog 75 1 1 1 false:=⟨_,_,_,_,_,underlying75,rfl,rfl,Rl,underlying3,rfl⟩
def zdb:Rz prog 75 2 2 1 false:=⟨_,_,_,_,_,underlying75,rfl,rfl,Rl,underlying3,rfl⟩
def zbZ:Rz prog 75 3 3 1 false:=⟨_,_,_,_,_,underlying75,rfl,rfl,Rl,underlying3,rfl⟩
def UO:Rz prog 75 4 4 1 false:=⟨_,_,_,_,_,underlying75,rfl,rfl,Rl,underlying3,rfl⟩
def zeH:SP prog 75 [(0,1),(1,1),(2,1),(3,1),(4,1)]:=⟨_,underlying75,λ_=>by simp[Rl.size,Sem.run_bind,Sem.run_pure]⟩
def zbM:Rz prog 79 1 1 1 false:=⟨_,_,_,_,_,underlying79,rfl,rfl,Rl,underlying3,rfl⟩
def zcf:Rz prog 79 2 2 1 false:=⟨_,_,_,_,_,underlying79,rfl,rfl,Rl,underlying3,rfl⟩
def zc8:Rz prog 79 3 3 1 false:=⟨_,_,_,_,_,underlying79,rfl,rfl,Rl,underlying3,rfl⟩
def zgo:Rz prog 79 4 4 1 false:=⟨_,_,_,_,_,underlying79,rfl,rfl,Rl,underlying3,rfl⟩
def zgU:Rz prog 79 6 6 1 false:=⟨_,_,_,_,_,underlying79,rfl,rfl,Rl,underlying3,rfl⟩
def zlC:SP prog 79 [(0,1),(1,1),(2,1),(3,1),(4,1),(5,1),(6,1)]:=⟨_,underlying79,λ_=>by simp[Rl.size,Sem.run_bind,Sem.run_pure]⟩
def XC:Rz prog 86 0 0 1 false:=⟨_,_,_,_,_,underlying86,rfl,rfl,z9V,underlying28,rfl⟩
def zgE:Rz prog 86 1 1 1 false:=⟨_,_,_,_,_,underlying86,rfl,rfl,z9V,underlying28,rfl⟩
def VN:Rz prog 86 2 2 1 false:=⟨_,_,_,_,_,underlying86,rfl,rfl,ZU,underlying83,rfl⟩
def Vo:Rz prog 86 3 3 1 false:=⟨_,_,_,_,_,underlying86,rfl,rfl,ZU,underlying83,rfl⟩
def Wu:Rz prog 86 4 4 1 false:=⟨_,_,_,_,_,underlying86,rfl,rfl,ZU,underlying83,rfl⟩
def z2L:Rz prog 86 5 5 1 false:=⟨_,_,_,_,_,underlying86,rfl,rfl,Rl,underlying3,rfl⟩
def z2N:Rz prog 86 6 6 1 false:=⟨_,_,_,_,_,underlying86,rfl,rfl,zaK,underlying84,rfl⟩
def z0y:Rz prog 86 7 7 1 false:=⟨_,_,_,_,_,underlying86,rfl,rfl,VK,underlying4,rfl⟩
def zcg:Rz prog 86 8 8 1 false:=⟨_,_,_,_,_,underlying86,rfl,rfl,VK,underlying4,rfl⟩
def zm2:SP prog 86 [(0,1),(1,1),(2,1),(3,1),(4,1),(5,1),(6,1),(7,1),(8,1)]:=⟨_,underlying86,λ_=>by simp[z9V.size,Rl.size,VK.size,ZU.size,zaK.size,Sem.run_bind,Sem.run_pure]⟩
def zhf:Rz prog 99 0 0 1 false:=⟨_,_,_,_,_,underlying99,rfl,rfl,z7c,underlying37,rfl⟩
def zg8:Rz prog 99 1 1 1 false:=⟨_,_,_,_,_,underlying99,rfl,rfl,Rl,underlying3,rfl⟩
def zgC:Rz prog 99 2 2 1 false:=⟨_,_,_,_,_,underlying99,rfl,rfl,Y7,underlying5,rfl⟩
def z1M:Rz prog 101 0 0 1 false:=⟨_,_,_,_,_,underlying101,rfl,rfl,Rl,underlying3,rfl⟩
def zes:Rz prog 101 1 1 3 true:=⟨_,_,_,_,_,underlying101,rfl,rfl,zg2,underlying99,rfl⟩
def zjQ:SP prog 101 [(0,1),(1,3)]:=⟨_,underlying101,λ_=>by simp[Rl.size,zg2.size,Sem.run_bind,Sem.run_pure]⟩
def Y6:Rz prog 104 0 0 4 true:=⟨_,_,_,_,_,underlying104,rfl,rfl,z8I,underlying101,rfl⟩
def z1K:Rz prog 104 1 4 2 true:=⟨_,_,_,_,_,underlying104,rfl,rfl,zcH,underlying66,rfl⟩
def z4j:Rz prog 104 2 6 1 false:=⟨_,_,_,_,_,underlying104,rfl,rfl,zkc,underlying97,rfl⟩
def ZT:Rz prog 104 3 7 1 false:=⟨_,_,_,_,_,underlying104,rfl,rfl,z9Q,underlying102,rfl⟩
def z4e:Rz prog 104 4 8 1 false:=⟨_,_,_,_,_,underlying104,rfl,rfl,VK,underlying4,rfl⟩
def z9K:Rz prog 104 5 9 1 false:=⟨_,_,_,_,_,underlying104,rfl,rfl,Rl,underlying3,rfl⟩
def z9I:Rz prog 104 6 10 1 false:=⟨_,_,_,_,_,underlying104,rfl,rfl,Rl,underlying3,rfl⟩
def zkn:SP prog 104 [(0,4),(4,2),(6,1),(7,1),(8,1),(9,1),(10,1)]:=⟨_,underlying104,λ_=>by simp[z8I.size,z9Q.size,Rl.size,VK.size,zcH.size,zkc.size,Sem.run_bind,Sem.run_pure]⟩
def z8L:Rz prog 107 0 0 1 false:=⟨_,_,_,_,_,underlying107,rfl,rfl,Rl,underlying3,rfl⟩
def Wq:Rz prog 107 1 1 1 false:=⟨_,_,_,_,_,underlying107,rfl,rfl,zfG,underlying105,rfl⟩
def zdM:Rz prog 107 3 3 1 false:=⟨_,_,_,_,_,underlying107,rfl,rfl,VK,underlying4,rfl⟩
def zjV:SP prog 107 [(0,1),(1,1),(2,1),(3,1)]:=⟨_,underlying107,λ_=>by simp[zfG.size,Rl.size,VK.size,Sem.run_bind,Sem.run_pure]⟩
def Wr:Rz prog 113 0 0 1 false:=⟨_,_,_,_,_,underlying113,rfl,rfl,zgP,underlying26,rfl⟩
def z4p:Rz prog 113 1 1 1 false:=⟨_,_,_,_,_,underlying113,rfl,rfl,ziN,underlying67,rfl⟩
def z9a:Rz prog 113 2 2 1 false:=⟨_,_,_,_,_,underlying113,rfl,rfl,zfv,underlying108,rfl⟩
def Wj:Rz prog 113 3 3 1 false:=⟨_,_,_,_,_,underlying113,rfl,rfl,zfF,underlying111,rfl⟩
def WT:Rz prog 113 4 4 7 true:=⟨_,_,_,_,_,underlying113,rfl,rfl,z3k,underlying79,rfl⟩
def z9P:Rz prog 113 5 11 1 false:=⟨_,_,_,_,_,underlying113,rfl,rfl,VK,underlying4,rfl⟩
def zi5:SP prog 113 [(0,1),(1,1),(2,1),(3,1),(4,7),(11,1)]:=⟨_,underlying113,λ_=>by simp[zfv.size,zfF.size,zgP.size,VK.size,ziN.size,z3k.size,Sem.run_bind,Sem.run_pure]⟩
def S4:Rz prog 118 0 0 1 false:=⟨_,_,_,_,_,underlying118,rfl,rfl,Rl,underlying3,rfl⟩
def Sg:Rz prog 118 1 1 1 false:=⟨_,_,_,_,_,underlying118,rfl,rfl,Rl,underlying3,rfl⟩
def ziq:SP prog 118 [(0,1),(1,1)]:=⟨_,underlying118,λ_=>by simp[Rl.size,Sem.run_bind,Sem.run_pure]⟩
def Vv:Rz prog 134 0 0 1 false:=⟨_,_,_,_,_,underlying134,rfl,rfl,Rl,underlying3,rfl⟩
def z1D:Rz prog 134 1 1 1 false:=⟨_,_,_,_,_,underlying134,rfl,rfl,Rl,underlying3,rfl⟩
def ZK:Rz prog 134 2 2 5 true:=⟨_,_,_,_,_,underlying134,rfl,rfl,SO,underlying75,rfl⟩
def Wh:Rz prog 134 3 7 1 false:=⟨_,_,_,_,_,underlying134,rfl,rfl,Rl,underlying3,rfl⟩
def zfs:SP prog 134 [(0,1),(1,1),(2,5),(7,1)]:=⟨_,underlying134,λ_=>by simp[Rl.size,SO.size,Sem.run_bind,Sem.run_pure]⟩
def X8:Rz prog 139 0 0 8 true:=⟨_,_,_,_,_,underlying139,rfl,rfl,Vl,underlying134,rfl⟩
def zdH:Rz prog 139 1 8 1 false:=⟨_,_,_,_,_,underlying139,rfl,rfl,z3W,underlying136,rfl⟩
def z9M:Rz prog 139 2 9 1 false:=⟨_,_,_,_,_,underlying139,rfl,rfl,zeT,underlying137,rfl⟩
def zkA:SP prog 139 [(0,8),(8,1),(9,1)]:=⟨_,underlying139,λ_=>by simp[Vl.size,z3W.size,zeT.size,Sem.run_bind,Sem.run_pure]⟩
def ZC:Rz prog 141 0 0 1 false:=⟨_,_,_,_,_,underlying141,rfl,rfl,Rl,underlying3,rfl⟩
def UG:Rz prog 141 1 1 1 false:=⟨_,_,_,_,_,underlying141,rfl,rfl,Rl,underlying3,rfl⟩
def Xg:Rz prog 141 2 2 1 false:=⟨_,_,_,_,_,underlying141,rfl,rfl,Rl,underlying3,rfl⟩
def zj0:SP prog 141 [(0,1),(1,1),(2,1)]:=⟨_,underlying141,λ_=>by simp[Rl.size,Sem.run_bind,Sem.run_pure]⟩
def S8:Rz prog 143 0 0 3 true:=⟨_,_,_,_,_,underlying143,rfl,rfl,z0g,underlying141,rfl⟩
def ZD:Rz prog 143 1 3 2 true:=⟨_,_,_,_,_,underlying143,rfl,rfl,Sd,underlying118,rfl⟩
def WV:Rz prog 143 2 5 1 false:=⟨_,_,_,_,_,underlying143,rfl,rfl,za4,underlying27,rfl⟩
def z9O:Rz prog 143 3 6 1 false:=⟨_,_,_,_,_,underlying143,rfl,rfl,VK,underlying4,rfl⟩
def zhF:SP prog 143 [(0,3),(3,2),(5,1),(6,1)]:=⟨_,underlying143,λ_=>by simp[Sd.size,z0g.size,za4.size,VK.size,Sem.run_bind,Sem.run_pure]⟩
def ze7:Rz prog 153 0 0 1 false:=⟨_,_,_,_,_,underlying153,rfl,rfl,zfy,underlying150,rfl⟩
def zej:Rz prog 153 1 1 1 false:=⟨_,_,_,_,_,underlying153,rfl,rfl,zfB,underlying151,rfl⟩
def zdX:Rz prog 153 2 2 1 false:=⟨_,_,_,_,_,underlying153,rfl,rfl,zaK,underlying84,rfl⟩
def zds:SP prog 153 [(0,1),(1,1),(2,1)]:=⟨_,underlying153,λ_=>by simp[zfy.size,zfB.size,zaK.size,Sem.run_bind,Sem.run_pure]⟩
def z1B:Rz prog 160 1 1 1 false:=⟨_,_,_,_,_,underlying160,rfl,rfl,z3g,underlying93,rfl⟩
def Ro:Rz prog 171 0 0 1 false:=⟨_,_,_,_,_,underlying171,rfl,rfl,z7c,underlying37,rfl⟩
def ZV:Rz prog 171 1 1 1 false:=⟨_,_,_,_,_,underlying171,rfl,rfl,z8H,underlying169,rfl⟩
def TH:Rz prog 173 0 0 1 false:=⟨_,_,_,_,_,underlying173,rfl,rfl,Rl,underlying3,rfl⟩
def RJ:Rz prog 173 1 1 2 true:=⟨_,_,_,_,_,underlying173,rfl,rfl,z5y,underlying171,rfl⟩
def Sw:Rz prog 173 2 3 2 true:=⟨_,_,_,_,_,underlying173,rfl,rfl,z5y,underlying171,rfl⟩
def S3:Rz prog 173 3 5 2 true:=⟨_,_,_,_,_,underlying173,rfl,rfl,z5y,underlying171,rfl⟩
def Sq:Rz prog 173 4 7 2 true:=⟨_,_,_,_,_,underlying173,rfl,rfl,z5y,underlying171,rfl⟩
def So:Rz prog 173 5 9 1 false:=⟨_,_,_,_,_,underlying173,rfl,rfl,Rl,underlying3,rfl⟩
def z1E:Rz prog 173 6 10 1 false:=⟨_,_,_,_,_,underlying173,rfl,rfl,z8H,underlying169,rfl⟩
def zjJ:SP prog 173 [(0,1),(1,2),(3,2),(5,2),(7,2),(9,1),(10,1)]:=⟨_,underlying173,λ_=>by simp[z8H.size,z5y.size,Rl.size,Sem.run_bind,Sem.run_pure]⟩
def Wg:Rz prog 179 0 0 1 false:=⟨_,_,_,_,_,underlying179,rfl,rfl,za4,underlying27,rfl⟩
def VB:Rz prog 179 1 1 2 true:=⟨_,_,_,_,_,underlying179,rfl,rfl,Sd,underlying118,rfl⟩
def zfQ:SP prog 179 [(0,1),(1,2)]:=⟨_,underlying179,λ_=>by simp[Sd.size,za4.size,Sem.run_bind,Sem.run_pure]⟩
def Yw:Rz prog 181 0 0 3 true:=⟨_,_,_,_,_,underlying181,rfl,rfl,YJ,underlying179,rfl⟩
def Ua:Rz prog 181 1 3 1 false:=⟨_,_,_,_,_,underlying181,rfl,rfl,z3g,underlying93,rfl⟩
def Zt:Rz prog 181 2 4 1 false:=⟨_,_,_,_,_,underlying181,rfl,rfl,Rl,underlying3,rfl⟩
def z1v:Rz prog 181 3 5 1 false:=⟨_,_,_,_,_,underlying181,rfl,rfl,Rl,underlying3,rfl⟩
def z4Q:Rz prog 181 4 6 1 false:=⟨_,_,_,_,_,underlying181,rfl,rfl,Ql,underlying59,rfl⟩
def z1u:Rz prog 181 5 7 1 false:=⟨_,_,_,_,_,underlying181,rfl,rfl,zha,underlying54,rfl⟩
def z0d:Rz prog 181 6 8 1 false:=⟨_,_,_,_,_,underlying181,rfl,rfl,VK,underlying4,rfl⟩
def zff:SP prog 181 [(0,3),(3,1),(4,1),(5,1),(6,1),(7,1),(8,1)]:=⟨_,underlying181,λ_=>by simp[YJ.size,Rl.size,VK.size,zha.size,Ql.size,z3g.size,Sem.run_bind,Sem.run_pure]⟩
def z0b:Rz prog 186 0 0 3 true:=⟨_,_,_,_,_,underlying186,rfl,rfl,YJ,underlying179,rfl⟩
def z1x:Rz prog 186 1 3 1 false:=⟨_,_,_,_,_,underlying186,rfl,rfl,Rl,underlying3,rfl⟩
def zeE:Rz prog 186 2 4 1 false:=⟨_,_,_,_,_,underlying186,rfl,rfl,Ql,underlying59,rfl⟩
def ziT:SP prog 186 [(0,3),(3,1),(4,1)]:=⟨_,underlying186,λ_=>by simp[YJ.size,Rl.size,Ql.size,Sem.run_bind,Sem.run_pure]⟩
def z4o:Rz prog 202 0 0 1 false:=⟨_,_,_,_,_,underlying202,rfl,rfl,ti9,underlying9,rfl⟩
def z4A:Rz prog 202 1 1 1 false:=⟨_,_,_,_,_,underlying202,rfl,rfl,VK,underlying4,rfl⟩
def zjx:SP prog 202 [(0,1),(1,1)]:=⟨_,underlying202,λ_=>by simp[VK.size,ti9.size,Sem.run_bind,Sem.run_pure]⟩
def WZ:Rz prog 204 0 0 2 true:=⟨_,_,_,_,_,underlying204,rfl,rfl,z9L,underlying202,rfl⟩
def zdD:Rz prog 204 1 2 1 false:=⟨_,_,_,_,_,underlying204,rfl,rfl,Rl,underlying3,rfl⟩
def zi7:SP prog 204 [(0,2),(2,1)]:=⟨_,underlying204,λ_=>by simp[z9L.size,Rl.size,Sem.run_bind,Sem.run_pure]⟩
def ze5:Rz prog 215 0 0 1 false:=⟨_,_,_,_,_,underlying215,rfl,rfl,Rl,underlying3,rfl⟩
def zei:Rz prog 215 1 1 1 false:=⟨_,_,_,_,_,underlying215,rfl,rfl,Rl,underlying3,rfl⟩
def z1q:SP prog 215 [(0,1),(1,1)]:=⟨_,underlying215,λ_=>by simp[Rl.size,Sem.run_bind,Sem.run_pure]⟩
def ZQ:Rz prog 220 0 0 1 false:=⟨_,_,_,_,_,underlying220,rfl,rfl,Rl,underlying3,rfl⟩
def zeu:Rz prog 220 1 1 1 false:=⟨_,_,_,_,_,underlying220,rfl,rfl,UK,underlying39,rfl⟩
def UH:Rz prog 220 2 2 1 false:=⟨_,_,_,_,_,underlying220,rfl,rfl,Rl,underlying3,rfl⟩
def z06:Rz prog 220 3 3 1 false:=⟨_,_,_,_,_,underlying220,rfl,rfl,Rl,underlying3,rfl⟩
def ziR:SP prog 220 [(0,1),(1,1),(2,1),(3,1)]:=⟨_,underlying220,λ_=>by simp[Rl.size,UK.size,Sem.run_bind,Sem.run_pure]⟩
def zep:Rz prog 233 0 0 1 false:=⟨_,_,_,_,_,underlying233,rfl,rfl,z3W,underlying136,rfl⟩
def zeR:Rz prog 233 1 1 1 false:=⟨_,_,_,_,_,underlying233,rfl,rfl,Rl,underlying3,rfl⟩
def z4T:Rz prog 233 2 2 1 false:=⟨_,_,_,_,_,underlying233,rfl,rfl,Rl,underlying3,rfl⟩
def zkB:SP prog 233 [(0,1),(1,1),(2,1)]:=⟨_,underlying233,λ_=>by simp[z3W.size,Rl.size,Sem.run_bind,Sem.run_pure]⟩
def zed:Rz prog 245 0 0 1 false:=⟨_,_,_,_,_,underlying245,rfl,rfl,VK,underlying4,rfl⟩
def zeS:Rz prog 245 1 1 1 false:=⟨_,_,_,_,_,underlying245,rfl,rfl,VK,underlying4,rfl⟩
def z4S:Rz prog 245 2 2 1 false:=⟨_,_,_,_,_,underlying245,rfl,rfl,Rl,underlying3,rfl⟩
def Xk:SP prog 245 [(0,1),(1,1),(2,1)]:=⟨_,underlying245,λ_=>by simp[Rl.size,VK.size,Sem.run_bind,Sem.run_pure]⟩
def TC:Rz prog 252 0 0 1 false:=⟨_,_,_,_,_,underlying252,rfl,rfl,Vz,underlying62,rfl⟩
def z4s:Rz prog 252 1 1 1 false:=⟨_,_,_,_,_,underlying252,rfl,rfl,Rl,underlying3,rfl⟩
def zfb:SP prog 252 [(0,1),(1,1)]:=⟨_,underlying252,λ_=>by simp[Rl.size,Vz.size,Sem.run_bind,Sem.run_pure]⟩
def z9u:Rz prog 255 0 0 34 true:=⟨_,_,_,_,_,underlying255,rfl,rfl,zhY,underlying253,rfl⟩
def Ws:Rz prog 255 1 34 1 false:=⟨_,_,_,_,_,underlying255,rfl,rfl,Rl,underlying3,rfl⟩
def Yb:Rz prog 257 0 0 5 true:=⟨_,_,_,_,_,underlying257,rfl,rfl,SO,underlying75,rfl⟩
def ZN:Rz prog 257 1 5 35 true:=⟨_,_,_,_,_,underlying257,rfl,rfl,zeX,underlying255,rfl⟩
def z4d:Rz prog 257 2 40 1 false:=⟨_,_,_,_,_,underlying257,rfl,rfl,z9n,underlying213,rfl⟩
def z4B:Rz prog 257 3 41 1 false:=⟨_,_,_,_,_,underlying257,rfl,rfl,Rl,underlying3,rfl⟩
def zeO:Rz prog 257 4 42 1 false:=⟨_,_,_,_,_,underlying257,rfl,rfl,Rl,underlying3,rfl⟩
def zjC:SP prog 257 [(0,5),(5,35),(40,1),(41,1),(42,1)]:=⟨_,underlying257,λ_=>by simp[z9n.size,zeX.size,Rl.size,SO.size,Sem.run_bind,Sem.run_pure]⟩
def UJ:Rz prog 260 0 0 1 false:=⟨_,_,_,_,_,underlying260,rfl,rfl,Rl,underlying3,rfl⟩
def VC:Rz prog 260 1 1 1 false:=⟨_,_,_,_,_,underlying260,rfl,rfl,Rl,underlying3,rfl⟩
def z1w:Rz prog 260 2 2 1 false:=⟨_,_,_,_,_,underlying260,rfl,rfl,Rl,underlying3,rfl⟩
def zkM:SP prog 260 [(0,1),(1,1),(2,1)]:=⟨_,underlying260,λ_=>by simp[Rl.size,Sem.run_bind,Sem.run_pure]⟩
def Zw:Rz prog 267 0 0 1 false:=⟨_,_,_,_,_,underlying267,rfl,rfl,z3g,underlying93,rfl⟩
def Yu:Rz prog 267 1 1 1 false:=⟨_,_,_,_,_,underlying267,rfl,rfl,Rl,underlying3,rfl⟩
def zib:SP prog 267 [(0,1),(1,1)]:=⟨_,underlying267,λ_=>by simp[Rl.size,z3g.size,Sem.run_bind,Sem.run_pure]⟩
def TE:Rz prog 277 0 0 4 true:=⟨_,_,_,_,_,underlying277,rfl,rfl,Uz,underlying220,rfl⟩
def z4r:Rz prog 277 1 4 1 false:=⟨_,_,_,_,_,underlying277,rfl,rfl,z3W,underlying136,rfl⟩
def ziV:SP prog 277 [(0,4),(4,1)]:=⟨_,underlying277,λ_=>by simp[z3W.size,Uz.size,Sem.run_bind,Sem.run_pure]⟩
def Tn:Rz prog 294 0 0 1 false:=⟨_,_,_,_,_,underlying294,rfl,rfl,Y7,underlying5,rfl⟩
def Yv:Rz prog 294 1 1 1 false:=⟨_,_,_,_,_,underlying294,rfl,rfl,UK,underlying39,rfl⟩
def zfX:SP prog 294 [(0,1),(1,1)]:=⟨_,underlying294,λ_=>by simp[UK.size,Y7.size,Sem.run_bind,Sem.run_pure]⟩
def z9b:Rz prog 296 0 0 2 true:=⟨_,_,_,_,_,underlying296,rfl,rfl,RX,underlying294,rfl⟩
def z9z:Rz prog 296 1 2 1 false:=⟨_,_,_,_,_,underlying296,rfl,rfl,UK,underlying39,rfl⟩
def zfA:SP prog 296 [(0,2),(2,1)]:=⟨_,underlying296,λ_=>by simp[RX.size,UK.size,Sem.run_bind,Sem.run_pure]⟩
def z4F:Rz prog 301 0 0 1 false:=⟨_,_,_,_,_,underlying301,rfl,rfl,ti9,underlying9,rfl⟩
def Wn:Rz prog 301 1 1 1 false:=⟨_,_,_,_,_,underlying301,rfl,rfl,Rl,underlying3,rfl⟩
def zhZ:SP prog 301 [(0,1),(1,1)]:=⟨_,underlying301,λ_=>by simp[Rl.size,ti9.size,Sem.run_bind,Sem.run_pure]⟩
def Uy:Rz prog 308 0 0 1 false:=⟨_,_,_,_,_,underlying308,rfl,rfl,Rl,underlying3,rfl⟩
def TA:Rz prog 308 1 1 1 false:=⟨_,_,_,_,_,underlying308,rfl,rfl,Rl,underlying3,rfl⟩
def zcG:SP prog 308 [(0,1),(1,1)]:=⟨_,underlying308,λ_=>by simp[Rl.size,Sem.run_bind,Sem.run_pure]⟩
def z1t:Rz prog 313 0 0 1 false:=⟨_,_,_,_,_,underlying313,rfl,rfl,Rl,underlying3,rfl⟩
def z4K:Rz prog 313 1 1 1 false:=⟨_,_,_,_,_,underlying313,rfl,rfl,ti9,underlying9,rfl⟩
def zjF:SP prog 313 [(0,1),(1,1)]:=⟨_,underlying313,λ_=>by simp[Rl.size,ti9.size,Sem.run_bind,Sem.run_pure]⟩
def z4v:Rz prog 326 0 0 1 false:=⟨_,_,_,_,_,underlying326,rfl,rfl,Rl,underlying3,rfl⟩
def z8R:Rz prog 326 1 1 1 false:=⟨_,_,_,_,_,underlying326,rfl,rfl,Rl,underlying3,rfl⟩
def ziQ:SP prog 326 [(0,1),(1,1)]:=⟨_,underlying326,λ_=>by simp[Rl.size,Sem.run_bind,Sem.run_pure]⟩
def z9e:Rz prog 329 0 0 1 false:=⟨_,_,_,_,_,underlying329,rfl,rfl,UK,underlying39,rfl⟩
def z1G:Rz prog 329 1 1 1 false:=⟨_,_,_,_,_,underlying329,rfl,rfl,Rl,underlying3,rfl⟩
def zcU:SP prog 329 [(0,1),(1,1)]:=⟨_,underlying329,λ_=>by simp[Rl.size,UK.size,Sem.run_bind,Sem.run_pure]⟩
def zea:Rz prog 339 0 0 1 false:=⟨_,_,_,_,_,underlying339,rfl,rfl,z3S,underlying273,rfl⟩
def Va:Rz prog 339 1 1 1 false:=⟨_,_,_,_,_,underlying339,rfl,rfl,VK,underlying4,rfl⟩
def zij:SP prog 339 [(0,1),(1,1)]:=⟨_,underlying339,λ_=>by simp[z3S.size,VK.size,Sem.run_bind,Sem.run_pure]⟩
def zey:Rz prog 353 0 0 1 false:=⟨_,_,_,_,_,underlying353,rfl,rfl,z3S,underlying273,rfl⟩
def z1F:Rz prog 353 1 1 1 false:=⟨_,_,_,_,_,underlying353,rfl,rfl,VK,underlying4,rfl⟩
def zjW:SP prog 353 [(0,1),(1,1)]:=⟨_,underlying353,λ_=>by simp[z3S.size,VK.size,Sem.run_bind,Sem.run_pure]⟩
def cf6:=QI func6
def cf7:=QI func7
def cf8:=QI func8
def cf9:=QI func9
def zke:=QI func10
def zlj:=QI func12
def zgL:=QI func13
def zko:=QI func14
def zlv:=QI func15
def zi9:=QI func16
def zmc:=QI func17
def zkk:=QI func18
def zlM:=QI func19
def zm5:=QI func20
def zlZ:=QI func21
def zlP:=QI func22
def zkx:=QI func23
def zkt:=QI func24
def zi6:=QI func25
def zlg:=QI func26
def zmj:=QI func27
def zlo:=QI func28
def z6K:=QI func30
def zkK:=QI func31
def zgx:=QI func32
def zl6:=QI func33
def zgA:=QI func34
def zem:=QI func35
def zlz:=QI func36
def zlN:=QI func37
def zmg:=QI func38
def zml:=QI func39
def zm1:=QI func40
def zmb:=QI func41
def zm4:=QI func42
def zm0:=QI func43
def ziH:=QI func44
def zlw:=QI func45
def zl7:=QI func46
def zlE:=QI func47
def zmi:=QI func48
def z5I:=QI func49
def zjy:=QI func50
def zkX:=QI func51
def zlT:=QI func52
def zly:=QI func53
def zlx:=QI func54
def zkW:=QI func55
def ziW:=QI func56
def zir:=QI func57
def zlb:=QI func58
def za0:=QI func59
def zkC:=QI func60
def zh8:=QI func61
def zgB:=QI func62
def zkE:=QI func63
def zlV:=QI func64
def zk6:=QI func65
def zdW:=QI func66
def z4L:=QI func67
def zch:=QI func68
def zhV:=QI func69
def ziM:=QI func70
def zlA:=QI func71
def zhw:=QI func72
def zlH:=QI func73
def zl5:=QI func74
def zl8:=QI func75
def zlL:=QI func76
def zgH:=QI func77
def zlQ:=QI func78
def zjg:=QI func79
def ziy:=QI func80
def zg3:=QI func81
def zh2:=QI func82
def zjI:=QI func83
def zl0:=QI func84
def ziz:=QI func85
def zkO:=QI func86
def zjZ:=QI func87
def zia:=QI func88
def zlu:=QI func89
def zkU:=QI func90
def zlS:=QI func91
def zlG:=QI func92
def zmh:=QI func97
def zhP:=QI func98
def zbq:=QI func99
def zhj:=QI func100
def ziZ:=QI func101
def zcX:=QI func102
def YT:=QI func103
def zhu:=QI func104
def ziJ:=QI func105
def zim:=QI func106
def zfR:=QI func107
def zf7:=QI func108
def zju:=QI func109
def zhE:=QI func110
def ziC:=QI func111
def zhN:=QI func112
def zhr:=QI func113
def zhn:=QI func114
def zil:=QI func115
def zcN:=QI func116
def z1T:=QI func117
def Y2:=QI func118
def z9D:=QI func119
def zj8:=QI func120
def zby:=QI func121
def z3B:=QI func122
def zfh:=QI func123
def zfd:=QI func124
def z5M:=QI func125
def zhs:=QI func126
def zhC:=QI func127
def zkH:=QI func128
def zjM:=QI func129
def zje:=QI func130
def zkf:=QI func131
def ziO:=QI func132
def zid:=QI func133
def zhA:=QI func134
def zjt:=QI func137
def zdm:=QI func139
def zjo:=QI func140
def zjp:=QI func141
def zkN:=QI func143
def zkv:=QI func144
def zit:=QI func145
def zeY:=QI func147
def z58:=QI func148
def z2j:=QI func149
def zjk:=QI func150
def z8C:=QI func151
def zf5:=QI func152
def zhG:=QI func153
def zjX:=QI func154
def zjf:=QI func155
def z44:=QI func156
def zk4:=QI func157
def z9F:=QI func158
def z1l:=QI func159
def z5Q:=QI func160
def zkG:=QI func161
def z95:=QI func162
def zfj:=QI func163
def zfK:=QI func164
def YH:=QI func165
def TY:=QI func166
def ziI:=QI func167
def zis:=QI func168
def ziX:=QI func170
def zk8:=QI func171
def UA:=QI func172
def ZZ:=QI func173
def zfx:=QI func174
def z2a:=QI func175
def zcC:=QI func176
def zin:=QI func177
def zfN:=QI func178
def zfg:=QI func179
def zjH:=QI func180
def z5W:=QI func181
def ziB:=QI func182
def zfi:=QI func183
def zeU:=QI func184
def zio:=QI func185
def zkR:=QI func186
def zhv:=QI func187
def ziG:=QI func188
def zfY:=QI func189
def zfZ:=QI func190
def zjh:=QI func191
def zki:=QI func192
def zkm:=QI func193
def zfq:=QI func194
def zkL:=QI func195
def zkJ:=QI func196
def ZW:=QI func197
def zj3:=QI func198
def zjd:=QI func199
def zjv:=QI func200
def zfk:=QI func201
def z9l:=QI func202
def z5n:=QI func203
def z04:=QI func204
def zjS:=QI func205
def z6g:=QI func206
def zkp:=QI func207
def zeW:=QI func208
def zjs:=QI func209
def zfL:=QI func210
def zfl:=QI func211
def zhq:=QI func212
def zfe:=QI func213
def zhU:=QI func214
def zkz:=QI func215
def zbK:=QI func216
def zj7:=QI func217
def zj5:=QI func218
def z6J:=QI func219
def zfS:=QI func220
def zk0:=QI func221
def zfm:=QI func222
def zbU:=QI func223
def zix:=QI func224
def zhI:=QI func225
def zky:=QI func226
def zjA:=QI func227
def zjj:=QI func228
def zhD:=QI func229
def zi8:=QI func230
def zjK:=QI func231
def z3Y:=QI func232
def zfw:=QI func233
def zdA:=QI func234
def zfp:=QI func235
def zjb:=QI func236
def zii:=QI func237
def zfM:=QI func238
def zcr:=QI func239
def zkr:=QI func240
def z8J:=QI func241
def zhB:=QI func242
def zjR:=QI func243
def zkb:=QI func244
def zic:=QI func245
def zkF:=QI func246
def zhx:=QI func247
def zk3:=QI func248
def Xs:=QI func249
def zjL:=QI func250
def zj1:=QI func251
def zfn:=QI func253
def zkT:=QI func254
def zhH:=QI func255
def zj9:=QI func257
def zkI:=QI func258
def zbS:=QI func259
def zht:=QI func279
def zhl:=QI func280
def ziD:=QI func282
def zj4:=QI func283
def wtr (ops:List Oper)(i:Nat):List Nat:=(List.range ops.length).foldl (λa j=>match ops[j]? with|some o=>if o.after.any (λx=>Region.binds .any x&&(x.on==i ||a.contains x.on)) then a++[j] else a|none=>a) []
section
variable {D:RC}{l:List Oper}{e:Env}{w w':World}{d:Nat}{op:Op}{ty:TypeId}{pos:String}{aft:Array Edge}{g:Option (Nat×Bool)}{v:Value}
def qV (hy:Y D.C.P e ⟨some d,op,ty,pos,aft,g⟩ v w w')(h:RL D l ((d,v)::e) w')(ho:Tp D e g true=true:=by exact rfl)(hd:Nat.blt d D.C.n=true:=by exact rfl):RL D (⟨some d,op,ty,pos,aft,g⟩::l) e w:=Ww ho hd hy h
theorem qS (h:RL D l ((d,undef)::e) w)(ho:Tp D e g false=true:=by exact rfl)(hd:Nat.blt d D.C.n=true:=by exact rfl):RL D (⟨some d,op,ty,pos,aft,g⟩::l) e w:=zkh ho hd h
theorem Q4 {x:Operand}(hx:look e x=some v)(h:RL D l ((d,v)::e) w)(ho:Tp D e g true=true:=by exact rfl)(hd:Nat.blt d D.C.n=true:=by exact rfl):RL D (⟨some d,.move x,ty,pos,aft,g⟩::l) e w:=Ww ho hd (YQ hx) h
theorem TN {x:Operand}(hx:look e x=some v)(h:RL D l ((d,v)::e) w)(ho:Tp D e g true=true:=by exact rfl)(hd:Nat.blt d D.C.n=true:=by exact rfl):RL D (⟨some d,.assign x,ty,pos,aft,g⟩::l) e w:=Ww ho hd (Sv hx) h
theorem R7 {x y:Operand}{t t':TypeId}{a b:Int}(h0:(look e x,look e y)=(some (I a),some (I b)))(h:RL D l ((d,I (a+b))::e) w)(hb:JIq (a+b):=by omega)(ho:Tp D e g true=true:=by exact rfl)(hd:Nat.blt d D.C.n=true:=by exact rfl):RL D (⟨some d,.binOp .add t x y t',ty,pos,aft,g⟩::l) e w:=Ww ho hd (Wa (congrArg Prod.fst h0) (congrArg Prod.snd h0) hb) h
theorem Qk {f:FuncId}{vs:List Value}{S:Value->World->Prop}{ts:Array TypeId}{args:List Operand}(hf:CF D.C.P f)(ha:looks e args=some vs)(hc:Qu D.C.P f vs w S)(h:∀v w',S v w'->RL D l ((d,v)::e) w')(ho:Tp D e g true=true:=by exact rfl)(hd:Nat.blt d D.C.n=true:=by exact rfl):RL D (⟨some d,.call ⟨.value (.func f),args.toArray,ts⟩,ty,pos,aft,g⟩::l) e w:=RB ho hd (yc hf ha) hc h
def SM {p:Prop}[hp:Decidable p](hr:RL D l ((d,.bool true)::e) w)(h:p:=by first|rfl|assumption|omega|decide):RL D l ((d,.bool (decide p))::e) w:=ziF h hr
def QW {p:Prop}[hp:Decidable p](hr:RL D l ((d,.bool false)::e) w)(h:¬p:=by first|exact λh=>h O|assumption|omega):RL D l ((d,.bool (decide p))::e) w:=zgT h hr
theorem RT {x y:Operand}{t t':TypeId}{k:IntKind}{a b:Int}(h0:(look e x,look e y)=(some (.int k a),some (.int k b)))(h:RL D l ((d,.bool (decide (a<b)))::e) w)(ho:Tp D e g true=true:=by exact rfl)(hd:Nat.blt d D.C.n=true:=by exact rfl):RL D (⟨some d,.binOp .lss t x y t',ty,pos,aft,g⟩::l) e w:=Ww ho hd (ylt (congrArg Prod.fst h0) (congrArg Prod.snd h0)) h
theorem zle {x y:Operand}{t t':TypeId}{k:IntKind}{a b:Int}(h0:(look e x,look e y)=(some (.int k a),some (.int k b)))(h:RL D l ((d,.bool (decide (a<=b)))::e) w)(ho:Tp D e g true=true:=by exact rfl)(hd:Nat.blt d D.C.n=true:=by exact rfl):RL D (⟨some d,.binOp .leq t x y t',ty,pos,aft,g⟩::l) e w:=Ww ho hd (yle (congrArg Prod.fst h0) (congrArg Prod.snd h0)) h
theorem RK {x y:Operand}{t t':TypeId}{k:IntKind}{a b:Int}(h0:(look e x,look e y)=(some (.int k a),some (.int k b)))(h:RL D l ((d,.bool (decide (b<a)))::e) w)(ho:Tp D e g true=true:=by exact rfl)(hd:Nat.blt d D.C.n=true:=by exact rfl):RL D (⟨some d,.binOp .gtr t x y t',ty,pos,aft,g⟩::l) e w:=Ww ho hd (Zr (congrArg Prod.fst h0) (congrArg Prod.snd h0)) h
theorem UZ {x y:Operand}{t t':TypeId}{k:IntKind}{a b:Int}(h0:(look e x,look e y)=(some (.int k a),some (.int k b)))(h:RL D l ((d,.bool (decide (b<=a)))::e) w)(ho:Tp D e g true=true:=by exact rfl)(hd:Nat.blt d D.C.n=true:=by exact rfl):RL D (⟨some d,.binOp .geq t x y t',ty,pos,aft,g⟩::l) e w:=Ww ho hd (yge (congrArg Prod.fst h0) (congrArg Prod.snd h0)) h
theorem Ss {x y:Operand}{t t':TypeId}{k:IntKind}{a b:Int}(h0:(look e x,look e y)=(some (.int k a),some (.int k b)))(h:RL D l ((d,.bool (decide (a=b)))::e) w)(ho:Tp D e g true=true:=by exact rfl)(hd:Nat.blt d D.C.n=true:=by exact rfl):RL D (⟨some d,.binOp .eql t x y t',ty,pos,aft,g⟩::l) e w:=Ww ho hd (yeq (congrArg Prod.fst h0) (congrArg Prod.snd h0)) h
theorem RA {x y:Operand}{t t':TypeId}{k:IntKind}{a b:Int}(h0:(look e x,look e y)=(some (.int k a),some (.int k b)))(h:RL D l ((d,.bool (decide (a≠b)))::e) w)(ho:Tp D e g true=true:=by exact rfl)(hd:Nat.blt d D.C.n=true:=by exact rfl):RL D (⟨some d,.binOp .neq t x y t',ty,pos,aft,g⟩::l) e w:=Ww ho hd (yne (congrArg Prod.fst h0) (congrArg Prod.snd h0)) h
theorem Sa {c x y:Operand}(h0:(look e c,look e x)=(some (.bool true),some v))(h:RL D l ((d,v)::e) w)(ho:Tp D e g true=true:=by exact rfl)(hd:Nat.blt d D.C.n=true:=by exact rfl):RL D (⟨some d,.pick c x y,ty,pos,aft,g⟩::l) e w:=Ww ho hd (W2 (congrArg Prod.fst h0) (congrArg Prod.snd h0)) h
theorem QY {c x y:Operand}(h0:(look e c,look e y)=(some (.bool false),some v))(h:RL D l ((d,v)::e) w)(ho:Tp D e g true=true:=by exact rfl)(hd:Nat.blt d D.C.n=true:=by exact rfl):RL D (⟨some d,.pick c x y,ty,pos,aft,g⟩::l) e w:=Ww ho hd (Vt (congrArg Prod.fst h0) (congrArg Prod.snd h0)) h
theorem zex {x:Operand}{vs:Array Value}{i:Nat}(h0:(look e x,vs[i]?)=(some (.tuple vs),some v))(h:RL D l ((d,v)::e) w)(ho:Tp D e g true=true:=by exact rfl)(hd:Nat.blt d D.C.n=true:=by exact rfl):RL D (⟨some d,.extract x i,ty,pos,aft,g⟩::l) e w:=Ww ho hd (Sz (congrArg Prod.fst h0) (congrArg Prod.snd h0)) h
theorem Qd {t:TypeId}{i off n b m:Nat}{agg:Bool}{x:Operand}(hf:Rz D.C.P t i off (n+1) agg)(hx:look e x=some (ptr b m))(h:RL D l ((d,ptr b (m+off))::e) w)(ho:Tp D e g true=true:=by exact rfl)(hd:Nat.blt d D.C.n=true:=by exact rfl):RL D (⟨some d,.fieldAddr t x i,ty,pos,aft,g⟩::l) e w:=Ww ho hd (Qz hf hx) h
theorem SR {t el:TypeId}{x:Operand}{a:Option Addr}{len cap:Nat}(ht:D.C.P.underlying t=some (.slice el))(hx:look e x=some (.slice a len cap))(h:RL D l ((d,I (len:Int))::e) w)(ho:Tp D e g true=true:=by exact rfl)(hd:Nat.blt d D.C.n=true:=by exact rfl):RL D (⟨some d,.call ⟨.builtin .len,#[x],#[t]⟩,ty,pos,aft,g⟩::l) e w:=Ww ho hd (TP ht hx) h
theorem SA {x y:Operand}{t t':TypeId}{a b:Int}(h0:(look e x,look e y)=(some (I a),some (I b)))(h:RL D l ((d,I (a-b))::e) w)(hb:JIq (a-b):=by omega)(ho:Tp D e g true=true:=by exact rfl)(hd:Nat.blt d D.C.n=true:=by exact rfl):RL D (⟨some d,.binOp .sub t x y t',ty,pos,aft,g⟩::l) e w:=Ww ho hd (YM (congrArg Prod.fst h0) (congrArg Prod.snd h0) hb) h
theorem Qc {D:RC}{x:Operand}(hx:look e x=some v)(h:Qy D.C D.k ((d,v)::e) w)(ho:Tp D e g true=true:=by exact rfl)(hd:Nat.blt d D.C.n=true:=by exact rfl):RL D [⟨some d,.assign x,ty,pos,aft,g⟩] e w:=Ww ho hd (Sv hx) (PQ h)
theorem Qp {x y:Operand}{d':Nat}{v':Value}{ty':TypeId}{pos':String}{aft':Array Edge}{g':Option (Nat×Bool)}(h0:(look e x,look ((d,v)::e) y)=(some v,some v'))(h:RL D l ((d',v')::(d,v)::e) w)(ho:Tp D e g true=true:=by exact rfl)(hd:Nat.blt d D.C.n=true:=by exact rfl)(ho':Tp D ((d,v)::e) g' true=true:=by exact rfl)(hd':Nat.blt d' D.C.n=true:=by exact rfl):RL D (⟨some d,.move x,ty,pos,aft,g⟩::⟨some d',.move y,ty',pos',aft',g'⟩::l) e w:=Ww ho hd (YQ (congrArg Prod.fst h0)) (Ww ho' hd' (YQ (congrArg Prod.snd h0)) h)
def z7N:Value->Bool
  | .pointer (some _)=>true
  | .func (.func _) _ _=>true
  |_=>false
theorem R8 {P:Program}{d:Option Nat}{x:Operand}(hx:look e x=some v)(hv:z7N v=true:=by exact rfl):Y P e ⟨d,.nilCheck x,ty,pos,aft,g⟩ v w w:=by
  unfold z7N at hv
  split at hv
  · exact ync hx
  · exact zm9 hx
  · cases hv
theorem QA {x:Operand}(hx:look e x=some v)(h:RL D l ((d,v)::e) w)(hv:z7N v=true:=by exact rfl)(ho:Tp D e g true=true:=by exact rfl)(hd:Nat.blt d D.C.n=true:=by exact rfl):RL D (⟨some d,.nilCheck x,ty,pos,aft,g⟩::l) e w:=Ww ho hd (R8 hx hv) h
end
section
variable {C:Cx}{k:List Item}{e e':Env}{w:World}{id:Nat}{ops:List Oper}{y:Code}
def qN {x:Code}(ho:T5 C.n ops=true)(h:RL ⟨C,ops,.code x::k,ho⟩ ops e w):Qy C (.code (.seq (.region id ops.toArray false) x)::k) e w:=An (PW ho h)
def SK {α:Type}{c:Code}(x0:α)(E:α->Env)(I:α->World->Prop)(μ:α->Nat)(hI:I x0 w)(round:∀x w,I x w->(∀y w',I y w'->μ y<μ x->Qy C (.inLoop c::k) (E y) w')->Qy C (.code c:: .inLoop c::k) (E x) w)(hE:Sub (E x0) e:=by repeat (first|exact Sub.nil|refine Sub.cons O ?_)):Qy C (.code (.loop c)::k) e w:=zd9 x0 E I μ hE hI round
def Qy.qb (h:Qy C k e w)(hs:Sub e e':=by repeat (first|exact Sub.nil|refine Sub.cons O ?_)):Qy C k e' w:=h.sub hs
end
section
variable {k:List Item}{e:Env}{w:World}{id:Nat}{ops:List Oper}{x:Code}
def qM {C:Cx}{ops0:List Oper}{h0:T5 C.n ops0=true}(ho:T5 C.n ops=true)(h:RL ⟨C,ops,.code x::k,ho⟩ ops e w):RL ⟨C,ops0,.code (.seq (.region id ops.toArray false) x)::k,h0⟩ [] e w:=PQ (An (PW ho h))
end
section
variable {D:RC}{late:List Nat}{S:World->Prop}{e:Env}{w w':World}{d fuel:Nat}{op:Op}{ty:TypeId}{pos:String}{aft:Array Edge}{g:Option (Nat×Bool)}{listed:Array Bool}{v:Value}
def qT (i:Nat)(hi:D.ops[i]? =some ⟨some d,op,ty,pos,aft,g⟩)(hy:∀w,S w->Y D.C.P e ⟨some d,op,ty,pos,aft,g⟩ v w w)(hS:S w)(h:RH D S fuel (listed.setIfInBounds i true) ((d,v)::e) w)
    (hf:TJ D.ops listed i=true:=by kernel_rfl) (ho:Tp D e g true=true:=by exact rfl) (hd:Nat.blt d D.C.n=true:=by exact rfl):RH D S (fuel+1) listed e w:=zca hi hf ho hd hy hS h
def PT (i:Nat)(hi:D.ops[i]? =some ⟨some d,op,ty,pos,aft,g⟩)(hy:∀{w},Y D.C.P e ⟨some d,op,ty,pos,aft,g⟩ v w w)(hS:S w)(h:RH D S fuel (listed.setIfInBounds i true) ((d,v)::e) w)
    (hf:TJ D.ops listed i=true:=by kernel_rfl) (ho:Tp D e g true=true:=by exact rfl) (hd:Nat.blt d D.C.n=true:=by exact rfl):RH D S (fuel+1) listed e w:=zca hi hf ho hd (λ_ _=>hy) hS h
def Vd {p:Prop}[hp:Decidable p](hr:RH D S fuel listed ((d,.bool true)::e) w)(h:p:=by first|rfl|assumption|omega|decide):RH D S fuel listed ((d,.bool (decide p))::e) w:=zi0 h hr
def UQ {p:Prop}[hp:Decidable p](hr:RH D S fuel listed ((d,.bool false)::e) w)(h:¬p:=by first|exact λh=>h O|assumption|omega):RH D S fuel listed ((d,.bool (decide p))::e) w:=zh4 h hr
theorem Ut {late:List Nat}(rs:List Nat)(h:RH D (λ_=>True) fuel listed e w)(hr:T0 D.ops listed rs=true:=by kernel_rfl)(hl:zfz rs late=true:=by kernel_rfl):RHL D late S fuel listed e w:=zhy rs hr hl h
def Qi {x:Operand}(i:Nat)(hi:D.ops[i]? =some ⟨some d,.move x,ty,pos,aft,g⟩)(hx:look e x=some v)(hS:S w)(h:RH D S fuel (listed.setIfInBounds i true) ((d,v)::e) w)
    (hf:TJ D.ops listed i=true:=by kernel_rfl) (ho:Tp D e g true=true:=by exact rfl) (hd:Nat.blt d D.C.n=true:=by exact rfl):RH D S (fuel+1) listed e w:=zca hi hf ho hd (λ_ _=>YQ hx) hS h
def qJ (i:Nat)(hi:D.ops[i]? =some ⟨some d,op,ty,pos,aft,g⟩)(hS:S w)(h:RH D S fuel (listed.setIfInBounds i true) ((d,undef)::e) w)
    (hf:TJ D.ops listed i=true:=by kernel_rfl) (ho:Tp D e g false=true:=by exact rfl) (hd:Nat.blt d D.C.n=true:=by exact rfl):RH D S (fuel+1) listed e w:=zkd hi hf ho hd hS h
def qO (i:Nat)(h:Nx D S fuel listed e w i)(hr:T0 D.ops listed [i]=true:=by kernel_rfl):RH D S (fuel+1) listed e w:=zjE hr h
def T9 {f:FuncId}{vs:List Value}{T:Value->World->Prop}{ts:Array TypeId}{args:List Operand}(i:Nat)(hi:D.ops[i]? =some ⟨some d,.call ⟨.value (.func f),args.toArray,ts⟩,ty,pos,aft,g⟩)(hf:CF D.C.P f)(ha:looks e args=some vs)(hc:Qu D.C.P f vs w T)(h:∀v w',T v w'->S w'/\RH D S fuel (listed.setIfInBounds i true) ((d,v)::e) w')
    (hr:T0 D.ops listed [i]=true:=by kernel_rfl) (ho:Tp D e g true=true:=by exact rfl) (hd:Nat.blt d D.C.n=true:=by exact rfl):RH D S (fuel+1) listed e w:=zjE hr (Xr hi ho hd (yc hf ha) hc h)
theorem qE (h:Qy D.C D.k e w)(hr:T0 D.ops listed []=true:=by kernel_rfl):RH D S fuel listed e w:=zmd hr h
def qL (i:Nat)(hi:D.ops[i]? =some ⟨some d,op,ty,pos,aft,g⟩)(hy:∀w,S w->Y D.C.P e ⟨some d,op,ty,pos,aft,g⟩ v w w)(hS:S w)(h:RHL D late S fuel (listed.setIfInBounds i true) ((d,v)::e) w)
    (hf:(TJ D.ops listed i&&waits D.ops listed late (wtr D.ops i) i)=true:=by kernel_rfl) (ho:Tp D e g true=true:=by exact rfl) (hd:Nat.blt d D.C.n=true:=by exact rfl):RHL D late S (fuel+1) listed e w:=z8l _ hi hf ho hd hy hS h
def Qs (i:Nat)(hi:D.ops[i]? =some ⟨some d,op,ty,pos,aft,g⟩)(hy:∀{w},Y D.C.P e ⟨some d,op,ty,pos,aft,g⟩ v w w)(hS:S w)(h:RHL D late S fuel (listed.setIfInBounds i true) ((d,v)::e) w)
    (hf:(TJ D.ops listed i&&waits D.ops listed late (wtr D.ops i) i)=true:=by kernel_rfl) (ho:Tp D e g true=true:=by exact rfl) (hd:Nat.blt d D.C.n=true:=by exact rfl):RHL D late S (fuel+1) listed e w:=z8l _ hi hf ho hd (λ_ _=>hy) hS h
def R1 {x:Operand}(i:Nat)(hi:D.ops[i]? =some ⟨some d,.move x,ty,pos,aft,g⟩)(hx:look e x=some v)(hS:S w)(h:RHL D late S fuel (listed.setIfInBounds i true) ((d,v)::e) w)
    (hf:(TJ D.ops listed i&&waits D.ops listed late (wtr D.ops i) i)=true:=by kernel_rfl) (ho:Tp D e g true=true:=by exact rfl) (hd:Nat.blt d D.C.n=true:=by exact rfl):RHL D late S (fuel+1) listed e w:=z8l _ hi hf ho hd (λ_ _=>YQ hx) hS h
end
section
variable {C:Cx}{k:List Item}{e:Env}{w:World}{id:Nat}{ops ops0 l:List Oper}{y y2:Code}{d d':Nat}{op op':Op}{ty ty':TypeId}{pos pos':String}{aft aft':Array Edge}{g g':Option (Nat×Bool)}{v v':Value}{x x':Operand}
theorem Qx (h0:(T5 C.n (⟨some d,.move x,ty,pos,aft,g⟩::l),look e x)=(true,some v))(h:RL ⟨C,⟨some d,.move x,ty,pos,aft,g⟩::l,.code y::k,congrArg Prod.fst h0⟩ l ((d,v)::e) w)(ho:Tp ⟨C,⟨some d,.move x,ty,pos,aft,g⟩::l,.code y::k,congrArg Prod.fst h0⟩ e g true=true:=by exact rfl)(hd:Nat.blt d C.n=true:=by exact rfl):Qy C (.code (.seq (.region id (⟨some d,.move x,ty,pos,aft,g⟩::l).toArray false) y)::k) e w:=qN (congrArg Prod.fst h0) (Q4 (congrArg Prod.snd h0) h ho hd)
theorem S7 {h1:T5 C.n ops0=true}(h0:(look e x,T5 C.n ops)=(some v,true))(h:RL ⟨C,ops,.code y::k,congrArg Prod.snd h0⟩ ops ((d,v)::e) w)(ho:Tp ⟨C,ops0,.code (.seq (.region id ops.toArray false) y)::k,h1⟩ e g true=true:=by exact rfl)(hd:Nat.blt d C.n=true:=by exact rfl):RL ⟨C,ops0,.code (.seq (.region id ops.toArray false) y)::k,h1⟩ [⟨some d,.assign x,ty,pos,aft,g⟩] e w:=TN (congrArg Prod.fst h0) (qM (congrArg Prod.snd h0) h) ho hd
theorem RI (h0:((T5 C.n (⟨some d,.move x,ty,pos,aft,g⟩::⟨some d',.move x',ty',pos',aft',g'⟩::l),look e x),look ((d,v)::e) x')=((true,some v),some v'))(h:RL ⟨C,⟨some d,.move x,ty,pos,aft,g⟩::⟨some d',.move x',ty',pos',aft',g'⟩::l,.code y::k,congrArg (λz=>z.1.1) h0⟩ l ((d',v')::(d,v)::e) w)(ho:Tp ⟨C,⟨some d,.move x,ty,pos,aft,g⟩::⟨some d',.move x',ty',pos',aft',g'⟩::l,.code y::k,congrArg (λz=>z.1.1) h0⟩ e g true=true:=by exact rfl)(hd:Nat.blt d C.n=true:=by exact rfl)(ho':Tp ⟨C,⟨some d,.move x,ty,pos,aft,g⟩::⟨some d',.move x',ty',pos',aft',g'⟩::l,.code y::k,congrArg (λz=>z.1.1) h0⟩ ((d,v)::e) g' true=true:=by exact rfl)(hd':Nat.blt d' C.n=true:=by exact rfl):Qy C (.code (.seq (.region id (⟨some d,.move x,ty,pos,aft,g⟩::⟨some d',.move x',ty',pos',aft',g'⟩::l).toArray false) y)::k) e w:=qN (congrArg (λz=>z.1.1) h0) (Q4 (congrArg (λz=>z.1.2) h0) (Q4 (congrArg Prod.snd h0) h ho' hd') ho hd)
theorem Rt {D:RC}(h0:(look e x,look ((d,v)::e) x')=(some v,some v'))(h:Qy D.C D.k ((d',v')::(d,v)::e) w)(ho:Tp D e g true=true:=by exact rfl)(hd:Nat.blt d D.C.n=true:=by exact rfl)(ho':Tp D ((d,v)::e) g' true=true:=by exact rfl)(hd':Nat.blt d' D.C.n=true:=by exact rfl):RL D [⟨some d,.assign x,ty,pos,aft,g⟩,⟨some d',.assign x',ty',pos',aft',g'⟩] e w:=TN (congrArg Prod.fst h0) (Qc (congrArg Prod.snd h0) h ho' hd') ho hd
theorem TK {D:RC}{vs vs':Array Value}{i i':Nat}(h0:((look e x,vs[i]?),(look ((d,v)::e) x',vs'[i']?))=((some (.tuple vs),some v),(some (.tuple vs'),some v')))(h:RL D l ((d',v')::(d,v)::e) w)(ho:Tp D e g true=true:=by exact rfl)(hd:Nat.blt d D.C.n=true:=by exact rfl)(ho':Tp D ((d,v)::e) g' true=true:=by exact rfl)(hd':Nat.blt d' D.C.n=true:=by exact rfl):RL D (⟨some d,.extract x i,ty,pos,aft,g⟩::⟨some d',.extract x' i',ty',pos',aft',g'⟩::l) e w:=zex (congrArg Prod.fst h0) (zex (congrArg Prod.snd h0) h ho' hd') ho hd
theorem QS (h0:(T5 C.n (⟨some d,.move x,ty,pos,aft,g⟩::l),look e x)=(true,some v))(h:RL ⟨C,⟨some d,.move x,ty,pos,aft,g⟩::l,.code y:: .code y2::k,congrArg Prod.fst h0⟩ l ((d,v)::e) w)(ho:Tp ⟨C,⟨some d,.move x,ty,pos,aft,g⟩::l,.code y:: .code y2::k,congrArg Prod.fst h0⟩ e g true=true:=by exact rfl)(hd:Nat.blt d C.n=true:=by exact rfl):Qy C (.code (.seq (.seq (.region id (⟨some d,.move x,ty,pos,aft,g⟩::l).toArray false) y) y2)::k) e w:=An (Qx h0 h ho hd)
theorem S6 {D:RC}(h:RL D l ((d',undef)::(d,undef)::e) w)(ho:Tp D e g false=true:=by exact rfl)(hd:Nat.blt d D.C.n=true:=by exact rfl)(ho':Tp D ((d,undef)::e) g' false=true:=by exact rfl)(hd':Nat.blt d' D.C.n=true:=by exact rfl):RL D (⟨some d,op,ty,pos,aft,g⟩::⟨some d',op',ty',pos',aft',g'⟩::l) e w:=qS (qS h ho' hd') ho hd
def TT {c:Operand}(hc:look e c=some (.bool false))(h:Qy C k e w):Qy C (.code (.cond c y .skip)::k) e w:=PZ hc (PR h)
theorem RN (h0:(T5 C.n [⟨some d,.assign x,ty,pos,aft,g⟩],look e x)=(true,some v))(h:Qy C (.code y::k) ((d,v)::e) w)(ho:Tp ⟨C,[⟨some d,.assign x,ty,pos,aft,g⟩],.code y::k,congrArg Prod.fst h0⟩ e g true=true:=by exact rfl)(hd:Nat.blt d C.n=true:=by exact rfl):Qy C (.code (.seq (.region id ([⟨some d,.assign x,ty,pos,aft,g⟩]:List Oper).toArray false) y)::k) e w:=qN (congrArg Prod.fst h0) (Qc (congrArg Prod.snd h0) h ho hd)
theorem RZ {h1:T5 C.n ops0=true}(h0:((look e x',T5 C.n (⟨some d,.move x,ty,pos,aft,g⟩::l)),look ((d',v')::e) x)=((some v',true),some v))(h:RL ⟨C,⟨some d,.move x,ty,pos,aft,g⟩::l,.code y::k,congrArg (λz=>z.1.2) h0⟩ l ((d,v)::(d',v')::e) w)(ho:Tp ⟨C,ops0,.code (.seq (.region id (⟨some d,.move x,ty,pos,aft,g⟩::l).toArray false) y)::k,h1⟩ e g' true=true:=by exact rfl)(hd:Nat.blt d' C.n=true:=by exact rfl)(ho':Tp ⟨C,⟨some d,.move x,ty,pos,aft,g⟩::l,.code y::k,congrArg (λz=>z.1.2) h0⟩ ((d',v')::e) g true=true:=by exact rfl)(hd':Nat.blt d C.n=true:=by exact rfl):RL ⟨C,ops0,.code (.seq (.region id (⟨some d,.move x,ty,pos,aft,g⟩::l).toArray false) y)::k,h1⟩ [⟨some d',.assign x',ty',pos',aft',g'⟩] e w:=S7 (congrArg Prod.fst h0) (Q4 (congrArg Prod.snd h0) h ho' hd') ho hd
def Re {h1:T5 C.n ops0=true}{c:Operand}(hc:look e c=some (.bool false))(h:Qy C k e w):RL ⟨C,ops0,.code (.cond c y .skip)::k,h1⟩ [] e w:=PQ (TT hc h)
theorem St (h0:(T5 C.n (⟨some d,.move x,ty,pos,aft,g⟩::l),look e x)=(true,some v))(h:RL ⟨C,⟨some d,.move x,ty,pos,aft,g⟩::l,k,congrArg Prod.fst h0⟩ l ((d,v)::e) w)(ho:Tp ⟨C,⟨some d,.move x,ty,pos,aft,g⟩::l,k,congrArg Prod.fst h0⟩ e g true=true:=by exact rfl)(hd:Nat.blt d C.n=true:=by exact rfl):Qy C (.code (.region id (⟨some d,.move x,ty,pos,aft,g⟩::l).toArray false)::k) e w:=PW (congrArg Prod.fst h0) (Q4 (congrArg Prod.snd h0) h ho hd)
def RP (h:Qy C (.code y:: .inBlock id:: .code y2::k) e w):Qy C (.code (.seq (.block id y) y2)::k) e w:=An (PS h)
end
def S5 {C:Cx}{id:Nat}{ops:List Oper}{k:List Item}{e:Env}{w:World}(S:World->Prop)(ho:T5 C.n ops=true)(h:RH ⟨C,ops,k,ho⟩ S ops.length (Array.replicate ops.length false) e w.drew)(hm:C.P.follows .mixedOrders=true:=by kernel_rfl)(hc:calm ops=true:=by rfl):Qy C (.code (.region id ops.toArray true)::k) e w:=z6w S hm ho h hc
theorem SH {α:Type}{a b:α}(h:some a=some b):a=b:=Option.some.inj h
def U2:=underlying2
def U3:=underlying3
def U4:=underlying4
def U5:=underlying5
def U9:=underlying9
def U20:=underlying20
def U22:=underlying22
def U23:=underlying23
def U26:=underlying26
def Y1:=underlying27
def YV:=underlying28
def U30:=underlying30
def U34:=underlying34
def SC:=underlying37
def SL:=underlying39
def U42:=underlying42
def Yt:=underlying43
def U44:=underlying44
def U54:=underlying54
def RQ:=underlying59
def U61:=underlying61
def QE:=underlying62
def U66:=underlying66
def U67:=underlying67
def U75:=underlying75
def U79:=underlying79
def XA:=underlying83
def U84:=underlying84
def Tr:=underlying93
def U95:=underlying95
def U97:=underlying97
def U99:=underlying99
def z29:=underlying102
def Xd:=underlying105
def zcY:=underlying108
def YC:=underlying111
def YE:=underlying118
def z4a:=underlying121
def ze4:=underlying124
def zeI:=underlying129
def z80:=underlying134
def z7B:=underlying136
def z4w:=underlying137
def z9U:=underlying141
def zhL:=underlying150
def zlf:=underlying151
def zhQ:=underlying153
def zdP:=underlying154
def zgS:=underlying157
def YD:=underlying169
def zeh:=underlying179
def zdk:=underlying190
def zjG:=underlying200
def zmo:=underlying206
def Xv:=underlying207
def z4M:=underlying213
def zm8:=underlying215
def zgm:=underlying216
def z5a:=underlying220
def zgi:=underlying222
def zls:=underlying233
def TS:=underlying245
def Z7:=underlying252
def zif:=underlying253
def z0J:=underlying260
def Wx:=underlying273
def zlB:=underlying278
def zh9:=underlying279
def z33:=underlying291
def Tz:=underlying294
def zkw:=underlying296
def zik:=underlying306
def z6k:=underlying308
def zhK:=underlying313
def zcx:=underlying322
def zl1:=underlying326
def zcu:=underlying329
def z2o:=underlying330
def z5U:=underlying370
def We (w:World)(g:Nat)(cs:List Value)(T:TypeId):Prop:=w.heap[g]? =some (.cells cs.toArray T (0,0))
theorem We.PN {w:World}{g:Nat}{cs:List Value}{T:TypeId}(h:We w g cs T):Q7 w g cs T:=⟨(0,0),h,λi _ h=>by omega⟩
theorem We.set {w:World}{g:Nat}{cs:List Value}{T:TypeId}(h:We w g cs T)(i:Nat)(v:Value):We (w.setCell ⟨g,i,none⟩ v) g (cs.set i v) T:=by
 unfold We at h⊢
 simp[World.setCell,Array.getElem?_modify,h]
def We.ext {w w':World}{g:Nat}{cs:List Value}{T:TypeId}(h:We w g cs T)(k:Ext w w'):We w' g cs T:=k.heap h id
def Sl.row {w:World}{g n cap:Nat}{e:TypeId}{size:Nat}{cs:List Value}(h:Sl w (.slice (some ⟨g,0,none⟩) n cap) e size n cs):∃cur,We w g cur e/\n<=cap/\cap<=maxLen/\cur.length=cap*size/\cur.take (n*size)=cs:=by
 rcases h.2 with⟨hz,-⟩|⟨g1,cap1,cur,hv,-,hg,hn,hm,hs,ht⟩
 ·cases hz
 ·cases hv;exact⟨cur.toList,by unfold We;simpa using hg,hn,hm,by simpa using hs,ht⟩
def We.sl {w:World}{g n cap:Nat}{e:TypeId}{size:Nat}{cur:List Value}(h:We w g cur e)(hn:n<=cap)(hm:cap<=maxLen)(hs:cur.length=cap*size):Sl w (.slice (some ⟨g,0,none⟩) n cap) e size n (cur.take (n*size)):=
 ⟨by rw[List.length_take,hs];exact Nat.min_eq_left (Nat.mul_le_mul_right _ hn),.inr ⟨g,cap,cur.toArray,rfl,Nat.zero_le _,h,hn,hm,by simpa using hs,ξ⟩⟩
theorem We.cell {w:World}{g i:Nat}{cur:List Value}{e:TypeId}(h:We w g cur e):w.cell? ⟨g,i,none⟩=cur[i]? :=h.PN.cell i
theorem We.rd {w:World}{g i n c:Nat}{e:TypeId}{cur:List Value}(h:We w g cur e)(hl:i+n<=cur.length):Rd w (.slice (some ⟨g,i,none⟩) n c) 1 n ((cur.drop i).take n):=by
 refine⟨by simp;omega,.inr ⟨g,i,c,rfl,λj u hj=>?_⟩⟩
 rw[h.cell]
 rw[List.getElem?_take] at hj
 split at hj
 ·rwa [List.getElem?_drop] at hj
 ·cases hj
def WO {w:World}{a:Option Addr}{c:Nat}:Rd w (.slice a 0 c) 1 0 []:=⟨rfl,.inl ⟨(a,c),rfl,rfl⟩⟩
def Rd.kpz {S:Nat->Prop}{w w':World}{v:Value}{size n:Nat}{cs:List Value}(h:Rd w v size n cs)(k:Kp S w w')(hn:0<n->∀g,v.ownBlock=some g->¬S g):Rd w' v size n cs:=by
 rcases Nat.eq_zero_or_pos n with h0|h0
 ·subst h0;refine⟨h.1,?_⟩;have hl:cs=[]:=List.eq_nil_of_length_eq_zero (by have:=h.1;omega);rcases h.2 with h2|⟨b,off,cap,e,-⟩
  ·exact .inl h2
  ·exact .inr ⟨b,off,cap,e,λj u hj=>by rw[hl] at hj;simp at hj⟩
 ·exact h.kp k (hn h0)
def Rd.ltz {w:World}{v:Value}{size n g:Nat}{cs:List Value}(h:Rd w v size n cs)(hs:0<size)(hn:0<n)(hg:v.ownBlock=some g):g<w.heap.size:=by
 rcases h.2 with⟨c,-,h2⟩|⟨b,off,cap,e,hc⟩
 ·omega
 ·rw[e] at hg;have e2:b=g:=SH hg;subst e2;have hl:0<cs.length:=by rw[h.1];exact Nat.mul_pos hn hs
  exact World.block_lt_of_cell? w _ (hc 0 cs[0] (List.getElem?_eq_getElem hl))
theorem z7y (cs:List Value)(i:Nat):RW cs i []=cs:=by simp[RW]
theorem z38 (cs vs:List Value)(i:Nat)(h:i+vs.length<=cs.length):(RW cs i vs).length=cs.length:=by simp[RW];omega
theorem z2x (cs vs:List Value)(i j:Nat)(h:i+vs.length<=cs.length):(RW cs i vs)[j]? =if i<=j/\j<i+vs.length then vs[j-i]? else cs[j]? :=by
 unfold RW
 rw[List.append_assoc]
 by_cases h1:j<i
 ·rw[List.getElem?_append_left (by simp;omega),List.getElem?_take,if_pos h1,if_neg ω]
 ·rw[List.getElem?_append_right (by simp;omega)];have e:(cs.take i).length=i:=by simp;omega
  rw[e];by_cases h2:j<i+vs.length
  ·rw[List.getElem?_append_left ω,if_pos ⟨ω,h2⟩]
  ·rw[List.getElem?_append_right ω,List.getElem?_drop,if_neg ω]
   congr 1;omega
def W5 {P:Program}{b:Nat}{T:TypeId}(o:Nat):∀(vs:List Value) (i:Nat) (cs:List Value) (w:World),We w b cs T->o+i+vs.length<=cs.length->(∀v∈vs,v.oneCell'=true)->
  ∃w',(storeCells ⟨b,o,none⟩ vs i).run P w= .ok () w'/\We w' b (RW cs (o+i) vs) T/\Kp (λk=>k=b) w w'
 |[],i,cs,w,hB,_,_=>⟨w,rfl,by simpa[RW] using hB,Kp.refl _ _⟩
 | v :: r, i, cs, w, hB, hl, h1 => by
   simp only[List.length_cons] at hl;have aR:o+i<cs.length:=by omega
   have hc:w.cell? ⟨b,o+i,none⟩=some cs[o+i]:=by rw[hB.cell];simp[aR]
   have hf:=hB.PN.free aR;obtain⟨w',hr,xN,hk⟩:=W5 (P:=P) o r (i+1) (cs.set (o+i) v) _ (hB.set (o+i) v) (by simp;omega) (λu hu=>h1 u (List.mem_cons_of_mem _ hu));refine⟨w',?_,?_,(UM w b (o+i) v).trans hk⟩
   ·simp only[storeCells,Sem.run_bind,Sh,run_store P w _ v _ (h1 v (List.mem_cons_self ..)),hc,hf]
    simpa using hr
   ·have he:RW (cs.set (o+i) v) (o+(i+1)) r=RW cs (o+i) (v::r):=by
     apply List.ext_getElem?;intro j;rw[z2x _ _ _ _ (by simp;omega),z2x _ _ _ _ (by simp;omega)];simp only[List.length_cons];by_cases h2:o+i=j
     ·subst h2;rw[if_neg ω,if_pos ω];simp[aR]
     ·by_cases h3:o+i<j/\j<o+i+1+r.length
      ·rw[if_pos ω,if_pos ω,show j-(o+i)=(j-(o+(i+1)))+1 by omega];simp
      ·rw[if_neg ω,if_neg ω,List.getElem?_set_ne h2]
    rw[<-he];exact xN
section
variable {P:Program}{e:Env}{d:Option Nat}{ty t el:TypeId}{pos:String}{aft:Array Edge}{g:Option (Nat×Bool)}{x y u u2:Operand}{w:World}
def ZX {z:Value}{size bytes n cap i:Nat}{a:Option Addr}{k:IntKind}{za:Int}[tP:Us za i](ht:P.underlying t=some (.slice el))(hs:TI P el z size bytes)(hx:look e x=some (.slice a n cap))
  (hy:look e y=some (.int k za)) (h:i<=n) (hc:n<=cap):
  Y P e ⟨d,.slice t x (some y) none none,ty,pos,aft,g⟩ (.slice (if cap=i then a else a.map (·.add (i*size))) (n-i) (cap-i)) w w:=fun ρ hρ=>by
 obtain⟨rfl⟩:=tP
 have cJ:=hs.size (w:=w)
 have h2:∀w,(Instr.sliceBound (.int k (i:Int)) n .sliceB).run P w= .ok i w:=λw=>by rw[run_sliceBound _ _ _ _ _ ω ω];simp
 simp[execOp,hρ _ _ hx,hρ _ _ hy,Instr.sliceAt,run_underlying ht,Instr.slice,Instr.sliceBounds,h2,cJ]
def zlJ {z:Value}{size bytes n cap i j m:Nat}{a:Option Addr}{k k' k2:IntKind}{za zb zc:Int}[tP:Us za i][xO:Us zb j][bJ:Us zc m](ht:P.underlying t=some (.slice el))(hs:TI P el z size bytes)(hx:look e x=some (.slice a n cap))
  (hy:look e y=some (.int k za)) (hu:look e u=some (.int k' zb)) (lS:look e u2=some (.int k2 zc)) (h:i<=j/\j<=m/\m<=cap):
  Y P e ⟨d,.slice t x (some y) (some u) (some u2),ty,pos,aft,g⟩ (.slice (if m=i then a else a.map (·.add (i*size))) (j-i) (m-i)) w w:=fun ρ hρ=>by
 obtain⟨rfl⟩:=tP
 obtain⟨rfl⟩:=xO
 obtain⟨rfl⟩:=bJ
 have cJ:=hs.size (w:=w)
 have h0:∀w,(Instr.sliceBound (.int k2 (m:Int)) cap .slice3Acap).run P w= .ok m w:=λw=>by rw[run_sliceBound _ _ _ _ _ ω ω];simp
 have h1:∀w,(Instr.sliceBound (.int k' (j:Int)) m .slice3B).run P w= .ok j w:=λw=>by rw[run_sliceBound _ _ _ _ _ ω ω];simp
 have h2:∀w,(Instr.sliceBound (.int k (i:Int)) j .slice3C).run P w= .ok i w:=λw=>by rw[run_sliceBound _ _ _ _ _ ω ω];simp
 simp[execOp,hρ _ _ hx,hρ _ _ hy,hρ _ _ hu,hρ _ _ lS,Instr.sliceAt,run_underlying ht,Instr.slice,Instr.sliceBounds,h0,h1,h2,cJ]
theorem YW (z:Value)(n:Nat)(h:oneV z=true):(Builtin.zeroCells z.cells n).toList=List.replicate n z:=by
 rw[Xi h]
 apply List.ext_getElem
 ·simp[Builtin.zeroCells]
 ·intro i h1 h2;simp[Builtin.zeroCells,Nat.mod_one]
def zma {z:Value}{bytes b i n cap:Nat}{T:TypeId}{cs:List Value}(ht:P.underlying t=some (.slice el))(hs:TI P el z 1 bytes)(hz:oneV z=true)(hx:look e x=some (.slice (some ⟨b,i,none⟩) n cap))
  (hB:We w b cs T) (hi:i+n<=cs.length):
  Yp P e ⟨d,.call ⟨.builtin .clear,#[x],#[t]⟩,ty,pos,aft,g⟩ w λv w'=>We w' b (RW cs i (List.replicate n z)) T/\Kp (λk=>k=b) w w':=by
 obtain⟨w',hr,xN,hk⟩:=W5 (P:=P) i (List.replicate n z) 0 cs w hB (by simp;omega) (λu hu=>by rw[(List.mem_replicate.1 hu).2];exact ZY hz)
 rcases Nat.eq_zero_or_pos n with h0|h0
 ·subst h0;refine⟨.tuple #[],w,fun ρ hρ=>?_,by simpa[z7y] using hB,Kp.refl _ _⟩;simp[execOp,resolve,invoke,builtin,hρ _ _ hx,Builtin.clear_,run_underlying ht,go_sem]
 ·refine⟨.tuple #[],w',fun ρ hρ=>?_,by simpa using xN,hk⟩;have Ku:=hs.zero (w:=w);obtain⟨k,rfl⟩:∃k,n=k+1:=⟨n-1,ω⟩
  have hc:(Builtin.clear_ #[t] ty #[.slice (some ⟨b,i,none⟩) (k+1) cap]).run P w= .ok (.tuple #[]) w':=by
   unfold Builtin.clear_;simp only[List.getElem?_toArray,List.getElem?_cons_zero,pure_bind,Sem.run_bind,run_underlying ht,Result.andThen,Ku,YW z _ hz,hr,Sem.run_pure]
  simp[execOp,resolve,invoke,builtin,hρ _ _ hx,hc]
def zld {z u:Value}{size bytes gb n cap m:Nat}{cs news:List Value}(ht:P.underlying t=some (.slice el))(hs:TI P el z size bytes)(cJ:0<size)
  (hx:look e x=some (.slice (some ⟨gb,0,none⟩) n cap)) (hy:look e y=some u) (hv:Sl w (.slice (some ⟨gb,0,none⟩) n cap) el size n cs) (hu:Rd w u size m news) (h1:∀c∈news,c.oneCell'=true) (hr:n+m<=cap):
  Yp P e ⟨d,.call ⟨.builtin .append,#[x,y],#[t,t]⟩,ty,pos,aft,g⟩ w λv' w'=>v'= .slice (some ⟨gb,0,none⟩) (n+m) cap/\Sl w' v' el size (n+m) (cs++news)/\Kp (λk=>k=gb) w w':=by
 obtain⟨i,hi,ql,kC,ss⟩:=hs
 subst kC
 rcases hu.2 with⟨⟨ca,c⟩,rfl,rfl⟩|⟨b,off,cap2,rfl,tQ⟩
 ·have fj:news=[]:=List.eq_nil_of_length_eq_zero (by simpa using hu.1);subst fj
  have hr:(Builtin.append_ #[t,t] ty #[.slice (some ⟨gb,0,none⟩) n cap,.slice ca 0 c]).run P w= .ok (.slice (some ⟨gb,0,none⟩) n cap) w:=by
   have jZ:n<=cap:=by omega
   cases ca
   ·simp[Builtin.append_,run_underlying ht,sizeOf,typeInfo,hi,Builtin.lenOf,Builtin.firstCells,jZ,storeCells]
   ·simp[Builtin.append_,run_underlying ht,sizeOf,typeInfo,hi,Builtin.lenOf,Builtin.firstCells,jZ,storeCells,loadCells,loadCellsFrom]
  refine⟨_,w,fun ρ hρ=>?_,rfl,by simpa using hv,Kp.refl _ _⟩;simp[execOp,resolve,invoke,builtin,hρ _ _ hx,hρ _ _ hy,hr]
 ·have xP:∀j u,news[j]? =some u->w.cell? ((⟨b,off,none⟩:Addr).add j)=some u:=λj u hu=>by rw[Sh];exact tQ j u hu
  obtain⟨w',Kv,BQ,cU⟩:=run_append_fits (P:=P) w 0 t ty el i i.size ht hi O gb n cap cs hv ⟨b,off,none⟩ m cap2 news hu.1 xP h1 hr;refine⟨_,w',fun ρ hρ=>?_,rfl,BQ,(Kp.VR cU).PU λk hk=>(SH hk).symm⟩;simp[execOp,resolve,invoke,builtin,hρ _ _ hx,hρ _ _ hy,Kv]
end
abbrev PV:=List UInt8
abbrev lt (a b:PV):Bool:=Op.bytesLess a b
section
end
def pos (l:List PV)(t:PV):Nat:=(l.takeWhile (λk=>lt k t)).length
theorem z2U (cs vs:List Value)(i m:Nat)(h:m<=i)(hl:i<=cs.length):(RW cs i vs).take m=cs.take m:=by
 unfold RW
 rw[List.append_assoc,List.take_append_of_le_length (by simp;omega),List.take_take,Nat.min_eq_left h]
def zcp {w:World}{sv:Value}{cs:List Value}{i n:Nat}(hS:Sl w sv 3 1 n cs)(gh:∀c∈cs,c.oneCell'=true)(hi:i<n)(hn:n<=8589934592):
  Qu prog 191 [sv,I (i:Int),I ((i:Int)+1)] w λv w'=>Sl w' v 3 1 (n-1) (cs.take i++cs.drop (i+1))/\Kp (λk=>sv.ownBlock=some k) w w'/\(∀g,v.ownBlock=some g->sv.ownBlock=some g):=by
 have fF:maxLen=9223372036854775807:=rfl
 have aH:=hS.len
 rw[Nat.mul_one] at aH
 obtain⟨g,cap,rfl,jZ⟩:∃g cap,sv= .slice (some ⟨g,0,none⟩) n cap/\n<=cap:=by
  rcases hS.shape with⟨e,h0⟩|⟨g,cap,e,h⟩
  ·omega
  ·exact⟨g,cap,e,h⟩
 obtain⟨cur,kD,-,nO,fk,CN⟩:=hS.row
 rw[Nat.mul_one] at fk CN
 rw[show(i:Int)+1=((i+1:Nat):Int) by omega]
 refine py (e:=[(0,_),(1,_),(2,_)]) func191 O ntmps191 O O$ qN O$ S7 O$ Qp O$ Qp O$ SR SC O$ qV (zlJ SC Rl O O O O ⟨ω,ω,jZ⟩) ?_
 refine PQ$ An$ RI O$ Ss O$ QW$ Re O$ Qx O$ SR SC O$ Qc O$ An$ S5 (λw'=>Kp (λk=>k=g) w w') O ?_
 have h0:=Ext.Qh w
 refine Qi 0 O O ((Ext.Qh w).kp)$ Qi 1 O O ((Ext.Qh w).kp)$ Qi 3 O O ((Ext.Qh w).kp)$ Qi 4 O O ((Ext.Qh w).kp)$ PT 2 O (zd1 SC Rl O O ω) ((Ext.Qh w).kp)$ PT 5 O (ZX SC Rl O O ω jZ) ((Ext.Qh w).kp) ?_
 have cS:Sl w (.slice (some ⟨g,0,none⟩) i cap) 3 1 i (cs.take i):=by
  have:=kD.sl (n:=i) ω nO (by rw[Nat.mul_one];exact fk);rw[Nat.mul_one,show cur.take i=cs.take i by rw[<-CN,List.take_take,Nat.min_eq_left ω]] at this;exact this
 have CO:(cur.drop (i+1)).take (n-(i+1))=cs.drop (i+1):=by
  rw[<-CN,List.drop_take]
 have hR:Rd w.drew (.slice (if cap=i+1 then some ⟨g,0,none⟩ else(some (⟨g,0,none⟩:Addr)).map (·.add ((i+1)*1))) (n-(i+1)) (cap-(i+1))) 1 (n-(i+1)) (cs.drop (i+1)):=by
  by_cases hc:cap=i+1
  ·rw[if_pos hc,show n-(i+1)=0 by omega,List.drop_eq_nil_of_le ω];exact WO
  ·rw[if_neg hc,Option.map_some,Sh,Nat.zero_add,Nat.mul_one,<-CO];exact(kD.ext h0).rd ω
 refine qO 6$ YZ (i:=6) O O O (zld SC Rl ψ O O (cS.ext h0) hR (λc hc=>gh c (List.mem_of_mem_drop hc)) ω) ?_
 rintro _ w1 ⟨rfl,dj,av⟩
 refine⟨h0.kp.trans av,?_⟩
 have e1:i+(n-(i+1))=n-1:=by omega
 rw[e1] at dj⊢
 obtain⟨cur3,xQ,Kw,Kx,xR,xS⟩:=dj.row
 rw[Nat.mul_one] at xR xS
 refine PT 7 O (Sv O) (h0.kp.trans av)$ qE$ RI O$ SR SC O$ Q4 O$ qV (zgk SC Rl O O O ω ω)$ zbO O (zma SC Rl O O xQ ω) ?_
 rintro _ w2 ⟨xT,ar⟩
 refine PQ$ Qy.qb (e:=[(0,_),(6,_)]) ?_
 refine Qx O$ Qc O$ PO func191 O ?_
 have xU:=xT.sl (n:=n-1) (cap:=cap) ω nO (by rw[z38 _ _ _ (by simp;omega),xR,Nat.mul_one])
 rw[Nat.mul_one,z2U _ _ _ _ ω ω,xS] at xU
 exact⟨_,rfl,xU,((h0.kp.trans av).trans ar).PU (λk hk=>by subst hk;rfl),λg' cU=>cU⟩
open Go.ChangeMaps (setBlock)
def TR {κ:Type}(K:κ->Value)(w:World)(m:Nat)(kv:List (κ×Value)):Prop:=(∃es clock,w.heap[m]? =some (.map es clock)/\Vx K es.toList kv/\(∀e∈es.toList,e.born<clock)/\(es.toList.map (·.born)).Nodup)/\(kv.map (·.1)).Nodup
section
variable {κ:Type}[DecidableEq κ]{K:κ->Value}
theorem TR.l {w:World}{m:Nat}{kv:List (κ×Value)}(h:TR K w m kv):XR K w m kv:=by
 obtain⟨⟨es,c,h1,h2,-,-⟩,h3⟩:=h
 exact⟨⟨es,c,h1,h2⟩,h3⟩
def TR.lt {w:World}{m:Nat}{kv:List (κ×Value)}(h:TR K w m kv):m<w.heap.size:=h.l.lt
theorem TR.nd {w:World}{m:Nat}{kv:List (κ×Value)}(h:TR K w m kv):(kv.map (·.1)).Nodup:=h.2
def TR.kp {S:Nat->Prop}{w w':World}{m:Nat}{kv:List (κ×Value)}(h:TR K w m kv)(k:Kp S w w')(hn:¬S m):TR K w' m kv:=by
 obtain⟨⟨es,c,h,he⟩,hd⟩:=h
 exact⟨⟨es,c,k.heap h hn,he⟩,hd⟩
def TR.ext {w w':World}{m:Nat}{kv:List (κ×Value)}(h:TR K w m kv)(k:Ext w w'):TR K w' m kv:=h.kp k id
def TR.new {w:World}{m:Nat}(h:w.heap[m]? =some (.map #[] 0)):TR K w m []:=⟨⟨#[],0,h,rfl,ξ,ξ⟩,ξ⟩
def delL:List (κ×Value)->κ->List (κ×Value)
 |[],_=>[]
 |(a,v)::r,k=>if k=a then r else(a,v)::delL r k
def z6u:∀(kv:List (κ×Value)) (k:κ),(delL kv k).Sublist kv
 |[],_=> .slnil
 | (a, v) :: r, k => by
   simp only[delL];split
   ·exact List.sublist_cons_self _ _
   ·exact(z6u r k).cons_cons _
theorem z3P {kv:List (κ×Value)}{k:κ}(h:k∉kv.map (·.1)):Sm kv k=none:=by
 induction kv with
 |nil=>rfl
 | cons p r ih =>
   obtain⟨a,u⟩:=p;simp only[List.map_cons,List.mem_cons,not_or] at h;simp only[Sm,h.1,if_false];exact ih h.2
def zhi {kv:List (κ×Value)}(hn:(kv.map (·.1)).Nodup)(k x:κ):Sm (delL kv k) x=if x=k then none else Sm kv x:=by
 induction kv with
 |nil=>simp[delL,Sm]
 | cons p r ih =>
   obtain⟨a,u⟩:=p;simp only[List.map_cons,List.nodup_cons] at hn;simp only[delL];by_cases h:k=a
   ·subst h;simp only[if_true,Sm];by_cases hx:x=k
    ·subst hx;simp[z3P hn.1]
    ·simp[hx]
   ·simp only[h,if_false,Sm,ih hn.2];by_cases hx:x=a
    ·subst hx;simp[Ne.symm h]
    ·simp[hx]
def z5w {kv:List (κ×Value)}(hn:(kv.map (·.1)).Nodup){k:κ}{v:Value}(h:(k,v)∈kv):Sm kv k=some v:=by
 induction kv with
 |nil=>cases h
 | cons p r ih =>
   obtain⟨a,u⟩:=p;simp only[List.map_cons,List.nodup_cons] at hn;rcases List.mem_cons.1 h with e| h
   ·cases e;simp[Sm]
   ·have:k≠a:=λe=>hn.1 (List.mem_map.2 ⟨(k,v),h,e⟩);simp only[Sm,this,if_false];exact ih hn.2 h
def z0U {td:TypeDesc}(hs:∀a b,Instr.sameNow td (K a) (K b)=some (decide (a=b))):∀{es:List MapEntry} {kv:List (κ×Value)} (i:Nat) {k:κ} {v:Value},Vx K es kv->Sm kv k=some v->
  ∃j,Instr.findNow td (K k) es i=some (some (i+j,v))/\j<es.length/\Vx K (es.eraseIdx j) (delL kv k)
 | e :: es, (a, v') :: kv, i, k, v, h, hg => by
   simp only[Vx,List.map_cons,List.cons.injEq,Prod.mk.injEq] at h;simp only[Sm] at hg;split at hg
   ·rename_i he
    subst he;cases hg;refine⟨0,by simp[Instr.findNow,h.1.1,hs,h.1.2],ξ,?_⟩;simp only[List.eraseIdx_zero,List.tail_cons,delL,if_true];exact h.2
   ·rename_i bE
    obtain⟨j,h1,h2,h3⟩:=z0U hs (i+1) h.2 hg;refine⟨j+1,?_,by simp;omega,?_⟩
    ·simp only[Instr.findNow,h.1.1,hs,bE,decide_false,h1]
     congr 3;omega
    ·simp only[delL,bE,if_false,List.eraseIdx_cons_succ,Vx,List.map_cons,List.cons.injEq,Prod.mk.injEq]
     exact⟨h.1,h3⟩
 |[],[],_,_,_,_,hg=>by simp[Sm] at hg
 |[],_::_,_,_,_,h,_=>by simp[Vx] at h
 |_::_,[],_,_,_,h,_=>by simp[Vx] at h
variable {P:Program}{e:Env}{d:Option Nat}{ty t kt el:TypeId}{pos:String}{aft:Array Edge}{g:Option (Nat×Bool)}{x y u:Operand}{w:World}{m:Nat}{kv:List (κ×Value)}{size:Nat}{k:κ}{v:Value}
theorem ziP (ht:P.underlying t=some (.map kt el))(hx:look e x=some (.map (some m)))(hm:XR K w m kv):Y P e ⟨d,.call ⟨.builtin .len,#[x],#[t]⟩,ty,pos,aft,g⟩ (I (kv.length:Int)) w w:=fun ρ hρ=>by
 obtain⟨⟨es,c,hh,he⟩,-⟩:=hm
 have hl:es.size=kv.length:=by
  have:=congrArg List.length he
  simpa using this
 have hg:(getObj m).run P w= .ok (.map es c) w:=by simp[getObj,Sem.run,hh]
 simp[execOp,resolve,invoke,builtin,hρ _ _ hx,Builtin.len_,run_underlying ht,hg,goInt,hl,go_sem,Result.andThen]
def zgj (ht:P.underlying t=some (.map kt el))(hK:Ky P kt K)(hx:look e x=some (.map (some m)))(hy:look e y=some (K k))(hu:look e u=some v)(hm:TR K w m kv):
  Zp P e ⟨d,.mapUpdate t x y u,ty,pos,aft,g⟩ w λw'=>TR K w' m (putL kv k v)/\Kp (λi=>i=m) w w':=by
 have aR:=hm.lt
 obtain⟨⟨es,c,hh,he,bL,bO⟩,hd⟩:=hm
 have tR:=λb=>hK.same.choose_spec.2.2 w b 9999 k
 have hg:(getObj m).run P w= .ok (.map es c) w:=by simp[getObj,Sem.run,hh]
 have gZ:∀o,(setObj m o).run P w= .ok () (w.putObj m o):=λo=>by simp[setObj,Sem.run,hh,World.putObj]
 cases mD:Sm kv k with
 | none =>
   have hf:=Vy (P:=P) (w:=w) hK he mD;refine⟨w.putObj m (.map (es.push {key:=K k,val:=v,born:=c}) (c+1)),fun ρ hρ=>?_,⟨⟨_,_,World.putObj_heap_same aR,?_,?_,?_⟩,?_⟩,Ri w m _⟩
   ·simp[execOp,hρ _ _ hx,hρ _ _ hy,hρ _ _ hu,Instr.mapUpdate,run_underlying ht,hg,tR,hf,gZ]
   ·rw[W8 _ _ _ mD]
    simpa[Vx] using he
   ·intro x hx;simp at hx;rcases hx with hx|rfl
    ·have:=bL x (by simpa using hx);omega
    ·simp
   ·simp only[Array.toList_push,List.map_append,List.map_cons,List.map_nil];refine List.nodup_append.2 ⟨bO,ξ,λa ha b hb kg=>?_⟩;simp at hb;subst hb;subst kg;obtain⟨x,hx,IA⟩:=List.mem_map.1 ha;have:=bL x hx;omega
   ·rw[W8 _ _ _ mD,List.map_append,List.nodup_append];refine⟨hd,ξ,λa ha b hb kg=>?_⟩;simp at hb;subst hb;subst kg
    exact z2y mD ha
 | some v0 =>
   obtain⟨j,hf,⟨ej,KA,CP⟩,nP⟩:=VA (P:=P) (w:=w) hK he mD
   have mE:(es.modify j λe=>{e with key:=K k,val:=v}).toList.map (·.born)=es.toList.map (·.born):=by
    apply List.ext_getElem?;intro i;simp only[Array.toList_modify,List.getElem?_map,List.getElem?_modify];by_cases hH:j=i
    ·subst hH;simp;cases es[j]?<;>rfl
    ·simp[hH]
   refine⟨w.putObj m (.map (es.modify j λe=>{e with key:=K k,val:=v}) c),fun ρ hρ=>?_,⟨⟨_,_,World.putObj_heap_same aR,nP v,?_,?_⟩,?_⟩,Ri w m _⟩
   ·simp[execOp,hρ _ _ hx,hρ _ _ hy,hρ _ _ hu,Instr.mapUpdate,run_underlying ht,hg,tR,hf,gZ,KA,CP,Instr.keyThatStays,hK.bits]
   ·intro x hx;have:x.born∈es.toList.map (·.born):=by rw[<-mE];exact List.mem_map.2 ⟨x,hx,rfl⟩
    obtain⟨y,hy,IB⟩:=List.mem_map.1 this;rw[<-IB];exact bL y hy
   ·rw[mE];exact bO
   ·rw[z42 _ _ _ (by rw[mD];rfl)];exact hd
theorem zgh (ht:P.underlying t=some (.map kt el))(hK:Ky P kt K)(hx:look e x=some (.map (some m)))(hy:look e y=some (K k))(hm:TR K w m kv){ts:Array TypeId}(nQ:ts[0]? =some t):
  Yp P e ⟨d,.call ⟨.builtin .delete,#[x,y],ts⟩,ty,pos,aft,g⟩ w λv' w'=>TR K w' m (delL kv k)/\Kp (λi=>i=m) w w':=by
 have aR:=hm.lt
 obtain⟨⟨es,c,hh,he,bL,bO⟩,hd⟩:=hm
 obtain⟨⟨td,hu,hs,CQ⟩,-⟩:=hK
 have tR:=λb=>CQ w b 9999 k
 have hg:(getObj m).run P w= .ok (.map es c) w:=by simp[getObj,Sem.run,hh]
 have gZ:∀o,(setObj m o).run P w= .ok () (w.putObj m o):=λo=>by simp[setObj,Sem.run,hh,World.putObj]
 have dT:=(z6u kv k).map (·.1)
 cases mD:Sm kv k with
 | none =>
   have hf:(Instr.findKey kt (K k) es.toList).run P w= .ok none w:=by simp[Instr.findKey,run_underlying hu,Xa hs 0 he mD]
   have lT:delL kv k=kv:=by
    clear he hh hd dT
    induction kv with
    |nil=>rfl
    | cons p r ih =>
      obtain⟨a,u⟩:=p;simp only[Sm] at mD;split at mD
      ·cases mD
      ·rename_i bE;simp only[delL,bE,if_false,ih mD]
   refine⟨.tuple #[],w.putObj m (.map es c),fun ρ hρ=>?_,⟨⟨es,c,World.putObj_heap_same aR,by rw[lT];exact he,bL,bO⟩,by rw[lT];exact hd⟩,Ri w m _⟩
   simp[execOp,resolve,invoke,builtin,hρ _ _ hx,hρ _ _ hy,Builtin.delete_,nQ,run_underlying ht,hg,tR,hf,gZ,Result.andThen]
 | some v0 =>
   obtain⟨j,xV,hj,nP⟩:=z0U hs 0 he mD
   have hf:(Instr.findKey kt (K k) es.toList).run P w= .ok (some (j,v0)) w:=by
    rw[Nat.zero_add] at xV;simp[Instr.findKey,run_underlying hu,xV]
   have CR:(es.eraseIdxIfInBounds j).toList=es.toList.eraseIdx j:=by
    simp at hj;simp[Array.eraseIdxIfInBounds,hj]
   refine⟨.tuple #[],w.putObj m (.map (es.eraseIdxIfInBounds j) c),fun ρ hρ=>?_,⟨⟨_,c,World.putObj_heap_same aR,by rw[CR];exact nP,?_,?_⟩,dT.nodup hd⟩,Ri w m _⟩
   ·simp[execOp,resolve,invoke,builtin,hρ _ _ hx,hρ _ _ hy,Builtin.delete_,nQ,run_underlying ht,hg,tR,hf,gZ,Result.andThen]
   ·rw[CR];exact λx hx=>bL x ((List.eraseIdx_sublist _ _).subset hx)
   ·rw[CR];exact((List.eraseIdx_sublist _ _).map _).nodup bO
end
def Qr:Nat->Nat->List Bool
 |0,_=>[]
 |n+1,v=>v.testBit n::Qr n v
def QL:List Bool->Nat
 |[]=>0
 |b::l=>b.toNat*2^l.length+QL l
@[simp] theorem bitsN_length:∀(n v:Nat),(Qr n v).length=n
 |0,_=>rfl
 |n+1,v=>by simp[Qr,bitsN_length n v]
theorem S9:∀(l:List Bool),QL l<2^l.length
 |[]=>by simp[QL]
 | b :: l => by
   have:=S9 l;simp only[QL,List.length_cons,Nat.pow_succ];have:b.toNat<=1:=by cases b<;>simp
   have:b.toNat*2^l.length<=1*2^l.length:=Nat.mul_le_mul_right _ this;omega
theorem Ta:∀(a b:List Bool),QL (a++b)=QL a*2^b.length+QL b
 |[],b=>by simp[QL]
 | x :: a, b => by
   rw[List.cons_append,QL,Ta a b,QL,List.length_append,Nat.pow_add,Nat.add_mul,Nat.mul_assoc];omega
theorem Td:∀(m n v:Nat),Qr (m+n) v=Qr m (v / 2^n)++Qr n v
 |0,n,v=>by simp[Qr]
 | m + 1, n, v => by
   rw[show m+1+n=(m+n)+1 by omega,Qr,Qr,List.cons_append,Td m n v,Nat.testBit_div_two_pow]
theorem Rk:∀(n v:Nat),QL (Qr n v)=v%2^n
 |0,v=>by simp[Qr,QL,Nat.mod_one]
 | n + 1, v => by
   rw[Qr,QL,bitsN_length,Rk n v,Nat.pow_succ,Nat.mod_mul,Nat.testBit_eq_decide_div_mod_eq];rcases Nat.mod_two_eq_zero_or_one (v / 2^n) with e|e<;>simp[e]<;>omega
theorem XS:∀{n v u:Nat},v%2^n=u%2^n->Qr n v=Qr n u
 |0,_,_,_=>rfl
 | n + 1, v, u, h => by
   have h1:v.testBit n=u.testBit n:=by
    have e1:(v%2^(n+1)).testBit n=v.testBit n:=by rw[Nat.testBit_mod_two_pow];simp
    have e2:(u%2^(n+1)).testBit n=u.testBit n:=by rw[Nat.testBit_mod_two_pow];simp
    rw[<-e1,<-e2,h]
   have h2:v%2^n=u%2^n:=by
    have e1:v%2^(n+1)%2^n=v%2^n:=Nat.mod_mod_of_dvd _ (Nat.pow_dvd_pow 2 (Nat.le_succ n));have e2:u%2^(n+1)%2^n=u%2^n:=Nat.mod_mod_of_dvd _ (Nat.pow_dvd_pow 2 (Nat.le_succ n));rw[<-e1,<-e2,h]
   rw[Qr,Qr,h1,XS h2]
theorem Zy:∀{a b:List Bool},a.length=b.length->QL a=QL b->a=b
 |[],[],_,_=>rfl
 | x :: a, y :: b, hl, hv => by
   have hl':a.length=b.length:=by simpa using hl
   have h1:=S9 a;have h2:=S9 b;rw[QL,QL,hl'] at hv;rw[hl'] at h1
   have hx:x=y:=by
    cases x<;>cases y<;>simp at hv⊢<;>omega
   subst hx;rw[Zy hl' ω]
def z2Q (l:List Bool):Qr l.length (QL l)=l:=Zy ξ (by rw[Rk,Nat.mod_eq_of_lt (S9 l)])
/-! ### Bytes -/
def Qm (s:PV):List Bool:=s.flatMap λc=>Qr 8 c.toNat
@[simp] theorem bitsT_length (s:PV):(Qm s).length=8*s.length:=by
 induction s with
 |nil=>rfl
 |cons c s ih=>simp[Qm] at ih⊢;omega
theorem z0j (a b:PV):Qm (a++b)=Qm a++Qm b:=by simp[Qm]
def Xo (d:List Bool):UInt8:=UInt8.ofNat (QL d*2^(8-d.length))
def Qv (l:List Bool):PV:=(List.range ((l.length+7) / 8)).map λi=>Xo ((l.drop (8*i)).take 8)
theorem QN (l:List Bool):(Qv l).length=(l.length+7) / 8:=by simp[Qv]
theorem Ze {c d:List Bool}(hc:c.length%8=0)(h1:1<=d.length)(h8:d.length<=8):Qv (c++d)=Qv c++[Xo d]:=by
 obtain⟨m,hm⟩:∃m,c.length=8*m:=⟨c.length / 8,ω⟩
 unfold Qv
 rw[List.length_append,show(c.length+d.length+7) / 8=m+1 by omega,show(c.length+7) / 8=m by omega,List.range_succ,List.map_append]
 congr 1
 ·apply List.map_congr_left;intro i hi;rw[List.mem_range] at hi;rw[List.drop_append_of_le_length ω,List.take_append_of_le_length (by rw[List.length_drop];omega)]
 ·simp only[List.map_cons,List.map_nil];rw[<-hm,List.drop_left,List.take_of_length_le h8]
def z9Z {d e:List Bool}(h:d.length+e.length<=8):(Xo (d++e)).toNat=(Xo d).toNat |||(QL e*2^(8-d.length-e.length)):=by
 have h1:=S9 d
 have h2:=S9 e
 have hp:∀(x:List Bool),x.length<=8->QL x*2^(8-x.length)<256:=λx hx=>by
  have h3:=S9 x;have:QL x*2^(8-x.length)<2^x.length*2^(8-x.length):=Nat.mul_lt_mul_of_pos_right h3 (Nat.two_pow_pos _);rw[<-Nat.pow_add,show x.length+(8-x.length)=8 by omega] at this;exact this
 have e1:(Xo (d++e)).toNat=QL (d++e)*2^(8-(d++e).length):=by
  unfold Xo;rw[UInt8.toNat_ofNat'];exact Nat.mod_eq_of_lt (hp _ (by rw[List.length_append];omega))
 have e2:(Xo d).toNat=QL d*2^(8-d.length):=by
  unfold Xo;rw[UInt8.toNat_ofNat'];exact Nat.mod_eq_of_lt (hp _ ω)
 rw[e1,e2,Ta,List.length_append,Nat.add_mul]
 have h5:QL d*2^e.length*2^(8-(d.length+e.length))=2^(8-d.length)*QL d:=by
  rw[Nat.mul_assoc,<-Nat.pow_add,show e.length+(8-(d.length+e.length))=8-d.length by omega,Nat.mul_comm]
 have h6:QL e*2^(8-(d.length+e.length))<2^(8-d.length):=by
  have:QL e*2^(8-(d.length+e.length))<2^e.length*2^(8-(d.length+e.length)):=Nat.mul_lt_mul_of_pos_right h2 (Nat.two_pow_pos _);rw[<-Nat.pow_add,show e.length+(8-(d.length+e.length))=8-d.length by omega] at this;exact this
 rw[h5,Nat.two_pow_add_eq_or_of_lt h6,Nat.mul_comm (2^(8-d.length)),show 8-d.length-e.length=8-(d.length+e.length) by omega]
theorem zaJ:Xo []=0:=by decide
def Tw (l:List Bool):∃z,Qm (Qv l)=l++List.replicate z false/\(l.length+z)%8=0/\z<8:=by
 have key:∀(m:Nat) (l:List Bool),l.length<=8*m->∃z,Qm (Qv l)=l++List.replicate z false/\(l.length+z)%8=0/\z<8:=by
  intro m
  induction m with
  | zero =>
    intro l h;have:l=[]:=List.eq_nil_of_length_eq_zero ω;subst this
    exact⟨0,rfl,rfl,ω⟩
  | succ m ih =>
    intro l h;by_cases h0:l=[]
    ·subst h0;exact⟨0,rfl,rfl,ω⟩
    ·have hpos:1<=l.length:=by
      cases l with
      |nil=>exact absurd O h0
      |cons a r=>simp
     obtain⟨c,d,rfl,hc,h1,h8⟩:∃c d,l=c++d/\c.length%8=0/\1<=d.length/\d.length<=8:=by
      refine⟨l.take (8*((l.length-1) / 8)),l.drop (8*((l.length-1) / 8)),(List.take_append_drop _ _).symm,?_,?_,?_⟩
      ·rw[List.length_take];omega
      ·rw[List.length_drop];omega
      ·rw[List.length_drop];omega
     rw[List.length_append] at h;obtain⟨z,hz,hm,hl⟩:=ih c ω;have hz0:z=0:=by omega
     subst hz0;simp at hz;refine⟨8-d.length,?_,by rw[List.length_append];omega,ω⟩;rw[Ze hc h1 h8,z0j,hz,List.append_assoc]
     congr 1
     simp only[Qm,List.flatMap_cons,List.flatMap_nil,List.append_nil]
     have hv:QL (d++List.replicate (8-d.length) false)=QL d*2^(8-d.length):=by
      rw[Ta,List.length_replicate]
      have:∀n,QL (List.replicate n false)=0:=λn=>by
       induction n with
       |zero=>rfl
       |succ n ih=>rw[List.replicate_succ,QL,ih];simp
      rw[this];rfl
     refine Zy (by simp;omega) ?_;rw[Rk,hv];have h3:=S9 d
     have:QL d*2^(8-d.length)<2^8:=by
      have:QL d*2^(8-d.length)<2^d.length*2^(8-d.length):=Nat.mul_lt_mul_of_pos_right h3 (Nat.two_pow_pos _)
      rwa [<-Nat.pow_add,show d.length+(8-d.length)=8 by omega] at this
     unfold Xo;rw[UInt8.toNat_ofNat'];rw[Nat.mod_mod,Nat.mod_eq_of_lt this]
 exact key l.length l ω
def z81 (c:Nat)(hc:c<256)(room n:Nat)(hr:room<=8)(hn:n<=room):QL (((Qr 8 c).drop (8-room)).take n)=c%2^room / 2^(room-n):=by
 have e1:Qr 8 c=Qr (8-room) (c / 2^room)++Qr room c:=by rw[<-Td,show 8-room+room=8 by omega]
 have e2:Qr room c=Qr n (c / 2^(room-n))++Qr (room-n) c:=by rw[<-Td,show n+(room-n)=room by omega]
 rw[e1,List.drop_left' ξ,e2,List.take_left' ξ,Rk]
 have:c%2^room / 2^(room-n)=c / 2^(room-n)%2^n:=by
  have h2:2^room=2^(room-n)*2^n:=by rw[<-Nat.pow_add,show room-n+n=room by omega]
  rw[h2,Nat.mod_mul_right_div_self]
 rw[this]
theorem UU (c:UInt8)(s:PV):Qm (c::s)=Qr 8 c.toNat++Qm s:=rfl
theorem UT:∀(k:Nat) (s:PV),Qm (s.drop k)=(Qm s).drop (8*k)
 |0,s=>by simp
 |k+1,[]=>by simp[Qm]
 | k + 1, c :: s => by
   have e:(Qr 8 c.toNat++Qm s).drop (8+8*k)=(Qm s).drop (8*k):=by rw[<-List.drop_drop,List.drop_left' ξ]
   rw[List.drop_succ_cons,UT k s,UU,show 8*(k+1)=8+8*k by omega,e]
theorem VT:∀(k:Nat) (s:PV),Qm (s.take k)=(Qm s).take (8*k)
 |0,s=>by simp[Qm]
 |k+1,[]=>by simp[Qm]
 | k + 1, c :: s => by
   have e:(Qr 8 c.toNat++Qm s).take (8+8*k)=Qr 8 c.toNat++(Qm s).take (8*k):=by
    have:=List.take_length_add_append (l₁:=Qr 8 c.toNat) (l₂:=Qm s) (8*k)
    rwa [bitsN_length] at this
   rw[List.take_succ_cons,UU,VT k s,UU,show 8*(k+1)=8+8*k by omega,e]
def zeL {s:PV}{i:Nat}{c:UInt8}(h:s[i]? =some c):((Qm s).drop (8*i)).take 8=Qr 8 c.toNat:=by
 rw[<-UT]
 obtain⟨hi,e⟩:=List.getElem?_eq_some_iff.1 h
 rw[List.drop_eq_getElem_cons hi,e,show Qm (c::s.drop (i+1))=Qr 8 c.toNat++Qm (s.drop (i+1)) from rfl,List.take_left' ξ]
def z7H {s:PV}{at' n:Nat}{c:UInt8}(h:s[at' / 8]? =some c)(hn:n<=8-at'%8):QL (((Qm s).drop at').take n)=c.toNat%2^(8-at'%8) / 2^(8-at'%8-n):=by
 have h1:=zeL h
 have h2:=z81 c.toNat (by have:=c.toNat_lt;omega) (8-at'%8) n ω hn
 rw[<-h2,<-h1]
 congr 1
 rw[List.drop_take,List.take_take,List.drop_drop,show 8*(at' / 8)+(8-(8-at'%8))=at' by omega]
 congr 1
 omega
def z7U {bs e:List Bool}(h1:1<=e.length)(h8:bs.length%8+e.length<=8):∃(c:PV) (x y:UInt8),(if bs.length%8=0 then Qv bs++[0] else Qv bs)=c++[x]/\Qv (bs++e)=c++[y]/\y.toNat=(x.toNat |||(QL e*2^(8-bs.length%8-e.length))):=by
 obtain⟨c,d,hcd,hc,hd⟩:∃c d,bs=c++d/\c.length%8=0/\d.length=bs.length%8:=⟨bs.take (8*(bs.length / 8)),bs.drop (8*(bs.length / 8)),(List.take_append_drop _ _).symm,by rw[List.length_take];omega,by rw[List.length_drop];omega⟩
 have hb:=z9Z (d:=d) (e:=e) ω
 rw[<-hd]
 refine⟨Qv c,Xo d,Xo (d++e),?_,?_,hb⟩
 ·by_cases h0:d.length=0
  ·have:d=[]:=List.eq_nil_of_length_eq_zero h0;subst this;rw[if_pos ξ,hcd,List.append_nil,zaJ]
  ·rw[if_neg ω,hcd,Ze hc ω ω]
 ·rw[hcd,List.append_assoc,Ze hc (by rw[List.length_append];omega) (by rw[List.length_append];omega)]
abbrev Qg (n:Nat):Value:= .int .u64 (n:Int)
def Yr {w:World}{v:Value}{T s n}{us:List Value}(h:Sl w v T s n us):oneV v=true:=by
 rcases h.shape with⟨rfl,-⟩|⟨g,c,rfl,-⟩<;>rfl
section
variable {P:Program}{e:Env}{d:Option Nat}{ty t t':TypeId}{pos:String}{aft:Array Edge}{g:Option (Nat×Bool)}{x y:Operand}{w:World}{k:IntKind}{m n:Nat}
def XK (hx:look e x=some (.int k (m:Int)))(hy:look e y=some (.int k (n:Int)))(hs:k.signed=false)(hm:m<2^k.bits)(h:n<=m):Y P e ⟨d,.binOp .sub t x y t',ty,pos,aft,g⟩ (.int k ((m-n:Nat):Int)) w w:=fun ρ hρ=>by
 have h1:(m:Int)-n=((m-n:Nat):Int):=by omega
 have h2:k.wrap ((m-n:Nat):Int)=((m-n:Nat):Int):=z1Z hs ω
 simp[execOp,go_sem,hρ _ _ hx,hρ _ _ hy,h1,h2]
def zkV {el:TypeId}{c:Nat}(hs:P.underlying t=some (.slice el))(he:P.underlying el=some (.int .u8))(hd:P.underlying t'=some .string)(hx:look e x=some (.slice none 0 c)):Y P e ⟨d,.convert t t' x,ty,pos,aft,g⟩ (S []) w w:=fun ρ hρ=>by
 have hr:(convert t t' (.slice none 0 c)).run P w= .ok (S []) w:=by
  rw[run_convert_bytes_string w t t' el none 0 c hs he hd];rfl
 simp only[execOp,hρ _ _ hx,Sem.run_bind,hr,Result.andThen_ok,Sem.run_pure]
def zfT {el:TypeId}{gb n cap:Nat}{l:List UInt8}(hs:P.underlying t=some (.slice el))(he:P.underlying el=some (.int .u8))(hd:P.underlying t'=some .string)(hx:look e x=some (.slice (some ⟨gb,0,none⟩) n cap))(hS:Sl w (.slice (some ⟨gb,0,none⟩) n cap) el 1 n (l.map U8)):
  Y P e ⟨d,.convert t t' x,ty,pos,aft,g⟩ (S l) w w:=by
 obtain⟨cur,hr,-,-,-,ht⟩:=hS.row
 refine z8j hs he hd hx hr.PN (by rw[List.drop_zero,<-ht,Nat.mul_one]) ?_
 have:=hS.len
 rw[List.length_map] at this
 omega
end
def Rf {w:World}{b off n cap i:Nat}{vs:List Value}{v:Value}(h:Rd w (.slice (some ⟨b,off,none⟩) n cap) 1 n vs)(hv:vs[i]? =some v):w.cell? ⟨b,off+i*1,none⟩=some v:=by
 rcases h.2 with⟨c,hc,h0⟩|⟨b',off',cap',e,hc⟩
 ·have hi:=(List.getElem?_eq_some_iff.1 hv).1;have:=h.1;omega
 ·cases e;rw[Nat.mul_one];exact hc i v hv
structure WrM (w:World)(p:Nat)(bv:Value)(bs:List Bool):Prop where
 PN:Q7 w p [bv,I (bs.length:Int)] 267
 sl:Sl w bv 5 1 (Qv bs).length ((Qv bs).map U8)
 ne:bv.ownBlock≠some p
def fpW (p:Nat)(bv:Value)(k:Nat):Prop:=k=p\/bv.ownBlock=some k
def Zs (w:World)(p:Nat)(bs:List Bool)(F:Nat->Prop):Prop:=∃bv,WrM w p bv bs/\∀k,F k↔fpW p bv k
def WrR (p:Nat)(F:Nat->Prop)(w w':World)(bs:List Bool):Prop:=∃F',Zs w' p bs F'/\Kp F w w'/\∀k,F' k->F k\/w.heap.size<=k
section
variable {w w':World}{p:Nat}{bs:List Bool}{F S:Nat->Prop}
def Zs.lt (h:Zs w p bs F){k:Nat}(hk:F k):k<w.heap.size:=by
 obtain⟨bv,hM,hF⟩:=h
 rcases (hF k).1 hk with e| e
 ·rw[e];exact hM.PN.lt
 ·exact hM.sl.lt e
def Zs.kp (h:Zs w p bs F)(k:Kp S w w')(hn:∀i,F i->¬S i):Zs w' p bs F:=by
 obtain⟨bv,hM,hF⟩:=h
 exact⟨bv,⟨k.PN hM.PN (hn p ((hF p).2 (.inl O))),hM.sl.kp k (λg hg=>hn g ((hF g).2 (.inr hg))),hM.ne⟩,hF⟩
def Zs.ext (h:Zs w p bs F)(k:Ext w w'):Zs w' p bs F:=h.kp k.kp λ_ _=>id
end
section
variable {w:World}{p:Nat}{bs:List Bool}{F:Nat->Prop}
def VW (w:World):Qu prog 117 [] w λv w'=>∃p F,v=ptr p 0/\Zs w' p [] F/\Ext w w'/\∀k,F k->w.heap.size<=k:=by
 refine py (e:=[]) func117 O ntmps117 O O$ qN O$ S7 O$ qV (Tq (cs:=[_,_]) zhp O zib O O)$ PY O O (Se O O) ?_
 rintro _ w1 ⟨p,rfl,hp,hx,hB⟩
 refine Qc O$ PO func117 O ?_
 exact⟨_,rfl,p,_,rfl,⟨_,⟨hB,Sl.nil _ _ _,by simp[Value.ownBlock]⟩,λ_=>Iff.rfl⟩,hx,λk hk=>by
  rcases hk with e| e
  ·omega
  ·simp[Value.ownBlock] at e⟩
def zd7 (h:Zs w p bs F)(v n:Nat)(hn:n<=64)(hv:v<2^n)(hl:bs.length+n<=1000000000):
  Qu prog 155 [ptr p 0,Qg v,I (n:Int)] w λu w'=>u= .tuple #[]/\WrR p F w w' (bs++Qr n v):=by
 obtain⟨bv,hM,hF⟩:=h
 have KB:v<18446744073709551616:=by
  have:=Nat.pow_le_pow_right (show 0<2 by decide) hn;have e:(2:Nat)^64=18446744073709551616:=by decide
  omega
 have fF:maxLen=9223372036854775807:=rfl
 refine py (e:=[(0,_),(1,_),(2,_)]) func155 O ntmps155 O O$ PS$ SK (α:=Nat×Value×List Bool) ((n,bv,bs)) (λx=>[(0,ptr p 0),(1,Qg v),(2,I (x.1:Int))]) (λx w'=>x.1<=n/\WrM w' p x.2.1 x.2.2/\x.2.2=bs++Qr (n-x.1) (v / 2^x.1)/\Kp F w w'/\(∀k,fpW p x.2.1 k->F k\/w.heap.size<=k)) (λx=>x.1) ?hI ?hround
 case hI=>exact⟨Nat.le_refl _,hM,by rw[Nat.sub_self];simp[Qr],Kp.refl _ _,λk hk=> .inl ((hF k).2 hk)⟩
 case hround =>
  rintro⟨k,bv1,b1⟩ w1 ⟨hk,du,bL,ay,je⟩ ih;dsimp only at hk du bL je;have ai:=du.PN;have CS:b1.length<=bs.length+n:=by rw[bL,List.length_append,bitsN_length];omega
  have kE:b1.length&&&7=b1.length%8:=Nat.and_two_pow_sub_one_eq_mod b1.length 3;have nR:=ay.size;have gj:=ai.lt
  try dsimp only
  refine QS O$ RK O$ PQ$ Q8 O (λaR=>?_)$ λaR=>?_
  ·have fZ : 0 < k := by omega
   obtain⟨take,nS⟩:∃take,min k (8-b1.length%8)=take:=⟨_,rfl⟩;have tS:1<=take/\take<=k/\take<=8-b1.length%8:=by omega
   obtain⟨e,he⟩:∃e,Qr take (v / 2^(k-take))=e:=⟨_,rfl⟩;have pG:e.length=take:=by rw[<-he];simp
   have IC:QL e=v / 2^(k-take)%2^take:=by rw[<-he,Rk]
   obtain⟨c,x,y,hL,hY,dO⟩:=z7U (bs:=b1) (e:=e) ω ω;refine PR$ PS$ QS O$ QA O$ Qd Yu O$ qV (PX U3 O O ai O)$ qV (YO O O ω ω) ?_;rw[kE];refine Ss O$ PQ$ QH (λe' w'=>e'=[(0,ptr p 0),(1,Qg v),(2,I (k:Int))]/\∃bv2,Q7 w' p [bv2,I (b1.length:Int)] 267/\Sl w' bv2 5 1 (c++[x]).length ((c++[x]).map U8)/\bv2.ownBlock≠some p/\Kp F w w'/\∀k,fpW p bv2 k->F k\/w.heap.size<=k) ?nT$ λnT=>?nU
   case nT=>
    rintro e' w2 ⟨rfl,bv2,ak,cS,dI,am,tT⟩
    obtain⟨g2,c2,rfl,g7⟩:∃g cp,bv2= .slice (some ⟨g,0,none⟩) (c++[x]).length cp/\(c++[x]).length<=cp:=by
     rcases cS.shape with⟨-,e⟩| h
     ·simp at e
     ·exact h
    have fk:(c++[x]).length=c.length+1:=by simp
    have ID:p≠g2:=λe=>dI (by rw[e];rfl);have kh:(Qv (b1++e)).length=c.length+1:=by rw[hY];simp
    rw[QN,List.length_append] at kh;obtain⟨T,hT⟩:∃T,2^take=T:=⟨_,rfl⟩;obtain⟨D,hD⟩:∃D,2^(k-take)=D:=⟨_,rfl⟩;obtain⟨R,hR⟩:∃R,2^(8-b1.length%8-take)=R:=⟨_,rfl⟩;rw[hT,hD] at IC;rw[pG,hR] at dO
    have IE:1<=T/\T<=256:=by
     rw[<-hT];exact⟨Nat.two_pow_pos _,by have:=Nat.pow_le_pow_right (show 0<2 by decide) (show take<=8 by omega);simpa using this⟩
    have jr:(v / D)&&&(T-1)=v / D%T:=by rw[<-hT];exact Nat.and_two_pow_sub_one_eq_mod _ _
    have OG:v / D<=v:=Nat.div_le_self _ _;have KC:v / D%T<T:=Nat.mod_lt _ ω
    have OH:QL e*R<256:=by
     have h1:=S9 e;rw[pG,hT] at h1;have h2:QL e*R<T*R:=Nat.mul_lt_mul_of_pos_right h1 (by rw[<-hR];exact Nat.two_pow_pos _);have h3:T*R=2^(8-b1.length%8):=by rw[<-hT,<-hR,<-Nat.pow_add,show take+(8-b1.length%8-take)=8-b1.length%8 by omega]
     have h4:=Nat.pow_le_pow_right (show 0<2 by decide) (show 8-b1.length%8<=8 by omega);have h5:(2:Nat)^8=256:=by decide
     omega
    have cV:=x.toNat_lt;refine Qx O$ QA O$ Qd Yu O$ qV (PX U3 O O ak O)$ qV (YO O O ω ω) ?_;rw[kE];refine SA O ?_;rw[show(8-((b1.length%8:Nat):Int))=((8-b1.length%8:Nat):Int) by omega];refine S7 O$ Qp O$ qV (ymi O O) ?_;rw[show min (k:Int) ((8-b1.length%8:Nat):Int)=((take:Nat):Int) by omega];have hg:=Ext.Qh w2;refine Qc O$ An$ S5 (λw'=>Ext w2 w') O$ Qi 0 O O (hg)$ Qi 1 O O (hg)$ Qi 2 O O (hg)$ PT 3 O (YM O O ω) hg$ Qi 5 O O (hg) ?_;rw[show((k:Int)-(take:Int))=((k-take:Nat):Int) by omega];refine PT 4 O (Vm (k-take) D O O (by show k-take<=64;omega) hD) hg ?_;refine PT 6 O (Sr take T O O ω hT) hg ?_;rw[show(1*T)%18446744073709551616=T by omega];refine PT 7 O (XK (n:=1) O O O (by show T<2^64;omega) ω) hg ?_;refine PT 8 O (VY O O ω ω) hg ?_;rw[jr];refine PT 9 O (z4m O SL U5) hg ?_;rw[show v / D%T%256=QL e by rw[IC];exact Nat.mod_eq_of_lt (Nat.lt_of_lt_of_le KC IE.2)];have aw:=hg.PN ak;have dj:=cS.ext hg;have ag:Ext w2.drew w2.drew.drew:=Ext.Qh w2.drew;refine PT 10 O (Sv O) hg$ qE$ An$ Qn [19] (λw'=>Ext w2.drew w') (by kernel_rfl) O$ R1 0 O O (ag)$ Qs 1 O (R8 O) ag$ Qs 2 O (Qz Zw O) ag$ qL 3 O (λ_ h=>PX Tr O O (h.PN aw) O) ag$ R1 4 O O (ag)$ Qs 5 O (R8 O) ag$ Qs 6 O (Qz Zw O) ag$ qL 7 O (λ_ h=>PX Tr O O (h.PN aw) O) ag$ Qs 8 O (TP Tr O) ag$ R1 12 O O (ag) ?_;refine R1 13 O O (ag)$ R1 14 O O (ag)$ Qs 15 O (YM O O ω) ag$ Qs 9 O (YM O O ω) ag ?_;rw[show(((c++[x]).length:Int)-1)=((c.length:Nat):Int) by omega];refine Qs 10 O (Rh Tr Y7 O O ω) ag$ qL 11 O (λ_ hS=>QF U5 O O (Rf (dj.rd.ext hS) (show((c++[x]).map U8)[c.length]? =some (U8 x) by simp))) ag ?_;rw[show(((8-b1.length%8:Nat):Int)-(take:Int))=((8-b1.length%8-take:Nat):Int) by omega];refine Qs 16 O (zm7 (8-b1.length%8-take) R O O ω hR) ag ?_;rw[show QL e*R%256=QL e*R by omega];refine Qs 17 O (zmf O O ω ω) ag$ Qs 18 O (Rh Tr Y7 O O ω) ag$ Ut [19]$ qO 19$ QO (i:=19) O O (SY Y7 O O O (dj.ext ag) ξ) ?_;rintro w4 ⟨eH,ar⟩;refine⟨trivial,?_⟩
    rw[show((c++[x]).map U8).set (0+c.length*1) (.int .u8 ((x.toNat |||QL e*R:Nat):Int))=(c++[y]).map U8 by
     rw[Nat.zero_add,Nat.mul_one,List.map_append,List.map_append,List.set_append_right _ _ ξ]
     simp[U8,dO]] at eH
    have aM:=ar.PN (ag.PN aw) ID;refine qE$ Qx O$ QA O$ Qd Yu O$ qV (PX U3 O O aM O)$ Q4 O$ R7 O$ QA O$ Qd Yu O$ Qb O (RV Rl O O O aM ξ) ?_;rintro w5 ⟨aJ,aj⟩;rw[show((b1.length:Int)+(take:Int))=(((b1++e).length:Nat):Int) by rw[List.length_append,pG];omega] at aJ;replace aJ:Q7 w5 p [.slice (some ⟨g2,0,none⟩) (c++[x]).length c2,I ((b1++e).length:Int)] 267:=aJ
    have fG:=eH.kp aj (λg hg e=>by
                         have:g2=g:=by simpa[Value.ownBlock] using hg
                         omega)
    refine PQ$ PW O$ Qp O$ SA O$ Qc O$ PM ?_;rw[show((k:Int)-(take:Int))=((k-take:Nat):Int) by omega];refine(ih (k-take,.slice (some ⟨g2,0,none⟩) (c++[x]).length c2,b1++e) w5 ⟨by dsimp only;omega,⟨aJ,?_,dI⟩,?_,?_,tT⟩ (by dsimp only;omega)).qb
    ·rw[hY];have e1:(c++[y]).length=(c++[x]).length:=by simp
     rw[e1];exact fG
    ·dsimp only;rw[bL,List.append_assoc]
     congr 1
     rw[<-he,show n-(k-take)=(n-k)+take by omega,Td]
     congr 2
     rw[Nat.div_div_eq_div_mul,<-Nat.pow_add,show k-take+take=k by omega]
    ·have mF:Kp (fpW p (.slice (some ⟨g2,0,none⟩) (c++[x]).length c2)) w2 w5:=((hg.trans ag).kp.trans (ar.PU (λi e=> .inr (by rw[e];rfl)))).trans (aj.PU (λi e=> .inl e));exact am.It mF (λi hi=>(tT i hi).symm)
   case nU=>
    refine Q8 O (λh0=>?_)$ λh0=>?_
    ·rw[if_pos ω] at hL;refine PW O$ Qp O$ QA O$ Qd Zw O$ qV (PX Tr O O ai O)$ PY O O (Zh (cs:=[_]) (zs:=[Value.int .u8 0]) Tr Y7 O (by kernel_rfl) O O O ψ) ?_;rintro _ w2 ⟨b2,rfl,⟨bO,ae,ak⟩,cS⟩;refine PY O O (pap Tr Y7 O ψ O O (du.sl.ext ae) cS.rd (by intro c hc;simp at hc;subst hc;rfl) (by rw[QN];omega) (by rw[QN];omega)) ?_;rintro bv3 w3 ⟨dj,av,lU,-⟩;have aw:=av.PN (ae.PN ai) du.ne;refine QA O$ Qd Zw O$ Qb O (RV z3g O O (Yr dj) aw ξ) ?_;rintro w4 ⟨aM,ar⟩;replace aM:Q7 w4 p [bv3,I (b1.length:Int)] 267:=aM;refine PQ ?_
     have fm:bv3.ownBlock≠some p:=λe=>by
      rcases lU p e with e| e
      ·exact du.ne e
      ·have:=ae.size;omega
     refine(nT _ _ ⟨rfl,bv3,aM,?_,fm,?_,?_⟩).qb
     ·rw[<-hL,List.length_append,List.map_append];exact dj.kp ar (λg hg e=>fm (e▸hg))
     ·exact ay.It ((ae.kp.trans (av.PU (λk e=> .inr e))).trans (ar.PU (λk e=> .inl e))) (λi hi=>(je i hi).symm)
     ·intro i hi;rcases hi with e| e
      ·exact je i (.inl e)
      ·rcases lU i e with e| e
       ·exact je i (.inr e)
       ·have:=ae.size;exact .inr ω
    ·rw[if_neg ω] at hL;refine PR ?_;exact(nT _ _ ⟨rfl,bv1,ai,by rw[<-hL];exact du.sl,du.ne,ay,je⟩).qb
  ·have:k=0:=by omega
   subst this;refine Q5 O$ Rq func155 O (⟨_,rfl,rfl,_,⟨bv1,?_,λ_=>Iff.rfl⟩,ay,je⟩);rw[bL,Nat.sub_zero,Nat.pow_zero,Nat.div_one] at du;exact du
def zay (v n:Nat)(hn:n<=64)(hv:v<2^n)(w:World):Qu prog 154 [Qg v,I (n:Int)] w λu w'=>u= .bool true/\w'=w:=by
 refine py (e:=[(0,_),(1,_)]) func154 O ntmps154 O O$ qN O$ RZ O$ UZ O$ Q4 O$ TL (λh1=>?_)$ λh1=>?_
 ·refine S6$ S6$ Sa O$ Qc O$ PO func154 O ?_;exact⟨_,rfl,rfl,rfl⟩
 ·refine Qp O$ qV (Vm n (2^n) O O (by show n<=64;omega) O) ?_;rw[Nat.div_eq_of_lt hv];refine Ss O$ QY O$ Qc O$ PO func154 O ?_;exact⟨_,rfl,by simp[Rb],rfl⟩
def Tu (h:Zs w p bs F)(v n:Nat)(hn:n<=64)(hv:v<2^n)(hl:bs.length+n<=134217728):
  Qu prog 118 [ptr p 0,Qg v,I (n:Int)] w λu w'=>u=I 0/\WrR p F w w' (bs++Qr n v):=by
 obtain⟨bv,hM,hF⟩:=id h
 have hB:=hM.PN
 refine py (e:=[(0,_),(1,_),(2,_)]) func118 O ntmps118 O O$ RN O$ RP$ Qx O$ qV (R9 z4M O O)$ Qc O$ PZ O$ Qx O$ RT O$ Q4 O$ TL (λh1=>?_)$ λh1=>?_
 ·omega
 ·refine Q4 O$ RK O$ QY O$ Q4 O$ TL (λh2=>?_)$ λh2=>?_
  ·omega
  ·refine Qp O$ Qk zjX O (zay v n hn hv w) ?_;rintro _ w ⟨rfl,rfl⟩;refine qV ((T7 O))$ QY O$ Qc O$ PZ O$ RI O$ QA O$ Qd Yu O$ qV (PX U3 O O hB O)$ SA O$ RK O$ Qc O$ Qy.qb (e:=[(0,_),(1,_),(2,_),(6,_),(23,_)]) ?_;refine Q8 O (λh3=>?_)$ λh3=>?_
   ·omega
   ·refine PR$ PM$ RI O$ Q4 O$ Qk zjf O (zd7 h v n hn hv ω) ?_;rintro _ w1 ⟨rfl,hR⟩;refine qM O$ Qc O$ PO func118 O ?_;exact⟨_,rfl,rfl,hR⟩
def Yd (h:Zs w p bs F):Qu prog 119 [ptr p 0] w λu w'=>u= .tuple #[S (Qv bs),I 0]/\w'=w:=by
 obtain⟨bv,hM,hF⟩:=h
 have hB:=hM.PN
 have hS:=hM.sl
 refine py (e:=[(0,_)]) func119 O ntmps119 O O$ qN O$ Rt O$ QS O$ qV (R9 z4M O O)$ Re O$ Qx O$ QA O$ Qd Zw O$ qV (PX Tr O O hB O) ?_
 rcases hS.shape with⟨rfl,h0⟩|⟨g,cap,rfl,kF⟩
 ·have hn:Qv bs=[]:=List.eq_nil_of_length_eq_zero h0;rw[hn];refine qV (zkV Tr U5 U9 O)$ Rt O$ PO func119 O ?_;exact⟨_,rfl,rfl,rfl⟩
 ·refine qV (zfT (l:=Qv bs) Tr U5 U9 O hS)$ Rt O$ PO func119 O ?_;exact⟨_,rfl,rfl,rfl⟩
def WC (h:Zs w p bs F):Qu prog 122 [ptr p 0] w λu w'=>u=I (bs.length:Int)/\w'=w:=by
 obtain⟨bv,hM,hF⟩:=h
 have hB:=hM.PN
 refine py (e:=[(0,_)]) func122 O ntmps122 O O$ RN O$ QS O$ qV (R9 z4M O O)$ Re O$ Qx O$ QA O$ Qd Yu O$ qV (PX U3 O O hB O)$ Qc O$ PO func122 O ?_
 exact⟨_,rfl,rfl,rfl⟩
end
def V7 (w:World)(r:Nat)(s:PV)(a:Nat):Prop:=Q7 w r [S s,I (a:Int)] 301/\a<=8*s.length/\s.length<=1000000000
section
variable {w:World}{r:Nat}{s:PV}{a:Nat}
def Yk (s:PV)(hs:s.length<=1000000000)(w:World):Qu prog 158 [S s] w λv w'=>∃r,v=ptr r 0/\V7 w' r s 0/\Ext w w'/\w.heap.size<=r:=by
 refine py (e:=[(0,_)]) func158 O ntmps158 O O$ qN O$ RZ O$ qV (Tq (cs:=[_,_]) zji O zhZ O O)$ PY O O (Se O O) ?_
 rintro _ w1 ⟨r,rfl,hr,hx,hB⟩
 refine Qc O$ PO func158 O ?_
 exact⟨_,rfl,r,rfl,⟨hB,Nat.zero_le _,hs⟩,hx,ω⟩
def Vw (h:V7 w r s a):Qu prog 197 [ptr r 0] w λv w'=>v=I (a:Int)/\w'=w:=by
 obtain⟨hB,h1,h2⟩:=h
 refine py (e:=[(0,_)]) func197 O ntmps197 O O$ RN O$ QS O$ qV (R9 Wx O O)$ Re O$ Qx O$ QA O$ Qd Wn O$ qV (PX U3 O O hB O)$ Qc O$ PO func197 O ?_
 exact⟨_,rfl,rfl,rfl⟩
def zaO (h:V7 w r s a):Qu prog 187 [ptr r 0] w λv w'=>v=I ((8*s.length-a:Nat):Int)/\Ext w w':=by
 obtain⟨hB,h1,h2⟩:=h
 refine py (e:=[(0,_)]) func187 O ntmps187 O O$ RN O$ QS O$ qV (R9 Wx O O) ?_
 have hg:=Ext.Qh w
 refine Re O$ An$ S5 (λw'=>Ext w w') O$ Qi 0 O O (hg)$ PT 1 O (R8 O) hg$ PT 2 O (Qz z4F O) hg$ qT 3 O (λ_ h=>PX U9 O O (h.PN hB) O) hg$ PT 4 O (Wf U9 O) hg$ PT 5 O (Xq O O ω) hg$ Qi 6 O O (hg)$ PT 7 O (R8 O) hg$ PT 8 O (Qz Wn O) hg$ qT 9 O (λ_ h=>PX U3 O O (h.PN hB) O) hg$ PT 10 O (YM O O ω) hg ?_
 refine PT 11 O (Sv O) hg$ qE$ PO func187 O (⟨_,rfl,?_,hg⟩)
 simp only[Rb]
 congr 1
 omega
def z0P (h:V7 w r s a)(k:Nat)(hk:k<=8*s.length):Qu prog 216 [ptr r 0,I (k:Int)] w λv w'=>v=I 0/\V7 w' r s k/\Kp (λi=>i=r) w w':=by
 obtain⟨hB,h1,h2⟩:=h
 refine py (e:=[(0,_),(1,_)]) func216 O ntmps216 O O$ RN O$ RP$ Qx O$ qV (R9 Wx O O)$ Qc O$ PZ O$ Qx O$ RT O$ Q4 O$ TL (λc1=>?_)$ λc1=>?_
 ·omega
 ·refine Qp O$ QA O$ Qd z4F O$ qV (PX U9 O O hB O)$ qV (Wf U9 O)$ qV (Xq O O ω)$ RK O$ QY O$ Qc O$ Q8 O (λc2=>?_)$ λc2=>?_
  ·omega
  ·refine PR$ PM$ RI O$ QA O$ Qd Wn O$ Qb O (RV Rl O O O hB ξ) ?_;rintro w1 ⟨ai,ay⟩;refine qM O$ Qc O$ PO func216 O ?_;exact⟨_,rfl,rfl,⟨ai,hk,h2⟩,ay⟩
def z7w {b2 b6 V n:Nat}(h:V7 w r s a)(h2:Q7 w b2 [ptr r 0] 273)(h6:Q7 w b6 [Qg V] 39)(hn:1<=n)(tU:n<=8-a%8)(hl:a+n<=8*s.length)(hV:V*2^n+2^n<=18446744073709551616)(d1:b6≠r)(d2:b2≠r)(d3:b2≠b6):
  Qu prog 188 [I (n:Int),ptr b2 0,ptr b6 0] w λu w'=>u= .tuple #[]/\V7 w' r s (a+n)/\Q7 w' b6 [Qg (V*2^n+QL (((Qm s).drop a).take n))] 39/\Q7 w' b2 [ptr r 0] 273/\Kp (λk=>k=b6\/k=r) w w':=by
 obtain⟨hB,ha,hs⟩:=h
 have kE:a&&&7=a%8:=Nat.and_two_pow_sub_one_eq_mod a 3
 obtain⟨c,hc⟩:∃c,s[a / 8]? =some c:=⟨_,List.getElem?_eq_getElem ω⟩
 have hp:=z7H hc tU
 obtain⟨pc,kh⟩:∃pc,QL (((Qm s).drop a).take n)=pc:=⟨_,rfl⟩
 have gj:pc<2^n:=by
  rw[<-kh];have h1:=S9 (((Qm s).drop a).take n);rw[List.length_take,List.length_drop,bitsT_length,Nat.min_eq_left ω] at h1;exact h1
 rw[kh] at hp⊢
 have OI:=c.toNat_lt
 obtain⟨rm,BR⟩:∃rm,8-a%8=rm:=⟨_,rfl⟩
 rw[BR] at hp tU
 have jr:c.toNat&&&(2^rm-1)=c.toNat%2^rm:=Nat.and_two_pow_sub_one_eq_mod _ _
 obtain⟨R,hR⟩:∃R,2^rm=R:=⟨_,rfl⟩
 have lV:1<=R/\R<=256:=by
  rw[<-hR];exact⟨Nat.two_pow_pos _,by have:=Nat.pow_le_pow_right (show 0<2 by decide) (show rm<=8 by omega);simpa using this⟩
 rw[hR] at hp jr
 have nD:c.toNat%R<=c.toNat:=Nat.mod_le _ _
 have KD:s.getD (a / 8) 0=c:=by rw[List.getD_eq_getElem?_getD,hc];rfl
 refine py (e:=[(0,_),(1,_),(2,_)]) func188 O ntmps188 O O$ qN O$ qV ((PX Wx O O h2 O))$ QA O$ Qd Wn O$ qV ((PX U3 O O hB O))$ qV (YO O O ω ω) ?_
 rw[kE]
 refine SA O ?_
 rw[show(8-((a%8:Nat):Int))=((rm:Nat):Int) by omega]
 have hg:=Ext.Qh w
 refine Qc O$ An$ S5 (λw'=>Ext w w') O$ qT 0 O (λ_ h=>(PX Wx O O (h.PN h2) O)) hg$ PT 1 O (R8 O) hg$ PT 2 O (Qz z4F O) hg$ qT 3 O (λ_ h=>(PX U9 O O (h.PN hB) O)) hg$ qT 4 O (λ_ h=>(PX Wx O O (h.PN h2) O)) hg$ PT 5 O (R8 O) hg$ PT 6 O (Qz Wn O) hg$ qT 7 O (λ_ h=>(PX U3 O O (h.PN hB) O)) hg$ PT 8 O (Yh O O ω) hg$ Qi 11 O O (hg)$ Qi 15 O O (hg) ?_
 refine Qi 16 O O (hg)$ PT 17 O (YM O O ω) hg ?_
 rw[show((a:Int) / 8)=((a / 8:Nat):Int) by omega]
 refine PT 9 O (z3j U9 O O ω) hg$ PT 10 O ((z4x O U5 U3 ψ)) hg ?_
 rw[KD]
 refine PT 12 O (zlY rm R O O ω hR ω) hg ?_
 rw[show(1*(R:Int))=((R:Nat):Int) by omega]
 refine PT 13 O (YM O O ω) hg ?_
 rw[show((R:Int)-1)=((R-1:Nat):Int) by omega]
 refine PT 14 O (YO O O ω ω) hg ?_
 rw[jr]
 rw[show((rm:Int)-(n:Int))=((rm-n:Nat):Int) by omega]
 refine PT 18 O (Vm (rm-n) (2^(rm-n)) O O (by show rm-n<=64;omega) O) hg ?_
 rw[<-hp]
 refine PT 19 O (Sv O) hg$ qE$ Qy.qb (e:=[(0,_),(1,_),(2,_),(5,_)]) ?_
 refine qN O ?_
 have ai:=hg.PN hB
 have KE:=hg.PN h2
 have BS:=hg.PN h6
 obtain⟨N,hN⟩:∃N,2^n=N:=⟨_,rfl⟩
 rw[hN] at hV gj
 have OJ:1<=N:=by rw[<-hN];exact Nat.two_pow_pos _
 obtain⟨M,hM⟩:∃M,V*N=M:=⟨_,rfl⟩
 rw[hM] at hV
 have pH:M |||pc=M+pc:=by
  have:=Nat.two_pow_add_eq_or_of_lt (i:=n) (b:=pc) (by rw[hN];exact gj) V;rw[hN,Nat.mul_comm N V,hM] at this;exact this.symm
 rw[hN,hM]
 have tV:n<=64:=by omega
 refine qV ((PX SL O O BS O))$ Q4 O$ qV (Sr n N O O tV hN) ?_
 rw[hM,Nat.mod_eq_of_lt (show M<18446744073709551616 by omega)]
 refine Q4 O$ qV ((Rp O U3 SL ω))$ qV (z1V O O ω ω) ?_
 rw[pH]
 refine Qb O (RV UK O O O BS ξ) ?_
 rintro w2 ⟨KF,am⟩
 have ak:=am.PN ai (Ne.symm d1)
 have IF:=am.PN KE d3
 refine PQ$ PW O$ qV ((PX Wx O O IF O))$ QA O$ Qd Wn O$ qV ((PX U3 O O ak O))$ Q4 O$ R7 O$ QA O$ Qd Wn O$ Qb O (RV Rl O O O ak ξ) ?_
 rintro w3 ⟨aw,av⟩
 rw[show((a:Int)+(n:Int))=((a+n:Nat):Int) by omega] at aw
 refine PQ$ Rq func188 O ?_
 exact⟨_,rfl,rfl,⟨aw,hl,hs⟩,av.PN KF d1,av.PN IF d2,(hg.kp.trans (am.PU (λk e=> .inl e))).trans (av.PU (λk e=> .inr e))⟩
def WE (h:V7 w r s a)(n:Nat)(hn:n<=64):
  Qu prog 160 [ptr r 0,I (n:Int)] w λv w'=>(a+n<=8*s.length/\v= .tuple #[Qg (QL (((Qm s).drop a).take n)),I 0]/\V7 w' r s (a+n)/\Kp (λk=>k=r) w w')\/(8*s.length<a+n/\v= .tuple #[Qg 0,I 4]/\Ext w w'):=by
 have iy:=h.1.lt
 obtain⟨-,ha,hs⟩:=id h
 refine py (e:=[(0,_),(1,_)]) func160 O ntmps160 O O$ qN O$ PY O O (Se O (cs:=[ptr r 0]) O) ?_
 rintro _ w1 ⟨b2,rfl,bO,ad,ak⟩
 have h1:V7 w1 r s a:=⟨ad.PN h.1,h.2⟩
 refine Rt O$ RP$ qN O$ qV (PX Wx O O ak O)$ qV (R9 Wx O O)$ Qc O$ PZ O$ Qx O$ RT O$ Q4 O$ TL (λc1=>?_)$ λc1=>?_
 ·omega
 ·refine Q4 O$ RK O$ QY O$ Qc O$ Q8 O (λc2=>?_)$ λc2=>?_
  ·omega
  ·refine Qx O$ qV (PX Wx O O ak O)$ Qk zhv O (zaO h1) ?_;rintro _ w2 ⟨rfl,ae⟩;refine RK O$ Qc O$ Q8 O (λc3=>?_)$ λc3=>?_
   ·refine qN O$ Rt O$ PO func160 O ?_;exact⟨_,rfl,.inr ⟨ω,rfl,ad.trans ae⟩⟩
   ·refine PR$ PM$ qN O$ PY O O (SE (cs:=[_]) UK O) ?_;rintro _ w3 ⟨b6,rfl,nV,ah,aY⟩;replace aY:Q7 w3 b6 [Qg 0] 39:=aY;have aZ:=ae.trans ah;have ct:=ad.trans aZ;have nR:=ad.size;have nE:=ae.size;have iG:=ak.lt;have cd:a+n<=8*s.length:=by omega
    refine qM O$ qV (ymf (first:=[]) (caps:=[.tmp 2,.tmp 6]) O O)$ Qc O$ RP$ SK (α:=Nat) (n) (λk=>[(1,I (k:Int)),(2,ptr b2 0),(6,ptr b6 0),(7,.func (.func 188) #[] #[ptr b2 0,ptr b6 0])]) (λk w'=>k<=n/\V7 w' r s (a+(n-k))/\Q7 w' b6 [Qg (QL (((Qm s).drop a).take (n-k)))] 39/\Q7 w' b2 [ptr r 0] 273/\Kp (λi=>i=r) w w') (λk=>k) ?hI ?hround
    case hI=>exact⟨Nat.le_refl _,⟨by rw[Nat.sub_self];exact ct.PN h.1,ω,hs⟩,by rw[Nat.sub_self];exact aY,aZ.PN ak,ct.kp⟩
    case hround=>
     rintro k w4 ⟨hk,ez,tW,IG,ar⟩ ih;have BT:=ez.1
     try dsimp only
     refine QS O$ RK O$ PQ$ Q8 O (λaR=>?_)$ λaR=>?_
     ·obtain⟨p,hp⟩:∃p,a+(n-k)=p:=⟨_,rfl⟩;rw[hp] at BT ez;have kE:p&&&7=p%8:=Nat.and_two_pow_sub_one_eq_mod p 3;obtain⟨take,nS⟩:∃take,min k (8-p%8)=take:=⟨_,rfl⟩;have tS:1<=take/\take<=k/\take<=8-p%8:=by omega
      refine PR$ PS$ Qx O$ qV ((PX Wx O O IG O))$ QA O$ Qd Wn O$ qV ((PX U3 O O BT O))$ qV (YO O O ω ω) ?_;rw[kE];refine SA O$ qV (ymi O O) ?_;rw[show min (k:Int) (8-((p%8:Nat):Int))=((take:Nat):Int) by omega];obtain⟨V,hV⟩:∃V,QL (((Qm s).drop a).take (n-k))=V:=⟨_,rfl⟩;rw[hV] at tW
      have xW:V*2^take+2^take<=18446744073709551616:=by
       have h1:=S9 (((Qm s).drop a).take (n-k));rw[hV,List.length_take,List.length_drop,bitsT_length,Nat.min_eq_left ω] at h1;have h2:(V+1)*2^take<=2^(n-k)*2^take:=Nat.mul_le_mul_right _ h1;rw[<-Nat.pow_add,Nat.add_mul,Nat.one_mul] at h2;have h3:=Nat.pow_le_pow_right (show 0<2 by decide) (show n-k+take<=64 by omega);have h4:(2:Nat)^64=18446744073709551616:=by decide
       omega
      refine S7 O$ Qp O$ RB O O (T6 ziG O O) (z7w ez IG tW tS.1 tS.2.2 ω xW ω ω ω) ?_;rintro _ w5 ⟨rfl,kG,KG,KH,aj⟩;refine PQ$ PW O$ Qp O$ SA O$ Qc O$ PM ?_;rw[show((k:Int)-(take:Int))=((k-take:Nat):Int) by omega];refine(ih (k-take) w5 ⟨ω,?_,?_,KH,?_⟩ ω).qb
      ·rw[show a+(n-(k-take))=p+take by omega];exact kG
      ·rw[show n-(k-take)=(n-k)+take by omega,List.take_add,Ta,hV,List.drop_drop,hp];have hl:(((Qm s).drop p).take take).length=take:=by rw[List.length_take,List.length_drop,bitsT_length];omega
       rw[hl];exact KG
      ·exact ar.It aj (λi hi=>hi.elim (λe=> .inl ω) .inr)
     ·have:k=0:=by omega
      subst this;rw[Nat.sub_zero] at ez tW;refine Q5 O$ qN O$ qV (PX SL O O tW O)$ Rt O$ PO func160 O ?_;exact⟨_,rfl,.inl ⟨cd,rfl,ez,ar⟩⟩
end
def R3 (v:Nat):Nat:=if v=0 then 0 else Nat.log2 v+1
def Yq {v:Nat}:v<2^R3 v:=by
 unfold R3
 split
 ·subst_vars;simp
 ·exact Nat.lt_log2_self
def z1I {v:Nat}(h:v≠0):2^(R3 v-1)<=v:=by
 unfold R3
 rw[if_neg h,Nat.add_sub_cancel]
 exact Nat.log2_self_le h
theorem z98 {v n:Nat}(h1:2^n<=v)(h2:v<2^(n+1)):R3 v=n+1:=by
 have hp:=Nat.two_pow_pos n
 have h0:v≠0:=by omega
 unfold R3
 rw[if_neg h0]
 have:=(Nat.log2_eq_iff h0).2 ⟨h1,h2⟩
 omega
def Si {v n:Nat}(h:v<2^n):R3 v<=n:=by
 by_cases h0:v=0
 ·subst h0;simp[R3]
 ·have h1:=z1I h0;have h2:2^(R3 v-1)<2^n:=by omega
  have h3:=(Nat.pow_lt_pow_iff_right (by decide:1<2)).1 h2;have:R3 v≠0:=by unfold R3;rw[if_neg h0];omega
  omega
def SJ (v K:Nat):Nat×Nat:=
 let s:=R3 (K-1)
 let m:=2^s-K
 if v<m then(v,s-1) else(v+m,s)
def RO (v K:Nat):List Bool:=Qr (SJ v K).2 (SJ v K).1
def Wl {K:Nat}(hK:1<=K):K<=2^R3 (K-1)/\(1<K->1<=R3 (K-1)/\2^(R3 (K-1)-1)+1<=K):=by
 have h1:=Yq (v:=K-1)
 refine⟨ω,λh=>?_⟩
 have h2:=z1I (v:=K-1) ω
 refine⟨?_,ω⟩
 unfold R3
 rw[if_neg ω];omega
def zaq {v K:Nat}(h:v<K):(SJ v K).1<2^(SJ v K).2:=by
 obtain⟨h1,h2⟩:=Wl (K:=K) ω
 unfold SJ
 dsimp only
 split
 ·rename_i hm
  by_cases hK:K=1
  ·subst hK;simp[R3] at hm
  ·obtain⟨h3,h4⟩:=h2 ω;have:2^R3 (K-1)=2*2^(R3 (K-1)-1):=by rw[<-Nat.pow_succ',show(R3 (K-1)-1).succ=R3 (K-1) by omega]
   dsimp only;omega
 ·dsimp only;omega
def z6N {v K:Nat}(h:v<K)(hK:1<K)(rest:List Bool):
  let s:=R3 (K-1)
  let m:=2^s-K
  1<=s/\s-1<=(RO v K).length/\
  ((QL ((RO v K).take (s-1))<m/\(RO v K).length=s-1/\QL ((RO v K).take (s-1))=v)\/
   (m<=QL ((RO v K).take (s-1))/\(RO v K).length=s/\2*QL ((RO v K).take (s-1))+QL ((RO v K).drop (s-1))=v+m)):=by
 obtain⟨h1,h2⟩:=Wl (K:=K) ω
 obtain⟨h3,h4⟩:=h2 hK
 have h5:2^R3 (K-1)=2*2^(R3 (K-1)-1):=by rw[<-Nat.pow_succ',show(R3 (K-1)-1).succ=R3 (K-1) by omega]
 dsimp only
 unfold RO SJ
 dsimp only
 refine⟨h3,?_⟩
 split
 ·rename_i hm
  dsimp only;rw[bitsN_length,List.take_of_length_le ξ,Rk,Nat.mod_eq_of_lt ω];exact⟨Nat.le_refl _,.inl ⟨hm,rfl,rfl⟩⟩
 ·rename_i hm
  dsimp only;rw[bitsN_length]
  have e:Qr (R3 (K-1)) (v+(2^R3 (K-1)-K))=Qr (R3 (K-1)-1) ((v+(2^R3 (K-1)-K)) / 2^1)++Qr 1 (v+(2^R3 (K-1)-K)):=by
   rw[<-Td,show R3 (K-1)-1+1=R3 (K-1) by omega]
  rw[e,List.take_left' ξ,List.drop_left' ξ,Rk,Rk,Nat.mod_eq_of_lt ω];exact⟨ω,.inr ⟨ω,rfl,ω⟩⟩
inductive Cd where
 |unary
 |gamma
 |zeta (k:Nat)
def Cd.zeros:Cd->Nat->Nat
 | .unary,v=>v
 | .gamma,v=>Nat.log2 (v+1)
 | .zeta k,v=>Nat.log2 (v+1) / k
def Cd.rest:Cd->Nat->List Bool
 | .unary,_=>[]
 | .gamma,v=>Qr (Nat.log2 (v+1)) (v+1-2^Nat.log2 (v+1))
 | .zeta k,v=>let h:=Nat.log2 (v+1) / k;RO (v+1-2^(h*k)) (2^(h*k)*2^k-2^(h*k))
def Cd.enc (c:Cd)(v:Nat):List Bool:=List.replicate (c.zeros v) false++true::c.rest v
def WU {v:Nat}(h:v<=281474976710654):2^Nat.log2 (v+1)<=v+1/\v+1<2^(Nat.log2 (v+1)+1)/\Nat.log2 (v+1)<=47:=by
 have h1:=Nat.log2_self_le (n:=v+1) ω
 have h2:=Nat.lt_log2_self (n:=v+1)
 refine⟨h1,h2,?_⟩
 have h3:2^Nat.log2 (v+1)<2^48:=by
  have:(2:Nat)^48=281474976710656:=by decide
  omega
 have:=(Nat.pow_lt_pow_iff_right (by decide:1<2)).1 h3
 omega
def Z1 {k v:Nat}(hk:1<=k):let h:=Nat.log2 (v+1) / k;2^(h*k)<=v+1/\v+1-2^(h*k)<2^(h*k)*2^k-2^(h*k)/\1<=2^(h*k)*2^k-2^(h*k):=by
 dsimp only
 have h1:=Nat.log2_self_le (n:=v+1) ω
 have h2:=Nat.lt_log2_self (n:=v+1)
 have h3:Nat.log2 (v+1) / k*k<=Nat.log2 (v+1):=Nat.div_mul_le_self _ _
 have h4:Nat.log2 (v+1)+1<=Nat.log2 (v+1) / k*k+k:=by
  have:=Nat.div_add_mod (Nat.log2 (v+1)) k;have:=Nat.mod_lt (Nat.log2 (v+1)) (show 0<k by omega);have e:=Nat.mul_comm k (Nat.log2 (v+1) / k);omega
 have h5:2^(Nat.log2 (v+1) / k*k)<=2^Nat.log2 (v+1):=Nat.pow_le_pow_right ψ h3
 have h6:2^(Nat.log2 (v+1)+1)<=2^(Nat.log2 (v+1) / k*k+k):=Nat.pow_le_pow_right ψ h4
 rw[Nat.pow_add 2 (Nat.log2 (v+1) / k*k) k] at h6
 have h7:2<=2^k:=by
  have:=Nat.pow_le_pow_right (show 0<2 by decide) hk
  simpa using this
 have h8:2^(Nat.log2 (v+1) / k*k)*2<=2^(Nat.log2 (v+1) / k*k)*2^k:=Nat.mul_le_mul_left _ h7
 have h9:=Nat.two_pow_pos (Nat.log2 (v+1) / k*k)
 omega
def Zf {x k:Nat}(h:2^k<=x):R3 x=R3 (x / 2^k)+k:=by
 have hk:=Nat.two_pow_pos k
 have hy:x / 2^k≠0:=by have:=Nat.div_pos h hk;omega
 have h1:=z1I hy
 have h2:=Yq (v:=x / 2^k)
 have h0:R3 (x / 2^k)≠0:=by unfold R3;rw[if_neg hy];omega
 obtain⟨n,hn⟩:∃n,R3 (x / 2^k)=n+1:=⟨R3 (x / 2^k)-1,ω⟩
 rw[hn] at h1 h2⊢
 rw[Nat.add_sub_cancel] at h1
 have h3:2^(n+k)<=x:=by
  rw[Nat.pow_add];exact Nat.le_trans (Nat.mul_le_mul_right _ h1) (Nat.div_mul_le_self _ _)
 have h4:x<2^(n+k+1):=by
  rw[show n+k+1=(n+1)+k by omega,Nat.pow_add];exact(Nat.div_lt_iff_lt_mul hk).1 h2
 rw[z98 h3 h4];omega
def zgp:PV:=[0,1,2,2,3,3,3,3,4,4,4,4,4,4,4,4,5,5,5,5,5,5,5,5,5,5,5,5,5,5,5,5,6,6,6,6,6,6,6,6,6,6,6,6,6,6,6,6,6,6,6,6,6,6,6,6,6,6,6,6,6,6,6,6,7,7,7,7,7,7,7,7,7,7,7,7,7,7,7,7,7,7,7,7,7,7,7,7,7,7,7,7,7,7,7,7,7,7,7,7,7,7,7,7,7,7,7,7,7,7,7,7,7,7,7,7,7,7,7,7,7,7,7,7,7,7,7,7,8,8,8,8,8,8,8,8,8,8,8,8,8,8,8,8,8,8,8,8,8,8,8,8,8,8,8,8,8,8,8,8,8,8,8,8,8,8,8,8,8,8,8,8,8,8,8,8,8,8,8,8,8,8,8,8,8,8,8,8,8,8,8,8,8,8,8,8,8,8,8,8,8,8,8,8,8,8,8,8,8,8,8,8,8,8,8,8,8,8,8,8,8,8,8,8,8,8,8,8,8,8,8,8,8,8,8,8,8,8,8,8,8,8,8,8,8,8,8,8,8,8,8,8,8,8,8,8]
theorem zcs:zgp.length=256:=by decide+kernel
def zlX:∀x:Fin 256,(zgp.getD x.val 0).toNat=R3 x.val:=by decide+kernel
section
variable {w:World}
def VG (x:Nat)(hx:x<18446744073709551616)(w:World):Qu prog 156 [Qg x] w λv w'=>v=I (R3 x:Int)/\w'=w:=by
 refine py (e:=[(0,_)]) func156 O ntmps156 O O$ RN O$ QS O$ UZ O$ PQ$ QH (λe' w'=>w=w'/\∃x1 n1:Nat,e'=[(0,Qg x1),(2,I (n1:Int))]/\R3 x=R3 x1+n1/\x1<4294967296/\n1<=32) ?bF$ λbF=>?dg
 case bF=>
  rintro e' w' ⟨rfl,x1,n1,rfl,h1,h2,h3⟩;refine QS O$ UZ O$ PQ$ QH (λe' w'=>w=w'/\∃x2 n2:Nat,e'=[(0,Qg x2),(2,I (n2:Int))]/\R3 x=R3 x2+n2/\x2<65536/\n2<=48) ?aW$ λaW=>?gl
  case aW=>
   rintro e' w' ⟨rfl,x2,n2,rfl,h4,h5,h6⟩;refine QS O$ UZ O$ PQ$ QH (λe' w'=>w=w'/\∃x3 n3:Nat,e'=[(0,Qg x3),(2,I (n3:Int))]/\R3 x=R3 x3+n3/\x3<256/\n3<=56) ?aq$ λaq=>?dU
   case aq=>
    rintro e' w' ⟨rfl,x3,n3,rfl,h7,h8,h9⟩;have eL:=zlX ⟨x3,h8⟩;dsimp only at eL;have qm:R3 x3<=8:=Si ω;refine RI O$ qV (z4m O SL U5) ?_;rw[Nat.mod_eq_of_lt h8];refine qV (z3j (l:=zgp) U9 O O (by rw[zcs];exact h8)) ?_;rw[eL];refine qV ((QU O U5 U3 ω))$ R7 O$ Qc O$ PO func156 O ?_;exact⟨_,rfl,by simp only[Rb];congr 1;omega,rfl⟩
   case dU=>
    refine Q8 O (λhc=>?_)$ λhc=>?_
    ·refine Qx O$ qV (Vm 8 256 O O ψ O)$ Qc O$ St O$ R7 O$ Qc O ((aq _ _ ⟨rfl,x2 / 256,n2+8,rfl,?_,?_,?_⟩).qb)
     ·have e1:=Zf (x:=x2) (k:=8) ω;rw[show x2 / 2^8=x2 / 256 from rfl] at e1;omega
     ·omega
     ·omega
    ·refine PR ?_;exact(aq _ _ ⟨rfl,x2,n2,rfl,h4,ω,ω⟩).qb
  case gl=>
   refine Q8 O (λhc=>?_)$ λhc=>?_
   ·refine Qx O$ qV (Vm 16 65536 O O ψ O)$ Qc O$ St O$ R7 O$ Qc O ((aW _ _ ⟨rfl,x1 / 65536,n1+16,rfl,?_,?_,?_⟩).qb)
    ·have e1:=Zf (x:=x1) (k:=16) ω;rw[show x1 / 2^16=x1 / 65536 from rfl] at e1;omega
    ·omega
    ·omega
   ·refine PR ?_;exact(aW _ _ ⟨rfl,x1,n1,rfl,h1,ω,ω⟩).qb
 case dg=>
  refine Q8 O (λhc=>?_)$ λhc=>?_
  ·refine Qx O$ qV (Vm 32 4294967296 O O ψ O)$ Qc O$ PW O$ Qc O ((bF _ _ ⟨rfl,x / 4294967296,32,rfl,?_,?_,?_⟩).qb)
   ·exact Zf (x:=x) (k:=32) ω
   ·omega
   ·omega
  ·refine PR ?_;exact(bF _ _ ⟨rfl,x,0,rfl,ω,ω,ω⟩).qb
/-! ### Codes -/
def Ts:Cd->List Value
 | .unary=>[.int .u8 0,Qg 0]
 | .gamma=>[.int .u8 1,Qg 0]
 | .zeta k=>[.int .u8 3,Qg k]
abbrev cdV (c:Cd):Value:= .agg (Ts c).toArray
def Cd.RE:Cd->Prop
 | .zeta k=>1<=k/\k<=16
 |_=>True
def Cd.most:Cd->Nat
 | .unary=>65535
 |_=>281474976710654
def Cd.p0:Cd->Nat->Nat×Nat
 | .unary,_=>(0,0)
 | .gamma,v=>(v+1-2^Nat.log2 (v+1),Nat.log2 (v+1))
 | .zeta k,v=>let h:=Nat.log2 (v+1) / k;SJ (v+1-2^(h*k)) (2^(h*k)*2^k-2^(h*k))
def VV (c:Cd)(hc:c.RE)(w:World):Qu prog 219 [cdV c] w λv w'=>v=I 0/\Ext w w':=by
 cases c with
 | unary =>
   refine py (e:=[(0,_)]) func219 O ntmps219 O O$ qN O$ PY O O (Se O (cs:=[.int .u8 0,Qg 0]) O) ?_;rintro _ w1 ⟨b1,rfl,bL,ad,ai⟩;refine S7 O$ Qc O$ An$ qN O$ Qd Tn O$ qV (PX U5 O O ai O)$ PQ$ PS$ An$ qN O$ Ss O$ SM$ Qc O$ Qa O ?_;refine PR$ Qa O$ PW O$ Qd Yv O$ qV (PX SL O O ai O)$ Ss O$ SM$ Qc O$ PM$ QS O$ qV ((T7 O))$ Re O$ RN O$ PO func219 O ?_
   exact⟨_,rfl,rfl,ad⟩
 | gamma =>
   refine py (e:=[(0,_)]) func219 O ntmps219 O O$ qN O$ PY O O (Se O (cs:=[.int .u8 1,Qg 0]) O) ?_;rintro _ w1 ⟨b1,rfl,bL,ad,ai⟩;refine S7 O$ Qc O$ An$ qN O$ Qd Tn O$ qV (PX U5 O O ai O)$ PQ$ PS$ An$ qN O$ Ss O$ QW$ Qc O$ PZ O ?_;refine qN O$ Ss O$ SM$ Qc O$ Qa O$ PR$ Qa O$ PW O$ Qd Yv O$ qV (PX SL O O ai O)$ Ss O$ SM$ Qc O$ PM ?_;refine QS O$ qV ((T7 O))$ Re O$ RN O$ PO func219 O ?_
   exact⟨_,rfl,rfl,ad⟩
 | zeta k =>
   obtain⟨ay,am⟩:1<=k/\k<=16:=hc;refine py (e:=[(0,_)]) func219 O ntmps219 O O$ qN O$ PY O O (Se O (cs:=[.int .u8 3,Qg k]) O) ?_;rintro _ w1 ⟨b1,rfl,bL,ad,ai⟩;refine S7 O$ Qc O$ An$ qN O$ Qd Tn O$ qV (PX U5 O O ai O)$ PQ$ PS$ An$ qN O$ Ss O$ QW$ Qc O$ PZ O ?_;refine qN O$ Ss O$ QW$ Qc O$ PZ O$ PW O$ Ss O$ QW$ Qc O$ PZ O$ qN O$ Ss O$ SM$ Qc O ?_;refine Qa O$ PW O$ Qd Yv O$ qV (PX SL O O ai O)$ UZ O$ SM$ Q4 O$ Qd Yv O$ qV (PX SL O O ai O)$ zle O$ SM$ Sa O$ Qc O$ PM ?_;refine QS O$ qV ((T7 O))$ Re O$ RN O$ PO func219 O ?_;exact⟨_,rfl,rfl,ad⟩
def z3N (c:Cd)(hc:c.RE)(w:World):Qu prog 220 [cdV c] w λv w'=>v=Qg c.most/\Ext w w':=by
 cases c with
 | unary =>
   refine py (e:=[(0,_)]) func220 O ntmps220 O O$ qN O$ PY O O (Se O (cs:=[.int .u8 0,Qg 0]) O) ?_;rintro _ w1 ⟨b1,rfl,bL,ad,ai⟩;refine Qc O$ RP$ qN O$ qV (QB (news:=[.int .u8 0,Qg 0]) Tz O RX O (ai.cells (n:=2) O) O)$ Qk z6J O (VV (.unary) hc w1) ?_;rintro _ w2 ⟨rfl,ae⟩;have ak:=ae.PN ai;refine RA O$ QW$ Qc O$ PZ O$ qN O$ Qd Tn O$ qV (PX U5 O O ak O)$ Ss O$ SM$ Qc O$ Qa O$ RN O$ PO func220 O ?_
   exact⟨_,rfl,rfl,ad.trans ae⟩
 | gamma =>
   refine py (e:=[(0,_)]) func220 O ntmps220 O O$ qN O$ PY O O (Se O (cs:=[.int .u8 1,Qg 0]) O) ?_;rintro _ w1 ⟨b1,rfl,bL,ad,ai⟩;refine Qc O$ RP$ qN O$ qV (QB (news:=[.int .u8 1,Qg 0]) Tz O RX O (ai.cells (n:=2) O) O)$ Qk z6J O (VV (.gamma) hc w1) ?_;rintro _ w2 ⟨rfl,ae⟩;have ak:=ae.PN ai;refine RA O$ QW$ Qc O$ PZ O$ qN O$ Qd Tn O$ qV (PX U5 O O ak O)$ Ss O$ QW$ Qc O$ PZ O$ qN O$ Qd Tn O$ qV (PX U5 O O ak O) ?_;refine Ss O$ QW$ Qc O$ TT O$ PM$ RN O$ PO func220 O ?_
   exact⟨_,rfl,rfl,ad.trans ae⟩
 | zeta k =>
   refine py (e:=[(0,_)]) func220 O ntmps220 O O$ qN O$ PY O O (Se O (cs:=[.int .u8 3,Qg k]) O) ?_;rintro _ w1 ⟨b1,rfl,bL,ad,ai⟩;refine Qc O$ RP$ qN O$ qV (QB (news:=[.int .u8 3,Qg k]) Tz O RX O (ai.cells (n:=2) O) O)$ Qk z6J O (VV (.zeta k) hc w1) ?_;rintro _ w2 ⟨rfl,ae⟩;have ak:=ae.PN ai;refine RA O$ QW$ Qc O$ PZ O$ qN O$ Qd Tn O$ qV (PX U5 O O ak O)$ Ss O$ QW$ Qc O$ PZ O$ qN O$ Qd Tn O$ qV (PX U5 O O ak O) ?_;refine Ss O$ QW$ Qc O$ TT O$ PM$ RN O$ PO func220 O ?_;exact⟨_,rfl,rfl,ad.trans ae⟩
def zbW (c:Cd)(v:Nat)(hc:c.RE)(hv:v<=c.most)(w:World):Qu prog 209 [cdV c,Qg v] w λu w'=>u= .bool true/\Ext w w':=by
 obtain⟨x,y,dO⟩:∃x y,Ts c=[x,y]:=by cases c<;>exact⟨_,_,rfl⟩
 refine py (e:=[(0,_),(1,_)]) func209 O ntmps209 O O$ qN O$ PY O O (Se O (cs:=Ts c) O) ?_
 rintro _ w1 ⟨b1,rfl,bL,ad,ai⟩
 refine S7 O$ qV (QB (news:=Ts c) Tz O RX O (ai.cells (n:=2) (by rw[dO];rfl)) (by rw[dO];rfl)) ?_
 refine Qk z6J O (VV c hc w1) ?_
 rintro _ w2 ⟨rfl,ae⟩
 have ak:=ae.PN ai
 refine Ss O$ SM$ Qp O$ qV (QB (news:=Ts c) Tz O RX O (ak.cells (n:=2) (by rw[dO];rfl)) (by rw[dO];rfl)) ?_
 refine Qk zfS O (z3N c hc w2) ?_
 rintro _ w3 ⟨rfl,ah⟩
 refine zle O$ SM$ Sa O$ Qc O$ PO func209 O ?_
 exact⟨_,rfl,rfl,(ad.trans ae).trans ah⟩
end
section
def z6Q (v K:Nat)(hK:1<=K)(hv:v<K)(KJ:K<=9223372036854775808)(w:World):Qu prog 221 [Qg v,Qg K] w λu w'=>u= .agg #[Qg (SJ v K).1,I ((SJ v K).2:Int)]/\Ext w w':=by
 obtain⟨s,hs⟩:∃s,R3 (K-1)=s:=⟨_,rfl⟩
 have hf:=Wl hK
 rw[hs] at hf
 obtain⟨h1,h2⟩:=hf
 have e63:(2:Nat)^63=9223372036854775808:=by decide
 have CT:s<=63:=by rw[<-hs];exact Si ω
 obtain⟨Q,hQ⟩:∃Q,2^s=Q:=⟨_,rfl⟩
 have CU:Q<=9223372036854775808:=by
  have:=Nat.pow_le_pow_right (show 0<2 by decide) CT;omega
 rw[hQ] at h1
 have hP:SJ v K=if v<Q-K then(v,s-1) else(v+(Q-K),s):=by unfold SJ;rw[hs];dsimp only;rw[hQ]
 refine py (e:=[(0,_),(1,_)]) func221 O ntmps221 O O$ qN O$ PY O O (SE (cs:=[_,_]) U6 O) ?_
 rintro _ w1 ⟨b4,rfl,eM,ad,aM⟩
 refine qM O$ Q4 O$ qV (XK (n:=1) O O O (by show K<2^64;omega) hK) ?_
 refine Qk z44 O (VG (K-1) ω w1) ?_
 rintro _ w1 ⟨rfl,rfl⟩
 rw[hs]
 refine Qc O$ QS O$ qV (Sr s Q O O ω hQ) ?_
 rw[show 1*Q%18446744073709551616=Q by omega]
 refine Q4 O$ qV (XK O O O (by show Q<2^64;omega) h1) ?_
 refine S7 O$ Qp O$ UZ O$ PQ$ Q8 O (λmG=>?_)$ λmG=>?_
 ·rw[if_neg ω] at hP;rw[hP];refine RI O$ qV (Wt O O) ?_;rw[Nat.mod_eq_of_lt (show v+(Q-K)<18446744073709551616 by omega)];refine Q4 O$ qV (Tq (cs:=[_,_]) U6 O zcU O O)$ Qb O (QT (news:=[Qg (v+(Q-K)),I (s:Int)]) U6 O O O O aM ξ) ?_;rintro w2 ⟨ak,am⟩;replace ak:Q7 w2 b4 [Qg (v+(Q-K)),I (s:Int)] 329:=ak;refine PQ$ Qt func221 (.cell zcu O U6 O (Q7.cells (n:=2) ak (news:=[_,_]) O) O .nil) ?_;exact⟨_,rfl,rfl,ad.It am (λi hi=>by omega)⟩
 ·rw[if_pos ω] at hP;rw[hP]
  have IH:K≠1:=λe=>by
   have e0:s=0:=by rw[<-hs,e];rfl
   have e1:Q=1:=by rw[<-hQ,e0]
   omega
  have eA:1<=s:=(h2 ω).1;refine PR$ RI O$ SA O ?_;rw[show((s:Int)-1)=((s-1:Nat):Int) by omega];refine qV (Tq (cs:=[_,_]) U6 O zcU O O)$ Qb O (QT (news:=[Qg v,I ((s-1:Nat):Int)]) U6 O O O O aM ξ) ?_;rintro w2 ⟨ak,am⟩;replace ak:Q7 w2 b4 [Qg v,I ((s-1:Nat):Int)] 329:=ak;refine PQ$ Qt func221 (.cell zcu O U6 O (Q7.cells (n:=2) ak (news:=[_,_]) O) O .nil) ?_;exact⟨_,rfl,rfl,ad.It am (λi hi=>by omega)⟩
def zam (n:Nat)(h:n≠0):R3 n-1=Nat.log2 n/\1<=R3 n:=by
 unfold R3;rw[if_neg h];exact⟨rfl,ω⟩
def z2d (c:Cd)(v:Nat)(hc:c.RE)(hv:v<=281474976710654)(w:World):Qu prog 210 [cdV c,Qg v] w λu w'=>u= .tuple #[I (c.zeros v:Int),.agg #[Qg (c.p0 v).1,I ((c.p0 v).2:Int),Qg 0,I 0]]/\Ext w w':=by
 obtain⟨l1,l2⟩:=zam (v+1) ω
 obtain⟨g1,g2,g3⟩:=WU hv
 obtain⟨b,hb⟩:∃b,Nat.log2 (v+1)=b:=⟨_,rfl⟩
 rw[hb] at l1 g1 g2 g3
 obtain⟨Q,hQ⟩:∃Q,2^b=Q:=⟨_,rfl⟩
 rw[hQ] at g1
 have CV:Q<=281474976710656:=by omega
 obtain⟨x,y,dO⟩:∃x y,Ts c=[x,y]:=by cases c<;>exact⟨_,_,rfl⟩
 refine py (e:=[(0,_),(1,_)]) func210 O ntmps210 O O$ qN O$ PY O O (Se O (cs:=Ts c) O) ?_
 rintro _ w1 ⟨b2,rfl,bO,ad,ak⟩
 refine TN O$ PY O O (SE (cs:=[_,_,_,_]) W4 O) ?_
 rintro _ w2 ⟨b5,rfl,gm,ae,aJ⟩
 replace aJ:Q7 w2 b5 [Qg 0,I 0,Qg 0,I 0] 330:=aJ
 refine qM O$ Q4 O$ qV (Wt O O) ?_
 rw[show(v+1)%18446744073709551616=v+1 by omega]
 refine RZ O$ Qk z44 O (VG (v+1) ω w2) ?_
 rintro _ w2 ⟨rfl,rfl⟩
 refine SA O ?_
 rw[show((R3 (v+1):Int)-1)=((b:Nat):Int) by omega]
 refine S7 O$ Qp O$ qV (Sr b Q O O ω hQ) ?_
 rw[show 1*Q%18446744073709551616=Q by omega]
 refine qV (XK O O O (by show v+1<2^64;omega) g1) ?_
 refine Q4 O$ qV (Tq (cs:=[_,_]) U6 O zcU O O)$ PY O O (SE (cs:=[_,_]) U6 O) ?_
 rintro _ w3 ⟨b8,rfl,jf,ah,co⟩
 refine Qb O (QT (news:=[Qg (v+1-Q),I (b:Int)]) U6 O O O O co ξ) ?_
 rintro w4 ⟨tX,ar⟩
 replace tX:Q7 w4 b8 [Qg (v+1-Q),I (b:Int)] 329:=tX
 have z1:=ad.size
 have z2:=ae.size
 have z3:=ah.size
 have l2':=ak.lt
 have l5':=aJ.lt
 have eN:=ar.PN (ah.PN (ae.PN ak)) ω
 have eO:=ar.PN (ah.PN aJ) ω
 have ce:Ext w w4:=((ad.trans ae).trans ah).It ar (λi hi=>by omega)
 cases c with
 | unary =>
   replace eN:Q7 w4 b2 [.int .u8 0,Qg 0] 294:=eN;have hg:=Ext.Qh w4;refine PQ$ An$ qN O$ Qd Tn O$ qV (PX U5 O O eN O)$ PQ$ PS$ qN O$ Ss O$ SM$ Qc O$ Qa O$ An$ Qn [4] (λw'=>Ext w4 w') (by kernel_rfl) O ?_;refine R1 0 O O (hg)$ Qs 1 O (QU O SL U3 ω) hg$ Qs 3 O (Sv O) hg$ qL 2 O (λ_ h=>QB (news:=[Qg 0,I 0,Qg 0,I 0]) z2o O W4 O ((h.PN eO).cells (n:=4) O) O) hg$ Ut [4]$ qO 4$ QO (i:=4) O O (QT (news:=[Qg 0,I 0,Qg 0,I 0]) W4 O O O O (hg.PN eO) ξ) ?_;rintro w5 ⟨aY,aj⟩;refine⟨trivial,?_⟩;replace aY:Q7 w5 b5 [Qg 0,I 0,Qg 0,I 0] 330:=aY;refine qE$ Qy.qb (e:=[(1,_),(2,_),(4,_),(5,_)]) ?_;refine Qt func210 (.tmp O (.cell z2o O W4 O (Q7.cells (n:=4) aY (news:=[_,_,_,_]) O) O .nil)) ?_
   exact⟨_,rfl,rfl,(ce.trans hg).It aj (λi hi=>by omega)⟩
 | gamma =>
   replace eN:Q7 w4 b2 [.int .u8 1,Qg 0] 294:=eN;have hg:=Ext.Qh w4;refine PQ$ An$ qN O$ Qd Tn O$ qV (PX U5 O O eN O)$ PQ$ PS$ qN O$ Ss O$ QW$ Qc O$ PZ O$ qN O$ Ss O ?_;refine SM$ Qc O$ Qy.qb (e:=[(1,_),(2,_),(4,_),(5,_),(6,_),(7,_),(8,_),(24,_),(30,_)]) ?_;refine Qa O$ An$ Qn [4] (λw'=>Ext w4 w') (by kernel_rfl) O$ R1 0 O O (hg)$ Qs 3 O (Sv O) hg$ qL 1 O (λ_ h=>QB (news:=[Qg (v+1-Q),I (b:Int)]) zcu O U6 O ((h.PN tX).cells (n:=2) O) O) hg$ Qs 2 O (zbt (parts:=[(0,.tmp 33)]) (cs:=[_,_,_,_]) W4 O z2o U6 O O) hg$ Ut [4]$ qO 4$ QO (i:=4) O O (QT (news:=[Qg (v+1-Q),I (b:Int),Qg 0,I 0]) W4 O O O O (hg.PN eO) ξ) ?_;rintro w5 ⟨aY,aj⟩;refine⟨trivial,?_⟩;replace aY:Q7 w5 b5 [Qg (v+1-Q),I (b:Int),Qg 0,I 0] 330:=aY;refine qE$ Qt func210 (.tmp O (.cell z2o O W4 O (Q7.cells (n:=4) aY (news:=[_,_,_,_]) O) O .nil)) ?_
   exact⟨_,rfl,by simp[Rb,Cd.zeros,Cd.p0,hb,hQ],(ce.trans hg).It aj (λi hi=>by omega)⟩
 | zeta k =>
   obtain⟨ay,am⟩:1<=k/\k<=16:=hc;have f:=Z1 (k:=k) (v:=v) ay;dsimp only at f;rw[hb] at f;obtain⟨h,hh⟩:∃h,b / k=h:=⟨_,rfl⟩;obtain⟨m,hm⟩:∃m,h*k=m:=⟨_,rfl⟩;have KK:m<=b:=by rw[<-hm,<-hh];exact Nat.div_mul_le_self _ _
   rw[hh,hm] at f;obtain⟨F,hF⟩:∃F,2^m=F:=⟨_,rfl⟩;obtain⟨G,hG⟩:∃G,2^k=G:=⟨_,rfl⟩;rw[hF,hG] at f;obtain⟨f1,f2,f3⟩:=f;obtain⟨E,hE⟩:∃E,F*G=E:=⟨_,rfl⟩
   have CW:E<=9223372036854775808:=by
    rw[<-hE,<-hF,<-hG,<-Nat.pow_add];have:=Nat.pow_le_pow_right (show 0<2 by decide) (show m+k<=63 by omega);have e63:(2:Nat)^63=9223372036854775808:=by decide
    omega
   rw[hE] at f2 f3;have CX:(Cd.zeta k).zeros v=h:=by show Nat.log2 (v+1) / k=h;rw[hb,hh]
   have CY:(Cd.zeta k).p0 v=SJ (v+1-F) (E-F):=by
    show SJ (v+1-2^(Nat.log2 (v+1) / k*k)) (2^(Nat.log2 (v+1) / k*k)*2^k-2^(Nat.log2 (v+1) / k*k))=_;rw[hb,hh,hm,hF,hG,hE]
   rw[CX,CY];have su:(h:Int)*(k:Int)=(m:Int):=by rw[<-hm];simp
   have fH:(b:Int) / (k:Int)=(h:Int):=by rw[<-hh];simp
   replace eN:Q7 w4 b2 [.int .u8 3,Qg k] 294:=eN;refine PQ$ An$ qN O$ Qd Tn O$ qV (PX U5 O O eN O)$ PQ$ PS$ qN O$ Ss O$ QW$ Qc O$ PZ O$ qN O$ Ss O ?_;refine QW$ Qc O$ Qy.qb (e:=[(1,_),(2,_),(4,_),(5,_),(6,_),(7,_),(8,_),(24,_),(30,_)]) ?_;refine PZ O$ qN O$ Ss O$ QW$ Qc O$ PZ O$ qN O$ Ss O$ SM$ Qc O$ Qa O$ qN O$ Qd Yv O$ qV (PX SL O O eN O) ?_;refine qV (QU O SL U3 ω)$ S7 O$ Qp O$ qV (Yh O O ω) ?_;rw[fH];refine S7 O$ Qp O$ qV (Xq O O (by rw[su];omega)) ?_;rw[su];refine qV (Sr m F O O ω hF) ?_;rw[show 1*F%18446744073709551616=F by omega];refine Qc O$ Qy.qb (e:=[(1,_),(2,_),(4,_),(5,_),(6,_),(9,_),(10,_),(11,_)]) ?_;refine RI O$ Q4 O$ qV (XK O O O (by show v+1<2^64;omega) f1) ?_;refine Qp O$ qV (Sr k G O O ω hG) ?_;rw[hE,Nat.mod_eq_of_lt (show E<18446744073709551616 by omega)];refine Q4 O$ qV (XK O O O (by show E<2^64;omega) ω) ?_;refine Qk zk0 O (z6Q (v+1-F) (E-F) f3 f2 ω w4) ?_;rintro _ w5 ⟨rfl,aU⟩;refine qV (zbt (parts:=[(0,.tmp 69)]) (cs:=[_,_,_,_]) W4 O z2o U6 O O)$ TN O ?_;have xX:=aU.PN eO;refine Qb O (QT (news:=[Qg (SJ (v+1-F) (E-F)).1,I ((SJ (v+1-F) (E-F)).2:Int),Qg 0,I 0]) W4 O O O O xX ξ) ?_;rintro w6 ⟨aY,aL⟩;replace aY:Q7 w6 b5 [Qg (SJ (v+1-F) (E-F)).1,I ((SJ (v+1-F) (E-F)).2:Int),Qg 0,I 0] 330:=aY;refine PQ$ Qt func210 (.tmp O (.cell z2o O W4 O (Q7.cells (n:=4) aY (news:=[_,_,_,_]) O) O .nil)) ?_;exact⟨_,rfl,rfl,(ce.trans aU).It aL (λi hi=>by omega)⟩
end
def hiB (w:Nat):Nat->Nat->List Nat->List Bool
 |_,_,[]=>[]
 |len,i,v::r=>List.replicate (v / 2^w+i-len) false++true::hiB w (v / 2^w+i+1) (i+1) r
abbrev Nof (l:List Nat):Prop:=l.Pairwise (·<=·)
def SI:List Bool->Nat->Option Nat
 |[],_=>none
 |true::l,0=>some 0
 |true::l,k+1=>(SI l k).map (·+1)
 |false::l,k=>(SI l k).map (·+1)
theorem VX:∀(z:Nat) (l:List Bool) (k:Nat),SI (List.replicate z false++l) k=(SI l k).map (·+z)
 |0,l,k=>by simp
 | z + 1, l, k => by
   rw[List.replicate_succ,List.cons_append,SI,VX z l k,Option.map_map]
   congr 1
theorem z2G (w:Nat):∀(l:List Nat) (len i k:Nat) (v:Nat),Nof l->l[k]? =some v->(∀x,l.head? =some x->len<=x / 2^w+i)->SI (hiB w len i l) k=some (v / 2^w+i+k-len)
 |[],len,i,k,v,_,h,_=>by simp at h
 | x :: r, len, i, 0, v, _, h, hl => by
   simp at h;subst h;have:=hl x O;rw[hiB,VX,SI]
   simp
 | x :: r, len, i, k + 1, v, hn, h, hl => by
   rw[List.getElem?_cons_succ] at h;obtain⟨n1,n2⟩:=List.pairwise_cons.1 hn;have hx:=hl x O;have hxv:x<=v:=n1 v (List.mem_of_getElem? h);have hd:=Nat.div_le_div_right (c:=2^w) hxv
   rw[hiB,VX,SI,z2G w r _ (i+1) k v n2 h (λy hy=>by
    have hxy:x<=y:=n1 y (by cases r with
     |nil=>simp at hy
     |cons a r=>simp at hy;simp[hy])
    have:=Nat.div_le_div_right (c:=2^w) hxy
    omega)]
   simp;omega
theorem z0M:∀(l:List Bool) (j p m:Nat),SI l j=some p->SI (l.drop p) m=(SI l (j+m)).map (·-p)
 |[],j,p,m,h=>by simp[SI] at h
 | true :: l, 0, p, m, h => by
   simp[SI] at h;subst h
   simp
 | true :: l, j + 1, p, m, h => by
   simp only[SI,Option.map_eq_some_iff] at h;obtain⟨q,hq,rfl⟩:=h;rw[List.drop_succ_cons,z0M l j q m hq,show j+1+m=(j+m)+1 by omega,SI,Option.map_map]
   congr 1
   funext x;simp
 | false :: l, j, p, m, h => by
   simp only[SI,Option.map_eq_some_iff] at h;obtain⟨q,hq,rfl⟩:=h;rw[List.drop_succ_cons,z0M l j q m hq,SI,Option.map_map]
   congr 1
   funext x;simp
theorem XO:∀(a b:List Bool) (k:Nat),SI (a++b) k=if k<a.count true then SI a k else(SI b (k-a.count true)).map (·+a.length)
 |[],b,k=>by simp
 |true::a,b,0=>by simp[SI]
 | true :: a, b, k + 1 => by
   rw[List.cons_append,SI,XO a b k,List.count_cons_self];split
   ·rename_i h
    rw[if_pos ω,SI]
   ·rename_i h
    rw[if_neg ω,Option.map_map,show k+1-(a.count true+1)=k-a.count true by omega]
    congr 1
 | false :: a, b, k => by
   rw[List.cons_append,SI,XO a b k,List.count_cons_of_ne ψ];split
   ·rw[SI]
   ·rw[Option.map_map]
    congr 1
def z1Q:∀{l:List Bool} {k p:Nat},SI l k=some p->p<l.length/\l[p]? =some true
 |true::l,0,p,h=>by simp[SI] at h;subst h;simp
 | true :: l, k + 1, p, h => by
   simp only[SI,Option.map_eq_some_iff] at h;obtain⟨q,hq,rfl⟩:=h;have:=z1Q hq
   simp;exact this
 | false :: l, k, p, h => by
   simp only[SI,Option.map_eq_some_iff] at h;obtain⟨q,hq,rfl⟩:=h;have:=z1Q hq
   simp;exact this
 |[],k,p,h=>by simp[SI] at h
def z9H (w:Nat):∀(l:List Nat) (len i:Nat),Nof l->(∀x,l.head? =some x->len<=x / 2^w+i)->∀v,l.getLast? =some v->len+(hiB w len i l).length=v / 2^w+i+l.length
 |[],len,i,_,_,v,h=>by simp at h
 | [x], len, i, _, hl, v, h => by
   simp at h;subst h;have:=hl x O
   simp[hiB];omega
 | x :: y :: r, len, i, hn, hl, v, h => by
   obtain⟨n1,n2⟩:=List.pairwise_cons.1 hn;have hx:=hl x O;have hxy:=Nat.div_le_div_right (c:=2^w) (n1 y ξ);have:=z9H w (y::r) (x / 2^w+i+1) (i+1) n2 (λz hz=>by simp at hz;subst hz;omega) v (by simpa using h);rw[hiB,List.length_append,List.length_replicate,List.length_cons];simp only[List.length_cons] at this⊢;omega
theorem Zd (z:Nat)(r:List Bool):QL (List.replicate z false++true::r)=2^r.length+QL r:=by
 induction z with
 |zero=>simp[QL]
 |succ z ih=>rw[List.replicate_succ,List.cons_append,QL,ih];simp
theorem z4b (c:Cd)(v:Nat):c.rest v=Qr (c.p0 v).2 (c.p0 v).1:=by cases c<;>rfl
theorem YA (c:Cd)(v:Nat):(c.enc v).length=c.zeros v+1+(c.p0 v).2:=by
 unfold Cd.enc
 rw[List.length_append,List.length_replicate,List.length_cons,z4b,bitsN_length];omega
def Cd.z1J (c:Cd):c.most<=281474976710654:=by cases c<;>simp[Cd.most]
theorem WS:∀n:Nat,Qr n 0=List.replicate n false
 |0=>rfl
 |n+1=>by rw[Qr,WS n,List.replicate_succ];simp
theorem zal (z:Nat):Qr (z+1) 1=List.replicate z false++[true]:=by
 refine Zy ξ ?_
 rw[Rk,Zd]
 simp[QL]
def Ya {c:Cd}{v:Nat}(hc:c.RE)(hv:v<=c.most):c.zeros v<=65535/\(c.p0 v).2<=63/\(c.p0 v).1<2^(c.p0 v).2:=by
 cases c with
 |unary=>exact⟨hv,by simp[Cd.p0],by simp[Cd.p0]⟩
 | gamma =>
   obtain⟨g1,g2,g3⟩:=WU hv;refine⟨by show Nat.log2 (v+1)<=_;omega,by show Nat.log2 (v+1)<=_;omega,?_⟩;show v+1-2^Nat.log2 (v+1)<2^Nat.log2 (v+1);rw[Nat.pow_succ] at g2
   omega
 | zeta k =>
   obtain⟨ay,am⟩:1<=k/\k<=16:=hc;obtain⟨g1,g2,g3⟩:=WU hv;have f:=Z1 (k:=k) (v:=v) ay;dsimp only at f;have hd:Nat.log2 (v+1) / k<=Nat.log2 (v+1):=Nat.div_le_self _ _;have hm:Nat.log2 (v+1) / k*k<=Nat.log2 (v+1):=Nat.div_mul_le_self _ _;refine⟨by show Nat.log2 (v+1) / k<=_;omega,?_,?_⟩
   ·show(SJ _ _).2<=63
    have h1:R3 (2^(Nat.log2 (v+1) / k*k)*2^k-2^(Nat.log2 (v+1) / k*k)-1)<=63:=by
     refine Si ?_;have h2:=Nat.pow_le_pow_right (show 0<2 by decide) (show Nat.log2 (v+1) / k*k+k<=63 by omega);rw[Nat.pow_add] at h2;have h3:=f.2.2
     revert h2 h3
     generalize 2^(Nat.log2 (v+1) / k*k)*2^k=E
     generalize 2^(Nat.log2 (v+1) / k*k)=F
     intro h2 h3;omega
    unfold SJ;dsimp only;split<;>dsimp only<;>omega
   ·exact zaq f.2.1
section
variable {P:Program}{e:Env}{d:Option Nat}{ty t el:TypeId}{pos:String}{aft:Array Edge}{g:Option (Nat×Bool)}{x y:Operand}{w:World}{k:IntKind}{n:Nat}{td:TypeDesc}
def zet {za:Int}[tP:Us za n]{len size bytes:Nat}{z:Value}{vs:Array Value}(ht:P.underlying t=some (.array len el))(hs:TI P el z size bytes)(hu:P.underlying el=some td)(ha:aggOf td=true)(hx:look e x=some (.agg vs))(hy:look e y=some (.int k za))(hn:n<len):
  Y P e ⟨d,.index t x y,ty,pos,aft,g⟩ (.agg (vs.extract (n*size) (n*size+size))) w w:=fun ρ hρ=>by
 obtain⟨rfl⟩:=tP
 have hs:=hs.size (w:=w)
 simp[execOp,hρ _ _ hx,hρ _ _ hy,Instr.index,asIntOf,run_underlying ht,hn,hs,part,Uq hu,ha]
end
section
def z5T (c:Cd)(v:Nat)(hc:c.RE)(hv:v<=c.most)(w:World):Qu prog 184 [cdV c,Qg v] w λu w'=>u= .tuple #[I ((c.enc v).length:Int),I 0]/\Ext w w':=by
 obtain⟨x,y,dO⟩:∃x y,Ts c=[x,y]:=by cases c<;>exact⟨_,_,rfl⟩
 obtain⟨q1,q2,-⟩:=Ya hc hv
 have hl:=YA c v
 have fF:=c.z1J
 refine py (e:=[(0,_),(1,_)]) func184 O ntmps184 O O$ qN O$ PY O O (Se O (cs:=Ts c) O) ?_
 rintro _ w1 ⟨b2,rfl,bO,ad,ak⟩
 refine Rt O$ An$ qN O$ qV (QB (news:=Ts c) Tz O RX O (ak.cells (n:=2) (by rw[dO];rfl)) (by rw[dO];rfl)) ?_
 refine Q4 O$ Qk zjs O (zbW c v hc hv w1) ?_
 rintro _ w2 ⟨rfl,ae⟩
 refine qV ((T7 O))$ Re O$ qN O$ qV (QB (news:=Ts c) Tz O RX O ((ae.PN ak).cells (n:=2) (by rw[dO];rfl)) (by rw[dO];rfl)) ?_
 refine Q4 O$ Qk zfL O (z2d c v hc ω w2) ?_
 rintro _ w3 ⟨rfl,ah⟩
 refine Q4 O$ TK O$ PY O O (SE (cs:=[_,_,_,_]) W4 O) ?_
 rintro _ w4 ⟨b7,rfl,mH,aC,bU⟩
 refine TN O$ Qb O (QT (news:=[Qg (c.p0 v).1,I ((c.p0 v).2:Int),Qg 0,I 0]) W4 O O O O bU ξ) ?_
 rintro w5 ⟨js,aj⟩
 replace js:Q7 w5 b7 [Qg (c.p0 v).1,I ((c.p0 v).2:Int),Qg 0,I 0] 330:=js
 refine qM O$ Q4 O$ R7 O$ qV (yia z2o U6 O O ω)$ Qd z1G O$ qV (PX U3 O O js O)$ R7 O$ qV (yia z2o U6 O O ω)$ Qd z1G O$ qV (PX U3 O O js O)$ R7 O$ Rt O$ Qy.qb (e:=[(4,_),(5,_)]) ?_
 refine PO func184 O ?_
 have z1:=ad.size
 have z2:=ae.size
 have z3:=ah.size
 refine⟨_,rfl,?_,(((ad.trans ae).trans ah).trans aC).It aj (λi hi=>by omega)⟩
 simp only[Rb]
 congr 4
 omega
def zde {w:World}{p:Nat}{bs:List Bool}{F:Nat->Prop}(h:Zs w p bs F)(c:Cd)(v:Nat)(hc:c.RE)(hv:v<=c.most)(hl:bs.length+(c.enc v).length<=134217728):
  Qu prog 185 [ptr p 0,cdV c,Qg v] w λu w'=>u=I 0/\WrR p F w w' (bs++c.enc v):=by
 obtain⟨x,y,dO⟩:∃x y,Ts c=[x,y]:=by cases c<;>exact⟨_,_,rfl⟩
 obtain⟨q1,q2,q3⟩:=Ya hc hv
 have pG:=YA c v
 have fF:=c.z1J
 refine py (e:=[(0,_),(1,_),(2,_)]) func185 O ntmps185 O O$ qN O$ PY O O (Se O (cs:=Ts c) O) ?_
 rintro _ w1 ⟨b4,rfl,eM,ad,aM⟩
 refine Qc O$ QS O$ qV (R9 z4M O O)$ Re O$ qN O$ qV (QB (news:=Ts c) Tz O RX O (aM.cells (n:=2) (by rw[dO];rfl)) (by rw[dO];rfl)) ?_
 refine Q4 O$ Qk zeU O (z5T c v hc hv w1) ?_
 rintro _ w2 ⟨rfl,ae⟩
 refine Q4 O$ TK O$ Rt O$ RP$ Qx O$ RA O$ Qc O$ Q8 O (λe0=>?_)$ λe0=>?_
 ·exact absurd O e0
 ·refine RI O$ Qk z3B O (WC ((h.ext ad).ext ae)) ?_; rintro _ w2 ⟨rfl, rfl⟩; refine SA O (RK O (Qc O (Q8 O (λe1 => ?_) (λe1 => ?_))))
  ·omega
  ·refine PR$ PM$ qN O$ qV (QB (news := Ts c) Tz O RX O ((ae.PN aM).cells (n := 2) (by rw [dO]; rfl)) (by rw [dO]; rfl)) ?_; refine Q4 O (Qk zfL O (z2d c v hc ω w2) ?_); rintro _ w3 ⟨rfl, ah⟩; refine Q4 O (TK O (PY O O (SE (cs := [_, _, _, _]) W4 O) ?_)); rintro _ w4 ⟨b10, rfl, CZ, aC, fM⟩; refine TN O (Qb O (QT (news := [Qg (c.p0 v).1, I ((c.p0 v).2 : Int), Qg 0, I 0]) W4 O O O O fM ξ) ?_); rintro w5 ⟨lX, aj⟩; replace lX : Q7 w5 b10 [Qg (c.p0 v).1, I ((c.p0 v).2 : Int), Qg 0, I 0] 330 := lX; have z1 := ad.size; have z2 := ae.size; have z3 := ah.size; have bV : Ext w w5 := (((ad.trans ae).trans ah).trans aC).It aj (λi hi => by omega); have z5 := bV.size; have l10 := lX.lt; have kH : ∀ i, F i -> i < w.heap.size := λi hi => h.lt hi
   have II:∀(F':Nat->Prop),(∀k,F' k->F k\/w5.heap.size<=k)->¬F' b10:=λF' hf e=>by
    rcases hf b10 e with e| e
    ·have:=kH b10 e;omega
    ·omega
   refine PQ$ Qy.qb (e:=[(0,_),(6,_),(9,_),(10,_)]) ?_;refine RP$ SK (α:=Nat×(Nat->Prop)×List Bool) ((c.zeros v,F,bs)) (λx=>[(0,ptr p 0),(9,I (x.1:Int)),(10,ptr b10 0)]) (λx w'=>x.1<=c.zeros v/\Zs w' p x.2.2 x.2.1/\x.2.2=bs++List.replicate (c.zeros v-x.1) false/\Kp F w w'/\(∀k,x.2.1 k->F k\/w5.heap.size<=k)/\Q7 w' b10 [Qg (c.p0 v).1,I ((c.p0 v).2:Int),Qg 0,I 0] 330/\w5.heap.size<=w'.heap.size) (λx=>x.1) ?hI ?hround
   case hI=>exact⟨Nat.le_refl _,h.ext bV,ξ,bV.kp,λ_ h=> .inl h,lX,Nat.le_refl _⟩
   case hround =>
    rintro⟨z,F1,b1⟩ w6 ⟨hz,mI,bL,aL,nW,aY,z6⟩ ih;dsimp only at hz mI bL nW;have eP:b1.length=bs.length+(c.zeros v-z):=by rw[bL,List.length_append,List.length_replicate]
    try dsimp only
    refine QS O$ RK O$ PQ$ Q8 O (λaR=>?_)$ λaR=>?_
    ·refine PR$ RP$ St O$ Qk Y2 O (Tu mI 0 63 ψ ψ ω) ?_;rintro _ w7 ⟨rfl,F7,pI,aA,pJ⟩;have bU:=aA.PN aY (II F1 nW);have z7:=aA.size;refine PQ$ PM$ St O$ SA O$ Qc O ?_;rw[show((z:Int)-63)=((z-63:Nat):Int) by omega];refine(ih (z-63,F7,b1++Qr 63 0) w7 ⟨by dsimp only;omega,pI,?_,?_,?_,bU,ω⟩ (by dsimp only;omega)).qb
     ·dsimp only;rw[bL,WS,List.append_assoc,List.replicate_append_replicate,show c.zeros v-z+63=c.zeros v-(z-63) by omega]
     ·exact aL.It aA (λi hi=>(nW i hi).elim .inr (λe=> .inl ω))
     ·intro i hi;rcases pJ i hi with e| e
      ·exact nW i e
      ·exact .inr ω
    ·refine Q5 O$ QS O$ UZ O$ PQ$ Q8 O (λg0=>?_)$ λg0=>?_
     ·refine PW O$ Qp O$ R7 O ?_;rw[show((z:Int)+1)=((z+1:Nat):Int) by omega];refine Qk Y2 O (Tu mI 1 (z+1) ω (by have:=Nat.pow_le_pow_right (show 0<2 by decide) (show 1<=z+1 by omega);omega) ω) ?_;rintro _ w7 ⟨rfl,F7,pI,aA,pJ⟩;have bU:=aA.PN aY (II F1 nW);have z7:=aA.size;have dV:Kp F w w7:=aL.It aA (λi hi=>(nW i hi).elim .inr (λe=> .inl ω));have D2:∀i,F7 i->F i\/w5.heap.size<=i:=λi hi=>(pJ i hi).elim (nW i) (λe=> .inr ω)
      have mH:b1++Qr (z+1) 1=bs++(List.replicate (c.zeros v) false++[true]):=by
       rw[bL,zal,List.append_assoc]
       congr 1
       rw[<-List.append_assoc,List.replicate_append_replicate,show c.zeros v-z+z=c.zeros v by omega]
      rw[mH] at pI;clear ih;refine PQ$ An$ qN O$ qV (QB (news:=[Qg (c.p0 v).1,I ((c.p0 v).2:Int),Qg 0,I 0]) z2o O W4 O (bU.cells (n:=4) O) O)$ Q4 O$ PQ$ PS$ SK (α:=Nat×(Nat->Prop)×List Bool) ((0,F7,bs++(List.replicate (c.zeros v) false++[true]))) (λx=>[(0,ptr p 0),(49,.agg #[Qg (c.p0 v).1,I ((c.p0 v).2:Int),Qg 0,I 0]),(50,I (x.1:Int))]) (λx w'=>x.1<=2/\Zs w' p x.2.2 x.2.1/\x.2.2=(bs++(List.replicate (c.zeros v) false++[true]))++(if x.1=0 then [] else c.rest v)/\Kp F w w'/\(∀k,x.2.1 k->F k\/w5.heap.size<=k)/\w5.heap.size<=w'.heap.size) (λx=>2-x.1) ?hI ?hround
      case hI=>exact⟨by dsimp only;omega,pI,ξ,dV,D2,ω⟩
      case hround=>
       rintro⟨i,F8,b8⟩ w8 ⟨hi,tY,jf,aK,xa,z8⟩ ih;dsimp only at hi tY jf xa
       try dsimp only
       refine qN O$ RT O$ PQ$ An$ Q8 O (λmJ=>?_)$ λmJ=>?_
       ·have xY:b8.length<=bs.length+(c.zeros v+1)+(if i=0 then 0 else(c.p0 v).2):=by
         rw[jf];simp only[List.length_append,List.length_replicate,List.length_cons,List.length_nil];split
         ·simp
         ·rw[z4b,bitsN_length];omega
        refine PR$ RP$ qN O ?_;rcases (show i=0\/i=1 by omega) with rfl|rfl
        ·rw[if_pos O] at xY jf;refine qV (zet (n:=0) z2o U6 zcu O O O ψ) ?_;rw[show(#[Qg (c.p0 v).1,I ((c.p0 v).2:Int),Qg 0,I 0]:Array Value).extract (0*2) (0*2+2)=#[Qg (c.p0 v).1,I ((c.p0 v).2:Int)] from rfl];refine PY O O (SE (cs:=[_,_]) U6 O) ?_;rintro _ w9 ⟨b12,rfl,D3,fN,aX⟩;refine Qb O (QT (news:=[Qg (c.p0 v).1,I ((c.p0 v).2:Int)]) U6 O O O O aX ξ) ?_;rintro w10 ⟨eQ,aB⟩;replace eQ:Q7 w10 b12 [Qg (c.p0 v).1,I ((c.p0 v).2:Int)] 329:=eQ;have z9:=fN.size;have gn:Ext w8 w10:=fN.It aB (λi hi=>by omega);have z10:=gn.size;refine PQ$ St O$ Qd z9e O$ qV (PX SL O O eQ O)$ Qd z1G O$ qV (PX U3 O O eQ O)$ Qk Y2 O (Tu (tY.ext gn) (c.p0 v).1 (c.p0 v).2 ω q3 ω) ?_;rintro _ w11 ⟨rfl,F11,tZ,bz,u3⟩;have jt:=gn.kp.trans bz;refine PQ$ PM$ PW O$ R7 O$ Q4 O$ PQ ((ih (1,F11,b8++Qr (c.p0 v).2 (c.p0 v).1) w11 ⟨by dsimp only;omega,tZ,?_,?_,?_,?_⟩ (by dsimp only;omega)).qb)
         ·dsimp only;rw[jf];rw[List.append_nil,if_neg ψ,z4b]
         ·exact aK.It jt (λi hi=>(xa i hi).elim .inr (λe=> .inl ω))
         ·intro i hi;rcases u3 i hi with e| e
          ·exact xa i e
          ·exact .inr ω
         ·have:=jt.size;omega
        ·rw[if_neg ψ] at xY jf;refine qV (zet (n:=1) z2o U6 zcu O O O ψ) ?_;rw[show(#[Qg (c.p0 v).1,I ((c.p0 v).2:Int),Qg 0,I 0]:Array Value).extract (1*2) (1*2+2)=#[Qg 0,I 0] from rfl];refine PY O O (SE (cs:=[_,_]) U6 O) ?_;rintro _ w9 ⟨b12,rfl,D3,fN,aX⟩;refine Qb O (QT (news:=[Qg 0,I 0]) U6 O O O O aX ξ) ?_;rintro w10 ⟨eQ,aB⟩;replace eQ:Q7 w10 b12 [Qg 0,I 0] 329:=eQ;have z9:=fN.size;have gn:Ext w8 w10:=fN.It aB (λi hi=>by omega);have z10:=gn.size;refine PQ$ St O$ Qd z9e O$ qV (PX SL O O eQ O)$ Qd z1G O$ qV (PX U3 O O eQ O)$ Qk Y2 O (Tu (tY.ext gn) 0 0 ω ψ ω) ?_;rintro _ w11 ⟨rfl,F11,tZ,bz,u3⟩;have jt:=gn.kp.trans bz;refine PQ$ PM$ PW O$ R7 O$ Q4 O$ PQ ((ih (2,F11,b8++Qr 0 0) w11 ⟨by dsimp only;omega,tZ,?_,?_,?_,?_⟩ (by dsimp only;omega)).qb)
         ·dsimp only;rw[jf];rw[if_neg ψ];simp[Qr]
         ·exact aK.It jt (λi hi=>(xa i hi).elim .inr (λe=> .inl ω))
         ·intro i hi;rcases u3 i hi with e| e
          ·exact xa i e
          ·exact .inr ω
         ·have:=jt.size;omega
       ·have:i=2:=by omega
        subst this;rw[if_neg ψ] at jf;refine Q5 O$ RN O$ PO func185 O (⟨_,rfl,rfl,F8,?_,aK,λi hi=>(xa i hi).imp id (λe=>by omega)⟩);rw[jf] at tY;unfold Cd.enc
        simpa using tY
     ·omega
end
structure RgM (w:World)(x r:Nat)(s:PV)(a:Nat):Prop where
 PN:Q7 w x [ptr r 0,.bool false] 353
 rd:V7 w r s a
 ne:x≠r
def RgM.ext {w w':World}{x r:Nat}{s:PV}{a:Nat}(h:RgM w x r s a)(k:Ext w w'):RgM w' x r s a:=⟨k.PN h.PN,⟨k.PN h.rd.1,h.rd.2⟩,h.ne⟩
section
variable {w:World}{x r:Nat}{s:PV}{a:Nat}
def Y9 (h:RgM w x r s a)(n:Nat)(hn:n<=64)(hl:a+n<=8*s.length):
  Qu prog 241 [ptr x 0,I (n:Int)] w λv w'=>v=Qg (QL (((Qm s).drop a).take n))/\RgM w' x r s (a+n)/\Kp (λk=>k=x\/k=r) w w':=by
 obtain⟨hB,hR,bE⟩:=h
 refine py (e:=[(0,_),(1,_)]) func241 O ntmps241 O O$ qN O$ RZ O$ QA O$ Qd zey O$ qV (PX Wx O O hB O)$ Q4 O$ Qk z5Q O (WE hR n hn) ?_
 rintro v1 w1 fO
 obtain⟨rfl,i3,ay⟩:v1= .tuple #[Qg (QL (((Qm s).drop a).take n)),I 0]/\V7 w1 r s (a+n)/\Kp (λk=>k=r) w w1:=by
  rcases fO with⟨-,h⟩|⟨h,-⟩
  ·exact h
  ·omega
 have ai:=ay.PN hB bE
 refine Q4 O$ TK O$ TN O$ S7 O$ Qp O$ QA O$ Qd z1F O$ qV (PX U4 O O ai O)$ Qp O$ RA O$ QW$ QY O$ QA O$ Qd z1F O ?_
 refine Qb O (RV VK O O O ai ξ) ?_
 rintro w2 ⟨ak,am⟩
 replace ak:Q7 w2 x [ptr r 0,.bool false] 353:=ak
 refine PQ$ Qy.qb (e:=[(4,_),(5,_)]) ?_
 refine Qx O$ Qc O$ PO func241 O ?_
 exact⟨_,rfl,rfl,⟨ak,⟨am.PN i3.1 (Ne.symm bE),i3.2⟩,bE⟩,(ay.PU (λk e=> .inr e)).trans (am.PU (λk e=> .inl e))⟩
def Zb (h:RgM w x r s a)(z most:Nat)(rest:List Bool)(hb:(Qm s).drop a=List.replicate z false++true::rest)(hz:z<=most)(hm:most<=65535):
  Qu prog 239 [ptr x 0,I (most:Int)] w λv w'=>v=I (z:Int)/\RgM w' x r s (a+z+1)/\Kp (λk=>k=x\/k=r) w w':=by
 have aH:a+z+1<=8*s.length:=by
  have:=congrArg List.length hb;rw[List.length_drop,bitsT_length,List.length_append,List.length_replicate,List.length_cons] at this;omega
 refine py (e:=[(0,_),(1,_)]) func239 O ntmps239 O O$ RN O$ An$ RN O$ PS$ SK (α:=Nat) (0) (λn=>[(0,ptr x 0),(1,I (most:Int)),(5,I (n:Int))]) (λn w'=>n<=z/\RgM w' x r s (a+n)/\Kp (λk=>k=x\/k=r) w w') (λn=>z-n) ?hI ?hround
 case hI=>exact⟨Nat.zero_le _,h,Kp.refl _ _⟩
 case hround=>
  rintro n w1 ⟨hn,h1,ay⟩ ih;have ai:=h1.PN
  have hd:(Qm s).drop (a+n)=List.replicate (z-n) false++true::rest:=by
   rw[<-List.drop_drop,hb,List.drop_append_of_le_length (by simp;omega),List.drop_replicate]
  try dsimp only
  refine An$ RI O$ zle O$ Q4 O$ TL (λc1=>?_)$ λc1=>?_
  ·have hv:QL (((Qm s).drop (a+n)).take 1)=if n=z then 1 else 0:=by
    rw[hd];by_cases e:n=z
    ·subst e;rw[Nat.sub_self,if_pos O];rfl
    ·rw[if_neg e,show z-n=(z-n-1)+1 by omega,List.replicate_succ];rfl
   refine Q4 O$ QA O$ Qd z1F O$ qV (PX U4 O O ai O)$ qV ((T7 O))$ Sa O$ PQ$ Qa O$ PR$ RP$ Qx O$ Qk z8J O (Y9 h1 1 ψ ω) ?_;rintro _ w2 ⟨rfl,h2,am⟩;rw[hv];refine Ss O$ PQ$ Q8 O (λc2=>?_)$ λc2=>?_
   ·have IJ:n=z:=by
     by_cases e:n=z
     ·exact e
     ·rw[if_neg e] at c2;simp at c2
    subst IJ;refine Qx O$ Qc O$ PO func239 O ?_;exact⟨_,rfl,rfl,h2,ay.trans am⟩
   ·have IJ:n≠z:=λe=>by rw[if_pos e] at c2;simp at c2
    refine PR$ PM$ St O$ R7 O$ Qc O ?_;exact(ih (n+1) w2 ⟨ω,by rw[<-Nat.add_assoc];exact h2,ay.trans am⟩ ω).qb
  ·omega
def z7v (h:RgM w x r s a)(z q:Nat)(rest:List Bool)(hb:(Qm s).drop a=List.replicate z false++true::(Qr z q++rest))(hq:q<2^z)(hz:z<=47):
  Qu prog 240 [ptr x 0,I 47] w λv w'=>v=Qg (q+2^z-1)/\RgM w' x r s (a+z+1+z)/\Kp (λk=>k=x\/k=r) w w':=by
 have aH:a+z+1+z<=8*s.length:=by
  have:=congrArg List.length hb;rw[List.length_drop,bitsT_length,List.length_append,List.length_replicate,List.length_cons,List.length_append,bitsN_length] at this;omega
 have hd:(Qm s).drop (a+z+1)=Qr z q++rest:=by
  rw[show a+z+1=a+(z+1) by omega,<-List.drop_drop,hb];rw[<-List.drop_drop,List.drop_left' ξ];rfl
 have hv:QL (((Qm s).drop (a+z+1)).take z)=q:=by
  rw[hd,List.take_left' ξ,Rk,Nat.mod_eq_of_lt hq]
 obtain⟨Q,hQ⟩:∃Q,2^z=Q:=⟨_,rfl⟩
 rw[hQ] at hq⊢
 have CV:1<=Q/\Q<=281474976710656:=by
  rw[<-hQ];exact⟨Nat.two_pow_pos _,by have:=Nat.pow_le_pow_right (show 0<2 by decide) (show z<=48 by omega);simpa using this⟩
 refine py (e:=[(0,_),(1,_)]) func240 O ntmps240 O O$ qN O$ S7 O$ Qp O$ Qk zcr O (Zb h z 47 _ hb hz ψ) ?_
 rintro _ w1 ⟨rfl,h1,ay⟩
 have hg:=Ext.Qh w1
 refine Qc O$ An$ S5 (λw'=>Kp (λk=>k=x\/k=r) w1 w') O$ Qi 0 O O (hg.kp)$ Qi 1 O O (hg.kp)$ Qi 3 O O (hg.kp)$ PT 4 O (Sr z Q O O ω hQ) (hg.kp) ?_
 rw[show 1*Q%18446744073709551616=Q by omega]
 refine T9 2 O z8J O (Y9 (h1.ext hg) z ω ω) ?_
 rintro _ w2 ⟨rfl,h2,am⟩
 refine⟨hg.kp.trans am,?_⟩
 rw[hv]
 refine PT 5 O (Wt O O) (hg.kp.trans am) ?_
 rw[show(q+Q)%18446744073709551616=q+Q by omega]
 refine PT 6 O (XK (n:=1) O O O (by show q+Q<2^64;omega) ω) (hg.kp.trans am) ?_
 refine PT 7 O (Sv O) (hg.kp.trans am)$ qE$ PO func240 O ?_
 exact⟨_,rfl,rfl,h2,ay.trans (hg.kp.trans am)⟩
def z6Z (h:RgM w x r s a)(v K:Nat)(rest:List Bool)(hb:(Qm s).drop a=RO v K++rest)(hv:v<K)(KJ:K<=9223372036854775808):
  Qu prog 242 [ptr x 0,Qg K] w λu w'=>u=Qg v/\RgM w' x r s (a+(RO v K).length)/\Kp (λk=>k=x\/k=r) w w':=by
 have aH:a+(RO v K).length<=8*s.length:=by
  have:=congrArg List.length hb;have ha:=h.rd.2.1;rw[List.length_drop,bitsT_length,List.length_append] at this;omega
 refine py (e:=[(0,_),(1,_)]) func242 O ntmps242 O O$ qN O$ RZ O$ qV (XK (n:=1) O O O (by show K<2^64;omega) ω) ?_
 refine Qk z44 O (VG (K-1) ω w) ?_
 rintro _ w ⟨rfl,rfl⟩
 refine Qc O$ QS O$ Ss O$ PQ ?_
 by_cases IH:K=1
 ·subst IH;have sx:v=0:=by omega
  subst sx;rw[show R3 (1-1)=0 from rfl];refine Q8 O (λc0=>?_)$ λc0=>?_
  ·refine RN O$ PO func242 O ?_;exact⟨_,rfl,rfl,h,Kp.refl _ _⟩
  ·exact absurd O c0
 ·have f:=z6N hv ω rest;dsimp only at f;obtain⟨n,hn⟩:∃n,R3 (K-1)=n:=⟨_,rfl⟩;rw[hn] at f⊢;have g:=Wl (K:=K) ω;rw[hn] at g;obtain⟨Q,hQ⟩:∃Q,2^n=Q:=⟨_,rfl⟩;rw[hQ] at f g;obtain⟨f1,f2,f3⟩:=f
  have D4:n<=63:=by
   rw[<-hn];have e63:(2:Nat)^63=9223372036854775808:=by decide
   exact Si ω
  have CU:Q<=9223372036854775808:=by
   rw[<-hQ];have:=Nat.pow_le_pow_right (show 0<2 by decide) D4;have e63:(2:Nat)^63=9223372036854775808:=by decide
   omega
  have t1:((Qm s).drop a).take (n-1)=(RO v K).take (n-1):=by rw[hb,List.take_append_of_le_length f2]
  obtain⟨u,hu⟩:∃u,QL ((RO v K).take (n-1))=u:=⟨_,rfl⟩
  have u5:u<Q:=by
   have h1:=S9 ((RO v K).take (n-1));rw[hu,List.length_take] at h1;have h2:=Nat.pow_le_pow_right (show 0<2 by decide) (show min (n-1) (RO v K).length<=n by omega);omega
  rw[hu] at f3;refine Q8 O (λc0=>?_)$ λc0=>?_
  ·omega
  ·refine PR$ Qx O$ qV (Sr n Q O O ω hQ) ?_;rw[show 1*Q%18446744073709551616=Q by omega];refine Q4 O$ qV (XK O O O (by show Q<2^64;omega) g.1) ?_;refine S7 O$ Qp O$ SA O ?_;rw[show((n:Int)-1)=((n-1:Nat):Int) by omega];refine Qk z8J O (Y9 h (n-1) ω ω) ?_;rintro _ w1 ⟨rfl,h1,ay⟩;rw[t1,hu];refine Qc O$ An$ RI O$ UZ O$ PQ$ Q8 O (λc1=>?_)$ λc1=>?_
   ·obtain⟨m1,m2,m3⟩:Q-K<=u/\(RO v K).length=n/\2*u+QL ((RO v K).drop (n-1))=v+(Q-K):=by
     rcases f3 with⟨e,-⟩| e
     ·omega
     ·exact e
    have t2:((Qm s).drop (a+(n-1))).take 1=(RO v K).drop (n-1):=by
     rw[<-List.drop_drop,hb,List.drop_append_of_le_length f2,List.take_append_of_le_length (by rw[List.length_drop];omega),List.take_of_length_le (by rw[List.length_drop];omega)]
    have nX:QL ((RO v K).drop (n-1))<2:=by
     have:=S9 ((RO v K).drop (n-1));rw[List.length_drop,m2,show n-(n-1)=1 by omega] at this;exact this
    refine St O$ qV (Sr 1 2 O O ψ O) ?_;rw[show u*2%18446744073709551616=u*2 by omega];refine Q4 O$ Qk z8J O (Y9 h1 1 ψ ω) ?_;rintro _ w2 ⟨rfl,h2,am⟩;rw[t2];refine qV (Wt O O) ?_;rw[show(u*2+QL ((RO v K).drop (n-1)))%18446744073709551616=v+(Q-K) by omega];refine Q4 O$ qV (XK O O O (by show v+(Q-K)<2^64;omega) ω) ?_;rw[show v+(Q-K)-(Q-K)=v by omega];refine Qc O$ Qy.qb (e:=[(4,_),(7,_)]) ?_;refine Qx O$ Qc O$ PO func242 O ?_;rw[m2];exact⟨_,rfl,rfl,by rw[show a+n=a+(n-1)+1 by omega];exact h2,ay.trans am⟩
   ·obtain⟨m1,m2,m3⟩:u<Q-K/\(RO v K).length=n-1/\u=v:=by
     rcases f3 with e|⟨e,-⟩
     ·exact e
     ·omega
    refine PR$ Qx O$ Qc O$ PO func242 O ?_;rw[m2];exact⟨_,rfl,by rw[m3];rfl,h1,ay⟩
end
section
variable {w:World}{x r:Nat}{s:PV}{a:Nat}
def z5L (h:RgM w x r s a)(c:Cd)(v:Nat)(hc:c.RE)(hv:v<=c.most)(rest:List Bool)(hb:(Qm s).drop a=c.enc v++rest):
  Qu prog 231 [ptr x 0,cdV c] w λu w'=>u=Qg v/\RgM w' x r s (a+(c.enc v).length)/\Kp (λk=>k=x\/k=r) w w':=by
 have pG:=YA c v
 have bR:=h.PN.lt
 have iy:=h.rd.1.lt
 have aH:a+(c.enc v).length<=8*s.length:=by
  have:=congrArg List.length hb;have ha:=h.rd.2.1;rw[List.length_drop,bitsT_length,List.length_append] at this;omega
 unfold Cd.enc at hb
 rw[List.append_assoc,List.cons_append] at hb
 cases c with
 | unary =>
   refine py (e:=[(0,_),(1,_)]) func231 O ntmps231 O O$ qN O$ PY O O (Se O (cs:=[.int .u8 0,Qg 0]) O) ?_;rintro _ w1 ⟨b3,rfl,dP,ad,aw⟩;refine Qc O$ An$ qN O$ Qd Tn O$ qV (PX U5 O O aw O)$ PQ$ PS$ qN O$ Ss O$ SM$ Qc O$ Qa O$ Qx O$ Qk zcr O (Zb (h.ext ad) v 65535 rest hb hv ψ) ?_;rintro _ w2 ⟨rfl,h2,am⟩;have ju:v<=65535:=hv;refine qV ((Rp O U3 SL ω))$ Qc O$ PO func231 O (⟨_,rfl,rfl,?_,ad.kp.trans am⟩);have e:(Cd.enc .unary v).length=v+1:=by rw[pG];rfl
   rw[e];exact h2
 | gamma =>
   obtain⟨g1,g2,g3⟩:=WU hv;obtain⟨z,hz⟩:∃z,Nat.log2 (v+1)=z:=⟨_,rfl⟩;rw[hz] at g1 g2 g3;rw[Nat.pow_succ] at g2
   have i4:(Qm s).drop a=List.replicate z false++true::(Qr z (v+1-2^z)++rest):=by
    rw[hb];show List.replicate (Nat.log2 (v+1)) false++true::(Qr (Nat.log2 (v+1)) (v+1-2^Nat.log2 (v+1))++rest)=_;rw[hz]
   have e:(Cd.enc .gamma v).length=z+1+z:=by rw[pG];show Nat.log2 (v+1)+1+Nat.log2 (v+1)=_;rw[hz]
   refine py (e:=[(0,_),(1,_)]) func231 O ntmps231 O O$ qN O$ PY O O (Se O (cs:=[.int .u8 1,Qg 0]) O) ?_;rintro _ w1 ⟨b3,rfl,dP,ad,aw⟩;refine Qc O$ An$ qN O$ Qd Tn O$ qV (PX U5 O O aw O)$ PQ$ PS$ qN O$ Ss O$ QW$ Qc O$ PZ O$ qN O$ Ss O ?_;refine SM$ Qc O$ Qa O$ Qx O$ Qk zkr O (z7v (h.ext ad) z (v+1-2^z) rest i4 ω g3) ?_;rintro _ w2 ⟨rfl,h2,am⟩;rw[show v+1-2^z+2^z-1=v by omega];refine Qc O$ PO func231 O (⟨_,rfl,rfl,?_,ad.kp.trans am⟩)
   rw[e,show a+(z+1+z)=a+z+1+z by omega];exact h2
 | zeta k =>
   obtain⟨ay,am⟩:1<=k/\k<=16:=hc;obtain⟨g1,g2,g3⟩:=WU hv;have f:=Z1 (k:=k) (v:=v) ay;dsimp only at f;obtain⟨b,u7⟩:∃b,Nat.log2 (v+1)=b:=⟨_,rfl⟩;rw[u7] at f g1 g2 g3;obtain⟨z,hz⟩:∃z,b / k=z:=⟨_,rfl⟩;obtain⟨m,hm⟩:∃m,z*k=m:=⟨_,rfl⟩;have KK:m<=b:=by rw[<-hm,<-hz];exact Nat.div_mul_le_self _ _
   have D5:z<=47 / k:=by rw[<-hz];exact Nat.div_le_div_right g3
   have OK:47 / k<=47:=Nat.div_le_self _ _;rw[hz,hm] at f
   have i4:(Qm s).drop a=List.replicate z false++true::(RO (v+1-2^m) (2^m*2^k-2^m)++rest):=by
    rw[hb];show List.replicate (Nat.log2 (v+1) / k) false++true::(RO (v+1-2^(Nat.log2 (v+1) / k*k)) (2^(Nat.log2 (v+1) / k*k)*2^k-2^(Nat.log2 (v+1) / k*k))++rest)=_;rw[u7,hz,hm]
   obtain⟨F,hF⟩:∃F,2^m=F:=⟨_,rfl⟩;obtain⟨G,hG⟩:∃G,2^k=G:=⟨_,rfl⟩;rw[hF,hG] at f i4;obtain⟨f1,f2,f3⟩:=f;obtain⟨E,hE⟩:∃E,F*G=E:=⟨_,rfl⟩
   have CW:E<=9223372036854775808:=by
    rw[<-hE,<-hF,<-hG,<-Nat.pow_add];have:=Nat.pow_le_pow_right (show 0<2 by decide) (show m+k<=63 by omega);have e63:(2:Nat)^63=9223372036854775808:=by decide
    omega
   rw[hE] at f2 f3 i4
   have e:(Cd.enc (.zeta k) v).length=z+1+(RO (v+1-F) (E-F)).length:=by
    rw[Cd.enc,List.length_append,List.length_replicate,List.length_cons];show Nat.log2 (v+1) / k+((RO (v+1-2^(Nat.log2 (v+1) / k*k)) (2^(Nat.log2 (v+1) / k*k)*2^k-2^(Nat.log2 (v+1) / k*k))).length+1)=_;rw[u7,hz,hm,hF,hG,hE];omega
   have hd:(Qm s).drop (a+z+1)=RO (v+1-F) (E-F)++rest:=by
    rw[show a+z+1=a+(z+1) by omega,<-List.drop_drop,i4];rw[<-List.drop_drop,List.drop_left' ξ];rfl
   have su:(z:Int)*(k:Int)=(m:Int):=by rw[<-hm];simp
   have fH:(47:Int) / (k:Int)=((47 / k:Nat):Int):=by simp
   refine py (e:=[(0,_),(1,_)]) func231 O ntmps231 O O$ qN O$ PY O O (Se O (cs:=[.int .u8 3,Qg k]) O) ?_;rintro _ w1 ⟨b3,rfl,dP,ad,aw⟩;refine Qc O$ An$ qN O$ Qd Tn O$ qV (PX U5 O O aw O)$ PQ$ PS$ qN O$ Ss O$ QW$ Qc O$ PZ O$ qN O$ Ss O ?_;refine QW$ Qc O$ PZ O$ qN O$ Ss O$ QW$ Qc O$ PZ O$ qN O$ Ss O$ SM$ Qc O$ Qa O$ qN O ?_;refine Qd Yv O$ qV (PX SL O O aw O)$ qV (QU O SL U3 ω)$ S7 O$ Qp O$ qV (Yh O O ω) ?_;rw[fH];refine Qk zcr O (Zb (h.ext ad) z (47 / k) _ i4 D5 ω) ?_;rintro _ w2 ⟨rfl,h2,D6⟩;refine Q4 O$ qV (Xq O O (by rw[su];omega)) ?_;rw[su];refine qV (Sr m F O O ω hF) ?_;rw[show 1*F%18446744073709551616=F by omega];refine Qc O$ Qy.qb (e:=[(0,_),(3,_),(4,_),(6,_),(7,_)]) ?_;refine RI O$ Q4 O$ qV (Sr k G O O ω hG) ?_;rw[hE,Nat.mod_eq_of_lt (show E<18446744073709551616 by omega)];refine Q4 O$ qV (XK O O O (by show E<2^64;omega) ω) ?_;refine Qk zhB O (z6Z h2 (v+1-F) (E-F) rest hd f2 ω) ?_;rintro _ w3 ⟨rfl,h3,av⟩;refine Q4 O$ qV (Wt O O) ?_;rw[show(v+1-F+F)%18446744073709551616=v+1 by omega];refine qV (XK (n:=1) O O O (by show v+1<2^64;omega) ω) ?_;rw[show v+1-1=v by omega];refine Qc O$ PO func231 O (⟨_,rfl,rfl,?_,(ad.kp.trans D6).trans av⟩);rw[e,show a+(z+1+(RO (v+1-F) (E-F)).length)=a+z+1+(RO (v+1-F) (E-F)).length by omega];exact h3
end
def z7X {P:Program}{fn:Func}{tmps:Array Value}{R:Ending->World->Prop}{g:FuncId}{cap args:List Value}{w:World}{S:Value->World->Prop}(qn:CF P g)(hD:zb5 P g (args++cap) w S)
  (h:∀u w',S u w'->∃v,(results fn tmps).run P w'= .ok v w'/\R (.returned v) w'):LeavesInM Fence.wide 0 P fn tmps R (marks [.call g cap args]) .returning w:=by
 refine⟨ξ,.inr ⟨(λh=>by cases h),.func g,cap.toArray,g,(args++cap).toArray,rfl,?_,(λ_ _=>trivial),?_⟩⟩
 ·simp[Dfr.d,invoke,UD qn]
 ·refine CallsDIn.mono hD ?_;rintro x u w1 ⟨rfl,v1,rfl,hS⟩;exact h v1 w1 hS
def z41 {P:Program}{f:FuncId}{R:Value->World->Prop}{n:Nat}{k:List Item}{e:Env}{w:World}{fn:Func}{g:FuncId}{cap args:List Value}{S:Value->World->Prop}(hf:P.funcs[f]? =some fn)(qn:CF P g)(hD:zb5 P g (args++cap) w S)
  (h:∀u w',S u w'->∃vs,ZA P w' e fn.results.toList vs/\XY R (.returned (Rb vs)) w'):Qy ⟨P,f,R,n,none,[.call g cap args],false⟩ (.code .ret::k) e w:=
 z5J O O hf λa ha=>z7X qn hD λu w' hs=>by
  obtain⟨vs,h1,h2⟩:=h u w' hs;exact⟨_,Xb ha P w' fn vs h1,h2⟩
def ydf {P:Program}{e:Env}{ty:TypeId}{pos:String}{aft:Array Edge}{g:Option (Nat×Bool)}{w:World}{f:FuncId}{x:Operand}{q:List Value}(hv:look e x=some (.func (.func f) #[] q.toArray)):
  ∀ρ:Operand->Value,(∀x v,look e x=some v->ρ x=v)->(execOp ρ ⟨none,.defer ⟨.value x,#[],#[]⟩,ty,pos,aft,g⟩).run P w= .ok (.defer (Dfr.d (.call f q []))) w:=fun ρ hρ=>by
 simp[execOp,resolve,hρ _ _ hv,Dfr.d,Deferred.ofValue]
section
variable {w:World}{r:Nat}{s:PV}{a:Nat}
def z6I {b2 b5 b6:Nat}(hB:Q7 w b5 [I 0] 44):zb5 prog 230 [ptr b5 0,ptr b2 0,ptr b6 0] w λu w'=>w'=w:=by
 refine z5K (e:=[(0,_),(1,_),(2,_)]) func230 O ntmps230 O O$ qN O$ qV (PX U44 O O hB O)$ RA O$ PQ$ Q8 O (λc0=>?_)$ λc0=>?_
 ·exact absurd O c0
 ·refine PR$ z69 O O O func230$ λa ha=>⟨_,Uj ha _ _ _ _ O,?_⟩;exact⟨_,rfl,rfl⟩
def z0v (h:V7 w r s a)(c:Cd)(v:Nat)(hc:c.RE)(hv:v<=c.most)(rest:List Bool)(hb:(Qm s).drop a=c.enc v++rest):
  Qu prog 223 [ptr r 0,cdV c] w λu w'=>u= .tuple #[Qg v,I 0]/\V7 w' r s (a+(c.enc v).length)/\Kp (λk=>k=r) w w':=by
 obtain⟨x,y,dO⟩:∃x y,Ts c=[x,y]:=by cases c<;>exact⟨_,_,rfl⟩
 have iy:=h.1.lt
 have fF:=c.z1J
 refine py (e:=[(0,_),(1,_)]) func223 O ntmps223 O O$ qN O$ PY O O (Se O (cs:=[ptr r 0]) O) ?_
 rintro _ w1 ⟨b2,rfl,bO,ad,ak⟩
 refine PY O O (Se O (cs:=Ts c) O) ?_
 rintro _ w2 ⟨b3,rfl,dP,ae,aw⟩
 refine TN O$ PY O O (SE (cs:=[_]) z4D O) ?_
 rintro _ w3 ⟨b5,rfl,gm,ah,aJ⟩
 replace aJ:Q7 w3 b5 [I 0] 44:=aJ
 have h3:V7 w3 r s a:=⟨ah.PN (ae.PN (ad.PN h.1)),h.2⟩
 have bG:=ah.PN (ae.PN ak)
 have eR:=ah.PN aw
 refine PQ$ RP$ qN O$ qV (PX Wx O O bG O)$ qV (R9 Wx O O)$ Qc O$ PZ O$ qN O$ qV (QB (news:=Ts c) Tz O RX O (eR.cells (n:=2) (by rw[dO];rfl)) (by rw[dO];rfl)) ?_
 refine Qk z6J O (VV c hc w3) ?_
 rintro _ w4 ⟨rfl,aC⟩
 have h4:V7 w4 r s a:=⟨aC.PN h3.1,h3.2⟩
 have fP:=aC.PN bG
 refine RA O$ Qc O$ Q8 O (λc0=>?_)$ λc0=>?_
 ·exact absurd O c0
 ·refine PR$ PM$ qN O$ qV (PX Wx O O fP O)$ Qk ZW O (Vw h4) ?_;rintro _ w4 ⟨rfl,rfl⟩;refine PY O O (SE (cs:=[_]) Rl O) ?_;rintro _ w5 ⟨b6,rfl,nV,aU,aY⟩;refine Qb O (RV Rl O O O aY ξ) ?_;rintro w6 ⟨nY,aL⟩;have z1:=ad.size;have z2:=ae.size;have z3:=ah.size;have z4:=aC.size;have z5:=aU.size;have l2:=ak.lt;have l3:=aw.lt;have l5:=aJ.lt;have cW:Ext w4 w6:=aU.It aL (λi hi=>by omega);have cL:=cW.PN fP;refine qM O$ qV (ymf (first:=[]) (caps:=[.tmp 5,.tmp 2,.tmp 6]) O O)$ zcL O O (ydf O)$ qM O$ qV (PX Wx O O cL O)$ qV (Tq (cs:=[_,_]) zk2 O zjW O O)$ PY O O (Se O O) ?_;rintro _ w7 ⟨b7,rfl,mH,cu,bU⟩;replace bU:Q7 w7 b7 [ptr r 0,.bool false] 353:=bU;have z6:=cW.size;have z7:=cu.size;have qo:Ext w3 w7:=(aC.trans cW).trans cu;have h7:RgM w7 b7 r s a:=⟨bU,⟨qo.PN h3.1,h3.2⟩,ω⟩;have kI:=qo.PN eR;have ft:=qo.PN aJ;refine Qc O$ QS O$ qV (QB (news:=Ts c) Tz O RX O (kI.cells (n:=2) (by rw[dO];rfl)) (by rw[dO];rfl)) ?_;refine Qk zjK O (z5L h7 c v hc hv rest hb) ?_;rintro _ w8 ⟨rfl,h8,aK⟩;have nZ:=aK.PN kI ω;have i5:=aK.PN ft ω;have co:=h8.PN;refine RZ O$ QA O$ Qd z1F O$ qV (PX U4 O O co O)$ Qp O$ qV (QB (news:=Ts c) Tz O RX O (nZ.cells (n:=2) (by rw[dO];rfl)) (by rw[dO];rfl)) ?_;refine Qk zfS O (z3N c hc w8) ?_;rintro _ w9 ⟨rfl,fN⟩;refine RK O$ QY O$ PQ$ Qy.qb (e:=[(4,_),(5,_),(33,_)]) ?_;refine Q8 O (λc1=>?_)$ λc1=>?_
  ·omega
  ·have D7:=fN.PN i5;refine PR$ Qx O$ TN O$ Qb O (RV z4D O O O D7 ξ) ?_;rintro w10 ⟨fM,aB⟩;replace fM:Q7 w10 b5 [I 0] 44:=fM;refine PQ$ z41 func223 zi8 (z6I (b2:=b2) (b6:=b6) fM) ?_;rintro u w' rfl;have pK:V7 w9 r s (a+(c.enc v).length):=⟨fN.PN h8.rd.1,h8.rd.2⟩;refine⟨_,.tmp O (.cell1 U44 O O ((fM).cell _) .nil),_,rfl,rfl,⟨aB.PN pK.1 ω,pK.2⟩,?_⟩;have kJ:Ext w w7:=((ad.trans ae).trans ah).trans qo;have mK:Kp (λk=>k=r) w w8:=kJ.kp.It aK (λi hi=>hi.elim (λe=> .inl ω) .inr);exact(mK.trans fN.kp).It aB (λi hi=> .inl ω)
end
/-! ### Runs -/
def expand:Bool->List Nat->List Bool
 |_,[]=>[]
 |b,n::r=>List.replicate n b++expand (!b) r
theorem Zn:∀(b:Bool) (r s:List Nat),expand b (r++s)=expand b r++expand (if r.length%2=0 then b else !b) s
 |b,[],s=>by simp[expand]
 | b, n :: r, s => by
   rw[List.cons_append,expand,expand,Zn (!b) r s,List.append_assoc]
   congr 2
   rcases Nat.mod_two_eq_zero_or_one r.length with e| e
   ·rw[if_pos e,if_neg (by rw[List.length_cons];omega)]
   ·rw[if_neg ω,if_pos (by rw[List.length_cons];omega)];simp
theorem U7:∀(b:Bool) (r:List Nat),(expand b r).length=r.sum
 |_,[]=>rfl
 |b,n::r=>by rw[expand,List.length_append,List.length_replicate,U7 (!b) r,List.sum_cons]
def Sb (rs:List Nat)(f:Bool):List Nat:=
 let rs':=if f !=(rs.length%2==1) then rs++[0] else rs
 rs'.modify (rs'.length-1) (·+1)
theorem XG (l:List Nat)(n:Nat):(l++[n]).modify ((l++[n]).length-1) (·+1)=l++[n+1]:=by
 have key:∀l:List Nat,(l++[n]).modify l.length (·+1)=l++[n+1]:=λl=>by
  induction l with
  |nil=>rfl
  |cons a l ih=>simpa using ih
 have:(l++[n]).length-1=l.length:=by simp
 rw[this,key]
structure UL (rs:List Nat)(fs:List Bool):Prop where
 ne:rs≠[]
 exp:expand true rs=fs
 pos:∀n∈rs.drop 1,1<=n
theorem UL.zero:UL [0] []:=⟨ξ,rfl,ξ⟩
theorem UL.step {rs:List Nat}{fs:List Bool}(h:UL rs fs)(f:Bool):UL (Sb rs f) (fs++[f]):=by
 obtain⟨h1,h2,h3⟩:=h
 obtain⟨l,n,rfl⟩:∃l n,rs=l++[n]:=⟨rs.dropLast,rs.getLast h1,(List.dropLast_concat_getLast h1).symm⟩
 unfold Sb
 dsimp only
 have hlen:(l++[n]).length=l.length+1:=by simp
 rw[hlen]
 split
 ·rename_i hf
  rw[XG];refine⟨ξ,?_,λk hk=>?_⟩
  ·rw[Zn,h2,hlen]
   congr 1
   rcases Nat.mod_two_eq_zero_or_one l.length with e|e<;>cases f<;>simp[expand,e,Nat.add_mod] at hf⊢
  ·rw[List.drop_append_of_le_length (by rw[hlen];omega)] at hk;rcases List.mem_append.1 hk with hk|hk
   ·exact h3 k hk
   ·simp at hk;omega
 ·rename_i hf
  rw[XG];refine⟨ξ,?_,λk hk=>?_⟩
  ·rw[Zn] at h2⊢;rw[<-h2,List.append_assoc]
   congr 1
   simp only[expand,List.append_nil,List.replicate_succ']
   congr 1
   rcases Nat.mod_two_eq_zero_or_one l.length with e|e<;>cases f<;>simp[e,Nat.add_mod] at hf⊢
  ·cases l with
   |nil=>simp at hk
   | cons a l =>
     rw[List.cons_append,List.drop_succ_cons,List.drop_zero] at hk h3;rcases List.mem_append.1 hk with hk|hk
     ·exact h3 k (List.mem_append_left _ hk)
     ·simp at hk;omega
def copyL:Bool->List Nat->List Nat->List Nat
 |b,[],ref=>if b then ref else []
 |b,n::r,ref=>(if b then ref.take n else [])++copyL (!b) r (ref.drop n)
def sel:List Nat->List Bool->List Nat
 |x::l,f::fs=>if f then x::sel l fs else sel l fs
 |_,_=>[]
theorem z9p:∀{a b:List Nat} {fs gs:List Bool},a.length=fs.length->sel (a++b) (fs++gs)=sel a fs++sel b gs
 |[],b,[],gs,_=>rfl
 | x :: a, b, f :: fs, gs, h => by
   have h':a.length=fs.length:=by simpa using h
   rw[List.cons_append,List.cons_append,sel,sel,z9p h'];cases f<;>simp
theorem z4R:∀(l:List Nat) (b:Bool),sel l (List.replicate l.length b)=if b then l else []
 |[],b=>by cases b<;>rfl
 | x :: l, b => by
   rw[List.length_cons,List.replicate_succ,sel,z4R l b];cases b<;>rfl
theorem z5m:∀(b:Bool) (rs:List Nat) (m:Nat) (ref:List Nat),ref.length=(rs++[m]).sum->copyL b rs ref=sel ref (expand b (rs++[m]))
 | b, [], m, ref, h => by
   have hm:m=ref.length:=by simpa using h.symm
   subst hm;simp only[copyL,List.nil_append,expand,List.append_nil]
   rw[z4R]
 | b, n :: rs, m, ref, h => by
   rw[List.cons_append,List.sum_cons] at h;have hl:(ref.take n).length=n:=by rw[List.length_take];omega
   rw[copyL,List.cons_append,expand,z5m (!b) rs m (ref.drop n) (by rw[List.length_drop];omega)]
   conv=>rhs;rw[<-List.take_append_drop n ref,z9p (by rw[hl,List.length_replicate])]
   congr 1
   have:=z4R (ref.take n) b;rw[hl] at this;exact this.symm
/-! ### Rows of numbers that follow one another -/
def QZ:Nat->List Nat->Nat
 |_,[]=>0
 |x,y::l=>if y=x+1 then QZ y l+1 else 0
def Y4:∀(x:Nat) (l:List Nat),QZ x l<=l.length
 |_,[]=>Nat.le_refl _
 | x, y :: l => by
   unfold QZ;split
   ·have:=Y4 y l;simp;omega
   ·exact Nat.zero_le _
theorem Xe:∀(x:Nat) (l:List Nat) (i:Nat),i<QZ x l->l[i]? =some (x+1+i)
 |_,[],i,h=>by simp[QZ] at h
 | x, y :: l, i, h => by
   unfold QZ at h;split at h
   ·rename_i e
    subst e
    cases i with
    |zero=>rfl
    |succ i=>rw[List.getElem?_cons_succ,Xe (x+1) l i ω];congr 1;omega
   ·omega
def XT:∀(x:Nat) (l:List Nat) (y:Nat),l[QZ x l]? =some y->y≠x+1+QZ x l
 |_,[],y,h=>by simp at h
 | x, z :: l, y, h => by
   unfold QZ at h⊢;split
   ·rename_i e
    rw[if_pos e,List.getElem?_cons_succ] at h;have:=XT z l y h;omega
   ·rename_i e
    rw[if_neg e,List.getElem?_cons_zero] at h;cases h;omega
def R4 (least:Nat):List Nat->List (Nat×Nat)×List Nat
 |[]=>([],[])
 | x :: l =>
   let n:=QZ x l+1
   let q:=R4 least (l.drop (QZ x l))
   if 0<least/\least<=n then((x,n)::q.1,q.2) else(q.1,x::l.take (QZ x l)++q.2)
termination_by l=>l.length
decreasing_by simp[List.length_drop];omega
def S0 (l:List (Nat×Nat)):List Nat:=l.flatMap λp=>(List.range p.2).map (p.1+·)
abbrev Ris (l:List Nat):Prop:=l.Pairwise (·<·)
def zdn (x:Nat)(l:List Nat):x::l.take (QZ x l)=(List.range (QZ x l+1)).map (x+·):=by
 apply List.ext_getElem?
 intro i
 have hle:=Y4 x l
 cases i with
 |zero=>simp
 | succ i =>
   rw[List.getElem?_cons_succ,List.getElem?_take,List.getElem?_map];split
   ·rename_i h
    rw[Xe x l i h,List.getElem?_range ω];simp;omega
   ·rw[List.getElem?_eq_none (by simp;omega)];rfl
def UP (least:Nat):∀(l:List Nat),(S0 (R4 least l).1++(R4 least l).2).Perm l
 |[]=>by simp[R4,S0]
 | x :: l => by
   have ih:=UP least (l.drop (QZ x l));have hx:=zdn x l;have hc:x::l=(x::l.take (QZ x l))++l.drop (QZ x l):=by rw[List.cons_append,List.take_append_drop]
   rw[R4];split
   ·rw[show S0 ((x,QZ x l+1)::(R4 least (l.drop (QZ x l))).1)=(List.range (QZ x l+1)).map (x+·)++S0 (R4 least (l.drop (QZ x l))).1 by simp[S0]];rw[<-hx,List.append_assoc]
    conv=>rhs;rw[hc]
    exact ih.append_left _
   ·conv=>rhs;rw[hc]
    refine List.Perm.trans ?_$ ih.append_left _;rw[<-List.append_assoc,<-List.append_assoc];exact(List.perm_append_comm).append_right _
 termination_by l=>l.length
 decreasing_by simp[List.length_drop];omega
def zig (z:Int):Nat:=if 0<=z then(2*z).toNat else(-2*z-1).toNat
def zag (n:Nat):Int:=if n%2=0 then((n / 2:Nat):Int) else -((n / 2:Nat):Int)-1
theorem z9B (z:Int):zag (zig z)=z:=by
 unfold zig zag
 split
 ·rw[if_pos ω];omega
 ·rw[if_neg ω];omega
def z0u {z:Int}{n:Nat}(h1: -(n:Int)<=z)(h2:z<(n:Int)):zig z<2*n:=by
 unfold zig
 split<;>omega
structure Th where
 Qq:Nat
 interval:Nat
 zeta:Nat
def Sk (succ ref:List Nat):List Nat:=ref.foldl (λrs y=>Sb rs (decide (y∈succ))) [0]
def Ul (succ ref:List Nat):UL (Sk succ ref) (ref.map λy=>decide (y∈succ)):=by
 unfold Sk
 have key:∀(l:List Nat) (rs:List Nat) (fs:List Bool),UL rs fs->UL (l.foldl (λrs y=>Sb rs (decide (y∈succ))) rs) (fs++l.map λy=>decide (y∈succ)):=by
  intro l
  induction l with
  |nil=>intro rs fs h;simpa using h
  | cons y l ih =>
    intro rs fs h;have:=ih _ _ (h.step (decide (y∈succ)))
    simpa using this
 simpa using key ref [0] [] UL.zero
def Qw (succ ref:List Nat):List Nat:=succ.filter λv=>decide (v∉ref)
theorem z9s (P:Nat->Bool):∀l:List Nat,sel l (l.map P)=l.filter P
 |[]=>rfl
 | x :: l => by
   rw[List.map_cons,sel,z9s P l];cases h:P x<;>simp[h]
def zbd (succ ref:List Nat):copyL true (Sk succ ref).dropLast ref=ref.filter λy=>decide (y∈succ):=by
 have h:=Ul succ ref
 obtain⟨l,n,e⟩:∃l n,Sk succ ref=l++[n]:=⟨_,_,(List.dropLast_concat_getLast h.ne).symm⟩
 rw[e,List.dropLast_concat]
 have he:=h.exp
 rw[e] at he
 have hl:ref.length=(l++[n]).sum:=by
  have:=congrArg List.length he;rw[U7,List.length_map] at this;exact this.symm
 rw[z5m true l n ref hl,he,z9s]
def Rv:Nat->List Nat->List (Cd×Nat)
 |_,[]=>[]
 |i,n::r=>(.gamma,n-min i 1)::Rv (i+1) r
def QV (x least:Nat):Option Nat->List (Nat×Nat)->List (Cd×Nat)
 |_,[]=>[]
 |none,p::r=>(.gamma,zig ((p.1:Int)-x))::(.gamma,p.2-least)::QV x least (some (p.1+p.2-1)) r
 |some e,p::r=>(.gamma,p.1-e-2)::(.gamma,p.2-least)::QV x least (some (p.1+p.2-1)) r
def QX (x k:Nat):Option Nat->List Nat->List (Cd×Nat)
 |_,[]=>[]
 |none,v::r=>(.zeta k,zig ((v:Int)-x))::QX x k (some v) r
 |some u,v::r=>(.zeta k,v-u-1)::QX x k (some v) r
def SG (p:Th)(x:Nat)(succ ref:List Nat)(r:Nat):List (Cd×Nat):=
 (.gamma,succ.length)::if succ=[] then [] else
  (if 0<p.Qq then [(.unary,r)] else [])++
  ((if 0<r then(.gamma,(Sk succ ref).length-1)::Rv 0 (Sk succ ref).dropLast else [])++
  (if Qw succ ref=[] then [] else
   (if 0<p.interval then(.gamma,(R4 p.interval (Qw succ ref)).1.length)::QV x p.interval none (R4 p.interval (Qw succ ref)).1 else [])++
   QX x p.zeta none (R4 p.interval (Qw succ ref)).2))
def Qo (l:List (Cd×Nat)):List Bool:=l.flatMap λp=>p.1.enc p.2
def z7Q {succ ref:List Nat}(hs:Ris succ)(hr:Ris ref)(p:Nat):(ref.filter (λy=>decide (y∈succ))++(S0 (R4 p (Qw succ ref)).1++(R4 p (Qw succ ref)).2)).Perm succ:=by
 have h1:(ref.filter λy=>decide (y∈succ)).Perm (succ.filter λv=>decide (v∈ref)):=by
  refine(List.perm_ext_iff_of_nodup (hr.imp (λh=>by omega) |>.filter _) (hs.imp (λh=>by omega) |>.filter _)).2 λa=>?_;simp only[List.mem_filter,decide_eq_true_eq];exact And.comm
 refine(h1.append (UP p _)).trans ?_
 unfold Qw
 have:=List.filter_append_perm (λv=>decide (v∈ref)) succ
 refine List.Perm.trans ?_ this
 refine List.Perm.append_left _ ?_
 simp
def z7j {a b:List Nat}(h:a.Perm b)(ha:a.Pairwise (·<=·))(hb:Ris b):a=b:=
 h.eq_of_pairwise (le:=(·<=·)) (λx y _ _ h1 h2=>by omega) ha (hb.imp (λh=>by omega))
def Uc (least:Nat):Nat->List (Nat×Nat)->Prop
 |_,[]=>True
 |lo,p::r=>lo<=p.1/\1<=p.2/\least<=p.2/\Uc least (p.1+p.2+1) r
def Uc.mono {least:Nat}:∀{r:List (Nat×Nat)} {a b:Nat},Uc least b r->a<=b->Uc least a r
 |[],_,_,_,_=>trivial
 |p::r,a,b,h,hab=>⟨Nat.le_trans hab h.1,h.2⟩
def z7D {x:Nat}{l:List Nat}(h:Ris (x::l)):∀y∈l.drop (QZ x l),x+QZ x l+2<=y:=by
 intro y hy
 obtain⟨j,hj,e⟩:=List.mem_iff_getElem.1 hy
 rw[List.getElem_drop] at e
 rw[List.length_drop] at hj
 obtain⟨h1,h2⟩:=List.pairwise_cons.1 h
 have hle:=Y4 x l
 have h0:QZ x l<l.length:=by omega
 obtain⟨z,hz⟩:∃z,l[QZ x l]? =some z:=⟨_,List.getElem?_eq_getElem h0⟩
 have hs:=XT x l z hz
 have hz':=(List.getElem?_eq_some_iff.1 hz).2
 have hzx:x+QZ x l<z:=by
  by_cases e0:QZ x l=0
  ·have:=h1 z (List.mem_of_getElem? hz);omega
  ·have hg:=Xe x l (QZ x l-1) ω;obtain⟨g1,g2⟩:=List.getElem?_eq_some_iff.1 hg;have:=List.pairwise_iff_getElem.1 h2 (QZ x l-1) (QZ x l) g1 h0 ω;rw[g2,hz'] at this;omega
 have hzy:z<=y:=by
  by_cases e0:j=0
  ·subst e0;simp at e;rw[<-e,<-hz'];exact Nat.le_refl _
  ·have:=List.pairwise_iff_getElem.1 h2 (QZ x l) (QZ x l+j) h0 ω ω;rw[e,hz'] at this;omega
 omega
def Wk (least:Nat):∀(l:List Nat) (lo:Nat),Ris l->(∀y∈l,lo<=y)->Uc least lo (R4 least l).1
 |[],lo,_,_=>by rw[R4];trivial
 | x :: l, lo, h, hl => by
   have hb:=z7D h;have h2:Ris (l.drop (QZ x l)):=(List.pairwise_cons.1 h).2.sublist (List.drop_sublist _ _);rw[R4];split
   ·rename_i hc
    refine⟨hl x ξ,ω,hc.2,Wk least _ _ h2 λy hy=>?_⟩;have:=hb y hy;omega
   ·refine Wk least _ _ h2 λy hy=>?_;have:=hb y hy;have:=hl x ξ;omega
 termination_by l=>l.length
 decreasing_by all_goals (simp[List.length_drop];omega)
def VQ (least:Nat):∀(l:List Nat),(R4 least l).2.Sublist l
 |[]=>by rw[R4];exact List.Sublist.refl _
 | x :: l => by
   have ih:=VQ least (l.drop (QZ x l));rw[R4];split
   ·exact(ih.trans (List.drop_sublist _ _)).cons x
   ·have hc:x::l=(x::l.take (QZ x l))++l.drop (QZ x l):=by rw[List.cons_append,List.take_append_drop]
    conv=>rhs;rw[hc]
    exact ih.append_left _
 termination_by l=>l.length
 decreasing_by simp[List.length_drop];omega
end Go.Proofs.YtffbidffdbpcoaaGreatDoor
