/- Merged by program. -/
import Derived.Test.YtffbidffdbpcoaaGreatDoorRows
import Derived.Test.YtffbidffdbpcoaaGreatDoorZm1
import Derived.KernelRfl
import Derived.Lib.AppendZerosOnto
import Derived.Lib.Overlaps
import Derived.Maps.RangeRun
set_option linter.all false
set_option maxRecDepth 1000000
set_option maxHeartbeats 16000000
namespace Go.Proofs.YtffbidffdbpcoaaGreatDoor
open Go Go.RowKit Go.Proofs.Tryz
set_option linter.unusedSimpArgs false
def PA {P:Program}{f:FuncId}{fn:Func}(h:P.funcs[f]? =some fn)(h2:(fn.name=="runtime.NumGoroutine")=false:=by kernel_rfl)(h3:fn.body.isNone=false:=by rfl):CF P f:=⟨fn,h,h2,h3⟩
theorem PV:TI prog 3 (Value.int .i64 0) 1 8:=Pv (by kernel_rfl)
theorem UH:TI prog 4 (Value.bool false) 1 1:=Pv (by kernel_rfl)
theorem Ye:TI prog 5 (Value.int .u8 0) 1 1:=Pv (by kernel_rfl)
theorem ti9:TI prog 9 (Value.string ⟨#[]⟩) 1 16:=Pv (by kernel_rfl)
theorem zf9:TI prog 26 (Value.pointer none) 1 8:=Pv (by kernel_rfl)
theorem z8Z:TI prog 27 (Value.pointer none) 1 8:=Pv (by kernel_rfl)
theorem z9t:TI prog 28 (Value.pointer none) 1 8:=Pv (by kernel_rfl)
def z2d:TI prog 30 (Value.agg #[Value.pointer none,Value.pointer none,Value.pointer none,Value.pointer none,Value.int .i64 0]) 5 40:=Pv (by kernel_rfl)
def z14:TI prog 37 (Value.slice none 0 0) 1 24:=Pv (by kernel_rfl)
theorem Tv:TI prog 39 (Value.int .u64 0) 1 8:=Pv (by kernel_rfl)
def z2Y:TI prog 44 (Value.int .i64 0) 1 8:=Pv (by kernel_rfl)
theorem zfT:TI prog 54 (Value.nilFunc) 1 8:=Pv (by kernel_rfl)
theorem P6:TI prog 59 (Value.int .u32 0) 1 4:=Pv (by kernel_rfl)
def z4b:TI prog 61 (Value.agg #[Value.int .u32 0,Value.int .u32 0]) 2 8:=Pv (by kernel_rfl)
theorem Tz:TI prog 62 (Value.slice none 0 0) 1 24:=Pv (by kernel_rfl)
theorem zaU:TI prog 66 (Value.agg #[Value.int .i64 0,Value.int .i64 0]) 2 16:=Pv (by kernel_rfl)
theorem zhx:TI prog 67 (Value.pointer none) 1 8:=Pv (by kernel_rfl)
theorem RD:TI prog 75 (Value.agg #[Value.int .i64 0,Value.int .i64 0,Value.int .i64 0,Value.int .i64 0,Value.int .i64 0]) 5 40:=Pv (by kernel_rfl)
theorem z2a:TI prog 79 (Value.agg #[Value.int .i64 0,Value.int .i64 0,Value.int .i64 0,Value.int .i64 0,Value.int .i64 0,Value.int .i64 0,Value.int .i64 0]) 7 56:=Pv (by kernel_rfl)
theorem z1Z:TI prog 83 (Value.pointer none) 1 8:=Pv (by kernel_rfl)
theorem zbw:TI prog 84 (Value.int .i64 0) 1 8:=Pv (by kernel_rfl)
def zkv:TI prog 86 (Value.agg #[Value.pointer none,Value.pointer none,Value.pointer none,Value.pointer none,Value.pointer none,Value.int .i64 0,Value.int .i64 0,Value.bool false,Value.bool false]) 9 64:=Pv (by kernel_rfl)
theorem z2e:TI prog 93 (Value.slice none 0 0) 1 24:=Pv (by kernel_rfl)
def zk9:TI prog 95 (Value.agg #[Value.pointer none,Value.pointer none,Value.pointer none]) 3 24:=Pv (by kernel_rfl)
theorem zix:TI prog 97 (Value.map none) 1 8:=Pv (by kernel_rfl)
theorem zfz:TI prog 99 (Value.agg #[Value.slice none 0 0,Value.int .i64 0,Value.int .u8 0]) 3 40:=Pv (by kernel_rfl)
theorem z7P:TI prog 101 (Value.agg #[Value.int .i64 0,Value.slice none 0 0,Value.int .i64 0,Value.int .u8 0]) 4 48:=Pv (by kernel_rfl)
theorem z83:TI prog 102 (Value.slice none 0 0) 1 24:=Pv (by kernel_rfl)
def zgY:TI prog 104 (Value.agg #[Value.int .i64 0,Value.slice none 0 0,Value.int .i64 0,Value.int .u8 0,Value.int .i64 0,Value.int .i64 0,Value.map none,Value.slice none 0 0,Value.bool false,Value.int .i64 0,Value.int .i64 0]) 11 120:=Pv (by kernel_rfl)
theorem zdN:TI prog 105 (Value.slice none 0 0) 1 24:=Pv (by kernel_rfl)
def zgF:TI prog 107 (Value.agg #[Value.int .i64 0,Value.slice none 0 0,Value.slice none 0 0,Value.bool false]) 4 64:=Pv (by kernel_rfl)
theorem zeI:TI prog 108 (Value.pointer none) 1 8:=Pv (by kernel_rfl)
theorem ze9:TI prog 111 (Value.map none) 1 8:=Pv (by kernel_rfl)
def zhf:TI prog 113 (Value.agg #[Value.pointer none,Value.pointer none,Value.pointer none,Value.map none,Value.int .i64 0,Value.int .i64 0,Value.int .i64 0,Value.int .i64 0,Value.int .i64 0,Value.int .i64 0,Value.int .i64 0,Value.bool false]) 12 96:=Pv (by kernel_rfl)
theorem QY:TI prog 118 (Value.agg #[Value.int .i64 0,Value.int .i64 0]) 2 16:=Pv (by kernel_rfl)
def z2N:TI prog 121 (Value.pointer none) 1 8:=Pv (by kernel_rfl)
theorem TT:TI prog 134 (Value.agg #[Value.int .i64 0,Value.int .i64 0,Value.int .i64 0,Value.int .i64 0,Value.int .i64 0,Value.int .i64 0,Value.int .i64 0,Value.int .i64 0]) 8 64:=Pv (by kernel_rfl)
theorem z2A:TI prog 136 (Value.nilIface) 1 16:=Pv (by kernel_rfl)
theorem zeK:TI prog 137 (Value.pointer none) 1 8:=Pv (by kernel_rfl)
def zib:TI prog 139 (Value.agg #[Value.int .i64 0,Value.int .i64 0,Value.int .i64 0,Value.int .i64 0,Value.int .i64 0,Value.int .i64 0,Value.int .i64 0,Value.int .i64 0,Value.nilIface,Value.pointer none]) 10 88:=Pv (by kernel_rfl)
theorem YU:TI prog 141 (Value.agg #[Value.int .i64 0,Value.int .i64 0,Value.int .i64 0]) 3 24:=Pv (by kernel_rfl)
def zhR:TI prog 143 (Value.agg #[Value.int .i64 0,Value.int .i64 0,Value.int .i64 0,Value.int .i64 0,Value.int .i64 0,Value.pointer none,Value.bool false]) 7 56:=Pv (by kernel_rfl)
theorem ze5:TI prog 150 (Value.nilFunc) 1 8:=Pv (by kernel_rfl)
theorem zdO:TI prog 151 (Value.nilFunc) 1 8:=Pv (by kernel_rfl)
def Xy:TI prog 153 (Value.agg #[Value.nilFunc,Value.nilFunc,Value.int .i64 0]) 3 24:=Pv (by kernel_rfl)
def z7Y:TI prog 154 (Value.agg #[Value.nilFunc,Value.nilFunc,Value.int .i64 0,Value.nilFunc,Value.nilFunc,Value.int .i64 0,Value.nilFunc,Value.nilFunc,Value.int .i64 0]) 9 72:=Pv (by kernel_rfl)
def zjA:TI prog 160 (Value.agg #[Value.pointer none,Value.slice none 0 0]) 2 32:=Pv (by kernel_rfl)
theorem z7x:TI prog 169 (Value.map none) 1 8:=Pv (by kernel_rfl)
theorem z5B:TI prog 171 (Value.agg #[Value.slice none 0 0,Value.map none]) 2 32:=Pv (by kernel_rfl)
def zin:TI prog 173 (Value.agg #[Value.int .i64 0,Value.slice none 0 0,Value.map none,Value.slice none 0 0,Value.map none,Value.slice none 0 0,Value.map none,Value.slice none 0 0,Value.map none,Value.int .i64 0,Value.map none]) 11 152:=Pv (by kernel_rfl)
theorem Xx:TI prog 179 (Value.agg #[Value.pointer none,Value.int .i64 0,Value.int .i64 0]) 3 24:=Pv (by kernel_rfl)
def ze2:TI prog 181 (Value.agg #[Value.pointer none,Value.int .i64 0,Value.int .i64 0,Value.slice none 0 0,Value.int .i64 0,Value.int .i64 0,Value.int .u32 0,Value.nilFunc,Value.bool false]) 9 88:=Pv (by kernel_rfl)
def ziU:TI prog 186 (Value.agg #[Value.pointer none,Value.int .i64 0,Value.int .i64 0,Value.int .i64 0,Value.int .u32 0]) 5 40:=Pv (by kernel_rfl)
def z2K:TI prog 190 (Value.int .u8 0) 1 1:=Pv (by kernel_rfl)
def zaL:TI prog 200 (Value.pointer none) 1 8:=Pv (by kernel_rfl)
theorem z7w:TI prog 202 (Value.agg #[Value.string ⟨#[]⟩,Value.bool false]) 2 24:=Pv (by kernel_rfl)
def zgd:TI prog 204 (Value.agg #[Value.string ⟨#[]⟩,Value.bool false,Value.int .i64 0]) 3 32:=Pv (by kernel_rfl)
theorem z8H:TI prog 213 (Value.pointer none) 1 8:=Pv (by kernel_rfl)
def Vz:TI prog 215 (Value.agg #[Value.int .i64 0,Value.int .i64 0]) 2 16:=Pv (by kernel_rfl)
theorem Tj:TI prog 220 (Value.agg #[Value.int .i64 0,Value.int .u64 0,Value.int .i64 0,Value.int .i64 0]) 4 32:=Pv (by kernel_rfl)
def ziD:TI prog 233 (Value.agg #[Value.nilIface,Value.int .i64 0,Value.int .i64 0]) 3 32:=Pv (by kernel_rfl)
def Pw:TI prog 245 (Value.agg #[Value.bool false,Value.bool false,Value.int .i64 0]) 3 16:=Pv (by kernel_rfl)
def QJ:TI prog 252 (Value.agg #[Value.slice none 0 0,Value.int .i64 0]) 2 32:=Pv (by kernel_rfl)
def zhW:TI prog 253 (Value.agg #[Value.slice none 0 0,Value.int .i64 0,Value.slice none 0 0,Value.int .i64 0,Value.slice none 0 0,Value.int .i64 0,Value.slice none 0 0,Value.int .i64 0,Value.slice none 0 0,Value.int .i64 0,Value.slice none 0 0,Value.int .i64 0,Value.slice none 0 0,Value.int .i64 0,Value.slice none 0 0,Value.int .i64 0,Value.slice none 0 0,Value.int .i64 0,Value.slice none 0 0,Value.int .i64 0,Value.slice none 0 0,Value.int .i64 0,Value.slice none 0 0,Value.int .i64 0,Value.slice none 0 0,Value.int .i64 0,Value.slice none 0 0,Value.int .i64 0,Value.slice none 0 0,Value.int .i64 0,Value.slice none 0 0,Value.int .i64 0,Value.slice none 0 0,Value.int .i64 0]) 34 544:=Pv (by kernel_rfl)
theorem zea:TI prog 255 (Value.agg #[Value.slice none 0 0,Value.int .i64 0,Value.slice none 0 0,Value.int .i64 0,Value.slice none 0 0,Value.int .i64 0,Value.slice none 0 0,Value.int .i64 0,Value.slice none 0 0,Value.int .i64 0,Value.slice none 0 0,Value.int .i64 0,Value.slice none 0 0,Value.int .i64 0,Value.slice none 0 0,Value.int .i64 0,Value.slice none 0 0,Value.int .i64 0,Value.slice none 0 0,Value.int .i64 0,Value.slice none 0 0,Value.int .i64 0,Value.slice none 0 0,Value.int .i64 0,Value.slice none 0 0,Value.int .i64 0,Value.slice none 0 0,Value.int .i64 0,Value.slice none 0 0,Value.int .i64 0,Value.slice none 0 0,Value.int .i64 0,Value.slice none 0 0,Value.int .i64 0,Value.int .i64 0]) 35 552:=Pv (by kernel_rfl)
def zjg:TI prog 257 (Value.agg #[Value.int .i64 0,Value.int .i64 0,Value.int .i64 0,Value.int .i64 0,Value.int .i64 0,Value.slice none 0 0,Value.int .i64 0,Value.slice none 0 0,Value.int .i64 0,Value.slice none 0 0,Value.int .i64 0,Value.slice none 0 0,Value.int .i64 0,Value.slice none 0 0,Value.int .i64 0,Value.slice none 0 0,Value.int .i64 0,Value.slice none 0 0,Value.int .i64 0,Value.slice none 0 0,Value.int .i64 0,Value.slice none 0 0,Value.int .i64 0,Value.slice none 0 0,Value.int .i64 0,Value.slice none 0 0,Value.int .i64 0,Value.slice none 0 0,Value.int .i64 0,Value.slice none 0 0,Value.int .i64 0,Value.slice none 0 0,Value.int .i64 0,Value.slice none 0 0,Value.int .i64 0,Value.slice none 0 0,Value.int .i64 0,Value.slice none 0 0,Value.int .i64 0,Value.int .i64 0,Value.pointer none,Value.int .i64 0,Value.int .i64 0]) 43 616:=Pv (by kernel_rfl)
def TY:TI prog 260 (Value.agg #[Value.int .i64 0,Value.int .i64 0,Value.int .i64 0]) 3 24:=Pv (by kernel_rfl)
def zjF:TI prog 267 (Value.agg #[Value.slice none 0 0,Value.int .i64 0]) 2 32:=Pv (by kernel_rfl)
theorem z2E:TI prog 273 (Value.pointer none) 1 8:=Pv (by kernel_rfl)
def zii:TI prog 277 (Value.agg #[Value.int .i64 0,Value.int .u64 0,Value.int .i64 0,Value.int .i64 0,Value.nilIface]) 5 48:=Pv (by kernel_rfl)
def zdQ:TI prog 278 (Value.pointer none) 1 8:=Pv (by kernel_rfl)
def zbL:TI prog 291 (Value.slice none 0 0) 1 24:=Pv (by kernel_rfl)
theorem QI:TI prog 294 (Value.agg #[Value.int .u8 0,Value.int .u64 0]) 2 16:=Pv (by kernel_rfl)
def Vv:TI prog 296 (Value.agg #[Value.int .u8 0,Value.int .u64 0,Value.int .u64 0]) 3 24:=Pv (by kernel_rfl)
def zgs:TI prog 301 (Value.agg #[Value.string ⟨#[]⟩,Value.int .i64 0]) 2 24:=Pv (by kernel_rfl)
def zeg:TI prog 306 (Value.nilFunc) 1 8:=Pv (by kernel_rfl)
def Sb:TI prog 308 (Value.agg #[Value.int .i64 0,Value.int .i64 0]) 2 16:=Pv (by kernel_rfl)
def WB:TI prog 313 (Value.agg #[Value.int .i64 0,Value.string ⟨#[]⟩]) 2 24:=Pv (by kernel_rfl)
def z19:TI prog 326 (Value.agg #[Value.int .i64 0,Value.int .i64 0]) 2 16:=Pv (by kernel_rfl)
def SN:TI prog 329 (Value.agg #[Value.int .u64 0,Value.int .i64 0]) 2 16:=Pv (by kernel_rfl)
def Us:TI prog 330 (Value.agg #[Value.int .u64 0,Value.int .i64 0,Value.int .u64 0,Value.int .i64 0]) 4 32:=Pv (by kernel_rfl)
def zhU:TI prog 339 (Value.agg #[Value.pointer none,Value.bool false]) 2 16:=Pv (by kernel_rfl)
def zij:TI prog 353 (Value.agg #[Value.pointer none,Value.bool false]) 2 16:=Pv (by kernel_rfl)
def z5x:TI prog 370 (Value.int .u64 0) 1 8:=Pv (by kernel_rfl)
def z6c:Ql prog 30 1 1 1 false:=⟨_,_,_,_,_,underlying30,rfl,rfl,z8Z,underlying27,rfl⟩
def zeX:Ql prog 30 2 2 1 false:=⟨_,_,_,_,_,underlying30,rfl,rfl,z9t,underlying28,rfl⟩
def zff:Ql prog 30 3 3 1 false:=⟨_,_,_,_,_,underlying30,rfl,rfl,z9t,underlying28,rfl⟩
def zf2:Ql prog 30 4 4 1 false:=⟨_,_,_,_,_,underlying30,rfl,rfl,PV,underlying3,rfl⟩
def zkh:SP prog 30 [(0,1),(1,1),(2,1),(3,1),(4,1)]:=⟨_,underlying30,λ_=>by simp[zf9.size,z8Z.size,z9t.size,PV.size,Sem.run_bind,Sem.run_pure]⟩
def z5L:Ql prog 61 0 0 1 false:=⟨_,_,_,_,_,underlying61,rfl,rfl,P6,underlying59,rfl⟩
def z0Z:Ql prog 61 1 1 1 false:=⟨_,_,_,_,_,underlying61,rfl,rfl,P6,underlying59,rfl⟩
def Zs:Ql prog 66 0 0 1 false:=⟨_,_,_,_,_,underlying66,rfl,rfl,PV,underlying3,rfl⟩
def Zi:Ql prog 66 1 1 1 false:=⟨_,_,_,_,_,underlying66,rfl,rfl,PV,underlying3,rfl⟩
def zjT:SP prog 66 [(0,1),(1,1)]:=⟨_,underlying66,λ_=>by simp[PV.size,Sem.run_bind,Sem.run_pure]⟩
def z1K:Ql prog 75 0 0 1 false:=⟨_,_,_,_,_,underlying75,rfl,rfl,PV,underlying3,rfl⟩
def Zu:Ql prog 75 1 1 1 false:=⟨_,_,_,_,_,underlying75,rfl,rfl,PV,underlying3,rfl⟩
def zbQ:Ql prog 75 2 2 1 false:=⟨_,_,_,_,_,underlying75,rfl,rfl,PV,underlying3,rfl⟩
def zaI:Ql prog 75 3 3 1 false:=⟨_,_,_,_,_,underlying75,rfl,rfl,PV,underlying3,rfl⟩
def TC:Ql prog 75 4 4 1 false:=⟨_,_,_,_,_,underlying75,rfl,rfl,PV,underlying3,rfl⟩
def zcY:SP prog 75 [(0,1),(1,1),(2,1),(3,1),(4,1)]:=⟨_,underlying75,λ_=>by simp[PV.size,Sem.run_bind,Sem.run_pure]⟩
def zb2:Ql prog 79 1 1 1 false:=⟨_,_,_,_,_,underlying79,rfl,rfl,PV,underlying3,rfl⟩
def zc6:Ql prog 79 2 2 1 false:=⟨_,_,_,_,_,underlying79,rfl,rfl,PV,underlying3,rfl⟩
def zb9:Ql prog 79 3 3 1 false:=⟨_,_,_,_,_,underlying79,rfl,rfl,PV,underlying3,rfl⟩
def zfw:Ql prog 79 4 4 1 false:=⟨_,_,_,_,_,underlying79,rfl,rfl,PV,underlying3,rfl⟩
def zfW:Ql prog 79 6 6 1 false:=⟨_,_,_,_,_,underlying79,rfl,rfl,PV,underlying3,rfl⟩
def zkw:SP prog 79 [(0,1),(1,1),(2,1),(3,1),(4,1),(5,1),(6,1)]:=⟨_,underlying79,λ_=>by simp[PV.size,Sem.run_bind,Sem.run_pure]⟩
def Y9:Ql prog 86 0 0 1 false:=⟨_,_,_,_,_,underlying86,rfl,rfl,z9t,underlying28,rfl⟩
def zfC:Ql prog 86 1 1 1 false:=⟨_,_,_,_,_,underlying86,rfl,rfl,z9t,underlying28,rfl⟩
def VQ:Ql prog 86 2 2 1 false:=⟨_,_,_,_,_,underlying86,rfl,rfl,z1Z,underlying83,rfl⟩
def Vg:Ql prog 86 3 3 1 false:=⟨_,_,_,_,_,underlying86,rfl,rfl,z1Z,underlying83,rfl⟩
def WH:Ql prog 86 4 4 1 false:=⟨_,_,_,_,_,underlying86,rfl,rfl,z1Z,underlying83,rfl⟩
def zaE:Ql prog 86 5 5 1 false:=⟨_,_,_,_,_,underlying86,rfl,rfl,PV,underlying3,rfl⟩
def z73:Ql prog 86 6 6 1 false:=⟨_,_,_,_,_,underlying86,rfl,rfl,zbw,underlying84,rfl⟩
def z3J:Ql prog 86 7 7 1 false:=⟨_,_,_,_,_,underlying86,rfl,rfl,UH,underlying4,rfl⟩
def zbq:Ql prog 86 8 8 1 false:=⟨_,_,_,_,_,underlying86,rfl,rfl,UH,underlying4,rfl⟩
def zkB:SP prog 86 [(0,1),(1,1),(2,1),(3,1),(4,1),(5,1),(6,1),(7,1),(8,1)]:=⟨_,underlying86,λ_=>by simp[z9t.size,PV.size,UH.size,z1Z.size,zbw.size,Sem.run_bind,Sem.run_pure]⟩
def zfG:Ql prog 99 0 0 1 false:=⟨_,_,_,_,_,underlying99,rfl,rfl,z14,underlying37,rfl⟩
def zfF:Ql prog 99 1 1 1 false:=⟨_,_,_,_,_,underlying99,rfl,rfl,PV,underlying3,rfl⟩
def zfh:Ql prog 99 2 2 1 false:=⟨_,_,_,_,_,underlying99,rfl,rfl,Ye,underlying5,rfl⟩
def z0A:Ql prog 101 0 0 1 false:=⟨_,_,_,_,_,underlying101,rfl,rfl,PV,underlying3,rfl⟩
def zcV:Ql prog 101 1 1 3 true:=⟨_,_,_,_,_,underlying101,rfl,rfl,zfz,underlying99,rfl⟩
def zjd:SP prog 101 [(0,1),(1,3)]:=⟨_,underlying101,λ_=>by simp[PV.size,zfz.size,Sem.run_bind,Sem.run_pure]⟩
def Xd:Ql prog 104 0 0 4 true:=⟨_,_,_,_,_,underlying104,rfl,rfl,z7P,underlying101,rfl⟩
def z0r:Ql prog 104 1 4 2 true:=⟨_,_,_,_,_,underlying104,rfl,rfl,zaU,underlying66,rfl⟩
def z3E:Ql prog 104 2 6 1 false:=⟨_,_,_,_,_,underlying104,rfl,rfl,zix,underlying97,rfl⟩
def Yn:Ql prog 104 3 7 1 false:=⟨_,_,_,_,_,underlying104,rfl,rfl,z83,underlying102,rfl⟩
def z3w:Ql prog 104 4 8 1 false:=⟨_,_,_,_,_,underlying104,rfl,rfl,UH,underlying4,rfl⟩
def z7v:Ql prog 104 5 9 1 false:=⟨_,_,_,_,_,underlying104,rfl,rfl,PV,underlying3,rfl⟩
def z8g:Ql prog 104 6 10 1 false:=⟨_,_,_,_,_,underlying104,rfl,rfl,PV,underlying3,rfl⟩
def ziH:SP prog 104 [(0,4),(4,2),(6,1),(7,1),(8,1),(9,1),(10,1)]:=⟨_,underlying104,λ_=>by simp[z7P.size,z83.size,PV.size,UH.size,zaU.size,zix.size,Sem.run_bind,Sem.run_pure]⟩
def z8I:Ql prog 107 0 0 1 false:=⟨_,_,_,_,_,underlying107,rfl,rfl,PV,underlying3,rfl⟩
def UQ:Ql prog 107 1 1 1 false:=⟨_,_,_,_,_,underlying107,rfl,rfl,zdN,underlying105,rfl⟩
def zd6:Ql prog 107 3 3 1 false:=⟨_,_,_,_,_,underlying107,rfl,rfl,UH,underlying4,rfl⟩
def zgB:SP prog 107 [(0,1),(1,1),(2,1),(3,1)]:=⟨_,underlying107,λ_=>by simp[zdN.size,PV.size,UH.size,Sem.run_bind,Sem.run_pure]⟩
def UW:Ql prog 113 0 0 1 false:=⟨_,_,_,_,_,underlying113,rfl,rfl,zf9,underlying26,rfl⟩
def z3D:Ql prog 113 1 1 1 false:=⟨_,_,_,_,_,underlying113,rfl,rfl,zhx,underlying67,rfl⟩
def z7Z:Ql prog 113 2 2 1 false:=⟨_,_,_,_,_,underlying113,rfl,rfl,zeI,underlying108,rfl⟩
def UR:Ql prog 113 3 3 1 false:=⟨_,_,_,_,_,underlying113,rfl,rfl,ze9,underlying111,rfl⟩
def VP:Ql prog 113 4 4 7 true:=⟨_,_,_,_,_,underlying113,rfl,rfl,z2a,underlying79,rfl⟩
def z8f:Ql prog 113 5 11 1 false:=⟨_,_,_,_,_,underlying113,rfl,rfl,UH,underlying4,rfl⟩
def zi1:SP prog 113 [(0,1),(1,1),(2,1),(3,1),(4,7),(11,1)]:=⟨_,underlying113,λ_=>by simp[zeI.size,ze9.size,zf9.size,UH.size,zhx.size,z2a.size,Sem.run_bind,Sem.run_pure]⟩
def QT:Ql prog 118 0 0 1 false:=⟨_,_,_,_,_,underlying118,rfl,rfl,PV,underlying3,rfl⟩
def QZ:Ql prog 118 1 1 1 false:=⟨_,_,_,_,_,underlying118,rfl,rfl,PV,underlying3,rfl⟩
def zjC:SP prog 118 [(0,1),(1,1)]:=⟨_,underlying118,λ_=>by simp[PV.size,Sem.run_bind,Sem.run_pure]⟩
def Ua:Ql prog 134 0 0 1 false:=⟨_,_,_,_,_,underlying134,rfl,rfl,PV,underlying3,rfl⟩
def z0s:Ql prog 134 1 1 1 false:=⟨_,_,_,_,_,underlying134,rfl,rfl,PV,underlying3,rfl⟩
def Yj:Ql prog 134 2 2 5 true:=⟨_,_,_,_,_,underlying134,rfl,rfl,RD,underlying75,rfl⟩
def Vc:Ql prog 134 3 7 1 false:=⟨_,_,_,_,_,underlying134,rfl,rfl,PV,underlying3,rfl⟩
def zel:SP prog 134 [(0,1),(1,1),(2,5),(7,1)]:=⟨_,underlying134,λ_=>by simp[PV.size,RD.size,Sem.run_bind,Sem.run_pure]⟩
def VG:Ql prog 139 0 0 8 true:=⟨_,_,_,_,_,underlying139,rfl,rfl,TT,underlying134,rfl⟩
def zdm:Ql prog 139 1 8 1 false:=⟨_,_,_,_,_,underlying139,rfl,rfl,z2A,underlying136,rfl⟩
def z8F:Ql prog 139 2 9 1 false:=⟨_,_,_,_,_,underlying139,rfl,rfl,zeK,underlying137,rfl⟩
def zgC:SP prog 139 [(0,8),(8,1),(9,1)]:=⟨_,underlying139,λ_=>by simp[TT.size,z2A.size,zeK.size,Sem.run_bind,Sem.run_pure]⟩
def z3k:Ql prog 141 0 0 1 false:=⟨_,_,_,_,_,underlying141,rfl,rfl,PV,underlying3,rfl⟩
def VW:Ql prog 141 1 1 1 false:=⟨_,_,_,_,_,underlying141,rfl,rfl,PV,underlying3,rfl⟩
def Yr:Ql prog 141 2 2 1 false:=⟨_,_,_,_,_,underlying141,rfl,rfl,PV,underlying3,rfl⟩
def zj6:SP prog 141 [(0,1),(1,1),(2,1)]:=⟨_,underlying141,λ_=>by simp[PV.size,Sem.run_bind,Sem.run_pure]⟩
def S7:Ql prog 143 0 0 3 true:=⟨_,_,_,_,_,underlying143,rfl,rfl,YU,underlying141,rfl⟩
def z0z:Ql prog 143 1 3 2 true:=⟨_,_,_,_,_,underlying143,rfl,rfl,QY,underlying118,rfl⟩
def WL:Ql prog 143 2 5 1 false:=⟨_,_,_,_,_,underlying143,rfl,rfl,z8Z,underlying27,rfl⟩
def z7W:Ql prog 143 3 6 1 false:=⟨_,_,_,_,_,underlying143,rfl,rfl,UH,underlying4,rfl⟩
def zhy:SP prog 143 [(0,3),(3,2),(5,1),(6,1)]:=⟨_,underlying143,λ_=>by simp[QY.size,YU.size,z8Z.size,UH.size,Sem.run_bind,Sem.run_pure]⟩
def zdl:Ql prog 153 0 0 1 false:=⟨_,_,_,_,_,underlying153,rfl,rfl,ze5,underlying150,rfl⟩
def zdD:Ql prog 153 1 1 1 false:=⟨_,_,_,_,_,underlying153,rfl,rfl,zdO,underlying151,rfl⟩
def zcs:Ql prog 153 2 2 1 false:=⟨_,_,_,_,_,underlying153,rfl,rfl,zbw,underlying84,rfl⟩
def zce:SP prog 153 [(0,1),(1,1),(2,1)]:=⟨_,underlying153,λ_=>by simp[ze5.size,zdO.size,zbw.size,Sem.run_bind,Sem.run_pure]⟩
def z0j:Ql prog 160 1 1 1 false:=⟨_,_,_,_,_,underlying160,rfl,rfl,z2e,underlying93,rfl⟩
def Qb:Ql prog 171 0 0 1 false:=⟨_,_,_,_,_,underlying171,rfl,rfl,z14,underlying37,rfl⟩
def YQ:Ql prog 171 1 1 1 false:=⟨_,_,_,_,_,underlying171,rfl,rfl,z7x,underlying169,rfl⟩
def Sw:Ql prog 173 0 0 1 false:=⟨_,_,_,_,_,underlying173,rfl,rfl,PV,underlying3,rfl⟩
def Qy:Ql prog 173 1 1 2 true:=⟨_,_,_,_,_,underlying173,rfl,rfl,z5B,underlying171,rfl⟩
def Rj:Ql prog 173 2 3 2 true:=⟨_,_,_,_,_,underlying173,rfl,rfl,z5B,underlying171,rfl⟩
def QN:Ql prog 173 3 5 2 true:=⟨_,_,_,_,_,underlying173,rfl,rfl,z5B,underlying171,rfl⟩
def Re:Ql prog 173 4 7 2 true:=⟨_,_,_,_,_,underlying173,rfl,rfl,z5B,underlying171,rfl⟩
def Rb:Ql prog 173 5 9 1 false:=⟨_,_,_,_,_,underlying173,rfl,rfl,PV,underlying3,rfl⟩
def z0E:Ql prog 173 6 10 1 false:=⟨_,_,_,_,_,underlying173,rfl,rfl,z7x,underlying169,rfl⟩
def zgU:SP prog 173 [(0,1),(1,2),(3,2),(5,2),(7,2),(9,1),(10,1)]:=⟨_,underlying173,λ_=>by simp[z7x.size,z5B.size,PV.size,Sem.run_bind,Sem.run_pure]⟩
def Vd:Ql prog 179 0 0 1 false:=⟨_,_,_,_,_,underlying179,rfl,rfl,z8Z,underlying27,rfl⟩
def Uf:Ql prog 179 1 1 2 true:=⟨_,_,_,_,_,underlying179,rfl,rfl,QY,underlying118,rfl⟩
def zeh:SP prog 179 [(0,1),(1,2)]:=⟨_,underlying179,λ_=>by simp[QY.size,z8Z.size,Sem.run_bind,Sem.run_pure]⟩
def WK:Ql prog 181 0 0 3 true:=⟨_,_,_,_,_,underlying181,rfl,rfl,Xx,underlying179,rfl⟩
def SS:Ql prog 181 1 3 1 false:=⟨_,_,_,_,_,underlying181,rfl,rfl,z2e,underlying93,rfl⟩
def YZ:Ql prog 181 2 4 1 false:=⟨_,_,_,_,_,underlying181,rfl,rfl,PV,underlying3,rfl⟩
def z0m:Ql prog 181 3 5 1 false:=⟨_,_,_,_,_,underlying181,rfl,rfl,PV,underlying3,rfl⟩
def z3L:Ql prog 181 4 6 1 false:=⟨_,_,_,_,_,underlying181,rfl,rfl,P6,underlying59,rfl⟩
def z0p:Ql prog 181 5 7 1 false:=⟨_,_,_,_,_,underlying181,rfl,rfl,zfT,underlying54,rfl⟩
def YG:Ql prog 181 6 8 1 false:=⟨_,_,_,_,_,underlying181,rfl,rfl,UH,underlying4,rfl⟩
def zes:SP prog 181 [(0,3),(3,1),(4,1),(5,1),(6,1),(7,1),(8,1)]:=⟨_,underlying181,λ_=>by simp[Xx.size,PV.size,UH.size,zfT.size,P6.size,z2e.size,Sem.run_bind,Sem.run_pure]⟩
def Ys:Ql prog 186 0 0 3 true:=⟨_,_,_,_,_,underlying186,rfl,rfl,Xx,underlying179,rfl⟩
def z0G:Ql prog 186 1 3 1 false:=⟨_,_,_,_,_,underlying186,rfl,rfl,PV,underlying3,rfl⟩
def zdC:Ql prog 186 2 4 1 false:=⟨_,_,_,_,_,underlying186,rfl,rfl,P6,underlying59,rfl⟩
def zhG:SP prog 186 [(0,3),(3,1),(4,1)]:=⟨_,underlying186,λ_=>by simp[Xx.size,PV.size,P6.size,Sem.run_bind,Sem.run_pure]⟩
def z2X:Ql prog 202 0 0 1 false:=⟨_,_,_,_,_,underlying202,rfl,rfl,ti9,underlying9,rfl⟩
def z3a:Ql prog 202 1 1 1 false:=⟨_,_,_,_,_,underlying202,rfl,rfl,UH,underlying4,rfl⟩
def zgc:SP prog 202 [(0,1),(1,1)]:=⟨_,underlying202,λ_=>by simp[UH.size,ti9.size,Sem.run_bind,Sem.run_pure]⟩
def VZ:Ql prog 204 0 0 2 true:=⟨_,_,_,_,_,underlying204,rfl,rfl,z7w,underlying202,rfl⟩
def zcG:Ql prog 204 1 2 1 false:=⟨_,_,_,_,_,underlying204,rfl,rfl,PV,underlying3,rfl⟩
def zg8:SP prog 204 [(0,2),(2,1)]:=⟨_,underlying204,λ_=>by simp[z7w.size,PV.size,Sem.run_bind,Sem.run_pure]⟩
def zcK:Ql prog 215 0 0 1 false:=⟨_,_,_,_,_,underlying215,rfl,rfl,PV,underlying3,rfl⟩
def zdz:Ql prog 215 1 1 1 false:=⟨_,_,_,_,_,underlying215,rfl,rfl,PV,underlying3,rfl⟩
def z00:SP prog 215 [(0,1),(1,1)]:=⟨_,underlying215,λ_=>by simp[PV.size,Sem.run_bind,Sem.run_pure]⟩
def YD:Ql prog 220 0 0 1 false:=⟨_,_,_,_,_,underlying220,rfl,rfl,PV,underlying3,rfl⟩
def zcz:Ql prog 220 1 1 1 false:=⟨_,_,_,_,_,underlying220,rfl,rfl,Tv,underlying39,rfl⟩
def Td:Ql prog 220 2 2 1 false:=⟨_,_,_,_,_,underlying220,rfl,rfl,PV,underlying3,rfl⟩
def YF:Ql prog 220 3 3 1 false:=⟨_,_,_,_,_,underlying220,rfl,rfl,PV,underlying3,rfl⟩
def zg7:SP prog 220 [(0,1),(1,1),(2,1),(3,1)]:=⟨_,underlying220,λ_=>by simp[PV.size,Tv.size,Sem.run_bind,Sem.run_pure]⟩
def zcU:Ql prog 233 0 0 1 false:=⟨_,_,_,_,_,underlying233,rfl,rfl,z2A,underlying136,rfl⟩
def zcr:Ql prog 233 1 1 1 false:=⟨_,_,_,_,_,underlying233,rfl,rfl,PV,underlying3,rfl⟩
def z3o:Ql prog 233 2 2 1 false:=⟨_,_,_,_,_,underlying233,rfl,rfl,PV,underlying3,rfl⟩
def zjw:SP prog 233 [(0,1),(1,1),(2,1)]:=⟨_,underlying233,λ_=>by simp[z2A.size,PV.size,Sem.run_bind,Sem.run_pure]⟩
def zct:Ql prog 245 0 0 1 false:=⟨_,_,_,_,_,underlying245,rfl,rfl,UH,underlying4,rfl⟩
def zcB:Ql prog 245 1 1 1 false:=⟨_,_,_,_,_,underlying245,rfl,rfl,UH,underlying4,rfl⟩
def z3u:Ql prog 245 2 2 1 false:=⟨_,_,_,_,_,underlying245,rfl,rfl,PV,underlying3,rfl⟩
def Wa:SP prog 245 [(0,1),(1,1),(2,1)]:=⟨_,underlying245,λ_=>by simp[PV.size,UH.size,Sem.run_bind,Sem.run_pure]⟩
def Sv:Ql prog 252 0 0 1 false:=⟨_,_,_,_,_,underlying252,rfl,rfl,Tz,underlying62,rfl⟩
def z33:Ql prog 252 1 1 1 false:=⟨_,_,_,_,_,underlying252,rfl,rfl,PV,underlying3,rfl⟩
def zeD:SP prog 252 [(0,1),(1,1)]:=⟨_,underlying252,λ_=>by simp[PV.size,Tz.size,Sem.run_bind,Sem.run_pure]⟩
def z7A:Ql prog 255 0 0 34 true:=⟨_,_,_,_,_,underlying255,rfl,rfl,zhW,underlying253,rfl⟩
def UZ:Ql prog 255 1 34 1 false:=⟨_,_,_,_,_,underlying255,rfl,rfl,PV,underlying3,rfl⟩
def WU:Ql prog 257 0 0 5 true:=⟨_,_,_,_,_,underlying257,rfl,rfl,RD,underlying75,rfl⟩
def Yk:Ql prog 257 1 5 35 true:=⟨_,_,_,_,_,underlying257,rfl,rfl,zea,underlying255,rfl⟩
def z3n:Ql prog 257 2 40 1 false:=⟨_,_,_,_,_,underlying257,rfl,rfl,z8H,underlying213,rfl⟩
def z30:Ql prog 257 3 41 1 false:=⟨_,_,_,_,_,underlying257,rfl,rfl,PV,underlying3,rfl⟩
def zcv:Ql prog 257 4 42 1 false:=⟨_,_,_,_,_,underlying257,rfl,rfl,PV,underlying3,rfl⟩
def zgv:SP prog 257 [(0,5),(5,35),(40,1),(41,1),(42,1)]:=⟨_,underlying257,λ_=>by simp[z8H.size,zea.size,PV.size,RD.size,Sem.run_bind,Sem.run_pure]⟩
def To:Ql prog 260 0 0 1 false:=⟨_,_,_,_,_,underlying260,rfl,rfl,PV,underlying3,rfl⟩
def Ue:Ql prog 260 1 1 1 false:=⟨_,_,_,_,_,underlying260,rfl,rfl,PV,underlying3,rfl⟩
def z0F:Ql prog 260 2 2 1 false:=⟨_,_,_,_,_,underlying260,rfl,rfl,PV,underlying3,rfl⟩
def zgL:SP prog 260 [(0,1),(1,1),(2,1)]:=⟨_,underlying260,λ_=>by simp[PV.size,Sem.run_bind,Sem.run_pure]⟩
def Yo:Ql prog 267 0 0 1 false:=⟨_,_,_,_,_,underlying267,rfl,rfl,z2e,underlying93,rfl⟩
def WN:Ql prog 267 1 1 1 false:=⟨_,_,_,_,_,underlying267,rfl,rfl,PV,underlying3,rfl⟩
def zi4:SP prog 267 [(0,1),(1,1)]:=⟨_,underlying267,λ_=>by simp[PV.size,z2e.size,Sem.run_bind,Sem.run_pure]⟩
def Sq:Ql prog 277 0 0 4 true:=⟨_,_,_,_,_,underlying277,rfl,rfl,Tj,underlying220,rfl⟩
def z3e:Ql prog 277 1 4 1 false:=⟨_,_,_,_,_,underlying277,rfl,rfl,z2A,underlying136,rfl⟩
def zgx:SP prog 277 [(0,4),(4,1)]:=⟨_,underlying277,λ_=>by simp[z2A.size,Tj.size,Sem.run_bind,Sem.run_pure]⟩
def S6:Ql prog 294 0 0 1 false:=⟨_,_,_,_,_,underlying294,rfl,rfl,Ye,underlying5,rfl⟩
def Xh:Ql prog 294 1 1 1 false:=⟨_,_,_,_,_,underlying294,rfl,rfl,Tv,underlying39,rfl⟩
def zeJ:SP prog 294 [(0,1),(1,1)]:=⟨_,underlying294,λ_=>by simp[Tv.size,Ye.size,Sem.run_bind,Sem.run_pure]⟩
def z80:Ql prog 296 0 0 2 true:=⟨_,_,_,_,_,underlying296,rfl,rfl,QI,underlying294,rfl⟩
def z8k:Ql prog 296 1 2 1 false:=⟨_,_,_,_,_,underlying296,rfl,rfl,Tv,underlying39,rfl⟩
def zdR:SP prog 296 [(0,2),(2,1)]:=⟨_,underlying296,λ_=>by simp[QI.size,Tv.size,Sem.run_bind,Sem.run_pure]⟩
def z3b:Ql prog 301 0 0 1 false:=⟨_,_,_,_,_,underlying301,rfl,rfl,ti9,underlying9,rfl⟩
def Va:Ql prog 301 1 1 1 false:=⟨_,_,_,_,_,underlying301,rfl,rfl,PV,underlying3,rfl⟩
def zhB:SP prog 301 [(0,1),(1,1)]:=⟨_,underlying301,λ_=>by simp[PV.size,ti9.size,Sem.run_bind,Sem.run_pure]⟩
def Th:Ql prog 308 0 0 1 false:=⟨_,_,_,_,_,underlying308,rfl,rfl,PV,underlying3,rfl⟩
def St:Ql prog 308 1 1 1 false:=⟨_,_,_,_,_,underlying308,rfl,rfl,PV,underlying3,rfl⟩
def zca:SP prog 308 [(0,1),(1,1)]:=⟨_,underlying308,λ_=>by simp[PV.size,Sem.run_bind,Sem.run_pure]⟩
def z0C:Ql prog 313 0 0 1 false:=⟨_,_,_,_,_,underlying313,rfl,rfl,PV,underlying3,rfl⟩
def z2W:Ql prog 313 1 1 1 false:=⟨_,_,_,_,_,underlying313,rfl,rfl,ti9,underlying9,rfl⟩
def zi7:SP prog 313 [(0,1),(1,1)]:=⟨_,underlying313,λ_=>by simp[PV.size,ti9.size,Sem.run_bind,Sem.run_pure]⟩
def z3G:Ql prog 326 0 0 1 false:=⟨_,_,_,_,_,underlying326,rfl,rfl,PV,underlying3,rfl⟩
def z8c:Ql prog 326 1 1 1 false:=⟨_,_,_,_,_,underlying326,rfl,rfl,PV,underlying3,rfl⟩
def zjv:SP prog 326 [(0,1),(1,1)]:=⟨_,underlying326,λ_=>by simp[PV.size,Sem.run_bind,Sem.run_pure]⟩
def z8r:Ql prog 329 0 0 1 false:=⟨_,_,_,_,_,underlying329,rfl,rfl,Tv,underlying39,rfl⟩
def z0v:Ql prog 329 1 1 1 false:=⟨_,_,_,_,_,underlying329,rfl,rfl,PV,underlying3,rfl⟩
def zaA:SP prog 329 [(0,1),(1,1)]:=⟨_,underlying329,λ_=>by simp[PV.size,Tv.size,Sem.run_bind,Sem.run_pure]⟩
def zdF:Ql prog 339 0 0 1 false:=⟨_,_,_,_,_,underlying339,rfl,rfl,z2E,underlying273,rfl⟩
def TK:Ql prog 339 1 1 1 false:=⟨_,_,_,_,_,underlying339,rfl,rfl,UH,underlying4,rfl⟩
def zjH:SP prog 339 [(0,1),(1,1)]:=⟨_,underlying339,λ_=>by simp[z2E.size,UH.size,Sem.run_bind,Sem.run_pure]⟩
def zcJ:Ql prog 353 0 0 1 false:=⟨_,_,_,_,_,underlying353,rfl,rfl,z2E,underlying273,rfl⟩
def z0o:Ql prog 353 1 1 1 false:=⟨_,_,_,_,_,underlying353,rfl,rfl,UH,underlying4,rfl⟩
def zih:SP prog 353 [(0,1),(1,1)]:=⟨_,underlying353,λ_=>by simp[z2E.size,UH.size,Sem.run_bind,Sem.run_pure]⟩
def cf6:=PA func6
def cf7:=PA func7
def cf8:=PA func8
def cf9:=PA func9
def zjn:=PA func10
def zkl:=PA func11
def zjR:=PA func12
def zkZ:=PA func13
def zl6:=PA func14
def zjU:=PA func16
def zkM:=PA func18
def zjI:=PA func20
def zkA:=PA func21
def zk4:=PA func22
def ziw:=PA func23
def zgK:=PA func24
def ziv:=PA func25
def zk1:=PA func26
def zkG:=PA func27
def zl8:=PA func28
def zjL:=PA func29
def z7k:=PA func30
def zhK:=PA func31
def zf1:=PA func32
def zjZ:=PA func33
def zfb:=PA func34
def zgj:=PA func35
def zjK:=PA func36
def zks:=PA func37
def zk8:=PA func40
def zhd:=PA func44
def zk0:=PA func45
def zke:=PA func46
def zjN:=PA func47
def zkD:=PA func48
def z5b:=PA func49
def ziN:=PA func50
def zl3:=PA func51
def zku:=PA func52
def zkq:=PA func53
def zkH:=PA func54
def zkg:=PA func55
def zgP:=PA func56
def zjj:=PA func57
def zkE:=PA func58
def zcF:=PA func59
def zjB:=PA func60
def zf4:=PA func61
def zfN:=PA func62
def zkz:=PA func63
def zkR:=PA func64
def ziy:=PA func65
def zdo:=PA func66
def z3d:=PA func67
def zcw:=PA func68
def zjW:=PA func69
def zkK:=PA func70
def zhb:=PA func72
def zjP:=PA func73
def zkj:=PA func74
def zkU:=PA func75
def zkQ:=PA func76
def zfQ:=PA func77
def zky:=PA func78
def zgo:=PA func79
def zhL:=PA func80
def zfZ:=PA func81
def zfr:=PA func82
def zhF:=PA func83
def zl2:=PA func84
def zgi:=PA func85
def zhi:=PA func86
def ziO:=PA func87
def zis:=PA func88
def zjM:=PA func89
def zh1:=PA func90
def zkI:=PA func91
def zjY:=PA func92
def zkt:=PA func97
def zjc:=PA func98
def z9j:=PA func99
def zjp:=PA func100
def ziq:=PA func101
def zbf:=PA func102
def XA:=PA func103
def zid:=PA func104
def zjz:=PA func105
def zim:=PA func106
def zeQ:=PA func107
def zeB:=PA func108
def zgw:=PA func109
def zgq:=PA func110
def zh4:=PA func111
def zi3:=PA func112
def zgT:=PA func113
def zjk:=PA func114
def zhm:=PA func115
def zaY:=PA func116
def z0L:=PA func117
def Wl:=PA func118
def z7s:=PA func119
def zh5:=PA func120
def zc2:=PA func121
def z2g:=PA func122
def zdM:=PA func123
def zeL:=PA func124
def z5n:=PA func125
def ziE:=PA func126
def ziX:=PA func127
def zjq:=PA func128
def zjG:=PA func129
def ziZ:=PA func130
def zj4:=PA func131
def ziL:=PA func132
def zgW:=PA func133
def zgm:=PA func134
def zhV:=PA func137
def zc9:=PA func139
def zga:=PA func140
def zhq:=PA func141
def zjb:=PA func143
def zj1:=PA func144
def zgz:=PA func145
def zeE:=PA func147
def z5m:=PA func148
def z0H:=PA func149
def ziB:=PA func150
def z8C:=PA func151
def zeH:=PA func152
def zjo:=PA func153
def zh3:=PA func154
def ziK:=PA func155
def z2o:=PA func156
def zgg:=PA func157
def z89:=PA func158
def ZZ:=PA func159
def z4i:=PA func160
def zhl:=PA func161
def z7V:=PA func162
def zep:=PA func163
def zeo:=PA func164
def XD:=PA func165
def SL:=PA func166
def zhn:=PA func167
def zhh:=PA func168
def ziQ:=PA func170
def zha:=PA func171
def Tr:=PA func172
def YX:=PA func173
def zee:=PA func174
def z1g:=PA func175
def zbE:=PA func176
def zi9:=PA func177
def ze3:=PA func178
def zet:=PA func179
def zgI:=PA func180
def z5y:=PA func181
def zh2:=PA func182
def zek:=PA func183
def zdY:=PA func184
def ziV:=PA func185
def zgO:=PA func186
def zio:=PA func187
def zg9:=PA func188
def zdU:=PA func189
def zeR:=PA func190
def ziP:=PA func191
def zgk:=PA func192
def ziR:=PA func193
def zef:=PA func194
def zgD:=PA func195
def ziA:=PA func196
def YE:=PA func197
def zja:=PA func198
def zjE:=PA func199
def zju:=PA func200
def zen:=PA func201
def z8B:=PA func202
def z4V:=PA func203
def Ym:=PA func204
def zhO:=PA func205
def z4K:=PA func206
def zj3:=PA func207
def zdZ:=PA func208
def zi2:=PA func209
def zdW:=PA func210
def zeP:=PA func211
def zh0:=PA func212
def zeN:=PA func213
def ziz:=PA func214
def zgX:=PA func215
def zar:=PA func216
def zj0:=PA func217
def zhc:=PA func218
def z4Y:=PA func219
def zey:=PA func220
def zjx:=PA func221
def ze4:=PA func222
def zcd:=PA func223
def zgQ:=PA func224
def ziG:=PA func225
def zhe:=PA func226
def zgr:=PA func227
def zgf:=PA func228
def zjm:=PA func229
def ziC:=PA func230
def zik:=PA func231
def z2B:=PA func232
def zei:=PA func233
def zc7:=PA func234
def zdT:=PA func235
def zh8:=PA func236
def zgE:=PA func237
def zeF:=PA func238
def zav:=PA func239
def zhC:=PA func240
def z7L:=PA func241
def zj7:=PA func242
def zj9:=PA func243
def zhH:=PA func244
def zgZ:=PA func245
def zhj:=PA func246
def ziF:=PA func247
def zia:=PA func248
def W7:=PA func249
def zhY:=PA func250
def zhp:=PA func251
def zdS:=PA func253
def zhs:=PA func254
def zht:=PA func255
def zhk:=PA func257
def zhw:=PA func258
def zb5:=PA func259
def ziT:=PA func279
def zgN:=PA func280
def zgS:=PA func282
def zh9:=PA func283
def wtr (ops:List Oper)(i:Nat):List Nat:=(List.range ops.length).foldl (λa j=>match ops[j]? with|some o=>if o.after.any (λx=>Region.binds .any x&&(x.on==i ||a.contains x.on)) then a++[j] else a|none=>a) []
section
variable {D:RC}{l:List Oper}{e:Env}{w w':World}{d:Nat}{op:Op}{ty:TypeId}{pos:String}{aft:Array Edge}{g:Option (Nat×Bool)}{v:Value}
def qV (hy:Y D.C.P e ⟨some d,op,ty,pos,aft,g⟩ v w w')(h:RL D l ((d,v)::e) w')(ho:S9 D e g true=true:=by exact rfl)(hd:Nat.blt d D.C.n=true:=by exact rfl):RL D (⟨some d,op,ty,pos,aft,g⟩::l) e w:=Vj ho hd hy h
theorem qS (h:RL D l ((d,undef)::e) w)(ho:S9 D e g false=true:=by exact rfl)(hd:Nat.blt d D.C.n=true:=by exact rfl):RL D (⟨some d,op,ty,pos,aft,g⟩::l) e w:=zjs ho hd h
theorem ON {x:Operand}(hx:look e x=some v)(h:RL D l ((d,v)::e) w)(ho:S9 D e g true=true:=by exact rfl)(hd:Nat.blt d D.C.n=true:=by exact rfl):RL D (⟨some d,.move x,ty,pos,aft,g⟩::l) e w:=Vj ho hd (Xu hx) h
theorem SA {x:Operand}(hx:look e x=some v)(h:RL D l ((d,v)::e) w)(ho:S9 D e g true=true:=by exact rfl)(hd:Nat.blt d D.C.n=true:=by exact rfl):RL D (⟨some d,.assign x,ty,pos,aft,g⟩::l) e w:=Vj ho hd (Rp hx) h
theorem PS {x y:Operand}{t t':TypeId}{a b:Int}(h0:(look e x,look e y)=(some (I a),some (I b)))(h:RL D l ((d,I (a+b))::e) w)(hb:JIq (a+b):=by omega)(ho:S9 D e g true=true:=by exact rfl)(hd:Nat.blt d D.C.n=true:=by exact rfl):RL D (⟨some d,.binOp .add t x y t',ty,pos,aft,g⟩::l) e w:=Vj ho hd (UO (congrArg Prod.fst h0) (congrArg Prod.snd h0) hb) h
theorem P5 {f:FuncId}{vs:List Value}{S:Value->World->Prop}{ts:Array TypeId}{args:List Operand}(hf:CF D.C.P f)(ha:looks e args=some vs)(hc:Pm D.C.P f vs w S)(h:∀v w',S v w'->RL D l ((d,v)::e) w')(ho:S9 D e g true=true:=by exact rfl)(hd:Nat.blt d D.C.n=true:=by exact rfl):RL D (⟨some d,.call ⟨.value (.func f),args.toArray,ts⟩,ty,pos,aft,g⟩::l) e w:=Qp ho hd (yc hf ha) hc h
def Rz {p:Prop}[hp:Decidable p](hr:RL D l ((d,.bool true)::e) w)(h:p:=by first|rfl|assumption|omega|decide):RL D l ((d,.bool (decide p))::e) w:=zgb h hr
def PH {p:Prop}[hp:Decidable p](hr:RL D l ((d,.bool false)::e) w)(h:¬p:=by first|exact λh=>h O|assumption|omega):RL D l ((d,.bool (decide p))::e) w:=zfR h hr
theorem Qw {x y:Operand}{t t':TypeId}{k:IntKind}{a b:Int}(h0:(look e x,look e y)=(some (.int k a),some (.int k b)))(h:RL D l ((d,.bool (decide (a<b)))::e) w)(ho:S9 D e g true=true:=by exact rfl)(hd:Nat.blt d D.C.n=true:=by exact rfl):RL D (⟨some d,.binOp .lss t x y t',ty,pos,aft,g⟩::l) e w:=Vj ho hd (ylt (congrArg Prod.fst h0) (congrArg Prod.snd h0)) h
theorem zle {x y:Operand}{t t':TypeId}{k:IntKind}{a b:Int}(h0:(look e x,look e y)=(some (.int k a),some (.int k b)))(h:RL D l ((d,.bool (decide (a<=b)))::e) w)(ho:S9 D e g true=true:=by exact rfl)(hd:Nat.blt d D.C.n=true:=by exact rfl):RL D (⟨some d,.binOp .leq t x y t',ty,pos,aft,g⟩::l) e w:=Vj ho hd (Z4 (congrArg Prod.fst h0) (congrArg Prod.snd h0)) h
theorem QB {x y:Operand}{t t':TypeId}{k:IntKind}{a b:Int}(h0:(look e x,look e y)=(some (.int k a),some (.int k b)))(h:RL D l ((d,.bool (decide (b<a)))::e) w)(ho:S9 D e g true=true:=by exact rfl)(hd:Nat.blt d D.C.n=true:=by exact rfl):RL D (⟨some d,.binOp .gtr t x y t',ty,pos,aft,g⟩::l) e w:=Vj ho hd (Yf (congrArg Prod.fst h0) (congrArg Prod.snd h0)) h
theorem U8 {x y:Operand}{t t':TypeId}{k:IntKind}{a b:Int}(h0:(look e x,look e y)=(some (.int k a),some (.int k b)))(h:RL D l ((d,.bool (decide (b<=a)))::e) w)(ho:S9 D e g true=true:=by exact rfl)(hd:Nat.blt d D.C.n=true:=by exact rfl):RL D (⟨some d,.binOp .geq t x y t',ty,pos,aft,g⟩::l) e w:=Vj ho hd (yge (congrArg Prod.fst h0) (congrArg Prod.snd h0)) h
theorem Rg {x y:Operand}{t t':TypeId}{k:IntKind}{a b:Int}(h0:(look e x,look e y)=(some (.int k a),some (.int k b)))(h:RL D l ((d,.bool (decide (a=b)))::e) w)(ho:S9 D e g true=true:=by exact rfl)(hd:Nat.blt d D.C.n=true:=by exact rfl):RL D (⟨some d,.binOp .eql t x y t',ty,pos,aft,g⟩::l) e w:=Vj ho hd (yeq (congrArg Prod.fst h0) (congrArg Prod.snd h0)) h
theorem QE {x y:Operand}{t t':TypeId}{k:IntKind}{a b:Int}(h0:(look e x,look e y)=(some (.int k a),some (.int k b)))(h:RL D l ((d,.bool (decide (a≠b)))::e) w)(ho:S9 D e g true=true:=by exact rfl)(hd:Nat.blt d D.C.n=true:=by exact rfl):RL D (⟨some d,.binOp .neq t x y t',ty,pos,aft,g⟩::l) e w:=Vj ho hd (yne (congrArg Prod.fst h0) (congrArg Prod.snd h0)) h
theorem QX {c x y:Operand}(h0:(look e c,look e x)=(some (.bool true),some v))(h:RL D l ((d,v)::e) w)(ho:S9 D e g true=true:=by exact rfl)(hd:Nat.blt d D.C.n=true:=by exact rfl):RL D (⟨some d,.pick c x y,ty,pos,aft,g⟩::l) e w:=Vj ho hd (Uu (congrArg Prod.fst h0) (congrArg Prod.snd h0)) h
theorem PM {c x y:Operand}(h0:(look e c,look e y)=(some (.bool false),some v))(h:RL D l ((d,v)::e) w)(ho:S9 D e g true=true:=by exact rfl)(hd:Nat.blt d D.C.n=true:=by exact rfl):RL D (⟨some d,.pick c x y,ty,pos,aft,g⟩::l) e w:=Vj ho hd (U0 (congrArg Prod.fst h0) (congrArg Prod.snd h0)) h
theorem zex {x:Operand}{vs:Array Value}{i:Nat}(h0:(look e x,vs[i]?)=(some (.tuple vs),some v))(h:RL D l ((d,v)::e) w)(ho:S9 D e g true=true:=by exact rfl)(hd:Nat.blt d D.C.n=true:=by exact rfl):RL D (⟨some d,.extract x i,ty,pos,aft,g⟩::l) e w:=Vj ho hd (Ru (congrArg Prod.fst h0) (congrArg Prod.snd h0)) h
theorem OW {t:TypeId}{i off n b m:Nat}{agg:Bool}{x:Operand}(hf:Ql D.C.P t i off (n+1) agg)(hx:look e x=some (ptr b m))(h:RL D l ((d,ptr b (m+off))::e) w)(ho:S9 D e g true=true:=by exact rfl)(hd:Nat.blt d D.C.n=true:=by exact rfl):RL D (⟨some d,.fieldAddr t x i,ty,pos,aft,g⟩::l) e w:=Vj ho hd (Pr hf hx) h
theorem Rs {t el:TypeId}{x:Operand}{a:Option Addr}{len cap:Nat}(ht:D.C.P.underlying t=some (.slice el))(hx:look e x=some (.slice a len cap))(h:RL D l ((d,I (len:Int))::e) w)(ho:S9 D e g true=true:=by exact rfl)(hd:Nat.blt d D.C.n=true:=by exact rfl):RL D (⟨some d,.call ⟨.builtin .len,#[x],#[t]⟩,ty,pos,aft,g⟩::l) e w:=Vj ho hd (SE ht hx) h
theorem Ro {x y:Operand}{t t':TypeId}{a b:Int}(h0:(look e x,look e y)=(some (I a),some (I b)))(h:RL D l ((d,I (a-b))::e) w)(hb:JIq (a-b):=by omega)(ho:S9 D e g true=true:=by exact rfl)(hd:Nat.blt d D.C.n=true:=by exact rfl):RL D (⟨some d,.binOp .sub t x y t',ty,pos,aft,g⟩::l) e w:=Vj ho hd (Xw (congrArg Prod.fst h0) (congrArg Prod.snd h0) hb) h
theorem OV {D:RC}{x:Operand}(hx:look e x=some v)(h:Po D.C D.k ((d,v)::e) w)(ho:S9 D e g true=true:=by exact rfl)(hd:Nat.blt d D.C.n=true:=by exact rfl):RL D [⟨some d,.assign x,ty,pos,aft,g⟩] e w:=Vj ho hd (Rp hx) (OC h)
theorem Pa {x y:Operand}{d':Nat}{v':Value}{ty':TypeId}{pos':String}{aft':Array Edge}{g':Option (Nat×Bool)}(h0:(look e x,look ((d,v)::e) y)=(some v,some v'))(h:RL D l ((d',v')::(d,v)::e) w)(ho:S9 D e g true=true:=by exact rfl)(hd:Nat.blt d D.C.n=true:=by exact rfl)(ho':S9 D ((d,v)::e) g' true=true:=by exact rfl)(hd':Nat.blt d' D.C.n=true:=by exact rfl):RL D (⟨some d,.move x,ty,pos,aft,g⟩::⟨some d',.move y,ty',pos',aft',g'⟩::l) e w:=Vj ho hd (Xu (congrArg Prod.fst h0)) (Vj ho' hd' (Xu (congrArg Prod.snd h0)) h)
def z7i:Value->Bool
  | .pointer (some _)=>true
  | .func (.func _) _ _=>true
  |_=>false
theorem Q8 {P:Program}{d:Option Nat}{x:Operand}(hx:look e x=some v)(hv:z7i v=true:=by exact rfl):Y P e ⟨d,.nilCheck x,ty,pos,aft,g⟩ v w w:=by
  unfold z7i at hv
  split at hv
  · exact ync hx
  · exact zkC hx
  · cases hv
theorem Pq {x:Operand}(hx:look e x=some v)(h:RL D l ((d,v)::e) w)(hv:z7i v=true:=by exact rfl)(ho:S9 D e g true=true:=by exact rfl)(hd:Nat.blt d D.C.n=true:=by exact rfl):RL D (⟨some d,.nilCheck x,ty,pos,aft,g⟩::l) e w:=Vj ho hd (Q8 hx hv) h
end
section
variable {C:Cx}{k:List Item}{e e':Env}{w:World}{id:Nat}{ops:List Oper}{y:Code}
def qN {x:Code}(ho:RR C.n ops=true)(h:RL ⟨C,ops,.code x::k,ho⟩ ops e w):Po C (.code (.seq (.region id ops.toArray false) x)::k) e w:=An (OK ho h)
def Rr {α:Type}{c:Code}(x0:α)(E:α->Env)(I:α->World->Prop)(μ:α->Nat)(hI:I x0 w)(round:∀x w,I x w->(∀y w',I y w'->μ y<μ x->Po C (.inLoop c::k) (E y) w')->Po C (.code c:: .inLoop c::k) (E x) w)(hE:Sub (E x0) e:=by repeat (first|exact Sub.nil|refine Sub.cons O ?_)):Po C (.code (.loop c)::k) e w:=zc3 x0 E I μ hE hI round
def Po.qb (h:Po C k e w)(hs:Sub e e':=by repeat (first|exact Sub.nil|refine Sub.cons O ?_)):Po C k e' w:=h.sub hs
end
section
variable {k:List Item}{e:Env}{w:World}{id:Nat}{ops:List Oper}{x:Code}
def qM {C:Cx}{ops0:List Oper}{h0:RR C.n ops0=true}(ho:RR C.n ops=true)(h:RL ⟨C,ops,.code x::k,ho⟩ ops e w):RL ⟨C,ops0,.code (.seq (.region id ops.toArray false) x)::k,h0⟩ [] e w:=OC (An (OK ho h))
end
section
variable {D:RC}{late:List Nat}{S:World->Prop}{e:Env}{w w':World}{d fuel:Nat}{op:Op}{ty:TypeId}{pos:String}{aft:Array Edge}{g:Option (Nat×Bool)}{listed:Array Bool}{v:Value}
def qT (i:Nat)(hi:D.ops[i]? =some ⟨some d,op,ty,pos,aft,g⟩)(hy:∀w,S w->Y D.C.P e ⟨some d,op,ty,pos,aft,g⟩ v w w)(hS:S w)(h:RH D S fuel (listed.setIfInBounds i true) ((d,v)::e) w)
    (hf:Sk D.ops listed i=true:=by kernel_rfl) (ho:S9 D e g true=true:=by exact rfl) (hd:Nat.blt d D.C.n=true:=by exact rfl):RH D S (fuel+1) listed e w:=zck hi hf ho hd hy hS h
def OG (i:Nat)(hi:D.ops[i]? =some ⟨some d,op,ty,pos,aft,g⟩)(hy:∀{w},Y D.C.P e ⟨some d,op,ty,pos,aft,g⟩ v w w)(hS:S w)(h:RH D S fuel (listed.setIfInBounds i true) ((d,v)::e) w)
    (hf:Sk D.ops listed i=true:=by kernel_rfl) (ho:S9 D e g true=true:=by exact rfl) (hd:Nat.blt d D.C.n=true:=by exact rfl):RH D S (fuel+1) listed e w:=zck hi hf ho hd (λ_ _=>hy) hS h
def TL {p:Prop}[hp:Decidable p](hr:RH D S fuel listed ((d,.bool true)::e) w)(h:p:=by first|rfl|assumption|omega|decide):RH D S fuel listed ((d,.bool (decide p))::e) w:=zjy h hr
def TD {p:Prop}[hp:Decidable p](hr:RH D S fuel listed ((d,.bool false)::e) w)(h:¬p:=by first|exact λh=>h O|assumption|omega):RH D S fuel listed ((d,.bool (decide p))::e) w:=zfx h hr
theorem Tt {late:List Nat}(rs:List Nat)(h:RH D (λ_=>True) fuel listed e w)(hr:RM D.ops listed rs=true:=by kernel_rfl)(hl:ze8 rs late=true:=by kernel_rfl):RHL D late S fuel listed e w:=zgp rs hr hl h
def OZ {x:Operand}(i:Nat)(hi:D.ops[i]? =some ⟨some d,.move x,ty,pos,aft,g⟩)(hx:look e x=some v)(hS:S w)(h:RH D S fuel (listed.setIfInBounds i true) ((d,v)::e) w)
    (hf:Sk D.ops listed i=true:=by kernel_rfl) (ho:S9 D e g true=true:=by exact rfl) (hd:Nat.blt d D.C.n=true:=by exact rfl):RH D S (fuel+1) listed e w:=zck hi hf ho hd (λ_ _=>Xu hx) hS h
def qJ (i:Nat)(hi:D.ops[i]? =some ⟨some d,op,ty,pos,aft,g⟩)(hS:S w)(h:RH D S fuel (listed.setIfInBounds i true) ((d,undef)::e) w)
    (hf:Sk D.ops listed i=true:=by kernel_rfl) (ho:S9 D e g false=true:=by exact rfl) (hd:Nat.blt d D.C.n=true:=by exact rfl):RH D S (fuel+1) listed e w:=ziM hi hf ho hd hS h
def qO (i:Nat)(h:Nx D S fuel listed e w i)(hr:RM D.ops listed [i]=true:=by kernel_rfl):RH D S (fuel+1) listed e w:=zjr hr h
def RT {f:FuncId}{vs:List Value}{T:Value->World->Prop}{ts:Array TypeId}{args:List Operand}(i:Nat)(hi:D.ops[i]? =some ⟨some d,.call ⟨.value (.func f),args.toArray,ts⟩,ty,pos,aft,g⟩)(hf:CF D.C.P f)(ha:looks e args=some vs)(hc:Pm D.C.P f vs w T)(h:∀v w',T v w'->S w'/\RH D S fuel (listed.setIfInBounds i true) ((d,v)::e) w')
    (hr:RM D.ops listed [i]=true:=by kernel_rfl) (ho:S9 D e g true=true:=by exact rfl) (hd:Nat.blt d D.C.n=true:=by exact rfl):RH D S (fuel+1) listed e w:=zjr hr (W3 hi ho hd (yc hf ha) hc h)
theorem qE (h:Po D.C D.k e w)(hr:RM D.ops listed []=true:=by kernel_rfl):RH D S fuel listed e w:=zkN hr h
def qL (i:Nat)(hi:D.ops[i]? =some ⟨some d,op,ty,pos,aft,g⟩)(hy:∀w,S w->Y D.C.P e ⟨some d,op,ty,pos,aft,g⟩ v w w)(hS:S w)(h:RHL D late S fuel (listed.setIfInBounds i true) ((d,v)::e) w)
    (hf:(Sk D.ops listed i&&waits D.ops listed late (wtr D.ops i) i)=true:=by kernel_rfl) (ho:S9 D e g true=true:=by exact rfl) (hd:Nat.blt d D.C.n=true:=by exact rfl):RHL D late S (fuel+1) listed e w:=z5V _ hi hf ho hd hy hS h
def Pl (i:Nat)(hi:D.ops[i]? =some ⟨some d,op,ty,pos,aft,g⟩)(hy:∀{w},Y D.C.P e ⟨some d,op,ty,pos,aft,g⟩ v w w)(hS:S w)(h:RHL D late S fuel (listed.setIfInBounds i true) ((d,v)::e) w)
    (hf:(Sk D.ops listed i&&waits D.ops listed late (wtr D.ops i) i)=true:=by kernel_rfl) (ho:S9 D e g true=true:=by exact rfl) (hd:Nat.blt d D.C.n=true:=by exact rfl):RHL D late S (fuel+1) listed e w:=z5V _ hi hf ho hd (λ_ _=>hy) hS h
def PQ {x:Operand}(i:Nat)(hi:D.ops[i]? =some ⟨some d,.move x,ty,pos,aft,g⟩)(hx:look e x=some v)(hS:S w)(h:RHL D late S fuel (listed.setIfInBounds i true) ((d,v)::e) w)
    (hf:(Sk D.ops listed i&&waits D.ops listed late (wtr D.ops i) i)=true:=by kernel_rfl) (ho:S9 D e g true=true:=by exact rfl) (hd:Nat.blt d D.C.n=true:=by exact rfl):RHL D late S (fuel+1) listed e w:=z5V _ hi hf ho hd (λ_ _=>Xu hx) hS h
end
section
variable {C:Cx}{k:List Item}{e:Env}{w:World}{id:Nat}{ops ops0 l:List Oper}{y y2:Code}{d d':Nat}{op op':Op}{ty ty':TypeId}{pos pos':String}{aft aft':Array Edge}{g g':Option (Nat×Bool)}{v v':Value}{x x':Operand}
theorem Pn (h0:(RR C.n (⟨some d,.move x,ty,pos,aft,g⟩::l),look e x)=(true,some v))(h:RL ⟨C,⟨some d,.move x,ty,pos,aft,g⟩::l,.code y::k,congrArg Prod.fst h0⟩ l ((d,v)::e) w)(ho:S9 ⟨C,⟨some d,.move x,ty,pos,aft,g⟩::l,.code y::k,congrArg Prod.fst h0⟩ e g true=true:=by exact rfl)(hd:Nat.blt d C.n=true:=by exact rfl):Po C (.code (.seq (.region id (⟨some d,.move x,ty,pos,aft,g⟩::l).toArray false) y)::k) e w:=qN (congrArg Prod.fst h0) (ON (congrArg Prod.snd h0) h ho hd)
theorem QS {h1:RR C.n ops0=true}(h0:(look e x,RR C.n ops)=(some v,true))(h:RL ⟨C,ops,.code y::k,congrArg Prod.snd h0⟩ ops ((d,v)::e) w)(ho:S9 ⟨C,ops0,.code (.seq (.region id ops.toArray false) y)::k,h1⟩ e g true=true:=by exact rfl)(hd:Nat.blt d C.n=true:=by exact rfl):RL ⟨C,ops0,.code (.seq (.region id ops.toArray false) y)::k,h1⟩ [⟨some d,.assign x,ty,pos,aft,g⟩] e w:=SA (congrArg Prod.fst h0) (qM (congrArg Prod.snd h0) h) ho hd
theorem Qt (h0:((RR C.n (⟨some d,.move x,ty,pos,aft,g⟩::⟨some d',.move x',ty',pos',aft',g'⟩::l),look e x),look ((d,v)::e) x')=((true,some v),some v'))(h:RL ⟨C,⟨some d,.move x,ty,pos,aft,g⟩::⟨some d',.move x',ty',pos',aft',g'⟩::l,.code y::k,congrArg (λz=>z.1.1) h0⟩ l ((d',v')::(d,v)::e) w)(ho:S9 ⟨C,⟨some d,.move x,ty,pos,aft,g⟩::⟨some d',.move x',ty',pos',aft',g'⟩::l,.code y::k,congrArg (λz=>z.1.1) h0⟩ e g true=true:=by exact rfl)(hd:Nat.blt d C.n=true:=by exact rfl)(ho':S9 ⟨C,⟨some d,.move x,ty,pos,aft,g⟩::⟨some d',.move x',ty',pos',aft',g'⟩::l,.code y::k,congrArg (λz=>z.1.1) h0⟩ ((d,v)::e) g' true=true:=by exact rfl)(hd':Nat.blt d' C.n=true:=by exact rfl):Po C (.code (.seq (.region id (⟨some d,.move x,ty,pos,aft,g⟩::⟨some d',.move x',ty',pos',aft',g'⟩::l).toArray false) y)::k) e w:=qN (congrArg (λz=>z.1.1) h0) (ON (congrArg (λz=>z.1.2) h0) (ON (congrArg Prod.snd h0) h ho' hd') ho hd)
theorem Qm {D:RC}(h0:(look e x,look ((d,v)::e) x')=(some v,some v'))(h:Po D.C D.k ((d',v')::(d,v)::e) w)(ho:S9 D e g true=true:=by exact rfl)(hd:Nat.blt d D.C.n=true:=by exact rfl)(ho':S9 D ((d,v)::e) g' true=true:=by exact rfl)(hd':Nat.blt d' D.C.n=true:=by exact rfl):RL D [⟨some d,.assign x,ty,pos,aft,g⟩,⟨some d',.assign x',ty',pos',aft',g'⟩] e w:=SA (congrArg Prod.fst h0) (OV (congrArg Prod.snd h0) h ho' hd') ho hd
theorem SU {D:RC}{vs vs':Array Value}{i i':Nat}(h0:((look e x,vs[i]?),(look ((d,v)::e) x',vs'[i']?))=((some (.tuple vs),some v),(some (.tuple vs'),some v')))(h:RL D l ((d',v')::(d,v)::e) w)(ho:S9 D e g true=true:=by exact rfl)(hd:Nat.blt d D.C.n=true:=by exact rfl)(ho':S9 D ((d,v)::e) g' true=true:=by exact rfl)(hd':Nat.blt d' D.C.n=true:=by exact rfl):RL D (⟨some d,.extract x i,ty,pos,aft,g⟩::⟨some d',.extract x' i',ty',pos',aft',g'⟩::l) e w:=zex (congrArg Prod.fst h0) (zex (congrArg Prod.snd h0) h ho' hd') ho hd
theorem PK (h0:(RR C.n (⟨some d,.move x,ty,pos,aft,g⟩::l),look e x)=(true,some v))(h:RL ⟨C,⟨some d,.move x,ty,pos,aft,g⟩::l,.code y:: .code y2::k,congrArg Prod.fst h0⟩ l ((d,v)::e) w)(ho:S9 ⟨C,⟨some d,.move x,ty,pos,aft,g⟩::l,.code y:: .code y2::k,congrArg Prod.fst h0⟩ e g true=true:=by exact rfl)(hd:Nat.blt d C.n=true:=by exact rfl):Po C (.code (.seq (.seq (.region id (⟨some d,.move x,ty,pos,aft,g⟩::l).toArray false) y) y2)::k) e w:=An (Pn h0 h ho hd)
theorem QL {D:RC}(h:RL D l ((d',undef)::(d,undef)::e) w)(ho:S9 D e g false=true:=by exact rfl)(hd:Nat.blt d D.C.n=true:=by exact rfl)(ho':S9 D ((d,undef)::e) g' false=true:=by exact rfl)(hd':Nat.blt d' D.C.n=true:=by exact rfl):RL D (⟨some d,op,ty,pos,aft,g⟩::⟨some d',op',ty',pos',aft',g'⟩::l) e w:=qS (qS h ho' hd') ho hd
def SH {c:Operand}(hc:look e c=some (.bool false))(h:Po C k e w):Po C (.code (.cond c y .skip)::k) e w:=OL hc (OD h)
theorem Qx (h0:(RR C.n [⟨some d,.assign x,ty,pos,aft,g⟩],look e x)=(true,some v))(h:Po C (.code y::k) ((d,v)::e) w)(ho:S9 ⟨C,[⟨some d,.assign x,ty,pos,aft,g⟩],.code y::k,congrArg Prod.fst h0⟩ e g true=true:=by exact rfl)(hd:Nat.blt d C.n=true:=by exact rfl):Po C (.code (.seq (.region id ([⟨some d,.assign x,ty,pos,aft,g⟩]:List Oper).toArray false) y)::k) e w:=qN (congrArg Prod.fst h0) (OV (congrArg Prod.snd h0) h ho hd)
theorem QW {h1:RR C.n ops0=true}(h0:((look e x',RR C.n (⟨some d,.move x,ty,pos,aft,g⟩::l)),look ((d',v')::e) x)=((some v',true),some v))(h:RL ⟨C,⟨some d,.move x,ty,pos,aft,g⟩::l,.code y::k,congrArg (λz=>z.1.2) h0⟩ l ((d,v)::(d',v')::e) w)(ho:S9 ⟨C,ops0,.code (.seq (.region id (⟨some d,.move x,ty,pos,aft,g⟩::l).toArray false) y)::k,h1⟩ e g' true=true:=by exact rfl)(hd:Nat.blt d' C.n=true:=by exact rfl)(ho':S9 ⟨C,⟨some d,.move x,ty,pos,aft,g⟩::l,.code y::k,congrArg (λz=>z.1.2) h0⟩ ((d',v')::e) g true=true:=by exact rfl)(hd':Nat.blt d C.n=true:=by exact rfl):RL ⟨C,ops0,.code (.seq (.region id (⟨some d,.move x,ty,pos,aft,g⟩::l).toArray false) y)::k,h1⟩ [⟨some d',.assign x',ty',pos',aft',g'⟩] e w:=QS (congrArg Prod.fst h0) (ON (congrArg Prod.snd h0) h ho' hd') ho hd
def Qg {h1:RR C.n ops0=true}{c:Operand}(hc:look e c=some (.bool false))(h:Po C k e w):RL ⟨C,ops0,.code (.cond c y .skip)::k,h1⟩ [] e w:=OC (SH hc h)
theorem R6 (h0:(RR C.n (⟨some d,.move x,ty,pos,aft,g⟩::l),look e x)=(true,some v))(h:RL ⟨C,⟨some d,.move x,ty,pos,aft,g⟩::l,k,congrArg Prod.fst h0⟩ l ((d,v)::e) w)(ho:S9 ⟨C,⟨some d,.move x,ty,pos,aft,g⟩::l,k,congrArg Prod.fst h0⟩ e g true=true:=by exact rfl)(hd:Nat.blt d C.n=true:=by exact rfl):Po C (.code (.region id (⟨some d,.move x,ty,pos,aft,g⟩::l).toArray false)::k) e w:=OK (congrArg Prod.fst h0) (ON (congrArg Prod.snd h0) h ho hd)
def QA (h:Po C (.code y:: .inBlock id:: .code y2::k) e w):Po C (.code (.seq (.block id y) y2)::k) e w:=An (OE h)
end
def QV {C:Cx}{id:Nat}{ops:List Oper}{k:List Item}{e:Env}{w:World}(S:World->Prop)(ho:RR C.n ops=true)(h:RH ⟨C,ops,k,ho⟩ S ops.length (Array.replicate ops.length false) e w.drew)(hm:C.P.follows .mixedOrders=true:=by kernel_rfl)(hc:calm ops=true:=by rfl):Po C (.code (.region id ops.toArray true)::k) e w:=z5c S hm ho h hc
theorem Rx {α:Type}{a b:α}(h:some a=some b):a=b:=Option.some.inj h
def U2:=underlying2
def U3:=underlying3
def U4:=underlying4
def U5:=underlying5
def U9:=underlying9
def U20:=underlying20
def U22:=underlying22
def WQ:=underlying23
def U26:=underlying26
def XH:=underlying27
def ZH:=underlying28
def U30:=underlying30
def U34:=underlying34
def R0:=underlying37
def Rt:=underlying39
def Xo:=underlying43
def U44:=underlying44
def U54:=underlying54
def QR:=underlying59
def U61:=underlying61
def Pu:=underlying62
def U66:=underlying66
def U67:=underlying67
def U75:=underlying75
def U79:=underlying79
def U81:=underlying81
def Zd:=underlying83
def U84:=underlying84
def SG:=underlying93
def U95:=underlying95
def U97:=underlying97
def U99:=underlying99
def z1w:=underlying102
def VF:=underlying105
def zaC:=underlying108
def Xq:=underlying111
def Xm:=underlying118
def z3y:=underlying121
def zcQ:=underlying124
def zcW:=underlying129
def z6u:=underlying134
def z74:=underlying136
def z2S:=underlying137
def zac:=underlying141
def zif:=underlying150
def zkk:=underlying151
def zhM:=underlying153
def zdj:=underlying154
def zfe:=underlying157
def Xn:=underlying169
def zd4:=underlying179
def zcf:=underlying190
def zgH:=underlying200
def zkJ:=underlying206
def We:=underlying207
def z3K:=underlying213
def zkX:=underlying215
def zfX:=underlying216
def z4g:=underlying220
def zf6:=underlying222
def zkO:=underlying233
def SB:=underlying245
def Ya:=underlying252
def zie:=underlying253
def Zw:=underlying260
def Ve:=underlying273
def zjS:=underlying278
def zfu:=underlying279
def z1L:=underlying291
def Ss:=underlying294
def zhz:=underlying296
def zhN:=underlying306
def z4h:=underlying308
def ziI:=underlying313
def zaK:=underlying322
def zl7:=underlying326
def zaR:=underlying329
def z1Q:=underlying330
def z5C:=underlying370
def UM (w:World)(g:Nat)(cs:List Value)(T:TypeId):Prop:=w.heap[g]? =some (.cells cs.toArray T (0,0))
theorem UM.OA {w:World}{g:Nat}{cs:List Value}{T:TypeId}(h:UM w g cs T):OP w g cs T:=⟨(0,0),h,λi _ h=>by omega⟩
theorem UM.set {w:World}{g:Nat}{cs:List Value}{T:TypeId}(h:UM w g cs T)(i:Nat)(v:Value):UM (w.setCell ⟨g,i,none⟩ v) g (cs.set i v) T:=by
 unfold UM at h⊢
 simp[World.setCell,Array.getElem?_modify,h]
def UM.ext {w w':World}{g:Nat}{cs:List Value}{T:TypeId}(h:UM w g cs T)(k:Ext w w'):UM w' g cs T:=k.heap h id
def Sl.row {w:World}{g n cap:Nat}{e:TypeId}{size:Nat}{cs:List Value}(h:Sl w (.slice (some ⟨g,0,none⟩) n cap) e size n cs):∃cur,UM w g cur e/\n<=cap/\cap<=maxLen/\cur.length=cap*size/\cur.take (n*size)=cs:=by
 rcases h.2 with⟨hz,-⟩|⟨g1,cap1,cur,hv,-,hg,hn,hm,hs,ht⟩
 ·cases hz
 ·cases hv;exact⟨cur.toList,by unfold UM;simpa using hg,hn,hm,by simpa using hs,ht⟩
def UM.sl {w:World}{g n cap:Nat}{e:TypeId}{size:Nat}{cur:List Value}(h:UM w g cur e)(hn:n<=cap)(hm:cap<=maxLen)(hs:cur.length=cap*size):Sl w (.slice (some ⟨g,0,none⟩) n cap) e size n (cur.take (n*size)):=
 ⟨by rw[List.length_take,hs];exact Nat.min_eq_left (Nat.mul_le_mul_right _ hn),.inr ⟨g,cap,cur.toArray,rfl,Nat.zero_le _,h,hn,hm,by simpa using hs,by simp⟩⟩
theorem UM.cell {w:World}{g i:Nat}{cur:List Value}{e:TypeId}(h:UM w g cur e):w.cell? ⟨g,i,none⟩=cur[i]? :=h.OA.cell i
theorem UM.rd {w:World}{g i n c:Nat}{e:TypeId}{cur:List Value}(h:UM w g cur e)(hl:i+n<=cur.length):Rd w (.slice (some ⟨g,i,none⟩) n c) 1 n ((cur.drop i).take n):=by
 refine⟨by simp;omega,.inr ⟨g,i,c,rfl,λj u hj=>?_⟩⟩
 rw[h.cell]
 rw[List.getElem?_take] at hj
 split at hj
 ·rwa [List.getElem?_drop] at hj
 ·cases hj
def VB {w:World}{a:Option Addr}{c:Nat}:Rd w (.slice a 0 c) 1 0 []:=⟨rfl,.inl ⟨(a,c),rfl,rfl⟩⟩
def Rd.kpz {S:Nat->Prop}{w w':World}{v:Value}{size n:Nat}{cs:List Value}(h:Rd w v size n cs)(k:Kp S w w')(hn:0<n->∀g,v.ownBlock=some g->¬S g):Rd w' v size n cs:=by
 rcases Nat.eq_zero_or_pos n with h0|h0
 ·subst h0;refine⟨h.1,?_⟩;have hl:cs=[]:=List.eq_nil_of_length_eq_zero (by have:=h.1;omega);rcases h.2 with h2|⟨b,off,cap,e,-⟩
  ·exact .inl h2
  ·exact .inr ⟨b,off,cap,e,λj u hj=>by rw[hl] at hj;simp at hj⟩
 ·exact h.kp k (hn h0)
def Rd.ltz {w:World}{v:Value}{size n g:Nat}{cs:List Value}(h:Rd w v size n cs)(hs:0<size)(hn:0<n)(hg:v.ownBlock=some g):g<w.heap.size:=by
 rcases h.2 with⟨c,-,h2⟩|⟨b,off,cap,e,hc⟩
 ·omega
 ·rw[e] at hg;have e2:b=g:=Rx hg;subst e2;have hl:0<cs.length:=by rw[h.1];exact Nat.mul_pos hn hs
  exact World.block_lt_of_cell? w _ (hc 0 cs[0] (List.getElem?_eq_getElem hl))
theorem z6i (cs:List Value)(i:Nat):QH cs i []=cs:=by simp[QH]
theorem z2b (cs vs:List Value)(i:Nat)(h:i+vs.length<=cs.length):(QH cs i vs).length=cs.length:=by simp[QH];omega
theorem z1c (cs vs:List Value)(i j:Nat)(h:i+vs.length<=cs.length):(QH cs i vs)[j]? =if i<=j/\j<i+vs.length then vs[j-i]? else cs[j]? :=by
 unfold QH
 rw[List.append_assoc]
 by_cases h1:j<i
 ·rw[List.getElem?_append_left (by simp;omega),List.getElem?_take,if_pos h1,if_neg (by omega)]
 ·rw[List.getElem?_append_right (by simp;omega)];have e:(cs.take i).length=i:=by simp;omega
  rw[e];by_cases h2:j<i+vs.length
  ·rw[List.getElem?_append_left (by omega),if_pos ⟨by omega,h2⟩]
  ·rw[List.getElem?_append_right (by omega),List.getElem?_drop,if_neg (by omega)]
   congr 1;omega
def UC {P:Program}{b:Nat}{T:TypeId}(o:Nat):∀(vs:List Value) (i:Nat) (cs:List Value) (w:World),UM w b cs T->o+i+vs.length<=cs.length->(∀v∈vs,v.oneCell'=true)->
  ∃w',(storeCells ⟨b,o,none⟩ vs i).run P w= .ok () w'/\UM w' b (QH cs (o+i) vs) T/\Kp (λk=>k=b) w w'
 |[],i,cs,w,hB,_,_=>⟨w,rfl,by simpa[QH] using hB,Kp.refl _ _⟩
 | v :: r, i, cs, w, hB, hl, h1 => by
   simp only[List.length_cons] at hl;have aS:o+i<cs.length:=by omega
   have hc:w.cell? ⟨b,o+i,none⟩=some cs[o+i]:=by rw[hB.cell];simp[aS]
   have hf:=hB.OA.free aS;obtain⟨w',hr,x7,hk⟩:=UC (P:=P) o r (i+1) (cs.set (o+i) v) _ (hB.set (o+i) v) (by simp;omega) (λu hu=>h1 u (List.mem_cons_of_mem _ hu));refine⟨w',?_,?_,(Tx w b (o+i) v).trans hk⟩
   ·simp only[storeCells,Sem.run_bind,Rk,run_store P w _ v _ (h1 v (List.mem_cons_self ..)),hc,hf]
    simpa using hr
   ·have he:QH (cs.set (o+i) v) (o+(i+1)) r=QH cs (o+i) (v::r):=by
     apply List.ext_getElem?;intro j;rw[z1c _ _ _ _ (by simp;omega),z1c _ _ _ _ (by simp;omega)];simp only[List.length_cons];by_cases h2:o+i=j
     ·subst h2;rw[if_neg (by omega),if_pos (by omega)];simp[aS]
     ·by_cases h3:o+i<j/\j<o+i+1+r.length
      ·rw[if_pos (by omega),if_pos (by omega),show j-(o+i)=(j-(o+(i+1)))+1 by omega];simp
      ·rw[if_neg (by omega),if_neg (by omega),List.getElem?_set_ne h2]
    rw[<-he];exact x7
section
variable {P:Program}{e:Env}{d:Option Nat}{ty t el:TypeId}{pos:String}{aft:Array Edge}{g:Option (Nat×Bool)}{x y u u2:Operand}{w:World}
def YI {z:Value}{size bytes n cap i:Nat}{a:Option Addr}{k:IntKind}{za:Int}[tp:Tc za i](ht:P.underlying t=some (.slice el))(hs:TI P el z size bytes)(hx:look e x=some (.slice a n cap))
  (hy:look e y=some (.int k za)) (h:i<=n) (hc:n<=cap):
  Y P e ⟨d,.slice t x (some y) none none,ty,pos,aft,g⟩ (.slice (if cap=i then a else a.map (·.add (i*size))) (n-i) (cap-i)) w w:=fun ρ hρ=>by
 obtain⟨rfl⟩:=tp
 have cD:=hs.size (w:=w)
 have h2:∀w,(Instr.sliceBound (.int k (i:Int)) n .sliceB).run P w= .ok i w:=λw=>by rw[run_sliceBound _ _ _ _ _ (by omega) (by omega)];simp
 simp[execOp,hρ _ _ hx,hρ _ _ hy,Instr.sliceAt,run_underlying ht,Instr.slice,Instr.sliceBounds,h2,cD]
def zjV {z:Value}{size bytes n cap i j m:Nat}{a:Option Addr}{k k' k2:IntKind}{za zb zc:Int}[tp:Tc za i][x8:Tc zb j][bX:Tc zc m](ht:P.underlying t=some (.slice el))(hs:TI P el z size bytes)(hx:look e x=some (.slice a n cap))
  (hy:look e y=some (.int k za)) (hu:look e u=some (.int k' zb)) (lD:look e u2=some (.int k2 zc)) (h:i<=j/\j<=m/\m<=cap):
  Y P e ⟨d,.slice t x (some y) (some u) (some u2),ty,pos,aft,g⟩ (.slice (if m=i then a else a.map (·.add (i*size))) (j-i) (m-i)) w w:=fun ρ hρ=>by
 obtain⟨rfl⟩:=tp
 obtain⟨rfl⟩:=x8
 obtain⟨rfl⟩:=bX
 have cD:=hs.size (w:=w)
 have h0:∀w,(Instr.sliceBound (.int k2 (m:Int)) cap .slice3Acap).run P w= .ok m w:=λw=>by rw[run_sliceBound _ _ _ _ _ (by omega) (by omega)];simp
 have h1:∀w,(Instr.sliceBound (.int k' (j:Int)) m .slice3B).run P w= .ok j w:=λw=>by rw[run_sliceBound _ _ _ _ _ (by omega) (by omega)];simp
 have h2:∀w,(Instr.sliceBound (.int k (i:Int)) j .slice3C).run P w= .ok i w:=λw=>by rw[run_sliceBound _ _ _ _ _ (by omega) (by omega)];simp
 simp[execOp,hρ _ _ hx,hρ _ _ hy,hρ _ _ hu,hρ _ _ lD,Instr.sliceAt,run_underlying ht,Instr.slice,Instr.sliceBounds,h0,h1,h2,cD]
theorem Xz (z:Value)(n:Nat)(h:oneV z=true):(Builtin.zeroCells z.cells n).toList=List.replicate n z:=by
 rw[VO h]
 apply List.ext_getElem
 ·simp[Builtin.zeroCells]
 ·intro i h1 h2;simp[Builtin.zeroCells,Nat.mod_one]
def zkm {z:Value}{bytes b i n cap:Nat}{T:TypeId}{cs:List Value}(ht:P.underlying t=some (.slice el))(hs:TI P el z 1 bytes)(hz:oneV z=true)(hx:look e x=some (.slice (some ⟨b,i,none⟩) n cap))
  (hB:UM w b cs T) (hi:i+n<=cs.length):
  Yp P e ⟨d,.call ⟨.builtin .clear,#[x],#[t]⟩,ty,pos,aft,g⟩ w λv w'=>UM w' b (QH cs i (List.replicate n z)) T/\Kp (λk=>k=b) w w':=by
 obtain⟨w',hr,x7,hk⟩:=UC (P:=P) i (List.replicate n z) 0 cs w hB (by simp;omega) (λu hu=>by rw[(List.mem_replicate.1 hu).2];exact Z1 hz)
 rcases Nat.eq_zero_or_pos n with h0|h0
 ·subst h0;refine⟨.tuple #[],w,fun ρ hρ=>?_,by simpa[z6i] using hB,Kp.refl _ _⟩;simp[execOp,resolve,invoke,builtin,hρ _ _ hx,Builtin.clear_,run_underlying ht,go_sem]
 ·refine⟨.tuple #[],w',fun ρ hρ=>?_,by simpa using x7,hk⟩;have Jm:=hs.zero (w:=w);obtain⟨k,rfl⟩:∃k,n=k+1:=⟨n-1,by omega⟩
  have hc:(Builtin.clear_ #[t] ty #[.slice (some ⟨b,i,none⟩) (k+1) cap]).run P w= .ok (.tuple #[]) w':=by
   unfold Builtin.clear_;simp only[List.getElem?_toArray,List.getElem?_cons_zero,pure_bind,Sem.run_bind,run_underlying ht,Result.andThen,Jm,Xz z _ hz,hr,Sem.run_pure]
  simp[execOp,resolve,invoke,builtin,hρ _ _ hx,hc]
def zlb {z u:Value}{size bytes gb n cap m:Nat}{cs news:List Value}(ht:P.underlying t=some (.slice el))(hs:TI P el z size bytes)(cD:0<size)
  (hx:look e x=some (.slice (some ⟨gb,0,none⟩) n cap)) (hy:look e y=some u) (hv:Sl w (.slice (some ⟨gb,0,none⟩) n cap) el size n cs) (hu:Rd w u size m news) (h1:∀c∈news,c.oneCell'=true) (hr:n+m<=cap):
  Yp P e ⟨d,.call ⟨.builtin .append,#[x,y],#[t,t]⟩,ty,pos,aft,g⟩ w λv' w'=>v'= .slice (some ⟨gb,0,none⟩) (n+m) cap/\Sl w' v' el size (n+m) (cs++news)/\Kp (λk=>k=gb) w w':=by
 obtain⟨i,hi,qe,kj,rZ⟩:=hs
 subst kj
 rcases hu.2 with⟨⟨ca,c⟩,rfl,rfl⟩|⟨b,off,cap2,rfl,tq⟩
 ·have fm:news=[]:=List.eq_nil_of_length_eq_zero (by simpa using hu.1);subst fm
  have hr:(Builtin.append_ #[t,t] ty #[.slice (some ⟨gb,0,none⟩) n cap,.slice ca 0 c]).run P w= .ok (.slice (some ⟨gb,0,none⟩) n cap) w:=by
   have jP:n<=cap:=by omega
   cases ca
   ·simp[Builtin.append_,run_underlying ht,sizeOf,typeInfo,hi,Builtin.lenOf,Builtin.firstCells,jP,storeCells]
   ·simp[Builtin.append_,run_underlying ht,sizeOf,typeInfo,hi,Builtin.lenOf,Builtin.firstCells,jP,storeCells,loadCells,loadCellsFrom]
  refine⟨_,w,fun ρ hρ=>?_,rfl,by simpa using hv,Kp.refl _ _⟩;simp[execOp,resolve,invoke,builtin,hρ _ _ hx,hρ _ _ hy,hr]
 ·have x9:∀j u,news[j]? =some u->w.cell? ((⟨b,off,none⟩:Addr).add j)=some u:=λj u hu=>by rw[Rk];exact tq j u hu
  obtain⟨w',Jn,Bb,cS⟩:=run_append_fits (P:=P) w 0 t ty el i i.size ht hi O gb n cap cs hv ⟨b,off,none⟩ m cap2 news hu.1 x9 h1 hr;refine⟨_,w',fun ρ hρ=>?_,rfl,Bb,(Kp.Uz cS).OH λk hk=>(Rx hk).symm⟩;simp[execOp,resolve,invoke,builtin,hρ _ _ hx,hρ _ _ hy,Jn]
end
abbrev OI:=List UInt8
abbrev lt (a b:OI):Bool:=Op.bytesLess a b
section
end
def pos (l:List OI)(t:OI):Nat:=(l.takeWhile (λk=>lt k t)).length
theorem z1m (cs vs:List Value)(i m:Nat)(h:m<=i)(hl:i<=cs.length):(QH cs i vs).take m=cs.take m:=by
 unfold QH
 rw[List.append_assoc,List.take_append_of_le_length (by simp;omega),List.take_take,Nat.min_eq_left h]
def zcj {w:World}{sv:Value}{cs:List Value}{i n:Nat}(hS:Sl w sv 3 1 n cs)(ge:∀c∈cs,c.oneCell'=true)(hi:i<n)(hn:n<=8589934592):
  Pm prog 191 [sv,I (i:Int),I ((i:Int)+1)] w λv w'=>Sl w' v 3 1 (n-1) (cs.take i++cs.drop (i+1))/\Kp (λk=>sv.ownBlock=some k) w w'/\(∀g,v.ownBlock=some g->sv.ownBlock=some g):=by
 have fh:maxLen=9223372036854775807:=rfl
 have aI:=hS.len
 rw[Nat.mul_one] at aI
 obtain⟨g,cap,rfl,jP⟩:∃g cap,sv= .slice (some ⟨g,0,none⟩) n cap/\n<=cap:=by
  rcases hS.shape with⟨e,h0⟩|⟨g,cap,e,h⟩
  ·omega
  ·exact⟨g,cap,e,h⟩
 obtain⟨cur,gU,-,nH,fL,Ca⟩:=hS.row
 rw[Nat.mul_one] at fL Ca
 rw[show(i:Int)+1=((i+1:Nat):Int) by omega]
 refine py (e:=[(0,_),(1,_),(2,_)]) func191 O ntmps191 O O$ qN O$ QS O$ Pa O$ Pa O$ Rs R0 O$ qV (zjV R0 PV O O O O ⟨by omega,by omega,jP⟩) ?_
 refine OC$ An$ Qt O$ Rg O$ PH$ Qg O$ Pn O$ Rs R0 O$ OV O$ An$ QV (λw'=>Kp (λk=>k=g) w w') O ?_
 have h0:=Ext.P4 w
 refine OZ 0 O O ((Ext.P4 w).kp)$ OZ 1 O O ((Ext.P4 w).kp)$ OZ 3 O O ((Ext.P4 w).kp)$ OZ 4 O O ((Ext.P4 w).kp)$ OG 2 O (zb3 R0 PV O O (by omega)) ((Ext.P4 w).kp)$ OG 5 O (YI R0 PV O O (by omega) jP) ((Ext.P4 w).kp) ?_
 have cL:Sl w (.slice (some ⟨g,0,none⟩) i cap) 3 1 i (cs.take i):=by
  have:=gU.sl (n:=i) (by omega) nH (by rw[Nat.mul_one];exact fL);rw[Nat.mul_one,show cur.take i=cs.take i by rw[<-Ca,List.take_take,Nat.min_eq_left (by omega)]] at this;exact this
 have vY:(cur.drop (i+1)).take (n-(i+1))=cs.drop (i+1):=by
  rw[<-Ca,List.drop_take]
 have hR:Rd w.drew (.slice (if cap=i+1 then some ⟨g,0,none⟩ else(some (⟨g,0,none⟩:Addr)).map (·.add ((i+1)*1))) (n-(i+1)) (cap-(i+1))) 1 (n-(i+1)) (cs.drop (i+1)):=by
  by_cases hc:cap=i+1
  ·rw[if_pos hc,show n-(i+1)=0 by omega,List.drop_eq_nil_of_le (by omega)];exact VB
  ·rw[if_neg hc,Option.map_some,Rk,Nat.zero_add,Nat.mul_one,<-vY];exact(gU.ext h0).rd (by omega)
 refine qO 6$ XJ (i:=6) O O O (zlb R0 PV (by decide) O O (cL.ext h0) hR (λc hc=>ge c (List.mem_of_mem_drop hc)) (by omega)) ?_
 rintro _ w1 ⟨rfl,da,av⟩
 refine⟨h0.kp.trans av,?_⟩
 have e1:i+(n-(i+1))=n-1:=by omega
 rw[e1] at da⊢
 obtain⟨cur3,xa,Jo,Jp,xc,xd⟩:=da.row
 rw[Nat.mul_one] at xc xd
 refine OG 7 O (Rp O) (h0.kp.trans av)$ qE$ Qt O$ Rs R0 O$ ON O$ qV (zfq R0 PV O O O (by omega) (by omega))$ zaz O (zkm R0 PV O O xa (by omega)) ?_
 rintro _ w2 ⟨xe,au⟩
 refine OC$ Po.qb (e:=[(0,_),(6,_)]) ?_
 refine Pn O$ OV O$ OB func191 O ?_
 have xh:=xe.sl (n:=n-1) (cap:=cap) (by omega) nH (by rw[z2b _ _ _ (by simp;omega),xc,Nat.mul_one])
 rw[Nat.mul_one,z1m _ _ _ _ (by omega) (by omega),xd] at xh
 exact⟨_,rfl,xh,((h0.kp.trans av).trans au).OH (λk hk=>by subst hk;rfl),λg' cS=>cS⟩
open Go.ChangeMaps (setBlock)
def SF {κ:Type}(K:κ->Value)(w:World)(m:Nat)(kv:List (κ×Value)):Prop:=(∃es clock,w.heap[m]? =some (.map es clock)/\Ud K es.toList kv/\(∀e∈es.toList,e.born<clock)/\(es.toList.map (·.born)).Nodup)/\(kv.map (·.1)).Nodup
section
variable {κ:Type}[DecidableEq κ]{K:κ->Value}
theorem SF.l {w:World}{m:Nat}{kv:List (κ×Value)}(h:SF K w m kv):Ws K w m kv:=by
 obtain⟨⟨es,c,h1,h2,-,-⟩,h3⟩:=h
 exact⟨⟨es,c,h1,h2⟩,h3⟩
def SF.lt {w:World}{m:Nat}{kv:List (κ×Value)}(h:SF K w m kv):m<w.heap.size:=h.l.lt
theorem SF.nd {w:World}{m:Nat}{kv:List (κ×Value)}(h:SF K w m kv):(kv.map (·.1)).Nodup:=h.2
def SF.kp {S:Nat->Prop}{w w':World}{m:Nat}{kv:List (κ×Value)}(h:SF K w m kv)(k:Kp S w w')(hn:¬S m):SF K w' m kv:=by
 obtain⟨⟨es,c,h,he⟩,hd⟩:=h
 exact⟨⟨es,c,k.heap h hn,he⟩,hd⟩
def SF.ext {w w':World}{m:Nat}{kv:List (κ×Value)}(h:SF K w m kv)(k:Ext w w'):SF K w' m kv:=h.kp k id
theorem SF.new {w:World}{m:Nat}(h:w.heap[m]? =some (.map #[] 0)):SF K w m []:=⟨⟨#[],0,h,rfl,by simp,by simp⟩,by simp⟩
def delL:List (κ×Value)->κ->List (κ×Value)
 |[],_=>[]
 |(a,v)::r,k=>if k=a then r else(a,v)::delL r k
def z4o:∀(kv:List (κ×Value)) (k:κ),(delL kv k).Sublist kv
 |[],_=> .slnil
 | (a, v) :: r, k => by
   simp only[delL];split
   ·exact List.sublist_cons_self _ _
   ·exact(z4o r k).cons_cons _
theorem z2R {kv:List (κ×Value)}{k:κ}(h:k∉kv.map (·.1)):R8 kv k=none:=by
 induction kv with
 |nil=>rfl
 | cons p r ih =>
   obtain⟨a,u⟩:=p;simp only[List.map_cons,List.mem_cons,not_or] at h;simp only[R8,h.1,if_false];exact ih h.2
def zhE {kv:List (κ×Value)}(hn:(kv.map (·.1)).Nodup)(k x:κ):R8 (delL kv k) x=if x=k then none else R8 kv x:=by
 induction kv with
 |nil=>simp[delL,R8]
 | cons p r ih =>
   obtain⟨a,u⟩:=p;simp only[List.map_cons,List.nodup_cons] at hn;simp only[delL];by_cases h:k=a
   ·subst h;simp only[if_true,R8];by_cases hx:x=k
    ·subst hx;simp[z2R hn.1]
    ·simp[hx]
   ·simp only[h,if_false,R8,ih hn.2];by_cases hx:x=a
    ·subst hx;simp[Ne.symm h]
    ·simp[hx]
def z4R {kv:List (κ×Value)}(hn:(kv.map (·.1)).Nodup){k:κ}{v:Value}(h:(k,v)∈kv):R8 kv k=some v:=by
 induction kv with
 |nil=>cases h
 | cons p r ih =>
   obtain⟨a,u⟩:=p;simp only[List.map_cons,List.nodup_cons] at hn;rcases List.mem_cons.1 h with e| h
   ·cases e;simp[R8]
   ·have:k≠a:=λe=>hn.1 (List.mem_map.2 ⟨(k,v),h,e⟩);simp only[R8,this,if_false];exact ih hn.2 h
def z05 {td:TypeDesc}(hs:∀a b,Instr.sameNow td (K a) (K b)=some (decide (a=b))):∀{es:List MapEntry} {kv:List (κ×Value)} (i:Nat) {k:κ} {v:Value},Ud K es kv->R8 kv k=some v->
  ∃j,Instr.findNow td (K k) es i=some (some (i+j,v))/\j<es.length/\Ud K (es.eraseIdx j) (delL kv k)
 | e :: es, (a, v') :: kv, i, k, v, h, hg => by
   simp only[Ud,List.map_cons,List.cons.injEq,Prod.mk.injEq] at h;simp only[R8] at hg;split at hg
   ·rename_i he
    subst he;cases hg;refine⟨0,by simp[Instr.findNow,h.1.1,hs,h.1.2],by simp,?_⟩;simp only[List.eraseIdx_zero,List.tail_cons,delL,if_true];exact h.2
   ·rename_i bu
    obtain⟨j,h1,h2,h3⟩:=z05 hs (i+1) h.2 hg;refine⟨j+1,?_,by simp;omega,?_⟩
    ·simp only[Instr.findNow,h.1.1,hs,bu,decide_false,h1]
     congr 3;omega
    ·simp only[delL,bu,if_false,List.eraseIdx_cons_succ,Ud,List.map_cons,List.cons.injEq,Prod.mk.injEq]
     exact⟨h.1,h3⟩
 |[],[],_,_,_,_,hg=>by simp[R8] at hg
 |[],_::_,_,_,_,h,_=>by simp[Ud] at h
 |_::_,[],_,_,_,h,_=>by simp[Ud] at h
variable {P:Program}{e:Env}{d:Option Nat}{ty t kt el:TypeId}{pos:String}{aft:Array Edge}{g:Option (Nat×Bool)}{x y u:Operand}{w:World}{m:Nat}{kv:List (κ×Value)}{size:Nat}{k:κ}{v:Value}
theorem zjf (ht:P.underlying t=some (.map kt el))(hx:look e x=some (.map (some m)))(hm:Ws K w m kv):Y P e ⟨d,.call ⟨.builtin .len,#[x],#[t]⟩,ty,pos,aft,g⟩ (I (kv.length:Int)) w w:=fun ρ hρ=>by
 obtain⟨⟨es,c,hh,he⟩,-⟩:=hm
 have hl:es.size=kv.length:=by
  have:=congrArg List.length he
  simpa using this
 have hg:(getObj m).run P w= .ok (.map es c) w:=by simp[getObj,Sem.run,hh]
 simp[execOp,resolve,invoke,builtin,hρ _ _ hx,Builtin.len_,run_underlying ht,hg,goInt,hl,go_sem,Result.andThen]
def zf0 (ht:P.underlying t=some (.map kt el))(hK:Ky P kt K)(hx:look e x=some (.map (some m)))(hy:look e y=some (K k))(hu:look e u=some v)(hm:SF K w m kv):
  Zp P e ⟨d,.mapUpdate t x y u,ty,pos,aft,g⟩ w λw'=>SF K w' m (putL kv k v)/\Kp (λi=>i=m) w w':=by
 have aS:=hm.lt
 obtain⟨⟨es,c,hh,he,bL,bN⟩,hd⟩:=hm
 have tr:=λb=>hK.same.choose_spec.2.2 w b 9999 k
 have hg:(getObj m).run P w= .ok (.map es c) w:=by simp[getObj,Sem.run,hh]
 have gV:∀o,(setObj m o).run P w= .ok () (w.putObj m o):=λo=>by simp[setObj,Sem.run,hh,World.putObj]
 cases ma:R8 kv k with
 | none =>
   have hf:=U7 (P:=P) (w:=w) hK he ma;refine⟨w.putObj m (.map (es.push {key:=K k,val:=v,born:=c}) (c+1)),fun ρ hρ=>?_,⟨⟨_,_,World.putObj_heap_same aS,?_,?_,?_⟩,?_⟩,Q4 w m _⟩
   ·simp[execOp,hρ _ _ hx,hρ _ _ hy,hρ _ _ hu,Instr.mapUpdate,run_underlying ht,hg,tr,hf,gV]
   ·rw[UA _ _ _ ma]
    simpa[Ud] using he
   ·intro x hx;simp at hx;rcases hx with hx|rfl
    ·have:=bL x (by simpa using hx);omega
    ·simp
   ·simp only[Array.toList_push,List.map_append,List.map_cons,List.map_nil];refine List.nodup_append.2 ⟨bN,by simp,λa ha b hb jQ=>?_⟩;simp at hb;subst hb;subst jQ;obtain⟨x,hx,HH⟩:=List.mem_map.1 ha;have:=bL x hx;omega
   ·rw[UA _ _ _ ma,List.map_append,List.nodup_append];refine⟨hd,by simp,λa ha b hb jQ=>?_⟩;simp at hb;subst hb;subst jQ
    exact z0J ma ha
 | some v0 =>
   obtain⟨j,hf,⟨ej,Jq,Cb⟩,nI⟩:=Ub (P:=P) (w:=w) hK he ma
   have mc:(es.modify j λe=>{e with key:=K k,val:=v}).toList.map (·.born)=es.toList.map (·.born):=by
    apply List.ext_getElem?;intro i;simp only[Array.toList_modify,List.getElem?_map,List.getElem?_modify];by_cases gW:j=i
    ·subst gW;simp;cases es[j]?<;>rfl
    ·simp[gW]
   refine⟨w.putObj m (.map (es.modify j λe=>{e with key:=K k,val:=v}) c),fun ρ hρ=>?_,⟨⟨_,_,World.putObj_heap_same aS,nI v,?_,?_⟩,?_⟩,Q4 w m _⟩
   ·simp[execOp,hρ _ _ hx,hρ _ _ hy,hρ _ _ hu,Instr.mapUpdate,run_underlying ht,hg,tr,hf,gV,Jq,Cb,Instr.keyThatStays,hK.bits]
   ·intro x hx;have:x.born∈es.toList.map (·.born):=by rw[<-mc];exact List.mem_map.2 ⟨x,hx,rfl⟩
    obtain⟨y,hy,HI⟩:=List.mem_map.1 this;rw[<-HI];exact bL y hy
   ·rw[mc];exact bN
   ·rw[z2z _ _ _ (by rw[ma];rfl)];exact hd
theorem zeY (ht:P.underlying t=some (.map kt el))(hK:Ky P kt K)(hx:look e x=some (.map (some m)))(hy:look e y=some (K k))(hm:SF K w m kv){ts:Array TypeId}(s6:ts[0]? =some t):
  Yp P e ⟨d,.call ⟨.builtin .delete,#[x,y],ts⟩,ty,pos,aft,g⟩ w λv' w'=>SF K w' m (delL kv k)/\Kp (λi=>i=m) w w':=by
 have aS:=hm.lt
 obtain⟨⟨es,c,hh,he,bL,bN⟩,hd⟩:=hm
 obtain⟨⟨td,hu,hs,Cc⟩,-⟩:=hK
 have tr:=λb=>Cc w b 9999 k
 have hg:(getObj m).run P w= .ok (.map es c) w:=by simp[getObj,Sem.run,hh]
 have gV:∀o,(setObj m o).run P w= .ok () (w.putObj m o):=λo=>by simp[setObj,Sem.run,hh,World.putObj]
 have dR:=(z4o kv k).map (·.1)
 cases ma:R8 kv k with
 | none =>
   have hf:(Instr.findKey kt (K k) es.toList).run P w= .ok none w:=by simp[Instr.findKey,run_underlying hu,VL hs 0 he ma]
   have lE:delL kv k=kv:=by
    clear he hh hd dR
    induction kv with
    |nil=>rfl
    | cons p r ih =>
      obtain⟨a,u⟩:=p;simp only[R8] at ma;split at ma
      ·cases ma
      ·rename_i bu;simp only[delL,bu,if_false,ih ma]
   refine⟨.tuple #[],w.putObj m (.map es c),fun ρ hρ=>?_,⟨⟨es,c,World.putObj_heap_same aS,by rw[lE];exact he,bL,bN⟩,by rw[lE];exact hd⟩,Q4 w m _⟩
   simp[execOp,resolve,invoke,builtin,hρ _ _ hx,hρ _ _ hy,Builtin.delete_,s6,run_underlying ht,hg,tr,hf,gV,Result.andThen]
 | some v0 =>
   obtain⟨j,xi,hj,nI⟩:=z05 hs 0 he ma
   have hf:(Instr.findKey kt (K k) es.toList).run P w= .ok (some (j,v0)) w:=by
    rw[Nat.zero_add] at xi;simp[Instr.findKey,run_underlying hu,xi]
   have Ce:(es.eraseIdxIfInBounds j).toList=es.toList.eraseIdx j:=by
    simp at hj;simp[Array.eraseIdxIfInBounds,hj]
   refine⟨.tuple #[],w.putObj m (.map (es.eraseIdxIfInBounds j) c),fun ρ hρ=>?_,⟨⟨_,c,World.putObj_heap_same aS,by rw[Ce];exact nI,?_,?_⟩,dR.nodup hd⟩,Q4 w m _⟩
   ·simp[execOp,resolve,invoke,builtin,hρ _ _ hx,hρ _ _ hy,Builtin.delete_,s6,run_underlying ht,hg,tr,hf,gV,Result.andThen]
   ·rw[Ce];exact λx hx=>bL x ((List.eraseIdx_sublist _ _).subset hx)
   ·rw[Ce];exact((List.eraseIdx_sublist _ _).map _).nodup bN
end
def Pc:Nat->Nat->List Bool
 |0,_=>[]
 |n+1,v=>v.testBit n::Pc n v
def Pz:List Bool->Nat
 |[]=>0
 |b::l=>b.toNat*2^l.length+Pz l
@[simp] theorem bitsN_length:∀(n v:Nat),(Pc n v).length=n
 |0,_=>rfl
 |n+1,v=>by simp[Pc,bitsN_length n v]
theorem R1:∀(l:List Bool),Pz l<2^l.length
 |[]=>by simp[Pz]
 | b :: l => by
   have:=R1 l;simp only[Pz,List.length_cons,Nat.pow_succ];have:b.toNat<=1:=by cases b<;>simp
   have:b.toNat*2^l.length<=1*2^l.length:=Nat.mul_le_mul_right _ this;omega
theorem RS:∀(a b:List Bool),Pz (a++b)=Pz a*2^b.length+Pz b
 |[],b=>by simp[Pz]
 | x :: a, b => by
   rw[List.cons_append,Pz,RS a b,Pz,List.length_append,Nat.pow_add,Nat.add_mul,Nat.mul_assoc];omega
theorem RY:∀(m n v:Nat),Pc (m+n) v=Pc m (v / 2^n)++Pc n v
 |0,n,v=>by simp[Pc]
 | m + 1, n, v => by
   rw[show m+1+n=(m+n)+1 by omega,Pc,Pc,List.cons_append,RY m n v,Nat.testBit_div_two_pow]
theorem Q0:∀(n v:Nat),Pz (Pc n v)=v%2^n
 |0,v=>by simp[Pc,Pz,Nat.mod_one]
 | n + 1, v => by
   rw[Pc,Pz,bitsN_length,Q0 n v,Nat.pow_succ,Nat.mod_mul,Nat.testBit_eq_decide_div_mod_eq];rcases Nat.mod_two_eq_zero_or_one (v / 2^n) with e|e<;>simp[e]<;>omega
theorem Wo:∀{n v u:Nat},v%2^n=u%2^n->Pc n v=Pc n u
 |0,_,_,_=>rfl
 | n + 1, v, u, h => by
   have h1:v.testBit n=u.testBit n:=by
    have e1:(v%2^(n+1)).testBit n=v.testBit n:=by rw[Nat.testBit_mod_two_pow];simp
    have e2:(u%2^(n+1)).testBit n=u.testBit n:=by rw[Nat.testBit_mod_two_pow];simp
    rw[<-e1,<-e2,h]
   have h2:v%2^n=u%2^n:=by
    have e1:v%2^(n+1)%2^n=v%2^n:=Nat.mod_mod_of_dvd _ (Nat.pow_dvd_pow 2 (Nat.le_succ n));have e2:u%2^(n+1)%2^n=u%2^n:=Nat.mod_mod_of_dvd _ (Nat.pow_dvd_pow 2 (Nat.le_succ n));rw[<-e1,<-e2,h]
   rw[Pc,Pc,h1,Wo h2]
theorem Yv:∀{a b:List Bool},a.length=b.length->Pz a=Pz b->a=b
 |[],[],_,_=>rfl
 | x :: a, y :: b, hl, hv => by
   have hl':a.length=b.length:=by simpa using hl
   have h1:=R1 a;have h2:=R1 b;rw[Pz,Pz,hl'] at hv;rw[hl'] at h1
   have hx:x=y:=by
    cases x<;>cases y<;>simp at hv⊢<;>omega
   subst hx;rw[Yv hl' (by omega)]
def z1l (l:List Bool):Pc l.length (Pz l)=l:=Yv (by simp) (by rw[Q0,Nat.mod_eq_of_lt (R1 l)])
/-! ### Bytes -/
def P7 (s:OI):List Bool:=s.flatMap λc=>Pc 8 c.toNat
@[simp] theorem bitsT_length (s:OI):(P7 s).length=8*s.length:=by
 induction s with
 |nil=>rfl
 |cons c s ih=>simp[P7] at ih⊢;omega
theorem YA (a b:OI):P7 (a++b)=P7 a++P7 b:=by simp[P7]
def W4 (d:List Bool):UInt8:=UInt8.ofNat (Pz d*2^(8-d.length))
def Ph (l:List Bool):OI:=(List.range ((l.length+7) / 8)).map λi=>W4 ((l.drop (8*i)).take 8)
theorem Py (l:List Bool):(Ph l).length=(l.length+7) / 8:=by simp[Ph]
theorem XM {c d:List Bool}(hc:c.length%8=0)(h1:1<=d.length)(h8:d.length<=8):Ph (c++d)=Ph c++[W4 d]:=by
 obtain⟨m,hm⟩:∃m,c.length=8*m:=⟨c.length / 8,by omega⟩
 unfold Ph
 rw[List.length_append,show(c.length+d.length+7) / 8=m+1 by omega,show(c.length+7) / 8=m by omega,List.range_succ,List.map_append]
 congr 1
 ·apply List.map_congr_left;intro i hi;rw[List.mem_range] at hi;rw[List.drop_append_of_le_length (by omega),List.take_append_of_le_length (by rw[List.length_drop];omega)]
 ·simp only[List.map_cons,List.map_nil];rw[<-hm,List.drop_left,List.take_of_length_le h8]
def zai {d e:List Bool}(h:d.length+e.length<=8):(W4 (d++e)).toNat=(W4 d).toNat |||(Pz e*2^(8-d.length-e.length)):=by
 have h1:=R1 d
 have h2:=R1 e
 have hp:∀(x:List Bool),x.length<=8->Pz x*2^(8-x.length)<256:=λx hx=>by
  have h3:=R1 x;have:Pz x*2^(8-x.length)<2^x.length*2^(8-x.length):=Nat.mul_lt_mul_of_pos_right h3 (Nat.two_pow_pos _);rw[<-Nat.pow_add,show x.length+(8-x.length)=8 by omega] at this;exact this
 have e1:(W4 (d++e)).toNat=Pz (d++e)*2^(8-(d++e).length):=by
  unfold W4;rw[UInt8.toNat_ofNat'];exact Nat.mod_eq_of_lt (hp _ (by rw[List.length_append];omega))
 have e2:(W4 d).toNat=Pz d*2^(8-d.length):=by
  unfold W4;rw[UInt8.toNat_ofNat'];exact Nat.mod_eq_of_lt (hp _ (by omega))
 rw[e1,e2,RS,List.length_append,Nat.add_mul]
 have h5:Pz d*2^e.length*2^(8-(d.length+e.length))=2^(8-d.length)*Pz d:=by
  rw[Nat.mul_assoc,<-Nat.pow_add,show e.length+(8-(d.length+e.length))=8-d.length by omega,Nat.mul_comm]
 have h6:Pz e*2^(8-(d.length+e.length))<2^(8-d.length):=by
  have:Pz e*2^(8-(d.length+e.length))<2^e.length*2^(8-(d.length+e.length)):=Nat.mul_lt_mul_of_pos_right h2 (Nat.two_pow_pos _);rw[<-Nat.pow_add,show e.length+(8-(d.length+e.length))=8-d.length by omega] at this;exact this
 rw[h5,Nat.two_pow_add_eq_or_of_lt h6,Nat.mul_comm (2^(8-d.length)),show 8-d.length-e.length=8-(d.length+e.length) by omega]
theorem z9Y:W4 []=0:=by decide
def Si (l:List Bool):∃z,P7 (Ph l)=l++List.replicate z false/\(l.length+z)%8=0/\z<8:=by
 have key:∀(m:Nat) (l:List Bool),l.length<=8*m->∃z,P7 (Ph l)=l++List.replicate z false/\(l.length+z)%8=0/\z<8:=by
  intro m
  induction m with
  | zero =>
    intro l h;have:l=[]:=List.eq_nil_of_length_eq_zero (by omega);subst this
    exact⟨0,rfl,rfl,by omega⟩
  | succ m ih =>
    intro l h;by_cases h0:l=[]
    ·subst h0;exact⟨0,rfl,rfl,by omega⟩
    ·have hpos:1<=l.length:=by
      cases l with
      |nil=>exact absurd O h0
      |cons a r=>simp
     obtain⟨c,d,rfl,hc,h1,h8⟩:∃c d,l=c++d/\c.length%8=0/\1<=d.length/\d.length<=8:=by
      refine⟨l.take (8*((l.length-1) / 8)),l.drop (8*((l.length-1) / 8)),(List.take_append_drop _ _).symm,?_,?_,?_⟩
      ·rw[List.length_take];omega
      ·rw[List.length_drop];omega
      ·rw[List.length_drop];omega
     rw[List.length_append] at h;obtain⟨z,hz,hm,hl⟩:=ih c (by omega);have hz0:z=0:=by omega
     subst hz0;simp at hz;refine⟨8-d.length,?_,by rw[List.length_append];omega,by omega⟩;rw[XM hc h1 h8,YA,hz,List.append_assoc]
     congr 1
     simp only[P7,List.flatMap_cons,List.flatMap_nil,List.append_nil]
     have hv:Pz (d++List.replicate (8-d.length) false)=Pz d*2^(8-d.length):=by
      rw[RS,List.length_replicate]
      have:∀n,Pz (List.replicate n false)=0:=λn=>by
       induction n with
       |zero=>rfl
       |succ n ih=>rw[List.replicate_succ,Pz,ih];simp
      rw[this];rfl
     refine Yv (by simp;omega) ?_;rw[Q0,hv];have h3:=R1 d
     have:Pz d*2^(8-d.length)<2^8:=by
      have:Pz d*2^(8-d.length)<2^d.length*2^(8-d.length):=Nat.mul_lt_mul_of_pos_right h3 (Nat.two_pow_pos _)
      rwa [<-Nat.pow_add,show d.length+(8-d.length)=8 by omega] at this
     unfold W4;rw[UInt8.toNat_ofNat'];rw[Nat.mod_mod,Nat.mod_eq_of_lt this]
 exact key l.length l (by omega)
def z6l (c:Nat)(hc:c<256)(room n:Nat)(hr:room<=8)(hn:n<=room):Pz (((Pc 8 c).drop (8-room)).take n)=c%2^room / 2^(room-n):=by
 have e1:Pc 8 c=Pc (8-room) (c / 2^room)++Pc room c:=by rw[<-RY,show 8-room+room=8 by omega]
 have e2:Pc room c=Pc n (c / 2^(room-n))++Pc (room-n) c:=by rw[<-RY,show n+(room-n)=room by omega]
 rw[e1,List.drop_left' (by simp),e2,List.take_left' (by simp),Q0]
 have:c%2^room / 2^(room-n)=c / 2^(room-n)%2^n:=by
  have h2:2^room=2^(room-n)*2^n:=by rw[<-Nat.pow_add,show room-n+n=room by omega]
  rw[h2,Nat.mod_mul_right_div_self]
 rw[this]
theorem TA (c:UInt8)(s:OI):P7 (c::s)=Pc 8 c.toNat++P7 s:=rfl
theorem TH:∀(k:Nat) (s:OI),P7 (s.drop k)=(P7 s).drop (8*k)
 |0,s=>by simp
 |k+1,[]=>by simp[P7]
 | k + 1, c :: s => by
   have e:(Pc 8 c.toNat++P7 s).drop (8+8*k)=(P7 s).drop (8*k):=by rw[<-List.drop_drop,List.drop_left' (by simp)]
   rw[List.drop_succ_cons,TH k s,TA,show 8*(k+1)=8+8*k by omega,e]
theorem Ut:∀(k:Nat) (s:OI),P7 (s.take k)=(P7 s).take (8*k)
 |0,s=>by simp[P7]
 |k+1,[]=>by simp[P7]
 | k + 1, c :: s => by
   have e:(Pc 8 c.toNat++P7 s).take (8+8*k)=Pc 8 c.toNat++(P7 s).take (8*k):=by
    have:=List.take_length_add_append (l₁:=Pc 8 c.toNat) (l₂:=P7 s) (8*k)
    rwa [bitsN_length] at this
   rw[List.take_succ_cons,TA,Ut k s,TA,show 8*(k+1)=8+8*k by omega,e]
def zd2 {s:OI}{i:Nat}{c:UInt8}(h:s[i]? =some c):((P7 s).drop (8*i)).take 8=Pc 8 c.toNat:=by
 rw[<-TH]
 obtain⟨hi,e⟩:=List.getElem?_eq_some_iff.1 h
 rw[List.drop_eq_getElem_cons hi,e,show P7 (c::s.drop (i+1))=Pc 8 c.toNat++P7 (s.drop (i+1)) from rfl,List.take_left' (by simp)]
def z6o {s:OI}{at' n:Nat}{c:UInt8}(h:s[at' / 8]? =some c)(hn:n<=8-at'%8):Pz (((P7 s).drop at').take n)=c.toNat%2^(8-at'%8) / 2^(8-at'%8-n):=by
 have h1:=zd2 h
 have h2:=z6l c.toNat (by have:=c.toNat_lt;omega) (8-at'%8) n (by omega) hn
 rw[<-h2,<-h1]
 congr 1
 rw[List.drop_take,List.take_take,List.drop_drop,show 8*(at' / 8)+(8-(8-at'%8))=at' by omega]
 congr 1
 omega
def z7j {bs e:List Bool}(h1:1<=e.length)(h8:bs.length%8+e.length<=8):∃(c:OI) (x y:UInt8),(if bs.length%8=0 then Ph bs++[0] else Ph bs)=c++[x]/\Ph (bs++e)=c++[y]/\y.toNat=(x.toNat |||(Pz e*2^(8-bs.length%8-e.length))):=by
 obtain⟨c,d,hcd,hc,hd⟩:∃c d,bs=c++d/\c.length%8=0/\d.length=bs.length%8:=⟨bs.take (8*(bs.length / 8)),bs.drop (8*(bs.length / 8)),(List.take_append_drop _ _).symm,by rw[List.length_take];omega,by rw[List.length_drop];omega⟩
 have hb:=zai (d:=d) (e:=e) (by omega)
 rw[<-hd]
 refine⟨Ph c,W4 d,W4 (d++e),?_,?_,hb⟩
 ·by_cases h0:d.length=0
  ·have:d=[]:=List.eq_nil_of_length_eq_zero h0;subst this;rw[if_pos (by simp),hcd,List.append_nil,z9Y]
  ·rw[if_neg (by omega),hcd,XM hc (by omega) (by omega)]
 ·rw[hcd,List.append_assoc,XM hc (by rw[List.length_append];omega) (by rw[List.length_append];omega)]
abbrev OY (n:Nat):Value:= .int .u64 (n:Int)
def WS {w:World}{v:Value}{T s n}{us:List Value}(h:Sl w v T s n us):oneV v=true:=by
 rcases h.shape with⟨rfl,-⟩|⟨g,c,rfl,-⟩<;>rfl
section
variable {P:Program}{e:Env}{d:Option Nat}{ty t t':TypeId}{pos:String}{aft:Array Edge}{g:Option (Nat×Bool)}{x y:Operand}{w:World}{k:IntKind}{m n:Nat}
def Ww (hx:look e x=some (.int k (m:Int)))(hy:look e y=some (.int k (n:Int)))(hs:k.signed=false)(hm:m<2^k.bits)(h:n<=m):Y P e ⟨d,.binOp .sub t x y t',ty,pos,aft,g⟩ (.int k ((m-n:Nat):Int)) w w:=fun ρ hρ=>by
 have h1:(m:Int)-n=((m-n:Nat):Int):=by omega
 have h2:k.wrap ((m-n:Nat):Int)=((m-n:Nat):Int):=z1v hs (by omega)
 simp[execOp,go_sem,hρ _ _ hx,hρ _ _ hy,h1,h2]
def zhA {el:TypeId}{c:Nat}(hs:P.underlying t=some (.slice el))(he:P.underlying el=some (.int .u8))(hd:P.underlying t'=some .string)(hx:look e x=some (.slice none 0 c)):Y P e ⟨d,.convert t t' x,ty,pos,aft,g⟩ (S []) w w:=fun ρ hρ=>by
 have hr:(convert t t' (.slice none 0 c)).run P w= .ok (S []) w:=by
  rw[run_convert_bytes_string w t t' el none 0 c hs he hd];rfl
 simp only[execOp,hρ _ _ hx,Sem.run_bind,hr,Result.andThen_ok,Sem.run_pure]
def zhX {el:TypeId}{gb n cap:Nat}{l:List UInt8}(hs:P.underlying t=some (.slice el))(he:P.underlying el=some (.int .u8))(hd:P.underlying t'=some .string)(hx:look e x=some (.slice (some ⟨gb,0,none⟩) n cap))(hS:Sl w (.slice (some ⟨gb,0,none⟩) n cap) el 1 n (l.map Tu)):
  Y P e ⟨d,.convert t t' x,ty,pos,aft,g⟩ (S l) w w:=by
 obtain⟨cur,hr,-,-,-,ht⟩:=hS.row
 refine z9m hs he hd hx hr.OA (by rw[List.drop_zero,<-ht,Nat.mul_one]) ?_
 have:=hS.len
 rw[List.length_map] at this
 omega
end
def PU {w:World}{b off n cap i:Nat}{vs:List Value}{v:Value}(h:Rd w (.slice (some ⟨b,off,none⟩) n cap) 1 n vs)(hv:vs[i]? =some v):w.cell? ⟨b,off+i*1,none⟩=some v:=by
 rcases h.2 with⟨c,hc,h0⟩|⟨b',off',cap',e,hc⟩
 ·have hi:=(List.getElem?_eq_some_iff.1 hv).1;have:=h.1;omega
 ·cases e;rw[Nat.mul_one];exact hc i v hv
structure WrM (w:World)(p:Nat)(bv:Value)(bs:List Bool):Prop where
 OA:OP w p [bv,I (bs.length:Int)] 267
 sl:Sl w bv 5 1 (Ph bs).length ((Ph bs).map Tu)
 ne:bv.ownBlock≠some p
def fpW (p:Nat)(bv:Value)(k:Nat):Prop:=k=p\/bv.ownBlock=some k
def YT (w:World)(p:Nat)(bs:List Bool)(F:Nat->Prop):Prop:=∃bv,WrM w p bv bs/\∀k,F k↔fpW p bv k
def WrR (p:Nat)(F:Nat->Prop)(w w':World)(bs:List Bool):Prop:=∃F',YT w' p bs F'/\Kp F w w'/\∀k,F' k->F k\/w.heap.size<=k
section
variable {w w':World}{p:Nat}{bs:List Bool}{F S:Nat->Prop}
def YT.lt (h:YT w p bs F){k:Nat}(hk:F k):k<w.heap.size:=by
 obtain⟨bv,hM,hF⟩:=h
 rcases (hF k).1 hk with e| e
 ·rw[e];exact hM.OA.lt
 ·exact hM.sl.lt e
def YT.kp (h:YT w p bs F)(k:Kp S w w')(hn:∀i,F i->¬S i):YT w' p bs F:=by
 obtain⟨bv,hM,hF⟩:=h
 exact⟨bv,⟨k.OA hM.OA (hn p ((hF p).2 (.inl O))),hM.sl.kp k (λg hg=>hn g ((hF g).2 (.inr hg))),hM.ne⟩,hF⟩
def YT.ext (h:YT w p bs F)(k:Ext w w'):YT w' p bs F:=h.kp k.kp λ_ _=>id
end
section
variable {w:World}{p:Nat}{bs:List Bool}{F:Nat->Prop}
def Uy (w:World):Pm prog 117 [] w λv w'=>∃p F,v=ptr p 0/\YT w' p [] F/\Ext w w'/\∀k,F k->w.heap.size<=k:=by
 refine py (e:=[]) func117 O ntmps117 O O$ qN O$ QS O$ qV (Sa (cs:=[_,_]) zjF O zi4 O O)$ OJ O O (R4 O O) ?_
 rintro _ w1 ⟨p,rfl,hp,hx,hB⟩
 refine OV O$ OB func117 O ?_
 exact⟨_,rfl,p,_,rfl,⟨_,⟨hB,Sl.nil _ _ _,by simp[Value.ownBlock]⟩,λ_=>Iff.rfl⟩,hx,λk hk=>by
  rcases hk with e| e
  ·omega
  ·simp[Value.ownBlock] at e⟩
def zbb (h:YT w p bs F)(v n:Nat)(hn:n<=64)(hv:v<2^n)(hl:bs.length+n<=1000000000):
  Pm prog 155 [ptr p 0,OY v,I (n:Int)] w λu w'=>u= .tuple #[]/\WrR p F w w' (bs++Pc n v):=by
 obtain⟨bv,hM,hF⟩:=h
 have Jr:v<18446744073709551616:=by
  have:=Nat.pow_le_pow_right (show 0<2 by decide) hn;have e:(2:Nat)^64=18446744073709551616:=by decide
  omega
 have fh:maxLen=9223372036854775807:=rfl
 refine py (e:=[(0,_),(1,_),(2,_)]) func155 O ntmps155 O O$ OE$ Rr (α:=Nat×Value×List Bool) ((n,bv,bs)) (λx=>[(0,ptr p 0),(1,OY v),(2,I (x.1:Int))]) (λx w'=>x.1<=n/\WrM w' p x.2.1 x.2.2/\x.2.2=bs++Pc (n-x.1) (v / 2^x.1)/\Kp F w w'/\(∀k,fpW p x.2.1 k->F k\/w.heap.size<=k)) (λx=>x.1) ?hI ?hround
 case hI=>exact⟨Nat.le_refl _,hM,by rw[Nat.sub_self];simp[Pc],Kp.refl _ _,λk hk=> .inl ((hF k).2 hk)⟩
 case hround =>
  rintro⟨k,bv1,b1⟩ w1 ⟨hk,dD,bL,az,j9⟩ ih;dsimp only at hk dD bL j9;have ai:=dD.OA;have Cf:b1.length<=bs.length+n:=by rw[bL,List.length_append,bitsN_length];omega
  have kk:b1.length&&&7=b1.length%8:=Nat.and_two_pow_sub_one_eq_mod b1.length 3;have nJ:=az.size;have gQ:=ai.lt
  try dsimp only
  refine PK O$ QB O$ OC$ OQ O (λaS=>?_)$ λaS=>?_
  ·have fY : 0 < k := by omega
   obtain⟨take,nK⟩:∃take,min k (8-b1.length%8)=take:=⟨_,rfl⟩;have tt:1<=take/\take<=k/\take<=8-b1.length%8:=by omega
   obtain⟨e,he⟩:∃e,Pc take (v / 2^(k-take))=e:=⟨_,rfl⟩;have px:e.length=take:=by rw[<-he];simp
   have HJ:Pz e=v / 2^(k-take)%2^take:=by rw[<-he,Q0]
   obtain⟨c,x,y,hL,hY,dN⟩:=z7j (bs:=b1) (e:=e) (by omega) (by omega);refine OD$ OE$ PK O$ Pq O$ OW WN O$ qV (OM U3 O O ai O)$ qV (XC O O (by omega) (by omega)) ?_;rw[kk];refine Rg O$ OC$ PD (λe' w'=>e'=[(0,ptr p 0),(1,OY v),(2,I (k:Int))]/\∃bv2,OP w' p [bv2,I (b1.length:Int)] 267/\Sl w' bv2 5 1 (c++[x]).length ((c++[x]).map Tu)/\bv2.ownBlock≠some p/\Kp F w w'/\∀k,fpW p bv2 k->F k\/w.heap.size<=k) ?nL$ λnL=>?nM
   case nL=>
    rintro e' w2 ⟨rfl,bv2,ak,cL,dE,am,tv⟩
    obtain⟨g2,c2,rfl,ft⟩:∃g cp,bv2= .slice (some ⟨g,0,none⟩) (c++[x]).length cp/\(c++[x]).length<=cp:=by
     rcases cL.shape with⟨-,e⟩| h
     ·simp at e
     ·exact h
    have fL:(c++[x]).length=c.length+1:=by simp
    have HK:p≠g2:=λe=>dE (by rw[e];rfl);have md:(Ph (b1++e)).length=c.length+1:=by rw[hY];simp
    rw[Py,List.length_append] at md;obtain⟨T,hT⟩:∃T,2^take=T:=⟨_,rfl⟩;obtain⟨D,hD⟩:∃D,2^(k-take)=D:=⟨_,rfl⟩;obtain⟨R,hR⟩:∃R,2^(8-b1.length%8-take)=R:=⟨_,rfl⟩;rw[hT,hD] at HJ;rw[px,hR] at dN
    have HM:1<=T/\T<=256:=by
     rw[<-hT];exact⟨Nat.two_pow_pos _,by have:=Nat.pow_le_pow_right (show 0<2 by decide) (show take<=8 by omega);simpa using this⟩
    have jj:(v / D)&&&(T-1)=v / D%T:=by rw[<-hT];exact Nat.and_two_pow_sub_one_eq_mod _ _
    have Nw:v / D<=v:=Nat.div_le_self _ _;have Js:v / D%T<T:=Nat.mod_lt _ (by omega)
    have Ny:Pz e*R<256:=by
     have h1:=R1 e;rw[px,hT] at h1;have h2:Pz e*R<T*R:=Nat.mul_lt_mul_of_pos_right h1 (by rw[<-hR];exact Nat.two_pow_pos _);have h3:T*R=2^(8-b1.length%8):=by rw[<-hT,<-hR,<-Nat.pow_add,show take+(8-b1.length%8-take)=8-b1.length%8 by omega]
     have h4:=Nat.pow_le_pow_right (show 0<2 by decide) (show 8-b1.length%8<=8 by omega);have h5:(2:Nat)^8=256:=by decide
     omega
    have cT:=x.toNat_lt;refine Pn O$ Pq O$ OW WN O$ qV (OM U3 O O ak O)$ qV (XC O O (by omega) (by omega)) ?_;rw[kk];refine Ro O ?_;rw[show(8-((b1.length%8:Nat):Int))=((8-b1.length%8:Nat):Int) by omega];refine QS O$ Pa O$ qV (ymi O O) ?_;rw[show min (k:Int) ((8-b1.length%8:Nat):Int)=((take:Nat):Int) by omega];have hg:=Ext.P4 w2;refine OV O$ An$ QV (λw'=>Ext w2 w') O$ OZ 0 O O (hg)$ OZ 1 O O (hg)$ OZ 2 O O (hg)$ OG 3 O (Xw O O (by omega)) hg$ OZ 5 O O (hg) ?_;rw[show((k:Int)-(take:Int))=((k-take:Nat):Int) by omega];refine OG 4 O (Uw (k-take) D O O (by show k-take<=64;omega) hD) hg ?_;refine OG 6 O (Rf take T O O (by omega) hT) hg ?_;rw[show(1*T)%18446744073709551616=T by omega];refine OG 7 O (Ww (n:=1) O O O (by show T<2^64;omega) (by omega)) hg ?_;refine OG 8 O (Ux O O (by omega) (by omega)) hg ?_;rw[jj];refine OG 9 O (zdq O Rt U5) hg ?_;rw[show v / D%T%256=Pz e by rw[HJ];exact Nat.mod_eq_of_lt (Nat.lt_of_lt_of_le Js HM.2)];have ar:=hg.OA ak;have da:=cL.ext hg;have ag:Ext w2.drew w2.drew.drew:=Ext.P4 w2.drew;refine OG 10 O (Rp O) hg$ qE$ An$ P9 [19] (λw'=>Ext w2.drew w') (by kernel_rfl) O$ PQ 0 O O (ag)$ Pl 1 O (Q8 O) ag$ Pl 2 O (Pr Yo O) ag$ qL 3 O (λ_ h=>OM SG O O (h.OA ar) O) ag$ PQ 4 O O (ag)$ Pl 5 O (Q8 O) ag$ Pl 6 O (Pr Yo O) ag$ qL 7 O (λ_ h=>OM SG O O (h.OA ar) O) ag$ Pl 8 O (SE SG O) ag$ PQ 12 O O (ag) ?_;refine PQ 13 O O (ag)$ PQ 14 O O (ag)$ Pl 15 O (Xw O O (by omega)) ag$ Pl 9 O (Xw O O (by omega)) ag ?_;rw[show(((c++[x]).length:Int)-1)=((c.length:Nat):Int) by omega];refine Pl 10 O (PR SG Ye O O (by omega)) ag$ qL 11 O (λ_ hS=>Ps U5 O O (PU (da.rd.ext hS) (show((c++[x]).map Tu)[c.length]? =some (Tu x) by simp))) ag ?_;rw[show(((8-b1.length%8:Nat):Int)-(take:Int))=((8-b1.length%8-take:Nat):Int) by omega];refine Pl 16 O (zkc (8-b1.length%8-take) R O O (by omega) hR) ag ?_;rw[show Pz e*R%256=Pz e*R by omega];refine Pl 17 O (zjX O O (by omega) (by omega)) ag$ Pl 18 O (PR SG Ye O O (by omega)) ag$ Tt [19]$ qO 19$ PE (i:=19) O O (RQ Ye O O O (da.ext ag) (by simp)) ?_;rintro w4 ⟨eg,au⟩;refine⟨trivial,?_⟩
    rw[show((c++[x]).map Tu).set (0+c.length*1) (.int .u8 ((x.toNat |||Pz e*R:Nat):Int))=(c++[y]).map Tu by
     rw[Nat.zero_add,Nat.mul_one,List.map_append,List.map_append,List.set_append_right _ _ (by simp)]
     simp[Tu,dN]] at eg
    have aK:=au.OA (ag.OA ar) HK;refine qE$ Pn O$ Pq O$ OW WN O$ qV (OM U3 O O aK O)$ ON O$ PS O$ Pq O$ OW WN O$ OT O (QG PV O O O aK (by simp)) ?_;rintro w5 ⟨aH,aj⟩;rw[show((b1.length:Int)+(take:Int))=(((b1++e).length:Nat):Int) by rw[List.length_append,px];omega] at aH;replace aH:OP w5 p [.slice (some ⟨g2,0,none⟩) (c++[x]).length c2,I ((b1++e).length:Int)] 267:=aH
    have gh:=eg.kp aj (λg hg e=>by
                         have:g2=g:=by simpa[Value.ownBlock] using hg
                         omega)
    refine OC$ OK O$ Pa O$ Ro O$ OV O$ Oz ?_;rw[show((k:Int)-(take:Int))=((k-take:Nat):Int) by omega];refine(ih (k-take,.slice (some ⟨g2,0,none⟩) (c++[x]).length c2,b1++e) w5 ⟨by dsimp only;omega,⟨aH,?_,dE⟩,?_,?_,tv⟩ (by dsimp only;omega)).qb
    ·rw[hY];have e1:(c++[y]).length=(c++[x]).length:=by simp
     rw[e1];exact gh
    ·dsimp only;rw[bL,List.append_assoc]
     congr 1
     rw[<-he,show n-(k-take)=(n-k)+take by omega,RY]
     congr 2
     rw[Nat.div_div_eq_div_mul,<-Nat.pow_add,show k-take+take=k by omega]
    ·have me:Kp (fpW p (.slice (some ⟨g2,0,none⟩) (c++[x]).length c2)) w2 w5:=((hg.trans ag).kp.trans (au.OH (λi e=> .inr (by rw[e];rfl)))).trans (aj.OH (λi e=> .inl e));exact am.It me (λi hi=>(tv i hi).symm)
   case nM=>
    refine OQ O (λh0=>?_)$ λh0=>?_
    ·rw[if_pos (by omega)] at hL;refine OK O$ Pa O$ Pq O$ OW Yo O$ qV (OM SG O O ai O)$ OJ O O (XZ (cs:=[_]) (zs:=[Value.int .u8 0]) SG Ye O (by kernel_rfl) O O O (by decide)) ?_;rintro _ w2 ⟨b2,rfl,⟨bN,ae,ak⟩,cL⟩;refine OJ O O (pap SG Ye O (by decide) O O (dD.sl.ext ae) cL.rd (by intro c hc;simp at hc;subst hc;rfl) (by rw[Py];omega) (by rw[Py];omega)) ?_;rintro bv3 w3 ⟨da,av,lF,-⟩;have ar:=av.OA (ae.OA ai) dD.ne;refine Pq O$ OW Yo O$ OT O (QG z2e O O (WS da) ar (by simp)) ?_;rintro w4 ⟨aK,au⟩;replace aK:OP w4 p [bv3,I (b1.length:Int)] 267:=aK;refine OC ?_
     have fu:bv3.ownBlock≠some p:=λe=>by
      rcases lF p e with e| e
      ·exact dD.ne e
      ·have:=ae.size;omega
     refine(nL _ _ ⟨rfl,bv3,aK,?_,fu,?_,?_⟩).qb
     ·rw[<-hL,List.length_append,List.map_append];exact da.kp au (λg hg e=>fu (e▸hg))
     ·exact az.It ((ae.kp.trans (av.OH (λk e=> .inr e))).trans (au.OH (λk e=> .inl e))) (λi hi=>(j9 i hi).symm)
     ·intro i hi;rcases hi with e| e
      ·exact j9 i (.inl e)
      ·rcases lF i e with e| e
       ·exact j9 i (.inr e)
       ·have:=ae.size;exact .inr (by omega)
    ·rw[if_neg (by omega)] at hL;refine OD ?_;exact(nL _ _ ⟨rfl,bv1,ai,by rw[<-hL];exact dD.sl,dD.ne,az,j9⟩).qb
  ·have:k=0:=by omega
   subst this;refine OO O$ Qa func155 O (⟨_,rfl,rfl,_,⟨bv1,?_,λ_=>Iff.rfl⟩,az,j9⟩);rw[bL,Nat.sub_zero,Nat.pow_zero,Nat.div_one] at dD;exact dD
def z9I (v n:Nat)(hn:n<=64)(hv:v<2^n)(w:World):Pm prog 154 [OY v,I (n:Int)] w λu w'=>u= .bool true/\w'=w:=by
 refine py (e:=[(0,_),(1,_)]) func154 O ntmps154 O O$ qN O$ QW O$ U8 O$ ON O$ Sr (λh1=>?_)$ λh1=>?_
 ·refine QL$ QL$ QX O$ OV O$ OB func154 O ?_;exact⟨_,rfl,rfl,rfl⟩
 ·refine Pa O$ qV (Uw n (2^n) O O (by show n<=64;omega) O) ?_;rw[Nat.div_eq_of_lt hv];refine Rg O$ PM O$ OV O$ OB func154 O ?_;exact⟨_,rfl,by simp[PX],rfl⟩
def Se (h:YT w p bs F)(v n:Nat)(hn:n<=64)(hv:v<2^n)(hl:bs.length+n<=134217728):
  Pm prog 118 [ptr p 0,OY v,I (n:Int)] w λu w'=>u=I 0/\WrR p F w w' (bs++Pc n v):=by
 obtain⟨bv,hM,hF⟩:=id h
 have hB:=hM.OA
 refine py (e:=[(0,_),(1,_),(2,_)]) func118 O ntmps118 O O$ Qx O$ QA$ Pn O$ qV (PY z3K O O)$ OV O$ OL O$ Pn O$ Qw O$ ON O$ Sr (λh1=>?_)$ λh1=>?_
 ·omega
 ·refine ON O$ QB O$ PM O$ ON O$ Sr (λh2=>?_)$ λh2=>?_
  ·omega
  ·refine Pa O$ P5 zh3 O (z9I v n hn hv w) ?_;rintro _ w ⟨rfl,rfl⟩;refine qV ((RZ O))$ PM O$ OV O$ OL O$ Qt O$ Pq O$ OW WN O$ qV (OM U3 O O hB O)$ Ro O$ QB O$ OV O$ Po.qb (e:=[(0,_),(1,_),(2,_),(6,_),(23,_)]) ?_;refine OQ O (λh3=>?_)$ λh3=>?_
   ·omega
   ·refine OD$ Oz$ Qt O$ ON O$ P5 ziK O (zbb h v n hn hv (by omega)) ?_;rintro _ w1 ⟨rfl,hR⟩;refine qM O$ OV O$ OB func118 O ?_;exact⟨_,rfl,rfl,hR⟩
def Xk (h:YT w p bs F):Pm prog 119 [ptr p 0] w λu w'=>u= .tuple #[S (Ph bs),I 0]/\w'=w:=by
 obtain⟨bv,hM,hF⟩:=h
 have hB:=hM.OA
 have hS:=hM.sl
 refine py (e:=[(0,_)]) func119 O ntmps119 O O$ qN O$ Qm O$ PK O$ qV (PY z3K O O)$ Qg O$ Pn O$ Pq O$ OW Yo O$ qV (OM SG O O hB O) ?_
 rcases hS.shape with⟨rfl,h0⟩|⟨g,cap,rfl,kl⟩
 ·have hn:Ph bs=[]:=List.eq_nil_of_length_eq_zero h0;rw[hn];refine qV (zhA SG U5 U9 O)$ Qm O$ OB func119 O ?_;exact⟨_,rfl,rfl,rfl⟩
 ·refine qV (zhX (l:=Ph bs) SG U5 U9 O hS)$ Qm O$ OB func119 O ?_;exact⟨_,rfl,rfl,rfl⟩
def Vy (h:YT w p bs F):Pm prog 122 [ptr p 0] w λu w'=>u=I (bs.length:Int)/\w'=w:=by
 obtain⟨bv,hM,hF⟩:=h
 have hB:=hM.OA
 refine py (e:=[(0,_)]) func122 O ntmps122 O O$ Qx O$ PK O$ qV (PY z3K O O)$ Qg O$ Pn O$ Pq O$ OW WN O$ qV (OM U3 O O hB O)$ OV O$ OB func122 O ?_
 exact⟨_,rfl,rfl,rfl⟩
end
def TO (w:World)(r:Nat)(s:OI)(a:Nat):Prop:=OP w r [S s,I (a:Int)] 301/\a<=8*s.length/\s.length<=1000000000
section
variable {w:World}{r:Nat}{s:OI}{a:Nat}
def WX (s:OI)(hs:s.length<=1000000000)(w:World):Pm prog 158 [S s] w λv w'=>∃r,v=ptr r 0/\TO w' r s 0/\Ext w w'/\w.heap.size<=r:=by
 refine py (e:=[(0,_)]) func158 O ntmps158 O O$ qN O$ QW O$ qV (Sa (cs:=[_,_]) zgs O zhB O O)$ OJ O O (R4 O O) ?_
 rintro _ w1 ⟨r,rfl,hr,hx,hB⟩
 refine OV O$ OB func158 O ?_
 exact⟨_,rfl,r,rfl,⟨hB,Nat.zero_le _,hs⟩,hx,by omega⟩
def Uc (h:TO w r s a):Pm prog 197 [ptr r 0] w λv w'=>v=I (a:Int)/\w'=w:=by
 obtain⟨hB,h1,h2⟩:=h
 refine py (e:=[(0,_)]) func197 O ntmps197 O O$ Qx O$ PK O$ qV (PY Ve O O)$ Qg O$ Pn O$ Pq O$ OW Va O$ qV (OM U3 O O hB O)$ OV O$ OB func197 O ?_
 exact⟨_,rfl,rfl,rfl⟩
def z9V (h:TO w r s a):Pm prog 187 [ptr r 0] w λv w'=>v=I ((8*s.length-a:Nat):Int)/\Ext w w':=by
 obtain⟨hB,h1,h2⟩:=h
 refine py (e:=[(0,_)]) func187 O ntmps187 O O$ Qx O$ PK O$ qV (PY Ve O O) ?_
 have hg:=Ext.P4 w
 refine Qg O$ An$ QV (λw'=>Ext w w') O$ OZ 0 O O (hg)$ OG 1 O (Q8 O) hg$ OG 2 O (Pr z3b O) hg$ qT 3 O (λ_ h=>OM U9 O O (h.OA hB) O) hg$ OG 4 O (Wg U9 O) hg$ OG 5 O (Yb O O (by omega)) hg$ OZ 6 O O (hg)$ OG 7 O (Q8 O) hg$ OG 8 O (Pr Va O) hg$ qT 9 O (λ_ h=>OM U3 O O (h.OA hB) O) hg$ OG 10 O (Xw O O (by omega)) hg ?_
 refine OG 11 O (Rp O) hg$ qE$ OB func187 O (⟨_,rfl,?_,hg⟩)
 simp only[PX]
 congr 1
 omega
def ZF (h:TO w r s a)(k:Nat)(hk:k<=8*s.length):Pm prog 216 [ptr r 0,I (k:Int)] w λv w'=>v=I 0/\TO w' r s k/\Kp (λi=>i=r) w w':=by
 obtain⟨hB,h1,h2⟩:=h
 refine py (e:=[(0,_),(1,_)]) func216 O ntmps216 O O$ Qx O$ QA$ Pn O$ qV (PY Ve O O)$ OV O$ OL O$ Pn O$ Qw O$ ON O$ Sr (λc1=>?_)$ λc1=>?_
 ·omega
 ·refine Pa O$ Pq O$ OW z3b O$ qV (OM U9 O O hB O)$ qV (Wg U9 O)$ qV (Yb O O (by omega))$ QB O$ PM O$ OV O$ OQ O (λc2=>?_)$ λc2=>?_
  ·omega
  ·refine OD$ Oz$ Qt O$ Pq O$ OW Va O$ OT O (QG PV O O O hB (by simp)) ?_;rintro w1 ⟨ai,az⟩;refine qM O$ OV O$ OB func216 O ?_;exact⟨_,rfl,rfl,⟨ai,hk,h2⟩,az⟩
def z6e {b2 b6 V n:Nat}(h:TO w r s a)(h2:OP w b2 [ptr r 0] 273)(h6:OP w b6 [OY V] 39)(hn:1<=n)(tw:n<=8-a%8)(hl:a+n<=8*s.length)(hV:V*2^n+2^n<=18446744073709551616)(d1:b6≠r)(d2:b2≠r)(d3:b2≠b6):
  Pm prog 188 [I (n:Int),ptr b2 0,ptr b6 0] w λu w'=>u= .tuple #[]/\TO w' r s (a+n)/\OP w' b6 [OY (V*2^n+Pz (((P7 s).drop a).take n))] 39/\OP w' b2 [ptr r 0] 273/\Kp (λk=>k=b6\/k=r) w w':=by
 obtain⟨hB,ha,hs⟩:=h
 have kk:a&&&7=a%8:=Nat.and_two_pow_sub_one_eq_mod a 3
 obtain⟨c,hc⟩:∃c,s[a / 8]? =some c:=⟨_,List.getElem?_eq_getElem (by omega)⟩
 have hp:=z6o hc tw
 obtain⟨pc,md⟩:∃pc,Pz (((P7 s).drop a).take n)=pc:=⟨_,rfl⟩
 have gQ:pc<2^n:=by
  rw[<-md];have h1:=R1 (((P7 s).drop a).take n);rw[List.length_take,List.length_drop,bitsT_length,Nat.min_eq_left (by omega)] at h1;exact h1
 rw[md] at hp⊢
 have Nz:=c.toNat_lt
 obtain⟨rm,Bc⟩:∃rm,8-a%8=rm:=⟨_,rfl⟩
 rw[Bc] at hp tw
 have jj:c.toNat&&&(2^rm-1)=c.toNat%2^rm:=Nat.and_two_pow_sub_one_eq_mod _ _
 obtain⟨R,hR⟩:∃R,2^rm=R:=⟨_,rfl⟩
 have nj:1<=R/\R<=256:=by
  rw[<-hR];exact⟨Nat.two_pow_pos _,by have:=Nat.pow_le_pow_right (show 0<2 by decide) (show rm<=8 by omega);simpa using this⟩
 rw[hR] at hp jj
 have nl:c.toNat%R<=c.toNat:=Nat.mod_le _ _
 have Jt:s.getD (a / 8) 0=c:=by rw[List.getD_eq_getElem?_getD,hc];rfl
 refine py (e:=[(0,_),(1,_),(2,_)]) func188 O ntmps188 O O$ qN O$ qV ((OM Ve O O h2 O))$ Pq O$ OW Va O$ qV ((OM U3 O O hB O))$ qV (XC O O (by omega) (by omega)) ?_
 rw[kk]
 refine Ro O ?_
 rw[show(8-((a%8:Nat):Int))=((rm:Nat):Int) by omega]
 have hg:=Ext.P4 w
 refine OV O$ An$ QV (λw'=>Ext w w') O$ qT 0 O (λ_ h=>(OM Ve O O (h.OA h2) O)) hg$ OG 1 O (Q8 O) hg$ OG 2 O (Pr z3b O) hg$ qT 3 O (λ_ h=>(OM U9 O O (h.OA hB) O)) hg$ qT 4 O (λ_ h=>(OM Ve O O (h.OA h2) O)) hg$ OG 5 O (Q8 O) hg$ OG 6 O (Pr Va O) hg$ qT 7 O (λ_ h=>(OM U3 O O (h.OA hB) O)) hg$ OG 8 O (WY O O (by omega)) hg$ OZ 11 O O (hg)$ OZ 15 O O (hg) ?_
 refine OZ 16 O O (hg)$ OG 17 O (Xw O O (by omega)) hg ?_
 rw[show((a:Int) / 8)=((a / 8:Nat):Int) by omega]
 refine OG 9 O (zi6 U9 O O (by omega)) hg$ OG 10 O ((zby O U5 U3 (by decide))) hg ?_
 rw[Jt]
 refine OG 12 O (zk3 rm R O O (by omega) hR (by omega)) hg ?_
 rw[show(1*(R:Int))=((R:Nat):Int) by omega]
 refine OG 13 O (Xw O O (by omega)) hg ?_
 rw[show((R:Int)-1)=((R-1:Nat):Int) by omega]
 refine OG 14 O (XC O O (by omega) (by omega)) hg ?_
 rw[jj]
 rw[show((rm:Int)-(n:Int))=((rm-n:Nat):Int) by omega]
 refine OG 18 O (Uw (rm-n) (2^(rm-n)) O O (by show rm-n<=64;omega) O) hg ?_
 rw[<-hp]
 refine OG 19 O (Rp O) hg$ qE$ Po.qb (e:=[(0,_),(1,_),(2,_),(5,_)]) ?_
 refine qN O ?_
 have ai:=hg.OA hB
 have Ju:=hg.OA h2
 have Be:=hg.OA h6
 obtain⟨N,hN⟩:∃N,2^n=N:=⟨_,rfl⟩
 rw[hN] at hV gQ
 have NA:1<=N:=by rw[<-hN];exact Nat.two_pow_pos _
 obtain⟨M,hM⟩:∃M,V*N=M:=⟨_,rfl⟩
 rw[hM] at hV
 have pz:M |||pc=M+pc:=by
  have:=Nat.two_pow_add_eq_or_of_lt (i:=n) (b:=pc) (by rw[hN];exact gQ) V;rw[hN,Nat.mul_comm N V,hM] at this;exact this.symm
 rw[hN,hM]
 have tz:n<=64:=by omega
 refine qV ((OM Rt O O Be O))$ ON O$ qV (Rf n N O O tz hN) ?_
 rw[hM,Nat.mod_eq_of_lt (show M<18446744073709551616 by omega)]
 refine ON O$ qV ((Q7 O U3 Rt (by omega)))$ qV (z1a O O (by omega) (by omega)) ?_
 rw[pz]
 refine OT O (QG Tv O O O Be (by simp)) ?_
 rintro w2 ⟨Jv,am⟩
 have ak:=am.OA ai (Ne.symm d1)
 have HN:=am.OA Ju d3
 refine OC$ OK O$ qV ((OM Ve O O HN O))$ Pq O$ OW Va O$ qV ((OM U3 O O ak O))$ ON O$ PS O$ Pq O$ OW Va O$ OT O (QG PV O O O ak (by simp)) ?_
 rintro w3 ⟨ar,av⟩
 rw[show((a:Int)+(n:Int))=((a+n:Nat):Int) by omega] at ar
 refine OC$ Qa func188 O ?_
 exact⟨_,rfl,rfl,⟨ar,hl,hs⟩,av.OA Jv d1,av.OA HN d2,(hg.kp.trans (am.OH (λk e=> .inl e))).trans (av.OH (λk e=> .inr e))⟩
def Vx (h:TO w r s a)(n:Nat)(hn:n<=64):
  Pm prog 160 [ptr r 0,I (n:Int)] w λv w'=>(a+n<=8*s.length/\v= .tuple #[OY (Pz (((P7 s).drop a).take n)),I 0]/\TO w' r s (a+n)/\Kp (λk=>k=r) w w')\/(8*s.length<a+n/\v= .tuple #[OY 0,I 4]/\Ext w w'):=by
 have im:=h.1.lt
 obtain⟨-,ha,hs⟩:=id h
 refine py (e:=[(0,_),(1,_)]) func160 O ntmps160 O O$ qN O$ OJ O O (R4 O (cs:=[ptr r 0]) O) ?_
 rintro _ w1 ⟨b2,rfl,bN,ad,ak⟩
 have h1:TO w1 r s a:=⟨ad.OA h.1,h.2⟩
 refine Qm O$ QA$ qN O$ qV (OM Ve O O ak O)$ qV (PY Ve O O)$ OV O$ OL O$ Pn O$ Qw O$ ON O$ Sr (λc1=>?_)$ λc1=>?_
 ·omega
 ·refine ON O$ QB O$ PM O$ OV O$ OQ O (λc2=>?_)$ λc2=>?_
  ·omega
  ·refine Pn O$ qV (OM Ve O O ak O)$ P5 zio O (z9V h1) ?_;rintro _ w2 ⟨rfl,ae⟩;refine QB O$ OV O$ OQ O (λc3=>?_)$ λc3=>?_
   ·refine qN O$ Qm O$ OB func160 O ?_;exact⟨_,rfl,.inr ⟨by omega,rfl,ad.trans ae⟩⟩
   ·refine OD$ Oz$ qN O$ OJ O O (Ry (cs:=[_]) Tv O) ?_;rintro _ w3 ⟨b6,rfl,nN,ah,aT⟩;replace aT:OP w3 b6 [OY 0] 39:=aT;have aZ:=ae.trans ah;have ck:=ad.trans aZ;have nJ:=ad.size;have nn:=ae.size;have gj:=ak.lt;have cm:a+n<=8*s.length:=by omega
    refine qM O$ qV (ymf (first:=[]) (caps:=[.tmp 2,.tmp 6]) O O)$ OV O$ QA$ Rr (α:=Nat) (n) (λk=>[(1,I (k:Int)),(2,ptr b2 0),(6,ptr b6 0),(7,.func (.func 188) #[] #[ptr b2 0,ptr b6 0])]) (λk w'=>k<=n/\TO w' r s (a+(n-k))/\OP w' b6 [OY (Pz (((P7 s).drop a).take (n-k)))] 39/\OP w' b2 [ptr r 0] 273/\Kp (λi=>i=r) w w') (λk=>k) ?hI ?hround
    case hI=>exact⟨Nat.le_refl _,⟨by rw[Nat.sub_self];exact ck.OA h.1,by omega,hs⟩,by rw[Nat.sub_self];exact aT,aZ.OA ak,ck.kp⟩
    case hround=>
     rintro k w4 ⟨hk,fi,tA,HO,au⟩ ih;have Bf:=fi.1
     try dsimp only
     refine PK O$ QB O$ OC$ OQ O (λaS=>?_)$ λaS=>?_
     ·obtain⟨p,hp⟩:∃p,a+(n-k)=p:=⟨_,rfl⟩;rw[hp] at Bf fi;have kk:p&&&7=p%8:=Nat.and_two_pow_sub_one_eq_mod p 3;obtain⟨take,nK⟩:∃take,min k (8-p%8)=take:=⟨_,rfl⟩;have tt:1<=take/\take<=k/\take<=8-p%8:=by omega
      refine OD$ OE$ Pn O$ qV ((OM Ve O O HO O))$ Pq O$ OW Va O$ qV ((OM U3 O O Bf O))$ qV (XC O O (by omega) (by omega)) ?_;rw[kk];refine Ro O$ qV (ymi O O) ?_;rw[show min (k:Int) (8-((p%8:Nat):Int))=((take:Nat):Int) by omega];obtain⟨V,hV⟩:∃V,Pz (((P7 s).drop a).take (n-k))=V:=⟨_,rfl⟩;rw[hV] at tA
      have xj:V*2^take+2^take<=18446744073709551616:=by
       have h1:=R1 (((P7 s).drop a).take (n-k));rw[hV,List.length_take,List.length_drop,bitsT_length,Nat.min_eq_left (by omega)] at h1;have h2:(V+1)*2^take<=2^(n-k)*2^take:=Nat.mul_le_mul_right _ h1;rw[<-Nat.pow_add,Nat.add_mul,Nat.one_mul] at h2;have h3:=Nat.pow_le_pow_right (show 0<2 by decide) (show n-k+take<=64 by omega);have h4:(2:Nat)^64=18446744073709551616:=by decide
       omega
      refine QS O$ Pa O$ Qp O O (RN zg9 O O) (z6e fi HO tA tt.1 tt.2.2 (by omega) xj (by omega) (by omega) (by omega)) ?_;rintro _ w5 ⟨rfl,mf,Jw,Jy,aj⟩;refine OC$ OK O$ Pa O$ Ro O$ OV O$ Oz ?_;rw[show((k:Int)-(take:Int))=((k-take:Nat):Int) by omega];refine(ih (k-take) w5 ⟨by omega,?_,?_,Jy,?_⟩ (by omega)).qb
      ·rw[show a+(n-(k-take))=p+take by omega];exact mf
      ·rw[show n-(k-take)=(n-k)+take by omega,List.take_add,RS,hV,List.drop_drop,hp];have hl:(((P7 s).drop p).take take).length=take:=by rw[List.length_take,List.length_drop,bitsT_length];omega
       rw[hl];exact Jw
      ·exact au.It aj (λi hi=>hi.elim (λe=> .inl (by omega)) .inr)
     ·have:k=0:=by omega
      subst this;rw[Nat.sub_zero] at fi tA;refine OO O$ qN O$ qV (OM Rt O O tA O)$ Qm O$ OB func160 O ?_;exact⟨_,rfl,.inl ⟨cm,rfl,fi,au⟩⟩
end
def PN (v:Nat):Nat:=if v=0 then 0 else Nat.log2 v+1
def X8 {v:Nat}:v<2^PN v:=by
 unfold PN
 split
 ·subst_vars;simp
 ·exact Nat.lt_log2_self
def z0l {v:Nat}(h:v≠0):2^(PN v-1)<=v:=by
 unfold PN
 rw[if_neg h,Nat.add_sub_cancel]
 exact Nat.log2_self_le h
theorem z7C {v n:Nat}(h1:2^n<=v)(h2:v<2^(n+1)):PN v=n+1:=by
 have hp:=Nat.two_pow_pos n
 have h0:v≠0:=by omega
 unfold PN
 rw[if_neg h0]
 have:=(Nat.log2_eq_iff h0).2 ⟨h1,h2⟩
 omega
def R3 {v n:Nat}(h:v<2^n):PN v<=n:=by
 by_cases h0:v=0
 ·subst h0;simp[PN]
 ·have h1:=z0l h0;have h2:2^(PN v-1)<2^n:=by omega
  have h3:=(Nat.pow_lt_pow_iff_right (by decide:1<2)).1 h2;have:PN v≠0:=by unfold PN;rw[if_neg h0];omega
  omega
def Rw (v K:Nat):Nat×Nat:=
 let s:=PN (K-1)
 let m:=2^s-K
 if v<m then(v,s-1) else(v+m,s)
def QC (v K:Nat):List Bool:=Pc (Rw v K).2 (Rw v K).1
def UT {K:Nat}(hK:1<=K):K<=2^PN (K-1)/\(1<K->1<=PN (K-1)/\2^(PN (K-1)-1)+1<=K):=by
 have h1:=X8 (v:=K-1)
 refine⟨by omega,λh=>?_⟩
 have h2:=z0l (v:=K-1) (by omega)
 refine⟨?_,by omega⟩
 unfold PN
 rw[if_neg (by omega)];omega
def z9l {v K:Nat}(h:v<K):(Rw v K).1<2^(Rw v K).2:=by
 obtain⟨h1,h2⟩:=UT (K:=K) (by omega)
 unfold Rw
 dsimp only
 split
 ·rename_i hm
  by_cases hK:K=1
  ·subst hK;simp[PN] at hm
  ·obtain⟨h3,h4⟩:=h2 (by omega);have:2^PN (K-1)=2*2^(PN (K-1)-1):=by rw[<-Nat.pow_succ',show(PN (K-1)-1).succ=PN (K-1) by omega]
   dsimp only;omega
 ·dsimp only;omega
def z5G {v K:Nat}(h:v<K)(hK:1<K)(rest:List Bool):
  let s:=PN (K-1)
  let m:=2^s-K
  1<=s/\s-1<=(QC v K).length/\
  ((Pz ((QC v K).take (s-1))<m/\(QC v K).length=s-1/\Pz ((QC v K).take (s-1))=v)\/
   (m<=Pz ((QC v K).take (s-1))/\(QC v K).length=s/\2*Pz ((QC v K).take (s-1))+Pz ((QC v K).drop (s-1))=v+m)):=by
 obtain⟨h1,h2⟩:=UT (K:=K) (by omega)
 obtain⟨h3,h4⟩:=h2 hK
 have h5:2^PN (K-1)=2*2^(PN (K-1)-1):=by rw[<-Nat.pow_succ',show(PN (K-1)-1).succ=PN (K-1) by omega]
 dsimp only
 unfold QC Rw
 dsimp only
 refine⟨h3,?_⟩
 split
 ·rename_i hm
  dsimp only;rw[bitsN_length,List.take_of_length_le (by simp),Q0,Nat.mod_eq_of_lt (by omega)];exact⟨Nat.le_refl _,.inl ⟨hm,rfl,rfl⟩⟩
 ·rename_i hm
  dsimp only;rw[bitsN_length]
  have e:Pc (PN (K-1)) (v+(2^PN (K-1)-K))=Pc (PN (K-1)-1) ((v+(2^PN (K-1)-K)) / 2^1)++Pc 1 (v+(2^PN (K-1)-K)):=by
   rw[<-RY,show PN (K-1)-1+1=PN (K-1) by omega]
  rw[e,List.take_left' (by simp),List.drop_left' (by simp),Q0,Q0,Nat.mod_eq_of_lt (by omega)];exact⟨by omega,.inr ⟨by omega,rfl,by omega⟩⟩
inductive Cd where
 |unary
 |gamma
 |zeta (k:Nat)
def Cd.zeros:Cd->Nat->Nat
 | .unary,v=>v
 | .gamma,v=>Nat.log2 (v+1)
 | .zeta k,v=>Nat.log2 (v+1) / k
def Cd.rest:Cd->Nat->List Bool
 | .unary,_=>[]
 | .gamma,v=>Pc (Nat.log2 (v+1)) (v+1-2^Nat.log2 (v+1))
 | .zeta k,v=>let h:=Nat.log2 (v+1) / k;QC (v+1-2^(h*k)) (2^(h*k)*2^k-2^(h*k))
def Cd.enc (c:Cd)(v:Nat):List Bool:=List.replicate (c.zeros v) false++true::c.rest v
def VR {v:Nat}(h:v<=281474976710654):2^Nat.log2 (v+1)<=v+1/\v+1<2^(Nat.log2 (v+1)+1)/\Nat.log2 (v+1)<=47:=by
 have h1:=Nat.log2_self_le (n:=v+1) (by omega)
 have h2:=Nat.lt_log2_self (n:=v+1)
 refine⟨h1,h2,?_⟩
 have h3:2^Nat.log2 (v+1)<2^48:=by
  have:(2:Nat)^48=281474976710656:=by decide
  omega
 have:=(Nat.pow_lt_pow_iff_right (by decide:1<2)).1 h3
 omega
def XW {k v:Nat}(hk:1<=k):let h:=Nat.log2 (v+1) / k;2^(h*k)<=v+1/\v+1-2^(h*k)<2^(h*k)*2^k-2^(h*k)/\1<=2^(h*k)*2^k-2^(h*k):=by
 dsimp only
 have h1:=Nat.log2_self_le (n:=v+1) (by omega)
 have h2:=Nat.lt_log2_self (n:=v+1)
 have h3:Nat.log2 (v+1) / k*k<=Nat.log2 (v+1):=Nat.div_mul_le_self _ _
 have h4:Nat.log2 (v+1)+1<=Nat.log2 (v+1) / k*k+k:=by
  have:=Nat.div_add_mod (Nat.log2 (v+1)) k;have:=Nat.mod_lt (Nat.log2 (v+1)) (show 0<k by omega);have e:=Nat.mul_comm k (Nat.log2 (v+1) / k);omega
 have h5:2^(Nat.log2 (v+1) / k*k)<=2^Nat.log2 (v+1):=Nat.pow_le_pow_right (by decide) h3
 have h6:2^(Nat.log2 (v+1)+1)<=2^(Nat.log2 (v+1) / k*k+k):=Nat.pow_le_pow_right (by decide) h4
 rw[Nat.pow_add 2 (Nat.log2 (v+1) / k*k) k] at h6
 have h7:2<=2^k:=by
  have:=Nat.pow_le_pow_right (show 0<2 by decide) hk
  simpa using this
 have h8:2^(Nat.log2 (v+1) / k*k)*2<=2^(Nat.log2 (v+1) / k*k)*2^k:=Nat.mul_le_mul_left _ h7
 have h9:=Nat.two_pow_pos (Nat.log2 (v+1) / k*k)
 omega
def Y8 {x k:Nat}(h:2^k<=x):PN x=PN (x / 2^k)+k:=by
 have hk:=Nat.two_pow_pos k
 have hy:x / 2^k≠0:=by have:=Nat.div_pos h hk;omega
 have h1:=z0l hy
 have h2:=X8 (v:=x / 2^k)
 have h0:PN (x / 2^k)≠0:=by unfold PN;rw[if_neg hy];omega
 obtain⟨n,hn⟩:∃n,PN (x / 2^k)=n+1:=⟨PN (x / 2^k)-1,by omega⟩
 rw[hn] at h1 h2⊢
 rw[Nat.add_sub_cancel] at h1
 have h3:2^(n+k)<=x:=by
  rw[Nat.pow_add];exact Nat.le_trans (Nat.mul_le_mul_right _ h1) (Nat.div_mul_le_self _ _)
 have h4:x<2^(n+k+1):=by
  rw[show n+k+1=(n+1)+k by omega,Nat.pow_add];exact(Nat.div_lt_iff_lt_mul hk).1 h2
 rw[z7C h3 h4];omega
def zeW:OI:=[0,1,2,2,3,3,3,3,4,4,4,4,4,4,4,4,5,5,5,5,5,5,5,5,5,5,5,5,5,5,5,5,6,6,6,6,6,6,6,6,6,6,6,6,6,6,6,6,6,6,6,6,6,6,6,6,6,6,6,6,6,6,6,6,7,7,7,7,7,7,7,7,7,7,7,7,7,7,7,7,7,7,7,7,7,7,7,7,7,7,7,7,7,7,7,7,7,7,7,7,7,7,7,7,7,7,7,7,7,7,7,7,7,7,7,7,7,7,7,7,7,7,7,7,7,7,7,7,8,8,8,8,8,8,8,8,8,8,8,8,8,8,8,8,8,8,8,8,8,8,8,8,8,8,8,8,8,8,8,8,8,8,8,8,8,8,8,8,8,8,8,8,8,8,8,8,8,8,8,8,8,8,8,8,8,8,8,8,8,8,8,8,8,8,8,8,8,8,8,8,8,8,8,8,8,8,8,8,8,8,8,8,8,8,8,8,8,8,8,8,8,8,8,8,8,8,8,8,8,8,8,8,8,8,8,8,8,8,8,8,8,8,8,8,8,8,8,8,8,8,8,8,8,8,8,8]
theorem zcg:zeW.length=256:=by decide+kernel
def zk5:∀x:Fin 256,(zeW.getD x.val 0).toNat=PN x.val:=by decide+kernel
section
variable {w:World}
def Ui (x:Nat)(hx:x<18446744073709551616)(w:World):Pm prog 156 [OY x] w λv w'=>v=I (PN x:Int)/\w'=w:=by
 refine py (e:=[(0,_)]) func156 O ntmps156 O O$ Qx O$ PK O$ U8 O$ OC$ PD (λe' w'=>w=w'/\∃x1 n1:Nat,e'=[(0,OY x1),(2,I (n1:Int))]/\PN x=PN x1+n1/\x1<4294967296/\n1<=32) ?bE$ λbE=>?cM
 case bE=>
  rintro e' w' ⟨rfl,x1,n1,rfl,h1,h2,h3⟩;refine PK O$ U8 O$ OC$ PD (λe' w'=>w=w'/\∃x2 n2:Nat,e'=[(0,OY x2),(2,I (n2:Int))]/\PN x=PN x2+n2/\x2<65536/\n2<=48) ?aY$ λaY=>?gl
  case aY=>
   rintro e' w' ⟨rfl,x2,n2,rfl,h4,h5,h6⟩;refine PK O$ U8 O$ OC$ PD (λe' w'=>w=w'/\∃x3 n3:Nat,e'=[(0,OY x3),(2,I (n3:Int))]/\PN x=PN x3+n3/\x3<256/\n3<=56) ?aq$ λaq=>?ey
   case aq=>
    rintro e' w' ⟨rfl,x3,n3,rfl,h7,h8,h9⟩;have eI:=zk5 ⟨x3,h8⟩;dsimp only at eI;have qf:PN x3<=8:=R3 (by omega);refine Qt O$ qV (zdq O Rt U5) ?_;rw[Nat.mod_eq_of_lt h8];refine qV (zi6 (l:=zeW) U9 O O (by rw[zcg];exact h8)) ?_;rw[eI];refine qV ((PJ O U5 U3 (by omega)))$ PS O$ OV O$ OB func156 O ?_;exact⟨_,rfl,by simp only[PX];congr 1;omega,rfl⟩
   case ey=>
    refine OQ O (λhc=>?_)$ λhc=>?_
    ·refine Pn O$ qV (Uw 8 256 O O (by decide) O)$ OV O$ R6 O$ PS O$ OV O ((aq _ _ ⟨rfl,x2 / 256,n2+8,rfl,?_,?_,?_⟩).qb)
     ·have e1:=Y8 (x:=x2) (k:=8) (by omega);rw[show x2 / 2^8=x2 / 256 from rfl] at e1;omega
     ·omega
     ·omega
    ·refine OD ?_;exact(aq _ _ ⟨rfl,x2,n2,rfl,h4,by omega,by omega⟩).qb
  case gl=>
   refine OQ O (λhc=>?_)$ λhc=>?_
   ·refine Pn O$ qV (Uw 16 65536 O O (by decide) O)$ OV O$ R6 O$ PS O$ OV O ((aY _ _ ⟨rfl,x1 / 65536,n1+16,rfl,?_,?_,?_⟩).qb)
    ·have e1:=Y8 (x:=x1) (k:=16) (by omega);rw[show x1 / 2^16=x1 / 65536 from rfl] at e1;omega
    ·omega
    ·omega
   ·refine OD ?_;exact(aY _ _ ⟨rfl,x1,n1,rfl,h1,by omega,by omega⟩).qb
 case cM=>
  refine OQ O (λhc=>?_)$ λhc=>?_
  ·refine Pn O$ qV (Uw 32 4294967296 O O (by decide) O)$ OV O$ OK O$ OV O ((bE _ _ ⟨rfl,x / 4294967296,32,rfl,?_,?_,?_⟩).qb)
   ·exact Y8 (x:=x) (k:=32) (by omega)
   ·omega
   ·omega
  ·refine OD ?_;exact(bE _ _ ⟨rfl,x,0,rfl,by omega,by omega,by omega⟩).qb
/-! ### Codes -/
def Sg:Cd->List Value
 | .unary=>[.int .u8 0,OY 0]
 | .gamma=>[.int .u8 1,OY 0]
 | .zeta k=>[.int .u8 3,OY k]
abbrev cdV (c:Cd):Value:= .agg (Sg c).toArray
def Cd.Qq:Cd->Prop
 | .zeta k=>1<=k/\k<=16
 |_=>True
def Cd.most:Cd->Nat
 | .unary=>65535
 |_=>281474976710654
def Cd.p0:Cd->Nat->Nat×Nat
 | .unary,_=>(0,0)
 | .gamma,v=>(v+1-2^Nat.log2 (v+1),Nat.log2 (v+1))
 | .zeta k,v=>let h:=Nat.log2 (v+1) / k;Rw (v+1-2^(h*k)) (2^(h*k)*2^k-2^(h*k))
def UI (c:Cd)(hc:c.Qq)(w:World):Pm prog 219 [cdV c] w λv w'=>v=I 0/\Ext w w':=by
 cases c with
 | unary =>
   refine py (e:=[(0,_)]) func219 O ntmps219 O O$ qN O$ OJ O O (R4 O (cs:=[.int .u8 0,OY 0]) O) ?_;rintro _ w1 ⟨b1,rfl,bL,ad,ai⟩;refine QS O$ OV O$ An$ qN O$ OW S6 O$ qV (OM U5 O O ai O)$ OC$ OE$ An$ qN O$ Rg O$ Rz$ OV O$ OS O ?_;refine OD$ OS O$ OK O$ OW Xh O$ qV (OM Rt O O ai O)$ Rg O$ Rz$ OV O$ Oz$ PK O$ qV ((RZ O))$ Qg O$ Qx O$ OB func219 O ?_
   exact⟨_,rfl,rfl,ad⟩
 | gamma =>
   refine py (e:=[(0,_)]) func219 O ntmps219 O O$ qN O$ OJ O O (R4 O (cs:=[.int .u8 1,OY 0]) O) ?_;rintro _ w1 ⟨b1,rfl,bL,ad,ai⟩;refine QS O$ OV O$ An$ qN O$ OW S6 O$ qV (OM U5 O O ai O)$ OC$ OE$ An$ qN O$ Rg O$ PH$ OV O$ OL O ?_;refine qN O$ Rg O$ Rz$ OV O$ OS O$ OD$ OS O$ OK O$ OW Xh O$ qV (OM Rt O O ai O)$ Rg O$ Rz$ OV O$ Oz ?_;refine PK O$ qV ((RZ O))$ Qg O$ Qx O$ OB func219 O ?_
   exact⟨_,rfl,rfl,ad⟩
 | zeta k =>
   obtain⟨az,am⟩:1<=k/\k<=16:=hc;refine py (e:=[(0,_)]) func219 O ntmps219 O O$ qN O$ OJ O O (R4 O (cs:=[.int .u8 3,OY k]) O) ?_;rintro _ w1 ⟨b1,rfl,bL,ad,ai⟩;refine QS O$ OV O$ An$ qN O$ OW S6 O$ qV (OM U5 O O ai O)$ OC$ OE$ An$ qN O$ Rg O$ PH$ OV O$ OL O ?_;refine qN O$ Rg O$ PH$ OV O$ OL O$ OK O$ Rg O$ PH$ OV O$ OL O$ qN O$ Rg O$ Rz$ OV O ?_;refine OS O$ OK O$ OW Xh O$ qV (OM Rt O O ai O)$ U8 O$ Rz$ ON O$ OW Xh O$ qV (OM Rt O O ai O)$ zle O$ Rz$ QX O$ OV O$ Oz ?_;refine PK O$ qV ((RZ O))$ Qg O$ Qx O$ OB func219 O ?_;exact⟨_,rfl,rfl,ad⟩
def z2j (c:Cd)(hc:c.Qq)(w:World):Pm prog 220 [cdV c] w λv w'=>v=OY c.most/\Ext w w':=by
 cases c with
 | unary =>
   refine py (e:=[(0,_)]) func220 O ntmps220 O O$ qN O$ OJ O O (R4 O (cs:=[.int .u8 0,OY 0]) O) ?_;rintro _ w1 ⟨b1,rfl,bL,ad,ai⟩;refine OV O$ QA$ qN O$ qV (Pp (news:=[.int .u8 0,OY 0]) Ss O QI O (ai.cells (n:=2) O) O)$ P5 z4Y O (UI (.unary) hc w1) ?_;rintro _ w2 ⟨rfl,ae⟩;have ak:=ae.OA ai;refine QE O$ PH$ OV O$ OL O$ qN O$ OW S6 O$ qV (OM U5 O O ak O)$ Rg O$ Rz$ OV O$ OS O$ Qx O$ OB func220 O ?_
   exact⟨_,rfl,rfl,ad.trans ae⟩
 | gamma =>
   refine py (e:=[(0,_)]) func220 O ntmps220 O O$ qN O$ OJ O O (R4 O (cs:=[.int .u8 1,OY 0]) O) ?_;rintro _ w1 ⟨b1,rfl,bL,ad,ai⟩;refine OV O$ QA$ qN O$ qV (Pp (news:=[.int .u8 1,OY 0]) Ss O QI O (ai.cells (n:=2) O) O)$ P5 z4Y O (UI (.gamma) hc w1) ?_;rintro _ w2 ⟨rfl,ae⟩;have ak:=ae.OA ai;refine QE O$ PH$ OV O$ OL O$ qN O$ OW S6 O$ qV (OM U5 O O ak O)$ Rg O$ PH$ OV O$ OL O$ qN O$ OW S6 O$ qV (OM U5 O O ak O) ?_;refine Rg O$ PH$ OV O$ SH O$ Oz$ Qx O$ OB func220 O ?_
   exact⟨_,rfl,rfl,ad.trans ae⟩
 | zeta k =>
   refine py (e:=[(0,_)]) func220 O ntmps220 O O$ qN O$ OJ O O (R4 O (cs:=[.int .u8 3,OY k]) O) ?_;rintro _ w1 ⟨b1,rfl,bL,ad,ai⟩;refine OV O$ QA$ qN O$ qV (Pp (news:=[.int .u8 3,OY k]) Ss O QI O (ai.cells (n:=2) O) O)$ P5 z4Y O (UI (.zeta k) hc w1) ?_;rintro _ w2 ⟨rfl,ae⟩;have ak:=ae.OA ai;refine QE O$ PH$ OV O$ OL O$ qN O$ OW S6 O$ qV (OM U5 O O ak O)$ Rg O$ PH$ OV O$ OL O$ qN O$ OW S6 O$ qV (OM U5 O O ak O) ?_;refine Rg O$ PH$ OV O$ SH O$ Oz$ Qx O$ OB func220 O ?_;exact⟨_,rfl,rfl,ad.trans ae⟩
def zbX (c:Cd)(v:Nat)(hc:c.Qq)(hv:v<=c.most)(w:World):Pm prog 209 [cdV c,OY v] w λu w'=>u= .bool true/\Ext w w':=by
 obtain⟨x,y,dN⟩:∃x y,Sg c=[x,y]:=by cases c<;>exact⟨_,_,rfl⟩
 refine py (e:=[(0,_),(1,_)]) func209 O ntmps209 O O$ qN O$ OJ O O (R4 O (cs:=Sg c) O) ?_
 rintro _ w1 ⟨b1,rfl,bL,ad,ai⟩
 refine QS O$ qV (Pp (news:=Sg c) Ss O QI O (ai.cells (n:=2) (by rw[dN];rfl)) (by rw[dN];rfl)) ?_
 refine P5 z4Y O (UI c hc w1) ?_
 rintro _ w2 ⟨rfl,ae⟩
 have ak:=ae.OA ai
 refine Rg O$ Rz$ Pa O$ qV (Pp (news:=Sg c) Ss O QI O (ak.cells (n:=2) (by rw[dN];rfl)) (by rw[dN];rfl)) ?_
 refine P5 zey O (z2j c hc w2) ?_
 rintro _ w3 ⟨rfl,ah⟩
 refine zle O$ Rz$ QX O$ OV O$ OB func209 O ?_
 exact⟨_,rfl,rfl,(ad.trans ae).trans ah⟩
end
section
def z7o (v K:Nat)(hK:1<=K)(hv:v<K)(Jz:K<=9223372036854775808)(w:World):Pm prog 221 [OY v,OY K] w λu w'=>u= .agg #[OY (Rw v K).1,I ((Rw v K).2:Int)]/\Ext w w':=by
 obtain⟨s,hs⟩:∃s,PN (K-1)=s:=⟨_,rfl⟩
 have hf:=UT hK
 rw[hs] at hf
 obtain⟨h1,h2⟩:=hf
 have e63:(2:Nat)^63=9223372036854775808:=by decide
 have Cg:s<=63:=by rw[<-hs];exact R3 (by omega)
 obtain⟨Q,hQ⟩:∃Q,2^s=Q:=⟨_,rfl⟩
 have Ch:Q<=9223372036854775808:=by
  have:=Nat.pow_le_pow_right (show 0<2 by decide) Cg;omega
 rw[hQ] at h1
 have hP:Rw v K=if v<Q-K then(v,s-1) else(v+(Q-K),s):=by unfold Rw;rw[hs];dsimp only;rw[hQ]
 refine py (e:=[(0,_),(1,_)]) func221 O ntmps221 O O$ qN O$ OJ O O (Ry (cs:=[_,_]) SN O) ?_
 rintro _ w1 ⟨b4,rfl,fZ,ad,aK⟩
 refine qM O$ ON O$ qV (Ww (n:=1) O O O (by show K<2^64;omega) hK) ?_
 refine P5 z2o O (Ui (K-1) (by omega) w1) ?_
 rintro _ w1 ⟨rfl,rfl⟩
 rw[hs]
 refine OV O$ PK O$ qV (Rf s Q O O (by omega) hQ) ?_
 rw[show 1*Q%18446744073709551616=Q by omega]
 refine ON O$ qV (Ww O O O (by show Q<2^64;omega) h1) ?_
 refine QS O$ Pa O$ U8 O$ OC$ OQ O (λkm=>?_)$ λkm=>?_
 ·rw[if_neg (by omega)] at hP;rw[hP];refine Qt O$ qV (UU O O) ?_;rw[Nat.mod_eq_of_lt (show v+(Q-K)<18446744073709551616 by omega)];refine ON O$ qV (Sa (cs:=[_,_]) SN O zaA O O)$ OT O (PG (news:=[OY (v+(Q-K)),I (s:Int)]) SN O O O O aK (by simp)) ?_;rintro w2 ⟨ak,am⟩;replace ak:OP w2 b4 [OY (v+(Q-K)),I (s:Int)] 329:=ak;refine OC$ Pf func221 (.cell zaR O SN O (OP.cells (n:=2) ak (news:=[_,_]) O) O .nil) ?_;exact⟨_,rfl,rfl,ad.It am (λi hi=>by omega)⟩
 ·rw[if_pos (by omega)] at hP;rw[hP]
  have HP:K≠1:=λe=>by
   have e0:s=0:=by rw[<-hs,e];rfl
   have e1:Q=1:=by rw[<-hQ,e0]
   omega
  have et:1<=s:=(h2 (by omega)).1;refine OD$ Qt O$ Ro O ?_;rw[show((s:Int)-1)=((s-1:Nat):Int) by omega];refine qV (Sa (cs:=[_,_]) SN O zaA O O)$ OT O (PG (news:=[OY v,I ((s-1:Nat):Int)]) SN O O O O aK (by simp)) ?_;rintro w2 ⟨ak,am⟩;replace ak:OP w2 b4 [OY v,I ((s-1:Nat):Int)] 329:=ak;refine OC$ Pf func221 (.cell zaR O SN O (OP.cells (n:=2) ak (news:=[_,_]) O) O .nil) ?_;exact⟨_,rfl,rfl,ad.It am (λi hi=>by omega)⟩
def z8R (n:Nat)(h:n≠0):PN n-1=Nat.log2 n/\1<=PN n:=by
 unfold PN;rw[if_neg h];exact⟨rfl,by omega⟩
def z1O (c:Cd)(v:Nat)(hc:c.Qq)(hv:v<=281474976710654)(w:World):Pm prog 210 [cdV c,OY v] w λu w'=>u= .tuple #[I (c.zeros v:Int),.agg #[OY (c.p0 v).1,I ((c.p0 v).2:Int),OY 0,I 0]]/\Ext w w':=by
 obtain⟨l1,l2⟩:=z8R (v+1) (by omega)
 obtain⟨g1,g2,g3⟩:=VR hv
 obtain⟨b,hb⟩:∃b,Nat.log2 (v+1)=b:=⟨_,rfl⟩
 rw[hb] at l1 g1 g2 g3
 obtain⟨Q,hQ⟩:∃Q,2^b=Q:=⟨_,rfl⟩
 rw[hQ] at g1
 have Ci:Q<=281474976710656:=by omega
 obtain⟨x,y,dN⟩:∃x y,Sg c=[x,y]:=by cases c<;>exact⟨_,_,rfl⟩
 refine py (e:=[(0,_),(1,_)]) func210 O ntmps210 O O$ qN O$ OJ O O (R4 O (cs:=Sg c) O) ?_
 rintro _ w1 ⟨b2,rfl,bN,ad,ak⟩
 refine SA O$ OJ O O (Ry (cs:=[_,_,_,_]) Us O) ?_
 rintro _ w2 ⟨b5,rfl,gR,ae,aH⟩
 replace aH:OP w2 b5 [OY 0,I 0,OY 0,I 0] 330:=aH
 refine qM O$ ON O$ qV (UU O O) ?_
 rw[show(v+1)%18446744073709551616=v+1 by omega]
 refine QW O$ P5 z2o O (Ui (v+1) (by omega) w2) ?_
 rintro _ w2 ⟨rfl,rfl⟩
 refine Ro O ?_
 rw[show((PN (v+1):Int)-1)=((b:Nat):Int) by omega]
 refine QS O$ Pa O$ qV (Rf b Q O O (by omega) hQ) ?_
 rw[show 1*Q%18446744073709551616=Q by omega]
 refine qV (Ww O O O (by show v+1<2^64;omega) g1) ?_
 refine ON O$ qV (Sa (cs:=[_,_]) SN O zaA O O)$ OJ O O (Ry (cs:=[_,_]) SN O) ?_
 rintro _ w3 ⟨b8,rfl,ja,ah,cj⟩
 refine OT O (PG (news:=[OY (v+1-Q),I (b:Int)]) SN O O O O cj (by simp)) ?_
 rintro w4 ⟨tB,au⟩
 replace tB:OP w4 b8 [OY (v+1-Q),I (b:Int)] 329:=tB
 have z1:=ad.size
 have z2:=ae.size
 have z3:=ah.size
 have l2':=ak.lt
 have l5':=aH.lt
 have eJ:=au.OA (ah.OA (ae.OA ak)) (by omega)
 have eK:=au.OA (ah.OA aH) (by omega)
 have cF:Ext w w4:=((ad.trans ae).trans ah).It au (λi hi=>by omega)
 cases c with
 | unary =>
   replace eJ:OP w4 b2 [.int .u8 0,OY 0] 294:=eJ;have hg:=Ext.P4 w4;refine OC$ An$ qN O$ OW S6 O$ qV (OM U5 O O eJ O)$ OC$ OE$ qN O$ Rg O$ Rz$ OV O$ OS O$ An$ P9 [4] (λw'=>Ext w4 w') (by kernel_rfl) O ?_;refine PQ 0 O O (hg)$ Pl 1 O (PJ O Rt U3 (by omega)) hg$ Pl 3 O (Rp O) hg$ qL 2 O (λ_ h=>Pp (news:=[OY 0,I 0,OY 0,I 0]) z1Q O Us O ((h.OA eK).cells (n:=4) O) O) hg$ Tt [4]$ qO 4$ PE (i:=4) O O (PG (news:=[OY 0,I 0,OY 0,I 0]) Us O O O O (hg.OA eK) (by simp)) ?_;rintro w5 ⟨aT,aj⟩;refine⟨trivial,?_⟩;replace aT:OP w5 b5 [OY 0,I 0,OY 0,I 0] 330:=aT;refine qE$ Po.qb (e:=[(1,_),(2,_),(4,_),(5,_)]) ?_;refine Pf func210 (.tmp O (.cell z1Q O Us O (OP.cells (n:=4) aT (news:=[_,_,_,_]) O) O .nil)) ?_
   exact⟨_,rfl,rfl,(cF.trans hg).It aj (λi hi=>by omega)⟩
 | gamma =>
   replace eJ:OP w4 b2 [.int .u8 1,OY 0] 294:=eJ;have hg:=Ext.P4 w4;refine OC$ An$ qN O$ OW S6 O$ qV (OM U5 O O eJ O)$ OC$ OE$ qN O$ Rg O$ PH$ OV O$ OL O$ qN O$ Rg O ?_;refine Rz$ OV O$ Po.qb (e:=[(1,_),(2,_),(4,_),(5,_),(6,_),(7,_),(8,_),(24,_),(30,_)]) ?_;refine OS O$ An$ P9 [4] (λw'=>Ext w4 w') (by kernel_rfl) O$ PQ 0 O O (hg)$ Pl 3 O (Rp O) hg$ qL 1 O (λ_ h=>Pp (news:=[OY (v+1-Q),I (b:Int)]) zaR O SN O ((h.OA tB).cells (n:=2) O) O) hg$ Pl 2 O (zdh (parts:=[(0,.tmp 33)]) (cs:=[_,_,_,_]) Us O z1Q SN O O) hg$ Tt [4]$ qO 4$ PE (i:=4) O O (PG (news:=[OY (v+1-Q),I (b:Int),OY 0,I 0]) Us O O O O (hg.OA eK) (by simp)) ?_;rintro w5 ⟨aT,aj⟩;refine⟨trivial,?_⟩;replace aT:OP w5 b5 [OY (v+1-Q),I (b:Int),OY 0,I 0] 330:=aT;refine qE$ Pf func210 (.tmp O (.cell z1Q O Us O (OP.cells (n:=4) aT (news:=[_,_,_,_]) O) O .nil)) ?_
   exact⟨_,rfl,by simp[PX,Cd.zeros,Cd.p0,hb,hQ],(cF.trans hg).It aj (λi hi=>by omega)⟩
 | zeta k =>
   obtain⟨az,am⟩:1<=k/\k<=16:=hc;have f:=XW (k:=k) (v:=v) az;dsimp only at f;rw[hb] at f;obtain⟨h,hh⟩:∃h,b / k=h:=⟨_,rfl⟩;obtain⟨m,hm⟩:∃m,h*k=m:=⟨_,rfl⟩;have JA:m<=b:=by rw[<-hm,<-hh];exact Nat.div_mul_le_self _ _
   rw[hh,hm] at f;obtain⟨F,hF⟩:∃F,2^m=F:=⟨_,rfl⟩;obtain⟨G,hG⟩:∃G,2^k=G:=⟨_,rfl⟩;rw[hF,hG] at f;obtain⟨f1,f2,f3⟩:=f;obtain⟨E,hE⟩:∃E,F*G=E:=⟨_,rfl⟩
   have Cj:E<=9223372036854775808:=by
    rw[<-hE,<-hF,<-hG,<-Nat.pow_add];have:=Nat.pow_le_pow_right (show 0<2 by decide) (show m+k<=63 by omega);have e63:(2:Nat)^63=9223372036854775808:=by decide
    omega
   rw[hE] at f2 f3;have Ck:(Cd.zeta k).zeros v=h:=by show Nat.log2 (v+1) / k=h;rw[hb,hh]
   have Cm:(Cd.zeta k).p0 v=Rw (v+1-F) (E-F):=by
    show Rw (v+1-2^(Nat.log2 (v+1) / k*k)) (2^(Nat.log2 (v+1) / k*k)*2^k-2^(Nat.log2 (v+1) / k*k))=_;rw[hb,hh,hm,hF,hG,hE]
   rw[Ck,Cm];have s8:(h:Int)*(k:Int)=(m:Int):=by rw[<-hm];simp
   have fH:(b:Int) / (k:Int)=(h:Int):=by rw[<-hh];simp
   replace eJ:OP w4 b2 [.int .u8 3,OY k] 294:=eJ;refine OC$ An$ qN O$ OW S6 O$ qV (OM U5 O O eJ O)$ OC$ OE$ qN O$ Rg O$ PH$ OV O$ OL O$ qN O$ Rg O ?_;refine PH$ OV O$ Po.qb (e:=[(1,_),(2,_),(4,_),(5,_),(6,_),(7,_),(8,_),(24,_),(30,_)]) ?_;refine OL O$ qN O$ Rg O$ PH$ OV O$ OL O$ qN O$ Rg O$ Rz$ OV O$ OS O$ qN O$ OW Xh O$ qV (OM Rt O O eJ O) ?_;refine qV (PJ O Rt U3 (by omega))$ QS O$ Pa O$ qV (WY O O (by omega)) ?_;rw[fH];refine QS O$ Pa O$ qV (Yb O O (by rw[s8];omega)) ?_;rw[s8];refine qV (Rf m F O O (by omega) hF) ?_;rw[show 1*F%18446744073709551616=F by omega];refine OV O$ Po.qb (e:=[(1,_),(2,_),(4,_),(5,_),(6,_),(9,_),(10,_),(11,_)]) ?_;refine Qt O$ ON O$ qV (Ww O O O (by show v+1<2^64;omega) f1) ?_;refine Pa O$ qV (Rf k G O O (by omega) hG) ?_;rw[hE,Nat.mod_eq_of_lt (show E<18446744073709551616 by omega)];refine ON O$ qV (Ww O O O (by show E<2^64;omega) (by omega)) ?_;refine P5 zjx O (z7o (v+1-F) (E-F) f3 f2 (by omega) w4) ?_;rintro _ w5 ⟨rfl,aU⟩;refine qV (zdh (parts:=[(0,.tmp 69)]) (cs:=[_,_,_,_]) Us O z1Q SN O O)$ SA O ?_;have xl:=aU.OA eK;refine OT O (PG (news:=[OY (Rw (v+1-F) (E-F)).1,I ((Rw (v+1-F) (E-F)).2:Int),OY 0,I 0]) Us O O O O xl (by simp)) ?_;rintro w6 ⟨aT,aM⟩;replace aT:OP w6 b5 [OY (Rw (v+1-F) (E-F)).1,I ((Rw (v+1-F) (E-F)).2:Int),OY 0,I 0] 330:=aT;refine OC$ Pf func210 (.tmp O (.cell z1Q O Us O (OP.cells (n:=4) aT (news:=[_,_,_,_]) O) O .nil)) ?_;exact⟨_,rfl,rfl,(cF.trans aU).It aM (λi hi=>by omega)⟩
end
def hiB (w:Nat):Nat->Nat->List Nat->List Bool
 |_,_,[]=>[]
 |len,i,v::r=>List.replicate (v / 2^w+i-len) false++true::hiB w (v / 2^w+i+1) (i+1) r
abbrev Nof (l:List Nat):Prop:=l.Pairwise (·<=·)
def Rv:List Bool->Nat->Option Nat
 |[],_=>none
 |true::l,0=>some 0
 |true::l,k+1=>(Rv l k).map (·+1)
 |false::l,k=>(Rv l k).map (·+1)
theorem Up:∀(z:Nat) (l:List Bool) (k:Nat),Rv (List.replicate z false++l) k=(Rv l k).map (·+z)
 |0,l,k=>by simp
 | z + 1, l, k => by
   rw[List.replicate_succ,List.cons_append,Rv,Up z l k,Option.map_map]
   congr 1
theorem z0S (w:Nat):∀(l:List Nat) (len i k:Nat) (v:Nat),Nof l->l[k]? =some v->(∀x,l.head? =some x->len<=x / 2^w+i)->Rv (hiB w len i l) k=some (v / 2^w+i+k-len)
 |[],len,i,k,v,_,h,_=>by simp at h
 | x :: r, len, i, 0, v, _, h, hl => by
   simp at h;subst h;have:=hl x O;rw[hiB,Up,Rv]
   simp
 | x :: r, len, i, k + 1, v, hn, h, hl => by
   rw[List.getElem?_cons_succ] at h;obtain⟨n1,n2⟩:=List.pairwise_cons.1 hn;have hx:=hl x O;have hxv:x<=v:=n1 v (List.mem_of_getElem? h);have hd:=Nat.div_le_div_right (c:=2^w) hxv
   rw[hiB,Up,Rv,z0S w r _ (i+1) k v n2 h (λy hy=>by
    have hxy:x<=y:=n1 y (by cases r with
     |nil=>simp at hy
     |cons a r=>simp at hy;simp[hy])
    have:=Nat.div_le_div_right (c:=2^w) hxy
    omega)]
   simp;omega
theorem Zf:∀(l:List Bool) (j p m:Nat),Rv l j=some p->Rv (l.drop p) m=(Rv l (j+m)).map (·-p)
 |[],j,p,m,h=>by simp[Rv] at h
 | true :: l, 0, p, m, h => by
   simp[Rv] at h;subst h
   simp
 | true :: l, j + 1, p, m, h => by
   simp only[Rv,Option.map_eq_some_iff] at h;obtain⟨q,hq,rfl⟩:=h;rw[List.drop_succ_cons,Zf l j q m hq,show j+1+m=(j+m)+1 by omega,Rv,Option.map_map]
   congr 1
   funext x;simp
 | false :: l, j, p, m, h => by
   simp only[Rv,Option.map_eq_some_iff] at h;obtain⟨q,hq,rfl⟩:=h;rw[List.drop_succ_cons,Zf l j q m hq,Rv,Option.map_map]
   congr 1
   funext x;simp
theorem Wy:∀(a b:List Bool) (k:Nat),Rv (a++b) k=if k<a.count true then Rv a k else(Rv b (k-a.count true)).map (·+a.length)
 |[],b,k=>by simp
 |true::a,b,0=>by simp[Rv]
 | true :: a, b, k + 1 => by
   rw[List.cons_append,Rv,Wy a b k,List.count_cons_self];split
   ·rename_i h
    rw[if_pos (by omega),Rv]
   ·rename_i h
    rw[if_neg (by omega),Option.map_map,show k+1-(a.count true+1)=k-a.count true by omega]
    congr 1
 | false :: a, b, k => by
   rw[List.cons_append,Rv,Wy a b k,List.count_cons_of_ne (by decide)];split
   ·rw[Rv]
   ·rw[Option.map_map]
    congr 1
def z0x:∀{l:List Bool} {k p:Nat},Rv l k=some p->p<l.length/\l[p]? =some true
 |true::l,0,p,h=>by simp[Rv] at h;subst h;simp
 | true :: l, k + 1, p, h => by
   simp only[Rv,Option.map_eq_some_iff] at h;obtain⟨q,hq,rfl⟩:=h;have:=z0x hq
   simp;exact this
 | false :: l, k, p, h => by
   simp only[Rv,Option.map_eq_some_iff] at h;obtain⟨q,hq,rfl⟩:=h;have:=z0x hq
   simp;exact this
 |[],k,p,h=>by simp[Rv] at h
def z7F (w:Nat):∀(l:List Nat) (len i:Nat),Nof l->(∀x,l.head? =some x->len<=x / 2^w+i)->∀v,l.getLast? =some v->len+(hiB w len i l).length=v / 2^w+i+l.length
 |[],len,i,_,_,v,h=>by simp at h
 | [x], len, i, _, hl, v, h => by
   simp at h;subst h;have:=hl x O
   simp[hiB];omega
 | x :: y :: r, len, i, hn, hl, v, h => by
   obtain⟨n1,n2⟩:=List.pairwise_cons.1 hn;have hx:=hl x O;have hxy:=Nat.div_le_div_right (c:=2^w) (n1 y (by simp));have:=z7F w (y::r) (x / 2^w+i+1) (i+1) n2 (λz hz=>by simp at hz;subst hz;omega) v (by simpa using h);rw[hiB,List.length_append,List.length_replicate,List.length_cons];simp only[List.length_cons] at this⊢;omega
theorem XP (z:Nat)(r:List Bool):Pz (List.replicate z false++true::r)=2^r.length+Pz r:=by
 induction z with
 |zero=>simp[Pz]
 |succ z ih=>rw[List.replicate_succ,List.cons_append,Pz,ih];simp
theorem z3x (c:Cd)(v:Nat):c.rest v=Pc (c.p0 v).2 (c.p0 v).1:=by cases c<;>rfl
theorem Xc (c:Cd)(v:Nat):(c.enc v).length=c.zeros v+1+(c.p0 v).2:=by
 unfold Cd.enc
 rw[List.length_append,List.length_replicate,List.length_cons,z3x,bitsN_length];omega
def Cd.z0B (c:Cd):c.most<=281474976710654:=by cases c<;>simp[Cd.most]
theorem VJ:∀n:Nat,Pc n 0=List.replicate n false
 |0=>rfl
 |n+1=>by rw[Pc,VJ n,List.replicate_succ];simp
theorem z9J (z:Nat):Pc (z+1) 1=List.replicate z false++[true]:=by
 refine Yv (by simp) ?_
 rw[Q0,XP]
 simp[Pz]
def X9 {c:Cd}{v:Nat}(hc:c.Qq)(hv:v<=c.most):c.zeros v<=65535/\(c.p0 v).2<=63/\(c.p0 v).1<2^(c.p0 v).2:=by
 cases c with
 |unary=>exact⟨hv,by simp[Cd.p0],by simp[Cd.p0]⟩
 | gamma =>
   obtain⟨g1,g2,g3⟩:=VR hv;refine⟨by show Nat.log2 (v+1)<=_;omega,by show Nat.log2 (v+1)<=_;omega,?_⟩;show v+1-2^Nat.log2 (v+1)<2^Nat.log2 (v+1);rw[Nat.pow_succ] at g2
   omega
 | zeta k =>
   obtain⟨az,am⟩:1<=k/\k<=16:=hc;obtain⟨g1,g2,g3⟩:=VR hv;have f:=XW (k:=k) (v:=v) az;dsimp only at f;have hd:Nat.log2 (v+1) / k<=Nat.log2 (v+1):=Nat.div_le_self _ _;have hm:Nat.log2 (v+1) / k*k<=Nat.log2 (v+1):=Nat.div_mul_le_self _ _;refine⟨by show Nat.log2 (v+1) / k<=_;omega,?_,?_⟩
   ·show(Rw _ _).2<=63
    have h1:PN (2^(Nat.log2 (v+1) / k*k)*2^k-2^(Nat.log2 (v+1) / k*k)-1)<=63:=by
     refine R3 ?_;have h2:=Nat.pow_le_pow_right (show 0<2 by decide) (show Nat.log2 (v+1) / k*k+k<=63 by omega);rw[Nat.pow_add] at h2;have h3:=f.2.2
     revert h2 h3
     generalize 2^(Nat.log2 (v+1) / k*k)*2^k=E
     generalize 2^(Nat.log2 (v+1) / k*k)=F
     intro h2 h3;omega
    unfold Rw;dsimp only;split<;>dsimp only<;>omega
   ·exact z9l f.2.1
section
variable {P:Program}{e:Env}{d:Option Nat}{ty t el:TypeId}{pos:String}{aft:Array Edge}{g:Option (Nat×Bool)}{x y:Operand}{w:World}{k:IntKind}{n:Nat}{td:TypeDesc}
def zdy {za:Int}[tp:Tc za n]{len size bytes:Nat}{z:Value}{vs:Array Value}(ht:P.underlying t=some (.array len el))(hs:TI P el z size bytes)(hu:P.underlying el=some td)(ha:aggOf td=true)(hx:look e x=some (.agg vs))(hy:look e y=some (.int k za))(hn:n<len):
  Y P e ⟨d,.index t x y,ty,pos,aft,g⟩ (.agg (vs.extract (n*size) (n*size+size))) w w:=fun ρ hρ=>by
 obtain⟨rfl⟩:=tp
 have hs:=hs.size (w:=w)
 simp[execOp,hρ _ _ hx,hρ _ _ hy,Instr.index,asIntOf,run_underlying ht,hn,hs,part,Ta hu,ha]
end
section
def z4W (c:Cd)(v:Nat)(hc:c.Qq)(hv:v<=c.most)(w:World):Pm prog 184 [cdV c,OY v] w λu w'=>u= .tuple #[I ((c.enc v).length:Int),I 0]/\Ext w w':=by
 obtain⟨x,y,dN⟩:∃x y,Sg c=[x,y]:=by cases c<;>exact⟨_,_,rfl⟩
 obtain⟨q1,q2,-⟩:=X9 hc hv
 have hl:=Xc c v
 have fh:=c.z0B
 refine py (e:=[(0,_),(1,_)]) func184 O ntmps184 O O$ qN O$ OJ O O (R4 O (cs:=Sg c) O) ?_
 rintro _ w1 ⟨b2,rfl,bN,ad,ak⟩
 refine Qm O$ An$ qN O$ qV (Pp (news:=Sg c) Ss O QI O (ak.cells (n:=2) (by rw[dN];rfl)) (by rw[dN];rfl)) ?_
 refine ON O$ P5 zi2 O (zbX c v hc hv w1) ?_
 rintro _ w2 ⟨rfl,ae⟩
 refine qV ((RZ O))$ Qg O$ qN O$ qV (Pp (news:=Sg c) Ss O QI O ((ae.OA ak).cells (n:=2) (by rw[dN];rfl)) (by rw[dN];rfl)) ?_
 refine ON O$ P5 zdW O (z1O c v hc (by omega) w2) ?_
 rintro _ w3 ⟨rfl,ah⟩
 refine ON O$ SU O$ OJ O O (Ry (cs:=[_,_,_,_]) Us O) ?_
 rintro _ w4 ⟨b7,rfl,mg,aA,bO⟩
 refine SA O$ OT O (PG (news:=[OY (c.p0 v).1,I ((c.p0 v).2:Int),OY 0,I 0]) Us O O O O bO (by simp)) ?_
 rintro w5 ⟨jk,aj⟩
 replace jk:OP w5 b7 [OY (c.p0 v).1,I ((c.p0 v).2:Int),OY 0,I 0] 330:=jk
 refine qM O$ ON O$ PS O$ qV (yia z1Q SN O O (by omega))$ OW z0v O$ qV (OM U3 O O jk O)$ PS O$ qV (yia z1Q SN O O (by omega))$ OW z0v O$ qV (OM U3 O O jk O)$ PS O$ Qm O$ Po.qb (e:=[(4,_),(5,_)]) ?_
 refine OB func184 O ?_
 have z1:=ad.size
 have z2:=ae.size
 have z3:=ah.size
 refine⟨_,rfl,?_,(((ad.trans ae).trans ah).trans aA).It aj (λi hi=>by omega)⟩
 simp only[PX]
 congr 4
 omega
def zaG {w:World}{p:Nat}{bs:List Bool}{F:Nat->Prop}(h:YT w p bs F)(c:Cd)(v:Nat)(hc:c.Qq)(hv:v<=c.most)(hl:bs.length+(c.enc v).length<=134217728):
  Pm prog 185 [ptr p 0,cdV c,OY v] w λu w'=>u=I 0/\WrR p F w w' (bs++c.enc v):=by
 obtain⟨x,y,dN⟩:∃x y,Sg c=[x,y]:=by cases c<;>exact⟨_,_,rfl⟩
 obtain⟨q1,q2,q3⟩:=X9 hc hv
 have px:=Xc c v
 have fh:=c.z0B
 refine py (e:=[(0,_),(1,_),(2,_)]) func185 O ntmps185 O O$ qN O$ OJ O O (R4 O (cs:=Sg c) O) ?_
 rintro _ w1 ⟨b4,rfl,fZ,ad,aK⟩
 refine OV O$ PK O$ qV (PY z3K O O)$ Qg O$ qN O$ qV (Pp (news:=Sg c) Ss O QI O (aK.cells (n:=2) (by rw[dN];rfl)) (by rw[dN];rfl)) ?_
 refine ON O$ P5 zdY O (z4W c v hc hv w1) ?_
 rintro _ w2 ⟨rfl,ae⟩
 refine ON O$ SU O$ Qm O$ QA$ Pn O$ QE O$ OV O$ OQ O (λe0=>?_)$ λe0=>?_
 ·exact absurd O e0
 ·refine Qt O$ P5 z2g O (Vy ((h.ext ad).ext ae)) ?_; rintro _ w2 ⟨rfl, rfl⟩; refine Ro O (QB O (OV O (OQ O (λe1 => ?_) (λe1 => ?_))))
  ·omega
  ·refine OD$ Oz$ qN O$ qV (Pp (news := Sg c) Ss O QI O ((ae.OA aK).cells (n := 2) (by rw [dN]; rfl)) (by rw [dN]; rfl)) ?_; refine ON O (P5 zdW O (z1O c v hc (by omega) w2) ?_); rintro _ w3 ⟨rfl, ah⟩; refine ON O (SU O (OJ O O (Ry (cs := [_, _, _, _]) Us O) ?_)); rintro _ w4 ⟨b10, rfl, Cn, aA, fM⟩; refine SA O (OT O (PG (news := [OY (c.p0 v).1, I ((c.p0 v).2 : Int), OY 0, I 0]) Us O O O O fM (by simp)) ?_); rintro w5 ⟨lG, aj⟩; replace lG : OP w5 b10 [OY (c.p0 v).1, I ((c.p0 v).2 : Int), OY 0, I 0] 330 := lG; have z1 := ad.size; have z2 := ae.size; have z3 := ah.size; have bS : Ext w w5 := (((ad.trans ae).trans ah).trans aA).It aj (λi hi => by omega); have z5 := bS.size; have l10 := lG.lt; have ko : ∀ i, F i -> i < w.heap.size := λi hi => h.lt hi
   have HQ:∀(F':Nat->Prop),(∀k,F' k->F k\/w5.heap.size<=k)->¬F' b10:=λF' hf e=>by
    rcases hf b10 e with e| e
    ·have:=ko b10 e;omega
    ·omega
   refine OC$ Po.qb (e:=[(0,_),(6,_),(9,_),(10,_)]) ?_;refine QA$ Rr (α:=Nat×(Nat->Prop)×List Bool) ((c.zeros v,F,bs)) (λx=>[(0,ptr p 0),(9,I (x.1:Int)),(10,ptr b10 0)]) (λx w'=>x.1<=c.zeros v/\YT w' p x.2.2 x.2.1/\x.2.2=bs++List.replicate (c.zeros v-x.1) false/\Kp F w w'/\(∀k,x.2.1 k->F k\/w5.heap.size<=k)/\OP w' b10 [OY (c.p0 v).1,I ((c.p0 v).2:Int),OY 0,I 0] 330/\w5.heap.size<=w'.heap.size) (λx=>x.1) ?hI ?hround
   case hI=>exact⟨Nat.le_refl _,h.ext bS,by simp,bS.kp,λ_ h=> .inl h,lG,Nat.le_refl _⟩
   case hround =>
    rintro⟨z,F1,b1⟩ w6 ⟨hz,mh,bL,aM,nO,aT,z6⟩ ih;dsimp only at hz mh bL nO;have eL:b1.length=bs.length+(c.zeros v-z):=by rw[bL,List.length_append,List.length_replicate]
    try dsimp only
    refine PK O$ QB O$ OC$ OQ O (λaS=>?_)$ λaS=>?_
    ·refine OD$ QA$ R6 O$ P5 Wl O (Se mh 0 63 (by decide) (by decide) (by omega)) ?_;rintro _ w7 ⟨rfl,F7,pA,aB,pB⟩;have bO:=aB.OA aT (HQ F1 nO);have z7:=aB.size;refine OC$ Oz$ R6 O$ Ro O$ OV O ?_;rw[show((z:Int)-63)=((z-63:Nat):Int) by omega];refine(ih (z-63,F7,b1++Pc 63 0) w7 ⟨by dsimp only;omega,pA,?_,?_,?_,bO,by omega⟩ (by dsimp only;omega)).qb
     ·dsimp only;rw[bL,VJ,List.append_assoc,List.replicate_append_replicate,show c.zeros v-z+63=c.zeros v-(z-63) by omega]
     ·exact aM.It aB (λi hi=>(nO i hi).elim .inr (λe=> .inl (by omega)))
     ·intro i hi;rcases pB i hi with e| e
      ·exact nO i e
      ·exact .inr (by omega)
    ·refine OO O$ PK O$ U8 O$ OC$ OQ O (λg0=>?_)$ λg0=>?_
     ·refine OK O$ Pa O$ PS O ?_;rw[show((z:Int)+1)=((z+1:Nat):Int) by omega];refine P5 Wl O (Se mh 1 (z+1) (by omega) (by have:=Nat.pow_le_pow_right (show 0<2 by decide) (show 1<=z+1 by omega);omega) (by omega)) ?_;rintro _ w7 ⟨rfl,F7,pA,aB,pB⟩;have bO:=aB.OA aT (HQ F1 nO);have z7:=aB.size;have dS:Kp F w w7:=aM.It aB (λi hi=>(nO i hi).elim .inr (λe=> .inl (by omega)));have Co:∀i,F7 i->F i\/w5.heap.size<=i:=λi hi=>(pB i hi).elim (nO i) (λe=> .inr (by omega))
      have mg:b1++Pc (z+1) 1=bs++(List.replicate (c.zeros v) false++[true]):=by
       rw[bL,z9J,List.append_assoc]
       congr 1
       rw[<-List.append_assoc,List.replicate_append_replicate,show c.zeros v-z+z=c.zeros v by omega]
      rw[mg] at pA;clear ih;refine OC$ An$ qN O$ qV (Pp (news:=[OY (c.p0 v).1,I ((c.p0 v).2:Int),OY 0,I 0]) z1Q O Us O (bO.cells (n:=4) O) O)$ ON O$ OC$ OE$ Rr (α:=Nat×(Nat->Prop)×List Bool) ((0,F7,bs++(List.replicate (c.zeros v) false++[true]))) (λx=>[(0,ptr p 0),(49,.agg #[OY (c.p0 v).1,I ((c.p0 v).2:Int),OY 0,I 0]),(50,I (x.1:Int))]) (λx w'=>x.1<=2/\YT w' p x.2.2 x.2.1/\x.2.2=(bs++(List.replicate (c.zeros v) false++[true]))++(if x.1=0 then [] else c.rest v)/\Kp F w w'/\(∀k,x.2.1 k->F k\/w5.heap.size<=k)/\w5.heap.size<=w'.heap.size) (λx=>2-x.1) ?hI ?hround
      case hI=>exact⟨by dsimp only;omega,pA,by simp,dS,Co,by omega⟩
      case hround=>
       rintro⟨i,F8,b8⟩ w8 ⟨hi,tC,ja,aL,vZ,z8⟩ ih;dsimp only at hi tC ja vZ
       try dsimp only
       refine qN O$ Qw O$ OC$ An$ OQ O (λqg=>?_)$ λqg=>?_
       ·have xm:b8.length<=bs.length+(c.zeros v+1)+(if i=0 then 0 else(c.p0 v).2):=by
         rw[ja];simp only[List.length_append,List.length_replicate,List.length_cons,List.length_nil];split
         ·simp
         ·rw[z3x,bitsN_length];omega
        refine OD$ QA$ qN O ?_;rcases (show i=0\/i=1 by omega) with rfl|rfl
        ·rw[if_pos O] at xm ja;refine qV (zdy (n:=0) z1Q SN zaR O O O (by decide)) ?_;rw[show(#[OY (c.p0 v).1,I ((c.p0 v).2:Int),OY 0,I 0]:Array Value).extract (0*2) (0*2+2)=#[OY (c.p0 v).1,I ((c.p0 v).2:Int)] from rfl];refine OJ O O (Ry (cs:=[_,_]) SN O) ?_;rintro _ w9 ⟨b12,rfl,Cp,fN,aX⟩;refine OT O (PG (news:=[OY (c.p0 v).1,I ((c.p0 v).2:Int)]) SN O O O O aX (by simp)) ?_;rintro w10 ⟨eM,aC⟩;replace eM:OP w10 b12 [OY (c.p0 v).1,I ((c.p0 v).2:Int)] 329:=eM;have z9:=fN.size;have gm:Ext w8 w10:=fN.It aC (λi hi=>by omega);have z10:=gm.size;refine OC$ R6 O$ OW z8r O$ qV (OM Rt O O eM O)$ OW z0v O$ qV (OM U3 O O eM O)$ P5 Wl O (Se (tC.ext gm) (c.p0 v).1 (c.p0 v).2 (by omega) q3 (by omega)) ?_;rintro _ w11 ⟨rfl,F11,tD,bz,tE⟩;have jl:=gm.kp.trans bz;refine OC$ Oz$ OK O$ PS O$ ON O$ OC ((ih (1,F11,b8++Pc (c.p0 v).2 (c.p0 v).1) w11 ⟨by dsimp only;omega,tD,?_,?_,?_,?_⟩ (by dsimp only;omega)).qb)
         ·dsimp only;rw[ja];rw[List.append_nil,if_neg (by decide),z3x]
         ·exact aL.It jl (λi hi=>(vZ i hi).elim .inr (λe=> .inl (by omega)))
         ·intro i hi;rcases tE i hi with e| e
          ·exact vZ i e
          ·exact .inr (by omega)
         ·have:=jl.size;omega
        ·rw[if_neg (by decide)] at xm ja;refine qV (zdy (n:=1) z1Q SN zaR O O O (by decide)) ?_;rw[show(#[OY (c.p0 v).1,I ((c.p0 v).2:Int),OY 0,I 0]:Array Value).extract (1*2) (1*2+2)=#[OY 0,I 0] from rfl];refine OJ O O (Ry (cs:=[_,_]) SN O) ?_;rintro _ w9 ⟨b12,rfl,Cp,fN,aX⟩;refine OT O (PG (news:=[OY 0,I 0]) SN O O O O aX (by simp)) ?_;rintro w10 ⟨eM,aC⟩;replace eM:OP w10 b12 [OY 0,I 0] 329:=eM;have z9:=fN.size;have gm:Ext w8 w10:=fN.It aC (λi hi=>by omega);have z10:=gm.size;refine OC$ R6 O$ OW z8r O$ qV (OM Rt O O eM O)$ OW z0v O$ qV (OM U3 O O eM O)$ P5 Wl O (Se (tC.ext gm) 0 0 (by omega) (by decide) (by omega)) ?_;rintro _ w11 ⟨rfl,F11,tD,bz,tE⟩;have jl:=gm.kp.trans bz;refine OC$ Oz$ OK O$ PS O$ ON O$ OC ((ih (2,F11,b8++Pc 0 0) w11 ⟨by dsimp only;omega,tD,?_,?_,?_,?_⟩ (by dsimp only;omega)).qb)
         ·dsimp only;rw[ja];rw[if_neg (by decide)];simp[Pc]
         ·exact aL.It jl (λi hi=>(vZ i hi).elim .inr (λe=> .inl (by omega)))
         ·intro i hi;rcases tE i hi with e| e
          ·exact vZ i e
          ·exact .inr (by omega)
         ·have:=jl.size;omega
       ·have:i=2:=by omega
        subst this;rw[if_neg (by decide)] at ja;refine OO O$ Qx O$ OB func185 O (⟨_,rfl,rfl,F8,?_,aL,λi hi=>(vZ i hi).imp id (λe=>by omega)⟩);rw[ja] at tC;unfold Cd.enc
        simpa using tC
     ·omega
end
structure RgM (w:World)(x r:Nat)(s:OI)(a:Nat):Prop where
 OA:OP w x [ptr r 0,.bool false] 353
 rd:TO w r s a
 ne:x≠r
def RgM.ext {w w':World}{x r:Nat}{s:OI}{a:Nat}(h:RgM w x r s a)(k:Ext w w'):RgM w' x r s a:=⟨k.OA h.OA,⟨k.OA h.rd.1,h.rd.2⟩,h.ne⟩
section
variable {w:World}{x r:Nat}{s:OI}{a:Nat}
def WW (h:RgM w x r s a)(n:Nat)(hn:n<=64)(hl:a+n<=8*s.length):
  Pm prog 241 [ptr x 0,I (n:Int)] w λv w'=>v=OY (Pz (((P7 s).drop a).take n))/\RgM w' x r s (a+n)/\Kp (λk=>k=x\/k=r) w w':=by
 obtain⟨hB,hR,bu⟩:=h
 refine py (e:=[(0,_),(1,_)]) func241 O ntmps241 O O$ qN O$ QW O$ Pq O$ OW zcJ O$ qV (OM Ve O O hB O)$ ON O$ P5 z4i O (Vx hR n hn) ?_
 rintro v1 w1 fO
 obtain⟨rfl,iA,az⟩:v1= .tuple #[OY (Pz (((P7 s).drop a).take n)),I 0]/\TO w1 r s (a+n)/\Kp (λk=>k=r) w w1:=by
  rcases fO with⟨-,h⟩|⟨h,-⟩
  ·exact h
  ·omega
 have ai:=az.OA hB bu
 refine ON O$ SU O$ SA O$ QS O$ Pa O$ Pq O$ OW z0o O$ qV (OM U4 O O ai O)$ Pa O$ QE O$ PH$ PM O$ Pq O$ OW z0o O ?_
 refine OT O (QG UH O O O ai (by simp)) ?_
 rintro w2 ⟨ak,am⟩
 replace ak:OP w2 x [ptr r 0,.bool false] 353:=ak
 refine OC$ Po.qb (e:=[(4,_),(5,_)]) ?_
 refine Pn O$ OV O$ OB func241 O ?_
 exact⟨_,rfl,rfl,⟨ak,⟨am.OA iA.1 (Ne.symm bu),iA.2⟩,bu⟩,(az.OH (λk e=> .inr e)).trans (am.OH (λk e=> .inl e))⟩
def Y5 (h:RgM w x r s a)(z most:Nat)(rest:List Bool)(hb:(P7 s).drop a=List.replicate z false++true::rest)(hz:z<=most)(hm:most<=65535):
  Pm prog 239 [ptr x 0,I (most:Int)] w λv w'=>v=I (z:Int)/\RgM w' x r s (a+z+1)/\Kp (λk=>k=x\/k=r) w w':=by
 have aI:a+z+1<=8*s.length:=by
  have:=congrArg List.length hb;rw[List.length_drop,bitsT_length,List.length_append,List.length_replicate,List.length_cons] at this;omega
 refine py (e:=[(0,_),(1,_)]) func239 O ntmps239 O O$ Qx O$ An$ Qx O$ OE$ Rr (α:=Nat) (0) (λn=>[(0,ptr x 0),(1,I (most:Int)),(5,I (n:Int))]) (λn w'=>n<=z/\RgM w' x r s (a+n)/\Kp (λk=>k=x\/k=r) w w') (λn=>z-n) ?hI ?hround
 case hI=>exact⟨Nat.zero_le _,h,Kp.refl _ _⟩
 case hround=>
  rintro n w1 ⟨hn,h1,az⟩ ih;have ai:=h1.OA
  have hd:(P7 s).drop (a+n)=List.replicate (z-n) false++true::rest:=by
   rw[<-List.drop_drop,hb,List.drop_append_of_le_length (by simp;omega),List.drop_replicate]
  try dsimp only
  refine An$ Qt O$ zle O$ ON O$ Sr (λc1=>?_)$ λc1=>?_
  ·have hv:Pz (((P7 s).drop (a+n)).take 1)=if n=z then 1 else 0:=by
    rw[hd];by_cases e:n=z
    ·subst e;rw[Nat.sub_self,if_pos O];rfl
    ·rw[if_neg e,show z-n=(z-n-1)+1 by omega,List.replicate_succ];rfl
   refine ON O$ Pq O$ OW z0o O$ qV (OM U4 O O ai O)$ qV ((RZ O))$ QX O$ OC$ OS O$ OD$ QA$ Pn O$ P5 z7L O (WW h1 1 (by decide) (by omega)) ?_;rintro _ w2 ⟨rfl,h2,am⟩;rw[hv];refine Rg O$ OC$ OQ O (λc2=>?_)$ λc2=>?_
   ·have HR:n=z:=by
     by_cases e:n=z
     ·exact e
     ·rw[if_neg e] at c2;simp at c2
    subst HR;refine Pn O$ OV O$ OB func239 O ?_;exact⟨_,rfl,rfl,h2,az.trans am⟩
   ·have HR:n≠z:=λe=>by rw[if_pos e] at c2;simp at c2
    refine OD$ Oz$ R6 O$ PS O$ OV O ?_;exact(ih (n+1) w2 ⟨by omega,by rw[<-Nat.add_assoc];exact h2,az.trans am⟩ (by omega)).qb
  ·omega
def z6V (h:RgM w x r s a)(z q:Nat)(rest:List Bool)(hb:(P7 s).drop a=List.replicate z false++true::(Pc z q++rest))(hq:q<2^z)(hz:z<=47):
  Pm prog 240 [ptr x 0,I 47] w λv w'=>v=OY (q+2^z-1)/\RgM w' x r s (a+z+1+z)/\Kp (λk=>k=x\/k=r) w w':=by
 have aI:a+z+1+z<=8*s.length:=by
  have:=congrArg List.length hb;rw[List.length_drop,bitsT_length,List.length_append,List.length_replicate,List.length_cons,List.length_append,bitsN_length] at this;omega
 have hd:(P7 s).drop (a+z+1)=Pc z q++rest:=by
  rw[show a+z+1=a+(z+1) by omega,<-List.drop_drop,hb];rw[<-List.drop_drop,List.drop_left' (by simp)];rfl
 have hv:Pz (((P7 s).drop (a+z+1)).take z)=q:=by
  rw[hd,List.take_left' (by simp),Q0,Nat.mod_eq_of_lt hq]
 obtain⟨Q,hQ⟩:∃Q,2^z=Q:=⟨_,rfl⟩
 rw[hQ] at hq⊢
 have Ci:1<=Q/\Q<=281474976710656:=by
  rw[<-hQ];exact⟨Nat.two_pow_pos _,by have:=Nat.pow_le_pow_right (show 0<2 by decide) (show z<=48 by omega);simpa using this⟩
 refine py (e:=[(0,_),(1,_)]) func240 O ntmps240 O O$ qN O$ QS O$ Pa O$ P5 zav O (Y5 h z 47 _ hb hz (by decide)) ?_
 rintro _ w1 ⟨rfl,h1,az⟩
 have hg:=Ext.P4 w1
 refine OV O$ An$ QV (λw'=>Kp (λk=>k=x\/k=r) w1 w') O$ OZ 0 O O (hg.kp)$ OZ 1 O O (hg.kp)$ OZ 3 O O (hg.kp)$ OG 4 O (Rf z Q O O (by omega) hQ) (hg.kp) ?_
 rw[show 1*Q%18446744073709551616=Q by omega]
 refine RT 2 O z7L O (WW (h1.ext hg) z (by omega) (by omega)) ?_
 rintro _ w2 ⟨rfl,h2,am⟩
 refine⟨hg.kp.trans am,?_⟩
 rw[hv]
 refine OG 5 O (UU O O) (hg.kp.trans am) ?_
 rw[show(q+Q)%18446744073709551616=q+Q by omega]
 refine OG 6 O (Ww (n:=1) O O O (by show q+Q<2^64;omega) (by omega)) (hg.kp.trans am) ?_
 refine OG 7 O (Rp O) (hg.kp.trans am)$ qE$ OB func240 O ?_
 exact⟨_,rfl,rfl,h2,az.trans (hg.kp.trans am)⟩
def z6K (h:RgM w x r s a)(v K:Nat)(rest:List Bool)(hb:(P7 s).drop a=QC v K++rest)(hv:v<K)(Jz:K<=9223372036854775808):
  Pm prog 242 [ptr x 0,OY K] w λu w'=>u=OY v/\RgM w' x r s (a+(QC v K).length)/\Kp (λk=>k=x\/k=r) w w':=by
 have aI:a+(QC v K).length<=8*s.length:=by
  have:=congrArg List.length hb;have ha:=h.rd.2.1;rw[List.length_drop,bitsT_length,List.length_append] at this;omega
 refine py (e:=[(0,_),(1,_)]) func242 O ntmps242 O O$ qN O$ QW O$ qV (Ww (n:=1) O O O (by show K<2^64;omega) (by omega)) ?_
 refine P5 z2o O (Ui (K-1) (by omega) w) ?_
 rintro _ w ⟨rfl,rfl⟩
 refine OV O$ PK O$ Rg O$ OC ?_
 by_cases HP:K=1
 ·subst HP;have wg:v=0:=by omega
  subst wg;rw[show PN (1-1)=0 from rfl];refine OQ O (λc0=>?_)$ λc0=>?_
  ·refine Qx O$ OB func242 O ?_;exact⟨_,rfl,rfl,h,Kp.refl _ _⟩
  ·exact absurd O c0
 ·have f:=z5G hv (by omega) rest;dsimp only at f;obtain⟨n,hn⟩:∃n,PN (K-1)=n:=⟨_,rfl⟩;rw[hn] at f⊢;have g:=UT (K:=K) (by omega);rw[hn] at g;obtain⟨Q,hQ⟩:∃Q,2^n=Q:=⟨_,rfl⟩;rw[hQ] at f g;obtain⟨f1,f2,f3⟩:=f
  have Cq:n<=63:=by
   rw[<-hn];have e63:(2:Nat)^63=9223372036854775808:=by decide
   exact R3 (by omega)
  have Ch:Q<=9223372036854775808:=by
   rw[<-hQ];have:=Nat.pow_le_pow_right (show 0<2 by decide) Cq;have e63:(2:Nat)^63=9223372036854775808:=by decide
   omega
  have t1:((P7 s).drop a).take (n-1)=(QC v K).take (n-1):=by rw[hb,List.take_append_of_le_length f2]
  obtain⟨u,hu⟩:∃u,Pz ((QC v K).take (n-1))=u:=⟨_,rfl⟩
  have nq:u<Q:=by
   have h1:=R1 ((QC v K).take (n-1));rw[hu,List.length_take] at h1;have h2:=Nat.pow_le_pow_right (show 0<2 by decide) (show min (n-1) (QC v K).length<=n by omega);omega
  rw[hu] at f3;refine OQ O (λc0=>?_)$ λc0=>?_
  ·omega
  ·refine OD$ Pn O$ qV (Rf n Q O O (by omega) hQ) ?_;rw[show 1*Q%18446744073709551616=Q by omega];refine ON O$ qV (Ww O O O (by show Q<2^64;omega) g.1) ?_;refine QS O$ Pa O$ Ro O ?_;rw[show((n:Int)-1)=((n-1:Nat):Int) by omega];refine P5 z7L O (WW h (n-1) (by omega) (by omega)) ?_;rintro _ w1 ⟨rfl,h1,az⟩;rw[t1,hu];refine OV O$ An$ Qt O$ U8 O$ OC$ OQ O (λc1=>?_)$ λc1=>?_
   ·obtain⟨m1,m2,m3⟩:Q-K<=u/\(QC v K).length=n/\2*u+Pz ((QC v K).drop (n-1))=v+(Q-K):=by
     rcases f3 with⟨e,-⟩| e
     ·omega
     ·exact e
    have t2:((P7 s).drop (a+(n-1))).take 1=(QC v K).drop (n-1):=by
     rw[<-List.drop_drop,hb,List.drop_append_of_le_length f2,List.take_append_of_le_length (by rw[List.length_drop];omega),List.take_of_length_le (by rw[List.length_drop];omega)]
    have nP:Pz ((QC v K).drop (n-1))<2:=by
     have:=R1 ((QC v K).drop (n-1));rw[List.length_drop,m2,show n-(n-1)=1 by omega] at this;exact this
    refine R6 O$ qV (Rf 1 2 O O (by decide) O) ?_;rw[show u*2%18446744073709551616=u*2 by omega];refine ON O$ P5 z7L O (WW h1 1 (by decide) (by omega)) ?_;rintro _ w2 ⟨rfl,h2,am⟩;rw[t2];refine qV (UU O O) ?_;rw[show(u*2+Pz ((QC v K).drop (n-1)))%18446744073709551616=v+(Q-K) by omega];refine ON O$ qV (Ww O O O (by show v+(Q-K)<2^64;omega) (by omega)) ?_;rw[show v+(Q-K)-(Q-K)=v by omega];refine OV O$ Po.qb (e:=[(4,_),(7,_)]) ?_;refine Pn O$ OV O$ OB func242 O ?_;rw[m2];exact⟨_,rfl,rfl,by rw[show a+n=a+(n-1)+1 by omega];exact h2,az.trans am⟩
   ·obtain⟨m1,m2,m3⟩:u<Q-K/\(QC v K).length=n-1/\u=v:=by
     rcases f3 with e|⟨e,-⟩
     ·exact e
     ·omega
    refine OD$ Pn O$ OV O$ OB func242 O ?_;rw[m2];exact⟨_,rfl,by rw[m3];rfl,h1,az⟩
end
section
variable {w:World}{x r:Nat}{s:OI}{a:Nat}
def z4n (h:RgM w x r s a)(c:Cd)(v:Nat)(hc:c.Qq)(hv:v<=c.most)(rest:List Bool)(hb:(P7 s).drop a=c.enc v++rest):
  Pm prog 231 [ptr x 0,cdV c] w λu w'=>u=OY v/\RgM w' x r s (a+(c.enc v).length)/\Kp (λk=>k=x\/k=r) w w':=by
 have px:=Xc c v
 have cE:=h.OA.lt
 have im:=h.rd.1.lt
 have aI:a+(c.enc v).length<=8*s.length:=by
  have:=congrArg List.length hb;have ha:=h.rd.2.1;rw[List.length_drop,bitsT_length,List.length_append] at this;omega
 unfold Cd.enc at hb
 rw[List.append_assoc,List.cons_append] at hb
 cases c with
 | unary =>
   refine py (e:=[(0,_),(1,_)]) func231 O ntmps231 O O$ qN O$ OJ O O (R4 O (cs:=[.int .u8 0,OY 0]) O) ?_;rintro _ w1 ⟨b3,rfl,dG,ad,ar⟩;refine OV O$ An$ qN O$ OW S6 O$ qV (OM U5 O O ar O)$ OC$ OE$ qN O$ Rg O$ Rz$ OV O$ OS O$ Pn O$ P5 zav O (Y5 (h.ext ad) v 65535 rest hb hv (by decide)) ?_;rintro _ w2 ⟨rfl,h2,am⟩;have jm:v<=65535:=hv;refine qV ((Q7 O U3 Rt (by omega)))$ OV O$ OB func231 O (⟨_,rfl,rfl,?_,ad.kp.trans am⟩);have e:(Cd.enc .unary v).length=v+1:=by rw[px];rfl
   rw[e];exact h2
 | gamma =>
   obtain⟨g1,g2,g3⟩:=VR hv;obtain⟨z,hz⟩:∃z,Nat.log2 (v+1)=z:=⟨_,rfl⟩;rw[hz] at g1 g2 g3;rw[Nat.pow_succ] at g2
   have gX:(P7 s).drop a=List.replicate z false++true::(Pc z (v+1-2^z)++rest):=by
    rw[hb];show List.replicate (Nat.log2 (v+1)) false++true::(Pc (Nat.log2 (v+1)) (v+1-2^Nat.log2 (v+1))++rest)=_;rw[hz]
   have e:(Cd.enc .gamma v).length=z+1+z:=by rw[px];show Nat.log2 (v+1)+1+Nat.log2 (v+1)=_;rw[hz]
   refine py (e:=[(0,_),(1,_)]) func231 O ntmps231 O O$ qN O$ OJ O O (R4 O (cs:=[.int .u8 1,OY 0]) O) ?_;rintro _ w1 ⟨b3,rfl,dG,ad,ar⟩;refine OV O$ An$ qN O$ OW S6 O$ qV (OM U5 O O ar O)$ OC$ OE$ qN O$ Rg O$ PH$ OV O$ OL O$ qN O$ Rg O ?_;refine Rz$ OV O$ OS O$ Pn O$ P5 zhC O (z6V (h.ext ad) z (v+1-2^z) rest gX (by omega) g3) ?_;rintro _ w2 ⟨rfl,h2,am⟩;rw[show v+1-2^z+2^z-1=v by omega];refine OV O$ OB func231 O (⟨_,rfl,rfl,?_,ad.kp.trans am⟩)
   rw[e,show a+(z+1+z)=a+z+1+z by omega];exact h2
 | zeta k =>
   obtain⟨az,am⟩:1<=k/\k<=16:=hc;obtain⟨g1,g2,g3⟩:=VR hv;have f:=XW (k:=k) (v:=v) az;dsimp only at f;obtain⟨b,wh⟩:∃b,Nat.log2 (v+1)=b:=⟨_,rfl⟩;rw[wh] at f g1 g2 g3;obtain⟨z,hz⟩:∃z,b / k=z:=⟨_,rfl⟩;obtain⟨m,hm⟩:∃m,z*k=m:=⟨_,rfl⟩;have JA:m<=b:=by rw[<-hm,<-hz];exact Nat.div_mul_le_self _ _
   have Cr:z<=47 / k:=by rw[<-hz];exact Nat.div_le_div_right g3
   have NB:47 / k<=47:=Nat.div_le_self _ _;rw[hz,hm] at f
   have gX:(P7 s).drop a=List.replicate z false++true::(QC (v+1-2^m) (2^m*2^k-2^m)++rest):=by
    rw[hb];show List.replicate (Nat.log2 (v+1) / k) false++true::(QC (v+1-2^(Nat.log2 (v+1) / k*k)) (2^(Nat.log2 (v+1) / k*k)*2^k-2^(Nat.log2 (v+1) / k*k))++rest)=_;rw[wh,hz,hm]
   obtain⟨F,hF⟩:∃F,2^m=F:=⟨_,rfl⟩;obtain⟨G,hG⟩:∃G,2^k=G:=⟨_,rfl⟩;rw[hF,hG] at f gX;obtain⟨f1,f2,f3⟩:=f;obtain⟨E,hE⟩:∃E,F*G=E:=⟨_,rfl⟩
   have Cj:E<=9223372036854775808:=by
    rw[<-hE,<-hF,<-hG,<-Nat.pow_add];have:=Nat.pow_le_pow_right (show 0<2 by decide) (show m+k<=63 by omega);have e63:(2:Nat)^63=9223372036854775808:=by decide
    omega
   rw[hE] at f2 f3 gX
   have e:(Cd.enc (.zeta k) v).length=z+1+(QC (v+1-F) (E-F)).length:=by
    rw[Cd.enc,List.length_append,List.length_replicate,List.length_cons];show Nat.log2 (v+1) / k+((QC (v+1-2^(Nat.log2 (v+1) / k*k)) (2^(Nat.log2 (v+1) / k*k)*2^k-2^(Nat.log2 (v+1) / k*k))).length+1)=_;rw[wh,hz,hm,hF,hG,hE];omega
   have hd:(P7 s).drop (a+z+1)=QC (v+1-F) (E-F)++rest:=by
    rw[show a+z+1=a+(z+1) by omega,<-List.drop_drop,gX];rw[<-List.drop_drop,List.drop_left' (by simp)];rfl
   have s8:(z:Int)*(k:Int)=(m:Int):=by rw[<-hm];simp
   have fH:(47:Int) / (k:Int)=((47 / k:Nat):Int):=by simp
   refine py (e:=[(0,_),(1,_)]) func231 O ntmps231 O O$ qN O$ OJ O O (R4 O (cs:=[.int .u8 3,OY k]) O) ?_;rintro _ w1 ⟨b3,rfl,dG,ad,ar⟩;refine OV O$ An$ qN O$ OW S6 O$ qV (OM U5 O O ar O)$ OC$ OE$ qN O$ Rg O$ PH$ OV O$ OL O$ qN O$ Rg O ?_;refine PH$ OV O$ OL O$ qN O$ Rg O$ PH$ OV O$ OL O$ qN O$ Rg O$ Rz$ OV O$ OS O$ qN O ?_;refine OW Xh O$ qV (OM Rt O O ar O)$ qV (PJ O Rt U3 (by omega))$ QS O$ Pa O$ qV (WY O O (by omega)) ?_;rw[fH];refine P5 zav O (Y5 (h.ext ad) z (47 / k) _ gX Cr (by omega)) ?_;rintro _ w2 ⟨rfl,h2,Cs⟩;refine ON O$ qV (Yb O O (by rw[s8];omega)) ?_;rw[s8];refine qV (Rf m F O O (by omega) hF) ?_;rw[show 1*F%18446744073709551616=F by omega];refine OV O$ Po.qb (e:=[(0,_),(3,_),(4,_),(6,_),(7,_)]) ?_;refine Qt O$ ON O$ qV (Rf k G O O (by omega) hG) ?_;rw[hE,Nat.mod_eq_of_lt (show E<18446744073709551616 by omega)];refine ON O$ qV (Ww O O O (by show E<2^64;omega) (by omega)) ?_;refine P5 zj7 O (z6K h2 (v+1-F) (E-F) rest hd f2 (by omega)) ?_;rintro _ w3 ⟨rfl,h3,av⟩;refine ON O$ qV (UU O O) ?_;rw[show(v+1-F+F)%18446744073709551616=v+1 by omega];refine qV (Ww (n:=1) O O O (by show v+1<2^64;omega) (by omega)) ?_;rw[show v+1-1=v by omega];refine OV O$ OB func231 O (⟨_,rfl,rfl,?_,(ad.kp.trans Cs).trans av⟩);rw[e,show a+(z+1+(QC (v+1-F) (E-F)).length)=a+z+1+(QC (v+1-F) (E-F)).length by omega];exact h3
end
def z7a {P:Program}{fn:Func}{tmps:Array Value}{R:Ending->World->Prop}{g:FuncId}{cap args:List Value}{w:World}{S:Value->World->Prop}(qh:CF P g)(hD:z95 P g (args++cap) w S)
  (h:∀u w',S u w'->∃v,(results fn tmps).run P w'= .ok v w'/\R (.returned v) w'):LeavesInM Fence.wide 0 P fn tmps R (marks [.call g cap args]) .returning w:=by
 refine⟨by simp,.inr ⟨(λh=>by cases h),.func g,cap.toArray,g,(args++cap).toArray,rfl,?_,(λ_ _=>trivial),?_⟩⟩
 ·simp[Dfr.d,invoke,Tl qh]
 ·refine CallsDIn.mono hD ?_;rintro x u w1 ⟨rfl,v1,rfl,hS⟩;exact h v1 w1 hS
def z2F {P:Program}{f:FuncId}{R:Value->World->Prop}{n:Nat}{k:List Item}{e:Env}{w:World}{fn:Func}{g:FuncId}{cap args:List Value}{S:Value->World->Prop}(hf:P.funcs[f]? =some fn)(qh:CF P g)(hD:z95 P g (args++cap) w S)
  (h:∀u w',S u w'->∃vs,Yh P w' e fn.results.toList vs/\Wu R (.returned (PX vs)) w'):Po ⟨P,f,R,n,none,[.call g cap args],false⟩ (.code .ret::k) e w:=
 z44 O O hf λa ha=>z7a qh hD λu w' hs=>by
  obtain⟨vs,h1,h2⟩:=h u w' hs;exact⟨_,VM ha P w' fn vs h1,h2⟩
def ydf {P:Program}{e:Env}{ty:TypeId}{pos:String}{aft:Array Edge}{g:Option (Nat×Bool)}{w:World}{f:FuncId}{x:Operand}{q:List Value}(hv:look e x=some (.func (.func f) #[] q.toArray)):
  ∀ρ:Operand->Value,(∀x v,look e x=some v->ρ x=v)->(execOp ρ ⟨none,.defer ⟨.value x,#[],#[]⟩,ty,pos,aft,g⟩).run P w= .ok (.defer (Dfr.d (.call f q []))) w:=fun ρ hρ=>by
 simp[execOp,resolve,hρ _ _ hv,Dfr.d,Deferred.ofValue]
section
variable {w:World}{r:Nat}{s:OI}{a:Nat}
def z54 {b2 b5 b6:Nat}(hB:OP w b5 [I 0] 44):z95 prog 230 [ptr b5 0,ptr b2 0,ptr b6 0] w λu w'=>w'=w:=by
 refine z4J (e:=[(0,_),(1,_),(2,_)]) func230 O ntmps230 O O$ qN O$ qV (OM U44 O O hB O)$ QE O$ OC$ OQ O (λc0=>?_)$ λc0=>?_
 ·exact absurd O c0
 ·refine OD$ z4y O O O func230$ λa ha=>⟨_,T4 ha _ _ _ _ O,?_⟩;exact⟨_,rfl,rfl⟩
def ZD (h:TO w r s a)(c:Cd)(v:Nat)(hc:c.Qq)(hv:v<=c.most)(rest:List Bool)(hb:(P7 s).drop a=c.enc v++rest):
  Pm prog 223 [ptr r 0,cdV c] w λu w'=>u= .tuple #[OY v,I 0]/\TO w' r s (a+(c.enc v).length)/\Kp (λk=>k=r) w w':=by
 obtain⟨x,y,dN⟩:∃x y,Sg c=[x,y]:=by cases c<;>exact⟨_,_,rfl⟩
 have im:=h.1.lt
 have fh:=c.z0B
 refine py (e:=[(0,_),(1,_)]) func223 O ntmps223 O O$ qN O$ OJ O O (R4 O (cs:=[ptr r 0]) O) ?_
 rintro _ w1 ⟨b2,rfl,bN,ad,ak⟩
 refine OJ O O (R4 O (cs:=Sg c) O) ?_
 rintro _ w2 ⟨b3,rfl,dG,ae,ar⟩
 refine SA O$ OJ O O (Ry (cs:=[_]) z2Y O) ?_
 rintro _ w3 ⟨b5,rfl,gR,ah,aH⟩
 replace aH:OP w3 b5 [I 0] 44:=aH
 have h3:TO w3 r s a:=⟨ah.OA (ae.OA (ad.OA h.1)),h.2⟩
 have bF:=ah.OA (ae.OA ak)
 have eN:=ah.OA ar
 refine OC$ QA$ qN O$ qV (OM Ve O O bF O)$ qV (PY Ve O O)$ OV O$ OL O$ qN O$ qV (Pp (news:=Sg c) Ss O QI O (eN.cells (n:=2) (by rw[dN];rfl)) (by rw[dN];rfl)) ?_
 refine P5 z4Y O (UI c hc w3) ?_
 rintro _ w4 ⟨rfl,aA⟩
 have h4:TO w4 r s a:=⟨aA.OA h3.1,h3.2⟩
 have fP:=aA.OA bF
 refine QE O$ OV O$ OQ O (λc0=>?_)$ λc0=>?_
 ·exact absurd O c0
 ·refine OD$ Oz$ qN O$ qV (OM Ve O O fP O)$ P5 YE O (Uc h4) ?_;rintro _ w4 ⟨rfl,rfl⟩;refine OJ O O (Ry (cs:=[_]) PV O) ?_;rintro _ w5 ⟨b6,rfl,nN,aU,aT⟩;refine OT O (QG PV O O O aT (by simp)) ?_;rintro w6 ⟨nQ,aM⟩;have z1:=ad.size;have z2:=ae.size;have z3:=ah.size;have z4:=aA.size;have z5:=aU.size;have l2:=ak.lt;have l3:=ar.lt;have l5:=aH.lt;have cU:Ext w4 w6:=aU.It aM (λi hi=>by omega);have gY:=cU.OA fP;refine qM O$ qV (ymf (first:=[]) (caps:=[.tmp 5,.tmp 2,.tmp 6]) O O)$ zaM O O (ydf O)$ qM O$ qV (OM Ve O O gY O)$ qV (Sa (cs:=[_,_]) zij O zih O O)$ OJ O O (R4 O O) ?_;rintro _ w7 ⟨b7,rfl,mg,co,bO⟩;replace bO:OP w7 b7 [ptr r 0,.bool false] 353:=bO;have z6:=cU.size;have z7:=co.size;have qi:Ext w3 w7:=(aA.trans cU).trans co;have h7:RgM w7 b7 r s a:=⟨bO,⟨qi.OA h3.1,h3.2⟩,by omega⟩;have kq:=qi.OA eN;have fw:=qi.OA aH;refine OV O$ PK O$ qV (Pp (news:=Sg c) Ss O QI O (kq.cells (n:=2) (by rw[dN];rfl)) (by rw[dN];rfl)) ?_;refine P5 zik O (z4n h7 c v hc hv rest hb) ?_;rintro _ w8 ⟨rfl,h8,aL⟩;have nR:=aL.OA kq (by omega);have gZ:=aL.OA fw (by omega);have cj:=h8.OA;refine QW O$ Pq O$ OW z0o O$ qV (OM U4 O O cj O)$ Pa O$ qV (Pp (news:=Sg c) Ss O QI O (nR.cells (n:=2) (by rw[dN];rfl)) (by rw[dN];rfl)) ?_;refine P5 zey O (z2j c hc w8) ?_;rintro _ w9 ⟨rfl,fN⟩;refine QB O$ PM O$ OC$ Po.qb (e:=[(4,_),(5,_),(33,_)]) ?_;refine OQ O (λc1=>?_)$ λc1=>?_
  ·omega
  ·have Ct:=fN.OA gZ;refine OD$ Pn O$ SA O$ OT O (QG z2Y O O O Ct (by simp)) ?_;rintro w10 ⟨fM,aC⟩;replace fM:OP w10 b5 [I 0] 44:=fM;refine OC$ z2F func223 ziC (z54 (b2:=b2) (b6:=b6) fM) ?_;rintro u w' rfl;have pC:TO w9 r s (a+(c.enc v).length):=⟨fN.OA h8.rd.1,h8.rd.2⟩;refine⟨_,.tmp O (.cell1 U44 O O ((fM).cell _) .nil),_,rfl,rfl,⟨aC.OA pC.1 (by omega),pC.2⟩,?_⟩;have kr:Ext w w7:=((ad.trans ae).trans ah).trans qi;have mj:Kp (λk=>k=r) w w8:=kr.kp.It aL (λi hi=>hi.elim (λe=> .inl (by omega)) .inr);exact(mj.trans fN.kp).It aC (λi hi=> .inl (by omega))
end
/-! ### Runs -/
def expand:Bool->List Nat->List Bool
 |_,[]=>[]
 |b,n::r=>List.replicate n b++expand (!b) r
theorem Y0:∀(b:Bool) (r s:List Nat),expand b (r++s)=expand b r++expand (if r.length%2=0 then b else !b) s
 |b,[],s=>by simp[expand]
 | b, n :: r, s => by
   rw[List.cons_append,expand,expand,Y0 (!b) r s,List.append_assoc]
   congr 2
   rcases Nat.mod_two_eq_zero_or_one r.length with e| e
   ·rw[if_pos e,if_neg (by rw[List.length_cons];omega)]
   ·rw[if_neg (by omega),if_pos (by rw[List.length_cons];omega)];simp
theorem SR:∀(b:Bool) (r:List Nat),(expand b r).length=r.sum
 |_,[]=>rfl
 |b,n::r=>by rw[expand,List.length_append,List.length_replicate,SR (!b) r,List.sum_cons]
def QU (rs:List Nat)(f:Bool):List Nat:=
 let rs':=if f !=(rs.length%2==1) then rs++[0] else rs
 rs'.modify (rs'.length-1) (·+1)
theorem WE (l:List Nat)(n:Nat):(l++[n]).modify ((l++[n]).length-1) (·+1)=l++[n+1]:=by
 have key:∀l:List Nat,(l++[n]).modify l.length (·+1)=l++[n+1]:=λl=>by
  induction l with
  |nil=>rfl
  |cons a l ih=>simpa using ih
 have:(l++[n]).length-1=l.length:=by simp
 rw[this,key]
structure Tw (rs:List Nat)(fs:List Bool):Prop where
 ne:rs≠[]
 exp:expand true rs=fs
 pos:∀n∈rs.drop 1,1<=n
theorem Tw.zero:Tw [0] []:=⟨by simp,rfl,by simp⟩
theorem Tw.step {rs:List Nat}{fs:List Bool}(h:Tw rs fs)(f:Bool):Tw (QU rs f) (fs++[f]):=by
 obtain⟨h1,h2,h3⟩:=h
 obtain⟨l,n,rfl⟩:∃l n,rs=l++[n]:=⟨rs.dropLast,rs.getLast h1,(List.dropLast_concat_getLast h1).symm⟩
 unfold QU
 dsimp only
 have hlen:(l++[n]).length=l.length+1:=by simp
 rw[hlen]
 split
 ·rename_i hf
  rw[WE];refine⟨by simp,?_,λk hk=>?_⟩
  ·rw[Y0,h2,hlen]
   congr 1
   rcases Nat.mod_two_eq_zero_or_one l.length with e|e<;>cases f<;>simp[expand,e,Nat.add_mod] at hf⊢
  ·rw[List.drop_append_of_le_length (by rw[hlen];omega)] at hk;rcases List.mem_append.1 hk with hk|hk
   ·exact h3 k hk
   ·simp at hk;omega
 ·rename_i hf
  rw[WE];refine⟨by simp,?_,λk hk=>?_⟩
  ·rw[Y0] at h2⊢;rw[<-h2,List.append_assoc]
   congr 1
   simp only[expand,List.append_nil,List.replicate_succ']
   congr 1
   rcases Nat.mod_two_eq_zero_or_one l.length with e|e<;>cases f<;>simp[e,Nat.add_mod] at hf⊢
  ·cases l with
   |nil=>simp at hk
   | cons a l =>
     rw[List.cons_append,List.drop_succ_cons,List.drop_zero] at hk h3;rcases List.mem_append.1 hk with hk|hk
     ·exact h3 k (List.mem_append_left _ hk)
     ·simp at hk;omega
def copyL:Bool->List Nat->List Nat->List Nat
 |b,[],ref=>if b then ref else []
 |b,n::r,ref=>(if b then ref.take n else [])++copyL (!b) r (ref.drop n)
def sel:List Nat->List Bool->List Nat
 |x::l,f::fs=>if f then x::sel l fs else sel l fs
 |_,_=>[]
theorem z7M:∀{a b:List Nat} {fs gs:List Bool},a.length=fs.length->sel (a++b) (fs++gs)=sel a fs++sel b gs
 |[],b,[],gs,_=>rfl
 | x :: a, b, f :: fs, gs, h => by
   have h':a.length=fs.length:=by simpa using h
   rw[List.cons_append,List.cons_append,sel,sel,z7M h'];cases f<;>simp
theorem z3I:∀(l:List Nat) (b:Bool),sel l (List.replicate l.length b)=if b then l else []
 |[],b=>by cases b<;>rfl
 | x :: l, b => by
   rw[List.length_cons,List.replicate_succ,sel,z3I l b];cases b<;>rfl
theorem z4T:∀(b:Bool) (rs:List Nat) (m:Nat) (ref:List Nat),ref.length=(rs++[m]).sum->copyL b rs ref=sel ref (expand b (rs++[m]))
 | b, [], m, ref, h => by
   have hm:m=ref.length:=by simpa using h.symm
   subst hm;simp only[copyL,List.nil_append,expand,List.append_nil]
   rw[z3I]
 | b, n :: rs, m, ref, h => by
   rw[List.cons_append,List.sum_cons] at h;have hl:(ref.take n).length=n:=by rw[List.length_take];omega
   rw[copyL,List.cons_append,expand,z4T (!b) rs m (ref.drop n) (by rw[List.length_drop];omega)]
   conv=>rhs;rw[<-List.take_append_drop n ref,z7M (by rw[hl,List.length_replicate])]
   congr 1
   have:=z3I (ref.take n) b;rw[hl] at this;exact this.symm
/-! ### Rows of numbers that follow one another -/
def PL:Nat->List Nat->Nat
 |_,[]=>0
 |x,y::l=>if y=x+1 then PL y l+1 else 0
def Xl:∀(x:Nat) (l:List Nat),PL x l<=l.length
 |_,[]=>Nat.le_refl _
 | x, y :: l => by
   unfold PL;split
   ·have:=Xl y l;simp;omega
   ·exact Nat.zero_le _
theorem VX:∀(x:Nat) (l:List Nat) (i:Nat),i<PL x l->l[i]? =some (x+1+i)
 |_,[],i,h=>by simp[PL] at h
 | x, y :: l, i, h => by
   unfold PL at h;split at h
   ·rename_i e
    subst e
    cases i with
    |zero=>rfl
    |succ i=>rw[List.getElem?_cons_succ,VX (x+1) l i (by omega)];congr 1;omega
   ·omega
def Wq:∀(x:Nat) (l:List Nat) (y:Nat),l[PL x l]? =some y->y≠x+1+PL x l
 |_,[],y,h=>by simp at h
 | x, z :: l, y, h => by
   unfold PL at h⊢;split
   ·rename_i e
    rw[if_pos e,List.getElem?_cons_succ] at h;have:=Wq z l y h;omega
   ·rename_i e
    rw[if_neg e,List.getElem?_cons_zero] at h;cases h;omega
def PO (least:Nat):List Nat->List (Nat×Nat)×List Nat
 |[]=>([],[])
 | x :: l =>
   let n:=PL x l+1
   let q:=PO least (l.drop (PL x l))
   if 0<least/\least<=n then((x,n)::q.1,q.2) else(q.1,x::l.take (PL x l)++q.2)
termination_by l=>l.length
decreasing_by simp[List.length_drop];omega
def QQ (l:List (Nat×Nat)):List Nat:=l.flatMap λp=>(List.range p.2).map (p.1+·)
abbrev Ris (l:List Nat):Prop:=l.Pairwise (·<·)
def zaX (x:Nat)(l:List Nat):x::l.take (PL x l)=(List.range (PL x l+1)).map (x+·):=by
 apply List.ext_getElem?
 intro i
 have hle:=Xl x l
 cases i with
 |zero=>simp
 | succ i =>
   rw[List.getElem?_cons_succ,List.getElem?_take,List.getElem?_map];split
   ·rename_i h
    rw[VX x l i h,List.getElem?_range (by omega)];simp;omega
   ·rw[List.getElem?_eq_none (by simp;omega)];rfl
def TJ (least:Nat):∀(l:List Nat),(QQ (PO least l).1++(PO least l).2).Perm l
 |[]=>by simp[PO,QQ]
 | x :: l => by
   have ih:=TJ least (l.drop (PL x l));have hx:=zaX x l;have hc:x::l=(x::l.take (PL x l))++l.drop (PL x l):=by rw[List.cons_append,List.take_append_drop]
   rw[PO];split
   ·rw[show QQ ((x,PL x l+1)::(PO least (l.drop (PL x l))).1)=(List.range (PL x l+1)).map (x+·)++QQ (PO least (l.drop (PL x l))).1 by simp[QQ]];rw[<-hx,List.append_assoc]
    conv=>rhs;rw[hc]
    exact ih.append_left _
   ·conv=>rhs;rw[hc]
    refine List.Perm.trans ?_$ ih.append_left _;rw[<-List.append_assoc,<-List.append_assoc];exact(List.perm_append_comm).append_right _
 termination_by l=>l.length
 decreasing_by simp[List.length_drop];omega
end Go.Proofs.YtffbidffdbpcoaaGreatDoor
