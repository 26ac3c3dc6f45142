/- Merged by program. -/
import Derived.Test.YtffbidffdbpcoaaGreatDoorRows
import Derived.Test.YtffbidffdbpcoaaGreatDoorZr1
import Derived.KernelRfl
import Derived.Lib.AppendZerosOnto
import Derived.Lib.Overlaps
import Derived.Maps.RangeRun
set_option linter.all false
set_option maxRecDepth 1000000
set_option maxHeartbeats 16000000
namespace Go.Proofs.YtffbidffdbpcoaaGreatDoor
open Go Go.RowKit Go.Proofs.Tryz
set_option linter.unusedSimpArgs false
def PH {P:Program}{f:FuncId}{fn:Func}(h:P.funcs[f]? =some fn)(h2:(fn.name=="runtime.NumGoroutine")=false:=by kernel_rfl)(h3:fn.body.isNone=false:=by rfl):CF P f:=⟨fn,h,h2,h3⟩
theorem Qe:TI prog 3 (Value.int .i64 0) 1 8:=PA (by kernel_rfl)
theorem UH:TI prog 4 (Value.bool false) 1 1:=PA (by kernel_rfl)
theorem Y9:TI prog 5 (Value.int .u8 0) 1 1:=PA (by kernel_rfl)
theorem ti9:TI prog 9 (Value.string ⟨#[]⟩) 1 16:=PA (by kernel_rfl)
theorem zf7:TI prog 26 (Value.pointer none) 1 8:=PA (by kernel_rfl)
theorem z9j:TI prog 27 (Value.pointer none) 1 8:=PA (by kernel_rfl)
theorem z9T:TI prog 28 (Value.pointer none) 1 8:=PA (by kernel_rfl)
def Zn:TI prog 30 (Value.agg #[Value.pointer none,Value.pointer none,Value.pointer none,Value.pointer none,Value.int .i64 0]) 5 40:=PA (by kernel_rfl)
def z6M:TI prog 37 (Value.slice none 0 0) 1 24:=PA (by kernel_rfl)
theorem Tm:TI prog 39 (Value.int .u64 0) 1 8:=PA (by kernel_rfl)
def z3i:TI prog 44 (Value.int .i64 0) 1 8:=PA (by kernel_rfl)
theorem zf4:TI prog 54 (Value.nilFunc) 1 8:=PA (by kernel_rfl)
theorem Pc:TI prog 59 (Value.int .u32 0) 1 4:=PA (by kernel_rfl)
def z4u:TI prog 61 (Value.agg #[Value.int .u32 0,Value.int .u32 0]) 2 8:=PA (by kernel_rfl)
theorem U7:TI prog 62 (Value.slice none 0 0) 1 24:=PA (by kernel_rfl)
theorem zbM:TI prog 66 (Value.agg #[Value.int .i64 0,Value.int .i64 0]) 2 16:=PA (by kernel_rfl)
theorem zj3:TI prog 67 (Value.pointer none) 1 8:=PA (by kernel_rfl)
theorem RE:TI prog 75 (Value.agg #[Value.int .i64 0,Value.int .i64 0,Value.int .i64 0,Value.int .i64 0,Value.int .i64 0]) 5 40:=PA (by kernel_rfl)
theorem z27:TI prog 79 (Value.agg #[Value.int .i64 0,Value.int .i64 0,Value.int .i64 0,Value.int .i64 0,Value.int .i64 0,Value.int .i64 0,Value.int .i64 0]) 7 56:=PA (by kernel_rfl)
theorem z29:TI prog 83 (Value.pointer none) 1 8:=PA (by kernel_rfl)
theorem zbQ:TI prog 84 (Value.int .i64 0) 1 8:=PA (by kernel_rfl)
def zjE:TI prog 86 (Value.agg #[Value.pointer none,Value.pointer none,Value.pointer none,Value.pointer none,Value.pointer none,Value.int .i64 0,Value.int .i64 0,Value.bool false,Value.bool false]) 9 64:=PA (by kernel_rfl)
theorem z1X:TI prog 93 (Value.slice none 0 0) 1 24:=PA (by kernel_rfl)
def zkh:TI prog 95 (Value.agg #[Value.pointer none,Value.pointer none,Value.pointer none]) 3 24:=PA (by kernel_rfl)
theorem zgc:TI prog 97 (Value.map none) 1 8:=PA (by kernel_rfl)
theorem zeN:TI prog 99 (Value.agg #[Value.slice none 0 0,Value.int .i64 0,Value.int .u8 0]) 3 40:=PA (by kernel_rfl)
theorem z7x:TI prog 101 (Value.agg #[Value.int .i64 0,Value.slice none 0 0,Value.int .i64 0,Value.int .u8 0]) 4 48:=PA (by kernel_rfl)
theorem z7Y:TI prog 102 (Value.slice none 0 0) 1 24:=PA (by kernel_rfl)
def zgE:TI prog 104 (Value.agg #[Value.int .i64 0,Value.slice none 0 0,Value.int .i64 0,Value.int .u8 0,Value.int .i64 0,Value.int .i64 0,Value.map none,Value.slice none 0 0,Value.bool false,Value.int .i64 0,Value.int .i64 0]) 11 120:=PA (by kernel_rfl)
theorem ze1:TI prog 105 (Value.slice none 0 0) 1 24:=PA (by kernel_rfl)
def zih:TI prog 107 (Value.agg #[Value.int .i64 0,Value.slice none 0 0,Value.slice none 0 0,Value.bool false]) 4 64:=PA (by kernel_rfl)
theorem zdY:TI prog 108 (Value.pointer none) 1 8:=PA (by kernel_rfl)
theorem zey:TI prog 111 (Value.map none) 1 8:=PA (by kernel_rfl)
def zg4:TI prog 113 (Value.agg #[Value.pointer none,Value.pointer none,Value.pointer none,Value.map none,Value.int .i64 0,Value.int .i64 0,Value.int .i64 0,Value.int .i64 0,Value.int .i64 0,Value.int .i64 0,Value.int .i64 0,Value.bool false]) 12 96:=PA (by kernel_rfl)
theorem R4:TI prog 118 (Value.agg #[Value.int .i64 0,Value.int .i64 0]) 2 16:=PA (by kernel_rfl)
def z2j:TI prog 121 (Value.pointer none) 1 8:=PA (by kernel_rfl)
theorem TW:TI prog 134 (Value.agg #[Value.int .i64 0,Value.int .i64 0,Value.int .i64 0,Value.int .i64 0,Value.int .i64 0,Value.int .i64 0,Value.int .i64 0,Value.int .i64 0]) 8 64:=PA (by kernel_rfl)
theorem z2l:TI prog 136 (Value.nilIface) 1 16:=PA (by kernel_rfl)
theorem zdG:TI prog 137 (Value.pointer none) 1 8:=PA (by kernel_rfl)
def zhh:TI prog 139 (Value.agg #[Value.int .i64 0,Value.int .i64 0,Value.int .i64 0,Value.int .i64 0,Value.int .i64 0,Value.int .i64 0,Value.int .i64 0,Value.int .i64 0,Value.nilIface,Value.pointer none]) 10 88:=PA (by kernel_rfl)
theorem Yt:TI prog 141 (Value.agg #[Value.int .i64 0,Value.int .i64 0,Value.int .i64 0]) 3 24:=PA (by kernel_rfl)
def zfX:TI prog 143 (Value.agg #[Value.int .i64 0,Value.int .i64 0,Value.int .i64 0,Value.int .i64 0,Value.int .i64 0,Value.pointer none,Value.bool false]) 7 56:=PA (by kernel_rfl)
theorem zdR:TI prog 150 (Value.nilFunc) 1 8:=PA (by kernel_rfl)
theorem zew:TI prog 151 (Value.nilFunc) 1 8:=PA (by kernel_rfl)
def Xx:TI prog 153 (Value.agg #[Value.nilFunc,Value.nilFunc,Value.int .i64 0]) 3 24:=PA (by kernel_rfl)
def z7A:TI prog 154 (Value.agg #[Value.nilFunc,Value.nilFunc,Value.int .i64 0,Value.nilFunc,Value.nilFunc,Value.int .i64 0,Value.nilFunc,Value.nilFunc,Value.int .i64 0]) 9 72:=PA (by kernel_rfl)
def zhK:TI prog 160 (Value.agg #[Value.pointer none,Value.slice none 0 0]) 2 32:=PA (by kernel_rfl)
theorem z7y:TI prog 169 (Value.map none) 1 8:=PA (by kernel_rfl)
theorem z4F:TI prog 171 (Value.agg #[Value.slice none 0 0,Value.map none]) 2 32:=PA (by kernel_rfl)
def ziC:TI prog 173 (Value.agg #[Value.int .i64 0,Value.slice none 0 0,Value.map none,Value.slice none 0 0,Value.map none,Value.slice none 0 0,Value.map none,Value.slice none 0 0,Value.map none,Value.int .i64 0,Value.map none]) 11 152:=PA (by kernel_rfl)
theorem Xy:TI prog 179 (Value.agg #[Value.pointer none,Value.int .i64 0,Value.int .i64 0]) 3 24:=PA (by kernel_rfl)
def zdx:TI prog 181 (Value.agg #[Value.pointer none,Value.int .i64 0,Value.int .i64 0,Value.slice none 0 0,Value.int .i64 0,Value.int .i64 0,Value.int .u32 0,Value.nilFunc,Value.bool false]) 9 88:=PA (by kernel_rfl)
def zhG:TI prog 186 (Value.agg #[Value.pointer none,Value.int .i64 0,Value.int .i64 0,Value.int .i64 0,Value.int .u32 0]) 5 40:=PA (by kernel_rfl)
def z2J:TI prog 190 (Value.int .u8 0) 1 1:=PA (by kernel_rfl)
def zbr:TI prog 200 (Value.pointer none) 1 8:=PA (by kernel_rfl)
theorem z7F:TI prog 202 (Value.agg #[Value.string ⟨#[]⟩,Value.bool false]) 2 24:=PA (by kernel_rfl)
def zi4:TI prog 204 (Value.agg #[Value.string ⟨#[]⟩,Value.bool false,Value.int .i64 0]) 3 32:=PA (by kernel_rfl)
theorem z84:TI prog 213 (Value.pointer none) 1 8:=PA (by kernel_rfl)
def Vw:TI prog 215 (Value.agg #[Value.int .i64 0,Value.int .i64 0]) 2 16:=PA (by kernel_rfl)
theorem Tr:TI prog 220 (Value.agg #[Value.int .i64 0,Value.int .u64 0,Value.int .i64 0,Value.int .i64 0]) 4 32:=PA (by kernel_rfl)
def ziV:TI prog 233 (Value.agg #[Value.nilIface,Value.int .i64 0,Value.int .i64 0]) 3 32:=PA (by kernel_rfl)
def PB:TI prog 245 (Value.agg #[Value.bool false,Value.bool false,Value.int .i64 0]) 3 16:=PA (by kernel_rfl)
def QL:TI prog 252 (Value.agg #[Value.slice none 0 0,Value.int .i64 0]) 2 32:=PA (by kernel_rfl)
def zhe:TI prog 253 (Value.agg #[Value.slice none 0 0,Value.int .i64 0,Value.slice none 0 0,Value.int .i64 0,Value.slice none 0 0,Value.int .i64 0,Value.slice none 0 0,Value.int .i64 0,Value.slice none 0 0,Value.int .i64 0,Value.slice none 0 0,Value.int .i64 0,Value.slice none 0 0,Value.int .i64 0,Value.slice none 0 0,Value.int .i64 0,Value.slice none 0 0,Value.int .i64 0,Value.slice none 0 0,Value.int .i64 0,Value.slice none 0 0,Value.int .i64 0,Value.slice none 0 0,Value.int .i64 0,Value.slice none 0 0,Value.int .i64 0,Value.slice none 0 0,Value.int .i64 0,Value.slice none 0 0,Value.int .i64 0,Value.slice none 0 0,Value.int .i64 0,Value.slice none 0 0,Value.int .i64 0]) 34 544:=PA (by kernel_rfl)
theorem zez:TI prog 255 (Value.agg #[Value.slice none 0 0,Value.int .i64 0,Value.slice none 0 0,Value.int .i64 0,Value.slice none 0 0,Value.int .i64 0,Value.slice none 0 0,Value.int .i64 0,Value.slice none 0 0,Value.int .i64 0,Value.slice none 0 0,Value.int .i64 0,Value.slice none 0 0,Value.int .i64 0,Value.slice none 0 0,Value.int .i64 0,Value.slice none 0 0,Value.int .i64 0,Value.slice none 0 0,Value.int .i64 0,Value.slice none 0 0,Value.int .i64 0,Value.slice none 0 0,Value.int .i64 0,Value.slice none 0 0,Value.int .i64 0,Value.slice none 0 0,Value.int .i64 0,Value.slice none 0 0,Value.int .i64 0,Value.slice none 0 0,Value.int .i64 0,Value.slice none 0 0,Value.int .i64 0,Value.int .i64 0]) 35 552:=PA (by kernel_rfl)
def ziN:TI prog 257 (Value.agg #[Value.int .i64 0,Value.int .i64 0,Value.int .i64 0,Value.int .i64 0,Value.int .i64 0,Value.slice none 0 0,Value.int .i64 0,Value.slice none 0 0,Value.int .i64 0,Value.slice none 0 0,Value.int .i64 0,Value.slice none 0 0,Value.int .i64 0,Value.slice none 0 0,Value.int .i64 0,Value.slice none 0 0,Value.int .i64 0,Value.slice none 0 0,Value.int .i64 0,Value.slice none 0 0,Value.int .i64 0,Value.slice none 0 0,Value.int .i64 0,Value.slice none 0 0,Value.int .i64 0,Value.slice none 0 0,Value.int .i64 0,Value.slice none 0 0,Value.int .i64 0,Value.slice none 0 0,Value.int .i64 0,Value.slice none 0 0,Value.int .i64 0,Value.slice none 0 0,Value.int .i64 0,Value.slice none 0 0,Value.int .i64 0,Value.slice none 0 0,Value.int .i64 0,Value.int .i64 0,Value.pointer none,Value.int .i64 0,Value.int .i64 0]) 43 616:=PA (by kernel_rfl)
def U1:TI prog 260 (Value.agg #[Value.int .i64 0,Value.int .i64 0,Value.int .i64 0]) 3 24:=PA (by kernel_rfl)
def zhD:TI prog 267 (Value.agg #[Value.slice none 0 0,Value.int .i64 0]) 2 32:=PA (by kernel_rfl)
theorem z2g:TI prog 273 (Value.pointer none) 1 8:=PA (by kernel_rfl)
def zfN:TI prog 277 (Value.agg #[Value.int .i64 0,Value.int .u64 0,Value.int .i64 0,Value.int .i64 0,Value.nilIface]) 5 48:=PA (by kernel_rfl)
def zdH:TI prog 278 (Value.pointer none) 1 8:=PA (by kernel_rfl)
def zbs:TI prog 291 (Value.slice none 0 0) 1 24:=PA (by kernel_rfl)
theorem QJ:TI prog 294 (Value.agg #[Value.int .u8 0,Value.int .u64 0]) 2 16:=PA (by kernel_rfl)
def VA:TI prog 296 (Value.agg #[Value.int .u8 0,Value.int .u64 0,Value.int .u64 0]) 3 24:=PA (by kernel_rfl)
def zgJ:TI prog 301 (Value.agg #[Value.string ⟨#[]⟩,Value.int .i64 0]) 2 24:=PA (by kernel_rfl)
def zdD:TI prog 306 (Value.nilFunc) 1 8:=PA (by kernel_rfl)
def So:TI prog 308 (Value.agg #[Value.int .i64 0,Value.int .i64 0]) 2 16:=PA (by kernel_rfl)
def WD:TI prog 313 (Value.agg #[Value.int .i64 0,Value.string ⟨#[]⟩]) 2 24:=PA (by kernel_rfl)
def z1h:TI prog 326 (Value.agg #[Value.int .i64 0,Value.int .i64 0]) 2 16:=PA (by kernel_rfl)
def SW:TI prog 329 (Value.agg #[Value.int .u64 0,Value.int .i64 0]) 2 16:=PA (by kernel_rfl)
def Ut:TI prog 330 (Value.agg #[Value.int .u64 0,Value.int .i64 0,Value.int .u64 0,Value.int .i64 0]) 4 32:=PA (by kernel_rfl)
def zfL:TI prog 339 (Value.agg #[Value.pointer none,Value.bool false]) 2 16:=PA (by kernel_rfl)
def zg8:TI prog 353 (Value.agg #[Value.pointer none,Value.bool false]) 2 16:=PA (by kernel_rfl)
def z4N:TI prog 370 (Value.int .u64 0) 1 8:=PA (by kernel_rfl)
def z6A:Qs prog 30 1 1 1 false:=⟨_,_,_,_,_,underlying30,rfl,rfl,z9j,underlying27,rfl⟩
def zeA:Qs prog 30 2 2 1 false:=⟨_,_,_,_,_,underlying30,rfl,rfl,z9T,underlying28,rfl⟩
def zfm:Qs prog 30 3 3 1 false:=⟨_,_,_,_,_,underlying30,rfl,rfl,z9T,underlying28,rfl⟩
def zfb:Qs prog 30 4 4 1 false:=⟨_,_,_,_,_,underlying30,rfl,rfl,Qe,underlying3,rfl⟩
def zke:SP prog 30 [(0,1),(1,1),(2,1),(3,1),(4,1)]:=⟨_,underlying30,λ_=>by simp[zf7.size,z9j.size,z9T.size,Qe.size,Sem.run_bind,Sem.run_pure]⟩
def z6f:Qs prog 61 0 0 1 false:=⟨_,_,_,_,_,underlying61,rfl,rfl,Pc,underlying59,rfl⟩
def z1w:Qs prog 61 1 1 1 false:=⟨_,_,_,_,_,underlying61,rfl,rfl,Pc,underlying59,rfl⟩
def Zq:Qs prog 66 0 0 1 false:=⟨_,_,_,_,_,underlying66,rfl,rfl,Qe,underlying3,rfl⟩
def ZF:Qs prog 66 1 1 1 false:=⟨_,_,_,_,_,underlying66,rfl,rfl,Qe,underlying3,rfl⟩
def zko:SP prog 66 [(0,1),(1,1)]:=⟨_,underlying66,λ_=>by simp[Qe.size,Sem.run_bind,Sem.run_pure]⟩
def z1r:Qs prog 75 0 0 1 false:=⟨_,_,_,_,_,underlying75,rfl,rfl,Qe,underlying3,rfl⟩
def Z6:Qs prog 75 1 1 1 false:=⟨_,_,_,_,_,underlying75,rfl,rfl,Qe,underlying3,rfl⟩
def zb2:Qs prog 75 2 2 1 false:=⟨_,_,_,_,_,underlying75,rfl,rfl,Qe,underlying3,rfl⟩
def zbq:Qs prog 75 3 3 1 false:=⟨_,_,_,_,_,underlying75,rfl,rfl,Qe,underlying3,rfl⟩
def TF:Qs prog 75 4 4 1 false:=⟨_,_,_,_,_,underlying75,rfl,rfl,Qe,underlying3,rfl⟩
def zcG:SP prog 75 [(0,1),(1,1),(2,1),(3,1),(4,1)]:=⟨_,underlying75,λ_=>by simp[Qe.size,Sem.run_bind,Sem.run_pure]⟩
def zat:Qs prog 79 1 1 1 false:=⟨_,_,_,_,_,underlying79,rfl,rfl,Qe,underlying3,rfl⟩
def zar:Qs prog 79 2 2 1 false:=⟨_,_,_,_,_,underlying79,rfl,rfl,Qe,underlying3,rfl⟩
def zah:Qs prog 79 3 3 1 false:=⟨_,_,_,_,_,underlying79,rfl,rfl,Qe,underlying3,rfl⟩
def zeY:Qs prog 79 4 4 1 false:=⟨_,_,_,_,_,underlying79,rfl,rfl,Qe,underlying3,rfl⟩
def zfo:Qs prog 79 6 6 1 false:=⟨_,_,_,_,_,underlying79,rfl,rfl,Qe,underlying3,rfl⟩
def zkd:SP prog 79 [(0,1),(1,1),(2,1),(3,1),(4,1),(5,1),(6,1)]:=⟨_,underlying79,λ_=>by simp[Qe.size,Sem.run_bind,Sem.run_pure]⟩
def XL:Qs prog 86 0 0 1 false:=⟨_,_,_,_,_,underlying86,rfl,rfl,z9T,underlying28,rfl⟩
def zeX:Qs prog 86 1 1 1 false:=⟨_,_,_,_,_,underlying86,rfl,rfl,z9T,underlying28,rfl⟩
def VT:Qs prog 86 2 2 1 false:=⟨_,_,_,_,_,underlying86,rfl,rfl,z29,underlying83,rfl⟩
def Ve:Qs prog 86 3 3 1 false:=⟨_,_,_,_,_,underlying86,rfl,rfl,z29,underlying83,rfl⟩
def WC:Qs prog 86 4 4 1 false:=⟨_,_,_,_,_,underlying86,rfl,rfl,z29,underlying83,rfl⟩
def zbI:Qs prog 86 5 5 1 false:=⟨_,_,_,_,_,underlying86,rfl,rfl,Qe,underlying3,rfl⟩
def z62:Qs prog 86 6 6 1 false:=⟨_,_,_,_,_,underlying86,rfl,rfl,zbQ,underlying84,rfl⟩
def z3p:Qs prog 86 7 7 1 false:=⟨_,_,_,_,_,underlying86,rfl,rfl,UH,underlying4,rfl⟩
def zbC:Qs prog 86 8 8 1 false:=⟨_,_,_,_,_,underlying86,rfl,rfl,UH,underlying4,rfl⟩
def zjt:SP prog 86 [(0,1),(1,1),(2,1),(3,1),(4,1),(5,1),(6,1),(7,1),(8,1)]:=⟨_,underlying86,λ_=>by simp[z9T.size,Qe.size,UH.size,z29.size,zbQ.size,Sem.run_bind,Sem.run_pure]⟩
def zeQ:Qs prog 99 0 0 1 false:=⟨_,_,_,_,_,underlying99,rfl,rfl,z6M,underlying37,rfl⟩
def zeZ:Qs prog 99 1 1 1 false:=⟨_,_,_,_,_,underlying99,rfl,rfl,Qe,underlying3,rfl⟩
def zf3:Qs prog 99 2 2 1 false:=⟨_,_,_,_,_,underlying99,rfl,rfl,Y9,underlying5,rfl⟩
def z0l:Qs prog 101 0 0 1 false:=⟨_,_,_,_,_,underlying101,rfl,rfl,Qe,underlying3,rfl⟩
def zcH:Qs prog 101 1 1 3 true:=⟨_,_,_,_,_,underlying101,rfl,rfl,zeN,underlying99,rfl⟩
def zht:SP prog 101 [(0,1),(1,3)]:=⟨_,underlying101,λ_=>by simp[Qe.size,zeN.size,Sem.run_bind,Sem.run_pure]⟩
def WS:Qs prog 104 0 0 4 true:=⟨_,_,_,_,_,underlying104,rfl,rfl,z7x,underlying101,rfl⟩
def z0r:Qs prog 104 1 4 2 true:=⟨_,_,_,_,_,underlying104,rfl,rfl,zbM,underlying66,rfl⟩
def z3v:Qs prog 104 2 6 1 false:=⟨_,_,_,_,_,underlying104,rfl,rfl,zgc,underlying97,rfl⟩
def Yh:Qs prog 104 3 7 1 false:=⟨_,_,_,_,_,underlying104,rfl,rfl,z7Y,underlying102,rfl⟩
def z3z:Qs prog 104 4 8 1 false:=⟨_,_,_,_,_,underlying104,rfl,rfl,UH,underlying4,rfl⟩
def z8s:Qs prog 104 5 9 1 false:=⟨_,_,_,_,_,underlying104,rfl,rfl,Qe,underlying3,rfl⟩
def z8t:Qs prog 104 6 10 1 false:=⟨_,_,_,_,_,underlying104,rfl,rfl,Qe,underlying3,rfl⟩
def zhF:SP prog 104 [(0,4),(4,2),(6,1),(7,1),(8,1),(9,1),(10,1)]:=⟨_,underlying104,λ_=>by simp[z7x.size,z7Y.size,Qe.size,UH.size,zbM.size,zgc.size,Sem.run_bind,Sem.run_pure]⟩
def z8l:Qs prog 107 0 0 1 false:=⟨_,_,_,_,_,underlying107,rfl,rfl,Qe,underlying3,rfl⟩
def Vc:Qs prog 107 1 1 1 false:=⟨_,_,_,_,_,underlying107,rfl,rfl,ze1,underlying105,rfl⟩
def zd9:Qs prog 107 3 3 1 false:=⟨_,_,_,_,_,underlying107,rfl,rfl,UH,underlying4,rfl⟩
def zie:SP prog 107 [(0,1),(1,1),(2,1),(3,1)]:=⟨_,underlying107,λ_=>by simp[ze1.size,Qe.size,UH.size,Sem.run_bind,Sem.run_pure]⟩
def UU:Qs prog 113 0 0 1 false:=⟨_,_,_,_,_,underlying113,rfl,rfl,zf7,underlying26,rfl⟩
def z3x:Qs prog 113 1 1 1 false:=⟨_,_,_,_,_,underlying113,rfl,rfl,zj3,underlying67,rfl⟩
def z8f:Qs prog 113 2 2 1 false:=⟨_,_,_,_,_,underlying113,rfl,rfl,zdY,underlying108,rfl⟩
def Vb:Qs prog 113 3 3 1 false:=⟨_,_,_,_,_,underlying113,rfl,rfl,zey,underlying111,rfl⟩
def VJ:Qs prog 113 4 4 7 true:=⟨_,_,_,_,_,underlying113,rfl,rfl,z27,underlying79,rfl⟩
def z8q:Qs prog 113 5 11 1 false:=⟨_,_,_,_,_,underlying113,rfl,rfl,UH,underlying4,rfl⟩
def zhb:SP prog 113 [(0,1),(1,1),(2,1),(3,1),(4,7),(11,1)]:=⟨_,underlying113,λ_=>by simp[zdY.size,zey.size,zf7.size,UH.size,zj3.size,z27.size,Sem.run_bind,Sem.run_pure]⟩
def QX:Qs prog 118 0 0 1 false:=⟨_,_,_,_,_,underlying118,rfl,rfl,Qe,underlying3,rfl⟩
def R9:Qs prog 118 1 1 1 false:=⟨_,_,_,_,_,underlying118,rfl,rfl,Qe,underlying3,rfl⟩
def ziG:SP prog 118 [(0,1),(1,1)]:=⟨_,underlying118,λ_=>by simp[Qe.size,Sem.run_bind,Sem.run_pure]⟩
def Ub:Qs prog 134 0 0 1 false:=⟨_,_,_,_,_,underlying134,rfl,rfl,Qe,underlying3,rfl⟩
def z0v:Qs prog 134 1 1 1 false:=⟨_,_,_,_,_,underlying134,rfl,rfl,Qe,underlying3,rfl⟩
def YE:Qs prog 134 2 2 5 true:=⟨_,_,_,_,_,underlying134,rfl,rfl,RE,underlying75,rfl⟩
def UR:Qs prog 134 3 7 1 false:=⟨_,_,_,_,_,underlying134,rfl,rfl,Qe,underlying3,rfl⟩
def zef:SP prog 134 [(0,1),(1,1),(2,5),(7,1)]:=⟨_,underlying134,λ_=>by simp[Qe.size,RE.size,Sem.run_bind,Sem.run_pure]⟩
def VK:Qs prog 139 0 0 8 true:=⟨_,_,_,_,_,underlying139,rfl,rfl,TW,underlying134,rfl⟩
def zcb:Qs prog 139 1 8 1 false:=⟨_,_,_,_,_,underlying139,rfl,rfl,z2l,underlying136,rfl⟩
def z89:Qs prog 139 2 9 1 false:=⟨_,_,_,_,_,underlying139,rfl,rfl,zdG,underlying137,rfl⟩
def zgy:SP prog 139 [(0,8),(8,1),(9,1)]:=⟨_,underlying139,λ_=>by simp[TW.size,z2l.size,zdG.size,Sem.run_bind,Sem.run_pure]⟩
def z2P:Qs prog 141 0 0 1 false:=⟨_,_,_,_,_,underlying141,rfl,rfl,Qe,underlying3,rfl⟩
def VU:Qs prog 141 1 1 1 false:=⟨_,_,_,_,_,underlying141,rfl,rfl,Qe,underlying3,rfl⟩
def YW:Qs prog 141 2 2 1 false:=⟨_,_,_,_,_,underlying141,rfl,rfl,Qe,underlying3,rfl⟩
def zgw:SP prog 141 [(0,1),(1,1),(2,1)]:=⟨_,underlying141,λ_=>by simp[Qe.size,Sem.run_bind,Sem.run_pure]⟩
def Se:Qs prog 143 0 0 3 true:=⟨_,_,_,_,_,underlying143,rfl,rfl,Yt,underlying141,rfl⟩
def z0i:Qs prog 143 1 3 2 true:=⟨_,_,_,_,_,underlying143,rfl,rfl,R4,underlying118,rfl⟩
def WR:Qs prog 143 2 5 1 false:=⟨_,_,_,_,_,underlying143,rfl,rfl,z9j,underlying27,rfl⟩
def z8d:Qs prog 143 3 6 1 false:=⟨_,_,_,_,_,underlying143,rfl,rfl,UH,underlying4,rfl⟩
def zfQ:SP prog 143 [(0,3),(3,2),(5,1),(6,1)]:=⟨_,underlying143,λ_=>by simp[R4.size,Yt.size,z9j.size,UH.size,Sem.run_bind,Sem.run_pure]⟩
def zd7:Qs prog 153 0 0 1 false:=⟨_,_,_,_,_,underlying153,rfl,rfl,zdR,underlying150,rfl⟩
def zd8:Qs prog 153 1 1 1 false:=⟨_,_,_,_,_,underlying153,rfl,rfl,zew,underlying151,rfl⟩
def zcw:Qs prog 153 2 2 1 false:=⟨_,_,_,_,_,underlying153,rfl,rfl,zbQ,underlying84,rfl⟩
def zb6:SP prog 153 [(0,1),(1,1),(2,1)]:=⟨_,underlying153,λ_=>by simp[zdR.size,zew.size,zbQ.size,Sem.run_bind,Sem.run_pure]⟩
def z0g:Qs prog 160 1 1 1 false:=⟨_,_,_,_,_,underlying160,rfl,rfl,z1X,underlying93,rfl⟩
def Qf:Qs prog 171 0 0 1 false:=⟨_,_,_,_,_,underlying171,rfl,rfl,z6M,underlying37,rfl⟩
def YX:Qs prog 171 1 1 1 false:=⟨_,_,_,_,_,underlying171,rfl,rfl,z7y,underlying169,rfl⟩
def Sw:Qs prog 173 0 0 1 false:=⟨_,_,_,_,_,underlying173,rfl,rfl,Qe,underlying3,rfl⟩
def QB:Qs prog 173 1 1 2 true:=⟨_,_,_,_,_,underlying173,rfl,rfl,z4F,underlying171,rfl⟩
def Rl:Qs prog 173 2 3 2 true:=⟨_,_,_,_,_,underlying173,rfl,rfl,z4F,underlying171,rfl⟩
def QS:Qs prog 173 3 5 2 true:=⟨_,_,_,_,_,underlying173,rfl,rfl,z4F,underlying171,rfl⟩
def Ri:Qs prog 173 4 7 2 true:=⟨_,_,_,_,_,underlying173,rfl,rfl,z4F,underlying171,rfl⟩
def Rh:Qs prog 173 5 9 1 false:=⟨_,_,_,_,_,underlying173,rfl,rfl,Qe,underlying3,rfl⟩
def z0p:Qs prog 173 6 10 1 false:=⟨_,_,_,_,_,underlying173,rfl,rfl,z7y,underlying169,rfl⟩
def zgL:SP prog 173 [(0,1),(1,2),(3,2),(5,2),(7,2),(9,1),(10,1)]:=⟨_,underlying173,λ_=>by simp[z7y.size,z4F.size,Qe.size,Sem.run_bind,Sem.run_pure]⟩
def Va:Qs prog 179 0 0 1 false:=⟨_,_,_,_,_,underlying179,rfl,rfl,z9j,underlying27,rfl⟩
def U8:Qs prog 179 1 1 2 true:=⟨_,_,_,_,_,underlying179,rfl,rfl,R4,underlying118,rfl⟩
def zev:SP prog 179 [(0,1),(1,2)]:=⟨_,underlying179,λ_=>by simp[R4.size,z9j.size,Sem.run_bind,Sem.run_pure]⟩
def WZ:Qs prog 181 0 0 3 true:=⟨_,_,_,_,_,underlying181,rfl,rfl,Xy,underlying179,rfl⟩
def SZ:Qs prog 181 1 3 1 false:=⟨_,_,_,_,_,underlying181,rfl,rfl,z1X,underlying93,rfl⟩
def YG:Qs prog 181 2 4 1 false:=⟨_,_,_,_,_,underlying181,rfl,rfl,Qe,underlying3,rfl⟩
def z0h:Qs prog 181 3 5 1 false:=⟨_,_,_,_,_,underlying181,rfl,rfl,Qe,underlying3,rfl⟩
def z3m:Qs prog 181 4 6 1 false:=⟨_,_,_,_,_,underlying181,rfl,rfl,Pc,underlying59,rfl⟩
def z0j:Qs prog 181 5 7 1 false:=⟨_,_,_,_,_,underlying181,rfl,rfl,zf4,underlying54,rfl⟩
def YY:Qs prog 181 6 8 1 false:=⟨_,_,_,_,_,underlying181,rfl,rfl,UH,underlying4,rfl⟩
def zdE:SP prog 181 [(0,3),(3,1),(4,1),(5,1),(6,1),(7,1),(8,1)]:=⟨_,underlying181,λ_=>by simp[Xy.size,Qe.size,UH.size,zf4.size,Pc.size,z1X.size,Sem.run_bind,Sem.run_pure]⟩
def YD:Qs prog 186 0 0 3 true:=⟨_,_,_,_,_,underlying186,rfl,rfl,Xy,underlying179,rfl⟩
def z0k:Qs prog 186 1 3 1 false:=⟨_,_,_,_,_,underlying186,rfl,rfl,Qe,underlying3,rfl⟩
def zcU:Qs prog 186 2 4 1 false:=⟨_,_,_,_,_,underlying186,rfl,rfl,Pc,underlying59,rfl⟩
def ziR:SP prog 186 [(0,3),(3,1),(4,1)]:=⟨_,underlying186,λ_=>by simp[Xy.size,Qe.size,Pc.size,Sem.run_bind,Sem.run_pure]⟩
def z2Y:Qs prog 202 0 0 1 false:=⟨_,_,_,_,_,underlying202,rfl,rfl,ti9,underlying9,rfl⟩
def z3u:Qs prog 202 1 1 1 false:=⟨_,_,_,_,_,underlying202,rfl,rfl,UH,underlying4,rfl⟩
def ziw:SP prog 202 [(0,1),(1,1)]:=⟨_,underlying202,λ_=>by simp[UH.size,ti9.size,Sem.run_bind,Sem.run_pure]⟩
def VH:Qs prog 204 0 0 2 true:=⟨_,_,_,_,_,underlying204,rfl,rfl,z7F,underlying202,rfl⟩
def zcc:Qs prog 204 1 2 1 false:=⟨_,_,_,_,_,underlying204,rfl,rfl,Qe,underlying3,rfl⟩
def zhU:SP prog 204 [(0,2),(2,1)]:=⟨_,underlying204,λ_=>by simp[z7F.size,Qe.size,Sem.run_bind,Sem.run_pure]⟩
def zcX:Qs prog 215 0 0 1 false:=⟨_,_,_,_,_,underlying215,rfl,rfl,Qe,underlying3,rfl⟩
def zcy:Qs prog 215 1 1 1 false:=⟨_,_,_,_,_,underlying215,rfl,rfl,Qe,underlying3,rfl⟩
def z0b:SP prog 215 [(0,1),(1,1)]:=⟨_,underlying215,λ_=>by simp[Qe.size,Sem.run_bind,Sem.run_pure]⟩
def YT:Qs prog 220 0 0 1 false:=⟨_,_,_,_,_,underlying220,rfl,rfl,Qe,underlying3,rfl⟩
def zcp:Qs prog 220 1 1 1 false:=⟨_,_,_,_,_,underlying220,rfl,rfl,Tm,underlying39,rfl⟩
def Tp:Qs prog 220 2 2 1 false:=⟨_,_,_,_,_,underlying220,rfl,rfl,Qe,underlying3,rfl⟩
def Yn:Qs prog 220 3 3 1 false:=⟨_,_,_,_,_,underlying220,rfl,rfl,Qe,underlying3,rfl⟩
def zhW:SP prog 220 [(0,1),(1,1),(2,1),(3,1)]:=⟨_,underlying220,λ_=>by simp[Qe.size,Tm.size,Sem.run_bind,Sem.run_pure]⟩
def zcQ:Qs prog 233 0 0 1 false:=⟨_,_,_,_,_,underlying233,rfl,rfl,z2l,underlying136,rfl⟩
def zcq:Qs prog 233 1 1 1 false:=⟨_,_,_,_,_,underlying233,rfl,rfl,Qe,underlying3,rfl⟩
def z3l:Qs prog 233 2 2 1 false:=⟨_,_,_,_,_,underlying233,rfl,rfl,Qe,underlying3,rfl⟩
def zho:SP prog 233 [(0,1),(1,1),(2,1)]:=⟨_,underlying233,λ_=>by simp[z2l.size,Qe.size,Sem.run_bind,Sem.run_pure]⟩
def zct:Qs prog 245 0 0 1 false:=⟨_,_,_,_,_,underlying245,rfl,rfl,UH,underlying4,rfl⟩
def zcE:Qs prog 245 1 1 1 false:=⟨_,_,_,_,_,underlying245,rfl,rfl,UH,underlying4,rfl⟩
def z3y:Qs prog 245 2 2 1 false:=⟨_,_,_,_,_,underlying245,rfl,rfl,Qe,underlying3,rfl⟩
def W4:SP prog 245 [(0,1),(1,1),(2,1)]:=⟨_,underlying245,λ_=>by simp[Qe.size,UH.size,Sem.run_bind,Sem.run_pure]⟩
def Sz:Qs prog 252 0 0 1 false:=⟨_,_,_,_,_,underlying252,rfl,rfl,U7,underlying62,rfl⟩
def z3r:Qs prog 252 1 1 1 false:=⟨_,_,_,_,_,underlying252,rfl,rfl,Qe,underlying3,rfl⟩
def zeh:SP prog 252 [(0,1),(1,1)]:=⟨_,underlying252,λ_=>by simp[Qe.size,U7.size,Sem.run_bind,Sem.run_pure]⟩
def z7r:Qs prog 255 0 0 34 true:=⟨_,_,_,_,_,underlying255,rfl,rfl,zhe,underlying253,rfl⟩
def UW:Qs prog 255 1 34 1 false:=⟨_,_,_,_,_,underlying255,rfl,rfl,Qe,underlying3,rfl⟩
def Xd:Qs prog 257 0 0 5 true:=⟨_,_,_,_,_,underlying257,rfl,rfl,RE,underlying75,rfl⟩
def Ye:Qs prog 257 1 5 35 true:=⟨_,_,_,_,_,underlying257,rfl,rfl,zez,underlying255,rfl⟩
def z3B:Qs prog 257 2 40 1 false:=⟨_,_,_,_,_,underlying257,rfl,rfl,z84,underlying213,rfl⟩
def z3o:Qs prog 257 3 41 1 false:=⟨_,_,_,_,_,underlying257,rfl,rfl,Qe,underlying3,rfl⟩
def zcI:Qs prog 257 4 42 1 false:=⟨_,_,_,_,_,underlying257,rfl,rfl,Qe,underlying3,rfl⟩
def zjh:SP prog 257 [(0,5),(5,35),(40,1),(41,1),(42,1)]:=⟨_,underlying257,λ_=>by simp[z84.size,zez.size,Qe.size,RE.size,Sem.run_bind,Sem.run_pure]⟩
def Tj:Qs prog 260 0 0 1 false:=⟨_,_,_,_,_,underlying260,rfl,rfl,Qe,underlying3,rfl⟩
def Uf:Qs prog 260 1 1 1 false:=⟨_,_,_,_,_,underlying260,rfl,rfl,Qe,underlying3,rfl⟩
def z0C:Qs prog 260 2 2 1 false:=⟨_,_,_,_,_,underlying260,rfl,rfl,Qe,underlying3,rfl⟩
def zgk:SP prog 260 [(0,1),(1,1),(2,1)]:=⟨_,underlying260,λ_=>by simp[Qe.size,Sem.run_bind,Sem.run_pure]⟩
def Yi:Qs prog 267 0 0 1 false:=⟨_,_,_,_,_,underlying267,rfl,rfl,z1X,underlying93,rfl⟩
def Xa:Qs prog 267 1 1 1 false:=⟨_,_,_,_,_,underlying267,rfl,rfl,Qe,underlying3,rfl⟩
def zh3:SP prog 267 [(0,1),(1,1)]:=⟨_,underlying267,λ_=>by simp[Qe.size,z1X.size,Sem.run_bind,Sem.run_pure]⟩
def SC:Qs prog 277 0 0 4 true:=⟨_,_,_,_,_,underlying277,rfl,rfl,Tr,underlying220,rfl⟩
def z2O:Qs prog 277 1 4 1 false:=⟨_,_,_,_,_,underlying277,rfl,rfl,z2l,underlying136,rfl⟩
def zi3:SP prog 277 [(0,4),(4,1)]:=⟨_,underlying277,λ_=>by simp[z2l.size,Tr.size,Sem.run_bind,Sem.run_pure]⟩
def Sd:Qs prog 294 0 0 1 false:=⟨_,_,_,_,_,underlying294,rfl,rfl,Y9,underlying5,rfl⟩
def Xc:Qs prog 294 1 1 1 false:=⟨_,_,_,_,_,underlying294,rfl,rfl,Tm,underlying39,rfl⟩
def zdO:SP prog 294 [(0,1),(1,1)]:=⟨_,underlying294,λ_=>by simp[Tm.size,Y9.size,Sem.run_bind,Sem.run_pure]⟩
def z7D:Qs prog 296 0 0 2 true:=⟨_,_,_,_,_,underlying296,rfl,rfl,QJ,underlying294,rfl⟩
def z7m:Qs prog 296 1 2 1 false:=⟨_,_,_,_,_,underlying296,rfl,rfl,Tm,underlying39,rfl⟩
def zdy:SP prog 296 [(0,2),(2,1)]:=⟨_,underlying296,λ_=>by simp[QJ.size,Tm.size,Sem.run_bind,Sem.run_pure]⟩
def z3d:Qs prog 301 0 0 1 false:=⟨_,_,_,_,_,underlying301,rfl,rfl,ti9,underlying9,rfl⟩
def UZ:Qs prog 301 1 1 1 false:=⟨_,_,_,_,_,underlying301,rfl,rfl,Qe,underlying3,rfl⟩
def zgn:SP prog 301 [(0,1),(1,1)]:=⟨_,underlying301,λ_=>by simp[Qe.size,ti9.size,Sem.run_bind,Sem.run_pure]⟩
def Tw:Qs prog 308 0 0 1 false:=⟨_,_,_,_,_,underlying308,rfl,rfl,Qe,underlying3,rfl⟩
def St:Qs prog 308 1 1 1 false:=⟨_,_,_,_,_,underlying308,rfl,rfl,Qe,underlying3,rfl⟩
def zaQ:SP prog 308 [(0,1),(1,1)]:=⟨_,underlying308,λ_=>by simp[Qe.size,Sem.run_bind,Sem.run_pure]⟩
def z0B:Qs prog 313 0 0 1 false:=⟨_,_,_,_,_,underlying313,rfl,rfl,Qe,underlying3,rfl⟩
def z2N:Qs prog 313 1 1 1 false:=⟨_,_,_,_,_,underlying313,rfl,rfl,ti9,underlying9,rfl⟩
def zfM:SP prog 313 [(0,1),(1,1)]:=⟨_,underlying313,λ_=>by simp[Qe.size,ti9.size,Sem.run_bind,Sem.run_pure]⟩
def z35:Qs prog 326 0 0 1 false:=⟨_,_,_,_,_,underlying326,rfl,rfl,Qe,underlying3,rfl⟩
def z7q:Qs prog 326 1 1 1 false:=⟨_,_,_,_,_,underlying326,rfl,rfl,Qe,underlying3,rfl⟩
def zh1:SP prog 326 [(0,1),(1,1)]:=⟨_,underlying326,λ_=>by simp[Qe.size,Sem.run_bind,Sem.run_pure]⟩
def z7l:Qs prog 329 0 0 1 false:=⟨_,_,_,_,_,underlying329,rfl,rfl,Tm,underlying39,rfl⟩
def z0f:Qs prog 329 1 1 1 false:=⟨_,_,_,_,_,underlying329,rfl,rfl,Qe,underlying3,rfl⟩
def zav:SP prog 329 [(0,1),(1,1)]:=⟨_,underlying329,λ_=>by simp[Qe.size,Tm.size,Sem.run_bind,Sem.run_pure]⟩
def zcS:Qs prog 339 0 0 1 false:=⟨_,_,_,_,_,underlying339,rfl,rfl,z2g,underlying273,rfl⟩
def TP:Qs prog 339 1 1 1 false:=⟨_,_,_,_,_,underlying339,rfl,rfl,UH,underlying4,rfl⟩
def zhN:SP prog 339 [(0,1),(1,1)]:=⟨_,underlying339,λ_=>by simp[z2g.size,UH.size,Sem.run_bind,Sem.run_pure]⟩
def zcO:Qs prog 353 0 0 1 false:=⟨_,_,_,_,_,underlying353,rfl,rfl,z2g,underlying273,rfl⟩
def z0A:Qs prog 353 1 1 1 false:=⟨_,_,_,_,_,underlying353,rfl,rfl,UH,underlying4,rfl⟩
def zhB:SP prog 353 [(0,1),(1,1)]:=⟨_,underlying353,λ_=>by simp[z2g.size,UH.size,Sem.run_bind,Sem.run_pure]⟩
def cf6:=PH func6
def cf7:=PH func7
def cf8:=PH func8
def cf9:=PH func9
def zfA:=PH func10
def zg9:=PH func12
def zjC:=PH func13
def zkC:=PH func14
def zk4:=PH func16
def zka:=PH func18
def zkj:=PH func20
def zk5:=PH func21
def zkm:=PH func22
def zfJ:=PH func23
def zfT:=PH func24
def zhR:=PH func25
def zku:=PH func26
def zk0:=PH func27
def zkl:=PH func28
def z6W:=PH func30
def ziW:=PH func31
def zeV:=PH func32
def zju:=PH func33
def zf0:=PH func34
def zgW:=PH func35
def zkA:=PH func36
def zk8:=PH func37
def zjH:=PH func40
def zgS:=PH func44
def zjO:=PH func45
def zkn:=PH func46
def zjS:=PH func47
def zjT:=PH func48
def z3J:=PH func49
def zg0:=PH func50
def zjx:=PH func51
def zkf:=PH func52
def zjY:=PH func53
def zkH:=PH func54
def zjk:=PH func55
def zib:=PH func56
def zgx:=PH func57
def zjR:=PH func58
def zcL:=PH func59
def zji:=PH func60
def zfu:=PH func61
def zft:=PH func62
def zjW:=PH func63
def zkc:=PH func64
def zhZ:=PH func65
def zd1:=PH func66
def z2X:=PH func67
def zcj:=PH func68
def zjw:=PH func69
def zjs:=PH func70
def ziA:=PH func72
def zkv:=PH func73
def zky:=PH func74
def zjr:=PH func75
def zk6:=PH func76
def zeK:=PH func77
def zkG:=PH func78
def ziM:=PH func79
def zh0:=PH func80
def zfn:=PH func81
def zfx:=PH func82
def zgb:=PH func83
def zjJ:=PH func84
def zim:=PH func85
def zgH:=PH func86
def zi9:=PH func87
def ziJ:=PH func88
def zjN:=PH func89
def zhi:=PH func90
def zjn:=PH func91
def zjP:=PH func92
def zkD:=PH func97
def zhY:=PH func98
def z9h:=PH func99
def zhX:=PH func100
def zgN:=PH func101
def zaS:=PH func102
def XD:=PH func103
def zj4:=PH func104
def zgo:=PH func105
def zhv:=PH func106
def zen:=PH func107
def ze7:=PH func108
def zjf:=PH func109
def zfW:=PH func110
def zh5:=PH func111
def zgZ:=PH func112
def zfS:=PH func113
def zgT:=PH func114
def ziZ:=PH func115
def zbl:=PH func116
def z1o:=PH func117
def WE:=PH func118
def z7E:=PH func119
def zhJ:=PH func120
def zac:=PH func121
def z2n:=PH func122
def ze8:=PH func123
def zet:=PH func124
def z3Y:=PH func125
def ziK:=PH func126
def zhL:=PH func127
def zha:=PH func128
def zhM:=PH func129
def zjj:=PH func130
def zix:=PH func131
def zh7:=PH func132
def zh6:=PH func133
def ziU:=PH func134
def zgI:=PH func137
def zb3:=PH func139
def ziO:=PH func140
def zgp:=PH func141
def zh9:=PH func143
def zgO:=PH func144
def zfP:=PH func145
def zei:=PH func147
def z4L:=PH func148
def z14:=PH func149
def ziE:=PH func150
def z8i:=PH func151
def zds:=PH func152
def zid:=PH func153
def ziD:=PH func154
def zgm:=PH func155
def z2B:=PH func156
def ziz:=PH func157
def z8j:=PH func158
def z05:=PH func159
def z4q:=PH func160
def ziQ:=PH func161
def z7i:=PH func162
def zee:=PH func163
def zdw:=PH func164
def XC:=PH func165
def SU:=PH func166
def zga:=PH func167
def zj9:=PH func168
def zi1:=PH func170
def zfV:=PH func171
def Tq:=PH func172
def Ym:=PH func173
def ze6:=PH func174
def z1B:=PH func175
def zbJ:=PH func176
def zhq:=PH func177
def ze9:=PH func178
def ze4:=PH func179
def zio:=PH func180
def z44:=PH func181
def zfZ:=PH func182
def ze3:=PH func183
def zdU:=PH func184
def zgB:=PH func185
def zj8:=PH func186
def zi5:=PH func187
def zg3:=PH func188
def zdZ:=PH func189
def zdW:=PH func190
def zgf:=PH func191
def zit:=PH func192
def ziP:=PH func193
def zea:=PH func194
def zik:=PH func195
def ziH:=PH func196
def Z1:=PH func197
def zhx:=PH func198
def zhE:=PH func199
def ziY:=PH func200
def zdJ:=PH func201
def z7M:=PH func202
def z3P:=PH func203
def Yl:=PH func204
def zgi:=PH func205
def z4b:=PH func206
def zic:=PH func207
def zek:=PH func208
def zis:=PH func209
def zdv:=PH func210
def zdB:=PH func211
def zj0:=PH func212
def zdM:=PH func213
def zgh:=PH func214
def zir:=PH func215
def zaN:=PH func216
def zgK:=PH func217
def zh8:=PH func218
def z4t:=PH func219
def zel:=PH func220
def zfO:=PH func221
def zdP:=PH func222
def zaU:=PH func223
def zj5:=PH func224
def zgg:=PH func225
def zhc:=PH func226
def ziF:=PH func227
def zje:=PH func228
def ziX:=PH func229
def zgQ:=PH func230
def zhk:=PH func231
def z2E:=PH func232
def ze5:=PH func233
def zaR:=PH func234
def zem:=PH func235
def zia:=PH func236
def zhC:=PH func237
def zec:=PH func238
def zbg:=PH func239
def ziL:=PH func240
def z83:=PH func241
def zgs:=PH func242
def zhf:=PH func243
def zgU:=PH func244
def zgX:=PH func245
def zgu:=PH func246
def zhn:=PH func247
def zgF:=PH func248
def W8:=PH func249
def zhH:=PH func250
def zij:=PH func251
def zdN:=PH func253
def zg5:=PH func254
def zfU:=PH func255
def zgd:=PH func257
def ziy:=PH func258
def zbW:=PH func259
def zhP:=PH func279
def zh4:=PH func280
def zgz:=PH func282
def zfY:=PH func283
def wtr (ops:List Oper)(i:Nat):List Nat:=(List.range ops.length).foldl (λa j=>match ops[j]? with|some o=>if o.after.any (λx=>Region.binds .any x&&(x.on==i ||a.contains x.on)) then a++[j] else a|none=>a) []
section
variable {D:RC}{l:List Oper}{e:Env}{w w':World}{d:Nat}{op:Op}{ty:TypeId}{pos:String}{aft:Array Edge}{g:Option (Nat×Bool)}{v:Value}
def qV (hy:Y D.C.P e ⟨some d,op,ty,pos,aft,g⟩ v w w')(h:RL D l ((d,v)::e) w')(ho:Sg D e g true=true:=by exact rfl)(hd:Nat.blt d D.C.n=true:=by exact rfl):RL D (⟨some d,op,ty,pos,aft,g⟩::l) e w:=Vd ho hd hy h
theorem qS (h:RL D l ((d,undef)::e) w)(ho:Sg D e g false=true:=by exact rfl)(hd:Nat.blt d D.C.n=true:=by exact rfl):RL D (⟨some d,op,ty,pos,aft,g⟩::l) e w:=zhI ho hd h
theorem OT {x:Operand}(hx:look e x=some v)(h:RL D l ((d,v)::e) w)(ho:Sg D e g true=true:=by exact rfl)(hd:Nat.blt d D.C.n=true:=by exact rfl):RL D (⟨some d,.move x,ty,pos,aft,g⟩::l) e w:=Vd ho hd (Xr hx) h
theorem SH {x:Operand}(hx:look e x=some v)(h:RL D l ((d,v)::e) w)(ho:Sg D e g true=true:=by exact rfl)(hd:Nat.blt d D.C.n=true:=by exact rfl):RL D (⟨some d,.assign x,ty,pos,aft,g⟩::l) e w:=Vd ho hd (Rv hx) h
theorem Q4 {x y:Operand}{t t':TypeId}{a b:Int}(h0:(look e x,look e y)=(some (I a),some (I b)))(h:RL D l ((d,I (a+b))::e) w)(hb:JIq (a+b):=by omega)(ho:Sg D e g true=true:=by exact rfl)(hd:Nat.blt d D.C.n=true:=by exact rfl):RL D (⟨some d,.binOp .add t x y t',ty,pos,aft,g⟩::l) e w:=Vd ho hd (UN (congrArg Prod.fst h0) (congrArg Prod.snd h0) hb) h
theorem Pb {f:FuncId}{vs:List Value}{S:Value->World->Prop}{ts:Array TypeId}{args:List Operand}(hf:CF D.C.P f)(ha:looks e args=some vs)(hc:Ps D.C.P f vs w S)(h:∀v w',S v w'->RL D l ((d,v)::e) w')(ho:Sg D e g true=true:=by exact rfl)(hd:Nat.blt d D.C.n=true:=by exact rfl):RL D (⟨some d,.call ⟨.value (.func f),args.toArray,ts⟩,ty,pos,aft,g⟩::l) e w:=Qw ho hd (yc hf ha) hc h
def RP {p:Prop}[hp:Decidable p](hr:RL D l ((d,.bool true)::e) w)(h:p:=by first|rfl|assumption|omega|decide):RL D l ((d,.bool (decide p))::e) w:=zgP h hr
def PO {p:Prop}[hp:Decidable p](hr:RL D l ((d,.bool false)::e) w)(h:¬p:=by first|exact λh=>h O|assumption|omega):RL D l ((d,.bool (decide p))::e) w:=zeC h hr
theorem QV {x y:Operand}{t t':TypeId}{k:IntKind}{a b:Int}(h0:(look e x,look e y)=(some (.int k a),some (.int k b)))(h:RL D l ((d,.bool (decide (a<b)))::e) w)(ho:Sg D e g true=true:=by exact rfl)(hd:Nat.blt d D.C.n=true:=by exact rfl):RL D (⟨some d,.binOp .lss t x y t',ty,pos,aft,g⟩::l) e w:=Vd ho hd (ylt (congrArg Prod.fst h0) (congrArg Prod.snd h0)) h
theorem zle {x y:Operand}{t t':TypeId}{k:IntKind}{a b:Int}(h0:(look e x,look e y)=(some (.int k a),some (.int k b)))(h:RL D l ((d,.bool (decide (a<=b)))::e) w)(ho:Sg D e g true=true:=by exact rfl)(hd:Nat.blt d D.C.n=true:=by exact rfl):RL D (⟨some d,.binOp .leq t x y t',ty,pos,aft,g⟩::l) e w:=Vd ho hd (Z3 (congrArg Prod.fst h0) (congrArg Prod.snd h0)) h
theorem QD {x y:Operand}{t t':TypeId}{k:IntKind}{a b:Int}(h0:(look e x,look e y)=(some (.int k a),some (.int k b)))(h:RL D l ((d,.bool (decide (b<a)))::e) w)(ho:Sg D e g true=true:=by exact rfl)(hd:Nat.blt d D.C.n=true:=by exact rfl):RL D (⟨some d,.binOp .gtr t x y t',ty,pos,aft,g⟩::l) e w:=Vd ho hd (Y7 (congrArg Prod.fst h0) (congrArg Prod.snd h0)) h
theorem Uh {x y:Operand}{t t':TypeId}{k:IntKind}{a b:Int}(h0:(look e x,look e y)=(some (.int k a),some (.int k b)))(h:RL D l ((d,.bool (decide (b<=a)))::e) w)(ho:Sg D e g true=true:=by exact rfl)(hd:Nat.blt d D.C.n=true:=by exact rfl):RL D (⟨some d,.binOp .geq t x y t',ty,pos,aft,g⟩::l) e w:=Vd ho hd (yge (congrArg Prod.fst h0) (congrArg Prod.snd h0)) h
theorem Rk {x y:Operand}{t t':TypeId}{k:IntKind}{a b:Int}(h0:(look e x,look e y)=(some (.int k a),some (.int k b)))(h:RL D l ((d,.bool (decide (a=b)))::e) w)(ho:Sg D e g true=true:=by exact rfl)(hd:Nat.blt d D.C.n=true:=by exact rfl):RL D (⟨some d,.binOp .eql t x y t',ty,pos,aft,g⟩::l) e w:=Vd ho hd (yeq (congrArg Prod.fst h0) (congrArg Prod.snd h0)) h
theorem QF {x y:Operand}{t t':TypeId}{k:IntKind}{a b:Int}(h0:(look e x,look e y)=(some (.int k a),some (.int k b)))(h:RL D l ((d,.bool (decide (a≠b)))::e) w)(ho:Sg D e g true=true:=by exact rfl)(hd:Nat.blt d D.C.n=true:=by exact rfl):RL D (⟨some d,.binOp .neq t x y t',ty,pos,aft,g⟩::l) e w:=Vd ho hd (yne (congrArg Prod.fst h0) (congrArg Prod.snd h0)) h
theorem Ra {c x y:Operand}(h0:(look e c,look e x)=(some (.bool true),some v))(h:RL D l ((d,v)::e) w)(ho:Sg D e g true=true:=by exact rfl)(hd:Nat.blt d D.C.n=true:=by exact rfl):RL D (⟨some d,.pick c x y,ty,pos,aft,g⟩::l) e w:=Vd ho hd (UG (congrArg Prod.fst h0) (congrArg Prod.snd h0)) h
theorem PT {c x y:Operand}(h0:(look e c,look e y)=(some (.bool false),some v))(h:RL D l ((d,v)::e) w)(ho:Sg D e g true=true:=by exact rfl)(hd:Nat.blt d D.C.n=true:=by exact rfl):RL D (⟨some d,.pick c x y,ty,pos,aft,g⟩::l) e w:=Vd ho hd (U6 (congrArg Prod.fst h0) (congrArg Prod.snd h0)) h
theorem zex {x:Operand}{vs:Array Value}{i:Nat}(h0:(look e x,vs[i]?)=(some (.tuple vs),some v))(h:RL D l ((d,v)::e) w)(ho:Sg D e g true=true:=by exact rfl)(hd:Nat.blt d D.C.n=true:=by exact rfl):RL D (⟨some d,.extract x i,ty,pos,aft,g⟩::l) e w:=Vd ho hd (Ry (congrArg Prod.fst h0) (congrArg Prod.snd h0)) h
theorem P4 {t:TypeId}{i off n b m:Nat}{agg:Bool}{x:Operand}(hf:Qs D.C.P t i off (n+1) agg)(hx:look e x=some (ptr b m))(h:RL D l ((d,ptr b (m+off))::e) w)(ho:Sg D e g true=true:=by exact rfl)(hd:Nat.blt d D.C.n=true:=by exact rfl):RL D (⟨some d,.fieldAddr t x i,ty,pos,aft,g⟩::l) e w:=Vd ho hd (Px hf hx) h
theorem RO {t el:TypeId}{x:Operand}{a:Option Addr}{len cap:Nat}(ht:D.C.P.underlying t=some (.slice el))(hx:look e x=some (.slice a len cap))(h:RL D l ((d,I (len:Int))::e) w)(ho:Sg D e g true=true:=by exact rfl)(hd:Nat.blt d D.C.n=true:=by exact rfl):RL D (⟨some d,.call ⟨.builtin .len,#[x],#[t]⟩,ty,pos,aft,g⟩::l) e w:=Vd ho hd (SI ht hx) h
theorem Rt {x y:Operand}{t t':TypeId}{a b:Int}(h0:(look e x,look e y)=(some (I a),some (I b)))(h:RL D l ((d,I (a-b))::e) w)(hb:JIq (a-b):=by omega)(ho:Sg D e g true=true:=by exact rfl)(hd:Nat.blt d D.C.n=true:=by exact rfl):RL D (⟨some d,.binOp .sub t x y t',ty,pos,aft,g⟩::l) e w:=Vd ho hd (XG (congrArg Prod.fst h0) (congrArg Prod.snd h0) hb) h
theorem P3 {D:RC}{x:Operand}(hx:look e x=some v)(h:Pu D.C D.k ((d,v)::e) w)(ho:Sg D e g true=true:=by exact rfl)(hd:Nat.blt d D.C.n=true:=by exact rfl):RL D [⟨some d,.assign x,ty,pos,aft,g⟩] e w:=Vd ho hd (Rv hx) (OJ h)
theorem Pl {x y:Operand}{d':Nat}{v':Value}{ty':TypeId}{pos':String}{aft':Array Edge}{g':Option (Nat×Bool)}(h0:(look e x,look ((d,v)::e) y)=(some v,some v'))(h:RL D l ((d',v')::(d,v)::e) w)(ho:Sg D e g true=true:=by exact rfl)(hd:Nat.blt d D.C.n=true:=by exact rfl)(ho':Sg D ((d,v)::e) g' true=true:=by exact rfl)(hd':Nat.blt d' D.C.n=true:=by exact rfl):RL D (⟨some d,.move x,ty,pos,aft,g⟩::⟨some d',.move y,ty',pos',aft',g'⟩::l) e w:=Vd ho hd (Xr (congrArg Prod.fst h0)) (Vd ho' hd' (Xr (congrArg Prod.snd h0)) h)
def z65:Value->Bool
  | .pointer (some _)=>true
  | .func (.func _) _ _=>true
  |_=>false
theorem Qd {P:Program}{d:Option Nat}{x:Operand}(hx:look e x=some v)(hv:z65 v=true:=by exact rfl):Y P e ⟨d,.nilCheck x,ty,pos,aft,g⟩ v w w:=by
  unfold z65 at hv
  split at hv
  · exact ync hx
  · exact zkp hx
  · cases hv
theorem Pw {x:Operand}(hx:look e x=some v)(h:RL D l ((d,v)::e) w)(hv:z65 v=true:=by exact rfl)(ho:Sg D e g true=true:=by exact rfl)(hd:Nat.blt d D.C.n=true:=by exact rfl):RL D (⟨some d,.nilCheck x,ty,pos,aft,g⟩::l) e w:=Vd ho hd (Qd hx hv) h
end
section
variable {C:Cx}{k:List Item}{e e':Env}{w:World}{id:Nat}{ops:List Oper}{y:Code}
def qN {x:Code}(ho:RT C.n ops=true)(h:RL ⟨C,ops,.code x::k,ho⟩ ops e w):Pu C (.code (.seq (.region id ops.toArray false) x)::k) e w:=An (OQ ho h)
def RN {α:Type}{c:Code}(x0:α)(E:α->Env)(I:α->World->Prop)(μ:α->Nat)(hI:I x0 w)(round:∀x w,I x w->(∀y w',I y w'->μ y<μ x->Pu C (.inLoop c::k) (E y) w')->Pu C (.code c:: .inLoop c::k) (E x) w)(hE:Sub (E x0) e:=by repeat (first|exact Sub.nil|refine Sub.cons O ?_)):Pu C (.code (.loop c)::k) e w:=zbD x0 E I μ hE hI round
def Pu.qb (h:Pu C k e w)(hs:Sub e e':=by repeat (first|exact Sub.nil|refine Sub.cons O ?_)):Pu C k e' w:=h.sub hs
end
section
variable {k:List Item}{e:Env}{w:World}{id:Nat}{ops:List Oper}{x:Code}
def qM {C:Cx}{ops0:List Oper}{h0:RT C.n ops0=true}(ho:RT C.n ops=true)(h:RL ⟨C,ops,.code x::k,ho⟩ ops e w):RL ⟨C,ops0,.code (.seq (.region id ops.toArray false) x)::k,h0⟩ [] e w:=OJ (An (OQ ho h))
end
section
variable {D:RC}{late:List Nat}{S:World->Prop}{e:Env}{w w':World}{d fuel:Nat}{op:Op}{ty:TypeId}{pos:String}{aft:Array Edge}{g:Option (Nat×Bool)}{listed:Array Bool}{v:Value}
def qT (i:Nat)(hi:D.ops[i]? =some ⟨some d,op,ty,pos,aft,g⟩)(hy:∀w,S w->Y D.C.P e ⟨some d,op,ty,pos,aft,g⟩ v w w)(hS:S w)(h:RH D S fuel (listed.setIfInBounds i true) ((d,v)::e) w)
    (hf:SB D.ops listed i=true:=by kernel_rfl) (ho:Sg D e g true=true:=by exact rfl) (hd:Nat.blt d D.C.n=true:=by exact rfl):RH D S (fuel+1) listed e w:=za8 hi hf ho hd hy hS h
def OM (i:Nat)(hi:D.ops[i]? =some ⟨some d,op,ty,pos,aft,g⟩)(hy:∀{w},Y D.C.P e ⟨some d,op,ty,pos,aft,g⟩ v w w)(hS:S w)(h:RH D S fuel (listed.setIfInBounds i true) ((d,v)::e) w)
    (hf:SB D.ops listed i=true:=by kernel_rfl) (ho:Sg D e g true=true:=by exact rfl) (hd:Nat.blt d D.C.n=true:=by exact rfl):RH D S (fuel+1) listed e w:=za8 hi hf ho hd (λ_ _=>hy) hS h
def TN {p:Prop}[hp:Decidable p](hr:RH D S fuel listed ((d,.bool true)::e) w)(h:p:=by first|rfl|assumption|omega|decide):RH D S fuel listed ((d,.bool (decide p))::e) w:=zhr h hr
def TC {p:Prop}[hp:Decidable p](hr:RH D S fuel listed ((d,.bool false)::e) w)(h:¬p:=by first|exact λh=>h O|assumption|omega):RH D S fuel listed ((d,.bool (decide p))::e) w:=zeI h hr
theorem Ty {late:List Nat}(rs:List Nat)(h:RH D (λ_=>True) fuel listed e w)(hr:RQ D.ops listed rs=true:=by kernel_rfl)(hl:ze0 rs late=true:=by kernel_rfl):RHL D late S fuel listed e w:=zii rs hr hl h
def P8 {x:Operand}(i:Nat)(hi:D.ops[i]? =some ⟨some d,.move x,ty,pos,aft,g⟩)(hx:look e x=some v)(hS:S w)(h:RH D S fuel (listed.setIfInBounds i true) ((d,v)::e) w)
    (hf:SB D.ops listed i=true:=by kernel_rfl) (ho:Sg D e g true=true:=by exact rfl) (hd:Nat.blt d D.C.n=true:=by exact rfl):RH D S (fuel+1) listed e w:=za8 hi hf ho hd (λ_ _=>Xr hx) hS h
def qJ (i:Nat)(hi:D.ops[i]? =some ⟨some d,op,ty,pos,aft,g⟩)(hS:S w)(h:RH D S fuel (listed.setIfInBounds i true) ((d,undef)::e) w)
    (hf:SB D.ops listed i=true:=by kernel_rfl) (ho:Sg D e g false=true:=by exact rfl) (hd:Nat.blt d D.C.n=true:=by exact rfl):RH D S (fuel+1) listed e w:=zjg hi hf ho hd hS h
def qO (i:Nat)(h:Nx D S fuel listed e w i)(hr:RQ D.ops listed [i]=true:=by kernel_rfl):RH D S (fuel+1) listed e w:=zj1 hr h
def S1 {f:FuncId}{vs:List Value}{T:Value->World->Prop}{ts:Array TypeId}{args:List Operand}(i:Nat)(hi:D.ops[i]? =some ⟨some d,.call ⟨.value (.func f),args.toArray,ts⟩,ty,pos,aft,g⟩)(hf:CF D.C.P f)(ha:looks e args=some vs)(hc:Ps D.C.P f vs w T)(h:∀v w',T v w'->S w'/\RH D S fuel (listed.setIfInBounds i true) ((d,v)::e) w')
    (hr:RQ D.ops listed [i]=true:=by kernel_rfl) (ho:Sg D e g true=true:=by exact rfl) (hd:Nat.blt d D.C.n=true:=by exact rfl):RH D S (fuel+1) listed e w:=zj1 hr (W7 hi ho hd (yc hf ha) hc h)
theorem qE (h:Pu D.C D.k e w)(hr:RQ D.ops listed []=true:=by kernel_rfl):RH D S fuel listed e w:=zjq hr h
def qL (i:Nat)(hi:D.ops[i]? =some ⟨some d,op,ty,pos,aft,g⟩)(hy:∀w,S w->Y D.C.P e ⟨some d,op,ty,pos,aft,g⟩ v w w)(hS:S w)(h:RHL D late S fuel (listed.setIfInBounds i true) ((d,v)::e) w)
    (hf:(SB D.ops listed i&&waits D.ops listed late (wtr D.ops i) i)=true:=by kernel_rfl) (ho:Sg D e g true=true:=by exact rfl) (hd:Nat.blt d D.C.n=true:=by exact rfl):RHL D late S (fuel+1) listed e w:=z68 _ hi hf ho hd hy hS h
def Pr (i:Nat)(hi:D.ops[i]? =some ⟨some d,op,ty,pos,aft,g⟩)(hy:∀{w},Y D.C.P e ⟨some d,op,ty,pos,aft,g⟩ v w w)(hS:S w)(h:RHL D late S fuel (listed.setIfInBounds i true) ((d,v)::e) w)
    (hf:(SB D.ops listed i&&waits D.ops listed late (wtr D.ops i) i)=true:=by kernel_rfl) (ho:Sg D e g true=true:=by exact rfl) (hd:Nat.blt d D.C.n=true:=by exact rfl):RHL D late S (fuel+1) listed e w:=z68 _ hi hf ho hd (λ_ _=>hy) hS h
def PW {x:Operand}(i:Nat)(hi:D.ops[i]? =some ⟨some d,.move x,ty,pos,aft,g⟩)(hx:look e x=some v)(hS:S w)(h:RHL D late S fuel (listed.setIfInBounds i true) ((d,v)::e) w)
    (hf:(SB D.ops listed i&&waits D.ops listed late (wtr D.ops i) i)=true:=by kernel_rfl) (ho:Sg D e g true=true:=by exact rfl) (hd:Nat.blt d D.C.n=true:=by exact rfl):RHL D late S (fuel+1) listed e w:=z68 _ hi hf ho hd (λ_ _=>Xr hx) hS h
end
section
variable {C:Cx}{k:List Item}{e:Env}{w:World}{id:Nat}{ops ops0 l:List Oper}{y y2:Code}{d d':Nat}{op op':Op}{ty ty':TypeId}{pos pos':String}{aft aft':Array Edge}{g g':Option (Nat×Bool)}{v v':Value}{x x':Operand}
theorem Pt (h0:(RT C.n (⟨some d,.move x,ty,pos,aft,g⟩::l),look e x)=(true,some v))(h:RL ⟨C,⟨some d,.move x,ty,pos,aft,g⟩::l,.code y::k,congrArg Prod.fst h0⟩ l ((d,v)::e) w)(ho:Sg ⟨C,⟨some d,.move x,ty,pos,aft,g⟩::l,.code y::k,congrArg Prod.fst h0⟩ e g true=true:=by exact rfl)(hd:Nat.blt d C.n=true:=by exact rfl):Pu C (.code (.seq (.region id (⟨some d,.move x,ty,pos,aft,g⟩::l).toArray false) y)::k) e w:=qN (congrArg Prod.fst h0) (OT (congrArg Prod.snd h0) h ho hd)
theorem QW {h1:RT C.n ops0=true}(h0:(look e x,RT C.n ops)=(some v,true))(h:RL ⟨C,ops,.code y::k,congrArg Prod.snd h0⟩ ops ((d,v)::e) w)(ho:Sg ⟨C,ops0,.code (.seq (.region id ops.toArray false) y)::k,h1⟩ e g true=true:=by exact rfl)(hd:Nat.blt d C.n=true:=by exact rfl):RL ⟨C,ops0,.code (.seq (.region id ops.toArray false) y)::k,h1⟩ [⟨some d,.assign x,ty,pos,aft,g⟩] e w:=SH (congrArg Prod.fst h0) (qM (congrArg Prod.snd h0) h) ho hd
theorem QI (h0:((RT C.n (⟨some d,.move x,ty,pos,aft,g⟩::⟨some d',.move x',ty',pos',aft',g'⟩::l),look e x),look ((d,v)::e) x')=((true,some v),some v'))(h:RL ⟨C,⟨some d,.move x,ty,pos,aft,g⟩::⟨some d',.move x',ty',pos',aft',g'⟩::l,.code y::k,congrArg (λz=>z.1.1) h0⟩ l ((d',v')::(d,v)::e) w)(ho:Sg ⟨C,⟨some d,.move x,ty,pos,aft,g⟩::⟨some d',.move x',ty',pos',aft',g'⟩::l,.code y::k,congrArg (λz=>z.1.1) h0⟩ e g true=true:=by exact rfl)(hd:Nat.blt d C.n=true:=by exact rfl)(ho':Sg ⟨C,⟨some d,.move x,ty,pos,aft,g⟩::⟨some d',.move x',ty',pos',aft',g'⟩::l,.code y::k,congrArg (λz=>z.1.1) h0⟩ ((d,v)::e) g' true=true:=by exact rfl)(hd':Nat.blt d' C.n=true:=by exact rfl):Pu C (.code (.seq (.region id (⟨some d,.move x,ty,pos,aft,g⟩::⟨some d',.move x',ty',pos',aft',g'⟩::l).toArray false) y)::k) e w:=qN (congrArg (λz=>z.1.1) h0) (OT (congrArg (λz=>z.1.2) h0) (OT (congrArg Prod.snd h0) h ho' hd') ho hd)
theorem Qr {D:RC}(h0:(look e x,look ((d,v)::e) x')=(some v,some v'))(h:Pu D.C D.k ((d',v')::(d,v)::e) w)(ho:Sg D e g true=true:=by exact rfl)(hd:Nat.blt d D.C.n=true:=by exact rfl)(ho':Sg D ((d,v)::e) g' true=true:=by exact rfl)(hd':Nat.blt d' D.C.n=true:=by exact rfl):RL D [⟨some d,.assign x,ty,pos,aft,g⟩,⟨some d',.assign x',ty',pos',aft',g'⟩] e w:=SH (congrArg Prod.fst h0) (P3 (congrArg Prod.snd h0) h ho' hd') ho hd
theorem SM {D:RC}{vs vs':Array Value}{i i':Nat}(h0:((look e x,vs[i]?),(look ((d,v)::e) x',vs'[i']?))=((some (.tuple vs),some v),(some (.tuple vs'),some v')))(h:RL D l ((d',v')::(d,v)::e) w)(ho:Sg D e g true=true:=by exact rfl)(hd:Nat.blt d D.C.n=true:=by exact rfl)(ho':Sg D ((d,v)::e) g' true=true:=by exact rfl)(hd':Nat.blt d' D.C.n=true:=by exact rfl):RL D (⟨some d,.extract x i,ty,pos,aft,g⟩::⟨some d',.extract x' i',ty',pos',aft',g'⟩::l) e w:=zex (congrArg Prod.fst h0) (zex (congrArg Prod.snd h0) h ho' hd') ho hd
theorem PR (h0:(RT C.n (⟨some d,.move x,ty,pos,aft,g⟩::l),look e x)=(true,some v))(h:RL ⟨C,⟨some d,.move x,ty,pos,aft,g⟩::l,.code y:: .code y2::k,congrArg Prod.fst h0⟩ l ((d,v)::e) w)(ho:Sg ⟨C,⟨some d,.move x,ty,pos,aft,g⟩::l,.code y:: .code y2::k,congrArg Prod.fst h0⟩ e g true=true:=by exact rfl)(hd:Nat.blt d C.n=true:=by exact rfl):Pu C (.code (.seq (.seq (.region id (⟨some d,.move x,ty,pos,aft,g⟩::l).toArray false) y) y2)::k) e w:=An (Pt h0 h ho hd)
theorem QY {D:RC}(h:RL D l ((d',undef)::(d,undef)::e) w)(ho:Sg D e g false=true:=by exact rfl)(hd:Nat.blt d D.C.n=true:=by exact rfl)(ho':Sg D ((d,undef)::e) g' false=true:=by exact rfl)(hd':Nat.blt d' D.C.n=true:=by exact rfl):RL D (⟨some d,op,ty,pos,aft,g⟩::⟨some d',op',ty',pos',aft',g'⟩::l) e w:=qS (qS h ho' hd') ho hd
def SO {c:Operand}(hc:look e c=some (.bool false))(h:Pu C k e w):Pu C (.code (.cond c y .skip)::k) e w:=OR hc (OK h)
theorem QN (h0:(RT C.n [⟨some d,.assign x,ty,pos,aft,g⟩],look e x)=(true,some v))(h:Pu C (.code y::k) ((d,v)::e) w)(ho:Sg ⟨C,[⟨some d,.assign x,ty,pos,aft,g⟩],.code y::k,congrArg Prod.fst h0⟩ e g true=true:=by exact rfl)(hd:Nat.blt d C.n=true:=by exact rfl):Pu C (.code (.seq (.region id ([⟨some d,.assign x,ty,pos,aft,g⟩]:List Oper).toArray false) y)::k) e w:=qN (congrArg Prod.fst h0) (P3 (congrArg Prod.snd h0) h ho hd)
theorem R3 {h1:RT C.n ops0=true}(h0:((look e x',RT C.n (⟨some d,.move x,ty,pos,aft,g⟩::l)),look ((d',v')::e) x)=((some v',true),some v))(h:RL ⟨C,⟨some d,.move x,ty,pos,aft,g⟩::l,.code y::k,congrArg (λz=>z.1.2) h0⟩ l ((d,v)::(d',v')::e) w)(ho:Sg ⟨C,ops0,.code (.seq (.region id (⟨some d,.move x,ty,pos,aft,g⟩::l).toArray false) y)::k,h1⟩ e g' true=true:=by exact rfl)(hd:Nat.blt d' C.n=true:=by exact rfl)(ho':Sg ⟨C,⟨some d,.move x,ty,pos,aft,g⟩::l,.code y::k,congrArg (λz=>z.1.2) h0⟩ ((d',v')::e) g true=true:=by exact rfl)(hd':Nat.blt d C.n=true:=by exact rfl):RL ⟨C,ops0,.code (.seq (.region id (⟨some d,.move x,ty,pos,aft,g⟩::l).toArray false) y)::k,h1⟩ [⟨some d',.assign x',ty',pos',aft',g'⟩] e w:=QW (congrArg Prod.fst h0) (OT (congrArg Prod.snd h0) h ho' hd') ho hd
def Qm {h1:RT C.n ops0=true}{c:Operand}(hc:look e c=some (.bool false))(h:Pu C k e w):RL ⟨C,ops0,.code (.cond c y .skip)::k,h1⟩ [] e w:=OJ (SO hc h)
theorem Rp (h0:(RT C.n (⟨some d,.move x,ty,pos,aft,g⟩::l),look e x)=(true,some v))(h:RL ⟨C,⟨some d,.move x,ty,pos,aft,g⟩::l,k,congrArg Prod.fst h0⟩ l ((d,v)::e) w)(ho:Sg ⟨C,⟨some d,.move x,ty,pos,aft,g⟩::l,k,congrArg Prod.fst h0⟩ e g true=true:=by exact rfl)(hd:Nat.blt d C.n=true:=by exact rfl):Pu C (.code (.region id (⟨some d,.move x,ty,pos,aft,g⟩::l).toArray false)::k) e w:=OQ (congrArg Prod.fst h0) (OT (congrArg Prod.snd h0) h ho hd)
def QO (h:Pu C (.code y:: .inBlock id:: .code y2::k) e w):Pu C (.code (.seq (.block id y) y2)::k) e w:=An (OL h)
end
def R0 {C:Cx}{id:Nat}{ops:List Oper}{k:List Item}{e:Env}{w:World}(S:World->Prop)(ho:RT C.n ops=true)(h:RH ⟨C,ops,k,ho⟩ S ops.length (Array.replicate ops.length false) e w.drew)(hm:C.P.follows .mixedOrders=true:=by kernel_rfl)(hc:calm ops=true:=by rfl):Pu C (.code (.region id ops.toArray true)::k) e w:=z4d S hm ho h hc
theorem RB {α:Type}{a b:α}(h:some a=some b):a=b:=Option.some.inj h
def U2:=underlying2
def U3:=underlying3
def U4:=underlying4
def U5:=underlying5
def U9:=underlying9
def U20:=underlying20
def U22:=underlying22
def U23:=underlying23
def U26:=underlying26
def XB:=underlying27
def Z8:=underlying28
def U30:=underlying30
def U34:=underlying34
def Rr:=underlying37
def Rw:=underlying39
def Xi:=underlying43
def U44:=underlying44
def U54:=underlying54
def QU:=underlying59
def U61:=underlying61
def Pz:=underlying62
def U66:=underlying66
def U67:=underlying67
def U75:=underlying75
def U79:=underlying79
def Zj:=underlying83
def U84:=underlying84
def SL:=underlying93
def U95:=underlying95
def U97:=underlying97
def U99:=underlying99
def z1H:=underlying102
def VE:=underlying105
def za9:=underlying108
def Xm:=underlying111
def Xj:=underlying118
def z2T:=underlying121
def zd6:=underlying124
def zcF:=underlying129
def z5X:=underlying134
def z6C:=underlying136
def z3k:=underlying137
def z8Y:=underlying141
def zhm:=underlying150
def zjA:=underlying151
def zhO:=underlying153
def zcv:=underlying154
def zfE:=underlying157
def Xl:=underlying169
def zcf:=underlying179
def zbc:=underlying190
def ziT:=underlying200
def zkg:=underlying206
def Wf:=underlying207
def z3s:=underlying213
def zjM:=underlying215
def zf8:=underlying216
def z4X:=underlying220
def zfc:=underlying222
def zjU:=underlying233
def SK:=underlying245
def Y1:=underlying252
def zjc:=underlying253
def Zy:=underlying260
def Vf:=underlying273
def zkw:=underlying278
def zeH:=underlying279
def z0I:=underlying291
def Sr:=underlying294
def zg1:=underlying296
def zgl:=underlying306
def z4G:=underlying308
def zi0:=underlying313
def zap:=underlying322
def zjo:=underlying326
def zbP:=underlying329
def z0Y:=underlying330
def z3T:=underlying370
def UM (w:World)(g:Nat)(cs:List Value)(T:TypeId):Prop:=w.heap[g]? =some (.cells cs.toArray T (0,0))
theorem UM.OH {w:World}{g:Nat}{cs:List Value}{T:TypeId}(h:UM w g cs T):OU w g cs T:=⟨(0,0),h,λi _ h=>by omega⟩
theorem UM.set {w:World}{g:Nat}{cs:List Value}{T:TypeId}(h:UM w g cs T)(i:Nat)(v:Value):UM (w.setCell ⟨g,i,none⟩ v) g (cs.set i v) T:=by
 unfold UM at h⊢
 simp[World.setCell,Array.getElem?_modify,h]
def UM.ext {w w':World}{g:Nat}{cs:List Value}{T:TypeId}(h:UM w g cs T)(k:Ext w w'):UM w' g cs T:=k.heap h id
def Sl.row {w:World}{g n cap:Nat}{e:TypeId}{size:Nat}{cs:List Value}(h:Sl w (.slice (some ⟨g,0,none⟩) n cap) e size n cs):∃cur,UM w g cur e/\n<=cap/\cap<=maxLen/\cur.length=cap*size/\cur.take (n*size)=cs:=by
 rcases h.2 with⟨hz,-⟩|⟨g1,cap1,cur,hv,-,hg,hn,hm,hs,ht⟩
 ·cases hz
 ·cases hv;exact⟨cur.toList,by unfold UM;simpa using hg,hn,hm,by simpa using hs,ht⟩
def UM.sl {w:World}{g n cap:Nat}{e:TypeId}{size:Nat}{cur:List Value}(h:UM w g cur e)(hn:n<=cap)(hm:cap<=maxLen)(hs:cur.length=cap*size):Sl w (.slice (some ⟨g,0,none⟩) n cap) e size n (cur.take (n*size)):=
 ⟨by rw[List.length_take,hs];exact Nat.min_eq_left (Nat.mul_le_mul_right _ hn),.inr ⟨g,cap,cur.toArray,rfl,Nat.zero_le _,h,hn,hm,by simpa using hs,ξ⟩⟩
theorem UM.cell {w:World}{g i:Nat}{cur:List Value}{e:TypeId}(h:UM w g cur e):w.cell? ⟨g,i,none⟩=cur[i]? :=h.OH.cell i
theorem UM.rd {w:World}{g i n c:Nat}{e:TypeId}{cur:List Value}(h:UM w g cur e)(hl:i+n<=cur.length):Rd w (.slice (some ⟨g,i,none⟩) n c) 1 n ((cur.drop i).take n):=by
 refine⟨by simp;omega,.inr ⟨g,i,c,rfl,λj u hj=>?_⟩⟩
 rw[h.cell]
 rw[List.getElem?_take] at hj
 split at hj
 ·rwa [List.getElem?_drop] at hj
 ·cases hj
def Vs {w:World}{a:Option Addr}{c:Nat}:Rd w (.slice a 0 c) 1 0 []:=⟨rfl,.inl ⟨(a,c),rfl,rfl⟩⟩
def Rd.kpz {S:Nat->Prop}{w w':World}{v:Value}{size n:Nat}{cs:List Value}(h:Rd w v size n cs)(k:Kp S w w')(hn:0<n->∀g,v.ownBlock=some g->¬S g):Rd w' v size n cs:=by
 rcases Nat.eq_zero_or_pos n with h0|h0
 ·subst h0;refine⟨h.1,?_⟩;have hl:cs=[]:=List.eq_nil_of_length_eq_zero (by have:=h.1;omega);rcases h.2 with h2|⟨b,off,cap,e,-⟩
  ·exact .inl h2
  ·exact .inr ⟨b,off,cap,e,λj u hj=>by rw[hl] at hj;simp at hj⟩
 ·exact h.kp k (hn h0)
def Rd.ltz {w:World}{v:Value}{size n g:Nat}{cs:List Value}(h:Rd w v size n cs)(hs:0<size)(hn:0<n)(hg:v.ownBlock=some g):g<w.heap.size:=by
 rcases h.2 with⟨c,-,h2⟩|⟨b,off,cap,e,hc⟩
 ·omega
 ·rw[e] at hg;have e2:b=g:=RB hg;subst e2;have hl:0<cs.length:=by rw[h.1];exact Nat.mul_pos hn hs
  exact World.block_lt_of_cell? w _ (hc 0 cs[0] (List.getElem?_eq_getElem hl))
theorem z6O (cs:List Value)(i:Nat):QH cs i []=cs:=by simp[QH]
theorem z1P (cs vs:List Value)(i:Nat)(h:i+vs.length<=cs.length):(QH cs i vs).length=cs.length:=by simp[QH];omega
theorem z19 (cs vs:List Value)(i j:Nat)(h:i+vs.length<=cs.length):(QH cs i vs)[j]? =if i<=j/\j<i+vs.length then vs[j-i]? else cs[j]? :=by
 unfold QH
 rw[List.append_assoc]
 by_cases h1:j<i
 ·rw[List.getElem?_append_left (by simp;omega),List.getElem?_take,if_pos h1,if_neg ω]
 ·rw[List.getElem?_append_right (by simp;omega)];have e:(cs.take i).length=i:=by simp;omega
  rw[e];by_cases h2:j<i+vs.length
  ·rw[List.getElem?_append_left ω,if_pos ⟨ω,h2⟩]
  ·rw[List.getElem?_append_right ω,List.getElem?_drop,if_neg ω]
   congr 1;omega
def Uz {P:Program}{b:Nat}{T:TypeId}(o:Nat):∀(vs:List Value) (i:Nat) (cs:List Value) (w:World),UM w b cs T->o+i+vs.length<=cs.length->(∀v∈vs,v.oneCell'=true)->
  ∃w',(storeCells ⟨b,o,none⟩ vs i).run P w= .ok () w'/\UM w' b (QH cs (o+i) vs) T/\Kp (λk=>k=b) w w'
 |[],i,cs,w,hB,_,_=>⟨w,rfl,by simpa[QH] using hB,Kp.refl _ _⟩
 | v :: r, i, cs, w, hB, hl, h1 => by
   simp only[List.length_cons] at hl;have aS:o+i<cs.length:=by omega
   have hc:w.cell? ⟨b,o+i,none⟩=some cs[o+i]:=by rw[hB.cell];simp[aS]
   have hf:=hB.OH.free aS;obtain⟨w',hr,wV,hk⟩:=Uz (P:=P) o r (i+1) (cs.set (o+i) v) _ (hB.set (o+i) v) (by simp;omega) (λu hu=>h1 u (List.mem_cons_of_mem _ hu));refine⟨w',?_,?_,(TD w b (o+i) v).trans hk⟩
   ·simp only[storeCells,Sem.run_bind,Rm,run_store P w _ v _ (h1 v (List.mem_cons_self ..)),hc,hf]
    simpa using hr
   ·have he:QH (cs.set (o+i) v) (o+(i+1)) r=QH cs (o+i) (v::r):=by
     apply List.ext_getElem?;intro j;rw[z19 _ _ _ _ (by simp;omega),z19 _ _ _ _ (by simp;omega)];simp only[List.length_cons];by_cases h2:o+i=j
     ·subst h2;rw[if_neg ω,if_pos ω];simp[aS]
     ·by_cases h3:o+i<j/\j<o+i+1+r.length
      ·rw[if_pos ω,if_pos ω,show j-(o+i)=(j-(o+(i+1)))+1 by omega];simp
      ·rw[if_neg ω,if_neg ω,List.getElem?_set_ne h2]
    rw[<-he];exact wV
section
variable {P:Program}{e:Env}{d:Option Nat}{ty t el:TypeId}{pos:String}{aft:Array Edge}{g:Option (Nat×Bool)}{x y u u2:Operand}{w:World}
def Yq {z:Value}{size bytes n cap i:Nat}{a:Option Addr}{k:IntKind}{za:Int}[sV:Th za i](ht:P.underlying t=some (.slice el))(hs:TI P el z size bytes)(hx:look e x=some (.slice a n cap))
  (hy:look e y=some (.int k za)) (h:i<=n) (hc:n<=cap):
  Y P e ⟨d,.slice t x (some y) none none,ty,pos,aft,g⟩ (.slice (if cap=i then a else a.map (·.add (i*size))) (n-i) (cap-i)) w w:=fun ρ hρ=>by
 obtain⟨rfl⟩:=sV
 have cD:=hs.size (w:=w)
 have h2:∀w,(Instr.sliceBound (.int k (i:Int)) n .sliceB).run P w= .ok i w:=λw=>by rw[run_sliceBound _ _ _ _ _ ω ω];simp
 simp[execOp,hρ _ _ hx,hρ _ _ hy,Instr.sliceAt,run_underlying ht,Instr.slice,Instr.sliceBounds,h2,cD]
def zjl {z:Value}{size bytes n cap i j m:Nat}{a:Option Addr}{k k' k2:IntKind}{za zb zc:Int}[sV:Th za i][wW:Th zb j][bY:Th zc m](ht:P.underlying t=some (.slice el))(hs:TI P el z size bytes)(hx:look e x=some (.slice a n cap))
  (hy:look e y=some (.int k za)) (hu:look e u=some (.int k' zb)) (lq:look e u2=some (.int k2 zc)) (h:i<=j/\j<=m/\m<=cap):
  Y P e ⟨d,.slice t x (some y) (some u) (some u2),ty,pos,aft,g⟩ (.slice (if m=i then a else a.map (·.add (i*size))) (j-i) (m-i)) w w:=fun ρ hρ=>by
 obtain⟨rfl⟩:=sV
 obtain⟨rfl⟩:=wW
 obtain⟨rfl⟩:=bY
 have cD:=hs.size (w:=w)
 have h0:∀w,(Instr.sliceBound (.int k2 (m:Int)) cap .slice3Acap).run P w= .ok m w:=λw=>by rw[run_sliceBound _ _ _ _ _ ω ω];simp
 have h1:∀w,(Instr.sliceBound (.int k' (j:Int)) m .slice3B).run P w= .ok j w:=λw=>by rw[run_sliceBound _ _ _ _ _ ω ω];simp
 have h2:∀w,(Instr.sliceBound (.int k (i:Int)) j .slice3C).run P w= .ok i w:=λw=>by rw[run_sliceBound _ _ _ _ _ ω ω];simp
 simp[execOp,hρ _ _ hx,hρ _ _ hy,hρ _ _ hu,hρ _ _ lq,Instr.sliceAt,run_underlying ht,Instr.slice,Instr.sliceBounds,h0,h1,h2,cD]
theorem Xo (z:Value)(n:Nat)(h:oneV z=true):(Builtin.zeroCells z.cells n).toList=List.replicate n z:=by
 rw[VO h]
 apply List.ext_getElem
 ·simp[Builtin.zeroCells]
 ·intro i h1 h2;simp[Builtin.zeroCells,Nat.mod_one]
def zjv {z:Value}{bytes b i n cap:Nat}{T:TypeId}{cs:List Value}(ht:P.underlying t=some (.slice el))(hs:TI P el z 1 bytes)(hz:oneV z=true)(hx:look e x=some (.slice (some ⟨b,i,none⟩) n cap))
  (hB:UM w b cs T) (hi:i+n<=cs.length):
  Yp P e ⟨d,.call ⟨.builtin .clear,#[x],#[t]⟩,ty,pos,aft,g⟩ w λv w'=>UM w' b (QH cs i (List.replicate n z)) T/\Kp (λk=>k=b) w w':=by
 obtain⟨w',hr,wV,hk⟩:=Uz (P:=P) i (List.replicate n z) 0 cs w hB (by simp;omega) (λu hu=>by rw[(List.mem_replicate.1 hu).2];exact Yr hz)
 rcases Nat.eq_zero_or_pos n with h0|h0
 ·subst h0;refine⟨.tuple #[],w,fun ρ hρ=>?_,by simpa[z6O] using hB,Kp.refl _ _⟩;simp[execOp,resolve,invoke,builtin,hρ _ _ hx,Builtin.clear_,run_underlying ht,go_sem]
 ·refine⟨.tuple #[],w',fun ρ hρ=>?_,by simpa using wV,hk⟩;have Jz:=hs.zero (w:=w);obtain⟨k,rfl⟩:∃k,n=k+1:=⟨n-1,ω⟩
  have hc:(Builtin.clear_ #[t] ty #[.slice (some ⟨b,i,none⟩) (k+1) cap]).run P w= .ok (.tuple #[]) w':=by
   unfold Builtin.clear_;simp only[List.getElem?_toArray,List.getElem?_cons_zero,pure_bind,Sem.run_bind,run_underlying ht,Result.andThen,Jz,Xo z _ hz,hr,Sem.run_pure]
  simp[execOp,resolve,invoke,builtin,hρ _ _ hx,hc]
def zjQ {z u:Value}{size bytes gb n cap m:Nat}{cs news:List Value}(ht:P.underlying t=some (.slice el))(hs:TI P el z size bytes)(cD:0<size)
  (hx:look e x=some (.slice (some ⟨gb,0,none⟩) n cap)) (hy:look e y=some u) (hv:Sl w (.slice (some ⟨gb,0,none⟩) n cap) el size n cs) (hu:Rd w u size m news) (h1:∀c∈news,c.oneCell'=true) (hr:n+m<=cap):
  Yp P e ⟨d,.call ⟨.builtin .append,#[x,y],#[t,t]⟩,ty,pos,aft,g⟩ w λv' w'=>v'= .slice (some ⟨gb,0,none⟩) (n+m) cap/\Sl w' v' el size (n+m) (cs++news)/\Kp (λk=>k=gb) w w':=by
 obtain⟨i,hi,pT,jX,rK⟩:=hs
 subst jX
 rcases hu.2 with⟨⟨ca,c⟩,rfl,rfl⟩|⟨b,off,cap2,rfl,sW⟩
 ·have fg:news=[]:=List.eq_nil_of_length_eq_zero (by simpa using hu.1);subst fg
  have hr:(Builtin.append_ #[t,t] ty #[.slice (some ⟨gb,0,none⟩) n cap,.slice ca 0 c]).run P w= .ok (.slice (some ⟨gb,0,none⟩) n cap) w:=by
   have jJ:n<=cap:=by omega
   cases ca
   ·simp[Builtin.append_,run_underlying ht,sizeOf,typeInfo,hi,Builtin.lenOf,Builtin.firstCells,jJ,storeCells]
   ·simp[Builtin.append_,run_underlying ht,sizeOf,typeInfo,hi,Builtin.lenOf,Builtin.firstCells,jJ,storeCells,loadCells,loadCellsFrom]
  refine⟨_,w,fun ρ hρ=>?_,rfl,by simpa using hv,Kp.refl _ _⟩;simp[execOp,resolve,invoke,builtin,hρ _ _ hx,hρ _ _ hy,hr]
 ·have wX:∀j u,news[j]? =some u->w.cell? ((⟨b,off,none⟩:Addr).add j)=some u:=λj u hu=>by rw[Rm];exact sW j u hu
  obtain⟨w',JA,B8,cQ⟩:=run_append_fits (P:=P) w 0 t ty el i i.size ht hi O gb n cap cs hv ⟨b,off,none⟩ m cap2 news hu.1 wX h1 hr;refine⟨_,w',fun ρ hρ=>?_,rfl,B8,(Kp.Uu cQ).ON λk hk=>(RB hk).symm⟩;simp[execOp,resolve,invoke,builtin,hρ _ _ hx,hρ _ _ hy,JA]
end
abbrev OO:=List UInt8
abbrev lt (a b:OO):Bool:=Op.bytesLess a b
section
end
def pos (l:List OO)(t:OO):Nat:=(l.takeWhile (λk=>lt k t)).length
theorem z0U (cs vs:List Value)(i m:Nat)(h:m<=i)(hl:i<=cs.length):(QH cs i vs).take m=cs.take m:=by
 unfold QH
 rw[List.append_assoc,List.take_append_of_le_length (by simp;omega),List.take_take,Nat.min_eq_left h]
def zaX {w:World}{sv:Value}{cs:List Value}{i n:Nat}(hS:Sl w sv 3 1 n cs)(fV:∀c∈cs,c.oneCell'=true)(hi:i<n)(hn:n<=8589934592):
  Ps prog 191 [sv,I (i:Int),I ((i:Int)+1)] w λv w'=>Sl w' v 3 1 (n-1) (cs.take i++cs.drop (i+1))/\Kp (λk=>sv.ownBlock=some k) w w'/\(∀g,v.ownBlock=some g->sv.ownBlock=some g):=by
 have fA:maxLen=9223372036854775807:=rfl
 have aJ:=hS.len
 rw[Nat.mul_one] at aJ
 obtain⟨g,cap,rfl,jJ⟩:∃g cap,sv= .slice (some ⟨g,0,none⟩) n cap/\n<=cap:=by
  rcases hS.shape with⟨e,h0⟩|⟨g,cap,e,h⟩
  ·omega
  ·exact⟨g,cap,e,h⟩
 obtain⟨cur,jY,-,nx,fF,C7⟩:=hS.row
 rw[Nat.mul_one] at fF C7
 rw[show(i:Int)+1=((i+1:Nat):Int) by omega]
 refine py (e:=[(0,_),(1,_),(2,_)]) func191 O ntmps191 O O$ qN O$ QW O$ Pl O$ Pl O$ RO Rr O$ qV (zjl Rr Qe O O O O ⟨ω,ω,jJ⟩) ?_
 refine OJ$ An$ QI O$ Rk O$ PO$ Qm O$ Pt O$ RO Rr O$ P3 O$ An$ R0 (λw'=>Kp (λk=>k=g) w w') O ?_
 have h0:=Ext.Pa w
 refine P8 0 O O ((Ext.Pa w).kp)$ P8 1 O O ((Ext.Pa w).kp)$ P8 3 O O ((Ext.Pa w).kp)$ P8 4 O O ((Ext.Pa w).kp)$ OM 2 O (zba Rr Qe O O ω) ((Ext.Pa w).kp)$ OM 5 O (Yq Rr Qe O O ω jJ) ((Ext.Pa w).kp) ?_
 have dc:Sl w (.slice (some ⟨g,0,none⟩) i cap) 3 1 i (cs.take i):=by
  have:=jY.sl (n:=i) ω nx (by rw[Nat.mul_one];exact fF);rw[Nat.mul_one,show cur.take i=cs.take i by rw[<-C7,List.take_take,Nat.min_eq_left ω]] at this;exact this
 have C8:(cur.drop (i+1)).take (n-(i+1))=cs.drop (i+1):=by
  rw[<-C7,List.drop_take]
 have hR:Rd w.drew (.slice (if cap=i+1 then some ⟨g,0,none⟩ else(some (⟨g,0,none⟩:Addr)).map (·.add ((i+1)*1))) (n-(i+1)) (cap-(i+1))) 1 (n-(i+1)) (cs.drop (i+1)):=by
  by_cases hc:cap=i+1
  ·rw[if_pos hc,show n-(i+1)=0 by omega,List.drop_eq_nil_of_le ω];exact Vs
  ·rw[if_neg hc,Option.map_some,Rm,Nat.zero_add,Nat.mul_one,<-C8];exact(jY.ext h0).rd ω
 refine qO 6$ Xp (i:=6) O O O (zjQ Rr Qe ψ O O (dc.ext h0) hR (λc hc=>fV c (List.mem_of_mem_drop hc)) ω) ?_
 rintro _ w1 ⟨rfl,de,av⟩
 refine⟨h0.kp.trans av,?_⟩
 have e1:i+(n-(i+1))=n-1:=by omega
 rw[e1] at de⊢
 obtain⟨cur3,wY,JB,JC,wZ,x7⟩:=de.row
 rw[Nat.mul_one] at wZ x7
 refine OM 7 O (Rv O) (h0.kp.trans av)$ qE$ QI O$ RO Rr O$ OT O$ qV (zfi Rr Qe O O O ω ω)$ zbu O (zjv Rr Qe O O wY ω) ?_
 rintro _ w2 ⟨x8,ar⟩
 refine OJ$ Pu.qb (e:=[(0,_),(6,_)]) ?_
 refine Pt O$ P3 O$ OI func191 O ?_
 have x9:=x8.sl (n:=n-1) (cap:=cap) ω nx (by rw[z1P _ _ _ (by simp;omega),wZ,Nat.mul_one])
 rw[Nat.mul_one,z0U _ _ _ _ ω ω,x7] at x9
 exact⟨_,rfl,x9,((h0.kp.trans av).trans ar).ON (λk hk=>by subst hk;rfl),λg' cQ=>cQ⟩
open Go.ChangeMaps (setBlock)
def SG {κ:Type}(K:κ->Value)(w:World)(m:Nat)(kv:List (κ×Value)):Prop:=(∃es clock,w.heap[m]? =some (.map es clock)/\Uc K es.toList kv/\(∀e∈es.toList,e.born<clock)/\(es.toList.map (·.born)).Nodup)/\(kv.map (·.1)).Nodup
section
variable {κ:Type}[DecidableEq κ]{K:κ->Value}
theorem SG.l {w:World}{m:Nat}{kv:List (κ×Value)}(h:SG K w m kv):Wp K w m kv:=by
 obtain⟨⟨es,c,h1,h2,-,-⟩,h3⟩:=h
 exact⟨⟨es,c,h1,h2⟩,h3⟩
def SG.lt {w:World}{m:Nat}{kv:List (κ×Value)}(h:SG K w m kv):m<w.heap.size:=h.l.lt
theorem SG.nd {w:World}{m:Nat}{kv:List (κ×Value)}(h:SG K w m kv):(kv.map (·.1)).Nodup:=h.2
def SG.kp {S:Nat->Prop}{w w':World}{m:Nat}{kv:List (κ×Value)}(h:SG K w m kv)(k:Kp S w w')(hn:¬S m):SG K w' m kv:=by
 obtain⟨⟨es,c,h,he⟩,hd⟩:=h
 exact⟨⟨es,c,k.heap h hn,he⟩,hd⟩
def SG.ext {w w':World}{m:Nat}{kv:List (κ×Value)}(h:SG K w m kv)(k:Ext w w'):SG K w' m kv:=h.kp k id
def SG.new {w:World}{m:Nat}(h:w.heap[m]? =some (.map #[] 0)):SG K w m []:=⟨⟨#[],0,h,rfl,ξ,ξ⟩,ξ⟩
def delL:List (κ×Value)->κ->List (κ×Value)
 |[],_=>[]
 |(a,v)::r,k=>if k=a then r else(a,v)::delL r k
def z4Z:∀(kv:List (κ×Value)) (k:κ),(delL kv k).Sublist kv
 |[],_=> .slnil
 | (a, v) :: r, k => by
   simp only[delL];split
   ·exact List.sublist_cons_self _ _
   ·exact(z4Z r k).cons_cons _
theorem z2e {kv:List (κ×Value)}{k:κ}(h:k∉kv.map (·.1)):Re kv k=none:=by
 induction kv with
 |nil=>rfl
 | cons p r ih =>
   obtain⟨a,u⟩:=p;simp only[List.map_cons,List.mem_cons,not_or] at h;simp only[Re,h.1,if_false];exact ih h.2
def zin {kv:List (κ×Value)}(hn:(kv.map (·.1)).Nodup)(k x:κ):Re (delL kv k) x=if x=k then none else Re kv x:=by
 induction kv with
 |nil=>simp[delL,Re]
 | cons p r ih =>
   obtain⟨a,u⟩:=p;simp only[List.map_cons,List.nodup_cons] at hn;simp only[delL];by_cases h:k=a
   ·subst h;simp only[if_true,Re];by_cases hx:x=k
    ·subst hx;simp[z2e hn.1]
    ·simp[hx]
   ·simp only[h,if_false,Re,ih hn.2];by_cases hx:x=a
    ·subst hx;simp[Ne.symm h]
    ·simp[hx]
def z4h {kv:List (κ×Value)}(hn:(kv.map (·.1)).Nodup){k:κ}{v:Value}(h:(k,v)∈kv):Re kv k=some v:=by
 induction kv with
 |nil=>cases h
 | cons p r ih =>
   obtain⟨a,u⟩:=p;simp only[List.map_cons,List.nodup_cons] at hn;rcases List.mem_cons.1 h with e| h
   ·cases e;simp[Re]
   ·have:k≠a:=λe=>hn.1 (List.mem_map.2 ⟨(k,v),h,e⟩);simp only[Re,this,if_false];exact ih hn.2 h
def ZV {td:TypeDesc}(hs:∀a b,Instr.sameNow td (K a) (K b)=some (decide (a=b))):∀{es:List MapEntry} {kv:List (κ×Value)} (i:Nat) {k:κ} {v:Value},Uc K es kv->Re kv k=some v->
  ∃j,Instr.findNow td (K k) es i=some (some (i+j,v))/\j<es.length/\Uc K (es.eraseIdx j) (delL kv k)
 | e :: es, (a, v') :: kv, i, k, v, h, hg => by
   simp only[Uc,List.map_cons,List.cons.injEq,Prod.mk.injEq] at h;simp only[Re] at hg;split at hg
   ·rename_i he
    subst he;cases hg;refine⟨0,by simp[Instr.findNow,h.1.1,hs,h.1.2],ξ,?_⟩;simp only[List.eraseIdx_zero,List.tail_cons,delL,if_true];exact h.2
   ·rename_i bD
    obtain⟨j,h1,h2,h3⟩:=ZV hs (i+1) h.2 hg;refine⟨j+1,?_,by simp;omega,?_⟩
    ·simp only[Instr.findNow,h.1.1,hs,bD,decide_false,h1]
     congr 3;omega
    ·simp only[delL,bD,if_false,List.eraseIdx_cons_succ,Uc,List.map_cons,List.cons.injEq,Prod.mk.injEq]
     exact⟨h.1,h3⟩
 |[],[],_,_,_,_,hg=>by simp[Re] at hg
 |[],_::_,_,_,_,h,_=>by simp[Uc] at h
 |_::_,[],_,_,_,h,_=>by simp[Uc] at h
variable {P:Program}{e:Env}{d:Option Nat}{ty t kt el:TypeId}{pos:String}{aft:Array Edge}{g:Option (Nat×Bool)}{x y u:Operand}{w:World}{m:Nat}{kv:List (κ×Value)}{size:Nat}{k:κ}{v:Value}
theorem zgA (ht:P.underlying t=some (.map kt el))(hx:look e x=some (.map (some m)))(hm:Wp K w m kv):Y P e ⟨d,.call ⟨.builtin .len,#[x],#[t]⟩,ty,pos,aft,g⟩ (I (kv.length:Int)) w w:=fun ρ hρ=>by
 obtain⟨⟨es,c,hh,he⟩,-⟩:=hm
 have hl:es.size=kv.length:=by
  have:=congrArg List.length he
  simpa using this
 have hg:(getObj m).run P w= .ok (.map es c) w:=by simp[getObj,Sem.run,hh]
 simp[execOp,resolve,invoke,builtin,hρ _ _ hx,Builtin.len_,run_underlying ht,hg,goInt,hl,go_sem,Result.andThen]
def zeD (ht:P.underlying t=some (.map kt el))(hK:Ky P kt K)(hx:look e x=some (.map (some m)))(hy:look e y=some (K k))(hu:look e u=some v)(hm:SG K w m kv):
  Zp P e ⟨d,.mapUpdate t x y u,ty,pos,aft,g⟩ w λw'=>SG K w' m (putL kv k v)/\Kp (λi=>i=m) w w':=by
 have aS:=hm.lt
 obtain⟨⟨es,c,hh,he,bK,bN⟩,hd⟩:=hm
 have sX:=λb=>hK.same.choose_spec.2.2 w b 9999 k
 have hg:(getObj m).run P w= .ok (.map es c) w:=by simp[getObj,Sem.run,hh]
 have gK:∀o,(setObj m o).run P w= .ok () (w.putObj m o):=λo=>by simp[setObj,Sem.run,hh,World.putObj]
 cases lU:Re kv k with
 | none =>
   have hf:=Ug (P:=P) (w:=w) hK he lU;refine⟨w.putObj m (.map (es.push {key:=K k,val:=v,born:=c}) (c+1)),fun ρ hρ=>?_,⟨⟨_,_,World.putObj_heap_same aS,?_,?_,?_⟩,?_⟩,Q8 w m _⟩
   ·simp[execOp,hρ _ _ hx,hρ _ _ hy,hρ _ _ hu,Instr.mapUpdate,run_underlying ht,hg,sX,hf,gK]
   ·rw[UC _ _ _ lU]
    simpa[Uc] using he
   ·intro x hx;simp at hx;rcases hx with hx|rfl
    ·have:=bK x (by simpa using hx);omega
    ·simp
   ·simp only[Array.toList_push,List.map_append,List.map_cons,List.map_nil];refine List.nodup_append.2 ⟨bN,ξ,λa ha b hb jK=>?_⟩;simp at hb;subst hb;subst jK;obtain⟨x,hx,HS⟩:=List.mem_map.1 ha;have:=bK x hx;omega
   ·rw[UC _ _ _ lU,List.map_append,List.nodup_append];refine⟨hd,ξ,λa ha b hb jK=>?_⟩;simp at hb;subst hb;subst jK
    exact z0Z lU ha
 | some v0 =>
   obtain⟨j,hf,⟨ej,JD,C9⟩,ny⟩:=Ue (P:=P) (w:=w) hK he lU
   have lV:(es.modify j λe=>{e with key:=K k,val:=v}).toList.map (·.born)=es.toList.map (·.born):=by
    apply List.ext_getElem?;intro i;simp only[Array.toList_modify,List.getElem?_map,List.getElem?_modify];by_cases gL:j=i
    ·subst gL;simp;cases es[j]?<;>rfl
    ·simp[gL]
   refine⟨w.putObj m (.map (es.modify j λe=>{e with key:=K k,val:=v}) c),fun ρ hρ=>?_,⟨⟨_,_,World.putObj_heap_same aS,ny v,?_,?_⟩,?_⟩,Q8 w m _⟩
   ·simp[execOp,hρ _ _ hx,hρ _ _ hy,hρ _ _ hu,Instr.mapUpdate,run_underlying ht,hg,sX,hf,gK,JD,C9,Instr.keyThatStays,hK.bits]
   ·intro x hx;have:x.born∈es.toList.map (·.born):=by rw[<-lV];exact List.mem_map.2 ⟨x,hx,rfl⟩
    obtain⟨y,hy,HT⟩:=List.mem_map.1 this;rw[<-HT];exact bK y hy
   ·rw[lV];exact bN
   ·rw[z2w _ _ _ (by rw[lU];rfl)];exact hd
theorem zeT (ht:P.underlying t=some (.map kt el))(hK:Ky P kt K)(hx:look e x=some (.map (some m)))(hy:look e y=some (K k))(hm:SG K w m kv){ts:Array TypeId}(rL:ts[0]? =some t):
  Yp P e ⟨d,.call ⟨.builtin .delete,#[x,y],ts⟩,ty,pos,aft,g⟩ w λv' w'=>SG K w' m (delL kv k)/\Kp (λi=>i=m) w w':=by
 have aS:=hm.lt
 obtain⟨⟨es,c,hh,he,bK,bN⟩,hd⟩:=hm
 obtain⟨⟨td,hu,hs,Ca⟩,-⟩:=hK
 have sX:=λb=>Ca w b 9999 k
 have hg:(getObj m).run P w= .ok (.map es c) w:=by simp[getObj,Sem.run,hh]
 have gK:∀o,(setObj m o).run P w= .ok () (w.putObj m o):=λo=>by simp[setObj,Sem.run,hh,World.putObj]
 have dM:=(z4Z kv k).map (·.1)
 cases lU:Re kv k with
 | none =>
   have hf:(Instr.findKey kt (K k) es.toList).run P w= .ok none w:=by simp[Instr.findKey,run_underlying hu,VS hs 0 he lU]
   have ls:delL kv k=kv:=by
    clear he hh hd dM
    induction kv with
    |nil=>rfl
    | cons p r ih =>
      obtain⟨a,u⟩:=p;simp only[Re] at lU;split at lU
      ·cases lU
      ·rename_i bD;simp only[delL,bD,if_false,ih lU]
   refine⟨.tuple #[],w.putObj m (.map es c),fun ρ hρ=>?_,⟨⟨es,c,World.putObj_heap_same aS,by rw[ls];exact he,bK,bN⟩,by rw[ls];exact hd⟩,Q8 w m _⟩
   simp[execOp,resolve,invoke,builtin,hρ _ _ hx,hρ _ _ hy,Builtin.delete_,rL,run_underlying ht,hg,sX,hf,gK,Result.andThen]
 | some v0 =>
   obtain⟨j,xa,hj,ny⟩:=ZV hs 0 he lU
   have hf:(Instr.findKey kt (K k) es.toList).run P w= .ok (some (j,v0)) w:=by
    rw[Nat.zero_add] at xa;simp[Instr.findKey,run_underlying hu,xa]
   have Cb:(es.eraseIdxIfInBounds j).toList=es.toList.eraseIdx j:=by
    simp at hj;simp[Array.eraseIdxIfInBounds,hj]
   refine⟨.tuple #[],w.putObj m (.map (es.eraseIdxIfInBounds j) c),fun ρ hρ=>?_,⟨⟨_,c,World.putObj_heap_same aS,by rw[Cb];exact ny,?_,?_⟩,dM.nodup hd⟩,Q8 w m _⟩
   ·simp[execOp,resolve,invoke,builtin,hρ _ _ hx,hρ _ _ hy,Builtin.delete_,rL,run_underlying ht,hg,sX,hf,gK,Result.andThen]
   ·rw[Cb];exact λx hx=>bK x ((List.eraseIdx_sublist _ _).subset hx)
   ·rw[Cb];exact((List.eraseIdx_sublist _ _).map _).nodup bN
end
def Pn:Nat->Nat->List Bool
 |0,_=>[]
 |n+1,v=>v.testBit n::Pn n v
def PF:List Bool->Nat
 |[]=>0
 |b::l=>b.toNat*2^l.length+PF l
@[simp] theorem bitsN_length:∀(n v:Nat),(Pn n v).length=n
 |0,_=>rfl
 |n+1,v=>by simp[Pn,bitsN_length n v]
theorem R7:∀(l:List Bool),PF l<2^l.length
 |[]=>by simp[PF]
 | b :: l => by
   have:=R7 l;simp only[PF,List.length_cons,Nat.pow_succ];have:b.toNat<=1:=by cases b<;>simp
   have:b.toNat*2^l.length<=1*2^l.length:=Nat.mul_le_mul_right _ this;omega
theorem RY:∀(a b:List Bool),PF (a++b)=PF a*2^b.length+PF b
 |[],b=>by simp[PF]
 | x :: a, b => by
   rw[List.cons_append,PF,RY a b,PF,List.length_append,Nat.pow_add,Nat.add_mul,Nat.mul_assoc];omega
theorem S4:∀(m n v:Nat),Pn (m+n) v=Pn m (v / 2^n)++Pn n v
 |0,n,v=>by simp[Pn]
 | m + 1, n, v => by
   rw[show m+1+n=(m+n)+1 by omega,Pn,Pn,List.cons_append,S4 m n v,Nat.testBit_div_two_pow]
theorem Q5:∀(n v:Nat),PF (Pn n v)=v%2^n
 |0,v=>by simp[Pn,PF,Nat.mod_one]
 | n + 1, v => by
   rw[Pn,PF,bitsN_length,Q5 n v,Nat.pow_succ,Nat.mod_mul,Nat.testBit_eq_decide_div_mod_eq];rcases Nat.mod_two_eq_zero_or_one (v / 2^n) with e|e<;>simp[e]<;>omega
theorem Wl:∀{n v u:Nat},v%2^n=u%2^n->Pn n v=Pn n u
 |0,_,_,_=>rfl
 | n + 1, v, u, h => by
   have h1:v.testBit n=u.testBit n:=by
    have e1:(v%2^(n+1)).testBit n=v.testBit n:=by rw[Nat.testBit_mod_two_pow];simp
    have e2:(u%2^(n+1)).testBit n=u.testBit n:=by rw[Nat.testBit_mod_two_pow];simp
    rw[<-e1,<-e2,h]
   have h2:v%2^n=u%2^n:=by
    have e1:v%2^(n+1)%2^n=v%2^n:=Nat.mod_mod_of_dvd _ (Nat.pow_dvd_pow 2 (Nat.le_succ n));have e2:u%2^(n+1)%2^n=u%2^n:=Nat.mod_mod_of_dvd _ (Nat.pow_dvd_pow 2 (Nat.le_succ n));rw[<-e1,<-e2,h]
   rw[Pn,Pn,h1,Wl h2]
theorem YO:∀{a b:List Bool},a.length=b.length->PF a=PF b->a=b
 |[],[],_,_=>rfl
 | x :: a, y :: b, hl, hv => by
   have hl':a.length=b.length:=by simpa using hl
   have h1:=R7 a;have h2:=R7 b;rw[PF,PF,hl'] at hv;rw[hl'] at h1
   have hx:x=y:=by
    cases x<;>cases y<;>simp at hv⊢<;>omega
   subst hx;rw[YO hl' ω]
def z0X (l:List Bool):Pn l.length (PF l)=l:=YO ξ (by rw[Q5,Nat.mod_eq_of_lt (R7 l)])
/-! ### Bytes -/
def Pf (s:OO):List Bool:=s.flatMap λc=>Pn 8 c.toNat
@[simp] theorem bitsT_length (s:OO):(Pf s).length=8*s.length:=by
 induction s with
 |nil=>rfl
 |cons c s ih=>simp[Pf] at ih⊢;omega
theorem Z0 (a b:OO):Pf (a++b)=Pf a++Pf b:=by simp[Pf]
def W9 (d:List Bool):UInt8:=UInt8.ofNat (PF d*2^(8-d.length))
def Pp (l:List Bool):OO:=(List.range ((l.length+7) / 8)).map λi=>W9 ((l.drop (8*i)).take 8)
theorem PE (l:List Bool):(Pp l).length=(l.length+7) / 8:=by simp[Pp]
theorem XU {c d:List Bool}(hc:c.length%8=0)(h1:1<=d.length)(h8:d.length<=8):Pp (c++d)=Pp c++[W9 d]:=by
 obtain⟨m,hm⟩:∃m,c.length=8*m:=⟨c.length / 8,ω⟩
 unfold Pp
 rw[List.length_append,show(c.length+d.length+7) / 8=m+1 by omega,show(c.length+7) / 8=m by omega,List.range_succ,List.map_append]
 congr 1
 ·apply List.map_congr_left;intro i hi;rw[List.mem_range] at hi;rw[List.drop_append_of_le_length ω,List.take_append_of_le_length (by rw[List.length_drop];omega)]
 ·simp only[List.map_cons,List.map_nil];rw[<-hm,List.drop_left,List.take_of_length_le h8]
def z96 {d e:List Bool}(h:d.length+e.length<=8):(W9 (d++e)).toNat=(W9 d).toNat |||(PF e*2^(8-d.length-e.length)):=by
 have h1:=R7 d
 have h2:=R7 e
 have hp:∀(x:List Bool),x.length<=8->PF x*2^(8-x.length)<256:=λx hx=>by
  have h3:=R7 x;have:PF x*2^(8-x.length)<2^x.length*2^(8-x.length):=Nat.mul_lt_mul_of_pos_right h3 (Nat.two_pow_pos _);rw[<-Nat.pow_add,show x.length+(8-x.length)=8 by omega] at this;exact this
 have e1:(W9 (d++e)).toNat=PF (d++e)*2^(8-(d++e).length):=by
  unfold W9;rw[UInt8.toNat_ofNat'];exact Nat.mod_eq_of_lt (hp _ (by rw[List.length_append];omega))
 have e2:(W9 d).toNat=PF d*2^(8-d.length):=by
  unfold W9;rw[UInt8.toNat_ofNat'];exact Nat.mod_eq_of_lt (hp _ ω)
 rw[e1,e2,RY,List.length_append,Nat.add_mul]
 have h5:PF d*2^e.length*2^(8-(d.length+e.length))=2^(8-d.length)*PF d:=by
  rw[Nat.mul_assoc,<-Nat.pow_add,show e.length+(8-(d.length+e.length))=8-d.length by omega,Nat.mul_comm]
 have h6:PF e*2^(8-(d.length+e.length))<2^(8-d.length):=by
  have:PF e*2^(8-(d.length+e.length))<2^e.length*2^(8-(d.length+e.length)):=Nat.mul_lt_mul_of_pos_right h2 (Nat.two_pow_pos _);rw[<-Nat.pow_add,show e.length+(8-(d.length+e.length))=8-d.length by omega] at this;exact this
 rw[h5,Nat.two_pow_add_eq_or_of_lt h6,Nat.mul_comm (2^(8-d.length)),show 8-d.length-e.length=8-(d.length+e.length) by omega]
theorem za6:W9 []=0:=by decide
def Sn (l:List Bool):∃z,Pf (Pp l)=l++List.replicate z false/\(l.length+z)%8=0/\z<8:=by
 have key:∀(m:Nat) (l:List Bool),l.length<=8*m->∃z,Pf (Pp l)=l++List.replicate z false/\(l.length+z)%8=0/\z<8:=by
  intro m
  induction m with
  | zero =>
    intro l h;have:l=[]:=List.eq_nil_of_length_eq_zero ω;subst this
    exact⟨0,rfl,rfl,ω⟩
  | succ m ih =>
    intro l h;by_cases h0:l=[]
    ·subst h0;exact⟨0,rfl,rfl,ω⟩
    ·have hpos:1<=l.length:=by
      cases l with
      |nil=>exact absurd O h0
      |cons a r=>simp
     obtain⟨c,d,rfl,hc,h1,h8⟩:∃c d,l=c++d/\c.length%8=0/\1<=d.length/\d.length<=8:=by
      refine⟨l.take (8*((l.length-1) / 8)),l.drop (8*((l.length-1) / 8)),(List.take_append_drop _ _).symm,?_,?_,?_⟩
      ·rw[List.length_take];omega
      ·rw[List.length_drop];omega
      ·rw[List.length_drop];omega
     rw[List.length_append] at h;obtain⟨z,hz,hm,hl⟩:=ih c ω;have hz0:z=0:=by omega
     subst hz0;simp at hz;refine⟨8-d.length,?_,by rw[List.length_append];omega,ω⟩;rw[XU hc h1 h8,Z0,hz,List.append_assoc]
     congr 1
     simp only[Pf,List.flatMap_cons,List.flatMap_nil,List.append_nil]
     have hv:PF (d++List.replicate (8-d.length) false)=PF d*2^(8-d.length):=by
      rw[RY,List.length_replicate]
      have:∀n,PF (List.replicate n false)=0:=λn=>by
       induction n with
       |zero=>rfl
       |succ n ih=>rw[List.replicate_succ,PF,ih];simp
      rw[this];rfl
     refine YO (by simp;omega) ?_;rw[Q5,hv];have h3:=R7 d
     have:PF d*2^(8-d.length)<2^8:=by
      have:PF d*2^(8-d.length)<2^d.length*2^(8-d.length):=Nat.mul_lt_mul_of_pos_right h3 (Nat.two_pow_pos _)
      rwa [<-Nat.pow_add,show d.length+(8-d.length)=8 by omega] at this
     unfold W9;rw[UInt8.toNat_ofNat'];rw[Nat.mod_mod,Nat.mod_eq_of_lt this]
 exact key l.length l ω
def z77 (c:Nat)(hc:c<256)(room n:Nat)(hr:room<=8)(hn:n<=room):PF (((Pn 8 c).drop (8-room)).take n)=c%2^room / 2^(room-n):=by
 have e1:Pn 8 c=Pn (8-room) (c / 2^room)++Pn room c:=by rw[<-S4,show 8-room+room=8 by omega]
 have e2:Pn room c=Pn n (c / 2^(room-n))++Pn (room-n) c:=by rw[<-S4,show n+(room-n)=room by omega]
 rw[e1,List.drop_left' ξ,e2,List.take_left' ξ,Q5]
 have:c%2^room / 2^(room-n)=c / 2^(room-n)%2^n:=by
  have h2:2^room=2^(room-n)*2^n:=by rw[<-Nat.pow_add,show room-n+n=room by omega]
  rw[h2,Nat.mod_mul_right_div_self]
 rw[this]
theorem TE (c:UInt8)(s:OO):Pf (c::s)=Pn 8 c.toNat++Pf s:=rfl
theorem TG:∀(k:Nat) (s:OO),Pf (s.drop k)=(Pf s).drop (8*k)
 |0,s=>by simp
 |k+1,[]=>by simp[Pf]
 | k + 1, c :: s => by
   have e:(Pn 8 c.toNat++Pf s).drop (8+8*k)=(Pf s).drop (8*k):=by rw[<-List.drop_drop,List.drop_left' ξ]
   rw[List.drop_succ_cons,TG k s,TE,show 8*(k+1)=8+8*k by omega,e]
theorem UI:∀(k:Nat) (s:OO),Pf (s.take k)=(Pf s).take (8*k)
 |0,s=>by simp[Pf]
 |k+1,[]=>by simp[Pf]
 | k + 1, c :: s => by
   have e:(Pn 8 c.toNat++Pf s).take (8+8*k)=Pn 8 c.toNat++(Pf s).take (8*k):=by
    have:=List.take_length_add_append (l₁:=Pn 8 c.toNat) (l₂:=Pf s) (8*k)
    rwa [bitsN_length] at this
   rw[List.take_succ_cons,TE,UI k s,TE,show 8*(k+1)=8+8*k by omega,e]
def zdb {s:OO}{i:Nat}{c:UInt8}(h:s[i]? =some c):((Pf s).drop (8*i)).take 8=Pn 8 c.toNat:=by
 rw[<-TG]
 obtain⟨hi,e⟩:=List.getElem?_eq_some_iff.1 h
 rw[List.drop_eq_getElem_cons hi,e,show Pf (c::s.drop (i+1))=Pn 8 c.toNat++Pf (s.drop (i+1)) from rfl,List.take_left' ξ]
def z6g {s:OO}{at' n:Nat}{c:UInt8}(h:s[at' / 8]? =some c)(hn:n<=8-at'%8):PF (((Pf s).drop at').take n)=c.toNat%2^(8-at'%8) / 2^(8-at'%8-n):=by
 have h1:=zdb h
 have h2:=z77 c.toNat (by have:=c.toNat_lt;omega) (8-at'%8) n ω hn
 rw[<-h2,<-h1]
 congr 1
 rw[List.drop_take,List.take_take,List.drop_drop,show 8*(at' / 8)+(8-(8-at'%8))=at' by omega]
 congr 1
 omega
def z5Q {bs e:List Bool}(h1:1<=e.length)(h8:bs.length%8+e.length<=8):∃(c:OO) (x y:UInt8),(if bs.length%8=0 then Pp bs++[0] else Pp bs)=c++[x]/\Pp (bs++e)=c++[y]/\y.toNat=(x.toNat |||(PF e*2^(8-bs.length%8-e.length))):=by
 obtain⟨c,d,hcd,hc,hd⟩:∃c d,bs=c++d/\c.length%8=0/\d.length=bs.length%8:=⟨bs.take (8*(bs.length / 8)),bs.drop (8*(bs.length / 8)),(List.take_append_drop _ _).symm,by rw[List.length_take];omega,by rw[List.length_drop];omega⟩
 have hb:=z96 (d:=d) (e:=e) ω
 rw[<-hd]
 refine⟨Pp c,W9 d,W9 (d++e),?_,?_,hb⟩
 ·by_cases h0:d.length=0
  ·have:d=[]:=List.eq_nil_of_length_eq_zero h0;subst this;rw[if_pos ξ,hcd,List.append_nil,za6]
  ·rw[if_neg ω,hcd,XU hc ω ω]
 ·rw[hcd,List.append_assoc,XU hc (by rw[List.length_append];omega) (by rw[List.length_append];omega)]
abbrev P7 (n:Nat):Value:= .int .u64 (n:Int)
def X8 {w:World}{v:Value}{T s n}{us:List Value}(h:Sl w v T s n us):oneV v=true:=by
 rcases h.shape with⟨rfl,-⟩|⟨g,c,rfl,-⟩<;>rfl
section
variable {P:Program}{e:Env}{d:Option Nat}{ty t t':TypeId}{pos:String}{aft:Array Edge}{g:Option (Nat×Bool)}{x y:Operand}{w:World}{k:IntKind}{m n:Nat}
def Wx (hx:look e x=some (.int k (m:Int)))(hy:look e y=some (.int k (n:Int)))(hs:k.signed=false)(hm:m<2^k.bits)(h:n<=m):Y P e ⟨d,.binOp .sub t x y t',ty,pos,aft,g⟩ (.int k ((m-n:Nat):Int)) w w:=fun ρ hρ=>by
 have h1:(m:Int)-n=((m-n:Nat):Int):=by omega
 have h2:k.wrap ((m-n:Nat):Int)=((m-n:Nat):Int):=z0L hs ω
 simp[execOp,go_sem,hρ _ _ hx,hρ _ _ hy,h1,h2]
def zgv {el:TypeId}{c:Nat}(hs:P.underlying t=some (.slice el))(he:P.underlying el=some (.int .u8))(hd:P.underlying t'=some .string)(hx:look e x=some (.slice none 0 c)):Y P e ⟨d,.convert t t' x,ty,pos,aft,g⟩ (S []) w w:=fun ρ hρ=>by
 have hr:(convert t t' (.slice none 0 c)).run P w= .ok (S []) w:=by
  rw[run_convert_bytes_string w t t' el none 0 c hs he hd];rfl
 simp only[execOp,hρ _ _ hx,Sem.run_bind,hr,Result.andThen_ok,Sem.run_pure]
def ziu {el:TypeId}{gb n cap:Nat}{l:List UInt8}(hs:P.underlying t=some (.slice el))(he:P.underlying el=some (.int .u8))(hd:P.underlying t'=some .string)(hx:look e x=some (.slice (some ⟨gb,0,none⟩) n cap))(hS:Sl w (.slice (some ⟨gb,0,none⟩) n cap) el 1 n (l.map Tz)):
  Y P e ⟨d,.convert t t' x,ty,pos,aft,g⟩ (S l) w w:=by
 obtain⟨cur,hr,-,-,-,ht⟩:=hS.row
 refine z9H hs he hd hx hr.OH (by rw[List.drop_zero,<-ht,Nat.mul_one]) ?_
 have:=hS.len
 rw[List.length_map] at this
 omega
end
def PY {w:World}{b off n cap i:Nat}{vs:List Value}{v:Value}(h:Rd w (.slice (some ⟨b,off,none⟩) n cap) 1 n vs)(hv:vs[i]? =some v):w.cell? ⟨b,off+i*1,none⟩=some v:=by
 rcases h.2 with⟨c,hc,h0⟩|⟨b',off',cap',e,hc⟩
 ·have hi:=(List.getElem?_eq_some_iff.1 hv).1;have:=h.1;omega
 ·cases e;rw[Nat.mul_one];exact hc i v hv
structure WrM (w:World)(p:Nat)(bv:Value)(bs:List Bool):Prop where
 OH:OU w p [bv,I (bs.length:Int)] 267
 sl:Sl w bv 5 1 (Pp bs).length ((Pp bs).map Tz)
 ne:bv.ownBlock≠some p
def fpW (p:Nat)(bv:Value)(k:Nat):Prop:=k=p\/bv.ownBlock=some k
def YC (w:World)(p:Nat)(bs:List Bool)(F:Nat->Prop):Prop:=∃bv,WrM w p bv bs/\∀k,F k↔fpW p bv k
def WrR (p:Nat)(F:Nat->Prop)(w w':World)(bs:List Bool):Prop:=∃F',YC w' p bs F'/\Kp F w w'/\∀k,F' k->F k\/w.heap.size<=k
section
variable {w w':World}{p:Nat}{bs:List Bool}{F S:Nat->Prop}
def YC.lt (h:YC w p bs F){k:Nat}(hk:F k):k<w.heap.size:=by
 obtain⟨bv,hM,hF⟩:=h
 rcases (hF k).1 hk with e| e
 ·rw[e];exact hM.OH.lt
 ·exact hM.sl.lt e
def YC.kp (h:YC w p bs F)(k:Kp S w w')(hn:∀i,F i->¬S i):YC w' p bs F:=by
 obtain⟨bv,hM,hF⟩:=h
 exact⟨bv,⟨k.OH hM.OH (hn p ((hF p).2 (.inl O))),hM.sl.kp k (λg hg=>hn g ((hF g).2 (.inr hg))),hM.ne⟩,hF⟩
def YC.ext (h:YC w p bs F)(k:Ext w w'):YC w' p bs F:=h.kp k.kp λ_ _=>id
end
section
variable {w:World}{p:Nat}{bs:List Bool}{F:Nat->Prop}
def Ur (w:World):Ps prog 117 [] w λv w'=>∃p F,v=ptr p 0/\YC w' p [] F/\Ext w w'/\∀k,F k->w.heap.size<=k:=by
 refine py (e:=[]) func117 O ntmps117 O O$ qN O$ QW O$ qV (Sh (cs:=[_,_]) zhD O zh3 O O)$ OP O O (R6 O O) ?_
 rintro _ w1 ⟨p,rfl,hp,hx,hB⟩
 refine P3 O$ OI func117 O ?_
 exact⟨_,rfl,p,_,rfl,⟨_,⟨hB,Sl.nil _ _ _,by simp[Value.ownBlock]⟩,λ_=>Iff.rfl⟩,hx,λk hk=>by
  rcases hk with e| e
  ·omega
  ·simp[Value.ownBlock] at e⟩
def zbA (h:YC w p bs F)(v n:Nat)(hn:n<=64)(hv:v<2^n)(hl:bs.length+n<=1000000000):
  Ps prog 155 [ptr p 0,P7 v,I (n:Int)] w λu w'=>u= .tuple #[]/\WrR p F w w' (bs++Pn n v):=by
 obtain⟨bv,hM,hF⟩:=h
 have JE:v<18446744073709551616:=by
  have:=Nat.pow_le_pow_right (show 0<2 by decide) hn;have e:(2:Nat)^64=18446744073709551616:=by decide
  omega
 have fA:maxLen=9223372036854775807:=rfl
 refine py (e:=[(0,_),(1,_),(2,_)]) func155 O ntmps155 O O$ OL$ RN (α:=Nat×Value×List Bool) ((n,bv,bs)) (λx=>[(0,ptr p 0),(1,P7 v),(2,I (x.1:Int))]) (λx w'=>x.1<=n/\WrM w' p x.2.1 x.2.2/\x.2.2=bs++Pn (n-x.1) (v / 2^x.1)/\Kp F w w'/\(∀k,fpW p x.2.1 k->F k\/w.heap.size<=k)) (λx=>x.1) ?hI ?hround
 case hI=>exact⟨Nat.le_refl _,hM,by rw[Nat.sub_self];simp[Pn],Kp.refl _ _,λk hk=> .inl ((hF k).2 hk)⟩
 case hround =>
  rintro⟨k,bv1,b1⟩ w1 ⟨hk,dA,bK,az,j0⟩ ih;dsimp only at hk dA bK j0;have ai:=dA.OH;have vP:b1.length<=bs.length+n:=by rw[bK,List.length_append,bitsN_length];omega
  have jZ:b1.length&&&7=b1.length%8:=Nat.and_two_pow_sub_one_eq_mod b1.length 3;have nz:=az.size;have gE:=ai.lt
  try dsimp only
  refine PR O$ QD O$ OJ$ OX O (λaS=>?_)$ λaS=>?_
  ·have fP : 0 < k := by omega
   obtain⟨take,nA⟩:∃take,min k (8-b1.length%8)=take:=⟨_,rfl⟩;have sY:1<=take/\take<=k/\take<=8-b1.length%8:=by omega
   obtain⟨e,he⟩:∃e,Pn take (v / 2^(k-take))=e:=⟨_,rfl⟩;have pi:e.length=take:=by rw[<-he];simp
   have HU:PF e=v / 2^(k-take)%2^take:=by rw[<-he,Q5]
   obtain⟨c,x,y,hL,hY,dH⟩:=z5Q (bs:=b1) (e:=e) ω ω;refine OK$ OL$ PR O$ Pw O$ P4 Xa O$ qV (OS U3 O O ai O)$ qV (XF O O ω ω) ?_;rw[jZ];refine Rk O$ OJ$ PI (λe' w'=>e'=[(0,ptr p 0),(1,P7 v),(2,I (k:Int))]/\∃bv2,OU w' p [bv2,I (b1.length:Int)] 267/\Sl w' bv2 5 1 (c++[x]).length ((c++[x]).map Tz)/\bv2.ownBlock≠some p/\Kp F w w'/\∀k,fpW p bv2 k->F k\/w.heap.size<=k) ?nB$ λnB=>?nC
   case nB=>
    rintro e' w2 ⟨rfl,bv2,ak,dc,dB,am,sZ⟩
    obtain⟨g2,c2,rfl,gF⟩:∃g cp,bv2= .slice (some ⟨g,0,none⟩) (c++[x]).length cp/\(c++[x]).length<=cp:=by
     rcases dc.shape with⟨-,e⟩| h
     ·simp at e
     ·exact h
    have fF:(c++[x]).length=c.length+1:=by simp
    have HV:p≠g2:=λe=>dB (by rw[e];rfl);have lX:(Pp (b1++e)).length=c.length+1:=by rw[hY];simp
    rw[PE,List.length_append] at lX;obtain⟨T,hT⟩:∃T,2^take=T:=⟨_,rfl⟩;obtain⟨D,hD⟩:∃D,2^(k-take)=D:=⟨_,rfl⟩;obtain⟨R,hR⟩:∃R,2^(8-b1.length%8-take)=R:=⟨_,rfl⟩;rw[hT,hD] at HU;rw[pi,hR] at dH
    have HW:1<=T/\T<=256:=by
     rw[<-hT];exact⟨Nat.two_pow_pos _,by have:=Nat.pow_le_pow_right (show 0<2 by decide) (show take<=8 by omega);simpa using this⟩
    have jd:(v / D)&&&(T-1)=v / D%T:=by rw[<-hT];exact Nat.and_two_pow_sub_one_eq_mod _ _
    have NB:v / D<=v:=Nat.div_le_self _ _;have JF:v / D%T<T:=Nat.mod_lt _ ω
    have NC:PF e*R<256:=by
     have h1:=R7 e;rw[pi,hT] at h1;have h2:PF e*R<T*R:=Nat.mul_lt_mul_of_pos_right h1 (by rw[<-hR];exact Nat.two_pow_pos _);have h3:T*R=2^(8-b1.length%8):=by rw[<-hT,<-hR,<-Nat.pow_add,show take+(8-b1.length%8-take)=8-b1.length%8 by omega]
     have h4:=Nat.pow_le_pow_right (show 0<2 by decide) (show 8-b1.length%8<=8 by omega);have h5:(2:Nat)^8=256:=by decide
     omega
    have cR:=x.toNat_lt;refine Pt O$ Pw O$ P4 Xa O$ qV (OS U3 O O ak O)$ qV (XF O O ω ω) ?_;rw[jZ];refine Rt O ?_;rw[show(8-((b1.length%8:Nat):Int))=((8-b1.length%8:Nat):Int) by omega];refine QW O$ Pl O$ qV (ymi O O) ?_;rw[show min (k:Int) ((8-b1.length%8:Nat):Int)=((take:Nat):Int) by omega];have hg:=Ext.Pa w2;refine P3 O$ An$ R0 (λw'=>Ext w2 w') O$ P8 0 O O (hg)$ P8 1 O O (hg)$ P8 2 O O (hg)$ OM 3 O (XG O O ω) hg$ P8 5 O O (hg) ?_;rw[show((k:Int)-(take:Int))=((k-take:Nat):Int) by omega];refine OM 4 O (Us (k-take) D O O (by show k-take<=64;omega) hD) hg ?_;refine OM 6 O (Rj take T O O ω hT) hg ?_;rw[show(1*T)%18446744073709551616=T by omega];refine OM 7 O (Wx (n:=1) O O O (by show T<2^64;omega) ω) hg ?_;refine OM 8 O (Uq O O ω ω) hg ?_;rw[jd];refine OM 9 O (zcR O Rw U5) hg ?_;rw[show v / D%T%256=PF e by rw[HU];exact Nat.mod_eq_of_lt (Nat.lt_of_lt_of_le JF HW.2)];have au:=hg.OH ak;have de:=dc.ext hg;have ag:Ext w2.drew w2.drew.drew:=Ext.Pa w2.drew;refine OM 10 O (Rv O) hg$ qE$ An$ Pk [19] (λw'=>Ext w2.drew w') (by kernel_rfl) O$ PW 0 O O (ag)$ Pr 1 O (Qd O) ag$ Pr 2 O (Px Yi O) ag$ qL 3 O (λ_ h=>OS SL O O (h.OH au) O) ag$ PW 4 O O (ag)$ Pr 5 O (Qd O) ag$ Pr 6 O (Px Yi O) ag$ qL 7 O (λ_ h=>OS SL O O (h.OH au) O) ag$ Pr 8 O (SI SL O) ag$ PW 12 O O (ag) ?_;refine PW 13 O O (ag)$ PW 14 O O (ag)$ Pr 15 O (XG O O ω) ag$ Pr 9 O (XG O O ω) ag ?_;rw[show(((c++[x]).length:Int)-1)=((c.length:Nat):Int) by omega];refine Pr 10 O (Qc SL Y9 O O ω) ag$ qL 11 O (λ_ hS=>PC U5 O O (PY (de.rd.ext hS) (show((c++[x]).map Tz)[c.length]? =some (Tz x) by simp))) ag ?_;rw[show(((8-b1.length%8:Nat):Int)-(take:Int))=((8-b1.length%8-take:Nat):Int) by omega];refine Pr 16 O (zkk (8-b1.length%8-take) R O O ω hR) ag ?_;rw[show PF e*R%256=PF e*R by omega];refine Pr 17 O (zjp O O ω ω) ag$ Pr 18 O (Qc SL Y9 O O ω) ag$ Ty [19]$ qO 19$ PJ (i:=19) O O (RV Y9 O O O (de.ext ag) ξ) ?_;rintro w4 ⟨eA,ar⟩;refine⟨trivial,?_⟩
    rw[show((c++[x]).map Tz).set (0+c.length*1) (.int .u8 ((x.toNat |||PF e*R:Nat):Int))=(c++[y]).map Tz by
     rw[Nat.zero_add,Nat.mul_one,List.map_append,List.map_append,List.set_append_right _ _ ξ]
     simp[Tz,dH]] at eA
    have aM:=ar.OH (ag.OH au) HV;refine qE$ Pt O$ Pw O$ P4 Xa O$ qV (OS U3 O O aM O)$ OT O$ Q4 O$ Pw O$ P4 Xa O$ OY O (QP Qe O O O aM ξ) ?_;rintro w5 ⟨aK,aj⟩;rw[show((b1.length:Int)+(take:Int))=(((b1++e).length:Nat):Int) by rw[List.length_append,pi];omega] at aK;replace aK:OU w5 p [.slice (some ⟨g2,0,none⟩) (c++[x]).length c2,I ((b1++e).length:Int)] 267:=aK
    have gM:=eA.kp aj (λg hg e=>by
                         have:g2=g:=by simpa[Value.ownBlock] using hg
                         omega)
    refine OJ$ OQ O$ Pl O$ Rt O$ P3 O$ OG ?_;rw[show((k:Int)-(take:Int))=((k-take:Nat):Int) by omega];refine(ih (k-take,.slice (some ⟨g2,0,none⟩) (c++[x]).length c2,b1++e) w5 ⟨by dsimp only;omega,⟨aK,?_,dB⟩,?_,?_,sZ⟩ (by dsimp only;omega)).qb
    ·rw[hY];have e1:(c++[y]).length=(c++[x]).length:=by simp
     rw[e1];exact gM
    ·dsimp only;rw[bK,List.append_assoc]
     congr 1
     rw[<-he,show n-(k-take)=(n-k)+take by omega,S4]
     congr 2
     rw[Nat.div_div_eq_div_mul,<-Nat.pow_add,show k-take+take=k by omega]
    ·have lY:Kp (fpW p (.slice (some ⟨g2,0,none⟩) (c++[x]).length c2)) w2 w5:=((hg.trans ag).kp.trans (ar.ON (λi e=> .inr (by rw[e];rfl)))).trans (aj.ON (λi e=> .inl e));exact am.It lY (λi hi=>(sZ i hi).symm)
   case nC=>
    refine OX O (λh0=>?_)$ λh0=>?_
    ·rw[if_pos ω] at hL;refine OQ O$ Pl O$ Pw O$ P4 Yi O$ qV (OS SL O O ai O)$ OP O O (Yx (cs:=[_]) (zs:=[Value.int .u8 0]) SL Y9 O (by kernel_rfl) O O O ψ) ?_;rintro _ w2 ⟨b2,rfl,⟨bN,ae,ak⟩,dc⟩;refine OP O O (pap SL Y9 O ψ O O (dA.sl.ext ae) dc.rd (by intro c hc;simp at hc;subst hc;rfl) (by rw[PE];omega) (by rw[PE];omega)) ?_;rintro bv3 w3 ⟨de,av,lu,-⟩;have au:=av.OH (ae.OH ai) dA.ne;refine Pw O$ P4 Yi O$ OY O (QP z1X O O (X8 de) au ξ) ?_;rintro w4 ⟨aM,ar⟩;replace aM:OU w4 p [bv3,I (b1.length:Int)] 267:=aM;refine OJ ?_
     have fh:bv3.ownBlock≠some p:=λe=>by
      rcases lu p e with e| e
      ·exact dA.ne e
      ·have:=ae.size;omega
     refine(nB _ _ ⟨rfl,bv3,aM,?_,fh,?_,?_⟩).qb
     ·rw[<-hL,List.length_append,List.map_append];exact de.kp ar (λg hg e=>fh (e▸hg))
     ·exact az.It ((ae.kp.trans (av.ON (λk e=> .inr e))).trans (ar.ON (λk e=> .inl e))) (λi hi=>(j0 i hi).symm)
     ·intro i hi;rcases hi with e| e
      ·exact j0 i (.inl e)
      ·rcases lu i e with e| e
       ·exact j0 i (.inr e)
       ·have:=ae.size;exact .inr ω
    ·rw[if_neg ω] at hL;refine OK ?_;exact(nB _ _ ⟨rfl,bv1,ai,by rw[<-hL];exact dA.sl,dA.ne,az,j0⟩).qb
  ·have:k=0:=by omega
   subst this;refine OV O$ Qh func155 O (⟨_,rfl,rfl,_,⟨bv1,?_,λ_=>Iff.rfl⟩,az,j0⟩);rw[bK,Nat.sub_zero,Nat.pow_zero,Nat.div_one] at dA;exact dA
def z9J (v n:Nat)(hn:n<=64)(hv:v<2^n)(w:World):Ps prog 154 [P7 v,I (n:Int)] w λu w'=>u= .bool true/\w'=w:=by
 refine py (e:=[(0,_),(1,_)]) func154 O ntmps154 O O$ qN O$ R3 O$ Uh O$ OT O$ Su (λh1=>?_)$ λh1=>?_
 ·refine QY$ QY$ Ra O$ P3 O$ OI func154 O ?_;exact⟨_,rfl,rfl,rfl⟩
 ·refine Pl O$ qV (Us n (2^n) O O (by show n<=64;omega) O) ?_;rw[Nat.div_eq_of_lt hv];refine Rk O$ PT O$ P3 O$ OI func154 O ?_;exact⟨_,rfl,by simp[Q0],rfl⟩
def Sm (h:YC w p bs F)(v n:Nat)(hn:n<=64)(hv:v<2^n)(hl:bs.length+n<=134217728):
  Ps prog 118 [ptr p 0,P7 v,I (n:Int)] w λu w'=>u=I 0/\WrR p F w w' (bs++Pn n v):=by
 obtain⟨bv,hM,hF⟩:=id h
 have hB:=hM.OH
 refine py (e:=[(0,_),(1,_),(2,_)]) func118 O ntmps118 O O$ QN O$ QO$ Pt O$ qV (Qb z3s O O)$ P3 O$ OR O$ Pt O$ QV O$ OT O$ Su (λh1=>?_)$ λh1=>?_
 ·omega
 ·refine OT O$ QD O$ PT O$ OT O$ Su (λh2=>?_)$ λh2=>?_
  ·omega
  ·refine Pl O$ Pb ziD O (z9J v n hn hv w) ?_;rintro _ w ⟨rfl,rfl⟩;refine qV ((S5 O))$ PT O$ P3 O$ OR O$ QI O$ Pw O$ P4 Xa O$ qV (OS U3 O O hB O)$ Rt O$ QD O$ P3 O$ Pu.qb (e:=[(0,_),(1,_),(2,_),(6,_),(23,_)]) ?_;refine OX O (λh3=>?_)$ λh3=>?_
   ·omega
   ·refine OK$ OG$ QI O$ OT O$ Pb zgm O (zbA h v n hn hv ω) ?_;rintro _ w1 ⟨rfl,hR⟩;refine qM O$ P3 O$ OI func118 O ?_;exact⟨_,rfl,rfl,hR⟩
def X9 (h:YC w p bs F):Ps prog 119 [ptr p 0] w λu w'=>u= .tuple #[S (Pp bs),I 0]/\w'=w:=by
 obtain⟨bv,hM,hF⟩:=h
 have hB:=hM.OH
 have hS:=hM.sl
 refine py (e:=[(0,_)]) func119 O ntmps119 O O$ qN O$ Qr O$ PR O$ qV (Qb z3s O O)$ Qm O$ Pt O$ Pw O$ P4 Yi O$ qV (OS SL O O hB O) ?_
 rcases hS.shape with⟨rfl,h0⟩|⟨g,cap,rfl,kg⟩
 ·have hn:Pp bs=[]:=List.eq_nil_of_length_eq_zero h0;rw[hn];refine qV (zgv SL U5 U9 O)$ Qr O$ OI func119 O ?_;exact⟨_,rfl,rfl,rfl⟩
 ·refine qV (ziu (l:=Pp bs) SL U5 U9 O hS)$ Qr O$ OI func119 O ?_;exact⟨_,rfl,rfl,rfl⟩
def Vx (h:YC w p bs F):Ps prog 122 [ptr p 0] w λu w'=>u=I (bs.length:Int)/\w'=w:=by
 obtain⟨bv,hM,hF⟩:=h
 have hB:=hM.OH
 refine py (e:=[(0,_)]) func122 O ntmps122 O O$ QN O$ PR O$ qV (Qb z3s O O)$ Qm O$ Pt O$ Pw O$ P4 Xa O$ qV (OS U3 O O hB O)$ P3 O$ OI func122 O ?_
 exact⟨_,rfl,rfl,rfl⟩
end
def TS (w:World)(r:Nat)(s:OO)(a:Nat):Prop:=OU w r [S s,I (a:Int)] 301/\a<=8*s.length/\s.length<=1000000000
section
variable {w:World}{r:Nat}{s:OO}{a:Nat}
def Xf (s:OO)(hs:s.length<=1000000000)(w:World):Ps prog 158 [S s] w λv w'=>∃r,v=ptr r 0/\TS w' r s 0/\Ext w w'/\w.heap.size<=r:=by
 refine py (e:=[(0,_)]) func158 O ntmps158 O O$ qN O$ R3 O$ qV (Sh (cs:=[_,_]) zgJ O zgn O O)$ OP O O (R6 O O) ?_
 rintro _ w1 ⟨r,rfl,hr,hx,hB⟩
 refine P3 O$ OI func158 O ?_
 exact⟨_,rfl,r,rfl,⟨hB,Nat.zero_le _,hs⟩,hx,ω⟩
def Ua (h:TS w r s a):Ps prog 197 [ptr r 0] w λv w'=>v=I (a:Int)/\w'=w:=by
 obtain⟨hB,h1,h2⟩:=h
 refine py (e:=[(0,_)]) func197 O ntmps197 O O$ QN O$ PR O$ qV (Qb Vf O O)$ Qm O$ Pt O$ Pw O$ P4 UZ O$ qV (OS U3 O O hB O)$ P3 O$ OI func197 O ?_
 exact⟨_,rfl,rfl,rfl⟩
def z9Q (h:TS w r s a):Ps prog 187 [ptr r 0] w λv w'=>v=I ((8*s.length-a:Nat):Int)/\Ext w w':=by
 obtain⟨hB,h1,h2⟩:=h
 refine py (e:=[(0,_)]) func187 O ntmps187 O O$ QN O$ PR O$ qV (Qb Vf O O) ?_
 have hg:=Ext.Pa w
 refine Qm O$ An$ R0 (λw'=>Ext w w') O$ P8 0 O O (hg)$ OM 1 O (Qd O) hg$ OM 2 O (Px z3d O) hg$ qT 3 O (λ_ h=>OS U9 O O (h.OH hB) O) hg$ OM 4 O (Wh U9 O) hg$ OM 5 O (Y8 O O ω) hg$ P8 6 O O (hg)$ OM 7 O (Qd O) hg$ OM 8 O (Px UZ O) hg$ qT 9 O (λ_ h=>OS U3 O O (h.OH hB) O) hg$ OM 10 O (XG O O ω) hg ?_
 refine OM 11 O (Rv O) hg$ qE$ OI func187 O (⟨_,rfl,?_,hg⟩)
 simp only[Q0]
 congr 1
 omega
def Zs (h:TS w r s a)(k:Nat)(hk:k<=8*s.length):Ps prog 216 [ptr r 0,I (k:Int)] w λv w'=>v=I 0/\TS w' r s k/\Kp (λi=>i=r) w w':=by
 obtain⟨hB,h1,h2⟩:=h
 refine py (e:=[(0,_),(1,_)]) func216 O ntmps216 O O$ QN O$ QO$ Pt O$ qV (Qb Vf O O)$ P3 O$ OR O$ Pt O$ QV O$ OT O$ Su (λc1=>?_)$ λc1=>?_
 ·omega
 ·refine Pl O$ Pw O$ P4 z3d O$ qV (OS U9 O O hB O)$ qV (Wh U9 O)$ qV (Y8 O O ω)$ QD O$ PT O$ P3 O$ OX O (λc2=>?_)$ λc2=>?_
  ·omega
  ·refine OK$ OG$ QI O$ Pw O$ P4 UZ O$ OY O (QP Qe O O O hB ξ) ?_;rintro w1 ⟨ai,az⟩;refine qM O$ P3 O$ OI func216 O ?_;exact⟨_,rfl,rfl,⟨ai,hk,h2⟩,az⟩
def z6D {b2 b6 V n:Nat}(h:TS w r s a)(h2:OU w b2 [ptr r 0] 273)(h6:OU w b6 [P7 V] 39)(hn:1<=n)(t8:n<=8-a%8)(hl:a+n<=8*s.length)(hV:V*2^n+2^n<=18446744073709551616)(d1:b6≠r)(d2:b2≠r)(d3:b2≠b6):
  Ps prog 188 [I (n:Int),ptr b2 0,ptr b6 0] w λu w'=>u= .tuple #[]/\TS w' r s (a+n)/\OU w' b6 [P7 (V*2^n+PF (((Pf s).drop a).take n))] 39/\OU w' b2 [ptr r 0] 273/\Kp (λk=>k=b6\/k=r) w w':=by
 obtain⟨hB,ha,hs⟩:=h
 have jZ:a&&&7=a%8:=Nat.and_two_pow_sub_one_eq_mod a 3
 obtain⟨c,hc⟩:∃c,s[a / 8]? =some c:=⟨_,List.getElem?_eq_getElem ω⟩
 have hp:=z6g hc t8
 obtain⟨pc,lX⟩:∃pc,PF (((Pf s).drop a).take n)=pc:=⟨_,rfl⟩
 have gE:pc<2^n:=by
  rw[<-lX];have h1:=R7 (((Pf s).drop a).take n);rw[List.length_take,List.length_drop,bitsT_length,Nat.min_eq_left ω] at h1;exact h1
 rw[lX] at hp⊢
 have ND:=c.toNat_lt
 obtain⟨rm,B9⟩:∃rm,8-a%8=rm:=⟨_,rfl⟩
 rw[B9] at hp t8
 have jd:c.toNat&&&(2^rm-1)=c.toNat%2^rm:=Nat.and_two_pow_sub_one_eq_mod _ _
 obtain⟨R,hR⟩:∃R,2^rm=R:=⟨_,rfl⟩
 have mW:1<=R/\R<=256:=by
  rw[<-hR];exact⟨Nat.two_pow_pos _,by have:=Nat.pow_le_pow_right (show 0<2 by decide) (show rm<=8 by omega);simpa using this⟩
 rw[hR] at hp jd
 have mX:c.toNat%R<=c.toNat:=Nat.mod_le _ _
 have JG:s.getD (a / 8) 0=c:=by rw[List.getD_eq_getElem?_getD,hc];rfl
 refine py (e:=[(0,_),(1,_),(2,_)]) func188 O ntmps188 O O$ qN O$ qV ((OS Vf O O h2 O))$ Pw O$ P4 UZ O$ qV ((OS U3 O O hB O))$ qV (XF O O ω ω) ?_
 rw[jZ]
 refine Rt O ?_
 rw[show(8-((a%8:Nat):Int))=((rm:Nat):Int) by omega]
 have hg:=Ext.Pa w
 refine P3 O$ An$ R0 (λw'=>Ext w w') O$ qT 0 O (λ_ h=>(OS Vf O O (h.OH h2) O)) hg$ OM 1 O (Qd O) hg$ OM 2 O (Px z3d O) hg$ qT 3 O (λ_ h=>(OS U9 O O (h.OH hB) O)) hg$ qT 4 O (λ_ h=>(OS Vf O O (h.OH h2) O)) hg$ OM 5 O (Qd O) hg$ OM 6 O (Px UZ O) hg$ qT 7 O (λ_ h=>(OS U3 O O (h.OH hB) O)) hg$ OM 8 O (WX O O ω) hg$ P8 11 O O (hg)$ P8 15 O O (hg) ?_
 refine P8 16 O O (hg)$ OM 17 O (XG O O ω) hg ?_
 rw[show((a:Int) / 8)=((a / 8:Nat):Int) by omega]
 refine OM 9 O (zhl U9 O O ω) hg$ OM 10 O ((zbx O U5 U3 ψ)) hg ?_
 rw[JG]
 refine OM 12 O (zjB rm R O O ω hR ω) hg ?_
 rw[show(1*(R:Int))=((R:Nat):Int) by omega]
 refine OM 13 O (XG O O ω) hg ?_
 rw[show((R:Int)-1)=((R-1:Nat):Int) by omega]
 refine OM 14 O (XF O O ω ω) hg ?_
 rw[jd]
 rw[show((rm:Int)-(n:Int))=((rm-n:Nat):Int) by omega]
 refine OM 18 O (Us (rm-n) (2^(rm-n)) O O (by show rm-n<=64;omega) O) hg ?_
 rw[<-hp]
 refine OM 19 O (Rv O) hg$ qE$ Pu.qb (e:=[(0,_),(1,_),(2,_),(5,_)]) ?_
 refine qN O ?_
 have ai:=hg.OH hB
 have JH:=hg.OH h2
 have Ba:=hg.OH h6
 obtain⟨N,hN⟩:∃N,2^n=N:=⟨_,rfl⟩
 rw[hN] at hV gE
 have NE:1<=N:=by rw[<-hN];exact Nat.two_pow_pos _
 obtain⟨M,hM⟩:∃M,V*N=M:=⟨_,rfl⟩
 rw[hM] at hV
 have pj:M |||pc=M+pc:=by
  have:=Nat.two_pow_add_eq_or_of_lt (i:=n) (b:=pc) (by rw[hN];exact gE) V;rw[hN,Nat.mul_comm N V,hM] at this;exact this.symm
 rw[hN,hM]
 have ta:n<=64:=by omega
 refine qV ((OS Rw O O Ba O))$ OT O$ qV (Rj n N O O ta hN) ?_
 rw[hM,Nat.mod_eq_of_lt (show M<18446744073709551616 by omega)]
 refine OT O$ qV ((Qg O U3 Rw ω))$ qV (z1J O O ω ω) ?_
 rw[pj]
 refine OY O (QP Tm O O O Ba ξ) ?_
 rintro w2 ⟨JI,am⟩
 have ak:=am.OH ai (Ne.symm d1)
 have HX:=am.OH JH d3
 refine OJ$ OQ O$ qV ((OS Vf O O HX O))$ Pw O$ P4 UZ O$ qV ((OS U3 O O ak O))$ OT O$ Q4 O$ Pw O$ P4 UZ O$ OY O (QP Qe O O O ak ξ) ?_
 rintro w3 ⟨au,av⟩
 rw[show((a:Int)+(n:Int))=((a+n:Nat):Int) by omega] at au
 refine OJ$ Qh func188 O ?_
 exact⟨_,rfl,rfl,⟨au,hl,hs⟩,av.OH JI d1,av.OH HX d2,(hg.kp.trans (am.ON (λk e=> .inl e))).trans (av.ON (λk e=> .inr e))⟩
def Vt (h:TS w r s a)(n:Nat)(hn:n<=64):
  Ps prog 160 [ptr r 0,I (n:Int)] w λv w'=>(a+n<=8*s.length/\v= .tuple #[P7 (PF (((Pf s).drop a).take n)),I 0]/\TS w' r s (a+n)/\Kp (λk=>k=r) w w')\/(8*s.length<a+n/\v= .tuple #[P7 0,I 4]/\Ext w w'):=by
 have ia:=h.1.lt
 obtain⟨-,ha,hs⟩:=id h
 refine py (e:=[(0,_),(1,_)]) func160 O ntmps160 O O$ qN O$ OP O O (R6 O (cs:=[ptr r 0]) O) ?_
 rintro _ w1 ⟨b2,rfl,bN,ad,ak⟩
 have h1:TS w1 r s a:=⟨ad.OH h.1,h.2⟩
 refine Qr O$ QO$ qN O$ qV (OS Vf O O ak O)$ qV (Qb Vf O O)$ P3 O$ OR O$ Pt O$ QV O$ OT O$ Su (λc1=>?_)$ λc1=>?_
 ·omega
 ·refine OT O$ QD O$ PT O$ P3 O$ OX O (λc2=>?_)$ λc2=>?_
  ·omega
  ·refine Pt O$ qV (OS Vf O O ak O)$ Pb zi5 O (z9Q h1) ?_;rintro _ w2 ⟨rfl,ae⟩;refine QD O$ P3 O$ OX O (λc3=>?_)$ λc3=>?_
   ·refine qN O$ Qr O$ OI func160 O ?_;exact⟨_,rfl,.inr ⟨ω,rfl,ad.trans ae⟩⟩
   ·refine OK$ OG$ qN O$ OP O O (Rz (cs:=[_]) Tm O) ?_;rintro _ w3 ⟨b6,rfl,nD,ah,aX⟩;replace aX:OU w3 b6 [P7 0] 39:=aX;have aZ:=ae.trans ah;have cj:=ad.trans aZ;have nz:=ad.size;have mY:=ae.size;have im:=ak.lt;have ck:a+n<=8*s.length:=by omega
    refine qM O$ qV (ZR (first:=[]) (caps:=[.tmp 2,.tmp 6]) O O)$ P3 O$ QO$ RN (α:=Nat) (n) (λk=>[(1,I (k:Int)),(2,ptr b2 0),(6,ptr b6 0),(7,.func (.func 188) #[] #[ptr b2 0,ptr b6 0])]) (λk w'=>k<=n/\TS w' r s (a+(n-k))/\OU w' b6 [P7 (PF (((Pf s).drop a).take (n-k)))] 39/\OU w' b2 [ptr r 0] 273/\Kp (λi=>i=r) w w') (λk=>k) ?hI ?hround
    case hI=>exact⟨Nat.le_refl _,⟨by rw[Nat.sub_self];exact cj.OH h.1,ω,hs⟩,by rw[Nat.sub_self];exact aX,aZ.OH ak,cj.kp⟩
    case hround=>
     rintro k w4 ⟨hk,fd,tc,HY,ar⟩ ih;have Bb:=fd.1
     try dsimp only
     refine PR O$ QD O$ OJ$ OX O (λaS=>?_)$ λaS=>?_
     ·obtain⟨p,hp⟩:∃p,a+(n-k)=p:=⟨_,rfl⟩;rw[hp] at Bb fd;have jZ:p&&&7=p%8:=Nat.and_two_pow_sub_one_eq_mod p 3;obtain⟨take,nA⟩:∃take,min k (8-p%8)=take:=⟨_,rfl⟩;have sY:1<=take/\take<=k/\take<=8-p%8:=by omega
      refine OK$ OL$ Pt O$ qV ((OS Vf O O HY O))$ Pw O$ P4 UZ O$ qV ((OS U3 O O Bb O))$ qV (XF O O ω ω) ?_;rw[jZ];refine Rt O$ qV (ymi O O) ?_;rw[show min (k:Int) (8-((p%8:Nat):Int))=((take:Nat):Int) by omega];obtain⟨V,hV⟩:∃V,PF (((Pf s).drop a).take (n-k))=V:=⟨_,rfl⟩;rw[hV] at tc
      have xc:V*2^take+2^take<=18446744073709551616:=by
       have h1:=R7 (((Pf s).drop a).take (n-k));rw[hV,List.length_take,List.length_drop,bitsT_length,Nat.min_eq_left ω] at h1;have h2:(V+1)*2^take<=2^(n-k)*2^take:=Nat.mul_le_mul_right _ h1;rw[<-Nat.pow_add,Nat.add_mul,Nat.one_mul] at h2;have h3:=Nat.pow_le_pow_right (show 0<2 by decide) (show n-k+take<=64 by omega);have h4:(2:Nat)^64=18446744073709551616:=by decide
       omega
      refine QW O$ Pl O$ Qw O O (RW zg3 O O) (z6D fd HY tc sY.1 sY.2.2 ω xc ω ω ω) ?_;rintro _ w5 ⟨rfl,lZ,JJ,JK,aj⟩;refine OJ$ OQ O$ Pl O$ Rt O$ P3 O$ OG ?_;rw[show((k:Int)-(take:Int))=((k-take:Nat):Int) by omega];refine(ih (k-take) w5 ⟨ω,?_,?_,JK,?_⟩ ω).qb
      ·rw[show a+(n-(k-take))=p+take by omega];exact lZ
      ·rw[show n-(k-take)=(n-k)+take by omega,List.take_add,RY,hV,List.drop_drop,hp];have hl:(((Pf s).drop p).take take).length=take:=by rw[List.length_take,List.length_drop,bitsT_length];omega
       rw[hl];exact JJ
      ·exact ar.It aj (λi hi=>hi.elim (λe=> .inl ω) .inr)
     ·have:k=0:=by omega
      subst this;rw[Nat.sub_zero] at fd tc;refine OV O$ qN O$ qV (OS Rw O O tc O)$ Qr O$ OI func160 O ?_;exact⟨_,rfl,.inl ⟨ck,rfl,fd,ar⟩⟩
end
def PU (v:Nat):Nat:=if v=0 then 0 else Nat.log2 v+1
def WU {v:Nat}:v<2^PU v:=by
 unfold PU
 split
 ·subst_vars;simp
 ·exact Nat.lt_log2_self
def z0q {v:Nat}(h:v≠0):2^(PU v-1)<=v:=by
 unfold PU
 rw[if_neg h,Nat.add_sub_cancel]
 exact Nat.log2_self_le h
theorem z8n {v n:Nat}(h1:2^n<=v)(h2:v<2^(n+1)):PU v=n+1:=by
 have hp:=Nat.two_pow_pos n
 have h0:v≠0:=by omega
 unfold PU
 rw[if_neg h0]
 have:=(Nat.log2_eq_iff h0).2 ⟨h1,h2⟩
 omega
def R8 {v n:Nat}(h:v<2^n):PU v<=n:=by
 by_cases h0:v=0
 ·subst h0;simp[PU]
 ·have h1:=z0q h0;have h2:2^(PU v-1)<2^n:=by omega
  have h3:=(Nat.pow_lt_pow_iff_right (by decide:1<2)).1 h2;have:PU v≠0:=by unfold PU;rw[if_neg h0];omega
  omega
def RA (v K:Nat):Nat×Nat:=
 let s:=PU (K-1)
 let m:=2^s-K
 if v<m then(v,s-1) else(v+m,s)
def QE (v K:Nat):List Bool:=Pn (RA v K).2 (RA v K).1
def UQ {K:Nat}(hK:1<=K):K<=2^PU (K-1)/\(1<K->1<=PU (K-1)/\2^(PU (K-1)-1)+1<=K):=by
 have h1:=WU (v:=K-1)
 refine⟨ω,λh=>?_⟩
 have h2:=z0q (v:=K-1) ω
 refine⟨?_,ω⟩
 unfold PU
 rw[if_neg ω];omega
def z8A {v K:Nat}(h:v<K):(RA v K).1<2^(RA v K).2:=by
 obtain⟨h1,h2⟩:=UQ (K:=K) ω
 unfold RA
 dsimp only
 split
 ·rename_i hm
  by_cases hK:K=1
  ·subst hK;simp[PU] at hm
  ·obtain⟨h3,h4⟩:=h2 ω;have:2^PU (K-1)=2*2^(PU (K-1)-1):=by rw[<-Nat.pow_succ',show(PU (K-1)-1).succ=PU (K-1) by omega]
   dsimp only;omega
 ·dsimp only;omega
def z5S {v K:Nat}(h:v<K)(hK:1<K)(rest:List Bool):
  let s:=PU (K-1)
  let m:=2^s-K
  1<=s/\s-1<=(QE v K).length/\
  ((PF ((QE v K).take (s-1))<m/\(QE v K).length=s-1/\PF ((QE v K).take (s-1))=v)\/
   (m<=PF ((QE v K).take (s-1))/\(QE v K).length=s/\2*PF ((QE v K).take (s-1))+PF ((QE v K).drop (s-1))=v+m)):=by
 obtain⟨h1,h2⟩:=UQ (K:=K) ω
 obtain⟨h3,h4⟩:=h2 hK
 have h5:2^PU (K-1)=2*2^(PU (K-1)-1):=by rw[<-Nat.pow_succ',show(PU (K-1)-1).succ=PU (K-1) by omega]
 dsimp only
 unfold QE RA
 dsimp only
 refine⟨h3,?_⟩
 split
 ·rename_i hm
  dsimp only;rw[bitsN_length,List.take_of_length_le ξ,Q5,Nat.mod_eq_of_lt ω];exact⟨Nat.le_refl _,.inl ⟨hm,rfl,rfl⟩⟩
 ·rename_i hm
  dsimp only;rw[bitsN_length]
  have e:Pn (PU (K-1)) (v+(2^PU (K-1)-K))=Pn (PU (K-1)-1) ((v+(2^PU (K-1)-K)) / 2^1)++Pn 1 (v+(2^PU (K-1)-K)):=by
   rw[<-S4,show PU (K-1)-1+1=PU (K-1) by omega]
  rw[e,List.take_left' ξ,List.drop_left' ξ,Q5,Q5,Nat.mod_eq_of_lt ω];exact⟨ω,.inr ⟨ω,rfl,ω⟩⟩
inductive Cd where
 |unary
 |gamma
 |zeta (k:Nat)
def Cd.zeros:Cd->Nat->Nat
 | .unary,v=>v
 | .gamma,v=>Nat.log2 (v+1)
 | .zeta k,v=>Nat.log2 (v+1) / k
def Cd.rest:Cd->Nat->List Bool
 | .unary,_=>[]
 | .gamma,v=>Pn (Nat.log2 (v+1)) (v+1-2^Nat.log2 (v+1))
 | .zeta k,v=>let h:=Nat.log2 (v+1) / k;QE (v+1-2^(h*k)) (2^(h*k)*2^k-2^(h*k))
def Cd.enc (c:Cd)(v:Nat):List Bool:=List.replicate (c.zeros v) false++true::c.rest v
def VF {v:Nat}(h:v<=281474976710654):2^Nat.log2 (v+1)<=v+1/\v+1<2^(Nat.log2 (v+1)+1)/\Nat.log2 (v+1)<=47:=by
 have h1:=Nat.log2_self_le (n:=v+1) ω
 have h2:=Nat.lt_log2_self (n:=v+1)
 refine⟨h1,h2,?_⟩
 have h3:2^Nat.log2 (v+1)<2^48:=by
  have:(2:Nat)^48=281474976710656:=by decide
  omega
 have:=(Nat.pow_lt_pow_iff_right (by decide:1<2)).1 h3
 omega
def Y6 {k v:Nat}(hk:1<=k):let h:=Nat.log2 (v+1) / k;2^(h*k)<=v+1/\v+1-2^(h*k)<2^(h*k)*2^k-2^(h*k)/\1<=2^(h*k)*2^k-2^(h*k):=by
 dsimp only
 have h1:=Nat.log2_self_le (n:=v+1) ω
 have h2:=Nat.lt_log2_self (n:=v+1)
 have h3:Nat.log2 (v+1) / k*k<=Nat.log2 (v+1):=Nat.div_mul_le_self _ _
 have h4:Nat.log2 (v+1)+1<=Nat.log2 (v+1) / k*k+k:=by
  have:=Nat.div_add_mod (Nat.log2 (v+1)) k;have:=Nat.mod_lt (Nat.log2 (v+1)) (show 0<k by omega);have e:=Nat.mul_comm k (Nat.log2 (v+1) / k);omega
 have h5:2^(Nat.log2 (v+1) / k*k)<=2^Nat.log2 (v+1):=Nat.pow_le_pow_right ψ h3
 have h6:2^(Nat.log2 (v+1)+1)<=2^(Nat.log2 (v+1) / k*k+k):=Nat.pow_le_pow_right ψ h4
 rw[Nat.pow_add 2 (Nat.log2 (v+1) / k*k) k] at h6
 have h7:2<=2^k:=by
  have:=Nat.pow_le_pow_right (show 0<2 by decide) hk
  simpa using this
 have h8:2^(Nat.log2 (v+1) / k*k)*2<=2^(Nat.log2 (v+1) / k*k)*2^k:=Nat.mul_le_mul_left _ h7
 have h9:=Nat.two_pow_pos (Nat.log2 (v+1) / k*k)
 omega
def Y2 {x k:Nat}(h:2^k<=x):PU x=PU (x / 2^k)+k:=by
 have hk:=Nat.two_pow_pos k
 have hy:x / 2^k≠0:=by have:=Nat.div_pos h hk;omega
 have h1:=z0q hy
 have h2:=WU (v:=x / 2^k)
 have h0:PU (x / 2^k)≠0:=by unfold PU;rw[if_neg hy];omega
 obtain⟨n,hn⟩:∃n,PU (x / 2^k)=n+1:=⟨PU (x / 2^k)-1,ω⟩
 rw[hn] at h1 h2⊢
 rw[Nat.add_sub_cancel] at h1
 have h3:2^(n+k)<=x:=by
  rw[Nat.pow_add];exact Nat.le_trans (Nat.mul_le_mul_right _ h1) (Nat.div_mul_le_self _ _)
 have h4:x<2^(n+k+1):=by
  rw[show n+k+1=(n+1)+k by omega,Nat.pow_add];exact(Nat.div_lt_iff_lt_mul hk).1 h2
 rw[z8n h3 h4];omega
def zeS:OO:=[0,1,2,2,3,3,3,3,4,4,4,4,4,4,4,4,5,5,5,5,5,5,5,5,5,5,5,5,5,5,5,5,6,6,6,6,6,6,6,6,6,6,6,6,6,6,6,6,6,6,6,6,6,6,6,6,6,6,6,6,6,6,6,6,7,7,7,7,7,7,7,7,7,7,7,7,7,7,7,7,7,7,7,7,7,7,7,7,7,7,7,7,7,7,7,7,7,7,7,7,7,7,7,7,7,7,7,7,7,7,7,7,7,7,7,7,7,7,7,7,7,7,7,7,7,7,7,7,8,8,8,8,8,8,8,8,8,8,8,8,8,8,8,8,8,8,8,8,8,8,8,8,8,8,8,8,8,8,8,8,8,8,8,8,8,8,8,8,8,8,8,8,8,8,8,8,8,8,8,8,8,8,8,8,8,8,8,8,8,8,8,8,8,8,8,8,8,8,8,8,8,8,8,8,8,8,8,8,8,8,8,8,8,8,8,8,8,8,8,8,8,8,8,8,8,8,8,8,8,8,8,8,8,8,8,8,8,8,8,8,8,8,8,8,8,8,8,8,8,8,8,8,8,8,8,8]
theorem zan:zeS.length=256:=by decide+kernel
def zki:∀x:Fin 256,(zeS.getD x.val 0).toNat=PU x.val:=by decide+kernel
section
variable {w:World}
def Uk (x:Nat)(hx:x<18446744073709551616)(w:World):Ps prog 156 [P7 x] w λv w'=>v=I (PU x:Int)/\w'=w:=by
 refine py (e:=[(0,_)]) func156 O ntmps156 O O$ QN O$ PR O$ Uh O$ OJ$ PI (λe' w'=>w=w'/\∃x1 n1:Nat,e'=[(0,P7 x1),(2,I (n1:Int))]/\PU x=PU x1+n1/\x1<4294967296/\n1<=32) ?bH$ λbH=>?da
 case bH=>
  rintro e' w' ⟨rfl,x1,n1,rfl,h1,h2,h3⟩;refine PR O$ Uh O$ OJ$ PI (λe' w'=>w=w'/\∃x2 n2:Nat,e'=[(0,P7 x2),(2,I (n2:Int))]/\PU x=PU x2+n2/\x2<65536/\n2<=48) ?aY$ λaY=>?fW
  case aY=>
   rintro e' w' ⟨rfl,x2,n2,rfl,h4,h5,h6⟩;refine PR O$ Uh O$ OJ$ PI (λe' w'=>w=w'/\∃x3 n3:Nat,e'=[(0,P7 x3),(2,I (n3:Int))]/\PU x=PU x3+n3/\x3<256/\n3<=56) ?ao$ λao=>?en
   case ao=>
    rintro e' w' ⟨rfl,x3,n3,rfl,h7,h8,h9⟩;have eE:=zki ⟨x3,h8⟩;dsimp only at eE;have pU:PU x3<=8:=R8 ω;refine QI O$ qV (zcR O Rw U5) ?_;rw[Nat.mod_eq_of_lt h8];refine qV (zhl (l:=zeS) U9 O O (by rw[zan];exact h8)) ?_;rw[eE];refine qV ((PQ O U5 U3 ω))$ Q4 O$ P3 O$ OI func156 O ?_;exact⟨_,rfl,by simp only[Q0];congr 1;omega,rfl⟩
   case en=>
    refine OX O (λhc=>?_)$ λhc=>?_
    ·refine Pt O$ qV (Us 8 256 O O ψ O)$ P3 O$ Rp O$ Q4 O$ P3 O ((ao _ _ ⟨rfl,x2 / 256,n2+8,rfl,?_,?_,?_⟩).qb)
     ·have e1:=Y2 (x:=x2) (k:=8) ω;rw[show x2 / 2^8=x2 / 256 from rfl] at e1;omega
     ·omega
     ·omega
    ·refine OK ?_;exact(ao _ _ ⟨rfl,x2,n2,rfl,h4,ω,ω⟩).qb
  case fW=>
   refine OX O (λhc=>?_)$ λhc=>?_
   ·refine Pt O$ qV (Us 16 65536 O O ψ O)$ P3 O$ Rp O$ Q4 O$ P3 O ((aY _ _ ⟨rfl,x1 / 65536,n1+16,rfl,?_,?_,?_⟩).qb)
    ·have e1:=Y2 (x:=x1) (k:=16) ω;rw[show x1 / 2^16=x1 / 65536 from rfl] at e1;omega
    ·omega
    ·omega
   ·refine OK ?_;exact(aY _ _ ⟨rfl,x1,n1,rfl,h1,ω,ω⟩).qb
 case da=>
  refine OX O (λhc=>?_)$ λhc=>?_
  ·refine Pt O$ qV (Us 32 4294967296 O O ψ O)$ P3 O$ OQ O$ P3 O ((bH _ _ ⟨rfl,x / 4294967296,32,rfl,?_,?_,?_⟩).qb)
   ·exact Y2 (x:=x) (k:=32) ω
   ·omega
   ·omega
  ·refine OK ?_;exact(bH _ _ ⟨rfl,x,0,rfl,ω,ω,ω⟩).qb
/-! ### Codes -/
def Sq:Cd->List Value
 | .unary=>[.int .u8 0,P7 0]
 | .gamma=>[.int .u8 1,P7 0]
 | .zeta k=>[.int .u8 3,P7 k]
abbrev cdV (c:Cd):Value:= .agg (Sq c).toArray
def Cd.Qx:Cd->Prop
 | .zeta k=>1<=k/\k<=16
 |_=>True
def Cd.most:Cd->Nat
 | .unary=>65535
 |_=>281474976710654
def Cd.p0:Cd->Nat->Nat×Nat
 | .unary,_=>(0,0)
 | .gamma,v=>(v+1-2^Nat.log2 (v+1),Nat.log2 (v+1))
 | .zeta k,v=>let h:=Nat.log2 (v+1) / k;RA (v+1-2^(h*k)) (2^(h*k)*2^k-2^(h*k))
def UA (c:Cd)(hc:c.Qx)(w:World):Ps prog 219 [cdV c] w λv w'=>v=I 0/\Ext w w':=by
 cases c with
 | unary =>
   refine py (e:=[(0,_)]) func219 O ntmps219 O O$ qN O$ OP O O (R6 O (cs:=[.int .u8 0,P7 0]) O) ?_;rintro _ w1 ⟨b1,rfl,bK,ad,ai⟩;refine QW O$ P3 O$ An$ qN O$ P4 Sd O$ qV (OS U5 O O ai O)$ OJ$ OL$ An$ qN O$ Rk O$ RP$ P3 O$ OZ O ?_;refine OK$ OZ O$ OQ O$ P4 Xc O$ qV (OS Rw O O ai O)$ Rk O$ RP$ P3 O$ OG$ PR O$ qV ((S5 O))$ Qm O$ QN O$ OI func219 O ?_
   exact⟨_,rfl,rfl,ad⟩
 | gamma =>
   refine py (e:=[(0,_)]) func219 O ntmps219 O O$ qN O$ OP O O (R6 O (cs:=[.int .u8 1,P7 0]) O) ?_;rintro _ w1 ⟨b1,rfl,bK,ad,ai⟩;refine QW O$ P3 O$ An$ qN O$ P4 Sd O$ qV (OS U5 O O ai O)$ OJ$ OL$ An$ qN O$ Rk O$ PO$ P3 O$ OR O ?_;refine qN O$ Rk O$ RP$ P3 O$ OZ O$ OK$ OZ O$ OQ O$ P4 Xc O$ qV (OS Rw O O ai O)$ Rk O$ RP$ P3 O$ OG ?_;refine PR O$ qV ((S5 O))$ Qm O$ QN O$ OI func219 O ?_
   exact⟨_,rfl,rfl,ad⟩
 | zeta k =>
   obtain⟨az,am⟩:1<=k/\k<=16:=hc;refine py (e:=[(0,_)]) func219 O ntmps219 O O$ qN O$ OP O O (R6 O (cs:=[.int .u8 3,P7 k]) O) ?_;rintro _ w1 ⟨b1,rfl,bK,ad,ai⟩;refine QW O$ P3 O$ An$ qN O$ P4 Sd O$ qV (OS U5 O O ai O)$ OJ$ OL$ An$ qN O$ Rk O$ PO$ P3 O$ OR O ?_;refine qN O$ Rk O$ PO$ P3 O$ OR O$ OQ O$ Rk O$ PO$ P3 O$ OR O$ qN O$ Rk O$ RP$ P3 O ?_;refine OZ O$ OQ O$ P4 Xc O$ qV (OS Rw O O ai O)$ Uh O$ RP$ OT O$ P4 Xc O$ qV (OS Rw O O ai O)$ zle O$ RP$ Ra O$ P3 O$ OG ?_;refine PR O$ qV ((S5 O))$ Qm O$ QN O$ OI func219 O ?_;exact⟨_,rfl,rfl,ad⟩
def z2K (c:Cd)(hc:c.Qx)(w:World):Ps prog 220 [cdV c] w λv w'=>v=P7 c.most/\Ext w w':=by
 cases c with
 | unary =>
   refine py (e:=[(0,_)]) func220 O ntmps220 O O$ qN O$ OP O O (R6 O (cs:=[.int .u8 0,P7 0]) O) ?_;rintro _ w1 ⟨b1,rfl,bK,ad,ai⟩;refine P3 O$ QO$ qN O$ qV (Pv (news:=[.int .u8 0,P7 0]) Sr O QJ O (ai.cells (n:=2) O) O)$ Pb z4t O (UA (.unary) hc w1) ?_;rintro _ w2 ⟨rfl,ae⟩;have ak:=ae.OH ai;refine QF O$ PO$ P3 O$ OR O$ qN O$ P4 Sd O$ qV (OS U5 O O ak O)$ Rk O$ RP$ P3 O$ OZ O$ QN O$ OI func220 O ?_
   exact⟨_,rfl,rfl,ad.trans ae⟩
 | gamma =>
   refine py (e:=[(0,_)]) func220 O ntmps220 O O$ qN O$ OP O O (R6 O (cs:=[.int .u8 1,P7 0]) O) ?_;rintro _ w1 ⟨b1,rfl,bK,ad,ai⟩;refine P3 O$ QO$ qN O$ qV (Pv (news:=[.int .u8 1,P7 0]) Sr O QJ O (ai.cells (n:=2) O) O)$ Pb z4t O (UA (.gamma) hc w1) ?_;rintro _ w2 ⟨rfl,ae⟩;have ak:=ae.OH ai;refine QF O$ PO$ P3 O$ OR O$ qN O$ P4 Sd O$ qV (OS U5 O O ak O)$ Rk O$ PO$ P3 O$ OR O$ qN O$ P4 Sd O$ qV (OS U5 O O ak O) ?_;refine Rk O$ PO$ P3 O$ SO O$ OG$ QN O$ OI func220 O ?_
   exact⟨_,rfl,rfl,ad.trans ae⟩
 | zeta k =>
   refine py (e:=[(0,_)]) func220 O ntmps220 O O$ qN O$ OP O O (R6 O (cs:=[.int .u8 3,P7 k]) O) ?_;rintro _ w1 ⟨b1,rfl,bK,ad,ai⟩;refine P3 O$ QO$ qN O$ qV (Pv (news:=[.int .u8 3,P7 k]) Sr O QJ O (ai.cells (n:=2) O) O)$ Pb z4t O (UA (.zeta k) hc w1) ?_;rintro _ w2 ⟨rfl,ae⟩;have ak:=ae.OH ai;refine QF O$ PO$ P3 O$ OR O$ qN O$ P4 Sd O$ qV (OS U5 O O ak O)$ Rk O$ PO$ P3 O$ OR O$ qN O$ P4 Sd O$ qV (OS U5 O O ak O) ?_;refine Rk O$ PO$ P3 O$ SO O$ OG$ QN O$ OI func220 O ?_;exact⟨_,rfl,rfl,ad.trans ae⟩
def zaJ (c:Cd)(v:Nat)(hc:c.Qx)(hv:v<=c.most)(w:World):Ps prog 209 [cdV c,P7 v] w λu w'=>u= .bool true/\Ext w w':=by
 obtain⟨x,y,dH⟩:∃x y,Sq c=[x,y]:=by cases c<;>exact⟨_,_,rfl⟩
 refine py (e:=[(0,_),(1,_)]) func209 O ntmps209 O O$ qN O$ OP O O (R6 O (cs:=Sq c) O) ?_
 rintro _ w1 ⟨b1,rfl,bK,ad,ai⟩
 refine QW O$ qV (Pv (news:=Sq c) Sr O QJ O (ai.cells (n:=2) (by rw[dH];rfl)) (by rw[dH];rfl)) ?_
 refine Pb z4t O (UA c hc w1) ?_
 rintro _ w2 ⟨rfl,ae⟩
 have ak:=ae.OH ai
 refine Rk O$ RP$ Pl O$ qV (Pv (news:=Sq c) Sr O QJ O (ak.cells (n:=2) (by rw[dH];rfl)) (by rw[dH];rfl)) ?_
 refine Pb zel O (z2K c hc w2) ?_
 rintro _ w3 ⟨rfl,ah⟩
 refine zle O$ RP$ Ra O$ P3 O$ OI func209 O ?_
 exact⟨_,rfl,rfl,(ad.trans ae).trans ah⟩
end
section
def z6p (v K:Nat)(hK:1<=K)(hv:v<K)(JL:K<=9223372036854775808)(w:World):Ps prog 221 [P7 v,P7 K] w λu w'=>u= .agg #[P7 (RA v K).1,I ((RA v K).2:Int)]/\Ext w w':=by
 obtain⟨s,hs⟩:∃s,PU (K-1)=s:=⟨_,rfl⟩
 have hf:=UQ hK
 rw[hs] at hf
 obtain⟨h1,h2⟩:=hf
 have e63:(2:Nat)^63=9223372036854775808:=by decide
 have Cc:s<=63:=by rw[<-hs];exact R8 ω
 obtain⟨Q,hQ⟩:∃Q,2^s=Q:=⟨_,rfl⟩
 have Ce:Q<=9223372036854775808:=by
  have:=Nat.pow_le_pow_right (show 0<2 by decide) Cc;omega
 rw[hQ] at h1
 have hP:RA v K=if v<Q-K then(v,s-1) else(v+(Q-K),s):=by unfold RA;rw[hs];dsimp only;rw[hQ]
 refine py (e:=[(0,_),(1,_)]) func221 O ntmps221 O O$ qN O$ OP O O (Rz (cs:=[_,_]) SW O) ?_
 rintro _ w1 ⟨b4,rfl,fX,ad,aM⟩
 refine qM O$ OT O$ qV (Wx (n:=1) O O O (by show K<2^64;omega) hK) ?_
 refine Pb z2B O (Uk (K-1) ω w1) ?_
 rintro _ w1 ⟨rfl,rfl⟩
 rw[hs]
 refine P3 O$ PR O$ qV (Rj s Q O O ω hQ) ?_
 rw[show 1*Q%18446744073709551616=Q by omega]
 refine OT O$ qV (Wx O O O (by show Q<2^64;omega) h1) ?_
 refine QW O$ Pl O$ Uh O$ OJ$ OX O (λkh=>?_)$ λkh=>?_
 ·rw[if_neg ω] at hP;rw[hP];refine QI O$ qV (V7 O O) ?_;rw[Nat.mod_eq_of_lt (show v+(Q-K)<18446744073709551616 by omega)];refine OT O$ qV (Sh (cs:=[_,_]) SW O zav O O)$ OY O (PL (news:=[P7 (v+(Q-K)),I (s:Int)]) SW O O O O aM ξ) ?_;rintro w2 ⟨ak,am⟩;replace ak:OU w2 b4 [P7 (v+(Q-K)),I (s:Int)] 329:=ak;refine OJ$ Po func221 (.cell zbP O SW O (OU.cells (n:=2) ak (news:=[_,_]) O) O .nil) ?_;exact⟨_,rfl,rfl,ad.It am (λi hi=>by omega)⟩
 ·rw[if_pos ω] at hP;rw[hP]
  have HZ:K≠1:=λe=>by
   have e0:s=0:=by rw[<-hs,e];rfl
   have e1:Q=1:=by rw[<-hQ,e0]
   omega
  have ee:1<=s:=(h2 ω).1;refine OK$ QI O$ Rt O ?_;rw[show((s:Int)-1)=((s-1:Nat):Int) by omega];refine qV (Sh (cs:=[_,_]) SW O zav O O)$ OY O (PL (news:=[P7 v,I ((s-1:Nat):Int)]) SW O O O O aM ξ) ?_;rintro w2 ⟨ak,am⟩;replace ak:OU w2 b4 [P7 v,I ((s-1:Nat):Int)] 329:=ak;refine OJ$ Po func221 (.cell zbP O SW O (OU.cells (n:=2) ak (news:=[_,_]) O) O .nil) ?_;exact⟨_,rfl,rfl,ad.It am (λi hi=>by omega)⟩
def z9r (n:Nat)(h:n≠0):PU n-1=Nat.log2 n/\1<=PU n:=by
 unfold PU;rw[if_neg h];exact⟨rfl,ω⟩
def z1v (c:Cd)(v:Nat)(hc:c.Qx)(hv:v<=281474976710654)(w:World):Ps prog 210 [cdV c,P7 v] w λu w'=>u= .tuple #[I (c.zeros v:Int),.agg #[P7 (c.p0 v).1,I ((c.p0 v).2:Int),P7 0,I 0]]/\Ext w w':=by
 obtain⟨l1,l2⟩:=z9r (v+1) ω
 obtain⟨g1,g2,g3⟩:=VF hv
 obtain⟨b,hb⟩:∃b,Nat.log2 (v+1)=b:=⟨_,rfl⟩
 rw[hb] at l1 g1 g2 g3
 obtain⟨Q,hQ⟩:∃Q,2^b=Q:=⟨_,rfl⟩
 rw[hQ] at g1
 have Cf:Q<=281474976710656:=by omega
 obtain⟨x,y,dH⟩:∃x y,Sq c=[x,y]:=by cases c<;>exact⟨_,_,rfl⟩
 refine py (e:=[(0,_),(1,_)]) func210 O ntmps210 O O$ qN O$ OP O O (R6 O (cs:=Sq c) O) ?_
 rintro _ w1 ⟨b2,rfl,bN,ad,ak⟩
 refine SH O$ OP O O (Rz (cs:=[_,_,_,_]) Ut O) ?_
 rintro _ w2 ⟨b5,rfl,gG,ae,aK⟩
 replace aK:OU w2 b5 [P7 0,I 0,P7 0,I 0] 330:=aK
 refine qM O$ OT O$ qV (V7 O O) ?_
 rw[show(v+1)%18446744073709551616=v+1 by omega]
 refine R3 O$ Pb z2B O (Uk (v+1) ω w2) ?_
 rintro _ w2 ⟨rfl,rfl⟩
 refine Rt O ?_
 rw[show((PU (v+1):Int)-1)=((b:Nat):Int) by omega]
 refine QW O$ Pl O$ qV (Rj b Q O O ω hQ) ?_
 rw[show 1*Q%18446744073709551616=Q by omega]
 refine qV (Wx O O O (by show v+1<2^64;omega) g1) ?_
 refine OT O$ qV (Sh (cs:=[_,_]) SW O zav O O)$ OP O O (Rz (cs:=[_,_]) SW O) ?_
 rintro _ w3 ⟨b8,rfl,j3,ah,cu⟩
 refine OY O (PL (news:=[P7 (v+1-Q),I (b:Int)]) SW O O O O cu ξ) ?_
 rintro w4 ⟨te,ar⟩
 replace te:OU w4 b8 [P7 (v+1-Q),I (b:Int)] 329:=te
 have z1:=ad.size
 have z2:=ae.size
 have z3:=ah.size
 have l2':=ak.lt
 have l5':=aK.lt
 have eF:=ar.OH (ah.OH (ae.OH ak)) ω
 have eG:=ar.OH (ah.OH aK) ω
 have cF:Ext w w4:=((ad.trans ae).trans ah).It ar (λi hi=>by omega)
 cases c with
 | unary =>
   replace eF:OU w4 b2 [.int .u8 0,P7 0] 294:=eF;have hg:=Ext.Pa w4;refine OJ$ An$ qN O$ P4 Sd O$ qV (OS U5 O O eF O)$ OJ$ OL$ qN O$ Rk O$ RP$ P3 O$ OZ O$ An$ Pk [4] (λw'=>Ext w4 w') (by kernel_rfl) O ?_;refine PW 0 O O (hg)$ Pr 1 O (PQ O Rw U3 ω) hg$ Pr 3 O (Rv O) hg$ qL 2 O (λ_ h=>Pv (news:=[P7 0,I 0,P7 0,I 0]) z0Y O Ut O ((h.OH eG).cells (n:=4) O) O) hg$ Ty [4]$ qO 4$ PJ (i:=4) O O (PL (news:=[P7 0,I 0,P7 0,I 0]) Ut O O O O (hg.OH eG) ξ) ?_;rintro w5 ⟨aX,aj⟩;refine⟨trivial,?_⟩;replace aX:OU w5 b5 [P7 0,I 0,P7 0,I 0] 330:=aX;refine qE$ Pu.qb (e:=[(1,_),(2,_),(4,_),(5,_)]) ?_;refine Po func210 (.tmp O (.cell z0Y O Ut O (OU.cells (n:=4) aX (news:=[_,_,_,_]) O) O .nil)) ?_
   exact⟨_,rfl,rfl,(cF.trans hg).It aj (λi hi=>by omega)⟩
 | gamma =>
   replace eF:OU w4 b2 [.int .u8 1,P7 0] 294:=eF;have hg:=Ext.Pa w4;refine OJ$ An$ qN O$ P4 Sd O$ qV (OS U5 O O eF O)$ OJ$ OL$ qN O$ Rk O$ PO$ P3 O$ OR O$ qN O$ Rk O ?_;refine RP$ P3 O$ Pu.qb (e:=[(1,_),(2,_),(4,_),(5,_),(6,_),(7,_),(8,_),(24,_),(30,_)]) ?_;refine OZ O$ An$ Pk [4] (λw'=>Ext w4 w') (by kernel_rfl) O$ PW 0 O O (hg)$ Pr 3 O (Rv O) hg$ qL 1 O (λ_ h=>Pv (news:=[P7 (v+1-Q),I (b:Int)]) zbP O SW O ((h.OH te).cells (n:=2) O) O) hg$ Pr 2 O (zch (parts:=[(0,.tmp 33)]) (cs:=[_,_,_,_]) Ut O z0Y SW O O) hg$ Ty [4]$ qO 4$ PJ (i:=4) O O (PL (news:=[P7 (v+1-Q),I (b:Int),P7 0,I 0]) Ut O O O O (hg.OH eG) ξ) ?_;rintro w5 ⟨aX,aj⟩;refine⟨trivial,?_⟩;replace aX:OU w5 b5 [P7 (v+1-Q),I (b:Int),P7 0,I 0] 330:=aX;refine qE$ Po func210 (.tmp O (.cell z0Y O Ut O (OU.cells (n:=4) aX (news:=[_,_,_,_]) O) O .nil)) ?_
   exact⟨_,rfl,by simp[Q0,Cd.zeros,Cd.p0,hb,hQ],(cF.trans hg).It aj (λi hi=>by omega)⟩
 | zeta k =>
   obtain⟨az,am⟩:1<=k/\k<=16:=hc;have f:=Y6 (k:=k) (v:=v) az;dsimp only at f;rw[hb] at f;obtain⟨h,hh⟩:∃h,b / k=h:=⟨_,rfl⟩;obtain⟨m,hm⟩:∃m,h*k=m:=⟨_,rfl⟩;have JM:m<=b:=by rw[<-hm,<-hh];exact Nat.div_mul_le_self _ _
   rw[hh,hm] at f;obtain⟨F,hF⟩:∃F,2^m=F:=⟨_,rfl⟩;obtain⟨G,hG⟩:∃G,2^k=G:=⟨_,rfl⟩;rw[hF,hG] at f;obtain⟨f1,f2,f3⟩:=f;obtain⟨E,hE⟩:∃E,F*G=E:=⟨_,rfl⟩
   have Cg:E<=9223372036854775808:=by
    rw[<-hE,<-hF,<-hG,<-Nat.pow_add];have:=Nat.pow_le_pow_right (show 0<2 by decide) (show m+k<=63 by omega);have e63:(2:Nat)^63=9223372036854775808:=by decide
    omega
   rw[hE] at f2 f3;have Ch:(Cd.zeta k).zeros v=h:=by show Nat.log2 (v+1) / k=h;rw[hb,hh]
   have Ci:(Cd.zeta k).p0 v=RA (v+1-F) (E-F):=by
    show RA (v+1-2^(Nat.log2 (v+1) / k*k)) (2^(Nat.log2 (v+1) / k*k)*2^k-2^(Nat.log2 (v+1) / k*k))=_;rw[hb,hh,hm,hF,hG,hE]
   rw[Ch,Ci];have rM:(h:Int)*(k:Int)=(m:Int):=by rw[<-hm];simp
   have fB:(b:Int) / (k:Int)=(h:Int):=by rw[<-hh];simp
   replace eF:OU w4 b2 [.int .u8 3,P7 k] 294:=eF;refine OJ$ An$ qN O$ P4 Sd O$ qV (OS U5 O O eF O)$ OJ$ OL$ qN O$ Rk O$ PO$ P3 O$ OR O$ qN O$ Rk O ?_;refine PO$ P3 O$ Pu.qb (e:=[(1,_),(2,_),(4,_),(5,_),(6,_),(7,_),(8,_),(24,_),(30,_)]) ?_;refine OR O$ qN O$ Rk O$ PO$ P3 O$ OR O$ qN O$ Rk O$ RP$ P3 O$ OZ O$ qN O$ P4 Xc O$ qV (OS Rw O O eF O) ?_;refine qV (PQ O Rw U3 ω)$ QW O$ Pl O$ qV (WX O O ω) ?_;rw[fB];refine QW O$ Pl O$ qV (Y8 O O (by rw[rM];omega)) ?_;rw[rM];refine qV (Rj m F O O ω hF) ?_;rw[show 1*F%18446744073709551616=F by omega];refine P3 O$ Pu.qb (e:=[(1,_),(2,_),(4,_),(5,_),(6,_),(9,_),(10,_),(11,_)]) ?_;refine QI O$ OT O$ qV (Wx O O O (by show v+1<2^64;omega) f1) ?_;refine Pl O$ qV (Rj k G O O ω hG) ?_;rw[hE,Nat.mod_eq_of_lt (show E<18446744073709551616 by omega)];refine OT O$ qV (Wx O O O (by show E<2^64;omega) ω) ?_;refine Pb zfO O (z6p (v+1-F) (E-F) f3 f2 ω w4) ?_;rintro _ w5 ⟨rfl,aV⟩;refine qV (zch (parts:=[(0,.tmp 69)]) (cs:=[_,_,_,_]) Ut O z0Y SW O O)$ SH O ?_;have xd:=aV.OH eG;refine OY O (PL (news:=[P7 (RA (v+1-F) (E-F)).1,I ((RA (v+1-F) (E-F)).2:Int),P7 0,I 0]) Ut O O O O xd ξ) ?_;rintro w6 ⟨aX,aN⟩;replace aX:OU w6 b5 [P7 (RA (v+1-F) (E-F)).1,I ((RA (v+1-F) (E-F)).2:Int),P7 0,I 0] 330:=aX;refine OJ$ Po func210 (.tmp O (.cell z0Y O Ut O (OU.cells (n:=4) aX (news:=[_,_,_,_]) O) O .nil)) ?_;exact⟨_,rfl,rfl,(cF.trans aV).It aN (λi hi=>by omega)⟩
end
def hiB (w:Nat):Nat->Nat->List Nat->List Bool
 |_,_,[]=>[]
 |len,i,v::r=>List.replicate (v / 2^w+i-len) false++true::hiB w (v / 2^w+i+1) (i+1) r
abbrev Nof (l:List Nat):Prop:=l.Pairwise (·<=·)
def Rx:List Bool->Nat->Option Nat
 |[],_=>none
 |true::l,0=>some 0
 |true::l,k+1=>(Rx l k).map (·+1)
 |false::l,k=>(Rx l k).map (·+1)
theorem UF:∀(z:Nat) (l:List Bool) (k:Nat),Rx (List.replicate z false++l) k=(Rx l k).map (·+z)
 |0,l,k=>by simp
 | z + 1, l, k => by
   rw[List.replicate_succ,List.cons_append,Rx,UF z l k,Option.map_map]
   congr 1
theorem z1s (w:Nat):∀(l:List Nat) (len i k:Nat) (v:Nat),Nof l->l[k]? =some v->(∀x,l.head? =some x->len<=x / 2^w+i)->Rx (hiB w len i l) k=some (v / 2^w+i+k-len)
 |[],len,i,k,v,_,h,_=>by simp at h
 | x :: r, len, i, 0, v, _, h, hl => by
   simp at h;subst h;have:=hl x O;rw[hiB,UF,Rx]
   simp
 | x :: r, len, i, k + 1, v, hn, h, hl => by
   rw[List.getElem?_cons_succ] at h;obtain⟨n1,n2⟩:=List.pairwise_cons.1 hn;have hx:=hl x O;have hxv:x<=v:=n1 v (List.mem_of_getElem? h);have hd:=Nat.div_le_div_right (c:=2^w) hxv
   rw[hiB,UF,Rx,z1s w r _ (i+1) k v n2 h (λy hy=>by
    have hxy:x<=y:=n1 y (by cases r with
     |nil=>simp at hy
     |cons a r=>simp at hy;simp[hy])
    have:=Nat.div_le_div_right (c:=2^w) hxy
    omega)]
   simp;omega
theorem Zv:∀(l:List Bool) (j p m:Nat),Rx l j=some p->Rx (l.drop p) m=(Rx l (j+m)).map (·-p)
 |[],j,p,m,h=>by simp[Rx] at h
 | true :: l, 0, p, m, h => by
   simp[Rx] at h;subst h
   simp
 | true :: l, j + 1, p, m, h => by
   simp only[Rx,Option.map_eq_some_iff] at h;obtain⟨q,hq,rfl⟩:=h;rw[List.drop_succ_cons,Zv l j q m hq,show j+1+m=(j+m)+1 by omega,Rx,Option.map_map]
   congr 1
   funext x;simp
 | false :: l, j, p, m, h => by
   simp only[Rx,Option.map_eq_some_iff] at h;obtain⟨q,hq,rfl⟩:=h;rw[List.drop_succ_cons,Zv l j q m hq,Rx,Option.map_map]
   congr 1
   funext x;simp
theorem Ww:∀(a b:List Bool) (k:Nat),Rx (a++b) k=if k<a.count true then Rx a k else(Rx b (k-a.count true)).map (·+a.length)
 |[],b,k=>by simp
 |true::a,b,0=>by simp[Rx]
 | true :: a, b, k + 1 => by
   rw[List.cons_append,Rx,Ww a b k,List.count_cons_self];split
   ·rename_i h
    rw[if_pos ω,Rx]
   ·rename_i h
    rw[if_neg ω,Option.map_map,show k+1-(a.count true+1)=k-a.count true by omega]
    congr 1
 | false :: a, b, k => by
   rw[List.cons_append,Rx,Ww a b k,List.count_cons_of_ne ψ];split
   ·rw[Rx]
   ·rw[Option.map_map]
    congr 1
def z0x:∀{l:List Bool} {k p:Nat},Rx l k=some p->p<l.length/\l[p]? =some true
 |true::l,0,p,h=>by simp[Rx] at h;subst h;simp
 | true :: l, k + 1, p, h => by
   simp only[Rx,Option.map_eq_some_iff] at h;obtain⟨q,hq,rfl⟩:=h;have:=z0x hq
   simp;exact this
 | false :: l, k, p, h => by
   simp only[Rx,Option.map_eq_some_iff] at h;obtain⟨q,hq,rfl⟩:=h;have:=z0x hq
   simp;exact this
 |[],k,p,h=>by simp[Rx] at h
def z7V (w:Nat):∀(l:List Nat) (len i:Nat),Nof l->(∀x,l.head? =some x->len<=x / 2^w+i)->∀v,l.getLast? =some v->len+(hiB w len i l).length=v / 2^w+i+l.length
 |[],len,i,_,_,v,h=>by simp at h
 | [x], len, i, _, hl, v, h => by
   simp at h;subst h;have:=hl x O
   simp[hiB];omega
 | x :: y :: r, len, i, hn, hl, v, h => by
   obtain⟨n1,n2⟩:=List.pairwise_cons.1 hn;have hx:=hl x O;have hxy:=Nat.div_le_div_right (c:=2^w) (n1 y ξ);have:=z7V w (y::r) (x / 2^w+i+1) (i+1) n2 (λz hz=>by simp at hz;subst hz;omega) v (by simpa using h);rw[hiB,List.length_append,List.length_replicate,List.length_cons];simp only[List.length_cons] at this⊢;omega
theorem XM (z:Nat)(r:List Bool):PF (List.replicate z false++true::r)=2^r.length+PF r:=by
 induction z with
 |zero=>simp[PF]
 |succ z ih=>rw[List.replicate_succ,List.cons_append,PF,ih];simp
theorem z32 (c:Cd)(v:Nat):c.rest v=Pn (c.p0 v).2 (c.p0 v).1:=by cases c<;>rfl
theorem WN (c:Cd)(v:Nat):(c.enc v).length=c.zeros v+1+(c.p0 v).2:=by
 unfold Cd.enc
 rw[List.length_append,List.length_replicate,List.length_cons,z32,bitsN_length];omega
def Cd.z0n (c:Cd):c.most<=281474976710654:=by cases c<;>simp[Cd.most]
theorem VV:∀n:Nat,Pn n 0=List.replicate n false
 |0=>rfl
 |n+1=>by rw[Pn,VV n,List.replicate_succ];simp
theorem z8O (z:Nat):Pn (z+1) 1=List.replicate z false++[true]:=by
 refine YO ξ ?_
 rw[Q5,XM]
 simp[PF]
def WH {c:Cd}{v:Nat}(hc:c.Qx)(hv:v<=c.most):c.zeros v<=65535/\(c.p0 v).2<=63/\(c.p0 v).1<2^(c.p0 v).2:=by
 cases c with
 |unary=>exact⟨hv,by simp[Cd.p0],by simp[Cd.p0]⟩
 | gamma =>
   obtain⟨g1,g2,g3⟩:=VF hv;refine⟨by show Nat.log2 (v+1)<=_;omega,by show Nat.log2 (v+1)<=_;omega,?_⟩;show v+1-2^Nat.log2 (v+1)<2^Nat.log2 (v+1);rw[Nat.pow_succ] at g2
   omega
 | zeta k =>
   obtain⟨az,am⟩:1<=k/\k<=16:=hc;obtain⟨g1,g2,g3⟩:=VF hv;have f:=Y6 (k:=k) (v:=v) az;dsimp only at f;have hd:Nat.log2 (v+1) / k<=Nat.log2 (v+1):=Nat.div_le_self _ _;have hm:Nat.log2 (v+1) / k*k<=Nat.log2 (v+1):=Nat.div_mul_le_self _ _;refine⟨by show Nat.log2 (v+1) / k<=_;omega,?_,?_⟩
   ·show(RA _ _).2<=63
    have h1:PU (2^(Nat.log2 (v+1) / k*k)*2^k-2^(Nat.log2 (v+1) / k*k)-1)<=63:=by
     refine R8 ?_;have h2:=Nat.pow_le_pow_right (show 0<2 by decide) (show Nat.log2 (v+1) / k*k+k<=63 by omega);rw[Nat.pow_add] at h2;have h3:=f.2.2
     revert h2 h3
     generalize 2^(Nat.log2 (v+1) / k*k)*2^k=E
     generalize 2^(Nat.log2 (v+1) / k*k)=F
     intro h2 h3;omega
    unfold RA;dsimp only;split<;>dsimp only<;>omega
   ·exact z8A f.2.1
section
variable {P:Program}{e:Env}{d:Option Nat}{ty t el:TypeId}{pos:String}{aft:Array Edge}{g:Option (Nat×Bool)}{x y:Operand}{w:World}{k:IntKind}{n:Nat}{td:TypeDesc}
def zdj {za:Int}[sV:Th za n]{len size bytes:Nat}{z:Value}{vs:Array Value}(ht:P.underlying t=some (.array len el))(hs:TI P el z size bytes)(hu:P.underlying el=some td)(ha:aggOf td=true)(hx:look e x=some (.agg vs))(hy:look e y=some (.int k za))(hn:n<len):
  Y P e ⟨d,.index t x y,ty,pos,aft,g⟩ (.agg (vs.extract (n*size) (n*size+size))) w w:=fun ρ hρ=>by
 obtain⟨rfl⟩:=sV
 have hs:=hs.size (w:=w)
 simp[execOp,hρ _ _ hx,hρ _ _ hy,Instr.index,asIntOf,run_underlying ht,hn,hs,part,Tc hu,ha]
end
section
def z4D (c:Cd)(v:Nat)(hc:c.Qx)(hv:v<=c.most)(w:World):Ps prog 184 [cdV c,P7 v] w λu w'=>u= .tuple #[I ((c.enc v).length:Int),I 0]/\Ext w w':=by
 obtain⟨x,y,dH⟩:∃x y,Sq c=[x,y]:=by cases c<;>exact⟨_,_,rfl⟩
 obtain⟨q1,q2,-⟩:=WH hc hv
 have hl:=WN c v
 have fA:=c.z0n
 refine py (e:=[(0,_),(1,_)]) func184 O ntmps184 O O$ qN O$ OP O O (R6 O (cs:=Sq c) O) ?_
 rintro _ w1 ⟨b2,rfl,bN,ad,ak⟩
 refine Qr O$ An$ qN O$ qV (Pv (news:=Sq c) Sr O QJ O (ak.cells (n:=2) (by rw[dH];rfl)) (by rw[dH];rfl)) ?_
 refine OT O$ Pb zis O (zaJ c v hc hv w1) ?_
 rintro _ w2 ⟨rfl,ae⟩
 refine qV ((S5 O))$ Qm O$ qN O$ qV (Pv (news:=Sq c) Sr O QJ O ((ae.OH ak).cells (n:=2) (by rw[dH];rfl)) (by rw[dH];rfl)) ?_
 refine OT O$ Pb zdv O (z1v c v hc ω w2) ?_
 rintro _ w3 ⟨rfl,ah⟩
 refine OT O$ SM O$ OP O O (Rz (cs:=[_,_,_,_]) Ut O) ?_
 rintro _ w4 ⟨b7,rfl,m7,aG,bR⟩
 refine SH O$ OY O (PL (news:=[P7 (c.p0 v).1,I ((c.p0 v).2:Int),P7 0,I 0]) Ut O O O O bR ξ) ?_
 rintro w5 ⟨je,aj⟩
 replace je:OU w5 b7 [P7 (c.p0 v).1,I ((c.p0 v).2:Int),P7 0,I 0] 330:=je
 refine qM O$ OT O$ Q4 O$ qV (yia z0Y SW O O ω)$ P4 z0f O$ qV (OS U3 O O je O)$ Q4 O$ qV (yia z0Y SW O O ω)$ P4 z0f O$ qV (OS U3 O O je O)$ Q4 O$ Qr O$ Pu.qb (e:=[(4,_),(5,_)]) ?_
 refine OI func184 O ?_
 have z1:=ad.size
 have z2:=ae.size
 have z3:=ah.size
 refine⟨_,rfl,?_,(((ad.trans ae).trans ah).trans aG).It aj (λi hi=>by omega)⟩
 simp only[Q0]
 congr 4
 omega
def zbH {w:World}{p:Nat}{bs:List Bool}{F:Nat->Prop}(h:YC w p bs F)(c:Cd)(v:Nat)(hc:c.Qx)(hv:v<=c.most)(hl:bs.length+(c.enc v).length<=134217728):
  Ps prog 185 [ptr p 0,cdV c,P7 v] w λu w'=>u=I 0/\WrR p F w w' (bs++c.enc v):=by
 obtain⟨x,y,dH⟩:∃x y,Sq c=[x,y]:=by cases c<;>exact⟨_,_,rfl⟩
 obtain⟨q1,q2,q3⟩:=WH hc hv
 have pi:=WN c v
 have fA:=c.z0n
 refine py (e:=[(0,_),(1,_),(2,_)]) func185 O ntmps185 O O$ qN O$ OP O O (R6 O (cs:=Sq c) O) ?_
 rintro _ w1 ⟨b4,rfl,fX,ad,aM⟩
 refine P3 O$ PR O$ qV (Qb z3s O O)$ Qm O$ qN O$ qV (Pv (news:=Sq c) Sr O QJ O (aM.cells (n:=2) (by rw[dH];rfl)) (by rw[dH];rfl)) ?_
 refine OT O$ Pb zdU O (z4D c v hc hv w1) ?_
 rintro _ w2 ⟨rfl,ae⟩
 refine OT O$ SM O$ Qr O$ QO$ Pt O$ QF O$ P3 O$ OX O (λe0=>?_)$ λe0=>?_
 ·exact absurd O e0
 ·refine QI O$ Pb z2n O (Vx ((h.ext ad).ext ae)) ?_; rintro _ w2 ⟨rfl, rfl⟩; refine Rt O (QD O (P3 O (OX O (λe1 => ?_) (λe1 => ?_))))
  ·omega
  ·refine OK$ OG$ qN O$ qV (Pv (news := Sq c) Sr O QJ O ((ae.OH aM).cells (n := 2) (by rw [dH]; rfl)) (by rw [dH]; rfl)) ?_; refine OT O (Pb zdv O (z1v c v hc ω w2) ?_); rintro _ w3 ⟨rfl, ah⟩; refine OT O (SM O (OP O O (Rz (cs := [_, _, _, _]) Ut O) ?_)); rintro _ w4 ⟨b10, rfl, xe, aG, fG⟩; refine SH O (OY O (PL (news := [P7 (c.p0 v).1, I ((c.p0 v).2 : Int), P7 0, I 0]) Ut O O O O fG ξ) ?_); rintro w5 ⟨lw, aj⟩; replace lw : OU w5 b10 [P7 (c.p0 v).1, I ((c.p0 v).2 : Int), P7 0, I 0] 330 := lw; have z1 := ad.size; have z2 := ae.size; have z3 := ah.size; have bS : Ext w w5 := (((ad.trans ae).trans ah).trans aG).It aj (λi hi => by omega); have z5 := bS.size; have l10 := lw.lt; have ki : ∀ i, F i -> i < w.heap.size := λi hi => h.lt hi
   have I0:∀(F':Nat->Prop),(∀k,F' k->F k\/w5.heap.size<=k)->¬F' b10:=λF' hf e=>by
    rcases hf b10 e with e| e
    ·have:=ki b10 e;omega
    ·omega
   refine OJ$ Pu.qb (e:=[(0,_),(6,_),(9,_),(10,_)]) ?_;refine QO$ RN (α:=Nat×(Nat->Prop)×List Bool) ((c.zeros v,F,bs)) (λx=>[(0,ptr p 0),(9,I (x.1:Int)),(10,ptr b10 0)]) (λx w'=>x.1<=c.zeros v/\YC w' p x.2.2 x.2.1/\x.2.2=bs++List.replicate (c.zeros v-x.1) false/\Kp F w w'/\(∀k,x.2.1 k->F k\/w5.heap.size<=k)/\OU w' b10 [P7 (c.p0 v).1,I ((c.p0 v).2:Int),P7 0,I 0] 330/\w5.heap.size<=w'.heap.size) (λx=>x.1) ?hI ?hround
   case hI=>exact⟨Nat.le_refl _,h.ext bS,ξ,bS.kp,λ_ h=> .inl h,lw,Nat.le_refl _⟩
   case hround =>
    rintro⟨z,F1,b1⟩ w6 ⟨hz,m8,bK,aN,nE,aX,z6⟩ ih;dsimp only at hz m8 bK nE;have fi:b1.length=bs.length+(c.zeros v-z):=by rw[bK,List.length_append,List.length_replicate]
    try dsimp only
    refine PR O$ QD O$ OJ$ OX O (λaS=>?_)$ λaS=>?_
    ·refine OK$ QO$ Rp O$ Pb WE O (Sm m8 0 63 ψ ψ ω) ?_;rintro _ w7 ⟨rfl,F7,pn,aB,po⟩;have bR:=aB.OH aX (I0 F1 nE);have z7:=aB.size;refine OJ$ OG$ Rp O$ Rt O$ P3 O ?_;rw[show((z:Int)-63)=((z-63:Nat):Int) by omega];refine(ih (z-63,F7,b1++Pn 63 0) w7 ⟨by dsimp only;omega,pn,?_,?_,?_,bR,ω⟩ (by dsimp only;omega)).qb
     ·dsimp only;rw[bK,VV,List.append_assoc,List.replicate_append_replicate,show c.zeros v-z+63=c.zeros v-(z-63) by omega]
     ·exact aN.It aB (λi hi=>(nE i hi).elim .inr (λe=> .inl ω))
     ·intro i hi;rcases po i hi with e| e
      ·exact nE i e
      ·exact .inr ω
    ·refine OV O$ PR O$ Uh O$ OJ$ OX O (λg0=>?_)$ λg0=>?_
     ·refine OQ O$ Pl O$ Q4 O ?_;rw[show((z:Int)+1)=((z+1:Nat):Int) by omega];refine Pb WE O (Sm m8 1 (z+1) ω (by have:=Nat.pow_le_pow_right (show 0<2 by decide) (show 1<=z+1 by omega);omega) ω) ?_;rintro _ w7 ⟨rfl,F7,pn,aB,po⟩;have bR:=aB.OH aX (I0 F1 nE);have z7:=aB.size;have dN:Kp F w w7:=aN.It aB (λi hi=>(nE i hi).elim .inr (λe=> .inl ω));have Cj:∀i,F7 i->F i\/w5.heap.size<=i:=λi hi=>(po i hi).elim (nE i) (λe=> .inr ω)
      have m7:b1++Pn (z+1) 1=bs++(List.replicate (c.zeros v) false++[true]):=by
       rw[bK,z8O,List.append_assoc]
       congr 1
       rw[<-List.append_assoc,List.replicate_append_replicate,show c.zeros v-z+z=c.zeros v by omega]
      rw[m7] at pn;clear ih;refine OJ$ An$ qN O$ qV (Pv (news:=[P7 (c.p0 v).1,I ((c.p0 v).2:Int),P7 0,I 0]) z0Y O Ut O (bR.cells (n:=4) O) O)$ OT O$ OJ$ OL$ RN (α:=Nat×(Nat->Prop)×List Bool) ((0,F7,bs++(List.replicate (c.zeros v) false++[true]))) (λx=>[(0,ptr p 0),(49,.agg #[P7 (c.p0 v).1,I ((c.p0 v).2:Int),P7 0,I 0]),(50,I (x.1:Int))]) (λx w'=>x.1<=2/\YC w' p x.2.2 x.2.1/\x.2.2=(bs++(List.replicate (c.zeros v) false++[true]))++(if x.1=0 then [] else c.rest v)/\Kp F w w'/\(∀k,x.2.1 k->F k\/w5.heap.size<=k)/\w5.heap.size<=w'.heap.size) (λx=>2-x.1) ?hI ?hround
      case hI=>exact⟨by dsimp only;omega,pn,ξ,dN,Cj,ω⟩
      case hround=>
       rintro⟨i,F8,b8⟩ w8 ⟨hi,tf,j3,aL,vQ,z8⟩ ih;dsimp only at hi tf j3 vQ
       try dsimp only
       refine qN O$ QV O$ OJ$ An$ OX O (λpV=>?_)$ λpV=>?_
       ·have xh:b8.length<=bs.length+(c.zeros v+1)+(if i=0 then 0 else(c.p0 v).2):=by
         rw[j3];simp only[List.length_append,List.length_replicate,List.length_cons,List.length_nil];split
         ·simp
         ·rw[z32,bitsN_length];omega
        refine OK$ QO$ qN O ?_;rcases (show i=0\/i=1 by omega) with rfl|rfl
        ·rw[if_pos O] at xh j3;refine qV (zdj (n:=0) z0Y SW zbP O O O ψ) ?_;rw[show(#[P7 (c.p0 v).1,I ((c.p0 v).2:Int),P7 0,I 0]:Array Value).extract (0*2) (0*2+2)=#[P7 (c.p0 v).1,I ((c.p0 v).2:Int)] from rfl];refine OP O O (Rz (cs:=[_,_]) SW O) ?_;rintro _ w9 ⟨b12,rfl,Ck,fH,aW⟩;refine OY O (PL (news:=[P7 (c.p0 v).1,I ((c.p0 v).2:Int)]) SW O O O O aW ξ) ?_;rintro w10 ⟨eH,aA⟩;replace eH:OU w10 b12 [P7 (c.p0 v).1,I ((c.p0 v).2:Int)] 329:=eH;have z9:=fH.size;have fY:Ext w8 w10:=fH.It aA (λi hi=>by omega);have z10:=fY.size;refine OJ$ Rp O$ P4 z7l O$ qV (OS Rw O O eH O)$ P4 z0f O$ qV (OS U3 O O eH O)$ Pb WE O (Sm (tf.ext fY) (c.p0 v).1 (c.p0 v).2 ω q3 ω) ?_;rintro _ w11 ⟨rfl,F11,th,bu,ti⟩;have jf:=fY.kp.trans bu;refine OJ$ OG$ OQ O$ Q4 O$ OT O$ OJ ((ih (1,F11,b8++Pn (c.p0 v).2 (c.p0 v).1) w11 ⟨by dsimp only;omega,th,?_,?_,?_,?_⟩ (by dsimp only;omega)).qb)
         ·dsimp only;rw[j3];rw[List.append_nil,if_neg ψ,z32]
         ·exact aL.It jf (λi hi=>(vQ i hi).elim .inr (λe=> .inl ω))
         ·intro i hi;rcases ti i hi with e| e
          ·exact vQ i e
          ·exact .inr ω
         ·have:=jf.size;omega
        ·rw[if_neg ψ] at xh j3;refine qV (zdj (n:=1) z0Y SW zbP O O O ψ) ?_;rw[show(#[P7 (c.p0 v).1,I ((c.p0 v).2:Int),P7 0,I 0]:Array Value).extract (1*2) (1*2+2)=#[P7 0,I 0] from rfl];refine OP O O (Rz (cs:=[_,_]) SW O) ?_;rintro _ w9 ⟨b12,rfl,Ck,fH,aW⟩;refine OY O (PL (news:=[P7 0,I 0]) SW O O O O aW ξ) ?_;rintro w10 ⟨eH,aA⟩;replace eH:OU w10 b12 [P7 0,I 0] 329:=eH;have z9:=fH.size;have fY:Ext w8 w10:=fH.It aA (λi hi=>by omega);have z10:=fY.size;refine OJ$ Rp O$ P4 z7l O$ qV (OS Rw O O eH O)$ P4 z0f O$ qV (OS U3 O O eH O)$ Pb WE O (Sm (tf.ext fY) 0 0 ω ψ ω) ?_;rintro _ w11 ⟨rfl,F11,th,bu,ti⟩;have jf:=fY.kp.trans bu;refine OJ$ OG$ OQ O$ Q4 O$ OT O$ OJ ((ih (2,F11,b8++Pn 0 0) w11 ⟨by dsimp only;omega,th,?_,?_,?_,?_⟩ (by dsimp only;omega)).qb)
         ·dsimp only;rw[j3];rw[if_neg ψ];simp[Pn]
         ·exact aL.It jf (λi hi=>(vQ i hi).elim .inr (λe=> .inl ω))
         ·intro i hi;rcases ti i hi with e| e
          ·exact vQ i e
          ·exact .inr ω
         ·have:=jf.size;omega
       ·have:i=2:=by omega
        subst this;rw[if_neg ψ] at j3;refine OV O$ QN O$ OI func185 O (⟨_,rfl,rfl,F8,?_,aL,λi hi=>(vQ i hi).imp id (λe=>by omega)⟩);rw[j3] at tf;unfold Cd.enc
        simpa using tf
     ·omega
end
structure RgM (w:World)(x r:Nat)(s:OO)(a:Nat):Prop where
 OH:OU w x [ptr r 0,.bool false] 353
 rd:TS w r s a
 ne:x≠r
def RgM.ext {w w':World}{x r:Nat}{s:OO}{a:Nat}(h:RgM w x r s a)(k:Ext w w'):RgM w' x r s a:=⟨k.OH h.OH,⟨k.OH h.rd.1,h.rd.2⟩,h.ne⟩
section
variable {w:World}{x r:Nat}{s:OO}{a:Nat}
def WQ (h:RgM w x r s a)(n:Nat)(hn:n<=64)(hl:a+n<=8*s.length):
  Ps prog 241 [ptr x 0,I (n:Int)] w λv w'=>v=P7 (PF (((Pf s).drop a).take n))/\RgM w' x r s (a+n)/\Kp (λk=>k=x\/k=r) w w':=by
 obtain⟨hB,hR,bD⟩:=h
 refine py (e:=[(0,_),(1,_)]) func241 O ntmps241 O O$ qN O$ R3 O$ Pw O$ P4 zcO O$ qV (OS Vf O O hB O)$ OT O$ Pb z4q O (Vt hR n hn) ?_
 rintro v1 w1 fI
 obtain⟨rfl,io,az⟩:v1= .tuple #[P7 (PF (((Pf s).drop a).take n)),I 0]/\TS w1 r s (a+n)/\Kp (λk=>k=r) w w1:=by
  rcases fI with⟨-,h⟩|⟨h,-⟩
  ·exact h
  ·omega
 have ai:=az.OH hB bD
 refine OT O$ SM O$ SH O$ QW O$ Pl O$ Pw O$ P4 z0A O$ qV (OS U4 O O ai O)$ Pl O$ QF O$ PO$ PT O$ Pw O$ P4 z0A O ?_
 refine OY O (QP UH O O O ai ξ) ?_
 rintro w2 ⟨ak,am⟩
 replace ak:OU w2 x [ptr r 0,.bool false] 353:=ak
 refine OJ$ Pu.qb (e:=[(4,_),(5,_)]) ?_
 refine Pt O$ P3 O$ OI func241 O ?_
 exact⟨_,rfl,rfl,⟨ak,⟨am.OH io.1 (Ne.symm bD),io.2⟩,bD⟩,(az.ON (λk e=> .inr e)).trans (am.ON (λk e=> .inl e))⟩
def XZ (h:RgM w x r s a)(z most:Nat)(rest:List Bool)(hb:(Pf s).drop a=List.replicate z false++true::rest)(hz:z<=most)(hm:most<=65535):
  Ps prog 239 [ptr x 0,I (most:Int)] w λv w'=>v=I (z:Int)/\RgM w' x r s (a+z+1)/\Kp (λk=>k=x\/k=r) w w':=by
 have aJ:a+z+1<=8*s.length:=by
  have:=congrArg List.length hb;rw[List.length_drop,bitsT_length,List.length_append,List.length_replicate,List.length_cons] at this;omega
 refine py (e:=[(0,_),(1,_)]) func239 O ntmps239 O O$ QN O$ An$ QN O$ OL$ RN (α:=Nat) (0) (λn=>[(0,ptr x 0),(1,I (most:Int)),(5,I (n:Int))]) (λn w'=>n<=z/\RgM w' x r s (a+n)/\Kp (λk=>k=x\/k=r) w w') (λn=>z-n) ?hI ?hround
 case hI=>exact⟨Nat.zero_le _,h,Kp.refl _ _⟩
 case hround=>
  rintro n w1 ⟨hn,h1,az⟩ ih;have ai:=h1.OH
  have hd:(Pf s).drop (a+n)=List.replicate (z-n) false++true::rest:=by
   rw[<-List.drop_drop,hb,List.drop_append_of_le_length (by simp;omega),List.drop_replicate]
  try dsimp only
  refine An$ QI O$ zle O$ OT O$ Su (λc1=>?_)$ λc1=>?_
  ·have hv:PF (((Pf s).drop (a+n)).take 1)=if n=z then 1 else 0:=by
    rw[hd];by_cases e:n=z
    ·subst e;rw[Nat.sub_self,if_pos O];rfl
    ·rw[if_neg e,show z-n=(z-n-1)+1 by omega,List.replicate_succ];rfl
   refine OT O$ Pw O$ P4 z0A O$ qV (OS U4 O O ai O)$ qV ((S5 O))$ Ra O$ OJ$ OZ O$ OK$ QO$ Pt O$ Pb z83 O (WQ h1 1 ψ ω) ?_;rintro _ w2 ⟨rfl,h2,am⟩;rw[hv];refine Rk O$ OJ$ OX O (λc2=>?_)$ λc2=>?_
   ·have I1:n=z:=by
     by_cases e:n=z
     ·exact e
     ·rw[if_neg e] at c2;simp at c2
    subst I1;refine Pt O$ P3 O$ OI func239 O ?_;exact⟨_,rfl,rfl,h2,az.trans am⟩
   ·have I1:n≠z:=λe=>by rw[if_pos e] at c2;simp at c2
    refine OK$ OG$ Rp O$ Q4 O$ P3 O ?_;exact(ih (n+1) w2 ⟨ω,by rw[<-Nat.add_assoc];exact h2,az.trans am⟩ ω).qb
  ·omega
def z6Y (h:RgM w x r s a)(z q:Nat)(rest:List Bool)(hb:(Pf s).drop a=List.replicate z false++true::(Pn z q++rest))(hq:q<2^z)(hz:z<=47):
  Ps prog 240 [ptr x 0,I 47] w λv w'=>v=P7 (q+2^z-1)/\RgM w' x r s (a+z+1+z)/\Kp (λk=>k=x\/k=r) w w':=by
 have aJ:a+z+1+z<=8*s.length:=by
  have:=congrArg List.length hb;rw[List.length_drop,bitsT_length,List.length_append,List.length_replicate,List.length_cons,List.length_append,bitsN_length] at this;omega
 have hd:(Pf s).drop (a+z+1)=Pn z q++rest:=by
  rw[show a+z+1=a+(z+1) by omega,<-List.drop_drop,hb];rw[<-List.drop_drop,List.drop_left' ξ];rfl
 have hv:PF (((Pf s).drop (a+z+1)).take z)=q:=by
  rw[hd,List.take_left' ξ,Q5,Nat.mod_eq_of_lt hq]
 obtain⟨Q,hQ⟩:∃Q,2^z=Q:=⟨_,rfl⟩
 rw[hQ] at hq⊢
 have Cf:1<=Q/\Q<=281474976710656:=by
  rw[<-hQ];exact⟨Nat.two_pow_pos _,by have:=Nat.pow_le_pow_right (show 0<2 by decide) (show z<=48 by omega);simpa using this⟩
 refine py (e:=[(0,_),(1,_)]) func240 O ntmps240 O O$ qN O$ QW O$ Pl O$ Pb zbg O (XZ h z 47 _ hb hz ψ) ?_
 rintro _ w1 ⟨rfl,h1,az⟩
 have hg:=Ext.Pa w1
 refine P3 O$ An$ R0 (λw'=>Kp (λk=>k=x\/k=r) w1 w') O$ P8 0 O O (hg.kp)$ P8 1 O O (hg.kp)$ P8 3 O O (hg.kp)$ OM 4 O (Rj z Q O O ω hQ) (hg.kp) ?_
 rw[show 1*Q%18446744073709551616=Q by omega]
 refine S1 2 O z83 O (WQ (h1.ext hg) z ω ω) ?_
 rintro _ w2 ⟨rfl,h2,am⟩
 refine⟨hg.kp.trans am,?_⟩
 rw[hv]
 refine OM 5 O (V7 O O) (hg.kp.trans am) ?_
 rw[show(q+Q)%18446744073709551616=q+Q by omega]
 refine OM 6 O (Wx (n:=1) O O O (by show q+Q<2^64;omega) ω) (hg.kp.trans am) ?_
 refine OM 7 O (Rv O) (hg.kp.trans am)$ qE$ OI func240 O ?_
 exact⟨_,rfl,rfl,h2,az.trans (hg.kp.trans am)⟩
def z6k (h:RgM w x r s a)(v K:Nat)(rest:List Bool)(hb:(Pf s).drop a=QE v K++rest)(hv:v<K)(JL:K<=9223372036854775808):
  Ps prog 242 [ptr x 0,P7 K] w λu w'=>u=P7 v/\RgM w' x r s (a+(QE v K).length)/\Kp (λk=>k=x\/k=r) w w':=by
 have aJ:a+(QE v K).length<=8*s.length:=by
  have:=congrArg List.length hb;have ha:=h.rd.2.1;rw[List.length_drop,bitsT_length,List.length_append] at this;omega
 refine py (e:=[(0,_),(1,_)]) func242 O ntmps242 O O$ qN O$ R3 O$ qV (Wx (n:=1) O O O (by show K<2^64;omega) ω) ?_
 refine Pb z2B O (Uk (K-1) ω w) ?_
 rintro _ w ⟨rfl,rfl⟩
 refine P3 O$ PR O$ Rk O$ OJ ?_
 by_cases HZ:K=1
 ·subst HZ;have vR:v=0:=by omega
  subst vR;rw[show PU (1-1)=0 from rfl];refine OX O (λc0=>?_)$ λc0=>?_
  ·refine QN O$ OI func242 O ?_;exact⟨_,rfl,rfl,h,Kp.refl _ _⟩
  ·exact absurd O c0
 ·have f:=z5S hv ω rest;dsimp only at f;obtain⟨n,hn⟩:∃n,PU (K-1)=n:=⟨_,rfl⟩;rw[hn] at f⊢;have g:=UQ (K:=K) ω;rw[hn] at g;obtain⟨Q,hQ⟩:∃Q,2^n=Q:=⟨_,rfl⟩;rw[hQ] at f g;obtain⟨f1,f2,f3⟩:=f
  have Cm:n<=63:=by
   rw[<-hn];have e63:(2:Nat)^63=9223372036854775808:=by decide
   exact R8 ω
  have Ce:Q<=9223372036854775808:=by
   rw[<-hQ];have:=Nat.pow_le_pow_right (show 0<2 by decide) Cm;have e63:(2:Nat)^63=9223372036854775808:=by decide
   omega
  have t1:((Pf s).drop a).take (n-1)=(QE v K).take (n-1):=by rw[hb,List.take_append_of_le_length f2]
  obtain⟨u,hu⟩:∃u,PF ((QE v K).take (n-1))=u:=⟨_,rfl⟩
  have tp:u<Q:=by
   have h1:=R7 ((QE v K).take (n-1));rw[hu,List.length_take] at h1;have h2:=Nat.pow_le_pow_right (show 0<2 by decide) (show min (n-1) (QE v K).length<=n by omega);omega
  rw[hu] at f3;refine OX O (λc0=>?_)$ λc0=>?_
  ·omega
  ·refine OK$ Pt O$ qV (Rj n Q O O ω hQ) ?_;rw[show 1*Q%18446744073709551616=Q by omega];refine OT O$ qV (Wx O O O (by show Q<2^64;omega) g.1) ?_;refine QW O$ Pl O$ Rt O ?_;rw[show((n:Int)-1)=((n-1:Nat):Int) by omega];refine Pb z83 O (WQ h (n-1) ω ω) ?_;rintro _ w1 ⟨rfl,h1,az⟩;rw[t1,hu];refine P3 O$ An$ QI O$ Uh O$ OJ$ OX O (λc1=>?_)$ λc1=>?_
   ·obtain⟨m1,m2,m3⟩:Q-K<=u/\(QE v K).length=n/\2*u+PF ((QE v K).drop (n-1))=v+(Q-K):=by
     rcases f3 with⟨e,-⟩| e
     ·omega
     ·exact e
    have t2:((Pf s).drop (a+(n-1))).take 1=(QE v K).drop (n-1):=by
     rw[<-List.drop_drop,hb,List.drop_append_of_le_length f2,List.take_append_of_le_length (by rw[List.length_drop];omega),List.take_of_length_le (by rw[List.length_drop];omega)]
    have nF:PF ((QE v K).drop (n-1))<2:=by
     have:=R7 ((QE v K).drop (n-1));rw[List.length_drop,m2,show n-(n-1)=1 by omega] at this;exact this
    refine Rp O$ qV (Rj 1 2 O O ψ O) ?_;rw[show u*2%18446744073709551616=u*2 by omega];refine OT O$ Pb z83 O (WQ h1 1 ψ ω) ?_;rintro _ w2 ⟨rfl,h2,am⟩;rw[t2];refine qV (V7 O O) ?_;rw[show(u*2+PF ((QE v K).drop (n-1)))%18446744073709551616=v+(Q-K) by omega];refine OT O$ qV (Wx O O O (by show v+(Q-K)<2^64;omega) ω) ?_;rw[show v+(Q-K)-(Q-K)=v by omega];refine P3 O$ Pu.qb (e:=[(4,_),(7,_)]) ?_;refine Pt O$ P3 O$ OI func242 O ?_;rw[m2];exact⟨_,rfl,rfl,by rw[show a+n=a+(n-1)+1 by omega];exact h2,az.trans am⟩
   ·obtain⟨m1,m2,m3⟩:u<Q-K/\(QE v K).length=n-1/\u=v:=by
     rcases f3 with e|⟨e,-⟩
     ·exact e
     ·omega
    refine OK$ Pt O$ P3 O$ OI func242 O ?_;rw[m2];exact⟨_,rfl,by rw[m3];rfl,h1,az⟩
end
section
variable {w:World}{x r:Nat}{s:OO}{a:Nat}
def z4M (h:RgM w x r s a)(c:Cd)(v:Nat)(hc:c.Qx)(hv:v<=c.most)(rest:List Bool)(hb:(Pf s).drop a=c.enc v++rest):
  Ps prog 231 [ptr x 0,cdV c] w λu w'=>u=P7 v/\RgM w' x r s (a+(c.enc v).length)/\Kp (λk=>k=x\/k=r) w w':=by
 have pi:=WN c v
 have cE:=h.OH.lt
 have ia:=h.rd.1.lt
 have aJ:a+(c.enc v).length<=8*s.length:=by
  have:=congrArg List.length hb;have ha:=h.rd.2.1;rw[List.length_drop,bitsT_length,List.length_append] at this;omega
 unfold Cd.enc at hb
 rw[List.append_assoc,List.cons_append] at hb
 cases c with
 | unary =>
   refine py (e:=[(0,_),(1,_)]) func231 O ntmps231 O O$ qN O$ OP O O (R6 O (cs:=[.int .u8 0,P7 0]) O) ?_;rintro _ w1 ⟨b3,rfl,dI,ad,au⟩;refine P3 O$ An$ qN O$ P4 Sd O$ qV (OS U5 O O au O)$ OJ$ OL$ qN O$ Rk O$ RP$ P3 O$ OZ O$ Pt O$ Pb zbg O (XZ (h.ext ad) v 65535 rest hb hv ψ) ?_;rintro _ w2 ⟨rfl,h2,am⟩;have jg:v<=65535:=hv;refine qV ((Qg O U3 Rw ω))$ P3 O$ OI func231 O (⟨_,rfl,rfl,?_,ad.kp.trans am⟩);have e:(Cd.enc .unary v).length=v+1:=by rw[pi];rfl
   rw[e];exact h2
 | gamma =>
   obtain⟨g1,g2,g3⟩:=VF hv;obtain⟨z,hz⟩:∃z,Nat.log2 (v+1)=z:=⟨_,rfl⟩;rw[hz] at g1 g2 g3;rw[Nat.pow_succ] at g2
   have gN:(Pf s).drop a=List.replicate z false++true::(Pn z (v+1-2^z)++rest):=by
    rw[hb];show List.replicate (Nat.log2 (v+1)) false++true::(Pn (Nat.log2 (v+1)) (v+1-2^Nat.log2 (v+1))++rest)=_;rw[hz]
   have e:(Cd.enc .gamma v).length=z+1+z:=by rw[pi];show Nat.log2 (v+1)+1+Nat.log2 (v+1)=_;rw[hz]
   refine py (e:=[(0,_),(1,_)]) func231 O ntmps231 O O$ qN O$ OP O O (R6 O (cs:=[.int .u8 1,P7 0]) O) ?_;rintro _ w1 ⟨b3,rfl,dI,ad,au⟩;refine P3 O$ An$ qN O$ P4 Sd O$ qV (OS U5 O O au O)$ OJ$ OL$ qN O$ Rk O$ PO$ P3 O$ OR O$ qN O$ Rk O ?_;refine RP$ P3 O$ OZ O$ Pt O$ Pb ziL O (z6Y (h.ext ad) z (v+1-2^z) rest gN ω g3) ?_;rintro _ w2 ⟨rfl,h2,am⟩;rw[show v+1-2^z+2^z-1=v by omega];refine P3 O$ OI func231 O (⟨_,rfl,rfl,?_,ad.kp.trans am⟩)
   rw[e,show a+(z+1+z)=a+z+1+z by omega];exact h2
 | zeta k =>
   obtain⟨az,am⟩:1<=k/\k<=16:=hc;obtain⟨g1,g2,g3⟩:=VF hv;have f:=Y6 (k:=k) (v:=v) az;dsimp only at f;obtain⟨b,tq⟩:∃b,Nat.log2 (v+1)=b:=⟨_,rfl⟩;rw[tq] at f g1 g2 g3;obtain⟨z,hz⟩:∃z,b / k=z:=⟨_,rfl⟩;obtain⟨m,hm⟩:∃m,z*k=m:=⟨_,rfl⟩;have JM:m<=b:=by rw[<-hm,<-hz];exact Nat.div_mul_le_self _ _
   have Cn:z<=47 / k:=by rw[<-hz];exact Nat.div_le_div_right g3
   have NF:47 / k<=47:=Nat.div_le_self _ _;rw[hz,hm] at f
   have gN:(Pf s).drop a=List.replicate z false++true::(QE (v+1-2^m) (2^m*2^k-2^m)++rest):=by
    rw[hb];show List.replicate (Nat.log2 (v+1) / k) false++true::(QE (v+1-2^(Nat.log2 (v+1) / k*k)) (2^(Nat.log2 (v+1) / k*k)*2^k-2^(Nat.log2 (v+1) / k*k))++rest)=_;rw[tq,hz,hm]
   obtain⟨F,hF⟩:∃F,2^m=F:=⟨_,rfl⟩;obtain⟨G,hG⟩:∃G,2^k=G:=⟨_,rfl⟩;rw[hF,hG] at f gN;obtain⟨f1,f2,f3⟩:=f;obtain⟨E,hE⟩:∃E,F*G=E:=⟨_,rfl⟩
   have Cg:E<=9223372036854775808:=by
    rw[<-hE,<-hF,<-hG,<-Nat.pow_add];have:=Nat.pow_le_pow_right (show 0<2 by decide) (show m+k<=63 by omega);have e63:(2:Nat)^63=9223372036854775808:=by decide
    omega
   rw[hE] at f2 f3 gN
   have e:(Cd.enc (.zeta k) v).length=z+1+(QE (v+1-F) (E-F)).length:=by
    rw[Cd.enc,List.length_append,List.length_replicate,List.length_cons];show Nat.log2 (v+1) / k+((QE (v+1-2^(Nat.log2 (v+1) / k*k)) (2^(Nat.log2 (v+1) / k*k)*2^k-2^(Nat.log2 (v+1) / k*k))).length+1)=_;rw[tq,hz,hm,hF,hG,hE];omega
   have hd:(Pf s).drop (a+z+1)=QE (v+1-F) (E-F)++rest:=by
    rw[show a+z+1=a+(z+1) by omega,<-List.drop_drop,gN];rw[<-List.drop_drop,List.drop_left' ξ];rfl
   have rM:(z:Int)*(k:Int)=(m:Int):=by rw[<-hm];simp
   have fB:(47:Int) / (k:Int)=((47 / k:Nat):Int):=by simp
   refine py (e:=[(0,_),(1,_)]) func231 O ntmps231 O O$ qN O$ OP O O (R6 O (cs:=[.int .u8 3,P7 k]) O) ?_;rintro _ w1 ⟨b3,rfl,dI,ad,au⟩;refine P3 O$ An$ qN O$ P4 Sd O$ qV (OS U5 O O au O)$ OJ$ OL$ qN O$ Rk O$ PO$ P3 O$ OR O$ qN O$ Rk O ?_;refine PO$ P3 O$ OR O$ qN O$ Rk O$ PO$ P3 O$ OR O$ qN O$ Rk O$ RP$ P3 O$ OZ O$ qN O ?_;refine P4 Xc O$ qV (OS Rw O O au O)$ qV (PQ O Rw U3 ω)$ QW O$ Pl O$ qV (WX O O ω) ?_;rw[fB];refine Pb zbg O (XZ (h.ext ad) z (47 / k) _ gN Cn ω) ?_;rintro _ w2 ⟨rfl,h2,Co⟩;refine OT O$ qV (Y8 O O (by rw[rM];omega)) ?_;rw[rM];refine qV (Rj m F O O ω hF) ?_;rw[show 1*F%18446744073709551616=F by omega];refine P3 O$ Pu.qb (e:=[(0,_),(3,_),(4,_),(6,_),(7,_)]) ?_;refine QI O$ OT O$ qV (Rj k G O O ω hG) ?_;rw[hE,Nat.mod_eq_of_lt (show E<18446744073709551616 by omega)];refine OT O$ qV (Wx O O O (by show E<2^64;omega) ω) ?_;refine Pb zgs O (z6k h2 (v+1-F) (E-F) rest hd f2 ω) ?_;rintro _ w3 ⟨rfl,h3,av⟩;refine OT O$ qV (V7 O O) ?_;rw[show(v+1-F+F)%18446744073709551616=v+1 by omega];refine qV (Wx (n:=1) O O O (by show v+1<2^64;omega) ω) ?_;rw[show v+1-1=v by omega];refine P3 O$ OI func231 O (⟨_,rfl,rfl,?_,(ad.kp.trans Co).trans av⟩);rw[e,show a+(z+1+(QE (v+1-F) (E-F)).length)=a+z+1+(QE (v+1-F) (E-F)).length by omega];exact h3
end
def z5F {P:Program}{fn:Func}{tmps:Array Value}{R:Ending->World->Prop}{g:FuncId}{cap args:List Value}{w:World}{S:Value->World->Prop}(pW:CF P g)(hD:za0 P g (args++cap) w S)
  (h:∀u w',S u w'->∃v,(results fn tmps).run P w'= .ok v w'/\R (.returned v) w'):LeavesInM Fence.wide 0 P fn tmps R (marks [.call g cap args]) .returning w:=by
 refine⟨ξ,.inr ⟨(λh=>by cases h),.func g,cap.toArray,g,(args++cap).toArray,rfl,?_,(λ_ _=>trivial),?_⟩⟩
 ·simp[Dfr.d,invoke,Tx pW]
 ·refine CallsDIn.mono hD ?_;rintro x u w1 ⟨rfl,v1,rfl,hS⟩;exact h v1 w1 hS
def z2L {P:Program}{f:FuncId}{R:Value->World->Prop}{n:Nat}{k:List Item}{e:Env}{w:World}{fn:Func}{g:FuncId}{cap args:List Value}{S:Value->World->Prop}(hf:P.funcs[f]? =some fn)(pW:CF P g)(hD:za0 P g (args++cap) w S)
  (h:∀u w',S u w'->∃vs,YU P w' e fn.results.toList vs/\WA R (.returned (Q0 vs)) w'):Pu ⟨P,f,R,n,none,[.call g cap args],false⟩ (.code .ret::k) e w:=
 z54 O O hf λa ha=>z5F pW hD λu w' hs=>by
  obtain⟨vs,h1,h2⟩:=h u w' hs;exact⟨_,VN ha P w' fn vs h1,h2⟩
def ydf {P:Program}{e:Env}{ty:TypeId}{pos:String}{aft:Array Edge}{g:Option (Nat×Bool)}{w:World}{f:FuncId}{x:Operand}{q:List Value}(hv:look e x=some (.func (.func f) #[] q.toArray)):
  ∀ρ:Operand->Value,(∀x v,look e x=some v->ρ x=v)->(execOp ρ ⟨none,.defer ⟨.value x,#[],#[]⟩,ty,pos,aft,g⟩).run P w= .ok (.defer (Dfr.d (.call f q []))) w:=fun ρ hρ=>by
 simp[execOp,resolve,hρ _ _ hv,Dfr.d,Deferred.ofValue]
section
variable {w:World}{r:Nat}{s:OO}{a:Nat}
def z4f {b2 b5 b6:Nat}(hB:OU w b5 [I 0] 44):za0 prog 230 [ptr b5 0,ptr b2 0,ptr b6 0] w λu w'=>w'=w:=by
 refine z4S (e:=[(0,_),(1,_),(2,_)]) func230 O ntmps230 O O$ qN O$ qV (OS U44 O O hB O)$ QF O$ OJ$ OX O (λc0=>?_)$ λc0=>?_
 ·exact absurd O c0
 ·refine OK$ z4v O O O func230$ λa ha=>⟨_,Te ha _ _ _ _ O,?_⟩;exact⟨_,rfl,rfl⟩
def Zw (h:TS w r s a)(c:Cd)(v:Nat)(hc:c.Qx)(hv:v<=c.most)(rest:List Bool)(hb:(Pf s).drop a=c.enc v++rest):
  Ps prog 223 [ptr r 0,cdV c] w λu w'=>u= .tuple #[P7 v,I 0]/\TS w' r s (a+(c.enc v).length)/\Kp (λk=>k=r) w w':=by
 obtain⟨x,y,dH⟩:∃x y,Sq c=[x,y]:=by cases c<;>exact⟨_,_,rfl⟩
 have ia:=h.1.lt
 have fA:=c.z0n
 refine py (e:=[(0,_),(1,_)]) func223 O ntmps223 O O$ qN O$ OP O O (R6 O (cs:=[ptr r 0]) O) ?_
 rintro _ w1 ⟨b2,rfl,bN,ad,ak⟩
 refine OP O O (R6 O (cs:=Sq c) O) ?_
 rintro _ w2 ⟨b3,rfl,dI,ae,au⟩
 refine SH O$ OP O O (Rz (cs:=[_]) z3i O) ?_
 rintro _ w3 ⟨b5,rfl,gG,ah,aK⟩
 replace aK:OU w3 b5 [I 0] 44:=aK
 have h3:TS w3 r s a:=⟨ah.OH (ae.OH (ad.OH h.1)),h.2⟩
 have bE:=ah.OH (ae.OH ak)
 have eI:=ah.OH au
 refine OJ$ QO$ qN O$ qV (OS Vf O O bE O)$ qV (Qb Vf O O)$ P3 O$ OR O$ qN O$ qV (Pv (news:=Sq c) Sr O QJ O (eI.cells (n:=2) (by rw[dH];rfl)) (by rw[dH];rfl)) ?_
 refine Pb z4t O (UA c hc w3) ?_
 rintro _ w4 ⟨rfl,aG⟩
 have h4:TS w4 r s a:=⟨aG.OH h3.1,h3.2⟩
 have fJ:=aG.OH bE
 refine QF O$ P3 O$ OX O (λc0=>?_)$ λc0=>?_
 ·exact absurd O c0
 ·refine OK$ OG$ qN O$ qV (OS Vf O O fJ O)$ Pb Z1 O (Ua h4) ?_;rintro _ w4 ⟨rfl,rfl⟩;refine OP O O (Rz (cs:=[_]) Qe O) ?_;rintro _ w5 ⟨b6,rfl,nD,aV,aX⟩;refine OY O (QP Qe O O O aX ξ) ?_;rintro w6 ⟨nG,aN⟩;have z1:=ad.size;have z2:=ae.size;have z3:=ah.size;have z4:=aG.size;have z5:=aV.size;have l2:=ak.lt;have l3:=au.lt;have l5:=aK.lt;have cS:Ext w4 w6:=aV.It aN (λi hi=>by omega);have gO:=cS.OH fJ;refine qM O$ qV (ZR (first:=[]) (caps:=[.tmp 5,.tmp 2,.tmp 6]) O O)$ zaz O O (ydf O)$ qM O$ qV (OS Vf O O gO O)$ qV (Sh (cs:=[_,_]) zg8 O zhB O O)$ OP O O (R6 O O) ?_;rintro _ w7 ⟨b7,rfl,m7,cm,bR⟩;replace bR:OU w7 b7 [ptr r 0,.bool false] 353:=bR;have z6:=cS.size;have z7:=cm.size;have pX:Ext w3 w7:=(aG.trans cS).trans cm;have h7:RgM w7 b7 r s a:=⟨bR,⟨pX.OH h3.1,h3.2⟩,ω⟩;have kj:=pX.OH eI;have fj:=pX.OH aK;refine P3 O$ PR O$ qV (Pv (news:=Sq c) Sr O QJ O (kj.cells (n:=2) (by rw[dH];rfl)) (by rw[dH];rfl)) ?_;refine Pb zhk O (z4M h7 c v hc hv rest hb) ?_;rintro _ w8 ⟨rfl,h8,aL⟩;have nH:=aL.OH kj ω;have gP:=aL.OH fj ω;have cu:=h8.OH;refine R3 O$ Pw O$ P4 z0A O$ qV (OS U4 O O cu O)$ Pl O$ qV (Pv (news:=Sq c) Sr O QJ O (nH.cells (n:=2) (by rw[dH];rfl)) (by rw[dH];rfl)) ?_;refine Pb zel O (z2K c hc w8) ?_;rintro _ w9 ⟨rfl,fH⟩;refine QD O$ PT O$ OJ$ Pu.qb (e:=[(4,_),(5,_),(33,_)]) ?_;refine OX O (λc1=>?_)$ λc1=>?_
  ·omega
  ·have Cp:=fH.OH gP;refine OK$ Pt O$ SH O$ OY O (QP z3i O O O Cp ξ) ?_;rintro w10 ⟨fG,aA⟩;replace fG:OU w10 b5 [I 0] 44:=fG;refine OJ$ z2L func223 zgQ (z4f (b2:=b2) (b6:=b6) fG) ?_;rintro u w' rfl;have pp:TS w9 r s (a+(c.enc v).length):=⟨fH.OH h8.rd.1,h8.rd.2⟩;refine⟨_,.tmp O (.cell1 U44 O O ((fG).cell _) .nil),_,rfl,rfl,⟨aA.OH pp.1 ω,pp.2⟩,?_⟩;have kk:Ext w w7:=((ad.trans ae).trans ah).trans pX;have m9:Kp (λk=>k=r) w w8:=kk.kp.It aL (λi hi=>hi.elim (λe=> .inl ω) .inr);exact(m9.trans fH.kp).It aA (λi hi=> .inl ω)
end
/-! ### Runs -/
def expand:Bool->List Nat->List Bool
 |_,[]=>[]
 |b,n::r=>List.replicate n b++expand (!b) r
theorem XW:∀(b:Bool) (r s:List Nat),expand b (r++s)=expand b r++expand (if r.length%2=0 then b else !b) s
 |b,[],s=>by simp[expand]
 | b, n :: r, s => by
   rw[List.cons_append,expand,expand,XW (!b) r s,List.append_assoc]
   congr 2
   rcases Nat.mod_two_eq_zero_or_one r.length with e| e
   ·rw[if_pos e,if_neg (by rw[List.length_cons];omega)]
   ·rw[if_neg ω,if_pos (by rw[List.length_cons];omega)];simp
theorem SS:∀(b:Bool) (r:List Nat),(expand b r).length=r.sum
 |_,[]=>rfl
 |b,n::r=>by rw[expand,List.length_append,List.length_replicate,SS (!b) r,List.sum_cons]
def QZ (rs:List Nat)(f:Bool):List Nat:=
 let rs':=if f !=(rs.length%2==1) then rs++[0] else rs
 rs'.modify (rs'.length-1) (·+1)
theorem Wn (l:List Nat)(n:Nat):(l++[n]).modify ((l++[n]).length-1) (·+1)=l++[n+1]:=by
 have key:∀l:List Nat,(l++[n]).modify l.length (·+1)=l++[n+1]:=λl=>by
  induction l with
  |nil=>rfl
  |cons a l ih=>simpa using ih
 have:(l++[n]).length-1=l.length:=by simp
 rw[this,key]
structure TA (rs:List Nat)(fs:List Bool):Prop where
 ne:rs≠[]
 exp:expand true rs=fs
 pos:∀n∈rs.drop 1,1<=n
theorem TA.zero:TA [0] []:=⟨ξ,rfl,ξ⟩
theorem TA.step {rs:List Nat}{fs:List Bool}(h:TA rs fs)(f:Bool):TA (QZ rs f) (fs++[f]):=by
 obtain⟨h1,h2,h3⟩:=h
 obtain⟨l,n,rfl⟩:∃l n,rs=l++[n]:=⟨rs.dropLast,rs.getLast h1,(List.dropLast_concat_getLast h1).symm⟩
 unfold QZ
 dsimp only
 have hlen:(l++[n]).length=l.length+1:=by simp
 rw[hlen]
 split
 ·rename_i hf
  rw[Wn];refine⟨ξ,?_,λk hk=>?_⟩
  ·rw[XW,h2,hlen]
   congr 1
   rcases Nat.mod_two_eq_zero_or_one l.length with e|e<;>cases f<;>simp[expand,e,Nat.add_mod] at hf⊢
  ·rw[List.drop_append_of_le_length (by rw[hlen];omega)] at hk;rcases List.mem_append.1 hk with hk|hk
   ·exact h3 k hk
   ·simp at hk;omega
 ·rename_i hf
  rw[Wn];refine⟨ξ,?_,λk hk=>?_⟩
  ·rw[XW] at h2⊢;rw[<-h2,List.append_assoc]
   congr 1
   simp only[expand,List.append_nil,List.replicate_succ']
   congr 1
   rcases Nat.mod_two_eq_zero_or_one l.length with e|e<;>cases f<;>simp[e,Nat.add_mod] at hf⊢
  ·cases l with
   |nil=>simp at hk
   | cons a l =>
     rw[List.cons_append,List.drop_succ_cons,List.drop_zero] at hk h3;rcases List.mem_append.1 hk with hk|hk
     ·exact h3 k (List.mem_append_left _ hk)
     ·simp at hk;omega
def copyL:Bool->List Nat->List Nat->List Nat
 |b,[],ref=>if b then ref else []
 |b,n::r,ref=>(if b then ref.take n else [])++copyL (!b) r (ref.drop n)
def sel:List Nat->List Bool->List Nat
 |x::l,f::fs=>if f then x::sel l fs else sel l fs
 |_,_=>[]
theorem z7j:∀{a b:List Nat} {fs gs:List Bool},a.length=fs.length->sel (a++b) (fs++gs)=sel a fs++sel b gs
 |[],b,[],gs,_=>rfl
 | x :: a, b, f :: fs, gs, h => by
   have h':a.length=fs.length:=by simpa using h
   rw[List.cons_append,List.cons_append,sel,sel,z7j h'];cases f<;>simp
theorem z2U:∀(l:List Nat) (b:Bool),sel l (List.replicate l.length b)=if b then l else []
 |[],b=>by cases b<;>rfl
 | x :: l, b => by
   rw[List.length_cons,List.replicate_succ,sel,z2U l b];cases b<;>rfl
theorem z4P:∀(b:Bool) (rs:List Nat) (m:Nat) (ref:List Nat),ref.length=(rs++[m]).sum->copyL b rs ref=sel ref (expand b (rs++[m]))
 | b, [], m, ref, h => by
   have hm:m=ref.length:=by simpa using h.symm
   subst hm;simp only[copyL,List.nil_append,expand,List.append_nil]
   rw[z2U]
 | b, n :: rs, m, ref, h => by
   rw[List.cons_append,List.sum_cons] at h;have hl:(ref.take n).length=n:=by rw[List.length_take];omega
   rw[copyL,List.cons_append,expand,z4P (!b) rs m (ref.drop n) (by rw[List.length_drop];omega)]
   conv=>rhs;rw[<-List.take_append_drop n ref,z7j (by rw[hl,List.length_replicate])]
   congr 1
   have:=z2U (ref.take n) b;rw[hl] at this;exact this.symm
/-! ### Rows of numbers that follow one another -/
def PS:Nat->List Nat->Nat
 |_,[]=>0
 |x,y::l=>if y=x+1 then PS y l+1 else 0
def Xg:∀(x:Nat) (l:List Nat),PS x l<=l.length
 |_,[]=>Nat.le_refl _
 | x, y :: l => by
   unfold PS;split
   ·have:=Xg y l;simp;omega
   ·exact Nat.zero_le _
theorem VG:∀(x:Nat) (l:List Nat) (i:Nat),i<PS x l->l[i]? =some (x+1+i)
 |_,[],i,h=>by simp[PS] at h
 | x, y :: l, i, h => by
   unfold PS at h;split at h
   ·rename_i e
    subst e
    cases i with
    |zero=>rfl
    |succ i=>rw[List.getElem?_cons_succ,VG (x+1) l i ω];congr 1;omega
   ·omega
def Wu:∀(x:Nat) (l:List Nat) (y:Nat),l[PS x l]? =some y->y≠x+1+PS x l
 |_,[],y,h=>by simp at h
 | x, z :: l, y, h => by
   unfold PS at h⊢;split
   ·rename_i e
    rw[if_pos e,List.getElem?_cons_succ] at h;have:=Wu z l y h;omega
   ·rename_i e
    rw[if_neg e,List.getElem?_cons_zero] at h;cases h;omega
def PV (least:Nat):List Nat->List (Nat×Nat)×List Nat
 |[]=>([],[])
 | x :: l =>
   let n:=PS x l+1
   let q:=PV least (l.drop (PS x l))
   if 0<least/\least<=n then((x,n)::q.1,q.2) else(q.1,x::l.take (PS x l)++q.2)
termination_by l=>l.length
decreasing_by simp[List.length_drop];omega
def QT (l:List (Nat×Nat)):List Nat:=l.flatMap λp=>(List.range p.2).map (p.1+·)
abbrev Ris (l:List Nat):Prop:=l.Pairwise (·<·)
def zbp (x:Nat)(l:List Nat):x::l.take (PS x l)=(List.range (PS x l+1)).map (x+·):=by
 apply List.ext_getElem?
 intro i
 have hle:=Xg x l
 cases i with
 |zero=>simp
 | succ i =>
   rw[List.getElem?_cons_succ,List.getElem?_take,List.getElem?_map];split
   ·rename_i h
    rw[VG x l i h,List.getElem?_range ω];simp;omega
   ·rw[List.getElem?_eq_none (by simp;omega)];rfl
def TJ (least:Nat):∀(l:List Nat),(QT (PV least l).1++(PV least l).2).Perm l
 |[]=>by simp[PV,QT]
 | x :: l => by
   have ih:=TJ least (l.drop (PS x l));have hx:=zbp x l;have hc:x::l=(x::l.take (PS x l))++l.drop (PS x l):=by rw[List.cons_append,List.take_append_drop]
   rw[PV];split
   ·rw[show QT ((x,PS x l+1)::(PV least (l.drop (PS x l))).1)=(List.range (PS x l+1)).map (x+·)++QT (PV least (l.drop (PS x l))).1 by simp[QT]];rw[<-hx,List.append_assoc]
    conv=>rhs;rw[hc]
    exact ih.append_left _
   ·conv=>rhs;rw[hc]
    refine List.Perm.trans ?_$ ih.append_left _;rw[<-List.append_assoc,<-List.append_assoc];exact(List.perm_append_comm).append_right _
 termination_by l=>l.length
 decreasing_by simp[List.length_drop];omega
def zig (z:Int):Nat:=if 0<=z then(2*z).toNat else(-2*z-1).toNat
def zag (n:Nat):Int:=if n%2=0 then((n / 2:Nat):Int) else -((n / 2:Nat):Int)-1
theorem z7N (z:Int):zag (zig z)=z:=by
 unfold zig zag
 split
 ·rw[if_pos ω];omega
 ·rw[if_neg ω];omega
def Zh {z:Int}{n:Nat}(h1: -(n:Int)<=z)(h2:z<(n:Int)):zig z<2*n:=by
 unfold zig
 split<;>omega
structure S6 where
 Pm:Nat
 interval:Nat
 zeta:Nat
def Rb (succ ref:List Nat):List Nat:=ref.foldl (λrs y=>QZ rs (decide (y∈succ))) [0]
def T9 (succ ref:List Nat):TA (Rb succ ref) (ref.map λy=>decide (y∈succ)):=by
 unfold Rb
 have key:∀(l:List Nat) (rs:List Nat) (fs:List Bool),TA rs fs->TA (l.foldl (λrs y=>QZ rs (decide (y∈succ))) rs) (fs++l.map λy=>decide (y∈succ)):=by
  intro l
  induction l with
  |nil=>intro rs fs h;simpa using h
  | cons y l ih =>
    intro rs fs h;have:=ih _ _ (h.step (decide (y∈succ)))
    simpa using this
 simpa using key ref [0] [] TA.zero
def Pq (succ ref:List Nat):List Nat:=succ.filter λv=>decide (v∉ref)
theorem z7u (P:Nat->Bool):∀l:List Nat,sel l (l.map P)=l.filter P
 |[]=>rfl
 | x :: l => by
   rw[List.map_cons,sel,z7u P l];cases h:P x<;>simp[h]
def z9L (succ ref:List Nat):copyL true (Rb succ ref).dropLast ref=ref.filter λy=>decide (y∈succ):=by
 have h:=T9 succ ref
 obtain⟨l,n,e⟩:∃l n,Rb succ ref=l++[n]:=⟨_,_,(List.dropLast_concat_getLast h.ne).symm⟩
 rw[e,List.dropLast_concat]
 have he:=h.exp
 rw[e] at he
 have hl:ref.length=(l++[n]).sum:=by
  have:=congrArg List.length he;rw[SS,List.length_map] at this;exact this.symm
 rw[z4P true l n ref hl,he,z7u]
def Qo:Nat->List Nat->List (Cd×Nat)
 |_,[]=>[]
 |i,n::r=>(.gamma,n-min i 1)::Qo (i+1) r
def PM (x least:Nat):Option Nat->List (Nat×Nat)->List (Cd×Nat)
 |_,[]=>[]
 |none,p::r=>(.gamma,zig ((p.1:Int)-x))::(.gamma,p.2-least)::PM x least (some (p.1+p.2-1)) r
 |some e,p::r=>(.gamma,p.1-e-2)::(.gamma,p.2-least)::PM x least (some (p.1+p.2-1)) r
def PN (x k:Nat):Option Nat->List Nat->List (Cd×Nat)
 |_,[]=>[]
 |none,v::r=>(.zeta k,zig ((v:Int)-x))::PN x k (some v) r
 |some u,v::r=>(.zeta k,v-u-1)::PN x k (some v) r
def Ru (p:S6)(x:Nat)(succ ref:List Nat)(r:Nat):List (Cd×Nat):=
 (.gamma,succ.length)::if succ=[] then [] else
  (if 0<p.Pm then [(.unary,r)] else [])++
  ((if 0<r then(.gamma,(Rb succ ref).length-1)::Qo 0 (Rb succ ref).dropLast else [])++
  (if Pq succ ref=[] then [] else
   (if 0<p.interval then(.gamma,(PV p.interval (Pq succ ref)).1.length)::PM x p.interval none (PV p.interval (Pq succ ref)).1 else [])++
   PN x p.zeta none (PV p.interval (Pq succ ref)).2))
def Ph (l:List (Cd×Nat)):List Bool:=l.flatMap λp=>p.1.enc p.2
def z5N {succ ref:List Nat}(hs:Ris succ)(hr:Ris ref)(p:Nat):(ref.filter (λy=>decide (y∈succ))++(QT (PV p (Pq succ ref)).1++(PV p (Pq succ ref)).2)).Perm succ:=by
 have h1:(ref.filter λy=>decide (y∈succ)).Perm (succ.filter λv=>decide (v∈ref)):=by
  refine(List.perm_ext_iff_of_nodup (hr.imp (λh=>by omega) |>.filter _) (hs.imp (λh=>by omega) |>.filter _)).2 λa=>?_;simp only[List.mem_filter,decide_eq_true_eq];exact And.comm
 refine(h1.append (TJ p _)).trans ?_
 unfold Pq
 have:=List.filter_append_perm (λv=>decide (v∈ref)) succ
 refine List.Perm.trans ?_ this
 refine List.Perm.append_left _ ?_
 simp
def z6o {a b:List Nat}(h:a.Perm b)(ha:a.Pairwise (·<=·))(hb:Ris b):a=b:=
 h.eq_of_pairwise (le:=(·<=·)) (λx y _ _ h1 h2=>by omega) ha (hb.imp (λh=>by omega))
def T3 (least:Nat):Nat->List (Nat×Nat)->Prop
 |_,[]=>True
 |lo,p::r=>lo<=p.1/\1<=p.2/\least<=p.2/\T3 least (p.1+p.2+1) r
def T3.mono {least:Nat}:∀{r:List (Nat×Nat)} {a b:Nat},T3 least b r->a<=b->T3 least a r
 |[],_,_,_,_=>trivial
 |p::r,a,b,h,hab=>⟨Nat.le_trans hab h.1,h.2⟩
def z6t {x:Nat}{l:List Nat}(h:Ris (x::l)):∀y∈l.drop (PS x l),x+PS x l+2<=y:=by
 intro y hy
 obtain⟨j,hj,e⟩:=List.mem_iff_getElem.1 hy
 rw[List.getElem_drop] at e
 rw[List.length_drop] at hj
 obtain⟨h1,h2⟩:=List.pairwise_cons.1 h
 have hle:=Xg x l
 have h0:PS x l<l.length:=by omega
 obtain⟨z,hz⟩:∃z,l[PS x l]? =some z:=⟨_,List.getElem?_eq_getElem h0⟩
 have hs:=Wu x l z hz
 have hz':=(List.getElem?_eq_some_iff.1 hz).2
 have hzx:x+PS x l<z:=by
  by_cases e0:PS x l=0
  ·have:=h1 z (List.mem_of_getElem? hz);omega
  ·have hg:=VG x l (PS x l-1) ω;obtain⟨g1,g2⟩:=List.getElem?_eq_some_iff.1 hg;have:=List.pairwise_iff_getElem.1 h2 (PS x l-1) (PS x l) g1 h0 ω;rw[g2,hz'] at this;omega
 have hzy:z<=y:=by
  by_cases e0:j=0
  ·subst e0;simp at e;rw[<-e,<-hz'];exact Nat.le_refl _
  ·have:=List.pairwise_iff_getElem.1 h2 (PS x l) (PS x l+j) h0 ω ω;rw[e,hz'] at this;omega
 omega
def UT (least:Nat):∀(l:List Nat) (lo:Nat),Ris l->(∀y∈l,lo<=y)->T3 least lo (PV least l).1
 |[],lo,_,_=>by rw[PV];trivial
 | x :: l, lo, h, hl => by
   have hb:=z6t h;have h2:Ris (l.drop (PS x l)):=(List.pairwise_cons.1 h).2.sublist (List.drop_sublist _ _);rw[PV];split
   ·rename_i hc
    refine⟨hl x ξ,ω,hc.2,UT least _ _ h2 λy hy=>?_⟩;have:=hb y hy;omega
   ·refine UT least _ _ h2 λy hy=>?_;have:=hb y hy;have:=hl x ξ;omega
 termination_by l=>l.length
 decreasing_by all_goals (simp[List.length_drop];omega)
def UE (least:Nat):∀(l:List Nat),(PV least l).2.Sublist l
 |[]=>by rw[PV];exact List.Sublist.refl _
 | x :: l => by
   have ih:=UE least (l.drop (PS x l));rw[PV];split
   ·exact(ih.trans (List.drop_sublist _ _)).cons x
   ·have hc:x::l=(x::l.take (PS x l))++l.drop (PS x l):=by rw[List.cons_append,List.take_append_drop]
    conv=>rhs;rw[hc]
    exact ih.append_left _
 termination_by l=>l.length
 decreasing_by simp[List.length_drop];omega
end Go.Proofs.YtffbidffdbpcoaaGreatDoor
