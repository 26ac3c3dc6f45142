/- Merged by program. -/
import Derived.Test.YtbihggbffaigjaaGreatDoorRows
import Derived.Test.YtbihggbffaigjaaGreatDoorZc1
import Derived.KernelRfl
import Derived.Lib.AppendZerosOnto
import Derived.Lib.Overlaps
import Derived.Maps.RangeRun
set_option linter.all false
set_option maxRecDepth 1000000
set_option maxHeartbeats 16000000
namespace Go.Proofs.YtbihggbffaigjaaGreatDoor
open Go Go.RowKit Go.Proofs.Tryz
set_option linter.unusedSimpArgs false
def Pr {P:Program}{f:FuncId}{fn:Func}(h:P.funcs[f]? =some fn)(h2:(fn.name=="runtime.NumGoroutine")=false:=by kernel_rfl)(h3:fn.body.isNone=false:=by rfl):CF P f:=⟨fn,h,h2,h3⟩
theorem PH:TI prog 3 (Value.int .i64 0) 1 8:=Pm (by kernel_rfl)
theorem US:TI prog 4 (Value.bool false) 1 1:=Pm (by kernel_rfl)
theorem XN:TI prog 5 (Value.int .u8 0) 1 1:=Pm (by kernel_rfl)
theorem ti9:TI prog 9 (Value.string ⟨#[]⟩) 1 16:=Pm (by kernel_rfl)
theorem zeH:TI prog 26 (Value.pointer none) 1 8:=Pm (by kernel_rfl)
theorem z7P:TI prog 27 (Value.pointer none) 1 8:=Pm (by kernel_rfl)
theorem z8E:TI prog 28 (Value.pointer none) 1 8:=Pm (by kernel_rfl)
def z1C:TI prog 30 (Value.agg #[Value.pointer none,Value.pointer none,Value.pointer none,Value.pointer none,Value.int .i64 0]) 5 40:=Pm (by kernel_rfl)
def z6i:TI prog 37 (Value.slice none 0 0) 1 24:=Pm (by kernel_rfl)
theorem S7:TI prog 39 (Value.int .u64 0) 1 8:=Pm (by kernel_rfl)
theorem TD:TI prog 40 (Value.slice none 0 0) 1 24:=Pm (by kernel_rfl)
theorem OS:TI prog 42 (Value.int .u32 0) 1 4:=Pm (by kernel_rfl)
def zf7:TI prog 44 (Value.pointer none) 1 8:=Pm (by kernel_rfl)
def z4w:TI prog 45 (Value.int .i64 0) 1 8:=Pm (by kernel_rfl)
theorem zel:TI prog 55 (Value.nilFunc) 1 8:=Pm (by kernel_rfl)
theorem zhD:TI prog 66 (Value.pointer none) 1 8:=Pm (by kernel_rfl)
theorem z1z:TI prog 76 (Value.agg #[Value.int .i64 0,Value.int .i64 0,Value.int .i64 0,Value.int .i64 0,Value.int .i64 0,Value.int .i64 0,Value.int .i64 0]) 7 56:=Pm (by kernel_rfl)
def z4i:TI prog 81 (Value.agg #[Value.int .u32 0,Value.int .u32 0]) 2 8:=Pm (by kernel_rfl)
theorem zb7:TI prog 85 (Value.agg #[Value.int .i64 0,Value.int .i64 0]) 2 16:=Pm (by kernel_rfl)
theorem Ru:TI prog 93 (Value.agg #[Value.int .i64 0,Value.int .i64 0,Value.int .i64 0,Value.int .i64 0,Value.int .i64 0]) 5 40:=Pm (by kernel_rfl)
theorem zgv:TI prog 99 (Value.agg #[Value.int .i64 0,Value.int .i64 0,Value.int .i64 0,Value.bool false,Value.bool false]) 5 32:=Pm (by kernel_rfl)
def Zm:TI prog 100 (Value.pointer none) 1 8:=Pm (by kernel_rfl)
theorem za5:TI prog 101 (Value.agg #[Value.pointer none,Value.pointer none,Value.pointer none,Value.pointer none,Value.pointer none]) 5 40:=Pm (by kernel_rfl)
def zgG:TI prog 103 (Value.agg #[Value.int .i64 0,Value.int .i64 0,Value.int .i64 0,Value.bool false,Value.bool false,Value.pointer none,Value.pointer none,Value.int .i64 0,Value.pointer none,Value.pointer none,Value.pointer none,Value.pointer none,Value.pointer none,Value.bool false,Value.bool false]) 15 104:=Pm (by kernel_rfl)
theorem X9:TI prog 113 (Value.slice none 0 0) 1 24:=Pm (by kernel_rfl)
theorem zdX:TI prog 116 (Value.pointer none) 1 8:=Pm (by kernel_rfl)
theorem zdZ:TI prog 117 (Value.map none) 1 8:=Pm (by kernel_rfl)
def zh9:TI prog 119 (Value.agg #[Value.pointer none,Value.pointer none,Value.pointer none,Value.map none,Value.int .i64 0,Value.int .i64 0,Value.int .i64 0,Value.int .i64 0,Value.int .i64 0,Value.int .i64 0,Value.int .i64 0,Value.bool false]) 12 96:=Pm (by kernel_rfl)
theorem QT:TI prog 124 (Value.agg #[Value.int .i64 0,Value.int .i64 0]) 2 16:=Pm (by kernel_rfl)
theorem zdI:TI prog 125 (Value.map none) 1 8:=Pm (by kernel_rfl)
theorem za4:TI prog 127 (Value.agg #[Value.slice none 0 0,Value.int .i64 0,Value.int .u8 0]) 3 40:=Pm (by kernel_rfl)
theorem z7x:TI prog 129 (Value.agg #[Value.int .i64 0,Value.slice none 0 0,Value.int .i64 0,Value.int .u8 0]) 4 48:=Pm (by kernel_rfl)
theorem z7w:TI prog 130 (Value.slice none 0 0) 1 24:=Pm (by kernel_rfl)
def zia:TI prog 132 (Value.agg #[Value.int .i64 0,Value.slice none 0 0,Value.int .i64 0,Value.int .u8 0,Value.int .i64 0,Value.int .i64 0,Value.map none,Value.slice none 0 0,Value.bool false,Value.int .i64 0,Value.int .i64 0]) 11 120:=Pm (by kernel_rfl)
theorem zd1:TI prog 133 (Value.slice none 0 0) 1 24:=Pm (by kernel_rfl)
def zi5:TI prog 135 (Value.agg #[Value.int .i64 0,Value.slice none 0 0,Value.slice none 0 0,Value.bool false]) 4 64:=Pm (by kernel_rfl)
def z1O:TI prog 143 (Value.pointer none) 1 8:=Pm (by kernel_rfl)
theorem TC:TI prog 153 (Value.agg #[Value.int .i64 0,Value.int .i64 0,Value.int .i64 0,Value.int .i64 0,Value.int .i64 0,Value.int .i64 0,Value.int .i64 0,Value.int .i64 0]) 8 64:=Pm (by kernel_rfl)
theorem z2h:TI prog 155 (Value.nilIface) 1 16:=Pm (by kernel_rfl)
theorem zcY:TI prog 156 (Value.pointer none) 1 8:=Pm (by kernel_rfl)
def zhH:TI prog 158 (Value.agg #[Value.int .i64 0,Value.int .i64 0,Value.int .i64 0,Value.int .i64 0,Value.int .i64 0,Value.int .i64 0,Value.int .i64 0,Value.int .i64 0,Value.nilIface,Value.pointer none]) 10 88:=Pm (by kernel_rfl)
theorem Yt:TI prog 162 (Value.agg #[Value.int .i64 0,Value.int .i64 0,Value.int .i64 0]) 3 24:=Pm (by kernel_rfl)
def zfU:TI prog 164 (Value.agg #[Value.int .i64 0,Value.int .i64 0,Value.int .i64 0,Value.int .i64 0,Value.int .i64 0,Value.pointer none,Value.bool false]) 7 56:=Pm (by kernel_rfl)
def zgr:TI prog 175 (Value.agg #[Value.pointer none,Value.slice none 0 0]) 2 32:=Pm (by kernel_rfl)
def z1S:TI prog 185 (Value.int .u8 0) 1 1:=Pm (by kernel_rfl)
theorem z7a:TI prog 186 (Value.map none) 1 8:=Pm (by kernel_rfl)
theorem z3R:TI prog 188 (Value.agg #[Value.slice none 0 0,Value.map none]) 2 32:=Pm (by kernel_rfl)
def zhU:TI prog 190 (Value.agg #[Value.int .i64 0,Value.slice none 0 0,Value.map none,Value.slice none 0 0,Value.map none,Value.slice none 0 0,Value.map none,Value.slice none 0 0,Value.map none,Value.int .i64 0,Value.map none]) 11 152:=Pm (by kernel_rfl)
theorem Xo:TI prog 195 (Value.agg #[Value.pointer none,Value.int .i64 0,Value.int .i64 0]) 3 24:=Pm (by kernel_rfl)
def zdV:TI prog 197 (Value.agg #[Value.pointer none,Value.int .i64 0,Value.int .i64 0,Value.slice none 0 0,Value.int .i64 0,Value.int .i64 0,Value.int .u32 0,Value.nilFunc,Value.bool false]) 9 88:=Pm (by kernel_rfl)
def zh3:TI prog 202 (Value.agg #[Value.pointer none,Value.int .i64 0,Value.int .i64 0,Value.int .i64 0,Value.int .u32 0]) 5 40:=Pm (by kernel_rfl)
def z9V:TI prog 216 (Value.pointer none) 1 8:=Pm (by kernel_rfl)
theorem z7t:TI prog 218 (Value.agg #[Value.string ⟨#[]⟩,Value.bool false]) 2 24:=Pm (by kernel_rfl)
def zgi:TI prog 220 (Value.agg #[Value.string ⟨#[]⟩,Value.bool false,Value.int .i64 0]) 3 32:=Pm (by kernel_rfl)
theorem z6K:TI prog 229 (Value.pointer none) 1 8:=Pm (by kernel_rfl)
def V7:TI prog 231 (Value.agg #[Value.int .i64 0,Value.int .i64 0]) 2 16:=Pm (by kernel_rfl)
theorem Tb:TI prog 236 (Value.agg #[Value.int .i64 0,Value.int .u64 0,Value.int .i64 0,Value.int .i64 0]) 4 32:=Pm (by kernel_rfl)
def zgC:TI prog 249 (Value.agg #[Value.nilIface,Value.int .i64 0,Value.int .i64 0]) 3 32:=Pm (by kernel_rfl)
def Pl:TI prog 261 (Value.agg #[Value.bool false,Value.bool false,Value.int .i64 0]) 3 16:=Pm (by kernel_rfl)
def Qz:TI prog 268 (Value.agg #[Value.slice none 0 0,Value.int .i64 0]) 2 32:=Pm (by kernel_rfl)
def zi7:TI prog 269 (Value.agg #[Value.slice none 0 0,Value.int .i64 0,Value.slice none 0 0,Value.int .i64 0,Value.slice none 0 0,Value.int .i64 0,Value.slice none 0 0,Value.int .i64 0,Value.slice none 0 0,Value.int .i64 0,Value.slice none 0 0,Value.int .i64 0,Value.slice none 0 0,Value.int .i64 0,Value.slice none 0 0,Value.int .i64 0,Value.slice none 0 0,Value.int .i64 0,Value.slice none 0 0,Value.int .i64 0,Value.slice none 0 0,Value.int .i64 0,Value.slice none 0 0,Value.int .i64 0,Value.slice none 0 0,Value.int .i64 0,Value.slice none 0 0,Value.int .i64 0,Value.slice none 0 0,Value.int .i64 0,Value.slice none 0 0,Value.int .i64 0,Value.slice none 0 0,Value.int .i64 0]) 34 544:=Pm (by kernel_rfl)
theorem zcW:TI prog 271 (Value.agg #[Value.slice none 0 0,Value.int .i64 0,Value.slice none 0 0,Value.int .i64 0,Value.slice none 0 0,Value.int .i64 0,Value.slice none 0 0,Value.int .i64 0,Value.slice none 0 0,Value.int .i64 0,Value.slice none 0 0,Value.int .i64 0,Value.slice none 0 0,Value.int .i64 0,Value.slice none 0 0,Value.int .i64 0,Value.slice none 0 0,Value.int .i64 0,Value.slice none 0 0,Value.int .i64 0,Value.slice none 0 0,Value.int .i64 0,Value.slice none 0 0,Value.int .i64 0,Value.slice none 0 0,Value.int .i64 0,Value.slice none 0 0,Value.int .i64 0,Value.slice none 0 0,Value.int .i64 0,Value.slice none 0 0,Value.int .i64 0,Value.slice none 0 0,Value.int .i64 0,Value.int .i64 0]) 35 552:=Pm (by kernel_rfl)
def zi2:TI prog 273 (Value.agg #[Value.int .i64 0,Value.int .i64 0,Value.int .i64 0,Value.int .i64 0,Value.int .i64 0,Value.slice none 0 0,Value.int .i64 0,Value.slice none 0 0,Value.int .i64 0,Value.slice none 0 0,Value.int .i64 0,Value.slice none 0 0,Value.int .i64 0,Value.slice none 0 0,Value.int .i64 0,Value.slice none 0 0,Value.int .i64 0,Value.slice none 0 0,Value.int .i64 0,Value.slice none 0 0,Value.int .i64 0,Value.slice none 0 0,Value.int .i64 0,Value.slice none 0 0,Value.int .i64 0,Value.slice none 0 0,Value.int .i64 0,Value.slice none 0 0,Value.int .i64 0,Value.slice none 0 0,Value.int .i64 0,Value.slice none 0 0,Value.int .i64 0,Value.slice none 0 0,Value.int .i64 0,Value.slice none 0 0,Value.int .i64 0,Value.slice none 0 0,Value.int .i64 0,Value.int .i64 0,Value.pointer none,Value.int .i64 0,Value.int .i64 0]) 43 616:=Pm (by kernel_rfl)
def TM:TI prog 276 (Value.agg #[Value.int .i64 0,Value.int .i64 0,Value.int .i64 0]) 3 24:=Pm (by kernel_rfl)
def zf1:TI prog 283 (Value.agg #[Value.slice none 0 0,Value.int .i64 0]) 2 32:=Pm (by kernel_rfl)
theorem z1G:TI prog 289 (Value.pointer none) 1 8:=Pm (by kernel_rfl)
def zic:TI prog 293 (Value.agg #[Value.int .i64 0,Value.int .u64 0,Value.int .i64 0,Value.int .i64 0,Value.nilIface]) 5 48:=Pm (by kernel_rfl)
def ze0:TI prog 295 (Value.pointer none) 1 8:=Pm (by kernel_rfl)
def zdn:TI prog 301 (Value.nilFunc) 1 8:=Pm (by kernel_rfl)
def S8:TI prog 303 (Value.agg #[Value.int .i64 0,Value.int .i64 0]) 2 16:=Pm (by kernel_rfl)
def zaU:TI prog 311 (Value.slice none 0 0) 1 24:=Pm (by kernel_rfl)
theorem Qx:TI prog 314 (Value.agg #[Value.int .u8 0,Value.int .u64 0]) 2 16:=Pm (by kernel_rfl)
def Vf:TI prog 316 (Value.agg #[Value.int .u8 0,Value.int .u64 0,Value.int .u64 0]) 3 24:=Pm (by kernel_rfl)
def zir:TI prog 321 (Value.agg #[Value.string ⟨#[]⟩,Value.int .i64 0]) 2 24:=Pm (by kernel_rfl)
def zfp:TI prog 332 (Value.agg #[Value.pointer none,Value.bool false]) 2 16:=Pm (by kernel_rfl)
def W5:TI prog 336 (Value.agg #[Value.int .i64 0,Value.string ⟨#[]⟩]) 2 24:=Pm (by kernel_rfl)
def z0r:TI prog 348 (Value.agg #[Value.int .i64 0,Value.int .i64 0]) 2 16:=Pm (by kernel_rfl)
def SE:TI prog 351 (Value.agg #[Value.int .u64 0,Value.int .i64 0]) 2 16:=Pm (by kernel_rfl)
def Ur:TI prog 352 (Value.agg #[Value.int .u64 0,Value.int .i64 0,Value.int .u64 0,Value.int .i64 0]) 4 32:=Pm (by kernel_rfl)
def zis:TI prog 366 (Value.agg #[Value.pointer none,Value.bool false]) 2 16:=Pm (by kernel_rfl)
def z4x:TI prog 383 (Value.int .u64 0) 1 8:=Pm (by kernel_rfl)
def z5G:Qf prog 30 1 1 1 false:=⟨_,_,_,_,_,underlying30,rfl,rfl,z7P,underlying27,rfl⟩
def zeR:Qf prog 30 2 2 1 false:=⟨_,_,_,_,_,underlying30,rfl,rfl,z8E,underlying28,rfl⟩
def zeQ:Qf prog 30 3 3 1 false:=⟨_,_,_,_,_,underlying30,rfl,rfl,z8E,underlying28,rfl⟩
def zeG:Qf prog 30 4 4 1 false:=⟨_,_,_,_,_,underlying30,rfl,rfl,PH,underlying3,rfl⟩
def zjH:SP prog 30 [(0,1),(1,1),(2,1),(3,1),(4,1)]:=⟨_,underlying30,λ_=>by simp[zeH.size,z7P.size,z8E.size,PH.size,Sem.run_bind,Sem.run_pure]⟩
def zay:Qf prog 76 1 1 1 false:=⟨_,_,_,_,_,underlying76,rfl,rfl,PH,underlying3,rfl⟩
def zbr:Qf prog 76 2 2 1 false:=⟨_,_,_,_,_,underlying76,rfl,rfl,PH,underlying3,rfl⟩
def zaI:Qf prog 76 3 3 1 false:=⟨_,_,_,_,_,underlying76,rfl,rfl,PH,underlying3,rfl⟩
def zeI:Qf prog 76 4 4 1 false:=⟨_,_,_,_,_,underlying76,rfl,rfl,PH,underlying3,rfl⟩
def zep:Qf prog 76 6 6 1 false:=⟨_,_,_,_,_,underlying76,rfl,rfl,PH,underlying3,rfl⟩
def zjL:SP prog 76 [(0,1),(1,1),(2,1),(3,1),(4,1),(5,1),(6,1)]:=⟨_,underlying76,λ_=>by simp[PH.size,Sem.run_bind,Sem.run_pure]⟩
def z6b:Qf prog 81 0 0 1 false:=⟨_,_,_,_,_,underlying81,rfl,rfl,OS,underlying42,rfl⟩
def z0I:Qf prog 81 1 1 1 false:=⟨_,_,_,_,_,underlying81,rfl,rfl,OS,underlying42,rfl⟩
def Z3:Qf prog 85 0 0 1 false:=⟨_,_,_,_,_,underlying85,rfl,rfl,PH,underlying3,rfl⟩
def YL:Qf prog 85 1 1 1 false:=⟨_,_,_,_,_,underlying85,rfl,rfl,PH,underlying3,rfl⟩
def ziB:SP prog 85 [(0,1),(1,1)]:=⟨_,underlying85,λ_=>by simp[PH.size,Sem.run_bind,Sem.run_pure]⟩
def z0H:Qf prog 93 0 0 1 false:=⟨_,_,_,_,_,underlying93,rfl,rfl,PH,underlying3,rfl⟩
def YX:Qf prog 93 1 1 1 false:=⟨_,_,_,_,_,underlying93,rfl,rfl,PH,underlying3,rfl⟩
def zaJ:Qf prog 93 2 2 1 false:=⟨_,_,_,_,_,underlying93,rfl,rfl,PH,underlying3,rfl⟩
def za1:Qf prog 93 3 3 1 false:=⟨_,_,_,_,_,underlying93,rfl,rfl,PH,underlying3,rfl⟩
def Ts:Qf prog 93 4 4 1 false:=⟨_,_,_,_,_,underlying93,rfl,rfl,PH,underlying3,rfl⟩
def zcm:SP prog 93 [(0,1),(1,1),(2,1),(3,1),(4,1)]:=⟨_,underlying93,λ_=>by simp[PH.size,Sem.run_bind,Sem.run_pure]⟩
def z9H:Qf prog 99 0 0 1 false:=⟨_,_,_,_,_,underlying99,rfl,rfl,PH,underlying3,rfl⟩
def z0E:Qf prog 99 1 1 1 false:=⟨_,_,_,_,_,underlying99,rfl,rfl,PH,underlying3,rfl⟩
def W4:Qf prog 99 2 2 1 false:=⟨_,_,_,_,_,underlying99,rfl,rfl,PH,underlying3,rfl⟩
def zb8:Qf prog 99 3 3 1 false:=⟨_,_,_,_,_,underlying99,rfl,rfl,US,underlying4,rfl⟩
def z2I:Qf prog 99 4 4 1 false:=⟨_,_,_,_,_,underlying99,rfl,rfl,US,underlying4,rfl⟩
def QV:Qf prog 103 0 0 5 true:=⟨_,_,_,_,_,underlying103,rfl,rfl,zgv,underlying99,rfl⟩
def z2p:Qf prog 103 1 5 1 false:=⟨_,_,_,_,_,underlying103,rfl,rfl,z8E,underlying28,rfl⟩
def zcM:Qf prog 103 2 6 1 false:=⟨_,_,_,_,_,underlying103,rfl,rfl,z8E,underlying28,rfl⟩
def z7p:Qf prog 103 3 7 1 false:=⟨_,_,_,_,_,underlying103,rfl,rfl,PH,underlying3,rfl⟩
def Vu:Qf prog 103 4 8 5 true:=⟨_,_,_,_,_,underlying103,rfl,rfl,za5,underlying101,rfl⟩
def zbJ:Qf prog 103 5 13 1 false:=⟨_,_,_,_,_,underlying103,rfl,rfl,US,underlying4,rfl⟩
def z2w:Qf prog 103 6 14 1 false:=⟨_,_,_,_,_,underlying103,rfl,rfl,US,underlying4,rfl⟩
def zgg:SP prog 103 [(0,5),(5,1),(6,1),(7,1),(8,5),(13,1),(14,1)]:=⟨_,underlying103,λ_=>by simp[za5.size,z8E.size,PH.size,US.size,zgv.size,Sem.run_bind,Sem.run_pure]⟩
def UJ:Qf prog 119 0 0 1 false:=⟨_,_,_,_,_,underlying119,rfl,rfl,zeH,underlying26,rfl⟩
def z2o:Qf prog 119 1 1 1 false:=⟨_,_,_,_,_,underlying119,rfl,rfl,zhD,underlying66,rfl⟩
def z6X:Qf prog 119 2 2 1 false:=⟨_,_,_,_,_,underlying119,rfl,rfl,zdX,underlying116,rfl⟩
def Uz:Qf prog 119 3 3 1 false:=⟨_,_,_,_,_,underlying119,rfl,rfl,zdZ,underlying117,rfl⟩
def Vs:Qf prog 119 4 4 7 true:=⟨_,_,_,_,_,underlying119,rfl,rfl,z1z,underlying76,rfl⟩
def z7b:Qf prog 119 5 11 1 false:=⟨_,_,_,_,_,underlying119,rfl,rfl,US,underlying4,rfl⟩
def ziv:SP prog 119 [(0,1),(1,1),(2,1),(3,1),(4,7),(11,1)]:=⟨_,underlying119,λ_=>by simp[zdX.size,zdZ.size,zeH.size,US.size,zhD.size,z1z.size,Sem.run_bind,Sem.run_pure]⟩
def QJ:Qf prog 124 0 0 1 false:=⟨_,_,_,_,_,underlying124,rfl,rfl,PH,underlying3,rfl⟩
def QX:Qf prog 124 1 1 1 false:=⟨_,_,_,_,_,underlying124,rfl,rfl,PH,underlying3,rfl⟩
def zho:SP prog 124 [(0,1),(1,1)]:=⟨_,underlying124,λ_=>by simp[PH.size,Sem.run_bind,Sem.run_pure]⟩
def zbW:Qf prog 127 0 0 1 false:=⟨_,_,_,_,_,underlying127,rfl,rfl,z6i,underlying37,rfl⟩
def zbI:Qf prog 127 1 1 1 false:=⟨_,_,_,_,_,underlying127,rfl,rfl,PH,underlying3,rfl⟩
def zcw:Qf prog 127 2 2 1 false:=⟨_,_,_,_,_,underlying127,rfl,rfl,XN,underlying5,rfl⟩
def ZS:Qf prog 129 0 0 1 false:=⟨_,_,_,_,_,underlying129,rfl,rfl,PH,underlying3,rfl⟩
def zcC:Qf prog 129 1 1 3 true:=⟨_,_,_,_,_,underlying129,rfl,rfl,za4,underlying127,rfl⟩
def zft:SP prog 129 [(0,1),(1,3)]:=⟨_,underlying129,λ_=>by simp[za4.size,PH.size,Sem.run_bind,Sem.run_pure]⟩
def Wv:Qf prog 132 0 0 4 true:=⟨_,_,_,_,_,underlying132,rfl,rfl,z7x,underlying129,rfl⟩
def ZO:Qf prog 132 1 4 2 true:=⟨_,_,_,_,_,underlying132,rfl,rfl,zb7,underlying85,rfl⟩
def z2R:Qf prog 132 2 6 1 false:=⟨_,_,_,_,_,underlying132,rfl,rfl,zdI,underlying125,rfl⟩
def XV:Qf prog 132 3 7 1 false:=⟨_,_,_,_,_,underlying132,rfl,rfl,z7w,underlying130,rfl⟩
def z38:Qf prog 132 4 8 1 false:=⟨_,_,_,_,_,underlying132,rfl,rfl,US,underlying4,rfl⟩
def z7D:Qf prog 132 5 9 1 false:=⟨_,_,_,_,_,underlying132,rfl,rfl,PH,underlying3,rfl⟩
def z74:Qf prog 132 6 10 1 false:=⟨_,_,_,_,_,underlying132,rfl,rfl,PH,underlying3,rfl⟩
def zhs:SP prog 132 [(0,4),(4,2),(6,1),(7,1),(8,1),(9,1),(10,1)]:=⟨_,underlying132,λ_=>by simp[zdI.size,z7x.size,z7w.size,PH.size,US.size,zb7.size,Sem.run_bind,Sem.run_pure]⟩
def z6Y:Qf prog 135 0 0 1 false:=⟨_,_,_,_,_,underlying135,rfl,rfl,PH,underlying3,rfl⟩
def UF:Qf prog 135 1 1 1 false:=⟨_,_,_,_,_,underlying135,rfl,rfl,zd1,underlying133,rfl⟩
def zc6:Qf prog 135 3 3 1 false:=⟨_,_,_,_,_,underlying135,rfl,rfl,US,underlying4,rfl⟩
def zhj:SP prog 135 [(0,1),(1,1),(2,1),(3,1)]:=⟨_,underlying135,λ_=>by simp[zd1.size,PH.size,US.size,Sem.run_bind,Sem.run_pure]⟩
def TT:Qf prog 153 0 0 1 false:=⟨_,_,_,_,_,underlying153,rfl,rfl,PH,underlying3,rfl⟩
def ZY:Qf prog 153 1 1 1 false:=⟨_,_,_,_,_,underlying153,rfl,rfl,PH,underlying3,rfl⟩
def Yh:Qf prog 153 2 2 5 true:=⟨_,_,_,_,_,underlying153,rfl,rfl,Ru,underlying93,rfl⟩
def UD:Qf prog 153 3 7 1 false:=⟨_,_,_,_,_,underlying153,rfl,rfl,PH,underlying3,rfl⟩
def zcR:SP prog 153 [(0,1),(1,1),(2,5),(7,1)]:=⟨_,underlying153,λ_=>by simp[PH.size,Ru.size,Sem.run_bind,Sem.run_pure]⟩
def Vw:Qf prog 158 0 0 8 true:=⟨_,_,_,_,_,underlying158,rfl,rfl,TC,underlying153,rfl⟩
def zct:Qf prog 158 1 8 1 false:=⟨_,_,_,_,_,underlying158,rfl,rfl,z2h,underlying155,rfl⟩
def z7k:Qf prog 158 2 9 1 false:=⟨_,_,_,_,_,underlying158,rfl,rfl,zcY,underlying156,rfl⟩
def zhp:SP prog 158 [(0,8),(8,1),(9,1)]:=⟨_,underlying158,λ_=>by simp[TC.size,z2h.size,zcY.size,Sem.run_bind,Sem.run_pure]⟩
def z2s:Qf prog 162 0 0 1 false:=⟨_,_,_,_,_,underlying162,rfl,rfl,PH,underlying3,rfl⟩
def Vy:Qf prog 162 1 1 1 false:=⟨_,_,_,_,_,underlying162,rfl,rfl,PH,underlying3,rfl⟩
def XZ:Qf prog 162 2 2 1 false:=⟨_,_,_,_,_,underlying162,rfl,rfl,PH,underlying3,rfl⟩
def zhv:SP prog 162 [(0,1),(1,1),(2,1)]:=⟨_,underlying162,λ_=>by simp[PH.size,Sem.run_bind,Sem.run_pure]⟩
def RW:Qf prog 164 0 0 3 true:=⟨_,_,_,_,_,underlying164,rfl,rfl,Yt,underlying162,rfl⟩
def z07:Qf prog 164 1 3 2 true:=⟨_,_,_,_,_,underlying164,rfl,rfl,QT,underlying124,rfl⟩
def WO:Qf prog 164 2 5 1 false:=⟨_,_,_,_,_,underlying164,rfl,rfl,z7P,underlying27,rfl⟩
def z7q:Qf prog 164 3 6 1 false:=⟨_,_,_,_,_,underlying164,rfl,rfl,US,underlying4,rfl⟩
def zfN:SP prog 164 [(0,3),(3,2),(5,1),(6,1)]:=⟨_,underlying164,λ_=>by simp[QT.size,Yt.size,z7P.size,US.size,Sem.run_bind,Sem.run_pure]⟩
def ZR:Qf prog 175 1 1 1 false:=⟨_,_,_,_,_,underlying175,rfl,rfl,X9,underlying113,rfl⟩
def PV:Qf prog 188 0 0 1 false:=⟨_,_,_,_,_,underlying188,rfl,rfl,z6i,underlying37,rfl⟩
def Yk:Qf prog 188 1 1 1 false:=⟨_,_,_,_,_,underlying188,rfl,rfl,z7a,underlying186,rfl⟩
def Se:Qf prog 190 0 0 1 false:=⟨_,_,_,_,_,underlying190,rfl,rfl,PH,underlying3,rfl⟩
def Qo:Qf prog 190 1 1 2 true:=⟨_,_,_,_,_,underlying190,rfl,rfl,z3R,underlying188,rfl⟩
def Re:Qf prog 190 2 3 2 true:=⟨_,_,_,_,_,underlying190,rfl,rfl,z3R,underlying188,rfl⟩
def QG:Qf prog 190 3 5 2 true:=⟨_,_,_,_,_,underlying190,rfl,rfl,z3R,underlying188,rfl⟩
def R3:Qf prog 190 4 7 2 true:=⟨_,_,_,_,_,underlying190,rfl,rfl,z3R,underlying188,rfl⟩
def R5:Qf prog 190 5 9 1 false:=⟨_,_,_,_,_,underlying190,rfl,rfl,PH,underlying3,rfl⟩
def ZM:Qf prog 190 6 10 1 false:=⟨_,_,_,_,_,underlying190,rfl,rfl,z7a,underlying186,rfl⟩
def zhY:SP prog 190 [(0,1),(1,2),(3,2),(5,2),(7,2),(9,1),(10,1)]:=⟨_,underlying190,λ_=>by simp[z7a.size,z3R.size,PH.size,Sem.run_bind,Sem.run_pure]⟩
def UM:Qf prog 195 0 0 1 false:=⟨_,_,_,_,_,underlying195,rfl,rfl,z7P,underlying27,rfl⟩
def TV:Qf prog 195 1 1 2 true:=⟨_,_,_,_,_,underlying195,rfl,rfl,QT,underlying124,rfl⟩
def zdB:SP prog 195 [(0,1),(1,2)]:=⟨_,underlying195,λ_=>by simp[QT.size,z7P.size,Sem.run_bind,Sem.run_pure]⟩
def Wp:Qf prog 197 0 0 3 true:=⟨_,_,_,_,_,underlying197,rfl,rfl,Xo,underlying195,rfl⟩
def SG:Qf prog 197 1 3 1 false:=⟨_,_,_,_,_,underlying197,rfl,rfl,X9,underlying113,rfl⟩
def Yo:Qf prog 197 2 4 1 false:=⟨_,_,_,_,_,underlying197,rfl,rfl,PH,underlying3,rfl⟩
def ZN:Qf prog 197 3 5 1 false:=⟨_,_,_,_,_,underlying197,rfl,rfl,PH,underlying3,rfl⟩
def z2X:Qf prog 197 4 6 1 false:=⟨_,_,_,_,_,underlying197,rfl,rfl,OS,underlying42,rfl⟩
def ZL:Qf prog 197 5 7 1 false:=⟨_,_,_,_,_,underlying197,rfl,rfl,zel,underlying55,rfl⟩
def XS:Qf prog 197 6 8 1 false:=⟨_,_,_,_,_,underlying197,rfl,rfl,US,underlying4,rfl⟩
def zdx:SP prog 197 [(0,3),(3,1),(4,1),(5,1),(6,1),(7,1),(8,1)]:=⟨_,underlying197,λ_=>by simp[X9.size,Xo.size,PH.size,US.size,OS.size,zel.size,Sem.run_bind,Sem.run_pure]⟩
def Yn:Qf prog 202 0 0 3 true:=⟨_,_,_,_,_,underlying202,rfl,rfl,Xo,underlying195,rfl⟩
def z05:Qf prog 202 1 3 1 false:=⟨_,_,_,_,_,underlying202,rfl,rfl,PH,underlying3,rfl⟩
def zbN:Qf prog 202 2 4 1 false:=⟨_,_,_,_,_,underlying202,rfl,rfl,OS,underlying42,rfl⟩
def zi4:SP prog 202 [(0,3),(3,1),(4,1)]:=⟨_,underlying202,λ_=>by simp[Xo.size,PH.size,OS.size,Sem.run_bind,Sem.run_pure]⟩
def z2y:Qf prog 218 0 0 1 false:=⟨_,_,_,_,_,underlying218,rfl,rfl,ti9,underlying9,rfl⟩
def z2D:Qf prog 218 1 1 1 false:=⟨_,_,_,_,_,underlying218,rfl,rfl,US,underlying4,rfl⟩
def zfX:SP prog 218 [(0,1),(1,1)]:=⟨_,underlying218,λ_=>by simp[US.size,ti9.size,Sem.run_bind,Sem.run_pure]⟩
def Vz:Qf prog 220 0 0 2 true:=⟨_,_,_,_,_,underlying220,rfl,rfl,z7t,underlying218,rfl⟩
def zbG:Qf prog 220 1 2 1 false:=⟨_,_,_,_,_,underlying220,rfl,rfl,PH,underlying3,rfl⟩
def zi6:SP prog 220 [(0,2),(2,1)]:=⟨_,underlying220,λ_=>by simp[z7t.size,PH.size,Sem.run_bind,Sem.run_pure]⟩
def zbE:Qf prog 231 0 0 1 false:=⟨_,_,_,_,_,underlying231,rfl,rfl,PH,underlying3,rfl⟩
def zc4:Qf prog 231 1 1 1 false:=⟨_,_,_,_,_,underlying231,rfl,rfl,PH,underlying3,rfl⟩
def Zt:SP prog 231 [(0,1),(1,1)]:=⟨_,underlying231,λ_=>by simp[PH.size,Sem.run_bind,Sem.run_pure]⟩
def Yz:Qf prog 236 0 0 1 false:=⟨_,_,_,_,_,underlying236,rfl,rfl,PH,underlying3,rfl⟩
def zcB:Qf prog 236 1 1 1 false:=⟨_,_,_,_,_,underlying236,rfl,rfl,S7,underlying39,rfl⟩
def T7:Qf prog 236 2 2 1 false:=⟨_,_,_,_,_,underlying236,rfl,rfl,PH,underlying3,rfl⟩
def Yq:Qf prog 236 3 3 1 false:=⟨_,_,_,_,_,underlying236,rfl,rfl,PH,underlying3,rfl⟩
def zfS:SP prog 236 [(0,1),(1,1),(2,1),(3,1)]:=⟨_,underlying236,λ_=>by simp[PH.size,S7.size,Sem.run_bind,Sem.run_pure]⟩
def zbV:Qf prog 249 0 0 1 false:=⟨_,_,_,_,_,underlying249,rfl,rfl,z2h,underlying155,rfl⟩
def zc1:Qf prog 249 1 1 1 false:=⟨_,_,_,_,_,underlying249,rfl,rfl,PH,underlying3,rfl⟩
def z2J:Qf prog 249 2 2 1 false:=⟨_,_,_,_,_,underlying249,rfl,rfl,PH,underlying3,rfl⟩
def zfk:SP prog 249 [(0,1),(1,1),(2,1)]:=⟨_,underlying249,λ_=>by simp[z2h.size,PH.size,Sem.run_bind,Sem.run_pure]⟩
def zck:Qf prog 261 0 0 1 false:=⟨_,_,_,_,_,underlying261,rfl,rfl,US,underlying4,rfl⟩
def zbQ:Qf prog 261 1 1 1 false:=⟨_,_,_,_,_,underlying261,rfl,rfl,US,underlying4,rfl⟩
def z2v:Qf prog 261 2 2 1 false:=⟨_,_,_,_,_,underlying261,rfl,rfl,PH,underlying3,rfl⟩
def VJ:SP prog 261 [(0,1),(1,1),(2,1)]:=⟨_,underlying261,λ_=>by simp[PH.size,US.size,Sem.run_bind,Sem.run_pure]⟩
def Sd:Qf prog 268 0 0 1 false:=⟨_,_,_,_,_,underlying268,rfl,rfl,TD,underlying40,rfl⟩
def z2C:Qf prog 268 1 1 1 false:=⟨_,_,_,_,_,underlying268,rfl,rfl,PH,underlying3,rfl⟩
def zcU:SP prog 268 [(0,1),(1,1)]:=⟨_,underlying268,λ_=>by simp[PH.size,TD.size,Sem.run_bind,Sem.run_pure]⟩
def z7j:Qf prog 271 0 0 34 true:=⟨_,_,_,_,_,underlying271,rfl,rfl,zi7,underlying269,rfl⟩
def UO:Qf prog 271 1 34 1 false:=⟨_,_,_,_,_,underlying271,rfl,rfl,PH,underlying3,rfl⟩
def WL:Qf prog 273 0 0 5 true:=⟨_,_,_,_,_,underlying273,rfl,rfl,Ru,underlying93,rfl⟩
def Yf:Qf prog 273 1 5 35 true:=⟨_,_,_,_,_,underlying273,rfl,rfl,zcW,underlying271,rfl⟩
def z2B:Qf prog 273 2 40 1 false:=⟨_,_,_,_,_,underlying273,rfl,rfl,z6K,underlying229,rfl⟩
def z2z:Qf prog 273 3 41 1 false:=⟨_,_,_,_,_,underlying273,rfl,rfl,PH,underlying3,rfl⟩
def zcq:Qf prog 273 4 42 1 false:=⟨_,_,_,_,_,underlying273,rfl,rfl,PH,underlying3,rfl⟩
def zhI:SP prog 273 [(0,5),(5,35),(40,1),(41,1),(42,1)]:=⟨_,underlying273,λ_=>by simp[z6K.size,zcW.size,PH.size,Ru.size,Sem.run_bind,Sem.run_pure]⟩
def Tf:Qf prog 276 0 0 1 false:=⟨_,_,_,_,_,underlying276,rfl,rfl,PH,underlying3,rfl⟩
def TP:Qf prog 276 1 1 1 false:=⟨_,_,_,_,_,underlying276,rfl,rfl,PH,underlying3,rfl⟩
def z04:Qf prog 276 2 2 1 false:=⟨_,_,_,_,_,underlying276,rfl,rfl,PH,underlying3,rfl⟩
def zfT:SP prog 276 [(0,1),(1,1),(2,1)]:=⟨_,underlying276,λ_=>by simp[PH.size,Sem.run_bind,Sem.run_pure]⟩
def YC:Qf prog 283 0 0 1 false:=⟨_,_,_,_,_,underlying283,rfl,rfl,X9,underlying113,rfl⟩
def WK:Qf prog 283 1 1 1 false:=⟨_,_,_,_,_,underlying283,rfl,rfl,PH,underlying3,rfl⟩
def ziw:SP prog 283 [(0,1),(1,1)]:=⟨_,underlying283,λ_=>by simp[X9.size,PH.size,Sem.run_bind,Sem.run_pure]⟩
def S9:Qf prog 293 0 0 4 true:=⟨_,_,_,_,_,underlying293,rfl,rfl,Tb,underlying236,rfl⟩
def z2N:Qf prog 293 1 4 1 false:=⟨_,_,_,_,_,underlying293,rfl,rfl,z2h,underlying155,rfl⟩
def zfE:SP prog 293 [(0,4),(4,1)]:=⟨_,underlying293,λ_=>by simp[z2h.size,Tb.size,Sem.run_bind,Sem.run_pure]⟩
def Ta:Qf prog 303 0 0 1 false:=⟨_,_,_,_,_,underlying303,rfl,rfl,PH,underlying3,rfl⟩
def Sj:Qf prog 303 1 1 1 false:=⟨_,_,_,_,_,underlying303,rfl,rfl,PH,underlying3,rfl⟩
def zaQ:SP prog 303 [(0,1),(1,1)]:=⟨_,underlying303,λ_=>by simp[PH.size,Sem.run_bind,Sem.run_pure]⟩
def RX:Qf prog 314 0 0 1 false:=⟨_,_,_,_,_,underlying314,rfl,rfl,XN,underlying5,rfl⟩
def WD:Qf prog 314 1 1 1 false:=⟨_,_,_,_,_,underlying314,rfl,rfl,S7,underlying39,rfl⟩
def zdU:SP prog 314 [(0,1),(1,1)]:=⟨_,underlying314,λ_=>by simp[S7.size,XN.size,Sem.run_bind,Sem.run_pure]⟩
def z7K:Qf prog 316 0 0 2 true:=⟨_,_,_,_,_,underlying316,rfl,rfl,Qx,underlying314,rfl⟩
def z7L:Qf prog 316 1 2 1 false:=⟨_,_,_,_,_,underlying316,rfl,rfl,S7,underlying39,rfl⟩
def zd0:SP prog 316 [(0,2),(2,1)]:=⟨_,underlying316,λ_=>by simp[Qx.size,S7.size,Sem.run_bind,Sem.run_pure]⟩
def z30:Qf prog 321 0 0 1 false:=⟨_,_,_,_,_,underlying321,rfl,rfl,ti9,underlying9,rfl⟩
def UC:Qf prog 321 1 1 1 false:=⟨_,_,_,_,_,underlying321,rfl,rfl,PH,underlying3,rfl⟩
def zgF:SP prog 321 [(0,1),(1,1)]:=⟨_,underlying321,λ_=>by simp[PH.size,ti9.size,Sem.run_bind,Sem.run_pure]⟩
def zcj:Qf prog 332 0 0 1 false:=⟨_,_,_,_,_,underlying332,rfl,rfl,z1G,underlying289,rfl⟩
def Ty:Qf prog 332 1 1 1 false:=⟨_,_,_,_,_,underlying332,rfl,rfl,US,underlying4,rfl⟩
def zht:SP prog 332 [(0,1),(1,1)]:=⟨_,underlying332,λ_=>by simp[z1G.size,US.size,Sem.run_bind,Sem.run_pure]⟩
def z00:Qf prog 336 0 0 1 false:=⟨_,_,_,_,_,underlying336,rfl,rfl,PH,underlying3,rfl⟩
def z2V:Qf prog 336 1 1 1 false:=⟨_,_,_,_,_,underlying336,rfl,rfl,ti9,underlying9,rfl⟩
def zf8:SP prog 336 [(0,1),(1,1)]:=⟨_,underlying336,λ_=>by simp[PH.size,ti9.size,Sem.run_bind,Sem.run_pure]⟩
def z33:Qf prog 348 0 0 1 false:=⟨_,_,_,_,_,underlying348,rfl,rfl,PH,underlying3,rfl⟩
def z6I:Qf prog 348 1 1 1 false:=⟨_,_,_,_,_,underlying348,rfl,rfl,PH,underlying3,rfl⟩
def zfw:SP prog 348 [(0,1),(1,1)]:=⟨_,underlying348,λ_=>by simp[PH.size,Sem.run_bind,Sem.run_pure]⟩
def z6J:Qf prog 351 0 0 1 false:=⟨_,_,_,_,_,underlying351,rfl,rfl,S7,underlying39,rfl⟩
def ZP:Qf prog 351 1 1 1 false:=⟨_,_,_,_,_,underlying351,rfl,rfl,PH,underlying3,rfl⟩
def zan:SP prog 351 [(0,1),(1,1)]:=⟨_,underlying351,λ_=>by simp[PH.size,S7.size,Sem.run_bind,Sem.run_pure]⟩
def zbA:Qf prog 366 0 0 1 false:=⟨_,_,_,_,_,underlying366,rfl,rfl,z1G,underlying289,rfl⟩
def z0a:Qf prog 366 1 1 1 false:=⟨_,_,_,_,_,underlying366,rfl,rfl,US,underlying4,rfl⟩
def zfG:SP prog 366 [(0,1),(1,1)]:=⟨_,underlying366,λ_=>by simp[z1G.size,US.size,Sem.run_bind,Sem.run_pure]⟩
def cf8:=Pr func8
def cf9:=Pr func9
def zgY:=Pr func10
def zj6:=Pr func11
def zhR:=Pr func12
def zjD:=Pr func14
def ziS:=Pr func15
def ziO:=Pr func17
def zjq:=Pr func19
def ziF:=Pr func22
def ziT:=Pr func24
def zfK:=Pr func25
def zjj:=Pr func28
def zjK:=Pr func29
def zj5:=Pr func30
def zjs:=Pr func31
def ziU:=Pr func32
def zfr:=Pr func33
def zfs:=Pr func34
def z8F:=Pr func37
def zfO:=Pr func38
def zj7:=Pr func39
def zf3:=Pr func40
def ziZ:=Pr func41
def z6A:=Pr func42
def zeO:=Pr func43
def zin:=Pr func44
def zgu:=Pr func45
def zjG:=Pr func46
def zj4:=Pr func47
def zjM:=Pr func51
def zg2:=Pr func55
def zhC:=Pr func57
def zjo:=Pr func61
def ziA:=Pr func62
def zjJ:=Pr func63
def zjC:=Pr func64
def z4h:=Pr func65
def zgX:=Pr func66
def ziR:=Pr func67
def zjg:=Pr func68
def zjk:=Pr func69
def zj1:=Pr func70
def zjd:=Pr func71
def zhF:=Pr func72
def zjl:=Pr func73
def zbZ:=Pr func74
def zi8:=Pr func75
def zeN:=Pr func76
def ze8:=Pr func77
def ziN:=Pr func78
def zjx:=Pr func79
def z3V:=Pr func80
def zjb:=Pr func81
def ziM:=Pr func82
def zbO:=Pr func83
def ziP:=Pr func84
def ziD:=Pr func85
def zf9:=Pr func87
def zh0:=Pr func88
def zji:=Pr func91
def zjw:=Pr func92
def ziG:=Pr func93
def zja:=Pr func94
def zeo:=Pr func95
def zjp:=Pr func96
def zhy:=Pr func97
def zg0:=Pr func98
def zeE:=Pr func99
def zbq:=Pr func100
def zd9:=Pr func101
def zgV:=Pr func102
def zcP:=Pr func103
def zcO:=Pr func104
def zdf:=Pr func105
def zdR:=Pr func106
def zgJ:=Pr func107
def zid:=Pr func108
def zgk:=Pr func109
def zgL:=Pr func114
def Xj:=Pr func115
def zdi:=Pr func116
def zfM:=Pr func117
def zg9:=Pr func118
def zdt:=Pr func119
def zdD:=Pr func120
def zfv:=Pr func121
def zit:=Pr func122
def zhJ:=Pr func124
def zgf:=Pr func125
def zi9:=Pr func126
def zgN:=Pr func127
def zhL:=Pr func128
def zbp:=Pr func129
def z0J:=Pr func130
def Wb:=Pr func131
def z7d:=Pr func132
def zfn:=Pr func133
def zaq:=Pr func134
def z2f:=Pr func135
def zdJ:=Pr func136
def zdw:=Pr func137
def z4v:=Pr func138
def zhw:=Pr func139
def zh5:=Pr func140
def zgQ:=Pr func141
def zhh:=Pr func142
def zfV:=Pr func143
def zgd:=Pr func144
def zhV:=Pr func145
def zh4:=Pr func146
def zfI:=Pr func147
def zfY:=Pr func150
def zdc:=Pr func152
def zfd:=Pr func153
def zf5:=Pr func154
def zhb:=Pr func156
def zgR:=Pr func157
def zgc:=Pr func158
def zd5:=Pr func160
def z3J:=Pr func161
def z0v:=Pr func162
def zfC:=Pr func163
def z7E:=Pr func164
def zdj:=Pr func165
def zfF:=Pr func166
def zii:=Pr func167
def zhN:=Pr func168
def z1J:=Pr func169
def zie:=Pr func170
def z7n:=Pr func171
def ZB:=Pr func172
def z47:=Pr func173
def zgD:=Pr func174
def z78:=Pr func175
def zcQ:=Pr func176
def zdY:=Pr func177
def Xn:=Pr func178
def SD:=Pr func179
def zg7:=Pr func180
def zfh:=Pr func181
def zhu:=Pr func183
def zcZ:=Pr func184
def zhK:=Pr func185
def zhM:=Pr func186
def Yv:=Pr func187
def T8:=Pr func188
def Ys:=Pr func189
def zdu:=Pr func190
def z0o:=Pr func191
def zbg:=Pr func192
def zgO:=Pr func193
def zda:=Pr func194
def zdH:=Pr func195
def zfW:=Pr func196
def z3O:=Pr func197
def zhQ:=Pr func198
def zdp:=Pr func199
def zdy:=Pr func200
def zgZ:=Pr func201
def zhz:=Pr func202
def zhG:=Pr func203
def zgo:=Pr func204
def zcS:=Pr func205
def zdE:=Pr func206
def zgs:=Pr func207
def zhm:=Pr func208
def zfj:=Pr func209
def zdC:=Pr func210
def z71:=Pr func211
def z3g:=Pr func212
def zf0:=Pr func213
def zfD:=Pr func214
def zbo:=Pr func215
def zhO:=Pr func216
def zgh:=Pr func217
def zi0:=Pr func218
def zdS:=Pr func219
def XW:=Pr func220
def zh6:=Pr func221
def z4o:=Pr func222
def zf6:=Pr func223
def zdl:=Pr func224
def zix:=Pr func225
def zdN:=Pr func226
def zdM:=Pr func227
def zcT:=Pr func228
def zbm:=Pr func229
def zhl:=Pr func230
def zfi:=Pr func231
def zhP:=Pr func232
def zh2:=Pr func233
def zhS:=Pr func234
def zfQ:=Pr func235
def z3W:=Pr func236
def zd8:=Pr func237
def zga:=Pr func238
def zhi:=Pr func239
def zgx:=Pr func240
def zik:=Pr func241
def zif:=Pr func242
def z2j:=Pr func243
def zdq:=Pr func244
def zax:=Pr func245
def zdA:=Pr func246
def zi3:=Pr func247
def zfu:=Pr func248
def zdG:=Pr func249
def zaw:=Pr func250
def zgM:=Pr func251
def z6S:=Pr func252
def zhE:=Pr func253
def zhc:=Pr func254
def zgA:=Pr func255
def zfH:=Pr func256
def zfx:=Pr func257
def zhe:=Pr func258
def zgS:=Pr func259
def VH:=Pr func260
def zg8:=Pr func261
def zfL:=Pr func262
def zdg:=Pr func264
def zfz:=Pr func265
def zfq:=Pr func266
def zgq:=Pr func268
def ziu:=Pr func269
def zaY:=Pr func270
def zfR:=Pr func290
def zgB:=Pr func291
def zfA:=Pr func293
def zgz:=Pr func294
def wtr (ops:List Oper)(i:Nat):List Nat:=(List.range ops.length).foldl (λa j=>match ops[j]? with|some o=>if o.after.any (λx=>Region.binds .any x&&(x.on==i ||a.contains x.on)) then a++[j] else a|none=>a) []
section
variable {D:RC}{l:List Oper}{e:Env}{w w':World}{d:Nat}{op:Op}{ty:TypeId}{pos:String}{aft:Array Edge}{g:Option (Nat×Bool)}{v:Value}
def qV (hy:Y D.C.P e ⟨some d,op,ty,pos,aft,g⟩ v w w')(h:RL D l ((d,v)::e) w')(ho:RZ D e g true=true:=by exact rfl)(hd:Nat.blt d D.C.n=true:=by exact rfl):RL D (⟨some d,op,ty,pos,aft,g⟩::l) e w:=UR ho hd hy h
theorem qS (h:RL D l ((d,undef)::e) w)(ho:RZ D e g false=true:=by exact rfl)(hd:Nat.blt d D.C.n=true:=by exact rfl):RL D (⟨some d,op,ty,pos,aft,g⟩::l) e w:=zh8 ho hd h
theorem OC {x:Operand}(hx:look e x=some v)(h:RL D l ((d,v)::e) w)(ho:RZ D e g true=true:=by exact rfl)(hd:Nat.blt d D.C.n=true:=by exact rfl):RL D (⟨some d,.move x,ty,pos,aft,g⟩::l) e w:=UR ho hd (X7 hx) h
theorem Si {x:Operand}(hx:look e x=some v)(h:RL D l ((d,v)::e) w)(ho:RZ D e g true=true:=by exact rfl)(hd:Nat.blt d D.C.n=true:=by exact rfl):RL D (⟨some d,.assign x,ty,pos,aft,g⟩::l) e w:=UR ho hd (Rr hx) h
theorem PL {x y:Operand}{t t':TypeId}{a b:Int}(h0:(look e x,look e y)=(some (I a),some (I b)))(h:RL D l ((d,I (a+b))::e) w)(hb:JIq (a+b):=by omega)(ho:RZ D e g true=true:=by exact rfl)(hd:Nat.blt d D.C.n=true:=by exact rfl):RL D (⟨some d,.binOp .add t x y t',ty,pos,aft,g⟩::l) e w:=UR ho hd (Uw (congrArg Prod.fst h0) (congrArg Prod.snd h0) hb) h
theorem OQ {f:FuncId}{vs:List Value}{S:Value->World->Prop}{ts:Array TypeId}{args:List Operand}(hf:CF D.C.P f)(ha:looks e args=some vs)(hc:P9 D.C.P f vs w S)(h:∀v w',S v w'->RL D l ((d,v)::e) w')(ho:RZ D e g true=true:=by exact rfl)(hd:Nat.blt d D.C.n=true:=by exact rfl):RL D (⟨some d,.call ⟨.value (.func f),args.toArray,ts⟩,ty,pos,aft,g⟩::l) e w:=Qy ho hd (yc hf ha) hc h
def Rf {p:Prop}[hp:Decidable p](hr:RL D l ((d,.bool true)::e) w)(h:p:=by first|rfl|assumption|omega|decide):RL D l ((d,.bool (decide p))::e) w:=zgE h hr
def Pu {p:Prop}[hp:Decidable p](hr:RL D l ((d,.bool false)::e) w)(h:¬p:=by first|exact λh=>h O|assumption|omega):RL D l ((d,.bool (decide p))::e) w:=zeF h hr
theorem Qv {x y:Operand}{t t':TypeId}{k:IntKind}{a b:Int}(h0:(look e x,look e y)=(some (.int k a),some (.int k b)))(h:RL D l ((d,.bool (decide (a<b)))::e) w)(ho:RZ D e g true=true:=by exact rfl)(hd:Nat.blt d D.C.n=true:=by exact rfl):RL D (⟨some d,.binOp .lss t x y t',ty,pos,aft,g⟩::l) e w:=UR ho hd (ylt (congrArg Prod.fst h0) (congrArg Prod.snd h0)) h
theorem zle {x y:Operand}{t t':TypeId}{k:IntKind}{a b:Int}(h0:(look e x,look e y)=(some (.int k a),some (.int k b)))(h:RL D l ((d,.bool (decide (a<=b)))::e) w)(ho:RZ D e g true=true:=by exact rfl)(hd:Nat.blt d D.C.n=true:=by exact rfl):RL D (⟨some d,.binOp .leq t x y t',ty,pos,aft,g⟩::l) e w:=UR ho hd (YF (congrArg Prod.fst h0) (congrArg Prod.snd h0)) h
theorem Qr {x y:Operand}{t t':TypeId}{k:IntKind}{a b:Int}(h0:(look e x,look e y)=(some (.int k a),some (.int k b)))(h:RL D l ((d,.bool (decide (b<a)))::e) w)(ho:RZ D e g true=true:=by exact rfl)(hd:Nat.blt d D.C.n=true:=by exact rfl):RL D (⟨some d,.binOp .gtr t x y t',ty,pos,aft,g⟩::l) e w:=UR ho hd (XQ (congrArg Prod.fst h0) (congrArg Prod.snd h0)) h
theorem TE {x y:Operand}{t t':TypeId}{k:IntKind}{a b:Int}(h0:(look e x,look e y)=(some (.int k a),some (.int k b)))(h:RL D l ((d,.bool (decide (b<=a)))::e) w)(ho:RZ D e g true=true:=by exact rfl)(hd:Nat.blt d D.C.n=true:=by exact rfl):RL D (⟨some d,.binOp .geq t x y t',ty,pos,aft,g⟩::l) e w:=UR ho hd (yge (congrArg Prod.fst h0) (congrArg Prod.snd h0)) h
theorem QS {x y:Operand}{t t':TypeId}{k:IntKind}{a b:Int}(h0:(look e x,look e y)=(some (.int k a),some (.int k b)))(h:RL D l ((d,.bool (decide (a=b)))::e) w)(ho:RZ D e g true=true:=by exact rfl)(hd:Nat.blt d D.C.n=true:=by exact rfl):RL D (⟨some d,.binOp .eql t x y t',ty,pos,aft,g⟩::l) e w:=UR ho hd (yeq (congrArg Prod.fst h0) (congrArg Prod.snd h0)) h
theorem Ql {x y:Operand}{t t':TypeId}{k:IntKind}{a b:Int}(h0:(look e x,look e y)=(some (.int k a),some (.int k b)))(h:RL D l ((d,.bool (decide (a≠b)))::e) w)(ho:RZ D e g true=true:=by exact rfl)(hd:Nat.blt d D.C.n=true:=by exact rfl):RL D (⟨some d,.binOp .neq t x y t',ty,pos,aft,g⟩::l) e w:=UR ho hd (yne (congrArg Prod.fst h0) (congrArg Prod.snd h0)) h
theorem QQ {c x y:Operand}(h0:(look e c,look e x)=(some (.bool true),some v))(h:RL D l ((d,v)::e) w)(ho:RZ D e g true=true:=by exact rfl)(hd:Nat.blt d D.C.n=true:=by exact rfl):RL D (⟨some d,.pick c x y,ty,pos,aft,g⟩::l) e w:=UR ho hd (UT (congrArg Prod.fst h0) (congrArg Prod.snd h0)) h
theorem PC {c x y:Operand}(h0:(look e c,look e y)=(some (.bool false),some v))(h:RL D l ((d,v)::e) w)(ho:RZ D e g true=true:=by exact rfl)(hd:Nat.blt d D.C.n=true:=by exact rfl):RL D (⟨some d,.pick c x y,ty,pos,aft,g⟩::l) e w:=UR ho hd (U0 (congrArg Prod.fst h0) (congrArg Prod.snd h0)) h
theorem zex {x:Operand}{vs:Array Value}{i:Nat}(h0:(look e x,vs[i]?)=(some (.tuple vs),some v))(h:RL D l ((d,v)::e) w)(ho:RZ D e g true=true:=by exact rfl)(hd:Nat.blt d D.C.n=true:=by exact rfl):RL D (⟨some d,.extract x i,ty,pos,aft,g⟩::l) e w:=UR ho hd (Rv (congrArg Prod.fst h0) (congrArg Prod.snd h0)) h
theorem OL {t:TypeId}{i off n b m:Nat}{agg:Bool}{x:Operand}(hf:Qf D.C.P t i off (n+1) agg)(hx:look e x=some (ptr b m))(h:RL D l ((d,ptr b (m+off))::e) w)(ho:RZ D e g true=true:=by exact rfl)(hd:Nat.blt d D.C.n=true:=by exact rfl):RL D (⟨some d,.fieldAddr t x i,ty,pos,aft,g⟩::l) e w:=UR ho hd (Pk hf hx) h
theorem Ro {t el:TypeId}{x:Operand}{a:Option Addr}{len cap:Nat}(ht:D.C.P.underlying t=some (.slice el))(hx:look e x=some (.slice a len cap))(h:RL D l ((d,I (len:Int))::e) w)(ho:RZ D e g true=true:=by exact rfl)(hd:Nat.blt d D.C.n=true:=by exact rfl):RL D (⟨some d,.call ⟨.builtin .len,#[x],#[t]⟩,ty,pos,aft,g⟩::l) e w:=UR ho hd (St ht hx) h
theorem Ra {x y:Operand}{t t':TypeId}{a b:Int}(h0:(look e x,look e y)=(some (I a),some (I b)))(h:RL D l ((d,I (a-b))::e) w)(hb:JIq (a-b):=by omega)(ho:RZ D e g true=true:=by exact rfl)(hd:Nat.blt d D.C.n=true:=by exact rfl):RL D (⟨some d,.binOp .sub t x y t',ty,pos,aft,g⟩::l) e w:=UR ho hd (X8 (congrArg Prod.fst h0) (congrArg Prod.snd h0) hb) h
theorem OK {D:RC}{x:Operand}(hx:look e x=some v)(h:P8 D.C D.k ((d,v)::e) w)(ho:RZ D e g true=true:=by exact rfl)(hd:Nat.blt d D.C.n=true:=by exact rfl):RL D [⟨some d,.assign x,ty,pos,aft,g⟩] e w:=UR ho hd (Rr hx) (Oq h)
theorem OX {x y:Operand}{d':Nat}{v':Value}{ty':TypeId}{pos':String}{aft':Array Edge}{g':Option (Nat×Bool)}(h0:(look e x,look ((d,v)::e) y)=(some v,some v'))(h:RL D l ((d',v')::(d,v)::e) w)(ho:RZ D e g true=true:=by exact rfl)(hd:Nat.blt d D.C.n=true:=by exact rfl)(ho':RZ D ((d,v)::e) g' true=true:=by exact rfl)(hd':Nat.blt d' D.C.n=true:=by exact rfl):RL D (⟨some d,.move x,ty,pos,aft,g⟩::⟨some d',.move y,ty',pos',aft',g'⟩::l) e w:=UR ho hd (X7 (congrArg Prod.fst h0)) (UR ho' hd' (X7 (congrArg Prod.snd h0)) h)
def z5C:Value->Bool
  | .pointer (some _)=>true
  | .func (.func _) _ _=>true
  |_=>false
theorem Q8 {P:Program}{d:Option Nat}{x:Operand}(hx:look e x=some v)(hv:z5C v=true:=by exact rfl):Y P e ⟨d,.nilCheck x,ty,pos,aft,g⟩ v w w:=by
  unfold z5C at hv
  split at hv
  · exact ync hx
  · exact ziW hx
  · cases hv
theorem Pb {x:Operand}(hx:look e x=some v)(h:RL D l ((d,v)::e) w)(hv:z5C v=true:=by exact rfl)(ho:RZ D e g true=true:=by exact rfl)(hd:Nat.blt d D.C.n=true:=by exact rfl):RL D (⟨some d,.nilCheck x,ty,pos,aft,g⟩::l) e w:=UR ho hd (Q8 hx hv) h
end
section
variable {C:Cx}{k:List Item}{e e':Env}{w:World}{id:Nat}{ops:List Oper}{y:Code}
def qN {x:Code}(ho:Rz C.n ops=true)(h:RL ⟨C,ops,.code x::k,ho⟩ ops e w):P8 C (.code (.seq (.region id ops.toArray false) x)::k) e w:=An (Oz ho h)
def Rw {α:Type}{c:Code}(x0:α)(E:α->Env)(I:α->World->Prop)(μ:α->Nat)(hI:I x0 w)(round:∀x w,I x w->(∀y w',I y w'->μ y<μ x->P8 C (.inLoop c::k) (E y) w')->P8 C (.code c:: .inLoop c::k) (E x) w)(hE:Sub (E x0) e:=by repeat (first|exact Sub.nil|refine Sub.cons O ?_)):P8 C (.code (.loop c)::k) e w:=zaG x0 E I μ hE hI round
def P8.qb (h:P8 C k e w)(hs:Sub e e':=by repeat (first|exact Sub.nil|refine Sub.cons O ?_)):P8 C k e' w:=h.sub hs
end
section
variable {k:List Item}{e:Env}{w:World}{id:Nat}{ops:List Oper}{x:Code}
def qM {C:Cx}{ops0:List Oper}{h0:Rz C.n ops0=true}(ho:Rz C.n ops=true)(h:RL ⟨C,ops,.code x::k,ho⟩ ops e w):RL ⟨C,ops0,.code (.seq (.region id ops.toArray false) x)::k,h0⟩ [] e w:=Oq (An (Oz ho h))
end
section
variable {D:RC}{late:List Nat}{S:World->Prop}{e:Env}{w w':World}{d fuel:Nat}{op:Op}{ty:TypeId}{pos:String}{aft:Array Edge}{g:Option (Nat×Bool)}{listed:Array Bool}{v:Value}
def qT (i:Nat)(hi:D.ops[i]? =some ⟨some d,op,ty,pos,aft,g⟩)(hy:∀w,S w->Y D.C.P e ⟨some d,op,ty,pos,aft,g⟩ v w w)(hS:S w)(h:RH D S fuel (listed.setIfInBounds i true) ((d,v)::e) w)
    (hf:Sm D.ops listed i=true:=by kernel_rfl) (ho:RZ D e g true=true:=by exact rfl) (hd:Nat.blt d D.C.n=true:=by exact rfl):RH D S (fuel+1) listed e w:=zar hi hf ho hd hy hS h
def Ow (i:Nat)(hi:D.ops[i]? =some ⟨some d,op,ty,pos,aft,g⟩)(hy:∀{w},Y D.C.P e ⟨some d,op,ty,pos,aft,g⟩ v w w)(hS:S w)(h:RH D S fuel (listed.setIfInBounds i true) ((d,v)::e) w)
    (hf:Sm D.ops listed i=true:=by kernel_rfl) (ho:RZ D e g true=true:=by exact rfl) (hd:Nat.blt d D.C.n=true:=by exact rfl):RH D S (fuel+1) listed e w:=zar hi hf ho hd (λ_ _=>hy) hS h
def TH {p:Prop}[hp:Decidable p](hr:RH D S fuel listed ((d,.bool true)::e) w)(h:p:=by first|rfl|assumption|omega|decide):RH D S fuel listed ((d,.bool (decide p))::e) w:=zhA h hr
def TK {p:Prop}[hp:Decidable p](hr:RH D S fuel listed ((d,.bool false)::e) w)(h:¬p:=by first|exact λh=>h O|assumption|omega):RH D S fuel listed ((d,.bool (decide p))::e) w:=zee h hr
theorem Th {late:List Nat}(rs:List Nat)(h:RH D (λ_=>True) fuel listed e w)(hr:RU D.ops listed rs=true:=by kernel_rfl)(hl:zdQ rs late=true:=by kernel_rfl):RHL D late S fuel listed e w:=zhW rs hr hl h
def OR {x:Operand}(i:Nat)(hi:D.ops[i]? =some ⟨some d,.move x,ty,pos,aft,g⟩)(hx:look e x=some v)(hS:S w)(h:RH D S fuel (listed.setIfInBounds i true) ((d,v)::e) w)
    (hf:Sm D.ops listed i=true:=by kernel_rfl) (ho:RZ D e g true=true:=by exact rfl) (hd:Nat.blt d D.C.n=true:=by exact rfl):RH D S (fuel+1) listed e w:=zar hi hf ho hd (λ_ _=>X7 hx) hS h
def qJ (i:Nat)(hi:D.ops[i]? =some ⟨some d,op,ty,pos,aft,g⟩)(hS:S w)(h:RH D S fuel (listed.setIfInBounds i true) ((d,undef)::e) w)
    (hf:Sm D.ops listed i=true:=by kernel_rfl) (ho:RZ D e g false=true:=by exact rfl) (hd:Nat.blt d D.C.n=true:=by exact rfl):RH D S (fuel+1) listed e w:=zio hi hf ho hd hS h
def qO (i:Nat)(h:Nx D S fuel listed e w i)(hr:RU D.ops listed [i]=true:=by kernel_rfl):RH D S (fuel+1) listed e w:=zi1 hr h
def SH {f:FuncId}{vs:List Value}{T:Value->World->Prop}{ts:Array TypeId}{args:List Operand}(i:Nat)(hi:D.ops[i]? =some ⟨some d,.call ⟨.value (.func f),args.toArray,ts⟩,ty,pos,aft,g⟩)(hf:CF D.C.P f)(ha:looks e args=some vs)(hc:P9 D.C.P f vs w T)(h:∀v w',T v w'->S w'/\RH D S fuel (listed.setIfInBounds i true) ((d,v)::e) w')
    (hr:RU D.ops listed [i]=true:=by kernel_rfl) (ho:RZ D e g true=true:=by exact rfl) (hd:Nat.blt d D.C.n=true:=by exact rfl):RH D S (fuel+1) listed e w:=zi1 hr (W9 hi ho hd (yc hf ha) hc h)
theorem qE (h:P8 D.C D.k e w)(hr:RU D.ops listed []=true:=by kernel_rfl):RH D S fuel listed e w:=ziJ hr h
def qL (i:Nat)(hi:D.ops[i]? =some ⟨some d,op,ty,pos,aft,g⟩)(hy:∀w,S w->Y D.C.P e ⟨some d,op,ty,pos,aft,g⟩ v w w)(hS:S w)(h:RHL D late S fuel (listed.setIfInBounds i true) ((d,v)::e) w)
    (hf:(Sm D.ops listed i&&waits D.ops listed late (wtr D.ops i) i)=true:=by kernel_rfl) (ho:RZ D e g true=true:=by exact rfl) (hd:Nat.blt d D.C.n=true:=by exact rfl):RHL D late S (fuel+1) listed e w:=z5i _ hi hf ho hd hy hS h
def P5 (i:Nat)(hi:D.ops[i]? =some ⟨some d,op,ty,pos,aft,g⟩)(hy:∀{w},Y D.C.P e ⟨some d,op,ty,pos,aft,g⟩ v w w)(hS:S w)(h:RHL D late S fuel (listed.setIfInBounds i true) ((d,v)::e) w)
    (hf:(Sm D.ops listed i&&waits D.ops listed late (wtr D.ops i) i)=true:=by kernel_rfl) (ho:RZ D e g true=true:=by exact rfl) (hd:Nat.blt d D.C.n=true:=by exact rfl):RHL D late S (fuel+1) listed e w:=z5i _ hi hf ho hd (λ_ _=>hy) hS h
def PF {x:Operand}(i:Nat)(hi:D.ops[i]? =some ⟨some d,.move x,ty,pos,aft,g⟩)(hx:look e x=some v)(hS:S w)(h:RHL D late S fuel (listed.setIfInBounds i true) ((d,v)::e) w)
    (hf:(Sm D.ops listed i&&waits D.ops listed late (wtr D.ops i) i)=true:=by kernel_rfl) (ho:RZ D e g true=true:=by exact rfl) (hd:Nat.blt d D.C.n=true:=by exact rfl):RHL D late S (fuel+1) listed e w:=z5i _ hi hf ho hd (λ_ _=>X7 hx) hS h
end
section
variable {C:Cx}{k:List Item}{e:Env}{w:World}{id:Nat}{ops ops0 l:List Oper}{y y2:Code}{d d':Nat}{op op':Op}{ty ty':TypeId}{pos pos':String}{aft aft':Array Edge}{g g':Option (Nat×Bool)}{v v':Value}{x x':Operand}
theorem P7 (h0:(Rz C.n (⟨some d,.move x,ty,pos,aft,g⟩::l),look e x)=(true,some v))(h:RL ⟨C,⟨some d,.move x,ty,pos,aft,g⟩::l,.code y::k,congrArg Prod.fst h0⟩ l ((d,v)::e) w)(ho:RZ ⟨C,⟨some d,.move x,ty,pos,aft,g⟩::l,.code y::k,congrArg Prod.fst h0⟩ e g true=true:=by exact rfl)(hd:Nat.blt d C.n=true:=by exact rfl):P8 C (.code (.seq (.region id (⟨some d,.move x,ty,pos,aft,g⟩::l).toArray false) y)::k) e w:=qN (congrArg Prod.fst h0) (OC (congrArg Prod.snd h0) h ho hd)
theorem QL {h1:Rz C.n ops0=true}(h0:(look e x,Rz C.n ops)=(some v,true))(h:RL ⟨C,ops,.code y::k,congrArg Prod.snd h0⟩ ops ((d,v)::e) w)(ho:RZ ⟨C,ops0,.code (.seq (.region id ops.toArray false) y)::k,h1⟩ e g true=true:=by exact rfl)(hd:Nat.blt d C.n=true:=by exact rfl):RL ⟨C,ops0,.code (.seq (.region id ops.toArray false) y)::k,h1⟩ [⟨some d,.assign x,ty,pos,aft,g⟩] e w:=Si (congrArg Prod.fst h0) (qM (congrArg Prod.snd h0) h) ho hd
theorem Qh (h0:((Rz C.n (⟨some d,.move x,ty,pos,aft,g⟩::⟨some d',.move x',ty',pos',aft',g'⟩::l),look e x),look ((d,v)::e) x')=((true,some v),some v'))(h:RL ⟨C,⟨some d,.move x,ty,pos,aft,g⟩::⟨some d',.move x',ty',pos',aft',g'⟩::l,.code y::k,congrArg (λz=>z.1.1) h0⟩ l ((d',v')::(d,v)::e) w)(ho:RZ ⟨C,⟨some d,.move x,ty,pos,aft,g⟩::⟨some d',.move x',ty',pos',aft',g'⟩::l,.code y::k,congrArg (λz=>z.1.1) h0⟩ e g true=true:=by exact rfl)(hd:Nat.blt d C.n=true:=by exact rfl)(ho':RZ ⟨C,⟨some d,.move x,ty,pos,aft,g⟩::⟨some d',.move x',ty',pos',aft',g'⟩::l,.code y::k,congrArg (λz=>z.1.1) h0⟩ ((d,v)::e) g' true=true:=by exact rfl)(hd':Nat.blt d' C.n=true:=by exact rfl):P8 C (.code (.seq (.region id (⟨some d,.move x,ty,pos,aft,g⟩::⟨some d',.move x',ty',pos',aft',g'⟩::l).toArray false) y)::k) e w:=qN (congrArg (λz=>z.1.1) h0) (OC (congrArg (λz=>z.1.2) h0) (OC (congrArg Prod.snd h0) h ho' hd') ho hd)
theorem Qd {D:RC}(h0:(look e x,look ((d,v)::e) x')=(some v,some v'))(h:P8 D.C D.k ((d',v')::(d,v)::e) w)(ho:RZ D e g true=true:=by exact rfl)(hd:Nat.blt d D.C.n=true:=by exact rfl)(ho':RZ D ((d,v)::e) g' true=true:=by exact rfl)(hd':Nat.blt d' D.C.n=true:=by exact rfl):RL D [⟨some d,.assign x,ty,pos,aft,g⟩,⟨some d',.assign x',ty',pos',aft',g'⟩] e w:=Si (congrArg Prod.fst h0) (OK (congrArg Prod.snd h0) h ho' hd') ho hd
theorem Sw {D:RC}{vs vs':Array Value}{i i':Nat}(h0:((look e x,vs[i]?),(look ((d,v)::e) x',vs'[i']?))=((some (.tuple vs),some v),(some (.tuple vs'),some v')))(h:RL D l ((d',v')::(d,v)::e) w)(ho:RZ D e g true=true:=by exact rfl)(hd:Nat.blt d D.C.n=true:=by exact rfl)(ho':RZ D ((d,v)::e) g' true=true:=by exact rfl)(hd':Nat.blt d' D.C.n=true:=by exact rfl):RL D (⟨some d,.extract x i,ty,pos,aft,g⟩::⟨some d',.extract x' i',ty',pos',aft',g'⟩::l) e w:=zex (congrArg Prod.fst h0) (zex (congrArg Prod.snd h0) h ho' hd') ho hd
theorem Pz (h0:(Rz C.n (⟨some d,.move x,ty,pos,aft,g⟩::l),look e x)=(true,some v))(h:RL ⟨C,⟨some d,.move x,ty,pos,aft,g⟩::l,.code y:: .code y2::k,congrArg Prod.fst h0⟩ l ((d,v)::e) w)(ho:RZ ⟨C,⟨some d,.move x,ty,pos,aft,g⟩::l,.code y:: .code y2::k,congrArg Prod.fst h0⟩ e g true=true:=by exact rfl)(hd:Nat.blt d C.n=true:=by exact rfl):P8 C (.code (.seq (.seq (.region id (⟨some d,.move x,ty,pos,aft,g⟩::l).toArray false) y) y2)::k) e w:=An (P7 h0 h ho hd)
theorem QI {D:RC}(h:RL D l ((d',undef)::(d,undef)::e) w)(ho:RZ D e g false=true:=by exact rfl)(hd:Nat.blt d D.C.n=true:=by exact rfl)(ho':RZ D ((d,undef)::e) g' false=true:=by exact rfl)(hd':Nat.blt d' D.C.n=true:=by exact rfl):RL D (⟨some d,op,ty,pos,aft,g⟩::⟨some d',op',ty',pos',aft',g'⟩::l) e w:=qS (qS h ho' hd') ho hd
def T2 {c:Operand}(hc:look e c=some (.bool false))(h:P8 C k e w):P8 C (.code (.cond c y .skip)::k) e w:=Ox hc (Ot h)
theorem QB (h0:(Rz C.n [⟨some d,.assign x,ty,pos,aft,g⟩],look e x)=(true,some v))(h:P8 C (.code y::k) ((d,v)::e) w)(ho:RZ ⟨C,[⟨some d,.assign x,ty,pos,aft,g⟩],.code y::k,congrArg Prod.fst h0⟩ e g true=true:=by exact rfl)(hd:Nat.blt d C.n=true:=by exact rfl):P8 C (.code (.seq (.region id ([⟨some d,.assign x,ty,pos,aft,g⟩]:List Oper).toArray false) y)::k) e w:=qN (congrArg Prod.fst h0) (OK (congrArg Prod.snd h0) h ho hd)
theorem QO {h1:Rz C.n ops0=true}(h0:((look e x',Rz C.n (⟨some d,.move x,ty,pos,aft,g⟩::l)),look ((d',v')::e) x)=((some v',true),some v))(h:RL ⟨C,⟨some d,.move x,ty,pos,aft,g⟩::l,.code y::k,congrArg (λz=>z.1.2) h0⟩ l ((d,v)::(d',v')::e) w)(ho:RZ ⟨C,ops0,.code (.seq (.region id (⟨some d,.move x,ty,pos,aft,g⟩::l).toArray false) y)::k,h1⟩ e g' true=true:=by exact rfl)(hd:Nat.blt d' C.n=true:=by exact rfl)(ho':RZ ⟨C,⟨some d,.move x,ty,pos,aft,g⟩::l,.code y::k,congrArg (λz=>z.1.2) h0⟩ ((d',v')::e) g true=true:=by exact rfl)(hd':Nat.blt d C.n=true:=by exact rfl):RL ⟨C,ops0,.code (.seq (.region id (⟨some d,.move x,ty,pos,aft,g⟩::l).toArray false) y)::k,h1⟩ [⟨some d',.assign x',ty',pos',aft',g'⟩] e w:=QL (congrArg Prod.fst h0) (OC (congrArg Prod.snd h0) h ho' hd') ho hd
def PX {h1:Rz C.n ops0=true}{c:Operand}(hc:look e c=some (.bool false))(h:P8 C k e w):RL ⟨C,ops0,.code (.cond c y .skip)::k,h1⟩ [] e w:=Oq (T2 hc h)
theorem R0 (h0:(Rz C.n (⟨some d,.move x,ty,pos,aft,g⟩::l),look e x)=(true,some v))(h:RL ⟨C,⟨some d,.move x,ty,pos,aft,g⟩::l,k,congrArg Prod.fst h0⟩ l ((d,v)::e) w)(ho:RZ ⟨C,⟨some d,.move x,ty,pos,aft,g⟩::l,k,congrArg Prod.fst h0⟩ e g true=true:=by exact rfl)(hd:Nat.blt d C.n=true:=by exact rfl):P8 C (.code (.region id (⟨some d,.move x,ty,pos,aft,g⟩::l).toArray false)::k) e w:=Oz (congrArg Prod.fst h0) (OC (congrArg Prod.snd h0) h ho hd)
def Qt (h:P8 C (.code y:: .inBlock id:: .code y2::k) e w):P8 C (.code (.seq (.block id y) y2)::k) e w:=An (Ou h)
end
def R8 {C:Cx}{id:Nat}{ops:List Oper}{k:List Item}{e:Env}{w:World}(S:World->Prop)(ho:Rz C.n ops=true)(h:RH ⟨C,ops,k,ho⟩ S ops.length (Array.replicate ops.length false) e w.drew)(hm:C.P.follows .mixedOrders=true:=by kernel_rfl)(hc:calm ops=true:=by rfl):P8 C (.code (.region id ops.toArray true)::k) e w:=z3h S hm ho h hc
def Rh {α:Type}{a b:α}(h:some a=some b):a=b:=Option.some.inj h
def U2:=underlying2
def U3:=underlying3
def U4:=underlying4
def U5:=underlying5
def U9:=underlying9
def U20:=underlying20
def U22:=underlying22
def WS:=underlying23
def U26:=underlying26
def XP:=underlying27
def U28:=underlying28
def U30:=underlying30
def Z4:=underlying34
def Rl:=underlying37
def R7:=underlying39
def Ph:=underlying40
def QA:=underlying42
def U44:=underlying44
def U45:=underlying45
def U55:=underlying55
def U66:=underlying66
def U76:=underlying76
def U81:=underlying81
def U85:=underlying85
def U93:=underlying93
def z4M:=underlying100
def z3B:=underlying101
def Qk:=underlying113
def zaf:=underlying116
def WV:=underlying117
def WY:=underlying124
def z9s:=underlying125
def zjr:=underlying127
def z0i:=underlying130
def Vq:=underlying133
def z2S:=underlying143
def zbU:=underlying146
def zcz:=underlying151
def z6v:=underlying153
def z63:=underlying155
def z39:=underlying156
def z7S:=underlying162
def ze4:=underlying172
def za0:=underlying185
def WX:=underlying186
def zcI:=underlying195
def zg5:=underlying216
def ziY:=underlying222
def VU:=underlying223
def z2r:=underlying229
def zjB:=underlying231
def zet:=underlying232
def z3o:=underlying236
def zeM:=underlying238
def zjA:=underlying249
def Su:=underlying261
def Xr:=underlying268
def zgw:=underlying269
def YM:=underlying276
def UU:=underlying289
def zjE:=underlying295
def ze1:=underlying296
def zhd:=underlying301
def z3s:=underlying303
def z0s:=underlying311
def Sg:=underlying314
def zg3:=underlying316
def zib:=underlying336
def zaZ:=underlying344
def ziL:=underlying348
def zaT:=underlying351
def z0N:=underlying352
def z3G:=underlying383
def Ux (w:World)(g:Nat)(cs:List Value)(T:TypeId):Prop:=w.heap[g]? =some (.cells cs.toArray T (0,0))
theorem Ux.On {w:World}{g:Nat}{cs:List Value}{T:TypeId}(h:Ux w g cs T):OE w g cs T:=⟨(0,0),h,λi _ h=>by omega⟩
theorem Ux.set {w:World}{g:Nat}{cs:List Value}{T:TypeId}(h:Ux w g cs T)(i:Nat)(v:Value):Ux (w.setCell ⟨g,i,none⟩ v) g (cs.set i v) T:=by
 unfold Ux at h⊢
 simp[World.setCell,Array.getElem?_modify,h]
def Ux.ext {w w':World}{g:Nat}{cs:List Value}{T:TypeId}(h:Ux w g cs T)(k:Ext w w'):Ux w' g cs T:=k.heap h id
def Sl.row {w:World}{g n cap:Nat}{e:TypeId}{size:Nat}{cs:List Value}(h:Sl w (.slice (some ⟨g,0,none⟩) n cap) e size n cs):∃cur,Ux w g cur e/\n<=cap/\cap<=maxLen/\cur.length=cap*size/\cur.take (n*size)=cs:=by
 rcases h.2 with⟨hz,-⟩|⟨g1,cap1,cur,hv,-,hg,hn,hm,hs,ht⟩
 ·cases hz
 ·cases hv;exact⟨cur.toList,by unfold Ux;simpa using hg,hn,hm,by simpa using hs,ht⟩
def Ux.sl {w:World}{g n cap:Nat}{e:TypeId}{size:Nat}{cur:List Value}(h:Ux w g cur e)(hn:n<=cap)(hm:cap<=maxLen)(hs:cur.length=cap*size):Sl w (.slice (some ⟨g,0,none⟩) n cap) e size n (cur.take (n*size)):=
 ⟨by rw[List.length_take,hs];exact Nat.min_eq_left (Nat.mul_le_mul_right _ hn),.inr ⟨g,cap,cur.toArray,rfl,Nat.zero_le _,h,hn,hm,by simpa using hs,ξ⟩⟩
theorem Ux.cell {w:World}{g i:Nat}{cur:List Value}{e:TypeId}(h:Ux w g cur e):w.cell? ⟨g,i,none⟩=cur[i]? :=h.On.cell i
theorem Ux.rd {w:World}{g i n c:Nat}{e:TypeId}{cur:List Value}(h:Ux w g cur e)(hl:i+n<=cur.length):Rd w (.slice (some ⟨g,i,none⟩) n c) 1 n ((cur.drop i).take n):=by
 refine⟨by simp;omega,.inr ⟨g,i,c,rfl,λj u hj=>?_⟩⟩
 rw[h.cell]
 rw[List.getElem?_take] at hj
 split at hj
 ·rwa [List.getElem?_drop] at hj
 ·cases hj
def Vg {w:World}{a:Option Addr}{c:Nat}:Rd w (.slice a 0 c) 1 0 []:=⟨rfl,.inl ⟨(a,c),rfl,rfl⟩⟩
def Rd.kpz {S:Nat->Prop}{w w':World}{v:Value}{size n:Nat}{cs:List Value}(h:Rd w v size n cs)(k:Kp S w w')(hn:0<n->∀g,v.ownBlock=some g->¬S g):Rd w' v size n cs:=by
 rcases Nat.eq_zero_or_pos n with h0|h0
 ·subst h0;refine⟨h.1,?_⟩;have hl:cs=[]:=List.eq_nil_of_length_eq_zero (by have:=h.1;omega);rcases h.2 with h2|⟨b,off,cap,e,-⟩
  ·exact .inl h2
  ·exact .inr ⟨b,off,cap,e,λj u hj=>by rw[hl] at hj;simp at hj⟩
 ·exact h.kp k (hn h0)
def Rd.ltz {w:World}{v:Value}{size n g:Nat}{cs:List Value}(h:Rd w v size n cs)(hs:0<size)(hn:0<n)(hg:v.ownBlock=some g):g<w.heap.size:=by
 rcases h.2 with⟨c,-,h2⟩|⟨b,off,cap,e,hc⟩
 ·omega
 ·rw[e] at hg;have e2:b=g:=Rh hg;subst e2;have hl:0<cs.length:=by rw[h.1];exact Nat.mul_pos hn hs
  exact World.block_lt_of_cell? w _ (hc 0 cs[0] (List.getElem?_eq_getElem hl))
theorem z6g (cs:List Value)(i:Nat):Qu cs i []=cs:=by simp[Qu]
theorem z1v (cs vs:List Value)(i:Nat)(h:i+vs.length<=cs.length):(Qu cs i vs).length=cs.length:=by simp[Qu];omega
theorem z0Z (cs vs:List Value)(i j:Nat)(h:i+vs.length<=cs.length):(Qu cs i vs)[j]? =if i<=j/\j<i+vs.length then vs[j-i]? else cs[j]? :=by
 unfold Qu
 rw[List.append_assoc]
 by_cases h1:j<i
 ·rw[List.getElem?_append_left (by simp;omega),List.getElem?_take,if_pos h1,if_neg ω]
 ·rw[List.getElem?_append_right (by simp;omega)];have e:(cs.take i).length=i:=by simp;omega
  rw[e];by_cases h2:j<i+vs.length
  ·rw[List.getElem?_append_left ω,if_pos ⟨ω,h2⟩]
  ·rw[List.getElem?_append_right ω,List.getElem?_drop,if_neg ω]
   congr 1;omega
def Ug {P:Program}{b:Nat}{T:TypeId}(o:Nat):∀(vs:List Value) (i:Nat) (cs:List Value) (w:World),Ux w b cs T->o+i+vs.length<=cs.length->(∀v∈vs,v.oneCell'=true)->
  ∃w',(storeCells ⟨b,o,none⟩ vs i).run P w= .ok () w'/\Ux w' b (Qu cs (o+i) vs) T/\Kp (λk=>k=b) w w'
 |[],i,cs,w,hB,_,_=>⟨w,rfl,by simpa[Qu] using hB,Kp.refl _ _⟩
 | v :: r, i, cs, w, hB, hl, h1 => by
   simp only[List.length_cons] at hl;have aN:o+i<cs.length:=by omega
   have hc:w.cell? ⟨b,o+i,none⟩=some cs[o+i]:=by rw[hB.cell];simp[aN]
   have hf:=hB.On.free aN;obtain⟨w',hr,vX,hk⟩:=Ug (P:=P) o r (i+1) (cs.set (o+i) v) _ (hB.set (o+i) v) (by simp;omega) (λu hu=>h1 u (List.mem_cons_of_mem _ hu));refine⟨w',?_,?_,(To w b (o+i) v).trans hk⟩
   ·simp only[storeCells,Sem.run_bind,Rb,run_store P w _ v _ (h1 v (List.mem_cons_self ..)),hc,hf]
    simpa using hr
   ·have he:Qu (cs.set (o+i) v) (o+(i+1)) r=Qu cs (o+i) (v::r):=by
     apply List.ext_getElem?;intro j;rw[z0Z _ _ _ _ (by simp;omega),z0Z _ _ _ _ (by simp;omega)];simp only[List.length_cons];by_cases h2:o+i=j
     ·subst h2;rw[if_neg ω,if_pos ω];simp[aN]
     ·by_cases h3:o+i<j/\j<o+i+1+r.length
      ·rw[if_pos ω,if_pos ω,show j-(o+i)=(j-(o+(i+1)))+1 by omega];simp
      ·rw[if_neg ω,if_neg ω,List.getElem?_set_ne h2]
    rw[<-he];exact vX
section
variable {P:Program}{e:Env}{d:Option Nat}{ty t el:TypeId}{pos:String}{aft:Array Edge}{g:Option (Nat×Bool)}{x y u u2:Operand}{w:World}
def Ya {z:Value}{size bytes n cap i:Nat}{a:Option Addr}{k:IntKind}{za:Int}[s6:T3 za i](ht:P.underlying t=some (.slice el))(hs:TI P el z size bytes)(hx:look e x=some (.slice a n cap))
  (hy:look e y=some (.int k za)) (h:i<=n) (hc:n<=cap):
  Y P e ⟨d,.slice t x (some y) none none,ty,pos,aft,g⟩ (.slice (if cap=i then a else a.map (·.add (i*size))) (n-i) (cap-i)) w w:=fun ρ hρ=>by
 obtain⟨rfl⟩:=s6
 have cH:=hs.size (w:=w)
 have h2:∀w,(Instr.sliceBound (.int k (i:Int)) n .sliceB).run P w= .ok i w:=λw=>by rw[run_sliceBound _ _ _ _ _ ω ω];simp
 simp[execOp,hρ _ _ hx,hρ _ _ hy,Instr.sliceAt,run_underlying ht,Instr.slice,Instr.sliceBounds,h2,cH]
def zj9 {z:Value}{size bytes n cap i j m:Nat}{a:Option Addr}{k k' k2:IntKind}{za zb zc:Int}[s6:T3 za i][vY:T3 zb j][bO:T3 zc m](ht:P.underlying t=some (.slice el))(hs:TI P el z size bytes)(hx:look e x=some (.slice a n cap))
  (hy:look e y=some (.int k za)) (hu:look e u=some (.int k' zb)) (mt:look e u2=some (.int k2 zc)) (h:i<=j/\j<=m/\m<=cap):
  Y P e ⟨d,.slice t x (some y) (some u) (some u2),ty,pos,aft,g⟩ (.slice (if m=i then a else a.map (·.add (i*size))) (j-i) (m-i)) w w:=fun ρ hρ=>by
 obtain⟨rfl⟩:=s6
 obtain⟨rfl⟩:=vY
 obtain⟨rfl⟩:=bO
 have cH:=hs.size (w:=w)
 have h0:∀w,(Instr.sliceBound (.int k2 (m:Int)) cap .slice3Acap).run P w= .ok m w:=λw=>by rw[run_sliceBound _ _ _ _ _ ω ω];simp
 have h1:∀w,(Instr.sliceBound (.int k' (j:Int)) m .slice3B).run P w= .ok j w:=λw=>by rw[run_sliceBound _ _ _ _ _ ω ω];simp
 have h2:∀w,(Instr.sliceBound (.int k (i:Int)) j .slice3C).run P w= .ok i w:=λw=>by rw[run_sliceBound _ _ _ _ _ ω ω];simp
 simp[execOp,hρ _ _ hx,hρ _ _ hy,hρ _ _ hu,hρ _ _ mt,Instr.sliceAt,run_underlying ht,Instr.slice,Instr.sliceBounds,h0,h1,h2,cH]
theorem Xg (z:Value)(n:Nat)(h:oneV z=true):(Builtin.zeroCells z.cells n).toList=List.replicate n z:=by
 rw[Vr h]
 apply List.ext_getElem
 ·simp[Builtin.zeroCells]
 ·intro i h1 h2;simp[Builtin.zeroCells,Nat.mod_one]
def zjz {z:Value}{bytes b i n cap:Nat}{T:TypeId}{cs:List Value}(ht:P.underlying t=some (.slice el))(hs:TI P el z 1 bytes)(hz:oneV z=true)(hx:look e x=some (.slice (some ⟨b,i,none⟩) n cap))
  (hB:Ux w b cs T) (hi:i+n<=cs.length):
  Yp P e ⟨d,.call ⟨.builtin .clear,#[x],#[t]⟩,ty,pos,aft,g⟩ w λv w'=>Ux w' b (Qu cs i (List.replicate n z)) T/\Kp (λk=>k=b) w w':=by
 obtain⟨w',hr,vX,hk⟩:=Ug (P:=P) i (List.replicate n z) 0 cs w hB (by simp;omega) (λu hu=>by rw[(List.mem_replicate.1 hu).2];exact Yx hz)
 rcases Nat.eq_zero_or_pos n with h0|h0
 ·subst h0;refine⟨.tuple #[],w,fun ρ hρ=>?_,by simpa[z6g] using hB,Kp.refl _ _⟩;simp[execOp,resolve,invoke,builtin,hρ _ _ hx,Builtin.clear_,run_underlying ht,go_sem]
 ·refine⟨.tuple #[],w',fun ρ hρ=>?_,by simpa using vX,hk⟩;have AI:=hs.zero (w:=w);obtain⟨k,rfl⟩:∃k,n=k+1:=⟨n-1,ω⟩
  have hc:(Builtin.clear_ #[t] ty #[.slice (some ⟨b,i,none⟩) (k+1) cap]).run P w= .ok (.tuple #[]) w':=by
   unfold Builtin.clear_;simp only[List.getElem?_toArray,List.getElem?_cons_zero,pure_bind,Sem.run_bind,run_underlying ht,Result.andThen,AI,Xg z _ hz,hr,Sem.run_pure]
  simp[execOp,resolve,invoke,builtin,hρ _ _ hx,hc]
def zjh {z u:Value}{size bytes gb n cap m:Nat}{cs news:List Value}(ht:P.underlying t=some (.slice el))(hs:TI P el z size bytes)(cH:0<size)
  (hx:look e x=some (.slice (some ⟨gb,0,none⟩) n cap)) (hy:look e y=some u) (hv:Sl w (.slice (some ⟨gb,0,none⟩) n cap) el size n cs) (hu:Rd w u size m news) (h1:∀c∈news,c.oneCell'=true) (hr:n+m<=cap):
  Yp P e ⟨d,.call ⟨.builtin .append,#[x,y],#[t,t]⟩,ty,pos,aft,g⟩ w λv' w'=>v'= .slice (some ⟨gb,0,none⟩) (n+m) cap/\Sl w' v' el size (n+m) (cs++news)/\Kp (λk=>k=gb) w w':=by
 obtain⟨i,hi,oZ,jE,qG⟩:=hs
 subst jE
 rcases hu.2 with⟨⟨ca,c⟩,rfl,rfl⟩|⟨b,off,cap2,rfl,s9⟩
 ·have eQ:news=[]:=List.eq_nil_of_length_eq_zero (by simpa using hu.1);subst eQ
  have hr:(Builtin.append_ #[t,t] ty #[.slice (some ⟨gb,0,none⟩) n cap,.slice ca 0 c]).run P w= .ok (.slice (some ⟨gb,0,none⟩) n cap) w:=by
   have jq:n<=cap:=by omega
   cases ca
   ·simp[Builtin.append_,run_underlying ht,sizeOf,typeInfo,hi,Builtin.lenOf,Builtin.firstCells,jq,storeCells]
   ·simp[Builtin.append_,run_underlying ht,sizeOf,typeInfo,hi,Builtin.lenOf,Builtin.firstCells,jq,storeCells,loadCells,loadCellsFrom]
  refine⟨_,w,fun ρ hρ=>?_,rfl,by simpa using hv,Kp.refl _ _⟩;simp[execOp,resolve,invoke,builtin,hρ _ _ hx,hρ _ _ hy,hr]
 ·have vZ:∀j u,news[j]? =some u->w.cell? ((⟨b,off,none⟩:Addr).add j)=some u:=λj u hu=>by rw[Rb];exact s9 j u hu
  obtain⟨w',J6,AJ,cO⟩:=run_append_fits (P:=P) w 0 t ty el i i.size ht hi O gb n cap cs hv ⟨b,off,none⟩ m cap2 news hu.1 vZ h1 hr;refine⟨_,w',fun ρ hρ=>?_,rfl,AJ,(Kp.Uo cO).OA λk hk=>(Rh hk).symm⟩;simp[execOp,resolve,invoke,builtin,hρ _ _ hx,hρ _ _ hy,J6]
end
abbrev Ov:=List UInt8
abbrev lt (a b:Ov):Bool:=Op.bytesLess a b
section
end
def pos (l:List Ov)(t:Ov):Nat:=(l.takeWhile (λk=>lt k t)).length
theorem z1a (cs vs:List Value)(i m:Nat)(h:m<=i)(hl:i<=cs.length):(Qu cs i vs).take m=cs.take m:=by
 unfold Qu
 rw[List.append_assoc,List.take_append_of_le_length (by simp;omega),List.take_take,Nat.min_eq_left h]
def z9L {w:World}{sv:Value}{cs:List Value}{i n:Nat}(hS:Sl w sv 3 1 n cs)(fN:∀c∈cs,c.oneCell'=true)(hi:i<n)(hn:n<=8589934592):
  P9 prog 207 [sv,I (i:Int),I ((i:Int)+1)] w λv w'=>Sl w' v 3 1 (n-1) (cs.take i++cs.drop (i+1))/\Kp (λk=>sv.ownBlock=some k) w w'/\(∀g,v.ownBlock=some g->sv.ownBlock=some g):=by
 have fg:maxLen=9223372036854775807:=rfl
 have aB:=hS.len
 rw[Nat.mul_one] at aB
 obtain⟨g,cap,rfl,jq⟩:∃g cap,sv= .slice (some ⟨g,0,none⟩) n cap/\n<=cap:=by
  rcases hS.shape with⟨e,h0⟩|⟨g,cap,e,h⟩
  ·omega
  ·exact⟨g,cap,e,h⟩
 obtain⟨cur,jF,-,mE,eR,BE⟩:=hS.row
 rw[Nat.mul_one] at eR BE
 rw[show(i:Int)+1=((i+1:Nat):Int) by omega]
 refine py (e:=[(0,_),(1,_),(2,_)]) func207 O ntmps207 O O$ qN O$ QL O$ OX O$ OX O$ Ro Rl O$ qV (zj9 Rl PH O O O O ⟨ω,ω,jq⟩) ?_
 refine Oq$ An$ Qh O$ QS O$ Pu$ PX O$ P7 O$ Ro Rl O$ OK O$ An$ R8 (λw'=>Kp (λk=>k=g) w w') O ?_
 have h0:=Ext.OT w
 refine OR 0 O O ((Ext.OT w).kp)$ OR 1 O O ((Ext.OT w).kp)$ OR 3 O O ((Ext.OT w).kp)$ OR 4 O O ((Ext.OT w).kp)$ Ow 2 O (zb1 Rl PH O O ω) ((Ext.OT w).kp)$ Ow 5 O (Ya Rl PH O O ω jq) ((Ext.OT w).kp) ?_
 have cU:Sl w (.slice (some ⟨g,0,none⟩) i cap) 3 1 i (cs.take i):=by
  have:=jF.sl (n:=i) ω mE (by rw[Nat.mul_one];exact eR);rw[Nat.mul_one,show cur.take i=cs.take i by rw[<-BE,List.take_take,Nat.min_eq_left ω]] at this;exact this
 have wc:(cur.drop (i+1)).take (n-(i+1))=cs.drop (i+1):=by
  rw[<-BE,List.drop_take]
 have hR:Rd w.drew (.slice (if cap=i+1 then some ⟨g,0,none⟩ else(some (⟨g,0,none⟩:Addr)).map (·.add ((i+1)*1))) (n-(i+1)) (cap-(i+1))) 1 (n-(i+1)) (cs.drop (i+1)):=by
  by_cases hc:cap=i+1
  ·rw[if_pos hc,show n-(i+1)=0 by omega,List.drop_eq_nil_of_le ω];exact Vg
  ·rw[if_neg hc,Option.map_some,Rb,Nat.zero_add,Nat.mul_one,<-wc];exact(jF.ext h0).rd ω
 refine qO 6$ ZC (i:=6) O O O (zjh Rl PH ψ O O (cU.ext h0) hR (λc hc=>fN c (List.mem_of_mem_drop hc)) ω) ?_
 rintro _ w1 ⟨rfl,cV,ar⟩
 refine⟨h0.kp.trans ar,?_⟩
 have e1:i+(n-(i+1))=n-1:=by omega
 rw[e1] at cV⊢
 obtain⟨cur3,wg,J7,J8,wh,wj⟩:=cV.row
 rw[Nat.mul_one] at wh wj
 refine Ow 7 O (Rr O) (h0.kp.trans ar)$ qE$ Qh O$ Ro Rl O$ OC O$ qV (zes Rl PH O O O ω ω)$ z9z O (zjz Rl PH O O wg ω) ?_
 rintro _ w2 ⟨wk,aq⟩
 refine Oq$ P8.qb (e:=[(0,_),(6,_)]) ?_
 refine P7 O$ OK O$ Oo func207 O ?_
 have wm:=wk.sl (n:=n-1) (cap:=cap) ω mE (by rw[z1v _ _ _ (by simp;omega),wh,Nat.mul_one])
 rw[Nat.mul_one,z1a _ _ _ _ ω ω,wj] at wm
 exact⟨_,rfl,wm,((h0.kp.trans ar).trans aq).OA (λk hk=>by subst hk;rfl),λg' cO=>cO⟩
open Go.ChangeMaps (setBlock)
def Sr {κ:Type}(K:κ->Value)(w:World)(m:Nat)(kv:List (κ×Value)):Prop:=(∃es clock,w.heap[m]? =some (.map es clock)/\TO K es.toList kv/\(∀e∈es.toList,e.born<clock)/\(es.toList.map (·.born)).Nodup)/\(kv.map (·.1)).Nodup
section
variable {κ:Type}[DecidableEq κ]{K:κ->Value}
theorem Sr.l {w:World}{m:Nat}{kv:List (κ×Value)}(h:Sr K w m kv):Wi K w m kv:=by
 obtain⟨⟨es,c,h1,h2,-,-⟩,h3⟩:=h
 exact⟨⟨es,c,h1,h2⟩,h3⟩
def Sr.lt {w:World}{m:Nat}{kv:List (κ×Value)}(h:Sr K w m kv):m<w.heap.size:=h.l.lt
theorem Sr.nd {w:World}{m:Nat}{kv:List (κ×Value)}(h:Sr K w m kv):(kv.map (·.1)).Nodup:=h.2
def Sr.kp {S:Nat->Prop}{w w':World}{m:Nat}{kv:List (κ×Value)}(h:Sr K w m kv)(k:Kp S w w')(hn:¬S m):Sr K w' m kv:=by
 obtain⟨⟨es,c,h,he⟩,hd⟩:=h
 exact⟨⟨es,c,k.heap h hn,he⟩,hd⟩
def Sr.ext {w w':World}{m:Nat}{kv:List (κ×Value)}(h:Sr K w m kv)(k:Ext w w'):Sr K w' m kv:=h.kp k id
def Sr.new {w:World}{m:Nat}(h:w.heap[m]? =some (.map #[] 0)):Sr K w m []:=⟨⟨#[],0,h,rfl,ξ,ξ⟩,ξ⟩
def delL:List (κ×Value)->κ->List (κ×Value)
 |[],_=>[]
 |(a,v)::r,k=>if k=a then r else(a,v)::delL r k
def z3m:∀(kv:List (κ×Value)) (k:κ),(delL kv k).Sublist kv
 |[],_=> .slnil
 | (a, v) :: r, k => by
   simp only[delL];split
   ·exact List.sublist_cons_self _ _
   ·exact(z3m r k).cons_cons _
theorem z1L {kv:List (κ×Value)}{k:κ}(h:k∉kv.map (·.1)):R1 kv k=none:=by
 induction kv with
 |nil=>rfl
 | cons p r ih =>
   obtain⟨a,u⟩:=p;simp only[List.map_cons,List.mem_cons,not_or] at h;simp only[R1,h.1,if_false];exact ih h.2
def zfP {kv:List (κ×Value)}(hn:(kv.map (·.1)).Nodup)(k x:κ):R1 (delL kv k) x=if x=k then none else R1 kv x:=by
 induction kv with
 |nil=>simp[delL,R1]
 | cons p r ih =>
   obtain⟨a,u⟩:=p;simp only[List.map_cons,List.nodup_cons] at hn;simp only[delL];by_cases h:k=a
   ·subst h;simp only[if_true,R1];by_cases hx:x=k
    ·subst hx;simp[z1L hn.1]
    ·simp[hx]
   ·simp only[h,if_false,R1,ih hn.2];by_cases hx:x=a
    ·subst hx;simp[Ne.symm h]
    ·simp[hx]
def z4J {kv:List (κ×Value)}(hn:(kv.map (·.1)).Nodup){k:κ}{v:Value}(h:(k,v)∈kv):R1 kv k=some v:=by
 induction kv with
 |nil=>cases h
 | cons p r ih =>
   obtain⟨a,u⟩:=p;simp only[List.map_cons,List.nodup_cons] at hn;rcases List.mem_cons.1 h with e| h
   ·cases e;simp[R1]
   ·have:k≠a:=λe=>hn.1 (List.mem_map.2 ⟨(k,v),h,e⟩);simp only[R1,this,if_false];exact ih hn.2 h
def Zh {td:TypeDesc}(hs:∀a b,Instr.sameNow td (K a) (K b)=some (decide (a=b))):∀{es:List MapEntry} {kv:List (κ×Value)} (i:Nat) {k:κ} {v:Value},TO K es kv->R1 kv k=some v->
  ∃j,Instr.findNow td (K k) es i=some (some (i+j,v))/\j<es.length/\TO K (es.eraseIdx j) (delL kv k)
 | e :: es, (a, v') :: kv, i, k, v, h, hg => by
   simp only[TO,List.map_cons,List.cons.injEq,Prod.mk.injEq] at h;simp only[R1] at hg;split at hg
   ·rename_i he
    subst he;cases hg;refine⟨0,by simp[Instr.findNow,h.1.1,hs,h.1.2],ξ,?_⟩;simp only[List.eraseIdx_zero,List.tail_cons,delL,if_true];exact h.2
   ·rename_i br
    obtain⟨j,h1,h2,h3⟩:=Zh hs (i+1) h.2 hg;refine⟨j+1,?_,by simp;omega,?_⟩
    ·simp only[Instr.findNow,h.1.1,hs,br,decide_false,h1]
     congr 3;omega
    ·simp only[delL,br,if_false,List.eraseIdx_cons_succ,TO,List.map_cons,List.cons.injEq,Prod.mk.injEq]
     exact⟨h.1,h3⟩
 |[],[],_,_,_,_,hg=>by simp[R1] at hg
 |[],_::_,_,_,_,h,_=>by simp[TO] at h
 |_::_,[],_,_,_,h,_=>by simp[TO] at h
variable {P:Program}{e:Env}{d:Option Nat}{ty t kt el:TypeId}{pos:String}{aft:Array Edge}{g:Option (Nat×Bool)}{x y u:Operand}{w:World}{m:Nat}{kv:List (κ×Value)}{size:Nat}{k:κ}{v:Value}
theorem zgl (ht:P.underlying t=some (.map kt el))(hx:look e x=some (.map (some m)))(hm:Wi K w m kv):Y P e ⟨d,.call ⟨.builtin .len,#[x],#[t]⟩,ty,pos,aft,g⟩ (I (kv.length:Int)) w w:=fun ρ hρ=>by
 obtain⟨⟨es,c,hh,he⟩,-⟩:=hm
 have hl:es.size=kv.length:=by
  have:=congrArg List.length he
  simpa using this
 have hg:(getObj m).run P w= .ok (.map es c) w:=by simp[getObj,Sem.run,hh]
 simp[execOp,resolve,invoke,builtin,hρ _ _ hx,Builtin.len_,run_underlying ht,hg,goInt,hl,go_sem,Result.andThen]
def zeb (ht:P.underlying t=some (.map kt el))(hK:Ky P kt K)(hx:look e x=some (.map (some m)))(hy:look e y=some (K k))(hu:look e u=some v)(hm:Sr K w m kv):
  Zp P e ⟨d,.mapUpdate t x y u,ty,pos,aft,g⟩ w λw'=>Sr K w' m (putL kv k v)/\Kp (λi=>i=m) w w':=by
 have aN:=hm.lt
 obtain⟨⟨es,c,hh,he,bK,bP⟩,hd⟩:=hm
 have sd:=λb=>hK.same.choose_spec.2.2 w b 9999 k
 have hg:(getObj m).run P w= .ok (.map es c) w:=by simp[getObj,Sem.run,hh]
 have iT:∀o,(setObj m o).run P w= .ok () (w.putObj m o):=λo=>by simp[setObj,Sem.run,hh,World.putObj]
 cases kZ:R1 kv k with
 | none =>
   have hf:=TQ (P:=P) (w:=w) hK he kZ;refine⟨w.putObj m (.map (es.push {key:=K k,val:=v,born:=c}) (c+1)),fun ρ hρ=>?_,⟨⟨_,_,World.putObj_heap_same aN,?_,?_,?_⟩,?_⟩,Qi w m _⟩
   ·simp[execOp,hρ _ _ hx,hρ _ _ hy,hρ _ _ hu,Instr.mapUpdate,run_underlying ht,hg,sd,hf,iT]
   ·rw[Ud _ _ _ kZ]
    simpa[TO] using he
   ·intro x hx;simp at hx;rcases hx with hx|rfl
    ·have:=bK x (by simpa using hx);omega
    ·simp
   ·simp only[Array.toList_push,List.map_append,List.map_cons,List.map_nil];refine List.nodup_append.2 ⟨bP,ξ,λa ha b hb jr=>?_⟩;simp at hb;subst hb;subst jr;obtain⟨x,hx,Hc⟩:=List.mem_map.1 ha;have:=bK x hx;omega
   ·rw[Ud _ _ _ kZ,List.map_append,List.nodup_append];refine⟨hd,ξ,λa ha b hb jr=>?_⟩;simp at hb;subst hb;subst jr
    exact z1o kZ ha
 | some v0 =>
   obtain⟨j,hf,⟨ej,J9,BF⟩,mF⟩:=TS (P:=P) (w:=w) hK he kZ
   have ld:(es.modify j λe=>{e with key:=K k,val:=v}).toList.map (·.born)=es.toList.map (·.born):=by
    apply List.ext_getElem?;intro i;simp only[Array.toList_modify,List.getElem?_map,List.getElem?_modify];by_cases gJ:j=i
    ·subst gJ;simp;cases es[j]?<;>rfl
    ·simp[gJ]
   refine⟨w.putObj m (.map (es.modify j λe=>{e with key:=K k,val:=v}) c),fun ρ hρ=>?_,⟨⟨_,_,World.putObj_heap_same aN,mF v,?_,?_⟩,?_⟩,Qi w m _⟩
   ·simp[execOp,hρ _ _ hx,hρ _ _ hy,hρ _ _ hu,Instr.mapUpdate,run_underlying ht,hg,sd,hf,iT,J9,BF,Instr.keyThatStays,hK.bits]
   ·intro x hx;have:x.born∈es.toList.map (·.born):=by rw[<-ld];exact List.mem_map.2 ⟨x,hx,rfl⟩
    obtain⟨y,hy,Hd⟩:=List.mem_map.1 this;rw[<-Hd];exact bK y hy
   ·rw[ld];exact bP
   ·rw[z25 _ _ _ (by rw[kZ];rfl)];exact hd
theorem zeK (ht:P.underlying t=some (.map kt el))(hK:Ky P kt K)(hx:look e x=some (.map (some m)))(hy:look e y=some (K k))(hm:Sr K w m kv){ts:Array TypeId}(lh:ts[0]? =some t):
  Yp P e ⟨d,.call ⟨.builtin .delete,#[x,y],ts⟩,ty,pos,aft,g⟩ w λv' w'=>Sr K w' m (delL kv k)/\Kp (λi=>i=m) w w':=by
 have aN:=hm.lt
 obtain⟨⟨es,c,hh,he,bK,bP⟩,hd⟩:=hm
 obtain⟨⟨td,hu,hs,BG⟩,-⟩:=hK
 have sd:=λb=>BG w b 9999 k
 have hg:(getObj m).run P w= .ok (.map es c) w:=by simp[getObj,Sem.run,hh]
 have iT:∀o,(setObj m o).run P w= .ok () (w.putObj m o):=λo=>by simp[setObj,Sem.run,hh,World.putObj]
 have dC:=(z3m kv k).map (·.1)
 cases kZ:R1 kv k with
 | none =>
   have hf:(Instr.findKey kt (K k) es.toList).run P w= .ok none w:=by simp[Instr.findKey,run_underlying hu,Vo hs 0 he kZ]
   have kD:delL kv k=kv:=by
    clear he hh hd dC
    induction kv with
    |nil=>rfl
    | cons p r ih =>
      obtain⟨a,u⟩:=p;simp only[R1] at kZ;split at kZ
      ·cases kZ
      ·rename_i br;simp only[delL,br,if_false,ih kZ]
   refine⟨.tuple #[],w.putObj m (.map es c),fun ρ hρ=>?_,⟨⟨es,c,World.putObj_heap_same aN,by rw[kD];exact he,bK,bP⟩,by rw[kD];exact hd⟩,Qi w m _⟩
   simp[execOp,resolve,invoke,builtin,hρ _ _ hx,hρ _ _ hy,Builtin.delete_,lh,run_underlying ht,hg,sd,hf,iT,Result.andThen]
 | some v0 =>
   obtain⟨j,wn,hj,mF⟩:=Zh hs 0 he kZ
   have hf:(Instr.findKey kt (K k) es.toList).run P w= .ok (some (j,v0)) w:=by
    rw[Nat.zero_add] at wn;simp[Instr.findKey,run_underlying hu,wn]
   have BH:(es.eraseIdxIfInBounds j).toList=es.toList.eraseIdx j:=by
    simp at hj;simp[Array.eraseIdxIfInBounds,hj]
   refine⟨.tuple #[],w.putObj m (.map (es.eraseIdxIfInBounds j) c),fun ρ hρ=>?_,⟨⟨_,c,World.putObj_heap_same aN,by rw[BH];exact mF,?_,?_⟩,dC.nodup hd⟩,Qi w m _⟩
   ·simp[execOp,resolve,invoke,builtin,hρ _ _ hx,hρ _ _ hy,Builtin.delete_,lh,run_underlying ht,hg,sd,hf,iT,Result.andThen]
   ·rw[BH];exact λx hx=>bK x ((List.eraseIdx_sublist _ _).subset hx)
   ·rw[BH];exact((List.eraseIdx_sublist _ _).map _).nodup bP
end
def OZ:Nat->Nat->List Bool
 |0,_=>[]
 |n+1,v=>v.testBit n::OZ n v
def Pp:List Bool->Nat
 |[]=>0
 |b::l=>b.toNat*2^l.length+Pp l
@[simp] theorem bitsN_length:∀(n v:Nat),(OZ n v).length=n
 |0,_=>rfl
 |n+1,v=>by simp[OZ,bitsN_length n v]
theorem QU:∀(l:List Bool),Pp l<2^l.length
 |[]=>by simp[Pp]
 | b :: l => by
   have:=QU l;simp only[Pp,List.length_cons,Nat.pow_succ];have:b.toNat<=1:=by cases b<;>simp
   have:b.toNat*2^l.length<=1*2^l.length:=Nat.mul_le_mul_right _ this;omega
theorem RE:∀(a b:List Bool),Pp (a++b)=Pp a*2^b.length+Pp b
 |[],b=>by simp[Pp]
 | x :: a, b => by
   rw[List.cons_append,Pp,RE a b,Pp,List.length_append,Nat.pow_add,Nat.add_mul,Nat.mul_assoc];omega
theorem RJ:∀(m n v:Nat),OZ (m+n) v=OZ m (v / 2^n)++OZ n v
 |0,n,v=>by simp[OZ]
 | m + 1, n, v => by
   rw[show m+1+n=(m+n)+1 by omega,OZ,OZ,List.cons_append,RJ m n v,Nat.testBit_div_two_pow]
theorem PR:∀(n v:Nat),Pp (OZ n v)=v%2^n
 |0,v=>by simp[OZ,Pp,Nat.mod_one]
 | n + 1, v => by
   rw[OZ,Pp,bitsN_length,PR n v,Nat.pow_succ,Nat.mod_mul,Nat.testBit_eq_decide_div_mod_eq];rcases Nat.mod_two_eq_zero_or_one (v / 2^n) with e|e<;>simp[e]<;>omega
theorem W3:∀{n v u:Nat},v%2^n=u%2^n->OZ n v=OZ n u
 |0,_,_,_=>rfl
 | n + 1, v, u, h => by
   have h1:v.testBit n=u.testBit n:=by
    have e1:(v%2^(n+1)).testBit n=v.testBit n:=by rw[Nat.testBit_mod_two_pow];simp
    have e2:(u%2^(n+1)).testBit n=u.testBit n:=by rw[Nat.testBit_mod_two_pow];simp
    rw[<-e1,<-e2,h]
   have h2:v%2^n=u%2^n:=by
    have e1:v%2^(n+1)%2^n=v%2^n:=Nat.mod_mod_of_dvd _ (Nat.pow_dvd_pow 2 (Nat.le_succ n));have e2:u%2^(n+1)%2^n=u%2^n:=Nat.mod_mod_of_dvd _ (Nat.pow_dvd_pow 2 (Nat.le_succ n));rw[<-e1,<-e2,h]
   rw[OZ,OZ,h1,W3 h2]
theorem Yu:∀{a b:List Bool},a.length=b.length->Pp a=Pp b->a=b
 |[],[],_,_=>rfl
 | x :: a, y :: b, hl, hv => by
   have hl':a.length=b.length:=by simpa using hl
   have h1:=QU a;have h2:=QU b;rw[Pp,Pp,hl'] at hv;rw[hl'] at h1
   have hx:x=y:=by
    cases x<;>cases y<;>simp at hv⊢<;>omega
   subst hx;rw[Yu hl' ω]
def z0F (l:List Bool):OZ l.length (Pp l)=l:=Yu ξ (by rw[PR,Nat.mod_eq_of_lt (QU l)])
/-! ### Bytes -/
def OU (s:Ov):List Bool:=s.flatMap λc=>OZ 8 c.toNat
@[simp] theorem bitsT_length (s:Ov):(OU s).length=8*s.length:=by
 induction s with
 |nil=>rfl
 |cons c s ih=>simp[OU] at ih⊢;omega
theorem Ye (a b:Ov):OU (a++b)=OU a++OU b:=by simp[OU]
def VK (d:List Bool):UInt8:=UInt8.ofNat (Pp d*2^(8-d.length))
def P4 (l:List Bool):Ov:=(List.range ((l.length+7) / 8)).map λi=>VK ((l.drop (8*i)).take 8)
theorem Po (l:List Bool):(P4 l).length=(l.length+7) / 8:=by simp[P4]
theorem XA {c d:List Bool}(hc:c.length%8=0)(h1:1<=d.length)(h8:d.length<=8):P4 (c++d)=P4 c++[VK d]:=by
 obtain⟨m,hm⟩:∃m,c.length=8*m:=⟨c.length / 8,ω⟩
 unfold P4
 rw[List.length_append,show(c.length+d.length+7) / 8=m+1 by omega,show(c.length+7) / 8=m by omega,List.range_succ,List.map_append]
 congr 1
 ·apply List.map_congr_left;intro i hi;rw[List.mem_range] at hi;rw[List.drop_append_of_le_length ω,List.take_append_of_le_length (by rw[List.length_drop];omega)]
 ·simp only[List.map_cons,List.map_nil];rw[<-hm,List.drop_left,List.take_of_length_le h8]
def z9b {d e:List Bool}(h:d.length+e.length<=8):(VK (d++e)).toNat=(VK d).toNat |||(Pp e*2^(8-d.length-e.length)):=by
 have h1:=QU d
 have h2:=QU e
 have hp:∀(x:List Bool),x.length<=8->Pp x*2^(8-x.length)<256:=λx hx=>by
  have h3:=QU x;have:Pp x*2^(8-x.length)<2^x.length*2^(8-x.length):=Nat.mul_lt_mul_of_pos_right h3 (Nat.two_pow_pos _);rw[<-Nat.pow_add,show x.length+(8-x.length)=8 by omega] at this;exact this
 have e1:(VK (d++e)).toNat=Pp (d++e)*2^(8-(d++e).length):=by
  unfold VK;rw[UInt8.toNat_ofNat'];exact Nat.mod_eq_of_lt (hp _ (by rw[List.length_append];omega))
 have e2:(VK d).toNat=Pp d*2^(8-d.length):=by
  unfold VK;rw[UInt8.toNat_ofNat'];exact Nat.mod_eq_of_lt (hp _ ω)
 rw[e1,e2,RE,List.length_append,Nat.add_mul]
 have h5:Pp d*2^e.length*2^(8-(d.length+e.length))=2^(8-d.length)*Pp d:=by
  rw[Nat.mul_assoc,<-Nat.pow_add,show e.length+(8-(d.length+e.length))=8-d.length by omega,Nat.mul_comm]
 have h6:Pp e*2^(8-(d.length+e.length))<2^(8-d.length):=by
  have:Pp e*2^(8-(d.length+e.length))<2^e.length*2^(8-(d.length+e.length)):=Nat.mul_lt_mul_of_pos_right h2 (Nat.two_pow_pos _);rw[<-Nat.pow_add,show e.length+(8-(d.length+e.length))=8-d.length by omega] at this;exact this
 rw[h5,Nat.two_pow_add_eq_or_of_lt h6,Nat.mul_comm (2^(8-d.length)),show 8-d.length-e.length=8-(d.length+e.length) by omega]
theorem z9o:VK []=0:=by decide
def S4 (l:List Bool):∃z,OU (P4 l)=l++List.replicate z false/\(l.length+z)%8=0/\z<8:=by
 have key:∀(m:Nat) (l:List Bool),l.length<=8*m->∃z,OU (P4 l)=l++List.replicate z false/\(l.length+z)%8=0/\z<8:=by
  intro m
  induction m with
  | zero =>
    intro l h;have:l=[]:=List.eq_nil_of_length_eq_zero ω;subst this
    exact⟨0,rfl,rfl,ω⟩
  | succ m ih =>
    intro l h;by_cases h0:l=[]
    ·subst h0;exact⟨0,rfl,rfl,ω⟩
    ·have hpos:1<=l.length:=by
      cases l with
      |nil=>exact absurd O h0
      |cons a r=>simp
     obtain⟨c,d,rfl,hc,h1,h8⟩:∃c d,l=c++d/\c.length%8=0/\1<=d.length/\d.length<=8:=by
      refine⟨l.take (8*((l.length-1) / 8)),l.drop (8*((l.length-1) / 8)),(List.take_append_drop _ _).symm,?_,?_,?_⟩
      ·rw[List.length_take];omega
      ·rw[List.length_drop];omega
      ·rw[List.length_drop];omega
     rw[List.length_append] at h;obtain⟨z,hz,hm,hl⟩:=ih c ω;have hz0:z=0:=by omega
     subst hz0;simp at hz;refine⟨8-d.length,?_,by rw[List.length_append];omega,ω⟩;rw[XA hc h1 h8,Ye,hz,List.append_assoc]
     congr 1
     simp only[OU,List.flatMap_cons,List.flatMap_nil,List.append_nil]
     have hv:Pp (d++List.replicate (8-d.length) false)=Pp d*2^(8-d.length):=by
      rw[RE,List.length_replicate]
      have:∀n,Pp (List.replicate n false)=0:=λn=>by
       induction n with
       |zero=>rfl
       |succ n ih=>rw[List.replicate_succ,Pp,ih];simp
      rw[this];rfl
     refine Yu (by simp;omega) ?_;rw[PR,hv];have h3:=QU d
     have:Pp d*2^(8-d.length)<2^8:=by
      have:Pp d*2^(8-d.length)<2^d.length*2^(8-d.length):=Nat.mul_lt_mul_of_pos_right h3 (Nat.two_pow_pos _)
      rwa [<-Nat.pow_add,show d.length+(8-d.length)=8 by omega] at this
     unfold VK;rw[UInt8.toNat_ofNat'];rw[Nat.mod_mod,Nat.mod_eq_of_lt this]
 exact key l.length l ω
def z6x (c:Nat)(hc:c<256)(room n:Nat)(hr:room<=8)(hn:n<=room):Pp (((OZ 8 c).drop (8-room)).take n)=c%2^room / 2^(room-n):=by
 have e1:OZ 8 c=OZ (8-room) (c / 2^room)++OZ room c:=by rw[<-RJ,show 8-room+room=8 by omega]
 have e2:OZ room c=OZ n (c / 2^(room-n))++OZ (room-n) c:=by rw[<-RJ,show n+(room-n)=room by omega]
 rw[e1,List.drop_left' ξ,e2,List.take_left' ξ,PR]
 have:c%2^room / 2^(room-n)=c / 2^(room-n)%2^n:=by
  have h2:2^room=2^(room-n)*2^n:=by rw[<-Nat.pow_add,show room-n+n=room by omega]
  rw[h2,Nat.mod_mul_right_div_self]
 rw[this]
theorem Tk (c:UInt8)(s:Ov):OU (c::s)=OZ 8 c.toNat++OU s:=rfl
theorem Tm:∀(k:Nat) (s:Ov),OU (s.drop k)=(OU s).drop (8*k)
 |0,s=>by simp
 |k+1,[]=>by simp[OU]
 | k + 1, c :: s => by
   have e:(OZ 8 c.toNat++OU s).drop (8+8*k)=(OU s).drop (8*k):=by rw[<-List.drop_drop,List.drop_left' ξ]
   rw[List.drop_succ_cons,Tm k s,Tk,show 8*(k+1)=8+8*k by omega,e]
theorem Us:∀(k:Nat) (s:Ov),OU (s.take k)=(OU s).take (8*k)
 |0,s=>by simp[OU]
 |k+1,[]=>by simp[OU]
 | k + 1, c :: s => by
   have e:(OZ 8 c.toNat++OU s).take (8+8*k)=OZ 8 c.toNat++(OU s).take (8*k):=by
    have:=List.take_length_add_append (l₁:=OZ 8 c.toNat) (l₂:=OU s) (8*k)
    rwa [bitsN_length] at this
   rw[List.take_succ_cons,Tk,Us k s,Tk,show 8*(k+1)=8+8*k by omega,e]
def zcL {s:Ov}{i:Nat}{c:UInt8}(h:s[i]? =some c):((OU s).drop (8*i)).take 8=OZ 8 c.toNat:=by
 rw[<-Tm]
 obtain⟨hi,e⟩:=List.getElem?_eq_some_iff.1 h
 rw[List.drop_eq_getElem_cons hi,e,show OU (c::s.drop (i+1))=OZ 8 c.toNat++OU (s.drop (i+1)) from rfl,List.take_left' ξ]
def z5L {s:Ov}{at' n:Nat}{c:UInt8}(h:s[at' / 8]? =some c)(hn:n<=8-at'%8):Pp (((OU s).drop at').take n)=c.toNat%2^(8-at'%8) / 2^(8-at'%8-n):=by
 have h1:=zcL h
 have h2:=z6x c.toNat (by have:=c.toNat_lt;omega) (8-at'%8) n ω hn
 rw[<-h2,<-h1]
 congr 1
 rw[List.drop_take,List.take_take,List.drop_drop,show 8*(at' / 8)+(8-(8-at'%8))=at' by omega]
 congr 1
 omega
def z5a {bs e:List Bool}(h1:1<=e.length)(h8:bs.length%8+e.length<=8):∃(c:Ov) (x y:UInt8),(if bs.length%8=0 then P4 bs++[0] else P4 bs)=c++[x]/\P4 (bs++e)=c++[y]/\y.toNat=(x.toNat |||(Pp e*2^(8-bs.length%8-e.length))):=by
 obtain⟨c,d,hcd,hc,hd⟩:∃c d,bs=c++d/\c.length%8=0/\d.length=bs.length%8:=⟨bs.take (8*(bs.length / 8)),bs.drop (8*(bs.length / 8)),(List.take_append_drop _ _).symm,by rw[List.length_take];omega,by rw[List.length_drop];omega⟩
 have hb:=z9b (d:=d) (e:=e) ω
 rw[<-hd]
 refine⟨P4 c,VK d,VK (d++e),?_,?_,hb⟩
 ·by_cases h0:d.length=0
  ·have:d=[]:=List.eq_nil_of_length_eq_zero h0;subst this;rw[if_pos ξ,hcd,List.append_nil,z9o]
  ·rw[if_neg ω,hcd,XA hc ω ω]
 ·rw[hcd,List.append_assoc,XA hc (by rw[List.length_append];omega) (by rw[List.length_append];omega)]
abbrev ON (n:Nat):Value:= .int .u64 (n:Int)
def Ws {w:World}{v:Value}{T s n}{us:List Value}(h:Sl w v T s n us):oneV v=true:=by
 rcases h.shape with⟨rfl,-⟩|⟨g,c,rfl,-⟩<;>rfl
section
variable {P:Program}{e:Env}{d:Option Nat}{ty t t':TypeId}{pos:String}{aft:Array Edge}{g:Option (Nat×Bool)}{x y:Operand}{w:World}{k:IntKind}{m n:Nat}
def Wh (hx:look e x=some (.int k (m:Int)))(hy:look e y=some (.int k (n:Int)))(hs:k.signed=false)(hm:m<2^k.bits)(h:n<=m):Y P e ⟨d,.binOp .sub t x y t',ty,pos,aft,g⟩ (.int k ((m-n:Nat):Int)) w w:=fun ρ hρ=>by
 have h1:(m:Int)-n=((m-n:Nat):Int):=by omega
 have h2:k.wrap ((m-n:Nat):Int)=((m-n:Nat):Int):=z0n hs ω
 simp[execOp,go_sem,hρ _ _ hx,hρ _ _ hy,h1,h2]
def zhZ {el:TypeId}{c:Nat}(hs:P.underlying t=some (.slice el))(he:P.underlying el=some (.int .u8))(hd:P.underlying t'=some .string)(hx:look e x=some (.slice none 0 c)):Y P e ⟨d,.convert t t' x,ty,pos,aft,g⟩ (S []) w w:=fun ρ hρ=>by
 have hr:(convert t t' (.slice none 0 c)).run P w= .ok (S []) w:=by
  rw[run_convert_bytes_string w t t' el none 0 c hs he hd];rfl
 simp only[execOp,hρ _ _ hx,Sem.run_bind,hr,Result.andThen_ok,Sem.run_pure]
def zhB {el:TypeId}{gb n cap:Nat}{l:List UInt8}(hs:P.underlying t=some (.slice el))(he:P.underlying el=some (.int .u8))(hd:P.underlying t'=some .string)(hx:look e x=some (.slice (some ⟨gb,0,none⟩) n cap))(hS:Sl w (.slice (some ⟨gb,0,none⟩) n cap) el 1 n (l.map Tg)):
  Y P e ⟨d,.convert t t' x,ty,pos,aft,g⟩ (S l) w w:=by
 obtain⟨cur,hr,-,-,-,ht⟩:=hS.row
 refine z8m hs he hd hx hr.On (by rw[List.drop_zero,<-ht,Nat.mul_one]) ?_
 have:=hS.len
 rw[List.length_map] at this
 omega
end
def PM {w:World}{b off n cap i:Nat}{vs:List Value}{v:Value}(h:Rd w (.slice (some ⟨b,off,none⟩) n cap) 1 n vs)(hv:vs[i]? =some v):w.cell? ⟨b,off+i*1,none⟩=some v:=by
 rcases h.2 with⟨c,hc,h0⟩|⟨b',off',cap',e,hc⟩
 ·have hi:=(List.getElem?_eq_some_iff.1 hv).1;have:=h.1;omega
 ·cases e;rw[Nat.mul_one];exact hc i v hv
structure WrM (w:World)(p:Nat)(bv:Value)(bs:List Bool):Prop where
 On:OE w p [bv,I (bs.length:Int)] 283
 sl:Sl w bv 5 1 (P4 bs).length ((P4 bs).map Tg)
 ne:bv.ownBlock≠some p
def fpW (p:Nat)(bv:Value)(k:Nat):Prop:=k=p\/bv.ownBlock=some k
def Yi (w:World)(p:Nat)(bs:List Bool)(F:Nat->Prop):Prop:=∃bv,WrM w p bv bs/\∀k,F k↔fpW p bv k
def WrR (p:Nat)(F:Nat->Prop)(w w':World)(bs:List Bool):Prop:=∃F',Yi w' p bs F'/\Kp F w w'/\∀k,F' k->F k\/w.heap.size<=k
section
variable {w w':World}{p:Nat}{bs:List Bool}{F S:Nat->Prop}
def Yi.lt (h:Yi w p bs F){k:Nat}(hk:F k):k<w.heap.size:=by
 obtain⟨bv,hM,hF⟩:=h
 rcases (hF k).1 hk with e| e
 ·rw[e];exact hM.On.lt
 ·exact hM.sl.lt e
def Yi.kp (h:Yi w p bs F)(k:Kp S w w')(hn:∀i,F i->¬S i):Yi w' p bs F:=by
 obtain⟨bv,hM,hF⟩:=h
 exact⟨bv,⟨k.On hM.On (hn p ((hF p).2 (.inl O))),hM.sl.kp k (λg hg=>hn g ((hF g).2 (.inr hg))),hM.ne⟩,hF⟩
def Yi.ext (h:Yi w p bs F)(k:Ext w w'):Yi w' p bs F:=h.kp k.kp λ_ _=>id
end
section
variable {w:World}{p:Nat}{bs:List Bool}{F:Nat->Prop}
def Uh (w:World):P9 prog 130 [] w λv w'=>∃p F,v=ptr p 0/\Yi w' p [] F/\Ext w w'/\∀k,F k->w.heap.size<=k:=by
 refine py (e:=[]) func130 O ntmps130 O O$ qN O$ QL O$ qV (Sa (cs:=[_,_]) zf1 O ziw O O)$ Oy O O (R9 O O) ?_
 rintro _ w1 ⟨p,rfl,hp,hx,hB⟩
 refine OK O$ Oo func130 O ?_
 exact⟨_,rfl,p,_,rfl,⟨_,⟨hB,Sl.nil _ _ _,by simp[Value.ownBlock]⟩,λ_=>Iff.rfl⟩,hx,λk hk=>by
  rcases hk with e| e
  ·omega
  ·simp[Value.ownBlock] at e⟩
def zba (h:Yi w p bs F)(v n:Nat)(hn:n<=64)(hv:v<2^n)(hl:bs.length+n<=1000000000):
  P9 prog 168 [ptr p 0,ON v,I (n:Int)] w λu w'=>u= .tuple #[]/\WrR p F w w' (bs++OZ n v):=by
 obtain⟨bv,hM,hF⟩:=h
 have Ja:v<18446744073709551616:=by
  have:=Nat.pow_le_pow_right (show 0<2 by decide) hn;have e:(2:Nat)^64=18446744073709551616:=by decide
  omega
 have fg:maxLen=9223372036854775807:=rfl
 refine py (e:=[(0,_),(1,_),(2,_)]) func168 O ntmps168 O O$ Ou$ Rw (α:=Nat×Value×List Bool) ((n,bv,bs)) (λx=>[(0,ptr p 0),(1,ON v),(2,I (x.1:Int))]) (λx w'=>x.1<=n/\WrM w' p x.2.1 x.2.2/\x.2.2=bs++OZ (n-x.1) (v / 2^x.1)/\Kp F w w'/\(∀k,fpW p x.2.1 k->F k\/w.heap.size<=k)) (λx=>x.1) ?hI ?hround
 case hI=>exact⟨Nat.le_refl _,hM,by rw[Nat.sub_self];simp[OZ],Kp.refl _ _,λk hk=> .inl ((hF k).2 hk)⟩
 case hround =>
  rintro⟨k,bv1,b1⟩ w1 ⟨hk,cZ,bK,aG,iM⟩ ih;dsimp only at hk cZ bK iM;have ah:=cZ.On;have Jb:b1.length<=bs.length+n:=by rw[bK,List.length_append,bitsN_length];omega
  have jG:b1.length&&&7=b1.length%8:=Nat.and_two_pow_sub_one_eq_mod b1.length 3;have mG:=aG.size;have gE:=ah.lt
  try dsimp only
  refine Pz O$ Qr O$ Oq$ OH O (λaN=>?_)$ λaN=>?_
  ·have gU : 0 < k := by omega
   obtain⟨take,mH⟩:∃take,min k (8-b1.length%8)=take:=⟨_,rfl⟩;have sg:1<=take/\take<=k/\take<=8-b1.length%8:=by omega
   obtain⟨e,he⟩:∃e,OZ take (v / 2^(k-take))=e:=⟨_,rfl⟩;have oA:e.length=take:=by rw[<-he];simp
   have He:Pp e=v / 2^(k-take)%2^take:=by rw[<-he,PR]
   obtain⟨c,x,y,hL,hY,dz⟩:=z5a (bs:=b1) (e:=e) ω ω;refine Ot (Ou (Pz O (Pb O (OL WK O (qV (OB U3 O O ah O) (qV (Xf O O ω ω) ?_))))));rw[jG];refine QS O$ Oq$ Pw (λe' w'=>e'=[(0,ptr p 0),(1,ON v),(2,I (k:Int))]/\∃bv2,OE w' p [bv2,I (b1.length:Int)] 283/\Sl w' bv2 5 1 (c++[x]).length ((c++[x]).map Tg)/\bv2.ownBlock≠some p/\Kp F w w'/\∀k,fpW p bv2 k->F k\/w.heap.size<=k) ?mI$ λmI=>?mJ
   case mI=>
    rintro e' w2 ⟨rfl,bv2,ak,cU,fO,am,sh⟩
    obtain⟨g2,c2,rfl,fJ⟩:∃g cp,bv2= .slice (some ⟨g,0,none⟩) (c++[x]).length cp/\(c++[x]).length<=cp:=by
     rcases cU.shape with⟨-,e⟩| h
     ·simp at e
     ·exact h
    have eR:(c++[x]).length=c.length+1:=by simp
    have Hf:p≠g2:=λe=>fO (by rw[e];rfl);have ll:(P4 (b1++e)).length=c.length+1:=by rw[hY];simp
    rw[Po,List.length_append] at ll;obtain⟨T,hT⟩:∃T,2^take=T:=⟨_,rfl⟩;obtain⟨D,hD⟩:∃D,2^(k-take)=D:=⟨_,rfl⟩;obtain⟨R,hR⟩:∃R,2^(8-b1.length%8-take)=R:=⟨_,rfl⟩;rw[hT,hD] at He;rw[oA,hR] at dz
    have Hg:1<=T/\T<=256:=by
     rw[<-hT];exact⟨Nat.two_pow_pos _,by have:=Nat.pow_le_pow_right (show 0<2 by decide) (show take<=8 by omega);simpa using this⟩
    have iU:(v / D)&&&(T-1)=v / D%T:=by rw[<-hT];exact Nat.and_two_pow_sub_one_eq_mod _ _
    have Nm:v / D<=v:=Nat.div_le_self _ _;have Jc:v / D%T<T:=Nat.mod_lt _ ω
    have Nn:Pp e*R<256:=by
     have h1:=QU e;rw[oA,hT] at h1;have h2:Pp e*R<T*R:=Nat.mul_lt_mul_of_pos_right h1 (by rw[<-hR];exact Nat.two_pow_pos _);have h3:T*R=2^(8-b1.length%8):=by rw[<-hT,<-hR,<-Nat.pow_add,show take+(8-b1.length%8-take)=8-b1.length%8 by omega]
     have h4:=Nat.pow_le_pow_right (show 0<2 by decide) (show 8-b1.length%8<=8 by omega);have h5:(2:Nat)^8=256:=by decide
     omega
    have cz:=x.toNat_lt;refine P7 O (Pb O (OL WK O (qV (OB U3 O O ak O) (qV (Xf O O ω ω) ?_))));rw[jG];refine Ra O ?_;rw[show(8-((b1.length%8:Nat):Int))=((8-b1.length%8:Nat):Int) by omega];refine QL O$ OX O$ qV (ymi O O) ?_;rw[show min (k:Int) ((8-b1.length%8:Nat):Int)=((take:Nat):Int) by omega];have hg:=Ext.OT w2;refine OK O (An (R8 (λw'=>Ext w2 w') O (OR 0 O O (hg) (OR 1 O O (hg) (OR 2 O O (hg) (Ow 3 O (X8 O O ω) hg (OR 5 O O (hg) ?_)))))));rw[show((k:Int)-(take:Int))=((k-take:Nat):Int) by omega];refine Ow 4 O (Uk (k-take) D O O (by show k-take<=64;omega) hD) hg ?_;refine Ow 6 O (R6 take T O O ω hT) hg ?_;rw[show(1*T)%18446744073709551616=T by omega];refine Ow 7 O (Wh (n:=1) O O O (by show T<2^64;omega) ω) hg ?_;refine Ow 8 O (Ul O O ω ω) hg ?_;rw[iU];refine Ow 9 O (zcG O R7 U5) hg ?_;rw[show v / D%T%256=Pp e by rw[He];exact Nat.mod_eq_of_lt (Nat.lt_of_lt_of_le Jc Hg.2)];have ao:=hg.On ak;have cV:=cU.ext hg;have ag:Ext w2.drew w2.drew.drew:=Ext.OT w2.drew;refine Ow 10 O (Rr O) hg (qE (An (OW [19] (λw'=>Ext w2.drew w') (by kernel_rfl) O (PF 0 O O (ag) (P5 1 O (Q8 O) ag (P5 2 O (Pk YC O) ag (qL 3 O (λ_ h=>OB Qk O O (h.On ao) O) ag (PF 4 O O (ag) (P5 5 O (Q8 O) ag (P5 6 O (Pk YC O) ag (qL 7 O (λ_ h=>OB Qk O O (h.On ao) O) ag (P5 8 O (St Qk O) ag (PF 12 O O (ag) ?_)))))))))))));refine PF 13 O O (ag) (PF 14 O O (ag) (P5 15 O (X8 O O ω) ag (P5 9 O (X8 O O ω) ag ?_)));rw[show(((c++[x]).length:Int)-1)=((c.length:Nat):Int) by omega];refine P5 10 O (PK Qk XN O O ω) ag (qL 11 O (λ_ hS=>Pc U5 O O (PM (cV.rd.ext hS) (show((c++[x]).map Tg)[c.length]? =some (Tg x) by simp))) ag ?_);rw[show(((8-b1.length%8:Nat):Int)-(take:Int))=((8-b1.length%8-take:Nat):Int) by omega];refine P5 16 O (ziy (8-b1.length%8-take) R O O ω hR) ag ?_;rw[show Pp e*R%256=Pp e*R by omega];refine P5 17 O (zjc O O ω ω) ag (P5 18 O (PK Qk XN O O ω) ag (Th [19] (qO 19 (Pt (i:=19) O O (RA XN O O O (cV.ext ag) ξ) ?_))));rintro w4 ⟨ep,aq⟩;refine⟨trivial,?_⟩
    rw[show((c++[x]).map Tg).set (0+c.length*1) (.int .u8 ((x.toNat |||Pp e*R:Nat):Int))=(c++[y]).map Tg by
     rw[Nat.zero_add,Nat.mul_one,List.map_append,List.map_append,List.set_append_right _ _ ξ]
     simp[Tg,dz]] at ep
    have aH:=aq.On (ag.On ao) Hf;refine qE (P7 O (Pb O (OL WK O (qV (OB U3 O O aH O) (OC O (PL O (Pb O (OL WK O (OJ O (Qw PH O O O aH ξ) ?_)))))))));rintro w5 ⟨aD,ai⟩;rw[show((b1.length:Int)+(take:Int))=(((b1++e).length:Nat):Int) by rw[List.length_append,oA];omega] at aD;replace aD:OE w5 p [.slice (some ⟨g2,0,none⟩) (c++[x]).length c2,I ((b1++e).length:Int)] 283:=aD
    have fP:=ep.kp ai (λg hg e=>by
                         have:g2=g:=by simpa[Value.ownBlock] using hg
                         omega)
    refine Oq$ Oz O$ OX O$ Ra O$ OK O$ Om ?_;rw[show((k:Int)-(take:Int))=((k-take:Nat):Int) by omega];refine(ih (k-take,.slice (some ⟨g2,0,none⟩) (c++[x]).length c2,b1++e) w5 ⟨by dsimp only;omega,⟨aD,?_,fO⟩,?_,?_,sh⟩ (by dsimp only;omega)).qb
    ·rw[hY];have e1:(c++[y]).length=(c++[x]).length:=by simp
     rw[e1];exact fP
    ·dsimp only;rw[bK,List.append_assoc]
     congr 1
     rw[<-he,show n-(k-take)=(n-k)+take by omega,RJ]
     congr 2
     rw[Nat.div_div_eq_div_mul,<-Nat.pow_add,show k-take+take=k by omega]
    ·have lu:Kp (fpW p (.slice (some ⟨g2,0,none⟩) (c++[x]).length c2)) w2 w5:=((hg.trans ag).kp.trans (aq.OA (λi e=> .inr (by rw[e];rfl)))).trans (ai.OA (λi e=> .inl e));exact am.It lu (λi hi=>(sh i hi).symm)
   case mJ=>
    refine OH O (λh0=>?_)$ λh0=>?_
    ·rw[if_pos ω] at hL;refine Oz O (OX O (Pb O (OL YC O (qV (OB Qk O O ah O) (Oy O O (XM (cs:=[_]) (zs:=[Value.int .u8 0]) Qk XN O (by kernel_rfl) O O O ψ) ?_)))));rintro _ w2 ⟨b2,rfl,⟨bP,ae,ak⟩,cU⟩;refine Oy O O (pap Qk XN O ψ O O (cZ.sl.ext ae) cU.rd (by intro c hc;simp at hc;subst hc;rfl) (by rw[Po];omega) (by rw[Po];omega)) ?_;rintro bv3 w3 ⟨cV,ar,kE,-⟩;have ao:=ar.On (ae.On ah) cZ.ne;refine Pb O (OL YC O (OJ O (Qw X9 O O (Ws cV) ao ξ) ?_));rintro w4 ⟨aH,aq⟩;replace aH:OE w4 p [bv3,I (b1.length:Int)] 283:=aH;refine Oq ?_
     have eS:bv3.ownBlock≠some p:=λe=>by
      rcases kE p e with e| e
      ·exact cZ.ne e
      ·have:=ae.size;omega
     refine(mI _ _ ⟨rfl,bv3,aH,?_,eS,?_,?_⟩).qb
     ·rw[<-hL,List.length_append,List.map_append];exact cV.kp aq (λg hg e=>eS (e▸hg))
     ·exact aG.It ((ae.kp.trans (ar.OA (λk e=> .inr e))).trans (aq.OA (λk e=> .inl e))) (λi hi=>(iM i hi).symm)
     ·intro i hi;rcases hi with e| e
      ·exact iM i (.inl e)
      ·rcases kE i e with e| e
       ·exact iM i (.inr e)
       ·have:=ae.size;exact .inr ω
    ·rw[if_neg ω] at hL;refine Ot ?_;exact(mI _ _ ⟨rfl,bv1,ah,by rw[<-hL];exact cZ.sl,cZ.ne,aG,iM⟩).qb
  ·have:k=0:=by omega
   subst this;refine OD O$ PQ func168 O (⟨_,rfl,rfl,_,⟨bv1,?_,λ_=>Iff.rfl⟩,aG,iM⟩);rw[bK,Nat.sub_zero,Nat.pow_zero,Nat.div_one] at cZ;exact cZ
def z7X (v n:Nat)(hn:n<=64)(hv:v<2^n)(w:World):P9 prog 167 [ON v,I (n:Int)] w λu w'=>u= .bool true/\w'=w:=by
 refine py (e:=[(0,_),(1,_)]) func167 O ntmps167 O O$ qN O$ QO O$ TE O$ OC O$ Sc (λh1=>?_)$ λh1=>?_
 ·refine QI$ QI$ QQ O$ OK O$ Oo func167 O ?_;exact⟨_,rfl,rfl,rfl⟩
 ·refine OX O (qV (Uk n (2^n) O O (by show n<=64;omega) O) ?_);rw[Nat.div_eq_of_lt hv];refine QS O$ PC O$ OK O$ Oo func167 O ?_;exact⟨_,rfl,by simp[PS],rfl⟩
def S5 (h:Yi w p bs F)(v n:Nat)(hn:n<=64)(hv:v<2^n)(hl:bs.length+n<=134217728):
  P9 prog 131 [ptr p 0,ON v,I (n:Int)] w λu w'=>u=I 0/\WrR p F w w' (bs++OZ n v):=by
 obtain⟨bv,hM,hF⟩:=id h
 have hB:=hM.On
 refine py (e:=[(0,_),(1,_),(2,_)]) func131 O ntmps131 O O$ QB O$ Qt$ P7 O$ qV (PU z2r O O)$ OK O$ Ox O$ P7 O$ Qv O$ OC O$ Sc (λh1=>?_)$ λh1=>?_
 ·omega
 ·refine OC O$ Qr O$ PC O$ OC O$ Sc (λh2=>?_)$ λh2=>?_
  ·omega
  ·refine OX O$ OQ zii O (z7X v n hn hv w) ?_;rintro _ w ⟨rfl,rfl⟩;refine qV ((S1 O))$ PC O$ OK O$ Ox O$ Qh O$ Pb O$ OL WK O$ qV (OB U3 O O hB O)$ Ra O$ Qr O$ OK O$ P8.qb (e:=[(0,_),(1,_),(2,_),(6,_),(23,_)]) ?_;refine OH O (λh3=>?_)$ λh3=>?_
   ·omega
   ·refine Ot (Om (Qh O (OC O (OQ zhN O (zba h v n hn hv ω) ?_))));rintro _ w1 ⟨rfl,hR⟩;refine qM O$ OK O$ Oo func131 O ?_;exact⟨_,rfl,rfl,hR⟩
def WE (h:Yi w p bs F):P9 prog 132 [ptr p 0] w λu w'=>u= .tuple #[S (P4 bs),I 0]/\w'=w:=by
 obtain⟨bv,hM,hF⟩:=h
 have hB:=hM.On
 have hS:=hM.sl
 refine py (e:=[(0,_)]) func132 O ntmps132 O O$ qN O$ Qd O$ Pz O$ qV (PU z2r O O)$ PX O$ P7 O$ Pb O$ OL YC O$ qV (OB Qk O O hB O) ?_
 rcases hS.shape with⟨rfl,h0⟩|⟨g,cap,rfl,jH⟩
 ·have hn:P4 bs=[]:=List.eq_nil_of_length_eq_zero h0;rw[hn];refine qV (zhZ Qk U5 U9 O)$ Qd O$ Oo func132 O ?_;exact⟨_,rfl,rfl,rfl⟩
 ·refine qV (zhB (l:=P4 bs) Qk U5 U9 O hS)$ Qd O$ Oo func132 O ?_;exact⟨_,rfl,rfl,rfl⟩
def UY (h:Yi w p bs F):P9 prog 135 [ptr p 0] w λu w'=>u=I (bs.length:Int)/\w'=w:=by
 obtain⟨bv,hM,hF⟩:=h
 have hB:=hM.On
 refine py (e:=[(0,_)]) func135 O ntmps135 O O$ QB O$ Pz O$ qV (PU z2r O O)$ PX O$ P7 O$ Pb O$ OL WK O$ qV (OB U3 O O hB O)$ OK O$ Oo func135 O ?_
 exact⟨_,rfl,rfl,rfl⟩
end
def Tx (w:World)(r:Nat)(s:Ov)(a:Nat):Prop:=OE w r [S s,I (a:Int)] 321/\a<=8*s.length/\s.length<=1000000000
section
variable {w:World}{r:Nat}{s:Ov}{a:Nat}
def Ww (s:Ov)(hs:s.length<=1000000000)(w:World):P9 prog 171 [S s] w λv w'=>∃r,v=ptr r 0/\Tx w' r s 0/\Ext w w'/\w.heap.size<=r:=by
 refine py (e:=[(0,_)]) func171 O ntmps171 O O$ qN O$ QO O$ qV (Sa (cs:=[_,_]) zir O zgF O O)$ Oy O O (R9 O O) ?_
 rintro _ w1 ⟨r,rfl,hr,hx,hB⟩
 refine OK O$ Oo func171 O ?_
 exact⟨_,rfl,r,rfl,⟨hB,Nat.zero_le _,hs⟩,hx,ω⟩
def TR (h:Tx w r s a):P9 prog 187 [ptr r 0] w λv w'=>v=I (a:Int)/\w'=w:=by
 obtain⟨hB,h1,h2⟩:=h
 refine py (e:=[(0,_)]) func187 O ntmps187 O O$ QB O$ Pz O$ qV (PU UU O O)$ PX O$ P7 O$ Pb O$ OL UC O$ qV (OB U3 O O hB O)$ OK O$ Oo func187 O ?_
 exact⟨_,rfl,rfl,rfl⟩
def z7R (h:Tx w r s a):P9 prog 203 [ptr r 0] w λv w'=>v=I ((8*s.length-a:Nat):Int)/\Ext w w':=by
 obtain⟨hB,h1,h2⟩:=h
 refine py (e:=[(0,_)]) func203 O ntmps203 O O$ QB O$ Pz O$ qV (PU UU O O) ?_
 have hg:=Ext.OT w
 refine PX O$ An$ R8 (λw'=>Ext w w') O$ OR 0 O O (hg)$ Ow 1 O (Q8 O) hg$ Ow 2 O (Pk z30 O) hg$ qT 3 O (λ_ h=>OB U9 O O (h.On hB) O) hg$ Ow 4 O (VX U9 O) hg$ Ow 5 O (X5 O O ω) hg$ OR 6 O O (hg)$ Ow 7 O (Q8 O) hg$ Ow 8 O (Pk UC O) hg$ qT 9 O (λ_ h=>OB U3 O O (h.On hB) O) hg$ Ow 10 O (X8 O O ω) hg ?_
 refine Ow 11 O (Rr O) hg$ qE$ Oo func203 O (⟨_,rfl,?_,hg⟩)
 simp only[PS]
 congr 1
 omega
def YZ (h:Tx w r s a)(k:Nat)(hk:k<=8*s.length):P9 prog 215 [ptr r 0,I (k:Int)] w λv w'=>v=I 0/\Tx w' r s k/\Kp (λi=>i=r) w w':=by
 obtain⟨hB,h1,h2⟩:=h
 refine py (e:=[(0,_),(1,_)]) func215 O ntmps215 O O$ QB O$ Qt$ P7 O$ qV (PU UU O O)$ OK O$ Ox O$ P7 O$ Qv O$ OC O$ Sc (λc1=>?_)$ λc1=>?_
 ·omega
 ·refine OX O$ Pb O$ OL z30 O$ qV (OB U9 O O hB O)$ qV (VX U9 O)$ qV (X5 O O ω)$ Qr O$ PC O$ OK O$ OH O (λc2=>?_)$ λc2=>?_
  ·omega
  ·refine Ot (Om (Qh O (Pb O (OL UC O (OJ O (Qw PH O O O hB ξ) ?_)))));rintro w1 ⟨ah,aG⟩;refine qM O$ OK O$ Oo func215 O ?_;exact⟨_,rfl,rfl,⟨ah,hk,h2⟩,aG⟩
def z6l {b2 b6 V n:Nat}(h:Tx w r s a)(h2:OE w b2 [ptr r 0] 289)(h6:OE w b6 [ON V] 39)(hn:1<=n)(oB:n<=8-a%8)(hl:a+n<=8*s.length)(hV:V*2^n+2^n<=18446744073709551616)(d1:b6≠r)(d2:b2≠r)(d3:b2≠b6):
  P9 prog 204 [I (n:Int),ptr b2 0,ptr b6 0] w λu w'=>u= .tuple #[]/\Tx w' r s (a+n)/\OE w' b6 [ON (V*2^n+Pp (((OU s).drop a).take n))] 39/\OE w' b2 [ptr r 0] 289/\Kp (λk=>k=b6\/k=r) w w':=by
 obtain⟨hB,ha,hs⟩:=h
 have jG:a&&&7=a%8:=Nat.and_two_pow_sub_one_eq_mod a 3
 obtain⟨c,hc⟩:∃c,s[a / 8]? =some c:=⟨_,List.getElem?_eq_getElem ω⟩
 have hp:=z5L hc oB
 obtain⟨pc,ll⟩:∃pc,Pp (((OU s).drop a).take n)=pc:=⟨_,rfl⟩
 have gE:pc<2^n:=by
  rw[<-ll];have h1:=QU (((OU s).drop a).take n);rw[List.length_take,List.length_drop,bitsT_length,Nat.min_eq_left ω] at h1;exact h1
 rw[ll] at hp⊢
 have No:=c.toNat_lt
 obtain⟨rm,AK⟩:∃rm,8-a%8=rm:=⟨_,rfl⟩
 rw[AK] at hp oB
 have iU:c.toNat&&&(2^rm-1)=c.toNat%2^rm:=Nat.and_two_pow_sub_one_eq_mod _ _
 obtain⟨R,hR⟩:∃R,2^rm=R:=⟨_,rfl⟩
 have vm:1<=R/\R<=256:=by
  rw[<-hR];exact⟨Nat.two_pow_pos _,by have:=Nat.pow_le_pow_right (show 0<2 by decide) (show rm<=8 by omega);simpa using this⟩
 rw[hR] at hp iU
 have mu:c.toNat%R<=c.toNat:=Nat.mod_le _ _
 have Jd:s.getD (a / 8) 0=c:=by rw[List.getD_eq_getElem?_getD,hc];rfl
 refine py (e:=[(0,_),(1,_),(2,_)]) func204 O ntmps204 O O$ qN O$ qV ((OB UU O O h2 O))$ Pb O$ OL UC O$ qV ((OB U3 O O hB O))$ qV (Xf O O ω ω) ?_
 rw[jG]
 refine Ra O ?_
 rw[show(8-((a%8:Nat):Int))=((rm:Nat):Int) by omega]
 have hg:=Ext.OT w
 refine OK O$ An$ R8 (λw'=>Ext w w') O$ qT 0 O (λ_ h=>(OB UU O O (h.On h2) O)) hg$ Ow 1 O (Q8 O) hg$ Ow 2 O (Pk z30 O) hg$ qT 3 O (λ_ h=>(OB U9 O O (h.On hB) O)) hg$ qT 4 O (λ_ h=>(OB UU O O (h.On h2) O)) hg$ Ow 5 O (Q8 O) hg$ Ow 6 O (Pk UC O) hg$ qT 7 O (λ_ h=>(OB U3 O O (h.On hB) O)) hg$ Ow 8 O (Wq O O ω) hg$ OR 11 O O (hg)$ OR 15 O O (hg) ?_
 refine OR 16 O O (hg)$ Ow 17 O (X8 O O ω) hg ?_
 rw[show((a:Int) / 8)=((a / 8:Nat):Int) by omega]
 refine Ow 9 O (zgH U9 O O ω) hg$ Ow 10 O ((zam O U5 U3 ψ)) hg ?_
 rw[Jd]
 refine Ow 12 O (zjI rm R O O ω hR ω) hg ?_
 rw[show(1*(R:Int))=((R:Nat):Int) by omega]
 refine Ow 13 O (X8 O O ω) hg ?_
 rw[show((R:Int)-1)=((R-1:Nat):Int) by omega]
 refine Ow 14 O (Xf O O ω ω) hg ?_
 rw[iU]
 rw[show((rm:Int)-(n:Int))=((rm-n:Nat):Int) by omega]
 refine Ow 18 O (Uk (rm-n) (2^(rm-n)) O O (by show rm-n<=64;omega) O) hg ?_
 rw[<-hp]
 refine Ow 19 O (Rr O) hg$ qE$ P8.qb (e:=[(0,_),(1,_),(2,_),(5,_)]) ?_
 refine qN O ?_
 have ah:=hg.On hB
 have Je:=hg.On h2
 have AL:=hg.On h6
 obtain⟨N,hN⟩:∃N,2^n=N:=⟨_,rfl⟩
 rw[hN] at hV gE
 have Np:1<=N:=by rw[<-hN];exact Nat.two_pow_pos _
 obtain⟨M,hM⟩:∃M,V*N=M:=⟨_,rfl⟩
 rw[hM] at hV
 have oC:M |||pc=M+pc:=by
  have:=Nat.two_pow_add_eq_or_of_lt (i:=n) (b:=pc) (by rw[hN];exact gE) V;rw[hN,Nat.mul_comm N V,hM] at this;exact this.symm
 rw[hN,hM]
 have si:n<=64:=by omega
 refine qV ((OB R7 O O AL O))$ OC O$ qV (R6 n N O O si hN) ?_
 rw[hM,Nat.mod_eq_of_lt (show M<18446744073709551616 by omega)]
 refine OC O$ qV ((PO O U3 R7 ω))$ qV (z0j O O ω ω) ?_
 rw[oC]
 refine OJ O (Qw S7 O O O AL ξ) ?_
 rintro w2 ⟨Jf,am⟩
 have ak:=am.On ah (Ne.symm d1)
 have Hh:=am.On Je d3
 refine Oq$ Oz O$ qV ((OB UU O O Hh O))$ Pb O$ OL UC O$ qV ((OB U3 O O ak O))$ OC O$ PL O$ Pb O$ OL UC O$ OJ O (Qw PH O O O ak ξ) ?_
 rintro w3 ⟨ao,ar⟩
 rw[show((a:Int)+(n:Int))=((a+n:Nat):Int) by omega] at ao
 refine Oq$ PQ func204 O ?_
 exact⟨_,rfl,rfl,⟨ao,hl,hs⟩,ar.On Jf d1,ar.On Hh d2,(hg.kp.trans (am.OA (λk e=> .inl e))).trans (ar.OA (λk e=> .inr e))⟩
def Vk (h:Tx w r s a)(n:Nat)(hn:n<=64):
  P9 prog 173 [ptr r 0,I (n:Int)] w λv w'=>(a+n<=8*s.length/\v= .tuple #[ON (Pp (((OU s).drop a).take n)),I 0]/\Tx w' r s (a+n)/\Kp (λk=>k=r) w w')\/(8*s.length<a+n/\v= .tuple #[ON 0,I 4]/\Ext w w'):=by
 have gV:=h.1.lt
 obtain⟨-,ha,hs⟩:=id h
 refine py (e:=[(0,_),(1,_)]) func173 O ntmps173 O O$ qN O$ Oy O O (R9 O (cs:=[ptr r 0]) O) ?_
 rintro _ w1 ⟨b2,rfl,bP,ad,ak⟩
 have h1:Tx w1 r s a:=⟨ad.On h.1,h.2⟩
 refine Qd O$ Qt$ qN O$ qV (OB UU O O ak O)$ qV (PU UU O O)$ OK O$ Ox O$ P7 O$ Qv O$ OC O$ Sc (λc1=>?_)$ λc1=>?_
 ·omega
 ·refine OC O$ Qr O$ PC O$ OK O$ OH O (λc2=>?_)$ λc2=>?_
  ·omega
  ·refine P7 O$ qV (OB UU O O ak O)$ OQ zhG O (z7R h1) ?_;rintro _ w2 ⟨rfl,ae⟩;refine Qr O$ OK O$ OH O (λc3=>?_)$ λc3=>?_
   ·refine qN O$ Qd O$ Oo func173 O ?_;exact⟨_,rfl,.inr ⟨ω,rfl,ad.trans ae⟩⟩
   ·refine Ot$ Om$ qN O$ Oy O O (Rq (cs:=[_]) S7 O) ?_;rintro _ w3 ⟨b6,rfl,oD,aj,aT⟩;replace aT:OE w3 b6 [ON 0] 39:=aT;have aU:=ae.trans aj;have cg:=ad.trans aU;have mG:=ad.size;have mK:=ae.size;have iV:=ak.lt;have cq:a+n<=8*s.length:=by omega
    refine qM O$ qV (ymf (first:=[]) (caps:=[.tmp 2,.tmp 6]) O O)$ OK O$ Qt$ Rw (α:=Nat) (n) (λk=>[(1,I (k:Int)),(2,ptr b2 0),(6,ptr b6 0),(7,.func (.func 204) #[] #[ptr b2 0,ptr b6 0])]) (λk w'=>k<=n/\Tx w' r s (a+(n-k))/\OE w' b6 [ON (Pp (((OU s).drop a).take (n-k)))] 39/\OE w' b2 [ptr r 0] 289/\Kp (λi=>i=r) w w') (λk=>k) ?hI ?hround
    case hI=>exact⟨Nat.le_refl _,⟨by rw[Nat.sub_self];exact cg.On h.1,ω,hs⟩,by rw[Nat.sub_self];exact aT,aU.On ak,cg.kp⟩
    case hround=>
     rintro k w4 ⟨hk,dW,sj,Hi,aq⟩ ih;have Hj:=dW.1
     try dsimp only
     refine Pz O$ Qr O$ Oq$ OH O (λaN=>?_)$ λaN=>?_
     ·obtain⟨p,hp⟩:∃p,a+(n-k)=p:=⟨_,rfl⟩;rw[hp] at Hj dW;have jG:p&&&7=p%8:=Nat.and_two_pow_sub_one_eq_mod p 3;obtain⟨take,mH⟩:∃take,min k (8-p%8)=take:=⟨_,rfl⟩;have sg:1<=take/\take<=k/\take<=8-p%8:=by omega
      refine Ot (Ou (P7 O (qV ((OB UU O O Hi O)) (Pb O (OL UC O (qV ((OB U3 O O Hj O)) (qV (Xf O O ω ω) ?_)))))));rw[jG];refine Ra O$ qV (ymi O O) ?_;rw[show min (k:Int) (8-((p%8:Nat):Int))=((take:Nat):Int) by omega];obtain⟨V,hV⟩:∃V,Pp (((OU s).drop a).take (n-k))=V:=⟨_,rfl⟩;rw[hV] at sj
      have Jg:V*2^take+2^take<=18446744073709551616:=by
       have h1:=QU (((OU s).drop a).take (n-k));rw[hV,List.length_take,List.length_drop,bitsT_length,Nat.min_eq_left ω] at h1;have h2:(V+1)*2^take<=2^(n-k)*2^take:=Nat.mul_le_mul_right _ h1;rw[<-Nat.pow_add,Nat.add_mul,Nat.one_mul] at h2;have h3:=Nat.pow_le_pow_right (show 0<2 by decide) (show n-k+take<=64 by omega);have h4:(2:Nat)^64=18446744073709551616:=by decide
       omega
      refine QL O (OX O (Qy O O (RY zgo O O) (z6l dW Hi sj sg.1 sg.2.2 ω Jg ω ω ω) ?_));rintro _ w5 ⟨rfl,gW,Jh,Ji,ai⟩;refine Oq$ Oz O$ OX O$ Ra O$ OK O$ Om ?_;rw[show((k:Int)-(take:Int))=((k-take:Nat):Int) by omega];refine(ih (k-take) w5 ⟨ω,?_,?_,Ji,?_⟩ ω).qb
      ·rw[show a+(n-(k-take))=p+take by omega];exact gW
      ·rw[show n-(k-take)=(n-k)+take by omega,List.take_add,RE,hV,List.drop_drop,hp];have hl:(((OU s).drop p).take take).length=take:=by rw[List.length_take,List.length_drop,bitsT_length];omega
       rw[hl];exact Jh
      ·exact aq.It ai (λi hi=>hi.elim (λe=> .inl ω) .inr)
     ·have:k=0:=by omega
      subst this;rw[Nat.sub_zero] at dW sj;refine OD O$ qN O$ qV (OB R7 O O sj O)$ Qd O$ Oo func173 O ?_;exact⟨_,rfl,.inl ⟨cq,rfl,dW,aq⟩⟩
end
def PD (v:Nat):Nat:=if v=0 then 0 else Nat.log2 v+1
def WA {v:Nat}:v<2^PD v:=by
 unfold PD
 split
 ·subst_vars;simp
 ·exact Nat.lt_log2_self
def z0c {v:Nat}(h:v≠0):2^(PD v-1)<=v:=by
 unfold PD
 rw[if_neg h,Nat.add_sub_cancel]
 exact Nat.log2_self_le h
theorem z6Q {v n:Nat}(h1:2^n<=v)(h2:v<2^(n+1)):PD v=n+1:=by
 have hp:=Nat.two_pow_pos n
 have h0:v≠0:=by omega
 unfold PD
 rw[if_neg h0]
 have:=(Nat.log2_eq_iff h0).2 ⟨h1,h2⟩
 omega
def QW {v n:Nat}(h:v<2^n):PD v<=n:=by
 by_cases h0:v=0
 ·subst h0;simp[PD]
 ·have h1:=z0c h0;have h2:2^(PD v-1)<2^n:=by omega
  have h3:=(Nat.pow_lt_pow_iff_right (by decide:1<2)).1 h2;have:PD v≠0:=by unfold PD;rw[if_neg h0];omega
  omega
def Rp (v K:Nat):Nat×Nat:=
 let s:=PD (K-1)
 let m:=2^s-K
 if v<m then(v,s-1) else(v+m,s)
def Qq (v K:Nat):List Bool:=OZ (Rp v K).2 (Rp v K).1
def UI {K:Nat}(hK:1<=K):K<=2^PD (K-1)/\(1<K->1<=PD (K-1)/\2^(PD (K-1)-1)+1<=K):=by
 have h1:=WA (v:=K-1)
 refine⟨ω,λh=>?_⟩
 have h2:=z0c (v:=K-1) ω
 refine⟨?_,ω⟩
 unfold PD
 rw[if_neg ω];omega
def z7Q {v K:Nat}(h:v<K):(Rp v K).1<2^(Rp v K).2:=by
 obtain⟨h1,h2⟩:=UI (K:=K) ω
 unfold Rp
 dsimp only
 split
 ·rename_i hm
  by_cases hK:K=1
  ·subst hK;simp[PD] at hm
  ·obtain⟨h3,h4⟩:=h2 ω;have:2^PD (K-1)=2*2^(PD (K-1)-1):=by rw[<-Nat.pow_succ',show(PD (K-1)-1).succ=PD (K-1) by omega]
   dsimp only;omega
 ·dsimp only;omega
def z5Q {v K:Nat}(h:v<K)(hK:1<K)(rest:List Bool):
  let s:=PD (K-1)
  let m:=2^s-K
  1<=s/\s-1<=(Qq v K).length/\
  ((Pp ((Qq v K).take (s-1))<m/\(Qq v K).length=s-1/\Pp ((Qq v K).take (s-1))=v)\/
   (m<=Pp ((Qq v K).take (s-1))/\(Qq v K).length=s/\2*Pp ((Qq v K).take (s-1))+Pp ((Qq v K).drop (s-1))=v+m)):=by
 obtain⟨h1,h2⟩:=UI (K:=K) ω
 obtain⟨h3,h4⟩:=h2 hK
 have h5:2^PD (K-1)=2*2^(PD (K-1)-1):=by rw[<-Nat.pow_succ',show(PD (K-1)-1).succ=PD (K-1) by omega]
 dsimp only
 unfold Qq Rp
 dsimp only
 refine⟨h3,?_⟩
 split
 ·rename_i hm
  dsimp only;rw[bitsN_length,List.take_of_length_le ξ,PR,Nat.mod_eq_of_lt ω];exact⟨Nat.le_refl _,.inl ⟨hm,rfl,rfl⟩⟩
 ·rename_i hm
  dsimp only;rw[bitsN_length]
  have e:OZ (PD (K-1)) (v+(2^PD (K-1)-K))=OZ (PD (K-1)-1) ((v+(2^PD (K-1)-K)) / 2^1)++OZ 1 (v+(2^PD (K-1)-K)):=by
   rw[<-RJ,show PD (K-1)-1+1=PD (K-1) by omega]
  rw[e,List.take_left' ξ,List.drop_left' ξ,PR,PR,Nat.mod_eq_of_lt ω];exact⟨ω,.inr ⟨ω,rfl,ω⟩⟩
inductive Cd where
 |unary
 |gamma
 |zeta (k:Nat)
def Cd.zeros:Cd->Nat->Nat
 | .unary,v=>v
 | .gamma,v=>Nat.log2 (v+1)
 | .zeta k,v=>Nat.log2 (v+1) / k
def Cd.rest:Cd->Nat->List Bool
 | .unary,_=>[]
 | .gamma,v=>OZ (Nat.log2 (v+1)) (v+1-2^Nat.log2 (v+1))
 | .zeta k,v=>let h:=Nat.log2 (v+1) / k;Qq (v+1-2^(h*k)) (2^(h*k)*2^k-2^(h*k))
def Cd.enc (c:Cd)(v:Nat):List Bool:=List.replicate (c.zeros v) false++true::c.rest v
def Vt {v:Nat}(h:v<=281474976710654):2^Nat.log2 (v+1)<=v+1/\v+1<2^(Nat.log2 (v+1)+1)/\Nat.log2 (v+1)<=47:=by
 have h1:=Nat.log2_self_le (n:=v+1) ω
 have h2:=Nat.lt_log2_self (n:=v+1)
 refine⟨h1,h2,?_⟩
 have h3:2^Nat.log2 (v+1)<2^48:=by
  have:(2:Nat)^48=281474976710656:=by decide
  omega
 have:=(Nat.pow_lt_pow_iff_right (by decide:1<2)).1 h3
 omega
def XE {k v:Nat}(hk:1<=k):let h:=Nat.log2 (v+1) / k;2^(h*k)<=v+1/\v+1-2^(h*k)<2^(h*k)*2^k-2^(h*k)/\1<=2^(h*k)*2^k-2^(h*k):=by
 dsimp only
 have h1:=Nat.log2_self_le (n:=v+1) ω
 have h2:=Nat.lt_log2_self (n:=v+1)
 have h3:Nat.log2 (v+1) / k*k<=Nat.log2 (v+1):=Nat.div_mul_le_self _ _
 have h4:Nat.log2 (v+1)+1<=Nat.log2 (v+1) / k*k+k:=by
  have:=Nat.div_add_mod (Nat.log2 (v+1)) k;have:=Nat.mod_lt (Nat.log2 (v+1)) (show 0<k by omega);have e:=Nat.mul_comm k (Nat.log2 (v+1) / k);omega
 have h5:2^(Nat.log2 (v+1) / k*k)<=2^Nat.log2 (v+1):=Nat.pow_le_pow_right ψ h3
 have h6:2^(Nat.log2 (v+1)+1)<=2^(Nat.log2 (v+1) / k*k+k):=Nat.pow_le_pow_right ψ h4
 rw[Nat.pow_add 2 (Nat.log2 (v+1) / k*k) k] at h6
 have h7:2<=2^k:=by
  have:=Nat.pow_le_pow_right (show 0<2 by decide) hk
  simpa using this
 have h8:2^(Nat.log2 (v+1) / k*k)*2<=2^(Nat.log2 (v+1) / k*k)*2^k:=Nat.mul_le_mul_left _ h7
 have h9:=Nat.two_pow_pos (Nat.log2 (v+1) / k*k)
 omega
def XC {x k:Nat}(h:2^k<=x):PD x=PD (x / 2^k)+k:=by
 have hk:=Nat.two_pow_pos k
 have hy:x / 2^k≠0:=by have:=Nat.div_pos h hk;omega
 have h1:=z0c hy
 have h2:=WA (v:=x / 2^k)
 have h0:PD (x / 2^k)≠0:=by unfold PD;rw[if_neg hy];omega
 obtain⟨n,hn⟩:∃n,PD (x / 2^k)=n+1:=⟨PD (x / 2^k)-1,ω⟩
 rw[hn] at h1 h2⊢
 rw[Nat.add_sub_cancel] at h1
 have h3:2^(n+k)<=x:=by
  rw[Nat.pow_add];exact Nat.le_trans (Nat.mul_le_mul_right _ h1) (Nat.div_mul_le_self _ _)
 have h4:x<2^(n+k+1):=by
  rw[show n+k+1=(n+1)+k by omega,Nat.pow_add];exact(Nat.div_lt_iff_lt_mul hk).1 h2
 rw[z6Q h3 h4];omega
def zem:Ov:=[0,1,2,2,3,3,3,3,4,4,4,4,4,4,4,4,5,5,5,5,5,5,5,5,5,5,5,5,5,5,5,5,6,6,6,6,6,6,6,6,6,6,6,6,6,6,6,6,6,6,6,6,6,6,6,6,6,6,6,6,6,6,6,6,7,7,7,7,7,7,7,7,7,7,7,7,7,7,7,7,7,7,7,7,7,7,7,7,7,7,7,7,7,7,7,7,7,7,7,7,7,7,7,7,7,7,7,7,7,7,7,7,7,7,7,7,7,7,7,7,7,7,7,7,7,7,7,7,8,8,8,8,8,8,8,8,8,8,8,8,8,8,8,8,8,8,8,8,8,8,8,8,8,8,8,8,8,8,8,8,8,8,8,8,8,8,8,8,8,8,8,8,8,8,8,8,8,8,8,8,8,8,8,8,8,8,8,8,8,8,8,8,8,8,8,8,8,8,8,8,8,8,8,8,8,8,8,8,8,8,8,8,8,8,8,8,8,8,8,8,8,8,8,8,8,8,8,8,8,8,8,8,8,8,8,8,8,8,8,8,8,8,8,8,8,8,8,8,8,8,8,8,8,8,8,8]
theorem zai:zem.length=256:=by decide+kernel
def zj2:∀x:Fin 256,(zem.getD x.val 0).toNat=PD x.val:=by decide+kernel
section
variable {w:World}
def TZ (x:Nat)(hx:x<18446744073709551616)(w:World):P9 prog 169 [ON x] w λv w'=>v=I (PD x:Int)/\w'=w:=by
 refine py (e:=[(0,_)]) func169 O ntmps169 O O$ QB O$ Pz O$ TE O$ Oq$ Pw (λe' w'=>w=w'/\∃x1 n1:Nat,e'=[(0,ON x1),(2,I (n1:Int))]/\PD x=PD x1+n1/\x1<4294967296/\n1<=32) ?bD$ λbD=>?de
 case bD=>
  rintro e' w' ⟨rfl,x1,n1,rfl,h1,h2,h3⟩;refine Pz O$ TE O$ Oq$ Pw (λe' w'=>w=w'/\∃x2 n2:Nat,e'=[(0,ON x2),(2,I (n2:Int))]/\PD x=PD x2+n2/\x2<65536/\n2<=48) ?cS$ λcS=>?fQ
  case cS=>
   rintro e' w' ⟨rfl,x2,n2,rfl,h4,h5,h6⟩;refine Pz O$ TE O$ Oq$ Pw (λe' w'=>w=w'/\∃x3 n3:Nat,e'=[(0,ON x3),(2,I (n3:Int))]/\PD x=PD x3+n3/\x3<256/\n3<=56) ?au$ λau=>?dX
   case au=>
    rintro e' w' ⟨rfl,x3,n3,rfl,h7,h8,h9⟩;have i6:=zj2 ⟨x3,h8⟩;dsimp only at i6;have oE:PD x3<=8:=QW ω;refine Qh O$ qV (zcG O R7 U5) ?_;rw[Nat.mod_eq_of_lt h8];refine qV (zgH (l:=zem) U9 O O (by rw[zai];exact h8)) ?_;rw[i6];refine qV ((Ps O U5 U3 ω))$ PL O$ OK O$ Oo func169 O ?_;exact⟨_,rfl,by simp only[PS];congr 1;omega,rfl⟩
   case dX=>
    refine OH O (λhc=>?_)$ λhc=>?_
    ·refine P7 O$ qV (Uk 8 256 O O ψ O)$ OK O$ R0 O$ PL O$ OK O ((au _ _ ⟨rfl,x2 / 256,n2+8,rfl,?_,?_,?_⟩).qb)
     ·have e1:=XC (x:=x2) (k:=8) ω;rw[show x2 / 2^8=x2 / 256 from rfl] at e1;omega
     ·omega
     ·omega
    ·refine Ot ?_;exact(au _ _ ⟨rfl,x2,n2,rfl,h4,ω,ω⟩).qb
  case fQ=>
   refine OH O (λhc=>?_)$ λhc=>?_
   ·refine P7 O$ qV (Uk 16 65536 O O ψ O)$ OK O$ R0 O$ PL O$ OK O ((cS _ _ ⟨rfl,x1 / 65536,n1+16,rfl,?_,?_,?_⟩).qb)
    ·have e1:=XC (x:=x1) (k:=16) ω;rw[show x1 / 2^16=x1 / 65536 from rfl] at e1;omega
    ·omega
    ·omega
   ·refine Ot ?_;exact(cS _ _ ⟨rfl,x1,n1,rfl,h1,ω,ω⟩).qb
 case de=>
  refine OH O (λhc=>?_)$ λhc=>?_
  ·refine P7 O$ qV (Uk 32 4294967296 O O ψ O)$ OK O$ Oz O$ OK O ((bD _ _ ⟨rfl,x / 4294967296,32,rfl,?_,?_,?_⟩).qb)
   ·exact XC (x:=x) (k:=32) ω
   ·omega
   ·omega
  ·refine Ot ?_;exact(bD _ _ ⟨rfl,x,0,rfl,ω,ω,ω⟩).qb
/-! ### Codes -/
def S6:Cd->List Value
 | .unary=>[.int .u8 0,ON 0]
 | .gamma=>[.int .u8 1,ON 0]
 | .zeta k=>[.int .u8 3,ON k]
abbrev cdV (c:Cd):Value:= .agg (S6 c).toArray
def Cd.Qj:Cd->Prop
 | .zeta k=>1<=k/\k<=16
 |_=>True
def Cd.most:Cd->Nat
 | .unary=>65535
 |_=>281474976710654
def Cd.p0:Cd->Nat->Nat×Nat
 | .unary,_=>(0,0)
 | .gamma,v=>(v+1-2^Nat.log2 (v+1),Nat.log2 (v+1))
 | .zeta k,v=>let h:=Nat.log2 (v+1) / k;Rp (v+1-2^(h*k)) (2^(h*k)*2^k-2^(h*k))
def Ua (c:Cd)(hc:c.Qj)(w:World):P9 prog 236 [cdV c] w λv w'=>v=I 0/\Ext w w':=by
 cases c with
 | unary =>
   refine py (e:=[(0,_)]) func236 O ntmps236 O O$ qN O$ Oy O O (R9 O (cs:=[.int .u8 0,ON 0]) O) ?_;rintro _ w1 ⟨b1,rfl,bK,ad,ah⟩;refine QL O$ OK O$ An$ qN O$ OL RX O$ qV (OB U5 O O ah O)$ Oq$ Ou$ An$ qN O$ QS O$ Rf$ OK O$ OI O ?_;refine Ot$ OI O$ Oz O$ OL WD O$ qV (OB R7 O O ah O)$ QS O$ Rf$ OK O$ Om$ Pz O$ qV ((S1 O))$ PX O$ QB O$ Oo func236 O ?_
   exact⟨_,rfl,rfl,ad⟩
 | gamma =>
   refine py (e:=[(0,_)]) func236 O ntmps236 O O$ qN O$ Oy O O (R9 O (cs:=[.int .u8 1,ON 0]) O) ?_;rintro _ w1 ⟨b1,rfl,bK,ad,ah⟩;refine QL O$ OK O$ An$ qN O$ OL RX O$ qV (OB U5 O O ah O)$ Oq$ Ou$ An$ qN O$ QS O$ Pu$ OK O$ Ox O ?_;refine qN O$ QS O$ Rf$ OK O$ OI O$ Ot$ OI O$ Oz O$ OL WD O$ qV (OB R7 O O ah O)$ QS O$ Rf$ OK O$ Om ?_;refine Pz O$ qV ((S1 O))$ PX O$ QB O$ Oo func236 O ?_
   exact⟨_,rfl,rfl,ad⟩
 | zeta k =>
   obtain⟨aG,am⟩:1<=k/\k<=16:=hc;refine py (e:=[(0,_)]) func236 O ntmps236 O O$ qN O$ Oy O O (R9 O (cs:=[.int .u8 3,ON k]) O) ?_;rintro _ w1 ⟨b1,rfl,bK,ad,ah⟩;refine QL O$ OK O$ An$ qN O$ OL RX O$ qV (OB U5 O O ah O)$ Oq$ Ou$ An$ qN O$ QS O$ Pu$ OK O$ Ox O ?_;refine qN O$ QS O$ Pu$ OK O$ Ox O$ Oz O$ QS O$ Pu$ OK O$ Ox O$ qN O$ QS O$ Rf$ OK O ?_;refine OI O$ Oz O$ OL WD O$ qV (OB R7 O O ah O)$ TE O$ Rf$ OC O$ OL WD O$ qV (OB R7 O O ah O)$ zle O$ Rf$ QQ O$ OK O$ Om ?_;refine Pz O$ qV ((S1 O))$ PX O$ QB O$ Oo func236 O ?_;exact⟨_,rfl,rfl,ad⟩
def z1R (c:Cd)(hc:c.Qj)(w:World):P9 prog 237 [cdV c] w λv w'=>v=ON c.most/\Ext w w':=by
 cases c with
 | unary =>
   refine py (e:=[(0,_)]) func237 O ntmps237 O O$ qN O$ Oy O O (R9 O (cs:=[.int .u8 0,ON 0]) O) ?_;rintro _ w1 ⟨b1,rfl,bK,ad,ah⟩;refine OK O$ Qt$ qN O$ qV (Pa (news:=[.int .u8 0,ON 0]) Sg O Qx O (ah.cells (n:=2) O) O)$ OQ z3W O (Ua (.unary) hc w1) ?_;rintro _ w2 ⟨rfl,ae⟩;have ak:=ae.On ah;refine Ql O$ Pu$ OK O$ Ox O$ qN O$ OL RX O$ qV (OB U5 O O ak O)$ QS O$ Rf$ OK O$ OI O$ QB O$ Oo func237 O ?_
   exact⟨_,rfl,rfl,ad.trans ae⟩
 | gamma =>
   refine py (e:=[(0,_)]) func237 O ntmps237 O O$ qN O$ Oy O O (R9 O (cs:=[.int .u8 1,ON 0]) O) ?_;rintro _ w1 ⟨b1,rfl,bK,ad,ah⟩;refine OK O$ Qt$ qN O$ qV (Pa (news:=[.int .u8 1,ON 0]) Sg O Qx O (ah.cells (n:=2) O) O)$ OQ z3W O (Ua (.gamma) hc w1) ?_;rintro _ w2 ⟨rfl,ae⟩;have ak:=ae.On ah;refine Ql O$ Pu$ OK O$ Ox O$ qN O$ OL RX O$ qV (OB U5 O O ak O)$ QS O$ Pu$ OK O$ Ox O$ qN O$ OL RX O$ qV (OB U5 O O ak O) ?_;refine QS O$ Pu$ OK O$ T2 O$ Om$ QB O$ Oo func237 O ?_
   exact⟨_,rfl,rfl,ad.trans ae⟩
 | zeta k =>
   refine py (e:=[(0,_)]) func237 O ntmps237 O O$ qN O$ Oy O O (R9 O (cs:=[.int .u8 3,ON k]) O) ?_;rintro _ w1 ⟨b1,rfl,bK,ad,ah⟩;refine OK O$ Qt$ qN O$ qV (Pa (news:=[.int .u8 3,ON k]) Sg O Qx O (ah.cells (n:=2) O) O)$ OQ z3W O (Ua (.zeta k) hc w1) ?_;rintro _ w2 ⟨rfl,ae⟩;have ak:=ae.On ah;refine Ql O$ Pu$ OK O$ Ox O$ qN O$ OL RX O$ qV (OB U5 O O ak O)$ QS O$ Pu$ OK O$ Ox O$ qN O$ OL RX O$ qV (OB U5 O O ak O) ?_;refine QS O$ Pu$ OK O$ T2 O$ Om$ QB O$ Oo func237 O ?_;exact⟨_,rfl,rfl,ad.trans ae⟩
def z9T (c:Cd)(v:Nat)(hc:c.Qj)(hv:v<=c.most)(w:World):P9 prog 225 [cdV c,ON v] w λu w'=>u= .bool true/\Ext w w':=by
 obtain⟨x,y,dz⟩:∃x y,S6 c=[x,y]:=by cases c<;>exact⟨_,_,rfl⟩
 refine py (e:=[(0,_),(1,_)]) func225 O ntmps225 O O$ qN O$ Oy O O (R9 O (cs:=S6 c) O) ?_
 rintro _ w1 ⟨b1,rfl,bK,ad,ah⟩
 refine QL O$ qV (Pa (news:=S6 c) Sg O Qx O (ah.cells (n:=2) (by rw[dz];rfl)) (by rw[dz];rfl)) ?_
 refine OQ z3W O (Ua c hc w1) ?_
 rintro _ w2 ⟨rfl,ae⟩
 have ak:=ae.On ah
 refine QS O$ Rf$ OX O$ qV (Pa (news:=S6 c) Sg O Qx O (ak.cells (n:=2) (by rw[dz];rfl)) (by rw[dz];rfl)) ?_
 refine OQ zd8 O (z1R c hc w2) ?_
 rintro _ w3 ⟨rfl,aj⟩
 refine zle O$ Rf$ QQ O$ OK O$ Oo func225 O ?_
 exact⟨_,rfl,rfl,(ad.trans ae).trans aj⟩
end
section
def z5k (v K:Nat)(hK:1<=K)(hv:v<K)(sk:K<=9223372036854775808)(w:World):P9 prog 238 [ON v,ON K] w λu w'=>u= .agg #[ON (Rp v K).1,I ((Rp v K).2:Int)]/\Ext w w':=by
 obtain⟨s,hs⟩:∃s,PD (K-1)=s:=⟨_,rfl⟩
 have hf:=UI hK
 rw[hs] at hf
 obtain⟨h1,h2⟩:=hf
 have e63:(2:Nat)^63=9223372036854775808:=by decide
 have BI:s<=63:=by rw[<-hs];exact QW ω
 obtain⟨Q,hQ⟩:∃Q,2^s=Q:=⟨_,rfl⟩
 have BJ:Q<=9223372036854775808:=by
  have:=Nat.pow_le_pow_right (show 0<2 by decide) BI;omega
 rw[hQ] at h1
 have hP:Rp v K=if v<Q-K then(v,s-1) else(v+(Q-K),s):=by unfold Rp;rw[hs];dsimp only;rw[hQ]
 refine py (e:=[(0,_),(1,_)]) func238 O ntmps238 O O$ qN O$ Oy O O (Rq (cs:=[_,_]) SE O) ?_
 rintro _ w1 ⟨b4,rfl,gF,ad,aH⟩
 refine qM O$ OC O$ qV (Wh (n:=1) O O O (by show K<2^64;omega) hK) ?_
 refine OQ z1J O (TZ (K-1) ω w1) ?_
 rintro _ w1 ⟨rfl,rfl⟩
 rw[hs]
 refine OK O$ Pz O$ qV (R6 s Q O O ω hQ) ?_
 rw[show 1*Q%18446744073709551616=Q by omega]
 refine OC O$ qV (Wh O O O (by show Q<2^64;omega) h1) ?_
 refine QL O$ OX O$ TE O$ Oq$ OH O (λlw=>?_)$ λlw=>?_
 ·rw[if_neg ω] at hP;rw[hP];refine Qh O$ qV (UL O O) ?_;rw[Nat.mod_eq_of_lt (show v+(Q-K)<18446744073709551616 by omega)];refine OC O (qV (Sa (cs:=[_,_]) SE O zan O O) (OJ O (Py (news:=[ON (v+(Q-K)),I (s:Int)]) SE O O O O aH ξ) ?_));rintro w2 ⟨ak,am⟩;replace ak:OE w2 b4 [ON (v+(Q-K)),I (s:Int)] 351:=ak;refine Oq$ P6 func238 (.cell zaT O SE O (OE.cells (n:=2) ak (news:=[_,_]) O) O .nil) ?_;exact⟨_,rfl,rfl,ad.It am (λi hi=>by omega)⟩
 ·rw[if_pos ω] at hP;rw[hP]
  have AM:K≠1:=λe=>by
   have e0:s=0:=by rw[<-hs,e];rfl
   have e1:Q=1:=by rw[<-hQ,e0]
   omega
  have dN:1<=s:=(h2 ω).1;refine Ot$ Qh O$ Ra O ?_;rw[show((s:Int)-1)=((s-1:Nat):Int) by omega];refine qV (Sa (cs:=[_,_]) SE O zan O O) (OJ O (Py (news:=[ON v,I ((s-1:Nat):Int)]) SE O O O O aH ξ) ?_);rintro w2 ⟨ak,am⟩;replace ak:OE w2 b4 [ON v,I ((s-1:Nat):Int)] 351:=ak;refine Oq$ P6 func238 (.cell zaT O SE O (OE.cells (n:=2) ak (news:=[_,_]) O) O .nil) ?_;exact⟨_,rfl,rfl,ad.It am (λi hi=>by omega)⟩
def z99 (n:Nat)(h:n≠0):PD n-1=Nat.log2 n/\1<=PD n:=by
 unfold PD;rw[if_neg h];exact⟨rfl,ω⟩
def z1c (c:Cd)(v:Nat)(hc:c.Qj)(hv:v<=281474976710654)(w:World):P9 prog 226 [cdV c,ON v] w λu w'=>u= .tuple #[I (c.zeros v:Int),.agg #[ON (c.p0 v).1,I ((c.p0 v).2:Int),ON 0,I 0]]/\Ext w w':=by
 obtain⟨l1,l2⟩:=z99 (v+1) ω
 obtain⟨g1,g2,g3⟩:=Vt hv
 obtain⟨b,hb⟩:∃b,Nat.log2 (v+1)=b:=⟨_,rfl⟩
 rw[hb] at l1 g1 g2 g3
 obtain⟨Q,hQ⟩:∃Q,2^b=Q:=⟨_,rfl⟩
 rw[hQ] at g1
 have BK:Q<=281474976710656:=by omega
 obtain⟨x,y,dz⟩:∃x y,S6 c=[x,y]:=by cases c<;>exact⟨_,_,rfl⟩
 refine py (e:=[(0,_),(1,_)]) func226 O ntmps226 O O$ qN O$ Oy O O (R9 O (cs:=S6 c) O) ?_
 rintro _ w1 ⟨b2,rfl,bP,ad,ak⟩
 refine Si O$ Oy O O (Rq (cs:=[_,_,_,_]) Ur O) ?_
 rintro _ w2 ⟨b5,rfl,fR,ae,aD⟩
 replace aD:OE w2 b5 [ON 0,I 0,ON 0,I 0] 352:=aD
 refine qM O$ OC O$ qV (UL O O) ?_
 rw[show(v+1)%18446744073709551616=v+1 by omega]
 refine QO O$ OQ z1J O (TZ (v+1) ω w2) ?_
 rintro _ w2 ⟨rfl,rfl⟩
 refine Ra O ?_
 rw[show((PD (v+1):Int)-1)=((b:Nat):Int) by omega]
 refine QL O$ OX O$ qV (R6 b Q O O ω hQ) ?_
 rw[show 1*Q%18446744073709551616=Q by omega]
 refine qV (Wh O O O (by show v+1<2^64;omega) g1) ?_
 refine OC O$ qV (Sa (cs:=[_,_]) SE O zan O O)$ Oy O O (Rq (cs:=[_,_]) SE O) ?_
 rintro _ w3 ⟨b8,rfl,iW,aj,bY⟩
 refine OJ O (Py (news:=[ON (v+1-Q),I (b:Int)]) SE O O O O bY ξ) ?_
 rintro w4 ⟨sq,aq⟩
 replace sq:OE w4 b8 [ON (v+1-Q),I (b:Int)] 351:=sq
 have z1:=ad.size
 have z2:=ae.size
 have z3:=aj.size
 have l2':=ak.lt
 have l5':=aD.lt
 have eu:=aq.On (aj.On (ae.On ak)) ω
 have ev:=aq.On (aj.On aD) ω
 have bQ:Ext w w4:=((ad.trans ae).trans aj).It aq (λi hi=>by omega)
 cases c with
 | unary =>
   replace eu:OE w4 b2 [.int .u8 0,ON 0] 314:=eu;have hg:=Ext.OT w4;refine Oq (An (qN O (OL RX O (qV (OB U5 O O eu O) (Oq (Ou (qN O (QS O (Rf (OK O (OI O (An (OW [4] (λw'=>Ext w4 w') (by kernel_rfl) O ?_)))))))))))));refine PF 0 O O (hg) (P5 1 O (Ps O R7 U3 ω) hg (P5 3 O (Rr O) hg (qL 2 O (λ_ h=>Pa (news:=[ON 0,I 0,ON 0,I 0]) z0N O Ur O ((h.On ev).cells (n:=4) O) O) hg (Th [4] (qO 4 (Pt (i:=4) O O (Py (news:=[ON 0,I 0,ON 0,I 0]) Ur O O O O (hg.On ev) ξ) ?_))))));rintro w5 ⟨aT,ai⟩;refine⟨trivial,?_⟩;replace aT:OE w5 b5 [ON 0,I 0,ON 0,I 0] 352:=aT;refine qE$ P8.qb (e:=[(1,_),(2,_),(4,_),(5,_)]) ?_;refine P6 func226 (.tmp O (.cell z0N O Ur O (OE.cells (n:=4) aT (news:=[_,_,_,_]) O) O .nil)) ?_
   exact⟨_,rfl,rfl,(bQ.trans hg).It ai (λi hi=>by omega)⟩
 | gamma =>
   replace eu:OE w4 b2 [.int .u8 1,ON 0] 314:=eu;have hg:=Ext.OT w4;refine Oq$ An$ qN O$ OL RX O$ qV (OB U5 O O eu O)$ Oq$ Ou$ qN O$ QS O$ Pu$ OK O$ Ox O$ qN O$ QS O ?_;refine Rf$ OK O$ P8.qb (e:=[(1,_),(2,_),(4,_),(5,_),(6,_),(7,_),(8,_),(24,_),(30,_)]) ?_;refine OI O (An (OW [4] (λw'=>Ext w4 w') (by kernel_rfl) O (PF 0 O O (hg) (P5 3 O (Rr O) hg (qL 1 O (λ_ h=>Pa (news:=[ON (v+1-Q),I (b:Int)]) zaT O SE O ((h.On sq).cells (n:=2) O) O) hg (P5 2 O (zih (parts:=[(0,.tmp 33)]) (cs:=[_,_,_,_]) Ur O z0N SE O O) hg (Th [4] (qO 4 (Pt (i:=4) O O (Py (news:=[ON (v+1-Q),I (b:Int),ON 0,I 0]) Ur O O O O (hg.On ev) ξ) ?_)))))))));rintro w5 ⟨aT,ai⟩;refine⟨trivial,?_⟩;replace aT:OE w5 b5 [ON (v+1-Q),I (b:Int),ON 0,I 0] 352:=aT;refine qE$ P6 func226 (.tmp O (.cell z0N O Ur O (OE.cells (n:=4) aT (news:=[_,_,_,_]) O) O .nil)) ?_
   exact⟨_,rfl,by simp[PS,Cd.zeros,Cd.p0,hb,hQ],(bQ.trans hg).It ai (λi hi=>by omega)⟩
 | zeta k =>
   obtain⟨aG,am⟩:1<=k/\k<=16:=hc;have f:=XE (k:=k) (v:=v) aG;dsimp only at f;rw[hb] at f;obtain⟨h,hh⟩:∃h,b / k=h:=⟨_,rfl⟩;obtain⟨m,hm⟩:∃m,h*k=m:=⟨_,rfl⟩;have Jj:m<=b:=by rw[<-hm,<-hh];exact Nat.div_mul_le_self _ _
   rw[hh,hm] at f;obtain⟨F,hF⟩:∃F,2^m=F:=⟨_,rfl⟩;obtain⟨G,hG⟩:∃G,2^k=G:=⟨_,rfl⟩;rw[hF,hG] at f;obtain⟨f1,f2,f3⟩:=f;obtain⟨E,hE⟩:∃E,F*G=E:=⟨_,rfl⟩
   have BL:E<=9223372036854775808:=by
    rw[<-hE,<-hF,<-hG,<-Nat.pow_add];have:=Nat.pow_le_pow_right (show 0<2 by decide) (show m+k<=63 by omega);have e63:(2:Nat)^63=9223372036854775808:=by decide
    omega
   rw[hE] at f2 f3;have BM:(Cd.zeta k).zeros v=h:=by show Nat.log2 (v+1) / k=h;rw[hb,hh]
   have BN:(Cd.zeta k).p0 v=Rp (v+1-F) (E-F):=by
    show Rp (v+1-2^(Nat.log2 (v+1) / k*k)) (2^(Nat.log2 (v+1) / k*k)*2^k-2^(Nat.log2 (v+1) / k*k))=_;rw[hb,hh,hm,hF,hG,hE]
   rw[BM,BN];have qH:(h:Int)*(k:Int)=(m:Int):=by rw[<-hm];simp
   have fK:(b:Int) / (k:Int)=(h:Int):=by rw[<-hh];simp
   replace eu:OE w4 b2 [.int .u8 3,ON k] 314:=eu;refine Oq$ An$ qN O$ OL RX O$ qV (OB U5 O O eu O)$ Oq$ Ou$ qN O$ QS O$ Pu$ OK O$ Ox O$ qN O$ QS O ?_;refine Pu$ OK O$ P8.qb (e:=[(1,_),(2,_),(4,_),(5,_),(6,_),(7,_),(8,_),(24,_),(30,_)]) ?_;refine Ox O$ qN O$ QS O$ Pu$ OK O$ Ox O$ qN O$ QS O$ Rf$ OK O$ OI O$ qN O$ OL WD O$ qV (OB R7 O O eu O) ?_;refine qV (Ps O R7 U3 ω) (QL O (OX O (qV (Wq O O ω) ?_)));rw[fK];refine QL O (OX O (qV (X5 O O (by rw[qH];omega)) ?_));rw[qH];refine qV (R6 m F O O ω hF) ?_;rw[show 1*F%18446744073709551616=F by omega];refine OK O$ P8.qb (e:=[(1,_),(2,_),(4,_),(5,_),(6,_),(9,_),(10,_),(11,_)]) ?_;refine Qh O (OC O (qV (Wh O O O (by show v+1<2^64;omega) f1) ?_));refine OX O (qV (R6 k G O O ω hG) ?_);rw[hE,Nat.mod_eq_of_lt (show E<18446744073709551616 by omega)];refine OC O (qV (Wh O O O (by show E<2^64;omega) ω) ?_);refine OQ zga O (z5k (v+1-F) (E-F) f3 f2 ω w4) ?_;rintro _ w5 ⟨rfl,aR⟩;refine qV (zih (parts:=[(0,.tmp 69)]) (cs:=[_,_,_,_]) Ur O z0N SE O O)$ Si O ?_;have wo:=aR.On ev;refine OJ O (Py (news:=[ON (Rp (v+1-F) (E-F)).1,I ((Rp (v+1-F) (E-F)).2:Int),ON 0,I 0]) Ur O O O O wo ξ) ?_;rintro w6 ⟨aT,aJ⟩;replace aT:OE w6 b5 [ON (Rp (v+1-F) (E-F)).1,I ((Rp (v+1-F) (E-F)).2:Int),ON 0,I 0] 352:=aT;refine Oq$ P6 func226 (.tmp O (.cell z0N O Ur O (OE.cells (n:=4) aT (news:=[_,_,_,_]) O) O .nil)) ?_;exact⟨_,rfl,rfl,(bQ.trans aR).It aJ (λi hi=>by omega)⟩
end
def hiB (w:Nat):Nat->Nat->List Nat->List Bool
 |_,_,[]=>[]
 |len,i,v::r=>List.replicate (v / 2^w+i-len) false++true::hiB w (v / 2^w+i+1) (i+1) r
abbrev Nof (l:List Nat):Prop:=l.Pairwise (·<=·)
def Rn:List Bool->Nat->Option Nat
 |[],_=>none
 |true::l,0=>some 0
 |true::l,k+1=>(Rn l k).map (·+1)
 |false::l,k=>(Rn l k).map (·+1)
theorem Uf:∀(z:Nat) (l:List Bool) (k:Nat),Rn (List.replicate z false++l) k=(Rn l k).map (·+z)
 |0,l,k=>by simp
 | z + 1, l, k => by
   rw[List.replicate_succ,List.cons_append,Rn,Uf z l k,Option.map_map]
   congr 1
theorem z1b (w:Nat):∀(l:List Nat) (len i k:Nat) (v:Nat),Nof l->l[k]? =some v->(∀x,l.head? =some x->len<=x / 2^w+i)->Rn (hiB w len i l) k=some (v / 2^w+i+k-len)
 |[],len,i,k,v,_,h,_=>by simp at h
 | x :: r, len, i, 0, v, _, h, hl => by
   simp at h;subst h;have:=hl x O;rw[hiB,Uf,Rn]
   simp
 | x :: r, len, i, k + 1, v, hn, h, hl => by
   rw[List.getElem?_cons_succ] at h;obtain⟨n1,n2⟩:=List.pairwise_cons.1 hn;have hx:=hl x O;have hxv:x<=v:=n1 v (List.mem_of_getElem? h);have hd:=Nat.div_le_div_right (c:=2^w) hxv
   rw[hiB,Uf,Rn,z1b w r _ (i+1) k v n2 h (λy hy=>by
    have hxy:x<=y:=n1 y (by cases r with
     |nil=>simp at hy
     |cons a r=>simp at hy;simp[hy])
    have:=Nat.div_le_div_right (c:=2^w) hxy
    omega)]
   simp;omega
theorem YJ:∀(l:List Bool) (j p m:Nat),Rn l j=some p->Rn (l.drop p) m=(Rn l (j+m)).map (·-p)
 |[],j,p,m,h=>by simp[Rn] at h
 | true :: l, 0, p, m, h => by
   simp[Rn] at h;subst h
   simp
 | true :: l, j + 1, p, m, h => by
   simp only[Rn,Option.map_eq_some_iff] at h;obtain⟨q,hq,rfl⟩:=h;rw[List.drop_succ_cons,YJ l j q m hq,show j+1+m=(j+m)+1 by omega,Rn,Option.map_map]
   congr 1
   funext x;simp
 | false :: l, j, p, m, h => by
   simp only[Rn,Option.map_eq_some_iff] at h;obtain⟨q,hq,rfl⟩:=h;rw[List.drop_succ_cons,YJ l j q m hq,Rn,Option.map_map]
   congr 1
   funext x;simp
theorem W8:∀(a b:List Bool) (k:Nat),Rn (a++b) k=if k<a.count true then Rn a k else(Rn b (k-a.count true)).map (·+a.length)
 |[],b,k=>by simp
 |true::a,b,0=>by simp[Rn]
 | true :: a, b, k + 1 => by
   rw[List.cons_append,Rn,W8 a b k,List.count_cons_self];split
   ·rename_i h
    rw[if_pos ω,Rn]
   ·rename_i h
    rw[if_neg ω,Option.map_map,show k+1-(a.count true+1)=k-a.count true by omega]
    congr 1
 | false :: a, b, k => by
   rw[List.cons_append,Rn,W8 a b k,List.count_cons_of_ne ψ];split
   ·rw[Rn]
   ·rw[Option.map_map]
    congr 1
def z08:∀{l:List Bool} {k p:Nat},Rn l k=some p->p<l.length/\l[p]? =some true
 |true::l,0,p,h=>by simp[Rn] at h;subst h;simp
 | true :: l, k + 1, p, h => by
   simp only[Rn,Option.map_eq_some_iff] at h;obtain⟨q,hq,rfl⟩:=h;have:=z08 hq
   simp;exact this
 | false :: l, k, p, h => by
   simp only[Rn,Option.map_eq_some_iff] at h;obtain⟨q,hq,rfl⟩:=h;have:=z08 hq
   simp;exact this
 |[],k,p,h=>by simp[Rn] at h
def z6L (w:Nat):∀(l:List Nat) (len i:Nat),Nof l->(∀x,l.head? =some x->len<=x / 2^w+i)->∀v,l.getLast? =some v->len+(hiB w len i l).length=v / 2^w+i+l.length
 |[],len,i,_,_,v,h=>by simp at h
 | [x], len, i, _, hl, v, h => by
   simp at h;subst h;have:=hl x O
   simp[hiB];omega
 | x :: y :: r, len, i, hn, hl, v, h => by
   obtain⟨n1,n2⟩:=List.pairwise_cons.1 hn;have hx:=hl x O;have hxy:=Nat.div_le_div_right (c:=2^w) (n1 y ξ);have:=z6L w (y::r) (x / 2^w+i+1) (i+1) n2 (λz hz=>by simp at hz;subst hz;omega) v (by simpa using h);rw[hiB,List.length_append,List.length_replicate,List.length_cons];simp only[List.length_cons] at this⊢;omega
theorem XH (z:Nat)(r:List Bool):Pp (List.replicate z false++true::r)=2^r.length+Pp r:=by
 induction z with
 |zero=>simp[Pp]
 |succ z ih=>rw[List.replicate_succ,List.cons_append,Pp,ih];simp
theorem z3a (c:Cd)(v:Nat):c.rest v=OZ (c.p0 v).2 (c.p0 v).1:=by cases c<;>rfl
theorem Wn (c:Cd)(v:Nat):(c.enc v).length=c.zeros v+1+(c.p0 v).2:=by
 unfold Cd.enc
 rw[List.length_append,List.length_replicate,List.length_cons,z3a,bitsN_length];omega
def Cd.ZW (c:Cd):c.most<=281474976710654:=by cases c<;>simp[Cd.most]
theorem VF:∀n:Nat,OZ n 0=List.replicate n false
 |0=>rfl
 |n+1=>by rw[OZ,VF n,List.replicate_succ];simp
theorem z9g (z:Nat):OZ (z+1) 1=List.replicate z false++[true]:=by
 refine Yu ξ ?_
 rw[PR,XH]
 simp[Pp]
def WR {c:Cd}{v:Nat}(hc:c.Qj)(hv:v<=c.most):c.zeros v<=65535/\(c.p0 v).2<=63/\(c.p0 v).1<2^(c.p0 v).2:=by
 cases c with
 |unary=>exact⟨hv,by simp[Cd.p0],by simp[Cd.p0]⟩
 | gamma =>
   obtain⟨g1,g2,g3⟩:=Vt hv;refine⟨by show Nat.log2 (v+1)<=_;omega,by show Nat.log2 (v+1)<=_;omega,?_⟩;show v+1-2^Nat.log2 (v+1)<2^Nat.log2 (v+1);rw[Nat.pow_succ] at g2
   omega
 | zeta k =>
   obtain⟨aG,am⟩:1<=k/\k<=16:=hc;obtain⟨g1,g2,g3⟩:=Vt hv;have f:=XE (k:=k) (v:=v) aG;dsimp only at f;have hd:Nat.log2 (v+1) / k<=Nat.log2 (v+1):=Nat.div_le_self _ _;have hm:Nat.log2 (v+1) / k*k<=Nat.log2 (v+1):=Nat.div_mul_le_self _ _;refine⟨by show Nat.log2 (v+1) / k<=_;omega,?_,?_⟩
   ·show(Rp _ _).2<=63
    have h1:PD (2^(Nat.log2 (v+1) / k*k)*2^k-2^(Nat.log2 (v+1) / k*k)-1)<=63:=by
     refine QW ?_;have h2:=Nat.pow_le_pow_right (show 0<2 by decide) (show Nat.log2 (v+1) / k*k+k<=63 by omega);rw[Nat.pow_add] at h2;have h3:=f.2.2
     revert h2 h3
     generalize 2^(Nat.log2 (v+1) / k*k)*2^k=E
     generalize 2^(Nat.log2 (v+1) / k*k)=F
     intro h2 h3;omega
    unfold Rp;dsimp only;split<;>dsimp only<;>omega
   ·exact z7Q f.2.1
section
variable {P:Program}{e:Env}{d:Option Nat}{ty t el:TypeId}{pos:String}{aft:Array Edge}{g:Option (Nat×Bool)}{x y:Operand}{w:World}{k:IntKind}{n:Nat}{td:TypeDesc}
def zil {za:Int}[s6:T3 za n]{len size bytes:Nat}{z:Value}{vs:Array Value}(ht:P.underlying t=some (.array len el))(hs:TI P el z size bytes)(hu:P.underlying el=some td)(ha:aggOf td=true)(hx:look e x=some (.agg vs))(hy:look e y=some (.int k za))(hn:n<len):
  Y P e ⟨d,.index t x y,ty,pos,aft,g⟩ (.agg (vs.extract (n*size) (n*size+size))) w w:=fun ρ hρ=>by
 obtain⟨rfl⟩:=s6
 have hs:=hs.size (w:=w)
 simp[execOp,hρ _ _ hx,hρ _ _ hy,Instr.index,asIntOf,run_underlying ht,hn,hs,part,SQ hu,ha]
end
section
def z4W (c:Cd)(v:Nat)(hc:c.Qj)(hv:v<=c.most)(w:World):P9 prog 200 [cdV c,ON v] w λu w'=>u= .tuple #[I ((c.enc v).length:Int),I 0]/\Ext w w':=by
 obtain⟨x,y,dz⟩:∃x y,S6 c=[x,y]:=by cases c<;>exact⟨_,_,rfl⟩
 obtain⟨q1,q2,-⟩:=WR hc hv
 have hl:=Wn c v
 have fg:=c.ZW
 refine py (e:=[(0,_),(1,_)]) func200 O ntmps200 O O$ qN O$ Oy O O (R9 O (cs:=S6 c) O) ?_
 rintro _ w1 ⟨b2,rfl,bP,ad,ak⟩
 refine Qd O$ An$ qN O$ qV (Pa (news:=S6 c) Sg O Qx O (ak.cells (n:=2) (by rw[dz];rfl)) (by rw[dz];rfl)) ?_
 refine OC O$ OQ zix O (z9T c v hc hv w1) ?_
 rintro _ w2 ⟨rfl,ae⟩
 refine qV ((S1 O))$ PX O$ qN O$ qV (Pa (news:=S6 c) Sg O Qx O ((ae.On ak).cells (n:=2) (by rw[dz];rfl)) (by rw[dz];rfl)) ?_
 refine OC O$ OQ zdN O (z1c c v hc ω w2) ?_
 rintro _ w3 ⟨rfl,aj⟩
 refine OC O$ Sw O$ Oy O O (Rq (cs:=[_,_,_,_]) Ur O) ?_
 rintro _ w4 ⟨b7,rfl,kF,aC,bZ⟩
 refine Si O$ OJ O (Py (news:=[ON (c.p0 v).1,I ((c.p0 v).2:Int),ON 0,I 0]) Ur O O O O bZ ξ) ?_
 rintro w5 ⟨ly,ai⟩
 replace ly:OE w5 b7 [ON (c.p0 v).1,I ((c.p0 v).2:Int),ON 0,I 0] 352:=ly
 refine qM O$ OC O$ PL O$ qV (yia z0N SE O O ω)$ OL ZP O$ qV (OB U3 O O ly O)$ PL O$ qV (yia z0N SE O O ω)$ OL ZP O$ qV (OB U3 O O ly O)$ PL O$ Qd O$ P8.qb (e:=[(4,_),(5,_)]) ?_
 refine Oo func200 O ?_
 have z1:=ad.size
 have z2:=ae.size
 have z3:=aj.size
 refine⟨_,rfl,?_,(((ad.trans ae).trans aj).trans aC).It ai (λi hi=>by omega)⟩
 simp only[PS]
 congr 4
 omega
def zak {w:World}{p:Nat}{bs:List Bool}{F:Nat->Prop}(h:Yi w p bs F)(c:Cd)(v:Nat)(hc:c.Qj)(hv:v<=c.most)(hl:bs.length+(c.enc v).length<=134217728):
  P9 prog 201 [ptr p 0,cdV c,ON v] w λu w'=>u=I 0/\WrR p F w w' (bs++c.enc v):=by
 obtain⟨x,y,dz⟩:∃x y,S6 c=[x,y]:=by cases c<;>exact⟨_,_,rfl⟩
 obtain⟨q1,q2,q3⟩:=WR hc hv
 have oA:=Wn c v
 have fg:=c.ZW
 refine py (e:=[(0,_),(1,_),(2,_)]) func201 O ntmps201 O O$ qN O$ Oy O O (R9 O (cs:=S6 c) O) ?_
 rintro _ w1 ⟨b4,rfl,gF,ad,aH⟩
 refine OK O$ Pz O$ qV (PU z2r O O)$ PX O$ qN O$ qV (Pa (news:=S6 c) Sg O Qx O (aH.cells (n:=2) (by rw[dz];rfl)) (by rw[dz];rfl)) ?_
 refine OC O$ OQ zdy O (z4W c v hc hv w1) ?_
 rintro _ w2 ⟨rfl,ae⟩
 refine OC O$ Sw O$ Qd O$ Qt$ P7 O$ Ql O$ OK O$ OH O (λe0=>?_)$ λe0=>?_
 ·exact absurd O e0
 ·refine Qh O$ OQ z2f O (UY ((h.ext ad).ext ae)) ?_; rintro _ w2 ⟨rfl, rfl⟩; refine Ra O (Qr O (OK O (OH O (λe1 => ?_) (λe1 => ?_))))
  ·omega
  ·refine Ot (Om (qN O (qV (Pa (news := S6 c) Sg O Qx O ((ae.On aH).cells (n := 2) (by rw [dz]; rfl)) (by rw [dz]; rfl)) ?_))); refine OC O (OQ zdN O (z1c c v hc ω w2) ?_); rintro _ w3 ⟨rfl, aj⟩; refine OC O (Sw O (Oy O O (Rq (cs := [_, _, _, _]) Ur O) ?_)); rintro _ w4 ⟨b10, rfl, BO, aC, fm⟩; refine Si O (OJ O (Py (news := [ON (c.p0 v).1, I ((c.p0 v).2 : Int), ON 0, I 0]) Ur O O O O fm ξ) ?_); rintro w5 ⟨kG, ai⟩; replace kG : OE w5 b10 [ON (c.p0 v).1, I ((c.p0 v).2 : Int), ON 0, I 0] 352 := kG; have z1 := ad.size; have z2 := ae.size; have z3 := aj.size; have bL : Ext w w5 := (((ad.trans ae).trans aj).trans aC).It ai (λi hi => by omega); have z5 := bL.size; have l10 := kG.lt; have jI : ∀ i, F i -> i < w.heap.size := λi hi => h.lt hi
   have Hk:∀(F':Nat->Prop),(∀k,F' k->F k\/w5.heap.size<=k)->¬F' b10:=λF' hf e=>by
    rcases hf b10 e with e| e
    ·have:=jI b10 e;omega
    ·omega
   refine Oq$ P8.qb (e:=[(0,_),(6,_),(9,_),(10,_)]) ?_;refine Qt$ Rw (α:=Nat×(Nat->Prop)×List Bool) ((c.zeros v,F,bs)) (λx=>[(0,ptr p 0),(9,I (x.1:Int)),(10,ptr b10 0)]) (λx w'=>x.1<=c.zeros v/\Yi w' p x.2.2 x.2.1/\x.2.2=bs++List.replicate (c.zeros v-x.1) false/\Kp F w w'/\(∀k,x.2.1 k->F k\/w5.heap.size<=k)/\OE w' b10 [ON (c.p0 v).1,I ((c.p0 v).2:Int),ON 0,I 0] 352/\w5.heap.size<=w'.heap.size) (λx=>x.1) ?hI ?hround
   case hI=>exact⟨Nat.le_refl _,h.ext bL,ξ,bL.kp,λ_ h=> .inl h,kG,Nat.le_refl _⟩
   case hround =>
    rintro⟨z,F1,b1⟩ w6 ⟨hz,lz,bK,aJ,mL,aT,z6⟩ ih;dsimp only at hz lz bK mL;have ft:b1.length=bs.length+(c.zeros v-z):=by rw[bK,List.length_append,List.length_replicate]
    try dsimp only
    refine Pz O$ Qr O$ Oq$ OH O (λaN=>?_)$ λaN=>?_
    ·refine Ot (Qt (R0 O (OQ Wb O (S5 lz 0 63 ψ ψ ω) ?_)));rintro _ w7 ⟨rfl,F7,oF,ax,oG⟩;have bZ:=ax.On aT (Hk F1 mL);have z7:=ax.size;refine Oq$ Om$ R0 O$ Ra O$ OK O ?_;rw[show((z:Int)-63)=((z-63:Nat):Int) by omega];refine(ih (z-63,F7,b1++OZ 63 0) w7 ⟨by dsimp only;omega,oF,?_,?_,?_,bZ,ω⟩ (by dsimp only;omega)).qb
     ·dsimp only;rw[bK,VF,List.append_assoc,List.replicate_append_replicate,show c.zeros v-z+63=c.zeros v-(z-63) by omega]
     ·exact aJ.It ax (λi hi=>(mL i hi).elim .inr (λe=> .inl ω))
     ·intro i hi;rcases oG i hi with e| e
      ·exact mL i e
      ·exact .inr ω
    ·refine OD O$ Pz O$ TE O$ Oq$ OH O (λg0=>?_)$ λg0=>?_
     ·refine Oz O$ OX O$ PL O ?_;rw[show((z:Int)+1)=((z+1:Nat):Int) by omega];refine OQ Wb O (S5 lz 1 (z+1) ω (by have:=Nat.pow_le_pow_right (show 0<2 by decide) (show 1<=z+1 by omega);omega) ω) ?_;rintro _ w7 ⟨rfl,F7,oF,ax,oG⟩;have bZ:=ax.On aT (Hk F1 mL);have z7:=ax.size;have mM:Kp F w w7:=aJ.It ax (λi hi=>(mL i hi).elim .inr (λe=> .inl ω));have BP:∀i,F7 i->F i\/w5.heap.size<=i:=λi hi=>(oG i hi).elim (mL i) (λe=> .inr ω)
      have kF:b1++OZ (z+1) 1=bs++(List.replicate (c.zeros v) false++[true]):=by
       rw[bK,z9g,List.append_assoc]
       congr 1
       rw[<-List.append_assoc,List.replicate_append_replicate,show c.zeros v-z+z=c.zeros v by omega]
      rw[kF] at oF;clear ih;refine Oq$ An$ qN O$ qV (Pa (news:=[ON (c.p0 v).1,I ((c.p0 v).2:Int),ON 0,I 0]) z0N O Ur O (bZ.cells (n:=4) O) O)$ OC O$ Oq$ Ou$ Rw (α:=Nat×(Nat->Prop)×List Bool) ((0,F7,bs++(List.replicate (c.zeros v) false++[true]))) (λx=>[(0,ptr p 0),(49,.agg #[ON (c.p0 v).1,I ((c.p0 v).2:Int),ON 0,I 0]),(50,I (x.1:Int))]) (λx w'=>x.1<=2/\Yi w' p x.2.2 x.2.1/\x.2.2=(bs++(List.replicate (c.zeros v) false++[true]))++(if x.1=0 then [] else c.rest v)/\Kp F w w'/\(∀k,x.2.1 k->F k\/w5.heap.size<=k)/\w5.heap.size<=w'.heap.size) (λx=>2-x.1) ?hI ?hround
      case hI=>exact⟨by dsimp only;omega,oF,ξ,mM,BP,ω⟩
      case hround=>
       rintro⟨i,F8,b8⟩ w8 ⟨hi,p5,iW,aP,vp,z8⟩ ih;dsimp only at hi p5 iW vp
       try dsimp only
       refine qN O$ Qv O$ Oq$ An$ OH O (λmN=>?_)$ λmN=>?_
       ·have wq:b8.length<=bs.length+(c.zeros v+1)+(if i=0 then 0 else(c.p0 v).2):=by
         rw[iW];simp only[List.length_append,List.length_replicate,List.length_cons,List.length_nil];split
         ·simp
         ·rw[z3a,bitsN_length];omega
        refine Ot$ Qt$ qN O ?_;rcases (show i=0\/i=1 by omega) with rfl|rfl
        ·rw[if_pos O] at wq iW;refine qV (zil (n:=0) z0N SE zaT O O O ψ) ?_;rw[show(#[ON (c.p0 v).1,I ((c.p0 v).2:Int),ON 0,I 0]:Array Value).extract (0*2) (0*2+2)=#[ON (c.p0 v).1,I ((c.p0 v).2:Int)] from rfl];refine Oy O O (Rq (cs:=[_,_]) SE O) ?_;rintro _ w9 ⟨b12,rfl,BQ,fu,bh⟩;refine OJ O (Py (news:=[ON (c.p0 v).1,I ((c.p0 v).2:Int)]) SE O O O O bh ξ) ?_;rintro w10 ⟨ew,aA⟩;replace ew:OE w10 b12 [ON (c.p0 v).1,I ((c.p0 v).2:Int)] 351:=ew;have z9:=fu.size;have fS:Ext w8 w10:=fu.It aA (λi hi=>by omega);have z10:=fS.size;refine Oq (R0 O (OL z6J O (qV (OB R7 O O ew O) (OL ZP O (qV (OB U3 O O ew O) (OQ Wb O (S5 (p5.ext fS) (c.p0 v).1 (c.p0 v).2 ω q3 ω) ?_))))));rintro _ w11 ⟨rfl,F11,sr,bz,ss⟩;have iX:=fS.kp.trans bz;refine Oq$ Om$ Oz O$ PL O$ OC O$ Oq ((ih (1,F11,b8++OZ (c.p0 v).2 (c.p0 v).1) w11 ⟨by dsimp only;omega,sr,?_,?_,?_,?_⟩ (by dsimp only;omega)).qb)
         ·dsimp only;rw[iW];rw[List.append_nil,if_neg ψ,z3a]
         ·exact aP.It iX (λi hi=>(vp i hi).elim .inr (λe=> .inl ω))
         ·intro i hi;rcases ss i hi with e| e
          ·exact vp i e
          ·exact .inr ω
         ·have:=iX.size;omega
        ·rw[if_neg ψ] at wq iW;refine qV (zil (n:=1) z0N SE zaT O O O ψ) ?_;rw[show(#[ON (c.p0 v).1,I ((c.p0 v).2:Int),ON 0,I 0]:Array Value).extract (1*2) (1*2+2)=#[ON 0,I 0] from rfl];refine Oy O O (Rq (cs:=[_,_]) SE O) ?_;rintro _ w9 ⟨b12,rfl,BQ,fu,bh⟩;refine OJ O (Py (news:=[ON 0,I 0]) SE O O O O bh ξ) ?_;rintro w10 ⟨ew,aA⟩;replace ew:OE w10 b12 [ON 0,I 0] 351:=ew;have z9:=fu.size;have fS:Ext w8 w10:=fu.It aA (λi hi=>by omega);have z10:=fS.size;refine Oq (R0 O (OL z6J O (qV (OB R7 O O ew O) (OL ZP O (qV (OB U3 O O ew O) (OQ Wb O (S5 (p5.ext fS) 0 0 ω ψ ω) ?_))))));rintro _ w11 ⟨rfl,F11,sr,bz,ss⟩;have iX:=fS.kp.trans bz;refine Oq$ Om$ Oz O$ PL O$ OC O$ Oq ((ih (2,F11,b8++OZ 0 0) w11 ⟨by dsimp only;omega,sr,?_,?_,?_,?_⟩ (by dsimp only;omega)).qb)
         ·dsimp only;rw[iW];rw[if_neg ψ];simp[OZ]
         ·exact aP.It iX (λi hi=>(vp i hi).elim .inr (λe=> .inl ω))
         ·intro i hi;rcases ss i hi with e| e
          ·exact vp i e
          ·exact .inr ω
         ·have:=iX.size;omega
       ·have:i=2:=by omega
        subst this;rw[if_neg ψ] at iW;refine OD O (QB O (Oo func201 O (⟨_,rfl,rfl,F8,?_,aP,λi hi=>(vp i hi).imp id (λe=>by omega)⟩)));rw[iW] at p5;unfold Cd.enc
        simpa using p5
     ·omega
end
structure RgM (w:World)(x r:Nat)(s:Ov)(a:Nat):Prop where
 On:OE w x [ptr r 0,.bool false] 366
 rd:Tx w r s a
 ne:x≠r
def RgM.ext {w w':World}{x r:Nat}{s:Ov}{a:Nat}(h:RgM w x r s a)(k:Ext w w'):RgM w' x r s a:=⟨k.On h.On,⟨k.On h.rd.1,h.rd.2⟩,h.ne⟩
section
variable {w:World}{x r:Nat}{s:Ov}{a:Nat}
def WH (h:RgM w x r s a)(n:Nat)(hn:n<=64)(hl:a+n<=8*s.length):
  P9 prog 252 [ptr x 0,I (n:Int)] w λv w'=>v=ON (Pp (((OU s).drop a).take n))/\RgM w' x r s (a+n)/\Kp (λk=>k=x\/k=r) w w':=by
 obtain⟨hB,hR,br⟩:=h
 refine py (e:=[(0,_),(1,_)]) func252 O ntmps252 O O$ qN O$ QO O$ Pb O$ OL zbA O$ qV (OB UU O O hB O)$ OC O$ OQ z47 O (Vk hR n hn) ?_
 rintro v1 w1 fw
 obtain⟨rfl,i7,aG⟩:v1= .tuple #[ON (Pp (((OU s).drop a).take n)),I 0]/\Tx w1 r s (a+n)/\Kp (λk=>k=r) w w1:=by
  rcases fw with⟨-,h⟩|⟨h,-⟩
  ·exact h
  ·omega
 have ah:=aG.On hB br
 refine OC O$ Sw O$ Si O$ QL O$ OX O$ Pb O$ OL z0a O$ qV (OB U4 O O ah O)$ OX O$ Ql O$ Pu$ PC O$ Pb O$ OL z0a O ?_
 refine OJ O (Qw US O O O ah ξ) ?_
 rintro w2 ⟨ak,am⟩
 replace ak:OE w2 x [ptr r 0,.bool false] 366:=ak
 refine Oq$ P8.qb (e:=[(4,_),(5,_)]) ?_
 refine P7 O$ OK O$ Oo func252 O ?_
 exact⟨_,rfl,rfl,⟨ak,⟨am.On i7.1 (Ne.symm br),i7.2⟩,br⟩,(aG.OA (λk e=> .inr e)).trans (am.OA (λk e=> .inl e))⟩
def Xw (h:RgM w x r s a)(z most:Nat)(rest:List Bool)(hb:(OU s).drop a=List.replicate z false++true::rest)(hz:z<=most)(hm:most<=65535):
  P9 prog 250 [ptr x 0,I (most:Int)] w λv w'=>v=I (z:Int)/\RgM w' x r s (a+z+1)/\Kp (λk=>k=x\/k=r) w w':=by
 have aB:a+z+1<=8*s.length:=by
  have:=congrArg List.length hb;rw[List.length_drop,bitsT_length,List.length_append,List.length_replicate,List.length_cons] at this;omega
 refine py (e:=[(0,_),(1,_)]) func250 O ntmps250 O O$ QB O$ An$ QB O$ Ou$ Rw (α:=Nat) (0) (λn=>[(0,ptr x 0),(1,I (most:Int)),(5,I (n:Int))]) (λn w'=>n<=z/\RgM w' x r s (a+n)/\Kp (λk=>k=x\/k=r) w w') (λn=>z-n) ?hI ?hround
 case hI=>exact⟨Nat.zero_le _,h,Kp.refl _ _⟩
 case hround=>
  rintro n w1 ⟨hn,h1,aG⟩ ih;have ah:=h1.On
  have hd:(OU s).drop (a+n)=List.replicate (z-n) false++true::rest:=by
   rw[<-List.drop_drop,hb,List.drop_append_of_le_length (by simp;omega),List.drop_replicate]
  try dsimp only
  refine An$ Qh O$ zle O$ OC O$ Sc (λc1=>?_)$ λc1=>?_
  ·have hv:Pp (((OU s).drop (a+n)).take 1)=if n=z then 1 else 0:=by
    rw[hd];by_cases e:n=z
    ·subst e;rw[Nat.sub_self,if_pos O];rfl
    ·rw[if_neg e,show z-n=(z-n-1)+1 by omega,List.replicate_succ];rfl
   refine OC O (Pb O (OL z0a O (qV (OB U4 O O ah O) (qV ((S1 O)) (QQ O (Oq (OI O (Ot (Qt (P7 O (OQ z6S O (WH h1 1 ψ ω) ?_)))))))))));rintro _ w2 ⟨rfl,h2,am⟩;rw[hv];refine QS O$ Oq$ OH O (λc2=>?_)$ λc2=>?_
   ·have Hl:n=z:=by
     by_cases e:n=z
     ·exact e
     ·rw[if_neg e] at c2;simp at c2
    subst Hl;refine P7 O$ OK O$ Oo func250 O ?_;exact⟨_,rfl,rfl,h2,aG.trans am⟩
   ·have Hl:n≠z:=λe=>by rw[if_pos e] at c2;simp at c2
    refine Ot$ Om$ R0 O$ PL O$ OK O ?_;exact(ih (n+1) w2 ⟨ω,by rw[<-Nat.add_assoc];exact h2,aG.trans am⟩ ω).qb
  ·omega
def z6h (h:RgM w x r s a)(z q:Nat)(rest:List Bool)(hb:(OU s).drop a=List.replicate z false++true::(OZ z q++rest))(hq:q<2^z)(hz:z<=47):
  P9 prog 251 [ptr x 0,I 47] w λv w'=>v=ON (q+2^z-1)/\RgM w' x r s (a+z+1+z)/\Kp (λk=>k=x\/k=r) w w':=by
 have aB:a+z+1+z<=8*s.length:=by
  have:=congrArg List.length hb;rw[List.length_drop,bitsT_length,List.length_append,List.length_replicate,List.length_cons,List.length_append,bitsN_length] at this;omega
 have hd:(OU s).drop (a+z+1)=OZ z q++rest:=by
  rw[show a+z+1=a+(z+1) by omega,<-List.drop_drop,hb];rw[<-List.drop_drop,List.drop_left' ξ];rfl
 have hv:Pp (((OU s).drop (a+z+1)).take z)=q:=by
  rw[hd,List.take_left' ξ,PR,Nat.mod_eq_of_lt hq]
 obtain⟨Q,hQ⟩:∃Q,2^z=Q:=⟨_,rfl⟩
 rw[hQ] at hq⊢
 have BK:1<=Q/\Q<=281474976710656:=by
  rw[<-hQ];exact⟨Nat.two_pow_pos _,by have:=Nat.pow_le_pow_right (show 0<2 by decide) (show z<=48 by omega);simpa using this⟩
 refine py (e:=[(0,_),(1,_)]) func251 O ntmps251 O O$ qN O$ QL O$ OX O$ OQ zaw O (Xw h z 47 _ hb hz ψ) ?_
 rintro _ w1 ⟨rfl,h1,aG⟩
 have hg:=Ext.OT w1
 refine OK O$ An$ R8 (λw'=>Kp (λk=>k=x\/k=r) w1 w') O$ OR 0 O O (hg.kp)$ OR 1 O O (hg.kp)$ OR 3 O O (hg.kp)$ Ow 4 O (R6 z Q O O ω hQ) (hg.kp) ?_
 rw[show 1*Q%18446744073709551616=Q by omega]
 refine SH 2 O z6S O (WH (h1.ext hg) z ω ω) ?_
 rintro _ w2 ⟨rfl,h2,am⟩
 refine⟨hg.kp.trans am,?_⟩
 rw[hv]
 refine Ow 5 O (UL O O) (hg.kp.trans am) ?_
 rw[show(q+Q)%18446744073709551616=q+Q by omega]
 refine Ow 6 O (Wh (n:=1) O O O (by show q+Q<2^64;omega) ω) (hg.kp.trans am) ?_
 refine Ow 7 O (Rr O) (hg.kp.trans am)$ qE$ Oo func251 O ?_
 exact⟨_,rfl,rfl,h2,aG.trans (hg.kp.trans am)⟩
def z5b (h:RgM w x r s a)(v K:Nat)(rest:List Bool)(hb:(OU s).drop a=Qq v K++rest)(hv:v<K)(sk:K<=9223372036854775808):
  P9 prog 253 [ptr x 0,ON K] w λu w'=>u=ON v/\RgM w' x r s (a+(Qq v K).length)/\Kp (λk=>k=x\/k=r) w w':=by
 have aB:a+(Qq v K).length<=8*s.length:=by
  have:=congrArg List.length hb;have ha:=h.rd.2.1;rw[List.length_drop,bitsT_length,List.length_append] at this;omega
 refine py (e:=[(0,_),(1,_)]) func253 O ntmps253 O O$ qN O$ QO O$ qV (Wh (n:=1) O O O (by show K<2^64;omega) ω) ?_
 refine OQ z1J O (TZ (K-1) ω w) ?_
 rintro _ w ⟨rfl,rfl⟩
 refine OK O$ Pz O$ QS O$ Oq ?_
 by_cases AM:K=1
 ·subst AM;have vt:v=0:=by omega
  subst vt;rw[show PD (1-1)=0 from rfl];refine OH O (λc0=>?_)$ λc0=>?_
  ·refine QB O$ Oo func253 O ?_;exact⟨_,rfl,rfl,h,Kp.refl _ _⟩
  ·exact absurd O c0
 ·have f:=z5Q hv ω rest;dsimp only at f;obtain⟨n,hn⟩:∃n,PD (K-1)=n:=⟨_,rfl⟩;rw[hn] at f⊢;have g:=UI (K:=K) ω;rw[hn] at g;obtain⟨Q,hQ⟩:∃Q,2^n=Q:=⟨_,rfl⟩;rw[hQ] at f g;obtain⟨f1,f2,f3⟩:=f
  have BR:n<=63:=by
   rw[<-hn];have e63:(2:Nat)^63=9223372036854775808:=by decide
   exact QW ω
  have BJ:Q<=9223372036854775808:=by
   rw[<-hQ];have:=Nat.pow_le_pow_right (show 0<2 by decide) BR;have e63:(2:Nat)^63=9223372036854775808:=by decide
   omega
  have t1:((OU s).drop a).take (n-1)=(Qq v K).take (n-1):=by rw[hb,List.take_append_of_le_length f2]
  obtain⟨u,hu⟩:∃u,Pp ((Qq v K).take (n-1))=u:=⟨_,rfl⟩
  have su:u<Q:=by
   have h1:=QU ((Qq v K).take (n-1));rw[hu,List.length_take] at h1;have h2:=Nat.pow_le_pow_right (show 0<2 by decide) (show min (n-1) (Qq v K).length<=n by omega);omega
  rw[hu] at f3;refine OH O (λc0=>?_)$ λc0=>?_
  ·omega
  ·refine Ot (P7 O (qV (R6 n Q O O ω hQ) ?_));rw[show 1*Q%18446744073709551616=Q by omega];refine OC O (qV (Wh O O O (by show Q<2^64;omega) g.1) ?_);refine QL O$ OX O$ Ra O ?_;rw[show((n:Int)-1)=((n-1:Nat):Int) by omega];refine OQ z6S O (WH h (n-1) ω ω) ?_;rintro _ w1 ⟨rfl,h1,aG⟩;rw[t1,hu];refine OK O$ An$ Qh O$ TE O$ Oq$ OH O (λc1=>?_)$ λc1=>?_
   ·obtain⟨m1,m2,m3⟩:Q-K<=u/\(Qq v K).length=n/\2*u+Pp ((Qq v K).drop (n-1))=v+(Q-K):=by
     rcases f3 with⟨e,-⟩| e
     ·omega
     ·exact e
    have t2:((OU s).drop (a+(n-1))).take 1=(Qq v K).drop (n-1):=by
     rw[<-List.drop_drop,hb,List.drop_append_of_le_length f2,List.take_append_of_le_length (by rw[List.length_drop];omega),List.take_of_length_le (by rw[List.length_drop];omega)]
    have mO:Pp ((Qq v K).drop (n-1))<2:=by
     have:=QU ((Qq v K).drop (n-1));rw[List.length_drop,m2,show n-(n-1)=1 by omega] at this;exact this
    refine R0 O (qV (R6 1 2 O O ψ O) ?_);rw[show u*2%18446744073709551616=u*2 by omega];refine OC O (OQ z6S O (WH h1 1 ψ ω) ?_);rintro _ w2 ⟨rfl,h2,am⟩;rw[t2];refine qV (UL O O) ?_;rw[show(u*2+Pp ((Qq v K).drop (n-1)))%18446744073709551616=v+(Q-K) by omega];refine OC O (qV (Wh O O O (by show v+(Q-K)<2^64;omega) ω) ?_);rw[show v+(Q-K)-(Q-K)=v by omega];refine OK O$ P8.qb (e:=[(4,_),(7,_)]) ?_;refine P7 O$ OK O$ Oo func253 O ?_;rw[m2];exact⟨_,rfl,rfl,by rw[show a+n=a+(n-1)+1 by omega];exact h2,aG.trans am⟩
   ·obtain⟨m1,m2,m3⟩:u<Q-K/\(Qq v K).length=n-1/\u=v:=by
     rcases f3 with e|⟨e,-⟩
     ·exact e
     ·omega
    refine Ot$ P7 O$ OK O$ Oo func253 O ?_;rw[m2];exact⟨_,rfl,by rw[m3];rfl,h1,aG⟩
end
section
variable {w:World}{x r:Nat}{s:Ov}{a:Nat}
def z3f (h:RgM w x r s a)(c:Cd)(v:Nat)(hc:c.Qj)(hv:v<=c.most)(rest:List Bool)(hb:(OU s).drop a=c.enc v++rest):
  P9 prog 242 [ptr x 0,cdV c] w λu w'=>u=ON v/\RgM w' x r s (a+(c.enc v).length)/\Kp (λk=>k=x\/k=r) w w':=by
 have oA:=Wn c v
 have dT:=h.On.lt
 have gV:=h.rd.1.lt
 have aB:a+(c.enc v).length<=8*s.length:=by
  have:=congrArg List.length hb;have ha:=h.rd.2.1;rw[List.length_drop,bitsT_length,List.length_append] at this;omega
 unfold Cd.enc at hb
 rw[List.append_assoc,List.cons_append] at hb
 cases c with
 | unary =>
   refine py (e:=[(0,_),(1,_)]) func242 O ntmps242 O O$ qN O$ Oy O O (R9 O (cs:=[.int .u8 0,ON 0]) O) ?_;rintro _ w1 ⟨b3,rfl,dY,ad,ao⟩;refine OK O (An (qN O (OL RX O (qV (OB U5 O O ao O) (Oq (Ou (qN O (QS O (Rf (OK O (OI O (P7 O (OQ zaw O (Xw (h.ext ad) v 65535 rest hb hv ψ) ?_)))))))))))));rintro _ w2 ⟨rfl,h2,am⟩;have gX:v<=65535:=hv;refine qV ((PO O U3 R7 ω))$ OK O$ Oo func242 O (⟨_,rfl,rfl,?_,ad.kp.trans am⟩);have e:(Cd.enc .unary v).length=v+1:=by rw[oA];rfl
   rw[e];exact h2
 | gamma =>
   obtain⟨g1,g2,g3⟩:=Vt hv;obtain⟨z,hz⟩:∃z,Nat.log2 (v+1)=z:=⟨_,rfl⟩;rw[hz] at g1 g2 g3;rw[Nat.pow_succ] at g2
   have vw:(OU s).drop a=List.replicate z false++true::(OZ z (v+1-2^z)++rest):=by
    rw[hb];show List.replicate (Nat.log2 (v+1)) false++true::(OZ (Nat.log2 (v+1)) (v+1-2^Nat.log2 (v+1))++rest)=_;rw[hz]
   have e:(Cd.enc .gamma v).length=z+1+z:=by rw[oA];show Nat.log2 (v+1)+1+Nat.log2 (v+1)=_;rw[hz]
   refine py (e:=[(0,_),(1,_)]) func242 O ntmps242 O O$ qN O$ Oy O O (R9 O (cs:=[.int .u8 1,ON 0]) O) ?_;rintro _ w1 ⟨b3,rfl,dY,ad,ao⟩;refine OK O$ An$ qN O$ OL RX O$ qV (OB U5 O O ao O)$ Oq$ Ou$ qN O$ QS O$ Pu$ OK O$ Ox O$ qN O$ QS O ?_;refine Rf (OK O (OI O (P7 O (OQ zgM O (z6h (h.ext ad) z (v+1-2^z) rest vw ω g3) ?_))));rintro _ w2 ⟨rfl,h2,am⟩;rw[show v+1-2^z+2^z-1=v by omega];refine OK O$ Oo func242 O (⟨_,rfl,rfl,?_,ad.kp.trans am⟩)
   rw[e,show a+(z+1+z)=a+z+1+z by omega];exact h2
 | zeta k =>
   obtain⟨aG,am⟩:1<=k/\k<=16:=hc;obtain⟨g1,g2,g3⟩:=Vt hv;have f:=XE (k:=k) (v:=v) aG;dsimp only at f;obtain⟨b,wu⟩:∃b,Nat.log2 (v+1)=b:=⟨_,rfl⟩;rw[wu] at f g1 g2 g3;obtain⟨z,hz⟩:∃z,b / k=z:=⟨_,rfl⟩;obtain⟨m,hm⟩:∃m,z*k=m:=⟨_,rfl⟩;have Jj:m<=b:=by rw[<-hm,<-hz];exact Nat.div_mul_le_self _ _
   have BS:z<=47 / k:=by rw[<-hz];exact Nat.div_le_div_right g3
   have Nq:47 / k<=47:=Nat.div_le_self _ _;rw[hz,hm] at f
   have vw:(OU s).drop a=List.replicate z false++true::(Qq (v+1-2^m) (2^m*2^k-2^m)++rest):=by
    rw[hb];show List.replicate (Nat.log2 (v+1) / k) false++true::(Qq (v+1-2^(Nat.log2 (v+1) / k*k)) (2^(Nat.log2 (v+1) / k*k)*2^k-2^(Nat.log2 (v+1) / k*k))++rest)=_;rw[wu,hz,hm]
   obtain⟨F,hF⟩:∃F,2^m=F:=⟨_,rfl⟩;obtain⟨G,hG⟩:∃G,2^k=G:=⟨_,rfl⟩;rw[hF,hG] at f vw;obtain⟨f1,f2,f3⟩:=f;obtain⟨E,hE⟩:∃E,F*G=E:=⟨_,rfl⟩
   have BL:E<=9223372036854775808:=by
    rw[<-hE,<-hF,<-hG,<-Nat.pow_add];have:=Nat.pow_le_pow_right (show 0<2 by decide) (show m+k<=63 by omega);have e63:(2:Nat)^63=9223372036854775808:=by decide
    omega
   rw[hE] at f2 f3 vw
   have e:(Cd.enc (.zeta k) v).length=z+1+(Qq (v+1-F) (E-F)).length:=by
    rw[Cd.enc,List.length_append,List.length_replicate,List.length_cons];show Nat.log2 (v+1) / k+((Qq (v+1-2^(Nat.log2 (v+1) / k*k)) (2^(Nat.log2 (v+1) / k*k)*2^k-2^(Nat.log2 (v+1) / k*k))).length+1)=_;rw[wu,hz,hm,hF,hG,hE];omega
   have hd:(OU s).drop (a+z+1)=Qq (v+1-F) (E-F)++rest:=by
    rw[show a+z+1=a+(z+1) by omega,<-List.drop_drop,vw];rw[<-List.drop_drop,List.drop_left' ξ];rfl
   have qH:(z:Int)*(k:Int)=(m:Int):=by rw[<-hm];simp
   have fK:(47:Int) / (k:Int)=((47 / k:Nat):Int):=by simp
   refine py (e:=[(0,_),(1,_)]) func242 O ntmps242 O O$ qN O$ Oy O O (R9 O (cs:=[.int .u8 3,ON k]) O) ?_;rintro _ w1 ⟨b3,rfl,dY,ad,ao⟩;refine OK O$ An$ qN O$ OL RX O$ qV (OB U5 O O ao O)$ Oq$ Ou$ qN O$ QS O$ Pu$ OK O$ Ox O$ qN O$ QS O ?_;refine Pu$ OK O$ Ox O$ qN O$ QS O$ Pu$ OK O$ Ox O$ qN O$ QS O$ Rf$ OK O$ OI O$ qN O ?_;refine OL WD O (qV (OB R7 O O ao O) (qV (Ps O R7 U3 ω) (QL O (OX O (qV (Wq O O ω) ?_)))));rw[fK];refine OQ zaw O (Xw (h.ext ad) z (47 / k) _ vw BS ω) ?_;rintro _ w2 ⟨rfl,h2,BT⟩;refine OC O (qV (X5 O O (by rw[qH];omega)) ?_);rw[qH];refine qV (R6 m F O O ω hF) ?_;rw[show 1*F%18446744073709551616=F by omega];refine OK O$ P8.qb (e:=[(0,_),(3,_),(4,_),(6,_),(7,_)]) ?_;refine Qh O (OC O (qV (R6 k G O O ω hG) ?_));rw[hE,Nat.mod_eq_of_lt (show E<18446744073709551616 by omega)];refine OC O (qV (Wh O O O (by show E<2^64;omega) ω) ?_);refine OQ zhE O (z5b h2 (v+1-F) (E-F) rest hd f2 ω) ?_;rintro _ w3 ⟨rfl,h3,ar⟩;refine OC O$ qV (UL O O) ?_;rw[show(v+1-F+F)%18446744073709551616=v+1 by omega];refine qV (Wh (n:=1) O O O (by show v+1<2^64;omega) ω) ?_;rw[show v+1-1=v by omega];refine OK O$ Oo func242 O (⟨_,rfl,rfl,?_,(ad.kp.trans BT).trans ar⟩);rw[e,show a+(z+1+(Qq (v+1-F) (E-F)).length)=a+z+1+(Qq (v+1-F) (E-F)).length by omega];exact h3
end
def z60 {P:Program}{fn:Func}{tmps:Array Value}{R:Ending->World->Prop}{g:FuncId}{cap args:List Value}{w:World}{S:Value->World->Prop}(p8:CF P g)(hD:z5m P g (args++cap) w S)
  (h:∀u w',S u w'->∃v,(results fn tmps).run P w'= .ok v w'/\R (.returned v) w'):LeavesInM Fence.wide 0 P fn tmps R (marks [.call g cap args]) .returning w:=by
 refine⟨ξ,.inr ⟨(λh=>by cases h),.func g,cap.toArray,g,(args++cap).toArray,rfl,?_,(λ_ _=>trivial),?_⟩⟩
 ·simp[Dfr.d,invoke,Te p8]
 ·refine CallsDIn.mono hD ?_;rintro x u w1 ⟨rfl,v1,rfl,hS⟩;exact h v1 w1 hS
def Z8 {P:Program}{f:FuncId}{R:Value->World->Prop}{n:Nat}{k:List Item}{e:Env}{w:World}{fn:Func}{g:FuncId}{cap args:List Value}{S:Value->World->Prop}(hf:P.funcs[f]? =some fn)(p8:CF P g)(hD:z5m P g (args++cap) w S)
  (h:∀u w',S u w'->∃vs,XR P w' e fn.results.toList vs/\WT R (.returned (PS vs)) w'):P8 ⟨P,f,R,n,none,[.call g cap args],false⟩ (.code .ret::k) e w:=
 z3n O O hf λa ha=>z60 p8 hD λu w' hs=>by
  obtain⟨vs,h1,h2⟩:=h u w' hs;exact⟨_,Vv ha P w' fn vs h1,h2⟩
def ydf {P:Program}{e:Env}{ty:TypeId}{pos:String}{aft:Array Edge}{g:Option (Nat×Bool)}{w:World}{f:FuncId}{x:Operand}{q:List Value}(hv:look e x=some (.func (.func f) #[] q.toArray)):
  ∀ρ:Operand->Value,(∀x v,look e x=some v->ρ x=v)->(execOp ρ ⟨none,.defer ⟨.value x,#[],#[]⟩,ty,pos,aft,g⟩).run P w= .ok (.defer (Dfr.d (.call f q []))) w:=fun ρ hρ=>by
 simp[execOp,resolve,hρ _ _ hv,Dfr.d,Deferred.ofValue]
section
variable {w:World}{r:Nat}{s:Ov}{a:Nat}
def z3C {b2 b5 b6:Nat}(hB:OE w b5 [I 0] 45):z5m prog 241 [ptr b5 0,ptr b2 0,ptr b6 0] w λu w'=>w'=w:=by
 refine z4G (e:=[(0,_),(1,_),(2,_)]) func241 O ntmps241 O O$ qN O$ qV (OB U45 O O hB O)$ Ql O$ Oq$ OH O (λc0=>?_)$ λc0=>?_
 ·exact absurd O c0
 ·refine Ot$ z0L O O O func241$ λa ha=>⟨_,SS ha _ _ _ _ O,?_⟩;exact⟨_,rfl,rfl⟩
def Zc (h:Tx w r s a)(c:Cd)(v:Nat)(hc:c.Qj)(hv:v<=c.most)(rest:List Bool)(hb:(OU s).drop a=c.enc v++rest):
  P9 prog 229 [ptr r 0,cdV c] w λu w'=>u= .tuple #[ON v,I 0]/\Tx w' r s (a+(c.enc v).length)/\Kp (λk=>k=r) w w':=by
 obtain⟨x,y,dz⟩:∃x y,S6 c=[x,y]:=by cases c<;>exact⟨_,_,rfl⟩
 have gV:=h.1.lt
 have fg:=c.ZW
 refine py (e:=[(0,_),(1,_)]) func229 O ntmps229 O O$ qN O$ Oy O O (R9 O (cs:=[ptr r 0]) O) ?_
 rintro _ w1 ⟨b2,rfl,bP,ad,ak⟩
 refine Oy O O (R9 O (cs:=S6 c) O) ?_
 rintro _ w2 ⟨b3,rfl,dY,ae,ao⟩
 refine Si O$ Oy O O (Rq (cs:=[_]) z4w O) ?_
 rintro _ w3 ⟨b5,rfl,fR,aj,aD⟩
 replace aD:OE w3 b5 [I 0] 45:=aD
 have h3:Tx w3 r s a:=⟨aj.On (ae.On (ad.On h.1)),h.2⟩
 have cI:=aj.On (ae.On ak)
 have ez:=aj.On ao
 refine Oq$ Qt$ qN O$ qV (OB UU O O cI O)$ qV (PU UU O O)$ OK O$ Ox O$ qN O$ qV (Pa (news:=S6 c) Sg O Qx O (ez.cells (n:=2) (by rw[dz];rfl)) (by rw[dz];rfl)) ?_
 refine OQ z3W O (Ua c hc w3) ?_
 rintro _ w4 ⟨rfl,aC⟩
 have h4:Tx w4 r s a:=⟨aC.On h3.1,h3.2⟩
 have eA:=aC.On cI
 refine Ql O$ OK O$ OH O (λc0=>?_)$ λc0=>?_
 ·exact absurd O c0
 ·refine Ot$ Om$ qN O$ qV (OB UU O O eA O)$ OQ Yv O (TR h4) ?_;rintro _ w4 ⟨rfl,rfl⟩;refine Oy O O (Rq (cs:=[_]) PH O) ?_;rintro _ w5 ⟨b6,rfl,oD,aR,aT⟩;refine OJ O (Qw PH O O O aT ξ) ?_;rintro w6 ⟨mP,aJ⟩;have z1:=ad.size;have z2:=ae.size;have z3:=aj.size;have z4:=aC.size;have z5:=aR.size;have l2:=ak.lt;have l3:=ao.lt;have l5:=aD.lt;have cP:Ext w4 w6:=aR.It aJ (λi hi=>by omega);have gK:=cP.On eA;refine qM O$ qV (ymf (first:=[]) (caps:=[.tmp 5,.tmp 2,.tmp 6]) O O)$ z6n O O (ydf O)$ qM O$ qV (OB UU O O gK O)$ qV (Sa (cs:=[_,_]) zis O zfG O O)$ Oy O O (R9 O O) ?_;rintro _ w7 ⟨b7,rfl,kF,ci,bZ⟩;replace bZ:OE w7 b7 [ptr r 0,.bool false] 366:=bZ;have z6:=cP.size;have z7:=ci.size;have p9:Ext w3 w7:=(aC.trans cP).trans ci;have h7:RgM w7 b7 r s a:=⟨bZ,⟨p9.On h3.1,h3.2⟩,ω⟩;have jJ:=p9.On ez;have jK:=p9.On aD;refine OK O (Pz O (qV (Pa (news:=S6 c) Sg O Qx O (jJ.cells (n:=2) (by rw[dz];rfl)) (by rw[dz];rfl)) ?_));refine OQ zif O (z3f h7 c v hc hv rest hb) ?_;rintro _ w8 ⟨rfl,h8,aP⟩;have mQ:=aP.On jJ ω;have BU:=aP.On jK ω;have bY:=h8.On;refine QO O (Pb O (OL z0a O (qV (OB U4 O O bY O) (OX O (qV (Pa (news:=S6 c) Sg O Qx O (mQ.cells (n:=2) (by rw[dz];rfl)) (by rw[dz];rfl)) ?_)))));refine OQ zd8 O (z1R c hc w8) ?_;rintro _ w9 ⟨rfl,fu⟩;refine Qr O$ PC O$ Oq$ P8.qb (e:=[(4,_),(5,_),(33,_)]) ?_;refine OH O (λc1=>?_)$ λc1=>?_
  ·omega
  ·have BV:=fu.On BU;refine Ot (P7 O (Si O (OJ O (Qw z4w O O O BV ξ) ?_)));rintro w10 ⟨fm,aA⟩;replace fm:OE w10 b5 [I 0] 45:=fm;refine Oq$ Z8 func229 zik (z3C (b2:=b2) (b6:=b6) fm) ?_;rintro u w' rfl;have qI:Tx w9 r s (a+(c.enc v).length):=⟨fu.On h8.rd.1,h8.rd.2⟩;refine⟨_,.tmp O (.cell1 U45 O O ((fm).cell _) .nil),_,rfl,rfl,⟨aA.On qI.1 ω,qI.2⟩,?_⟩;have jL:Ext w w7:=((ad.trans ae).trans aj).trans p9;have iY:Kp (λk=>k=r) w w8:=jL.kp.It aP (λi hi=>hi.elim (λe=> .inl ω) .inr);exact(iY.trans fu.kp).It aA (λi hi=> .inl ω)
end
/-! ### Runs -/
def expand:Bool->List Nat->List Bool
 |_,[]=>[]
 |b,n::r=>List.replicate n b++expand (!b) r
theorem Xx:∀(b:Bool) (r s:List Nat),expand b (r++s)=expand b r++expand (if r.length%2=0 then b else !b) s
 |b,[],s=>by simp[expand]
 | b, n :: r, s => by
   rw[List.cons_append,expand,expand,Xx (!b) r s,List.append_assoc]
   congr 2
   rcases Nat.mod_two_eq_zero_or_one r.length with e| e
   ·rw[if_pos e,if_neg (by rw[List.length_cons];omega)]
   ·rw[if_neg ω,if_pos (by rw[List.length_cons];omega)];simp
theorem SC:∀(b:Bool) (r:List Nat),(expand b r).length=r.sum
 |_,[]=>rfl
 |b,n::r=>by rw[expand,List.length_append,List.length_replicate,SC (!b) r,List.sum_cons]
def QN (rs:List Nat)(f:Bool):List Nat:=
 let rs':=if f !=(rs.length%2==1) then rs++[0] else rs
 rs'.modify (rs'.length-1) (·+1)
theorem W2 (l:List Nat)(n:Nat):(l++[n]).modify ((l++[n]).length-1) (·+1)=l++[n+1]:=by
 have key:∀l:List Nat,(l++[n]).modify l.length (·+1)=l++[n+1]:=λl=>by
  induction l with
  |nil=>rfl
  |cons a l ih=>simpa using ih
 have:(l++[n]).length-1=l.length:=by simp
 rw[this,key]
structure Tj (rs:List Nat)(fs:List Bool):Prop where
 ne:rs≠[]
 exp:expand true rs=fs
 pos:∀n∈rs.drop 1,1<=n
theorem Tj.zero:Tj [0] []:=⟨ξ,rfl,ξ⟩
theorem Tj.step {rs:List Nat}{fs:List Bool}(h:Tj rs fs)(f:Bool):Tj (QN rs f) (fs++[f]):=by
 obtain⟨h1,h2,h3⟩:=h
 obtain⟨l,n,rfl⟩:∃l n,rs=l++[n]:=⟨rs.dropLast,rs.getLast h1,(List.dropLast_concat_getLast h1).symm⟩
 unfold QN
 dsimp only
 have hlen:(l++[n]).length=l.length+1:=by simp
 rw[hlen]
 split
 ·rename_i hf
  rw[W2];refine⟨ξ,?_,λk hk=>?_⟩
  ·rw[Xx,h2,hlen]
   congr 1
   rcases Nat.mod_two_eq_zero_or_one l.length with e|e<;>cases f<;>simp[expand,e,Nat.add_mod] at hf⊢
  ·rw[List.drop_append_of_le_length (by rw[hlen];omega)] at hk;rcases List.mem_append.1 hk with hk|hk
   ·exact h3 k hk
   ·simp at hk;omega
 ·rename_i hf
  rw[W2];refine⟨ξ,?_,λk hk=>?_⟩
  ·rw[Xx] at h2⊢;rw[<-h2,List.append_assoc]
   congr 1
   simp only[expand,List.append_nil,List.replicate_succ']
   congr 1
   rcases Nat.mod_two_eq_zero_or_one l.length with e|e<;>cases f<;>simp[e,Nat.add_mod] at hf⊢
  ·cases l with
   |nil=>simp at hk
   | cons a l =>
     rw[List.cons_append,List.drop_succ_cons,List.drop_zero] at hk h3;rcases List.mem_append.1 hk with hk|hk
     ·exact h3 k (List.mem_append_left _ hk)
     ·simp at hk;omega
def copyL:Bool->List Nat->List Nat->List Nat
 |b,[],ref=>if b then ref else []
 |b,n::r,ref=>(if b then ref.take n else [])++copyL (!b) r (ref.drop n)
def sel:List Nat->List Bool->List Nat
 |x::l,f::fs=>if f then x::sel l fs else sel l fs
 |_,_=>[]
theorem z7y:∀{a b:List Nat} {fs gs:List Bool},a.length=fs.length->sel (a++b) (fs++gs)=sel a fs++sel b gs
 |[],b,[],gs,_=>rfl
 | x :: a, b, f :: fs, gs, h => by
   have h':a.length=fs.length:=by simpa using h
   rw[List.cons_append,List.cons_append,sel,sel,z7y h'];cases f<;>simp
theorem z2Y:∀(l:List Nat) (b:Bool),sel l (List.replicate l.length b)=if b then l else []
 |[],b=>by cases b<;>rfl
 | x :: l, b => by
   rw[List.length_cons,List.replicate_succ,sel,z2Y l b];cases b<;>rfl
theorem z4V:∀(b:Bool) (rs:List Nat) (m:Nat) (ref:List Nat),ref.length=(rs++[m]).sum->copyL b rs ref=sel ref (expand b (rs++[m]))
 | b, [], m, ref, h => by
   have hm:m=ref.length:=by simpa using h.symm
   subst hm;simp only[copyL,List.nil_append,expand,List.append_nil]
   rw[z2Y]
 | b, n :: rs, m, ref, h => by
   rw[List.cons_append,List.sum_cons] at h;have hl:(ref.take n).length=n:=by rw[List.length_take];omega
   rw[copyL,List.cons_append,expand,z4V (!b) rs m (ref.drop n) (by rw[List.length_drop];omega)]
   conv=>rhs;rw[<-List.take_append_drop n ref,z7y (by rw[hl,List.length_replicate])]
   congr 1
   have:=z2Y (ref.take n) b;rw[hl] at this;exact this.symm
/-! ### Rows of numbers that follow one another -/
def PB:Nat->List Nat->Nat
 |_,[]=>0
 |x,y::l=>if y=x+1 then PB y l+1 else 0
def WN:∀(x:Nat) (l:List Nat),PB x l<=l.length
 |_,[]=>Nat.le_refl _
 | x, y :: l => by
   unfold PB;split
   ·have:=WN y l;simp;omega
   ·exact Nat.zero_le _
theorem VG:∀(x:Nat) (l:List Nat) (i:Nat),i<PB x l->l[i]? =some (x+1+i)
 |_,[],i,h=>by simp[PB] at h
 | x, y :: l, i, h => by
   unfold PB at h;split at h
   ·rename_i e
    subst e
    cases i with
    |zero=>rfl
    |succ i=>rw[List.getElem?_cons_succ,VG (x+1) l i ω];congr 1;omega
   ·omega
def Wc:∀(x:Nat) (l:List Nat) (y:Nat),l[PB x l]? =some y->y≠x+1+PB x l
 |_,[],y,h=>by simp at h
 | x, z :: l, y, h => by
   unfold PB at h⊢;split
   ·rename_i e
    rw[if_pos e,List.getElem?_cons_succ] at h;have:=Wc z l y h;omega
   ·rename_i e
    rw[if_neg e,List.getElem?_cons_zero] at h;cases h;omega
def PE (least:Nat):List Nat->List (Nat×Nat)×List Nat
 |[]=>([],[])
 | x :: l =>
   let n:=PB x l+1
   let q:=PE least (l.drop (PB x l))
   if 0<least/\least<=n then((x,n)::q.1,q.2) else(q.1,x::l.take (PB x l)++q.2)
termination_by l=>l.length
decreasing_by simp[List.length_drop];omega
def QC (l:List (Nat×Nat)):List Nat:=l.flatMap λp=>(List.range p.2).map (p.1+·)
abbrev Ris (l:List Nat):Prop:=l.Pairwise (·<·)
def zbi (x:Nat)(l:List Nat):x::l.take (PB x l)=(List.range (PB x l+1)).map (x+·):=by
 apply List.ext_getElem?
 intro i
 have hle:=WN x l
 cases i with
 |zero=>simp
 | succ i =>
   rw[List.getElem?_cons_succ,List.getElem?_take,List.getElem?_map];split
   ·rename_i h
    rw[VG x l i h,List.getElem?_range ω];simp;omega
   ·rw[List.getElem?_eq_none (by simp;omega)];rfl
def Tr (least:Nat):∀(l:List Nat),(QC (PE least l).1++(PE least l).2).Perm l
 |[]=>by simp[PE,QC]
 | x :: l => by
   have ih:=Tr least (l.drop (PB x l));have hx:=zbi x l;have hc:x::l=(x::l.take (PB x l))++l.drop (PB x l):=by rw[List.cons_append,List.take_append_drop]
   rw[PE];split
   ·rw[show QC ((x,PB x l+1)::(PE least (l.drop (PB x l))).1)=(List.range (PB x l+1)).map (x+·)++QC (PE least (l.drop (PB x l))).1 by simp[QC]];rw[<-hx,List.append_assoc]
    conv=>rhs;rw[hc]
    exact ih.append_left _
   ·conv=>rhs;rw[hc]
    refine List.Perm.trans ?_$ ih.append_left _;rw[<-List.append_assoc,<-List.append_assoc];exact(List.perm_append_comm).append_right _
 termination_by l=>l.length
 decreasing_by simp[List.length_drop];omega
def zig (z:Int):Nat:=if 0<=z then(2*z).toNat else(-2*z-1).toNat
def zag (n:Nat):Int:=if n%2=0 then((n / 2:Nat):Int) else -((n / 2:Nat):Int)-1
theorem z6C (z:Int):zag (zig z)=z:=by
 unfold zig zag
 split
 ·rw[if_pos ω];omega
 ·rw[if_neg ω];omega
def Z1 {z:Int}{n:Nat}(h1: -(n:Int)<=z)(h2:z<(n:Int)):zig z<2*n:=by
 unfold zig
 split<;>omega
structure RN where
 OY:Nat
 interval:Nat
 zeta:Nat
def QZ (succ ref:List Nat):List Nat:=ref.foldl (λrs y=>QN rs (decide (y∈succ))) [0]
def SY (succ ref:List Nat):Tj (QZ succ ref) (ref.map λy=>decide (y∈succ)):=by
 unfold QZ
 have key:∀(l:List Nat) (rs:List Nat) (fs:List Bool),Tj rs fs->Tj (l.foldl (λrs y=>QN rs (decide (y∈succ))) rs) (fs++l.map λy=>decide (y∈succ)):=by
  intro l
  induction l with
  |nil=>intro rs fs h;simpa using h
  | cons y l ih =>
    intro rs fs h;have:=ih _ _ (h.step (decide (y∈succ)))
    simpa using this
 simpa using key ref [0] [] Tj.zero
def P3 (succ ref:List Nat):List Nat:=succ.filter λv=>decide (v∉ref)
theorem z7i (P:Nat->Bool):∀l:List Nat,sel l (l.map P)=l.filter P
 |[]=>rfl
 | x :: l => by
   rw[List.map_cons,sel,z7i P l];cases h:P x<;>simp[h]
def z8d (succ ref:List Nat):copyL true (QZ succ ref).dropLast ref=ref.filter λy=>decide (y∈succ):=by
 have h:=SY succ ref
 obtain⟨l,n,e⟩:∃l n,QZ succ ref=l++[n]:=⟨_,_,(List.dropLast_concat_getLast h.ne).symm⟩
 rw[e,List.dropLast_concat]
 have he:=h.exp
 rw[e] at he
 have hl:ref.length=(l++[n]).sum:=by
  have:=congrArg List.length he;rw[SC,List.length_map] at this;exact this.symm
 rw[z4V true l n ref hl,he,z7i]
def Q7:Nat->List Nat->List (Cd×Nat)
 |_,[]=>[]
 |i,n::r=>(.gamma,n-min i 1)::Q7 (i+1) r
def Pv (x least:Nat):Option Nat->List (Nat×Nat)->List (Cd×Nat)
 |_,[]=>[]
 |none,p::r=>(.gamma,zig ((p.1:Int)-x))::(.gamma,p.2-least)::Pv x least (some (p.1+p.2-1)) r
 |some e,p::r=>(.gamma,p.1-e-2)::(.gamma,p.2-least)::Pv x least (some (p.1+p.2-1)) r
def Px (x k:Nat):Option Nat->List Nat->List (Cd×Nat)
 |_,[]=>[]
 |none,v::r=>(.zeta k,zig ((v:Int)-x))::Px x k (some v) r
 |some u,v::r=>(.zeta k,v-u-1)::Px x k (some v) r
def Rm (p:RN)(x:Nat)(succ ref:List Nat)(r:Nat):List (Cd×Nat):=
 (.gamma,succ.length)::if succ=[] then [] else
  (if 0<p.OY then [(.unary,r)] else [])++
  ((if 0<r then(.gamma,(QZ succ ref).length-1)::Q7 0 (QZ succ ref).dropLast else [])++
  (if P3 succ ref=[] then [] else
   (if 0<p.interval then(.gamma,(PE p.interval (P3 succ ref)).1.length)::Pv x p.interval none (PE p.interval (P3 succ ref)).1 else [])++
   Px x p.zeta none (PE p.interval (P3 succ ref)).2))
def OV (l:List (Cd×Nat)):List Bool:=l.flatMap λp=>p.1.enc p.2
def z5q {succ ref:List Nat}(hs:Ris succ)(hr:Ris ref)(p:Nat):(ref.filter (λy=>decide (y∈succ))++(QC (PE p (P3 succ ref)).1++(PE p (P3 succ ref)).2)).Perm succ:=by
 have h1:(ref.filter λy=>decide (y∈succ)).Perm (succ.filter λv=>decide (v∈ref)):=by
  refine(List.perm_ext_iff_of_nodup (hr.imp (λh=>by omega) |>.filter _) (hs.imp (λh=>by omega) |>.filter _)).2 λa=>?_;simp only[List.mem_filter,decide_eq_true_eq];exact And.comm
 refine(h1.append (Tr p _)).trans ?_
 unfold P3
 have:=List.filter_append_perm (λv=>decide (v∈ref)) succ
 refine List.Perm.trans ?_ this
 refine List.Perm.append_left _ ?_
 simp
def z68 {a b:List Nat}(h:a.Perm b)(ha:a.Pairwise (·<=·))(hb:Ris b):a=b:=
 h.eq_of_pairwise (le:=(·<=·)) (λx y _ _ h1 h2=>by omega) ha (hb.imp (λh=>by omega))
def SN (least:Nat):Nat->List (Nat×Nat)->Prop
 |_,[]=>True
 |lo,p::r=>lo<=p.1/\1<=p.2/\least<=p.2/\SN least (p.1+p.2+1) r
def SN.mono {least:Nat}:∀{r:List (Nat×Nat)} {a b:Nat},SN least b r->a<=b->SN least a r
 |[],_,_,_,_=>trivial
 |p::r,a,b,h,hab=>⟨Nat.le_trans hab h.1,h.2⟩
def z5c {x:Nat}{l:List Nat}(h:Ris (x::l)):∀y∈l.drop (PB x l),x+PB x l+2<=y:=by
 intro y hy
 obtain⟨j,hj,e⟩:=List.mem_iff_getElem.1 hy
 rw[List.getElem_drop] at e
 rw[List.length_drop] at hj
 obtain⟨h1,h2⟩:=List.pairwise_cons.1 h
 have hle:=WN x l
 have h0:PB x l<l.length:=by omega
 obtain⟨z,hz⟩:∃z,l[PB x l]? =some z:=⟨_,List.getElem?_eq_getElem h0⟩
 have hs:=Wc x l z hz
 have hz':=(List.getElem?_eq_some_iff.1 hz).2
 have hzx:x+PB x l<z:=by
  by_cases e0:PB x l=0
  ·have:=h1 z (List.mem_of_getElem? hz);omega
  ·have hg:=VG x l (PB x l-1) ω;obtain⟨g1,g2⟩:=List.getElem?_eq_some_iff.1 hg;have:=List.pairwise_iff_getElem.1 h2 (PB x l-1) (PB x l) g1 h0 ω;rw[g2,hz'] at this;omega
 have hzy:z<=y:=by
  by_cases e0:j=0
  ·subst e0;simp at e;rw[<-e,<-hz'];exact Nat.le_refl _
  ·have:=List.pairwise_iff_getElem.1 h2 (PB x l) (PB x l+j) h0 ω ω;rw[e,hz'] at this;omega
 omega
def UG (least:Nat):∀(l:List Nat) (lo:Nat),Ris l->(∀y∈l,lo<=y)->SN least lo (PE least l).1
 |[],lo,_,_=>by rw[PE];trivial
 | x :: l, lo, h, hl => by
   have hb:=z5c h;have h2:Ris (l.drop (PB x l)):=(List.pairwise_cons.1 h).2.sublist (List.drop_sublist _ _);rw[PE];split
   ·rename_i hc
    refine⟨hl x ξ,ω,hc.2,UG least _ _ h2 λy hy=>?_⟩;have:=hb y hy;omega
   ·refine UG least _ _ h2 λy hy=>?_;have:=hb y hy;have:=hl x ξ;omega
 termination_by l=>l.length
 decreasing_by all_goals (simp[List.length_drop];omega)
def Um (least:Nat):∀(l:List Nat),(PE least l).2.Sublist l
 |[]=>by rw[PE];exact List.Sublist.refl _
 | x :: l => by
   have ih:=Um least (l.drop (PB x l));rw[PE];split
   ·exact(ih.trans (List.drop_sublist _ _)).cons x
   ·have hc:x::l=(x::l.take (PB x l))++l.drop (PB x l):=by rw[List.cons_append,List.take_append_drop]
    conv=>rhs;rw[hc]
    exact ih.append_left _
 termination_by l=>l.length
 decreasing_by simp[List.length_drop];omega
end Go.Proofs.YtbihggbffaigjaaGreatDoor
