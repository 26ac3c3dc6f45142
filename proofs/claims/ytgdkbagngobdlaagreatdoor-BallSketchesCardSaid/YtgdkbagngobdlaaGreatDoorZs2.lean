/- Merged by program. -/
import Derived.Test.YtgdkbagngobdlaaGreatDoorZs1
import Derived.KernelRfl
import Derived.Lib.AppendZerosOnto
import Derived.Lib.Overlaps
import Derived.Maps.RangeRun
set_option linter.all false
set_option maxRecDepth 1000000
set_option maxHeartbeats 16000000
namespace Go.Proofs.YtgdkbagngobdlaaGreatDoor
open Go Go.RowKit Go.Proofs.Tryz
set_option linter.unusedSimpArgs false
theorem ON {P:Program}{f:FuncId}{fn:Func}(h:P.funcs[f]? =some fn)(h2:(fn.name=="runtime.NumGoroutine")=false:=by kernel_rfl)(h3:fn.body.isNone=false:=by rfl):CF P f:=⟨fn,h,h2,h3⟩
theorem Pb:TI prog 3 (Value.int .i64 0) 1 8:=OM (by kernel_rfl)
theorem Vg:TI prog 4 (Value.bool false) 1 1:=OM (by kernel_rfl)
theorem Us:TI prog 5 (Value.int .u8 0) 1 1:=OM (by kernel_rfl)
theorem ZF:TI prog 9 (Value.string ⟨#[]⟩) 1 16:=OM (by kernel_rfl)
theorem zjM:TI prog 22 (Value.slice none 0 0) 1 24:=OM (by kernel_rfl)
theorem Si:TI prog 23 (Value.int .u64 0) 1 8:=OM (by kernel_rfl)
theorem zjB:TI prog 25 (Value.agg #[Value.int .i64 0,Value.slice none 0 0,Value.bool false,Value.int .i64 0,Value.int .i64 0,Value.int .i64 0,Value.int .i64 0,Value.int .u64 0]) 8 80:=OM (by kernel_rfl)
theorem zet:TI prog 28 (Value.pointer none) 1 8:=OM (by kernel_rfl)
theorem z92:TI prog 29 (Value.pointer none) 1 8:=OM (by kernel_rfl)
theorem zcl:TI prog 30 (Value.pointer none) 1 8:=OM (by kernel_rfl)
theorem z3p:TI prog 32 (Value.agg #[Value.pointer none,Value.pointer none,Value.pointer none,Value.pointer none,Value.int .i64 0]) 5 40:=OM (by kernel_rfl)
theorem z1e:TI prog 36 (Value.int .i64 0) 1 8:=OM (by kernel_rfl)
theorem z5k:TI prog 43 (Value.slice none 0 0) 1 24:=OM (by kernel_rfl)
theorem Ro:TI prog 49 (Value.slice none 0 0) 1 24:=OM (by kernel_rfl)
theorem zhs:TI prog 51 (Value.pointer none) 1 8:=OM (by kernel_rfl)
theorem zeL:TI prog 60 (Value.nilFunc) 1 8:=OM (by kernel_rfl)
theorem zes:TI prog 77 (Value.agg #[Value.int .i64 0,Value.int .i64 0,Value.int .i64 0,Value.int .i64 0,Value.int .i64 0,Value.int .i64 0,Value.int .i64 0]) 7 56:=OM (by kernel_rfl)
theorem za2:TI prog 86 (Value.agg #[Value.int .i64 0,Value.int .i64 0]) 2 16:=OM (by kernel_rfl)
theorem QJ:TI prog 94 (Value.agg #[Value.int .i64 0,Value.int .i64 0,Value.int .i64 0,Value.int .i64 0,Value.int .i64 0]) 5 40:=OM (by kernel_rfl)
theorem ziM:TI prog 97 (Value.agg #[Value.int .i64 0,Value.bool false]) 2 16:=OM (by kernel_rfl)
theorem Xj:TI prog 98 (Value.pointer none) 1 8:=OM (by kernel_rfl)
theorem zfP:TI prog 100 (Value.agg #[Value.int .i64 0,Value.bool false,Value.pointer none,Value.int .i64 0,Value.int .i64 0,Value.pointer none,Value.pointer none,Value.pointer none,Value.bool false]) 9 72:=OM (by kernel_rfl)
theorem Va:TI prog 105 (Value.slice none 0 0) 1 24:=OM (by kernel_rfl)
theorem O7:TI prog 106 (Value.int .u32 0) 1 4:=OM (by kernel_rfl)
theorem zef:TI prog 111 (Value.pointer none) 1 8:=OM (by kernel_rfl)
theorem zdI:TI prog 112 (Value.map none) 1 8:=OM (by kernel_rfl)
theorem ziW:TI prog 114 (Value.agg #[Value.pointer none,Value.pointer none,Value.pointer none,Value.map none,Value.int .i64 0,Value.int .i64 0,Value.int .i64 0,Value.int .i64 0,Value.int .i64 0,Value.int .i64 0,Value.int .i64 0,Value.bool false]) 12 96:=OM (by kernel_rfl)
theorem Qf:TI prog 119 (Value.agg #[Value.int .i64 0,Value.int .i64 0]) 2 16:=OM (by kernel_rfl)
theorem T8:TI prog 125 (Value.agg #[Value.int .u32 0,Value.int .u32 0]) 2 8:=OM (by kernel_rfl)
theorem ze1:TI prog 128 (Value.map none) 1 8:=OM (by kernel_rfl)
theorem za4:TI prog 130 (Value.agg #[Value.slice none 0 0,Value.int .i64 0,Value.int .u8 0]) 3 40:=OM (by kernel_rfl)
theorem z7m:TI prog 132 (Value.agg #[Value.int .i64 0,Value.slice none 0 0,Value.int .i64 0,Value.int .u8 0]) 4 48:=OM (by kernel_rfl)
theorem z7w:TI prog 133 (Value.slice none 0 0) 1 24:=OM (by kernel_rfl)
theorem zgJ:TI prog 135 (Value.agg #[Value.int .i64 0,Value.slice none 0 0,Value.int .i64 0,Value.int .u8 0,Value.int .i64 0,Value.int .i64 0,Value.map none,Value.slice none 0 0,Value.bool false,Value.int .i64 0,Value.int .i64 0]) 11 120:=OM (by kernel_rfl)
theorem zd8:TI prog 136 (Value.slice none 0 0) 1 24:=OM (by kernel_rfl)
theorem zhi:TI prog 138 (Value.agg #[Value.int .i64 0,Value.slice none 0 0,Value.slice none 0 0,Value.bool false]) 4 64:=OM (by kernel_rfl)
theorem z1M:TI prog 145 (Value.pointer none) 1 8:=OM (by kernel_rfl)
theorem XA:TI prog 155 (Value.agg #[Value.int .i64 0,Value.int .i64 0,Value.int .i64 0]) 3 24:=OM (by kernel_rfl)
theorem ziZ:TI prog 157 (Value.agg #[Value.int .i64 0,Value.int .i64 0,Value.int .i64 0,Value.int .i64 0,Value.int .i64 0,Value.pointer none,Value.bool false]) 7 56:=OM (by kernel_rfl)
theorem T7:TI prog 160 (Value.agg #[Value.int .i64 0,Value.int .i64 0,Value.int .i64 0,Value.int .i64 0,Value.int .i64 0,Value.int .i64 0,Value.int .i64 0,Value.int .i64 0]) 8 64:=OM (by kernel_rfl)
theorem z1k:TI prog 162 (Value.nilIface) 1 16:=OM (by kernel_rfl)
theorem zdW:TI prog 163 (Value.pointer none) 1 8:=OM (by kernel_rfl)
theorem zgf:TI prog 165 (Value.agg #[Value.int .i64 0,Value.int .i64 0,Value.int .i64 0,Value.int .i64 0,Value.int .i64 0,Value.int .i64 0,Value.int .i64 0,Value.int .i64 0,Value.nilIface,Value.pointer none]) 10 88:=OM (by kernel_rfl)
theorem z1r:TI prog 172 (Value.int .u8 0) 1 1:=OM (by kernel_rfl)
theorem zgL:TI prog 175 (Value.agg #[Value.pointer none,Value.slice none 0 0]) 2 32:=OM (by kernel_rfl)
theorem z6U:TI prog 188 (Value.map none) 1 8:=OM (by kernel_rfl)
theorem z4I:TI prog 190 (Value.agg #[Value.slice none 0 0,Value.map none]) 2 32:=OM (by kernel_rfl)
theorem zh4:TI prog 192 (Value.agg #[Value.int .i64 0,Value.slice none 0 0,Value.map none,Value.slice none 0 0,Value.map none,Value.slice none 0 0,Value.map none,Value.slice none 0 0,Value.map none,Value.int .i64 0,Value.map none]) 11 152:=OM (by kernel_rfl)
theorem Wq:TI prog 198 (Value.agg #[Value.pointer none,Value.int .i64 0,Value.int .i64 0]) 3 24:=OM (by kernel_rfl)
theorem zdO:TI prog 200 (Value.agg #[Value.pointer none,Value.int .i64 0,Value.int .i64 0,Value.slice none 0 0,Value.int .i64 0,Value.int .i64 0,Value.int .u32 0,Value.nilFunc,Value.bool false]) 9 88:=OM (by kernel_rfl)
theorem zgA:TI prog 205 (Value.agg #[Value.pointer none,Value.int .i64 0,Value.int .i64 0,Value.int .i64 0,Value.int .u32 0]) 5 40:=OM (by kernel_rfl)
theorem z9K:TI prog 214 (Value.pointer none) 1 8:=OM (by kernel_rfl)
theorem z6y:TI prog 216 (Value.agg #[Value.string ⟨#[]⟩,Value.bool false]) 2 24:=OM (by kernel_rfl)
theorem zh5:TI prog 218 (Value.agg #[Value.string ⟨#[]⟩,Value.bool false,Value.int .i64 0]) 3 32:=OM (by kernel_rfl)
theorem z6M:TI prog 227 (Value.pointer none) 1 8:=OM (by kernel_rfl)
theorem Uj:TI prog 229 (Value.agg #[Value.int .i64 0,Value.int .i64 0]) 2 16:=OM (by kernel_rfl)
theorem Sy:TI prog 234 (Value.agg #[Value.int .i64 0,Value.int .u64 0,Value.int .i64 0,Value.int .i64 0]) 4 32:=OM (by kernel_rfl)
theorem zix:TI prog 247 (Value.agg #[Value.nilIface,Value.int .i64 0,Value.int .i64 0]) 3 32:=OM (by kernel_rfl)
theorem zdM:TI prog 258 (Value.agg #[Value.int .u64 0,Value.int .u64 0,Value.int .u64 0,Value.int .u64 0,Value.int .u64 0,Value.int .u64 0,Value.int .u64 0,Value.int .u64 0,Value.int .u64 0,Value.int .u64 0,Value.int .u64 0,Value.int .u64 0,Value.int .u64 0,Value.int .u64 0,Value.int .u64 0,Value.int .u64 0,Value.int .u64 0,Value.int .u64 0,Value.int .u64 0,Value.int .u64 0,Value.int .u64 0,Value.int .u64 0,Value.int .u64 0,Value.int .u64 0,Value.int .u64 0,Value.int .u64 0,Value.int .u64 0,Value.int .u64 0,Value.int .u64 0,Value.int .u64 0,Value.int .u64 0,Value.int .u64 0,Value.int .u64 0,Value.int .u64 0,Value.int .u64 0,Value.int .u64 0,Value.int .u64 0,Value.int .u64 0,Value.int .u64 0,Value.int .u64 0,Value.int .u64 0]) 41 328:=OM (by kernel_rfl)
theorem OL:TI prog 264 (Value.agg #[Value.bool false,Value.bool false,Value.int .i64 0]) 3 16:=OM (by kernel_rfl)
theorem PZ:TI prog 271 (Value.agg #[Value.slice none 0 0,Value.int .i64 0]) 2 32:=OM (by kernel_rfl)
theorem zgO:TI prog 272 (Value.agg #[Value.slice none 0 0,Value.int .i64 0,Value.slice none 0 0,Value.int .i64 0,Value.slice none 0 0,Value.int .i64 0,Value.slice none 0 0,Value.int .i64 0,Value.slice none 0 0,Value.int .i64 0,Value.slice none 0 0,Value.int .i64 0,Value.slice none 0 0,Value.int .i64 0,Value.slice none 0 0,Value.int .i64 0,Value.slice none 0 0,Value.int .i64 0,Value.slice none 0 0,Value.int .i64 0,Value.slice none 0 0,Value.int .i64 0,Value.slice none 0 0,Value.int .i64 0,Value.slice none 0 0,Value.int .i64 0,Value.slice none 0 0,Value.int .i64 0,Value.slice none 0 0,Value.int .i64 0,Value.slice none 0 0,Value.int .i64 0,Value.slice none 0 0,Value.int .i64 0]) 34 544:=OM (by kernel_rfl)
theorem zdD:TI prog 274 (Value.agg #[Value.slice none 0 0,Value.int .i64 0,Value.slice none 0 0,Value.int .i64 0,Value.slice none 0 0,Value.int .i64 0,Value.slice none 0 0,Value.int .i64 0,Value.slice none 0 0,Value.int .i64 0,Value.slice none 0 0,Value.int .i64 0,Value.slice none 0 0,Value.int .i64 0,Value.slice none 0 0,Value.int .i64 0,Value.slice none 0 0,Value.int .i64 0,Value.slice none 0 0,Value.int .i64 0,Value.slice none 0 0,Value.int .i64 0,Value.slice none 0 0,Value.int .i64 0,Value.slice none 0 0,Value.int .i64 0,Value.slice none 0 0,Value.int .i64 0,Value.slice none 0 0,Value.int .i64 0,Value.slice none 0 0,Value.int .i64 0,Value.slice none 0 0,Value.int .i64 0,Value.int .i64 0]) 35 552:=OM (by kernel_rfl)
theorem zg5:TI prog 276 (Value.agg #[Value.int .i64 0,Value.int .i64 0,Value.int .i64 0,Value.int .i64 0,Value.int .i64 0,Value.slice none 0 0,Value.int .i64 0,Value.slice none 0 0,Value.int .i64 0,Value.slice none 0 0,Value.int .i64 0,Value.slice none 0 0,Value.int .i64 0,Value.slice none 0 0,Value.int .i64 0,Value.slice none 0 0,Value.int .i64 0,Value.slice none 0 0,Value.int .i64 0,Value.slice none 0 0,Value.int .i64 0,Value.slice none 0 0,Value.int .i64 0,Value.slice none 0 0,Value.int .i64 0,Value.slice none 0 0,Value.int .i64 0,Value.slice none 0 0,Value.int .i64 0,Value.slice none 0 0,Value.int .i64 0,Value.slice none 0 0,Value.int .i64 0,Value.slice none 0 0,Value.int .i64 0,Value.slice none 0 0,Value.int .i64 0,Value.slice none 0 0,Value.int .i64 0,Value.int .i64 0,Value.pointer none,Value.int .i64 0,Value.int .i64 0]) 43 616:=OM (by kernel_rfl)
theorem Ta:TI prog 279 (Value.agg #[Value.int .i64 0,Value.int .i64 0,Value.int .i64 0]) 3 24:=OM (by kernel_rfl)
theorem zhg:TI prog 286 (Value.agg #[Value.slice none 0 0,Value.int .i64 0]) 2 32:=OM (by kernel_rfl)
theorem z1t:TI prog 291 (Value.pointer none) 1 8:=OM (by kernel_rfl)
theorem zhD:TI prog 295 (Value.agg #[Value.int .i64 0,Value.int .u64 0,Value.int .i64 0,Value.int .i64 0,Value.nilIface]) 5 48:=OM (by kernel_rfl)
theorem zdG:TI prog 299 (Value.pointer none) 1 8:=OM (by kernel_rfl)
theorem zaj:TI prog 314 (Value.slice none 0 0) 1 24:=OM (by kernel_rfl)
theorem PY:TI prog 317 (Value.agg #[Value.int .u8 0,Value.int .u64 0]) 2 16:=OM (by kernel_rfl)
theorem Ur:TI prog 319 (Value.agg #[Value.int .u8 0,Value.int .u64 0,Value.int .u64 0]) 3 24:=OM (by kernel_rfl)
theorem zfT:TI prog 324 (Value.agg #[Value.string ⟨#[]⟩,Value.int .i64 0]) 2 24:=OM (by kernel_rfl)
theorem zdu:TI prog 330 (Value.nilFunc) 1 8:=OM (by kernel_rfl)
theorem Rr:TI prog 332 (Value.agg #[Value.int .i64 0,Value.int .i64 0]) 2 16:=OM (by kernel_rfl)
theorem VA:TI prog 337 (Value.agg #[Value.int .i64 0,Value.string ⟨#[]⟩]) 2 24:=OM (by kernel_rfl)
theorem z00:TI prog 350 (Value.agg #[Value.int .i64 0,Value.int .i64 0]) 2 16:=OM (by kernel_rfl)
theorem RX:TI prog 353 (Value.agg #[Value.int .u64 0,Value.int .i64 0]) 2 16:=OM (by kernel_rfl)
theorem TG:TI prog 354 (Value.agg #[Value.int .u64 0,Value.int .i64 0,Value.int .u64 0,Value.int .i64 0]) 4 32:=OM (by kernel_rfl)
theorem zhy:TI prog 363 (Value.agg #[Value.pointer none,Value.bool false]) 2 16:=OM (by kernel_rfl)
theorem zgD:TI prog 377 (Value.agg #[Value.pointer none,Value.bool false]) 2 16:=OM (by kernel_rfl)
theorem z4a:TI prog 392 (Value.int .u64 0) 1 8:=OM (by kernel_rfl)
theorem zf4:PB prog 25 0 0 1 false:=⟨_,_,_,_,_,underlying25,rfl,rfl,Pb,underlying3,rfl⟩
theorem zf5:PB prog 25 1 1 1 false:=⟨_,_,_,_,_,underlying25,rfl,rfl,zjM,underlying22,rfl⟩
theorem zaY:PB prog 25 2 2 1 false:=⟨_,_,_,_,_,underlying25,rfl,rfl,Vg,underlying4,rfl⟩
theorem zfi:PB prog 25 3 3 1 false:=⟨_,_,_,_,_,underlying25,rfl,rfl,Pb,underlying3,rfl⟩
theorem zev:PB prog 25 4 4 1 false:=⟨_,_,_,_,_,underlying25,rfl,rfl,Pb,underlying3,rfl⟩
theorem zfn:PB prog 25 5 5 1 false:=⟨_,_,_,_,_,underlying25,rfl,rfl,Pb,underlying3,rfl⟩
theorem zfc:PB prog 25 6 6 1 false:=⟨_,_,_,_,_,underlying25,rfl,rfl,Pb,underlying3,rfl⟩
theorem zak:PB prog 25 7 7 1 false:=⟨_,_,_,_,_,underlying25,rfl,rfl,Si,underlying23,rfl⟩
theorem z5L:PB prog 32 1 1 1 false:=⟨_,_,_,_,_,underlying32,rfl,rfl,z92,underlying29,rfl⟩
theorem zah:PB prog 32 2 2 1 false:=⟨_,_,_,_,_,underlying32,rfl,rfl,zcl,underlying30,rfl⟩
theorem zeA:PB prog 32 4 4 1 false:=⟨_,_,_,_,_,underlying32,rfl,rfl,Pb,underlying3,rfl⟩
theorem zjq:SP prog 32 [(0,1),(1,1),(2,1),(3,1),(4,1)]:=⟨_,underlying32,λ_=>by simp[zet.size,z92.size,Pb.size,zcl.size,Sem.run_bind,Sem.run_pure]⟩
theorem zbF:PB prog 77 1 1 1 false:=⟨_,_,_,_,_,underlying77,rfl,rfl,Pb,underlying3,rfl⟩
theorem zb3:PB prog 77 2 2 1 false:=⟨_,_,_,_,_,underlying77,rfl,rfl,Pb,underlying3,rfl⟩
theorem zb2:PB prog 77 3 3 1 false:=⟨_,_,_,_,_,underlying77,rfl,rfl,Pb,underlying3,rfl⟩
theorem zjK:SP prog 77 [(0,1),(1,1),(2,1),(3,1),(4,1),(5,1),(6,1)]:=⟨_,underlying77,λ_=>by simp[Pb.size,Sem.run_bind,Sem.run_pure]⟩
theorem YA:PB prog 86 0 0 1 false:=⟨_,_,_,_,_,underlying86,rfl,rfl,Pb,underlying3,rfl⟩
theorem YD:PB prog 86 1 1 1 false:=⟨_,_,_,_,_,underlying86,rfl,rfl,Pb,underlying3,rfl⟩
theorem zk6:SP prog 86 [(0,1),(1,1)]:=⟨_,underlying86,λ_=>by simp[Pb.size,Sem.run_bind,Sem.run_pure]⟩
theorem z0x:PB prog 94 0 0 1 false:=⟨_,_,_,_,_,underlying94,rfl,rfl,Pb,underlying3,rfl⟩
theorem Ye:PB prog 94 1 1 1 false:=⟨_,_,_,_,_,underlying94,rfl,rfl,Pb,underlying3,rfl⟩
theorem z9C:PB prog 94 2 2 1 false:=⟨_,_,_,_,_,underlying94,rfl,rfl,Pb,underlying3,rfl⟩
theorem zaH:PB prog 94 3 3 1 false:=⟨_,_,_,_,_,underlying94,rfl,rfl,Pb,underlying3,rfl⟩
theorem SL:PB prog 94 4 4 1 false:=⟨_,_,_,_,_,underlying94,rfl,rfl,Pb,underlying3,rfl⟩
theorem zco:SP prog 94 [(0,1),(1,1),(2,1),(3,1),(4,1)]:=⟨_,underlying94,λ_=>by simp[Pb.size,Sem.run_bind,Sem.run_pure]⟩
theorem z0E:PB prog 97 0 0 1 false:=⟨_,_,_,_,_,underlying97,rfl,rfl,Pb,underlying3,rfl⟩
theorem ZJ:PB prog 97 1 1 1 false:=⟨_,_,_,_,_,underlying97,rfl,rfl,Vg,underlying4,rfl⟩
theorem SY:PB prog 100 0 0 2 true:=⟨_,_,_,_,_,underlying100,rfl,rfl,ziM,underlying97,rfl⟩
theorem Zc:PB prog 100 1 2 1 false:=⟨_,_,_,_,_,underlying100,rfl,rfl,zcl,underlying30,rfl⟩
theorem Zd:PB prog 100 2 3 1 false:=⟨_,_,_,_,_,underlying100,rfl,rfl,Pb,underlying3,rfl⟩
theorem zc8:PB prog 100 3 4 1 false:=⟨_,_,_,_,_,underlying100,rfl,rfl,Pb,underlying3,rfl⟩
theorem TW:PB prog 100 4 5 1 false:=⟨_,_,_,_,_,underlying100,rfl,rfl,Xj,underlying98,rfl⟩
theorem W7:PB prog 100 5 6 1 false:=⟨_,_,_,_,_,underlying100,rfl,rfl,Xj,underlying98,rfl⟩
theorem W5:PB prog 100 6 7 1 false:=⟨_,_,_,_,_,underlying100,rfl,rfl,Xj,underlying98,rfl⟩
theorem z6S:PB prog 100 7 8 1 false:=⟨_,_,_,_,_,underlying100,rfl,rfl,Vg,underlying4,rfl⟩
theorem ziF:SP prog 100 [(0,2),(2,1),(3,1),(4,1),(5,1),(6,1),(7,1),(8,1)]:=⟨_,underlying100,λ_=>by simp[Pb.size,zcl.size,Vg.size,ziM.size,Xj.size,Sem.run_bind,Sem.run_pure]⟩
theorem Ua:PB prog 114 0 0 1 false:=⟨_,_,_,_,_,underlying114,rfl,rfl,zet,underlying28,rfl⟩
theorem z2t:PB prog 114 1 1 1 false:=⟨_,_,_,_,_,underlying114,rfl,rfl,zhs,underlying51,rfl⟩
theorem z73:PB prog 114 2 2 1 false:=⟨_,_,_,_,_,underlying114,rfl,rfl,zef,underlying111,rfl⟩
theorem UP:PB prog 114 3 3 1 false:=⟨_,_,_,_,_,underlying114,rfl,rfl,zdI,underlying112,rfl⟩
theorem VO:PB prog 114 4 4 7 true:=⟨_,_,_,_,_,underlying114,rfl,rfl,zes,underlying77,rfl⟩
theorem z7r:PB prog 114 5 11 1 false:=⟨_,_,_,_,_,underlying114,rfl,rfl,Vg,underlying4,rfl⟩
theorem zib:SP prog 114 [(0,1),(1,1),(2,1),(3,1),(4,7),(11,1)]:=⟨_,underlying114,λ_=>by simp[zef.size,zdI.size,zet.size,Vg.size,zhs.size,zes.size,Sem.run_bind,Sem.run_pure]⟩
theorem Qc:PB prog 119 0 0 1 false:=⟨_,_,_,_,_,underlying119,rfl,rfl,Pb,underlying3,rfl⟩
theorem Qh:PB prog 119 1 1 1 false:=⟨_,_,_,_,_,underlying119,rfl,rfl,Pb,underlying3,rfl⟩
theorem zgh:SP prog 119 [(0,1),(1,1)]:=⟨_,underlying119,λ_=>by simp[Pb.size,Sem.run_bind,Sem.run_pure]⟩
theorem Wh:PB prog 125 0 0 1 false:=⟨_,_,_,_,_,underlying125,rfl,rfl,O7,underlying106,rfl⟩
theorem UJ:PB prog 125 1 1 1 false:=⟨_,_,_,_,_,underlying125,rfl,rfl,O7,underlying106,rfl⟩
theorem zdC:SP prog 125 [(0,1),(1,1)]:=⟨_,underlying125,λ_=>by simp[O7.size,Sem.run_bind,Sem.run_pure]⟩
theorem zbU:PB prog 130 0 0 1 false:=⟨_,_,_,_,_,underlying130,rfl,rfl,z5k,underlying43,rfl⟩
theorem zc3:PB prog 130 1 1 1 false:=⟨_,_,_,_,_,underlying130,rfl,rfl,Pb,underlying3,rfl⟩
theorem zbK:PB prog 130 2 2 1 false:=⟨_,_,_,_,_,underlying130,rfl,rfl,Us,underlying5,rfl⟩
theorem Zf:PB prog 132 0 0 1 false:=⟨_,_,_,_,_,underlying132,rfl,rfl,Pb,underlying3,rfl⟩
theorem zce:PB prog 132 1 1 3 true:=⟨_,_,_,_,_,underlying132,rfl,rfl,za4,underlying130,rfl⟩
theorem zfz:SP prog 132 [(0,1),(1,3)]:=⟨_,underlying132,λ_=>by simp[za4.size,Pb.size,Sem.run_bind,Sem.run_pure]⟩
theorem W1:PB prog 135 0 0 4 true:=⟨_,_,_,_,_,underlying135,rfl,rfl,z7m,underlying132,rfl⟩
theorem Zl:PB prog 135 1 4 2 true:=⟨_,_,_,_,_,underlying135,rfl,rfl,za2,underlying86,rfl⟩
theorem z2n:PB prog 135 2 6 1 false:=⟨_,_,_,_,_,underlying135,rfl,rfl,ze1,underlying128,rfl⟩
theorem XM:PB prog 135 3 7 1 false:=⟨_,_,_,_,_,underlying135,rfl,rfl,z7w,underlying133,rfl⟩
theorem z2L:PB prog 135 4 8 1 false:=⟨_,_,_,_,_,underlying135,rfl,rfl,Vg,underlying4,rfl⟩
theorem z7s:PB prog 135 5 9 1 false:=⟨_,_,_,_,_,underlying135,rfl,rfl,Pb,underlying3,rfl⟩
theorem z6A:PB prog 135 6 10 1 false:=⟨_,_,_,_,_,underlying135,rfl,rfl,Pb,underlying3,rfl⟩
theorem zfD:SP prog 135 [(0,4),(4,2),(6,1),(7,1),(8,1),(9,1),(10,1)]:=⟨_,underlying135,λ_=>by simp[ze1.size,z7m.size,z7w.size,Pb.size,Vg.size,za2.size,Sem.run_bind,Sem.run_pure]⟩
theorem z6q:PB prog 138 0 0 1 false:=⟨_,_,_,_,_,underlying138,rfl,rfl,Pb,underlying3,rfl⟩
theorem U1:PB prog 138 1 1 1 false:=⟨_,_,_,_,_,underlying138,rfl,rfl,zd8,underlying136,rfl⟩
theorem zbX:PB prog 138 3 3 1 false:=⟨_,_,_,_,_,underlying138,rfl,rfl,Vg,underlying4,rfl⟩
theorem zfX:SP prog 138 [(0,1),(1,1),(2,1),(3,1)]:=⟨_,underlying138,λ_=>by simp[zd8.size,Pb.size,Vg.size,Sem.run_bind,Sem.run_pure]⟩
theorem Zj:PB prog 155 0 0 1 false:=⟨_,_,_,_,_,underlying155,rfl,rfl,Pb,underlying3,rfl⟩
theorem UC:PB prog 155 1 1 1 false:=⟨_,_,_,_,_,underlying155,rfl,rfl,Pb,underlying3,rfl⟩
theorem Xi:PB prog 155 2 2 1 false:=⟨_,_,_,_,_,underlying155,rfl,rfl,Pb,underlying3,rfl⟩
theorem zg1:SP prog 155 [(0,1),(1,1),(2,1)]:=⟨_,underlying155,λ_=>by simp[Pb.size,Sem.run_bind,Sem.run_pure]⟩
theorem R6:PB prog 157 0 0 3 true:=⟨_,_,_,_,_,underlying157,rfl,rfl,XA,underlying155,rfl⟩
theorem ZC:PB prog 157 1 3 2 true:=⟨_,_,_,_,_,underlying157,rfl,rfl,Qf,underlying119,rfl⟩
theorem We:PB prog 157 2 5 1 false:=⟨_,_,_,_,_,underlying157,rfl,rfl,z92,underlying29,rfl⟩
theorem z6G:PB prog 157 3 6 1 false:=⟨_,_,_,_,_,underlying157,rfl,rfl,Vg,underlying4,rfl⟩
theorem zhR:SP prog 157 [(0,3),(3,2),(5,1),(6,1)]:=⟨_,underlying157,λ_=>by simp[Qf.size,XA.size,z92.size,Vg.size,Sem.run_bind,Sem.run_pure]⟩
theorem Ti:PB prog 160 0 0 1 false:=⟨_,_,_,_,_,underlying160,rfl,rfl,Pb,underlying3,rfl⟩
theorem z2J:PB prog 160 1 1 1 false:=⟨_,_,_,_,_,underlying160,rfl,rfl,Pb,underlying3,rfl⟩
theorem Xo:PB prog 160 2 2 5 true:=⟨_,_,_,_,_,underlying160,rfl,rfl,QJ,underlying94,rfl⟩
theorem TZ:PB prog 160 3 7 1 false:=⟨_,_,_,_,_,underlying160,rfl,rfl,Pb,underlying3,rfl⟩
theorem zdh:SP prog 160 [(0,1),(1,1),(2,5),(7,1)]:=⟨_,underlying160,λ_=>by simp[Pb.size,QJ.size,Sem.run_bind,Sem.run_pure]⟩
theorem VZ:PB prog 165 0 0 8 true:=⟨_,_,_,_,_,underlying165,rfl,rfl,T7,underlying160,rfl⟩
theorem zcG:PB prog 165 1 8 1 false:=⟨_,_,_,_,_,underlying165,rfl,rfl,z1k,underlying162,rfl⟩
theorem z7f:PB prog 165 2 9 1 false:=⟨_,_,_,_,_,underlying165,rfl,rfl,zdW,underlying163,rfl⟩
theorem zio:SP prog 165 [(0,8),(8,1),(9,1)]:=⟨_,underlying165,λ_=>by simp[T7.size,z1k.size,zdW.size,Sem.run_bind,Sem.run_pure]⟩
theorem Zv:PB prog 175 1 1 1 false:=⟨_,_,_,_,_,underlying175,rfl,rfl,Va,underlying105,rfl⟩
theorem Pr:PB prog 190 0 0 1 false:=⟨_,_,_,_,_,underlying190,rfl,rfl,z5k,underlying43,rfl⟩
theorem XH:PB prog 190 1 1 1 false:=⟨_,_,_,_,_,underlying190,rfl,rfl,z6U,underlying188,rfl⟩
theorem Rz:PB prog 192 0 0 1 false:=⟨_,_,_,_,_,underlying192,rfl,rfl,Pb,underlying3,rfl⟩
theorem PM:PB prog 192 1 1 2 true:=⟨_,_,_,_,_,underlying192,rfl,rfl,z4I,underlying190,rfl⟩
theorem Qu:PB prog 192 2 3 2 true:=⟨_,_,_,_,_,underlying192,rfl,rfl,z4I,underlying190,rfl⟩
theorem Q0:PB prog 192 3 5 2 true:=⟨_,_,_,_,_,underlying192,rfl,rfl,z4I,underlying190,rfl⟩
theorem Qo:PB prog 192 4 7 2 true:=⟨_,_,_,_,_,underlying192,rfl,rfl,z4I,underlying190,rfl⟩
theorem Qn:PB prog 192 5 9 1 false:=⟨_,_,_,_,_,underlying192,rfl,rfl,Pb,underlying3,rfl⟩
theorem Zu:PB prog 192 6 10 1 false:=⟨_,_,_,_,_,underlying192,rfl,rfl,z6U,underlying188,rfl⟩
theorem zhn:SP prog 192 [(0,1),(1,2),(3,2),(5,2),(7,2),(9,1),(10,1)]:=⟨_,underlying192,λ_=>by simp[z6U.size,z4I.size,Pb.size,Sem.run_bind,Sem.run_pure]⟩
theorem TV:PB prog 198 0 0 1 false:=⟨_,_,_,_,_,underlying198,rfl,rfl,z92,underlying29,rfl⟩
theorem Tc:PB prog 198 1 1 2 true:=⟨_,_,_,_,_,underlying198,rfl,rfl,Qf,underlying119,rfl⟩
theorem zej:SP prog 198 [(0,1),(1,2)]:=⟨_,underlying198,λ_=>by simp[Qf.size,z92.size,Sem.run_bind,Sem.run_pure]⟩
theorem VT:PB prog 200 0 0 3 true:=⟨_,_,_,_,_,underlying200,rfl,rfl,Wq,underlying198,rfl⟩
theorem S0:PB prog 200 1 3 1 false:=⟨_,_,_,_,_,underlying200,rfl,rfl,Va,underlying105,rfl⟩
theorem XQ:PB prog 200 2 4 1 false:=⟨_,_,_,_,_,underlying200,rfl,rfl,Pb,underlying3,rfl⟩
theorem Zt:PB prog 200 3 5 1 false:=⟨_,_,_,_,_,underlying200,rfl,rfl,Pb,underlying3,rfl⟩
theorem z2i:PB prog 200 4 6 1 false:=⟨_,_,_,_,_,underlying200,rfl,rfl,O7,underlying106,rfl⟩
theorem ZB:PB prog 200 5 7 1 false:=⟨_,_,_,_,_,underlying200,rfl,rfl,zeL,underlying60,rfl⟩
theorem Xl:PB prog 200 6 8 1 false:=⟨_,_,_,_,_,underlying200,rfl,rfl,Vg,underlying4,rfl⟩
theorem zdU:SP prog 200 [(0,3),(3,1),(4,1),(5,1),(6,1),(7,1),(8,1)]:=⟨_,underlying200,λ_=>by simp[Va.size,O7.size,Wq.size,Pb.size,Vg.size,zeL.size,Sem.run_bind,Sem.run_pure]⟩
theorem XS:PB prog 205 0 0 3 true:=⟨_,_,_,_,_,underlying205,rfl,rfl,Wq,underlying198,rfl⟩
theorem ZA:PB prog 205 1 3 1 false:=⟨_,_,_,_,_,underlying205,rfl,rfl,Pb,underlying3,rfl⟩
theorem zcN:PB prog 205 2 4 1 false:=⟨_,_,_,_,_,underlying205,rfl,rfl,O7,underlying106,rfl⟩
theorem zi7:SP prog 205 [(0,3),(3,1),(4,1)]:=⟨_,underlying205,λ_=>by simp[O7.size,Wq.size,Pb.size,Sem.run_bind,Sem.run_pure]⟩
theorem z2w:PB prog 216 0 0 1 false:=⟨_,_,_,_,_,underlying216,rfl,rfl,ZF,underlying9,rfl⟩
theorem z2f:PB prog 216 1 1 1 false:=⟨_,_,_,_,_,underlying216,rfl,rfl,Vg,underlying4,rfl⟩
theorem zil:SP prog 216 [(0,1),(1,1)]:=⟨_,underlying216,λ_=>by simp[Vg.size,ZF.size,Sem.run_bind,Sem.run_pure]⟩
theorem UG:PB prog 218 0 0 2 true:=⟨_,_,_,_,_,underlying218,rfl,rfl,z6y,underlying216,rfl⟩
theorem zcf:PB prog 218 1 2 1 false:=⟨_,_,_,_,_,underlying218,rfl,rfl,Pb,underlying3,rfl⟩
theorem zgb:SP prog 218 [(0,2),(2,1)]:=⟨_,underlying218,λ_=>by simp[z6y.size,Pb.size,Sem.run_bind,Sem.run_pure]⟩
theorem zcP:PB prog 229 0 0 1 false:=⟨_,_,_,_,_,underlying229,rfl,rfl,Pb,underlying3,rfl⟩
theorem zcR:PB prog 229 1 1 1 false:=⟨_,_,_,_,_,underlying229,rfl,rfl,Pb,underlying3,rfl⟩
theorem YJ:SP prog 229 [(0,1),(1,1)]:=⟨_,underlying229,λ_=>by simp[Pb.size,Sem.run_bind,Sem.run_pure]⟩
theorem XG:PB prog 234 0 0 1 false:=⟨_,_,_,_,_,underlying234,rfl,rfl,Pb,underlying3,rfl⟩
theorem zbS:PB prog 234 1 1 1 false:=⟨_,_,_,_,_,underlying234,rfl,rfl,Si,underlying23,rfl⟩
theorem Ss:PB prog 234 2 2 1 false:=⟨_,_,_,_,_,underlying234,rfl,rfl,Pb,underlying3,rfl⟩
theorem Xx:PB prog 234 3 3 1 false:=⟨_,_,_,_,_,underlying234,rfl,rfl,Pb,underlying3,rfl⟩
theorem zga:SP prog 234 [(0,1),(1,1),(2,1),(3,1)]:=⟨_,underlying234,λ_=>by simp[Si.size,Pb.size,Sem.run_bind,Sem.run_pure]⟩
theorem zcD:PB prog 247 0 0 1 false:=⟨_,_,_,_,_,underlying247,rfl,rfl,z1k,underlying162,rfl⟩
theorem zbN:PB prog 247 1 1 1 false:=⟨_,_,_,_,_,underlying247,rfl,rfl,Pb,underlying3,rfl⟩
theorem z2z:PB prog 247 2 2 1 false:=⟨_,_,_,_,_,underlying247,rfl,rfl,Pb,underlying3,rfl⟩
theorem zh0:SP prog 247 [(0,1),(1,1),(2,1)]:=⟨_,underlying247,λ_=>by simp[z1k.size,Pb.size,Sem.run_bind,Sem.run_pure]⟩
theorem zcW:PB prog 264 0 0 1 false:=⟨_,_,_,_,_,underlying264,rfl,rfl,Vg,underlying4,rfl⟩
theorem zck:PB prog 264 1 1 1 false:=⟨_,_,_,_,_,underlying264,rfl,rfl,Vg,underlying4,rfl⟩
theorem z2A:PB prog 264 2 2 1 false:=⟨_,_,_,_,_,underlying264,rfl,rfl,Pb,underlying3,rfl⟩
theorem UX:SP prog 264 [(0,1),(1,1),(2,1)]:=⟨_,underlying264,λ_=>by simp[Pb.size,Vg.size,Sem.run_bind,Sem.run_pure]⟩
theorem Rw:PB prog 271 0 0 1 false:=⟨_,_,_,_,_,underlying271,rfl,rfl,Ro,underlying49,rfl⟩
theorem z2o:PB prog 271 1 1 1 false:=⟨_,_,_,_,_,underlying271,rfl,rfl,Pb,underlying3,rfl⟩
theorem zdK:SP prog 271 [(0,1),(1,1)]:=⟨_,underlying271,λ_=>by simp[Pb.size,Ro.size,Sem.run_bind,Sem.run_pure]⟩
theorem z6Z:PB prog 274 0 0 34 true:=⟨_,_,_,_,_,underlying274,rfl,rfl,zgO,underlying272,rfl⟩
theorem TY:PB prog 274 1 34 1 false:=⟨_,_,_,_,_,underlying274,rfl,rfl,Pb,underlying3,rfl⟩
theorem VY:PB prog 276 0 0 5 true:=⟨_,_,_,_,_,underlying276,rfl,rfl,QJ,underlying94,rfl⟩
theorem XC:PB prog 276 1 5 35 true:=⟨_,_,_,_,_,underlying276,rfl,rfl,zdD,underlying274,rfl⟩
theorem z2P:PB prog 276 2 40 1 false:=⟨_,_,_,_,_,underlying276,rfl,rfl,z6M,underlying227,rfl⟩
theorem z27:PB prog 276 3 41 1 false:=⟨_,_,_,_,_,underlying276,rfl,rfl,Pb,underlying3,rfl⟩
theorem zcI:PB prog 276 4 42 1 false:=⟨_,_,_,_,_,underlying276,rfl,rfl,Pb,underlying3,rfl⟩
theorem zgm:SP prog 276 [(0,5),(5,35),(40,1),(41,1),(42,1)]:=⟨_,underlying276,λ_=>by simp[z6M.size,zdD.size,Pb.size,QJ.size,Sem.run_bind,Sem.run_pure]⟩
theorem So:PB prog 279 0 0 1 false:=⟨_,_,_,_,_,underlying279,rfl,rfl,Pb,underlying3,rfl⟩
theorem Tf:PB prog 279 1 1 1 false:=⟨_,_,_,_,_,underlying279,rfl,rfl,Pb,underlying3,rfl⟩
theorem Zn:PB prog 279 2 2 1 false:=⟨_,_,_,_,_,underlying279,rfl,rfl,Pb,underlying3,rfl⟩
theorem zhC:SP prog 279 [(0,1),(1,1),(2,1)]:=⟨_,underlying279,λ_=>by simp[Pb.size,Sem.run_bind,Sem.run_pure]⟩
theorem Xg:PB prog 286 0 0 1 false:=⟨_,_,_,_,_,underlying286,rfl,rfl,Va,underlying105,rfl⟩
theorem VQ:PB prog 286 1 1 1 false:=⟨_,_,_,_,_,underlying286,rfl,rfl,Pb,underlying3,rfl⟩
theorem zhH:SP prog 286 [(0,1),(1,1)]:=⟨_,underlying286,λ_=>by simp[Va.size,Pb.size,Sem.run_bind,Sem.run_pure]⟩
theorem Rx:PB prog 295 0 0 4 true:=⟨_,_,_,_,_,underlying295,rfl,rfl,Sy,underlying234,rfl⟩
theorem z2N:PB prog 295 1 4 1 false:=⟨_,_,_,_,_,underlying295,rfl,rfl,z1k,underlying162,rfl⟩
theorem zgH:SP prog 295 [(0,4),(4,1)]:=⟨_,underlying295,λ_=>by simp[z1k.size,Sy.size,Sem.run_bind,Sem.run_pure]⟩
theorem Rm:PB prog 317 0 0 1 false:=⟨_,_,_,_,_,underlying317,rfl,rfl,Us,underlying5,rfl⟩
theorem VJ:PB prog 317 1 1 1 false:=⟨_,_,_,_,_,underlying317,rfl,rfl,Si,underlying23,rfl⟩
theorem zdg:SP prog 317 [(0,1),(1,1)]:=⟨_,underlying317,λ_=>by simp[Si.size,Us.size,Sem.run_bind,Sem.run_pure]⟩
theorem z6v:PB prog 319 0 0 2 true:=⟨_,_,_,_,_,underlying319,rfl,rfl,PY,underlying317,rfl⟩
theorem z6F:PB prog 319 1 2 1 false:=⟨_,_,_,_,_,underlying319,rfl,rfl,Si,underlying23,rfl⟩
theorem zdS:SP prog 319 [(0,2),(2,1)]:=⟨_,underlying319,λ_=>by simp[Si.size,PY.size,Sem.run_bind,Sem.run_pure]⟩
theorem z2D:PB prog 324 0 0 1 false:=⟨_,_,_,_,_,underlying324,rfl,rfl,ZF,underlying9,rfl⟩
theorem U7:PB prog 324 1 1 1 false:=⟨_,_,_,_,_,underlying324,rfl,rfl,Pb,underlying3,rfl⟩
theorem zg4:SP prog 324 [(0,1),(1,1)]:=⟨_,underlying324,λ_=>by simp[Pb.size,ZF.size,Sem.run_bind,Sem.run_pure]⟩
theorem Sx:PB prog 332 0 0 1 false:=⟨_,_,_,_,_,underlying332,rfl,rfl,Pb,underlying3,rfl⟩
theorem Ru:PB prog 332 1 1 1 false:=⟨_,_,_,_,_,underlying332,rfl,rfl,Pb,underlying3,rfl⟩
theorem z9H:SP prog 332 [(0,1),(1,1)]:=⟨_,underlying332,λ_=>by simp[Pb.size,Sem.run_bind,Sem.run_pure]⟩
theorem Zm:PB prog 337 0 0 1 false:=⟨_,_,_,_,_,underlying337,rfl,rfl,Pb,underlying3,rfl⟩
theorem z2p:PB prog 337 1 1 1 false:=⟨_,_,_,_,_,underlying337,rfl,rfl,ZF,underlying9,rfl⟩
theorem zi1:SP prog 337 [(0,1),(1,1)]:=⟨_,underlying337,λ_=>by simp[Pb.size,ZF.size,Sem.run_bind,Sem.run_pure]⟩
theorem z2x:PB prog 350 0 0 1 false:=⟨_,_,_,_,_,underlying350,rfl,rfl,Pb,underlying3,rfl⟩
theorem z6Q:PB prog 350 1 1 1 false:=⟨_,_,_,_,_,underlying350,rfl,rfl,Pb,underlying3,rfl⟩
theorem zfY:SP prog 350 [(0,1),(1,1)]:=⟨_,underlying350,λ_=>by simp[Pb.size,Sem.run_bind,Sem.run_pure]⟩
theorem z6R:PB prog 353 0 0 1 false:=⟨_,_,_,_,_,underlying353,rfl,rfl,Si,underlying23,rfl⟩
theorem Zw:PB prog 353 1 1 1 false:=⟨_,_,_,_,_,underlying353,rfl,rfl,Pb,underlying3,rfl⟩
theorem z9S:SP prog 353 [(0,1),(1,1)]:=⟨_,underlying353,λ_=>by simp[Si.size,Pb.size,Sem.run_bind,Sem.run_pure]⟩
theorem zcw:PB prog 363 0 0 1 false:=⟨_,_,_,_,_,underlying363,rfl,rfl,z1t,underlying291,rfl⟩
theorem SU:PB prog 363 1 1 1 false:=⟨_,_,_,_,_,underlying363,rfl,rfl,Vg,underlying4,rfl⟩
theorem zhS:SP prog 363 [(0,1),(1,1)]:=⟨_,underlying363,λ_=>by simp[z1t.size,Vg.size,Sem.run_bind,Sem.run_pure]⟩
theorem zcd:PB prog 377 0 0 1 false:=⟨_,_,_,_,_,underlying377,rfl,rfl,z1t,underlying291,rfl⟩
theorem Zb:PB prog 377 1 1 1 false:=⟨_,_,_,_,_,underlying377,rfl,rfl,Vg,underlying4,rfl⟩
theorem ziO:SP prog 377 [(0,1),(1,1)]:=⟨_,underlying377,λ_=>by simp[z1t.size,Vg.size,Sem.run_bind,Sem.run_pure]⟩
def cf6:=ON func6
def cf7:=ON func7
def cf8:=ON func8
def cf9:=ON func9
def zcx:=ON func10
def zjI:=ON func11
def zjQ:=ON func12
def zjW:=ON func13
def zhX:=ON func14
def ziu:=ON func15
def zjc:=ON func16
def zj2:=ON func17
def zhl:=ON func18
def zjh:=ON func19
def zjU:=ON func22
def zjO:=ON func29
def zj5:=ON func30
def zkd:=ON func31
def zjP:=ON func32
def zjA:=ON func33
def zjb:=ON func34
def zgZ:=ON func35
def zfC:=ON func36
def zjL:=ON func37
def zf3:=ON func38
def zjt:=ON func39
def zbH:=ON func40
def zjD:=ON func41
def zj7:=ON func42
def zfd:=ON func43
def zk2:=ON func44
def zjf:=ON func45
def zkk:=ON func46
def zf0:=ON func47
def zbV:=ON func48
def zhI:=ON func49
def zkc:=ON func53
def zkq:=ON func61
def zk0:=ON func62
def zko:=ON func63
def zjY:=ON func64
def zka:=ON func65
def z3a:=ON func66
def zgs:=ON func67
def zjx:=ON func68
def zkp:=ON func69
def zjS:=ON func70
def zk1:=ON func71
def zj6:=ON func72
def zhp:=ON func73
def zju:=ON func74
def zk9:=ON func75
def zjj:=ON func76
def zjv:=ON func77
def zjn:=ON func78
def zgY:=ON func79
def zjm:=ON func80
def zjF:=ON func81
def zaM:=ON func82
def zi2:=ON func83
def zca:=ON func84
def zfB:=ON func85
def zjo:=ON func86
def zkj:=ON func87
def zkr:=ON func88
def zji:=ON func95
def zkm:=ON func96
def zke:=ON func97
def zjJ:=ON func98
def zkh:=ON func99
def zaW:=ON func100
def ziY:=ON func101
def zdm:=ON func102
def ze8:=ON func103
def zaa:=ON func104
def zbA:=ON func105
def zel:=ON func106
def zgn:=ON func107
def zed:=ON func108
def zdL:=ON func109
def zdq:=ON func110
def zem:=ON func111
def zhv:=ON func112
def ze6:=ON func113
def z71:=ON func114
def zaX:=ON func115
def zfV:=ON func116
def zhE:=ON func117
def ziG:=ON func118
def z7t:=ON func119
def zbj:=ON func120
def zdT:=ON func121
def zhT:=ON func122
def zd7:=ON func123
def zfr:=ON func124
def zd3:=ON func125
def zde:=ON func126
def zgj:=ON func127
def ziJ:=ON func128
def zh6:=ON func130
def zgc:=ON func131
def zgW:=ON func132
def ziH:=ON func133
def zhZ:=ON func134
def zab:=ON func135
def z0O:=ON func136
def Vz:=ON func137
def z7b:=ON func138
def zhm:=ON func139
def za6:=ON func140
def z1K:=ON func141
def ze2:=ON func142
def zds:=ON func143
def z4x:=ON func144
def zid:=ON func145
def ziR:=ON func146
def zfy:=ON func147
def zhk:=ON func148
def zir:=ON func149
def zfv:=ON func150
def zhW:=ON func155
def zhJ:=ON func156
def zhz:=ON func157
def z9V:=ON func158
def z1V:=ON func159
def zfu:=ON func160
def zhQ:=ON func161
def zfW:=ON func162
def zfK:=ON func163
def zgu:=ON func164
def zgr:=ON func166
def zif:=ON func167
def zgx:=ON func168
def zdY:=ON func170
def z3Q:=ON func171
def z0G:=ON func172
def zgg:=ON func173
def z6E:=ON func174
def zd5:=ON func175
def zhq:=ON func176
def zfU:=ON func177
def zfJ:=ON func178
def zit:=ON func179
def z6C:=ON func180
def YV:=ON func181
def z4v:=ON func182
def zi0:=ON func183
def z7g:=ON func184
def zdJ:=ON func185
def zh9:=ON func187
def zdQ:=ON func189
def Wu:=ON func190
def RY:=ON func191
def zhj:=ON func192
def zht:=ON func193
def zh8:=ON func195
def zii:=ON func196
def zgF:=ON func197
def zgv:=ON func198
def Sz:=ON func199
def XP:=ON func200
def zeb:=ON func201
def z0i:=ON func202
def z9W:=ON func203
def zgK:=ON func204
def zdP:=ON func205
def zdo:=ON func206
def zfS:=ON func207
def z4j:=ON func208
def zgM:=ON func209
def zea:=ON func210
def zdH:=ON func211
def zhO:=ON func212
def zfI:=ON func213
def zik:=ON func214
def zg3:=ON func215
def zek:=ON func216
def zdw:=ON func218
def zgw:=ON func219
def zhr:=ON func220
def ziS:=ON func221
def zda:=ON func222
def zhx:=ON func223
def zhA:=ON func224
def Xv:=ON func225
def zhb:=ON func226
def zfR:=ON func227
def zi6:=ON func228
def zdn:=ON func229
def z6x:=ON func230
def z3Z:=ON func231
def Y4:=ON func232
def zhG:=ON func233
def z4b:=ON func234
def ziv:=ON func235
def zdl:=ON func236
def ziz:=ON func237
def ze9:=ON func238
def zdi:=ON func239
def zgB:=ON func240
def zdv:=ON func241
def zhF:=ON func242
def zis:=ON func243
def z9O:=ON func244
def zfM:=ON func245
def ziV:=ON func246
def z3L:=ON func247
def zee:=ON func248
def ziN:=ON func249
def zdt:=ON func250
def zby:=ON func251
def zh3:=ON func252
def zgo:=ON func253
def zij:=ON func254
def ziK:=ON func255
def zfw:=ON func256
def zfG:=ON func257
def zfL:=ON func258
def zhd:=ON func259
def z1I:=ON func260
def zd4:=ON func261
def zav:=ON func262
def zhU:=ON func263
def zgT:=ON func264
def zbf:=ON func265
def zic:=ON func266
def z7o:=ON func267
def zg2:=ON func268
def zfH:=ON func269
def zh2:=ON func270
def zgS:=ON func271
def zhV:=ON func272
def ziI:=ON func273
def zgN:=ON func274
def Vf:=ON func275
def zi5:=ON func276
def ziD:=ON func277
def zdF:=ON func278
def zhN:=ON func279
def zhL:=ON func280
def zg7:=ON func282
def zho:=ON func283
def zaU:=ON func284
def zhP:=ON func305
def zh7:=ON func306
def zi8:=ON func308
def zhM:=ON func309
def wtr (ops:List Oper)(i:Nat):List Nat:=(List.range ops.length).foldl (λa j=>match ops[j]? with|some o=>if o.after.any (λx=>Region.binds .any x&&(x.on==i ||a.contains x.on)) then a++[j] else a|none=>a) []
section
variable {D:RC}{l:List Oper}{e:Env}{w w':World}{d:Nat}{op:Op}{ty:TypeId}{pos:String}{aft:Array Edge}{g:Option (Nat×Bool)}{v:Value}
theorem qV (hy:Y D.C.P e ⟨some d,op,ty,pos,aft,g⟩ v w w')(h:RL D l ((d,v)::e) w')(ho:Sn D e g true=true:=by exact rfl)(hd:Nat.blt d D.C.n=true:=by exact rfl):RL D (⟨some d,op,ty,pos,aft,g⟩::l) e w:=Ub ho hd hy h
theorem qS (h:RL D l ((d,undef)::e) w)(ho:Sn D e g false=true:=by exact rfl)(hd:Nat.blt d D.C.n=true:=by exact rfl):RL D (⟨some d,op,ty,pos,aft,g⟩::l) e w:=zgR ho hd h
theorem NT {x:Operand}(hx:look e x=some v)(h:RL D l ((d,v)::e) w)(ho:Sn D e g true=true:=by exact rfl)(hd:Nat.blt d D.C.n=true:=by exact rfl):RL D (⟨some d,.move x,ty,pos,aft,g⟩::l) e w:=Ub ho hd (Wi hx) h
theorem Oc {x:Operand}(hx:look e x=some v)(h:RL D l ((d,v)::e) w)(ho:Sn D e g true=true:=by exact rfl)(hd:Nat.blt d D.C.n=true:=by exact rfl):RL D (⟨some d,.assign x,ty,pos,aft,g⟩::l) e w:=Ub ho hd (Qq hx) h
theorem P6 {x y:Operand}{t t':TypeId}{a b:Int}(hx:look e x=some (I a))(hy:look e y=some (I b))(h:RL D l ((d,I (a+b))::e) w)(hb: -9223372036854775808<=a+b/\a+b<=9223372036854775807:=by omega)(ho:Sn D e g true=true:=by exact rfl)(hd:Nat.blt d D.C.n=true:=by exact rfl):RL D (⟨some d,.binOp .add t x y t',ty,pos,aft,g⟩::l) e w:=Ub ho hd (TK hx hy hb) h
theorem Om {f:FuncId}{vs:List Value}{S:Value->World->Prop}{ts:Array TypeId}{args:List Operand}(hf:CF D.C.P f)(ha:looks e args=some vs)(hc:Oy D.C.P f vs w S)(h:∀v w',S v w'->RL D l ((d,v)::e) w')(ho:Sn D e g true=true:=by exact rfl)(hd:Nat.blt d D.C.n=true:=by exact rfl):RL D (⟨some d,.call ⟨.value (.func f),args.toArray,ts⟩,ty,pos,aft,g⟩::l) e w:=PG ho hd (yc hf ha) hc h
theorem Qs {p:Prop}[hp:Decidable p](hr:RL D l ((d,.bool true)::e) w)(h:p:=by first|rfl|assumption|omega|decide):RL D l ((d,.bool (decide p))::e) w:=ziw h hr
theorem OR {p:Prop}[hp:Decidable p](hr:RL D l ((d,.bool false)::e) w)(h:¬p:=by first|exact λh=>h O|assumption|omega):RL D l ((d,.bool (decide p))::e) w:=zey h hr
theorem Py {x y:Operand}{t t':TypeId}{k:IntKind}{a b:Int}(hx:look e x=some (.int k a))(hy:look e y=some (.int k b))(h:RL D l ((d,.bool (decide (a<b)))::e) w)(ho:Sn D e g true=true:=by exact rfl)(hd:Nat.blt d D.C.n=true:=by exact rfl):RL D (⟨some d,.binOp .lss t x y t',ty,pos,aft,g⟩::l) e w:=Ub ho hd (ZR hx hy) h
theorem zle {x y:Operand}{t t':TypeId}{k:IntKind}{a b:Int}(hx:look e x=some (.int k a))(hy:look e y=some (.int k b))(h:RL D l ((d,.bool (decide (a<=b)))::e) w)(ho:Sn D e g true=true:=by exact rfl)(hd:Nat.blt d D.C.n=true:=by exact rfl):RL D (⟨some d,.binOp .leq t x y t',ty,pos,aft,g⟩::l) e w:=Ub ho hd (Y6 hx hy) h
theorem PD {x y:Operand}{t t':TypeId}{k:IntKind}{a b:Int}(hx:look e x=some (.int k a))(hy:look e y=some (.int k b))(h:RL D l ((d,.bool (decide (b<a)))::e) w)(ho:Sn D e g true=true:=by exact rfl)(hd:Nat.blt d D.C.n=true:=by exact rfl):RL D (⟨some d,.binOp .gtr t x y t',ty,pos,aft,g⟩::l) e w:=Ub ho hd (Xq hx hy) h
theorem SB {x y:Operand}{t t':TypeId}{k:IntKind}{a b:Int}(hx:look e x=some (.int k a))(hy:look e y=some (.int k b))(h:RL D l ((d,.bool (decide (b<=a)))::e) w)(ho:Sn D e g true=true:=by exact rfl)(hd:Nat.blt d D.C.n=true:=by exact rfl):RL D (⟨some d,.binOp .geq t x y t',ty,pos,aft,g⟩::l) e w:=Ub ho hd (yge hx hy) h
theorem Qe {x y:Operand}{t t':TypeId}{k:IntKind}{a b:Int}(hx:look e x=some (.int k a))(hy:look e y=some (.int k b))(h:RL D l ((d,.bool (decide (a=b)))::e) w)(ho:Sn D e g true=true:=by exact rfl)(hd:Nat.blt d D.C.n=true:=by exact rfl):RL D (⟨some d,.binOp .eql t x y t',ty,pos,aft,g⟩::l) e w:=Ub ho hd (yeq hx hy) h
theorem Pz {x y:Operand}{t t':TypeId}{k:IntKind}{a b:Int}(hx:look e x=some (.int k a))(hy:look e y=some (.int k b))(h:RL D l ((d,.bool (decide (a≠b)))::e) w)(ho:Sn D e g true=true:=by exact rfl)(hd:Nat.blt d D.C.n=true:=by exact rfl):RL D (⟨some d,.binOp .neq t x y t',ty,pos,aft,g⟩::l) e w:=Ub ho hd (yne hx hy) h
theorem PT {c x y:Operand}(hc:look e c=some (.bool true))(hx:look e x=some v)(h:RL D l ((d,v)::e) w)(ho:Sn D e g true=true:=by exact rfl)(hd:Nat.blt d D.C.n=true:=by exact rfl):RL D (⟨some d,.pick c x y,ty,pos,aft,g⟩::l) e w:=Ub ho hd (TL hc hx) h
theorem OU {c x y:Operand}(hc:look e c=some (.bool false))(hy:look e y=some v)(h:RL D l ((d,v)::e) w)(ho:Sn D e g true=true:=by exact rfl)(hd:Nat.blt d D.C.n=true:=by exact rfl):RL D (⟨some d,.pick c x y,ty,pos,aft,g⟩::l) e w:=Ub ho hd (TA hc hy) h
theorem P9 {x:Operand}{vs:Array Value}{i:Nat}(hx:look e x=some (.tuple vs))(hv:vs[i]? =some v)(h:RL D l ((d,v)::e) w)(ho:Sn D e g true=true:=by exact rfl)(hd:Nat.blt d D.C.n=true:=by exact rfl):RL D (⟨some d,.extract x i,ty,pos,aft,g⟩::l) e w:=Ub ho hd (QL hx hv) h
theorem Og {t:TypeId}{i off n b m:Nat}{agg:Bool}{x:Operand}(hf:PB D.C.P t i off (n+1) agg)(hx:look e x=some (ptr b m))(h:RL D l ((d,ptr b (m+off))::e) w)(ho:Sn D e g true=true:=by exact rfl)(hd:Nat.blt d D.C.n=true:=by exact rfl):RL D (⟨some d,.fieldAddr t x i,ty,pos,aft,g⟩::l) e w:=Ub ho hd (OG hf hx) h
theorem Qx {t el:TypeId}{x:Operand}{a:Option Addr}{len cap:Nat}(ht:D.C.P.underlying t=some (.slice el))(hx:look e x=some (.slice a len cap))(h:RL D l ((d,I (len:Int))::e) w)(ho:Sn D e g true=true:=by exact rfl)(hd:Nat.blt d D.C.n=true:=by exact rfl):RL D (⟨some d,.call ⟨.builtin .len,#[x],#[t]⟩,ty,pos,aft,g⟩::l) e w:=Ub ho hd (RJ ht hx) h
theorem Qp {x y:Operand}{t t':TypeId}{a b:Int}(hx:look e x=some (I a))(hy:look e y=some (I b))(h:RL D l ((d,I (a-b))::e) w)(hb: -9223372036854775808<=a-b/\a-b<=9223372036854775807:=by omega)(ho:Sn D e g true=true:=by exact rfl)(hd:Nat.blt d D.C.n=true:=by exact rfl):RL D (⟨some d,.binOp .sub t x y t',ty,pos,aft,g⟩::l) e w:=Ub ho hd (Ww hx hy hb) h
theorem NZ {D:RC}{x:Operand}(hx:look e x=some v)(h:OD D.C D.k ((d,v)::e) w)(ho:Sn D e g true=true:=by exact rfl)(hd:Nat.blt d D.C.n=true:=by exact rfl):RL D [⟨some d,.assign x,ty,pos,aft,g⟩] e w:=Ub ho hd (Qq hx) (NU h)
theorem Od {x y:Operand}{d':Nat}{v':Value}{ty':TypeId}{pos':String}{aft':Array Edge}{g':Option (Nat×Bool)}(hx:look e x=some v)(hy:look ((d,v)::e) y=some v')(h:RL D l ((d',v')::(d,v)::e) w)(ho:Sn D e g true=true:=by exact rfl)(hd:Nat.blt d D.C.n=true:=by exact rfl)(ho':Sn D ((d,v)::e) g' true=true:=by exact rfl)(hd':Nat.blt d' D.C.n=true:=by exact rfl):RL D (⟨some d,.move x,ty,pos,aft,g⟩::⟨some d',.move y,ty',pos',aft',g'⟩::l) e w:=Ub ho hd (Wi hx) (Ub ho' hd' (Wi hy) h)
def z4O:Value->Bool
  | .pointer (some _)=>true
  | .func (.func _) _ _=>true
  |_=>false
theorem Pq {P:Program}{d:Option Nat}{x:Operand}(hx:look e x=some v)(hv:z4O v=true:=by exact rfl):Y P e ⟨d,.nilCheck x,ty,pos,aft,g⟩ v w w:=by
  unfold z4O at hv
  split at hv
  · exact ync hx
  · exact zjd hx
  · cases hv
theorem OH {x:Operand}(hx:look e x=some v)(h:RL D l ((d,v)::e) w)(hv:z4O v=true:=by exact rfl)(ho:Sn D e g true=true:=by exact rfl)(hd:Nat.blt d D.C.n=true:=by exact rfl):RL D (⟨some d,.nilCheck x,ty,pos,aft,g⟩::l) e w:=Ub ho hd (Pq hx hv) h
end
section
variable {C:Cx}{k:List Item}{e e':Env}{w:World}{id:Nat}{ops:List Oper}{y:Code}
theorem qN {x:Code}(ho:UE C.n ops=true)(h:RL ⟨C,ops,.code x::k,ho⟩ ops e w):OD C (.code (.seq (.region id ops.toArray false) x)::k) e w:=py (NW ho h)
theorem Qm {α:Type}{c:Code}(x0:α)(E:α->Env)(I:α->World->Prop)(μ:α->Nat)(hI:I x0 w)(round:∀x w,I x w->(∀y w',I y w'->μ y<μ x->OD C (.inLoop c::k) (E y) w')->OD C (.code c:: .inLoop c::k) (E x) w)(hE:Sub (E x0) e:=by repeat (first|exact Sub.nil|refine Sub.cons O ?_)):OD C (.code (.loop c)::k) e w:=za7 x0 E I μ hE hI round
theorem OD.qb (h:OD C k e w)(hs:Sub e e':=by repeat (first|exact Sub.nil|refine Sub.cons O ?_)):OD C k e' w:=h.sub hs
end
section
variable {D:RC}{k:List Item}{e:Env}{w:World}{id:Nat}{ops:List Oper}{x:Code}
theorem qM {C:Cx}{ops0:List Oper}{h0:UE C.n ops0=true}(ho:UE C.n ops=true)(h:RL ⟨C,ops,.code x::k,ho⟩ ops e w):RL ⟨C,ops0,.code (.seq (.region id ops.toArray false) x)::k,h0⟩ [] e w:=NU (py (NW ho h))
end
section
variable {D:RC}{late:List Nat}{S:World->Prop}{e:Env}{w w':World}{d fuel:Nat}{op:Op}{ty:TypeId}{pos:String}{aft:Array Edge}{g:Option (Nat×Bool)}{listed:Array Bool}{v:Value}
theorem qT (i:Nat)(hi:D.ops[i]? =some ⟨some d,op,ty,pos,aft,g⟩)(hy:∀w,S w->Y D.C.P e ⟨some d,op,ty,pos,aft,g⟩ v w w)(hS:S w)(h:RH D S fuel (listed.setIfInBounds i true) ((d,v)::e) w)
    (hf:Rl D.ops listed i=true:=by kernel_rfl) (ho:Sn D e g true=true:=by exact rfl) (hd:Nat.blt d D.C.n=true:=by exact rfl):RH D S (fuel+1) listed e w:=zaN hi hf ho hd hy hS h
theorem O0 (i:Nat)(hi:D.ops[i]? =some ⟨some d,op,ty,pos,aft,g⟩)(hy:∀{w},Y D.C.P e ⟨some d,op,ty,pos,aft,g⟩ v w w)(hS:S w)(h:RH D S fuel (listed.setIfInBounds i true) ((d,v)::e) w)
    (hf:Rl D.ops listed i=true:=by kernel_rfl) (ho:Sn D e g true=true:=by exact rfl) (hd:Nat.blt d D.C.n=true:=by exact rfl):RH D S (fuel+1) listed e w:=zaN hi hf ho hd (λ_ _=>hy) hS h
theorem T4 {p:Prop}[hp:Decidable p](hr:RH D S fuel listed ((d,.bool true)::e) w)(h:p:=by first|rfl|assumption|omega|decide):RH D S fuel listed ((d,.bool (decide p))::e) w:=ziU h hr
theorem TH {p:Prop}[hp:Decidable p](hr:RH D S fuel listed ((d,.bool false)::e) w)(h:¬p:=by first|exact λh=>h O|assumption|omega):RH D S fuel listed ((d,.bool (decide p))::e) w:=zeF h hr
theorem S8 {late:List Nat}(rs:List Nat)(h:RH D (λ_=>True) fuel listed e w)(hr:QV D.ops listed rs=true:=by kernel_rfl)(hl:zei rs late=true:=by kernel_rfl):RHL D late S fuel listed e w:=ziA rs hr hl h
theorem Oj {x:Operand}(i:Nat)(hi:D.ops[i]? =some ⟨some d,.move x,ty,pos,aft,g⟩)(hx:look e x=some v)(hS:S w)(h:RH D S fuel (listed.setIfInBounds i true) ((d,v)::e) w)
    (hf:Rl D.ops listed i=true:=by kernel_rfl) (ho:Sn D e g true=true:=by exact rfl) (hd:Nat.blt d D.C.n=true:=by exact rfl):RH D S (fuel+1) listed e w:=zaN hi hf ho hd (λ_ _=>Wi hx) hS h
theorem qJ (i:Nat)(hi:D.ops[i]? =some ⟨some d,op,ty,pos,aft,g⟩)(hS:S w)(h:RH D S fuel (listed.setIfInBounds i true) ((d,undef)::e) w)
    (hf:Rl D.ops listed i=true:=by kernel_rfl) (ho:Sn D e g false=true:=by exact rfl) (hd:Nat.blt d D.C.n=true:=by exact rfl):RH D S (fuel+1) listed e w:=zfE hi hf ho hd hS h
theorem qO (i:Nat)(h:Nx D S fuel listed e w i)(hr:QV D.ops listed [i]=true:=by kernel_rfl):RH D S (fuel+1) listed e w:=ziQ hr h
theorem RW {f:FuncId}{vs:List Value}{T:Value->World->Prop}{ts:Array TypeId}{args:List Operand}(i:Nat)(hi:D.ops[i]? =some ⟨some d,.call ⟨.value (.func f),args.toArray,ts⟩,ty,pos,aft,g⟩)(hf:CF D.C.P f)(ha:looks e args=some vs)(hc:Oy D.C.P f vs w T)(h:∀v w',T v w'->S w'/\RH D S fuel (listed.setIfInBounds i true) ((d,v)::e) w')
    (hr:QV D.ops listed [i]=true:=by kernel_rfl) (ho:Sn D e g true=true:=by exact rfl) (hd:Nat.blt d D.C.n=true:=by exact rfl):RH D S (fuel+1) listed e w:=ziQ hr (Vb hi ho hd (yc hf ha) hc h)
theorem qE (h:OD D.C D.k e w)(hr:QV D.ops listed []=true:=by kernel_rfl):RH D S fuel listed e w:=zjw hr h
theorem qL (i:Nat)(hi:D.ops[i]? =some ⟨some d,op,ty,pos,aft,g⟩)(hy:∀w,S w->Y D.C.P e ⟨some d,op,ty,pos,aft,g⟩ v w w)(hS:S w)(h:RHL D late S fuel (listed.setIfInBounds i true) ((d,v)::e) w)
    (hf:(Rl D.ops listed i&&waits D.ops listed late (wtr D.ops i) i)=true:=by kernel_rfl) (ho:Sn D e g true=true:=by exact rfl) (hd:Nat.blt d D.C.n=true:=by exact rfl):RHL D late S (fuel+1) listed e w:=z5Y _ hi hf ho hd hy hS h
theorem Ot (i:Nat)(hi:D.ops[i]? =some ⟨some d,op,ty,pos,aft,g⟩)(hy:∀{w},Y D.C.P e ⟨some d,op,ty,pos,aft,g⟩ v w w)(hS:S w)(h:RHL D late S fuel (listed.setIfInBounds i true) ((d,v)::e) w)
    (hf:(Rl D.ops listed i&&waits D.ops listed late (wtr D.ops i) i)=true:=by kernel_rfl) (ho:Sn D e g true=true:=by exact rfl) (hd:Nat.blt d D.C.n=true:=by exact rfl):RHL D late S (fuel+1) listed e w:=z5Y _ hi hf ho hd (λ_ _=>hy) hS h
theorem OW {x:Operand}(i:Nat)(hi:D.ops[i]? =some ⟨some d,.move x,ty,pos,aft,g⟩)(hx:look e x=some v)(hS:S w)(h:RHL D late S fuel (listed.setIfInBounds i true) ((d,v)::e) w)
    (hf:(Rl D.ops listed i&&waits D.ops listed late (wtr D.ops i) i)=true:=by kernel_rfl) (ho:Sn D e g true=true:=by exact rfl) (hd:Nat.blt d D.C.n=true:=by exact rfl):RHL D late S (fuel+1) listed e w:=z5Y _ hi hf ho hd (λ_ _=>Wi hx) hS h
end
theorem Qj {C:Cx}{id:Nat}{ops:List Oper}{k:List Item}{e:Env}{w:World}(S:World->Prop)(ho:UE C.n ops=true)(h:RH ⟨C,ops,k,ho⟩ S ops.length (Array.replicate ops.length false) e w.drew)(hm:C.P.follows .mixedOrders=true:=by kernel_rfl)(hc:calm ops=true:=by rfl):OD C (.code (.region id ops.toArray true)::k) e w:=z2Y S hm ho h hc
theorem PJ {α:Type}{a b:α}(h:some a=some b):a=b:=Option.some.inj h
def U2:=underlying2
def U3:=underlying3
def U4:=underlying4
def U5:=underlying5
def U9:=underlying9
def U22:=underlying22
def Qy:=underlying23
def U25:=underlying25
def Up:=underlying26
def U28:=underlying28
def X7:=underlying29
def U30:=underlying30
def U32:=underlying32
def U35:=underlying35
def U36:=underlying36
def Qt:=underlying43
def OA:=underlying49
def U51:=underlying51
def U60:=underlying60
def U70:=underlying70
def U86:=underlying86
def ZX:=underlying94
def U98:=underlying98
def Pc:=underlying105
def OJ:=underlying106
def zcn:=underlying110
def zb8:=underlying111
def Y0:=underlying112
def Wj:=underlying119
def zjX:=underlying125
def z8U:=underlying128
def zj8:=underlying130
def z0v:=underlying133
def US:=underlying136
def z2q:=underlying145
def zch:=underlying148
def zcH:=underlying153
def z8N:=underlying155
def z5M:=underlying160
def z5I:=underlying162
def z2O:=underlying163
def zfb:=underlying167
def z9Q:=underlying172
def Wl:=underlying188
def zcc:=underlying198
def ziP:=underlying214
def zjg:=underlying220
def Vk:=underlying221
def z2M:=underlying227
def zks:=underlying229
def zeC:=underlying230
def z36:=underlying234
def zeT:=underlying236
def zjN:=underlying247
def z8O:=underlying258
def RO:=underlying264
def WM:=underlying271
def ziB:=underlying272
def YG:=underlying279
def Ud:=underlying291
def zkf:=underlying299
def zeY:=underlying300
def z0g:=underlying314
def RG:=underlying317
def zgq:=underlying319
def zgP:=underlying330
def z4e:=underlying332
def zhK:=underlying337
def zbk:=underlying346
def zjG:=underlying350
def zai:=underlying353
def z0a:=underlying354
def z4u:=underlying392
def TR (w:World)(g:Nat)(cs:List Value)(T:TypeId):Prop:=w.heap[g]? =some (.cells cs.toArray T (0,0))
theorem TR.NX {w:World}{g:Nat}{cs:List Value}{T:TypeId}(h:TR w g cs T):O9 w g cs T:=⟨(0,0),h,λi _ h=>by omega⟩
theorem TR.set {w:World}{g:Nat}{cs:List Value}{T:TypeId}(h:TR w g cs T)(i:Nat)(v:Value):TR (w.setCell ⟨g,i,none⟩ v) g (cs.set i v) T:=by
 unfold TR at h⊢
 simp[World.setCell,Array.getElem?_modify,h]
theorem TR.ext {w w':World}{g:Nat}{cs:List Value}{T:TypeId}(h:TR w g cs T)(k:Ext w w'):TR w' g cs T:=k.heap h id
theorem Sl.row {w:World}{g n cap:Nat}{e:TypeId}{size:Nat}{cs:List Value}(h:Sl w (.slice (some ⟨g,0,none⟩) n cap) e size n cs):∃cur,TR w g cur e/\n<=cap/\cap<=maxLen/\cur.length=cap*size/\cur.take (n*size)=cs:=by
 rcases h.2 with⟨hz,-⟩|⟨g1,cap1,cur,hv,-,hg,hn,hm,hs,ht⟩
 ·cases hz
 ·cases hv;exact⟨cur.toList,by unfold TR;simpa using hg,hn,hm,by simpa using hs,ht⟩
theorem TR.sl {w:World}{g n cap:Nat}{e:TypeId}{size:Nat}{cur:List Value}(h:TR w g cur e)(hn:n<=cap)(hm:cap<=maxLen)(hs:cur.length=cap*size):Sl w (.slice (some ⟨g,0,none⟩) n cap) e size n (cur.take (n*size)):=
 ⟨by rw[List.length_take,hs];exact Nat.min_eq_left (Nat.mul_le_mul_right _ hn),.inr ⟨g,cap,cur.toArray,rfl,Nat.zero_le _,h,hn,hm,by simpa using hs,by simp⟩⟩
theorem TR.cell {w:World}{g i:Nat}{cur:List Value}{e:TypeId}(h:TR w g cur e):w.cell? ⟨g,i,none⟩=cur[i]? :=h.NX.cell i
theorem TR.rd {w:World}{g i n c:Nat}{e:TypeId}{cur:List Value}(h:TR w g cur e)(hl:i+n<=cur.length):Rd w (.slice (some ⟨g,i,none⟩) n c) 1 n ((cur.drop i).take n):=by
 refine⟨by simp;omega,.inr ⟨g,i,c,rfl,λj u hj=>?_⟩⟩
 rw[h.cell]
 rw[List.getElem?_take] at hj
 split at hj
 ·rwa [List.getElem?_drop] at hj
 ·cases hj
theorem Uy {w:World}{a:Option Addr}{c:Nat}:Rd w (.slice a 0 c) 1 0 []:=⟨rfl,.inl ⟨(a,c),rfl,rfl⟩⟩
theorem Rd.kpz {S:Nat->Prop}{w w':World}{v:Value}{size n:Nat}{cs:List Value}(h:Rd w v size n cs)(k:Kp S w w')(hn:0<n->∀g,v.ownBlock=some g->¬S g):Rd w' v size n cs:=by
 rcases Nat.eq_zero_or_pos n with h0|h0
 ·subst h0;refine⟨h.1,?_⟩;have hl:cs=[]:=List.eq_nil_of_length_eq_zero (by have:=h.1;omega);rcases h.2 with h2|⟨b,off,cap,e,-⟩
  ·exact .inl h2
  ·exact .inr ⟨b,off,cap,e,λj u hj=>by rw[hl] at hj;simp at hj⟩
 ·exact h.kp k (hn h0)
theorem Rd.ltz {w:World}{v:Value}{size n g:Nat}{cs:List Value}(h:Rd w v size n cs)(hs:0<size)(hn:0<n)(hg:v.ownBlock=some g):g<w.heap.size:=by
 rcases h.2 with⟨c,-,h2⟩|⟨b,off,cap,e,hc⟩
 ·omega
 ·rw[e] at hg;have e2:b=g:=PJ hg;subst e2;have hl:0<cs.length:=by rw[h.1];exact Nat.mul_pos hn hs
  exact World.block_lt_of_cell? w _ (hc 0 cs[0] (List.getElem?_eq_getElem hl))
theorem z5T (cs:List Value)(i:Nat):PU cs i []=cs:=by simp[PU]
theorem z14 (cs vs:List Value)(i:Nat)(h:i+vs.length<=cs.length):(PU cs i vs).length=cs.length:=by simp[PU];omega
theorem z0z (cs vs:List Value)(i j:Nat)(h:i+vs.length<=cs.length):(PU cs i vs)[j]? =if i<=j/\j<i+vs.length then vs[j-i]? else cs[j]? :=by
 unfold PU
 rw[List.append_assoc]
 by_cases h1:j<i
 ·rw[List.getElem?_append_left (by simp;omega),List.getElem?_take,if_pos h1,if_neg (by omega)]
 ·rw[List.getElem?_append_right (by simp;omega)];have e:(cs.take i).length=i:=by simp;omega
  rw[e];by_cases h2:j<i+vs.length
  ·rw[List.getElem?_append_left (by omega),if_pos ⟨by omega,h2⟩]
  ·rw[List.getElem?_append_right (by omega),List.getElem?_drop,if_neg (by omega)]
   congr 1;omega
theorem Tr {P:Program}{b:Nat}{T:TypeId}(o:Nat):∀(vs:List Value) (i:Nat) (cs:List Value) (w:World),TR w b cs T->o+i+vs.length<=cs.length->(∀v∈vs,v.oneCell'=true)->
  ∃w',(storeCells ⟨b,o,none⟩ vs i).run P w= .ok () w'/\TR w' b (PU cs (o+i) vs) T/\Kp (λk=>k=b) w w'
 |[],i,cs,w,hB,_,_=>⟨w,rfl,by simpa[PU] using hB,Kp.refl _ _⟩
 | v :: r, i, cs, w, hB, hl, h1 => by
   simp only[List.length_cons] at hl;have aZ:o+i<cs.length:=by omega
   have hc:w.cell? ⟨b,o+i,none⟩=some cs[o+i]:=by rw[hB.cell];simp[aZ]
   have hf:=hB.NX.free aZ;obtain⟨w',hr,Bs,hk⟩:=Tr (P:=P) o r (i+1) (cs.set (o+i) v) _ (hB.set (o+i) v) (by simp;omega) (λu hu=>h1 u (List.mem_cons_of_mem _ hu));refine⟨w',?_,?_,(SK w b (o+i) v).trans hk⟩
   ·simp only[storeCells,Sem.run_bind,Qv,run_store P w _ v _ (h1 v (List.mem_cons_self ..)),hc,hf]
    simpa using hr
   ·have he:PU (cs.set (o+i) v) (o+(i+1)) r=PU cs (o+i) (v::r):=by
     apply List.ext_getElem?;intro j;rw[z0z _ _ _ _ (by simp;omega),z0z _ _ _ _ (by simp;omega)];simp only[List.length_cons];by_cases h2:o+i=j
     ·subst h2;rw[if_neg (by omega),if_pos (by omega)];simp[aZ]
     ·by_cases h3:o+i<j/\j<o+i+1+r.length
      ·rw[if_pos (by omega),if_pos (by omega),show j-(o+i)=(j-(o+(i+1)))+1 by omega];simp
      ·rw[if_neg (by omega),if_neg (by omega),List.getElem?_set_ne h2]
    rw[<-he];exact Bs
section
variable {P:Program}{e:Env}{d:Option Nat}{ty t t' kt el:TypeId}{pos:String}{aft:Array Edge}{g:Option (Nat×Bool)}{x y u u2:Operand}{w:World}
theorem WL {z:Value}{size bytes n cap i:Nat}{a:Option Addr}{k:IntKind}{za:Int}[s8:RV za i](ht:P.underlying t=some (.slice el))(hs:TI P el z size bytes)(hx:look e x=some (.slice a n cap))
  (hy:look e y=some (.int k za)) (h:i<=n) (hc:n<=cap):
  Y P e ⟨d,.slice t x (some y) none none,ty,pos,aft,g⟩ (.slice (if cap=i then a else a.map (·.add (i*size))) (n-i) (cap-i)) w w:=fun ρ hρ=>by
 obtain⟨rfl⟩:=s8
 have cE:=hs.size (w:=w)
 have h2:∀w,(Instr.sliceBound (.int k (i:Int)) n .sliceB).run P w= .ok i w:=λw=>by rw[run_sliceBound _ _ _ _ _ (by omega) (by omega)];simp
 simp[execOp,hρ _ _ hx,hρ _ _ hy,Instr.sliceAt,run_underlying ht,Instr.slice,Instr.sliceBounds,h2,cE]
theorem zkn {z:Value}{size bytes n cap i j m:Nat}{a:Option Addr}{k k' k2:IntKind}{za zb zc:Int}[s8:RV za i][vT:RV zb j][bB:RV zc m](ht:P.underlying t=some (.slice el))(hs:TI P el z size bytes)(hx:look e x=some (.slice a n cap))
  (hy:look e y=some (.int k za)) (hu:look e u=some (.int k' zb)) (mh:look e u2=some (.int k2 zc)) (h:i<=j/\j<=m/\m<=cap):
  Y P e ⟨d,.slice t x (some y) (some u) (some u2),ty,pos,aft,g⟩ (.slice (if m=i then a else a.map (·.add (i*size))) (j-i) (m-i)) w w:=fun ρ hρ=>by
 obtain⟨rfl⟩:=s8
 obtain⟨rfl⟩:=vT
 obtain⟨rfl⟩:=bB
 have cE:=hs.size (w:=w)
 have h0:∀w,(Instr.sliceBound (.int k2 (m:Int)) cap .slice3Acap).run P w= .ok m w:=λw=>by rw[run_sliceBound _ _ _ _ _ (by omega) (by omega)];simp
 have h1:∀w,(Instr.sliceBound (.int k' (j:Int)) m .slice3B).run P w= .ok j w:=λw=>by rw[run_sliceBound _ _ _ _ _ (by omega) (by omega)];simp
 have h2:∀w,(Instr.sliceBound (.int k (i:Int)) j .slice3C).run P w= .ok i w:=λw=>by rw[run_sliceBound _ _ _ _ _ (by omega) (by omega)];simp
 simp[execOp,hρ _ _ hx,hρ _ _ hy,hρ _ _ hu,hρ _ _ mh,Instr.sliceAt,run_underlying ht,Instr.slice,Instr.sliceBounds,h0,h1,h2,cE]
theorem WE (z:Value)(n:Nat)(h:oneV z=true):(Builtin.zeroCells z.cells n).toList=List.replicate n z:=by
 rw[UU h]
 apply List.ext_getElem
 ·simp[Builtin.zeroCells]
 ·intro i h1 h2;simp[Builtin.zeroCells,Nat.mod_one]
theorem zkg {z:Value}{bytes b i n cap:Nat}{T:TypeId}{cs:List Value}(ht:P.underlying t=some (.slice el))(hs:TI P el z 1 bytes)(hz:oneV z=true)(hx:look e x=some (.slice (some ⟨b,i,none⟩) n cap))
  (hB:TR w b cs T) (hi:i+n<=cs.length):
  Yp P e ⟨d,.call ⟨.builtin .clear,#[x],#[t]⟩,ty,pos,aft,g⟩ w λv w'=>TR w' b (PU cs i (List.replicate n z)) T/\Kp (λk=>k=b) w w':=by
 obtain⟨w',hr,Bs,hk⟩:=Tr (P:=P) i (List.replicate n z) 0 cs w hB (by simp;omega) (λu hu=>by rw[(List.mem_replicate.1 hu).2];exact Xz hz)
 rcases Nat.eq_zero_or_pos n with h0|h0
 ·subst h0;refine⟨.tuple #[],w,fun ρ hρ=>?_,by simpa[z5T] using hB,Kp.refl _ _⟩;simp[execOp,resolve,invoke,builtin,hρ _ _ hx,Builtin.clear_,run_underlying ht,go_sem]
 ·refine⟨.tuple #[],w',fun ρ hρ=>?_,by simpa using Bs,hk⟩;have IL:=hs.zero (w:=w);obtain⟨k,rfl⟩:∃k,n=k+1:=⟨n-1,by omega⟩
  have hc:(Builtin.clear_ #[t] ty #[.slice (some ⟨b,i,none⟩) (k+1) cap]).run P w= .ok (.tuple #[]) w':=by
   unfold Builtin.clear_;simp only[List.getElem?_toArray,List.getElem?_cons_zero,pure_bind,Sem.run_bind,run_underlying ht,Result.andThen,IL,WE z _ hz,hr,Sem.run_pure]
  simp[execOp,resolve,invoke,builtin,hρ _ _ hx,hc]
theorem zk7 {z u:Value}{size bytes gb n cap m:Nat}{cs news:List Value}(ht:P.underlying t=some (.slice el))(hs:TI P el z size bytes)(cE:0<size)
  (hx:look e x=some (.slice (some ⟨gb,0,none⟩) n cap)) (hy:look e y=some u) (hv:Sl w (.slice (some ⟨gb,0,none⟩) n cap) el size n cs) (hu:Rd w u size m news) (h1:∀c∈news,c.oneCell'=true) (hr:n+m<=cap):
  Yp P e ⟨d,.call ⟨.builtin .append,#[x,y],#[t,t]⟩,ty,pos,aft,g⟩ w λv' w'=>v'= .slice (some ⟨gb,0,none⟩) (n+m) cap/\Sl w' v' el size (n+m) (cs++news)/\Kp (λk=>k=gb) w w':=by
 obtain⟨i,hi,oX,jK,qQ⟩:=hs
 subst jK
 rcases hu.2 with⟨⟨ca,c⟩,rfl,rfl⟩|⟨b,off,cap2,rfl,s9⟩
 ·have eW:news=[]:=List.eq_nil_of_length_eq_zero (by simpa using hu.1);subst eW
  have hr:(Builtin.append_ #[t,t] ty #[.slice (some ⟨gb,0,none⟩) n cap,.slice ca 0 c]).run P w= .ok (.slice (some ⟨gb,0,none⟩) n cap) w:=by
   have jz:n<=cap:=by omega
   cases ca
   ·simp[Builtin.append_,run_underlying ht,sizeOf,typeInfo,hi,Builtin.lenOf,Builtin.firstCells,jz,storeCells]
   ·simp[Builtin.append_,run_underlying ht,sizeOf,typeInfo,hi,Builtin.lenOf,Builtin.firstCells,jz,storeCells,loadCells,loadCellsFrom]
  refine⟨_,w,fun ρ hρ=>?_,rfl,by simpa using hv,Kp.refl _ _⟩;simp[execOp,resolve,invoke,builtin,hρ _ _ hx,hρ _ _ hy,hr]
 ·have vU:∀j u,news[j]? =some u->w.cell? ((⟨b,off,none⟩:Addr).add j)=some u:=λj u hu=>by rw[Qv];exact s9 j u hu
  obtain⟨w',IM,AB,cM⟩:=run_append_fits (P:=P) w 0 t ty el i i.size ht hi O gb n cap cs hv ⟨b,off,none⟩ m cap2 news hu.1 vU h1 hr;refine⟨_,w',fun ρ hρ=>?_,rfl,AB,(Kp.Tu cM).Of λk hk=>(PJ hk).symm⟩;simp[execOp,resolve,invoke,builtin,hρ _ _ hx,hρ _ _ hy,IM]
end
abbrev NY:=List UInt8
abbrev lt (a b:NY):Bool:=Op.bytesLess a b
section
variable {P:Program}{e:Env}{d:Option Nat}{ty t t':TypeId}{pos:String}{aft:Array Edge}{g:Option (Nat×Bool)}{x y:Operand}{w:World}{l l':NY}
end
def pos (l:List NY)(t:NY):Nat:=(l.takeWhile (λk=>lt k t)).length
theorem z09 (cs vs:List Value)(i m:Nat)(h:m<=i)(hl:i<=cs.length):(PU cs i vs).take m=cs.take m:=by
 unfold PU
 rw[List.append_assoc,List.take_append_of_le_length (by simp;omega),List.take_take,Nat.min_eq_left h]
theorem z9R {w:World}{sv:Value}{cs:List Value}{i n:Nat}(hS:Sl w sv 3 1 n cs)(fP:∀c∈cs,c.oneCell'=true)(hi:i<n)(hn:n<=8589934592):
  Oy prog 219 [sv,I (i:Int),I ((i:Int)+1)] w λv w'=>Sl w' v 3 1 (n-1) (cs.take i++cs.drop (i+1))/\Kp (λk=>sv.ownBlock=some k) w w'/\(∀g,v.ownBlock=some g->sv.ownBlock=some g):=by
 have dF:maxLen=9223372036854775807:=rfl
 have aF:=hS.len
 rw[Nat.mul_one] at aF
 obtain⟨g,cap,rfl,jz⟩:∃g cap,sv= .slice (some ⟨g,0,none⟩) n cap/\n<=cap:=by
  rcases hS.shape with⟨e,h0⟩|⟨g,cap,e,h⟩
  ·omega
  ·exact⟨g,cap,e,h⟩
 obtain⟨cur,gO,-,mD,cQ,Bt⟩:=hS.row
 rw[Nat.mul_one] at cQ Bt
 rw[show(i:Int)+1=((i+1:Nat):Int) by omega]
 refine NP (e:=[(0,_),(1,_),(2,_)]) func219 O ntmps219 O O$ qN O$ Oc O$ qM O$ Od O O$ Od O O$ Qx Qt O$ qV (zkn Qt Pb O O O O ⟨by omega,by omega,jz⟩) ?_
 refine NU$ py$ qN O$ Od O O$ Qe O O$ OR$ NU$ It O$ An$ qN O$ NT O$ Qx Qt O$ NZ O$ py ?_
 refine Qj (λw'=>Kp (λk=>k=g) w w') O ?_
 have h0:=Ext.Ob w
 refine Oj 0 O O ((Ext.Ob w).kp)$ Oj 1 O O ((Ext.Ob w).kp)$ Oj 3 O O ((Ext.Ob w).kp)$ Oj 4 O O ((Ext.Ob w).kp)$ O0 2 O (zbE Qt Pb O O (by omega)) ((Ext.Ob w).kp)$ O0 5 O (WL Qt Pb O O (by omega) jz) ((Ext.Ob w).kp) ?_
 have cA:Sl w (.slice (some ⟨g,0,none⟩) i cap) 3 1 i (cs.take i):=by
  have:=gO.sl (n:=i) (by omega) mD (by rw[Nat.mul_one];exact cQ);rw[Nat.mul_one,show cur.take i=cs.take i by rw[<-Bt,List.take_take,Nat.min_eq_left (by omega)]] at this;exact this
 have Bu:(cur.drop (i+1)).take (n-(i+1))=cs.drop (i+1):=by
  rw[<-Bt,List.drop_take]
 have hR:Rd w.drew (.slice (if cap=i+1 then some ⟨g,0,none⟩ else(some (⟨g,0,none⟩:Addr)).map (·.add ((i+1)*1))) (n-(i+1)) (cap-(i+1))) 1 (n-(i+1)) (cs.drop (i+1)):=by
  by_cases hc:cap=i+1
  ·rw[if_pos hc,show n-(i+1)=0 by omega,List.drop_eq_nil_of_le (by omega)];exact Uy
  ·rw[if_neg hc,Option.map_some,Qv,Nat.zero_add,Nat.mul_one,<-Bu];exact(gO.ext h0).rd (by omega)
 refine qO 6$ R3 (i:=6) O O O (zk7 Qt Pb (by decide) O O (cA.ext h0) hR (λc hc=>fP c (List.mem_of_mem_drop hc)) (by omega)) ?_
 rintro _ w1 ⟨rfl,cj,aw⟩
 refine⟨h0.kp.trans aw,?_⟩
 have e1:i+(n-(i+1))=n-1:=by omega
 rw[e1] at cj⊢
 obtain⟨cur3,vV,IN,IP,vW,vX⟩:=cj.row
 rw[Nat.mul_one] at vW vX
 refine O0 7 O (Qq O) (h0.kp.trans aw)$ qE$ qN O$ Od O O$ Qx Qt O$ NT O$ qV (zfp Qt Pb O O O (by omega) (by omega))$ zan O (zkg Qt Pb O O vV (by omega)) ?_
 rintro _ w2 ⟨vY,ao⟩
 refine NU$ OD.qb (e:=[(0,_),(6,_)]) ?_
 refine qN O$ NT O$ NZ O$ NV func219 O ?_
 have jL:=vY.sl (n:=n-1) (cap:=cap) (by omega) mD (by rw[z14 _ _ _ (by simp;omega),vW,Nat.mul_one])
 rw[Nat.mul_one,z09 _ _ _ _ (by omega) (by omega),vX] at jL
 exact⟨_,rfl,jL,((h0.kp.trans aw).trans ao).Of (λk hk=>by subst hk;rfl),λg' cM=>cM⟩
open Go.ChangeMaps (setBlock)
def RN {κ:Type}(K:κ->Value)(w:World)(m:Nat)(kv:List (κ×Value)):Prop:=(∃es clock,w.heap[m]? =some (.map es clock)/\Td K es.toList kv/\(∀e∈es.toList,e.born<clock)/\(es.toList.map (·.born)).Nodup)/\(kv.map (·.1)).Nodup
section
variable {κ:Type}[DecidableEq κ]{K:κ->Value}
theorem RN.l {w:World}{m:Nat}{kv:List (κ×Value)}(h:RN K w m kv):Wn K w m kv:=by
 obtain⟨⟨es,c,h1,h2,-,-⟩,h3⟩:=h
 exact⟨⟨es,c,h1,h2⟩,h3⟩
theorem RN.lt {w:World}{m:Nat}{kv:List (κ×Value)}(h:RN K w m kv):m<w.heap.size:=h.l.lt
theorem RN.nd {w:World}{m:Nat}{kv:List (κ×Value)}(h:RN K w m kv):(kv.map (·.1)).Nodup:=h.2
theorem RN.kp {S:Nat->Prop}{w w':World}{m:Nat}{kv:List (κ×Value)}(h:RN K w m kv)(k:Kp S w w')(hn:¬S m):RN K w' m kv:=by
 obtain⟨⟨es,c,h,he⟩,hd⟩:=h
 exact⟨⟨es,c,k.heap h hn,he⟩,hd⟩
theorem RN.ext {w w':World}{m:Nat}{kv:List (κ×Value)}(h:RN K w m kv)(k:Ext w w'):RN K w' m kv:=h.kp k id
theorem RN.new {w:World}{m:Nat}(h:w.heap[m]? =some (.map #[] 0)):RN K w m []:=⟨⟨#[],0,h,rfl,by simp,by simp⟩,by simp⟩
def delL:List (κ×Value)->κ->List (κ×Value)
 |[],_=>[]
 |(a,v)::r,k=>if k=a then r else(a,v)::delL r k
theorem z3F:∀(kv:List (κ×Value)) (k:κ),(delL kv k).Sublist kv
 |[],_=> .slnil
 | (a, v) :: r, k => by
   simp only[delL];split
   ·exact List.sublist_cons_self _ _
   ·exact(z3F r k).cons_cons _
theorem z1n {kv:List (κ×Value)}{k:κ}(h:k∉kv.map (·.1)):Ql kv k=none:=by
 induction kv with
 |nil=>rfl
 | cons p r ih =>
   obtain⟨a,u⟩:=p;simp only[List.map_cons,List.mem_cons,not_or] at h;simp only[Ql,h.1,if_false];exact ih h.2
theorem zgz {kv:List (κ×Value)}(hn:(kv.map (·.1)).Nodup)(k x:κ):Ql (delL kv k) x=if x=k then none else Ql kv x:=by
 induction kv with
 |nil=>simp[delL,Ql]
 | cons p r ih =>
   obtain⟨a,u⟩:=p;simp only[List.map_cons,List.nodup_cons] at hn;simp only[delL];by_cases h:k=a
   ·subst h;simp only[if_true,Ql];by_cases hx:x=k
    ·subst hx;simp[z1n hn.1]
    ·simp[hx]
   ·simp only[h,if_false,Ql,ih hn.2];by_cases hx:x=a
    ·subst hx;simp[Ne.symm h]
    ·simp[hx]
theorem z3y {kv:List (κ×Value)}(hn:(kv.map (·.1)).Nodup){k:κ}{v:Value}(h:(k,v)∈kv):Ql kv k=some v:=by
 induction kv with
 |nil=>cases h
 | cons p r ih =>
   obtain⟨a,u⟩:=p;simp only[List.map_cons,List.nodup_cons] at hn;rcases List.mem_cons.1 h with e| h
   ·cases e;simp[Ql]
   ·have:k≠a:=λe=>hn.1 (List.mem_map.2 ⟨(k,v),h,e⟩);simp only[Ql,this,if_false];exact ih hn.2 h
theorem YX {td:TypeDesc}(hs:∀a b,Instr.sameNow td (K a) (K b)=some (decide (a=b))):∀{es:List MapEntry} {kv:List (κ×Value)} (i:Nat) {k:κ} {v:Value},Td K es kv->Ql kv k=some v->
  ∃j,Instr.findNow td (K k) es i=some (some (i+j,v))/\j<es.length/\Td K (es.eraseIdx j) (delL kv k)
 | e :: es, (a, v') :: kv, i, k, v, h, hg => by
   simp only[Td,List.map_cons,List.cons.injEq,Prod.mk.injEq] at h;simp only[Ql] at hg;split at hg
   ·rename_i he
    subst he;cases hg;refine⟨0,by simp[Instr.findNow,h.1.1,hs,h.1.2],by simp,?_⟩;simp only[List.eraseIdx_zero,List.tail_cons,delL,if_true];exact h.2
   ·rename_i bP
    obtain⟨j,h1,h2,h3⟩:=YX hs (i+1) h.2 hg;refine⟨j+1,?_,by simp;omega,?_⟩
    ·simp only[Instr.findNow,h.1.1,hs,bP,decide_false,h1]
     congr 3;omega
    ·simp only[delL,bP,if_false,List.eraseIdx_cons_succ,Td,List.map_cons,List.cons.injEq,Prod.mk.injEq]
     exact⟨h.1,h3⟩
 |[],[],_,_,_,_,hg=>by simp[Ql] at hg
 |[],_::_,_,_,_,h,_=>by simp[Td] at h
 |_::_,[],_,_,_,h,_=>by simp[Td] at h
variable {P:Program}{e:Env}{d:Option Nat}{ty t kt el:TypeId}{pos:String}{aft:Array Edge}{g:Option (Nat×Bool)}{x y u:Operand}{w:World}{m:Nat}{kv:List (κ×Value)}{z:Value}{size bytes:Nat}{k:κ}{v:Value}
theorem zeX (ht:P.underlying t=some (.map kt el))(hK:Ky P kt K)(hx:look e x=some (.map (some m)))(hy:look e y=some (K k))(hu:look e u=some v)(hm:RN K w m kv):
  Zp P e ⟨d,.mapUpdate t x y u,ty,pos,aft,g⟩ w λw'=>RN K w' m (putL kv k v)/\Kp (λi=>i=m) w w':=by
 have aZ:=hm.lt
 obtain⟨⟨es,c,hh,he,bK,bU⟩,hd⟩:=hm
 have se:=λb=>hK.same.choose_spec.2.2 w b 9999 k
 have hg:(getObj m).run P w= .ok (.map es c) w:=by simp[getObj,Sem.run,hh]
 have dJ:∀o,(setObj m o).run P w= .ok () (w.putObj m o):=λo=>by simp[setObj,Sem.run,hh,World.putObj]
 cases lw:Ql kv k with
 | none =>
   have hf:=Tg (P:=P) (w:=w) hK he lw;refine⟨w.putObj m (.map (es.push {key:=K k,val:=v,born:=c}) (c+1)),fun ρ hρ=>?_,⟨⟨_,_,World.putObj_heap_same aZ,?_,?_,?_⟩,?_⟩,PR w m _⟩
   ·simp[execOp,hρ _ _ hx,hρ _ _ hy,hρ _ _ hu,Instr.mapUpdate,run_underlying ht,hg,se,hf,dJ]
   ·rw[Tv _ _ _ lw]
    simpa[Td] using he
   ·intro x hx;simp at hx;rcases hx with hx|rfl
    ·have:=bK x (by simpa using hx);omega
    ·simp
   ·simp only[Array.toList_push,List.map_append,List.map_cons,List.map_nil];refine List.nodup_append.2 ⟨bU,by simp,λa ha b hb iT=>?_⟩;simp at hb;subst hb;subst iT;obtain⟨x,hx,oY⟩:=List.mem_map.1 ha;have:=bK x hx;omega
   ·rw[Tv _ _ _ lw,List.map_append,List.nodup_append];refine⟨hd,by simp,λa ha b hb iT=>?_⟩;simp at hb;subst hb;subst iT
    exact ZW lw ha
 | some v0 =>
   obtain⟨j,hf,⟨ej,IQ,Bv⟩,mF⟩:=Te (P:=P) (w:=w) hK he lw
   have ly:(es.modify j λe=>{e with key:=K k,val:=v}).toList.map (·.born)=es.toList.map (·.born):=by
    apply List.ext_getElem?;intro i;simp only[Array.toList_modify,List.getElem?_map,List.getElem?_modify];by_cases gP:j=i
    ·subst gP;simp;cases es[j]?<;>rfl
    ·simp[gP]
   refine⟨w.putObj m (.map (es.modify j λe=>{e with key:=K k,val:=v}) c),fun ρ hρ=>?_,⟨⟨_,_,World.putObj_heap_same aZ,mF v,?_,?_⟩,?_⟩,PR w m _⟩
   ·simp[execOp,hρ _ _ hx,hρ _ _ hy,hρ _ _ hu,Instr.mapUpdate,run_underlying ht,hg,se,hf,dJ,IQ,Bv,Instr.keyThatStays,hK.bits]
   ·intro x hx;have:x.born∈es.toList.map (·.born):=by rw[<-ly];exact List.mem_map.2 ⟨x,hx,rfl⟩
    obtain⟨y,hy,vZ⟩:=List.mem_map.1 this;rw[<-vZ];exact bK y hy
   ·rw[ly];exact bU
   ·rw[z1H _ _ _ (by rw[lw];rfl)];exact hd
theorem zeE (ht:P.underlying t=some (.map kt el))(hK:Ky P kt K)(hx:look e x=some (.map (some m)))(hy:look e y=some (K k))(hm:RN K w m kv){ts:Array TypeId}(uU:ts[0]? =some t):
  Yp P e ⟨d,.call ⟨.builtin .delete,#[x,y],ts⟩,ty,pos,aft,g⟩ w λv' w'=>RN K w' m (delL kv k)/\Kp (λi=>i=m) w w':=by
 have aZ:=hm.lt
 obtain⟨⟨es,c,hh,he,bK,bU⟩,hd⟩:=hm
 obtain⟨⟨td,hu,hs,Bw⟩,-⟩:=hK
 have se:=λb=>Bw w b 9999 k
 have hg:(getObj m).run P w= .ok (.map es c) w:=by simp[getObj,Sem.run,hh]
 have dJ:∀o,(setObj m o).run P w= .ok () (w.putObj m o):=λo=>by simp[setObj,Sem.run,hh,World.putObj]
 have dp:=(z3F kv k).map (·.1)
 cases lw:Ql kv k with
 | none =>
   have hf:(Instr.findKey kt (K k) es.toList).run P w= .ok none w:=by simp[Instr.findKey,run_underlying hu,UQ hs 0 he lw]
   have jA:delL kv k=kv:=by
    clear he hh hd dp
    induction kv with
    |nil=>rfl
    | cons p r ih =>
      obtain⟨a,u⟩:=p;simp only[Ql] at lw;split at lw
      ·cases lw
      ·rename_i bP;simp only[delL,bP,if_false,ih lw]
   refine⟨.tuple #[],w.putObj m (.map es c),fun ρ hρ=>?_,⟨⟨es,c,World.putObj_heap_same aZ,by rw[jA];exact he,bK,bU⟩,by rw[jA];exact hd⟩,PR w m _⟩
   simp[execOp,resolve,invoke,builtin,hρ _ _ hx,hρ _ _ hy,Builtin.delete_,uU,run_underlying ht,hg,se,hf,dJ,Result.andThen]
 | some v0 =>
   obtain⟨j,wa,hj,mF⟩:=YX hs 0 he lw
   have hf:(Instr.findKey kt (K k) es.toList).run P w= .ok (some (j,v0)) w:=by
    rw[Nat.zero_add] at wa;simp[Instr.findKey,run_underlying hu,wa]
   have Bx:(es.eraseIdxIfInBounds j).toList=es.toList.eraseIdx j:=by
    simp at hj;simp[Array.eraseIdxIfInBounds,hj]
   refine⟨.tuple #[],w.putObj m (.map (es.eraseIdxIfInBounds j) c),fun ρ hρ=>?_,⟨⟨_,c,World.putObj_heap_same aZ,by rw[Bx];exact mF,?_,?_⟩,dp.nodup hd⟩,PR w m _⟩
   ·simp[execOp,resolve,invoke,builtin,hρ _ _ hx,hρ _ _ hy,Builtin.delete_,uU,run_underlying ht,hg,se,hf,dJ,Result.andThen]
   ·rw[Bx];exact λx hx=>bK x ((List.eraseIdx_sublist _ _).subset hx)
   ·rw[Bx];exact((List.eraseIdx_sublist _ _).map _).nodup bU
end
def Ov:Nat->Nat->List Bool
 |0,_=>[]
 |n+1,v=>v.testBit n::Ov n v
def OK:List Bool->Nat
 |[]=>0
 |b::l=>b.toNat*2^l.length+OK l
@[simp] theorem bitsN_length:∀(n v:Nat),(Ov n v).length=n
 |0,_=>rfl
 |n+1,v=>by simp[Ov,bitsN_length n v]
theorem Q8:∀(l:List Bool),OK l<2^l.length
 |[]=>by simp[OK]
 | b :: l => by
   have:=Q8 l;simp only[OK,List.length_cons,Nat.pow_succ];have:b.toNat<=1:=by cases b<;>simp
   have:b.toNat*2^l.length<=1*2^l.length:=Nat.mul_le_mul_right _ this;omega
theorem R1:∀(a b:List Bool),OK (a++b)=OK a*2^b.length+OK b
 |[],b=>by simp[OK]
 | x :: a, b => by
   rw[List.cons_append,OK,R1 a b,OK,List.length_append,Nat.pow_add,Nat.add_mul,Nat.mul_assoc];omega
theorem R8:∀(m n v:Nat),Ov (m+n) v=Ov m (v / 2^n)++Ov n v
 |0,n,v=>by simp[Ov]
 | m + 1, n, v => by
   rw[show m+1+n=(m+n)+1 by omega,Ov,Ov,List.cons_append,R8 m n v,Nat.testBit_div_two_pow]
theorem Pk:∀(n v:Nat),OK (Ov n v)=v%2^n
 |0,v=>by simp[Ov,OK,Nat.mod_one]
 | n + 1, v => by
   rw[Ov,OK,bitsN_length,Pk n v,Nat.pow_succ,Nat.mod_mul,Nat.testBit_eq_decide_div_mod_eq];rcases Nat.mod_two_eq_zero_or_one (v / 2^n) with e|e<;>simp[e]<;>omega
theorem VD:∀{n v u:Nat},v%2^n=u%2^n->Ov n v=Ov n u
 |0,_,_,_=>rfl
 | n + 1, v, u, h => by
   have h1:v.testBit n=u.testBit n:=by
    have e1:(v%2^(n+1)).testBit n=v.testBit n:=by rw[Nat.testBit_mod_two_pow];simp
    have e2:(u%2^(n+1)).testBit n=u.testBit n:=by rw[Nat.testBit_mod_two_pow];simp
    rw[<-e1,<-e2,h]
   have h2:v%2^n=u%2^n:=by
    have e1:v%2^(n+1)%2^n=v%2^n:=Nat.mod_mod_of_dvd _ (Nat.pow_dvd_pow 2 (Nat.le_succ n));have e2:u%2^(n+1)%2^n=u%2^n:=Nat.mod_mod_of_dvd _ (Nat.pow_dvd_pow 2 (Nat.le_succ n));rw[<-e1,<-e2,h]
   rw[Ov,Ov,h1,VD h2]
theorem Xs:∀{a b:List Bool},a.length=b.length->OK a=OK b->a=b
 |[],[],_,_=>rfl
 | x :: a, y :: b, hl, hv => by
   have hl':a.length=b.length:=by simpa using hl
   have h1:=Q8 a;have h2:=Q8 b;rw[OK,OK,hl'] at hv;rw[hl'] at h1
   have hx:x=y:=by
    cases x<;>cases y<;>simp at hv⊢<;>omega
   subst hx;rw[Xs hl' (by omega)]
theorem z05 (l:List Bool):Ov l.length (OK l)=l:=Xs (by simp) (by rw[Pk,Nat.mod_eq_of_lt (Q8 l)])
/-! ### Bytes -/
def On (s:NY):List Bool:=s.flatMap λc=>Ov 8 c.toNat
@[simp] theorem bitsT_length (s:NY):(On s).length=8*s.length:=by
 induction s with
 |nil=>rfl
 |cons c s ih=>simp[On] at ih⊢;omega
theorem XD (a b:NY):On (a++b)=On a++On b:=by simp[On]
def UW (d:List Bool):UInt8:=UInt8.ofNat (OK d*2^(8-d.length))
def Ow (l:List Bool):NY:=(List.range ((l.length+7) / 8)).map λi=>UW ((l.drop (8*i)).take 8)
theorem OO (l:List Bool):(Ow l).length=(l.length+7) / 8:=by simp[Ow]
theorem X5 {c d:List Bool}(hc:c.length%8=0)(h1:1<=d.length)(h8:d.length<=8):Ow (c++d)=Ow c++[UW d]:=by
 obtain⟨m,hm⟩:∃m,c.length=8*m:=⟨c.length / 8,by omega⟩
 unfold Ow
 rw[List.length_append,show(c.length+d.length+7) / 8=m+1 by omega,show(c.length+7) / 8=m by omega,List.range_succ,List.map_append]
 congr 1
 ·apply List.map_congr_left;intro i hi;rw[List.mem_range] at hi;rw[List.drop_append_of_le_length (by omega),List.take_append_of_le_length (by rw[List.length_drop];omega)]
 ·simp only[List.map_cons,List.map_nil];rw[<-hm,List.drop_left,List.take_of_length_le h8]
theorem z7E {d e:List Bool}(h:d.length+e.length<=8):(UW (d++e)).toNat=(UW d).toNat |||(OK e*2^(8-d.length-e.length)):=by
 have h1:=Q8 d
 have h2:=Q8 e
 have hp:∀(x:List Bool),x.length<=8->OK x*2^(8-x.length)<256:=λx hx=>by
  have h3:=Q8 x;have:OK x*2^(8-x.length)<2^x.length*2^(8-x.length):=Nat.mul_lt_mul_of_pos_right h3 (Nat.two_pow_pos _);rw[<-Nat.pow_add,show x.length+(8-x.length)=8 by omega] at this;exact this
 have e1:(UW (d++e)).toNat=OK (d++e)*2^(8-(d++e).length):=by
  unfold UW;rw[UInt8.toNat_ofNat'];exact Nat.mod_eq_of_lt (hp _ (by rw[List.length_append];omega))
 have e2:(UW d).toNat=OK d*2^(8-d.length):=by
  unfold UW;rw[UInt8.toNat_ofNat'];exact Nat.mod_eq_of_lt (hp _ (by omega))
 rw[e1,e2,R1,List.length_append,Nat.add_mul]
 have h5:OK d*2^e.length*2^(8-(d.length+e.length))=2^(8-d.length)*OK d:=by
  rw[Nat.mul_assoc,<-Nat.pow_add,show e.length+(8-(d.length+e.length))=8-d.length by omega,Nat.mul_comm]
 have h6:OK e*2^(8-(d.length+e.length))<2^(8-d.length):=by
  have:OK e*2^(8-(d.length+e.length))<2^e.length*2^(8-(d.length+e.length)):=Nat.mul_lt_mul_of_pos_right h2 (Nat.two_pow_pos _);rw[<-Nat.pow_add,show e.length+(8-(d.length+e.length))=8-d.length by omega] at this;exact this
 rw[h5,Nat.two_pow_add_eq_or_of_lt h6,Nat.mul_comm (2^(8-d.length)),show 8-d.length-e.length=8-(d.length+e.length) by omega]
theorem z95:UW []=0:=by decide
theorem Rq (l:List Bool):∃z,On (Ow l)=l++List.replicate z false/\(l.length+z)%8=0/\z<8:=by
 have key : ∀ (m : Nat) (l : List Bool), l.length <= 8 * m -> ∃ z, On (Ow l) = l ++ List.replicate z false /\ (l.length + z) % 8 = 0 /\ z < 8 := by
  intro m
  induction m with
  | zero =>
    intro l h;have:l=[]:=List.eq_nil_of_length_eq_zero (by omega);subst this
    exact⟨0,rfl,rfl,by omega⟩
  | succ m ih =>
    intro l h;by_cases h0:l=[]
    ·subst h0;exact⟨0,rfl,rfl,by omega⟩
    ·have hpos:1<=l.length:=by
      cases l with
      |nil=>exact absurd O h0
      |cons a r=>simp
     obtain⟨c,d,rfl,hc,h1,h8⟩:∃c d,l=c++d/\c.length%8=0/\1<=d.length/\d.length<=8:=by
      refine⟨l.take (8*((l.length-1) / 8)),l.drop (8*((l.length-1) / 8)),(List.take_append_drop _ _).symm,?_,?_,?_⟩
      ·rw[List.length_take];omega
      ·rw[List.length_drop];omega
      ·rw[List.length_drop];omega
     rw[List.length_append] at h;obtain⟨z,hz,hm,hl⟩:=ih c (by omega);have hz0:z=0:=by omega
     subst hz0;simp at hz;refine⟨8-d.length,?_,by rw[List.length_append];omega,by omega⟩;rw[X5 hc h1 h8,XD,hz,List.append_assoc]
     congr 1
     simp only[On,List.flatMap_cons,List.flatMap_nil,List.append_nil]
     have hv:OK (d++List.replicate (8-d.length) false)=OK d*2^(8-d.length):=by
      rw[R1,List.length_replicate]
      have:∀n,OK (List.replicate n false)=0:=λn=>by
       induction n with
       |zero=>rfl
       |succ n ih=>rw[List.replicate_succ,OK,ih];simp
      rw[this];rfl
     refine Xs (by simp;omega) ?_;rw[Pk,hv];have h3:=Q8 d
     have:OK d*2^(8-d.length)<2^8:=by
      have:OK d*2^(8-d.length)<2^d.length*2^(8-d.length):=Nat.mul_lt_mul_of_pos_right h3 (Nat.two_pow_pos _)
      rwa [<-Nat.pow_add,show d.length+(8-d.length)=8 by omega] at this
     unfold UW;rw[UInt8.toNat_ofNat'];rw[Nat.mod_mod,Nat.mod_eq_of_lt this]
 exact key l.length l (by omega)
theorem z5y (c:Nat)(hc:c<256)(room n:Nat)(hr:room<=8)(hn:n<=room):OK (((Ov 8 c).drop (8-room)).take n)=c%2^room / 2^(room-n):=by
 have e1:Ov 8 c=Ov (8-room) (c / 2^room)++Ov room c:=by rw[<-R8,show 8-room+room=8 by omega]
 have e2:Ov room c=Ov n (c / 2^(room-n))++Ov (room-n) c:=by rw[<-R8,show n+(room-n)=room by omega]
 rw[e1,List.drop_left' (by simp),e2,List.take_left' (by simp),Pk]
 have:c%2^room / 2^(room-n)=c / 2^(room-n)%2^n:=by
  have h2:2^room=2^(room-n)*2^n:=by rw[<-Nat.pow_add,show room-n+n=room by omega]
  rw[h2,Nat.mod_mul_right_div_self]
 rw[this]
theorem SO (c:UInt8)(s:NY):On (c::s)=Ov 8 c.toNat++On s:=rfl
theorem SM:∀(k:Nat) (s:NY),On (s.drop k)=(On s).drop (8*k)
 |0,s=>by simp
 |k+1,[]=>by simp[On]
 | k + 1, c :: s => by
   have e:(Ov 8 c.toNat++On s).drop (8+8*k)=(On s).drop (8*k):=by rw[<-List.drop_drop,List.drop_left' (by simp)]
   rw[List.drop_succ_cons,SM k s,SO,show 8*(k+1)=8+8*k by omega,e]
theorem TO:∀(k:Nat) (s:NY),On (s.take k)=(On s).take (8*k)
 |0,s=>by simp[On]
 |k+1,[]=>by simp[On]
 | k + 1, c :: s => by
   have e:(Ov 8 c.toNat++On s).take (8+8*k)=Ov 8 c.toNat++(On s).take (8*k):=by
    have:=List.take_length_add_append (l₁:=Ov 8 c.toNat) (l₂:=On s) (8*k)
    rwa [bitsN_length] at this
   rw[List.take_succ_cons,SO,TO k s,SO,show 8*(k+1)=8+8*k by omega,e]
theorem zcT {s:NY}{i:Nat}{c:UInt8}(h:s[i]? =some c):((On s).drop (8*i)).take 8=Ov 8 c.toNat:=by
 rw[<-SM]
 obtain⟨hi,e⟩:=List.getElem?_eq_some_iff.1 h
 rw[List.drop_eq_getElem_cons hi,e,show On (c::s.drop (i+1))=Ov 8 c.toNat++On (s.drop (i+1)) from rfl,List.take_left' (by simp)]
theorem z6o {s:NY}{at' n:Nat}{c:UInt8}(h:s[at' / 8]? =some c)(hn:n<=8-at'%8):OK (((On s).drop at').take n)=c.toNat%2^(8-at'%8) / 2^(8-at'%8-n):=by
 have h1:=zcT h
 have h2:=z5y c.toNat (by have:=c.toNat_lt;omega) (8-at'%8) n (by omega) hn
 rw[<-h2,<-h1]
 congr 1
 rw[List.drop_take,List.take_take,List.drop_drop,show 8*(at' / 8)+(8-(8-at'%8))=at' by omega]
 congr 1
 omega
theorem z5C {bs e:List Bool}(h1:1<=e.length)(h8:bs.length%8+e.length<=8):∃(c:NY) (x y:UInt8),(if bs.length%8=0 then Ow bs++[0] else Ow bs)=c++[x]/\Ow (bs++e)=c++[y]/\y.toNat=(x.toNat |||(OK e*2^(8-bs.length%8-e.length))):=by
 obtain⟨c,d,hcd,hc,hd⟩:∃c d,bs=c++d/\c.length%8=0/\d.length=bs.length%8:=⟨bs.take (8*(bs.length / 8)),bs.drop (8*(bs.length / 8)),(List.take_append_drop _ _).symm,by rw[List.length_take];omega,by rw[List.length_drop];omega⟩
 have hb:=z7E (d:=d) (e:=e) (by omega)
 rw[<-hd]
 refine⟨Ow c,UW d,UW (d++e),?_,?_,hb⟩
 ·by_cases h0:d.length=0
  ·have:d=[]:=List.eq_nil_of_length_eq_zero h0;subst this;rw[if_pos (by simp),hcd,List.append_nil,z95]
  ·rw[if_neg (by omega),hcd,X5 hc (by omega) (by omega)]
 ·rw[hcd,List.append_assoc,X5 hc (by rw[List.length_append];omega) (by rw[List.length_append];omega)]
abbrev u64v (n:Nat):Value:= .int .u64 (n:Int)
theorem VR {w:World}{v:Value}{T s n}{us:List Value}(h:Sl w v T s n us):oneV v=true:=by
 rcases h.shape with⟨rfl,-⟩|⟨g,c,rfl,-⟩<;>rfl
section
variable {P:Program}{e:Env}{d:Option Nat}{ty t t':TypeId}{pos:String}{aft:Array Edge}{g:Option (Nat×Bool)}{x y:Operand}{w:World}{k:IntKind}{m n:Nat}
theorem UB (hx:look e x=some (.int k (m:Int)))(hy:look e y=some (.int k (n:Int)))(hs:k.signed=false)(hm:m<2^k.bits)(h:n<=m):Y P e ⟨d,.binOp .sub t x y t',ty,pos,aft,g⟩ (.int k ((m-n:Nat):Int)) w w:=fun ρ hρ=>by
 have h1:(m:Int)-n=((m-n:Nat):Int):=by omega
 have h2:k.wrap ((m-n:Nat):Int)=((m-n:Nat):Int):=z0B hs (by omega)
 simp[execOp,go_sem,hρ _ _ hx,hρ _ _ hy,h1,h2]
theorem zih {el:TypeId}{c:Nat}(hs:P.underlying t=some (.slice el))(he:P.underlying el=some (.int .u8))(hd:P.underlying t'=some .string)(hx:look e x=some (.slice none 0 c)):Y P e ⟨d,.convert t t' x,ty,pos,aft,g⟩ (S []) w w:=fun ρ hρ=>by
 have hr:(convert t t' (.slice none 0 c)).run P w= .ok (S []) w:=by
  rw[run_convert_bytes_string w t t' el none 0 c hs he hd];rfl
 simp only[execOp,hρ _ _ hx,Sem.run_bind,hr,Result.andThen_ok,Sem.run_pure]
theorem zdR {el:TypeId}{gb n cap:Nat}{l:List UInt8}(hs:P.underlying t=some (.slice el))(he:P.underlying el=some (.int .u8))(hd:P.underlying t'=some .string)(hx:look e x=some (.slice (some ⟨gb,0,none⟩) n cap))(hS:Sl w (.slice (some ⟨gb,0,none⟩) n cap) el 1 n (l.map Rb)):
  Y P e ⟨d,.convert t t' x,ty,pos,aft,g⟩ (S l) w w:=by
 obtain⟨cur,hr,-,-,-,ht⟩:=hS.row
 refine z18 hs he hd hx hr.NX (by rw[List.drop_zero,<-ht,Nat.mul_one]) ?_
 have:=hS.len
 rw[List.length_map] at this
 omega
end
theorem Ps {w:World}{b off n cap i:Nat}{vs:List Value}{v:Value}(h:Rd w (.slice (some ⟨b,off,none⟩) n cap) 1 n vs)(hv:vs[i]? =some v):w.cell? ⟨b,off+i*1,none⟩=some v:=by
 rcases h.2 with⟨c,hc,h0⟩|⟨b',off',cap',e,hc⟩
 ·have hi:=(List.getElem?_eq_some_iff.1 hv).1;have:=h.1;omega
 ·cases e;rw[Nat.mul_one];exact hc i v hv
structure WrM (w:World)(p:Nat)(bv:Value)(bs:List Bool):Prop where
 NX:O9 w p [bv,I (bs.length:Int)] 286
 sl:Sl w bv 5 1 (Ow bs).length ((Ow bs).map Rb)
 ne:bv.ownBlock≠some p
def fpW (p:Nat)(bv:Value)(k:Nat):Prop:=k=p\/bv.ownBlock=some k
def XI (w:World)(p:Nat)(bs:List Bool)(F:Nat->Prop):Prop:=∃bv,WrM w p bv bs/\∀k,F k↔fpW p bv k
def WrR (p:Nat)(F:Nat->Prop)(w w':World)(bs:List Bool):Prop:=∃F',XI w' p bs F'/\Kp F w w'/\∀k,F' k->F k\/w.heap.size<=k
section
variable {w w':World}{p:Nat}{bs:List Bool}{F S:Nat->Prop}
theorem XI.lt (h:XI w p bs F){k:Nat}(hk:F k):k<w.heap.size:=by
 obtain⟨bv,hM,hF⟩:=h
 rcases (hF k).1 hk with e| e
 ·rw[e];exact hM.NX.lt
 ·exact hM.sl.lt e
theorem XI.kp (h:XI w p bs F)(k:Kp S w w')(hn:∀i,F i->¬S i):XI w' p bs F:=by
 obtain⟨bv,hM,hF⟩:=h
 exact⟨bv,⟨k.NX hM.NX (hn p ((hF p).2 (.inl O))),hM.sl.kp k (λg hg=>hn g ((hF g).2 (.inr hg))),hM.ne⟩,hF⟩
theorem XI.ext (h:XI w p bs F)(k:Ext w w'):XI w' p bs F:=h.kp k.kp λ_ _=>id
end
section
variable {w:World}{p:Nat}{bs:List Bool}{F:Nat->Prop}
theorem Ty (w:World):Oy prog 136 [] w λv w'=>∃p F,v=ptr p 0/\XI w' p [] F/\Ext w w'/\∀k,F k->w.heap.size<=k:=by
 refine NP (e:=[]) func136 O ntmps136 O O$ qN O$ Oc O$ qM O$ qV (Rt (cs:=[_,_]) zhg O zhH O O)$ O5 O O (Qr O O) ?_
 rintro _ w1 ⟨p,rfl,hp,hx,hB⟩
 refine NZ O$ NV func136 O ?_
 exact⟨_,rfl,p,_,rfl,⟨_,⟨hB,Sl.nil _ _ _,by simp[Value.ownBlock]⟩,λ_=>Iff.rfl⟩,hx,λk hk=>by
  rcases hk with e| e
  ·omega
  ·simp[Value.ownBlock] at e⟩
theorem zac (h:XI w p bs F)(v n:Nat)(hn:n<=64)(hv:v<2^n)(hl:bs.length+n<=1000000000):
  Oy prog 178 [ptr p 0,u64v v,I (n:Int)] w λu w'=>u= .tuple #[]/\WrR p F w w' (bs++Ov n v):=by
 obtain⟨bv,hM,hF⟩:=h
 have IR:v<18446744073709551616:=by
  have:=Nat.pow_le_pow_right (show 0<2 by decide) hn;have e:(2:Nat)^64=18446744073709551616:=by decide
  omega
 have dF:maxLen=9223372036854775807:=rfl
 refine NP (e:=[(0,_),(1,_),(2,_)]) func178 O ntmps178 O O$ NQ$ Qm (α:=Nat×Value×List Bool) ((n,bv,bs)) (λx=>[(0,ptr p 0),(1,u64v v),(2,I (x.1:Int))]) (λx w'=>x.1<=n/\WrM w' p x.2.1 x.2.2/\x.2.2=bs++Ov (n-x.1) (v / 2^x.1)/\Kp F w w'/\(∀k,fpW p x.2.1 k->F k\/w.heap.size<=k)) (λx=>x.1) ?hI ?hround
 case hI=>exact⟨Nat.le_refl _,hM,by rw[Nat.sub_self];simp[Ov],Kp.refl _ _,λk hk=> .inl ((hF k).2 hk)⟩
 case hround =>
  rintro⟨k,bv1,b1⟩ w1 ⟨hk,dG,bK,aK,fQ⟩ ih;dsimp only at hk dG bK fQ;have ai:=dG.NX;have Bz:b1.length<=bs.length+n:=by rw[bK,List.length_append,bitsN_length];omega
  have jM:b1.length&&&7=b1.length%8:=Nat.and_two_pow_sub_one_eq_mod b1.length 3;have il:=aK.size;have fD:=ai.lt
  try dsimp only
  refine py$ qN O$ NT O$ PD O O$ NU$ O8 O (λaZ=>?_)$ λaZ=>?_
  ·have i9 : 0 < k := by omega
   obtain⟨take,jN⟩:∃take,min k (8-b1.length%8)=take:=⟨_,rfl⟩;have sg:1<=take/\take<=k/\take<=8-b1.length%8:=by omega
   obtain⟨e,he⟩:∃e,Ov take (v / 2^(k-take))=e:=⟨_,rfl⟩;have oy:e.length=take:=by rw[<-he];simp
   have Ha:OK e=v / 2^(k-take)%2^take:=by rw[<-he,Pk]
   obtain⟨c,x,y,hL,hY,dj⟩:=z5C (bs:=b1) (e:=e) (by omega) (by omega);refine An$ NQ$ py$ qN O$ NT O$ OH O$ Og VQ O$ qV (O6 U3 O O ai O)$ qV (Wp O O (by omega) (by omega)) ?_;rw[jM];refine Qe O O$ NU$ OX (λe' w'=>e'=[(0,ptr p 0),(1,u64v v),(2,I (k:Int))]/\∃bv2,O9 w' p [bv2,I (b1.length:Int)] 286/\Sl w' bv2 5 1 (c++[x]).length ((c++[x]).map Rb)/\bv2.ownBlock≠some p/\Kp F w w'/\∀k,fpW p bv2 k->F k\/w.heap.size<=k) ?mG$ λmG=>?mH
   case mG=>
    rintro e' w2 ⟨rfl,bv2,am,cA,fR,aq,oz⟩
    obtain⟨g2,c2,rfl,er⟩:∃g cp,bv2= .slice (some ⟨g,0,none⟩) (c++[x]).length cp/\(c++[x]).length<=cp:=by
     rcases cA.shape with⟨-,e⟩| h
     ·simp at e
     ·exact h
    have cQ:(c++[x]).length=c.length+1:=by simp
    have IS:p≠g2:=λe=>fR (by rw[e];rfl);have lz:(Ow (b1++e)).length=c.length+1:=by rw[hY];simp
    rw[OO,List.length_append] at lz;obtain⟨T,hT⟩:∃T,2^take=T:=⟨_,rfl⟩;obtain⟨D,hD⟩:∃D,2^(k-take)=D:=⟨_,rfl⟩;obtain⟨R,hR⟩:∃R,2^(8-b1.length%8-take)=R:=⟨_,rfl⟩;rw[hT,hD] at Ha;rw[oy,hR] at dj
    have Hb:1<=T/\T<=256:=by
     rw[<-hT];exact⟨Nat.two_pow_pos _,by have:=Nat.pow_le_pow_right (show 0<2 by decide) (show take<=8 by omega);simpa using this⟩
    have j5:(v / D)&&&(T-1)=v / D%T:=by rw[<-hT];exact Nat.and_two_pow_sub_one_eq_mod _ _
    have MT:v / D<=v:=Nat.div_le_self _ _;have IT:v / D%T<T:=Nat.mod_lt _ (by omega)
    have MU:OK e*R<256:=by
     have h1:=Q8 e;rw[oy,hT] at h1;have h2:OK e*R<T*R:=Nat.mul_lt_mul_of_pos_right h1 (by rw[<-hR];exact Nat.two_pow_pos _);have h3:T*R=2^(8-b1.length%8):=by rw[<-hT,<-hR,<-Nat.pow_add,show take+(8-b1.length%8-take)=8-b1.length%8 by omega]
     have h4:=Nat.pow_le_pow_right (show 0<2 by decide) (show 8-b1.length%8<=8 by omega);have h5:(2:Nat)^8=256:=by decide
     omega
    have dq:=x.toNat_lt;refine qN O$ NT O$ OH O$ Og VQ O$ qV (O6 U3 O O am O)$ qV (Wp O O (by omega) (by omega)) ?_;rw[jM];refine Qp O O ?_;rw[show(8-((b1.length%8:Nat):Int))=((8-b1.length%8:Nat):Int) by omega];refine Oc O$ qM O$ Od O O$ qV (ymi O O) ?_;rw[show min (k:Int) ((8-b1.length%8:Nat):Int)=((take:Nat):Int) by omega];have hg:=Ext.Ob w2;refine NZ O$ py$ Qj (λw'=>Ext w2 w') O$ Oj 0 O O (hg)$ Oj 1 O O (hg)$ Oj 2 O O (hg)$ O0 3 O (Ww O O (by omega)) hg$ Oj 5 O O (hg) ?_;rw[show((k:Int)-(take:Int))=((k-take:Nat):Int) by omega];refine O0 4 O (R9 (k-take) D O O (by show k-take<=64;omega) hD) hg ?_;refine O0 6 O (PX take T O O (by omega) hT) hg ?_;rw[show(1*T)%18446744073709551616=T by omega];refine O0 7 O (UB (n:=1) O O O (by show T<2^64;omega) (by omega)) hg ?_;refine O0 8 O (Sq O O (by omega) (by omega)) hg ?_;rw[j5];refine O0 9 O (z3c O Qy U5) hg ?_;rw[show v / D%T%256=OK e by rw[Ha];exact Nat.mod_eq_of_lt (Nat.lt_of_lt_of_le IT Hb.2)];have au:=hg.NX am;have cj:=cA.ext hg;have ag:Ext w2.drew w2.drew.drew:=Ext.Ob w2.drew;refine O0 10 O (Qq O) hg$ qE$ py$ Oo [19] (λw'=>Ext w2.drew w') (by kernel_rfl) O$ OW 0 O O (ag)$ Ot 1 O (Pq O) ag$ Ot 2 O (OG Xg O) ag$ qL 3 O (λ_ h=>O6 Pc O O (h.NX au) O) ag$ OW 4 O O (ag)$ Ot 5 O (Pq O) ag$ Ot 6 O (OG Xg O) ag$ qL 7 O (λ_ h=>O6 Pc O O (h.NX au) O) ag$ Ot 8 O (RJ Pc O) ag$ OW 12 O O (ag) ?_;refine OW 13 O O (ag)$ OW 14 O O (ag)$ Ot 15 O (Ww O O (by omega)) ag$ Ot 9 O (Ww O O (by omega)) ag ?_;rw[show(((c++[x]).length:Int)-1)=((c.length:Nat):Int) by omega];refine Ot 10 O (P7 Pc Us O O (by omega)) ag$ qL 11 O (λ_ hS=>OC U5 O O (Ps (cj.rd.ext hS) (show((c++[x]).map Rb)[c.length]? =some (Rb x) by simp))) ag ?_;rw[show(((8-b1.length%8:Nat):Int)-(take:Int))=((8-b1.length%8-take:Nat):Int) by omega];refine Ot 16 O (zjz (8-b1.length%8-take) R O O (by omega) hR) ag ?_;rw[show OK e*R%256=OK e*R by omega];refine Ot 17 O (zjl O O (by omega) (by omega)) ag$ Ot 18 O (P7 Pc Us O O (by omega)) ag$ S8 [19]$ qO 19$ OP (i:=19) O O (QH Us O O O (cj.ext ag) (by simp)) ?_;rintro w4 ⟨dl,ao⟩;refine⟨trivial,?_⟩
    rw[show((c++[x]).map Rb).set (0+c.length*1) (.int .u8 ((x.toNat |||OK e*R:Nat):Int))=(c++[y]).map Rb by
     rw[Nat.zero_add,Nat.mul_one,List.map_append,List.map_append,List.set_append_right _ _ (by simp)]
     simp[Rb,dj]] at dl
    have aI:=ao.NX (ag.NX au) IS;refine qE$ qN O$ NT O$ OH O$ Og VQ O$ qV (O6 U3 O O aI O)$ NT O$ P6 O O$ OH O$ Og VQ O$ Oe O (PV Pb O O O aI (by simp)) ?_;rintro w5 ⟨aG,ak⟩;rw[show((b1.length:Int)+(take:Int))=(((b1++e).length:Nat):Int) by rw[List.length_append,oy];omega] at aG;replace aG:O9 w5 p [.slice (some ⟨g2,0,none⟩) (c++[x]).length c2,I ((b1++e).length:Int)] 286:=aG
    have dH:=dl.kp ak (λg hg e=>by
                         have:g2=g:=by simpa[Value.ownBlock] using hg
                         omega)
    refine NU$ NW O$ Od O O$ Qp O O$ NZ O$ NS ?_;rw[show((k:Int)-(take:Int))=((k-take:Nat):Int) by omega];refine(ih (k-take,.slice (some ⟨g2,0,none⟩) (c++[x]).length c2,b1++e) w5 ⟨by dsimp only;omega,⟨aG,?_,fR⟩,?_,?_,oz⟩ (by dsimp only;omega)).qb
    ·rw[hY];have e1:(c++[y]).length=(c++[x]).length:=by simp
     rw[e1];exact dH
    ·dsimp only;rw[bK,List.append_assoc]
     congr 1
     rw[<-he,show n-(k-take)=(n-k)+take by omega,R8]
     congr 2
     rw[Nat.div_div_eq_div_mul,<-Nat.pow_add,show k-take+take=k by omega]
    ·have BA:Kp (fpW p (.slice (some ⟨g2,0,none⟩) (c++[x]).length c2)) w2 w5:=((hg.trans ag).kp.trans (ao.Of (λi e=> .inr (by rw[e];rfl)))).trans (ak.Of (λi e=> .inl e));exact aq.NR BA (λi hi=>(oz i hi).symm)
   case mH=>
    refine O8 O (λh0=>?_)$ λh0=>?_
    ·rw[if_pos (by omega)] at hL;refine NW O$ Od O O$ OH O$ Og Xg O$ qV (O6 Pc O O ai O)$ O5 O O (Vl (cs:=[_]) (zs:=[Value.int .u8 0]) Pc Us O (by kernel_rfl) O O O (by decide)) ?_;rintro _ w2 ⟨b2,rfl,⟨bU,ae,am⟩,cA⟩;refine O5 O O (pap Pc Us O (by decide) O O (dG.sl.ext ae) cA.rd (by intro c hc;simp at hc;subst hc;rfl) (by rw[OO];omega) (by rw[OO];omega)) ?_;rintro bv3 w3 ⟨cj,aw,fS,-⟩;have au:=aw.NX (ae.NX ai) dG.ne;refine OH O$ Og Xg O$ Oe O (PV Va O O (VR cj) au (by simp)) ?_;rintro w4 ⟨aI,ao⟩;replace aI:O9 w4 p [bv3,I (b1.length:Int)] 286:=aI;refine NU ?_
     have eX:bv3.ownBlock≠some p:=λe=>by
      rcases fS p e with e| e
      ·exact dG.ne e
      ·have:=ae.size;omega
     refine(mG _ _ ⟨rfl,bv3,aI,?_,eX,?_,?_⟩).qb
     ·rw[<-hL,List.length_append,List.map_append];exact cj.kp ao (λg hg e=>eX (e▸hg))
     ·exact aK.NR ((ae.kp.trans (aw.Of (λk e=> .inr e))).trans (ao.Of (λk e=> .inl e))) (λi hi=>(fQ i hi).symm)
     ·intro i hi;rcases hi with e| e
      ·exact fQ i (.inl e)
      ·rcases fS i e with e| e
       ·exact fQ i (.inr e)
       ·have:=ae.size;exact .inr (by omega)
    ·rw[if_neg (by omega)] at hL;refine An ?_;exact(mG _ _ ⟨rfl,bv1,ai,by rw[<-hL];exact dG.sl,dG.ne,aK,fQ⟩).qb
  ·have:k=0:=by omega
   subst this;refine O4 O$ PE func178 O (⟨_,rfl,rfl,_,⟨bv1,?_,λ_=>Iff.rfl⟩,aK,fQ⟩);rw[bK,Nat.sub_zero,Nat.pow_zero,Nat.div_one] at dG;exact dG
theorem z7X (v n:Nat)(hn:n<=64)(hv:v<2^n)(w:World):Oy prog 177 [u64v v,I (n:Int)] w λu w'=>u= .bool true/\w'=w:=by
 refine NP (e:=[(0,_),(1,_)]) func177 O ntmps177 O O$ qN O$ Oc O$ qM O$ NT O$ SB O O$ NT O$ Rv (λh1=>?_)$ λh1=>?_
 ·refine qS$ qS$ qS$ qS$ PT O O$ NZ O$ NV func177 O ?_;exact⟨_,rfl,rfl,rfl⟩
 ·refine Od O O$ qV (R9 n (2^n) O O (by show n<=64;omega) O) ?_;rw[Nat.div_eq_of_lt hv];refine Qe O O$ OU O O$ NZ O$ NV func177 O ?_;exact⟨_,rfl,by simp[Pn],rfl⟩
theorem Rp (h:XI w p bs F)(v n:Nat)(hn:n<=64)(hv:v<2^n)(hl:bs.length+n<=134217728):
  Oy prog 137 [ptr p 0,u64v v,I (n:Int)] w λu w'=>u=I 0/\WrR p F w w' (bs++Ov n v):=by
 obtain⟨bv,hM,hF⟩:=id h
 have hB:=hM.NX
 refine NP (e:=[(0,_),(1,_),(2,_)]) func137 O ntmps137 O O$ qN O$ NZ O$ py$ NQ$ qN O$ NT O$ qV (Pt z2M O O)$ NZ O$ It O$ qN O$ NT O$ Py O O$ NT O ?_
 refine Rv (λh1=>?_)$ λh1=>?_
 ·omega
 ·refine NT O$ PD O O$ OU O O$ NT O$ Rv (λh2=>?_)$ λh2=>?_
  ·omega
  ·refine Od O O$ Om zfU O (z7X v n hn hv w) ?_;rintro _ w ⟨rfl,rfl⟩;refine qV ((Rn O))$ OU O O$ NZ O$ It O$ qN O$ Od O O$ OH O$ Og VQ O$ qV (O6 U3 O O hB O)$ Qp O O$ PD O O$ NZ O$ OD.qb (e:=[(0,_),(1,_),(2,_),(6,_),(23,_)]) ?_;refine O8 O (λh3=>?_)$ λh3=>?_
   ·omega
   ·refine An$ NS$ qN O$ Od O O$ NT O$ Om zfJ O (zac h v n hn hv (by omega)) ?_;rintro _ w1 ⟨rfl,hR⟩;refine qM O$ NZ O$ NV func137 O ?_;exact⟨_,rfl,rfl,hR⟩
theorem VM (h:XI w p bs F):Oy prog 138 [ptr p 0] w λu w'=>u= .tuple #[S (Ow bs),I 0]/\w'=w:=by
 obtain⟨bv,hM,hF⟩:=h
 have hB:=hM.NX
 have hS:=hM.sl
 refine NP (e:=[(0,_)]) func138 O ntmps138 O O$ qN O$ Oc O$ NZ O$ py$ qN O$ NT O$ qV (Pt z2M O O)$ NU$ It O$ An$ qN O$ NT O$ OH O ?_
 refine Og Xg O$ qV (O6 Pc O O hB O) ?_
 rcases hS.shape with⟨rfl,h0⟩|⟨g,cap,rfl,jO⟩
 ·have hn:Ow bs=[]:=List.eq_nil_of_length_eq_zero h0;rw[hn];refine qV (zih Pc U5 U9 O)$ Oc O$ NZ O$ NV func138 O ?_;exact⟨_,rfl,rfl,rfl⟩
 ·refine qV (zdR (l:=Ow bs) Pc U5 U9 O hS)$ Oc O$ NZ O$ NV func138 O ?_;exact⟨_,rfl,rfl,rfl⟩
theorem Uu (h:XI w p bs F):Oy prog 141 [ptr p 0] w λu w'=>u=I (bs.length:Int)/\w'=w:=by
 obtain⟨bv,hM,hF⟩:=h
 have hB:=hM.NX
 refine NP (e:=[(0,_)]) func141 O ntmps141 O O$ qN O$ NZ O$ py$ qN O$ NT O$ qV (Pt z2M O O)$ NU$ It O$ An$ qN O$ NT O$ OH O$ Og VQ O ?_
 refine qV (O6 U3 O O hB O)$ NZ O$ NV func141 O ?_
 exact⟨_,rfl,rfl,rfl⟩
end
def SX (w:World)(r:Nat)(s:NY)(a:Nat):Prop:=O9 w r [S s,I (a:Int)] 324/\a<=8*s.length/\s.length<=1000000000
section
variable {w:World}{r:Nat}{s:NY}{a:Nat}
theorem VW (s:NY)(hs:s.length<=1000000000)(w:World):Oy prog 180 [S s] w λv w'=>∃r,v=ptr r 0/\SX w' r s 0/\Ext w w'/\w.heap.size<=r:=by
 refine NP (e:=[(0,_)]) func180 O ntmps180 O O$ qN O$ Oc O$ qM O$ NT O$ qV (Rt (cs:=[_,_]) zfT O zg4 O O)$ O5 O O (Qr O O) ?_
 rintro _ w1 ⟨r,rfl,hr,hx,hB⟩
 refine NZ O$ NV func180 O ?_
 exact⟨_,rfl,r,rfl,⟨hB,Nat.zero_le _,hs⟩,hx,by omega⟩
theorem Th (h:SX w r s a):Oy prog 225 [ptr r 0] w λv w'=>v=I (a:Int)/\w'=w:=by
 obtain⟨hB,h1,h2⟩:=h
 refine NP (e:=[(0,_)]) func225 O ntmps225 O O$ qN O$ NZ O$ py$ qN O$ NT O$ qV (Pt Ud O O)$ NU$ It O$ An$ qN O$ NT O$ OH O$ Og U7 O ?_
 refine qV (O6 U3 O O hB O)$ NZ O$ NV func225 O ?_
 exact⟨_,rfl,rfl,rfl⟩
theorem z8M (h:SX w r s a):Oy prog 214 [ptr r 0] w λv w'=>v=I ((8*s.length-a:Nat):Int)/\Ext w w':=by
 obtain⟨hB,h1,h2⟩:=h
 refine NP (e:=[(0,_)]) func214 O ntmps214 O O$ qN O$ NZ O$ py$ qN O$ NT O$ qV (Pt Ud O O) ?_
 have hg:=Ext.Ob w
 refine NU$ It O$ An$ py$ Qj (λw'=>Ext w w') O$ Oj 0 O O (hg)$ O0 1 O (Pq O) hg$ O0 2 O (OG z2D O) hg$ qT 3 O (λ_ h=>O6 U9 O O (h.NX hB) O) hg$ O0 4 O (Sr U9 O) hg$ O0 5 O (Xa O O (by omega)) hg$ Oj 6 O O (hg)$ O0 7 O (Pq O) hg$ O0 8 O (OG U7 O) hg ?_
 refine qT 9 O (λ_ h=>O6 U3 O O (h.NX hB) O) hg$ O0 10 O (Ww O O (by omega)) hg$ O0 11 O (Qq O) hg$ qE$ NV func214 O (⟨_,rfl,?_,hg⟩)
 simp only[Pn]
 congr 1
 omega
theorem Y8 (h:SX w r s a)(k:Nat)(hk:k<=8*s.length):Oy prog 244 [ptr r 0,I (k:Int)] w λv w'=>v=I 0/\SX w' r s k/\Kp (λi=>i=r) w w':=by
 obtain⟨hB,h1,h2⟩:=h
 refine NP (e:=[(0,_),(1,_)]) func244 O ntmps244 O O$ qN O$ NZ O$ py$ NQ$ qN O$ NT O$ qV (Pt Ud O O)$ NZ O$ It O$ qN O$ NT O$ Py O O$ NT O ?_
 refine Rv (λc1=>?_)$ λc1=>?_
 ·omega
 ·refine Od O O$ OH O$ Og z2D O$ qV (O6 U9 O O hB O)$ qV (Sr U9 O)$ qV (Xa O O (by omega))$ PD O O$ OU O O$ NZ O$ O8 O (λc2=>?_)$ λc2=>?_
  ·omega
  ·refine An$ NS$ qN O$ Od O O$ OH O$ Og U7 O$ Oe O (PV Pb O O O hB (by simp)) ?_;rintro w1 ⟨ai,aK⟩;refine qM O$ NZ O$ NV func244 O ?_;exact⟨_,rfl,rfl,⟨ai,hk,h2⟩,aK⟩
theorem z5v {b2 b6 V n:Nat}(h:SX w r s a)(h2:O9 w b2 [ptr r 0] 291)(h6:O9 w b6 [u64v V] 23)(hn:1<=n)(sh:n<=8-a%8)(hl:a+n<=8*s.length)(hV:V*2^n+2^n<=18446744073709551616)(d1:b6≠r)(d2:b2≠r)(d3:b2≠b6):
  Oy prog 215 [I (n:Int),ptr b2 0,ptr b6 0] w λu w'=>u= .tuple #[]/\SX w' r s (a+n)/\O9 w' b6 [u64v (V*2^n+OK (((On s).drop a).take n))] 23/\O9 w' b2 [ptr r 0] 291/\Kp (λk=>k=b6\/k=r) w w':=by
 obtain⟨hB,ha,hs⟩:=h
 have jM:a&&&7=a%8:=Nat.and_two_pow_sub_one_eq_mod a 3
 obtain⟨c,hc⟩:∃c,s[a / 8]? =some c:=⟨_,List.getElem?_eq_getElem (by omega)⟩
 have hp:=z6o hc sh
 obtain⟨pc,lz⟩:∃pc,OK (((On s).drop a).take n)=pc:=⟨_,rfl⟩
 have fD:pc<2^n:=by
  rw[<-lz];have h1:=Q8 (((On s).drop a).take n);rw[List.length_take,List.length_drop,bitsT_length,Nat.min_eq_left (by omega)] at h1;exact h1
 rw[lz] at hp⊢
 have MV:=c.toNat_lt
 obtain⟨rm,AC⟩:∃rm,8-a%8=rm:=⟨_,rfl⟩
 rw[AC] at hp sh
 have j5:c.toNat&&&(2^rm-1)=c.toNat%2^rm:=Nat.and_two_pow_sub_one_eq_mod _ _
 obtain⟨R,hR⟩:∃R,2^rm=R:=⟨_,rfl⟩
 have uV:1<=R/\R<=256:=by
  rw[<-hR];exact⟨Nat.two_pow_pos _,by have:=Nat.pow_le_pow_right (show 0<2 by decide) (show rm<=8 by omega);simpa using this⟩
 rw[hR] at hp j5
 have mj:c.toNat%R<=c.toNat:=Nat.mod_le _ _
 have IU:s.getD (a / 8) 0=c:=by rw[List.getD_eq_getElem?_getD,hc];rfl
 refine NP (e:=[(0,_),(1,_),(2,_)]) func215 O ntmps215 O O$ qN O$ qV ((O6 Ud O O h2 O))$ OH O$ Og U7 O$ qV ((O6 U3 O O hB O))$ qV (Wp O O (by omega) (by omega)) ?_
 rw[jM]
 refine Qp O O ?_
 rw[show(8-((a%8:Nat):Int))=((rm:Nat):Int) by omega]
 have hg:=Ext.Ob w
 refine NZ O$ py$ Qj (λw'=>Ext w w') O$ qT 0 O (λ_ h=>(O6 Ud O O (h.NX h2) O)) hg$ O0 1 O (Pq O) hg$ O0 2 O (OG z2D O) hg$ qT 3 O (λ_ h=>(O6 U9 O O (h.NX hB) O)) hg$ qT 4 O (λ_ h=>(O6 Ud O O (h.NX h2) O)) hg$ O0 5 O (Pq O) hg$ O0 6 O (OG U7 O) hg$ qT 7 O (λ_ h=>(O6 U3 O O (h.NX hB) O)) hg$ O0 8 O (UH O O (by omega)) hg$ Oj 11 O O (hg)$ Oj 15 O O (hg) ?_
 refine Oj 16 O O (hg)$ O0 17 O (Ww O O (by omega)) hg ?_
 rw[show((a:Int) / 8)=((a / 8:Nat):Int) by omega]
 refine O0 9 O (z0l U9 O O (by omega)) hg$ O0 10 O ((z1a O U5 U3 (by decide))) hg ?_
 rw[IU]
 refine O0 12 O (zgp rm R O O (by omega) hR (by omega)) hg ?_
 rw[show(1*(R:Int))=((R:Nat):Int) by omega]
 refine O0 13 O (Ww O O (by omega)) hg ?_
 rw[show((R:Int)-1)=((R-1:Nat):Int) by omega]
 refine O0 14 O (Wp O O (by omega) (by omega)) hg ?_
 rw[j5]
 rw[show((rm:Int)-(n:Int))=((rm-n:Nat):Int) by omega]
 refine O0 18 O (R9 (rm-n) (2^(rm-n)) O O (by show rm-n<=64;omega) O) hg ?_
 rw[<-hp]
 refine O0 19 O (Qq O) hg$ qE$ OD.qb (e:=[(0,_),(1,_),(2,_),(5,_)]) ?_
 refine qN O ?_
 have ai:=hg.NX hB
 have IV:=hg.NX h2
 have AD:=hg.NX h6
 obtain⟨N,hN⟩:∃N,2^n=N:=⟨_,rfl⟩
 rw[hN] at hV fD
 have MW:1<=N:=by rw[<-hN];exact Nat.two_pow_pos _
 obtain⟨M,hM⟩:∃M,V*N=M:=⟨_,rfl⟩
 rw[hM] at hV
 have mm:M |||pc=M+pc:=by
  have:=Nat.two_pow_add_eq_or_of_lt (i:=n) (b:=pc) (by rw[hN];exact fD) V;rw[hN,Nat.mul_comm N V,hM] at this;exact this.symm
 rw[hN,hM]
 have si:n<=64:=by omega
 refine qV ((O6 Qy O O AD O))$ NT O$ qV (PX n N O O si hN) ?_
 rw[hM,Nat.mod_eq_of_lt (show M<18446744073709551616 by omega)]
 refine NT O$ qV ((Pf O U3 Qy (by omega)))$ qV (Yf O O (by omega) (by omega)) ?_
 rw[mm]
 refine Oe O (PV Si O O O AD (by simp)) ?_
 rintro w2 ⟨IW,aq⟩
 have am:=aq.NX ai (Ne.symm d1)
 have Hc:=aq.NX IV d3
 refine NU$ NW O$ qV ((O6 Ud O O Hc O))$ OH O$ Og U7 O$ qV ((O6 U3 O O am O))$ NT O$ P6 O O$ OH O$ Og U7 O$ Oe O (PV Pb O O O am (by simp)) ?_
 rintro w3 ⟨au,aw⟩
 rw[show((a:Int)+(n:Int))=((a+n:Nat):Int) by omega] at au
 refine NU$ PE func215 O ?_
 exact⟨_,rfl,rfl,⟨au,hl,hs⟩,aw.NX IW d1,aw.NX Hc d2,(hg.kp.trans (aq.Of (λk e=> .inl e))).trans (aw.Of (λk e=> .inr e))⟩
theorem Ui (h:SX w r s a)(n:Nat)(hn:n<=64):
  Oy prog 182 [ptr r 0,I (n:Int)] w λv w'=>(a+n<=8*s.length/\v= .tuple #[u64v (OK (((On s).drop a).take n)),I 0]/\SX w' r s (a+n)/\Kp (λk=>k=r) w w')\/(8*s.length<a+n/\v= .tuple #[u64v 0,I 4]/\Ext w w'):=by
 have ia:=h.1.lt
 obtain⟨-,ha,hs⟩:=id h
 refine NP (e:=[(0,_),(1,_)]) func182 O ntmps182 O O$ qN O$ O5 O O (Qr O (cs:=[ptr r 0]) O) ?_
 rintro _ w1 ⟨b2,rfl,bU,ad,am⟩
 have h1:SX w1 r s a:=⟨ad.NX h.1,h.2⟩
 refine Oc O$ NZ O$ py$ NQ$ qN O$ qV (O6 Ud O O am O)$ qV (Pt Ud O O)$ NZ O$ It O$ qN O$ NT O$ Py O O$ NT O$ Rv (λc1=>?_)$ λc1=>?_
 ·omega
 ·refine NT O$ PD O O$ OU O O$ NZ O$ O8 O (λc2=>?_)$ λc2=>?_
  ·omega
  ·refine qN O$ NT O$ qV (O6 Ud O O am O)$ Om zik O (z8M h1) ?_;rintro _ w2 ⟨rfl,ae⟩;refine PD O O$ NZ O$ O8 O (λc3=>?_)$ λc3=>?_
   ·refine qN O$ Oc O$ NZ O$ NV func182 O ?_;exact⟨_,rfl,.inr ⟨by omega,rfl,ad.trans ae⟩⟩
   ·refine An$ NS$ qN O$ O5 O O (QU (cs:=[_]) Si O) ?_;rintro _ w3 ⟨b6,rfl,jP,ah,aO⟩;replace aO:O9 w3 b6 [u64v 0] 23:=aO;have ba:=ae.trans ah;have da:=ad.trans ba;have il:=ad.size;have mI:=ae.size;have gK:=am.lt;have bM:a+n<=8*s.length:=by omega
    refine qM O$ qV (ymf (first:=[]) (caps:=[.tmp 2,.tmp 6]) O O)$ NZ O$ py$ NQ$ Qm (α:=Nat) (n) (λk=>[(1,I (k:Int)),(2,ptr b2 0),(6,ptr b6 0),(7,.func (.func 215) #[] #[ptr b2 0,ptr b6 0])]) (λk w'=>k<=n/\SX w' r s (a+(n-k))/\O9 w' b6 [u64v (OK (((On s).drop a).take (n-k)))] 23/\O9 w' b2 [ptr r 0] 291/\Kp (λi=>i=r) w w') (λk=>k) ?hI ?hround
    case hI=>exact⟨Nat.le_refl _,⟨by rw[Nat.sub_self];exact da.NX h.1,by omega,hs⟩,by rw[Nat.sub_self];exact aO,ba.NX am,da.kp⟩
    case hround=>
     rintro k w4 ⟨hk,fT,sj,Hd,ao⟩ ih;have He:=fT.1
     try dsimp only
     refine py$ qN O$ NT O$ PD O O$ NU$ O8 O (λaZ=>?_)$ λaZ=>?_
     ·obtain⟨p,hp⟩:∃p,a+(n-k)=p:=⟨_,rfl⟩;rw[hp] at He fT;have jM:p&&&7=p%8:=Nat.and_two_pow_sub_one_eq_mod p 3;obtain⟨take,jN⟩:∃take,min k (8-p%8)=take:=⟨_,rfl⟩;have sg:1<=take/\take<=k/\take<=8-p%8:=by omega
      refine An$ NQ$ qN O$ NT O$ qV ((O6 Ud O O Hd O))$ OH O$ Og U7 O$ qV ((O6 U3 O O He O))$ qV (Wp O O (by omega) (by omega)) ?_;rw[jM];refine Qp O O$ qV (ymi O O) ?_;rw[show min (k:Int) (8-((p%8:Nat):Int))=((take:Nat):Int) by omega];obtain⟨V,hV⟩:∃V,OK (((On s).drop a).take (n-k))=V:=⟨_,rfl⟩;rw[hV] at sj
      have IX:V*2^take+2^take<=18446744073709551616:=by
       have h1:=Q8 (((On s).drop a).take (n-k));rw[hV,List.length_take,List.length_drop,bitsT_length,Nat.min_eq_left (by omega)] at h1;have h2:(V+1)*2^take<=2^(n-k)*2^take:=Nat.mul_le_mul_right _ h1;rw[<-Nat.pow_add,Nat.add_mul,Nat.one_mul] at h2;have h3:=Nat.pow_le_pow_right (show 0<2 by decide) (show n-k+take<=64 by omega);have h4:(2:Nat)^64=18446744073709551616:=by decide
       omega
      refine Oc O$ qM O$ Od O O$ PG O O (R0 zg3 O O) (z5v fT Hd sj sg.1 sg.2.2 (by omega) IX (by omega) (by omega) (by omega)) ?_;rintro _ w5 ⟨rfl,sq,IY,IZ,ak⟩;refine NU$ NW O$ Od O O$ Qp O O$ NZ O$ NS ?_;rw[show((k:Int)-(take:Int))=((k-take:Nat):Int) by omega];refine(ih (k-take) w5 ⟨by omega,?_,?_,IZ,?_⟩ (by omega)).qb
      ·rw[show a+(n-(k-take))=p+take by omega];exact sq
      ·rw[show n-(k-take)=(n-k)+take by omega,List.take_add,R1,hV,List.drop_drop,hp];have hl:(((On s).drop p).take take).length=take:=by rw[List.length_take,List.length_drop,bitsT_length];omega
       rw[hl];exact IY
      ·exact ao.NR ak (λi hi=>hi.elim (λe=> .inl (by omega)) .inr)
     ·have:k=0:=by omega
      subst this;rw[Nat.sub_zero] at fT sj;refine O4 O$ qN O$ qV (O6 Qy O O sj O)$ Oc O$ NZ O$ NV func182 O ?_;exact⟨_,rfl,.inl ⟨bM,rfl,fT,ao⟩⟩
end
def P3 (v:Nat):Nat:=if v=0 then 0 else Nat.log2 v+1
theorem VP {v:Nat}:v<2^P3 v:=by
 unfold P3
 split
 ·subst_vars;simp
 ·exact Nat.lt_log2_self
theorem Zi {v:Nat}(h:v≠0):2^(P3 v-1)<=v:=by
 unfold P3
 rw[if_neg h,Nat.add_sub_cancel]
 exact Nat.log2_self_le h
theorem Zk {v n:Nat}(h1:2^n<=v)(h2:v<2^(n+1)):P3 v=n+1:=by
 have hp:=Nat.two_pow_pos n
 have h0:v≠0:=by omega
 unfold P3
 rw[if_neg h0]
 have:=(Nat.log2_eq_iff h0).2 ⟨h1,h2⟩
 omega
theorem Qi {v n:Nat}(h:v<2^n):P3 v<=n:=by
 by_cases h0:v=0
 ·subst h0;simp[P3]
 ·have h1:=Zi h0;have h2:2^(P3 v-1)<2^n:=by omega
  have h3:=(Nat.pow_lt_pow_iff_right (by decide:1<2)).1 h2;have:P3 v≠0:=by unfold P3;rw[if_neg h0];omega
  omega
def QG (v K:Nat):Nat×Nat:=
 let s:=P3 (K-1)
 let m:=2^s-K
 if v<m then(v,s-1) else(v+m,s)
def PO (v K:Nat):List Bool:=Ov (QG v K).2 (QG v K).1
theorem U6 {K:Nat}(hK:1<=K):K<=2^P3 (K-1)/\(1<K->1<=P3 (K-1)/\2^(P3 (K-1)-1)+1<=K):=by
 have h1:=VP (v:=K-1)
 refine⟨by omega,λh=>?_⟩
 have h2:=Zi (v:=K-1) (by omega)
 refine⟨?_,by omega⟩
 unfold P3
 rw[if_neg (by omega)];omega
theorem z9k {v K:Nat}(h:v<K):(QG v K).1<2^(QG v K).2:=by
 obtain⟨h1,h2⟩:=U6 (K:=K) (by omega)
 unfold QG
 dsimp only
 split
 ·rename_i hm
  by_cases hK:K=1
  ·subst hK;simp[P3] at hm
  ·obtain⟨h3,h4⟩:=h2 (by omega);have:2^P3 (K-1)=2*2^(P3 (K-1)-1):=by rw[<-Nat.pow_succ',show(P3 (K-1)-1).succ=P3 (K-1) by omega]
   dsimp only;omega
 ·dsimp only;omega
theorem z5i {v K:Nat}(h:v<K)(hK:1<K)(rest:List Bool):
  let s:=P3 (K-1)
  let m:=2^s-K
  1<=s/\s-1<=(PO v K).length/\
  ((OK ((PO v K).take (s-1))<m/\(PO v K).length=s-1/\OK ((PO v K).take (s-1))=v)\/
   (m<=OK ((PO v K).take (s-1))/\(PO v K).length=s/\2*OK ((PO v K).take (s-1))+OK ((PO v K).drop (s-1))=v+m)):=by
 obtain⟨h1,h2⟩:=U6 (K:=K) (by omega)
 obtain⟨h3,h4⟩:=h2 hK
 have h5:2^P3 (K-1)=2*2^(P3 (K-1)-1):=by rw[<-Nat.pow_succ',show(P3 (K-1)-1).succ=P3 (K-1) by omega]
 dsimp only
 unfold PO QG
 dsimp only
 refine⟨h3,?_⟩
 split
 ·rename_i hm
  dsimp only;rw[bitsN_length,List.take_of_length_le (by simp),Pk,Nat.mod_eq_of_lt (by omega)];exact⟨Nat.le_refl _,.inl ⟨hm,rfl,rfl⟩⟩
 ·rename_i hm
  dsimp only;rw[bitsN_length]
  have e:Ov (P3 (K-1)) (v+(2^P3 (K-1)-K))=Ov (P3 (K-1)-1) ((v+(2^P3 (K-1)-K)) / 2^1)++Ov 1 (v+(2^P3 (K-1)-K)):=by
   rw[<-R8,show P3 (K-1)-1+1=P3 (K-1) by omega]
  rw[e,List.take_left' (by simp),List.drop_left' (by simp),Pk,Pk,Nat.mod_eq_of_lt (by omega)];exact⟨by omega,.inr ⟨by omega,rfl,by omega⟩⟩
inductive Cd where
 |unary
 |gamma
 |zeta (k:Nat)
def Cd.zeros:Cd->Nat->Nat
 | .unary,v=>v
 | .gamma,v=>Nat.log2 (v+1)
 | .zeta k,v=>Nat.log2 (v+1) / k
def Cd.rest:Cd->Nat->List Bool
 | .unary,_=>[]
 | .gamma,v=>Ov (Nat.log2 (v+1)) (v+1-2^Nat.log2 (v+1))
 | .zeta k,v=>let h:=Nat.log2 (v+1) / k;PO (v+1-2^(h*k)) (2^(h*k)*2^k-2^(h*k))
def Cd.enc (c:Cd)(v:Nat):List Bool:=List.replicate (c.zeros v) false++true::c.rest v
theorem UO {v:Nat}(h:v<=281474976710654):2^Nat.log2 (v+1)<=v+1/\v+1<2^(Nat.log2 (v+1)+1)/\Nat.log2 (v+1)<=47:=by
 have h1:=Nat.log2_self_le (n:=v+1) (by omega)
 have h2:=Nat.lt_log2_self (n:=v+1)
 refine⟨h1,h2,?_⟩
 have h3:2^Nat.log2 (v+1)<2^48:=by
  have:(2:Nat)^48=281474976710656:=by decide
  omega
 have:=(Nat.pow_lt_pow_iff_right (by decide:1<2)).1 h3
 omega
theorem WS {k v:Nat}(hk:1<=k):let h:=Nat.log2 (v+1) / k;2^(h*k)<=v+1/\v+1-2^(h*k)<2^(h*k)*2^k-2^(h*k)/\1<=2^(h*k)*2^k-2^(h*k):=by
 dsimp only
 have h1:=Nat.log2_self_le (n:=v+1) (by omega)
 have h2:=Nat.lt_log2_self (n:=v+1)
 have h3:Nat.log2 (v+1) / k*k<=Nat.log2 (v+1):=Nat.div_mul_le_self _ _
 have h4:Nat.log2 (v+1)+1<=Nat.log2 (v+1) / k*k+k:=by
  have:=Nat.div_add_mod (Nat.log2 (v+1)) k;have:=Nat.mod_lt (Nat.log2 (v+1)) (show 0<k by omega);have e:=Nat.mul_comm k (Nat.log2 (v+1) / k);omega
 have h5:2^(Nat.log2 (v+1) / k*k)<=2^Nat.log2 (v+1):=Nat.pow_le_pow_right (by decide) h3
 have h6:2^(Nat.log2 (v+1)+1)<=2^(Nat.log2 (v+1) / k*k+k):=Nat.pow_le_pow_right (by decide) h4
 rw[Nat.pow_add 2 (Nat.log2 (v+1) / k*k) k] at h6
 have h7:2<=2^k:=by
  have:=Nat.pow_le_pow_right (show 0<2 by decide) hk
  simpa using this
 have h8:2^(Nat.log2 (v+1) / k*k)*2<=2^(Nat.log2 (v+1) / k*k)*2^k:=Nat.mul_le_mul_left _ h7
 have h9:=Nat.two_pow_pos (Nat.log2 (v+1) / k*k)
 omega
theorem WH {x k:Nat}(h:2^k<=x):P3 x=P3 (x / 2^k)+k:=by
 have hk:=Nat.two_pow_pos k
 have hy:x / 2^k≠0:=by have:=Nat.div_pos h hk;omega
 have h1:=Zi hy
 have h2:=VP (v:=x / 2^k)
 have h0:P3 (x / 2^k)≠0:=by unfold P3;rw[if_neg hy];omega
 obtain⟨n,hn⟩:∃n,P3 (x / 2^k)=n+1:=⟨P3 (x / 2^k)-1,by omega⟩
 rw[hn] at h1 h2⊢
 rw[Nat.add_sub_cancel] at h1
 have h3:2^(n+k)<=x:=by
  rw[Nat.pow_add];exact Nat.le_trans (Nat.mul_le_mul_right _ h1) (Nat.div_mul_le_self _ _)
 have h4:x<2^(n+k+1):=by
  rw[show n+k+1=(n+1)+k by omega,Nat.pow_add];exact(Nat.div_lt_iff_lt_mul hk).1 h2
 rw[Zk h3 h4];omega
def zfh:NY:=[0,1,2,2,3,3,3,3,4,4,4,4,4,4,4,4,5,5,5,5,5,5,5,5,5,5,5,5,5,5,5,5,6,6,6,6,6,6,6,6,6,6,6,6,6,6,6,6,6,6,6,6,6,6,6,6,6,6,6,6,6,6,6,6,7,7,7,7,7,7,7,7,7,7,7,7,7,7,7,7,7,7,7,7,7,7,7,7,7,7,7,7,7,7,7,7,7,7,7,7,7,7,7,7,7,7,7,7,7,7,7,7,7,7,7,7,7,7,7,7,7,7,7,7,7,7,7,7,8,8,8,8,8,8,8,8,8,8,8,8,8,8,8,8,8,8,8,8,8,8,8,8,8,8,8,8,8,8,8,8,8,8,8,8,8,8,8,8,8,8,8,8,8,8,8,8,8,8,8,8,8,8,8,8,8,8,8,8,8,8,8,8,8,8,8,8,8,8,8,8,8,8,8,8,8,8,8,8,8,8,8,8,8,8,8,8,8,8,8,8,8,8,8,8,8,8,8,8,8,8,8,8,8,8,8,8,8,8,8,8,8,8,8,8,8,8,8,8,8,8,8,8,8,8,8,8]
theorem zax:zfh.length=256:=by decide+kernel
theorem zjR:∀x:Fin 256,(zfh.getD x.val 0).toNat=P3 x.val:=by decide+kernel
section
variable {w:World}
theorem Tm (x:Nat)(hx:x<18446744073709551616)(w:World):Oy prog 159 [u64v x] w λv w'=>v=I (P3 x:Int)/\w'=w:=by
 refine NP (e:=[(0,_)]) func159 O ntmps159 O O$ qN O$ NZ O$ py$ qN O$ NT O$ SB O O$ NU$ OX (λe' w'=>w=w'/\∃x1 n1:Nat,e'=[(0,u64v x1),(2,I (n1:Int))]/\P3 x=P3 x1+n1/\x1<4294967296/\n1<=32) ?cF$ λcF=>?cR
 case cF=>
  rintro e' w' ⟨rfl,x1,n1,rfl,h1,h2,h3⟩;refine py$ qN O$ NT O$ SB O O$ NU$ OX (λe' w'=>w=w'/\∃x2 n2:Nat,e'=[(0,u64v x2),(2,I (n2:Int))]/\P3 x=P3 x2+n2/\x2<65536/\n2<=48) ?dV$ λdV=>?fU
  case dV=>
   rintro e' w' ⟨rfl,x2,n2,rfl,h4,h5,h6⟩;refine py$ qN O$ NT O$ SB O O$ NU$ OX (λe' w'=>w=w'/\∃x3 n3:Nat,e'=[(0,u64v x3),(2,I (n3:Int))]/\P3 x=P3 x3+n3/\x3<256/\n3<=56) ?av$ λav=>?dW
   case av=>
    rintro e' w' ⟨rfl,x3,n3,rfl,h7,h8,h9⟩;have eQ:=zjR ⟨x3,h8⟩;dsimp only at eQ;have im:P3 x3<=8:=Qi (by omega);refine qN O$ Od O O$ qV (z3c O Qy U5) ?_;rw[Nat.mod_eq_of_lt h8];refine qV (z0l (l:=zfh) U9 O O (by rw[zax];exact h8)) ?_;rw[eQ];refine qV ((OT O U5 U3 (by omega)))$ P6 O O$ NZ O$ NV func159 O ?_;exact⟨_,rfl,by simp only[Pn];congr 1;omega,rfl⟩
   case dW=>
    refine O8 O (λhc=>?_)$ λhc=>?_
    ·refine qN O$ NT O$ qV (R9 8 256 O O (by decide) O)$ NZ O$ NW O$ NT O$ P6 O O$ NZ O ((av _ _ ⟨rfl,x2 / 256,n2+8,rfl,?_,?_,?_⟩).qb)
     ·have e1:=WH (x:=x2) (k:=8) (by omega);rw[show x2 / 2^8=x2 / 256 from rfl] at e1;omega
     ·omega
     ·omega
    ·refine An ?_;exact(av _ _ ⟨rfl,x2,n2,rfl,h4,by omega,by omega⟩).qb
  case fU=>
   refine O8 O (λhc=>?_)$ λhc=>?_
   ·refine qN O$ NT O$ qV (R9 16 65536 O O (by decide) O)$ NZ O$ NW O$ NT O$ P6 O O$ NZ O ((dV _ _ ⟨rfl,x1 / 65536,n1+16,rfl,?_,?_,?_⟩).qb)
    ·have e1:=WH (x:=x1) (k:=16) (by omega);rw[show x1 / 2^16=x1 / 65536 from rfl] at e1;omega
    ·omega
    ·omega
   ·refine An ?_;exact(dV _ _ ⟨rfl,x1,n1,rfl,h1,by omega,by omega⟩).qb
 case cR=>
  refine O8 O (λhc=>?_)$ λhc=>?_
  ·refine qN O$ NT O$ qV (R9 32 4294967296 O O (by decide) O)$ NZ O$ NW O$ NZ O ((cF _ _ ⟨rfl,x / 4294967296,32,rfl,?_,?_,?_⟩).qb)
   ·exact WH (x:=x) (k:=32) (by omega)
   ·omega
   ·omega
  ·refine An ?_;exact(cF _ _ ⟨rfl,x,0,rfl,by omega,by omega,by omega⟩).qb
/-! ### Codes -/
def RB:Cd->List Value
 | .unary=>[.int .u8 0,u64v 0]
 | .gamma=>[.int .u8 1,u64v 0]
 | .zeta k=>[.int .u8 3,u64v k]
abbrev cdV (c:Cd):Value:= .agg (RB c).toArray
def Cd.PI:Cd->Prop
 | .zeta k=>1<=k/\k<=16
 |_=>True
def Cd.most:Cd->Nat
 | .unary=>65535
 |_=>281474976710654
def Cd.p0:Cd->Nat->Nat×Nat
 | .unary,_=>(0,0)
 | .gamma,v=>(v+1-2^Nat.log2 (v+1),Nat.log2 (v+1))
 | .zeta k,v=>let h:=Nat.log2 (v+1) / k;QG (v+1-2^(h*k)) (2^(h*k)*2^k-2^(h*k))
theorem Tt (c:Cd)(hc:c.PI)(w:World):Oy prog 247 [cdV c] w λv w'=>v=I 0/\Ext w w':=by
 cases c with
 | unary =>
   refine NP (e:=[(0,_)]) func247 O ntmps247 O O$ qN O$ O5 O O (Qr O (cs:=[.int .u8 0,u64v 0]) O) ?_;rintro _ w1 ⟨b1,rfl,bK,ad,ai⟩;refine Oc O$ qM O$ NZ O$ py$ qN O$ Og Rm O$ qV (O6 U5 O O ai O)$ NU$ NQ$ py$ qN O$ Qe O O$ Qs$ NZ O ?_;refine Oa O$ An$ Oa O$ NW O$ Og VJ O$ qV (O6 Qy O O ai O)$ Qe O O$ Qs$ NZ O$ NS$ py$ qN O$ NT O$ qV ((Rn O)) ?_;refine NU$ It O$ An$ qN O$ NZ O$ NV func247 O ?_
   exact⟨_,rfl,rfl,ad⟩
 | gamma =>
   refine NP (e:=[(0,_)]) func247 O ntmps247 O O$ qN O$ O5 O O (Qr O (cs:=[.int .u8 1,u64v 0]) O) ?_;rintro _ w1 ⟨b1,rfl,bK,ad,ai⟩;refine Oc O$ qM O$ NZ O$ py$ qN O$ Og Rm O$ qV (O6 U5 O O ai O)$ NU$ NQ$ py$ qN O$ Qe O O$ OR$ NZ O ?_;refine It O$ qN O$ Qe O O$ Qs$ NZ O$ Oa O$ An$ Oa O$ NW O$ Og VJ O$ qV (O6 Qy O O ai O)$ Qe O O$ Qs$ NZ O ?_;refine NS$ py$ qN O$ NT O$ qV ((Rn O))$ NU$ It O$ An$ qN O$ NZ O$ NV func247 O ?_
   exact⟨_,rfl,rfl,ad⟩
 | zeta k =>
   obtain⟨aK,aq⟩:1<=k/\k<=16:=hc;refine NP (e:=[(0,_)]) func247 O ntmps247 O O$ qN O$ O5 O O (Qr O (cs:=[.int .u8 3,u64v k]) O) ?_;rintro _ w1 ⟨b1,rfl,bK,ad,ai⟩;refine Oc O$ qM O$ NZ O$ py$ qN O$ Og Rm O$ qV (O6 U5 O O ai O)$ NU$ NQ$ py$ qN O$ Qe O O$ OR$ NZ O ?_;refine It O$ qN O$ Qe O O$ OR$ NZ O$ It O$ NW O$ Qe O O$ OR$ NZ O$ It O$ qN O$ Qe O O$ Qs ?_;refine NZ O$ Oa O$ NW O$ Og VJ O$ qV (O6 Qy O O ai O)$ SB O O$ Qs$ NT O$ Og VJ O$ qV (O6 Qy O O ai O)$ zle O O$ Qs$ PT O O$ NZ O ?_;refine NS$ py$ qN O$ NT O$ qV ((Rn O))$ NU$ It O$ An$ qN O$ NZ O$ NV func247 O ?_;exact⟨_,rfl,rfl,ad⟩
theorem z1S (c:Cd)(hc:c.PI)(w:World):Oy prog 248 [cdV c] w λv w'=>v=u64v c.most/\Ext w w':=by
 cases c with
 | unary =>
   refine NP (e:=[(0,_)]) func248 O ntmps248 O O$ qN O$ O5 O O (Qr O (cs:=[.int .u8 0,u64v 0]) O) ?_;rintro _ w1 ⟨b1,rfl,bK,ad,ai⟩;refine NZ O$ py$ NQ$ qN O$ qV (OE (news:=[.int .u8 0,u64v 0]) RG O PY O (ai.cells (n:=2) O) O)$ Om z3L O (Tt (.unary) hc w1) ?_;rintro _ w2 ⟨rfl,ae⟩;have am:=ae.NX ai;refine Pz O O$ OR$ NZ O$ It O$ qN O$ Og Rm O$ qV (O6 U5 O O am O)$ Qe O O$ Qs$ NZ O$ Oa O$ qN O$ NZ O$ NV func248 O ?_
   exact⟨_,rfl,rfl,ad.trans ae⟩
 | gamma =>
   refine NP (e:=[(0,_)]) func248 O ntmps248 O O$ qN O$ O5 O O (Qr O (cs:=[.int .u8 1,u64v 0]) O) ?_;rintro _ w1 ⟨b1,rfl,bK,ad,ai⟩;refine NZ O$ py$ NQ$ qN O$ qV (OE (news:=[.int .u8 1,u64v 0]) RG O PY O (ai.cells (n:=2) O) O)$ Om z3L O (Tt (.gamma) hc w1) ?_;rintro _ w2 ⟨rfl,ae⟩;have am:=ae.NX ai;refine Pz O O$ OR$ NZ O$ It O$ qN O$ Og Rm O$ qV (O6 U5 O O am O)$ Qe O O$ OR$ NZ O$ It O$ qN O$ Og Rm O$ qV (O6 U5 O O am O) ?_;refine Qe O O$ OR$ NZ O$ It O$ An$ NS$ qN O$ NZ O$ NV func248 O ?_
   exact⟨_,rfl,rfl,ad.trans ae⟩
 | zeta k =>
   refine NP (e:=[(0,_)]) func248 O ntmps248 O O$ qN O$ O5 O O (Qr O (cs:=[.int .u8 3,u64v k]) O) ?_;rintro _ w1 ⟨b1,rfl,bK,ad,ai⟩;refine NZ O$ py$ NQ$ qN O$ qV (OE (news:=[.int .u8 3,u64v k]) RG O PY O (ai.cells (n:=2) O) O)$ Om z3L O (Tt (.zeta k) hc w1) ?_;rintro _ w2 ⟨rfl,ae⟩;have am:=ae.NX ai;refine Pz O O$ OR$ NZ O$ It O$ qN O$ Og Rm O$ qV (O6 U5 O O am O)$ Qe O O$ OR$ NZ O$ It O$ qN O$ Og Rm O$ qV (O6 U5 O O am O) ?_;refine Qe O O$ OR$ NZ O$ It O$ An$ NS$ qN O$ NZ O$ NV func248 O ?_;exact⟨_,rfl,rfl,ad.trans ae⟩
theorem zas (c:Cd)(v:Nat)(hc:c.PI)(hv:v<=c.most)(w:World):Oy prog 237 [cdV c,u64v v] w λu w'=>u= .bool true/\Ext w w':=by
 obtain⟨x,y,dj⟩:∃x y,RB c=[x,y]:=by cases c<;>exact⟨_,_,rfl⟩
 refine NP (e:=[(0,_),(1,_)]) func237 O ntmps237 O O$ qN O$ O5 O O (Qr O (cs:=RB c) O) ?_
 rintro _ w1 ⟨b1,rfl,bK,ad,ai⟩
 refine Oc O$ qM O$ qV (OE (news:=RB c) RG O PY O (ai.cells (n:=2) (by rw[dj];rfl)) (by rw[dj];rfl)) ?_
 refine Om z3L O (Tt c hc w1) ?_
 rintro _ w2 ⟨rfl,ae⟩
 have am:=ae.NX ai
 refine Qe O O$ Qs$ Od O O$ qV (OE (news:=RB c) RG O PY O (am.cells (n:=2) (by rw[dj];rfl)) (by rw[dj];rfl)) ?_
 refine Om zee O (z1S c hc w2) ?_
 rintro _ w3 ⟨rfl,ah⟩
 refine zle O O$ Qs$ PT O O$ NZ O$ NV func237 O ?_
 exact⟨_,rfl,rfl,(ad.trans ae).trans ah⟩
end
section
theorem z60 (v K:Nat)(hK:1<=K)(hv:v<K)(J0:K<=9223372036854775808)(w:World):Oy prog 249 [u64v v,u64v K] w λu w'=>u= .agg #[u64v (QG v K).1,I ((QG v K).2:Int)]/\Ext w w':=by
 obtain⟨s,hs⟩:∃s,P3 (K-1)=s:=⟨_,rfl⟩
 have hf:=U6 hK
 rw[hs] at hf
 obtain⟨h1,h2⟩:=hf
 have e63:(2:Nat)^63=9223372036854775808:=by decide
 have BB:s<=63:=by rw[<-hs];exact Qi (by omega)
 obtain⟨Q,hQ⟩:∃Q,2^s=Q:=⟨_,rfl⟩
 have BC:Q<=9223372036854775808:=by
  have:=Nat.pow_le_pow_right (show 0<2 by decide) BB;omega
 rw[hQ] at h1
 have hP:QG v K=if v<Q-K then(v,s-1) else(v+(Q-K),s):=by unfold QG;rw[hs];dsimp only;rw[hQ]
 refine NP (e:=[(0,_),(1,_)]) func249 O ntmps249 O O$ qN O$ O5 O O (QU (cs:=[_,_]) RX O) ?_
 rintro _ w1 ⟨b4,rfl,fV,ad,aI⟩
 refine qM O$ NT O$ qV (UB (n:=1) O O O (by show K<2^64;omega) hK) ?_
 refine Om z1V O (Tm (K-1) (by omega) w1) ?_
 rintro _ w1 ⟨rfl,rfl⟩
 rw[hs]
 refine NZ O$ py$ qN O$ NT O$ qV (PX s Q O O (by omega) hQ) ?_
 rw[show 1*Q%18446744073709551616=Q by omega]
 refine NT O$ qV (UB O O O (by show Q<2^64;omega) h1) ?_
 refine Oc O$ qM O$ Od O O$ SB O O$ NU$ O8 O (λio=>?_)$ λio=>?_
 ·rw[if_neg (by omega)] at hP;rw[hP];refine qN O$ Od O O$ qV (QP O O) ?_;rw[Nat.mod_eq_of_lt (show v+(Q-K)<18446744073709551616 by omega)];refine NT O$ qV (Rt (cs:=[_,_]) RX O z9S O O)$ Oe O (P4 (news:=[u64v (v+(Q-K)),I (s:Int)]) RX O O O O aI (by simp)) ?_;rintro w2 ⟨am,aq⟩;replace am:O9 w2 b4 [u64v (v+(Q-K)),I (s:Int)] 353:=am;refine NU$ Oz func249 (.cell zai O RX O (O9.cells (n:=2) am (news:=[_,_]) O) O .nil) ?_;exact⟨_,rfl,rfl,ad.NR aq (λi hi=>by omega)⟩
 ·rw[if_pos (by omega)] at hP;rw[hP]
  have Hf:K≠1:=λe=>by
   have e0:s=0:=by rw[<-hs,e];rfl
   have e1:Q=1:=by rw[<-hQ,e0]
   omega
  have dm:1<=s:=(h2 (by omega)).1;refine An$ qN O$ Od O O$ Qp O O ?_;rw[show((s:Int)-1)=((s-1:Nat):Int) by omega];refine qV (Rt (cs:=[_,_]) RX O z9S O O)$ Oe O (P4 (news:=[u64v v,I ((s-1:Nat):Int)]) RX O O O O aI (by simp)) ?_;rintro w2 ⟨am,aq⟩;replace am:O9 w2 b4 [u64v v,I ((s-1:Nat):Int)] 353:=am;refine NU$ Oz func249 (.cell zai O RX O (O9.cells (n:=2) am (news:=[_,_]) O) O .nil) ?_;exact⟨_,rfl,rfl,ad.NR aq (λi hi=>by omega)⟩
theorem z9f (n:Nat)(h:n≠0):P3 n-1=Nat.log2 n/\1<=P3 n:=by
 unfold P3;rw[if_neg h];exact⟨rfl,by omega⟩
theorem z0F (c:Cd)(v:Nat)(hc:c.PI)(hv:v<=281474976710654)(w:World):Oy prog 238 [cdV c,u64v v] w λu w'=>u= .tuple #[I (c.zeros v:Int),.agg #[u64v (c.p0 v).1,I ((c.p0 v).2:Int),u64v 0,I 0]]/\Ext w w':=by
 obtain⟨l1,l2⟩:=z9f (v+1) (by omega)
 obtain⟨g1,g2,g3⟩:=UO hv
 obtain⟨b,hb⟩:∃b,Nat.log2 (v+1)=b:=⟨_,rfl⟩
 rw[hb] at l1 g1 g2 g3
 obtain⟨Q,hQ⟩:∃Q,2^b=Q:=⟨_,rfl⟩
 rw[hQ] at g1
 have BD:Q<=281474976710656:=by omega
 obtain⟨x,y,dj⟩:∃x y,RB c=[x,y]:=by cases c<;>exact⟨_,_,rfl⟩
 refine NP (e:=[(0,_),(1,_)]) func238 O ntmps238 O O$ qN O$ O5 O O (Qr O (cs:=RB c) O) ?_
 rintro _ w1 ⟨b2,rfl,bU,ad,am⟩
 refine Oc O$ O5 O O (QU (cs:=[_,_,_,_]) TG O) ?_
 rintro _ w2 ⟨b5,rfl,gQ,ae,aG⟩
 replace aG:O9 w2 b5 [u64v 0,I 0,u64v 0,I 0] 354:=aG
 refine qM O$ NT O$ qV (QP O O) ?_
 rw[show(v+1)%18446744073709551616=v+1 by omega]
 refine Oc O$ qM O$ NT O$ Om z1V O (Tm (v+1) (by omega) w2) ?_
 rintro _ w2 ⟨rfl,rfl⟩
 refine Qp O O ?_
 rw[show((P3 (v+1):Int)-1)=((b:Nat):Int) by omega]
 refine Oc O$ qM O$ Od O O$ qV (PX b Q O O (by omega) hQ) ?_
 rw[show 1*Q%18446744073709551616=Q by omega]
 refine qV (UB O O O (by show v+1<2^64;omega) g1) ?_
 refine NT O$ qV (Rt (cs:=[_,_]) RX O z9S O O)$ O5 O O (QU (cs:=[_,_]) RX O) ?_
 rintro _ w3 ⟨b8,rfl,ib,ah,cn⟩
 refine Oe O (P4 (news:=[u64v (v+1-Q),I (b:Int)]) RX O O O O cn (by simp)) ?_
 rintro w4 ⟨sr,ao⟩
 replace sr:O9 w4 b8 [u64v (v+1-Q),I (b:Int)] 353:=sr
 have z1:=ad.size
 have z2:=ae.size
 have z3:=ah.size
 have l2':=am.lt
 have l5':=aG.lt
 have ez:=ao.NX (ah.NX (ae.NX am)) (by omega)
 have eA:=ao.NX (ah.NX aG) (by omega)
 have bS:Ext w w4:=((ad.trans ae).trans ah).NR ao (λi hi=>by omega)
 cases c with
 | unary =>
   replace ez:O9 w4 b2 [.int .u8 0,u64v 0] 317:=ez;have hg:=Ext.Ob w4;refine NU$ py$ qN O$ Og Rm O$ qV (O6 U5 O O ez O)$ NU$ NQ$ qN O$ Qe O O$ Qs$ NZ O$ Oa O$ py$ Oo [4] (λw'=>Ext w4 w') (by kernel_rfl) O ?_;refine OW 0 O O (hg)$ Ot 1 O (OT O Qy U3 (by omega)) hg$ Ot 3 O (Qq O) hg$ qL 2 O (λ_ h=>OE (news:=[u64v 0,I 0,u64v 0,I 0]) z0a O TG O ((h.NX eA).cells (n:=4) O) O) hg$ S8 [4]$ qO 4$ OP (i:=4) O O (P4 (news:=[u64v 0,I 0,u64v 0,I 0]) TG O O O O (hg.NX eA) (by simp)) ?_;rintro w5 ⟨aO,ak⟩;refine⟨trivial,?_⟩;replace aO:O9 w5 b5 [u64v 0,I 0,u64v 0,I 0] 354:=aO;refine qE$ OD.qb (e:=[(1,_),(2,_),(4,_),(5,_)]) ?_;refine Oz func238 (.tmp O (.cell z0a O TG O (O9.cells (n:=4) aO (news:=[_,_,_,_]) O) O .nil)) ?_
   exact⟨_,rfl,rfl,(bS.trans hg).NR ak (λi hi=>by omega)⟩
 | gamma =>
   replace ez:O9 w4 b2 [.int .u8 1,u64v 0] 317:=ez;have hg:=Ext.Ob w4;refine NU$ py$ qN O$ Og Rm O$ qV (O6 U5 O O ez O)$ NU$ NQ$ qN O$ Qe O O$ OR$ NZ O$ It O$ qN O$ Qe O O ?_;refine Qs$ NZ O$ OD.qb (e:=[(1,_),(2,_),(4,_),(5,_),(6,_),(7,_),(8,_),(24,_),(30,_)]) ?_;refine Oa O$ py$ Oo [4] (λw'=>Ext w4 w') (by kernel_rfl) O$ OW 0 O O (hg)$ Ot 3 O (Qq O) hg$ qL 1 O (λ_ h=>OE (news:=[u64v (v+1-Q),I (b:Int)]) zai O RX O ((h.NX sr).cells (n:=2) O) O) hg$ Ot 2 O (zgX (parts:=[(0,.tmp 33)]) (cs:=[_,_,_,_]) TG O z0a RX O O) hg$ S8 [4]$ qO 4$ OP (i:=4) O O (P4 (news:=[u64v (v+1-Q),I (b:Int),u64v 0,I 0]) TG O O O O (hg.NX eA) (by simp)) ?_;rintro w5 ⟨aO,ak⟩;refine⟨trivial,?_⟩;replace aO:O9 w5 b5 [u64v (v+1-Q),I (b:Int),u64v 0,I 0] 354:=aO;refine qE$ Oz func238 (.tmp O (.cell z0a O TG O (O9.cells (n:=4) aO (news:=[_,_,_,_]) O) O .nil)) ?_
   exact⟨_,rfl,by simp[Pn,Cd.zeros,Cd.p0,hb,hQ],(bS.trans hg).NR ak (λi hi=>by omega)⟩
 | zeta k =>
   obtain⟨aK,aq⟩:1<=k/\k<=16:=hc;have f:=WS (k:=k) (v:=v) aK;dsimp only at f;rw[hb] at f;obtain⟨h,hh⟩:∃h,b / k=h:=⟨_,rfl⟩;obtain⟨m,hm⟩:∃m,h*k=m:=⟨_,rfl⟩;have mJ:m<=b:=by rw[<-hm,<-hh];exact Nat.div_mul_le_self _ _
   rw[hh,hm] at f;obtain⟨F,hF⟩:∃F,2^m=F:=⟨_,rfl⟩;obtain⟨G,hG⟩:∃G,2^k=G:=⟨_,rfl⟩;rw[hF,hG] at f;obtain⟨f1,f2,f3⟩:=f;obtain⟨E,hE⟩:∃E,F*G=E:=⟨_,rfl⟩
   have BE:E<=9223372036854775808:=by
    rw[<-hE,<-hF,<-hG,<-Nat.pow_add];have:=Nat.pow_le_pow_right (show 0<2 by decide) (show m+k<=63 by omega);have e63:(2:Nat)^63=9223372036854775808:=by decide
    omega
   rw[hE] at f2 f3;have BF:(Cd.zeta k).zeros v=h:=by show Nat.log2 (v+1) / k=h;rw[hb,hh]
   have BG:(Cd.zeta k).p0 v=QG (v+1-F) (E-F):=by
    show QG (v+1-2^(Nat.log2 (v+1) / k*k)) (2^(Nat.log2 (v+1) / k*k)*2^k-2^(Nat.log2 (v+1) / k*k))=_;rw[hb,hh,hm,hF,hG,hE]
   rw[BF,BG];have qR:(h:Int)*(k:Int)=(m:Int):=by rw[<-hm];simp
   have gR:(b:Int) / (k:Int)=(h:Int):=by rw[<-hh];simp
   replace ez:O9 w4 b2 [.int .u8 3,u64v k] 317:=ez;refine NU$ py$ qN O$ Og Rm O$ qV (O6 U5 O O ez O)$ NU$ NQ$ qN O$ Qe O O$ OR$ NZ O$ It O$ qN O$ Qe O O ?_;refine OR$ NZ O$ OD.qb (e:=[(1,_),(2,_),(4,_),(5,_),(6,_),(7,_),(8,_),(24,_),(30,_)]) ?_;refine It O$ qN O$ Qe O O$ OR$ NZ O$ It O$ qN O$ Qe O O$ Qs$ NZ O$ Oa O$ qN O$ Og VJ O$ qV (O6 Qy O O ez O) ?_;refine qV (OT O Qy U3 (by omega))$ Oc O$ qM O$ Od O O$ qV (UH O O (by omega)) ?_;rw[gR];refine Oc O$ qM O$ Od O O$ qV (Xa O O (by rw[qR];omega)) ?_;rw[qR];refine qV (PX m F O O (by omega) hF) ?_;rw[show 1*F%18446744073709551616=F by omega];refine NZ O$ OD.qb (e:=[(1,_),(2,_),(4,_),(5,_),(6,_),(9,_),(10,_),(11,_)]) ?_;refine qN O$ Od O O$ NT O$ qV (UB O O O (by show v+1<2^64;omega) f1) ?_;refine Od O O$ qV (PX k G O O (by omega) hG) ?_;rw[hE,Nat.mod_eq_of_lt (show E<18446744073709551616 by omega)];refine NT O$ qV (UB O O O (by show E<2^64;omega) (by omega)) ?_;refine Om ziN O (z60 (v+1-F) (E-F) f3 f2 (by omega) w4) ?_;rintro _ w5 ⟨rfl,aR⟩;refine qV (zgX (parts:=[(0,.tmp 69)]) (cs:=[_,_,_,_]) TG O z0a RX O O)$ Oc O ?_;have wc:=aR.NX eA;refine Oe O (P4 (news:=[u64v (QG (v+1-F) (E-F)).1,I ((QG (v+1-F) (E-F)).2:Int),u64v 0,I 0]) TG O O O O wc (by simp)) ?_;rintro w6 ⟨aO,aP⟩;replace aO:O9 w6 b5 [u64v (QG (v+1-F) (E-F)).1,I ((QG (v+1-F) (E-F)).2:Int),u64v 0,I 0] 354:=aO;refine NU$ Oz func238 (.tmp O (.cell z0a O TG O (O9.cells (n:=4) aO (news:=[_,_,_,_]) O) O .nil)) ?_;exact⟨_,rfl,rfl,(bS.trans aR).NR aP (λi hi=>by omega)⟩
end
def hiB (w:Nat):Nat->Nat->List Nat->List Bool
 |_,_,[]=>[]
 |len,i,v::r=>List.replicate (v / 2^w+i-len) false++true::hiB w (v / 2^w+i+1) (i+1) r
abbrev Nof (l:List Nat):Prop:=l.Pairwise (·<=·)
def QF:List Bool->Nat->Option Nat
 |[],_=>none
 |true::l,0=>some 0
 |true::l,k+1=>(QF l k).map (·+1)
 |false::l,k=>(QF l k).map (·+1)
theorem TE:∀(z:Nat) (l:List Bool) (k:Nat),QF (List.replicate z false++l) k=(QF l k).map (·+z)
 |0,l,k=>by simp
 | z + 1, l, k => by
   rw[List.replicate_succ,List.cons_append,QF,TE z l k,Option.map_map]
   congr 1
theorem z0k (w:Nat):∀(l:List Nat) (len i k:Nat) (v:Nat),Nof l->l[k]? =some v->(∀x,l.head? =some x->len<=x / 2^w+i)->QF (hiB w len i l) k=some (v / 2^w+i+k-len)
 |[],len,i,k,v,_,h,_=>by simp at h
 | x :: r, len, i, 0, v, _, h, hl => by
   simp at h;subst h;have:=hl x O;rw[hiB,TE,QF]
   simp
 | x :: r, len, i, k + 1, v, hn, h, hl => by
   rw[List.getElem?_cons_succ] at h;obtain⟨n1,n2⟩:=List.pairwise_cons.1 hn;have hx:=hl x O;have hxv:x<=v:=n1 v (List.mem_of_getElem? h);have hd:=Nat.div_le_div_right (c:=2^w) hxv
   rw[hiB,TE,QF,z0k w r _ (i+1) k v n2 h (λy hy=>by
    have hxy:x<=y:=n1 y (by cases r with
     |nil=>simp at hy
     |cons a r=>simp at hy;simp[hy])
    have:=Nat.div_le_div_right (c:=2^w) hxy
    omega)]
   simp;omega
theorem Ym:∀(l:List Bool) (j p m:Nat),QF l j=some p->QF (l.drop p) m=(QF l (j+m)).map (·-p)
 |[],j,p,m,h=>by simp[QF] at h
 | true :: l, 0, p, m, h => by
   simp[QF] at h;subst h
   simp
 | true :: l, j + 1, p, m, h => by
   simp only[QF,Option.map_eq_some_iff] at h;obtain⟨q,hq,rfl⟩:=h;rw[List.drop_succ_cons,Ym l j q m hq,show j+1+m=(j+m)+1 by omega,QF,Option.map_map]
   congr 1
   funext x;simp
 | false :: l, j, p, m, h => by
   simp only[QF,Option.map_eq_some_iff] at h;obtain⟨q,hq,rfl⟩:=h;rw[List.drop_succ_cons,Ym l j q m hq,QF,Option.map_map]
   congr 1
   funext x;simp
theorem Vp:∀(a b:List Bool) (k:Nat),QF (a++b) k=if k<a.count true then QF a k else(QF b (k-a.count true)).map (·+a.length)
 |[],b,k=>by simp
 |true::a,b,0=>by simp[QF]
 | true :: a, b, k + 1 => by
   rw[List.cons_append,QF,Vp a b k,List.count_cons_self];split
   ·rename_i h
    rw[if_pos (by omega),QF]
   ·rename_i h
    rw[if_neg (by omega),Option.map_map,show k+1-(a.count true+1)=k-a.count true by omega]
    congr 1
 | false :: a, b, k => by
   rw[List.cons_append,QF,Vp a b k,List.count_cons_of_ne (by decide)];split
   ·rw[QF]
   ·rw[Option.map_map]
    congr 1
theorem Zy:∀{l:List Bool} {k p:Nat},QF l k=some p->p<l.length/\l[p]? =some true
 |true::l,0,p,h=>by simp[QF] at h;subst h;simp
 | true :: l, k + 1, p, h => by
   simp only[QF,Option.map_eq_some_iff] at h;obtain⟨q,hq,rfl⟩:=h;have:=Zy hq
   simp;exact this
 | false :: l, k, p, h => by
   simp only[QF,Option.map_eq_some_iff] at h;obtain⟨q,hq,rfl⟩:=h;have:=Zy hq
   simp;exact this
 |[],k,p,h=>by simp[QF] at h
theorem z6p (w:Nat):∀(l:List Nat) (len i:Nat),Nof l->(∀x,l.head? =some x->len<=x / 2^w+i)->∀v,l.getLast? =some v->len+(hiB w len i l).length=v / 2^w+i+l.length
 |[],len,i,_,_,v,h=>by simp at h
 | [x], len, i, _, hl, v, h => by
   simp at h;subst h;have:=hl x O
   simp[hiB];omega
 | x :: y :: r, len, i, hn, hl, v, h => by
   obtain⟨n1,n2⟩:=List.pairwise_cons.1 hn;have hx:=hl x O;have hxy:=Nat.div_le_div_right (c:=2^w) (n1 y (by simp));have:=z6p w (y::r) (x / 2^w+i+1) (i+1) n2 (λz hz=>by simp at hz;subst hz;omega) v (by simpa using h);rw[hiB,List.length_append,List.length_replicate,List.length_cons];simp only[List.length_cons] at this⊢;omega
theorem WJ (z:Nat)(r:List Bool):OK (List.replicate z false++true::r)=2^r.length+OK r:=by
 induction z with
 |zero=>simp[OK]
 |succ z ih=>rw[List.replicate_succ,List.cons_append,OK,ih];simp
theorem z2a (c:Cd)(v:Nat):c.rest v=Ov (c.p0 v).2 (c.p0 v).1:=by cases c<;>rfl
theorem Wc (c:Cd)(v:Nat):(c.enc v).length=c.zeros v+1+(c.p0 v).2:=by
 unfold Cd.enc
 rw[List.length_append,List.length_replicate,List.length_cons,z2a,bitsN_length];omega
theorem Cd.ZE (c:Cd):c.most<=281474976710654:=by cases c<;>simp[Cd.most]
theorem UT:∀n:Nat,Ov n 0=List.replicate n false
 |0=>rfl
 |n+1=>by rw[Ov,UT n,List.replicate_succ];simp
theorem z8V (z:Nat):Ov (z+1) 1=List.replicate z false++[true]:=by
 refine Xs (by simp) ?_
 rw[Pk,WJ]
 simp[OK]
theorem Wa {c:Cd}{v:Nat}(hc:c.PI)(hv:v<=c.most):c.zeros v<=65535/\(c.p0 v).2<=63/\(c.p0 v).1<2^(c.p0 v).2:=by
 cases c with
 |unary=>exact⟨hv,by simp[Cd.p0],by simp[Cd.p0]⟩
 | gamma =>
   obtain⟨g1,g2,g3⟩:=UO hv;refine⟨by show Nat.log2 (v+1)<=_;omega,by show Nat.log2 (v+1)<=_;omega,?_⟩;show v+1-2^Nat.log2 (v+1)<2^Nat.log2 (v+1);rw[Nat.pow_succ] at g2
   omega
 | zeta k =>
   obtain⟨aK,aq⟩:1<=k/\k<=16:=hc;obtain⟨g1,g2,g3⟩:=UO hv;have f:=WS (k:=k) (v:=v) aK;dsimp only at f;have hd:Nat.log2 (v+1) / k<=Nat.log2 (v+1):=Nat.div_le_self _ _;have hm:Nat.log2 (v+1) / k*k<=Nat.log2 (v+1):=Nat.div_mul_le_self _ _;refine⟨by show Nat.log2 (v+1) / k<=_;omega,?_,?_⟩
   ·show(QG _ _).2<=63
    have h1:P3 (2^(Nat.log2 (v+1) / k*k)*2^k-2^(Nat.log2 (v+1) / k*k)-1)<=63:=by
     refine Qi ?_;have h2:=Nat.pow_le_pow_right (show 0<2 by decide) (show Nat.log2 (v+1) / k*k+k<=63 by omega);rw[Nat.pow_add] at h2;have h3:=f.2.2
     revert h2 h3
     generalize 2^(Nat.log2 (v+1) / k*k)*2^k=E
     generalize 2^(Nat.log2 (v+1) / k*k)=F
     intro h2 h3;omega
    unfold QG;dsimp only;split<;>dsimp only<;>omega
   ·exact z9k f.2.1
section
variable {P:Program}{e:Env}{d:Option Nat}{ty t t' el:TypeId}{pos:String}{aft:Array Edge}{g:Option (Nat×Bool)}{x y:Operand}{w:World}{k:IntKind}{n:Nat}{td:TypeDesc}
theorem zh1 {za:Int}[s8:RV za n]{len size bytes:Nat}{z:Value}{vs:Array Value}(ht:P.underlying t=some (.array len el))(hs:TI P el z size bytes)(hu:P.underlying el=some td)(ha:aggOf td=true)(hx:look e x=some (.agg vs))(hy:look e y=some (.int k za))(hn:n<len):
  Y P e ⟨d,.index t x y,ty,pos,aft,g⟩ (.agg (vs.extract (n*size) (n*size+size))) w w:=fun ρ hρ=>by
 obtain⟨rfl⟩:=s8
 have hs:=hs.size (w:=w)
 simp[execOp,hρ _ _ hx,hρ _ _ hy,Instr.index,asIntOf,run_underlying ht,hn,hs,part,SN hu,ha]
end
section
theorem z3Y (c:Cd)(v:Nat)(hc:c.PI)(hv:v<=c.most)(w:World):Oy prog 211 [cdV c,u64v v] w λu w'=>u= .tuple #[I ((c.enc v).length:Int),I 0]/\Ext w w':=by
 obtain⟨x,y,dj⟩:∃x y,RB c=[x,y]:=by cases c<;>exact⟨_,_,rfl⟩
 obtain⟨q1,q2,-⟩:=Wa hc hv
 have hl:=Wc c v
 have dF:=c.ZE
 refine NP (e:=[(0,_),(1,_)]) func211 O ntmps211 O O$ qN O$ O5 O O (Qr O (cs:=RB c) O) ?_
 rintro _ w1 ⟨b2,rfl,bU,ad,am⟩
 refine Oc O$ NZ O$ py$ qN O$ qV (OE (news:=RB c) RG O PY O (am.cells (n:=2) (by rw[dj];rfl)) (by rw[dj];rfl)) ?_
 refine NT O$ Om ziz O (zas c v hc hv w1) ?_
 rintro _ w2 ⟨rfl,ae⟩
 refine qV ((Rn O))$ NU$ It O$ An$ qN O$ qV (OE (news:=RB c) RG O PY O ((ae.NX am).cells (n:=2) (by rw[dj];rfl)) (by rw[dj];rfl)) ?_
 refine NT O$ Om ze9 O (z0F c v hc (by omega) w2) ?_
 rintro _ w3 ⟨rfl,ah⟩
 refine NT O$ P9 O O$ P9 O O$ O5 O O (QU (cs:=[_,_,_,_]) TG O) ?_
 rintro _ w4 ⟨b7,rfl,jQ,az,bN⟩
 refine Oc O$ Oe O (P4 (news:=[u64v (c.p0 v).1,I ((c.p0 v).2:Int),u64v 0,I 0]) TG O O O O bN (by simp)) ?_
 rintro w5 ⟨fW,ak⟩
 replace fW:O9 w5 b7 [u64v (c.p0 v).1,I ((c.p0 v).2:Int),u64v 0,I 0] 354:=fW
 refine qM O$ NT O$ P6 O O$ qV (yia z0a RX O O (by omega))$ Og Zw O$ qV (O6 U3 O O fW O)$ P6 O O$ qV (yia z0a RX O O (by omega))$ Og Zw O$ qV (O6 U3 O O fW O)$ P6 O O$ Oc O$ NZ O$ OD.qb (e:=[(4,_),(5,_)]) ?_
 refine NV func211 O ?_
 have z1:=ad.size
 have z2:=ae.size
 have z3:=ah.size
 refine⟨_,rfl,?_,(((ad.trans ae).trans ah).trans az).NR ak (λi hi=>by omega)⟩
 simp only[Pn]
 congr 4
 omega
theorem zaA {w : World}{p : Nat}{bs : List Bool}{F : Nat -> Prop}(h : XI w p bs F)(c : Cd)(v : Nat)(hc : c.PI)(hv : v <= c.most)(hl : bs.length + (c.enc v).length <= 134217728) :
  Oy prog 212 [ptr p 0,cdV c,u64v v] w λu w'=>u=I 0/\WrR p F w w' (bs++c.enc v):=by
 obtain⟨x,y,dj⟩:∃x y,RB c=[x,y]:=by cases c<;>exact⟨_,_,rfl⟩
 obtain⟨q1,q2,q3⟩:=Wa hc hv
 have oy:=Wc c v
 have dF:=c.ZE
 refine NP (e:=[(0,_),(1,_),(2,_)]) func212 O ntmps212 O O$ qN O$ O5 O O (Qr O (cs:=RB c) O) ?_
 rintro _ w1 ⟨b4,rfl,fV,ad,aI⟩
 refine NZ O$ py$ qN O$ NT O$ qV (Pt z2M O O)$ NU$ It O$ An$ qN O$ qV (OE (news:=RB c) RG O PY O (aI.cells (n:=2) (by rw[dj];rfl)) (by rw[dj];rfl)) ?_
 refine NT O$ Om zdH O (z3Y c v hc hv w1) ?_
 rintro _ w2 ⟨rfl,ae⟩
 refine NT O$ P9 O O$ P9 O O$ Oc O$ NZ O$ py$ NQ$ qN O$ NT O$ Pz O O$ NZ O$ O8 O (λe0=>?_)$ λe0=>?_
 ·exact absurd O e0
 ·refine qN O$ Od O O$ Om z1K O (Uu ((h.ext ad).ext ae)) ?_; rintro _ w2 ⟨rfl, rfl⟩; refine Qp O O (PD O O (NZ O (O8 O (λe1 => ?_) (λe1 => ?_))))
  ·omega
  ·refine An$ NS$ qN O$ qV (OE (news := RB c) RG O PY O ((ae.NX aI).cells (n := 2) (by rw [dj]; rfl)) (by rw [dj]; rfl)) ?_; refine NT O (Om ze9 O (z0F c v hc (by omega) w2) ?_); rintro _ w3 ⟨rfl, ah⟩; refine NT O (P9 O O (P9 O O (O5 O O (QU (cs := [_, _, _, _]) TG O) ?_))); rintro _ w4 ⟨b10, rfl, BH, az, dr⟩; refine Oc O (Oe O (P4 (news := [u64v (c.p0 v).1, I ((c.p0 v).2 : Int), u64v 0, I 0]) TG O O O O dr (by simp)) ?_); rintro w5 ⟨kI, ak⟩; replace kI : O9 w5 b10 [u64v (c.p0 v).1, I ((c.p0 v).2 : Int), u64v 0, I 0] 354 := kI; have z1 := ad.size; have z2 := ae.size; have z3 := ah.size; have bO : Ext w w5 := (((ad.trans ae).trans ah).trans az).NR ak (λi hi => by omega); have z5 := bO.size; have l10 := kI.lt; have jR : ∀ i, F i -> i < w.heap.size := λi hi => h.lt hi
   have Hg:∀(F':Nat->Prop),(∀k,F' k->F k\/w5.heap.size<=k)->¬F' b10:=λF' hf e=>by
    rcases hf b10 e with e| e
    ·have:=jR b10 e;omega
    ·omega
   refine NU$ OD.qb (e:=[(0,_),(6,_),(9,_),(10,_)]) ?_;refine py$ NQ$ Qm (α:=Nat×(Nat->Prop)×List Bool) ((c.zeros v,F,bs)) (λx=>[(0,ptr p 0),(9,I (x.1:Int)),(10,ptr b10 0)]) (λx w'=>x.1<=c.zeros v/\XI w' p x.2.2 x.2.1/\x.2.2=bs++List.replicate (c.zeros v-x.1) false/\Kp F w w'/\(∀k,x.2.1 k->F k\/w5.heap.size<=k)/\O9 w' b10 [u64v (c.p0 v).1,I ((c.p0 v).2:Int),u64v 0,I 0] 354/\w5.heap.size<=w'.heap.size) (λx=>x.1) ?hI ?hround
   case hI=>exact⟨Nat.le_refl _,h.ext bO,by simp,bO.kp,λ_ h=> .inl h,kI,Nat.le_refl _⟩
   case hround =>
    rintro⟨z,F1,b1⟩ w6 ⟨hz,jS,bK,aP,mK,aO,z6⟩ ih;dsimp only at hz jS bK mK;have fu:b1.length=bs.length+(c.zeros v-z):=by rw[bK,List.length_append,List.length_replicate]
    try dsimp only
    refine py$ qN O$ NT O$ PD O O$ NU$ O8 O (λaZ=>?_)$ λaZ=>?_
    ·refine An$ py$ NQ$ NW O$ NT O$ Om Vz O (Rp jS 0 63 (by decide) (by decide) (by omega)) ?_;rintro _ w7 ⟨rfl,F7,oA,aD,lA⟩;have bN:=aD.NX aO (Hg F1 mK);have z7:=aD.size;refine NU$ NS$ NW O$ NT O$ Qp O O$ NZ O ?_;rw[show((z:Int)-63)=((z-63:Nat):Int) by omega];refine(ih (z-63,F7,b1++Ov 63 0) w7 ⟨by dsimp only;omega,oA,?_,?_,?_,bN,by omega⟩ (by dsimp only;omega)).qb
     ·dsimp only;rw[bK,UT,List.append_assoc,List.replicate_append_replicate,show c.zeros v-z+63=c.zeros v-(z-63) by omega]
     ·exact aP.NR aD (λi hi=>(mK i hi).elim .inr (λe=> .inl (by omega)))
     ·intro i hi;rcases lA i hi with e| e
      ·exact mK i e
      ·exact .inr (by omega)
    ·refine O4 O$ py$ qN O$ NT O$ SB O O$ NU$ O8 O (λg0=>?_)$ λg0=>?_
     ·refine NW O$ Od O O$ P6 O O ?_;rw[show((z:Int)+1)=((z+1:Nat):Int) by omega];refine Om Vz O (Rp jS 1 (z+1) (by omega) (by have:=Nat.pow_le_pow_right (show 0<2 by decide) (show 1<=z+1 by omega);omega) (by omega)) ?_;rintro _ w7 ⟨rfl,F7,oA,aD,lA⟩;have bN:=aD.NX aO (Hg F1 mK);have z7:=aD.size;have BI:Kp F w w7:=aP.NR aD (λi hi=>(mK i hi).elim .inr (λe=> .inl (by omega)));have BJ:∀i,F7 i->F i\/w5.heap.size<=i:=λi hi=>(lA i hi).elim (mK i) (λe=> .inr (by omega))
      have jQ:b1++Ov (z+1) 1=bs++(List.replicate (c.zeros v) false++[true]):=by
       rw[bK,z8V,List.append_assoc]
       congr 1
       rw[<-List.append_assoc,List.replicate_append_replicate,show c.zeros v-z+z=c.zeros v by omega]
      rw[jQ] at oA;clear ih;refine NU$ py$ qN O$ qV (OE (news:=[u64v (c.p0 v).1,I ((c.p0 v).2:Int),u64v 0,I 0]) z0a O TG O (bN.cells (n:=4) O) O)$ NT O$ NU$ NQ$ Qm (α:=Nat×(Nat->Prop)×List Bool) ((0,F7,bs++(List.replicate (c.zeros v) false++[true]))) (λx=>[(0,ptr p 0),(49,.agg #[u64v (c.p0 v).1,I ((c.p0 v).2:Int),u64v 0,I 0]),(50,I (x.1:Int))]) (λx w'=>x.1<=2/\XI w' p x.2.2 x.2.1/\x.2.2=(bs++(List.replicate (c.zeros v) false++[true]))++(if x.1=0 then [] else c.rest v)/\Kp F w w'/\(∀k,x.2.1 k->F k\/w5.heap.size<=k)/\w5.heap.size<=w'.heap.size) (λx=>2-x.1) ?hI ?hround
      case hI=>exact⟨by dsimp only;omega,oA,by simp,BI,BJ,by omega⟩
      case hround=>
       rintro⟨i,F8,b8⟩ w8 ⟨hi,mn,ib,aS,uW,z8⟩ ih;dsimp only at hi mn ib uW
       try dsimp only
       refine qN O$ Py O O$ NU$ py$ O8 O (λoZ=>?_)$ λoZ=>?_
       ·have wg:b8.length<=bs.length+(c.zeros v+1)+(if i=0 then 0 else(c.p0 v).2):=by
         rw[ib];simp only[List.length_append,List.length_replicate,List.length_cons,List.length_nil];split
         ·simp
         ·rw[z2a,bitsN_length];omega
        refine An$ py$ NQ$ qN O ?_;rcases (show i=0\/i=1 by omega) with rfl|rfl
        ·rw[if_pos O] at wg ib;refine qV (zh1 (n:=0) z0a RX zai O O O (by decide)) ?_;rw[show(#[u64v (c.p0 v).1,I ((c.p0 v).2:Int),u64v 0,I 0]:Array Value).extract (0*2) (0*2+2)=#[u64v (c.p0 v).1,I ((c.p0 v).2:Int)] from rfl];refine O5 O O (QU (cs:=[_,_]) RX O) ?_;rintro _ w9 ⟨b12,rfl,BK,eY,bh⟩;refine Oe O (P4 (news:=[u64v (c.p0 v).1,I ((c.p0 v).2:Int)]) RX O O O O bh (by simp)) ?_;rintro w10 ⟨eB,ar⟩;replace eB:O9 w10 b12 [u64v (c.p0 v).1,I ((c.p0 v).2:Int)] 353:=eB;have z9:=eY.size;have fX:Ext w8 w10:=eY.NR ar (λi hi=>by omega);have z10:=fX.size;refine NU$ NW O$ NT O$ Og z6R O$ qV (O6 Qy O O eB O)$ Og Zw O$ qV (O6 U3 O O eB O)$ Om Vz O (Rp (mn.ext fX) (c.p0 v).1 (c.p0 v).2 (by omega) q3 (by omega)) ?_;rintro _ w11 ⟨rfl,F11,ss,aY,su⟩;have j6:=fX.kp.trans aY;refine NU$ NS$ NW O$ P6 O O$ NT O$ NU ((ih (1,F11,b8++Ov (c.p0 v).2 (c.p0 v).1) w11 ⟨by dsimp only;omega,ss,?_,?_,?_,?_⟩ (by dsimp only;omega)).qb)
         ·dsimp only;rw[ib];rw[List.append_nil,if_neg (by decide),z2a]
         ·exact aS.NR j6 (λi hi=>(uW i hi).elim .inr (λe=> .inl (by omega)))
         ·intro i hi;rcases su i hi with e| e
          ·exact uW i e
          ·exact .inr (by omega)
         ·have:=j6.size;omega
        ·rw[if_neg (by decide)] at wg ib;refine qV (zh1 (n:=1) z0a RX zai O O O (by decide)) ?_;rw[show(#[u64v (c.p0 v).1,I ((c.p0 v).2:Int),u64v 0,I 0]:Array Value).extract (1*2) (1*2+2)=#[u64v 0,I 0] from rfl];refine O5 O O (QU (cs:=[_,_]) RX O) ?_;rintro _ w9 ⟨b12,rfl,BK,eY,bh⟩;refine Oe O (P4 (news:=[u64v 0,I 0]) RX O O O O bh (by simp)) ?_;rintro w10 ⟨eB,ar⟩;replace eB:O9 w10 b12 [u64v 0,I 0] 353:=eB;have z9:=eY.size;have fX:Ext w8 w10:=eY.NR ar (λi hi=>by omega);have z10:=fX.size;refine NU$ NW O$ NT O$ Og z6R O$ qV (O6 Qy O O eB O)$ Og Zw O$ qV (O6 U3 O O eB O)$ Om Vz O (Rp (mn.ext fX) 0 0 (by omega) (by decide) (by omega)) ?_;rintro _ w11 ⟨rfl,F11,ss,aY,su⟩;have j6:=fX.kp.trans aY;refine NU$ NS$ NW O$ P6 O O$ NT O$ NU ((ih (2,F11,b8++Ov 0 0) w11 ⟨by dsimp only;omega,ss,?_,?_,?_,?_⟩ (by dsimp only;omega)).qb)
         ·dsimp only;rw[ib];rw[if_neg (by decide)];simp[Ov]
         ·exact aS.NR j6 (λi hi=>(uW i hi).elim .inr (λe=> .inl (by omega)))
         ·intro i hi;rcases su i hi with e| e
          ·exact uW i e
          ·exact .inr (by omega)
         ·have:=j6.size;omega
       ·have:i=2:=by omega
        subst this;rw[if_neg (by decide)] at ib;refine O4 O$ qN O$ NZ O$ NV func212 O (⟨_,rfl,rfl,F8,?_,aS,λi hi=>(uW i hi).imp id (λe=>by omega)⟩);rw[ib] at mn;unfold Cd.enc
        simpa using mn
     ·omega
end
structure RgM (w:World)(x r:Nat)(s:NY)(a:Nat):Prop where
 NX:O9 w x [ptr r 0,.bool false] 377
 rd:SX w r s a
 ne:x≠r
theorem RgM.ext {w w':World}{x r:Nat}{s:NY}{a:Nat}(h:RgM w x r s a)(k:Ext w w'):RgM w' x r s a:=⟨k.NX h.NX,⟨k.NX h.rd.1,h.rd.2⟩,h.ne⟩
section
variable {w:World}{x r:Nat}{s:NY}{a:Nat}
theorem VX (h:RgM w x r s a)(n:Nat)(hn:n<=64)(hl:a+n<=8*s.length):
  Oy prog 267 [ptr x 0,I (n:Int)] w λv w'=>v=u64v (OK (((On s).drop a).take n))/\RgM w' x r s (a+n)/\Kp (λk=>k=x\/k=r) w w':=by
 obtain⟨hB,hR,bP⟩:=h
 refine NP (e:=[(0,_),(1,_)]) func267 O ntmps267 O O$ qN O$ Oc O$ qM O$ NT O$ OH O$ Og zcd O$ qV (O6 Ud O O hB O)$ NT O$ Om z4v O (Ui hR n hn) ?_
 rintro v1 w1 eZ
 obtain⟨rfl,kJ,aK⟩:v1= .tuple #[u64v (OK (((On s).drop a).take n)),I 0]/\SX w1 r s (a+n)/\Kp (λk=>k=r) w w1:=by
  rcases eZ with⟨-,h⟩|⟨h,-⟩
  ·exact h
  ·omega
 have ai:=aK.NX hB bP
 refine NT O$ P9 O O$ P9 O O$ Oc O$ Oc O$ qM O$ Od O O$ OH O$ Og Zb O$ qV (O6 U4 O O ai O)$ Od O O$ Pz O O$ OR$ OU O O ?_
 refine OH O$ Og Zb O$ Oe O (PV Vg O O O ai (by simp)) ?_
 rintro w2 ⟨am,aq⟩
 replace am:O9 w2 x [ptr r 0,.bool false] 377:=am
 refine NU$ OD.qb (e:=[(4,_),(5,_)]) ?_
 refine qN O$ NT O$ NZ O$ NV func267 O ?_
 exact⟨_,rfl,rfl,⟨am,⟨aq.NX kJ.1 (Ne.symm bP),kJ.2⟩,bP⟩,(aK.Of (λk e=> .inr e)).trans (aq.Of (λk e=> .inl e))⟩
theorem WR (h:RgM w x r s a)(z most:Nat)(rest:List Bool)(hb:(On s).drop a=List.replicate z false++true::rest)(hz:z<=most)(hm:most<=65535):
  Oy prog 265 [ptr x 0,I (most:Int)] w λv w'=>v=I (z:Int)/\RgM w' x r s (a+z+1)/\Kp (λk=>k=x\/k=r) w w':=by
 have aF:a+z+1<=8*s.length:=by
  have:=congrArg List.length hb;rw[List.length_drop,bitsT_length,List.length_append,List.length_replicate,List.length_cons] at this;omega
 refine NP (e:=[(0,_),(1,_)]) func265 O ntmps265 O O$ qN O$ NZ O$ py$ qN O$ NZ O$ NQ$ Qm (α:=Nat) (0) (λn=>[(0,ptr x 0),(1,I (most:Int)),(5,I (n:Int))]) (λn w'=>n<=z/\RgM w' x r s (a+n)/\Kp (λk=>k=x\/k=r) w w') (λn=>z-n) ?hI ?hround
 case hI=>exact⟨Nat.zero_le _,h,Kp.refl _ _⟩
 case hround=>
  rintro n w1 ⟨hn,h1,aK⟩ ih;have ai:=h1.NX
  have hd:(On s).drop (a+n)=List.replicate (z-n) false++true::rest:=by
   rw[<-List.drop_drop,hb,List.drop_append_of_le_length (by simp;omega),List.drop_replicate]
  try dsimp only
  refine py$ qN O$ Od O O$ zle O O$ NT O$ Rv (λc1=>?_)$ λc1=>?_
  ·have hv:OK (((On s).drop (a+n)).take 1)=if n=z then 1 else 0:=by
    rw[hd];by_cases e:n=z
    ·subst e;rw[Nat.sub_self,if_pos O];rfl
    ·rw[if_neg e,show z-n=(z-n-1)+1 by omega,List.replicate_succ];rfl
   refine NT O$ OH O$ Og Zb O$ qV (O6 U4 O O ai O)$ qV ((Rn O))$ PT O O$ NU$ Oa O$ An$ py$ NQ$ qN O$ NT O$ Om z7o O (VX h1 1 (by decide) (by omega)) ?_;rintro _ w2 ⟨rfl,h2,aq⟩;rw[hv];refine Qe O O$ NU$ O8 O (λc2=>?_)$ λc2=>?_
   ·have Hh:n=z:=by
     by_cases e:n=z
     ·exact e
     ·rw[if_neg e] at c2;simp at c2
    subst Hh;refine qN O$ NT O$ NZ O$ NV func265 O ?_;exact⟨_,rfl,rfl,h2,aK.trans aq⟩
   ·have Hh:n≠z:=λe=>by rw[if_pos e] at c2;simp at c2
    refine An$ NS$ NW O$ NT O$ P6 O O$ NZ O ?_;exact(ih (n+1) w2 ⟨by omega,by rw[<-Nat.add_assoc];exact h2,aK.trans aq⟩ (by omega)).qb
  ·omega
theorem z62 (h:RgM w x r s a)(z q:Nat)(rest:List Bool)(hb:(On s).drop a=List.replicate z false++true::(Ov z q++rest))(hq:q<2^z)(hz:z<=47):
  Oy prog 266 [ptr x 0,I 47] w λv w'=>v=u64v (q+2^z-1)/\RgM w' x r s (a+z+1+z)/\Kp (λk=>k=x\/k=r) w w':=by
 have aF:a+z+1+z<=8*s.length:=by
  have:=congrArg List.length hb;rw[List.length_drop,bitsT_length,List.length_append,List.length_replicate,List.length_cons,List.length_append,bitsN_length] at this;omega
 have hd:(On s).drop (a+z+1)=Ov z q++rest:=by
  rw[show a+z+1=a+(z+1) by omega,<-List.drop_drop,hb];rw[<-List.drop_drop,List.drop_left' (by simp)];rfl
 have hv:OK (((On s).drop (a+z+1)).take z)=q:=by
  rw[hd,List.take_left' (by simp),Pk,Nat.mod_eq_of_lt hq]
 obtain⟨Q,hQ⟩:∃Q,2^z=Q:=⟨_,rfl⟩
 rw[hQ] at hq⊢
 have BD:1<=Q/\Q<=281474976710656:=by
  rw[<-hQ];exact⟨Nat.two_pow_pos _,by have:=Nat.pow_le_pow_right (show 0<2 by decide) (show z<=48 by omega);simpa using this⟩
 refine NP (e:=[(0,_),(1,_)]) func266 O ntmps266 O O$ qN O$ Oc O$ qM O$ Od O O$ Om zbf O (WR h z 47 _ hb hz (by decide)) ?_
 rintro _ w1 ⟨rfl,h1,aK⟩
 have hg:=Ext.Ob w1
 refine NZ O$ py$ Qj (λw'=>Kp (λk=>k=x\/k=r) w1 w') O$ Oj 0 O O (hg.kp)$ Oj 1 O O (hg.kp)$ Oj 3 O O (hg.kp)$ O0 4 O (PX z Q O O (by omega) hQ) (hg.kp) ?_
 rw[show 1*Q%18446744073709551616=Q by omega]
 refine RW 2 O z7o O (VX (h1.ext hg) z (by omega) (by omega)) ?_
 rintro _ w2 ⟨rfl,h2,aq⟩
 refine⟨hg.kp.trans aq,?_⟩
 rw[hv]
 refine O0 5 O (QP O O) (hg.kp.trans aq) ?_
 rw[show(q+Q)%18446744073709551616=q+Q by omega]
 refine O0 6 O (UB (n:=1) O O O (by show q+Q<2^64;omega) (by omega)) (hg.kp.trans aq) ?_
 refine O0 7 O (Qq O) (hg.kp.trans aq)$ qE$ NV func266 O ?_
 exact⟨_,rfl,rfl,h2,aK.trans (hg.kp.trans aq)⟩
theorem z5e (h:RgM w x r s a)(v K:Nat)(rest:List Bool)(hb:(On s).drop a=PO v K++rest)(hv:v<K)(J0:K<=9223372036854775808):
  Oy prog 268 [ptr x 0,u64v K] w λu w'=>u=u64v v/\RgM w' x r s (a+(PO v K).length)/\Kp (λk=>k=x\/k=r) w w':=by
 have aF:a+(PO v K).length<=8*s.length:=by
  have:=congrArg List.length hb;have ha:=h.rd.2.1;rw[List.length_drop,bitsT_length,List.length_append] at this;omega
 refine NP (e:=[(0,_),(1,_)]) func268 O ntmps268 O O$ qN O$ Oc O$ qM O$ NT O$ qV (UB (n:=1) O O O (by show K<2^64;omega) (by omega)) ?_
 refine Om z1V O (Tm (K-1) (by omega) w) ?_
 rintro _ w ⟨rfl,rfl⟩
 refine NZ O$ py$ qN O$ NT O$ Qe O O$ NU ?_
 by_cases Hf:K=1
 ·subst Hf;have uX:v=0:=by omega
  subst uX;rw[show P3 (1-1)=0 from rfl];refine O8 O (λc0=>?_)$ λc0=>?_
  ·refine qN O$ NZ O$ NV func268 O ?_;exact⟨_,rfl,rfl,h,Kp.refl _ _⟩
  ·exact absurd O c0
 ·have f:=z5i hv (by omega) rest;dsimp only at f;obtain⟨n,hn⟩:∃n,P3 (K-1)=n:=⟨_,rfl⟩;rw[hn] at f⊢;have g:=U6 (K:=K) (by omega);rw[hn] at g;obtain⟨Q,hQ⟩:∃Q,2^n=Q:=⟨_,rfl⟩;rw[hQ] at f g;obtain⟨f1,f2,f3⟩:=f
  have BL:n<=63:=by
   rw[<-hn];have e63:(2:Nat)^63=9223372036854775808:=by decide
   exact Qi (by omega)
  have BC:Q<=9223372036854775808:=by
   rw[<-hQ];have:=Nat.pow_le_pow_right (show 0<2 by decide) BL;have e63:(2:Nat)^63=9223372036854775808:=by decide
   omega
  have t1:((On s).drop a).take (n-1)=(PO v K).take (n-1):=by rw[hb,List.take_append_of_le_length f2]
  obtain⟨u,hu⟩:∃u,OK ((PO v K).take (n-1))=u:=⟨_,rfl⟩
  have oB:u<Q:=by
   have h1:=Q8 ((PO v K).take (n-1));rw[hu,List.length_take] at h1;have h2:=Nat.pow_le_pow_right (show 0<2 by decide) (show min (n-1) (PO v K).length<=n by omega);omega
  rw[hu] at f3;refine O8 O (λc0=>?_)$ λc0=>?_
  ·omega
  ·refine An$ qN O$ NT O$ qV (PX n Q O O (by omega) hQ) ?_;rw[show 1*Q%18446744073709551616=Q by omega];refine NT O$ qV (UB O O O (by show Q<2^64;omega) g.1) ?_;refine Oc O$ qM O$ Od O O$ Qp O O ?_;rw[show((n:Int)-1)=((n-1:Nat):Int) by omega];refine Om z7o O (VX h (n-1) (by omega) (by omega)) ?_;rintro _ w1 ⟨rfl,h1,aK⟩;rw[t1,hu];refine NZ O$ py$ qN O$ Od O O$ SB O O$ NU$ O8 O (λc1=>?_)$ λc1=>?_
   ·obtain⟨m1,m2,m3⟩:Q-K<=u/\(PO v K).length=n/\2*u+OK ((PO v K).drop (n-1))=v+(Q-K):=by
     rcases f3 with⟨e,-⟩| e
     ·omega
     ·exact e
    have t2:((On s).drop (a+(n-1))).take 1=(PO v K).drop (n-1):=by
     rw[<-List.drop_drop,hb,List.drop_append_of_le_length f2,List.take_append_of_le_length (by rw[List.length_drop];omega),List.take_of_length_le (by rw[List.length_drop];omega)]
    have qU:OK ((PO v K).drop (n-1))<2:=by
     have:=Q8 ((PO v K).drop (n-1));rw[List.length_drop,m2,show n-(n-1)=1 by omega] at this;exact this
    refine NW O$ NT O$ qV (PX 1 2 O O (by decide) O) ?_;rw[show u*2%18446744073709551616=u*2 by omega];refine NT O$ Om z7o O (VX h1 1 (by decide) (by omega)) ?_;rintro _ w2 ⟨rfl,h2,aq⟩;rw[t2];refine qV (QP O O) ?_;rw[show(u*2+OK ((PO v K).drop (n-1)))%18446744073709551616=v+(Q-K) by omega];refine NT O$ qV (UB O O O (by show v+(Q-K)<2^64;omega) (by omega)) ?_;rw[show v+(Q-K)-(Q-K)=v by omega];refine NZ O$ OD.qb (e:=[(4,_),(7,_)]) ?_;refine qN O$ NT O$ NZ O$ NV func268 O ?_;rw[m2];exact⟨_,rfl,rfl,by rw[show a+n=a+(n-1)+1 by omega];exact h2,aK.trans aq⟩
   ·obtain⟨m1,m2,m3⟩:u<Q-K/\(PO v K).length=n-1/\u=v:=by
     rcases f3 with e|⟨e,-⟩
     ·exact e
     ·omega
    refine An$ qN O$ NT O$ NZ O$ NV func268 O ?_;rw[m2];exact⟨_,rfl,by rw[m3];rfl,h1,aK⟩
end
section
variable {w:World}{x r:Nat}{s:NY}{a:Nat}
theorem z3X (h:RgM w x r s a)(c:Cd)(v:Nat)(hc:c.PI)(hv:v<=c.most)(rest:List Bool)(hb:(On s).drop a=c.enc v++rest):
  Oy prog 259 [ptr x 0,cdV c] w λu w'=>u=u64v v/\RgM w' x r s (a+(c.enc v).length)/\Kp (λk=>k=x\/k=r) w w':=by
 have oy:=Wc c v
 have eR:=h.NX.lt
 have ia:=h.rd.1.lt
 have aF:a+(c.enc v).length<=8*s.length:=by
  have:=congrArg List.length hb;have ha:=h.rd.2.1;rw[List.length_drop,bitsT_length,List.length_append] at this;omega
 unfold Cd.enc at hb
 rw[List.append_assoc,List.cons_append] at hb
 cases c with
 | unary =>
   refine NP (e:=[(0,_),(1,_)]) func259 O ntmps259 O O$ qN O$ O5 O O (Qr O (cs:=[.int .u8 0,u64v 0]) O) ?_;rintro _ w1 ⟨b3,rfl,f7,ad,au⟩;refine NZ O$ py$ qN O$ Og Rm O$ qV (O6 U5 O O au O)$ NU$ NQ$ qN O$ Qe O O$ Qs$ NZ O$ Oa O$ qN O$ NT O ?_;refine Om zbf O (WR (h.ext ad) v 65535 rest hb hv (by decide)) ?_;rintro _ w2 ⟨rfl,h2,aq⟩;have fY:v<=65535:=hv;refine qV ((Pf O U3 Qy (by omega)))$ NZ O$ NV func259 O (⟨_,rfl,rfl,?_,ad.kp.trans aq⟩);have e:(Cd.enc .unary v).length=v+1:=by rw[oy];rfl
   rw[e];exact h2
 | gamma =>
   obtain⟨g1,g2,g3⟩:=UO hv;obtain⟨z,hz⟩:∃z,Nat.log2 (v+1)=z:=⟨_,rfl⟩;rw[hz] at g1 g2 g3;rw[Nat.pow_succ] at g2
   have uY:(On s).drop a=List.replicate z false++true::(Ov z (v+1-2^z)++rest):=by
    rw[hb];show List.replicate (Nat.log2 (v+1)) false++true::(Ov (Nat.log2 (v+1)) (v+1-2^Nat.log2 (v+1))++rest)=_;rw[hz]
   have e:(Cd.enc .gamma v).length=z+1+z:=by rw[oy];show Nat.log2 (v+1)+1+Nat.log2 (v+1)=_;rw[hz]
   refine NP (e:=[(0,_),(1,_)]) func259 O ntmps259 O O$ qN O$ O5 O O (Qr O (cs:=[.int .u8 1,u64v 0]) O) ?_;rintro _ w1 ⟨b3,rfl,f7,ad,au⟩;refine NZ O$ py$ qN O$ Og Rm O$ qV (O6 U5 O O au O)$ NU$ NQ$ qN O$ Qe O O$ OR$ NZ O$ It O$ qN O$ Qe O O ?_;refine Qs$ NZ O$ Oa O$ qN O$ NT O$ Om zic O (z62 (h.ext ad) z (v+1-2^z) rest uY (by omega) g3) ?_;rintro _ w2 ⟨rfl,h2,aq⟩;rw[show v+1-2^z+2^z-1=v by omega];refine NZ O$ NV func259 O (⟨_,rfl,rfl,?_,ad.kp.trans aq⟩)
   rw[e,show a+(z+1+z)=a+z+1+z by omega];exact h2
 | zeta k =>
   obtain⟨aK,aq⟩:1<=k/\k<=16:=hc;obtain⟨g1,g2,g3⟩:=UO hv;have f:=WS (k:=k) (v:=v) aK;dsimp only at f;obtain⟨b,p5⟩:∃b,Nat.log2 (v+1)=b:=⟨_,rfl⟩;rw[p5] at f g1 g2 g3;obtain⟨z,hz⟩:∃z,b / k=z:=⟨_,rfl⟩;obtain⟨m,hm⟩:∃m,z*k=m:=⟨_,rfl⟩;have mJ:m<=b:=by rw[<-hm,<-hz];exact Nat.div_mul_le_self _ _
   have BM:z<=47 / k:=by rw[<-hz];exact Nat.div_le_div_right g3
   have MX:47 / k<=47:=Nat.div_le_self _ _;rw[hz,hm] at f
   have uY:(On s).drop a=List.replicate z false++true::(PO (v+1-2^m) (2^m*2^k-2^m)++rest):=by
    rw[hb];show List.replicate (Nat.log2 (v+1) / k) false++true::(PO (v+1-2^(Nat.log2 (v+1) / k*k)) (2^(Nat.log2 (v+1) / k*k)*2^k-2^(Nat.log2 (v+1) / k*k))++rest)=_;rw[p5,hz,hm]
   obtain⟨F,hF⟩:∃F,2^m=F:=⟨_,rfl⟩;obtain⟨G,hG⟩:∃G,2^k=G:=⟨_,rfl⟩;rw[hF,hG] at f uY;obtain⟨f1,f2,f3⟩:=f;obtain⟨E,hE⟩:∃E,F*G=E:=⟨_,rfl⟩
   have BE:E<=9223372036854775808:=by
    rw[<-hE,<-hF,<-hG,<-Nat.pow_add];have:=Nat.pow_le_pow_right (show 0<2 by decide) (show m+k<=63 by omega);have e63:(2:Nat)^63=9223372036854775808:=by decide
    omega
   rw[hE] at f2 f3 uY
   have e:(Cd.enc (.zeta k) v).length=z+1+(PO (v+1-F) (E-F)).length:=by
    rw[Cd.enc,List.length_append,List.length_replicate,List.length_cons];show Nat.log2 (v+1) / k+((PO (v+1-2^(Nat.log2 (v+1) / k*k)) (2^(Nat.log2 (v+1) / k*k)*2^k-2^(Nat.log2 (v+1) / k*k))).length+1)=_;rw[p5,hz,hm,hF,hG,hE];omega
   have hd:(On s).drop (a+z+1)=PO (v+1-F) (E-F)++rest:=by
    rw[show a+z+1=a+(z+1) by omega,<-List.drop_drop,uY];rw[<-List.drop_drop,List.drop_left' (by simp)];rfl
   have qR:(z:Int)*(k:Int)=(m:Int):=by rw[<-hm];simp
   have gR:(47:Int) / (k:Int)=((47 / k:Nat):Int):=by simp
   refine NP (e:=[(0,_),(1,_)]) func259 O ntmps259 O O$ qN O$ O5 O O (Qr O (cs:=[.int .u8 3,u64v k]) O) ?_;rintro _ w1 ⟨b3,rfl,f7,ad,au⟩;refine NZ O$ py$ qN O$ Og Rm O$ qV (O6 U5 O O au O)$ NU$ NQ$ qN O$ Qe O O$ OR$ NZ O$ It O$ qN O$ Qe O O ?_;refine OR$ NZ O$ It O$ qN O$ Qe O O$ OR$ NZ O$ It O$ qN O$ Qe O O$ Qs$ NZ O$ Oa O$ qN O ?_;refine Og VJ O$ qV (O6 Qy O O au O)$ qV (OT O Qy U3 (by omega))$ Oc O$ qM O$ Od O O$ qV (UH O O (by omega)) ?_;rw[gR];refine Om zbf O (WR (h.ext ad) z (47 / k) _ uY BM (by omega)) ?_;rintro _ w2 ⟨rfl,h2,BN⟩;refine NT O$ qV (Xa O O (by rw[qR];omega)) ?_;rw[qR];refine qV (PX m F O O (by omega) hF) ?_;rw[show 1*F%18446744073709551616=F by omega];refine NZ O$ OD.qb (e:=[(0,_),(3,_),(4,_),(6,_),(7,_)]) ?_;refine qN O$ Od O O$ NT O$ qV (PX k G O O (by omega) hG) ?_;rw[hE,Nat.mod_eq_of_lt (show E<18446744073709551616 by omega)];refine NT O$ qV (UB O O O (by show E<2^64;omega) (by omega)) ?_;refine Om zg2 O (z5e h2 (v+1-F) (E-F) rest hd f2 (by omega)) ?_;rintro _ w3 ⟨rfl,h3,aw⟩;refine NT O$ qV (QP O O) ?_;rw[show(v+1-F+F)%18446744073709551616=v+1 by omega];refine qV (UB (n:=1) O O O (by show v+1<2^64;omega) (by omega)) ?_;rw[show v+1-1=v by omega];refine NZ O$ NV func259 O (⟨_,rfl,rfl,?_,(ad.kp.trans BN).trans aw⟩);rw[e,show a+(z+1+(PO (v+1-F) (E-F)).length)=a+z+1+(PO (v+1-F) (E-F)).length by omega];exact h3
end
theorem z5z {P:Program}{fn:Func}{tmps:Array Value}{R:Ending->World->Prop}{g:FuncId}{cap args:List Value}{w:World}{S:Value->World->Prop}(p8:CF P g)(hD:zcS P g (args++cap) w S)
  (h:∀u w',S u w'->∃v,(results fn tmps).run P w'= .ok v w'/\R (.returned v) w'):LeavesInM Fence.wide 0 P fn tmps R (marks [.call g cap args]) .returning w:=by
 refine⟨by simp,.inr ⟨(λh=>by cases h),.func g,cap.toArray,g,(args++cap).toArray,rfl,?_,(λ_ _=>trivial),?_⟩⟩
 ·simp[Dfr.d,invoke,Su p8]
 ·refine CallsDIn.mono hD ?_;rintro x u w1 ⟨rfl,v1,rfl,hS⟩;exact h v1 w1 hS
theorem z8u {P:Program}{f:FuncId}{R:Value->World->Prop}{n:Nat}{k:List Item}{e:Env}{w:World}{fn:Func}{g:FuncId}{cap args:List Value}{S:Value->World->Prop}(hf:P.funcs[f]? =some fn)(p8:CF P g)(hD:zcS P g (args++cap) w S)
  (h:∀u w',S u w'->∃vs,XJ P w' e fn.results.toList vs/\WQ R (.returned (Pn vs)) w'):OD ⟨P,f,R,n,none,[.call g cap args],false⟩ (.code .ret::k) e w:=
 z3u O O hf λa ha=>z5z p8 hD λu w' hs=>by
  obtain⟨vs,h1,h2⟩:=h u w' hs;exact⟨_,UR ha P w' fn vs h1,h2⟩
theorem ydf {P:Program}{e:Env}{ty:TypeId}{pos:String}{aft:Array Edge}{g:Option (Nat×Bool)}{w:World}{f:FuncId}{x:Operand}{q:List Value}(hv:look e x=some (.func (.func f) #[] q.toArray)):
  ∀ρ:Operand->Value,(∀x v,look e x=some v->ρ x=v)->(execOp ρ ⟨none,.defer ⟨.value x,#[],#[]⟩,ty,pos,aft,g⟩).run P w= .ok (.defer (Dfr.d (.call f q []))) w:=fun ρ hρ=>by
 simp[execOp,resolve,hρ _ _ hv,Dfr.d,Deferred.ofValue]
section
variable {w:World}{r:Nat}{s:NY}{a:Nat}
theorem z4F {b2 b5 b6:Nat}(hB:O9 w b5 [I 0] 36):zcS prog 258 [ptr b5 0,ptr b2 0,ptr b6 0] w λu w'=>w'=w:=by
 refine z30 (e:=[(0,_),(1,_),(2,_)]) func258 O ntmps258 O O$ qN O$ qV (O6 U36 O O hB O)$ Pz O O$ NU$ O8 O (λc0=>?_)$ λc0=>?_
 ·exact absurd O c0
 ·refine An$ z9L O O O func258$ λa ha=>⟨_,TX ha _ _ _ _ O,?_⟩;exact⟨_,rfl,rfl⟩
theorem Yi (h:SX w r s a)(c:Cd)(v:Nat)(hc:c.PI)(hv:v<=c.most)(rest:List Bool)(hb:(On s).drop a=c.enc v++rest):
  Oy prog 251 [ptr r 0,cdV c] w λu w'=>u= .tuple #[u64v v,I 0]/\SX w' r s (a+(c.enc v).length)/\Kp (λk=>k=r) w w':=by
 obtain⟨x,y,dj⟩:∃x y,RB c=[x,y]:=by cases c<;>exact⟨_,_,rfl⟩
 have ia:=h.1.lt
 have dF:=c.ZE
 refine NP (e:=[(0,_),(1,_)]) func251 O ntmps251 O O$ qN O$ O5 O O (Qr O (cs:=[ptr r 0]) O) ?_
 rintro _ w1 ⟨b2,rfl,bU,ad,am⟩
 refine O5 O O (Qr O (cs:=RB c) O) ?_
 rintro _ w2 ⟨b3,rfl,f7,ae,au⟩
 refine Oc O$ O5 O O (QU (cs:=[_]) z1e O) ?_
 rintro _ w3 ⟨b5,rfl,gQ,ah,aG⟩
 replace aG:O9 w3 b5 [I 0] 36:=aG
 have h3:SX w3 r s a:=⟨ah.NX (ae.NX (ad.NX h.1)),h.2⟩
 have cS:=ah.NX (ae.NX am)
 have eC:=ah.NX au
 refine NU$ py$ NQ$ qN O$ qV (O6 Ud O O cS O)$ qV (Pt Ud O O)$ NZ O$ It O$ qN O$ qV (OE (news:=RB c) RG O PY O (eC.cells (n:=2) (by rw[dj];rfl)) (by rw[dj];rfl)) ?_
 refine Om z3L O (Tt c hc w3) ?_
 rintro _ w4 ⟨rfl,az⟩
 have h4:SX w4 r s a:=⟨az.NX h3.1,h3.2⟩
 have ip:=az.NX cS
 refine Pz O O$ NZ O$ O8 O (λc0=>?_)$ λc0=>?_
 ·exact absurd O c0
 ·refine An$ NS$ qN O$ qV (O6 Ud O O ip O)$ Om Xv O (Th h4) ?_;rintro _ w4 ⟨rfl,rfl⟩;refine O5 O O (QU (cs:=[_]) Pb O) ?_;rintro _ w5 ⟨b6,rfl,jP,aR,aO⟩;refine Oe O (PV Pb O O O aO (by simp)) ?_;rintro w6 ⟨mL,aP⟩;have z1:=ad.size;have z2:=ae.size;have z3:=ah.size;have z4:=az.size;have z5:=aR.size;have l2:=am.lt;have l3:=au.lt;have l5:=aG.lt;have cN:Ext w4 w6:=aR.NR aP (λi hi=>by omega);have j7:=cN.NX ip;refine qM O$ qV (ymf (first:=[]) (caps:=[.tmp 5,.tmp 2,.tmp 6]) O O)$ zeV O O (ydf O)$ qM O$ qV (O6 Ud O O j7 O)$ qV (Rt (cs:=[_,_]) zgD O ziO O O)$ O5 O O (Qr O O) ?_;rintro _ w7 ⟨b7,rfl,jQ,bV,bN⟩;replace bN:O9 w7 b7 [ptr r 0,.bool false] 377:=bN;have z6:=cN.size;have z7:=bV.size;have p9:Ext w3 w7:=(az.trans cN).trans bV;have h7:RgM w7 b7 r s a:=⟨bN,⟨p9.NX h3.1,h3.2⟩,by omega⟩;have mM:=p9.NX eC;have jT:=p9.NX aG;refine NZ O$ py$ qN O$ NT O$ qV (OE (news:=RB c) RG O PY O (mM.cells (n:=2) (by rw[dj];rfl)) (by rw[dj];rfl)) ?_;refine Om zhd O (z3X h7 c v hc hv rest hb) ?_;rintro _ w8 ⟨rfl,h8,aS⟩;have sw:=aS.NX mM (by omega);have BO:=aS.NX jT (by omega);have cn:=h8.NX;refine Oc O$ qM O$ NT O$ OH O$ Og Zb O$ qV (O6 U4 O O cn O)$ Od O O$ qV (OE (news:=RB c) RG O PY O (sw.cells (n:=2) (by rw[dj];rfl)) (by rw[dj];rfl)) ?_;refine Om zee O (z1S c hc w8) ?_;rintro _ w9 ⟨rfl,eY⟩;refine PD O O$ OU O O$ NU$ OD.qb (e:=[(4,_),(5,_),(33,_)]) ?_;refine O8 O (λc1=>?_)$ λc1=>?_
  ·omega
  ·have BP:=eY.NX BO;refine An$ qN O$ NT O$ Oc O$ Oe O (PV z1e O O O BP (by simp)) ?_;rintro w10 ⟨dr,ar⟩;replace dr:O9 w10 b5 [I 0] 36:=dr;refine NU$ z8u func251 zfL (z4F (b2:=b2) (b6:=b6) dr) ?_;rintro u w' rfl;have uZ:SX w9 r s (a+(c.enc v).length):=⟨eY.NX h8.rd.1,h8.rd.2⟩;refine⟨_,.tmp O (.cell1 U36 O O ((dr).cell _) .nil),_,rfl,rfl,⟨ar.NX uZ.1 (by omega),uZ.2⟩,?_⟩;have gS:Ext w w7:=((ad.trans ae).trans ah).trans p9;have sx:Kp (λk=>k=r) w w8:=gS.kp.NR aS (λi hi=>hi.elim (λe=> .inl (by omega)) .inr);exact(sx.trans eY.kp).NR ar (λi hi=> .inl (by omega))
end
/-! ### Runs -/
def expand:Bool->List Nat->List Bool
 |_,[]=>[]
 |b,n::r=>List.replicate n b++expand (!b) r
theorem WX:∀(b:Bool) (r s:List Nat),expand b (r++s)=expand b r++expand (if r.length%2=0 then b else !b) s
 |b,[],s=>by simp[expand]
 | b, n :: r, s => by
   rw[List.cons_append,expand,expand,WX (!b) r s,List.append_assoc]
   congr 2
   rcases Nat.mod_two_eq_zero_or_one r.length with e| e
   ·rw[if_pos e,if_neg (by rw[List.length_cons];omega)]
   ·rw[if_neg (by omega),if_pos (by rw[List.length_cons];omega)];simp
theorem RZ:∀(b:Bool) (r:List Nat),(expand b r).length=r.sum
 |_,[]=>rfl
 |b,n::r=>by rw[expand,List.length_append,List.length_replicate,RZ (!b) r,List.sum_cons]
def Qd (rs:List Nat)(f:Bool):List Nat:=
 let rs':=if f !=(rs.length%2==1) then rs++[0] else rs
 rs'.modify (rs'.length-1) (·+1)
theorem Vs (l:List Nat)(n:Nat):(l++[n]).modify ((l++[n]).length-1) (·+1)=l++[n+1]:=by
 have key:∀l:List Nat,(l++[n]).modify l.length (·+1)=l++[n+1]:=λl=>by
  induction l with
  |nil=>rfl
  |cons a l ih=>simpa using ih
 have:(l++[n]).length-1=l.length:=by simp
 rw[this,key]
structure SD (rs:List Nat)(fs:List Bool):Prop where
 ne:rs≠[]
 exp:expand true rs=fs
 pos:∀n∈rs.drop 1,1<=n
theorem SD.zero:SD [0] []:=⟨by simp,rfl,by simp⟩
theorem SD.step {rs:List Nat}{fs:List Bool}(h:SD rs fs)(f:Bool):SD (Qd rs f) (fs++[f]):=by
 obtain⟨h1,h2,h3⟩:=h
 obtain⟨l,n,rfl⟩:∃l n,rs=l++[n]:=⟨rs.dropLast,rs.getLast h1,(List.dropLast_concat_getLast h1).symm⟩
 unfold Qd
 dsimp only
 have hlen:(l++[n]).length=l.length+1:=by simp
 rw[hlen]
 split
 ·rename_i hf
  rw[Vs];refine⟨by simp,?_,λk hk=>?_⟩
  ·rw[WX,h2,hlen]
   congr 1
   rcases Nat.mod_two_eq_zero_or_one l.length with e|e<;>cases f<;>simp[expand,e,Nat.add_mod] at hf⊢
  ·rw[List.drop_append_of_le_length (by rw[hlen];omega)] at hk;rcases List.mem_append.1 hk with hk|hk
   ·exact h3 k hk
   ·simp at hk;omega
 ·rename_i hf
  rw[Vs];refine⟨by simp,?_,λk hk=>?_⟩
  ·rw[WX] at h2⊢;rw[<-h2,List.append_assoc]
   congr 1
   simp only[expand,List.append_nil,List.replicate_succ']
   congr 1
   rcases Nat.mod_two_eq_zero_or_one l.length with e|e<;>cases f<;>simp[e,Nat.add_mod] at hf⊢
  ·cases l with
   |nil=>simp at hk
   | cons a l =>
     rw[List.cons_append,List.drop_succ_cons,List.drop_zero] at hk h3;rcases List.mem_append.1 hk with hk|hk
     ·exact h3 k (List.mem_append_left _ hk)
     ·simp at hk;omega
def copyL:Bool->List Nat->List Nat->List Nat
 |b,[],ref=>if b then ref else []
 |b,n::r,ref=>(if b then ref.take n else [])++copyL (!b) r (ref.drop n)
def sel:List Nat->List Bool->List Nat
 |x::l,f::fs=>if f then x::sel l fs else sel l fs
 |_,_=>[]
theorem z6X:∀{a b:List Nat} {fs gs:List Bool},a.length=fs.length->sel (a++b) (fs++gs)=sel a fs++sel b gs
 |[],b,[],gs,_=>rfl
 | x :: a, b, f :: fs, gs, h => by
   have h':a.length=fs.length:=by simpa using h
   rw[List.cons_append,List.cons_append,sel,sel,z6X h'];cases f<;>simp
theorem z25:∀(l:List Nat) (b:Bool),sel l (List.replicate l.length b)=if b then l else []
 |[],b=>by cases b<;>rfl
 | x :: l, b => by
   rw[List.length_cons,List.replicate_succ,sel,z25 l b];cases b<;>rfl
theorem z3O:∀(b:Bool) (rs:List Nat) (m:Nat) (ref:List Nat),ref.length=(rs++[m]).sum->copyL b rs ref=sel ref (expand b (rs++[m]))
 | b, [], m, ref, h => by
   have hm:m=ref.length:=by simpa using h.symm
   subst hm;simp only[copyL,List.nil_append,expand,List.append_nil]
   rw[z25]
 | b, n :: rs, m, ref, h => by
   rw[List.cons_append,List.sum_cons] at h;have hl:(ref.take n).length=n:=by rw[List.length_take];omega
   rw[copyL,List.cons_append,expand,z3O (!b) rs m (ref.drop n) (by rw[List.length_drop];omega)]
   conv=>rhs;rw[<-List.take_append_drop n ref,z6X (by rw[hl,List.length_replicate])]
   congr 1
   have:=z25 (ref.take n) b;rw[hl] at this;exact this.symm
/-! ### Rows of numbers that follow one another -/
def P5:Nat->List Nat->Nat
 |_,[]=>0
 |x,y::l=>if y=x+1 then P5 y l+1 else 0
theorem W3:∀(x:Nat) (l:List Nat),P5 x l<=l.length
 |_,[]=>Nat.le_refl _
 | x, y :: l => by
   unfold P5;split
   ·have:=W3 y l;simp;omega
   ·exact Nat.zero_le _
theorem UI:∀(x:Nat) (l:List Nat) (i:Nat),i<P5 x l->l[i]? =some (x+1+i)
 |_,[],i,h=>by simp[P5] at h
 | x, y :: l, i, h => by
   unfold P5 at h;split at h
   ·rename_i e
    subst e
    cases i with
    |zero=>rfl
    |succ i=>rw[List.getElem?_cons_succ,UI (x+1) l i (by omega)];congr 1;omega
   ·omega
theorem VE:∀(x:Nat) (l:List Nat) (y:Nat),l[P5 x l]? =some y->y≠x+1+P5 x l
 |_,[],y,h=>by simp at h
 | x, z :: l, y, h => by
   unfold P5 at h⊢;split
   ·rename_i e
    rw[if_pos e,List.getElem?_cons_succ] at h;have:=VE z l y h;omega
   ·rename_i e
    rw[if_neg e,List.getElem?_cons_zero] at h;cases h;omega
def P8 (least:Nat):List Nat->List (Nat×Nat)×List Nat
 |[]=>([],[])
 | x :: l =>
   let n:=P5 x l+1
   let q:=P8 least (l.drop (P5 x l))
   if 0<least/\least<=n then((x,n)::q.1,q.2) else(q.1,x::l.take (P5 x l)++q.2)
termination_by l=>l.length
decreasing_by simp[List.length_drop];omega
def Qa (l:List (Nat×Nat)):List Nat:=l.flatMap λp=>(List.range p.2).map (p.1+·)
abbrev Ris (l:List Nat):Prop:=l.Pairwise (·<·)
theorem zaB (x:Nat)(l:List Nat):x::l.take (P5 x l)=(List.range (P5 x l+1)).map (x+·):=by
 apply List.ext_getElem?
 intro i
 have hle:=W3 x l
 cases i with
 |zero=>simp
 | succ i =>
   rw[List.getElem?_cons_succ,List.getElem?_take,List.getElem?_map];split
   ·rename_i h
    rw[UI x l i h,List.getElem?_range (by omega)];simp;omega
   ·rw[List.getElem?_eq_none (by simp;omega)];rfl
theorem SR (least:Nat):∀(l:List Nat),(Qa (P8 least l).1++(P8 least l).2).Perm l
 |[]=>by simp[P8,Qa]
 | x :: l => by
   have ih:=SR least (l.drop (P5 x l));have hx:=zaB x l;have hc:x::l=(x::l.take (P5 x l))++l.drop (P5 x l):=by rw[List.cons_append,List.take_append_drop]
   rw[P8];split
   ·rw[show Qa ((x,P5 x l+1)::(P8 least (l.drop (P5 x l))).1)=(List.range (P5 x l+1)).map (x+·)++Qa (P8 least (l.drop (P5 x l))).1 by simp[Qa]];rw[<-hx,List.append_assoc]
    conv=>rhs;rw[hc]
    exact ih.append_left _
   ·conv=>rhs;rw[hc]
    refine List.Perm.trans ?_$ ih.append_left _;rw[<-List.append_assoc,<-List.append_assoc];exact(List.perm_append_comm).append_right _
 termination_by l=>l.length
 decreasing_by simp[List.length_drop];omega
def zig (z:Int):Nat:=if 0<=z then(2*z).toNat else(-2*z-1).toNat
def zag (n:Nat):Int:=if n%2=0 then((n / 2:Nat):Int) else -((n / 2:Nat):Int)-1
theorem z7z (z:Int):zag (zig z)=z:=by
 unfold zig zag
 split
 ·rw[if_pos (by omega)];omega
 ·rw[if_neg (by omega)];omega
theorem Yr {z:Int}{n:Nat}(h1: -(n:Int)<=z)(h2:z<(n:Int)):zig z<2*n:=by
 unfold zig
 split<;>omega
structure Rf where
 Ou:Nat
 interval:Nat
 zeta:Nat
def Qk (succ ref:List Nat):List Nat:=ref.foldl (λrs y=>Qd rs (decide (y∈succ))) [0]
theorem Se (succ ref:List Nat):SD (Qk succ ref) (ref.map λy=>decide (y∈succ)):=by
 unfold Qk
 have key:∀(l:List Nat) (rs:List Nat) (fs:List Bool),SD rs fs->SD (l.foldl (λrs y=>Qd rs (decide (y∈succ))) rs) (fs++l.map λy=>decide (y∈succ)):=by
  intro l
  induction l with
  |nil=>intro rs fs h;simpa using h
  | cons y l ih =>
    intro rs fs h;have:=ih _ _ (h.step (decide (y∈succ)))
    simpa using this
 simpa using key ref [0] [] SD.zero
def Ox (succ ref:List Nat):List Nat:=succ.filter λv=>decide (v∉ref)
theorem z6N (P:Nat->Bool):∀l:List Nat,sel l (l.map P)=l.filter P
 |[]=>rfl
 | x :: l => by
   rw[List.map_cons,sel,z6N P l];cases h:P x<;>simp[h]
theorem z8x (succ ref:List Nat):copyL true (Qk succ ref).dropLast ref=ref.filter λy=>decide (y∈succ):=by
 have h:=Se succ ref
 obtain⟨l,n,e⟩:∃l n,Qk succ ref=l++[n]:=⟨_,_,(List.dropLast_concat_getLast h.ne).symm⟩
 rw[e,List.dropLast_concat]
 have he:=h.exp
 rw[e] at he
 have hl:ref.length=(l++[n]).sum:=by
  have:=congrArg List.length he;rw[RZ,List.length_map] at this;exact this.symm
 rw[z3O true l n ref hl,he,z6N]
def Px:Nat->List Nat->List (Cd×Nat)
 |_,[]=>[]
 |i,n::r=>(.gamma,n-min i 1)::Px (i+1) r
def OV (x least:Nat):Option Nat->List (Nat×Nat)->List (Cd×Nat)
 |_,[]=>[]
 |none,p::r=>(.gamma,zig ((p.1:Int)-x))::(.gamma,p.2-least)::OV x least (some (p.1+p.2-1)) r
 |some e,p::r=>(.gamma,p.1-e-2)::(.gamma,p.2-least)::OV x least (some (p.1+p.2-1)) r
def OZ (x k:Nat):Option Nat->List Nat->List (Cd×Nat)
 |_,[]=>[]
 |none,v::r=>(.zeta k,zig ((v:Int)-x))::OZ x k (some v) r
 |some u,v::r=>(.zeta k,v-u-1)::OZ x k (some v) r
def QC (p:Rf)(x:Nat)(succ ref:List Nat)(r:Nat):List (Cd×Nat):=
 (.gamma,succ.length)::if succ=[] then [] else
  (if 0<p.Ou then [(.unary,r)] else [])++
  ((if 0<r then(.gamma,(Qk succ ref).length-1)::Px 0 (Qk succ ref).dropLast else [])++
  (if Ox succ ref=[] then [] else
   (if 0<p.interval then(.gamma,(P8 p.interval (Ox succ ref)).1.length)::OV x p.interval none (P8 p.interval (Ox succ ref)).1 else [])++
   OZ x p.zeta none (P8 p.interval (Ox succ ref)).2))
def Oq (l:List (Cd×Nat)):List Bool:=l.flatMap λp=>p.1.enc p.2
theorem z5Z {succ ref:List Nat}(hs:Ris succ)(hr:Ris ref)(p:Nat):(ref.filter (λy=>decide (y∈succ))++(Qa (P8 p (Ox succ ref)).1++(P8 p (Ox succ ref)).2)).Perm succ:=by
 have h1:(ref.filter λy=>decide (y∈succ)).Perm (succ.filter λv=>decide (v∈ref)):=by
  refine(List.perm_ext_iff_of_nodup (hr.imp (λh=>by omega) |>.filter _) (hs.imp (λh=>by omega) |>.filter _)).2 λa=>?_;simp only[List.mem_filter,decide_eq_true_eq];exact And.comm
 refine(h1.append (SR p _)).trans ?_
 unfold Ox
 have:=List.filter_append_perm (λv=>decide (v∈ref)) succ
 refine List.Perm.trans ?_ this
 refine List.Perm.append_left _ ?_
 simp
theorem z5h {a b:List Nat}(h:a.Perm b)(ha:a.Pairwise (·<=·))(hb:Ris b):a=b:=
 h.eq_of_pairwise (le:=(·<=·)) (λx y _ _ h1 h2=>by omega) ha (hb.imp (λh=>by omega))
def S4 (least:Nat):Nat->List (Nat×Nat)->Prop
 |_,[]=>True
 |lo,p::r=>lo<=p.1/\1<=p.2/\least<=p.2/\S4 least (p.1+p.2+1) r
theorem S4.mono {least:Nat}:∀{r:List (Nat×Nat)} {a b:Nat},S4 least b r->a<=b->S4 least a r
 |[],_,_,_,_=>trivial
 |p::r,a,b,h,hab=>⟨Nat.le_trans hab h.1,h.2⟩
theorem z5U {x:Nat}{l:List Nat}(h:Ris (x::l)):∀y∈l.drop (P5 x l),x+P5 x l+2<=y:=by
 intro y hy
 obtain⟨j,hj,e⟩:=List.mem_iff_getElem.1 hy
 rw[List.getElem_drop] at e
 rw[List.length_drop] at hj
 obtain⟨h1,h2⟩:=List.pairwise_cons.1 h
 have hle:=W3 x l
 have h0:P5 x l<l.length:=by omega
 obtain⟨z,hz⟩:∃z,l[P5 x l]? =some z:=⟨_,List.getElem?_eq_getElem h0⟩
 have hs:=VE x l z hz
 have hz':=(List.getElem?_eq_some_iff.1 hz).2
 have hzx:x+P5 x l<z:=by
  by_cases e0:P5 x l=0
  ·have:=h1 z (List.mem_of_getElem? hz);omega
  ·have hg:=UI x l (P5 x l-1) (by omega);obtain⟨g1,g2⟩:=List.getElem?_eq_some_iff.1 hg;have:=List.pairwise_iff_getElem.1 h2 (P5 x l-1) (P5 x l) g1 h0 (by omega);rw[g2,hz'] at this;omega
 have hzy:z<=y:=by
  by_cases e0:j=0
  ·subst e0;simp at e;rw[<-e,<-hz'];exact Nat.le_refl _
  ·have:=List.pairwise_iff_getElem.1 h2 (P5 x l) (P5 x l+j) h0 (by omega) (by omega);rw[e,hz'] at this;omega
 omega
theorem TU (least:Nat):∀(l:List Nat) (lo:Nat),Ris l->(∀y∈l,lo<=y)->S4 least lo (P8 least l).1
 |[],lo,_,_=>by rw[P8];trivial
 | x :: l, lo, h, hl => by
   have hb:=z5U h;have h2:Ris (l.drop (P5 x l)):=(List.pairwise_cons.1 h).2.sublist (List.drop_sublist _ _);rw[P8];split
   ·rename_i hc
    refine⟨hl x (by simp),by omega,hc.2,TU least _ _ h2 λy hy=>?_⟩;have:=hb y hy;omega
   ·refine TU least _ _ h2 λy hy=>?_;have:=hb y hy;have:=hl x (by simp);omega
 termination_by l=>l.length
 decreasing_by all_goals (simp[List.length_drop];omega)
theorem Ts (least:Nat):∀(l:List Nat),(P8 least l).2.Sublist l
 |[]=>by rw[P8];exact List.Sublist.refl _
 | x :: l => by
   have ih:=Ts least (l.drop (P5 x l));rw[P8];split
   ·exact(ih.trans (List.drop_sublist _ _)).cons x
   ·have hc:x::l=(x::l.take (P5 x l))++l.drop (P5 x l):=by rw[List.cons_append,List.take_append_drop]
    conv=>rhs;rw[hc]
    exact ih.append_left _
 termination_by l=>l.length
 decreasing_by simp[List.length_drop];omega
end Go.Proofs.YtgdkbagngobdlaaGreatDoor
