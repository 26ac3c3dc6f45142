/- Merged by program. -/
import Derived.Test.YtpldpcjdjcgicaaGreatDoorRows
import Derived.Test.YtpldpcjdjcgicaaGreatDoorBTp1
import Derived.KernelRfl
import Derived.Lib.AppendZerosOnto
import Derived.Lib.Overlaps
import Derived.Maps.RangeRun
set_option linter.all false
set_option maxRecDepth 1000000
set_option maxHeartbeats 16000000
namespace Go.Proofs.YtpldpcjdjcgicaaGreatDoor
open Go Go.RowKit
set_option linter.unusedSimpArgs false
theorem MO:TI Tryz.prog 3 (Value.int .i64 0) 1 8:=Mu (by kernel_rfl)
theorem RX:TI Tryz.prog 4 (Value.bool false) 1 1:=Mu (by kernel_rfl)
theorem TQ:TI Tryz.prog 5 (Value.int .u8 0) 1 1:=Mu (by kernel_rfl)
theorem YZ:TI Tryz.prog 9 (Value.string ⟨#[]⟩) 1 16:=Mu (by kernel_rfl)
theorem zay:TI Tryz.prog 26 (Value.pointer none) 1 8:=Mu (by kernel_rfl)
theorem z4D:TI Tryz.prog 27 (Value.pointer none) 1 8:=Mu (by kernel_rfl)
theorem z8n:TI Tryz.prog 28 (Value.pointer none) 1 8:=Mu (by kernel_rfl)
theorem Wj:TI Tryz.prog 30 (Value.agg #[Value.pointer none,Value.pointer none,Value.pointer none,Value.pointer none,Value.int .i64 0]) 5 40:=Mu (by kernel_rfl)
theorem z4Z:TI Tryz.prog 35 (Value.int .i64 0) 1 8:=Mu (by kernel_rfl)
theorem Rg:TI Tryz.prog 41 (Value.int .u64 0) 1 8:=Mu (by kernel_rfl)
theorem Qz:TI Tryz.prog 45 (Value.slice none 0 0) 1 24:=Mu (by kernel_rfl)
theorem Mc:TI Tryz.prog 46 (Value.int .u32 0) 1 4:=Mu (by kernel_rfl)
theorem zb3:TI Tryz.prog 48 (Value.agg #[Value.int .i64 0,Value.int .i64 0,Value.int .i64 0,Value.int .i64 0,Value.int .i64 0,Value.int .i64 0,Value.int .i64 0]) 7 56:=Mu (by kernel_rfl)
theorem z2Z:TI Tryz.prog 51 (Value.slice none 0 0) 1 24:=Mu (by kernel_rfl)
theorem zdP:TI Tryz.prog 55 (Value.pointer none) 1 8:=Mu (by kernel_rfl)
theorem zaD:TI Tryz.prog 59 (Value.agg #[Value.int .i64 0,Value.int .i64 0,Value.int .i64 0]) 3 24:=Mu (by kernel_rfl)
theorem zaH:TI Tryz.prog 62 (Value.nilFunc) 1 8:=Mu (by kernel_rfl)
theorem z08:TI Tryz.prog 65 (Value.agg #[Value.int .u32 0,Value.int .u32 0]) 2 8:=Mu (by kernel_rfl)
theorem z6I:TI Tryz.prog 69 (Value.agg #[Value.int .i64 0,Value.int .i64 0]) 2 16:=Mu (by kernel_rfl)
theorem O3:TI Tryz.prog 77 (Value.agg #[Value.int .i64 0,Value.int .i64 0,Value.int .i64 0,Value.int .i64 0,Value.int .i64 0]) 5 40:=Mu (by kernel_rfl)
theorem zbg:TI Tryz.prog 80 (Value.pointer none) 1 8:=Mu (by kernel_rfl)
theorem z8Y:TI Tryz.prog 86 (Value.agg #[Value.int .i64 0,Value.bool false]) 2 16:=Mu (by kernel_rfl)
theorem zfe:TI Tryz.prog 88 (Value.agg #[Value.int .i64 0,Value.bool false,Value.pointer none,Value.pointer none,Value.bool false]) 5 40:=Mu (by kernel_rfl)
theorem zek:TI Tryz.prog 89 (Value.pointer none) 1 8:=Mu (by kernel_rfl)
theorem ze2:TI Tryz.prog 90 (Value.map none) 1 8:=Mu (by kernel_rfl)
theorem zfN:TI Tryz.prog 92 (Value.agg #[Value.pointer none,Value.pointer none,Value.pointer none,Value.map none,Value.int .i64 0,Value.int .i64 0,Value.int .i64 0,Value.int .i64 0,Value.int .i64 0,Value.int .i64 0,Value.int .i64 0,Value.bool false]) 12 96:=Mu (by kernel_rfl)
theorem Ox:TI Tryz.prog 97 (Value.agg #[Value.int .i64 0,Value.int .i64 0]) 2 16:=Mu (by kernel_rfl)
theorem za6:TI Tryz.prog 100 (Value.map none) 1 8:=Mu (by kernel_rfl)
theorem z7l:TI Tryz.prog 102 (Value.agg #[Value.slice none 0 0,Value.int .i64 0,Value.int .u8 0]) 3 40:=Mu (by kernel_rfl)
theorem z3R:TI Tryz.prog 104 (Value.agg #[Value.int .i64 0,Value.slice none 0 0,Value.int .i64 0,Value.int .u8 0]) 4 48:=Mu (by kernel_rfl)
theorem z3O:TI Tryz.prog 105 (Value.slice none 0 0) 1 24:=Mu (by kernel_rfl)
theorem zci:TI Tryz.prog 107 (Value.agg #[Value.int .i64 0,Value.slice none 0 0,Value.int .i64 0,Value.int .u8 0,Value.int .i64 0,Value.int .i64 0,Value.map none,Value.slice none 0 0,Value.bool false,Value.int .i64 0,Value.int .i64 0]) 11 120:=Mu (by kernel_rfl)
theorem zak:TI Tryz.prog 108 (Value.slice none 0 0) 1 24:=Mu (by kernel_rfl)
theorem zbK:TI Tryz.prog 110 (Value.agg #[Value.int .i64 0,Value.slice none 0 0,Value.slice none 0 0,Value.bool false]) 4 64:=Mu (by kernel_rfl)
theorem YF:TI Tryz.prog 118 (Value.pointer none) 1 8:=Mu (by kernel_rfl)
theorem Qh:TI Tryz.prog 128 (Value.agg #[Value.int .i64 0,Value.int .i64 0,Value.int .i64 0,Value.int .i64 0,Value.int .i64 0,Value.int .i64 0,Value.int .i64 0,Value.int .i64 0]) 8 64:=Mu (by kernel_rfl)
theorem YN:TI Tryz.prog 130 (Value.nilIface) 1 16:=Mu (by kernel_rfl)
theorem zad:TI Tryz.prog 131 (Value.pointer none) 1 8:=Mu (by kernel_rfl)
theorem zcR:TI Tryz.prog 133 (Value.agg #[Value.int .i64 0,Value.int .i64 0,Value.int .i64 0,Value.int .i64 0,Value.int .i64 0,Value.int .i64 0,Value.int .i64 0,Value.int .i64 0,Value.nilIface,Value.pointer none]) 10 88:=Mu (by kernel_rfl)
theorem Uk:TI Tryz.prog 135 (Value.agg #[Value.int .i64 0,Value.int .i64 0,Value.int .i64 0]) 3 24:=Mu (by kernel_rfl)
theorem zdq:TI Tryz.prog 137 (Value.agg #[Value.int .i64 0,Value.int .i64 0,Value.int .i64 0,Value.int .i64 0,Value.int .i64 0,Value.pointer none,Value.bool false]) 7 56:=Mu (by kernel_rfl)
theorem Tz:TI Tryz.prog 151 (Value.slice none 0 0) 1 24:=Mu (by kernel_rfl)
theorem YV:TI Tryz.prog 154 (Value.int .u8 0) 1 1:=Mu (by kernel_rfl)
theorem z9X:TI Tryz.prog 157 (Value.agg #[Value.pointer none,Value.slice none 0 0]) 2 32:=Mu (by kernel_rfl)
theorem z3y:TI Tryz.prog 163 (Value.map none) 1 8:=Mu (by kernel_rfl)
theorem z0p:TI Tryz.prog 165 (Value.agg #[Value.slice none 0 0,Value.map none]) 2 32:=Mu (by kernel_rfl)
theorem zcv:TI Tryz.prog 167 (Value.agg #[Value.int .i64 0,Value.slice none 0 0,Value.map none,Value.slice none 0 0,Value.map none,Value.slice none 0 0,Value.map none,Value.slice none 0 0,Value.map none,Value.int .i64 0,Value.map none]) 11 152:=Mu (by kernel_rfl)
theorem SN:TI Tryz.prog 173 (Value.agg #[Value.pointer none,Value.int .i64 0,Value.int .i64 0]) 3 24:=Mu (by kernel_rfl)
theorem z9Q:TI Tryz.prog 175 (Value.agg #[Value.pointer none,Value.int .i64 0,Value.int .i64 0,Value.slice none 0 0,Value.int .i64 0,Value.int .i64 0,Value.int .u32 0,Value.nilFunc,Value.bool false]) 9 88:=Mu (by kernel_rfl)
theorem ze7:TI Tryz.prog 179 (Value.agg #[Value.pointer none,Value.int .i64 0,Value.int .i64 0,Value.int .i64 0,Value.int .u32 0]) 5 40:=Mu (by kernel_rfl)
theorem z7F:TI Tryz.prog 187 (Value.pointer none) 1 8:=Mu (by kernel_rfl)
theorem z3z:TI Tryz.prog 189 (Value.agg #[Value.string ⟨#[]⟩,Value.bool false]) 2 24:=Mu (by kernel_rfl)
theorem zbz:TI Tryz.prog 191 (Value.agg #[Value.string ⟨#[]⟩,Value.bool false,Value.int .i64 0]) 3 32:=Mu (by kernel_rfl)
theorem z4a:TI Tryz.prog 203 (Value.pointer none) 1 8:=Mu (by kernel_rfl)
theorem RF:TI Tryz.prog 205 (Value.agg #[Value.int .i64 0,Value.int .i64 0]) 2 16:=Mu (by kernel_rfl)
theorem PC:TI Tryz.prog 210 (Value.agg #[Value.int .i64 0,Value.int .u64 0,Value.int .i64 0,Value.int .i64 0]) 4 32:=Mu (by kernel_rfl)
theorem zcd:TI Tryz.prog 223 (Value.agg #[Value.nilIface,Value.int .i64 0,Value.int .i64 0]) 3 32:=Mu (by kernel_rfl)
theorem Mr:TI Tryz.prog 232 (Value.agg #[Value.bool false,Value.bool false,Value.int .i64 0]) 3 16:=Mu (by kernel_rfl)
theorem z9F:TI Tryz.prog 237 (Value.nilFunc) 1 8:=Mu (by kernel_rfl)
theorem OE:TI Tryz.prog 239 (Value.agg #[Value.int .i64 0,Value.int .i64 0]) 2 16:=Mu (by kernel_rfl)
theorem Yl:TI Tryz.prog 240 (Value.pointer none) 1 8:=Mu (by kernel_rfl)
theorem Qr:TI Tryz.prog 245 (Value.agg #[Value.int .i64 0,Value.int .i64 0,Value.int .i64 0]) 3 24:=Mu (by kernel_rfl)
theorem N0:TI Tryz.prog 250 (Value.agg #[Value.slice none 0 0,Value.int .i64 0]) 2 32:=Mu (by kernel_rfl)
theorem zel:TI Tryz.prog 251 (Value.agg #[Value.slice none 0 0,Value.int .i64 0,Value.slice none 0 0,Value.int .i64 0,Value.slice none 0 0,Value.int .i64 0,Value.slice none 0 0,Value.int .i64 0,Value.slice none 0 0,Value.int .i64 0,Value.slice none 0 0,Value.int .i64 0,Value.slice none 0 0,Value.int .i64 0,Value.slice none 0 0,Value.int .i64 0,Value.slice none 0 0,Value.int .i64 0,Value.slice none 0 0,Value.int .i64 0,Value.slice none 0 0,Value.int .i64 0,Value.slice none 0 0,Value.int .i64 0,Value.slice none 0 0,Value.int .i64 0,Value.slice none 0 0,Value.int .i64 0,Value.slice none 0 0,Value.int .i64 0,Value.slice none 0 0,Value.int .i64 0,Value.slice none 0 0,Value.int .i64 0]) 34 544:=Mu (by kernel_rfl)
theorem z9W:TI Tryz.prog 253 (Value.agg #[Value.slice none 0 0,Value.int .i64 0,Value.slice none 0 0,Value.int .i64 0,Value.slice none 0 0,Value.int .i64 0,Value.slice none 0 0,Value.int .i64 0,Value.slice none 0 0,Value.int .i64 0,Value.slice none 0 0,Value.int .i64 0,Value.slice none 0 0,Value.int .i64 0,Value.slice none 0 0,Value.int .i64 0,Value.slice none 0 0,Value.int .i64 0,Value.slice none 0 0,Value.int .i64 0,Value.slice none 0 0,Value.int .i64 0,Value.slice none 0 0,Value.int .i64 0,Value.slice none 0 0,Value.int .i64 0,Value.slice none 0 0,Value.int .i64 0,Value.slice none 0 0,Value.int .i64 0,Value.slice none 0 0,Value.int .i64 0,Value.slice none 0 0,Value.int .i64 0,Value.int .i64 0]) 35 552:=Mu (by kernel_rfl)
theorem zc6:TI Tryz.prog 255 (Value.agg #[Value.int .i64 0,Value.int .i64 0,Value.int .i64 0,Value.int .i64 0,Value.int .i64 0,Value.slice none 0 0,Value.int .i64 0,Value.slice none 0 0,Value.int .i64 0,Value.slice none 0 0,Value.int .i64 0,Value.slice none 0 0,Value.int .i64 0,Value.slice none 0 0,Value.int .i64 0,Value.slice none 0 0,Value.int .i64 0,Value.slice none 0 0,Value.int .i64 0,Value.slice none 0 0,Value.int .i64 0,Value.slice none 0 0,Value.int .i64 0,Value.slice none 0 0,Value.int .i64 0,Value.slice none 0 0,Value.int .i64 0,Value.slice none 0 0,Value.int .i64 0,Value.slice none 0 0,Value.int .i64 0,Value.slice none 0 0,Value.int .i64 0,Value.slice none 0 0,Value.int .i64 0,Value.slice none 0 0,Value.int .i64 0,Value.slice none 0 0,Value.int .i64 0,Value.int .i64 0,Value.pointer none,Value.int .i64 0,Value.int .i64 0]) 43 616:=Mu (by kernel_rfl)
theorem zbr:TI Tryz.prog 262 (Value.agg #[Value.slice none 0 0,Value.int .i64 0]) 2 32:=Mu (by kernel_rfl)
theorem zdD:TI Tryz.prog 271 (Value.agg #[Value.int .i64 0,Value.int .u64 0,Value.int .i64 0,Value.int .i64 0,Value.nilIface]) 5 48:=Mu (by kernel_rfl)
theorem za5:TI Tryz.prog 273 (Value.pointer none) 1 8:=Mu (by kernel_rfl)
theorem zdO:TI Tryz.prog 289 (Value.agg #[Value.pointer none,Value.bool false]) 2 16:=Mu (by kernel_rfl)
theorem zbD:TI Tryz.prog 293 (Value.agg #[Value.string ⟨#[]⟩,Value.int .i64 0]) 2 24:=Mu (by kernel_rfl)
theorem z6L:TI Tryz.prog 295 (Value.slice none 0 0) 1 24:=Mu (by kernel_rfl)
theorem Nk:TI Tryz.prog 298 (Value.agg #[Value.int .u8 0,Value.int .u64 0]) 2 16:=Mu (by kernel_rfl)
theorem RR:TI Tryz.prog 300 (Value.agg #[Value.int .u8 0,Value.int .u64 0,Value.int .u64 0]) 3 24:=Mu (by kernel_rfl)
theorem Sz:TI Tryz.prog 308 (Value.agg #[Value.int .i64 0,Value.string ⟨#[]⟩]) 2 24:=Mu (by kernel_rfl)
theorem XM:TI Tryz.prog 325 (Value.agg #[Value.int .i64 0,Value.int .i64 0]) 2 16:=Mu (by kernel_rfl)
theorem P4:TI Tryz.prog 328 (Value.agg #[Value.int .u64 0,Value.int .i64 0]) 2 16:=Mu (by kernel_rfl)
theorem QN:TI Tryz.prog 329 (Value.agg #[Value.int .u64 0,Value.int .i64 0,Value.int .u64 0,Value.int .i64 0]) 4 32:=Mu (by kernel_rfl)
theorem zcD:TI Tryz.prog 336 (Value.agg #[Value.pointer none,Value.bool false]) 2 16:=Mu (by kernel_rfl)
theorem z0t:TI Tryz.prog 355 (Value.int .u64 0) 1 8:=Mu (by kernel_rfl)
theorem Zi:N3 Tryz.prog 30 1 1 1 false:=⟨_,_,_,_,_,Tryz.underlying30,rfl,rfl,z4D,Tryz.underlying27,rfl⟩
theorem Zg:N3 Tryz.prog 30 2 2 1 false:=⟨_,_,_,_,_,Tryz.underlying30,rfl,rfl,z8n,Tryz.underlying28,rfl⟩
theorem zfU:SP Tryz.prog 30 [(0,1),(1,1),(2,1),(3,1),(4,1)]:=⟨_,Tryz.underlying30,λ_=>by simp[zay.size,z4D.size,z8n.size,MO.size,Sem.run_bind,Sem.run_pure]⟩
theorem z6h:N3 Tryz.prog 48 1 1 1 false:=⟨_,_,_,_,_,Tryz.underlying48,rfl,rfl,MO,Tryz.underlying3,rfl⟩
theorem z7C:N3 Tryz.prog 48 2 2 1 false:=⟨_,_,_,_,_,Tryz.underlying48,rfl,rfl,MO,Tryz.underlying3,rfl⟩
theorem z6b:N3 Tryz.prog 48 3 3 1 false:=⟨_,_,_,_,_,Tryz.underlying48,rfl,rfl,MO,Tryz.underlying3,rfl⟩
theorem zeF:SP Tryz.prog 48 [(0,1),(1,1),(2,1),(3,1),(4,1),(5,1),(6,1)]:=⟨_,Tryz.underlying48,λ_=>by simp[MO.size,Sem.run_bind,Sem.run_pure]⟩
theorem zau:N3 Tryz.prog 59 0 0 1 false:=⟨_,_,_,_,_,Tryz.underlying59,rfl,rfl,MO,Tryz.underlying3,rfl⟩
theorem zaC:N3 Tryz.prog 59 1 1 1 false:=⟨_,_,_,_,_,Tryz.underlying59,rfl,rfl,MO,Tryz.underlying3,rfl⟩
theorem zaK:N3 Tryz.prog 59 2 2 1 false:=⟨_,_,_,_,_,Tryz.underlying59,rfl,rfl,MO,Tryz.underlying3,rfl⟩
theorem z2c:N3 Tryz.prog 65 0 0 1 false:=⟨_,_,_,_,_,Tryz.underlying65,rfl,rfl,Mc,Tryz.underlying46,rfl⟩
theorem Xg:N3 Tryz.prog 65 1 1 1 false:=⟨_,_,_,_,_,Tryz.underlying65,rfl,rfl,Mc,Tryz.underlying46,rfl⟩
theorem Vw:N3 Tryz.prog 69 0 0 1 false:=⟨_,_,_,_,_,Tryz.underlying69,rfl,rfl,MO,Tryz.underlying3,rfl⟩
theorem Vo:N3 Tryz.prog 69 1 1 1 false:=⟨_,_,_,_,_,Tryz.underlying69,rfl,rfl,MO,Tryz.underlying3,rfl⟩
theorem zfF:SP Tryz.prog 69 [(0,1),(1,1)]:=⟨_,Tryz.underlying69,λ_=>by simp[MO.size,Sem.run_bind,Sem.run_pure]⟩
theorem XC:N3 Tryz.prog 77 0 0 1 false:=⟨_,_,_,_,_,Tryz.underlying77,rfl,rfl,MO,Tryz.underlying3,rfl⟩
theorem Vj:N3 Tryz.prog 77 1 1 1 false:=⟨_,_,_,_,_,Tryz.underlying77,rfl,rfl,MO,Tryz.underlying3,rfl⟩
theorem z7c:N3 Tryz.prog 77 2 2 1 false:=⟨_,_,_,_,_,Tryz.underlying77,rfl,rfl,MO,Tryz.underlying3,rfl⟩
theorem z7J:N3 Tryz.prog 77 3 3 1 false:=⟨_,_,_,_,_,Tryz.underlying77,rfl,rfl,MO,Tryz.underlying3,rfl⟩
theorem PS:N3 Tryz.prog 77 4 4 1 false:=⟨_,_,_,_,_,Tryz.underlying77,rfl,rfl,MO,Tryz.underlying3,rfl⟩
theorem z8C:SP Tryz.prog 77 [(0,1),(1,1),(2,1),(3,1),(4,1)]:=⟨_,Tryz.underlying77,λ_=>by simp[MO.size,Sem.run_bind,Sem.run_pure]⟩
theorem Vk:N3 Tryz.prog 86 0 0 1 false:=⟨_,_,_,_,_,Tryz.underlying86,rfl,rfl,MO,Tryz.underlying3,rfl⟩
theorem XH:N3 Tryz.prog 86 1 1 1 false:=⟨_,_,_,_,_,Tryz.underlying86,rfl,rfl,RX,Tryz.underlying4,rfl⟩
theorem zfT:SP Tryz.prog 86 [(0,1),(1,1)]:=⟨_,Tryz.underlying86,λ_=>by simp[MO.size,RX.size,Sem.run_bind,Sem.run_pure]⟩
theorem Qn:N3 Tryz.prog 88 0 0 2 true:=⟨_,_,_,_,_,Tryz.underlying88,rfl,rfl,z8Y,Tryz.underlying86,rfl⟩
theorem z2d:N3 Tryz.prog 88 1 2 1 false:=⟨_,_,_,_,_,Tryz.underlying88,rfl,rfl,z8n,Tryz.underlying28,rfl⟩
theorem S1:N3 Tryz.prog 88 2 3 1 false:=⟨_,_,_,_,_,Tryz.underlying88,rfl,rfl,zbg,Tryz.underlying80,rfl⟩
theorem z7v:N3 Tryz.prog 88 3 4 1 false:=⟨_,_,_,_,_,Tryz.underlying88,rfl,rfl,RX,Tryz.underlying4,rfl⟩
theorem zeB:SP Tryz.prog 88 [(0,2),(2,1),(3,1),(4,1)]:=⟨_,Tryz.underlying88,λ_=>by simp[z8n.size,RX.size,zbg.size,z8Y.size,Sem.run_bind,Sem.run_pure]⟩
theorem SI:N3 Tryz.prog 92 0 0 1 false:=⟨_,_,_,_,_,Tryz.underlying92,rfl,rfl,zay,Tryz.underlying26,rfl⟩
theorem z6U:N3 Tryz.prog 92 1 1 1 false:=⟨_,_,_,_,_,Tryz.underlying92,rfl,rfl,zdP,Tryz.underlying55,rfl⟩
theorem z89:N3 Tryz.prog 92 2 2 1 false:=⟨_,_,_,_,_,Tryz.underlying92,rfl,rfl,zek,Tryz.underlying89,rfl⟩
theorem TZ:N3 Tryz.prog 92 3 3 1 false:=⟨_,_,_,_,_,Tryz.underlying92,rfl,rfl,ze2,Tryz.underlying90,rfl⟩
theorem Vr:N3 Tryz.prog 92 4 4 7 true:=⟨_,_,_,_,_,Tryz.underlying92,rfl,rfl,zb3,Tryz.underlying48,rfl⟩
theorem z7R:N3 Tryz.prog 92 5 11 1 false:=⟨_,_,_,_,_,Tryz.underlying92,rfl,rfl,RX,Tryz.underlying4,rfl⟩
theorem zfP:SP Tryz.prog 92 [(0,1),(1,1),(2,1),(3,1),(4,7),(11,1)]:=⟨_,Tryz.underlying92,λ_=>by simp[zay.size,RX.size,zb3.size,zdP.size,zek.size,ze2.size,Sem.run_bind,Sem.run_pure]⟩
theorem NR:N3 Tryz.prog 97 0 0 1 false:=⟨_,_,_,_,_,Tryz.underlying97,rfl,rfl,MO,Tryz.underlying3,rfl⟩
theorem O5:N3 Tryz.prog 97 1 1 1 false:=⟨_,_,_,_,_,Tryz.underlying97,rfl,rfl,MO,Tryz.underlying3,rfl⟩
theorem zeM:SP Tryz.prog 97 [(0,1),(1,1)]:=⟨_,Tryz.underlying97,λ_=>by simp[MO.size,Sem.run_bind,Sem.run_pure]⟩
theorem z9n:N3 Tryz.prog 102 0 0 1 false:=⟨_,_,_,_,_,Tryz.underlying102,rfl,rfl,z2Z,Tryz.underlying51,rfl⟩
theorem z9f:N3 Tryz.prog 102 1 1 1 false:=⟨_,_,_,_,_,Tryz.underlying102,rfl,rfl,MO,Tryz.underlying3,rfl⟩
theorem z8v:N3 Tryz.prog 102 2 2 1 false:=⟨_,_,_,_,_,Tryz.underlying102,rfl,rfl,TQ,Tryz.underlying5,rfl⟩
theorem WH:N3 Tryz.prog 104 0 0 1 false:=⟨_,_,_,_,_,Tryz.underlying104,rfl,rfl,MO,Tryz.underlying3,rfl⟩
theorem z8L:N3 Tryz.prog 104 1 1 3 true:=⟨_,_,_,_,_,Tryz.underlying104,rfl,rfl,z7l,Tryz.underlying102,rfl⟩
theorem zdw:SP Tryz.prog 104 [(0,1),(1,3)]:=⟨_,Tryz.underlying104,λ_=>by simp[z7l.size,MO.size,Sem.run_bind,Sem.run_pure]⟩
theorem Ta:N3 Tryz.prog 107 0 0 4 true:=⟨_,_,_,_,_,Tryz.underlying107,rfl,rfl,z3R,Tryz.underlying104,rfl⟩
theorem Wl:N3 Tryz.prog 107 1 4 2 true:=⟨_,_,_,_,_,Tryz.underlying107,rfl,rfl,z6I,Tryz.underlying69,rfl⟩
theorem Z5:N3 Tryz.prog 107 2 6 1 false:=⟨_,_,_,_,_,Tryz.underlying107,rfl,rfl,za6,Tryz.underlying100,rfl⟩
theorem Ud:N3 Tryz.prog 107 3 7 1 false:=⟨_,_,_,_,_,Tryz.underlying107,rfl,rfl,z3O,Tryz.underlying105,rfl⟩
theorem Z4:N3 Tryz.prog 107 4 8 1 false:=⟨_,_,_,_,_,Tryz.underlying107,rfl,rfl,RX,Tryz.underlying4,rfl⟩
theorem z41:N3 Tryz.prog 107 5 9 1 false:=⟨_,_,_,_,_,Tryz.underlying107,rfl,rfl,MO,Tryz.underlying3,rfl⟩
theorem z3t:N3 Tryz.prog 107 6 10 1 false:=⟨_,_,_,_,_,Tryz.underlying107,rfl,rfl,MO,Tryz.underlying3,rfl⟩
theorem zdH:SP Tryz.prog 107 [(0,4),(4,2),(6,1),(7,1),(8,1),(9,1),(10,1)]:=⟨_,Tryz.underlying107,λ_=>by simp[za6.size,z3R.size,z3O.size,MO.size,RX.size,z6I.size,Sem.run_bind,Sem.run_pure]⟩
theorem z3E:N3 Tryz.prog 110 0 0 1 false:=⟨_,_,_,_,_,Tryz.underlying110,rfl,rfl,MO,Tryz.underlying3,rfl⟩
theorem Rs:N3 Tryz.prog 110 1 1 1 false:=⟨_,_,_,_,_,Tryz.underlying110,rfl,rfl,zak,Tryz.underlying108,rfl⟩
theorem z9p:N3 Tryz.prog 110 3 3 1 false:=⟨_,_,_,_,_,Tryz.underlying110,rfl,rfl,RX,Tryz.underlying4,rfl⟩
theorem zbq:SP Tryz.prog 110 [(0,1),(1,1),(2,1),(3,1)]:=⟨_,Tryz.underlying110,λ_=>by simp[zak.size,MO.size,RX.size,Sem.run_bind,Sem.run_pure]⟩
theorem Qw:N3 Tryz.prog 128 0 0 1 false:=⟨_,_,_,_,_,Tryz.underlying128,rfl,rfl,MO,Tryz.underlying3,rfl⟩
theorem Zh:N3 Tryz.prog 128 1 1 1 false:=⟨_,_,_,_,_,Tryz.underlying128,rfl,rfl,MO,Tryz.underlying3,rfl⟩
theorem Us:N3 Tryz.prog 128 2 2 5 true:=⟨_,_,_,_,_,Tryz.underlying128,rfl,rfl,O3,Tryz.underlying77,rfl⟩
theorem Rp:N3 Tryz.prog 128 3 7 1 false:=⟨_,_,_,_,_,Tryz.underlying128,rfl,rfl,MO,Tryz.underlying3,rfl⟩
theorem z9w:SP Tryz.prog 128 [(0,1),(1,1),(2,5),(7,1)]:=⟨_,Tryz.underlying128,λ_=>by simp[MO.size,O3.size,Sem.run_bind,Sem.run_pure]⟩
theorem Tl:N3 Tryz.prog 133 0 0 8 true:=⟨_,_,_,_,_,Tryz.underlying133,rfl,rfl,Qh,Tryz.underlying128,rfl⟩
theorem z8g:N3 Tryz.prog 133 1 8 1 false:=⟨_,_,_,_,_,Tryz.underlying133,rfl,rfl,YN,Tryz.underlying130,rfl⟩
theorem z3M:N3 Tryz.prog 133 2 9 1 false:=⟨_,_,_,_,_,Tryz.underlying133,rfl,rfl,zad,Tryz.underlying131,rfl⟩
theorem zeu:SP Tryz.prog 133 [(0,8),(8,1),(9,1)]:=⟨_,Tryz.underlying133,λ_=>by simp[Qh.size,YN.size,zad.size,Sem.run_bind,Sem.run_pure]⟩
theorem Ur:N3 Tryz.prog 135 0 0 1 false:=⟨_,_,_,_,_,Tryz.underlying135,rfl,rfl,MO,Tryz.underlying3,rfl⟩
theorem Qd:N3 Tryz.prog 135 1 1 1 false:=⟨_,_,_,_,_,Tryz.underlying135,rfl,rfl,MO,Tryz.underlying3,rfl⟩
theorem Sb:N3 Tryz.prog 135 2 2 1 false:=⟨_,_,_,_,_,Tryz.underlying135,rfl,rfl,MO,Tryz.underlying3,rfl⟩
theorem zbM:SP Tryz.prog 135 [(0,1),(1,1),(2,1)]:=⟨_,Tryz.underlying135,λ_=>by simp[MO.size,Sem.run_bind,Sem.run_pure]⟩
theorem NA:N3 Tryz.prog 137 0 0 3 true:=⟨_,_,_,_,_,Tryz.underlying137,rfl,rfl,Uk,Tryz.underlying135,rfl⟩
theorem UY:N3 Tryz.prog 137 1 3 2 true:=⟨_,_,_,_,_,Tryz.underlying137,rfl,rfl,Ox,Tryz.underlying97,rfl⟩
theorem S4:N3 Tryz.prog 137 2 5 1 false:=⟨_,_,_,_,_,Tryz.underlying137,rfl,rfl,z4D,Tryz.underlying27,rfl⟩
theorem z3p:N3 Tryz.prog 137 3 6 1 false:=⟨_,_,_,_,_,Tryz.underlying137,rfl,rfl,RX,Tryz.underlying4,rfl⟩
theorem zdJ:SP Tryz.prog 137 [(0,3),(3,2),(5,1),(6,1)]:=⟨_,Tryz.underlying137,λ_=>by simp[Uk.size,z4D.size,RX.size,Ox.size,Sem.run_bind,Sem.run_pure]⟩
theorem Wu:N3 Tryz.prog 157 1 1 1 false:=⟨_,_,_,_,_,Tryz.underlying157,rfl,rfl,Tz,Tryz.underlying151,rfl⟩
theorem MQ:N3 Tryz.prog 165 0 0 1 false:=⟨_,_,_,_,_,Tryz.underlying165,rfl,rfl,z2Z,Tryz.underlying51,rfl⟩
theorem Ue:N3 Tryz.prog 165 1 1 1 false:=⟨_,_,_,_,_,Tryz.underlying165,rfl,rfl,z3y,Tryz.underlying163,rfl⟩
theorem OO:N3 Tryz.prog 167 0 0 1 false:=⟨_,_,_,_,_,Tryz.underlying167,rfl,rfl,MO,Tryz.underlying3,rfl⟩
theorem N8:N3 Tryz.prog 167 1 1 2 true:=⟨_,_,_,_,_,Tryz.underlying167,rfl,rfl,z0p,Tryz.underlying165,rfl⟩
theorem NM:N3 Tryz.prog 167 2 3 2 true:=⟨_,_,_,_,_,Tryz.underlying167,rfl,rfl,z0p,Tryz.underlying165,rfl⟩
theorem Nl:N3 Tryz.prog 167 3 5 2 true:=⟨_,_,_,_,_,Tryz.underlying167,rfl,rfl,z0p,Tryz.underlying165,rfl⟩
theorem NH:N3 Tryz.prog 167 4 7 2 true:=⟨_,_,_,_,_,Tryz.underlying167,rfl,rfl,z0p,Tryz.underlying165,rfl⟩
theorem NG:N3 Tryz.prog 167 5 9 1 false:=⟨_,_,_,_,_,Tryz.underlying167,rfl,rfl,MO,Tryz.underlying3,rfl⟩
theorem Wk:N3 Tryz.prog 167 6 10 1 false:=⟨_,_,_,_,_,Tryz.underlying167,rfl,rfl,z3y,Tryz.underlying163,rfl⟩
theorem zei:SP Tryz.prog 167 [(0,1),(1,2),(3,2),(5,2),(7,2),(9,1),(10,1)]:=⟨_,Tryz.underlying167,λ_=>by simp[z3y.size,z0p.size,MO.size,Sem.run_bind,Sem.run_pure]⟩
theorem Ri:N3 Tryz.prog 173 0 0 1 false:=⟨_,_,_,_,_,Tryz.underlying173,rfl,rfl,z4D,Tryz.underlying27,rfl⟩
theorem Qv:N3 Tryz.prog 173 1 1 2 true:=⟨_,_,_,_,_,Tryz.underlying173,rfl,rfl,Ox,Tryz.underlying97,rfl⟩
theorem za7:SP Tryz.prog 173 [(0,1),(1,2)]:=⟨_,Tryz.underlying173,λ_=>by simp[z4D.size,Ox.size,Sem.run_bind,Sem.run_pure]⟩
theorem T9:N3 Tryz.prog 175 0 0 3 true:=⟨_,_,_,_,_,Tryz.underlying175,rfl,rfl,SN,Tryz.underlying173,rfl⟩
theorem Pa:N3 Tryz.prog 175 1 3 1 false:=⟨_,_,_,_,_,Tryz.underlying175,rfl,rfl,Tz,Tryz.underlying151,rfl⟩
theorem Uj:N3 Tryz.prog 175 2 4 1 false:=⟨_,_,_,_,_,Tryz.underlying175,rfl,rfl,MO,Tryz.underlying3,rfl⟩
theorem WJ:N3 Tryz.prog 175 3 5 1 false:=⟨_,_,_,_,_,Tryz.underlying175,rfl,rfl,MO,Tryz.underlying3,rfl⟩
theorem Zs:N3 Tryz.prog 175 4 6 1 false:=⟨_,_,_,_,_,Tryz.underlying175,rfl,rfl,Mc,Tryz.underlying46,rfl⟩
theorem WE:N3 Tryz.prog 175 5 7 1 false:=⟨_,_,_,_,_,Tryz.underlying175,rfl,rfl,zaH,Tryz.underlying62,rfl⟩
theorem Ul:N3 Tryz.prog 175 6 8 1 false:=⟨_,_,_,_,_,Tryz.underlying175,rfl,rfl,RX,Tryz.underlying4,rfl⟩
theorem zah:SP Tryz.prog 175 [(0,3),(3,1),(4,1),(5,1),(6,1),(7,1),(8,1)]:=⟨_,Tryz.underlying175,λ_=>by simp[Tz.size,SN.size,MO.size,RX.size,Mc.size,zaH.size,Sem.run_bind,Sem.run_pure]⟩
theorem UB:N3 Tryz.prog 179 0 0 3 true:=⟨_,_,_,_,_,Tryz.underlying179,rfl,rfl,SN,Tryz.underlying173,rfl⟩
theorem WD:N3 Tryz.prog 179 1 3 1 false:=⟨_,_,_,_,_,Tryz.underlying179,rfl,rfl,MO,Tryz.underlying3,rfl⟩
theorem z8T:N3 Tryz.prog 179 2 4 1 false:=⟨_,_,_,_,_,Tryz.underlying179,rfl,rfl,Mc,Tryz.underlying46,rfl⟩
theorem zd7:SP Tryz.prog 179 [(0,3),(3,1),(4,1)]:=⟨_,Tryz.underlying179,λ_=>by simp[SN.size,MO.size,Mc.size,Sem.run_bind,Sem.run_pure]⟩
theorem Zy:N3 Tryz.prog 189 0 0 1 false:=⟨_,_,_,_,_,Tryz.underlying189,rfl,rfl,YZ,Tryz.underlying9,rfl⟩
theorem Z9:N3 Tryz.prog 189 1 1 1 false:=⟨_,_,_,_,_,Tryz.underlying189,rfl,rfl,RX,Tryz.underlying4,rfl⟩
theorem zcZ:SP Tryz.prog 189 [(0,1),(1,1)]:=⟨_,Tryz.underlying189,λ_=>by simp[RX.size,YZ.size,Sem.run_bind,Sem.run_pure]⟩
theorem S6:N3 Tryz.prog 191 0 0 2 true:=⟨_,_,_,_,_,Tryz.underlying191,rfl,rfl,z3z,Tryz.underlying189,rfl⟩
theorem z8S:N3 Tryz.prog 191 1 2 1 false:=⟨_,_,_,_,_,Tryz.underlying191,rfl,rfl,MO,Tryz.underlying3,rfl⟩
theorem zcn:SP Tryz.prog 191 [(0,2),(2,1)]:=⟨_,Tryz.underlying191,λ_=>by simp[z3z.size,MO.size,Sem.run_bind,Sem.run_pure]⟩
theorem z8o:N3 Tryz.prog 205 0 0 1 false:=⟨_,_,_,_,_,Tryz.underlying205,rfl,rfl,MO,Tryz.underlying3,rfl⟩
theorem z8q:N3 Tryz.prog 205 1 1 1 false:=⟨_,_,_,_,_,Tryz.underlying205,rfl,rfl,MO,Tryz.underlying3,rfl⟩
theorem We:SP Tryz.prog 205 [(0,1),(1,1)]:=⟨_,Tryz.underlying205,λ_=>by simp[MO.size,Sem.run_bind,Sem.run_pure]⟩
theorem Uc:N3 Tryz.prog 210 0 0 1 false:=⟨_,_,_,_,_,Tryz.underlying210,rfl,rfl,MO,Tryz.underlying3,rfl⟩
theorem z8h:N3 Tryz.prog 210 1 1 1 false:=⟨_,_,_,_,_,Tryz.underlying210,rfl,rfl,Rg,Tryz.underlying41,rfl⟩
theorem PF:N3 Tryz.prog 210 2 2 1 false:=⟨_,_,_,_,_,Tryz.underlying210,rfl,rfl,MO,Tryz.underlying3,rfl⟩
theorem UA:N3 Tryz.prog 210 3 3 1 false:=⟨_,_,_,_,_,Tryz.underlying210,rfl,rfl,MO,Tryz.underlying3,rfl⟩
theorem zbB:SP Tryz.prog 210 [(0,1),(1,1),(2,1),(3,1)]:=⟨_,Tryz.underlying210,λ_=>by simp[MO.size,Rg.size,Sem.run_bind,Sem.run_pure]⟩
theorem z8Q:N3 Tryz.prog 223 0 0 1 false:=⟨_,_,_,_,_,Tryz.underlying223,rfl,rfl,YN,Tryz.underlying130,rfl⟩
theorem z8B:N3 Tryz.prog 223 1 1 1 false:=⟨_,_,_,_,_,Tryz.underlying223,rfl,rfl,MO,Tryz.underlying3,rfl⟩
theorem Zz:N3 Tryz.prog 223 2 2 1 false:=⟨_,_,_,_,_,Tryz.underlying223,rfl,rfl,MO,Tryz.underlying3,rfl⟩
theorem ze8:SP Tryz.prog 223 [(0,1),(1,1),(2,1)]:=⟨_,Tryz.underlying223,λ_=>by simp[YN.size,MO.size,Sem.run_bind,Sem.run_pure]⟩
theorem z8I:N3 Tryz.prog 232 0 0 1 false:=⟨_,_,_,_,_,Tryz.underlying232,rfl,rfl,RX,Tryz.underlying4,rfl⟩
theorem z8O:N3 Tryz.prog 232 1 1 1 false:=⟨_,_,_,_,_,Tryz.underlying232,rfl,rfl,RX,Tryz.underlying4,rfl⟩
theorem ZC:N3 Tryz.prog 232 2 2 1 false:=⟨_,_,_,_,_,Tryz.underlying232,rfl,rfl,MO,Tryz.underlying3,rfl⟩
theorem Sg:SP Tryz.prog 232 [(0,1),(1,1),(2,1)]:=⟨_,Tryz.underlying232,λ_=>by simp[MO.size,RX.size,Sem.run_bind,Sem.run_pure]⟩
theorem PE:N3 Tryz.prog 239 0 0 1 false:=⟨_,_,_,_,_,Tryz.underlying239,rfl,rfl,MO,Tryz.underlying3,rfl⟩
theorem OT:N3 Tryz.prog 239 1 1 1 false:=⟨_,_,_,_,_,Tryz.underlying239,rfl,rfl,MO,Tryz.underlying3,rfl⟩
theorem z7u:SP Tryz.prog 239 [(0,1),(1,1)]:=⟨_,Tryz.underlying239,λ_=>by simp[MO.size,Sem.run_bind,Sem.run_pure]⟩
theorem PJ:N3 Tryz.prog 245 0 0 1 false:=⟨_,_,_,_,_,Tryz.underlying245,rfl,rfl,MO,Tryz.underlying3,rfl⟩
theorem Qx:N3 Tryz.prog 245 1 1 1 false:=⟨_,_,_,_,_,Tryz.underlying245,rfl,rfl,MO,Tryz.underlying3,rfl⟩
theorem Ww:N3 Tryz.prog 245 2 2 1 false:=⟨_,_,_,_,_,Tryz.underlying245,rfl,rfl,MO,Tryz.underlying3,rfl⟩
theorem zdC:SP Tryz.prog 245 [(0,1),(1,1),(2,1)]:=⟨_,Tryz.underlying245,λ_=>by simp[MO.size,Sem.run_bind,Sem.run_pure]⟩
theorem OP:N3 Tryz.prog 250 0 0 1 false:=⟨_,_,_,_,_,Tryz.underlying250,rfl,rfl,Qz,Tryz.underlying45,rfl⟩
theorem Zt:N3 Tryz.prog 250 1 1 1 false:=⟨_,_,_,_,_,Tryz.underlying250,rfl,rfl,MO,Tryz.underlying3,rfl⟩
theorem za4:SP Tryz.prog 250 [(0,1),(1,1)]:=⟨_,Tryz.underlying250,λ_=>by simp[MO.size,Qz.size,Sem.run_bind,Sem.run_pure]⟩
theorem z3l:N3 Tryz.prog 253 0 0 34 true:=⟨_,_,_,_,_,Tryz.underlying253,rfl,rfl,zel,Tryz.underlying251,rfl⟩
theorem Rr:N3 Tryz.prog 253 1 34 1 false:=⟨_,_,_,_,_,Tryz.underlying253,rfl,rfl,MO,Tryz.underlying3,rfl⟩
theorem Tb:N3 Tryz.prog 255 0 0 5 true:=⟨_,_,_,_,_,Tryz.underlying255,rfl,rfl,O3,Tryz.underlying77,rfl⟩
theorem UR:N3 Tryz.prog 255 1 5 35 true:=⟨_,_,_,_,_,Tryz.underlying255,rfl,rfl,z9W,Tryz.underlying253,rfl⟩
theorem Zv:N3 Tryz.prog 255 2 40 1 false:=⟨_,_,_,_,_,Tryz.underlying255,rfl,rfl,z4a,Tryz.underlying203,rfl⟩
theorem Zx:N3 Tryz.prog 255 3 41 1 false:=⟨_,_,_,_,_,Tryz.underlying255,rfl,rfl,MO,Tryz.underlying3,rfl⟩
theorem z94:N3 Tryz.prog 255 4 42 1 false:=⟨_,_,_,_,_,Tryz.underlying255,rfl,rfl,MO,Tryz.underlying3,rfl⟩
theorem zbV:SP Tryz.prog 255 [(0,5),(5,35),(40,1),(41,1),(42,1)]:=⟨_,Tryz.underlying255,λ_=>by simp[z4a.size,z9W.size,MO.size,O3.size,Sem.run_bind,Sem.run_pure]⟩
theorem Ug:N3 Tryz.prog 262 0 0 1 false:=⟨_,_,_,_,_,Tryz.underlying262,rfl,rfl,Tz,Tryz.underlying151,rfl⟩
theorem T5:N3 Tryz.prog 262 1 1 1 false:=⟨_,_,_,_,_,Tryz.underlying262,rfl,rfl,MO,Tryz.underlying3,rfl⟩
theorem zdN:SP Tryz.prog 262 [(0,1),(1,1)]:=⟨_,Tryz.underlying262,λ_=>by simp[Tz.size,MO.size,Sem.run_bind,Sem.run_pure]⟩
theorem ON:N3 Tryz.prog 271 0 0 4 true:=⟨_,_,_,_,_,Tryz.underlying271,rfl,rfl,PC,Tryz.underlying210,rfl⟩
theorem ZF:N3 Tryz.prog 271 1 4 1 false:=⟨_,_,_,_,_,Tryz.underlying271,rfl,rfl,YN,Tryz.underlying130,rfl⟩
theorem zcj:SP Tryz.prog 271 [(0,4),(4,1)]:=⟨_,Tryz.underlying271,λ_=>by simp[YN.size,PC.size,Sem.run_bind,Sem.run_pure]⟩
theorem z8J:N3 Tryz.prog 289 0 0 1 false:=⟨_,_,_,_,_,Tryz.underlying289,rfl,rfl,Yl,Tryz.underlying240,rfl⟩
theorem Qa:N3 Tryz.prog 289 1 1 1 false:=⟨_,_,_,_,_,Tryz.underlying289,rfl,rfl,RX,Tryz.underlying4,rfl⟩
theorem zbZ:SP Tryz.prog 289 [(0,1),(1,1)]:=⟨_,Tryz.underlying289,λ_=>by simp[Yl.size,RX.size,Sem.run_bind,Sem.run_pure]⟩
theorem ZK:N3 Tryz.prog 293 0 0 1 false:=⟨_,_,_,_,_,Tryz.underlying293,rfl,rfl,YZ,Tryz.underlying9,rfl⟩
theorem Rt:N3 Tryz.prog 293 1 1 1 false:=⟨_,_,_,_,_,Tryz.underlying293,rfl,rfl,MO,Tryz.underlying3,rfl⟩
theorem zc7:SP Tryz.prog 293 [(0,1),(1,1)]:=⟨_,Tryz.underlying293,λ_=>by simp[MO.size,YZ.size,Sem.run_bind,Sem.run_pure]⟩
theorem OA:N3 Tryz.prog 298 0 0 1 false:=⟨_,_,_,_,_,Tryz.underlying298,rfl,rfl,TQ,Tryz.underlying5,rfl⟩
theorem SZ:N3 Tryz.prog 298 1 1 1 false:=⟨_,_,_,_,_,Tryz.underlying298,rfl,rfl,Rg,Tryz.underlying41,rfl⟩
theorem za8:SP Tryz.prog 298 [(0,1),(1,1)]:=⟨_,Tryz.underlying298,λ_=>by simp[Rg.size,TQ.size,Sem.run_bind,Sem.run_pure]⟩
theorem z3o:N3 Tryz.prog 300 0 0 2 true:=⟨_,_,_,_,_,Tryz.underlying300,rfl,rfl,Nk,Tryz.underlying298,rfl⟩
theorem z3S:N3 Tryz.prog 300 1 2 1 false:=⟨_,_,_,_,_,Tryz.underlying300,rfl,rfl,Rg,Tryz.underlying41,rfl⟩
theorem zaf:SP Tryz.prog 300 [(0,2),(2,1)]:=⟨_,Tryz.underlying300,λ_=>by simp[Nk.size,Rg.size,Sem.run_bind,Sem.run_pure]⟩
theorem WI:N3 Tryz.prog 308 0 0 1 false:=⟨_,_,_,_,_,Tryz.underlying308,rfl,rfl,MO,Tryz.underlying3,rfl⟩
theorem Ze:N3 Tryz.prog 308 1 1 1 false:=⟨_,_,_,_,_,Tryz.underlying308,rfl,rfl,YZ,Tryz.underlying9,rfl⟩
theorem zc2:SP Tryz.prog 308 [(0,1),(1,1)]:=⟨_,Tryz.underlying308,λ_=>by simp[MO.size,YZ.size,Sem.run_bind,Sem.run_pure]⟩
theorem ZD:N3 Tryz.prog 325 0 0 1 false:=⟨_,_,_,_,_,Tryz.underlying325,rfl,rfl,MO,Tryz.underlying3,rfl⟩
theorem z4h:N3 Tryz.prog 325 1 1 1 false:=⟨_,_,_,_,_,Tryz.underlying325,rfl,rfl,MO,Tryz.underlying3,rfl⟩
theorem zet:SP Tryz.prog 325 [(0,1),(1,1)]:=⟨_,Tryz.underlying325,λ_=>by simp[MO.size,Sem.run_bind,Sem.run_pure]⟩
theorem z3N:N3 Tryz.prog 328 0 0 1 false:=⟨_,_,_,_,_,Tryz.underlying328,rfl,rfl,Rg,Tryz.underlying41,rfl⟩
theorem Wm:N3 Tryz.prog 328 1 1 1 false:=⟨_,_,_,_,_,Tryz.underlying328,rfl,rfl,MO,Tryz.underlying3,rfl⟩
theorem z6o:SP Tryz.prog 328 [(0,1),(1,1)]:=⟨_,Tryz.underlying328,λ_=>by simp[MO.size,Rg.size,Sem.run_bind,Sem.run_pure]⟩
theorem z8U:N3 Tryz.prog 336 0 0 1 false:=⟨_,_,_,_,_,Tryz.underlying336,rfl,rfl,Yl,Tryz.underlying240,rfl⟩
theorem Ws:N3 Tryz.prog 336 1 1 1 false:=⟨_,_,_,_,_,Tryz.underlying336,rfl,rfl,RX,Tryz.underlying4,rfl⟩
theorem zd0:SP Tryz.prog 336 [(0,1),(1,1)]:=⟨_,Tryz.underlying336,λ_=>by simp[Yl.size,RX.size,Sem.run_bind,Sem.run_pure]⟩
theorem cf6:CF Tryz.prog 6:=⟨_,Tryz.func6,by kernel_rfl,rfl⟩
theorem cf7:CF Tryz.prog 7:=⟨_,Tryz.func7,by kernel_rfl,rfl⟩
theorem cf8:CF Tryz.prog 8:=⟨_,Tryz.func8,by kernel_rfl,rfl⟩
theorem cf9:CF Tryz.prog 9:=⟨_,Tryz.func9,by kernel_rfl,rfl⟩
theorem z8k:CF Tryz.prog 10:=⟨_,Tryz.func10,by kernel_rfl,rfl⟩
theorem z7Q:CF Tryz.prog 11:=⟨_,Tryz.func11,by kernel_rfl,rfl⟩
theorem zaz:CF Tryz.prog 12:=⟨_,Tryz.func12,by kernel_rfl,rfl⟩
theorem zcC:CF Tryz.prog 15:=⟨_,Tryz.func15,by kernel_rfl,rfl⟩
theorem zf7:CF Tryz.prog 16:=⟨_,Tryz.func16,by kernel_rfl,rfl⟩
theorem zfp:CF Tryz.prog 18:=⟨_,Tryz.func18,by kernel_rfl,rfl⟩
theorem zfJ:CF Tryz.prog 19:=⟨_,Tryz.func19,by kernel_rfl,rfl⟩
theorem zfv:CF Tryz.prog 20:=⟨_,Tryz.func20,by kernel_rfl,rfl⟩
theorem zfo:CF Tryz.prog 21:=⟨_,Tryz.func21,by kernel_rfl,rfl⟩
theorem zfM:CF Tryz.prog 22:=⟨_,Tryz.func22,by kernel_rfl,rfl⟩
theorem zft:CF Tryz.prog 23:=⟨_,Tryz.func23,by kernel_rfl,rfl⟩
theorem zbR:CF Tryz.prog 24:=⟨_,Tryz.func24,by kernel_rfl,rfl⟩
theorem zcL:CF Tryz.prog 25:=⟨_,Tryz.func25,by kernel_rfl,rfl⟩
theorem zfr:CF Tryz.prog 26:=⟨_,Tryz.func26,by kernel_rfl,rfl⟩
theorem z8X:CF Tryz.prog 27:=⟨_,Tryz.func27,by kernel_rfl,rfl⟩
theorem zeN:CF Tryz.prog 28:=⟨_,Tryz.func28,by kernel_rfl,rfl⟩
theorem zdj:CF Tryz.prog 29:=⟨_,Tryz.func29,by kernel_rfl,rfl⟩
theorem zbC:CF Tryz.prog 30:=⟨_,Tryz.func30,by kernel_rfl,rfl⟩
theorem zg1:CF Tryz.prog 31:=⟨_,Tryz.func31,by kernel_rfl,rfl⟩
theorem z9j:CF Tryz.prog 32:=⟨_,Tryz.func32,by kernel_rfl,rfl⟩
theorem zeK:CF Tryz.prog 33:=⟨_,Tryz.func33,by kernel_rfl,rfl⟩
theorem zaV:CF Tryz.prog 34:=⟨_,Tryz.func34,by kernel_rfl,rfl⟩
theorem zd1:CF Tryz.prog 35:=⟨_,Tryz.func35,by kernel_rfl,rfl⟩
theorem zf2:CF Tryz.prog 36:=⟨_,Tryz.func36,by kernel_rfl,rfl⟩
theorem zeW:CF Tryz.prog 37:=⟨_,Tryz.func37,by kernel_rfl,rfl⟩
theorem zeT:CF Tryz.prog 38:=⟨_,Tryz.func38,by kernel_rfl,rfl⟩
theorem zfz:CF Tryz.prog 39:=⟨_,Tryz.func39,by kernel_rfl,rfl⟩
theorem zfq:CF Tryz.prog 40:=⟨_,Tryz.func40,by kernel_rfl,rfl⟩
theorem zeR:CF Tryz.prog 41:=⟨_,Tryz.func41,by kernel_rfl,rfl⟩
theorem zeP:CF Tryz.prog 42:=⟨_,Tryz.func42,by kernel_rfl,rfl⟩
theorem zfI:CF Tryz.prog 43:=⟨_,Tryz.func43,by kernel_rfl,rfl⟩
theorem z0m:CF Tryz.prog 44:=⟨_,Tryz.func44,by kernel_rfl,rfl⟩
theorem zcH:CF Tryz.prog 45:=⟨_,Tryz.func45,by kernel_rfl,rfl⟩
theorem zfB:CF Tryz.prog 46:=⟨_,Tryz.func46,by kernel_rfl,rfl⟩
theorem zeO:CF Tryz.prog 47:=⟨_,Tryz.func47,by kernel_rfl,rfl⟩
theorem zfA:CF Tryz.prog 48:=⟨_,Tryz.func48,by kernel_rfl,rfl⟩
theorem zfx:CF Tryz.prog 49:=⟨_,Tryz.func49,by kernel_rfl,rfl⟩
theorem zf0:CF Tryz.prog 50:=⟨_,Tryz.func50,by kernel_rfl,rfl⟩
theorem zd5:CF Tryz.prog 51:=⟨_,Tryz.func51,by kernel_rfl,rfl⟩
theorem zf1:CF Tryz.prog 52:=⟨_,Tryz.func52,by kernel_rfl,rfl⟩
theorem z5y:CF Tryz.prog 53:=⟨_,Tryz.func53,by kernel_rfl,rfl⟩
theorem zey:CF Tryz.prog 54:=⟨_,Tryz.func54,by kernel_rfl,rfl⟩
theorem zaL:CF Tryz.prog 55:=⟨_,Tryz.func55,by kernel_rfl,rfl⟩
theorem zaM:CF Tryz.prog 56:=⟨_,Tryz.func56,by kernel_rfl,rfl⟩
theorem zdV:CF Tryz.prog 57:=⟨_,Tryz.func57,by kernel_rfl,rfl⟩
theorem zfS:CF Tryz.prog 58:=⟨_,Tryz.func58,by kernel_rfl,rfl⟩
theorem zcJ:CF Tryz.prog 59:=⟨_,Tryz.func59,by kernel_rfl,rfl⟩
theorem z6r:CF Tryz.prog 60:=⟨_,Tryz.func60,by kernel_rfl,rfl⟩
theorem zb4:CF Tryz.prog 61:=⟨_,Tryz.func61,by kernel_rfl,rfl⟩
theorem zfh:CF Tryz.prog 62:=⟨_,Tryz.func62,by kernel_rfl,rfl⟩
theorem zdI:CF Tryz.prog 63:=⟨_,Tryz.func63,by kernel_rfl,rfl⟩
theorem zdu:CF Tryz.prog 64:=⟨_,Tryz.func64,by kernel_rfl,rfl⟩
theorem zda:CF Tryz.prog 65:=⟨_,Tryz.func65,by kernel_rfl,rfl⟩
theorem zfO:CF Tryz.prog 66:=⟨_,Tryz.func66,by kernel_rfl,rfl⟩
theorem zfG:CF Tryz.prog 67:=⟨_,Tryz.func67,by kernel_rfl,rfl⟩
theorem zeC:CF Tryz.prog 68:=⟨_,Tryz.func68,by kernel_rfl,rfl⟩
theorem zfV:CF Tryz.prog 69:=⟨_,Tryz.func69,by kernel_rfl,rfl⟩
theorem zeL:CF Tryz.prog 70:=⟨_,Tryz.func70,by kernel_rfl,rfl⟩
theorem zb2:CF Tryz.prog 71:=⟨_,Tryz.func71,by kernel_rfl,rfl⟩
theorem zfb:CF Tryz.prog 72:=⟨_,Tryz.func72,by kernel_rfl,rfl⟩
theorem zcN:CF Tryz.prog 73:=⟨_,Tryz.func73,by kernel_rfl,rfl⟩
theorem zej:CF Tryz.prog 74:=⟨_,Tryz.func74,by kernel_rfl,rfl⟩
theorem zbc:CF Tryz.prog 75:=⟨_,Tryz.func75,by kernel_rfl,rfl⟩
theorem ze9:CF Tryz.prog 76:=⟨_,Tryz.func76,by kernel_rfl,rfl⟩
theorem zeE:CF Tryz.prog 77:=⟨_,Tryz.func77,by kernel_rfl,rfl⟩
theorem zdk:CF Tryz.prog 78:=⟨_,Tryz.func78,by kernel_rfl,rfl⟩
theorem zbT:CF Tryz.prog 79:=⟨_,Tryz.func79,by kernel_rfl,rfl⟩
theorem zcW:CF Tryz.prog 80:=⟨_,Tryz.func80,by kernel_rfl,rfl⟩
theorem zen:CF Tryz.prog 81:=⟨_,Tryz.func81,by kernel_rfl,rfl⟩
theorem zg4:CF Tryz.prog 82:=⟨_,Tryz.func82,by kernel_rfl,rfl⟩
theorem zeG:CF Tryz.prog 83:=⟨_,Tryz.func83,by kernel_rfl,rfl⟩
theorem zf3:CF Tryz.prog 84:=⟨_,Tryz.func84,by kernel_rfl,rfl⟩
theorem zdQ:CF Tryz.prog 89:=⟨_,Tryz.func89,by kernel_rfl,rfl⟩
theorem ze4:CF Tryz.prog 90:=⟨_,Tryz.func90,by kernel_rfl,rfl⟩
theorem zf5:CF Tryz.prog 91:=⟨_,Tryz.func91,by kernel_rfl,rfl⟩
theorem zeU:CF Tryz.prog 92:=⟨_,Tryz.func92,by kernel_rfl,rfl⟩
theorem zfL:CF Tryz.prog 93:=⟨_,Tryz.func93,by kernel_rfl,rfl⟩
theorem zfH:CF Tryz.prog 94:=⟨_,Tryz.func94,by kernel_rfl,rfl⟩
theorem zeX:CF Tryz.prog 95:=⟨_,Tryz.func95,by kernel_rfl,rfl⟩
theorem zeJ:CF Tryz.prog 96:=⟨_,Tryz.func96,by kernel_rfl,rfl⟩
theorem zfu:CF Tryz.prog 97:=⟨_,Tryz.func97,by kernel_rfl,rfl⟩
theorem zfQ:CF Tryz.prog 98:=⟨_,Tryz.func98,by kernel_rfl,rfl⟩
theorem zfy:CF Tryz.prog 99:=⟨_,Tryz.func99,by kernel_rfl,rfl⟩
theorem zbG:CF Tryz.prog 100:=⟨_,Tryz.func100,by kernel_rfl,rfl⟩
theorem z73:CF Tryz.prog 101:=⟨_,Tryz.func101,by kernel_rfl,rfl⟩
theorem WV:CF Tryz.prog 102:=⟨_,Tryz.func102,by kernel_rfl,rfl⟩
theorem SE:CF Tryz.prog 103:=⟨_,Tryz.func103,by kernel_rfl,rfl⟩
theorem z42:CF Tryz.prog 104:=⟨_,Tryz.func104,by kernel_rfl,rfl⟩
theorem zdZ:CF Tryz.prog 105:=⟨_,Tryz.func105,by kernel_rfl,rfl⟩
theorem z6e:CF Tryz.prog 106:=⟨_,Tryz.func106,by kernel_rfl,rfl⟩
theorem Yz:CF Tryz.prog 107:=⟨_,Tryz.func107,by kernel_rfl,rfl⟩
theorem za1:CF Tryz.prog 108:=⟨_,Tryz.func108,by kernel_rfl,rfl⟩
theorem z9s:CF Tryz.prog 109:=⟨_,Tryz.func109,by kernel_rfl,rfl⟩
theorem z0R:CF Tryz.prog 110:=⟨_,Tryz.func110,by kernel_rfl,rfl⟩
theorem zew:CF Tryz.prog 111:=⟨_,Tryz.func111,by kernel_rfl,rfl⟩
theorem zdA:CF Tryz.prog 112:=⟨_,Tryz.func112,by kernel_rfl,rfl⟩
theorem zbt:CF Tryz.prog 113:=⟨_,Tryz.func113,by kernel_rfl,rfl⟩
theorem zbA:CF Tryz.prog 114:=⟨_,Tryz.func114,by kernel_rfl,rfl⟩
theorem zbH:CF Tryz.prog 115:=⟨_,Tryz.func115,by kernel_rfl,rfl⟩
theorem ze1:CF Tryz.prog 116:=⟨_,Tryz.func116,by kernel_rfl,rfl⟩
theorem zep:CF Tryz.prog 117:=⟨_,Tryz.func117,by kernel_rfl,rfl⟩
theorem zd2:CF Tryz.prog 118:=⟨_,Tryz.func118,by kernel_rfl,rfl⟩
theorem zc9:CF Tryz.prog 121:=⟨_,Tryz.func121,by kernel_rfl,rfl⟩
theorem zdG:CF Tryz.prog 123:=⟨_,Tryz.func123,by kernel_rfl,rfl⟩
theorem zcx:CF Tryz.prog 125:=⟨_,Tryz.func125,by kernel_rfl,rfl⟩
theorem zcM:CF Tryz.prog 126:=⟨_,Tryz.func126,by kernel_rfl,rfl⟩
theorem zbm:CF Tryz.prog 127:=⟨_,Tryz.func127,by kernel_rfl,rfl⟩
theorem zbP:CF Tryz.prog 128:=⟨_,Tryz.func128,by kernel_rfl,rfl⟩
theorem z9V:CF Tryz.prog 129:=⟨_,Tryz.func129,by kernel_rfl,rfl⟩
theorem zdl:CF Tryz.prog 130:=⟨_,Tryz.func130,by kernel_rfl,rfl⟩
theorem zcq:CF Tryz.prog 131:=⟨_,Tryz.func131,by kernel_rfl,rfl⟩
theorem Xk:CF Tryz.prog 132:=⟨_,Tryz.func132,by kernel_rfl,rfl⟩
theorem Uy:CF Tryz.prog 133:=⟨_,Tryz.func133,by kernel_rfl,rfl⟩
theorem z9P:CF Tryz.prog 135:=⟨_,Tryz.func135,by kernel_rfl,rfl⟩
theorem z1g:CF Tryz.prog 136:=⟨_,Tryz.func136,by kernel_rfl,rfl⟩
theorem zbx:CF Tryz.prog 137:=⟨_,Tryz.func137,by kernel_rfl,rfl⟩
theorem z3x:CF Tryz.prog 138:=⟨_,Tryz.func138,by kernel_rfl,rfl⟩
theorem zaj:CF Tryz.prog 139:=⟨_,Tryz.func139,by kernel_rfl,rfl⟩
theorem zcc:CF Tryz.prog 140:=⟨_,Tryz.func140,by kernel_rfl,rfl⟩
theorem zcF:CF Tryz.prog 141:=⟨_,Tryz.func141,by kernel_rfl,rfl⟩
theorem zdp:CF Tryz.prog 142:=⟨_,Tryz.func142,by kernel_rfl,rfl⟩
theorem YJ:CF Tryz.prog 143:=⟨_,Tryz.func143,by kernel_rfl,rfl⟩
theorem zcA:CF Tryz.prog 144:=⟨_,Tryz.func144,by kernel_rfl,rfl⟩
theorem z3n:CF Tryz.prog 145:=⟨_,Tryz.func145,by kernel_rfl,rfl⟩
theorem W2:CF Tryz.prog 146:=⟨_,Tryz.func146,by kernel_rfl,rfl⟩
theorem z0W:CF Tryz.prog 147:=⟨_,Tryz.func147,by kernel_rfl,rfl⟩
theorem zdm:CF Tryz.prog 148:=⟨_,Tryz.func148,by kernel_rfl,rfl⟩
theorem z3L:CF Tryz.prog 149:=⟨_,Tryz.func149,by kernel_rfl,rfl⟩
theorem z9K:CF Tryz.prog 150:=⟨_,Tryz.func150,by kernel_rfl,rfl⟩
theorem z9J:CF Tryz.prog 151:=⟨_,Tryz.func151,by kernel_rfl,rfl⟩
theorem TC:CF Tryz.prog 152:=⟨_,Tryz.func152,by kernel_rfl,rfl⟩
theorem P9:CF Tryz.prog 153:=⟨_,Tryz.func153,by kernel_rfl,rfl⟩
theorem zdW:CF Tryz.prog 154:=⟨_,Tryz.func154,by kernel_rfl,rfl⟩
theorem zdR:CF Tryz.prog 155:=⟨_,Tryz.func155,by kernel_rfl,rfl⟩
theorem PL:CF Tryz.prog 157:=⟨_,Tryz.func157,by kernel_rfl,rfl⟩
theorem Ux:CF Tryz.prog 158:=⟨_,Tryz.func158,by kernel_rfl,rfl⟩
theorem zal:CF Tryz.prog 159:=⟨_,Tryz.func159,by kernel_rfl,rfl⟩
theorem X5:CF Tryz.prog 160:=⟨_,Tryz.func160,by kernel_rfl,rfl⟩
theorem z7H:CF Tryz.prog 161:=⟨_,Tryz.func161,by kernel_rfl,rfl⟩
theorem zdh:CF Tryz.prog 162:=⟨_,Tryz.func162,by kernel_rfl,rfl⟩
theorem z9U:CF Tryz.prog 163:=⟨_,Tryz.func163,by kernel_rfl,rfl⟩
theorem zab:CF Tryz.prog 164:=⟨_,Tryz.func164,by kernel_rfl,rfl⟩
theorem zc5:CF Tryz.prog 165:=⟨_,Tryz.func165,by kernel_rfl,rfl⟩
theorem zbF:CF Tryz.prog 166:=⟨_,Tryz.func166,by kernel_rfl,rfl⟩
theorem z9E:CF Tryz.prog 167:=⟨_,Tryz.func167,by kernel_rfl,rfl⟩
theorem ZX:CF Tryz.prog 168:=⟨_,Tryz.func168,by kernel_rfl,rfl⟩
theorem z3U:CF Tryz.prog 169:=⟨_,Tryz.func169,by kernel_rfl,rfl⟩
theorem z18:CF Tryz.prog 170:=⟨_,Tryz.func170,by kernel_rfl,rfl⟩
theorem zde:CF Tryz.prog 171:=⟨_,Tryz.func171,by kernel_rfl,rfl⟩
theorem zec:CF Tryz.prog 172:=⟨_,Tryz.func172,by kernel_rfl,rfl⟩
theorem z81:CF Tryz.prog 173:=⟨_,Tryz.func173,by kernel_rfl,rfl⟩
theorem zdK:CF Tryz.prog 174:=⟨_,Tryz.func174,by kernel_rfl,rfl⟩
theorem zaa:CF Tryz.prog 175:=⟨_,Tryz.func175,by kernel_rfl,rfl⟩
theorem z9C:CF Tryz.prog 176:=⟨_,Tryz.func176,by kernel_rfl,rfl⟩
theorem zbn:CF Tryz.prog 177:=⟨_,Tryz.func177,by kernel_rfl,rfl⟩
theorem zbO:CF Tryz.prog 178:=⟨_,Tryz.func178,by kernel_rfl,rfl⟩
theorem zc4:CF Tryz.prog 179:=⟨_,Tryz.func179,by kernel_rfl,rfl⟩
theorem zem:CF Tryz.prog 180:=⟨_,Tryz.func180,by kernel_rfl,rfl⟩
theorem z9M:CF Tryz.prog 181:=⟨_,Tryz.func181,by kernel_rfl,rfl⟩
theorem z9T:CF Tryz.prog 182:=⟨_,Tryz.func182,by kernel_rfl,rfl⟩
theorem zdg:CF Tryz.prog 183:=⟨_,Tryz.func183,by kernel_rfl,rfl⟩
theorem zdi:CF Tryz.prog 184:=⟨_,Tryz.func184,by kernel_rfl,rfl⟩
theorem zbk:CF Tryz.prog 185:=⟨_,Tryz.func185,by kernel_rfl,rfl⟩
theorem ze0:CF Tryz.prog 186:=⟨_,Tryz.func186,by kernel_rfl,rfl⟩
theorem zdS:CF Tryz.prog 187:=⟨_,Tryz.func187,by kernel_rfl,rfl⟩
theorem z9G:CF Tryz.prog 188:=⟨_,Tryz.func188,by kernel_rfl,rfl⟩
theorem z9Z:CF Tryz.prog 189:=⟨_,Tryz.func189,by kernel_rfl,rfl⟩
theorem z6D:CF Tryz.prog 190:=⟨_,Tryz.func190,by kernel_rfl,rfl⟩
theorem zcI:CF Tryz.prog 191:=⟨_,Tryz.func191,by kernel_rfl,rfl⟩
theorem zch:CF Tryz.prog 192:=⟨_,Tryz.func192,by kernel_rfl,rfl⟩
theorem zcg:CF Tryz.prog 193:=⟨_,Tryz.func193,by kernel_rfl,rfl⟩
theorem zc0:CF Tryz.prog 194:=⟨_,Tryz.func194,by kernel_rfl,rfl⟩
theorem US:CF Tryz.prog 195:=⟨_,Tryz.func195,by kernel_rfl,rfl⟩
theorem zc3:CF Tryz.prog 196:=⟨_,Tryz.func196,by kernel_rfl,rfl⟩
theorem z1q:CF Tryz.prog 197:=⟨_,Tryz.func197,by kernel_rfl,rfl⟩
theorem zco:CF Tryz.prog 198:=⟨_,Tryz.func198,by kernel_rfl,rfl⟩
theorem z9t:CF Tryz.prog 199:=⟨_,Tryz.func199,by kernel_rfl,rfl⟩
theorem zcB:CF Tryz.prog 200:=⟨_,Tryz.func200,by kernel_rfl,rfl⟩
theorem z9A:CF Tryz.prog 201:=⟨_,Tryz.func201,by kernel_rfl,rfl⟩
theorem za9:CF Tryz.prog 202:=⟨_,Tryz.func202,by kernel_rfl,rfl⟩
theorem zd3:CF Tryz.prog 203:=⟨_,Tryz.func203,by kernel_rfl,rfl⟩
theorem zdy:CF Tryz.prog 204:=⟨_,Tryz.func204,by kernel_rfl,rfl⟩
theorem zcO:CF Tryz.prog 205:=⟨_,Tryz.func205,by kernel_rfl,rfl⟩
theorem zdT:CF Tryz.prog 206:=⟨_,Tryz.func206,by kernel_rfl,rfl⟩
theorem z0E:CF Tryz.prog 207:=⟨_,Tryz.func207,by kernel_rfl,rfl⟩
theorem zdY:CF Tryz.prog 208:=⟨_,Tryz.func208,by kernel_rfl,rfl⟩
theorem zdt:CF Tryz.prog 209:=⟨_,Tryz.func209,by kernel_rfl,rfl⟩
theorem z9q:CF Tryz.prog 210:=⟨_,Tryz.func210,by kernel_rfl,rfl⟩
theorem YW:CF Tryz.prog 211:=⟨_,Tryz.func211,by kernel_rfl,rfl⟩
theorem z9z:CF Tryz.prog 212:=⟨_,Tryz.func212,by kernel_rfl,rfl⟩
theorem z86:CF Tryz.prog 213:=⟨_,Tryz.func213,by kernel_rfl,rfl⟩
theorem z9r:CF Tryz.prog 214:=⟨_,Tryz.func214,by kernel_rfl,rfl⟩
theorem zcT:CF Tryz.prog 215:=⟨_,Tryz.func215,by kernel_rfl,rfl⟩
theorem zcm:CF Tryz.prog 216:=⟨_,Tryz.func216,by kernel_rfl,rfl⟩
theorem zdU:CF Tryz.prog 217:=⟨_,Tryz.func217,by kernel_rfl,rfl⟩
theorem z9u:CF Tryz.prog 218:=⟨_,Tryz.func218,by kernel_rfl,rfl⟩
theorem z6S:CF Tryz.prog 219:=⟨_,Tryz.func219,by kernel_rfl,rfl⟩
theorem zcf:CF Tryz.prog 220:=⟨_,Tryz.func220,by kernel_rfl,rfl⟩
theorem z4d:CF Tryz.prog 221:=⟨_,Tryz.func221,by kernel_rfl,rfl⟩
theorem zev:CF Tryz.prog 222:=⟨_,Tryz.func222,by kernel_rfl,rfl⟩
theorem zcu:CF Tryz.prog 223:=⟨_,Tryz.func223,by kernel_rfl,rfl⟩
theorem zck:CF Tryz.prog 224:=⟨_,Tryz.func224,by kernel_rfl,rfl⟩
theorem zed:CF Tryz.prog 225:=⟨_,Tryz.func225,by kernel_rfl,rfl⟩
theorem zdf:CF Tryz.prog 226:=⟨_,Tryz.func226,by kernel_rfl,rfl⟩
theorem zeg:CF Tryz.prog 227:=⟨_,Tryz.func227,by kernel_rfl,rfl⟩
theorem zc1:CF Tryz.prog 228:=⟨_,Tryz.func228,by kernel_rfl,rfl⟩
theorem Sf:CF Tryz.prog 229:=⟨_,Tryz.func229,by kernel_rfl,rfl⟩
theorem zbU:CF Tryz.prog 230:=⟨_,Tryz.func230,by kernel_rfl,rfl⟩
theorem zbX:CF Tryz.prog 231:=⟨_,Tryz.func231,by kernel_rfl,rfl⟩
theorem zac:CF Tryz.prog 233:=⟨_,Tryz.func233,by kernel_rfl,rfl⟩
theorem zcp:CF Tryz.prog 234:=⟨_,Tryz.func234,by kernel_rfl,rfl⟩
theorem zdn:CF Tryz.prog 235:=⟨_,Tryz.func235,by kernel_rfl,rfl⟩
theorem zcY:CF Tryz.prog 237:=⟨_,Tryz.func237,by kernel_rfl,rfl⟩
theorem zdL:CF Tryz.prog 238:=⟨_,Tryz.func238,by kernel_rfl,rfl⟩
theorem z7t:CF Tryz.prog 239:=⟨_,Tryz.func239,by kernel_rfl,rfl⟩
theorem zeb:CF Tryz.prog 261:=⟨_,Tryz.func261,by kernel_rfl,rfl⟩
theorem zbY:CF Tryz.prog 262:=⟨_,Tryz.func262,by kernel_rfl,rfl⟩
theorem zdE:CF Tryz.prog 264:=⟨_,Tryz.func264,by kernel_rfl,rfl⟩
theorem zdz:CF Tryz.prog 265:=⟨_,Tryz.func265,by kernel_rfl,rfl⟩
section
variable {D:RC}{l:List Oper}{e:Env}{w w':World}{d:Nat}{op:Op}{ty:TypeId}{pos:String}{aft:Array Edge}{g:Option (Nat×Bool)}{v:Value}
theorem qV (hy:Y D.C.P e ⟨some d,op,ty,pos,aft,g⟩ v w w')(h:RL D l ((d,v)::e) w')(ho:PO D e g true=true:=by exact rfl)(hd:Nat.blt d D.C.n=true:=by exact rfl):RL D (⟨some d,op,ty,pos,aft,g⟩::l) e w:=Ry ho hd hy h
theorem qS (h:RL D l ((d,undef)::e) w)(ho:PO D e g false=true:=by exact rfl)(hd:Nat.blt d D.C.n=true:=by exact rfl):RL D (⟨some d,op,ty,pos,aft,g⟩::l) e w:=zeA ho hd h
theorem LM {x:Operand}(hx:look e x=some v)(h:RL D l ((d,v)::e) w)(ho:PO D e g true=true:=by exact rfl)(hd:Nat.blt d D.C.n=true:=by exact rfl):RL D (⟨some d,.move x,ty,pos,aft,g⟩::l) e w:=Ry ho hd (My hx) h
theorem M6 {x:Operand}(hx:look e x=some v)(h:RL D l ((d,v)::e) w)(ho:PO D e g true=true:=by exact rfl)(hd:Nat.blt d D.C.n=true:=by exact rfl):RL D (⟨some d,.assign x,ty,pos,aft,g⟩::l) e w:=Ry ho hd (NK hx) h
theorem MK {x y:Operand}{t t':TypeId}{a b:Int}(hx:look e x=some (I a))(hy:look e y=some (I b))(h:RL D l ((d,I (a+b))::e) w)(hb: -9223372036854775808<=a+b/\a+b<=9223372036854775807:=by omega)(ho:PO D e g true=true:=by exact rfl)(hd:Nat.blt d D.C.n=true:=by exact rfl):RL D (⟨some d,.binOp .add t x y t',ty,pos,aft,g⟩::l) e w:=Ry ho hd (R9 hx hy hb) h
theorem Mb {f:FuncId}{vs:List Value}{S:Value->World->Prop}{ts:Array TypeId}{args:List Operand}(hf:CF D.C.P f)(ha:looks e args=some vs)(hc:Mm D.C.P f vs w S)(h:∀v w',S v w'->RL D l ((d,v)::e) w')(ho:PO D e g true=true:=by exact rfl)(hd:Nat.blt d D.C.n=true:=by exact rfl):RL D (⟨some d,.call ⟨.value (.func f),args.toArray,ts⟩,ty,pos,aft,g⟩::l) e w:=Nj ho hd (yc hf ha) hc h
theorem O8 {p:Prop}[hp:Decidable p](hr:RL D l ((d,.bool true)::e) w)(h:p:=by first|rfl|assumption|omega|decide):RL D l ((d,.bool (decide p))::e) w:=ze6 h hr
theorem MC {p:Prop}[hp:Decidable p](hr:RL D l ((d,.bool false)::e) w)(h:¬p:=by first|exact λh=>h rfl|assumption|omega):RL D l ((d,.bool (decide p))::e) w:=z2n h hr
theorem Nr {x y:Operand}{t t':TypeId}{k:IntKind}{a b:Int}(hx:look e x=some (.int k a))(hy:look e y=some (.int k b))(h:RL D l ((d,.bool (decide (a<b)))::e) w)(ho:PO D e g true=true:=by exact rfl)(hd:Nat.blt d D.C.n=true:=by exact rfl):RL D (⟨some d,.binOp .lss t x y t',ty,pos,aft,g⟩::l) e w:=Ry ho hd (XF hx hy) h
theorem zle {x y:Operand}{t t':TypeId}{k:IntKind}{a b:Int}(hx:look e x=some (.int k a))(hy:look e y=some (.int k b))(h:RL D l ((d,.bool (decide (a<=b)))::e) w)(ho:PO D e g true=true:=by exact rfl)(hd:Nat.blt d D.C.n=true:=by exact rfl):RL D (⟨some d,.binOp .leq t x y t',ty,pos,aft,g⟩::l) e w:=Ry ho hd (V7 hx hy) h
theorem Nc {x y:Operand}{t t':TypeId}{k:IntKind}{a b:Int}(hx:look e x=some (.int k a))(hy:look e y=some (.int k b))(h:RL D l ((d,.bool (decide (b<a)))::e) w)(ho:PO D e g true=true:=by exact rfl)(hd:Nat.blt d D.C.n=true:=by exact rfl):RL D (⟨some d,.binOp .gtr t x y t',ty,pos,aft,g⟩::l) e w:=Ry ho hd (UZ hx hy) h
theorem PQ {x y:Operand}{t t':TypeId}{k:IntKind}{a b:Int}(hx:look e x=some (.int k a))(hy:look e y=some (.int k b))(h:RL D l ((d,.bool (decide (b<=a)))::e) w)(ho:PO D e g true=true:=by exact rfl)(hd:Nat.blt d D.C.n=true:=by exact rfl):RL D (⟨some d,.binOp .geq t x y t',ty,pos,aft,g⟩::l) e w:=Ry ho hd (yge hx hy) h
theorem NS {x y:Operand}{t t':TypeId}{k:IntKind}{a b:Int}(hx:look e x=some (.int k a))(hy:look e y=some (.int k b))(h:RL D l ((d,.bool (decide (a=b)))::e) w)(ho:PO D e g true=true:=by exact rfl)(hd:Nat.blt d D.C.n=true:=by exact rfl):RL D (⟨some d,.binOp .eql t x y t',ty,pos,aft,g⟩::l) e w:=Ry ho hd (ZT hx hy) h
theorem MY {x y:Operand}{t t':TypeId}{k:IntKind}{a b:Int}(hx:look e x=some (.int k a))(hy:look e y=some (.int k b))(h:RL D l ((d,.bool (decide (a≠b)))::e) w)(ho:PO D e g true=true:=by exact rfl)(hd:Nat.blt d D.C.n=true:=by exact rfl):RL D (⟨some d,.binOp .neq t x y t',ty,pos,aft,g⟩::l) e w:=Ry ho hd (yne hx hy) h
theorem NB {c x y:Operand}(hc:look e c=some (.bool true))(hx:look e x=some v)(h:RL D l ((d,v)::e) w)(ho:PO D e g true=true:=by exact rfl)(hd:Nat.blt d D.C.n=true:=by exact rfl):RL D (⟨some d,.pick c x y,ty,pos,aft,g⟩::l) e w:=Ry ho hd (Rx hc hx) h
theorem ME {c x y:Operand}(hc:look e c=some (.bool false))(hy:look e y=some v)(h:RL D l ((d,v)::e) w)(ho:PO D e g true=true:=by exact rfl)(hd:Nat.blt d D.C.n=true:=by exact rfl):RL D (⟨some d,.pick c x y,ty,pos,aft,g⟩::l) e w:=Ry ho hd (R8 hc hy) h
theorem MW {x:Operand}{vs:Array Value}{i:Nat}(hx:look e x=some (.tuple vs))(hv:vs[i]? =some v)(h:RL D l ((d,v)::e) w)(ho:PO D e g true=true:=by exact rfl)(hd:Nat.blt d D.C.n=true:=by exact rfl):RL D (⟨some d,.extract x i,ty,pos,aft,g⟩::l) e w:=Ry ho hd (NO hx hv) h
theorem M0 {t:TypeId}{i off n b m:Nat}{agg:Bool}{x:Operand}(hf:N3 D.C.P t i off (n+1) agg)(hx:look e x=some (ptr b m))(h:RL D l ((d,ptr b (m+off))::e) w)(ho:PO D e g true=true:=by exact rfl)(hd:Nat.blt d D.C.n=true:=by exact rfl):RL D (⟨some d,.fieldAddr t x i,ty,pos,aft,g⟩::l) e w:=Ry ho hd (Mo hf hx) h
theorem NX {t el:TypeId}{x:Operand}{a:Option Addr}{len cap:Nat}(ht:D.C.P.underlying t=some (.slice el))(hx:look e x=some (.slice a len cap))(h:RL D l ((d,I (len:Int))::e) w)(ho:PO D e g true=true:=by exact rfl)(hd:Nat.blt d D.C.n=true:=by exact rfl):RL D (⟨some d,.call ⟨.builtin .len,#[x],#[t]⟩,ty,pos,aft,g⟩::l) e w:=Ry ho hd (OZ ht hx) h
theorem NP {x y:Operand}{t t':TypeId}{a b:Int}(hx:look e x=some (I a))(hy:look e y=some (I b))(h:RL D l ((d,I (a-b))::e) w)(hb: -9223372036854775808<=a-b/\a-b<=9223372036854775807:=by omega)(ho:PO D e g true=true:=by exact rfl)(hd:Nat.blt d D.C.n=true:=by exact rfl):RL D (⟨some d,.binOp .sub t x y t',ty,pos,aft,g⟩::l) e w:=Ry ho hd (TF hx hy hb) h
theorem LU {D:RC}{x:Operand}(hx:look e x=some v)(h:Mn D.C D.k ((d,v)::e) w)(ho:PO D e g true=true:=by exact rfl)(hd:Nat.blt d D.C.n=true:=by exact rfl):RL D [⟨some d,.assign x,ty,pos,aft,g⟩] e w:=Ry ho hd (NK hx) (LO h)
theorem M4 {x y:Operand}{d':Nat}{v':Value}{ty':TypeId}{pos':String}{aft':Array Edge}{g':Option (Nat×Bool)}(hx:look e x=some v)(hy:look ((d,v)::e) y=some v')(h:RL D l ((d',v')::(d,v)::e) w)(ho:PO D e g true=true:=by exact rfl)(hd:Nat.blt d D.C.n=true:=by exact rfl)(ho':PO D ((d,v)::e) g' true=true:=by exact rfl)(hd':Nat.blt d' D.C.n=true:=by exact rfl):RL D (⟨some d,.move x,ty,pos,aft,g⟩::⟨some d',.move y,ty',pos',aft',g'⟩::l) e w:=Ry ho hd (My hx) (Ry ho' hd' (My hy) h)
def z38:Value->Bool
  | .pointer (some _)=>true
  | .func (.func _) _ _=>true
  |_=>false
theorem MS {P:Program}{d:Option Nat}{x:Operand}(hx:look e x=some v)(hv:z38 v=true:=by exact rfl):Y P e ⟨d,.nilCheck x,ty,pos,aft,g⟩ v w w:=by
  unfold z38 at hv
  split at hv
  · exact ync hx
  · exact zfC hx
  · cases hv
theorem Mp {x:Operand}(hx:look e x=some v)(h:RL D l ((d,v)::e) w)(hv:z38 v=true:=by exact rfl)(ho:PO D e g true=true:=by exact rfl)(hd:Nat.blt d D.C.n=true:=by exact rfl):RL D (⟨some d,.nilCheck x,ty,pos,aft,g⟩::l) e w:=Ry ho hd (MS hx hv) h
end
section
variable {C:Cx}{k:List Item}{e e':Env}{w:World}{id:Nat}{ops:List Oper}{y:Code}
theorem qN {x:Code}(ho:Sa C.n ops=true)(h:RL ⟨C,ops,.code x::k,ho⟩ ops e w):Mn C (.code (.seq (.region id ops.toArray false) x)::k) e w:=run_seq (LQ ho h)
theorem Oe {α:Type}{c:Code}(x0:α)(E:α->Env)(I:α->World->Prop)(μ:α->Nat)(hI:I x0 w)(round:∀x w,I x w->(∀y w',I y w'->μ y<μ x->Mn C (.inLoop c::k) (E y) w')->Mn C (.code c:: .inLoop c::k) (E x) w)(hE:Sub (E x0) e:=by repeat (first|exact Sub.nil|refine Sub.cons rfl ?_)):Mn C (.code (.loop c)::k) e w:=z7w x0 E I μ hE hI round
theorem Mn.qb (h:Mn C k e w)(hs:Sub e e':=by repeat (first|exact Sub.nil|refine Sub.cons rfl ?_)):Mn C k e' w:=h.sub hs
end
section
variable {D:RC}{k:List Item}{e:Env}{w:World}{id:Nat}{ops:List Oper}{x:Code}
theorem qM {C:Cx}{ops0:List Oper}{h0:Sa C.n ops0=true}(ho:Sa C.n ops=true)(h:RL ⟨C,ops,.code x::k,ho⟩ ops e w):RL ⟨C,ops0,.code (.seq (.region id ops.toArray false) x)::k,h0⟩ [] e w:=LO (run_seq (LQ ho h))
end
section
variable {D:RC}{late:List Nat}{S:World->Prop}{e:Env}{w w':World}{d fuel:Nat}{op:Op}{ty:TypeId}{pos:String}{aft:Array Edge}{g:Option (Nat×Bool)}{listed:Array Bool}{v:Value}
theorem qT (i:Nat)(hi:D.ops[i]? =some ⟨some d,op,ty,pos,aft,g⟩)(hy:∀w,S w->Y D.C.P e ⟨some d,op,ty,pos,aft,g⟩ v w w)(hS:S w)(h:RH D S fuel (listed.setIfInBounds i true) ((d,v)::e) w)
    (hf:PA D.ops listed i=true:=by kernel_rfl) (ho:PO D e g true=true:=by exact rfl) (hd:Nat.blt d D.C.n=true:=by exact rfl):RH D S (fuel+1) listed e w:=z7a hi hf ho hd hy hS h
theorem LS (i:Nat)(hi:D.ops[i]? =some ⟨some d,op,ty,pos,aft,g⟩)(hy:∀{w},Y D.C.P e ⟨some d,op,ty,pos,aft,g⟩ v w w)(hS:S w)(h:RH D S fuel (listed.setIfInBounds i true) ((d,v)::e) w)
    (hf:PA D.ops listed i=true:=by kernel_rfl) (ho:PO D e g true=true:=by exact rfl) (hd:Nat.blt d D.C.n=true:=by exact rfl):RH D S (fuel+1) listed e w:=z7a hi hf ho hd (λ_ _=>hy) hS h
theorem Qq {p:Prop}[hp:Decidable p](hr:RH D S fuel listed ((d,.bool true)::e) w)(h:p:=by first|rfl|assumption|omega|decide):RH D S fuel listed ((d,.bool (decide p))::e) w:=zbI h hr
theorem QG {p:Prop}[hp:Decidable p](hr:RH D S fuel listed ((d,.bool false)::e) w)(h:¬p:=by first|exact λh=>h rfl|assumption|omega):RH D S fuel listed ((d,.bool (decide p))::e) w:=zaR h hr
theorem Pv {late:List Nat}(rs:List Nat)(h:RH D (λ_=>True) fuel listed e w)(hr:Oz D.ops listed rs=true:=by kernel_rfl)(hl:zai rs late=true:=by kernel_rfl):RHL D late S fuel listed e w:=zbW rs hr hl h
theorem M9 {x:Operand}(i:Nat)(hi:D.ops[i]? =some ⟨some d,.move x,ty,pos,aft,g⟩)(hx:look e x=some v)(hS:S w)(h:RH D S fuel (listed.setIfInBounds i true) ((d,v)::e) w)
    (hf:PA D.ops listed i=true:=by kernel_rfl) (ho:PO D e g true=true:=by exact rfl) (hd:Nat.blt d D.C.n=true:=by exact rfl):RH D S (fuel+1) listed e w:=z7a hi hf ho hd (λ_ _=>My hx) hS h
theorem qJ (i:Nat)(hi:D.ops[i]? =some ⟨some d,op,ty,pos,aft,g⟩)(hS:S w)(h:RH D S fuel (listed.setIfInBounds i true) ((d,undef)::e) w)
    (hf:PA D.ops listed i=true:=by kernel_rfl) (ho:PO D e g false=true:=by exact rfl) (hd:Nat.blt d D.C.n=true:=by exact rfl):RH D S (fuel+1) listed e w:=zcP hi hf ho hd hS h
theorem qO (i:Nat)(h:Nx D S fuel listed e w i)(hr:Oz D.ops listed [i]=true:=by kernel_rfl):RH D S (fuel+1) listed e w:=zdo hr h
theorem Pw {f:FuncId}{vs:List Value}{T:Value->World->Prop}{ts:Array TypeId}{args:List Operand}(i:Nat)(hi:D.ops[i]? =some ⟨some d,.call ⟨.value (.func f),args.toArray,ts⟩,ty,pos,aft,g⟩)(hf:CF D.C.P f)(ha:looks e args=some vs)(hc:Mm D.C.P f vs w T)(h:∀v w',T v w'->S w'/\RH D S fuel (listed.setIfInBounds i true) ((d,v)::e) w')
    (hr:Oz D.ops listed [i]=true:=by kernel_rfl) (ho:PO D e g true=true:=by exact rfl) (hd:Nat.blt d D.C.n=true:=by exact rfl):RH D S (fuel+1) listed e w:=zdo hr (SS hi ho hd (yc hf ha) hc h)
theorem qE (h:Mn D.C D.k e w)(hr:Oz D.ops listed []=true:=by kernel_rfl):RH D S fuel listed e w:=zfR hr h
theorem qL (dn:List Nat)(i:Nat)(hi:D.ops[i]? =some ⟨some d,op,ty,pos,aft,g⟩)(hy:∀w,S w->Y D.C.P e ⟨some d,op,ty,pos,aft,g⟩ v w w)(hS:S w)(h:RHL D late S fuel (listed.setIfInBounds i true) ((d,v)::e) w)
    (hf:(PA D.ops listed i&&waits D.ops listed late dn i)=true:=by kernel_rfl) (ho:PO D e g true=true:=by exact rfl) (hd:Nat.blt d D.C.n=true:=by exact rfl):RHL D late S (fuel+1) listed e w:=zbi dn hi hf ho hd hy hS h
end
theorem NF {C:Cx}{id:Nat}{ops:List Oper}{k:List Item}{e:Env}{w:World}(S:World->Prop)(ho:Sa C.n ops=true)(h:RH ⟨C,ops,k,ho⟩ S ops.length (Array.replicate ops.length false) e w.drew)(hm:C.P.follows .mixedOrders=true:=by kernel_rfl)(hc:calm ops=true:=by rfl):Mn C (.code (.region id ops.toArray true)::k) e w:=z0k S hm ho h hc
theorem NV {α:Type}{a b:α}(h:some a=some b):a=b:=Option.some.inj h
def U2:=Tryz.underlying2
def U3:=Tryz.underlying3
def U4:=Tryz.underlying4
def U5:=Tryz.underlying5
def U9:=Tryz.underlying9
def U22:=Tryz.underlying22
def Uz:=Tryz.underlying23
def U26:=Tryz.underlying26
def T7:=Tryz.underlying27
def YS:=Tryz.underlying28
def U30:=Tryz.underlying30
def U34:=Tryz.underlying34
def U35:=Tryz.underlying35
def U40:=Tryz.underlying40
def Ns:=Tryz.underlying41
def Ml:=Tryz.underlying45
def N5:=Tryz.underlying46
def NQ:=Tryz.underlying51
def Ya:=Tryz.underlying55
def U57:=Tryz.underlying57
def U62:=Tryz.underlying62
def U65:=Tryz.underlying65
def U69:=Tryz.underlying69
def Xi:=Tryz.underlying77
def U80:=Tryz.underlying80
def U89:=Tryz.underlying89
def ZV:=Tryz.underlying90
def U97:=Tryz.underlying97
def z0f:=Tryz.underlying100
def zf8:=Tryz.underlying102
def XO:=Tryz.underlying105
def PR:=Tryz.underlying108
def Sy:=Tryz.underlying118
def z9d:=Tryz.underlying121
def z8N:=Tryz.underlying126
def z2Q:=Tryz.underlying128
def z14:=Tryz.underlying130
def Uw:=Tryz.underlying131
def z5E:=Tryz.underlying135
def N1:=Tryz.underlying151
def z7z:=Tryz.underlying152
def z6l:=Tryz.underlying154
def Tp:=Tryz.underlying163
def z82:=Tryz.underlying173
def zbQ:=Tryz.underlying187
def zfs:=Tryz.underlying196
def Od:=Tryz.underlying197
def Zo:=Tryz.underlying203
def zfX:=Tryz.underlying205
def zba:=Tryz.underlying206
def z1o:=Tryz.underlying210
def zbe:=Tryz.underlying212
def zfl:=Tryz.underlying223
def OW:=Tryz.underlying232
def z9a:=Tryz.underlying237
def z0K:=Tryz.underlying239
def PW:=Tryz.underlying240
def VH:=Tryz.underlying245
def Rv:=Tryz.underlying250
def zbp:=Tryz.underlying251
def zf6:=Tryz.underlying273
def zb5:=Tryz.underlying274
def Wi:=Tryz.underlying295
def OK:=Tryz.underlying298
def zcK:=Tryz.underlying300
def zcE:=Tryz.underlying308
def z6E:=Tryz.underlying321
def zg3:=Tryz.underlying325
def z6v:=Tryz.underlying328
def Xa:=Tryz.underlying329
def Z7:=Tryz.underlying355
def Rb (w:World)(g:Nat)(cs:List Value)(T:TypeId):Prop:=w.heap[g]? =some (.cells cs.toArray T (0,0))
theorem Rb.LN {w:World}{g:Nat}{cs:List Value}{T:TypeId}(h:Rb w g cs T):LX w g cs T:=⟨(0,0),h,λi _ h=>by omega⟩
theorem Rb.set {w:World}{g:Nat}{cs:List Value}{T:TypeId}(h:Rb w g cs T)(i:Nat)(v:Value):Rb (w.setCell ⟨g,i,none⟩ v) g (cs.set i v) T:=by
 unfold Rb at h⊢
 simp[World.setCell,Array.getElem?_modify,h]
theorem Rb.ext {w w':World}{g:Nat}{cs:List Value}{T:TypeId}(h:Rb w g cs T)(k:Ext w w'):Rb w' g cs T:=k.heap h id
theorem Sl.row {w:World}{g n cap:Nat}{e:TypeId}{size:Nat}{cs:List Value}(h:Sl w (.slice (some ⟨g,0,none⟩) n cap) e size n cs):∃cur,Rb w g cur e/\n<=cap/\cap<=maxLen/\cur.length=cap*size/\cur.take (n*size)=cs:=by
 rcases h.2 with⟨hz,-⟩|⟨g1,cap1,cur,hv,-,hg,hn,hm,hs,ht⟩
 ·cases hz
 ·cases hv;exact⟨cur.toList,by unfold Rb;simpa using hg,hn,hm,by simpa using hs,ht⟩
theorem Rb.sl {w:World}{g n cap:Nat}{e:TypeId}{size:Nat}{cur:List Value}(h:Rb w g cur e)(hn:n<=cap)(hm:cap<=maxLen)(hs:cur.length=cap*size):Sl w (.slice (some ⟨g,0,none⟩) n cap) e size n (cur.take (n*size)):=
 ⟨by rw[List.length_take,hs];exact Nat.min_eq_left (Nat.mul_le_mul_right _ hn),.inr ⟨g,cap,cur.toArray,rfl,Nat.zero_le _,h,hn,hm,by simpa using hs,by simp⟩⟩
theorem Rb.cell {w:World}{g i:Nat}{cur:List Value}{e:TypeId}(h:Rb w g cur e):w.cell? ⟨g,i,none⟩=cur[i]? :=h.LN.cell i
theorem Rb.rd {w:World}{g i n c:Nat}{e:TypeId}{cur:List Value}(h:Rb w g cur e)(hl:i+n<=cur.length):Rd w (.slice (some ⟨g,i,none⟩) n c) 1 n ((cur.drop i).take n):=by
 refine⟨by simp;omega,.inr ⟨g,i,c,rfl,λj u hj=>?_⟩⟩
 rw[h.cell]
 rw[List.getElem?_take] at hj
 split at hj
 ·rwa [List.getElem?_drop] at hj
 ·cases hj
theorem RD {w:World}{a:Option Addr}{c:Nat}:Rd w (.slice a 0 c) 1 0 []:=⟨rfl,.inl ⟨(a,c),rfl,rfl⟩⟩
theorem Rd.kpz {S:Nat->Prop}{w w':World}{v:Value}{size n:Nat}{cs:List Value}(h:Rd w v size n cs)(k:Kp S w w')(hn:0<n->∀g,v.ownBlock=some g->¬S g):Rd w' v size n cs:=by
 rcases Nat.eq_zero_or_pos n with h0|h0
 ·subst h0;refine⟨h.1,?_⟩;have hl:cs=[]:=List.eq_nil_of_length_eq_zero (by have:=h.1;omega);rcases h.2 with h2|⟨b,off,cap,e,-⟩
  ·exact .inl h2
  ·exact .inr ⟨b,off,cap,e,λj u hj=>by rw[hl] at hj;simp at hj⟩
 ·exact h.kp k (hn h0)
theorem Rd.ltz {w:World}{v:Value}{size n g:Nat}{cs:List Value}(h:Rd w v size n cs)(hs:0<size)(hn:0<n)(hg:v.ownBlock=some g):g<w.heap.size:=by
 rcases h.2 with⟨c,-,h2⟩|⟨b,off,cap,e,hc⟩
 ·omega
 ·rw[e] at hg;have e2:b=g:=NV hg;subst e2;have hl:0<cs.length:=by rw[h.1];exact Nat.mul_pos hn hs
  exact World.block_lt_of_cell? w _ (hc 0 cs[0] (List.getElem?_eq_getElem hl))
theorem z1J (cs:List Value)(i:Nat):Nh cs i []=cs:=by simp[Nh]
theorem Yg (cs vs:List Value)(i:Nat)(h:i+vs.length<=cs.length):(Nh cs i vs).length=cs.length:=by simp[Nh];omega
theorem WK (cs vs:List Value)(i j:Nat)(h:i+vs.length<=cs.length):(Nh cs i vs)[j]? =if i<=j/\j<i+vs.length then vs[j-i]? else cs[j]? :=by
 unfold Nh
 rw[List.append_assoc]
 by_cases h1:j<i
 ·rw[List.getElem?_append_left (by simp;omega),List.getElem?_take,if_pos h1,if_neg (by omega)]
 ·rw[List.getElem?_append_right (by simp;omega)];have e:(cs.take i).length=i:=by simp;omega
  rw[e];by_cases h2:j<i+vs.length
  ·rw[List.getElem?_append_left (by omega),if_pos ⟨by omega,h2⟩]
  ·rw[List.getElem?_append_right (by omega),List.getElem?_drop,if_neg (by omega)]
   congr 1;omega
theorem QU {P:Program}{b:Nat}{T:TypeId}(o:Nat):∀(vs:List Value) (i:Nat) (cs:List Value) (w:World),Rb w b cs T->o+i+vs.length<=cs.length->(∀v∈vs,v.oneCell'=true)->
  ∃w',(storeCells ⟨b,o,none⟩ vs i).run P w= .ok () w'/\Rb w' b (Nh cs (o+i) vs) T/\Kp (λk=>k=b) w w'
 |[],i,cs,w,hB,_,_=>⟨w,rfl,by simpa[Nh] using hB,Kp.refl _ _⟩
 | v :: r, i, cs, w, hB, hl, h1 => by
   simp only[List.length_cons] at hl;have aP:o+i<cs.length:=by omega
   have hc:w.cell? ⟨b,o+i,none⟩=some cs[o+i]:=by rw[hB.cell];simp[aP]
   have hf:=hB.LN.free aP;obtain⟨w',hr,Ag,hk⟩:=QU (P:=P) o r (i+1) (cs.set (o+i) v) _ (hB.set (o+i) v) (by simp;omega) (λu hu=>h1 u (List.mem_cons_of_mem _ hu));refine⟨w',?_,?_,(PY w b (o+i) v).trans hk⟩
   ·simp only[storeCells,Sem.run_bind,Nz,run_store P w _ v _ (h1 v (List.mem_cons_self ..)),hc,hf]
    simpa using hr
   ·have he:Nh (cs.set (o+i) v) (o+(i+1)) r=Nh cs (o+i) (v::r):=by
     apply List.ext_getElem?;intro j;rw[WK _ _ _ _ (by simp;omega),WK _ _ _ _ (by simp;omega)];simp only[List.length_cons];by_cases h2:o+i=j
     ·subst h2;rw[if_neg (by omega),if_pos (by omega)];simp[aP]
     ·by_cases h3:o+i<j/\j<o+i+1+r.length
      ·rw[if_pos (by omega),if_pos (by omega),show j-(o+i)=(j-(o+(i+1)))+1 by omega];simp
      ·rw[if_neg (by omega),if_neg (by omega),List.getElem?_set_ne h2]
    rw[<-he];exact Ag
section
variable {P:Program}{e:Env}{d:Option Nat}{ty t t' kt el:TypeId}{pos:String}{aft:Array Edge}{g:Option (Nat×Bool)}{x y u u2:Operand}{w:World}
theorem UW {z:Value}{size bytes n cap i:Nat}{a:Option Addr}{k:IntKind}{za:Int}[rk:PI za i](ht:P.underlying t=some (.slice el))(hs:TI P el z size bytes)(hx:look e x=some (.slice a n cap))
  (hy:look e y=some (.int k za)) (h:i<=n) (hc:n<=cap):
  Y P e ⟨d,.slice t x (some y) none none,ty,pos,aft,g⟩ (.slice (if cap=i then a else a.map (·.add (i*size))) (n-i) (cap-i)) w w:=fun ρ hρ=>by
 obtain⟨rfl⟩:=rk
 have cz:=hs.size (w:=w)
 have h2:∀w,(Instr.sliceBound (.int k (i:Int)) n .sliceB).run P w= .ok i w:=λw=>by rw[run_sliceBound _ _ _ _ _ (by omega) (by omega)];simp
 simp[execOp,hρ _ _ hx,hρ _ _ hy,Instr.sliceAt,run_underlying ht,Instr.slice,Instr.sliceBounds,h2,cz]
theorem zg2 {z:Value}{size bytes n cap i j m:Nat}{a:Option Addr}{k k' k2:IntKind}{za zb zc:Int}[rk:PI za i][uy:PI zb j][bB:PI zc m](ht:P.underlying t=some (.slice el))(hs:TI P el z size bytes)(hx:look e x=some (.slice a n cap))
  (hy:look e y=some (.int k za)) (hu:look e u=some (.int k' zb)) (m8:look e u2=some (.int k2 zc)) (h:i<=j/\j<=m/\m<=cap):
  Y P e ⟨d,.slice t x (some y) (some u) (some u2),ty,pos,aft,g⟩ (.slice (if m=i then a else a.map (·.add (i*size))) (j-i) (m-i)) w w:=fun ρ hρ=>by
 obtain⟨rfl⟩:=rk
 obtain⟨rfl⟩:=uy
 obtain⟨rfl⟩:=bB
 have cz:=hs.size (w:=w)
 have h0:∀w,(Instr.sliceBound (.int k2 (m:Int)) cap .slice3Acap).run P w= .ok m w:=λw=>by rw[run_sliceBound _ _ _ _ _ (by omega) (by omega)];simp
 have h1:∀w,(Instr.sliceBound (.int k' (j:Int)) m .slice3B).run P w= .ok j w:=λw=>by rw[run_sliceBound _ _ _ _ _ (by omega) (by omega)];simp
 have h2:∀w,(Instr.sliceBound (.int k (i:Int)) j .slice3C).run P w= .ok i w:=λw=>by rw[run_sliceBound _ _ _ _ _ (by omega) (by omega)];simp
 simp[execOp,hρ _ _ hx,hρ _ _ hy,hρ _ _ hu,hρ _ _ m8,Instr.sliceAt,run_underlying ht,Instr.slice,Instr.sliceBounds,h0,h1,h2,cz]
theorem Tu (z:Value)(n:Nat)(h:oneV z=true):(Builtin.zeroCells z.cells n).toList=List.replicate n z:=by
 rw[RV h]
 apply List.ext_getElem
 ·simp[Builtin.zeroCells]
 ·intro i h1 h2;simp[Builtin.zeroCells,Nat.mod_one]
theorem zfZ {z:Value}{bytes b i n cap:Nat}{T:TypeId}{cs:List Value}(ht:P.underlying t=some (.slice el))(hs:TI P el z 1 bytes)(hz:oneV z=true)(hx:look e x=some (.slice (some ⟨b,i,none⟩) n cap))
  (hB:Rb w b cs T) (hi:i+n<=cs.length):
  Yp P e ⟨d,.call ⟨.builtin .clear,#[x],#[t]⟩,ty,pos,aft,g⟩ w λv w'=>Rb w' b (Nh cs i (List.replicate n z)) T/\Kp (λk=>k=b) w w':=by
 obtain⟨w',hr,Ag,hk⟩:=QU (P:=P) i (List.replicate n z) 0 cs w hB (by simp;omega) (λu hu=>by rw[(List.mem_replicate.1 hu).2];exact Um hz)
 rcases Nat.eq_zero_or_pos n with h0|h0
 ·subst h0;refine⟨.tuple #[],w,fun ρ hρ=>?_,by simpa[z1J] using hB,Kp.refl _ _⟩;simp[execOp,resolve,invoke,builtin,hρ _ _ hx,Builtin.clear_,run_underlying ht,go_sem]
 ·refine⟨.tuple #[],w',fun ρ hρ=>?_,by simpa using Ag,hk⟩;have GJ:=hs.zero (w:=w);obtain⟨k,rfl⟩:∃k,n=k+1:=⟨n-1,by omega⟩
  have hc:(Builtin.clear_ #[t] ty #[.slice (some ⟨b,i,none⟩) (k+1) cap]).run P w= .ok (.tuple #[]) w':=by
   unfold Builtin.clear_;simp only[List.getElem?_toArray,List.getElem?_cons_zero,pure_bind,Sem.run_bind,run_underlying ht,Result.andThen,GJ,Tu z _ hz,hr,Sem.run_pure]
  simp[execOp,resolve,invoke,builtin,hρ _ _ hx,hc]
theorem zeV {z u:Value}{size bytes gb n cap m:Nat}{cs news:List Value}(ht:P.underlying t=some (.slice el))(hs:TI P el z size bytes)(cz:0<size)
  (hx:look e x=some (.slice (some ⟨gb,0,none⟩) n cap)) (hy:look e y=some u) (hv:Sl w (.slice (some ⟨gb,0,none⟩) n cap) el size n cs) (hu:Rd w u size m news) (h1:∀c∈news,c.oneCell'=true) (hr:n+m<=cap):
  Yp P e ⟨d,.call ⟨.builtin .append,#[x,y],#[t,t]⟩,ty,pos,aft,g⟩ w λv' w'=>v'= .slice (some ⟨gb,0,none⟩) (n+m) cap/\Sl w' v' el size (n+m) (cs++news)/\Kp (λk=>k=gb) w w':=by
 obtain⟨i,hi,oD,jv,qg⟩:=hs
 subst jv
 rcases hu.2 with⟨⟨ca,c⟩,rfl,rfl⟩|⟨b,off,cap2,rfl,rl⟩
 ·have eH:news=[]:=List.eq_nil_of_length_eq_zero (by simpa using hu.1);subst eH
  have hr:(Builtin.append_ #[t,t] ty #[.slice (some ⟨gb,0,none⟩) n cap,.slice ca 0 c]).run P w= .ok (.slice (some ⟨gb,0,none⟩) n cap) w:=by
   have je:n<=cap:=by omega
   cases ca
   ·simp[Builtin.append_,run_underlying ht,sizeOf,typeInfo,hi,Builtin.lenOf,Builtin.firstCells,je,storeCells]
   ·simp[Builtin.append_,run_underlying ht,sizeOf,typeInfo,hi,Builtin.lenOf,Builtin.firstCells,je,storeCells,loadCells,loadCellsFrom]
  refine⟨_,w,fun ρ hρ=>?_,rfl,by simpa using hv,Kp.refl _ _⟩;simp[execOp,resolve,invoke,builtin,hρ _ _ hx,hρ _ _ hy,hr]
 ·have uz:∀j u,news[j]? =some u->w.cell? ((⟨b,off,none⟩:Addr).add j)=some u:=λj u hu=>by rw[Nz];exact rl j u hu
  obtain⟨w',GK,yU,cH⟩:=run_append_fits (P:=P) w 0 t ty el i i.size ht hi rfl gb n cap cs hv ⟨b,off,none⟩ m cap2 news hu.1 uz h1 hr;refine⟨_,w',fun ρ hρ=>?_,rfl,yU,(Kp.QW cH).LZ λk hk=>(NV hk).symm⟩;simp[execOp,resolve,invoke,builtin,hρ _ _ hx,hρ _ _ hy,GK]
end
abbrev Bytes:=List UInt8
abbrev lt (a b:Bytes):Bool:=Op.bytesLess a b
section
variable {P:Program}{e:Env}{d:Option Nat}{ty t t':TypeId}{pos:String}{aft:Array Edge}{g:Option (Nat×Bool)}{x y:Operand}{w:World}{l l':Bytes}
end
def pos (l:List Bytes)(t:Bytes):Nat:=(l.takeWhile (λk=>lt k t)).length
theorem WU (cs vs:List Value)(i m:Nat)(h:m<=i)(hl:i<=cs.length):(Nh cs i vs).take m=cs.take m:=by
 unfold Nh
 rw[List.append_assoc,List.take_append_of_le_length (by simp;omega),List.take_take,Nat.min_eq_left h]
theorem z7Y {w:World}{sv:Value}{cs:List Value}{i n:Nat}(hS:Sl w sv 3 1 n cs)(gK:∀c∈cs,c.oneCell'=true)(hi:i<n)(hn:n<=8589934592):
  Mm Tryz.prog 183 [sv,I (i:Int),I ((i:Int)+1)] w λv w'=>Sl w' v 3 1 (n-1) (cs.take i++cs.drop (i+1))/\Kp (λk=>sv.ownBlock=some k) w w'/\(∀g,v.ownBlock=some g->sv.ownBlock=some g):=by
 have f7:maxLen=9223372036854775807:=rfl
 have aB:=hS.len
 rw[Nat.mul_one] at aB
 obtain⟨g,cap,rfl,je⟩:∃g cap,sv= .slice (some ⟨g,0,none⟩) n cap/\n<=cap:=by
  rcases hS.shape with⟨e,h0⟩|⟨g,cap,e,h⟩
  ·omega
  ·exact⟨g,cap,e,h⟩
 obtain⟨cur,jw,-,mu,dU,Ah⟩:=hS.row
 rw[Nat.mul_one] at dU Ah
 rw[show(i:Int)+1=((i+1:Nat):Int) by omega]
 refine It (e:=[(0,_),(1,_),(2,_)]) Tryz.func183 rfl Tryz.ntmps183 rfl rfl (qN rfl (M6 rfl (qM rfl (M4 rfl rfl (M4 rfl rfl (NX NQ rfl (qV (zg2 NQ MO rfl rfl rfl rfl ⟨by omega,by omega,je⟩) ?_)))))))
 refine LO (run_seq (qN rfl (M4 rfl rfl (NS rfl rfl (MC (LO (An rfl (py (qN rfl (LM rfl (NX NQ rfl (LU rfl (run_seq ?_)))))))))))))
 refine NF (λw'=>Kp (λk=>k=g) w w') rfl ?_
 have h0:=Ext.Ma w
 refine M9 0 rfl rfl ((Ext.Ma w).kp) (M9 1 rfl rfl ((Ext.Ma w).kp) (M9 3 rfl rfl ((Ext.Ma w).kp) (M9 4 rfl rfl ((Ext.Ma w).kp) (LS 2 rfl (z6g NQ MO rfl rfl (by omega)) ((Ext.Ma w).kp) (LS 5 rfl (UW NQ MO rfl rfl (by omega) je) ((Ext.Ma w).kp) ?_)))))
 have cN:Sl w (.slice (some ⟨g,0,none⟩) i cap) 3 1 i (cs.take i):=by
  have:=jw.sl (n:=i) (by omega) mu (by rw[Nat.mul_one];exact dU);rw[Nat.mul_one,show cur.take i=cs.take i by rw[<-Ah,List.take_take,Nat.min_eq_left (by omega)]] at this;exact this
 have Ai:(cur.drop (i+1)).take (n-(i+1))=cs.drop (i+1):=by
  rw[<-Ah,List.drop_take]
 have hR:Rd w.drew (.slice (if cap=i+1 then some ⟨g,0,none⟩ else(some (⟨g,0,none⟩:Addr)).map (·.add ((i+1)*1))) (n-(i+1)) (cap-(i+1))) 1 (n-(i+1)) (cs.drop (i+1)):=by
  by_cases hc:cap=i+1
  ·rw[if_pos hc,show n-(i+1)=0 by omega,List.drop_eq_nil_of_le (by omega)];exact RD
  ·rw[if_neg hc,Option.map_some,Nz,Nat.zero_add,Nat.mul_one,<-Ai];exact(jw.ext h0).rd (by omega)
 refine qO 6 (VP (i:=6) rfl rfl rfl (zeV NQ MO (by decide) rfl rfl (cN.ext h0) hR (λc hc=>gK c (List.mem_of_mem_drop hc)) (by omega)) ?_)
 rintro _ w1 ⟨rfl,cO,ar⟩
 refine⟨h0.kp.trans ar,?_⟩
 have e1:i+(n-(i+1))=n-1:=by omega
 rw[e1] at cO⊢
 obtain⟨cur3,uA,GL,GM,uB,uC⟩:=cO.row
 rw[Nat.mul_one] at uB uC
 refine LS 7 rfl (NK rfl) (h0.kp.trans ar) (qE (qN rfl (M4 rfl rfl (NX NQ rfl (LM rfl (qV (zbh NQ MO rfl rfl rfl (by omega) (by omega)) (z7n rfl (zfZ NQ MO rfl rfl uA (by omega)) ?_)))))))
 rintro _ w2 ⟨uD,ax⟩
 refine LO (Mn.qb (e:=[(0,_),(6,_)]) ?_)
 refine qN rfl (LM rfl (LU rfl (LP Tryz.func183 rfl ?_)))
 have uE:=uD.sl (n:=n-1) (cap:=cap) (by omega) mu (by rw[Yg _ _ _ (by simp;omega),uB,Nat.mul_one])
 rw[Nat.mul_one,WU _ _ _ _ (by omega) (by omega),uC] at uE
 exact⟨_,rfl,uE,((h0.kp.trans ar).trans ax).LZ (λk hk=>by subst hk;rfl),λg' cH=>cH⟩
end Go.Proofs.YtpldpcjdjcgicaaGreatDoor
namespace Go.Proofs.YtpldpcjdjcgicaaGreatDoor
open Go Go.RowKit
open Go.ChangeMaps (setBlock)
def P3 {κ:Type}(K:κ->Value)(w:World)(m:Nat)(kv:List (κ×Value)):Prop:=(∃es clock,w.heap[m]? =some (.map es clock)/\QC K es.toList kv/\(∀e∈es.toList,e.born<clock)/\(es.toList.map (·.born)).Nodup)/\(kv.map (·.1)).Nodup
section
variable {κ:Type}[DecidableEq κ]{K:κ->Value}
theorem P3.l {w:World}{m:Nat}{kv:List (κ×Value)}(h:P3 K w m kv):Ts K w m kv:=by
 obtain⟨⟨es,c,h1,h2,-,-⟩,h3⟩:=h
 exact⟨⟨es,c,h1,h2⟩,h3⟩
theorem P3.lt {w:World}{m:Nat}{kv:List (κ×Value)}(h:P3 K w m kv):m<w.heap.size:=h.l.lt
theorem P3.nd {w:World}{m:Nat}{kv:List (κ×Value)}(h:P3 K w m kv):(kv.map (·.1)).Nodup:=h.2
theorem P3.kp {S:Nat->Prop}{w w':World}{m:Nat}{kv:List (κ×Value)}(h:P3 K w m kv)(k:Kp S w w')(hn:¬S m):P3 K w' m kv:=by
 obtain⟨⟨es,c,h,he⟩,hd⟩:=h
 exact⟨⟨es,c,k.heap h hn,he⟩,hd⟩
theorem P3.ext {w w':World}{m:Nat}{kv:List (κ×Value)}(h:P3 K w m kv)(k:Ext w w'):P3 K w' m kv:=h.kp k id
theorem P3.new {w:World}{m:Nat}(h:w.heap[m]? =some (.map #[] 0)):P3 K w m []:=⟨⟨#[],0,h,rfl,by simp,by simp⟩,by simp⟩
def delL:List (κ×Value)->κ->List (κ×Value)
 |[],_=>[]
 |(a,v)::r,k=>if k=a then r else(a,v)::delL r k
theorem z1d:∀(kv:List (κ×Value)) (k:κ),(delL kv k).Sublist kv
 |[],_=> .slnil
 | (a, v) :: r, k => by
   simp only[delL];split
   ·exact List.sublist_cons_self _ _
   ·exact(z1d r k).cons_cons _
theorem YU {kv:List (κ×Value)}{k:κ}(h:k∉kv.map (·.1)):getL kv k=none:=by
 induction kv with
 |nil=>rfl
 | cons p r ih =>
   obtain⟨a,u⟩:=p;simp only[List.map_cons,List.mem_cons,not_or] at h;simp only[getL,h.1,if_false];exact ih h.2
theorem zbN {kv:List (κ×Value)}(hn:(kv.map (·.1)).Nodup)(k x:κ):getL (delL kv k) x=if x=k then none else getL kv x:=by
 induction kv with
 |nil=>simp[delL,getL]
 | cons p r ih =>
   obtain⟨a,u⟩:=p;simp only[List.map_cons,List.nodup_cons] at hn;simp only[delL];by_cases h:k=a
   ·subst h;simp only[if_true,getL];by_cases hx:x=k
    ·subst hx;simp[YU hn.1]
    ·simp[hx]
   ·simp only[h,if_false,getL,ih hn.2];by_cases hx:x=a
    ·subst hx;simp[Ne.symm h]
    ·simp[hx]
theorem z0J {kv:List (κ×Value)}(hn:(kv.map (·.1)).Nodup){k:κ}{v:Value}(h:(k,v)∈kv):getL kv k=some v:=by
 induction kv with
 |nil=>cases h
 | cons p r ih =>
   obtain⟨a,u⟩:=p;simp only[List.map_cons,List.nodup_cons] at hn;rcases List.mem_cons.1 h with e| h
   ·cases e;simp[getL]
   ·have:k≠a:=λe=>hn.1 (List.mem_map.2 ⟨(k,v),h,e⟩);simp only[getL,this,if_false];exact ih hn.2 h
theorem VL {td:TypeDesc}(hs:∀a b,Instr.sameNow td (K a) (K b)=some (decide (a=b))):∀{es:List MapEntry} {kv:List (κ×Value)} (i:Nat) {k:κ} {v:Value},QC K es kv->getL kv k=some v->
  ∃j,Instr.findNow td (K k) es i=some (some (i+j,v))/\j<es.length/\QC K (es.eraseIdx j) (delL kv k)
 | e :: es, (a, v') :: kv, i, k, v, h, hg => by
   simp only[QC,List.map_cons,List.cons.injEq,Prod.mk.injEq] at h;simp only[getL] at hg;split at hg
   ·rename_i he
    subst he;cases hg;refine⟨0,by simp[Instr.findNow,h.1.1,hs,h.1.2],by simp,?_⟩;simp only[List.eraseIdx_zero,List.tail_cons,delL,if_true];exact h.2
   ·rename_i bI
    obtain⟨j,h1,h2,h3⟩:=VL hs (i+1) h.2 hg;refine⟨j+1,?_,by simp;omega,?_⟩
    ·simp only[Instr.findNow,h.1.1,hs,bI,decide_false,h1]
     congr 3;omega
    ·simp only[delL,bI,if_false,List.eraseIdx_cons_succ,QC,List.map_cons,List.cons.injEq,Prod.mk.injEq]
     exact⟨h.1,h3⟩
 |[],[],_,_,_,_,hg=>by simp[getL] at hg
 |[],_::_,_,_,_,h,_=>by simp[QC] at h
 |_::_,[],_,_,_,h,_=>by simp[QC] at h
variable {P:Program}{e:Env}{d:Option Nat}{ty t kt el:TypeId}{pos:String}{aft:Array Edge}{g:Option (Nat×Bool)}{x y u:Operand}{w:World}{m:Nat}{kv:List (κ×Value)}{z:Value}{size bytes:Nat}{k:κ}{v:Value}
theorem zaw (ht:P.underlying t=some (.map kt el))(hK:Ky P kt K)(hx:look e x=some (.map (some m)))(hy:look e y=some (K k))(hu:look e u=some v)(hm:P3 K w m kv):
  Zp P e ⟨d,.mapUpdate t x y u,ty,pos,aft,g⟩ w λw'=>P3 K w' m (putL kv k v)/\Kp (λi=>i=m) w w':=by
 have aP:=hm.lt
 obtain⟨⟨es,c,hh,he,bR,bY⟩,hd⟩:=hm
 have ro:=λb=>hK.same.choose_spec.2.2 w b 9999 k
 have hg:(getObj m).run P w= .ok (.map es c) w:=by simp[getObj,Sem.run,hh]
 have gn:∀o,(setObj m o).run P w= .ok () (w.putObj m o):=λo=>by simp[setObj,Sem.run,hh,World.putObj]
 cases kV:getL kv k with
 | none =>
   have hf:=Qt (P:=P) (w:=w) hK he kV;refine⟨w.putObj m (.map (es.push {key:=K k,val:=v,born:=c}) (c+1)),fun ρ hρ=>?_,⟨⟨_,_,World.putObj_heap_same aP,?_,?_,?_⟩,?_⟩,Ng w m _⟩
   ·simp[execOp,hρ _ _ hx,hρ _ _ hy,hρ _ _ hu,Instr.mapUpdate,run_underlying ht,hg,ro,hf,gn]
   ·rw[R1 _ _ _ kV]
    simpa[QC] using he
   ·intro x hx;simp at hx;rcases hx with hx|rfl
    ·have:=bR x (by simpa using hx);omega
    ·simp
   ·simp only[Array.toList_push,List.map_append,List.map_cons,List.map_nil];refine List.nodup_append.2 ⟨bY,by simp,λa ha b hb jf=>?_⟩;simp at hb;subst hb;subst jf;obtain⟨x,hx,ES⟩:=List.mem_map.1 ha;have:=bR x hx;omega
   ·rw[R1 _ _ _ kV,List.map_append,List.nodup_append];refine⟨hd,by simp,λa ha b hb jf=>?_⟩;simp at hb;subst hb;subst jf
    exact Xx kV ha
 | some v0 =>
   obtain⟨j,hf,⟨ej,GN,Aj⟩,mv⟩:=QA (P:=P) (w:=w) hK he kV
   have kw:(es.modify j λe=>{e with key:=K k,val:=v}).toList.map (·.born)=es.toList.map (·.born):=by
    apply List.ext_getElem?;intro i;simp only[Array.toList_modify,List.getElem?_map,List.getElem?_modify];by_cases gT:j=i
    ·subst gT;simp;cases es[j]?<;>rfl
    ·simp[gT]
   refine⟨w.putObj m (.map (es.modify j λe=>{e with key:=K k,val:=v}) c),fun ρ hρ=>?_,⟨⟨_,_,World.putObj_heap_same aP,mv v,?_,?_⟩,?_⟩,Ng w m _⟩
   ·simp[execOp,hρ _ _ hx,hρ _ _ hy,hρ _ _ hu,Instr.mapUpdate,run_underlying ht,hg,ro,hf,gn,GN,Aj,Instr.keyThatStays,hK.bits]
   ·intro x hx;have:x.born∈es.toList.map (·.born):=by rw[<-kw];exact List.mem_map.2 ⟨x,hx,rfl⟩
    obtain⟨y,hy,ET⟩:=List.mem_map.1 this;rw[<-ET];exact bR y hy
   ·rw[kw];exact bY
   ·rw[YX _ _ _ (by rw[kV];rfl)];exact hd
theorem zb1 (ht:P.underlying t=some (.map kt el))(hK:Ky P kt K)(hx:look e x=some (.map (some m)))(hy:look e y=some (K k))(hm:P3 K w m kv){ts:Array TypeId}(tY:ts[0]? =some t):
  Yp P e ⟨d,.call ⟨.builtin .delete,#[x,y],ts⟩,ty,pos,aft,g⟩ w λv' w'=>P3 K w' m (delL kv k)/\Kp (λi=>i=m) w w':=by
 have aP:=hm.lt
 obtain⟨⟨es,c,hh,he,bR,bY⟩,hd⟩:=hm
 obtain⟨⟨td,hu,hs,Ak⟩,-⟩:=hK
 have ro:=λb=>Ak w b 9999 k
 have hg:(getObj m).run P w= .ok (.map es c) w:=by simp[getObj,Sem.run,hh]
 have gn:∀o,(setObj m o).run P w= .ok () (w.putObj m o):=λo=>by simp[setObj,Sem.run,hh,World.putObj]
 have dp:=(z1d kv k).map (·.1)
 cases kV:getL kv k with
 | none =>
   have hf:(Instr.findKey kt (K k) es.toList).run P w= .ok none w:=by simp[Instr.findKey,run_underlying hu,S0 hs 0 he kV]
   have ky:delL kv k=kv:=by
    clear he hh hd dp
    induction kv with
    |nil=>rfl
    | cons p r ih =>
      obtain⟨a,u⟩:=p;simp only[getL] at kV;split at kV
      ·cases kV
      ·rename_i bI;simp only[delL,bI,if_false,ih kV]
   refine⟨.tuple #[],w.putObj m (.map es c),fun ρ hρ=>?_,⟨⟨es,c,World.putObj_heap_same aP,by rw[ky];exact he,bR,bY⟩,by rw[ky];exact hd⟩,Ng w m _⟩
   simp[execOp,resolve,invoke,builtin,hρ _ _ hx,hρ _ _ hy,Builtin.delete_,tY,run_underlying ht,hg,ro,hf,gn,Result.andThen]
 | some v0 =>
   obtain⟨j,uF,hj,mv⟩:=VL hs 0 he kV
   have hf:(Instr.findKey kt (K k) es.toList).run P w= .ok (some (j,v0)) w:=by
    rw[Nat.zero_add] at uF;simp[Instr.findKey,run_underlying hu,uF]
   have Al:(es.eraseIdxIfInBounds j).toList=es.toList.eraseIdx j:=by
    simp at hj;simp[Array.eraseIdxIfInBounds,hj]
   refine⟨.tuple #[],w.putObj m (.map (es.eraseIdxIfInBounds j) c),fun ρ hρ=>?_,⟨⟨_,c,World.putObj_heap_same aP,by rw[Al];exact mv,?_,?_⟩,dp.nodup hd⟩,Ng w m _⟩
   ·simp[execOp,resolve,invoke,builtin,hρ _ _ hx,hρ _ _ hy,Builtin.delete_,tY,run_underlying ht,hg,ro,hf,gn,Result.andThen]
   ·rw[Al];exact λx hx=>bR x ((List.eraseIdx_sublist _ _).subset hx)
   ·rw[Al];exact((List.eraseIdx_sublist _ _).map _).nodup bY
end
def bitsN:Nat->Nat->List Bool
 |0,_=>[]
 |n+1,v=>v.testBit n::bitsN n v
def valB:List Bool->Nat
 |[]=>0
 |b::l=>b.toNat*2^l.length+valB l
@[simp] theorem bitsN_length:∀(n v:Nat),(bitsN n v).length=n
 |0,_=>rfl
 |n+1,v=>by simp[bitsN,bitsN_length n v]
theorem Nu:∀(l:List Bool),valB l<2^l.length
 |[]=>by simp[valB]
 | b :: l => by
   have:=Nu l;simp only[valB,List.length_cons,Nat.pow_succ];have:b.toNat<=1:=by cases b<;>simp
   have:b.toNat*2^l.length<=1*2^l.length:=Nat.mul_le_mul_right _ this;omega
theorem Oi:∀(a b:List Bool),valB (a++b)=valB a*2^b.length+valB b
 |[],b=>by simp[valB]
 | x :: a, b => by
   rw[List.cons_append,valB,Oi a b,valB,List.length_append,Nat.pow_add,Nat.add_mul,Nat.mul_assoc];omega
theorem Om:∀(m n v:Nat),bitsN (m+n) v=bitsN m (v / 2^n)++bitsN n v
 |0,n,v=>by simp[bitsN]
 | m + 1, n, v => by
   rw[show m+1+n=(m+n)+1 by omega,bitsN,bitsN,List.cons_append,Om m n v,Nat.testBit_div_two_pow]
theorem MJ:∀(n v:Nat),valB (bitsN n v)=v%2^n
 |0,v=>by simp[bitsN,valB,Nat.mod_one]
 | n + 1, v => by
   rw[bitsN,valB,bitsN_length,MJ n v,Nat.pow_succ,Nat.mod_mul,Nat.testBit_eq_decide_div_mod_eq];rcases Nat.mod_two_eq_zero_or_one (v / 2^n) with e|e<;>simp[e]<;>omega
theorem SD:∀{n v u:Nat},v%2^n=u%2^n->bitsN n v=bitsN n u
 |0,_,_,_=>rfl
 | n + 1, v, u, h => by
   have h1:v.testBit n=u.testBit n:=by
    have e1:(v%2^(n+1)).testBit n=v.testBit n:=by rw[Nat.testBit_mod_two_pow];simp
    have e2:(u%2^(n+1)).testBit n=u.testBit n:=by rw[Nat.testBit_mod_two_pow];simp
    rw[<-e1,<-e2,h]
   have h2:v%2^n=u%2^n:=by
    have e1:v%2^(n+1)%2^n=v%2^n:=Nat.mod_mod_of_dvd _ (Nat.pow_dvd_pow 2 (Nat.le_succ n));have e2:u%2^(n+1)%2^n=u%2^n:=Nat.mod_mod_of_dvd _ (Nat.pow_dvd_pow 2 (Nat.le_succ n));rw[<-e1,<-e2,h]
   rw[bitsN,bitsN,h1,SD h2]
theorem UG:∀{a b:List Bool},a.length=b.length->valB a=valB b->a=b
 |[],[],_,_=>rfl
 | x :: a, y :: b, hl, hv => by
   have hl':a.length=b.length:=by simpa using hl
   have h1:=Nu a;have h2:=Nu b;rw[valB,valB,hl'] at hv;rw[hl'] at h1
   have hx:x=y:=by
    cases x<;>cases y<;>simp at hv⊢<;>omega
   subst hx;rw[UG hl' (by omega)]
theorem XK (l:List Bool):bitsN l.length (valB l)=l:=UG (by simp) (by rw[MJ,Nat.mod_eq_of_lt (Nu l)])
/-! ### Bytes -/
def Md (s:Bytes):List Bool:=s.flatMap λc=>bitsN 8 c.toNat
@[simp] theorem bitsT_length (s:Bytes):(Md s).length=8*s.length:=by
 induction s with
 |nil=>rfl
 |cons c s ih=>simp[Md] at ih⊢;omega
theorem Ub (a b:Bytes):Md (a++b)=Md a++Md b:=by simp[Md]
def Sm (d:List Bool):UInt8:=UInt8.ofNat (valB d*2^(8-d.length))
def Mi (l:List Bool):Bytes:=(List.range ((l.length+7) / 8)).map λi=>Sm ((l.drop (8*i)).take 8)
theorem Mv (l:List Bool):(Mi l).length=(l.length+7) / 8:=by simp[Mi]
theorem TT {c d:List Bool}(hc:c.length%8=0)(h1:1<=d.length)(h8:d.length<=8):Mi (c++d)=Mi c++[Sm d]:=by
 obtain⟨m,hm⟩:∃m,c.length=8*m:=⟨c.length / 8,by omega⟩
 unfold Mi
 rw[List.length_append,show(c.length+d.length+7) / 8=m+1 by omega,show(c.length+7) / 8=m by omega,List.range_succ,List.map_append]
 congr 1
 ·apply List.map_congr_left;intro i hi;rw[List.mem_range] at hi;rw[List.drop_append_of_le_length (by omega),List.take_append_of_le_length (by rw[List.length_drop];omega)]
 ·simp only[List.map_cons,List.map_nil];rw[<-hm,List.drop_left,List.take_of_length_le h8]
theorem z5K {d e:List Bool}(h:d.length+e.length<=8):(Sm (d++e)).toNat=(Sm d).toNat |||(valB e*2^(8-d.length-e.length)):=by
 have h1:=Nu d
 have h2:=Nu e
 have hp:∀(x:List Bool),x.length<=8->valB x*2^(8-x.length)<256:=λx hx=>by
  have h3:=Nu x;have:valB x*2^(8-x.length)<2^x.length*2^(8-x.length):=Nat.mul_lt_mul_of_pos_right h3 (Nat.two_pow_pos _);rw[<-Nat.pow_add,show x.length+(8-x.length)=8 by omega] at this;exact this
 have e1:(Sm (d++e)).toNat=valB (d++e)*2^(8-(d++e).length):=by
  unfold Sm;rw[UInt8.toNat_ofNat'];exact Nat.mod_eq_of_lt (hp _ (by rw[List.length_append];omega))
 have e2:(Sm d).toNat=valB d*2^(8-d.length):=by
  unfold Sm;rw[UInt8.toNat_ofNat'];exact Nat.mod_eq_of_lt (hp _ (by omega))
 rw[e1,e2,Oi,List.length_append,Nat.add_mul]
 have h5:valB d*2^e.length*2^(8-(d.length+e.length))=2^(8-d.length)*valB d:=by
  rw[Nat.mul_assoc,<-Nat.pow_add,show e.length+(8-(d.length+e.length))=8-d.length by omega,Nat.mul_comm]
 have h6:valB e*2^(8-(d.length+e.length))<2^(8-d.length):=by
  have:valB e*2^(8-(d.length+e.length))<2^e.length*2^(8-(d.length+e.length)):=Nat.mul_lt_mul_of_pos_right h2 (Nat.two_pow_pos _);rw[<-Nat.pow_add,show e.length+(8-(d.length+e.length))=8-d.length by omega] at this;exact this
 rw[h5,Nat.two_pow_add_eq_or_of_lt h6,Nat.mul_comm (2^(8-d.length)),show 8-d.length-e.length=8-(d.length+e.length) by omega]
theorem z60:Sm []=0:=by decide
theorem OD (l:List Bool):∃z,Md (Mi l)=l++List.replicate z false/\(l.length+z)%8=0/\z<8:=by
 have key : ∀ (m : Nat) (l : List Bool), l.length <= 8 * m -> ∃ z, Md (Mi l) = l ++ List.replicate z false /\ (l.length + z) % 8 = 0 /\ z < 8 := by
  intro m
  induction m with
  | zero =>
    intro l h;have:l=[]:=List.eq_nil_of_length_eq_zero (by omega);subst this
    exact⟨0,rfl,rfl,by omega⟩
  | succ m ih =>
    intro l h;by_cases h0:l=[]
    ·subst h0;exact⟨0,rfl,rfl,by omega⟩
    ·have hpos:1<=l.length:=by
      cases l with
      |nil=>exact absurd rfl h0
      |cons a r=>simp
     obtain⟨c,d,rfl,hc,h1,h8⟩:∃c d,l=c++d/\c.length%8=0/\1<=d.length/\d.length<=8:=by
      refine⟨l.take (8*((l.length-1) / 8)),l.drop (8*((l.length-1) / 8)),(List.take_append_drop _ _).symm,?_,?_,?_⟩
      ·rw[List.length_take];omega
      ·rw[List.length_drop];omega
      ·rw[List.length_drop];omega
     rw[List.length_append] at h;obtain⟨z,hz,hm,hl⟩:=ih c (by omega);have hz0:z=0:=by omega
     subst hz0;simp at hz;refine⟨8-d.length,?_,by rw[List.length_append];omega,by omega⟩;rw[TT hc h1 h8,Ub,hz,List.append_assoc]
     congr 1
     simp only[Md,List.flatMap_cons,List.flatMap_nil,List.append_nil]
     have hv:valB (d++List.replicate (8-d.length) false)=valB d*2^(8-d.length):=by
      rw[Oi,List.length_replicate]
      have:∀n,valB (List.replicate n false)=0:=λn=>by
       induction n with
       |zero=>rfl
       |succ n ih=>rw[List.replicate_succ,valB,ih];simp
      rw[this];rfl
     refine UG (by simp;omega) ?_;rw[MJ,hv];have h3:=Nu d
     have:valB d*2^(8-d.length)<2^8:=by
      have:valB d*2^(8-d.length)<2^d.length*2^(8-d.length):=Nat.mul_lt_mul_of_pos_right h3 (Nat.two_pow_pos _)
      rwa [<-Nat.pow_add,show d.length+(8-d.length)=8 by omega] at this
     unfold Sm;rw[UInt8.toNat_ofNat'];rw[Nat.mod_mod,Nat.mod_eq_of_lt this]
 exact key l.length l (by omega)
theorem z2g (c:Nat)(hc:c<256)(room n:Nat)(hr:room<=8)(hn:n<=room):valB (((bitsN 8 c).drop (8-room)).take n)=c%2^room / 2^(room-n):=by
 have e1:bitsN 8 c=bitsN (8-room) (c / 2^room)++bitsN room c:=by rw[<-Om,show 8-room+room=8 by omega]
 have e2:bitsN room c=bitsN n (c / 2^(room-n))++bitsN (room-n) c:=by rw[<-Om,show n+(room-n)=room by omega]
 rw[e1,List.drop_left' (by simp),e2,List.take_left' (by simp),MJ]
 have:c%2^room / 2^(room-n)=c / 2^(room-n)%2^n:=by
  have h2:2^room=2^(room-n)*2^n:=by rw[<-Nat.pow_add,show room-n+n=room by omega]
  rw[h2,Nat.mod_mul_right_div_self]
 rw[this]
theorem Q5 (c:UInt8)(s:Bytes):Md (c::s)=bitsN 8 c.toNat++Md s:=rfl
theorem PU:∀(k:Nat) (s:Bytes),Md (s.drop k)=(Md s).drop (8*k)
 |0,s=>by simp
 |k+1,[]=>by simp[Md]
 | k + 1, c :: s => by
   have e:(bitsN 8 c.toNat++Md s).drop (8+8*k)=(Md s).drop (8*k):=by rw[<-List.drop_drop,List.drop_left' (by simp)]
   rw[List.drop_succ_cons,PU k s,Q5,show 8*(k+1)=8+8*k by omega,e]
theorem R4:∀(k:Nat) (s:Bytes),Md (s.take k)=(Md s).take (8*k)
 |0,s=>by simp[Md]
 |k+1,[]=>by simp[Md]
 | k + 1, c :: s => by
   have e:(bitsN 8 c.toNat++Md s).take (8+8*k)=bitsN 8 c.toNat++(Md s).take (8*k):=by
    have:=List.take_length_add_append (l₁:=bitsN 8 c.toNat) (l₂:=Md s) (8*k)
    rwa [bitsN_length] at this
   rw[List.take_succ_cons,Q5,R4 k s,Q5,show 8*(k+1)=8+8*k by omega,e]
theorem z90 {s:Bytes}{i:Nat}{c:UInt8}(h:s[i]? =some c):((Md s).drop (8*i)).take 8=bitsN 8 c.toNat:=by
 rw[<-PU]
 obtain⟨hi,e⟩:=List.getElem?_eq_some_iff.1 h
 rw[List.drop_eq_getElem_cons hi,e,show Md (c::s.drop (i+1))=bitsN 8 c.toNat++Md (s.drop (i+1)) from rfl,List.take_left' (by simp)]
theorem z2a {s:Bytes}{at' n:Nat}{c:UInt8}(h:s[at' / 8]? =some c)(hn:n<=8-at'%8):valB (((Md s).drop at').take n)=c.toNat%2^(8-at'%8) / 2^(8-at'%8-n):=by
 have h1:=z90 h
 have h2:=z2g c.toNat (by have:=c.toNat_lt;omega) (8-at'%8) n (by omega) hn
 rw[<-h2,<-h1]
 congr 1
 rw[List.drop_take,List.take_take,List.drop_drop,show 8*(at' / 8)+(8-(8-at'%8))=at' by omega]
 congr 1
 omega
theorem z2O {bs e:List Bool}(h1:1<=e.length)(h8:bs.length%8+e.length<=8):∃(c:Bytes) (x y:UInt8),(if bs.length%8=0 then Mi bs++[0] else Mi bs)=c++[x]/\Mi (bs++e)=c++[y]/\y.toNat=(x.toNat |||(valB e*2^(8-bs.length%8-e.length))):=by
 obtain⟨c,d,hcd,hc,hd⟩:∃c d,bs=c++d/\c.length%8=0/\d.length=bs.length%8:=⟨bs.take (8*(bs.length / 8)),bs.drop (8*(bs.length / 8)),(List.take_append_drop _ _).symm,by rw[List.length_take];omega,by rw[List.length_drop];omega⟩
 have hb:=z5K (d:=d) (e:=e) (by omega)
 rw[<-hd]
 refine⟨Mi c,Sm d,Sm (d++e),?_,?_,hb⟩
 ·by_cases h0:d.length=0
  ·have:d=[]:=List.eq_nil_of_length_eq_zero h0;subst this;rw[if_pos (by simp),hcd,List.append_nil,z60]
  ·rw[if_neg (by omega),hcd,TT hc (by omega) (by omega)]
 ·rw[hcd,List.append_assoc,TT hc (by rw[List.length_append];omega) (by rw[List.length_append];omega)]
abbrev M7 (n:Nat):Value:= .int .u64 (n:Int)
theorem Tm {w:World}{v:Value}{T s n}{us:List Value}(h:Sl w v T s n us):oneV v=true:=by
 rcases h.shape with⟨rfl,-⟩|⟨g,c,rfl,-⟩<;>rfl
section
variable {P:Program}{e:Env}{d:Option Nat}{ty t t':TypeId}{pos:String}{aft:Array Edge}{g:Option (Nat×Bool)}{x y:Operand}{w:World}{k:IntKind}{m n:Nat}
theorem SM (hx:look e x=some (.int k (m:Int)))(hy:look e y=some (.int k (n:Int)))(hs:k.signed=false)(hm:m<2^k.bits)(h:n<=m):Y P e ⟨d,.binOp .sub t x y t',ty,pos,aft,g⟩ (.int k ((m-n:Nat):Int)) w w:=fun ρ hρ=>by
 have h1:(m:Int)-n=((m-n:Nat):Int):=by omega
 have h2:k.wrap ((m-n:Nat):Int)=((m-n:Nat):Int):=Xl hs (by omega)
 simp[execOp,go_sem,hρ _ _ hx,hρ _ _ hy,h1,h2]
theorem zcS {el:TypeId}{c:Nat}(hs:P.underlying t=some (.slice el))(he:P.underlying el=some (.int .u8))(hd:P.underlying t'=some .string)(hx:look e x=some (.slice none 0 c)):Y P e ⟨d,.convert t t' x,ty,pos,aft,g⟩ (S []) w w:=fun ρ hρ=>by
 have hr:(convert t t' (.slice none 0 c)).run P w= .ok (S []) w:=by
  rw[run_convert_bytes_string w t t' el none 0 c hs he hd];rfl
 simp only[execOp,hρ _ _ hx,Sem.run_bind,hr,Result.andThen_ok,Sem.run_pure]
theorem zc8 {el:TypeId}{gb n cap:Nat}{l:List UInt8}(hs:P.underlying t=some (.slice el))(he:P.underlying el=some (.int .u8))(hd:P.underlying t'=some .string)(hx:look e x=some (.slice (some ⟨gb,0,none⟩) n cap))(hS:Sl w (.slice (some ⟨gb,0,none⟩) n cap) el 1 n (l.map Px)):
  Y P e ⟨d,.convert t t' x,ty,pos,aft,g⟩ (S l) w w:=by
 obtain⟨cur,hr,-,-,-,ht⟩:=hS.row
 refine z2l hs he hd hx hr.LN (by rw[List.drop_zero,<-ht,Nat.mul_one]) ?_
 have:=hS.len
 rw[List.length_map] at this
 omega
end
theorem MX {w:World}{b off n cap i:Nat}{vs:List Value}{v:Value}(h:Rd w (.slice (some ⟨b,off,none⟩) n cap) 1 n vs)(hv:vs[i]? =some v):w.cell? ⟨b,off+i*1,none⟩=some v:=by
 rcases h.2 with⟨c,hc,h0⟩|⟨b',off',cap',e,hc⟩
 ·have hi:=(List.getElem?_eq_some_iff.1 hv).1;have:=h.1;omega
 ·cases e;rw[Nat.mul_one];exact hc i v hv
structure WrM (w:World)(p:Nat)(bv:Value)(bs:List Bool):Prop where
 LN:LX w p [bv,I (bs.length:Int)] 262
 sl:Sl w bv 5 1 (Mi bs).length ((Mi bs).map Px)
 ne:bv.ownBlock≠some p
def Ys (p:Nat)(bv:Value)(k:Nat):Prop:=k=p\/bv.ownBlock=some k
def UH (w:World)(p:Nat)(bs:List Bool)(F:Nat->Prop):Prop:=∃bv,WrM w p bv bs/\∀k,F k↔Ys p bv k
def WrR (p:Nat)(F:Nat->Prop)(w w':World)(bs:List Bool):Prop:=∃F',UH w' p bs F'/\Kp F w w'/\∀k,F' k->F k\/w.heap.size<=k
section
variable {w w':World}{p:Nat}{bs:List Bool}{F S:Nat->Prop}
theorem UH.lt (h:UH w p bs F){k:Nat}(hk:F k):k<w.heap.size:=by
 obtain⟨bv,hM,hF⟩:=h
 rcases (hF k).1 hk with e| e
 ·rw[e];exact hM.LN.lt
 ·exact hM.sl.lt e
theorem UH.kp (h:UH w p bs F)(k:Kp S w w')(hn:∀i,F i->¬S i):UH w' p bs F:=by
 obtain⟨bv,hM,hF⟩:=h
 exact⟨bv,⟨k.LN hM.LN (hn p ((hF p).2 (.inl rfl))),hM.sl.kp k (λg hg=>hn g ((hF g).2 (.inr hg))),hM.ne⟩,hF⟩
theorem UH.ext (h:UH w p bs F)(k:Ext w w'):UH w' p bs F:=h.kp k.kp λ_ _=>id
end
section
variable {w:World}{p:Nat}{bs:List Bool}{F:Nat->Prop}
theorem QX (w:World):Mm Tryz.prog 102 [] w λv w'=>∃p F,v=ptr p 0/\UH w' p [] F/\Ext w w'/\∀k,F k->w.heap.size<=k:=by
 refine It (e:=[]) Tryz.func102 rfl Tryz.ntmps102 rfl rfl (qN rfl (M6 rfl (qM rfl (qV (OJ (cs:=[_,_]) zbr rfl zdN rfl rfl) (LV rfl rfl (NN rfl rfl) ?_)))))
 rintro _ w1 ⟨p,rfl,hp,hx,hB⟩
 refine LU rfl (LP Tryz.func102 rfl ?_)
 exact⟨_,rfl,p,_,rfl,⟨_,⟨hB,Sl.nil _ _ _,by simp[Value.ownBlock]⟩,λ_=>Iff.rfl⟩,hx,λk hk=>by
  rcases hk with e| e
  ·omega
  ·simp[Value.ownBlock] at e⟩
theorem z6X (h:UH w p bs F)(v n:Nat)(hn:n<=64)(hv:v<2^n)(hl:bs.length+n<=1000000000):
  Mm Tryz.prog 142 [ptr p 0,M7 v,I (n:Int)] w λu w'=>u= .tuple #[]/\WrR p F w w' (bs++bitsN n v):=by
 obtain⟨bv,hM,hF⟩:=h
 have GO:v<18446744073709551616:=by
  have:=Nat.pow_le_pow_right (show 0<2 by decide) hn;have e:(2:Nat)^64=18446744073709551616:=by decide
  omega
 have f7:maxLen=9223372036854775807:=rfl
 refine It (e:=[(0,_),(1,_),(2,_)]) Tryz.func142 rfl Tryz.ntmps142 rfl rfl (LK (Oe (α:=Nat×Value×List Bool) ((n,bv,bs)) (λx=>[(0,ptr p 0),(1,M7 v),(2,I (x.1:Int))]) (λx w'=>x.1<=n/\WrM w' p x.2.1 x.2.2/\x.2.2=bs++bitsN (n-x.1) (v / 2^x.1)/\Kp F w w'/\(∀k,Ys p x.2.1 k->F k\/w.heap.size<=k)) (λx=>x.1) ?hI ?hround))
 case hI=>exact⟨Nat.le_refl _,hM,by rw[Nat.sub_self];simp[bitsN],Kp.refl _ _,λk hk=> .inl ((hF k).2 hk)⟩
 case hround =>
  rintro⟨k,bv1,b1⟩ w1 ⟨hk,dG,bR,aK,iB⟩ ih;dsimp only at hk dG bR iB;have ai:=dG.LN;have GP:b1.length<=bs.length+n:=by rw[bR,List.length_append,bitsN_length];omega
  have jx:b1.length&&&7=b1.length%8:=Nat.and_two_pow_sub_one_eq_mod b1.length 3;have mw:=aK.size;have dZ:=ai.lt
  try dsimp only
  refine run_seq (qN rfl (LM rfl (Nc rfl rfl (LO (LY rfl (λaP=>?_) (λaP=>?_))))))
  ·have gL : 0 < k := by omega
   obtain⟨take,mx⟩:∃take,min k (8-b1.length%8)=take:=⟨_,rfl⟩;have rp:1<=take/\take<=k/\take<=8-b1.length%8:=by omega
   obtain⟨e,he⟩:∃e,bitsN take (v / 2^(k-take))=e:=⟨_,rfl⟩;have nW:e.length=take:=by rw[<-he];simp
   have EU:valB e=v / 2^(k-take)%2^take:=by rw[<-he,MJ]
   obtain⟨c,x,y,hL,hY,dl⟩:=z2O (bs:=b1) (e:=e) (by omega) (by omega);refine py (LK (run_seq (qN rfl (LM rfl (Mp rfl (M0 T5 rfl (qV (LR U3 rfl rfl ai rfl) (qV (Tw rfl rfl (by omega) (by omega)) ?_))))))));rw[jx];refine NS rfl rfl (LO (MA (λe' w'=>e'=[(0,ptr p 0),(1,M7 v),(2,I (k:Int))]/\∃bv2,LX w' p [bv2,I (b1.length:Int)] 262/\Sl w' bv2 5 1 (c++[x]).length ((c++[x]).map Px)/\bv2.ownBlock≠some p/\Kp F w w'/\∀k,Ys p bv2 k->F k\/w.heap.size<=k) ?my (λmy=>?mz)))
   case my=>
    rintro e' w2 ⟨rfl,bv2,am,cN,f9,ao,rq⟩
    obtain⟨g2,c2,rfl,eI⟩:∃g cp,bv2= .slice (some ⟨g,0,none⟩) (c++[x]).length cp/\(c++[x]).length<=cp:=by
     rcases cN.shape with⟨-,e⟩| h
     ·simp at e
     ·exact h
    have dU:(c++[x]).length=c.length+1:=by simp
    have GQ:p≠g2:=λe=>f9 (by rw[e];rfl);have jg:(Mi (b1++e)).length=c.length+1:=by rw[hY];simp
    rw[Mv,List.length_append] at jg;obtain⟨T,hT⟩:∃T,2^take=T:=⟨_,rfl⟩;obtain⟨D,hD⟩:∃D,2^(k-take)=D:=⟨_,rfl⟩;obtain⟨R,hR⟩:∃R,2^(8-b1.length%8-take)=R:=⟨_,rfl⟩;rw[hT,hD] at EU;rw[nW,hR] at dl
    have EV:1<=T/\T<=256:=by
     rw[<-hT];exact⟨Nat.two_pow_pos _,by have:=Nat.pow_le_pow_right (show 0<2 by decide) (show take<=8 by omega);simpa using this⟩
    have iG:(v / D)&&&(T-1)=v / D%T:=by rw[<-hT];exact Nat.and_two_pow_sub_one_eq_mod _ _
    have KD:v / D<=v:=Nat.div_le_self _ _;have GR:v / D%T<T:=Nat.mod_lt _ (by omega)
    have KE:valB e*R<256:=by
     have h1:=Nu e;rw[nW,hT] at h1;have h2:valB e*R<T*R:=Nat.mul_lt_mul_of_pos_right h1 (by rw[<-hR];exact Nat.two_pow_pos _);have h3:T*R=2^(8-b1.length%8):=by rw[<-hT,<-hR,<-Nat.pow_add,show take+(8-b1.length%8-take)=8-b1.length%8 by omega]
     have h4:=Nat.pow_le_pow_right (show 0<2 by decide) (show 8-b1.length%8<=8 by omega);have h5:(2:Nat)^8=256:=by decide
     omega
    have cV:=x.toNat_lt;refine qN rfl (LM rfl (Mp rfl (M0 T5 rfl (qV (LR U3 rfl rfl am rfl) (qV (Tw rfl rfl (by omega) (by omega)) ?_)))));rw[jx];refine NP rfl rfl ?_;rw[show(8-((b1.length%8:Nat):Int))=((8-b1.length%8:Nat):Int) by omega];refine M6 rfl (qM rfl (M4 rfl rfl (qV (ymi rfl rfl) ?_)));rw[show min (k:Int) ((8-b1.length%8:Nat):Int)=((take:Nat):Int) by omega];have hg:=Ext.Ma w2;refine LU rfl (run_seq (NF (λw'=>Ext w2 w') rfl (M9 0 rfl rfl (hg) (M9 1 rfl rfl (hg) (M9 2 rfl rfl (hg) (LS 3 rfl (TF rfl rfl (by omega)) hg (M9 5 rfl rfl (hg) ?_)))))));rw[show((k:Int)-(take:Int))=((k-take:Nat):Int) by omega];refine LS 4 rfl (Qm (k-take) D rfl rfl (by show k-take<=64;omega) hD) hg ?_;refine LS 6 rfl (NJ take T rfl rfl (by omega) hT) hg ?_;rw[show(1*T)%18446744073709551616=T by omega];refine LS 7 rfl (SM (n:=1) rfl rfl rfl (by show T<2^64;omega) (by omega)) hg ?_;refine LS 8 rfl (QT rfl rfl (by omega) (by omega)) hg ?_;rw[iG];refine LS 9 rfl (z0G rfl Ns U5) hg ?_;rw[show v / D%T%256=valB e by rw[EU];exact Nat.mod_eq_of_lt (Nat.lt_of_lt_of_le GR EV.2)];have aq:=hg.LN am;have cO:=cN.ext hg;have ag:Ext w2.drew w2.drew.drew:=Ext.Ma w2.drew;refine LS 10 rfl (NK rfl) hg (qE (run_seq (Me [19] (λw'=>Ext w2.drew w') (by kernel_rfl) rfl (qL [1,2,3,10,11,17,18,19] 0 rfl (λ_ h=>My rfl) ag (qL [2,3,10,11,17,18,19] 1 rfl (λ_ h=>MS rfl) ag (qL [3,10,11,17,18,19] 2 rfl (λ_ h=>Mo Ug rfl) ag (qL [10,11,17,18,19] 3 rfl (λ_ h=>LR N1 rfl rfl (h.LN aq) rfl) ag (qL [5,6,7,8,9,10,11,17,18,19] 4 rfl (λ_ h=>My rfl) ag (qL [6,7,8,9,10,11,17,18,19] 5 rfl (λ_ h=>MS rfl) ag (qL [7,8,9,10,11,17,18,19] 6 rfl (λ_ h=>Mo Ug rfl) ag (qL [8,9,10,11,17,18,19] 7 rfl (λ_ h=>LR N1 rfl rfl (h.LN aq) rfl) ag (qL [9,10,11,17,18,19] 8 rfl (λ_ h=>OZ N1 rfl) ag (qL [16,17,18,19] 12 rfl (λ_ h=>My rfl) ag ?_)))))))))))));refine qL [15,16,17,18,19] 13 rfl (λ_ h=>My rfl) ag (qL [15,16,17,18,19] 14 rfl (λ_ h=>My rfl) ag (qL [16,17,18,19] 15 rfl (λ_ h=>TF rfl rfl (by omega)) ag (qL [10,11,17,18,19] 9 rfl (λ_ h=>TF rfl rfl (by omega)) ag ?_)));rw[show(((c++[x]).length:Int)-1)=((c.length:Nat):Int) by omega];refine qL [11,17,18,19] 10 rfl (λ_ h=>MN N1 TQ rfl rfl (by omega)) ag (qL [17,18,19] 11 rfl (λ_ hS=>Mt U5 rfl rfl (MX (cO.rd.ext hS) (show((c++[x]).map Px)[c.length]? =some (Px x) by simp))) ag ?_);rw[show(((8-b1.length%8:Nat):Int)-(take:Int))=((8-b1.length%8-take:Nat):Int) by omega];refine qL [17,18,19] 16 rfl (λ_ h=>zfY (8-b1.length%8-take) R rfl rfl (by omega) hR) ag ?_;rw[show valB e*R%256=valB e*R by omega];refine qL [18,19] 17 rfl (λ_ h=>zeH rfl rfl (by omega) (by omega)) ag (qL [19] 18 rfl (λ_ h=>MN N1 TQ rfl rfl (by omega)) ag (Pv [19] (qO 19 (Mx (i:=19) rfl rfl (Of TQ rfl rfl rfl (cO.ext ag) (by simp)) ?_))))
    rintro w4 ⟨ee,ax⟩;refine⟨trivial,?_⟩
    rw[show((c++[x]).map Px).set (0+c.length*1) (.int .u8 ((x.toNat |||valB e*R:Nat):Int))=(c++[y]).map Px by
     rw[Nat.zero_add,Nat.mul_one,List.map_append,List.map_append,List.set_append_right _ _ (by simp)]
     simp[Px,dl]] at ee
    have aM:=ax.LN (ag.LN aq) GQ;refine qE (qN rfl (LM rfl (Mp rfl (M0 T5 rfl (qV (LR U3 rfl rfl aM rfl) (LM rfl (MK rfl rfl (Mp rfl (M0 T5 rfl (M1 rfl (NC MO rfl rfl rfl aM (by simp)) ?_))))))))));rintro w5 ⟨aF,aj⟩;rw[show((b1.length:Int)+(take:Int))=(((b1++e).length:Nat):Int) by rw[List.length_append,nW];omega] at aF;replace aF:LX w5 p [.slice (some ⟨g2,0,none⟩) (c++[x]).length c2,I ((b1++e).length:Int)] 262:=aF
    have gp:=ee.kp aj (λg hg e=>by
                         have:g2=g:=by simpa[Value.ownBlock] using hg
                         omega)
    refine LO (LQ rfl (M4 rfl rfl (NP rfl rfl (LU rfl (LL ?_)))));rw[show((k:Int)-(take:Int))=((k-take:Nat):Int) by omega];refine(ih (k-take,.slice (some ⟨g2,0,none⟩) (c++[x]).length c2,b1++e) w5 ⟨by dsimp only;omega,⟨aF,?_,f9⟩,?_,?_,rq⟩ (by dsimp only;omega)).qb
    ·rw[hY];have e1:(c++[y]).length=(c++[x]).length:=by simp
     rw[e1];exact gp
    ·dsimp only;rw[bR,List.append_assoc]
     congr 1
     rw[<-he,show n-(k-take)=(n-k)+take by omega,Om]
     congr 2
     rw[Nat.div_div_eq_div_mul,<-Nat.pow_add,show k-take+take=k by omega]
    ·have Am:Kp (Ys p (.slice (some ⟨g2,0,none⟩) (c++[x]).length c2)) w2 w5:=((hg.trans ag).kp.trans (ax.LZ (λi e=> .inr (by rw[e];rfl)))).trans (aj.LZ (λi e=> .inl e));exact ao.LJ Am (λi hi=>(rq i hi).symm)
   case mz=>
    refine LY rfl (λh0=>?_) (λh0=>?_)
    ·rw[if_pos (by omega)] at hL;refine LQ rfl (M4 rfl rfl (Mp rfl (M0 Ug rfl (qV (LR N1 rfl rfl ai rfl) (LV rfl rfl (Uu (cs:=[_]) (zs:=[Value.int .u8 0]) N1 TQ rfl (by kernel_rfl) rfl rfl rfl (by decide)) ?_)))));rintro _ w2 ⟨b2,rfl,⟨bY,af,am⟩,cN⟩;refine LV rfl rfl (pap N1 TQ rfl (by decide) rfl rfl (dG.sl.ext af) cN.rd (by intro c hc;simp at hc;subst hc;rfl) (by rw[Mv];omega) (by rw[Mv];omega)) ?_;rintro bv3 w3 ⟨cO,ar,kz,-⟩;have aq:=ar.LN (af.LN ai) dG.ne;refine Mp rfl (M0 Ug rfl (M1 rfl (NC Tz rfl rfl (Tm cO) aq (by simp)) ?_));rintro w4 ⟨aM,ax⟩;replace aM:LX w4 p [bv3,I (b1.length:Int)] 262:=aM;refine LO ?_
     have eJ:bv3.ownBlock≠some p:=λe=>by
      rcases kz p e with e| e
      ·exact dG.ne e
      ·have:=af.size;omega
     refine(my _ _ ⟨rfl,bv3,aM,?_,eJ,?_,?_⟩).qb
     ·rw[<-hL,List.length_append,List.map_append];exact cO.kp ax (λg hg e=>eJ (e▸hg))
     ·exact aK.LJ ((af.kp.trans (ar.LZ (λk e=> .inr e))).trans (ax.LZ (λk e=> .inl e))) (λi hi=>(iB i hi).symm)
     ·intro i hi;rcases hi with e| e
      ·exact iB i (.inl e)
      ·rcases kz i e with e| e
       ·exact iB i (.inr e)
       ·have:=af.size;exact .inr (by omega)
    ·rw[if_neg (by omega)] at hL;refine py ?_;exact(my _ _ ⟨rfl,bv1,ai,by rw[<-hL];exact dG.sl,dG.ne,aK,iB⟩).qb
  ·have:k=0:=by omega
   subst this;refine LW rfl (N9 Tryz.func142 rfl (⟨_,rfl,rfl,_,⟨bv1,?_,λ_=>Iff.rfl⟩,aK,iB⟩));rw[bR,Nat.sub_zero,Nat.pow_zero,Nat.div_one] at dG;exact dG
theorem z52 (v n:Nat)(hn:n<=64)(hv:v<2^n)(w:World):Mm Tryz.prog 141 [M7 v,I (n:Int)] w λu w'=>u= .bool true/\w'=w:=by
 refine It (e:=[(0,_),(1,_)]) Tryz.func141 rfl Tryz.ntmps141 rfl rfl (qN rfl (M6 rfl (qM rfl (LM rfl (PQ rfl rfl (LM rfl (OS (λh1=>?_) (λh1=>?_))))))))
 ·refine qS (qS (qS (qS (NB rfl rfl (LU rfl (LP Tryz.func141 rfl ?_))))));exact⟨_,rfl,rfl,rfl⟩
 ·refine M4 rfl rfl (qV (Qm n (2^n) rfl rfl (by show n<=64;omega) rfl) ?_);rw[Nat.div_eq_of_lt hv];refine NS rfl rfl (ME rfl rfl (LU rfl (LP Tryz.func141 rfl ?_)));exact⟨_,rfl,by simp[resVal],rfl⟩
theorem OI (h:UH w p bs F)(v n:Nat)(hn:n<=64)(hv:v<2^n)(hl:bs.length+n<=134217728):
  Mm Tryz.prog 103 [ptr p 0,M7 v,I (n:Int)] w λu w'=>u=I 0/\WrR p F w w' (bs++bitsN n v):=by
 obtain⟨bv,hM,hF⟩:=id h
 have hB:=hM.LN
 refine It (e:=[(0,_),(1,_),(2,_)]) Tryz.func103 rfl Tryz.ntmps103 rfl rfl (qN rfl (LU rfl (run_seq (LK (qN rfl (LM rfl (qV (MU Zo rfl rfl) (LU rfl (An rfl (qN rfl (LM rfl (Nr rfl rfl (LM rfl ?_)))))))))))))
 refine OS (λh1=>?_) (λh1=>?_)
 ·omega
 ·refine LM rfl (Nc rfl rfl (ME rfl rfl (LM rfl (OS (λh2=>?_) (λh2=>?_)))))
  ·omega
  ·refine M4 rfl rfl (Mb zcF rfl (z52 v n hn hv w) ?_);rintro _ w ⟨rfl,rfl⟩;refine qV ((by first|exact ML rfl|exact Oh rfl)) ?_;refine ME rfl rfl (LU rfl (An rfl (qN rfl (M4 rfl rfl (Mp rfl (M0 T5 rfl (qV (LR U3 rfl rfl hB rfl) (NP rfl rfl (Nc rfl rfl (LU rfl (Mn.qb (e:=[(0,_),(1,_),(2,_),(6,_),(23,_)]) ?_)))))))))));refine LY rfl (λh3=>?_) (λh3=>?_)
   ·omega
   ·refine py (LL (qN rfl (M4 rfl rfl (LM rfl (Mb zdp rfl (z6X h v n hn hv (by omega)) ?_)))));rintro _ w1 ⟨rfl,hR⟩;refine qM rfl (LU rfl (LP Tryz.func103 rfl ?_));exact⟨_,rfl,rfl,hR⟩
theorem Tj (h:UH w p bs F):Mm Tryz.prog 104 [ptr p 0] w λu w'=>u= .tuple #[S (Mi bs),I 0]/\w'=w:=by
 obtain⟨bv,hM,hF⟩:=h
 have hB:=hM.LN
 have hS:=hM.sl
 refine It (e:=[(0,_)]) Tryz.func104 rfl Tryz.ntmps104 rfl rfl (qN rfl (M6 rfl (LU rfl (run_seq (qN rfl (LM rfl (qV (MU Zo rfl rfl) (LO (An rfl (py (qN rfl (LM rfl (Mp rfl ?_)))))))))))))
 refine M0 Ug rfl (qV (LR N1 rfl rfl hB rfl) ?_)
 rcases hS.shape with⟨rfl,h0⟩|⟨g,cap,rfl,jy⟩
 ·have hn:Mi bs=[]:=List.eq_nil_of_length_eq_zero h0;rw[hn];refine qV (zcS N1 U5 U9 rfl) (M6 rfl (LU rfl (LP Tryz.func104 rfl ?_)));exact⟨_,rfl,rfl,rfl⟩
 ·refine qV (zc8 (l:=Mi bs) N1 U5 U9 rfl hS) (M6 rfl (LU rfl (LP Tryz.func104 rfl ?_)));exact⟨_,rfl,rfl,rfl⟩
theorem RS (h:UH w p bs F):Mm Tryz.prog 107 [ptr p 0] w λu w'=>u=I (bs.length:Int)/\w'=w:=by
 obtain⟨bv,hM,hF⟩:=h
 have hB:=hM.LN
 refine It (e:=[(0,_)]) Tryz.func107 rfl Tryz.ntmps107 rfl rfl (qN rfl (LU rfl (run_seq (qN rfl (LM rfl (qV (MU Zo rfl rfl) (LO (An rfl (py (qN rfl (LM rfl (Mp rfl (M0 T5 rfl ?_)))))))))))))
 refine qV (LR U3 rfl rfl hB rfl) (LU rfl (LP Tryz.func107 rfl ?_))
 exact⟨_,rfl,rfl,rfl⟩
end
def Qc (w:World)(r:Nat)(s:Bytes)(a:Nat):Prop:=LX w r [S s,I (a:Int)] 293/\a<=8*s.length/\s.length<=1000000000
section
variable {w:World}{r:Nat}{s:Bytes}{a:Nat}
theorem Tf (s:Bytes)(hs:s.length<=1000000000)(w:World):Mm Tryz.prog 145 [S s] w λv w'=>∃r,v=ptr r 0/\Qc w' r s 0/\Ext w w'/\w.heap.size<=r:=by
 refine It (e:=[(0,_)]) Tryz.func145 rfl Tryz.ntmps145 rfl rfl (qN rfl (M6 rfl (qM rfl (LM rfl (qV (OJ (cs:=[_,_]) zbD rfl zc7 rfl rfl) (LV rfl rfl (NN rfl rfl) ?_))))))
 rintro _ w1 ⟨r,rfl,hr,hx,hB⟩
 refine LU rfl (LP Tryz.func145 rfl ?_)
 exact⟨_,rfl,r,rfl,⟨hB,Nat.zero_le _,hs⟩,hx,by omega⟩
theorem Qy (h:Qc w r s a):Mm Tryz.prog 133 [ptr r 0] w λv w'=>v=I (a:Int)/\w'=w:=by
 obtain⟨hB,h1,h2⟩:=h
 refine It (e:=[(0,_)]) Tryz.func133 rfl Tryz.ntmps133 rfl rfl (qN rfl (LU rfl (run_seq (qN rfl (LM rfl (qV (MU PW rfl rfl) (LO (An rfl (py (qN rfl (LM rfl (Mp rfl (M0 Rt rfl ?_)))))))))))))
 refine qV (LR U3 rfl rfl hB rfl) (LU rfl (LP Tryz.func133 rfl ?_))
 exact⟨_,rfl,rfl,rfl⟩
theorem z54 (h:Qc w r s a):Mm Tryz.prog 179 [ptr r 0] w λv w'=>v=I ((8*s.length-a:Nat):Int)/\Ext w w':=by
 obtain⟨hB,h1,h2⟩:=h
 refine It (e:=[(0,_)]) Tryz.func179 rfl Tryz.ntmps179 rfl rfl (qN rfl (LU rfl (run_seq (qN rfl (LM rfl (qV (MU PW rfl rfl) ?_))))))
 have hg:=Ext.Ma w
 refine LO (An rfl (py (run_seq (NF (λw'=>Ext w w') rfl (M9 0 rfl rfl (hg) (LS 1 rfl (MS rfl) hg (LS 2 rfl (Mo ZK rfl) hg (qT 3 rfl (λ_ h=>LR U9 rfl rfl (h.LN hB) rfl) hg (LS 4 rfl (Ra U9 rfl) hg (LS 5 rfl (SV rfl rfl (by omega)) hg (M9 6 rfl rfl (hg) (LS 7 rfl (MS rfl) hg (LS 8 rfl (Mo Rt rfl) hg ?_)))))))))))))
 refine qT 9 rfl (λ_ h=>LR U3 rfl rfl (h.LN hB) rfl) hg (LS 10 rfl (TF rfl rfl (by omega)) hg (LS 11 rfl (NK rfl) hg (qE (LP Tryz.func179 rfl (⟨_,rfl,?_,hg⟩)))))
 simp only[resVal]
 congr 1
 omega
theorem Vy (h:Qc w r s a)(k:Nat)(hk:k<=8*s.length):Mm Tryz.prog 173 [ptr r 0,I (k:Int)] w λv w'=>v=I 0/\Qc w' r s k/\Kp (λi=>i=r) w w':=by
 obtain⟨hB,h1,h2⟩:=h
 refine It (e:=[(0,_),(1,_)]) Tryz.func173 rfl Tryz.ntmps173 rfl rfl (qN rfl (LU rfl (run_seq (LK (qN rfl (LM rfl (qV (MU PW rfl rfl) (LU rfl (An rfl (qN rfl (LM rfl (Nr rfl rfl (LM rfl ?_)))))))))))))
 refine OS (λc1=>?_) (λc1=>?_)
 ·omega
 ·refine M4 rfl rfl (Mp rfl (M0 ZK rfl (qV (LR U9 rfl rfl hB rfl) (qV (Ra U9 rfl) (qV (SV rfl rfl (by omega)) (Nc rfl rfl (ME rfl rfl (LU rfl (LY rfl (λc2=>?_) (λc2=>?_))))))))))
  ·omega
  ·refine py (LL (qN rfl (M4 rfl rfl (Mp rfl (M0 Rt rfl (M1 rfl (NC MO rfl rfl rfl hB (by simp)) ?_))))));rintro w1 ⟨ai,aK⟩;refine qM rfl (LU rfl (LP Tryz.func173 rfl ?_));exact⟨_,rfl,rfl,⟨ai,hk,h2⟩,aK⟩
theorem z2e {b2 b6 V n:Nat}(h:Qc w r s a)(h2:LX w b2 [ptr r 0] 240)(h6:LX w b6 [M7 V] 41)(hn:1<=n)(ru:n<=8-a%8)(hl:a+n<=8*s.length)(hV:V*2^n+2^n<=18446744073709551616)(d1:b6≠r)(d2:b2≠r)(d3:b2≠b6):
  Mm Tryz.prog 180 [I (n:Int),ptr b2 0,ptr b6 0] w λu w'=>u= .tuple #[]/\Qc w' r s (a+n)/\LX w' b6 [M7 (V*2^n+valB (((Md s).drop a).take n))] 41/\LX w' b2 [ptr r 0] 240/\Kp (λk=>k=b6\/k=r) w w':=by
 obtain⟨hB,ha,hs⟩:=h
 have jx:a&&&7=a%8:=Nat.and_two_pow_sub_one_eq_mod a 3
 obtain⟨c,hc⟩:∃c,s[a / 8]? =some c:=⟨_,List.getElem?_eq_getElem (by omega)⟩
 have hp:=z2a hc ru
 obtain⟨pc,jg⟩:∃pc,valB (((Md s).drop a).take n)=pc:=⟨_,rfl⟩
 have dZ:pc<2^n:=by
  rw[<-jg];have h1:=Nu (((Md s).drop a).take n);rw[List.length_take,List.length_drop,bitsT_length,Nat.min_eq_left (by omega)] at h1;exact h1
 rw[jg] at hp⊢
 have KF:=c.toNat_lt
 obtain⟨rm,yV⟩:∃rm,8-a%8=rm:=⟨_,rfl⟩
 rw[yV] at hp ru
 have iG:c.toNat&&&(2^rm-1)=c.toNat%2^rm:=Nat.and_two_pow_sub_one_eq_mod _ _
 obtain⟨R,hR⟩:∃R,2^rm=R:=⟨_,rfl⟩
 have tZ:1<=R/\R<=256:=by
  rw[<-hR];exact⟨Nat.two_pow_pos _,by have:=Nat.pow_le_pow_right (show 0<2 by decide) (show rm<=8 by omega);simpa using this⟩
 rw[hR] at hp iG
 have m9:c.toNat%R<=c.toNat:=Nat.mod_le _ _
 have GS:s.getD (a / 8) 0=c:=by rw[List.getD_eq_getElem?_getD,hc];rfl
 refine It (e:=[(0,_),(1,_),(2,_)]) Tryz.func180 rfl Tryz.ntmps180 rfl rfl (qN rfl (qV ((by first|exact LR PW rfl rfl hB rfl|exact LR PW rfl rfl h2 rfl)) ?_))
 refine Mp rfl (M0 Rt rfl (qV ((by first|exact LR U3 rfl rfl hB rfl|exact LR U3 rfl rfl h2 rfl)) ?_))
 refine qV (Tw rfl rfl (by omega) (by omega)) ?_
 rw[jx]
 refine NP rfl rfl ?_
 rw[show(8-((a%8:Nat):Int))=((rm:Nat):Int) by omega]
 have hg:=Ext.Ma w
 refine LU rfl (run_seq (NF (λw'=>Ext w w') rfl (qT 0 rfl (λ_ h=>(by first|exact LR PW rfl rfl (h.LN hB) rfl|exact LR PW rfl rfl (h.LN h2) rfl)) hg ?_)))
 refine LS 1 rfl (MS rfl) hg (LS 2 rfl (Mo ZK rfl) hg (qT 3 rfl (λ_ h=>(by first|exact LR U9 rfl rfl (h.LN hB) rfl|exact LR U9 rfl rfl (h.LN h2) rfl)) hg ?_))
 refine qT 4 rfl (λ_ h=>(by first|exact LR PW rfl rfl (h.LN hB) rfl|exact LR PW rfl rfl (h.LN h2) rfl)) hg ?_
 refine LS 5 rfl (MS rfl) hg (LS 6 rfl (Mo Rt rfl) hg (qT 7 rfl (λ_ h=>(by first|exact LR U3 rfl rfl (h.LN hB) rfl|exact LR U3 rfl rfl (h.LN h2) rfl)) hg ?_))
 refine LS 8 rfl (Tg rfl rfl (by omega)) hg (M9 11 rfl rfl (hg) (M9 15 rfl rfl (hg) (M9 16 rfl rfl (hg) (LS 17 rfl (TF rfl rfl (by omega)) hg ?_))))
 rw[show((a:Int) / 8)=((a / 8:Nat):Int) by omega]
 refine LS 9 rfl (z3h U9 rfl rfl (by omega)) hg (LS 10 rfl ((by first|exact Yi rfl U5 U3 (by decide)|exact MB rfl U5 U3 (by omega))) hg ?_)
 rw[GS]
 refine LS 12 rfl (zf4 rm R rfl rfl (by omega) hR (by omega)) hg ?_
 rw[show(1*(R:Int))=((R:Nat):Int) by omega]
 refine LS 13 rfl (TF rfl rfl (by omega)) hg ?_
 rw[show((R:Int)-1)=((R-1:Nat):Int) by omega]
 refine LS 14 rfl (Tw rfl rfl (by omega) (by omega)) hg ?_
 rw[iG]
 rw[show((rm:Int)-(n:Int))=((rm-n:Nat):Int) by omega]
 refine LS 18 rfl (Qm (rm-n) (2^(rm-n)) rfl rfl (by show rm-n<=64;omega) rfl) hg ?_
 rw[<-hp]
 refine LS 19 rfl (NK rfl) hg (qE (Mn.qb (e:=[(0,_),(1,_),(2,_),(5,_)]) ?_))
 refine qN rfl ?_
 have ai:=hg.LN hB
 have EW:=hg.LN h2
 have yW:=hg.LN h6
 obtain⟨N,hN⟩:∃N,2^n=N:=⟨_,rfl⟩
 rw[hN] at hV dZ
 have KG:1<=N:=by rw[<-hN];exact Nat.two_pow_pos _
 obtain⟨M,hM⟩:∃M,V*N=M:=⟨_,rfl⟩
 rw[hM] at hV
 have nX:M |||pc=M+pc:=by
  have:=Nat.two_pow_add_eq_or_of_lt (i:=n) (b:=pc) (by rw[hN];exact dZ) V;rw[hN,Nat.mul_comm N V,hM] at this;exact this.symm
 rw[hN,hM]
 have rv:n<=64:=by omega
 refine qV ((by first|exact LR Ns rfl rfl ai rfl|exact LR Ns rfl rfl EW rfl|exact LR Ns rfl rfl yW rfl)) ?_
 refine LM rfl (qV (NJ n N rfl rfl rv hN) ?_)
 rw[hM,Nat.mod_eq_of_lt (show M<18446744073709551616 by omega)]
 refine LM rfl (qV ((by first|exact MH rfl U3 Ns (by omega)|exact Oc rfl U3 Ns)) ?_)
 refine qV (Xp rfl rfl (by omega) (by omega)) ?_
 rw[nX]
 refine M1 rfl (NC Rg rfl rfl rfl yW (by simp)) ?_
 rintro w2 ⟨Ao,ao⟩
 have am:=ao.LN ai (Ne.symm d1)
 have Ap:=ao.LN EW d3
 refine LO (LQ rfl (qV ((by first|exact LR PW rfl rfl am rfl|exact LR PW rfl rfl Ap rfl|exact LR PW rfl rfl Ao rfl)) ?_))
 refine Mp rfl (M0 Rt rfl (qV ((by first|exact LR U3 rfl rfl am rfl|exact LR U3 rfl rfl Ap rfl|exact LR U3 rfl rfl Ao rfl)) ?_))
 refine LM rfl (MK rfl rfl (Mp rfl (M0 Rt rfl (M1 rfl (NC MO rfl rfl rfl am (by simp)) ?_))))
 rintro w3 ⟨aq,ar⟩
 rw[show((a:Int)+(n:Int))=((a+n:Nat):Int) by omega] at aq
 refine LO (N9 Tryz.func180 rfl ?_)
 exact⟨_,rfl,rfl,⟨aq,hl,hs⟩,ar.LN Ao d1,ar.LN Ap d2,(hg.kp.trans (ao.LZ (λk e=> .inl e))).trans (ar.LZ (λk e=> .inr e))⟩
theorem RN (h:Qc w r s a)(n:Nat)(hn:n<=64):
  Mm Tryz.prog 147 [ptr r 0,I (n:Int)] w λv w'=>(a+n<=8*s.length/\v= .tuple #[M7 (valB (((Md s).drop a).take n)),I 0]/\Qc w' r s (a+n)/\Kp (λk=>k=r) w w')\/(8*s.length<a+n/\v= .tuple #[M7 0,I 4]/\Ext w w'):=by
 have gM:=h.1.lt
 obtain⟨-,ha,hs⟩:=id h
 refine It (e:=[(0,_),(1,_)]) Tryz.func147 rfl Tryz.ntmps147 rfl rfl (qN rfl (LV rfl rfl (NN rfl (cs:=[ptr r 0]) rfl) ?_))
 rintro _ w1 ⟨b2,rfl,bY,ad,am⟩
 have h1:Qc w1 r s a:=⟨ad.LN h.1,h.2⟩
 refine M6 rfl (LU rfl (run_seq (LK (qN rfl (qV (LR PW rfl rfl am rfl) (qV (MU PW rfl rfl) (LU rfl (An rfl (qN rfl (LM rfl (Nr rfl rfl (LM rfl (OS (λc1=>?_) (λc1=>?_))))))))))))))
 ·omega
 ·refine LM rfl (Nc rfl rfl (ME rfl rfl (LU rfl (LY rfl (λc2=>?_) (λc2=>?_)))))
  ·omega
  ·refine qN rfl (LM rfl (qV (LR PW rfl rfl am rfl) (Mb zc4 rfl (z54 h1) ?_)));rintro _ w2 ⟨rfl,af⟩;refine Nc rfl rfl (LU rfl (LY rfl (λc3=>?_) (λc3=>?_)))
   ·refine qN rfl (M6 rfl (LU rfl (LP Tryz.func147 rfl ?_)));exact⟨_,rfl,.inr ⟨by omega,rfl,ad.trans af⟩⟩
   ·refine py (LL (qN rfl (LV rfl rfl (O9 (cs:=[_]) Rg rfl) ?_)));rintro _ w3 ⟨b6,rfl,nY,ah,aX⟩;replace aX:LX w3 b6 [M7 0] 41:=aX;have aO:=af.trans ah;have cI:=ad.trans aO;have mw:=ad.size;have nZ:=af.size;have iH:=am.lt;have bJ:a+n<=8*s.length:=by omega
    refine qM rfl (qV (ZU (first:=[]) (caps:=[.tmp 2,.tmp 6]) rfl rfl) (LU rfl (run_seq (LK (Oe (α:=Nat) (n) (λk=>[(1,I (k:Int)),(2,ptr b2 0),(6,ptr b6 0),(7,.func (.func 180) #[] #[ptr b2 0,ptr b6 0])]) (λk w'=>k<=n/\Qc w' r s (a+(n-k))/\LX w' b6 [M7 (valB (((Md s).drop a).take (n-k)))] 41/\LX w' b2 [ptr r 0] 240/\Kp (λi=>i=r) w w') (λk=>k) ?hI ?hround)))))
    case hI=>exact⟨Nat.le_refl _,⟨by rw[Nat.sub_self];exact cI.LN h.1,by omega,hs⟩,by rw[Nat.sub_self];exact aX,aO.LN am,cI.kp⟩
    case hround=>
     rintro k w4 ⟨hk,gq,rx,Aq,ax⟩ ih;have Ar:=gq.1
     try dsimp only
     refine run_seq (qN rfl (LM rfl (Nc rfl rfl (LO (LY rfl (λaP=>?_) (λaP=>?_))))))
     ·obtain⟨p,hp⟩:∃p,a+(n-k)=p:=⟨_,rfl⟩;rw[hp] at Ar gq;have jx:p&&&7=p%8:=Nat.and_two_pow_sub_one_eq_mod p 3;obtain⟨take,mx⟩:∃take,min k (8-p%8)=take:=⟨_,rfl⟩;have rp:1<=take/\take<=k/\take<=8-p%8:=by omega
      refine py (LK (qN rfl (LM rfl (qV ((by first|exact LR PW rfl rfl Aq rfl|exact LR PW rfl rfl Ar rfl)) ?_))));refine Mp rfl (M0 Rt rfl (qV ((by first|exact LR U3 rfl rfl Aq rfl|exact LR U3 rfl rfl Ar rfl)) ?_));refine qV (Tw rfl rfl (by omega) (by omega)) ?_;rw[jx];refine NP rfl rfl (qV (ymi rfl rfl) ?_);rw[show min (k:Int) (8-((p%8:Nat):Int))=((take:Nat):Int) by omega];obtain⟨V,hV⟩:∃V,valB (((Md s).drop a).take (n-k))=V:=⟨_,rfl⟩;rw[hV] at rx
      have EX:V*2^take+2^take<=18446744073709551616:=by
       have h1:=Nu (((Md s).drop a).take (n-k));rw[hV,List.length_take,List.length_drop,bitsT_length,Nat.min_eq_left (by omega)] at h1;have h2:(V+1)*2^take<=2^(n-k)*2^take:=Nat.mul_le_mul_right _ h1;rw[<-Nat.pow_add,Nat.add_mul,Nat.one_mul] at h2;have h3:=Nat.pow_le_pow_right (show 0<2 by decide) (show n-k+take<=64 by omega);have h4:(2:Nat)^64=18446744073709551616:=by decide
       omega
      refine M6 rfl (qM rfl (M4 rfl rfl (Nj rfl rfl (OC zem rfl rfl) (z2e gq Aq rx rp.1 rp.2.2 (by omega) EX (by omega) (by omega) (by omega)) ?_)));rintro _ w5 ⟨rfl,ry,GT,GU,aj⟩;refine LO (LQ rfl (M4 rfl rfl (NP rfl rfl (LU rfl (LL ?_)))));rw[show((k:Int)-(take:Int))=((k-take:Nat):Int) by omega];refine(ih (k-take) w5 ⟨by omega,?_,?_,GU,?_⟩ (by omega)).qb
      ·rw[show a+(n-(k-take))=p+take by omega];exact ry
      ·rw[show n-(k-take)=(n-k)+take by omega,List.take_add,Oi,hV,List.drop_drop,hp];have hl:(((Md s).drop p).take take).length=take:=by rw[List.length_take,List.length_drop,bitsT_length];omega
       rw[hl];exact GT
      ·exact ax.LJ aj (λi hi=>hi.elim (λe=> .inl (by omega)) .inr)
     ·have:k=0:=by omega
      subst this;rw[Nat.sub_zero] at gq rx;refine LW rfl (qN rfl (qV (LR Ns rfl rfl rx rfl) (M6 rfl (LU rfl (LP Tryz.func147 rfl ?_)))));exact⟨_,rfl,.inl ⟨bJ,rfl,gq,ax⟩⟩
end
def MF (v:Nat):Nat:=if v=0 then 0 else Nat.log2 v+1
theorem Td {v:Nat}:v<2^MF v:=by
 unfold MF
 split
 ·subst_vars;simp
 ·exact Nat.lt_log2_self
theorem Wv {v:Nat}(h:v≠0):2^(MF v-1)<=v:=by
 unfold MF
 rw[if_neg h,Nat.add_sub_cancel]
 exact Nat.log2_self_le h
theorem z3K {v n:Nat}(h1:2^n<=v)(h2:v<2^(n+1)):MF v=n+1:=by
 have hp:=Nat.two_pow_pos n
 have h0:v≠0:=by omega
 unfold MF
 rw[if_neg h0]
 have:=(Nat.log2_eq_iff h0).2 ⟨h1,h2⟩
 omega
theorem Ny {v n:Nat}(h:v<2^n):MF v<=n:=by
 by_cases h0:v=0
 ·subst h0;simp[MF]
 ·have h1:=Wv h0;have h2:2^(MF v-1)<2^n:=by omega
  have h3:=(Nat.pow_lt_pow_iff_right (by decide:1<2)).1 h2;have:MF v≠0:=by unfold MF;rw[if_neg h0];omega
  omega
def NY (v K:Nat):Nat×Nat:=
 let s:=MF (K-1)
 let m:=2^s-K
 if v<m then(v,s-1) else(v+m,s)
def Nb (v K:Nat):List Bool:=bitsN (NY v K).2 (NY v K).1
theorem Rl {K:Nat}(hK:1<=K):K<=2^MF (K-1)/\(1<K->1<=MF (K-1)/\2^(MF (K-1)-1)+1<=K):=by
 have h1:=Td (v:=K-1)
 refine⟨by omega,λh=>?_⟩
 have h2:=Wv (v:=K-1) (by omega)
 refine⟨?_,by omega⟩
 unfold MF
 rw[if_neg (by omega)];omega
theorem z4m {v K:Nat}(h:v<K):(NY v K).1<2^(NY v K).2:=by
 obtain⟨h1,h2⟩:=Rl (K:=K) (by omega)
 unfold NY
 dsimp only
 split
 ·rename_i hm
  by_cases hK:K=1
  ·subst hK;simp[MF] at hm
  ·obtain⟨h3,h4⟩:=h2 (by omega);have:2^MF (K-1)=2*2^(MF (K-1)-1):=by rw[<-Nat.pow_succ',show(MF (K-1)-1).succ=MF (K-1) by omega]
   dsimp only;omega
 ·dsimp only;omega
theorem z2r {v K:Nat}(h:v<K)(hK:1<K)(rest:List Bool):
  let s:=MF (K-1)
  let m:=2^s-K
  1<=s/\s-1<=(Nb v K).length/\
  ((valB ((Nb v K).take (s-1))<m/\(Nb v K).length=s-1/\valB ((Nb v K).take (s-1))=v)\/
   (m<=valB ((Nb v K).take (s-1))/\(Nb v K).length=s/\2*valB ((Nb v K).take (s-1))+valB ((Nb v K).drop (s-1))=v+m)):=by
 obtain⟨h1,h2⟩:=Rl (K:=K) (by omega)
 obtain⟨h3,h4⟩:=h2 hK
 have h5:2^MF (K-1)=2*2^(MF (K-1)-1):=by rw[<-Nat.pow_succ',show(MF (K-1)-1).succ=MF (K-1) by omega]
 dsimp only
 unfold Nb NY
 dsimp only
 refine⟨h3,?_⟩
 split
 ·rename_i hm
  dsimp only;rw[bitsN_length,List.take_of_length_le (by simp),MJ,Nat.mod_eq_of_lt (by omega)];exact⟨Nat.le_refl _,.inl ⟨hm,rfl,rfl⟩⟩
 ·rename_i hm
  dsimp only;rw[bitsN_length]
  have e:bitsN (MF (K-1)) (v+(2^MF (K-1)-K))=bitsN (MF (K-1)-1) ((v+(2^MF (K-1)-K)) / 2^1)++bitsN 1 (v+(2^MF (K-1)-K)):=by
   rw[<-Om,show MF (K-1)-1+1=MF (K-1) by omega]
  rw[e,List.take_left' (by simp),List.drop_left' (by simp),MJ,MJ,Nat.mod_eq_of_lt (by omega)];exact⟨by omega,.inr ⟨by omega,rfl,by omega⟩⟩
inductive Cd where
 |unary
 |gamma
 |zeta (k:Nat)
def Cd.zeros:Cd->Nat->Nat
 | .unary,v=>v
 | .gamma,v=>Nat.log2 (v+1)
 | .zeta k,v=>Nat.log2 (v+1) / k
def Cd.rest:Cd->Nat->List Bool
 | .unary,_=>[]
 | .gamma,v=>bitsN (Nat.log2 (v+1)) (v+1-2^Nat.log2 (v+1))
 | .zeta k,v=>let h:=Nat.log2 (v+1) / k;Nb (v+1-2^(h*k)) (2^(h*k)*2^k-2^(h*k))
def Cd.enc (c:Cd)(v:Nat):List Bool:=List.replicate (c.zeros v) false++true::c.rest v
theorem S7 {v:Nat}(h:v<=281474976710654):2^Nat.log2 (v+1)<=v+1/\v+1<2^(Nat.log2 (v+1)+1)/\Nat.log2 (v+1)<=47:=by
 have h1:=Nat.log2_self_le (n:=v+1) (by omega)
 have h2:=Nat.lt_log2_self (n:=v+1)
 refine⟨h1,h2,?_⟩
 have h3:2^Nat.log2 (v+1)<2^48:=by
  have:(2:Nat)^48=281474976710656:=by decide
  omega
 have:=(Nat.pow_lt_pow_iff_right (by decide:1<2)).1 h3
 omega
theorem TM {k v:Nat}(hk:1<=k):let h:=Nat.log2 (v+1) / k;2^(h*k)<=v+1/\v+1-2^(h*k)<2^(h*k)*2^k-2^(h*k)/\1<=2^(h*k)*2^k-2^(h*k):=by
 dsimp only
 have h1:=Nat.log2_self_le (n:=v+1) (by omega)
 have h2:=Nat.lt_log2_self (n:=v+1)
 have h3:Nat.log2 (v+1) / k*k<=Nat.log2 (v+1):=Nat.div_mul_le_self _ _
 have h4:Nat.log2 (v+1)+1<=Nat.log2 (v+1) / k*k+k:=by
  have:=Nat.div_add_mod (Nat.log2 (v+1)) k;have:=Nat.mod_lt (Nat.log2 (v+1)) (show 0<k by omega);have e:=Nat.mul_comm k (Nat.log2 (v+1) / k);omega
 have h5:2^(Nat.log2 (v+1) / k*k)<=2^Nat.log2 (v+1):=Nat.pow_le_pow_right (by decide) h3
 have h6:2^(Nat.log2 (v+1)+1)<=2^(Nat.log2 (v+1) / k*k+k):=Nat.pow_le_pow_right (by decide) h4
 rw[Nat.pow_add 2 (Nat.log2 (v+1) / k*k) k] at h6
 have h7:2<=2^k:=by
  have:=Nat.pow_le_pow_right (show 0<2 by decide) hk
  simpa using this
 have h8:2^(Nat.log2 (v+1) / k*k)*2<=2^(Nat.log2 (v+1) / k*k)*2^k:=Nat.mul_le_mul_left _ h7
 have h9:=Nat.two_pow_pos (Nat.log2 (v+1) / k*k)
 omega
theorem TV {x k:Nat}(h:2^k<=x):MF x=MF (x / 2^k)+k:=by
 have hk:=Nat.two_pow_pos k
 have hy:x / 2^k≠0:=by have:=Nat.div_pos h hk;omega
 have h1:=Wv hy
 have h2:=Td (v:=x / 2^k)
 have h0:MF (x / 2^k)≠0:=by unfold MF;rw[if_neg hy];omega
 obtain⟨n,hn⟩:∃n,MF (x / 2^k)=n+1:=⟨MF (x / 2^k)-1,by omega⟩
 rw[hn] at h1 h2⊢
 rw[Nat.add_sub_cancel] at h1
 have h3:2^(n+k)<=x:=by
  rw[Nat.pow_add];exact Nat.le_trans (Nat.mul_le_mul_right _ h1) (Nat.div_mul_le_self _ _)
 have h4:x<2^(n+k+1):=by
  rw[show n+k+1=(n+1)+k by omega,Nat.pow_add];exact(Nat.div_lt_iff_lt_mul hk).1 h2
 rw[z3K h3 h4];omega
def zax:Bytes:=[0,1,2,2,3,3,3,3,4,4,4,4,4,4,4,4,5,5,5,5,5,5,5,5,5,5,5,5,5,5,5,5,6,6,6,6,6,6,6,6,6,6,6,6,6,6,6,6,6,6,6,6,6,6,6,6,6,6,6,6,6,6,6,6,7,7,7,7,7,7,7,7,7,7,7,7,7,7,7,7,7,7,7,7,7,7,7,7,7,7,7,7,7,7,7,7,7,7,7,7,7,7,7,7,7,7,7,7,7,7,7,7,7,7,7,7,7,7,7,7,7,7,7,7,7,7,7,7,8,8,8,8,8,8,8,8,8,8,8,8,8,8,8,8,8,8,8,8,8,8,8,8,8,8,8,8,8,8,8,8,8,8,8,8,8,8,8,8,8,8,8,8,8,8,8,8,8,8,8,8,8,8,8,8,8,8,8,8,8,8,8,8,8,8,8,8,8,8,8,8,8,8,8,8,8,8,8,8,8,8,8,8,8,8,8,8,8,8,8,8,8,8,8,8,8,8,8,8,8,8,8,8,8,8,8,8,8,8,8,8,8,8,8,8,8,8,8,8,8,8,8,8,8,8,8,8]
theorem z7B:zax.length=256:=by decide+kernel
theorem zfK:∀x:Fin 256,(zax.getD x.val 0).toNat=MF x.val:=by decide+kernel
section
variable {w:World}
theorem QJ (x:Nat)(hx:x<18446744073709551616)(w:World):Mm Tryz.prog 143 [M7 x] w λv w'=>v=I (MF x:Int)/\w'=w:=by
 refine It (e:=[(0,_)]) Tryz.func143 rfl Tryz.ntmps143 rfl rfl (qN rfl (LU rfl (run_seq (qN rfl (LM rfl (PQ rfl rfl (LO (MA (λe' w'=>w=w'/\∃x1 n1:Nat,e'=[(0,M7 x1),(2,I (n1:Int))]/\MF x=MF x1+n1/\x1<4294967296/\n1<=32) ?cu (λcu=>?cM)))))))))
 case cu=>
  rintro e' w' ⟨rfl,x1,n1,rfl,h1,h2,h3⟩;refine run_seq (qN rfl (LM rfl (PQ rfl rfl (LO (MA (λe' w'=>w=w'/\∃x2 n2:Nat,e'=[(0,M7 x2),(2,I (n2:Int))]/\MF x=MF x2+n2/\x2<65536/\n2<=48) ?dJ (λdJ=>?eL))))))
  case dJ=>
   rintro e' w' ⟨rfl,x2,n2,rfl,h4,h5,h6⟩;refine run_seq (qN rfl (LM rfl (PQ rfl rfl (LO (MA (λe' w'=>w=w'/\∃x3 n3:Nat,e'=[(0,M7 x3),(2,I (n3:Int))]/\MF x=MF x3+n3/\x3<256/\n3<=56) ?av (λav=>?dr))))))
   case av=>
    rintro e' w' ⟨rfl,x3,n3,rfl,h7,h8,h9⟩;have eK:=zfK ⟨x3,h8⟩;dsimp only at eK;have mA:MF x3<=8:=Ny (by omega);refine qN rfl (M4 rfl rfl (qV (z0G rfl Ns U5) ?_));rw[Nat.mod_eq_of_lt h8];refine qV (z3h (l:=zax) U9 rfl rfl (by rw[z7B];exact h8)) ?_;rw[eK];refine qV ((by first|exact Yi rfl U5 U3 (by decide)|exact MB rfl U5 U3 (by omega))) ?_;refine MK rfl rfl (LU rfl (LP Tryz.func143 rfl ?_));exact⟨_,rfl,by simp only[resVal];congr 1;omega,rfl⟩
   case dr=>
    refine LY rfl (λhc=>?_) (λhc=>?_)
    ·refine qN rfl (LM rfl (qV (Qm 8 256 rfl rfl (by decide) rfl) (LU rfl (LQ rfl (LM rfl (MK rfl rfl (LU rfl ((av _ _ ⟨rfl,x2 / 256,n2+8,rfl,?_,?_,?_⟩).qb))))))))
     ·have e1:=TV (x:=x2) (k:=8) (by omega);rw[show x2 / 2^8=x2 / 256 from rfl] at e1;omega
     ·omega
     ·omega
    ·refine py ?_;exact(av _ _ ⟨rfl,x2,n2,rfl,h4,by omega,by omega⟩).qb
  case eL=>
   refine LY rfl (λhc=>?_) (λhc=>?_)
   ·refine qN rfl (LM rfl (qV (Qm 16 65536 rfl rfl (by decide) rfl) (LU rfl (LQ rfl (LM rfl (MK rfl rfl (LU rfl ((dJ _ _ ⟨rfl,x1 / 65536,n1+16,rfl,?_,?_,?_⟩).qb))))))))
    ·have e1:=TV (x:=x1) (k:=16) (by omega);rw[show x1 / 2^16=x1 / 65536 from rfl] at e1;omega
    ·omega
    ·omega
   ·refine py ?_;exact(dJ _ _ ⟨rfl,x1,n1,rfl,h1,by omega,by omega⟩).qb
 case cM=>
  refine LY rfl (λhc=>?_) (λhc=>?_)
  ·refine qN rfl (LM rfl (qV (Qm 32 4294967296 rfl rfl (by decide) rfl) (LU rfl (LQ rfl (LU rfl ((cu _ _ ⟨rfl,x / 4294967296,32,rfl,?_,?_,?_⟩).qb))))))
   ·exact TV (x:=x) (k:=32) (by omega)
   ·omega
   ·omega
  ·refine py ?_;exact(cu _ _ ⟨rfl,x,0,rfl,by omega,by omega,by omega⟩).qb
/-! ### Codes -/
def OU:Cd->List Value
 | .unary=>[.int .u8 0,M7 0]
 | .gamma=>[.int .u8 1,M7 0]
 | .zeta k=>[.int .u8 3,M7 k]
abbrev Zq (c:Cd):Value:= .agg (OU c).toArray
def Cd.N4:Cd->Prop
 | .zeta k=>1<=k/\k<=16
 |_=>True
def Cd.most:Cd->Nat
 | .unary=>65535
 |_=>281474976710654
def Cd.p0:Cd->Nat->Nat×Nat
 | .unary,_=>(0,0)
 | .gamma,v=>(v+1-2^Nat.log2 (v+1),Nat.log2 (v+1))
 | .zeta k,v=>let h:=Nat.log2 (v+1) / k;NY (v+1-2^(h*k)) (2^(h*k)*2^k-2^(h*k))
theorem QQ (c:Cd)(hc:c.N4)(w:World):Mm Tryz.prog 207 [Zq c] w λv w'=>v=I 0/\Ext w w':=by
 cases c with
 | unary =>
   refine It (e:=[(0,_)]) Tryz.func207 rfl Tryz.ntmps207 rfl rfl (qN rfl (LV rfl rfl (NN rfl (cs:=[.int .u8 0,M7 0]) rfl) ?_));rintro _ w1 ⟨b1,rfl,bR,ad,ai⟩;refine M6 rfl (qM rfl (LU rfl (run_seq (qN rfl (M0 OA rfl (qV (LR U5 rfl rfl ai rfl) (LO (LK (run_seq (qN rfl (NS rfl rfl (O8 (LU rfl ?_)))))))))))));refine M3 rfl (py (M3 rfl (LQ rfl (M0 SZ rfl (qV (LR Ns rfl rfl ai rfl) (NS rfl rfl (O8 (LU rfl (LL (run_seq (qN rfl (LM rfl (qV ((by first|exact ML rfl|exact Oh rfl)) ?_)))))))))))));refine LO (An rfl (py (qN rfl (LU rfl (LP Tryz.func207 rfl ?_)))))
   exact⟨_,rfl,rfl,ad⟩
 | gamma =>
   refine It (e:=[(0,_)]) Tryz.func207 rfl Tryz.ntmps207 rfl rfl (qN rfl (LV rfl rfl (NN rfl (cs:=[.int .u8 1,M7 0]) rfl) ?_));rintro _ w1 ⟨b1,rfl,bR,ad,ai⟩;refine M6 rfl (qM rfl (LU rfl (run_seq (qN rfl (M0 OA rfl (qV (LR U5 rfl rfl ai rfl) (LO (LK (run_seq (qN rfl (NS rfl rfl (MC (LU rfl ?_)))))))))))));refine An rfl (qN rfl (NS rfl rfl (O8 (LU rfl (M3 rfl (py (M3 rfl (LQ rfl (M0 SZ rfl (qV (LR Ns rfl rfl ai rfl) (NS rfl rfl (O8 (LU rfl ?_)))))))))))));refine LL (run_seq (qN rfl (LM rfl (qV ((by first|exact ML rfl|exact Oh rfl)) ?_))));refine LO (An rfl (py (qN rfl (LU rfl (LP Tryz.func207 rfl ?_)))))
   exact⟨_,rfl,rfl,ad⟩
 | zeta k =>
   obtain⟨aK,ao⟩:1<=k/\k<=16:=hc;refine It (e:=[(0,_)]) Tryz.func207 rfl Tryz.ntmps207 rfl rfl (qN rfl (LV rfl rfl (NN rfl (cs:=[.int .u8 3,M7 k]) rfl) ?_));rintro _ w1 ⟨b1,rfl,bR,ad,ai⟩;refine M6 rfl (qM rfl (LU rfl (run_seq (qN rfl (M0 OA rfl (qV (LR U5 rfl rfl ai rfl) (LO (LK (run_seq (qN rfl (NS rfl rfl (MC (LU rfl ?_)))))))))))));refine An rfl (qN rfl (NS rfl rfl (MC (LU rfl (An rfl (LQ rfl (NS rfl rfl (MC (LU rfl (An rfl (qN rfl (NS rfl rfl (O8 ?_)))))))))))));refine LU rfl (M3 rfl (LQ rfl (M0 SZ rfl (qV (LR Ns rfl rfl ai rfl) (PQ rfl rfl (O8 (LM rfl (M0 SZ rfl (qV (LR Ns rfl rfl ai rfl) (zle rfl rfl (O8 (NB rfl rfl (LU rfl ?_)))))))))))));refine LL (run_seq (qN rfl (LM rfl (qV ((by first|exact ML rfl|exact Oh rfl)) ?_))));refine LO (An rfl (py (qN rfl (LU rfl (LP Tryz.func207 rfl ?_)))));exact⟨_,rfl,rfl,ad⟩
theorem YP (c:Cd)(hc:c.N4)(w:World):Mm Tryz.prog 210 [Zq c] w λv w'=>v=M7 c.most/\Ext w w':=by
 cases c with
 | unary =>
   refine It (e:=[(0,_)]) Tryz.func210 rfl Tryz.ntmps210 rfl rfl (qN rfl (LV rfl rfl (NN rfl (cs:=[.int .u8 0,M7 0]) rfl) ?_));rintro _ w1 ⟨b1,rfl,bR,ad,ai⟩;refine LU rfl (run_seq (LK (qN rfl (qV (Mk (news:=[.int .u8 0,M7 0]) OK rfl Nk rfl (ai.cells (n:=2) rfl) rfl) (Mb z0E rfl (QQ (.unary) hc w1) ?_)))));rintro _ w2 ⟨rfl,af⟩;have am:=af.LN ai;refine MY rfl rfl (MC (LU rfl (An rfl (qN rfl (M0 OA rfl (qV (LR U5 rfl rfl am rfl) (NS rfl rfl (O8 (LU rfl (M3 rfl (qN rfl (LU rfl (LP Tryz.func210 rfl ?_)))))))))))))
   exact⟨_,rfl,rfl,ad.trans af⟩
 | gamma =>
   refine It (e:=[(0,_)]) Tryz.func210 rfl Tryz.ntmps210 rfl rfl (qN rfl (LV rfl rfl (NN rfl (cs:=[.int .u8 1,M7 0]) rfl) ?_));rintro _ w1 ⟨b1,rfl,bR,ad,ai⟩;refine LU rfl (run_seq (LK (qN rfl (qV (Mk (news:=[.int .u8 1,M7 0]) OK rfl Nk rfl (ai.cells (n:=2) rfl) rfl) (Mb z0E rfl (QQ (.gamma) hc w1) ?_)))));rintro _ w2 ⟨rfl,af⟩;have am:=af.LN ai;refine MY rfl rfl (MC (LU rfl (An rfl (qN rfl (M0 OA rfl (qV (LR U5 rfl rfl am rfl) (NS rfl rfl (MC (LU rfl (An rfl (qN rfl (M0 OA rfl (qV (LR U5 rfl rfl am rfl) ?_)))))))))))));refine NS rfl rfl (MC (LU rfl (An rfl (py (LL (qN rfl (LU rfl (LP Tryz.func210 rfl ?_))))))))
   exact⟨_,rfl,rfl,ad.trans af⟩
 | zeta k =>
   refine It (e:=[(0,_)]) Tryz.func210 rfl Tryz.ntmps210 rfl rfl (qN rfl (LV rfl rfl (NN rfl (cs:=[.int .u8 3,M7 k]) rfl) ?_));rintro _ w1 ⟨b1,rfl,bR,ad,ai⟩;refine LU rfl (run_seq (LK (qN rfl (qV (Mk (news:=[.int .u8 3,M7 k]) OK rfl Nk rfl (ai.cells (n:=2) rfl) rfl) (Mb z0E rfl (QQ (.zeta k) hc w1) ?_)))));rintro _ w2 ⟨rfl,af⟩;have am:=af.LN ai;refine MY rfl rfl (MC (LU rfl (An rfl (qN rfl (M0 OA rfl (qV (LR U5 rfl rfl am rfl) (NS rfl rfl (MC (LU rfl (An rfl (qN rfl (M0 OA rfl (qV (LR U5 rfl rfl am rfl) ?_)))))))))))));refine NS rfl rfl (MC (LU rfl (An rfl (py (LL (qN rfl (LU rfl (LP Tryz.func210 rfl ?_))))))));exact⟨_,rfl,rfl,ad.trans af⟩
theorem z7G (c:Cd)(v:Nat)(hc:c.N4)(hv:v<=c.most)(w:World):Mm Tryz.prog 200 [Zq c,M7 v] w λu w'=>u= .bool true/\Ext w w':=by
 obtain⟨x,y,dl⟩:∃x y,OU c=[x,y]:=by cases c<;>exact⟨_,_,rfl⟩
 refine It (e:=[(0,_),(1,_)]) Tryz.func200 rfl Tryz.ntmps200 rfl rfl (qN rfl (LV rfl rfl (NN rfl (cs:=OU c) rfl) ?_))
 rintro _ w1 ⟨b1,rfl,bR,ad,ai⟩
 refine M6 rfl (qM rfl (qV (Mk (news:=OU c) OK rfl Nk rfl (ai.cells (n:=2) (by rw[dl];rfl)) (by rw[dl];rfl)) ?_))
 refine Mb z0E rfl (QQ c hc w1) ?_
 rintro _ w2 ⟨rfl,af⟩
 have am:=af.LN ai
 refine NS rfl rfl (O8 (M4 rfl rfl (qV (Mk (news:=OU c) OK rfl Nk rfl (am.cells (n:=2) (by rw[dl];rfl)) (by rw[dl];rfl)) ?_)))
 refine Mb z9q rfl (YP c hc w2) ?_
 rintro _ w3 ⟨rfl,ah⟩
 refine zle rfl rfl (O8 (NB rfl rfl (LU rfl (LP Tryz.func200 rfl ?_))))
 exact⟨_,rfl,rfl,(ad.trans af).trans ah⟩
end
section
theorem z2F (v K:Nat)(hK:1<=K)(hv:v<K)(rz:K<=9223372036854775808)(w:World):Mm Tryz.prog 215 [M7 v,M7 K] w λu w'=>u= .agg #[M7 (NY v K).1,I ((NY v K).2:Int)]/\Ext w w':=by
 obtain⟨s,hs⟩:∃s,MF (K-1)=s:=⟨_,rfl⟩
 have hf:=Rl hK
 rw[hs] at hf
 obtain⟨h1,h2⟩:=hf
 have e63:(2:Nat)^63=9223372036854775808:=by decide
 have As:s<=63:=by rw[<-hs];exact Ny (by omega)
 obtain⟨Q,hQ⟩:∃Q,2^s=Q:=⟨_,rfl⟩
 have At:Q<=9223372036854775808:=by
  have:=Nat.pow_le_pow_right (show 0<2 by decide) As;omega
 rw[hQ] at h1
 have hP:NY v K=if v<Q-K then(v,s-1) else(v+(Q-K),s):=by unfold NY;rw[hs];dsimp only;rw[hQ]
 refine It (e:=[(0,_),(1,_)]) Tryz.func215 rfl Tryz.ntmps215 rfl rfl (qN rfl (LV rfl rfl (O9 (cs:=[_,_]) P4 rfl) ?_))
 rintro _ w1 ⟨b4,rfl,eA,ad,aM⟩
 refine qM rfl (LM rfl (qV (SM (n:=1) rfl rfl rfl (by show K<2^64;omega) hK) ?_))
 refine Mb YJ rfl (QJ (K-1) (by omega) w1) ?_
 rintro _ w1 ⟨rfl,rfl⟩
 rw[hs]
 refine LU rfl (run_seq (qN rfl (LM rfl (qV (NJ s Q rfl rfl (by omega) hQ) ?_))))
 rw[show 1*Q%18446744073709551616=Q by omega]
 refine LM rfl (qV (SM rfl rfl rfl (by show Q<2^64;omega) h1) ?_)
 refine M6 rfl (qM rfl (M4 rfl rfl (PQ rfl rfl (LO (LY rfl (λkW=>?_) (λkW=>?_))))))
 ·rw[if_neg (by omega)] at hP;rw[hP];refine qN rfl (M4 rfl rfl (qV (QL rfl rfl) ?_));rw[Nat.mod_eq_of_lt (show v+(Q-K)<18446744073709551616 by omega)];refine LM rfl (qV (OJ (cs:=[_,_]) P4 rfl z6o rfl rfl) (M1 rfl (MD (news:=[M7 (v+(Q-K)),I (s:Int)]) P4 rfl rfl rfl rfl aM (by simp)) ?_));rintro w2 ⟨am,ao⟩;replace am:LX w2 b4 [M7 (v+(Q-K)),I (s:Int)] 328:=am;refine LO (Mj Tryz.func215 (.cell z6v rfl P4 rfl (LX.cells (n:=2) am (news:=[_,_]) rfl) rfl .nil) ?_);exact⟨_,rfl,rfl,ad.LJ ao (λi hi=>by omega)⟩
 ·rw[if_pos (by omega)] at hP;rw[hP]
  have rA:K≠1:=λe=>by
   have e0:s=0:=by rw[<-hs,e];rfl
   have e1:Q=1:=by rw[<-hQ,e0]
   omega
  have dP:1<=s:=(h2 (by omega)).1;refine py (qN rfl (M4 rfl rfl (NP rfl rfl ?_)));rw[show((s:Int)-1)=((s-1:Nat):Int) by omega];refine qV (OJ (cs:=[_,_]) P4 rfl z6o rfl rfl) (M1 rfl (MD (news:=[M7 v,I ((s-1:Nat):Int)]) P4 rfl rfl rfl rfl aM (by simp)) ?_);rintro w2 ⟨am,ao⟩;replace am:LX w2 b4 [M7 v,I ((s-1:Nat):Int)] 328:=am;refine LO (Mj Tryz.func215 (.cell z6v rfl P4 rfl (LX.cells (n:=2) am (news:=[_,_]) rfl) rfl .nil) ?_);exact⟨_,rfl,rfl,ad.LJ ao (λi hi=>by omega)⟩
theorem z5t (n:Nat)(h:n≠0):MF n-1=Nat.log2 n/\1<=MF n:=by
 unfold MF;rw[if_neg h];exact⟨rfl,by omega⟩
theorem XD (c:Cd)(v:Nat)(hc:c.N4)(hv:v<=281474976710654)(w:World):Mm Tryz.prog 201 [Zq c,M7 v] w λu w'=>u= .tuple #[I (c.zeros v:Int),.agg #[M7 (c.p0 v).1,I ((c.p0 v).2:Int),M7 0,I 0]]/\Ext w w':=by
 obtain⟨l1,l2⟩:=z5t (v+1) (by omega)
 obtain⟨g1,g2,g3⟩:=S7 hv
 obtain⟨b,hb⟩:∃b,Nat.log2 (v+1)=b:=⟨_,rfl⟩
 rw[hb] at l1 g1 g2 g3
 obtain⟨Q,hQ⟩:∃Q,2^b=Q:=⟨_,rfl⟩
 rw[hQ] at g1
 have Au:Q<=281474976710656:=by omega
 obtain⟨x,y,dl⟩:∃x y,OU c=[x,y]:=by cases c<;>exact⟨_,_,rfl⟩
 refine It (e:=[(0,_),(1,_)]) Tryz.func201 rfl Tryz.ntmps201 rfl rfl (qN rfl (LV rfl rfl (NN rfl (cs:=OU c) rfl) ?_))
 rintro _ w1 ⟨b2,rfl,bY,ad,am⟩
 refine M6 rfl (LV rfl rfl (O9 (cs:=[_,_,_,_]) QN rfl) ?_)
 rintro _ w2 ⟨b5,rfl,gN,af,aF⟩
 replace aF:LX w2 b5 [M7 0,I 0,M7 0,I 0] 329:=aF
 refine qM rfl (LM rfl (qV (QL rfl rfl) ?_))
 rw[show(v+1)%18446744073709551616=v+1 by omega]
 refine M6 rfl (qM rfl (LM rfl (Mb YJ rfl (QJ (v+1) (by omega) w2) ?_)))
 rintro _ w2 ⟨rfl,rfl⟩
 refine NP rfl rfl ?_
 rw[show((MF (v+1):Int)-1)=((b:Nat):Int) by omega]
 refine M6 rfl (qM rfl (M4 rfl rfl (qV (NJ b Q rfl rfl (by omega) hQ) ?_)))
 rw[show 1*Q%18446744073709551616=Q by omega]
 refine qV (SM rfl rfl rfl (by show v+1<2^64;omega) g1) ?_
 refine LM rfl (qV (OJ (cs:=[_,_]) P4 rfl z6o rfl rfl) (LV rfl rfl (O9 (cs:=[_,_]) P4 rfl) ?_))
 rintro _ w3 ⟨b8,rfl,jh,ah,ce⟩
 refine M1 rfl (MD (news:=[M7 (v+1-Q),I (b:Int)]) P4 rfl rfl rfl rfl ce (by simp)) ?_
 rintro w4 ⟨rB,ax⟩
 replace rB:LX w4 b8 [M7 (v+1-Q),I (b:Int)] 328:=rB
 have z1:=ad.size
 have z2:=af.size
 have z3:=ah.size
 have l2':=am.lt
 have l5':=aF.lt
 have dK:=ax.LN (ah.LN (af.LN am)) (by omega)
 have dt:=ax.LN (ah.LN aF) (by omega)
 have cj:Ext w w4:=((ad.trans af).trans ah).LJ ax (λi hi=>by omega)
 cases c with
 | unary =>
   replace dK:LX w4 b2 [.int .u8 0,M7 0] 298:=dK;have hg:=Ext.Ma w4;refine LO (run_seq (qN rfl (M0 OA rfl (qV (LR U5 rfl rfl dK rfl) (LO (LK (qN rfl (NS rfl rfl (O8 (LU rfl (M3 rfl (run_seq (Me [4] (λw'=>Ext w4 w') (by kernel_rfl) rfl ?_)))))))))))));refine qL [1,3,4] 0 rfl (λ_ h=>My rfl) hg (qL [3,4] 1 rfl (λ_ h=>MB rfl Ns U3 (by omega)) hg (qL [4] 3 rfl (λ_ h=>NK rfl) hg (qL [4] 2 rfl (λ_ h=>Mk (news:=[M7 0,I 0,M7 0,I 0]) Xa rfl QN rfl ((h.LN dt).cells (n:=4) rfl) rfl) hg (Pv [4] (qO 4 (Mx (i:=4) rfl rfl (MD (news:=[M7 0,I 0,M7 0,I 0]) QN rfl rfl rfl rfl (hg.LN dt) (by simp)) ?_))))));rintro w5 ⟨aX,aj⟩;refine⟨trivial,?_⟩;replace aX:LX w5 b5 [M7 0,I 0,M7 0,I 0] 329:=aX;refine qE (Mn.qb (e:=[(1,_),(2,_),(4,_),(5,_)]) ?_);refine Mj Tryz.func201 (.tmp rfl (.cell Xa rfl QN rfl (LX.cells (n:=4) aX (news:=[_,_,_,_]) rfl) rfl .nil)) ?_
   exact⟨_,rfl,rfl,(cj.trans hg).LJ aj (λi hi=>by omega)⟩
 | gamma =>
   replace dK:LX w4 b2 [.int .u8 1,M7 0] 298:=dK;have hg:=Ext.Ma w4;refine LO (run_seq (qN rfl (M0 OA rfl (qV (LR U5 rfl rfl dK rfl) (LO (LK (qN rfl (NS rfl rfl (MC (LU rfl (An rfl (qN rfl (NS rfl rfl ?_)))))))))))));refine O8 (LU rfl (Mn.qb (e:=[(1,_),(2,_),(4,_),(5,_),(6,_),(7,_),(8,_),(24,_),(30,_)]) ?_));refine M3 rfl (run_seq (Me [4] (λw'=>Ext w4 w') (by kernel_rfl) rfl (qL [3,4] 0 rfl (λ_ h=>My rfl) hg (qL [4] 3 rfl (λ_ h=>NK rfl) hg (qL [2,4] 1 rfl (λ_ h=>Mk (news:=[M7 (v+1-Q),I (b:Int)]) z6v rfl P4 rfl ((h.LN rB).cells (n:=2) rfl) rfl) hg (qL [4] 2 rfl (λ_ h=>zbo (parts:=[(0,.tmp 33)]) (cs:=[_,_,_,_]) QN rfl Xa P4 rfl rfl) hg (Pv [4] (qO 4 (Mx (i:=4) rfl rfl (MD (news:=[M7 (v+1-Q),I (b:Int),M7 0,I 0]) QN rfl rfl rfl rfl (hg.LN dt) (by simp)) ?_)))))))));rintro w5 ⟨aX,aj⟩;refine⟨trivial,?_⟩;replace aX:LX w5 b5 [M7 (v+1-Q),I (b:Int),M7 0,I 0] 329:=aX;refine qE (Mj Tryz.func201 (.tmp rfl (.cell Xa rfl QN rfl (LX.cells (n:=4) aX (news:=[_,_,_,_]) rfl) rfl .nil)) ?_)
   exact⟨_,rfl,by simp[resVal,Cd.zeros,Cd.p0,hb,hQ],(cj.trans hg).LJ aj (λi hi=>by omega)⟩
 | zeta k =>
   obtain⟨aK,ao⟩:1<=k/\k<=16:=hc;have f:=TM (k:=k) (v:=v) aK;dsimp only at f;rw[hb] at f;obtain⟨h,hh⟩:∃h,b / k=h:=⟨_,rfl⟩;obtain⟨m,hm⟩:∃m,h*k=m:=⟨_,rfl⟩;have GV:m<=b:=by rw[<-hm,<-hh];exact Nat.div_mul_le_self _ _
   rw[hh,hm] at f;obtain⟨F,hF⟩:∃F,2^m=F:=⟨_,rfl⟩;obtain⟨G,hG⟩:∃G,2^k=G:=⟨_,rfl⟩;rw[hF,hG] at f;obtain⟨f1,f2,f3⟩:=f;obtain⟨E,hE⟩:∃E,F*G=E:=⟨_,rfl⟩
   have Av:E<=9223372036854775808:=by
    rw[<-hE,<-hF,<-hG,<-Nat.pow_add];have:=Nat.pow_le_pow_right (show 0<2 by decide) (show m+k<=63 by omega);have e63:(2:Nat)^63=9223372036854775808:=by decide
    omega
   rw[hE] at f2 f3;have Aw:(Cd.zeta k).zeros v=h:=by show Nat.log2 (v+1) / k=h;rw[hb,hh]
   have Ax:(Cd.zeta k).p0 v=NY (v+1-F) (E-F):=by
    show NY (v+1-2^(Nat.log2 (v+1) / k*k)) (2^(Nat.log2 (v+1) / k*k)*2^k-2^(Nat.log2 (v+1) / k*k))=_;rw[hb,hh,hm,hF,hG,hE]
   rw[Aw,Ax];have qh:(h:Int)*(k:Int)=(m:Int):=by rw[<-hm];simp
   have gd:(b:Int) / (k:Int)=(h:Int):=by rw[<-hh];simp
   replace dK:LX w4 b2 [.int .u8 3,M7 k] 298:=dK;refine LO (run_seq (qN rfl (M0 OA rfl (qV (LR U5 rfl rfl dK rfl) (LO (LK (qN rfl (NS rfl rfl (MC (LU rfl (An rfl (qN rfl (NS rfl rfl ?_)))))))))))));refine MC (LU rfl (Mn.qb (e:=[(1,_),(2,_),(4,_),(5,_),(6,_),(7,_),(8,_),(24,_),(30,_)]) ?_));refine An rfl (qN rfl (NS rfl rfl (MC (LU rfl (An rfl (qN rfl (NS rfl rfl (O8 (LU rfl (M3 rfl (qN rfl (M0 SZ rfl (qV (LR Ns rfl rfl dK rfl) ?_)))))))))))));refine qV (MB rfl Ns U3 (by omega)) (M6 rfl (qM rfl (M4 rfl rfl (qV (Tg rfl rfl (by omega)) ?_))));rw[gd];refine M6 rfl (qM rfl (M4 rfl rfl (qV (SV rfl rfl (by rw[qh];omega)) ?_)));rw[qh];refine qV (NJ m F rfl rfl (by omega) hF) ?_;rw[show 1*F%18446744073709551616=F by omega];refine LU rfl (Mn.qb (e:=[(1,_),(2,_),(4,_),(5,_),(6,_),(9,_),(10,_),(11,_)]) ?_);refine qN rfl (M4 rfl rfl (LM rfl (qV (SM rfl rfl rfl (by show v+1<2^64;omega) f1) ?_)));refine M4 rfl rfl (qV (NJ k G rfl rfl (by omega) hG) ?_);rw[hE,Nat.mod_eq_of_lt (show E<18446744073709551616 by omega)];refine LM rfl (qV (SM rfl rfl rfl (by show E<2^64;omega) (by omega)) ?_);refine Mb zcT rfl (z2F (v+1-F) (E-F) f3 f2 (by omega) w4) ?_;rintro _ w5 ⟨rfl,aT⟩;refine qV (zbo (parts:=[(0,.tmp 69)]) (cs:=[_,_,_,_]) QN rfl Xa P4 rfl rfl) (M6 rfl ?_);have uG:=aT.LN dt;refine M1 rfl (MD (news:=[M7 (NY (v+1-F) (E-F)).1,I ((NY (v+1-F) (E-F)).2:Int),M7 0,I 0]) QN rfl rfl rfl rfl uG (by simp)) ?_;rintro w6 ⟨aX,aR⟩;replace aX:LX w6 b5 [M7 (NY (v+1-F) (E-F)).1,I ((NY (v+1-F) (E-F)).2:Int),M7 0,I 0] 329:=aX;refine LO (Mj Tryz.func201 (.tmp rfl (.cell Xa rfl QN rfl (LX.cells (n:=4) aX (news:=[_,_,_,_]) rfl) rfl .nil)) ?_);exact⟨_,rfl,rfl,(cj.trans aT).LJ aR (λi hi=>by omega)⟩
end
def hiB (w:Nat):Nat->Nat->List Nat->List Bool
 |_,_,[]=>[]
 |len,i,v::r=>List.replicate (v / 2^w+i-len) false++true::hiB w (v / 2^w+i+1) (i+1) r
abbrev Nof (l:List Nat):Prop:=l.Pairwise (·<=·)
def nth1:List Bool->Nat->Option Nat
 |[],_=>none
 |true::l,0=>some 0
 |true::l,k+1=>(nth1 l k).map (·+1)
 |false::l,k=>(nth1 l k).map (·+1)
theorem QR:∀(z:Nat) (l:List Bool) (k:Nat),nth1 (List.replicate z false++l) k=(nth1 l k).map (·+z)
 |0,l,k=>by simp
 | z + 1, l, k => by
   rw[List.replicate_succ,List.cons_append,nth1,QR z l k,Option.map_map]
   congr 1
theorem XR (w:Nat):∀(l:List Nat) (len i k:Nat) (v:Nat),Nof l->l[k]? =some v->(∀x,l.head? =some x->len<=x / 2^w+i)->nth1 (hiB w len i l) k=some (v / 2^w+i+k-len)
 |[],len,i,k,v,_,h,_=>by simp at h
 | x :: r, len, i, 0, v, _, h, hl => by
   simp at h;subst h;have:=hl x rfl;rw[hiB,QR,nth1]
   simp
 | x :: r, len, i, k + 1, v, hn, h, hl => by
   rw[List.getElem?_cons_succ] at h;obtain⟨n1,n2⟩:=List.pairwise_cons.1 hn;have hx:=hl x rfl;have hxv:x<=v:=n1 v (List.mem_of_getElem? h);have hd:=Nat.div_le_div_right (c:=2^w) hxv
   rw[hiB,QR,nth1,XR w r _ (i+1) k v n2 h (λy hy=>by
    have hxy:x<=y:=n1 y (by cases r with
     |nil=>simp at hy
     |cons a r=>simp at hy;simp[hy])
    have:=Nat.div_le_div_right (c:=2^w) hxy
    omega)]
   simp;omega
theorem VG:∀(l:List Bool) (j p m:Nat),nth1 l j=some p->nth1 (l.drop p) m=(nth1 l (j+m)).map (·-p)
 |[],j,p,m,h=>by simp[nth1] at h
 | true :: l, 0, p, m, h => by
   simp[nth1] at h;subst h
   simp
 | true :: l, j + 1, p, m, h => by
   simp only[nth1,Option.map_eq_some_iff] at h;obtain⟨q,hq,rfl⟩:=h;rw[List.drop_succ_cons,VG l j q m hq,show j+1+m=(j+m)+1 by omega,nth1,Option.map_map]
   congr 1
   funext x;simp
 | false :: l, j, p, m, h => by
   simp only[nth1,Option.map_eq_some_iff] at h;obtain⟨q,hq,rfl⟩:=h;rw[List.drop_succ_cons,VG l j q m hq,nth1,Option.map_map]
   congr 1
   funext x;simp
theorem SO:∀(a b:List Bool) (k:Nat),nth1 (a++b) k=if k<a.count true then nth1 a k else(nth1 b (k-a.count true)).map (·+a.length)
 |[],b,k=>by simp
 |true::a,b,0=>by simp[nth1]
 | true :: a, b, k + 1 => by
   rw[List.cons_append,nth1,SO a b k,List.count_cons_self];split
   ·rename_i h
    rw[if_pos (by omega),nth1]
   ·rename_i h
    rw[if_neg (by omega),Option.map_map,show k+1-(a.count true+1)=k-a.count true by omega]
    congr 1
 | false :: a, b, k => by
   rw[List.cons_append,nth1,SO a b k,List.count_cons_of_ne (by decide)];split
   ·rw[nth1]
   ·rw[Option.map_map]
    congr 1
theorem Wx:∀{l:List Bool} {k p:Nat},nth1 l k=some p->p<l.length/\l[p]? =some true
 |true::l,0,p,h=>by simp[nth1] at h;subst h;simp
 | true :: l, k + 1, p, h => by
   simp only[nth1,Option.map_eq_some_iff] at h;obtain⟨q,hq,rfl⟩:=h;have:=Wx hq
   simp;exact this
 | false :: l, k, p, h => by
   simp only[nth1,Option.map_eq_some_iff] at h;obtain⟨q,hq,rfl⟩:=h;have:=Wx hq
   simp;exact this
 |[],k,p,h=>by simp[nth1] at h
theorem z4i (w:Nat):∀(l:List Nat) (len i:Nat),Nof l->(∀x,l.head? =some x->len<=x / 2^w+i)->∀v,l.getLast? =some v->len+(hiB w len i l).length=v / 2^w+i+l.length
 |[],len,i,_,_,v,h=>by simp at h
 | [x], len, i, _, hl, v, h => by
   simp at h;subst h;have:=hl x rfl
   simp[hiB];omega
 | x :: y :: r, len, i, hn, hl, v, h => by
   obtain⟨n1,n2⟩:=List.pairwise_cons.1 hn;have hx:=hl x rfl;have hxy:=Nat.div_le_div_right (c:=2^w) (n1 y (by simp));have:=z4i w (y::r) (x / 2^w+i+1) (i+1) n2 (λz hz=>by simp at hz;subst hz;omega) v (by simpa using h);rw[hiB,List.length_append,List.length_replicate,List.length_cons];simp only[List.length_cons] at this⊢;omega
theorem TO (z:Nat)(r:List Bool):valB (List.replicate z false++true::r)=2^r.length+valB r:=by
 induction z with
 |zero=>simp[valB]
 |succ z ih=>rw[List.replicate_succ,List.cons_append,valB,ih];simp
theorem ZJ (c:Cd)(v:Nat):c.rest v=bitsN (c.p0 v).2 (c.p0 v).1:=by cases c<;>rfl
theorem T3 (c:Cd)(v:Nat):(c.enc v).length=c.zeros v+1+(c.p0 v).2:=by
 unfold Cd.enc
 rw[List.length_append,List.length_replicate,List.length_cons,ZJ,bitsN_length];omega
theorem Cd.Wq (c:Cd):c.most<=281474976710654:=by cases c<;>simp[Cd.most]
theorem RW:∀n:Nat,bitsN n 0=List.replicate n false
 |0=>rfl
 |n+1=>by rw[bitsN,RW n,List.replicate_succ];simp
theorem z4T (z:Nat):bitsN (z+1) 1=List.replicate z false++[true]:=by
 refine UG (by simp) ?_
 rw[MJ,TO]
 simp[valB]
theorem Tn {c:Cd}{v:Nat}(hc:c.N4)(hv:v<=c.most):c.zeros v<=65535/\(c.p0 v).2<=63/\(c.p0 v).1<2^(c.p0 v).2:=by
 cases c with
 |unary=>exact⟨hv,by simp[Cd.p0],by simp[Cd.p0]⟩
 | gamma =>
   obtain⟨g1,g2,g3⟩:=S7 hv;refine⟨by show Nat.log2 (v+1)<=_;omega,by show Nat.log2 (v+1)<=_;omega,?_⟩;show v+1-2^Nat.log2 (v+1)<2^Nat.log2 (v+1);rw[Nat.pow_succ] at g2
   omega
 | zeta k =>
   obtain⟨aK,ao⟩:1<=k/\k<=16:=hc;obtain⟨g1,g2,g3⟩:=S7 hv;have f:=TM (k:=k) (v:=v) aK;dsimp only at f;have hd:Nat.log2 (v+1) / k<=Nat.log2 (v+1):=Nat.div_le_self _ _;have hm:Nat.log2 (v+1) / k*k<=Nat.log2 (v+1):=Nat.div_mul_le_self _ _;refine⟨by show Nat.log2 (v+1) / k<=_;omega,?_,?_⟩
   ·show(NY _ _).2<=63
    have h1:MF (2^(Nat.log2 (v+1) / k*k)*2^k-2^(Nat.log2 (v+1) / k*k)-1)<=63:=by
     refine Ny ?_;have h2:=Nat.pow_le_pow_right (show 0<2 by decide) (show Nat.log2 (v+1) / k*k+k<=63 by omega);rw[Nat.pow_add] at h2;have h3:=f.2.2
     revert h2 h3
     generalize 2^(Nat.log2 (v+1) / k*k)*2^k=E
     generalize 2^(Nat.log2 (v+1) / k*k)=F
     intro h2 h3;omega
    unfold NY;dsimp only;split<;>dsimp only<;>omega
   ·exact z4m f.2.1
section
variable {P:Program}{e:Env}{d:Option Nat}{ty t t' el:TypeId}{pos:String}{aft:Array Edge}{g:Option (Nat×Bool)}{x y:Operand}{w:World}{k:IntKind}{n:Nat}{td:TypeDesc}
theorem zbE {za:Int}[rk:PI za n]{len size bytes:Nat}{z:Value}{vs:Array Value}(ht:P.underlying t=some (.array len el))(hs:TI P el z size bytes)(hu:P.underlying el=some td)(ha:aggOf td=true)(hx:look e x=some (.agg vs))(hy:look e y=some (.int k za))(hn:n<len):
  Y P e ⟨d,.index t x y,ty,pos,aft,g⟩ (.agg (vs.extract (n*size) (n*size+size))) w w:=fun ρ hρ=>by
 obtain⟨rfl⟩:=rk
 have hs:=hs.size (w:=w)
 simp[execOp,hρ _ _ hx,hρ _ _ hy,Instr.index,asIntOf,run_underlying ht,hn,hs,part,QD hu,ha]
end
section
theorem z0U (c:Cd)(v:Nat)(hc:c.N4)(hv:v<=c.most)(w:World):Mm Tryz.prog 176 [Zq c,M7 v] w λu w'=>u= .tuple #[I ((c.enc v).length:Int),I 0]/\Ext w w':=by
 obtain⟨x,y,dl⟩:∃x y,OU c=[x,y]:=by cases c<;>exact⟨_,_,rfl⟩
 obtain⟨q1,q2,-⟩:=Tn hc hv
 have hl:=T3 c v
 have f7:=c.Wq
 refine It (e:=[(0,_),(1,_)]) Tryz.func176 rfl Tryz.ntmps176 rfl rfl (qN rfl (LV rfl rfl (NN rfl (cs:=OU c) rfl) ?_))
 rintro _ w1 ⟨b2,rfl,bY,ad,am⟩
 refine M6 rfl (LU rfl (run_seq (qN rfl (qV (Mk (news:=OU c) OK rfl Nk rfl (am.cells (n:=2) (by rw[dl];rfl)) (by rw[dl];rfl)) ?_))))
 refine LM rfl (Mb zcB rfl (z7G c v hc hv w1) ?_)
 rintro _ w2 ⟨rfl,af⟩
 refine qV ((by first|exact ML rfl|exact Oh rfl)) ?_
 refine LO (An rfl (py (qN rfl (qV (Mk (news:=OU c) OK rfl Nk rfl ((af.LN am).cells (n:=2) (by rw[dl];rfl)) (by rw[dl];rfl)) ?_))))
 refine LM rfl (Mb z9A rfl (XD c v hc (by omega) w2) ?_)
 rintro _ w3 ⟨rfl,ah⟩
 refine LM rfl (MW rfl rfl (MW rfl rfl (LV rfl rfl (O9 (cs:=[_,_,_,_]) QN rfl) ?_)))
 rintro _ w4 ⟨b7,rfl,kX,aC,bN⟩
 refine M6 rfl (M1 rfl (MD (news:=[M7 (c.p0 v).1,I ((c.p0 v).2:Int),M7 0,I 0]) QN rfl rfl rfl rfl bN (by simp)) ?_)
 rintro w5 ⟨gU,aj⟩
 replace gU:LX w5 b7 [M7 (c.p0 v).1,I ((c.p0 v).2:Int),M7 0,I 0] 329:=gU
 refine qM rfl (LM rfl (MK rfl rfl (qV (yia Xa P4 rfl rfl (by omega)) (M0 Wm rfl (qV (LR U3 rfl rfl gU rfl) (MK rfl rfl (qV (yia Xa P4 rfl rfl (by omega)) (M0 Wm rfl (qV (LR U3 rfl rfl gU rfl) (MK rfl rfl (M6 rfl (LU rfl (Mn.qb (e:=[(4,_),(5,_)]) ?_)))))))))))))
 refine LP Tryz.func176 rfl ?_
 have z1:=ad.size
 have z2:=af.size
 have z3:=ah.size
 refine⟨_,rfl,?_,(((ad.trans af).trans ah).trans aC).LJ aj (λi hi=>by omega)⟩
 simp only[resVal]
 congr 4
 omega
theorem z74 {w : World}{p : Nat}{bs : List Bool}{F : Nat -> Prop}(h : UH w p bs F)(c : Cd)(v : Nat)(hc : c.N4)(hv : v <= c.most)(hl : bs.length + (c.enc v).length <= 134217728) :
  Mm Tryz.prog 177 [ptr p 0,Zq c,M7 v] w λu w'=>u=I 0/\WrR p F w w' (bs++c.enc v):=by
 obtain⟨x,y,dl⟩:∃x y,OU c=[x,y]:=by cases c<;>exact⟨_,_,rfl⟩
 obtain⟨q1,q2,q3⟩:=Tn hc hv
 have nW:=T3 c v
 have f7:=c.Wq
 refine It (e:=[(0,_),(1,_),(2,_)]) Tryz.func177 rfl Tryz.ntmps177 rfl rfl (qN rfl (LV rfl rfl (NN rfl (cs:=OU c) rfl) ?_))
 rintro _ w1 ⟨b4,rfl,eA,ad,aM⟩
 refine LU rfl (run_seq (qN rfl (LM rfl (qV (MU Zo rfl rfl) (LO (An rfl (py (qN rfl (qV (Mk (news:=OU c) OK rfl Nk rfl (aM.cells (n:=2) (by rw[dl];rfl)) (by rw[dl];rfl)) ?_)))))))))
 refine LM rfl (Mb z9C rfl (z0U c v hc hv w1) ?_)
 rintro _ w2 ⟨rfl,af⟩
 refine LM rfl (MW rfl rfl (MW rfl rfl (M6 rfl (LU rfl (run_seq (LK (qN rfl (LM rfl (MY rfl rfl (LU rfl (LY rfl (λe0=>?_) (λe0=>?_))))))))))))
 ·exact absurd rfl e0
 ·refine qN rfl (M4 rfl rfl (Mb Yz rfl (RS ((h.ext ad).ext af)) ?_)); rintro _ w2 ⟨rfl, rfl⟩; refine NP rfl rfl (Nc rfl rfl (LU rfl (LY rfl (λe1 => ?_) (λe1 => ?_))))
  ·omega
  ·refine py (LL (qN rfl (qV (Mk (news := OU c) OK rfl Nk rfl ((af.LN aM).cells (n := 2) (by rw [dl]; rfl)) (by rw [dl]; rfl)) ?_))); refine LM rfl (Mb z9A rfl (XD c v hc (by omega) w2) ?_); rintro _ w3 ⟨rfl, ah⟩; refine LM rfl (MW rfl rfl (MW rfl rfl (LV rfl rfl (O9 (cs := [_, _, _, _]) QN rfl) ?_))); rintro _ w4 ⟨b10, rfl, Ay, aC, fd⟩; refine M6 rfl (M1 rfl (MD (news := [M7 (c.p0 v).1, I ((c.p0 v).2 : Int), M7 0, I 0]) QN rfl rfl rfl rfl fd (by simp)) ?_); rintro w5 ⟨kA, aj⟩; replace kA : LX w5 b10 [M7 (c.p0 v).1, I ((c.p0 v).2 : Int), M7 0, I 0] 329 := kA; have z1 := ad.size; have z2 := af.size; have z3 := ah.size; have bC : Ext w w5 := (((ad.trans af).trans ah).trans aC).LJ aj (λi hi => by omega); have z5 := bC.size; have l10 := kA.lt; have jz : ∀ i, F i -> i < w.heap.size := λi hi => h.lt hi
   have EY:∀(F':Nat->Prop),(∀k,F' k->F k\/w5.heap.size<=k)->¬F' b10:=λF' hf e=>by
    rcases hf b10 e with e| e
    ·have:=jz b10 e;omega
    ·omega
   refine LO (Mn.qb (e:=[(0,_),(6,_),(9,_),(10,_)]) ?_);refine run_seq (LK (Oe (α:=Nat×(Nat->Prop)×List Bool) ((c.zeros v,F,bs)) (λx=>[(0,ptr p 0),(9,I (x.1:Int)),(10,ptr b10 0)]) (λx w'=>x.1<=c.zeros v/\UH w' p x.2.2 x.2.1/\x.2.2=bs++List.replicate (c.zeros v-x.1) false/\Kp F w w'/\(∀k,x.2.1 k->F k\/w5.heap.size<=k)/\LX w' b10 [M7 (c.p0 v).1,I ((c.p0 v).2:Int),M7 0,I 0] 329/\w5.heap.size<=w'.heap.size) (λx=>x.1) ?hI ?hround))
   case hI=>exact⟨Nat.le_refl _,h.ext bC,by simp,bC.kp,λ_ h=> .inl h,kA,Nat.le_refl _⟩
   case hround =>
    rintro⟨z,F1,b1⟩ w6 ⟨hz,kY,bR,aR,mB,aX,z6⟩ ih;dsimp only at hz kY bR mB;have ff:b1.length=bs.length+(c.zeros v-z):=by rw[bR,List.length_append,List.length_replicate]
    try dsimp only
    refine run_seq (qN rfl (LM rfl (Nc rfl rfl (LO (LY rfl (λaP=>?_) (λaP=>?_))))))
    ·refine py (run_seq (LK (LQ rfl (LM rfl (Mb SE rfl (OI kY 0 63 (by decide) (by decide) (by omega)) ?_)))));rintro _ w7 ⟨rfl,F7,o2,aA,o3⟩;have bN:=aA.LN aX (EY F1 mB);have z7:=aA.size;refine LO (LL (LQ rfl (LM rfl (NP rfl rfl (LU rfl ?_)))));rw[show((z:Int)-63)=((z-63:Nat):Int) by omega];refine(ih (z-63,F7,b1++bitsN 63 0) w7 ⟨by dsimp only;omega,o2,?_,?_,?_,bN,by omega⟩ (by dsimp only;omega)).qb
     ·dsimp only;rw[bR,RW,List.append_assoc,List.replicate_append_replicate,show c.zeros v-z+63=c.zeros v-(z-63) by omega]
     ·exact aR.LJ aA (λi hi=>(mB i hi).elim .inr (λe=> .inl (by omega)))
     ·intro i hi;rcases o3 i hi with e| e
      ·exact mB i e
      ·exact .inr (by omega)
    ·refine LW rfl (run_seq (qN rfl (LM rfl (PQ rfl rfl (LO (LY rfl (λg0=>?_) (λg0=>?_)))))))
     ·refine LQ rfl (M4 rfl rfl (MK rfl rfl ?_));rw[show((z:Int)+1)=((z+1:Nat):Int) by omega];refine Mb SE rfl (OI kY 1 (z+1) (by omega) (by have:=Nat.pow_le_pow_right (show 0<2 by decide) (show 1<=z+1 by omega);omega) (by omega)) ?_;rintro _ w7 ⟨rfl,F7,o2,aA,o3⟩;have bN:=aA.LN aX (EY F1 mB);have z7:=aA.size;have Az:Kp F w w7:=aR.LJ aA (λi hi=>(mB i hi).elim .inr (λe=> .inl (by omega)));have AA:∀i,F7 i->F i\/w5.heap.size<=i:=λi hi=>(o3 i hi).elim (mB i) (λe=> .inr (by omega))
      have kX:b1++bitsN (z+1) 1=bs++(List.replicate (c.zeros v) false++[true]):=by
       rw[bR,z4T,List.append_assoc]
       congr 1
       rw[<-List.append_assoc,List.replicate_append_replicate,show c.zeros v-z+z=c.zeros v by omega]
      rw[kX] at o2;clear ih;refine LO (run_seq (qN rfl (qV (Mk (news:=[M7 (c.p0 v).1,I ((c.p0 v).2:Int),M7 0,I 0]) Xa rfl QN rfl (bN.cells (n:=4) rfl) rfl) (LM rfl (LO (LK (Oe (α:=Nat×(Nat->Prop)×List Bool) ((0,F7,bs++(List.replicate (c.zeros v) false++[true]))) (λx=>[(0,ptr p 0),(49,.agg #[M7 (c.p0 v).1,I ((c.p0 v).2:Int),M7 0,I 0]),(50,I (x.1:Int))]) (λx w'=>x.1<=2/\UH w' p x.2.2 x.2.1/\x.2.2=(bs++(List.replicate (c.zeros v) false++[true]))++(if x.1=0 then [] else c.rest v)/\Kp F w w'/\(∀k,x.2.1 k->F k\/w5.heap.size<=k)/\w5.heap.size<=w'.heap.size) (λx=>2-x.1) ?hI ?hround)))))))
      case hI=>exact⟨by dsimp only;omega,o2,by simp,Az,AA,by omega⟩
      case hround=>
       rintro⟨i,F8,b8⟩ w8 ⟨hi,rC,jh,bj,u3,z8⟩ ih;dsimp only at hi rC jh u3
       try dsimp only
       refine qN rfl (Nr rfl rfl (LO (run_seq (LY rfl (λkZ=>?_) (λkZ=>?_)))))
       ·have uH:b8.length<=bs.length+(c.zeros v+1)+(if i=0 then 0 else(c.p0 v).2):=by
         rw[jh];simp only[List.length_append,List.length_replicate,List.length_cons,List.length_nil];split
         ·simp
         ·rw[ZJ,bitsN_length];omega
        refine py (run_seq (LK (qN rfl ?_)));rcases (show i=0\/i=1 by omega) with rfl|rfl
        ·rw[if_pos rfl] at uH jh;refine qV (zbE (n:=0) Xa P4 z6v rfl rfl rfl (by decide)) ?_;rw[show(#[M7 (c.p0 v).1,I ((c.p0 v).2:Int),M7 0,I 0]:Array Value).extract (0*2) (0*2+2)=#[M7 (c.p0 v).1,I ((c.p0 v).2:Int)] from rfl];refine LV rfl rfl (O9 (cs:=[_,_]) P4 rfl) ?_;rintro _ w9 ⟨b12,rfl,AB,fg,bu⟩;refine M1 rfl (MD (news:=[M7 (c.p0 v).1,I ((c.p0 v).2:Int)]) P4 rfl rfl rfl rfl bu (by simp)) ?_;rintro w10 ⟨ek,aw⟩;replace ek:LX w10 b12 [M7 (c.p0 v).1,I ((c.p0 v).2:Int)] 328:=ek;have z9:=fg.size;have fu:Ext w8 w10:=fg.LJ aw (λi hi=>by omega);have z10:=fu.size;refine LO (LQ rfl (LM rfl (M0 z3N rfl (qV (LR Ns rfl rfl ek rfl) (M0 Wm rfl (qV (LR U3 rfl rfl ek rfl) (Mb SE rfl (OI (rC.ext fu) (c.p0 v).1 (c.p0 v).2 (by omega) q3 (by omega)) ?_)))))));rintro _ w11 ⟨rfl,F11,rD,aU,rE⟩;have iI:=fu.kp.trans aU;refine LO (LL (LQ rfl (MK rfl rfl (LM rfl (LO ((ih (1,F11,b8++bitsN (c.p0 v).2 (c.p0 v).1) w11 ⟨by dsimp only;omega,rD,?_,?_,?_,?_⟩ (by dsimp only;omega)).qb))))))
         ·dsimp only;rw[jh];rw[List.append_nil,if_neg (by decide),ZJ]
         ·exact bj.LJ iI (λi hi=>(u3 i hi).elim .inr (λe=> .inl (by omega)))
         ·intro i hi;rcases rE i hi with e| e
          ·exact u3 i e
          ·exact .inr (by omega)
         ·have:=iI.size;omega
        ·rw[if_neg (by decide)] at uH jh;refine qV (zbE (n:=1) Xa P4 z6v rfl rfl rfl (by decide)) ?_;rw[show(#[M7 (c.p0 v).1,I ((c.p0 v).2:Int),M7 0,I 0]:Array Value).extract (1*2) (1*2+2)=#[M7 0,I 0] from rfl];refine LV rfl rfl (O9 (cs:=[_,_]) P4 rfl) ?_;rintro _ w9 ⟨b12,rfl,AB,fg,bu⟩;refine M1 rfl (MD (news:=[M7 0,I 0]) P4 rfl rfl rfl rfl bu (by simp)) ?_;rintro w10 ⟨ek,aw⟩;replace ek:LX w10 b12 [M7 0,I 0] 328:=ek;have z9:=fg.size;have fu:Ext w8 w10:=fg.LJ aw (λi hi=>by omega);have z10:=fu.size;refine LO (LQ rfl (LM rfl (M0 z3N rfl (qV (LR Ns rfl rfl ek rfl) (M0 Wm rfl (qV (LR U3 rfl rfl ek rfl) (Mb SE rfl (OI (rC.ext fu) 0 0 (by omega) (by decide) (by omega)) ?_)))))));rintro _ w11 ⟨rfl,F11,rD,aU,rE⟩;have iI:=fu.kp.trans aU;refine LO (LL (LQ rfl (MK rfl rfl (LM rfl (LO ((ih (2,F11,b8++bitsN 0 0) w11 ⟨by dsimp only;omega,rD,?_,?_,?_,?_⟩ (by dsimp only;omega)).qb))))))
         ·dsimp only;rw[jh];rw[if_neg (by decide)];simp[bitsN]
         ·exact bj.LJ iI (λi hi=>(u3 i hi).elim .inr (λe=> .inl (by omega)))
         ·intro i hi;rcases rE i hi with e| e
          ·exact u3 i e
          ·exact .inr (by omega)
         ·have:=iI.size;omega
       ·have:i=2:=by omega
        subst this;rw[if_neg (by decide)] at jh;refine LW rfl (qN rfl (LU rfl (LP Tryz.func177 rfl (⟨_,rfl,rfl,F8,?_,bj,λi hi=>(u3 i hi).imp id (λe=>by omega)⟩))));rw[jh] at rC;unfold Cd.enc
        simpa using rC
     ·omega
end
structure RgM (w:World)(x r:Nat)(s:Bytes)(a:Nat):Prop where
 LN:LX w x [ptr r 0,.bool false] 336
 rd:Qc w r s a
 ne:x≠r
theorem RgM.ext {w w':World}{x r:Nat}{s:Bytes}{a:Nat}(h:RgM w x r s a)(k:Ext w w'):RgM w' x r s a:=⟨k.LN h.LN,⟨k.LN h.rd.1,h.rd.2⟩,h.ne⟩
section
variable {w:World}{x r:Nat}{s:Bytes}{a:Nat}
theorem Te (h:RgM w x r s a)(n:Nat)(hn:n<=64)(hl:a+n<=8*s.length):
  Mm Tryz.prog 221 [ptr x 0,I (n:Int)] w λv w'=>v=M7 (valB (((Md s).drop a).take n))/\RgM w' x r s (a+n)/\Kp (λk=>k=x\/k=r) w w':=by
 obtain⟨hB,hR,bI⟩:=h
 refine It (e:=[(0,_),(1,_)]) Tryz.func221 rfl Tryz.ntmps221 rfl rfl (qN rfl (M6 rfl (qM rfl (LM rfl (Mp rfl (M0 z8U rfl (qV (LR PW rfl rfl hB rfl) (LM rfl (Mb z0W rfl (RN hR n hn) ?_)))))))))
 rintro v1 w1 eM
 obtain⟨rfl,ma,aK⟩:v1= .tuple #[M7 (valB (((Md s).drop a).take n)),I 0]/\Qc w1 r s (a+n)/\Kp (λk=>k=r) w w1:=by
  rcases eM with⟨-,h⟩|⟨h,-⟩
  ·exact h
  ·omega
 have ai:=aK.LN hB bI
 refine LM rfl (MW rfl rfl (MW rfl rfl (M6 rfl (M6 rfl (qM rfl (M4 rfl rfl (Mp rfl (M0 Ws rfl (qV (LR U4 rfl rfl ai rfl) (M4 rfl rfl (MY rfl rfl (MC (ME rfl rfl ?_)))))))))))))
 refine Mp rfl (M0 Ws rfl (M1 rfl (NC RX rfl rfl rfl ai (by simp)) ?_))
 rintro w2 ⟨am,ao⟩
 replace am:LX w2 x [ptr r 0,.bool false] 336:=am
 refine LO (Mn.qb (e:=[(4,_),(5,_)]) ?_)
 refine qN rfl (LM rfl (LU rfl (LP Tryz.func221 rfl ?_)))
 exact⟨_,rfl,rfl,⟨am,⟨ao.LN ma.1 (Ne.symm bI),ma.2⟩,bI⟩,(aK.LZ (λk e=> .inr e)).trans (ao.LZ (λk e=> .inl e))⟩
theorem TP (h:RgM w x r s a)(z most:Nat)(rest:List Bool)(hb:(Md s).drop a=List.replicate z false++true::rest)(hz:z<=most)(hm:most<=65535):
  Mm Tryz.prog 219 [ptr x 0,I (most:Int)] w λv w'=>v=I (z:Int)/\RgM w' x r s (a+z+1)/\Kp (λk=>k=x\/k=r) w w':=by
 have aB:a+z+1<=8*s.length:=by
  have:=congrArg List.length hb;rw[List.length_drop,bitsT_length,List.length_append,List.length_replicate,List.length_cons] at this;omega
 refine It (e:=[(0,_),(1,_)]) Tryz.func219 rfl Tryz.ntmps219 rfl rfl (qN rfl (LU rfl (run_seq (qN rfl (LU rfl (LK (Oe (α:=Nat) (0) (λn=>[(0,ptr x 0),(1,I (most:Int)),(5,I (n:Int))]) (λn w'=>n<=z/\RgM w' x r s (a+n)/\Kp (λk=>k=x\/k=r) w w') (λn=>z-n) ?hI ?hround)))))))
 case hI=>exact⟨Nat.zero_le _,h,Kp.refl _ _⟩
 case hround=>
  rintro n w1 ⟨hn,h1,aK⟩ ih;have ai:=h1.LN
  have hd:(Md s).drop (a+n)=List.replicate (z-n) false++true::rest:=by
   rw[<-List.drop_drop,hb,List.drop_append_of_le_length (by simp;omega),List.drop_replicate]
  try dsimp only
  refine run_seq (qN rfl (M4 rfl rfl (zle rfl rfl (LM rfl (OS (λc1=>?_) (λc1=>?_))))))
  ·have hv:valB (((Md s).drop (a+n)).take 1)=if n=z then 1 else 0:=by
    rw[hd];by_cases e:n=z
    ·subst e;rw[Nat.sub_self,if_pos rfl];rfl
    ·rw[if_neg e,show z-n=(z-n-1)+1 by omega,List.replicate_succ];rfl
   refine LM rfl (Mp rfl (M0 Ws rfl (qV (LR U4 rfl rfl ai rfl) (qV ((by first|exact ML rfl|exact Oh rfl)) ?_))));refine NB rfl rfl (LO (M3 rfl (py (run_seq (LK (qN rfl (LM rfl (Mb z4d rfl (Te h1 1 (by decide) (by omega)) ?_))))))));rintro _ w2 ⟨rfl,h2,ao⟩;rw[hv];refine NS rfl rfl (LO (LY rfl (λc2=>?_) (λc2=>?_)))
   ·have EZ:n=z:=by
     by_cases e:n=z
     ·exact e
     ·rw[if_neg e] at c2;simp at c2
    subst EZ;refine qN rfl (LM rfl (LU rfl (LP Tryz.func219 rfl ?_)));exact⟨_,rfl,rfl,h2,aK.trans ao⟩
   ·have EZ:n≠z:=λe=>by rw[if_pos e] at c2;simp at c2
    refine py (LL (LQ rfl (LM rfl (MK rfl rfl (LU rfl ?_)))));exact(ih (n+1) w2 ⟨by omega,by rw[<-Nat.add_assoc];exact h2,aK.trans ao⟩ (by omega)).qb
  ·omega
theorem z1U (h:RgM w x r s a)(z q:Nat)(rest:List Bool)(hb:(Md s).drop a=List.replicate z false++true::(bitsN z q++rest))(hq:q<2^z)(hz:z<=47):
  Mm Tryz.prog 220 [ptr x 0,I 47] w λv w'=>v=M7 (q+2^z-1)/\RgM w' x r s (a+z+1+z)/\Kp (λk=>k=x\/k=r) w w':=by
 have aB:a+z+1+z<=8*s.length:=by
  have:=congrArg List.length hb;rw[List.length_drop,bitsT_length,List.length_append,List.length_replicate,List.length_cons,List.length_append,bitsN_length] at this;omega
 have hd:(Md s).drop (a+z+1)=bitsN z q++rest:=by
  rw[show a+z+1=a+(z+1) by omega,<-List.drop_drop,hb];rw[<-List.drop_drop,List.drop_left' (by simp)];rfl
 have hv:valB (((Md s).drop (a+z+1)).take z)=q:=by
  rw[hd,List.take_left' (by simp),MJ,Nat.mod_eq_of_lt hq]
 obtain⟨Q,hQ⟩:∃Q,2^z=Q:=⟨_,rfl⟩
 rw[hQ] at hq⊢
 have Au:1<=Q/\Q<=281474976710656:=by
  rw[<-hQ];exact⟨Nat.two_pow_pos _,by have:=Nat.pow_le_pow_right (show 0<2 by decide) (show z<=48 by omega);simpa using this⟩
 refine It (e:=[(0,_),(1,_)]) Tryz.func220 rfl Tryz.ntmps220 rfl rfl (qN rfl (M6 rfl (qM rfl (M4 rfl rfl (Mb z6S rfl (TP h z 47 _ hb hz (by decide)) ?_)))))
 rintro _ w1 ⟨rfl,h1,aK⟩
 have hg:=Ext.Ma w1
 refine LU rfl (run_seq (NF (λw'=>Kp (λk=>k=x\/k=r) w1 w') rfl (M9 0 rfl rfl (hg.kp) (M9 1 rfl rfl (hg.kp) (M9 3 rfl rfl (hg.kp) (LS 4 rfl (NJ z Q rfl rfl (by omega) hQ) (hg.kp) ?_))))))
 rw[show 1*Q%18446744073709551616=Q by omega]
 refine Pw 2 rfl z4d rfl (Te (h1.ext hg) z (by omega) (by omega)) ?_
 rintro _ w2 ⟨rfl,h2,ao⟩
 refine⟨hg.kp.trans ao,?_⟩
 rw[hv]
 refine LS 5 rfl (QL rfl rfl) (hg.kp.trans ao) ?_
 rw[show(q+Q)%18446744073709551616=q+Q by omega]
 refine LS 6 rfl (SM (n:=1) rfl rfl rfl (by show q+Q<2^64;omega) (by omega)) (hg.kp.trans ao) ?_
 refine LS 7 rfl (NK rfl) (hg.kp.trans ao) (qE (LP Tryz.func220 rfl ?_))
 exact⟨_,rfl,rfl,h2,aK.trans (hg.kp.trans ao)⟩
theorem z1I (h:RgM w x r s a)(v K:Nat)(rest:List Bool)(hb:(Md s).drop a=Nb v K++rest)(hv:v<K)(rz:K<=9223372036854775808):
  Mm Tryz.prog 222 [ptr x 0,M7 K] w λu w'=>u=M7 v/\RgM w' x r s (a+(Nb v K).length)/\Kp (λk=>k=x\/k=r) w w':=by
 have aB:a+(Nb v K).length<=8*s.length:=by
  have:=congrArg List.length hb;have ha:=h.rd.2.1;rw[List.length_drop,bitsT_length,List.length_append] at this;omega
 refine It (e:=[(0,_),(1,_)]) Tryz.func222 rfl Tryz.ntmps222 rfl rfl (qN rfl (M6 rfl (qM rfl (LM rfl (qV (SM (n:=1) rfl rfl rfl (by show K<2^64;omega) (by omega)) ?_)))))
 refine Mb YJ rfl (QJ (K-1) (by omega) w) ?_
 rintro _ w ⟨rfl,rfl⟩
 refine LU rfl (run_seq (qN rfl (LM rfl (NS rfl rfl (LO ?_)))))
 by_cases rA:K=1
 ·subst rA;have qi:v=0:=by omega
  subst qi;rw[show MF (1-1)=0 from rfl];refine LY rfl (λc0=>?_) (λc0=>?_)
  ·refine qN rfl (LU rfl (LP Tryz.func222 rfl ?_));exact⟨_,rfl,rfl,h,Kp.refl _ _⟩
  ·exact absurd rfl c0
 ·have f:=z2r hv (by omega) rest;dsimp only at f;obtain⟨n,hn⟩:∃n,MF (K-1)=n:=⟨_,rfl⟩;rw[hn] at f⊢;have g:=Rl (K:=K) (by omega);rw[hn] at g;obtain⟨Q,hQ⟩:∃Q,2^n=Q:=⟨_,rfl⟩;rw[hQ] at f g;obtain⟨f1,f2,f3⟩:=f
  have AC:n<=63:=by
   rw[<-hn];have e63:(2:Nat)^63=9223372036854775808:=by decide
   exact Ny (by omega)
  have At:Q<=9223372036854775808:=by
   rw[<-hQ];have:=Nat.pow_le_pow_right (show 0<2 by decide) AC;have e63:(2:Nat)^63=9223372036854775808:=by decide
   omega
  have t1:((Md s).drop a).take (n-1)=(Nb v K).take (n-1):=by rw[hb,List.take_append_of_le_length f2]
  obtain⟨u,hu⟩:∃u,valB ((Nb v K).take (n-1))=u:=⟨_,rfl⟩
  have rF:u<Q:=by
   have h1:=Nu ((Nb v K).take (n-1));rw[hu,List.length_take] at h1;have h2:=Nat.pow_le_pow_right (show 0<2 by decide) (show min (n-1) (Nb v K).length<=n by omega);omega
  rw[hu] at f3;refine LY rfl (λc0=>?_) (λc0=>?_)
  ·omega
  ·refine py (qN rfl (LM rfl (qV (NJ n Q rfl rfl (by omega) hQ) ?_)));rw[show 1*Q%18446744073709551616=Q by omega];refine LM rfl (qV (SM rfl rfl rfl (by show Q<2^64;omega) g.1) ?_);refine M6 rfl (qM rfl (M4 rfl rfl (NP rfl rfl ?_)));rw[show((n:Int)-1)=((n-1:Nat):Int) by omega];refine Mb z4d rfl (Te h (n-1) (by omega) (by omega)) ?_;rintro _ w1 ⟨rfl,h1,aK⟩;rw[t1,hu];refine LU rfl (run_seq (qN rfl (M4 rfl rfl (PQ rfl rfl (LO (LY rfl (λc1=>?_) (λc1=>?_)))))))
   ·obtain⟨m1,m2,m3⟩:Q-K<=u/\(Nb v K).length=n/\2*u+valB ((Nb v K).drop (n-1))=v+(Q-K):=by
     rcases f3 with⟨e,-⟩| e
     ·omega
     ·exact e
    have t2:((Md s).drop (a+(n-1))).take 1=(Nb v K).drop (n-1):=by
     rw[<-List.drop_drop,hb,List.drop_append_of_le_length f2,List.take_append_of_le_length (by rw[List.length_drop];omega),List.take_of_length_le (by rw[List.length_drop];omega)]
    have ji:valB ((Nb v K).drop (n-1))<2:=by
     have:=Nu ((Nb v K).drop (n-1));rw[List.length_drop,m2,show n-(n-1)=1 by omega] at this;exact this
    refine LQ rfl (LM rfl (qV (NJ 1 2 rfl rfl (by decide) rfl) ?_));rw[show u*2%18446744073709551616=u*2 by omega];refine LM rfl (Mb z4d rfl (Te h1 1 (by decide) (by omega)) ?_);rintro _ w2 ⟨rfl,h2,ao⟩;rw[t2];refine qV (QL rfl rfl) ?_;rw[show(u*2+valB ((Nb v K).drop (n-1)))%18446744073709551616=v+(Q-K) by omega];refine LM rfl (qV (SM rfl rfl rfl (by show v+(Q-K)<2^64;omega) (by omega)) ?_);rw[show v+(Q-K)-(Q-K)=v by omega];refine LU rfl (Mn.qb (e:=[(4,_),(7,_)]) ?_);refine qN rfl (LM rfl (LU rfl (LP Tryz.func222 rfl ?_)));rw[m2];exact⟨_,rfl,rfl,by rw[show a+n=a+(n-1)+1 by omega];exact h2,aK.trans ao⟩
   ·obtain⟨m1,m2,m3⟩:u<Q-K/\(Nb v K).length=n-1/\u=v:=by
     rcases f3 with e|⟨e,-⟩
     ·exact e
     ·omega
    refine py (qN rfl (LM rfl (LU rfl (LP Tryz.func222 rfl ?_))));rw[m2];exact⟨_,rfl,by rw[m3];rfl,h1,aK⟩
end
section
variable {w:World}{x r:Nat}{s:Bytes}{a:Nat}
theorem z0o (h:RgM w x r s a)(c:Cd)(v:Nat)(hc:c.N4)(hv:v<=c.most)(rest:List Bool)(hb:(Md s).drop a=c.enc v++rest):
  Mm Tryz.prog 209 [ptr x 0,Zq c] w λu w'=>u=M7 v/\RgM w' x r s (a+(c.enc v).length)/\Kp (λk=>k=x\/k=r) w w':=by
 have nW:=T3 c v
 have du:=h.LN.lt
 have gM:=h.rd.1.lt
 have aB:a+(c.enc v).length<=8*s.length:=by
  have:=congrArg List.length hb;have ha:=h.rd.2.1;rw[List.length_drop,bitsT_length,List.length_append] at this;omega
 unfold Cd.enc at hb
 rw[List.append_assoc,List.cons_append] at hb
 cases c with
 | unary =>
   refine It (e:=[(0,_),(1,_)]) Tryz.func209 rfl Tryz.ntmps209 rfl rfl (qN rfl (LV rfl rfl (NN rfl (cs:=[.int .u8 0,M7 0]) rfl) ?_));rintro _ w1 ⟨b3,rfl,en,ad,aq⟩;refine LU rfl (run_seq (qN rfl (M0 OA rfl (qV (LR U5 rfl rfl aq rfl) (LO (LK (qN rfl (NS rfl rfl (O8 (LU rfl (M3 rfl (qN rfl (LM rfl ?_)))))))))))));refine Mb z6S rfl (TP (h.ext ad) v 65535 rest hb hv (by decide)) ?_;rintro _ w2 ⟨rfl,h2,ao⟩;have iJ:v<=65535:=hv;refine qV ((by first|exact MH rfl U3 Ns (by omega)|exact Oc rfl U3 Ns)) ?_;refine LU rfl (LP Tryz.func209 rfl (⟨_,rfl,rfl,?_,ad.kp.trans ao⟩));have e:(Cd.enc .unary v).length=v+1:=by rw[nW];rfl
   rw[e];exact h2
 | gamma =>
   obtain⟨g1,g2,g3⟩:=S7 hv;obtain⟨z,hz⟩:∃z,Nat.log2 (v+1)=z:=⟨_,rfl⟩;rw[hz] at g1 g2 g3;rw[Nat.pow_succ] at g2
   have u5:(Md s).drop a=List.replicate z false++true::(bitsN z (v+1-2^z)++rest):=by
    rw[hb];show List.replicate (Nat.log2 (v+1)) false++true::(bitsN (Nat.log2 (v+1)) (v+1-2^Nat.log2 (v+1))++rest)=_;rw[hz]
   have e:(Cd.enc .gamma v).length=z+1+z:=by rw[nW];show Nat.log2 (v+1)+1+Nat.log2 (v+1)=_;rw[hz]
   refine It (e:=[(0,_),(1,_)]) Tryz.func209 rfl Tryz.ntmps209 rfl rfl (qN rfl (LV rfl rfl (NN rfl (cs:=[.int .u8 1,M7 0]) rfl) ?_));rintro _ w1 ⟨b3,rfl,en,ad,aq⟩;refine LU rfl (run_seq (qN rfl (M0 OA rfl (qV (LR U5 rfl rfl aq rfl) (LO (LK (qN rfl (NS rfl rfl (MC (LU rfl (An rfl (qN rfl (NS rfl rfl ?_)))))))))))));refine O8 (LU rfl (M3 rfl (qN rfl (LM rfl (Mb zcf rfl (z1U (h.ext ad) z (v+1-2^z) rest u5 (by omega) g3) ?_)))));rintro _ w2 ⟨rfl,h2,ao⟩;rw[show v+1-2^z+2^z-1=v by omega];refine LU rfl (LP Tryz.func209 rfl (⟨_,rfl,rfl,?_,ad.kp.trans ao⟩))
   rw[e,show a+(z+1+z)=a+z+1+z by omega];exact h2
 | zeta k =>
   obtain⟨aK,ao⟩:1<=k/\k<=16:=hc;obtain⟨g1,g2,g3⟩:=S7 hv;have f:=TM (k:=k) (v:=v) aK;dsimp only at f;obtain⟨b,u7⟩:∃b,Nat.log2 (v+1)=b:=⟨_,rfl⟩;rw[u7] at f g1 g2 g3;obtain⟨z,hz⟩:∃z,b / k=z:=⟨_,rfl⟩;obtain⟨m,hm⟩:∃m,z*k=m:=⟨_,rfl⟩;have GV:m<=b:=by rw[<-hm,<-hz];exact Nat.div_mul_le_self _ _
   have AD:z<=47 / k:=by rw[<-hz];exact Nat.div_le_div_right g3
   have KH:47 / k<=47:=Nat.div_le_self _ _;rw[hz,hm] at f
   have u5:(Md s).drop a=List.replicate z false++true::(Nb (v+1-2^m) (2^m*2^k-2^m)++rest):=by
    rw[hb];show List.replicate (Nat.log2 (v+1) / k) false++true::(Nb (v+1-2^(Nat.log2 (v+1) / k*k)) (2^(Nat.log2 (v+1) / k*k)*2^k-2^(Nat.log2 (v+1) / k*k))++rest)=_;rw[u7,hz,hm]
   obtain⟨F,hF⟩:∃F,2^m=F:=⟨_,rfl⟩;obtain⟨G,hG⟩:∃G,2^k=G:=⟨_,rfl⟩;rw[hF,hG] at f u5;obtain⟨f1,f2,f3⟩:=f;obtain⟨E,hE⟩:∃E,F*G=E:=⟨_,rfl⟩
   have Av:E<=9223372036854775808:=by
    rw[<-hE,<-hF,<-hG,<-Nat.pow_add];have:=Nat.pow_le_pow_right (show 0<2 by decide) (show m+k<=63 by omega);have e63:(2:Nat)^63=9223372036854775808:=by decide
    omega
   rw[hE] at f2 f3 u5
   have e:(Cd.enc (.zeta k) v).length=z+1+(Nb (v+1-F) (E-F)).length:=by
    rw[Cd.enc,List.length_append,List.length_replicate,List.length_cons];show Nat.log2 (v+1) / k+((Nb (v+1-2^(Nat.log2 (v+1) / k*k)) (2^(Nat.log2 (v+1) / k*k)*2^k-2^(Nat.log2 (v+1) / k*k))).length+1)=_;rw[u7,hz,hm,hF,hG,hE];omega
   have hd:(Md s).drop (a+z+1)=Nb (v+1-F) (E-F)++rest:=by
    rw[show a+z+1=a+(z+1) by omega,<-List.drop_drop,u5];rw[<-List.drop_drop,List.drop_left' (by simp)];rfl
   have qh:(z:Int)*(k:Int)=(m:Int):=by rw[<-hm];simp
   have gd:(47:Int) / (k:Int)=((47 / k:Nat):Int):=by simp
   refine It (e:=[(0,_),(1,_)]) Tryz.func209 rfl Tryz.ntmps209 rfl rfl (qN rfl (LV rfl rfl (NN rfl (cs:=[.int .u8 3,M7 k]) rfl) ?_));rintro _ w1 ⟨b3,rfl,en,ad,aq⟩;refine LU rfl (run_seq (qN rfl (M0 OA rfl (qV (LR U5 rfl rfl aq rfl) (LO (LK (qN rfl (NS rfl rfl (MC (LU rfl (An rfl (qN rfl (NS rfl rfl ?_)))))))))))));refine MC (LU rfl (An rfl (qN rfl (NS rfl rfl (MC (LU rfl (An rfl (qN rfl (NS rfl rfl (O8 (LU rfl (M3 rfl (qN rfl ?_)))))))))))));refine M0 SZ rfl (qV (LR Ns rfl rfl aq rfl) (qV (MB rfl Ns U3 (by omega)) (M6 rfl (qM rfl (M4 rfl rfl (qV (Tg rfl rfl (by omega)) ?_))))));rw[gd];refine Mb z6S rfl (TP (h.ext ad) z (47 / k) _ u5 AD (by omega)) ?_;rintro _ w2 ⟨rfl,h2,AE⟩;refine LM rfl (qV (SV rfl rfl (by rw[qh];omega)) ?_);rw[qh];refine qV (NJ m F rfl rfl (by omega) hF) ?_;rw[show 1*F%18446744073709551616=F by omega];refine LU rfl (Mn.qb (e:=[(0,_),(3,_),(4,_),(6,_),(7,_)]) ?_);refine qN rfl (M4 rfl rfl (LM rfl (qV (NJ k G rfl rfl (by omega) hG) ?_)));rw[hE,Nat.mod_eq_of_lt (show E<18446744073709551616 by omega)];refine LM rfl (qV (SM rfl rfl rfl (by show E<2^64;omega) (by omega)) ?_);refine Mb zev rfl (z1I h2 (v+1-F) (E-F) rest hd f2 (by omega)) ?_;rintro _ w3 ⟨rfl,h3,ar⟩;refine LM rfl (qV (QL rfl rfl) ?_);rw[show(v+1-F+F)%18446744073709551616=v+1 by omega];refine qV (SM (n:=1) rfl rfl rfl (by show v+1<2^64;omega) (by omega)) ?_;rw[show v+1-1=v by omega];refine LU rfl (LP Tryz.func209 rfl (⟨_,rfl,rfl,?_,(ad.kp.trans AE).trans ar⟩));rw[e,show a+(z+1+(Nb (v+1-F) (E-F)).length)=a+z+1+(Nb (v+1-F) (E-F)).length by omega];exact h3
end
end Go.Proofs.YtpldpcjdjcgicaaGreatDoor
