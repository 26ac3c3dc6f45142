/- Texts Types, Sho, TrS, Byt, TrO, TrG, TrI, TrD, Bit, BiA, BiB, Cod, CoA, CoB, Efp, CoC, CoD, CoE, CoF, one behind the other (what the statement BfsAlong does not use is left out). -/
import Derived.Test.YtpldpcjdjcgicaaGreatDoorRows
import Derived.Test.YtpldpcjdjcgicaaGreatDoorBAp1
import Derived.KernelRfl
import Derived.Lib.AppendZerosOnto
import Derived.Lib.Overlaps
import Derived.Maps.RangeRun
set_option maxHeartbeats 16000000
namespace Go.Proofs.YtpldpcjdjcgicaaGreatDoor
open Go Go.RowKit
set_option maxRecDepth 100000
set_option linter.unusedSimpArgs false
theorem LC:TI Tryz.prog 3 (Value.int .i64 0) 1 8:=Li (by kernel_rfl)
theorem PS:TI Tryz.prog 4 (Value.bool false) 1 1:=Li (by kernel_rfl)
theorem Sf:TI Tryz.prog 5 (Value.int .u8 0) 1 1:=Li (by kernel_rfl)
theorem WH:TI Tryz.prog 9 (Value.string ⟨#[]⟩) 1 16:=Li (by kernel_rfl)
theorem z8v:TI Tryz.prog 26 (Value.pointer none) 1 8:=Li (by kernel_rfl)
theorem z2J:TI Tryz.prog 27 (Value.pointer none) 1 8:=Li (by kernel_rfl)
theorem z6o:TI Tryz.prog 28 (Value.pointer none) 1 8:=Li (by kernel_rfl)
theorem YN:TI Tryz.prog 30 (Value.agg #[Value.pointer none,Value.pointer none,Value.pointer none,Value.pointer none,Value.int .i64 0]) 5 40:=Li (by kernel_rfl)
theorem z3x:TI Tryz.prog 35 (Value.int .i64 0) 1 8:=Li (by kernel_rfl)
theorem Nf:TI Tryz.prog 41 (Value.int .u64 0) 1 8:=Li (by kernel_rfl)
theorem OC:TI Tryz.prog 45 (Value.slice none 0 0) 1 24:=Li (by kernel_rfl)
theorem KY:TI Tryz.prog 46 (Value.int .u32 0) 1 4:=Li (by kernel_rfl)
theorem W3:TI Tryz.prog 48 (Value.agg #[Value.int .i64 0,Value.int .i64 0,Value.int .i64 0,Value.int .i64 0,Value.int .i64 0,Value.int .i64 0,Value.int .i64 0]) 7 56:=Li (by kernel_rfl)
theorem ZI:TI Tryz.prog 51 (Value.slice none 0 0) 1 24:=Li (by kernel_rfl)
theorem zaY:TI Tryz.prog 55 (Value.pointer none) 1 8:=Li (by kernel_rfl)
theorem z8q:TI Tryz.prog 62 (Value.nilFunc) 1 8:=Li (by kernel_rfl)
theorem Zb:TI Tryz.prog 65 (Value.agg #[Value.int .u32 0,Value.int .u32 0]) 2 8:=Li (by kernel_rfl)
theorem z4k:TI Tryz.prog 69 (Value.agg #[Value.int .i64 0,Value.int .i64 0]) 2 16:=Li (by kernel_rfl)
theorem ME:TI Tryz.prog 77 (Value.agg #[Value.int .i64 0,Value.int .i64 0,Value.int .i64 0,Value.int .i64 0,Value.int .i64 0]) 5 40:=Li (by kernel_rfl)
theorem z9b:TI Tryz.prog 80 (Value.pointer none) 1 8:=Li (by kernel_rfl)
theorem z8Y:TI Tryz.prog 86 (Value.agg #[Value.int .i64 0,Value.bool false]) 2 16:=Li (by kernel_rfl)
theorem zcc:TI Tryz.prog 88 (Value.agg #[Value.int .i64 0,Value.bool false,Value.pointer none,Value.pointer none,Value.bool false]) 5 40:=Li (by kernel_rfl)
theorem zai:TI Tryz.prog 89 (Value.pointer none) 1 8:=Li (by kernel_rfl)
theorem z9e:TI Tryz.prog 90 (Value.map none) 1 8:=Li (by kernel_rfl)
theorem zcI:TI Tryz.prog 92 (Value.agg #[Value.pointer none,Value.pointer none,Value.pointer none,Value.map none,Value.int .i64 0,Value.int .i64 0,Value.int .i64 0,Value.int .i64 0,Value.int .i64 0,Value.int .i64 0,Value.int .i64 0,Value.bool false]) 12 96:=Li (by kernel_rfl)
theorem NL:TI Tryz.prog 97 (Value.agg #[Value.int .i64 0,Value.int .i64 0]) 2 16:=Li (by kernel_rfl)
theorem z7e:TI Tryz.prog 100 (Value.map none) 1 8:=Li (by kernel_rfl)
theorem z4C:TI Tryz.prog 102 (Value.agg #[Value.slice none 0 0,Value.int .i64 0,Value.int .u8 0]) 3 40:=Li (by kernel_rfl)
theorem z1i:TI Tryz.prog 104 (Value.agg #[Value.int .i64 0,Value.slice none 0 0,Value.int .i64 0,Value.int .u8 0]) 4 48:=Li (by kernel_rfl)
theorem z1S:TI Tryz.prog 105 (Value.slice none 0 0) 1 24:=Li (by kernel_rfl)
theorem zaf:TI Tryz.prog 107 (Value.agg #[Value.int .i64 0,Value.slice none 0 0,Value.int .i64 0,Value.int .u8 0,Value.int .i64 0,Value.int .i64 0,Value.map none,Value.slice none 0 0,Value.bool false,Value.int .i64 0,Value.int .i64 0]) 11 120:=Li (by kernel_rfl)
theorem z7q:TI Tryz.prog 108 (Value.slice none 0 0) 1 24:=Li (by kernel_rfl)
theorem zbv:TI Tryz.prog 110 (Value.agg #[Value.int .i64 0,Value.slice none 0 0,Value.slice none 0 0,Value.bool false]) 4 64:=Li (by kernel_rfl)
theorem Wz:TI Tryz.prog 118 (Value.pointer none) 1 8:=Li (by kernel_rfl)
theorem OE:TI Tryz.prog 128 (Value.agg #[Value.int .i64 0,Value.int .i64 0,Value.int .i64 0,Value.int .i64 0,Value.int .i64 0,Value.int .i64 0,Value.int .i64 0,Value.int .i64 0]) 8 64:=Li (by kernel_rfl)
theorem Wt:TI Tryz.prog 130 (Value.nilIface) 1 16:=Li (by kernel_rfl)
theorem z7F:TI Tryz.prog 131 (Value.pointer none) 1 8:=Li (by kernel_rfl)
theorem zaM:TI Tryz.prog 133 (Value.agg #[Value.int .i64 0,Value.int .i64 0,Value.int .i64 0,Value.int .i64 0,Value.int .i64 0,Value.int .i64 0,Value.int .i64 0,Value.int .i64 0,Value.nilIface,Value.pointer none]) 10 88:=Li (by kernel_rfl)
theorem SH:TI Tryz.prog 135 (Value.agg #[Value.int .i64 0,Value.int .i64 0,Value.int .i64 0]) 3 24:=Li (by kernel_rfl)
theorem zaw:TI Tryz.prog 137 (Value.agg #[Value.int .i64 0,Value.int .i64 0,Value.int .i64 0,Value.int .i64 0,Value.int .i64 0,Value.pointer none,Value.bool false]) 7 56:=Li (by kernel_rfl)
theorem RJ:TI Tryz.prog 151 (Value.slice none 0 0) 1 24:=Li (by kernel_rfl)
theorem z1m:TI Tryz.prog 154 (Value.int .u8 0) 1 1:=Li (by kernel_rfl)
theorem zbU:TI Tryz.prog 157 (Value.agg #[Value.pointer none,Value.slice none 0 0]) 2 32:=Li (by kernel_rfl)
theorem z1b:TI Tryz.prog 163 (Value.map none) 1 8:=Li (by kernel_rfl)
theorem Y6:TI Tryz.prog 165 (Value.agg #[Value.slice none 0 0,Value.map none]) 2 32:=Li (by kernel_rfl)
theorem za3:TI Tryz.prog 167 (Value.agg #[Value.int .i64 0,Value.slice none 0 0,Value.map none,Value.slice none 0 0,Value.map none,Value.slice none 0 0,Value.map none,Value.slice none 0 0,Value.map none,Value.int .i64 0,Value.map none]) 11 152:=Li (by kernel_rfl)
theorem QW:TI Tryz.prog 173 (Value.agg #[Value.pointer none,Value.int .i64 0,Value.int .i64 0]) 3 24:=Li (by kernel_rfl)
theorem z7K:TI Tryz.prog 175 (Value.agg #[Value.pointer none,Value.int .i64 0,Value.int .i64 0,Value.slice none 0 0,Value.int .i64 0,Value.int .i64 0,Value.int .u32 0,Value.nilFunc,Value.bool false]) 9 88:=Li (by kernel_rfl)
theorem z9i:TI Tryz.prog 179 (Value.agg #[Value.pointer none,Value.int .i64 0,Value.int .i64 0,Value.int .i64 0,Value.int .u32 0]) 5 40:=Li (by kernel_rfl)
theorem z7k:TI Tryz.prog 187 (Value.pointer none) 1 8:=Li (by kernel_rfl)
theorem z1P:TI Tryz.prog 189 (Value.agg #[Value.string ⟨#[]⟩,Value.bool false]) 2 24:=Li (by kernel_rfl)
theorem zbh:TI Tryz.prog 191 (Value.agg #[Value.string ⟨#[]⟩,Value.bool false,Value.int .i64 0]) 3 32:=Li (by kernel_rfl)
theorem z1D:TI Tryz.prog 203 (Value.pointer none) 1 8:=Li (by kernel_rfl)
theorem Q1:TI Tryz.prog 205 (Value.agg #[Value.int .i64 0,Value.int .i64 0]) 2 16:=Li (by kernel_rfl)
theorem O9:TI Tryz.prog 210 (Value.agg #[Value.int .i64 0,Value.int .u64 0,Value.int .i64 0,Value.int .i64 0]) 4 32:=Li (by kernel_rfl)
theorem zbu:TI Tryz.prog 223 (Value.agg #[Value.nilIface,Value.int .i64 0,Value.int .i64 0]) 3 32:=Li (by kernel_rfl)
theorem Lf:TI Tryz.prog 232 (Value.agg #[Value.bool false,Value.bool false,Value.int .i64 0]) 3 16:=Li (by kernel_rfl)
theorem z7P:TI Tryz.prog 237 (Value.nilFunc) 1 8:=Li (by kernel_rfl)
theorem N5:TI Tryz.prog 239 (Value.agg #[Value.int .i64 0,Value.int .i64 0]) 2 16:=Li (by kernel_rfl)
theorem Wq:TI Tryz.prog 240 (Value.pointer none) 1 8:=Li (by kernel_rfl)
theorem OM:TI Tryz.prog 245 (Value.agg #[Value.int .i64 0,Value.int .i64 0,Value.int .i64 0]) 3 24:=Li (by kernel_rfl)
theorem LL:TI Tryz.prog 250 (Value.agg #[Value.slice none 0 0,Value.int .i64 0]) 2 32:=Li (by kernel_rfl)
theorem zat:TI Tryz.prog 251 (Value.agg #[Value.slice none 0 0,Value.int .i64 0,Value.slice none 0 0,Value.int .i64 0,Value.slice none 0 0,Value.int .i64 0,Value.slice none 0 0,Value.int .i64 0,Value.slice none 0 0,Value.int .i64 0,Value.slice none 0 0,Value.int .i64 0,Value.slice none 0 0,Value.int .i64 0,Value.slice none 0 0,Value.int .i64 0,Value.slice none 0 0,Value.int .i64 0,Value.slice none 0 0,Value.int .i64 0,Value.slice none 0 0,Value.int .i64 0,Value.slice none 0 0,Value.int .i64 0,Value.slice none 0 0,Value.int .i64 0,Value.slice none 0 0,Value.int .i64 0,Value.slice none 0 0,Value.int .i64 0,Value.slice none 0 0,Value.int .i64 0,Value.slice none 0 0,Value.int .i64 0]) 34 544:=Li (by kernel_rfl)
theorem z73:TI Tryz.prog 253 (Value.agg #[Value.slice none 0 0,Value.int .i64 0,Value.slice none 0 0,Value.int .i64 0,Value.slice none 0 0,Value.int .i64 0,Value.slice none 0 0,Value.int .i64 0,Value.slice none 0 0,Value.int .i64 0,Value.slice none 0 0,Value.int .i64 0,Value.slice none 0 0,Value.int .i64 0,Value.slice none 0 0,Value.int .i64 0,Value.slice none 0 0,Value.int .i64 0,Value.slice none 0 0,Value.int .i64 0,Value.slice none 0 0,Value.int .i64 0,Value.slice none 0 0,Value.int .i64 0,Value.slice none 0 0,Value.int .i64 0,Value.slice none 0 0,Value.int .i64 0,Value.slice none 0 0,Value.int .i64 0,Value.slice none 0 0,Value.int .i64 0,Value.slice none 0 0,Value.int .i64 0,Value.int .i64 0]) 35 552:=Li (by kernel_rfl)
theorem zah:TI Tryz.prog 255 (Value.agg #[Value.int .i64 0,Value.int .i64 0,Value.int .i64 0,Value.int .i64 0,Value.int .i64 0,Value.slice none 0 0,Value.int .i64 0,Value.slice none 0 0,Value.int .i64 0,Value.slice none 0 0,Value.int .i64 0,Value.slice none 0 0,Value.int .i64 0,Value.slice none 0 0,Value.int .i64 0,Value.slice none 0 0,Value.int .i64 0,Value.slice none 0 0,Value.int .i64 0,Value.slice none 0 0,Value.int .i64 0,Value.slice none 0 0,Value.int .i64 0,Value.slice none 0 0,Value.int .i64 0,Value.slice none 0 0,Value.int .i64 0,Value.slice none 0 0,Value.int .i64 0,Value.slice none 0 0,Value.int .i64 0,Value.slice none 0 0,Value.int .i64 0,Value.slice none 0 0,Value.int .i64 0,Value.slice none 0 0,Value.int .i64 0,Value.slice none 0 0,Value.int .i64 0,Value.int .i64 0,Value.pointer none,Value.int .i64 0,Value.int .i64 0]) 43 616:=Li (by kernel_rfl)
theorem z9l:TI Tryz.prog 262 (Value.agg #[Value.slice none 0 0,Value.int .i64 0]) 2 32:=Li (by kernel_rfl)
theorem zak:TI Tryz.prog 271 (Value.agg #[Value.int .i64 0,Value.int .u64 0,Value.int .i64 0,Value.int .i64 0,Value.nilIface]) 5 48:=Li (by kernel_rfl)
theorem z9x:TI Tryz.prog 289 (Value.agg #[Value.pointer none,Value.bool false]) 2 16:=Li (by kernel_rfl)
theorem zc5:TI Tryz.prog 293 (Value.agg #[Value.string ⟨#[]⟩,Value.int .i64 0]) 2 24:=Li (by kernel_rfl)
theorem z4m:TI Tryz.prog 295 (Value.slice none 0 0) 1 24:=Li (by kernel_rfl)
theorem Ma:TI Tryz.prog 298 (Value.agg #[Value.int .u8 0,Value.int .u64 0]) 2 16:=Li (by kernel_rfl)
theorem PV:TI Tryz.prog 300 (Value.agg #[Value.int .u8 0,Value.int .u64 0,Value.int .u64 0]) 3 24:=Li (by kernel_rfl)
theorem R0:TI Tryz.prog 308 (Value.agg #[Value.int .i64 0,Value.string ⟨#[]⟩]) 2 24:=Li (by kernel_rfl)
theorem Vb:TI Tryz.prog 325 (Value.agg #[Value.int .i64 0,Value.int .i64 0]) 2 16:=Li (by kernel_rfl)
theorem NA:TI Tryz.prog 328 (Value.agg #[Value.int .u64 0,Value.int .i64 0]) 2 16:=Li (by kernel_rfl)
theorem Pp:TI Tryz.prog 329 (Value.agg #[Value.int .u64 0,Value.int .i64 0,Value.int .u64 0,Value.int .i64 0]) 4 32:=Li (by kernel_rfl)
theorem zaa:TI Tryz.prog 336 (Value.agg #[Value.pointer none,Value.bool false]) 2 16:=Li (by kernel_rfl)
theorem Y9:TI Tryz.prog 355 (Value.int .u64 0) 1 8:=Li (by kernel_rfl)
theorem Xh:LV Tryz.prog 30 1 1 1 false:=⟨_,_,_,_,_,Tryz.underlying30,rfl,rfl,z2J,Tryz.underlying27,rfl⟩
theorem z3P:LV Tryz.prog 30 2 2 1 false:=⟨_,_,_,_,_,Tryz.underlying30,rfl,rfl,z6o,Tryz.underlying28,rfl⟩
theorem zcp:SP Tryz.prog 30 [(0,1),(1,1),(2,1),(3,1),(4,1)]:=⟨_,Tryz.underlying30,fun _=>by simp[z8v.size,z2J.size,z6o.size,LC.size,Sem.run_bind,Sem.run_pure]⟩
theorem z5D:LV Tryz.prog 48 1 1 1 false:=⟨_,_,_,_,_,Tryz.underlying48,rfl,rfl,LC,Tryz.underlying3,rfl⟩
theorem z3Y:LV Tryz.prog 48 2 2 1 false:=⟨_,_,_,_,_,Tryz.underlying48,rfl,rfl,LC,Tryz.underlying3,rfl⟩
theorem z3S:LV Tryz.prog 48 3 3 1 false:=⟨_,_,_,_,_,Tryz.underlying48,rfl,rfl,LC,Tryz.underlying3,rfl⟩
theorem z8g:LV Tryz.prog 48 4 4 1 false:=⟨_,_,_,_,_,Tryz.underlying48,rfl,rfl,LC,Tryz.underlying3,rfl⟩
theorem z8d:LV Tryz.prog 48 5 5 1 false:=⟨_,_,_,_,_,Tryz.underlying48,rfl,rfl,LC,Tryz.underlying3,rfl⟩
theorem z8J:LV Tryz.prog 48 6 6 1 false:=⟨_,_,_,_,_,Tryz.underlying48,rfl,rfl,LC,Tryz.underlying3,rfl⟩
theorem zcG:SP Tryz.prog 48 [(0,1),(1,1),(2,1),(3,1),(4,1),(5,1),(6,1)]:=⟨_,Tryz.underlying48,fun _=>by simp[LC.size,Sem.run_bind,Sem.run_pure]⟩
theorem z0u:LV Tryz.prog 65 0 0 1 false:=⟨_,_,_,_,_,Tryz.underlying65,rfl,rfl,KY,Tryz.underlying46,rfl⟩
theorem Ve:LV Tryz.prog 65 1 1 1 false:=⟨_,_,_,_,_,Tryz.underlying65,rfl,rfl,KY,Tryz.underlying46,rfl⟩
theorem Tg:LV Tryz.prog 69 0 0 1 false:=⟨_,_,_,_,_,Tryz.underlying69,rfl,rfl,LC,Tryz.underlying3,rfl⟩
theorem TF:LV Tryz.prog 69 1 1 1 false:=⟨_,_,_,_,_,Tryz.underlying69,rfl,rfl,LC,Tryz.underlying3,rfl⟩
theorem zdn:SP Tryz.prog 69 [(0,1),(1,1)]:=⟨_,Tryz.underlying69,fun _=>by simp[LC.size,Sem.run_bind,Sem.run_pure]⟩
theorem UU:LV Tryz.prog 77 0 0 1 false:=⟨_,_,_,_,_,Tryz.underlying77,rfl,rfl,LC,Tryz.underlying3,rfl⟩
theorem Tk:LV Tryz.prog 77 1 1 1 false:=⟨_,_,_,_,_,Tryz.underlying77,rfl,rfl,LC,Tryz.underlying3,rfl⟩
theorem z5s:LV Tryz.prog 77 2 2 1 false:=⟨_,_,_,_,_,Tryz.underlying77,rfl,rfl,LC,Tryz.underlying3,rfl⟩
theorem z4G:LV Tryz.prog 77 3 3 1 false:=⟨_,_,_,_,_,Tryz.underlying77,rfl,rfl,LC,Tryz.underlying3,rfl⟩
theorem Oh:LV Tryz.prog 77 4 4 1 false:=⟨_,_,_,_,_,Tryz.underlying77,rfl,rfl,LC,Tryz.underlying3,rfl⟩
theorem z65:SP Tryz.prog 77 [(0,1),(1,1),(2,1),(3,1),(4,1)]:=⟨_,Tryz.underlying77,fun _=>by simp[LC.size,Sem.run_bind,Sem.run_pure]⟩
theorem Xx:LV Tryz.prog 86 0 0 1 false:=⟨_,_,_,_,_,Tryz.underlying86,rfl,rfl,LC,Tryz.underlying3,rfl⟩
theorem WZ:LV Tryz.prog 86 1 1 1 false:=⟨_,_,_,_,_,Tryz.underlying86,rfl,rfl,PS,Tryz.underlying4,rfl⟩
theorem QT:LV Tryz.prog 88 0 0 2 true:=⟨_,_,_,_,_,Tryz.underlying88,rfl,rfl,z8Y,Tryz.underlying86,rfl⟩
theorem z5b:LV Tryz.prog 88 1 2 1 false:=⟨_,_,_,_,_,Tryz.underlying88,rfl,rfl,z6o,Tryz.underlying28,rfl⟩
theorem Xp:LV Tryz.prog 88 2 3 1 false:=⟨_,_,_,_,_,Tryz.underlying88,rfl,rfl,z9b,Tryz.underlying80,rfl⟩
theorem z86:LV Tryz.prog 88 3 4 1 false:=⟨_,_,_,_,_,Tryz.underlying88,rfl,rfl,PS,Tryz.underlying4,rfl⟩
theorem zcE:SP Tryz.prog 88 [(0,2),(2,1),(3,1),(4,1)]:=⟨_,Tryz.underlying88,fun _=>by simp[z6o.size,PS.size,z9b.size,z8Y.size,Sem.run_bind,Sem.run_pure]⟩
theorem Tp:LV Tryz.prog 92 0 0 1 false:=⟨_,_,_,_,_,Tryz.underlying92,rfl,rfl,z8v,Tryz.underlying26,rfl⟩
theorem z8c:LV Tryz.prog 92 1 1 1 false:=⟨_,_,_,_,_,Tryz.underlying92,rfl,rfl,zaY,Tryz.underlying55,rfl⟩
theorem z8z:LV Tryz.prog 92 2 2 1 false:=⟨_,_,_,_,_,Tryz.underlying92,rfl,rfl,zai,Tryz.underlying89,rfl⟩
theorem TJ:LV Tryz.prog 92 3 3 1 false:=⟨_,_,_,_,_,Tryz.underlying92,rfl,rfl,z9e,Tryz.underlying90,rfl⟩
theorem Sc:LV Tryz.prog 92 4 4 7 true:=⟨_,_,_,_,_,Tryz.underlying92,rfl,rfl,W3,Tryz.underlying48,rfl⟩
theorem z80:LV Tryz.prog 92 5 11 1 false:=⟨_,_,_,_,_,Tryz.underlying92,rfl,rfl,PS,Tryz.underlying4,rfl⟩
theorem zcf:SP Tryz.prog 92 [(0,1),(1,1),(2,1),(3,1),(4,7),(11,1)]:=⟨_,Tryz.underlying92,fun _=>by simp[z8v.size,PS.size,W3.size,zaY.size,zai.size,z9e.size,Sem.run_bind,Sem.run_pure]⟩
theorem Pk:LV Tryz.prog 97 0 0 1 false:=⟨_,_,_,_,_,Tryz.underlying97,rfl,rfl,LC,Tryz.underlying3,rfl⟩
theorem O0:LV Tryz.prog 97 1 1 1 false:=⟨_,_,_,_,_,Tryz.underlying97,rfl,rfl,LC,Tryz.underlying3,rfl⟩
theorem zdj:SP Tryz.prog 97 [(0,1),(1,1)]:=⟨_,Tryz.underlying97,fun _=>by simp[LC.size,Sem.run_bind,Sem.run_pure]⟩
theorem z6w:LV Tryz.prog 102 0 0 1 false:=⟨_,_,_,_,_,Tryz.underlying102,rfl,rfl,ZI,Tryz.underlying51,rfl⟩
theorem z5R:LV Tryz.prog 102 1 1 1 false:=⟨_,_,_,_,_,Tryz.underlying102,rfl,rfl,LC,Tryz.underlying3,rfl⟩
theorem z6n:LV Tryz.prog 102 2 2 1 false:=⟨_,_,_,_,_,Tryz.underlying102,rfl,rfl,Sf,Tryz.underlying5,rfl⟩
theorem UB:LV Tryz.prog 104 0 0 1 false:=⟨_,_,_,_,_,Tryz.underlying104,rfl,rfl,LC,Tryz.underlying3,rfl⟩
theorem z6M:LV Tryz.prog 104 1 1 3 true:=⟨_,_,_,_,_,Tryz.underlying104,rfl,rfl,z4C,Tryz.underlying102,rfl⟩
theorem zaR:SP Tryz.prog 104 [(0,1),(1,3)]:=⟨_,Tryz.underlying104,fun _=>by simp[z4C.size,LC.size,Sem.run_bind,Sem.run_pure]⟩
theorem Rs:LV Tryz.prog 107 0 0 4 true:=⟨_,_,_,_,_,Tryz.underlying107,rfl,rfl,z1i,Tryz.underlying104,rfl⟩
theorem UA:LV Tryz.prog 107 1 4 2 true:=⟨_,_,_,_,_,Tryz.underlying107,rfl,rfl,z4k,Tryz.underlying69,rfl⟩
theorem Xd:LV Tryz.prog 107 2 6 1 false:=⟨_,_,_,_,_,Tryz.underlying107,rfl,rfl,z7e,Tryz.underlying100,rfl⟩
theorem SC:LV Tryz.prog 107 3 7 1 false:=⟨_,_,_,_,_,Tryz.underlying107,rfl,rfl,z1S,Tryz.underlying105,rfl⟩
theorem XE:LV Tryz.prog 107 4 8 1 false:=⟨_,_,_,_,_,Tryz.underlying107,rfl,rfl,PS,Tryz.underlying4,rfl⟩
theorem z1N:LV Tryz.prog 107 5 9 1 false:=⟨_,_,_,_,_,Tryz.underlying107,rfl,rfl,LC,Tryz.underlying3,rfl⟩
theorem z1G:LV Tryz.prog 107 6 10 1 false:=⟨_,_,_,_,_,Tryz.underlying107,rfl,rfl,LC,Tryz.underlying3,rfl⟩
theorem zaz:SP Tryz.prog 107 [(0,4),(4,2),(6,1),(7,1),(8,1),(9,1),(10,1)]:=⟨_,Tryz.underlying107,fun _=>by simp[z7e.size,z1i.size,z1S.size,LC.size,PS.size,z4k.size,Sem.run_bind,Sem.run_pure]⟩
theorem z6G:LV Tryz.prog 110 0 0 1 false:=⟨_,_,_,_,_,Tryz.underlying110,rfl,rfl,LC,Tryz.underlying3,rfl⟩
theorem St:LV Tryz.prog 110 1 1 1 false:=⟨_,_,_,_,_,Tryz.underlying110,rfl,rfl,z7q,Tryz.underlying108,rfl⟩
theorem zc4:SP Tryz.prog 110 [(0,1),(1,1),(2,1),(3,1)]:=⟨_,Tryz.underlying110,fun _=>by simp[z7q.size,LC.size,PS.size,Sem.run_bind,Sem.run_pure]⟩
theorem OR:LV Tryz.prog 128 0 0 1 false:=⟨_,_,_,_,_,Tryz.underlying128,rfl,rfl,LC,Tryz.underlying3,rfl⟩
theorem XC:LV Tryz.prog 128 1 1 1 false:=⟨_,_,_,_,_,Tryz.underlying128,rfl,rfl,LC,Tryz.underlying3,rfl⟩
theorem Sj:LV Tryz.prog 128 2 2 5 true:=⟨_,_,_,_,_,Tryz.underlying128,rfl,rfl,ME,Tryz.underlying77,rfl⟩
theorem PA:LV Tryz.prog 128 3 7 1 false:=⟨_,_,_,_,_,Tryz.underlying128,rfl,rfl,LC,Tryz.underlying3,rfl⟩
theorem z7G:SP Tryz.prog 128 [(0,1),(1,1),(2,5),(7,1)]:=⟨_,Tryz.underlying128,fun _=>by simp[LC.size,ME.size,Sem.run_bind,Sem.run_pure]⟩
theorem Rw:LV Tryz.prog 133 0 0 8 true:=⟨_,_,_,_,_,Tryz.underlying133,rfl,rfl,OE,Tryz.underlying128,rfl⟩
theorem z6v:LV Tryz.prog 133 1 8 1 false:=⟨_,_,_,_,_,Tryz.underlying133,rfl,rfl,Wt,Tryz.underlying130,rfl⟩
theorem z1o:LV Tryz.prog 133 2 9 1 false:=⟨_,_,_,_,_,Tryz.underlying133,rfl,rfl,z7F,Tryz.underlying131,rfl⟩
theorem z9P:SP Tryz.prog 133 [(0,8),(8,1),(9,1)]:=⟨_,Tryz.underlying133,fun _=>by simp[OE.size,Wt.size,z7F.size,Sem.run_bind,Sem.run_pure]⟩
theorem Xe:LV Tryz.prog 135 0 0 1 false:=⟨_,_,_,_,_,Tryz.underlying135,rfl,rfl,LC,Tryz.underlying3,rfl⟩
theorem Qe:LV Tryz.prog 135 1 1 1 false:=⟨_,_,_,_,_,Tryz.underlying135,rfl,rfl,LC,Tryz.underlying3,rfl⟩
theorem SE:LV Tryz.prog 135 2 2 1 false:=⟨_,_,_,_,_,Tryz.underlying135,rfl,rfl,LC,Tryz.underlying3,rfl⟩
theorem zay:SP Tryz.prog 135 [(0,1),(1,1),(2,1)]:=⟨_,Tryz.underlying135,fun _=>by simp[LC.size,Sem.run_bind,Sem.run_pure]⟩
theorem N3:LV Tryz.prog 137 0 0 3 true:=⟨_,_,_,_,_,Tryz.underlying137,rfl,rfl,SH,Tryz.underlying135,rfl⟩
theorem Xf:LV Tryz.prog 137 1 3 2 true:=⟨_,_,_,_,_,Tryz.underlying137,rfl,rfl,NL,Tryz.underlying97,rfl⟩
theorem T7:LV Tryz.prog 137 2 5 1 false:=⟨_,_,_,_,_,Tryz.underlying137,rfl,rfl,z2J,Tryz.underlying27,rfl⟩
theorem z62:LV Tryz.prog 137 3 6 1 false:=⟨_,_,_,_,_,Tryz.underlying137,rfl,rfl,PS,Tryz.underlying4,rfl⟩
theorem zbi:SP Tryz.prog 137 [(0,3),(3,2),(5,1),(6,1)]:=⟨_,Tryz.underlying137,fun _=>by simp[SH.size,z2J.size,PS.size,NL.size,Sem.run_bind,Sem.run_pure]⟩
theorem Uv:LV Tryz.prog 157 1 1 1 false:=⟨_,_,_,_,_,Tryz.underlying157,rfl,rfl,RJ,Tryz.underlying151,rfl⟩
theorem LA:LV Tryz.prog 165 0 0 1 false:=⟨_,_,_,_,_,Tryz.underlying165,rfl,rfl,ZI,Tryz.underlying51,rfl⟩
theorem Sk:LV Tryz.prog 165 1 1 1 false:=⟨_,_,_,_,_,Tryz.underlying165,rfl,rfl,z1b,Tryz.underlying163,rfl⟩
theorem Nh:LV Tryz.prog 167 0 0 1 false:=⟨_,_,_,_,_,Tryz.underlying167,rfl,rfl,LC,Tryz.underlying3,rfl⟩
theorem M7:LV Tryz.prog 167 1 1 2 true:=⟨_,_,_,_,_,Tryz.underlying167,rfl,rfl,Y6,Tryz.underlying165,rfl⟩
theorem Mx:LV Tryz.prog 167 2 3 2 true:=⟨_,_,_,_,_,Tryz.underlying167,rfl,rfl,Y6,Tryz.underlying165,rfl⟩
theorem Ml:LV Tryz.prog 167 3 5 2 true:=⟨_,_,_,_,_,Tryz.underlying167,rfl,rfl,Y6,Tryz.underlying165,rfl⟩
theorem Mw:LV Tryz.prog 167 4 7 2 true:=⟨_,_,_,_,_,Tryz.underlying167,rfl,rfl,Y6,Tryz.underlying165,rfl⟩
theorem Mo:LV Tryz.prog 167 5 9 1 false:=⟨_,_,_,_,_,Tryz.underlying167,rfl,rfl,LC,Tryz.underlying3,rfl⟩
theorem z60:LV Tryz.prog 167 6 10 1 false:=⟨_,_,_,_,_,Tryz.underlying167,rfl,rfl,z1b,Tryz.underlying163,rfl⟩
theorem z9a:SP Tryz.prog 167 [(0,1),(1,2),(3,2),(5,2),(7,2),(9,1),(10,1)]:=⟨_,Tryz.underlying167,fun _=>by simp[z1b.size,Y6.size,LC.size,Sem.run_bind,Sem.run_pure]⟩
theorem PI:LV Tryz.prog 173 0 0 1 false:=⟨_,_,_,_,_,Tryz.underlying173,rfl,rfl,z2J,Tryz.underlying27,rfl⟩
theorem OQ:LV Tryz.prog 173 1 1 2 true:=⟨_,_,_,_,_,Tryz.underlying173,rfl,rfl,NL,Tryz.underlying97,rfl⟩
theorem z7N:SP Tryz.prog 173 [(0,1),(1,2)]:=⟨_,Tryz.underlying173,fun _=>by simp[z2J.size,NL.size,Sem.run_bind,Sem.run_pure]⟩
theorem Rf:LV Tryz.prog 175 0 0 3 true:=⟨_,_,_,_,_,Tryz.underlying175,rfl,rfl,QW,Tryz.underlying173,rfl⟩
theorem ND:LV Tryz.prog 175 1 3 1 false:=⟨_,_,_,_,_,Tryz.underlying175,rfl,rfl,RJ,Tryz.underlying151,rfl⟩
theorem Su:LV Tryz.prog 175 2 4 1 false:=⟨_,_,_,_,_,Tryz.underlying175,rfl,rfl,LC,Tryz.underlying3,rfl⟩
theorem Ur:LV Tryz.prog 175 3 5 1 false:=⟨_,_,_,_,_,Tryz.underlying175,rfl,rfl,LC,Tryz.underlying3,rfl⟩
theorem Xu:LV Tryz.prog 175 4 6 1 false:=⟨_,_,_,_,_,Tryz.underlying175,rfl,rfl,KY,Tryz.underlying46,rfl⟩
theorem UC:LV Tryz.prog 175 5 7 1 false:=⟨_,_,_,_,_,Tryz.underlying175,rfl,rfl,z8q,Tryz.underlying62,rfl⟩
theorem SO:LV Tryz.prog 175 6 8 1 false:=⟨_,_,_,_,_,Tryz.underlying175,rfl,rfl,PS,Tryz.underlying4,rfl⟩
theorem z71:SP Tryz.prog 175 [(0,3),(3,1),(4,1),(5,1),(6,1),(7,1),(8,1)]:=⟨_,Tryz.underlying175,fun _=>by simp[RJ.size,QW.size,LC.size,PS.size,KY.size,z8q.size,Sem.run_bind,Sem.run_pure]⟩
theorem Sn:LV Tryz.prog 179 0 0 3 true:=⟨_,_,_,_,_,Tryz.underlying179,rfl,rfl,QW,Tryz.underlying173,rfl⟩
theorem Uw:LV Tryz.prog 179 1 3 1 false:=⟨_,_,_,_,_,Tryz.underlying179,rfl,rfl,LC,Tryz.underlying3,rfl⟩
theorem z66:LV Tryz.prog 179 2 4 1 false:=⟨_,_,_,_,_,Tryz.underlying179,rfl,rfl,KY,Tryz.underlying46,rfl⟩
theorem zbR:SP Tryz.prog 179 [(0,3),(3,1),(4,1)]:=⟨_,Tryz.underlying179,fun _=>by simp[QW.size,LC.size,KY.size,Sem.run_bind,Sem.run_pure]⟩
theorem XD:LV Tryz.prog 189 0 0 1 false:=⟨_,_,_,_,_,Tryz.underlying189,rfl,rfl,WH,Tryz.underlying9,rfl⟩
theorem WY:LV Tryz.prog 189 1 1 1 false:=⟨_,_,_,_,_,Tryz.underlying189,rfl,rfl,PS,Tryz.underlying4,rfl⟩
theorem zbz:SP Tryz.prog 189 [(0,1),(1,1)]:=⟨_,Tryz.underlying189,fun _=>by simp[PS.size,WH.size,Sem.run_bind,Sem.run_pure]⟩
theorem Qf:LV Tryz.prog 191 0 0 2 true:=⟨_,_,_,_,_,Tryz.underlying191,rfl,rfl,z1P,Tryz.underlying189,rfl⟩
theorem zam:SP Tryz.prog 191 [(0,2),(2,1)]:=⟨_,Tryz.underlying191,fun _=>by simp[z1P.size,LC.size,Sem.run_bind,Sem.run_pure]⟩
theorem z6m:LV Tryz.prog 205 0 0 1 false:=⟨_,_,_,_,_,Tryz.underlying205,rfl,rfl,LC,Tryz.underlying3,rfl⟩
theorem z6l:LV Tryz.prog 205 1 1 1 false:=⟨_,_,_,_,_,Tryz.underlying205,rfl,rfl,LC,Tryz.underlying3,rfl⟩
theorem Uf:SP Tryz.prog 205 [(0,1),(1,1)]:=⟨_,Tryz.underlying205,fun _=>by simp[LC.size,Sem.run_bind,Sem.run_pure]⟩
theorem SQ:LV Tryz.prog 210 0 0 1 false:=⟨_,_,_,_,_,Tryz.underlying210,rfl,rfl,LC,Tryz.underlying3,rfl⟩
theorem z5S:LV Tryz.prog 210 1 1 1 false:=⟨_,_,_,_,_,Tryz.underlying210,rfl,rfl,Nf,Tryz.underlying41,rfl⟩
theorem Oc:LV Tryz.prog 210 2 2 1 false:=⟨_,_,_,_,_,Tryz.underlying210,rfl,rfl,LC,Tryz.underlying3,rfl⟩
theorem SF:LV Tryz.prog 210 3 3 1 false:=⟨_,_,_,_,_,Tryz.underlying210,rfl,rfl,LC,Tryz.underlying3,rfl⟩
theorem zaG:SP Tryz.prog 210 [(0,1),(1,1),(2,1),(3,1)]:=⟨_,Tryz.underlying210,fun _=>by simp[LC.size,Nf.size,Sem.run_bind,Sem.run_pure]⟩
theorem z6i:LV Tryz.prog 223 0 0 1 false:=⟨_,_,_,_,_,Tryz.underlying223,rfl,rfl,Wt,Tryz.underlying130,rfl⟩
theorem z6I:LV Tryz.prog 223 1 1 1 false:=⟨_,_,_,_,_,Tryz.underlying223,rfl,rfl,LC,Tryz.underlying3,rfl⟩
theorem Xk:LV Tryz.prog 223 2 2 1 false:=⟨_,_,_,_,_,Tryz.underlying223,rfl,rfl,LC,Tryz.underlying3,rfl⟩
theorem z9m:SP Tryz.prog 223 [(0,1),(1,1),(2,1)]:=⟨_,Tryz.underlying223,fun _=>by simp[Wt.size,LC.size,Sem.run_bind,Sem.run_pure]⟩
theorem z5U:LV Tryz.prog 232 0 0 1 false:=⟨_,_,_,_,_,Tryz.underlying232,rfl,rfl,PS,Tryz.underlying4,rfl⟩
theorem z69:LV Tryz.prog 232 1 1 1 false:=⟨_,_,_,_,_,Tryz.underlying232,rfl,rfl,PS,Tryz.underlying4,rfl⟩
theorem Xs:LV Tryz.prog 232 2 2 1 false:=⟨_,_,_,_,_,Tryz.underlying232,rfl,rfl,LC,Tryz.underlying3,rfl⟩
theorem QB:SP Tryz.prog 232 [(0,1),(1,1),(2,1)]:=⟨_,Tryz.underlying232,fun _=>by simp[LC.size,PS.size,Sem.run_bind,Sem.run_pure]⟩
theorem O8:LV Tryz.prog 239 0 0 1 false:=⟨_,_,_,_,_,Tryz.underlying239,rfl,rfl,LC,Tryz.underlying3,rfl⟩
theorem Np:LV Tryz.prog 239 1 1 1 false:=⟨_,_,_,_,_,Tryz.underlying239,rfl,rfl,LC,Tryz.underlying3,rfl⟩
theorem z5h:SP Tryz.prog 239 [(0,1),(1,1)]:=⟨_,Tryz.underlying239,fun _=>by simp[LC.size,Sem.run_bind,Sem.run_pure]⟩
theorem NY:LV Tryz.prog 245 0 0 1 false:=⟨_,_,_,_,_,Tryz.underlying245,rfl,rfl,LC,Tryz.underlying3,rfl⟩
theorem OW:LV Tryz.prog 245 1 1 1 false:=⟨_,_,_,_,_,Tryz.underlying245,rfl,rfl,LC,Tryz.underlying3,rfl⟩
theorem Ut:LV Tryz.prog 245 2 2 1 false:=⟨_,_,_,_,_,Tryz.underlying245,rfl,rfl,LC,Tryz.underlying3,rfl⟩
theorem z9A:SP Tryz.prog 245 [(0,1),(1,1),(2,1)]:=⟨_,Tryz.underlying245,fun _=>by simp[LC.size,Sem.run_bind,Sem.run_pure]⟩
theorem Nn:LV Tryz.prog 250 0 0 1 false:=⟨_,_,_,_,_,Tryz.underlying250,rfl,rfl,OC,Tryz.underlying45,rfl⟩
theorem Xz:LV Tryz.prog 250 1 1 1 false:=⟨_,_,_,_,_,Tryz.underlying250,rfl,rfl,LC,Tryz.underlying3,rfl⟩
theorem z7W:SP Tryz.prog 250 [(0,1),(1,1)]:=⟨_,Tryz.underlying250,fun _=>by simp[LC.size,OC.size,Sem.run_bind,Sem.run_pure]⟩
theorem z18:LV Tryz.prog 253 0 0 34 true:=⟨_,_,_,_,_,Tryz.underlying253,rfl,rfl,zat,Tryz.underlying251,rfl⟩
theorem Pz:LV Tryz.prog 253 1 34 1 false:=⟨_,_,_,_,_,Tryz.underlying253,rfl,rfl,LC,Tryz.underlying3,rfl⟩
theorem Rl:LV Tryz.prog 255 0 0 5 true:=⟨_,_,_,_,_,Tryz.underlying255,rfl,rfl,ME,Tryz.underlying77,rfl⟩
theorem T5:LV Tryz.prog 255 1 5 35 true:=⟨_,_,_,_,_,Tryz.underlying255,rfl,rfl,z73,Tryz.underlying253,rfl⟩
theorem WX:LV Tryz.prog 255 2 40 1 false:=⟨_,_,_,_,_,Tryz.underlying255,rfl,rfl,z1D,Tryz.underlying203,rfl⟩
theorem Xc:LV Tryz.prog 255 3 41 1 false:=⟨_,_,_,_,_,Tryz.underlying255,rfl,rfl,LC,Tryz.underlying3,rfl⟩
theorem z5Z:LV Tryz.prog 255 4 42 1 false:=⟨_,_,_,_,_,Tryz.underlying255,rfl,rfl,LC,Tryz.underlying3,rfl⟩
theorem z8X:SP Tryz.prog 255 [(0,5),(5,35),(40,1),(41,1),(42,1)]:=⟨_,Tryz.underlying255,fun _=>by simp[z1D.size,z73.size,LC.size,ME.size,Sem.run_bind,Sem.run_pure]⟩
theorem SW:LV Tryz.prog 262 0 0 1 false:=⟨_,_,_,_,_,Tryz.underlying262,rfl,rfl,RJ,Tryz.underlying151,rfl⟩
theorem Rk:LV Tryz.prog 262 1 1 1 false:=⟨_,_,_,_,_,Tryz.underlying262,rfl,rfl,LC,Tryz.underlying3,rfl⟩
theorem zbw:SP Tryz.prog 262 [(0,1),(1,1)]:=⟨_,Tryz.underlying262,fun _=>by simp[RJ.size,LC.size,Sem.run_bind,Sem.run_pure]⟩
theorem Ni:LV Tryz.prog 271 0 0 4 true:=⟨_,_,_,_,_,Tryz.underlying271,rfl,rfl,O9,Tryz.underlying210,rfl⟩
theorem XO:LV Tryz.prog 271 1 4 1 false:=⟨_,_,_,_,_,Tryz.underlying271,rfl,rfl,Wt,Tryz.underlying130,rfl⟩
theorem z9f:SP Tryz.prog 271 [(0,4),(4,1)]:=⟨_,Tryz.underlying271,fun _=>by simp[Wt.size,O9.size,Sem.run_bind,Sem.run_pure]⟩
theorem z6x:LV Tryz.prog 289 0 0 1 false:=⟨_,_,_,_,_,Tryz.underlying289,rfl,rfl,Wq,Tryz.underlying240,rfl⟩
theorem OA:LV Tryz.prog 289 1 1 1 false:=⟨_,_,_,_,_,Tryz.underlying289,rfl,rfl,PS,Tryz.underlying4,rfl⟩
theorem z9I:SP Tryz.prog 289 [(0,1),(1,1)]:=⟨_,Tryz.underlying289,fun _=>by simp[Wq.size,PS.size,Sem.run_bind,Sem.run_pure]⟩
theorem Xl:LV Tryz.prog 293 0 0 1 false:=⟨_,_,_,_,_,Tryz.underlying293,rfl,rfl,WH,Tryz.underlying9,rfl⟩
theorem PC:LV Tryz.prog 293 1 1 1 false:=⟨_,_,_,_,_,Tryz.underlying293,rfl,rfl,LC,Tryz.underlying3,rfl⟩
theorem z9q:SP Tryz.prog 293 [(0,1),(1,1)]:=⟨_,Tryz.underlying293,fun _=>by simp[LC.size,WH.size,Sem.run_bind,Sem.run_pure]⟩
theorem N2:LV Tryz.prog 298 0 0 1 false:=⟨_,_,_,_,_,Tryz.underlying298,rfl,rfl,Sf,Tryz.underlying5,rfl⟩
theorem Rp:LV Tryz.prog 298 1 1 1 false:=⟨_,_,_,_,_,Tryz.underlying298,rfl,rfl,Nf,Tryz.underlying41,rfl⟩
theorem z7C:SP Tryz.prog 298 [(0,1),(1,1)]:=⟨_,Tryz.underlying298,fun _=>by simp[Nf.size,Sf.size,Sem.run_bind,Sem.run_pure]⟩
theorem z1T:LV Tryz.prog 300 0 0 2 true:=⟨_,_,_,_,_,Tryz.underlying300,rfl,rfl,Ma,Tryz.underlying298,rfl⟩
theorem z1Z:LV Tryz.prog 300 1 2 1 false:=⟨_,_,_,_,_,Tryz.underlying300,rfl,rfl,Nf,Tryz.underlying41,rfl⟩
theorem z7l:SP Tryz.prog 300 [(0,2),(2,1)]:=⟨_,Tryz.underlying300,fun _=>by simp[Ma.size,Nf.size,Sem.run_bind,Sem.run_pure]⟩
theorem Ux:LV Tryz.prog 308 0 0 1 false:=⟨_,_,_,_,_,Tryz.underlying308,rfl,rfl,LC,Tryz.underlying3,rfl⟩
theorem Xm:LV Tryz.prog 308 1 1 1 false:=⟨_,_,_,_,_,Tryz.underlying308,rfl,rfl,WH,Tryz.underlying9,rfl⟩
theorem z9p:SP Tryz.prog 308 [(0,1),(1,1)]:=⟨_,Tryz.underlying308,fun _=>by simp[LC.size,WH.size,Sem.run_bind,Sem.run_pure]⟩
theorem X8:LV Tryz.prog 325 0 0 1 false:=⟨_,_,_,_,_,Tryz.underlying325,rfl,rfl,LC,Tryz.underlying3,rfl⟩
theorem z1w:LV Tryz.prog 325 1 1 1 false:=⟨_,_,_,_,_,Tryz.underlying325,rfl,rfl,LC,Tryz.underlying3,rfl⟩
theorem z8W:SP Tryz.prog 325 [(0,1),(1,1)]:=⟨_,Tryz.underlying325,fun _=>by simp[LC.size,Sem.run_bind,Sem.run_pure]⟩
theorem z1z:LV Tryz.prog 328 0 0 1 false:=⟨_,_,_,_,_,Tryz.underlying328,rfl,rfl,Nf,Tryz.underlying41,rfl⟩
theorem Uu:LV Tryz.prog 328 1 1 1 false:=⟨_,_,_,_,_,Tryz.underlying328,rfl,rfl,LC,Tryz.underlying3,rfl⟩
theorem z4i:SP Tryz.prog 328 [(0,1),(1,1)]:=⟨_,Tryz.underlying328,fun _=>by simp[LC.size,Nf.size,Sem.run_bind,Sem.run_pure]⟩
theorem z61:LV Tryz.prog 336 0 0 1 false:=⟨_,_,_,_,_,Tryz.underlying336,rfl,rfl,Wq,Tryz.underlying240,rfl⟩
theorem UG:LV Tryz.prog 336 1 1 1 false:=⟨_,_,_,_,_,Tryz.underlying336,rfl,rfl,PS,Tryz.underlying4,rfl⟩
theorem zbD:SP Tryz.prog 336 [(0,1),(1,1)]:=⟨_,Tryz.underlying336,fun _=>by simp[Wq.size,PS.size,Sem.run_bind,Sem.run_pure]⟩
theorem cf6:CF Tryz.prog 6:=⟨_,Tryz.func6,by kernel_rfl,rfl⟩
theorem cf7:CF Tryz.prog 7:=⟨_,Tryz.func7,by kernel_rfl,rfl⟩
theorem cf8:CF Tryz.prog 8:=⟨_,Tryz.func8,by kernel_rfl,rfl⟩
theorem cf9:CF Tryz.prog 9:=⟨_,Tryz.func9,by kernel_rfl,rfl⟩
theorem z9s:CF Tryz.prog 10:=⟨_,Tryz.func10,by kernel_rfl,rfl⟩
theorem z6P:CF Tryz.prog 11:=⟨_,Tryz.func11,by kernel_rfl,rfl⟩
theorem z98:CF Tryz.prog 12:=⟨_,Tryz.func12,by kernel_rfl,rfl⟩
theorem zc0:CF Tryz.prog 13:=⟨_,Tryz.func13,by kernel_rfl,rfl⟩
theorem zcn:CF Tryz.prog 18:=⟨_,Tryz.func18,by kernel_rfl,rfl⟩
theorem zcP:CF Tryz.prog 21:=⟨_,Tryz.func21,by kernel_rfl,rfl⟩
theorem zcF:CF Tryz.prog 22:=⟨_,Tryz.func22,by kernel_rfl,rfl⟩
theorem zd6:CF Tryz.prog 23:=⟨_,Tryz.func23,by kernel_rfl,rfl⟩
theorem zc2:CF Tryz.prog 24:=⟨_,Tryz.func24,by kernel_rfl,rfl⟩
theorem zcb:CF Tryz.prog 25:=⟨_,Tryz.func25,by kernel_rfl,rfl⟩
theorem zdo:CF Tryz.prog 26:=⟨_,Tryz.func26,by kernel_rfl,rfl⟩
theorem z8b:CF Tryz.prog 27:=⟨_,Tryz.func27,by kernel_rfl,rfl⟩
theorem zd5:CF Tryz.prog 28:=⟨_,Tryz.func28,by kernel_rfl,rfl⟩
theorem zba:CF Tryz.prog 29:=⟨_,Tryz.func29,by kernel_rfl,rfl⟩
theorem zb0:CF Tryz.prog 30:=⟨_,Tryz.func30,by kernel_rfl,rfl⟩
theorem z94:CF Tryz.prog 32:=⟨_,Tryz.func32,by kernel_rfl,rfl⟩
theorem zdm:CF Tryz.prog 33:=⟨_,Tryz.func33,by kernel_rfl,rfl⟩
theorem z8o:CF Tryz.prog 34:=⟨_,Tryz.func34,by kernel_rfl,rfl⟩
theorem zbl:CF Tryz.prog 35:=⟨_,Tryz.func35,by kernel_rfl,rfl⟩
theorem zcM:CF Tryz.prog 40:=⟨_,Tryz.func40,by kernel_rfl,rfl⟩
theorem zci:CF Tryz.prog 41:=⟨_,Tryz.func41,by kernel_rfl,rfl⟩
theorem zcY:CF Tryz.prog 42:=⟨_,Tryz.func42,by kernel_rfl,rfl⟩
theorem zcD:CF Tryz.prog 43:=⟨_,Tryz.func43,by kernel_rfl,rfl⟩
theorem YG:CF Tryz.prog 44:=⟨_,Tryz.func44,by kernel_rfl,rfl⟩
theorem zby:CF Tryz.prog 45:=⟨_,Tryz.func45,by kernel_rfl,rfl⟩
theorem zcx:CF Tryz.prog 46:=⟨_,Tryz.func46,by kernel_rfl,rfl⟩
theorem zdq:CF Tryz.prog 47:=⟨_,Tryz.func47,by kernel_rfl,rfl⟩
theorem zcW:CF Tryz.prog 48:=⟨_,Tryz.func48,by kernel_rfl,rfl⟩
theorem zcz:CF Tryz.prog 49:=⟨_,Tryz.func49,by kernel_rfl,rfl⟩
theorem zd0:CF Tryz.prog 50:=⟨_,Tryz.func50,by kernel_rfl,rfl⟩
theorem z9o:CF Tryz.prog 51:=⟨_,Tryz.func51,by kernel_rfl,rfl⟩
theorem z83:CF Tryz.prog 53:=⟨_,Tryz.func53,by kernel_rfl,rfl⟩
theorem zaQ:CF Tryz.prog 54:=⟨_,Tryz.func54,by kernel_rfl,rfl⟩
theorem z8r:CF Tryz.prog 55:=⟨_,Tryz.func55,by kernel_rfl,rfl⟩
theorem z8i:CF Tryz.prog 56:=⟨_,Tryz.func56,by kernel_rfl,rfl⟩
theorem zcw:CF Tryz.prog 57:=⟨_,Tryz.func57,by kernel_rfl,rfl⟩
theorem zdk:CF Tryz.prog 58:=⟨_,Tryz.func58,by kernel_rfl,rfl⟩
theorem z9Z:CF Tryz.prog 59:=⟨_,Tryz.func59,by kernel_rfl,rfl⟩
theorem z6W:CF Tryz.prog 60:=⟨_,Tryz.func60,by kernel_rfl,rfl⟩
theorem z8O:CF Tryz.prog 61:=⟨_,Tryz.func61,by kernel_rfl,rfl⟩
theorem zcg:CF Tryz.prog 62:=⟨_,Tryz.func62,by kernel_rfl,rfl⟩
theorem zb8:CF Tryz.prog 63:=⟨_,Tryz.func63,by kernel_rfl,rfl⟩
theorem zcd:CF Tryz.prog 64:=⟨_,Tryz.func64,by kernel_rfl,rfl⟩
theorem zds:CF Tryz.prog 65:=⟨_,Tryz.func65,by kernel_rfl,rfl⟩
theorem zcK:CF Tryz.prog 67:=⟨_,Tryz.func67,by kernel_rfl,rfl⟩
theorem zce:CF Tryz.prog 68:=⟨_,Tryz.func68,by kernel_rfl,rfl⟩
theorem zcq:CF Tryz.prog 69:=⟨_,Tryz.func69,by kernel_rfl,rfl⟩
theorem zdh:CF Tryz.prog 70:=⟨_,Tryz.func70,by kernel_rfl,rfl⟩
theorem z84:CF Tryz.prog 71:=⟨_,Tryz.func71,by kernel_rfl,rfl⟩
theorem zck:CF Tryz.prog 72:=⟨_,Tryz.func72,by kernel_rfl,rfl⟩
theorem zbb:CF Tryz.prog 73:=⟨_,Tryz.func73,by kernel_rfl,rfl⟩
theorem zae:CF Tryz.prog 74:=⟨_,Tryz.func74,by kernel_rfl,rfl⟩
theorem z8t:CF Tryz.prog 75:=⟨_,Tryz.func75,by kernel_rfl,rfl⟩
theorem z9V:CF Tryz.prog 76:=⟨_,Tryz.func76,by kernel_rfl,rfl⟩
theorem zcC:CF Tryz.prog 77:=⟨_,Tryz.func77,by kernel_rfl,rfl⟩
theorem zbr:CF Tryz.prog 78:=⟨_,Tryz.func78,by kernel_rfl,rfl⟩
theorem z9u:CF Tryz.prog 79:=⟨_,Tryz.func79,by kernel_rfl,rfl⟩
theorem zbp:CF Tryz.prog 80:=⟨_,Tryz.func80,by kernel_rfl,rfl⟩
theorem zaF:CF Tryz.prog 81:=⟨_,Tryz.func81,by kernel_rfl,rfl⟩
theorem zdc:CF Tryz.prog 82:=⟨_,Tryz.func82,by kernel_rfl,rfl⟩
theorem zbj:CF Tryz.prog 89:=⟨_,Tryz.func89,by kernel_rfl,rfl⟩
theorem zaq:CF Tryz.prog 90:=⟨_,Tryz.func90,by kernel_rfl,rfl⟩
theorem zdf:CF Tryz.prog 91:=⟨_,Tryz.func91,by kernel_rfl,rfl⟩
theorem zdt:CF Tryz.prog 92:=⟨_,Tryz.func92,by kernel_rfl,rfl⟩
theorem zd2:CF Tryz.prog 93:=⟨_,Tryz.func93,by kernel_rfl,rfl⟩
theorem zdl:CF Tryz.prog 94:=⟨_,Tryz.func94,by kernel_rfl,rfl⟩
theorem zcS:CF Tryz.prog 95:=⟨_,Tryz.func95,by kernel_rfl,rfl⟩
theorem zch:CF Tryz.prog 96:=⟨_,Tryz.func96,by kernel_rfl,rfl⟩
theorem zd4:CF Tryz.prog 97:=⟨_,Tryz.func97,by kernel_rfl,rfl⟩
theorem zcH:CF Tryz.prog 98:=⟨_,Tryz.func98,by kernel_rfl,rfl⟩
theorem zdp:CF Tryz.prog 99:=⟨_,Tryz.func99,by kernel_rfl,rfl⟩
theorem za2:CF Tryz.prog 100:=⟨_,Tryz.func100,by kernel_rfl,rfl⟩
theorem z4V:CF Tryz.prog 101:=⟨_,Tryz.func101,by kernel_rfl,rfl⟩
theorem UY:CF Tryz.prog 102:=⟨_,Tryz.func102,by kernel_rfl,rfl⟩
theorem QQ:CF Tryz.prog 103:=⟨_,Tryz.func103,by kernel_rfl,rfl⟩
theorem z1c:CF Tryz.prog 104:=⟨_,Tryz.func104,by kernel_rfl,rfl⟩
theorem za4:CF Tryz.prog 105:=⟨_,Tryz.func105,by kernel_rfl,rfl⟩
theorem z4e:CF Tryz.prog 106:=⟨_,Tryz.func106,by kernel_rfl,rfl⟩
theorem WJ:CF Tryz.prog 107:=⟨_,Tryz.func107,by kernel_rfl,rfl⟩
theorem z9D:CF Tryz.prog 108:=⟨_,Tryz.func108,by kernel_rfl,rfl⟩
theorem z7z:CF Tryz.prog 109:=⟨_,Tryz.func109,by kernel_rfl,rfl⟩
theorem z3T:CF Tryz.prog 110:=⟨_,Tryz.func110,by kernel_rfl,rfl⟩
theorem z9G:CF Tryz.prog 111:=⟨_,Tryz.func111,by kernel_rfl,rfl⟩
theorem z9k:CF Tryz.prog 112:=⟨_,Tryz.func112,by kernel_rfl,rfl⟩
theorem zbe:CF Tryz.prog 113:=⟨_,Tryz.func113,by kernel_rfl,rfl⟩
theorem zbP:CF Tryz.prog 114:=⟨_,Tryz.func114,by kernel_rfl,rfl⟩
theorem z9j:CF Tryz.prog 115:=⟨_,Tryz.func115,by kernel_rfl,rfl⟩
theorem zbs:CF Tryz.prog 121:=⟨_,Tryz.func121,by kernel_rfl,rfl⟩
theorem zb7:CF Tryz.prog 123:=⟨_,Tryz.func123,by kernel_rfl,rfl⟩
theorem zbI:CF Tryz.prog 125:=⟨_,Tryz.func125,by kernel_rfl,rfl⟩
theorem z95:CF Tryz.prog 126:=⟨_,Tryz.func126,by kernel_rfl,rfl⟩
theorem z96:CF Tryz.prog 127:=⟨_,Tryz.func127,by kernel_rfl,rfl⟩
theorem za9:CF Tryz.prog 128:=⟨_,Tryz.func128,by kernel_rfl,rfl⟩
theorem z7r:CF Tryz.prog 129:=⟨_,Tryz.func129,by kernel_rfl,rfl⟩
theorem zaA:CF Tryz.prog 130:=⟨_,Tryz.func130,by kernel_rfl,rfl⟩
theorem zb5:CF Tryz.prog 131:=⟨_,Tryz.func131,by kernel_rfl,rfl⟩
theorem VF:CF Tryz.prog 132:=⟨_,Tryz.func132,by kernel_rfl,rfl⟩
theorem SZ:CF Tryz.prog 133:=⟨_,Tryz.func133,by kernel_rfl,rfl⟩
theorem z7y:CF Tryz.prog 135:=⟨_,Tryz.func135,by kernel_rfl,rfl⟩
theorem Y4:CF Tryz.prog 136:=⟨_,Tryz.func136,by kernel_rfl,rfl⟩
theorem zbG:CF Tryz.prog 137:=⟨_,Tryz.func137,by kernel_rfl,rfl⟩
theorem z1q:CF Tryz.prog 138:=⟨_,Tryz.func138,by kernel_rfl,rfl⟩
theorem z7D:CF Tryz.prog 139:=⟨_,Tryz.func139,by kernel_rfl,rfl⟩
theorem z8Z:CF Tryz.prog 140:=⟨_,Tryz.func140,by kernel_rfl,rfl⟩
theorem zb2:CF Tryz.prog 141:=⟨_,Tryz.func141,by kernel_rfl,rfl⟩
theorem zbT:CF Tryz.prog 142:=⟨_,Tryz.func142,by kernel_rfl,rfl⟩
theorem Wx:CF Tryz.prog 143:=⟨_,Tryz.func143,by kernel_rfl,rfl⟩
theorem z9B:CF Tryz.prog 144:=⟨_,Tryz.func144,by kernel_rfl,rfl⟩
theorem z19:CF Tryz.prog 145:=⟨_,Tryz.func145,by kernel_rfl,rfl⟩
theorem TN:CF Tryz.prog 146:=⟨_,Tryz.func146,by kernel_rfl,rfl⟩
theorem YZ:CF Tryz.prog 147:=⟨_,Tryz.func147,by kernel_rfl,rfl⟩
theorem z8V:CF Tryz.prog 148:=⟨_,Tryz.func148,by kernel_rfl,rfl⟩
theorem z1B:CF Tryz.prog 149:=⟨_,Tryz.func149,by kernel_rfl,rfl⟩
theorem z6Z:CF Tryz.prog 150:=⟨_,Tryz.func150,by kernel_rfl,rfl⟩
theorem zaW:CF Tryz.prog 151:=⟨_,Tryz.func151,by kernel_rfl,rfl⟩
theorem U0:CF Tryz.prog 152:=⟨_,Tryz.func152,by kernel_rfl,rfl⟩
theorem NN:CF Tryz.prog 153:=⟨_,Tryz.func153,by kernel_rfl,rfl⟩
theorem Oa:CF Tryz.prog 157:=⟨_,Tryz.func157,by kernel_rfl,rfl⟩
theorem SV:CF Tryz.prog 158:=⟨_,Tryz.func158,by kernel_rfl,rfl⟩
theorem z7j:CF Tryz.prog 159:=⟨_,Tryz.func159,by kernel_rfl,rfl⟩
theorem Vh:CF Tryz.prog 160:=⟨_,Tryz.func160,by kernel_rfl,rfl⟩
theorem z4d:CF Tryz.prog 161:=⟨_,Tryz.func161,by kernel_rfl,rfl⟩
theorem zbC:CF Tryz.prog 162:=⟨_,Tryz.func162,by kernel_rfl,rfl⟩
theorem z7A:CF Tryz.prog 163:=⟨_,Tryz.func163,by kernel_rfl,rfl⟩
theorem z7d:CF Tryz.prog 164:=⟨_,Tryz.func164,by kernel_rfl,rfl⟩
theorem zaN:CF Tryz.prog 165:=⟨_,Tryz.func165,by kernel_rfl,rfl⟩
theorem zaO:CF Tryz.prog 166:=⟨_,Tryz.func166,by kernel_rfl,rfl⟩
theorem z7o:CF Tryz.prog 167:=⟨_,Tryz.func167,by kernel_rfl,rfl⟩
theorem YE:CF Tryz.prog 168:=⟨_,Tryz.func168,by kernel_rfl,rfl⟩
theorem z1O:CF Tryz.prog 169:=⟨_,Tryz.func169,by kernel_rfl,rfl⟩
theorem Zk:CF Tryz.prog 170:=⟨_,Tryz.func170,by kernel_rfl,rfl⟩
theorem z9E:CF Tryz.prog 171:=⟨_,Tryz.func171,by kernel_rfl,rfl⟩
theorem zan:CF Tryz.prog 172:=⟨_,Tryz.func172,by kernel_rfl,rfl⟩
theorem z4c:CF Tryz.prog 173:=⟨_,Tryz.func173,by kernel_rfl,rfl⟩
theorem zbn:CF Tryz.prog 174:=⟨_,Tryz.func174,by kernel_rfl,rfl⟩
theorem z7R:CF Tryz.prog 175:=⟨_,Tryz.func175,by kernel_rfl,rfl⟩
theorem z77:CF Tryz.prog 176:=⟨_,Tryz.func176,by kernel_rfl,rfl⟩
theorem zbx:CF Tryz.prog 177:=⟨_,Tryz.func177,by kernel_rfl,rfl⟩
theorem zbZ:CF Tryz.prog 178:=⟨_,Tryz.func178,by kernel_rfl,rfl⟩
theorem zbQ:CF Tryz.prog 179:=⟨_,Tryz.func179,by kernel_rfl,rfl⟩
theorem zaL:CF Tryz.prog 180:=⟨_,Tryz.func180,by kernel_rfl,rfl⟩
theorem z7E:CF Tryz.prog 181:=⟨_,Tryz.func181,by kernel_rfl,rfl⟩
theorem z7M:CF Tryz.prog 182:=⟨_,Tryz.func182,by kernel_rfl,rfl⟩
theorem zbc:CF Tryz.prog 183:=⟨_,Tryz.func183,by kernel_rfl,rfl⟩
theorem zbJ:CF Tryz.prog 185:=⟨_,Tryz.func185,by kernel_rfl,rfl⟩
theorem z9S:CF Tryz.prog 186:=⟨_,Tryz.func186,by kernel_rfl,rfl⟩
theorem zb6:CF Tryz.prog 187:=⟨_,Tryz.func187,by kernel_rfl,rfl⟩
theorem z7L:CF Tryz.prog 188:=⟨_,Tryz.func188,by kernel_rfl,rfl⟩
theorem z7V:CF Tryz.prog 189:=⟨_,Tryz.func189,by kernel_rfl,rfl⟩
theorem z5v:CF Tryz.prog 190:=⟨_,Tryz.func190,by kernel_rfl,rfl⟩
theorem z9t:CF Tryz.prog 191:=⟨_,Tryz.func191,by kernel_rfl,rfl⟩
theorem z97:CF Tryz.prog 192:=⟨_,Tryz.func192,by kernel_rfl,rfl⟩
theorem zbK:CF Tryz.prog 193:=⟨_,Tryz.func193,by kernel_rfl,rfl⟩
theorem zao:CF Tryz.prog 194:=⟨_,Tryz.func194,by kernel_rfl,rfl⟩
theorem SS:CF Tryz.prog 195:=⟨_,Tryz.func195,by kernel_rfl,rfl⟩
theorem zb3:CF Tryz.prog 196:=⟨_,Tryz.func196,by kernel_rfl,rfl⟩
theorem Zl:CF Tryz.prog 197:=⟨_,Tryz.func197,by kernel_rfl,rfl⟩
theorem zbS:CF Tryz.prog 198:=⟨_,Tryz.func198,by kernel_rfl,rfl⟩
theorem z7m:CF Tryz.prog 199:=⟨_,Tryz.func199,by kernel_rfl,rfl⟩
theorem z9y:CF Tryz.prog 200:=⟨_,Tryz.func200,by kernel_rfl,rfl⟩
theorem z7S:CF Tryz.prog 201:=⟨_,Tryz.func201,by kernel_rfl,rfl⟩
theorem z7p:CF Tryz.prog 202:=⟨_,Tryz.func202,by kernel_rfl,rfl⟩
theorem za0:CF Tryz.prog 203:=⟨_,Tryz.func203,by kernel_rfl,rfl⟩
theorem zbd:CF Tryz.prog 204:=⟨_,Tryz.func204,by kernel_rfl,rfl⟩
theorem zaI:CF Tryz.prog 205:=⟨_,Tryz.func205,by kernel_rfl,rfl⟩
theorem z9J:CF Tryz.prog 206:=⟨_,Tryz.func206,by kernel_rfl,rfl⟩
theorem Zt:CF Tryz.prog 207:=⟨_,Tryz.func207,by kernel_rfl,rfl⟩
theorem za6:CF Tryz.prog 208:=⟨_,Tryz.func208,by kernel_rfl,rfl⟩
theorem za1:CF Tryz.prog 209:=⟨_,Tryz.func209,by kernel_rfl,rfl⟩
theorem z7w:CF Tryz.prog 210:=⟨_,Tryz.func210,by kernel_rfl,rfl⟩
theorem WD:CF Tryz.prog 211:=⟨_,Tryz.func211,by kernel_rfl,rfl⟩
theorem z7g:CF Tryz.prog 212:=⟨_,Tryz.func212,by kernel_rfl,rfl⟩
theorem z5j:CF Tryz.prog 213:=⟨_,Tryz.func213,by kernel_rfl,rfl⟩
theorem z7b:CF Tryz.prog 214:=⟨_,Tryz.func214,by kernel_rfl,rfl⟩
theorem z9R:CF Tryz.prog 215:=⟨_,Tryz.func215,by kernel_rfl,rfl⟩
theorem zbL:CF Tryz.prog 216:=⟨_,Tryz.func216,by kernel_rfl,rfl⟩
theorem z9U:CF Tryz.prog 217:=⟨_,Tryz.func217,by kernel_rfl,rfl⟩
theorem z7B:CF Tryz.prog 218:=⟨_,Tryz.func218,by kernel_rfl,rfl⟩
theorem z3N:CF Tryz.prog 219:=⟨_,Tryz.func219,by kernel_rfl,rfl⟩
theorem za7:CF Tryz.prog 220:=⟨_,Tryz.func220,by kernel_rfl,rfl⟩
theorem z1M:CF Tryz.prog 221:=⟨_,Tryz.func221,by kernel_rfl,rfl⟩
theorem zaC:CF Tryz.prog 222:=⟨_,Tryz.func222,by kernel_rfl,rfl⟩
theorem z99:CF Tryz.prog 223:=⟨_,Tryz.func223,by kernel_rfl,rfl⟩
theorem z9w:CF Tryz.prog 224:=⟨_,Tryz.func224,by kernel_rfl,rfl⟩
theorem z9z:CF Tryz.prog 225:=⟨_,Tryz.func225,by kernel_rfl,rfl⟩
theorem z9F:CF Tryz.prog 226:=⟨_,Tryz.func226,by kernel_rfl,rfl⟩
theorem zbE:CF Tryz.prog 227:=⟨_,Tryz.func227,by kernel_rfl,rfl⟩
theorem zad:CF Tryz.prog 228:=⟨_,Tryz.func228,by kernel_rfl,rfl⟩
theorem Qs:CF Tryz.prog 229:=⟨_,Tryz.func229,by kernel_rfl,rfl⟩
theorem zbm:CF Tryz.prog 230:=⟨_,Tryz.func230,by kernel_rfl,rfl⟩
theorem z9d:CF Tryz.prog 231:=⟨_,Tryz.func231,by kernel_rfl,rfl⟩
theorem z7c:CF Tryz.prog 233:=⟨_,Tryz.func233,by kernel_rfl,rfl⟩
theorem z9T:CF Tryz.prog 234:=⟨_,Tryz.func234,by kernel_rfl,rfl⟩
theorem zbV:CF Tryz.prog 235:=⟨_,Tryz.func235,by kernel_rfl,rfl⟩
theorem zaH:CF Tryz.prog 237:=⟨_,Tryz.func237,by kernel_rfl,rfl⟩
theorem zbt:CF Tryz.prog 238:=⟨_,Tryz.func238,by kernel_rfl,rfl⟩
theorem z5e:CF Tryz.prog 239:=⟨_,Tryz.func239,by kernel_rfl,rfl⟩
theorem z9O:CF Tryz.prog 261:=⟨_,Tryz.func261,by kernel_rfl,rfl⟩
theorem zav:CF Tryz.prog 262:=⟨_,Tryz.func262,by kernel_rfl,rfl⟩
theorem zc8:CF Tryz.prog 264:=⟨_,Tryz.func264,by kernel_rfl,rfl⟩
theorem z9h:CF Tryz.prog 265:=⟨_,Tryz.func265,by kernel_rfl,rfl⟩
set_option linter.all false
section
variable {D:RC}{l:List Oper}{e:Env}{w w':World}{d:Nat}{op:Op}{ty:TypeId}{pos:String}{aft:Array Edge}{g:Option (Nat×Bool)}{v:Value}
theorem qV (hy:Y D.C.P e ⟨some d,op,ty,pos,aft,g⟩ v w w')(h:RL D l ((d,v)::e) w')(ho:Qa D e g true=true:=by exact rfl)(hd:Nat.blt d D.C.n=true:=by exact rfl):RL D (⟨some d,op,ty,pos,aft,g⟩::l) e w:=z4g ho hd hy h
theorem qS (h:RL D l ((d,undef)::e) w)(ho:Qa D e g false=true:=by exact rfl)(hd:Nat.blt d D.C.n=true:=by exact rfl):RL D (⟨some d,op,ty,pos,aft,g⟩::l) e w:=zbg ho hd h
theorem An {x:Operand}(hx:look e x=some v)(h:RL D l ((d,v)::e) w)(ho:Qa D e g true=true:=by exact rfl)(hd:Nat.blt d D.C.n=true:=by exact rfl):RL D (⟨some d,.move x,ty,pos,aft,g⟩::l) e w:=z4g ho hd (KM hx) h
theorem KE {x:Operand}(hx:look e x=some v)(h:RL D l ((d,v)::e) w)(ho:Qa D e g true=true:=by exact rfl)(hd:Nat.blt d D.C.n=true:=by exact rfl):RL D (⟨some d,.assign x,ty,pos,aft,g⟩::l) e w:=z4g ho hd (ML hx) h
theorem Lz {x y:Operand}{t t':TypeId}{a b:Int}(hx:look e x=some (I a))(hy:look e y=some (I b))(h:RL D l ((d,I (a+b))::e) w)(hb: -9223372036854775808≤a+b∧a+b≤9223372036854775807:=by omega)(ho:Qa D e g true=true:=by exact rfl)(hd:Nat.blt d D.C.n=true:=by exact rfl):RL D (⟨some d,.binOp .add t x y t',ty,pos,aft,g⟩::l) e w:=z4g ho hd (PW hx hy hb) h
theorem L2 {f:FuncId}{vs:List Value}{S:Value→World→Prop}{ts:Array TypeId}(args:List Operand)(hf:CF D.C.P f)(ha:looks e args=some vs)(hc:Le D.C.P f vs w S)(h:∀v w',S v w'→RL D l ((d,v)::e) w')(ho:Qa D e g true=true:=by exact rfl)(hd:Nat.blt d D.C.n=true:=by exact rfl):RL D (⟨some d,.call ⟨.value (.func f),args.toArray,ts⟩,ty,pos,aft,g⟩::l) e w:=Mb ho hd (yc hf ha) hc h
theorem MC {p:Prop}[hp:Decidable p](hr:RL D l ((d,.bool true)::e) w)(h:p:=by first|rfl|assumption|omega|decide):RL D l ((d,.bool (decide p))::e) w:=z9n h hr
theorem Lq {p:Prop}[hp:Decidable p](hr:RL D l ((d,.bool false)::e) w)(h:¬p:=by first|exact fun h=>h rfl|assumption|omega):RL D l ((d,.bool (decide p))::e) w:=z7Y h hr
def z4r:Value→Bool
  | .pointer (some _)=>true
  | .func (.func _) _ _=>true
  |_=>false
theorem KZ {P:Program}{d:Option Nat}{x:Operand}(hx:look e x=some v)(hv:z4r v=true:=by exact rfl):Y P e ⟨d,.nilCheck x,ty,pos,aft,g⟩ v w w:=by
  unfold z4r at hv
  split at hv
  · exact ync hx
  · exact zcT hx
  · cases hv
end
section
variable {C:Cx}{k:List Item}{e e':Env}{w:World}{id:Nat}{ops:List Oper}{y:Code}
theorem qR' {ho:Qd C.n ops=true}(h:RL ⟨C,ops,k,ho⟩ ops e w):Lc C (.code (.region id ops.toArray false)::k) e w:=KF ho h
theorem qN {x:Code}(ho:Qd C.n ops=true)(h:RL ⟨C,ops,.code x::k,ho⟩ ops e w):Lc C (.code (.seq (.region id ops.toArray false) x)::k) e w:=run_seq (KF ho h)
theorem MQ {α:Type}{c:Code}(x0:α)(E:α→Env)(I:α→World→Prop)(μ:α→Nat)(hI:I x0 w)(round:∀x w,I x w→(∀y w',I y w'→μ y<μ x→Lc C (.inLoop c::k) (E y) w')→Lc C (.code c:: .inLoop c::k) (E x) w)(hE:Sub (E x0) e:=by repeat (first|exact Sub.nil|refine Sub.cons rfl ?_)):Lc C (.code (.loop c)::k) e w:=z4b x0 E I μ hE hI round
theorem Lc.qb (h:Lc C k e w)(hs:Sub e e':=by repeat (first|exact Sub.nil|refine Sub.cons rfl ?_)):Lc C k e' w:=h.sub hs
end
section
variable {D:RC}{k:List Item}{e:Env}{w:World}{id:Nat}{ops:List Oper}{x:Code}
theorem qM {C:Cx}{ops0:List Oper}{h0:Qd C.n ops0=true}(ho:Qd C.n ops=true)(h:RL ⟨C,ops,.code x::k,ho⟩ ops e w):RL ⟨C,ops0,.code (.seq (.region id ops.toArray false) x)::k,h0⟩ [] e w:=py (run_seq (KF ho h))
end
section
variable {D:RC}{late:List Nat}{S:World→Prop}{e:Env}{w w':World}{d fuel:Nat}{op:Op}{ty:TypeId}{pos:String}{aft:Array Edge}{g:Option (Nat×Bool)}{listed:Array Bool}{v:Value}
theorem qT (i:Nat)(hi:D.ops[i]? =some ⟨some d,op,ty,pos,aft,g⟩)(hy:∀w,S w→Y D.C.P e ⟨some d,op,ty,pos,aft,g⟩ v w w)(hS:S w)(h:RH D S fuel (listed.setIfInBounds i true) ((d,v)::e) w)
    (hf:O7 D.ops listed i=true:=by kernel_rfl) (ho:Qa D e g true=true:=by exact rfl) (hd:Nat.blt d D.C.n=true:=by exact rfl):RH D S (fuel+1) listed e w:=z7s hi hf ho hd hy hS h
theorem KH (i:Nat)(hi:D.ops[i]? =some ⟨some d,op,ty,pos,aft,g⟩)(hy:∀{w},Y D.C.P e ⟨some d,op,ty,pos,aft,g⟩ v w w)(hS:S w)(h:RH D S fuel (listed.setIfInBounds i true) ((d,v)::e) w)
    (hf:O7 D.ops listed i=true:=by kernel_rfl) (ho:Qa D e g true=true:=by exact rfl) (hd:Nat.blt d D.C.n=true:=by exact rfl):RH D S (fuel+1) listed e w:=z7s hi hf ho hd (fun _ _=>hy) hS h
theorem Pf {p:Prop}[hp:Decidable p](hr:RH D S fuel listed ((d,.bool true)::e) w)(h:p:=by first|rfl|assumption|omega|decide):RH D S fuel listed ((d,.bool (decide p))::e) w:=z9N h hr
theorem Pw {p:Prop}[hp:Decidable p](hr:RH D S fuel listed ((d,.bool false)::e) w)(h:¬p:=by first|exact fun h=>h rfl|assumption|omega):RH D S fuel listed ((d,.bool (decide p))::e) w:=z8I h hr
theorem qJ (i:Nat)(hi:D.ops[i]? =some ⟨some d,op,ty,pos,aft,g⟩)(hS:S w)(h:RH D S fuel (listed.setIfInBounds i true) ((d,undef)::e) w)
    (hf:O7 D.ops listed i=true:=by kernel_rfl) (ho:Qa D e g false=true:=by exact rfl) (hd:Nat.blt d D.C.n=true:=by exact rfl):RH D S (fuel+1) listed e w:=z9H hi hf ho hd hS h
theorem qO (i:Nat)(h:Nx D S fuel listed e w i)(hr:Nl D.ops listed [i]=true:=by kernel_rfl):RH D S (fuel+1) listed e w:=zac hr h
theorem OJ {f:FuncId}{vs:List Value}{T:Value→World→Prop}{ts:Array TypeId}(i:Nat)(args:List Operand)(hi:D.ops[i]? =some ⟨some d,.call ⟨.value (.func f),args.toArray,ts⟩,ty,pos,aft,g⟩)(hf:CF D.C.P f)(ha:looks e args=some vs)(hc:Le D.C.P f vs w T)(h:∀v w',T v w'→S w'∧RH D S fuel (listed.setIfInBounds i true) ((d,v)::e) w')
    (hr:Nl D.ops listed [i]=true:=by kernel_rfl) (ho:Qa D e g true=true:=by exact rfl) (hd:Nat.blt d D.C.n=true:=by exact rfl):RH D S (fuel+1) listed e w:=zac hr (QN hi ho hd (yc hf ha) hc h)
theorem qE (h:Lc D.C D.k e w)(hr:Nl D.ops listed []=true:=by kernel_rfl):RH D S fuel listed e w:=zdi hr h
theorem qL (dn:List Nat)(i:Nat)(hi:D.ops[i]? =some ⟨some d,op,ty,pos,aft,g⟩)(hy:∀w,S w→Y D.C.P e ⟨some d,op,ty,pos,aft,g⟩ v w w)(hS:S w)(h:RHL D late S fuel (listed.setIfInBounds i true) ((d,v)::e) w)
    (hf:(O7 D.ops listed i&&waits D.ops listed late dn i)=true:=by kernel_rfl) (ho:Qa D e g true=true:=by exact rfl) (hd:Nat.blt d D.C.n=true:=by exact rfl):RHL D late S (fuel+1) listed e w:=z8D dn hi hf ho hd hy hS h
end
theorem MA {α:Type}{a b:α}(h:some a=some b):a=b:=Option.some.inj h
def U2:=Tryz.underlying2
def U3:=Tryz.underlying3
def U4:=Tryz.underlying4
def U5:=Tryz.underlying5
def U9:=Tryz.underlying9
def U22:=Tryz.underlying22
def Rb:=Tryz.underlying23
def U26:=Tryz.underlying26
def RR:=Tryz.underlying27
def Z0:=Tryz.underlying28
def U30:=Tryz.underlying30
def ZL:=Tryz.underlying34
def U35:=Tryz.underlying35
def Uo:=Tryz.underlying40
def M3:=Tryz.underlying41
def U44:=Tryz.underlying44
def L9:=Tryz.underlying45
def Mg:=Tryz.underlying46
def U48:=Tryz.underlying48
def Mu:=Tryz.underlying51
def X5:=Tryz.underlying55
def U62:=Tryz.underlying62
def U65:=Tryz.underlying65
def U69:=Tryz.underlying69
def Vq:=Tryz.underlying77
def U80:=Tryz.underlying80
def U89:=Tryz.underlying89
def U90:=Tryz.underlying90
def U97:=Tryz.underlying97
def Zq:=Tryz.underlying100
def zcj:=Tryz.underlying102
def V7:=Tryz.underlying105
def RB:=Tryz.underlying108
def QP:=Tryz.underlying118
def z6Y:=Tryz.underlying121
def z6a:=Tryz.underlying126
def z0c:=Tryz.underlying128
def YY:=Tryz.underlying130
def Sz:=Tryz.underlying131
def z3b:=Tryz.underlying135
def LU:=Tryz.underlying151
def z4O:=Tryz.underlying152
def za5:=Tryz.underlying154
def Wg:=Tryz.underlying163
def z4u:=Tryz.underlying173
def zcv:=Tryz.underlying196
def MO:=Tryz.underlying197
def Xr:=Tryz.underlying203
def zcy:=Tryz.underlying205
def z8n:=Tryz.underlying206
def Yt:=Tryz.underlying210
def z8R:=Tryz.underlying212
def zd1:=Tryz.underlying223
def Nv:=Tryz.underlying232
def z6q:=Tryz.underlying237
def Y1:=Tryz.underlying239
def Oi:=Tryz.underlying240
def Tj:=Tryz.underlying245
def PJ:=Tryz.underlying250
def zaS:=Tryz.underlying251
def Un:=Tryz.underlying295
def Nb:=Tryz.underlying298
def z9Y:=Tryz.underlying300
def zb4:=Tryz.underlying308
def z4S:=Tryz.underlying321
def zct:=Tryz.underlying325
def z41:=Tryz.underlying328
def UZ:=Tryz.underlying329
def Xw:=Tryz.underlying355

def Py (w:World)(g:Nat)(cs:List Value)(T:TypeId):Prop:=w.heap[g]? =some (.cells cs.toArray T (0,0))
theorem Py.KD {w:World}{g:Nat}{cs:List Value}{T:TypeId}(h:Py w g cs T):KP w g cs T:=⟨(0,0),h,fun i _ h=>by omega⟩
theorem Py.set {w:World}{g:Nat}{cs:List Value}{T:TypeId}(h:Py w g cs T)(i:Nat)(v:Value):Py (w.setCell ⟨g,i,none⟩ v) g (cs.set i v) T:=by
 unfold Py at h⊢
 simp[World.setCell,Array.getElem?_modify,h]
theorem Py.ext {w w':World}{g:Nat}{cs:List Value}{T:TypeId}(h:Py w g cs T)(k:Ext w w'):Py w' g cs T:=k.heap h id
theorem Sl.row {w:World}{g n cap:Nat}{e:TypeId}{size:Nat}{cs:List Value}(h:Sl w (.slice (some ⟨g,0,none⟩) n cap) e size n cs):∃cur,Py w g cur e∧n≤cap∧cap≤maxLen∧cur.length=cap*size∧cur.take (n*size)=cs:=by
 rcases h.2 with⟨hz,-⟩|⟨g1,cap1,cur,hv,-,hg,hn,hm,hs,ht⟩
 ·cases hz
 ·cases hv;exact⟨cur.toList,by unfold Py;simpa using hg,hn,hm,by simpa using hs,ht⟩
theorem Py.sl {w:World}{g n cap:Nat}{e:TypeId}{size:Nat}{cur:List Value}(h:Py w g cur e)(hn:n≤cap)(hm:cap≤maxLen)(hs:cur.length=cap*size):Sl w (.slice (some ⟨g,0,none⟩) n cap) e size n (cur.take (n*size)):=
 ⟨by rw[List.length_take,hs];exact Nat.min_eq_left (Nat.mul_le_mul_right _ hn),.inr ⟨g,cap,cur.toArray,rfl,Nat.zero_le _,h,hn,hm,by simpa using hs,by simp⟩⟩
theorem Py.cell {w:World}{g i:Nat}{cur:List Value}{e:TypeId}(h:Py w g cur e):w.cell? ⟨g,i,none⟩=cur[i]? :=h.KD.cell i
theorem Py.rd {w:World}{g i n c:Nat}{e:TypeId}{cur:List Value}(h:Py w g cur e)(hl:i+n≤cur.length):Rd w (.slice (some ⟨g,i,none⟩) n c) 1 n ((cur.drop i).take n):=by
 refine⟨by simp;omega,.inr ⟨g,i,c,rfl,fun j u hj=>?_⟩⟩
 rw[h.cell]
 rw[List.getElem?_take] at hj
 split at hj
 ·rwa [List.getElem?_drop] at hj
 ·cases hj
theorem Q7 {w:World}{a:Option Addr}{c:Nat}:Rd w (.slice a 0 c) 1 0 []:=⟨rfl,.inl ⟨(a,c),rfl,rfl⟩⟩

theorem Rd.kpz {S:Nat→Prop}{w w':World}{v:Value}{size n:Nat}{cs:List Value}(h:Rd w v size n cs)(k:Kp S w w')(hn:0<n→∀g,v.ownBlock=some g→¬S g):Rd w' v size n cs:=by
 rcases Nat.eq_zero_or_pos n with h0|h0
 ·subst h0;refine⟨h.1,?_⟩;have hl:cs=[]:=List.eq_nil_of_length_eq_zero (by have:=h.1;omega);rcases h.2 with h2|⟨b,off,cap,e,-⟩
  ·exact .inl h2
  ·exact .inr ⟨b,off,cap,e,fun j u hj=>by rw[hl] at hj;simp at hj⟩
 ·exact h.kp k (hn h0)
theorem Rd.ltz {w:World}{v:Value}{size n g:Nat}{cs:List Value}(h:Rd w v size n cs)(hs:0<size)(hn:0<n)(hg:v.ownBlock=some g):g<w.heap.size:=by
 rcases h.2 with⟨c,-,h2⟩|⟨b,off,cap,e,hc⟩
 ·omega
 ·rw[e] at hg;have e2:b=g:=MA hg;subst e2;have hl:0<cs.length:=by rw[h.1];exact Nat.mul_pos hn hs
  exact World.block_lt_of_cell? w _ (hc 0 cs[0] (List.getElem?_eq_getElem hl))

theorem z0i (cs:List Value)(i:Nat):M9 cs i []=cs:=by simp[M9]
theorem W5 (cs vs:List Value)(i:Nat)(h:i+vs.length≤cs.length):(M9 cs i vs).length=cs.length:=by simp[M9];omega
theorem VR (cs vs:List Value)(i j:Nat)(h:i+vs.length≤cs.length):(M9 cs i vs)[j]? =if i≤j∧j<i+vs.length then vs[j-i]? else cs[j]? :=by
 unfold M9
 rw[List.append_assoc]
 by_cases h1:j<i
 ·rw[List.getElem?_append_left (by simp;omega),List.getElem?_take,if_pos h1,if_neg (by omega)]
 ·rw[List.getElem?_append_right (by simp;omega)];have e:(cs.take i).length=i:=by simp;omega
  rw[e];by_cases h2:j<i+vs.length
  ·rw[List.getElem?_append_left (by omega),if_pos ⟨by omega,h2⟩]
  ·rw[List.getElem?_append_right (by omega),List.getElem?_drop,if_neg (by omega)]
   congr 1;omega

theorem Po {P:Program}{b:Nat}{T:TypeId}(o:Nat):∀(vs:List Value) (i:Nat) (cs:List Value) (w:World),Py w b cs T→o+i+vs.length≤cs.length→(∀v∈vs,v.oneCell'=true)→
  ∃w',(storeCells ⟨b,o,none⟩ vs i).run P w= .ok () w'∧Py w' b (M9 cs (o+i) vs) T∧Kp (fun k=>k=b) w w'
 |[],i,cs,w,hB,_,_=>⟨w,rfl,by simpa[M9] using hB,Kp.refl _ _⟩
 | v :: r, i, cs, w, hB, hl, h1 => by
   simp only[List.length_cons] at hl;have aQ:o+i<cs.length:=by omega
   have hc:w.cell? ⟨b,o+i,none⟩=some cs[o+i]:=by rw[hB.cell];simp[aQ]
   have hf:=hB.KD.free aQ;obtain⟨w',hr,tS,hk⟩:=Po (P:=P) o r (i+1) (cs.set (o+i) v) _ (hB.set (o+i) v) (by simp;omega) (fun u hu=>h1 u (List.mem_cons_of_mem _ hu));refine⟨w',?_,?_,(Oq w b (o+i) v).trans hk⟩
   ·simp only[storeCells,Sem.run_bind,Mr,run_store P w _ v _ (h1 v (List.mem_cons_self ..)),hc,hf]
    simpa using hr
   ·have he:M9 (cs.set (o+i) v) (o+(i+1)) r=M9 cs (o+i) (v::r):=by
     apply List.ext_getElem?;intro j;rw[VR _ _ _ _ (by simp;omega),VR _ _ _ _ (by simp;omega)];simp only[List.length_cons];by_cases h2:o+i=j
     ·subst h2;rw[if_neg (by omega),if_pos (by omega)];simp[aQ]
     ·by_cases h3:o+i<j∧j<o+i+1+r.length
      ·rw[if_pos (by omega),if_pos (by omega),show j-(o+i)=(j-(o+(i+1)))+1 by omega];simp
      ·rw[if_neg (by omega),if_neg (by omega),List.getElem?_set_ne h2]
    rw[←he];exact tS

section
variable {P:Program}{e:Env}{d:Option Nat}{ty t t' kt el:TypeId}{pos:String}{aft:Array Edge}{g:Option (Nat×Bool)}{x y u u2:Operand}{w:World}
theorem Si {z:Value}{size bytes n cap i:Nat}{a:Option Addr}{k:IntKind}{za:Int}[qq:O3 za i](ht:P.underlying t=some (.slice el))(hs:TI P el z size bytes)(hx:look e x=some (.slice a n cap))
  (hy:look e y=some (.int k za)) (h:i≤n) (hc:n≤cap):
  Y P e ⟨d,.slice t x (some y) none none,ty,pos,aft,g⟩ (.slice (if cap=i then a else a.map (·.add (i*size))) (n-i) (cap-i)) w w:=fun ρ hρ=>by
 obtain⟨rfl⟩:=qq
 have cn:=hs.size (w:=w)
 have h2:∀w,(Instr.sliceBound (.int k (i:Int)) n .sliceB).run P w= .ok i w:=fun w=>by rw[run_sliceBound _ _ _ _ _ (by omega) (by omega)];simp
 simp[execOp,hρ _ _ hx,hρ _ _ hy,Instr.sliceAt,run_underlying ht,Instr.slice,Instr.sliceBounds,h2,cn]
theorem zdg {z:Value}{size bytes n cap i j m:Nat}{a:Option Addr}{k k' k2:IntKind}{za zb zc:Int}[qq:O3 za i][tT:O3 zb j][bK:O3 zc m](ht:P.underlying t=some (.slice el))(hs:TI P el z size bytes)(hx:look e x=some (.slice a n cap))
  (hy:look e y=some (.int k za)) (hu:look e u=some (.int k' zb)) (lF:look e u2=some (.int k2 zc)) (h:i≤j∧j≤m∧m≤cap):
  Y P e ⟨d,.slice t x (some y) (some u) (some u2),ty,pos,aft,g⟩ (.slice (if m=i then a else a.map (·.add (i*size))) (j-i) (m-i)) w w:=fun ρ hρ=>by
 obtain⟨rfl⟩:=qq
 obtain⟨rfl⟩:=tT
 obtain⟨rfl⟩:=bK
 have cn:=hs.size (w:=w)
 have h0:∀w,(Instr.sliceBound (.int k2 (m:Int)) cap .slice3Acap).run P w= .ok m w:=fun w=>by rw[run_sliceBound _ _ _ _ _ (by omega) (by omega)];simp
 have h1:∀w,(Instr.sliceBound (.int k' (j:Int)) m .slice3B).run P w= .ok j w:=fun w=>by rw[run_sliceBound _ _ _ _ _ (by omega) (by omega)];simp
 have h2:∀w,(Instr.sliceBound (.int k (i:Int)) j .slice3C).run P w= .ok i w:=fun w=>by rw[run_sliceBound _ _ _ _ _ (by omega) (by omega)];simp
 simp[execOp,hρ _ _ hx,hρ _ _ hy,hρ _ _ hu,hρ _ _ lF,Instr.sliceAt,run_underlying ht,Instr.slice,Instr.sliceBounds,h0,h1,h2,cn]
theorem RN (z:Value)(n:Nat)(h:oneV z=true):(Builtin.zeroCells z.cells n).toList=List.replicate n z:=by
 rw[Qm h]
 apply List.ext_getElem
 ·simp[Builtin.zeroCells]
 ·intro i h1 h2;simp[Builtin.zeroCells,Nat.mod_one]
theorem zcX {z:Value}{bytes b i n cap:Nat}{T:TypeId}{cs:List Value}(ht:P.underlying t=some (.slice el))(hs:TI P el z 1 bytes)(hz:oneV z=true)(hx:look e x=some (.slice (some ⟨b,i,none⟩) n cap))
  (hB:Py w b cs T) (hi:i+n≤cs.length):
  Yp P e ⟨d,.call ⟨.builtin .clear,#[x],#[t]⟩,ty,pos,aft,g⟩ w fun v w'=>Py w' b (M9 cs i (List.replicate n z)) T∧Kp (fun k=>k=b) w w':=by
 obtain⟨w',hr,tS,hk⟩:=Po (P:=P) i (List.replicate n z) 0 cs w hB (by simp;omega) (fun u hu=>by rw[(List.mem_replicate.1 hu).2];exact Ss hz)
 rcases Nat.eq_zero_or_pos n with h0|h0
 ·subst h0;refine⟨.tuple #[],w,fun ρ hρ=>?_,by simpa[z0i] using hB,Kp.refl _ _⟩;simp[execOp,resolve,invoke,builtin,hρ _ _ hx,Builtin.clear_,run_underlying ht,go_sem]
 ·refine⟨.tuple #[],w',fun ρ hρ=>?_,by simpa using tS,hk⟩;have FS:=hs.zero (w:=w);obtain⟨k,rfl⟩:∃k,n=k+1:=⟨n-1,by omega⟩
  have hc:(Builtin.clear_ #[t] ty #[.slice (some ⟨b,i,none⟩) (k+1) cap]).run P w= .ok (.tuple #[]) w':=by
   unfold Builtin.clear_;simp only[List.getElem?_toArray,List.getElem?_cons_zero,pure_bind,Sem.run_bind,run_underlying ht,Result.andThen,FS,RN z _ hz,hr,Sem.run_pure]
  simp[execOp,resolve,invoke,builtin,hρ _ _ hx,hc]
theorem zcu {z u:Value}{size bytes gb n cap m:Nat}{cs news:List Value}(ht:P.underlying t=some (.slice el))(hs:TI P el z size bytes)(cn:0<size)
  (hx:look e x=some (.slice (some ⟨gb,0,none⟩) n cap)) (hy:look e y=some u) (hv:Sl w (.slice (some ⟨gb,0,none⟩) n cap) el size n cs) (hu:Rd w u size m news) (h1:∀c∈news,c.oneCell'=true) (hr:n+m≤cap):
  Yp P e ⟨d,.call ⟨.builtin .append,#[x,y],#[t,t]⟩,ty,pos,aft,g⟩ w fun v' w'=>v'= .slice (some ⟨gb,0,none⟩) (n+m) cap∧Sl w' v' el size (n+m) (cs++news)∧Kp (fun k=>k=gb) w w':=by
 obtain⟨i,hi,o3,ja,pC⟩:=hs
 subst ja
 rcases hu.2 with⟨⟨ca,c⟩,rfl,rfl⟩|⟨b,off,cap2,rfl,qr⟩
 ·have ez:news=[]:=List.eq_nil_of_length_eq_zero (by simpa using hu.1);subst ez
  have hr:(Builtin.append_ #[t,t] ty #[.slice (some ⟨gb,0,none⟩) n cap,.slice ca 0 c]).run P w= .ok (.slice (some ⟨gb,0,none⟩) n cap) w:=by
   have iR:n≤cap:=by omega
   cases ca
   ·simp[Builtin.append_,run_underlying ht,sizeOf,typeInfo,hi,Builtin.lenOf,Builtin.firstCells,iR,storeCells]
   ·simp[Builtin.append_,run_underlying ht,sizeOf,typeInfo,hi,Builtin.lenOf,Builtin.firstCells,iR,storeCells,loadCells,loadCellsFrom]
  refine⟨_,w,fun ρ hρ=>?_,rfl,by simpa using hv,Kp.refl _ _⟩;simp[execOp,resolve,invoke,builtin,hρ _ _ hx,hρ _ _ hy,hr]
 ·have tU:∀j u,news[j]? =some u→w.cell? ((⟨b,off,none⟩:Addr).add j)=some u:=fun j u hu=>by rw[Mr];exact qr j u hu
  obtain⟨w',FT,yf,cA⟩:=run_append_fits (P:=P) w 0 t ty el i i.size ht hi rfl gb n cap cs hv ⟨b,off,none⟩ m cap2 news hu.1 tU h1 hr;refine⟨_,w',fun ρ hρ=>?_,rfl,yf,(Kp.Pm cA).KT fun k hk=>(MA hk).symm⟩;simp[execOp,resolve,invoke,builtin,hρ _ _ hx,hρ _ _ hy,FT]
end
abbrev Bytes:=List UInt8

abbrev lt (a b:Bytes):Bool:=Op.bytesLess a b
section
variable {P:Program}{e:Env}{d:Option Nat}{ty t t':TypeId}{pos:String}{aft:Array Edge}{g:Option (Nat×Bool)}{x y:Operand}{w:World}{l l':Bytes}
end

def pos (l:List Bytes)(t:Bytes):Nat:=(l.takeWhile (fun k=>lt k t)).length
theorem Vv (cs vs:List Value)(i m:Nat)(h:m≤i)(hl:i≤cs.length):(M9 cs i vs).take m=cs.take m:=by
 unfold M9
 rw[List.append_assoc,List.take_append_of_le_length (by simp;omega),List.take_take,Nat.min_eq_left h]
theorem z5F {w:World}{sv:Value}{cs:List Value}{i n:Nat}(hS:Sl w sv 3 1 n cs)(fT:∀c∈cs,c.oneCell'=true)(hi:i<n)(hn:n≤8589934592):
  Le Tryz.prog 183 [sv,I (i:Int),I ((i:Int)+1)] w fun v w'=>Sl w' v 3 1 (n-1) (cs.take i++cs.drop (i+1))∧Kp (fun k=>sv.ownBlock=some k) w w'∧(∀g,v.ownBlock=some g→sv.ownBlock=some g):=by
 have eJ:maxLen=9223372036854775807:=rfl
 have aD:=hS.len
 rw[Nat.mul_one] at aD
 obtain⟨g,cap,rfl,iR⟩:∃g cap,sv= .slice (some ⟨g,0,none⟩) n cap∧n≤cap:=by
  rcases hS.shape with⟨e,h0⟩|⟨g,cap,e,h⟩
  ·omega
  ·exact⟨g,cap,e,h⟩
 obtain⟨cur,jb,-,lT,fY,zr⟩:=hS.row
 rw[Nat.mul_one] at fY zr
 rw[show(i:Int)+1=((i+1:Nat):Int) by omega]
 refine KA (e:=[(0,_),(1,_),(2,_)]) Tryz.func183 rfl Tryz.ntmps183 rfl rfl (qN rfl (KE rfl (qM rfl (An rfl (An rfl (An rfl (An rfl (qV (LG Mu rfl) (qV (zdg Mu LC rfl rfl rfl rfl ⟨by omega,by omega,iR⟩) ?_)))))))))
 refine py (run_seq (qN rfl (An rfl (An rfl (qV (Mc rfl rfl) (Lq (py (Kx rfl (It (qN rfl (An rfl (qV (LG Mu rfl) (KE rfl ?_)))))))))))))
 refine py (run_seq (KN (fun w'=>Kp (fun k=>k=g) w w') (by kernel_rfl) rfl ?_))
 have h0:=Ext.L4 w
 refine KH 0 rfl (KM rfl) ((Ext.L4 w).kp) (KH 1 rfl (KM rfl) ((Ext.L4 w).kp) (KH 3 rfl (KM rfl) ((Ext.L4 w).kp) (KH 4 rfl (KM rfl) ((Ext.L4 w).kp) (KH 2 rfl (z3Q Mu LC rfl rfl (by omega)) ((Ext.L4 w).kp) (KH 5 rfl (Si Mu LC rfl rfl (by omega) iR) ((Ext.L4 w).kp) ?_)))))
 have cH:Sl w (.slice (some ⟨g,0,none⟩) i cap) 3 1 i (cs.take i):=by
  have:=jb.sl (n:=i) (by omega) lT (by rw[Nat.mul_one];exact fY);rw[Nat.mul_one,show cur.take i=cs.take i by rw[←zr,List.take_take,Nat.min_eq_left (by omega)]] at this;exact this
 have FU:(cur.drop (i+1)).take (n-(i+1))=cs.drop (i+1):=by
  rw[←zr,List.drop_take]
 have hR:Rd w.drew (.slice (if cap=i+1 then some ⟨g,0,none⟩ else(some (⟨g,0,none⟩:Addr)).map (·.add ((i+1)*1))) (n-(i+1)) (cap-(i+1))) 1 (n-(i+1)) (cs.drop (i+1)):=by
  by_cases hc:cap=i+1
  ·rw[if_pos hc,show n-(i+1)=0 by omega,List.drop_eq_nil_of_le (by omega)];exact Q7
  ·rw[if_neg hc,Option.map_some,Mr,Nat.zero_add,Nat.mul_one,←FU];exact(jb.ext h0).rd (by omega)
 refine qO 6 (VK (i:=6) rfl rfl rfl (zcu Mu LC (by decide) rfl rfl (cH.ext h0) hR (fun c hc=>fT c (List.mem_of_mem_drop hc)) (by omega)) ?_)
 rintro _ w1 ⟨rfl,cI,ax⟩
 refine⟨h0.kp.trans ax,?_⟩
 have e1:i+(n-(i+1))=n-1:=by omega
 rw[e1] at cI⊢
 obtain⟨cur3,tV,FW,FX,tW,tX⟩:=cI.row
 rw[Nat.mul_one] at tW tX
 refine KH 7 rfl (ML rfl) (h0.kp.trans ax) (qE (qN rfl (An rfl (An rfl (qV (LG Mu rfl) (An rfl (qV (z90 Mu LC rfl rfl rfl (by omega) (by omega)) (z47 rfl (zcX Mu LC rfl rfl tV (by omega)) ?_))))))))
 rintro _ w2 ⟨tY,av⟩
 refine py (Lc.qb (e:=[(0,_),(6,_)]) ?_)
 refine qN rfl (An rfl (KE rfl (py (KG Tryz.func183 rfl ?_))))
 have tZ:=tY.sl (n:=n-1) (cap:=cap) (by omega) lT (by rw[W5 _ _ _ (by simp;omega),tW,Nat.mul_one])
 rw[Nat.mul_one,Vv _ _ _ _ (by omega) (by omega),tX] at tZ
 exact⟨_,rfl,tZ,((h0.kp.trans ax).trans av).KT (fun k hk=>by subst hk;rfl),fun g' cA=>cA⟩
end Go.Proofs.YtpldpcjdjcgicaaGreatDoor
namespace Go.Proofs.YtpldpcjdjcgicaaGreatDoor
open Go Go.RowKit
open Go.ChangeMaps (setBlock)
set_option linter.all false

def Nr {κ:Type}(K:κ→Value)(w:World)(m:Nat)(kv:List (κ×Value)):Prop:=(∃es clock,w.heap[m]? =some (.map es clock)∧OV K es.toList kv∧(∀e∈es.toList,e.born<clock)∧(es.toList.map (·.born)).Nodup)∧(kv.map (·.1)).Nodup
section
variable {κ:Type}[DecidableEq κ]{K:κ→Value}
theorem Nr.l {w:World}{m:Nat}{kv:List (κ×Value)}(h:Nr K w m kv):QJ K w m kv:=by
 obtain⟨⟨es,c,h1,h2,-,-⟩,h3⟩:=h
 exact⟨⟨es,c,h1,h2⟩,h3⟩
theorem Nr.lt {w:World}{m:Nat}{kv:List (κ×Value)}(h:Nr K w m kv):m<w.heap.size:=h.l.lt
theorem Nr.nd {w:World}{m:Nat}{kv:List (κ×Value)}(h:Nr K w m kv):(kv.map (·.1)).Nodup:=h.2
theorem Nr.kp {S:Nat→Prop}{w w':World}{m:Nat}{kv:List (κ×Value)}(h:Nr K w m kv)(k:Kp S w w')(hn:¬S m):Nr K w' m kv:=by
 obtain⟨⟨es,c,h,he⟩,hd⟩:=h
 exact⟨⟨es,c,k.heap h hn,he⟩,hd⟩
theorem Nr.ext {w w':World}{m:Nat}{kv:List (κ×Value)}(h:Nr K w m kv)(k:Ext w w'):Nr K w' m kv:=h.kp k id
theorem Nr.new {w:World}{m:Nat}(h:w.heap[m]? =some (.map #[] 0)):Nr K w m []:=⟨⟨#[],0,h,rfl,by simp,by simp⟩,by simp⟩

def delL:List (κ×Value)→κ→List (κ×Value)
 |[],_=>[]
 |(a,v)::r,k=>if k=a then r else(a,v)::delL r k
theorem Zg:∀(kv:List (κ×Value)) (k:κ),(delL kv k).Sublist kv
 |[],_=> .slnil
 | (a, v) :: r, k => by
   simp only[delL];split
   ·exact List.sublist_cons_self _ _
   ·exact(Zg r k).cons_cons _
theorem WQ {kv:List (κ×Value)}{k:κ}(h:k∉kv.map (·.1)):getL kv k=none:=by
 induction kv with
 |nil=>rfl
 | cons p r ih =>
   obtain⟨a,u⟩:=p;simp only[List.map_cons,List.mem_cons,not_or] at h;simp only[getL,h.1,if_false];exact ih h.2
theorem zc3 {kv:List (κ×Value)}(hn:(kv.map (·.1)).Nodup)(k x:κ):getL (delL kv k) x=if x=k then none else getL kv x:=by
 induction kv with
 |nil=>simp[delL,getL]
 | cons p r ih =>
   obtain⟨a,u⟩:=p;simp only[List.map_cons,List.nodup_cons] at hn;simp only[delL];by_cases h:k=a
   ·subst h;simp only[if_true,getL];by_cases hx:x=k
    ·subst hx;simp[WQ hn.1]
    ·simp[hx]
   ·simp only[h,if_false,getL,ih hn.2];by_cases hx:x=a
    ·subst hx;simp[Ne.symm h]
    ·simp[hx]
theorem YO {kv:List (κ×Value)}(hn:(kv.map (·.1)).Nodup){k:κ}{v:Value}(h:(k,v)∈kv):getL kv k=some v:=by
 induction kv with
 |nil=>cases h
 | cons p r ih =>
   obtain⟨a,u⟩:=p;simp only[List.map_cons,List.nodup_cons] at hn;rcases List.mem_cons.1 h with e| h
   ·cases e;simp[getL]
   ·have:k≠a:=fun e=>hn.1 (List.mem_map.2 ⟨(k,v),h,e⟩);simp only[getL,this,if_false];exact ih hn.2 h
theorem TU {td:TypeDesc}(hs:∀a b,Instr.sameNow td (K a) (K b)=some (decide (a=b))):∀{es:List MapEntry} {kv:List (κ×Value)} (i:Nat) {k:κ} {v:Value},OV K es kv→getL kv k=some v→
  ∃j,Instr.findNow td (K k) es i=some (some (i+j,v))∧j<es.length∧OV K (es.eraseIdx j) (delL kv k)
 | e :: es, (a, v') :: kv, i, k, v, h, hg => by
   simp only[OV,List.map_cons,List.cons.injEq,Prod.mk.injEq] at h;simp only[getL] at hg;split at hg
   ·rename_i he
    subst he;cases hg;refine⟨0,by simp[Instr.findNow,h.1.1,hs,h.1.2],by simp,?_⟩;simp only[List.eraseIdx_zero,List.tail_cons,delL,if_true];exact h.2
   ·rename_i bE
    obtain⟨j,h1,h2,h3⟩:=TU hs (i+1) h.2 hg;refine⟨j+1,?_,by simp;omega,?_⟩
    ·simp only[Instr.findNow,h.1.1,hs,bE,decide_false,h1]
     congr 3;omega
    ·simp only[delL,bE,if_false,List.eraseIdx_cons_succ,OV,List.map_cons,List.cons.injEq,Prod.mk.injEq]
     exact⟨h.1,h3⟩
 |[],[],_,_,_,_,hg=>by simp[getL] at hg
 |[],_::_,_,_,_,h,_=>by simp[OV] at h
 |_::_,[],_,_,_,h,_=>by simp[OV] at h

variable {P:Program}{e:Env}{d:Option Nat}{ty t kt el:TypeId}{pos:String}{aft:Array Edge}{g:Option (Nat×Bool)}{x y u:Operand}{w:World}{m:Nat}{kv:List (κ×Value)}{z:Value}{size bytes:Nat}{k:κ}{v:Value}
theorem zbk (ht:P.underlying t=some (.map kt el))(hx:look e x=some (.map (some m)))(hm:QJ K w m kv):Y P e ⟨d,.call ⟨.builtin .len,#[x],#[t]⟩,ty,pos,aft,g⟩ (I (kv.length:Int)) w w:=fun ρ hρ=>by
 obtain⟨⟨es,c,hh,he⟩,-⟩:=hm
 have hl:es.size=kv.length:=by
  have:=congrArg List.length he
  simpa using this
 have hg:(getObj m).run P w= .ok (.map es c) w:=by simp[getObj,Sem.run,hh]
 simp[execOp,resolve,invoke,builtin,hρ _ _ hx,Builtin.len_,run_underlying ht,hg,goInt,hl,go_sem,Result.andThen]
theorem z8S (ht:P.underlying t=some (.map kt el))(hK:Ky P kt K)(hx:look e x=some (.map (some m)))(hy:look e y=some (K k))(hu:look e u=some v)(hm:Nr K w m kv):
  Zp P e ⟨d,.mapUpdate t x y u,ty,pos,aft,g⟩ w fun w'=>Nr K w' m (putL kv k v)∧Kp (fun i=>i=m) w w':=by
 have aQ:=hm.lt
 obtain⟨⟨es,c,hh,he,bT,bM⟩,hd⟩:=hm
 have qs:=fun b=>hK.same.choose_spec.2.2 w b 9999 k
 have hg:(getObj m).run P w= .ok (.map es c) w:=by simp[getObj,Sem.run,hh]
 have dT:∀o,(setObj m o).run P w= .ok () (w.putObj m o):=fun o=>by simp[setObj,Sem.run,hh,World.putObj]
 cases ko:getL kv k with
 | none =>
   have hf:=OU (P:=P) (w:=w) hK he ko;refine⟨w.putObj m (.map (es.push {key:=K k,val:=v,born:=c}) (c+1)),fun ρ hρ=>?_,⟨⟨_,_,World.putObj_heap_same aQ,?_,?_,?_⟩,?_⟩,M6 w m _⟩
   ·simp[execOp,hρ _ _ hx,hρ _ _ hy,hρ _ _ hu,Instr.mapUpdate,run_underlying ht,hg,qs,hf,dT]
   ·rw[P7 _ _ _ ko]
    simpa[OV] using he
   ·intro x hx;simp at hx;rcases hx with hx|rfl
    ·have:=bT x (by simpa using hx);omega
    ·simp
   ·simp only[Array.toList_push,List.map_append,List.map_cons,List.map_nil];refine List.nodup_append.2 ⟨bM,by simp,fun a ha b hb iS=>?_⟩;simp at hb;subst hb;subst iS;obtain⟨x,hx,E5⟩:=List.mem_map.1 ha;have:=bT x hx;omega
   ·rw[P7 _ _ _ ko,List.map_append,List.nodup_append];refine⟨hd,by simp,fun a ha b hb iS=>?_⟩;simp at hb;subst hb;subst iS
    exact Vp ko ha
 | some v0 =>
   obtain⟨j,hf,⟨ej,FY,zt⟩,lU⟩:=OO (P:=P) (w:=w) hK he ko
   have jM:(es.modify j fun e=>{e with key:=K k,val:=v}).toList.map (·.born)=es.toList.map (·.born):=by
    apply List.ext_getElem?;intro i;simp only[Array.toList_modify,List.getElem?_map,List.getElem?_modify];by_cases gH:j=i
    ·subst gH;simp;cases es[j]?<;>rfl
    ·simp[gH]
   refine⟨w.putObj m (.map (es.modify j fun e=>{e with key:=K k,val:=v}) c),fun ρ hρ=>?_,⟨⟨_,_,World.putObj_heap_same aQ,lU v,?_,?_⟩,?_⟩,M6 w m _⟩
   ·simp[execOp,hρ _ _ hx,hρ _ _ hy,hρ _ _ hu,Instr.mapUpdate,run_underlying ht,hg,qs,hf,dT,FY,zt,Instr.keyThatStays,hK.bits]
   ·intro x hx;have:x.born∈es.toList.map (·.born):=by rw[←jM];exact List.mem_map.2 ⟨x,hx,rfl⟩
    obtain⟨y,hy,E6⟩:=List.mem_map.1 this;rw[←E6];exact bT y hy
   ·rw[jM];exact bM
   ·rw[Wl _ _ _ (by rw[ko];rfl)];exact hd
theorem zas (ht:P.underlying t=some (.map kt el))(hK:Ky P kt K)(hx:look e x=some (.map (some m)))(hy:look e y=some (K k))(hm:Nr K w m kv){ts:Array TypeId}(sX:ts[0]? =some t):
  Yp P e ⟨d,.call ⟨.builtin .delete,#[x,y],ts⟩,ty,pos,aft,g⟩ w fun v' w'=>Nr K w' m (delL kv k)∧Kp (fun i=>i=m) w w':=by
 have aQ:=hm.lt
 obtain⟨⟨es,c,hh,he,bT,bM⟩,hd⟩:=hm
 obtain⟨⟨td,hu,hs,zu⟩,-⟩:=hK
 have qs:=fun b=>zu w b 9999 k
 have hg:(getObj m).run P w= .ok (.map es c) w:=by simp[getObj,Sem.run,hh]
 have dT:∀o,(setObj m o).run P w= .ok () (w.putObj m o):=fun o=>by simp[setObj,Sem.run,hh,World.putObj]
 have eA:=(Zg kv k).map (·.1)
 cases ko:getL kv k with
 | none =>
   have hf:(Instr.findKey kt (K k) es.toList).run P w= .ok none w:=by simp[Instr.findKey,run_underlying hu,Qk hs 0 he ko]
   have jN:delL kv k=kv:=by
    clear he hh hd eA
    induction kv with
    |nil=>rfl
    | cons p r ih =>
      obtain⟨a,u⟩:=p;simp only[getL] at ko;split at ko
      ·cases ko
      ·rename_i bE;simp only[delL,bE,if_false,ih ko]
   refine⟨.tuple #[],w.putObj m (.map es c),fun ρ hρ=>?_,⟨⟨es,c,World.putObj_heap_same aQ,by rw[jN];exact he,bT,bM⟩,by rw[jN];exact hd⟩,M6 w m _⟩
   simp[execOp,resolve,invoke,builtin,hρ _ _ hx,hρ _ _ hy,Builtin.delete_,sX,run_underlying ht,hg,qs,hf,dT,Result.andThen]
 | some v0 =>
   obtain⟨j,u3,hj,lU⟩:=TU hs 0 he ko
   have hf:(Instr.findKey kt (K k) es.toList).run P w= .ok (some (j,v0)) w:=by
    rw[Nat.zero_add] at u3;simp[Instr.findKey,run_underlying hu,u3]
   have zv:(es.eraseIdxIfInBounds j).toList=es.toList.eraseIdx j:=by
    simp at hj;simp[Array.eraseIdxIfInBounds,hj]
   refine⟨.tuple #[],w.putObj m (.map (es.eraseIdxIfInBounds j) c),fun ρ hρ=>?_,⟨⟨_,c,World.putObj_heap_same aQ,by rw[zv];exact lU,?_,?_⟩,eA.nodup hd⟩,M6 w m _⟩
   ·simp[execOp,resolve,invoke,builtin,hρ _ _ hx,hρ _ _ hy,Builtin.delete_,sX,run_underlying ht,hg,qs,hf,dT,Result.andThen]
   ·rw[zv];exact fun x hx=>bT x ((List.eraseIdx_sublist _ _).subset hx)
   ·rw[zv];exact((List.eraseIdx_sublist _ _).map _).nodup bM
end
def bitsN:Nat→Nat→List Bool
 |0,_=>[]
 |n+1,v=>v.testBit n::bitsN n v
def valB:List Bool→Nat
 |[]=>0
 |b::l=>b.toNat*2^l.length+valB l
@[simp] theorem bitsN_length:∀(n v:Nat),(bitsN n v).length=n
 |0,_=>rfl
 |n+1,v=>by simp[bitsN,bitsN_length n v]
theorem Mk:∀(l:List Bool),valB l<2^l.length
 |[]=>by simp[valB]
 | b :: l => by
   have:=Mk l;simp only[valB,List.length_cons,Nat.pow_succ];have:b.toNat≤1:=by cases b<;>simp
   have:b.toNat*2^l.length≤1*2^l.length:=Nat.mul_le_mul_right _ this;omega
theorem MR:∀(a b:List Bool),valB (a++b)=valB a*2^b.length+valB b
 |[],b=>by simp[valB]
 | x :: a, b => by
   rw[List.cons_append,valB,MR a b,valB,List.length_append,Nat.pow_add,Nat.add_mul,Nat.mul_assoc];omega
theorem MW:∀(m n v:Nat),bitsN (m+n) v=bitsN m (v / 2^n)++bitsN n v
 |0,n,v=>by simp[bitsN]
 | m + 1, n, v => by
   rw[show m+1+n=(m+n)+1 by omega,bitsN,bitsN,List.cons_append,MW m n v,Nat.testBit_div_two_pow]
theorem Ly:∀(n v:Nat),valB (bitsN n v)=v%2^n
 |0,v=>by simp[bitsN,valB,Nat.mod_one]
 | n + 1, v => by
   rw[bitsN,valB,bitsN_length,Ly n v,Nat.pow_succ,Nat.mod_mul,Nat.testBit_eq_decide_div_mod_eq];rcases Nat.mod_two_eq_zero_or_one (v / 2^n) with e|e<;>simp[e]<;>omega
theorem QU:∀{n v u:Nat},v%2^n=u%2^n→bitsN n v=bitsN n u
 |0,_,_,_=>rfl
 | n + 1, v, u, h => by
   have h1:v.testBit n=u.testBit n:=by
    have e1:(v%2^(n+1)).testBit n=v.testBit n:=by rw[Nat.testBit_mod_two_pow];simp
    have e2:(u%2^(n+1)).testBit n=u.testBit n:=by rw[Nat.testBit_mod_two_pow];simp
    rw[←e1,←e2,h]
   have h2:v%2^n=u%2^n:=by
    have e1:v%2^(n+1)%2^n=v%2^n:=Nat.mod_mod_of_dvd _ (Nat.pow_dvd_pow 2 (Nat.le_succ n));have e2:u%2^(n+1)%2^n=u%2^n:=Nat.mod_mod_of_dvd _ (Nat.pow_dvd_pow 2 (Nat.le_succ n));rw[←e1,←e2,h]
   rw[bitsN,bitsN,h1,QU h2]
theorem T3:∀{a b:List Bool},a.length=b.length→valB a=valB b→a=b
 |[],[],_,_=>rfl
 | x :: a, y :: b, hl, hv => by
   have hl':a.length=b.length:=by simpa using hl
   have h1:=Mk a;have h2:=Mk b;rw[valB,valB,hl'] at hv;rw[hl'] at h1
   have hx:x=y:=by
    cases x<;>cases y<;>simp at hv⊢<;>omega
   subst hx;rw[T3 hl' (by omega)]
theorem VN (l:List Bool):bitsN l.length (valB l)=l:=T3 (by simp) (by rw[Ly,Nat.mod_eq_of_lt (Mk l)])
/-! ### Bytes -/
def L0 (s:Bytes):List Bool:=s.flatMap fun c=>bitsN 8 c.toNat
@[simp] theorem bitsT_length (s:Bytes):(L0 s).length=8*s.length:=by
 induction s with
 |nil=>rfl
 |cons c s ih=>simp[L0] at ih⊢;omega
theorem Sw (a b:Bytes):L0 (a++b)=L0 a++L0 b:=by simp[L0]
def Qw (d:List Bool):UInt8:=UInt8.ofNat (valB d*2^(8-d.length))
def L7 (l:List Bool):Bytes:=(List.range ((l.length+7) / 8)).map fun i=>Qw ((l.drop (8*i)).take 8)
theorem Lh (l:List Bool):(L7 l).length=(l.length+7) / 8:=by simp[L7]
theorem S3 {c d:List Bool}(hc:c.length%8=0)(h1:1≤d.length)(h8:d.length≤8):L7 (c++d)=L7 c++[Qw d]:=by
 obtain⟨m,hm⟩:∃m,c.length=8*m:=⟨c.length / 8,by omega⟩
 unfold L7
 rw[List.length_append,show(c.length+d.length+7) / 8=m+1 by omega,show(c.length+7) / 8=m by omega,List.range_succ,List.map_append]
 congr 1
 ·apply List.map_congr_left;intro i hi;rw[List.mem_range] at hi;rw[List.drop_append_of_le_length (by omega),List.take_append_of_le_length (by rw[List.length_drop];omega)]
 ·simp only[List.map_cons,List.map_nil];rw[←hm,List.drop_left,List.take_of_length_le h8]
theorem z33 {d e:List Bool}(h:d.length+e.length≤8):(Qw (d++e)).toNat=(Qw d).toNat |||(valB e*2^(8-d.length-e.length)):=by
 have h1:=Mk d
 have h2:=Mk e
 have hp:∀(x:List Bool),x.length≤8→valB x*2^(8-x.length)<256:=fun x hx=>by
  have h3:=Mk x;have:valB x*2^(8-x.length)<2^x.length*2^(8-x.length):=Nat.mul_lt_mul_of_pos_right h3 (Nat.two_pow_pos _);rw[←Nat.pow_add,show x.length+(8-x.length)=8 by omega] at this;exact this
 have e1:(Qw (d++e)).toNat=valB (d++e)*2^(8-(d++e).length):=by
  unfold Qw;rw[UInt8.toNat_ofNat'];exact Nat.mod_eq_of_lt (hp _ (by rw[List.length_append];omega))
 have e2:(Qw d).toNat=valB d*2^(8-d.length):=by
  unfold Qw;rw[UInt8.toNat_ofNat'];exact Nat.mod_eq_of_lt (hp _ (by omega))
 rw[e1,e2,MR,List.length_append,Nat.add_mul]
 have h5:valB d*2^e.length*2^(8-(d.length+e.length))=2^(8-d.length)*valB d:=by
  rw[Nat.mul_assoc,←Nat.pow_add,show e.length+(8-(d.length+e.length))=8-d.length by omega,Nat.mul_comm]
 have h6:valB e*2^(8-(d.length+e.length))<2^(8-d.length):=by
  have:valB e*2^(8-(d.length+e.length))<2^e.length*2^(8-(d.length+e.length)):=Nat.mul_lt_mul_of_pos_right h2 (Nat.two_pow_pos _);rw[←Nat.pow_add,show e.length+(8-(d.length+e.length))=8-d.length by omega] at this;exact this
 rw[h5,Nat.two_pow_add_eq_or_of_lt h6,Nat.mul_comm (2^(8-d.length)),show 8-d.length-e.length=8-(d.length+e.length) by omega]
theorem z3a:Qw []=0:=by decide
theorem N4 (l:List Bool):∃z,L0 (L7 l)=l++List.replicate z false∧(l.length+z)%8=0∧z<8:=by
 have key : ∀ (m : Nat) (l : List Bool), l.length ≤ 8 * m → ∃ z, L0 (L7 l) = l ++ List.replicate z false ∧ (l.length + z) % 8 = 0 ∧ z < 8 := by
  intro m
  induction m with
  | zero =>
    intro l h;have:l=[]:=List.eq_nil_of_length_eq_zero (by omega);subst this
    exact⟨0,rfl,rfl,by omega⟩
  | succ m ih =>
    intro l h;by_cases h0:l=[]
    ·subst h0;exact⟨0,rfl,rfl,by omega⟩
    ·have hpos:1≤l.length:=by
      cases l with
      |nil=>exact absurd rfl h0
      |cons a r=>simp
     obtain⟨c,d,rfl,hc,h1,h8⟩:∃c d,l=c++d∧c.length%8=0∧1≤d.length∧d.length≤8:=by
      refine⟨l.take (8*((l.length-1) / 8)),l.drop (8*((l.length-1) / 8)),(List.take_append_drop _ _).symm,?_,?_,?_⟩
      ·rw[List.length_take];omega
      ·rw[List.length_drop];omega
      ·rw[List.length_drop];omega
     rw[List.length_append] at h;obtain⟨z,hz,hm,hl⟩:=ih c (by omega);have hz0:z=0:=by omega
     subst hz0;simp at hz;refine⟨8-d.length,?_,by rw[List.length_append];omega,by omega⟩;rw[S3 hc h1 h8,Sw,hz,List.append_assoc]
     congr 1
     simp only[L0,List.flatMap_cons,List.flatMap_nil,List.append_nil]
     have hv:valB (d++List.replicate (8-d.length) false)=valB d*2^(8-d.length):=by
      rw[MR,List.length_replicate]
      have:∀n,valB (List.replicate n false)=0:=fun n=>by
       induction n with
       |zero=>rfl
       |succ n ih=>rw[List.replicate_succ,valB,ih];simp
      rw[this];rfl
     refine T3 (by simp;omega) ?_;rw[Ly,hv];have h3:=Mk d
     have:valB d*2^(8-d.length)<2^8:=by
      have:valB d*2^(8-d.length)<2^d.length*2^(8-d.length):=Nat.mul_lt_mul_of_pos_right h3 (Nat.two_pow_pos _)
      rwa [←Nat.pow_add,show d.length+(8-d.length)=8 by omega] at this
     unfold Qw;rw[UInt8.toNat_ofNat'];rw[Nat.mod_mod,Nat.mod_eq_of_lt this]
 exact key l.length l (by omega)
theorem ZJ (c:Nat)(hc:c<256)(room n:Nat)(hr:room≤8)(hn:n≤room):valB (((bitsN 8 c).drop (8-room)).take n)=c%2^room / 2^(room-n):=by
 have e1:bitsN 8 c=bitsN (8-room) (c / 2^room)++bitsN room c:=by rw[←MW,show 8-room+room=8 by omega]
 have e2:bitsN room c=bitsN n (c / 2^(room-n))++bitsN (room-n) c:=by rw[←MW,show n+(room-n)=room by omega]
 rw[e1,List.drop_left' (by simp),e2,List.take_left' (by simp),Ly]
 have:c%2^room / 2^(room-n)=c / 2^(room-n)%2^n:=by
  have h2:2^room=2^(room-n)*2^n:=by rw[←Nat.pow_add,show room-n+n=room by omega]
  rw[h2,Nat.mod_mul_right_div_self]
 rw[this]
theorem Oj (c:UInt8)(s:Bytes):L0 (c::s)=bitsN 8 c.toNat++L0 s:=rfl
theorem Ou:∀(k:Nat) (s:Bytes),L0 (s.drop k)=(L0 s).drop (8*k)
 |0,s=>by simp
 |k+1,[]=>by simp[L0]
 | k + 1, c :: s => by
   have e:(bitsN 8 c.toNat++L0 s).drop (8+8*k)=(L0 s).drop (8*k):=by rw[←List.drop_drop,List.drop_left' (by simp)]
   rw[List.drop_succ_cons,Ou k s,Oj,show 8*(k+1)=8+8*k by omega,e]
theorem P6:∀(k:Nat) (s:Bytes),L0 (s.take k)=(L0 s).take (8*k)
 |0,s=>by simp[L0]
 |k+1,[]=>by simp[L0]
 | k + 1, c :: s => by
   have e:(bitsN 8 c.toNat++L0 s).take (8+8*k)=bitsN 8 c.toNat++(L0 s).take (8*k):=by
    have:=List.take_length_add_append (l₁:=bitsN 8 c.toNat) (l₂:=L0 s) (8*k)
    rwa [bitsN_length] at this
   rw[List.take_succ_cons,Oj,P6 k s,Oj,show 8*(k+1)=8+8*k by omega,e]
theorem z6k {s:Bytes}{i:Nat}{c:UInt8}(h:s[i]? =some c):((L0 s).drop (8*i)).take 8=bitsN 8 c.toNat:=by
 rw[←Ou]
 obtain⟨hi,e⟩:=List.getElem?_eq_some_iff.1 h
 rw[List.drop_eq_getElem_cons hi,e,show L0 (c::s.drop (i+1))=bitsN 8 c.toNat++L0 (s.drop (i+1)) from rfl,List.take_left' (by simp)]
theorem ZE {s:Bytes}{at' n:Nat}{c:UInt8}(h:s[at' / 8]? =some c)(hn:n≤8-at'%8):valB (((L0 s).drop at').take n)=c.toNat%2^(8-at'%8) / 2^(8-at'%8-n):=by
 have h1:=z6k h
 have h2:=ZJ c.toNat (by have:=c.toNat_lt;omega) (8-at'%8) n (by omega) hn
 rw[←h2,←h1]
 congr 1
 rw[List.drop_take,List.take_take,List.drop_drop,show 8*(at' / 8)+(8-(8-at'%8))=at' by omega]
 congr 1
 omega
theorem z0D {bs e:List Bool}(h1:1≤e.length)(h8:bs.length%8+e.length≤8):∃(c:Bytes) (x y:UInt8),(if bs.length%8=0 then L7 bs++[0] else L7 bs)=c++[x]∧L7 (bs++e)=c++[y]∧y.toNat=(x.toNat |||(valB e*2^(8-bs.length%8-e.length))):=by
 obtain⟨c,d,hcd,hc,hd⟩:∃c d,bs=c++d∧c.length%8=0∧d.length=bs.length%8:=⟨bs.take (8*(bs.length / 8)),bs.drop (8*(bs.length / 8)),(List.take_append_drop _ _).symm,by rw[List.length_take];omega,by rw[List.length_drop];omega⟩
 have hb:=z33 (d:=d) (e:=e) (by omega)
 rw[←hd]
 refine⟨L7 c,Qw d,Qw (d++e),?_,?_,hb⟩
 ·by_cases h0:d.length=0
  ·have:d=[]:=List.eq_nil_of_length_eq_zero h0;subst this;rw[if_pos (by simp),hcd,List.append_nil,z3a]
  ·rw[if_neg (by omega),hcd,S3 hc (by omega) (by omega)]
 ·rw[hcd,List.append_assoc,S3 hc (by rw[List.length_append];omega) (by rw[List.length_append];omega)]
set_option maxRecDepth 100000
abbrev KV (n:Nat):Value:= .int .u64 (n:Int)
theorem Rm {w:World}{v:Value}{T s n}{us:List Value}(h:Sl w v T s n us):oneV v=true:=by
 rcases h.shape with⟨rfl,-⟩|⟨g,c,rfl,-⟩<;>rfl
section
variable {P:Program}{e:Env}{d:Option Nat}{ty t t':TypeId}{pos:String}{aft:Array Edge}{g:Option (Nat×Bool)}{x y:Operand}{w:World}{k:IntKind}{m n:Nat}
theorem QV (hx:look e x=some (.int k (m:Int)))(hy:look e y=some (.int k (n:Int)))(hs:k.signed=false)(hm:m<2^k.bits)(h:n≤m):Y P e ⟨d,.binOp .sub t x y t',ty,pos,aft,g⟩ (.int k ((m-n:Nat):Int)) w w:=fun ρ hρ=>by
 have h1:(m:Int)-n=((m-n:Nat):Int):=by omega
 have h2:k.wrap ((m-n:Nat):Int)=((m-n:Nat):Int):=VT hs (by omega)
 simp[execOp,go_sem,hρ _ _ hx,hρ _ _ hy,h1,h2]
theorem zca {el:TypeId}{c:Nat}(hs:P.underlying t=some (.slice el))(he:P.underlying el=some (.int .u8))(hd:P.underlying t'=some .string)(hx:look e x=some (.slice none 0 c)):Y P e ⟨d,.convert t t' x,ty,pos,aft,g⟩ (S []) w w:=fun ρ hρ=>by
 have hr:(convert t t' (.slice none 0 c)).run P w= .ok (S []) w:=by
  rw[run_convert_bytes_string w t t' el none 0 c hs he hd];rfl
 simp only[execOp,hρ _ _ hx,Sem.run_bind,hr,Result.andThen_ok,Sem.run_pure]
theorem z92 {el:TypeId}{gb n cap:Nat}{l:List UInt8}(hs:P.underlying t=some (.slice el))(he:P.underlying el=some (.int .u8))(hd:P.underlying t'=some .string)(hx:look e x=some (.slice (some ⟨gb,0,none⟩) n cap))(hS:Sl w (.slice (some ⟨gb,0,none⟩) n cap) el 1 n (l.map Od)):
  Y P e ⟨d,.convert t t' x,ty,pos,aft,g⟩ (S l) w w:=by
 obtain⟨cur,hr,-,-,-,ht⟩:=hS.row
 refine z2g hs he hd hx hr.KD (by rw[List.drop_zero,←ht,Nat.mul_one]) ?_
 have:=hS.len
 rw[List.length_map] at this
 omega
end
theorem LN {w:World}{b off n cap i:Nat}{vs:List Value}{v:Value}(h:Rd w (.slice (some ⟨b,off,none⟩) n cap) 1 n vs)(hv:vs[i]? =some v):w.cell? ⟨b,off+i*1,none⟩=some v:=by
 rcases h.2 with⟨c,hc,h0⟩|⟨b',off',cap',e,hc⟩
 ·have hi:=(List.getElem?_eq_some_iff.1 hv).1;have:=h.1;omega
 ·cases e;rw[Nat.mul_one];exact hc i v hv
structure WrM (w:World)(p:Nat)(bv:Value)(bs:List Bool):Prop where
 KD:KP w p [bv,I (bs.length:Int)] 262
 sl:Sl w bv 5 1 (L7 bs).length ((L7 bs).map Od)
 ne:bv.ownBlock≠some p
def WN (p:Nat)(bv:Value)(k:Nat):Prop:=k=p∨bv.ownBlock=some k
def SG (w:World)(p:Nat)(bs:List Bool)(F:Nat→Prop):Prop:=∃bv,WrM w p bv bs∧∀k,F k↔WN p bv k
def WrR (p:Nat)(F:Nat→Prop)(w w':World)(bs:List Bool):Prop:=∃F',SG w' p bs F'∧Kp F w w'∧∀k,F' k→F k∨w.heap.size≤k
section
variable {w w':World}{p:Nat}{bs:List Bool}{F S:Nat→Prop}
theorem SG.lt (h:SG w p bs F){k:Nat}(hk:F k):k<w.heap.size:=by
 obtain⟨bv,hM,hF⟩:=h
 rcases (hF k).1 hk with e| e
 ·rw[e];exact hM.KD.lt
 ·exact hM.sl.lt e
theorem SG.kp (h:SG w p bs F)(k:Kp S w w')(hn:∀i,F i→¬S i):SG w' p bs F:=by
 obtain⟨bv,hM,hF⟩:=h
 exact⟨bv,⟨k.KD hM.KD (hn p ((hF p).2 (.inl rfl))),hM.sl.kp k (fun g hg=>hn g ((hF g).2 (.inr hg))),hM.ne⟩,hF⟩
theorem SG.ext (h:SG w p bs F)(k:Ext w w'):SG w' p bs F:=h.kp k.kp fun _ _=>id
end
section
variable {w:World}{p:Nat}{bs:List Bool}{F:Nat→Prop}
theorem P5 (w:World):Le Tryz.prog 102 [] w fun v w'=>∃p F,v=ptr p 0∧SG w' p [] F∧Ext w w'∧∀k,F k→w.heap.size≤k:=by
 refine KA (e:=[]) Tryz.func102 rfl Tryz.ntmps102 rfl rfl (qN rfl (KE rfl (qM rfl (qV (Nc (parts:=[]) (cs:=[_,_]) z9l rfl zbw rfl rfl) (KL rfl rfl (Mz rfl rfl) ?_)))))
 rintro _ w1 ⟨p,rfl,hp,hx,hB⟩
 refine KE rfl (py (KG Tryz.func102 rfl ?_))
 exact⟨_,rfl,p,_,rfl,⟨_,⟨hB,Sl.nil _ _ _,by simp[Value.ownBlock]⟩,fun _=>Iff.rfl⟩,hx,fun k hk=>by
  rcases hk with e| e
  ·omega
  ·simp[Value.ownBlock] at e⟩
theorem z4P (h:SG w p bs F)(v n:Nat)(hn:n≤64)(hv:v<2^n)(hl:bs.length+n≤1000000000):
  Le Tryz.prog 142 [ptr p 0,KV v,I (n:Int)] w fun u w'=>u= .tuple #[]∧WrR p F w w' (bs++bitsN n v):=by
 obtain⟨bv,hM,hF⟩:=h
 have FZ:v<18446744073709551616:=by
  have:=Nat.pow_le_pow_right (show 0<2 by decide) hn;have e:(2:Nat)^64=18446744073709551616:=by decide
  omega
 have eJ:maxLen=9223372036854775807:=rfl
 refine KA (e:=[(0,_),(1,_),(2,_)]) Tryz.func142 rfl Tryz.ntmps142 rfl rfl (KB (MQ (α:=Nat×Value×List Bool) ((n,bv,bs)) (fun x=>[(0,ptr p 0),(1,KV v),(2,I (x.1:Int))]) (fun x w'=>x.1≤n∧WrM w' p x.2.1 x.2.2∧x.2.2=bs++bitsN (n-x.1) (v / 2^x.1)∧Kp F w w'∧(∀k,WN p x.2.1 k→F k∨w.heap.size≤k)) (fun x=>x.1) ?hI ?hround))
 case hI=>exact⟨Nat.le_refl _,hM,by rw[Nat.sub_self];simp[bitsN],Kp.refl _ _,fun k hk=> .inl ((hF k).2 hk)⟩
 case hround =>
  rintro⟨k,bv1,b1⟩ w1 ⟨hk,dr,bT,aN,ie⟩ ih;dsimp only at hk dr bT ie;have ai:=dr.KD;have G0:b1.length≤bs.length+n:=by rw[bT,List.length_append,bitsN_length];omega
  have jc:b1.length&&&7=b1.length%8:=Nat.and_two_pow_sub_one_eq_mod b1.length 3;have lV:=aN.size;have dM:=ai.lt
  try dsimp only
  refine run_seq (qN rfl (An rfl (qV (LH rfl rfl) (py (KQ rfl (fun aQ=>?_) (fun aQ=>?_))))))
  ·have iT : 0 < k := by omega
   obtain⟨take,lX⟩:∃take,min k (8-b1.length%8)=take:=⟨_,rfl⟩;have qt:1≤take∧take≤k∧take≤8-b1.length%8:=by omega
   obtain⟨e,he⟩:∃e,bitsN take (v / 2^(k-take))=e:=⟨_,rfl⟩;have nB:e.length=take:=by rw[←he];simp
   have E7:valB e=v / 2^(k-take)%2^take:=by rw[←he,Ly]
   obtain⟨c,x,y,hL,hY,cZ⟩:=z0D (bs:=b1) (e:=e) (by omega) (by omega);refine It (KB (run_seq (qN rfl (An rfl (qV (KZ rfl) (qV (KK Rk rfl) (qV (KJ U3 rfl rfl ai rfl) (qV (RS rfl rfl (by omega) (by omega)) ?_))))))));rw[jc];refine qV (Mc rfl rfl) (py (Lp (fun e' w'=>e'=[(0,ptr p 0),(1,KV v),(2,I (k:Int))]∧∃bv2,KP w' p [bv2,I (b1.length:Int)] 262∧Sl w' bv2 5 1 (c++[x]).length ((c++[x]).map Od)∧bv2.ownBlock≠some p∧Kp F w w'∧∀k,WN p bv2 k→F k∨w.heap.size≤k) ?lY (fun lY=>?lZ)))
   case lY=>
    rintro e' w2 ⟨rfl,bv2,ak,cH,eR,am,qu⟩
    obtain⟨g2,c2,rfl,eK⟩:∃g cp,bv2= .slice (some ⟨g,0,none⟩) (c++[x]).length cp∧(c++[x]).length≤cp:=by
     rcases cH.shape with⟨-,e⟩| h
     ·simp at e
     ·exact h
    have fY:(c++[x]).length=c.length+1:=by simp
    have G1:p≠g2:=fun e=>eR (by rw[e];rfl);have kq:(L7 (b1++e)).length=c.length+1:=by rw[hY];simp
    rw[Lh,List.length_append] at kq;obtain⟨T,hT⟩:∃T,2^take=T:=⟨_,rfl⟩;obtain⟨D,hD⟩:∃D,2^(k-take)=D:=⟨_,rfl⟩;obtain⟨R,hR⟩:∃R,2^(8-b1.length%8-take)=R:=⟨_,rfl⟩;rw[hT,hD] at E7;rw[nB,hR] at cZ
    have E8:1≤T∧T≤256:=by
     rw[←hT];exact⟨Nat.two_pow_pos _,by have:=Nat.pow_le_pow_right (show 0<2 by decide) (show take≤8 by omega);simpa using this⟩
    have ik:(v / D)&&&(T-1)=v / D%T:=by rw[←hT];exact Nat.and_two_pow_sub_one_eq_mod _ _
    have Jt:v / D≤v:=Nat.div_le_self _ _;have G2:v / D%T<T:=Nat.mod_lt _ (by omega)
    have Ju:valB e*R<256:=by
     have h1:=Mk e;rw[nB,hT] at h1;have h2:valB e*R<T*R:=Nat.mul_lt_mul_of_pos_right h1 (by rw[←hR];exact Nat.two_pow_pos _);have h3:T*R=2^(8-b1.length%8):=by rw[←hT,←hR,←Nat.pow_add,show take+(8-b1.length%8-take)=8-b1.length%8 by omega]
     have h4:=Nat.pow_le_pow_right (show 0<2 by decide) (show 8-b1.length%8≤8 by omega);have h5:(2:Nat)^8=256:=by decide
     omega
    have cE:=x.toNat_lt;refine qN rfl (An rfl (qV (KZ rfl) (qV (KK Rk rfl) (qV (KJ U3 rfl rfl ak rfl) (qV (RS rfl rfl (by omega) (by omega)) ?_)))));rw[jc];refine qV (M8 rfl rfl (by omega)) ?_;rw[show(8-((b1.length%8:Nat):Int))=((8-b1.length%8:Nat):Int) by omega];refine KE rfl (qM rfl (An rfl (An rfl (qV (ymi rfl rfl) ?_))));rw[show min (k:Int) ((8-b1.length%8:Nat):Int)=((take:Nat):Int) by omega];have hg:=Ext.L4 w2;refine KE rfl (py (run_seq (KN (fun w'=>Ext w2 w') (by kernel_rfl) rfl (KH 0 rfl (KM rfl) hg (KH 1 rfl (KM rfl) hg (KH 2 rfl (KM rfl) hg (KH 3 rfl (M8 rfl rfl (by omega)) hg (KH 5 rfl (KM rfl) hg ?_))))))));rw[show((k:Int)-(take:Int))=((k-take:Nat):Int) by omega];refine KH 4 rfl (Ps (k-take) D rfl rfl (by show k-take≤64;omega) hD) hg ?_;refine KH 6 rfl (Mq take T rfl rfl (by omega) hT) hg ?_;rw[show(1*T)%18446744073709551616=T by omega];refine KH 7 rfl (QV (n:=1) rfl rfl rfl (by show T<2^64;omega) (by omega)) hg ?_;refine KH 8 rfl (Ph rfl rfl (by omega) (by omega)) hg ?_;rw[ik];refine KH 9 rfl (z6r rfl M3 U5) hg ?_;rw[show v / D%T%256=valB e by rw[E7];exact Nat.mod_eq_of_lt (Nat.lt_of_lt_of_le G2 E8.2)];have ar:=hg.KD ak;have cI:=cH.ext hg;have ag:Ext w2.drew w2.drew.drew:=Ext.L4 w2.drew;refine KH 10 rfl (ML rfl) hg (qE (run_seq (L5 [19] (fun w'=>Ext w2.drew w') (by kernel_rfl) rfl (qL [1,2,3,10,11,17,18,19] 0 rfl (fun _ h=>KM rfl) ag (qL [2,3,10,11,17,18,19] 1 rfl (fun _ h=>KZ rfl) ag (qL [3,10,11,17,18,19] 2 rfl (fun _ h=>KK SW rfl) ag (qL [10,11,17,18,19] 3 rfl (fun _ h=>KJ LU rfl rfl (h.KD ar) rfl) ag (qL [5,6,7,8,9,10,11,17,18,19] 4 rfl (fun _ h=>KM rfl) ag (qL [6,7,8,9,10,11,17,18,19] 5 rfl (fun _ h=>KZ rfl) ag (qL [7,8,9,10,11,17,18,19] 6 rfl (fun _ h=>KK SW rfl) ag (qL [8,9,10,11,17,18,19] 7 rfl (fun _ h=>KJ LU rfl rfl (h.KD ar) rfl) ag (qL [9,10,11,17,18,19] 8 rfl (fun _ h=>LG LU rfl) ag (qL [16,17,18,19] 12 rfl (fun _ h=>KM rfl) ag ?_)))))))))))));refine qL [15,16,17,18,19] 13 rfl (fun _ h=>KM rfl) ag (qL [15,16,17,18,19] 14 rfl (fun _ h=>KM rfl) ag (qL [16,17,18,19] 15 rfl (fun _ h=>M8 rfl rfl (by omega)) ag (qL [10,11,17,18,19] 9 rfl (fun _ h=>M8 rfl rfl (by omega)) ag ?_)));rw[show(((c++[x]).length:Int)-1)=((c.length:Nat):Int) by omega];refine qL [11,17,18,19] 10 rfl (fun _ h=>Lt LU Sf rfl rfl (by omega)) ag (qL [17,18,19] 11 rfl (fun _ hS=>Lb U5 rfl rfl (LN (cI.rd.ext hS) (show((c++[x]).map Od)[c.length]? =some (Od x) by simp))) ag ?_);rw[show(((8-b1.length%8:Nat):Int)-(take:Int))=((8-b1.length%8-take:Nat):Int) by omega];refine qL [17,18,19] 16 rfl (fun _ h=>zco (8-b1.length%8-take) R rfl rfl (by omega) hR) ag ?_;rw[show valB e*R%256=valB e*R by omega];refine qL [18,19] 17 rfl (fun _ h=>zcN rfl rfl (by omega) (by omega)) ag (qL [19] 18 rfl (fun _ h=>Lt LU Sf rfl rfl (by omega)) ag (Lu [19] (by kernel_rfl) (by kernel_rfl) (qO 19 (Lm (i:=19) rfl rfl (MM Sf rfl rfl rfl (cI.ext ag) (by simp)) ?_))))
    rintro w4 ⟨dP,av⟩;refine⟨trivial,?_⟩
    rw[show((c++[x]).map Od).set (0+c.length*1) (.int .u8 ((x.toNat |||valB e*R:Nat):Int))=(c++[y]).map Od by
     rw[Nat.zero_add,Nat.mul_one,List.map_append,List.map_append,List.set_append_right _ _ (by simp)]
     simp[Od,cZ]] at dP
    have aI:=av.KD (ag.KD ar) G1;refine qE (qN rfl (An rfl (qV (KZ rfl) (qV (KK Rk rfl) (qV (KJ U3 rfl rfl aI rfl) (An rfl (Lz rfl rfl (qV (KZ rfl) (qV (KK Rk rfl) (KR rfl (Mn LC rfl rfl rfl aI (by simp)) ?_))))))))));rintro w5 ⟨aG,aj⟩;rw[show((b1.length:Int)+(take:Int))=(((b1++e).length:Nat):Int) by rw[List.length_append,nB];omega] at aG;replace aG:KP w5 p [.slice (some ⟨g2,0,none⟩) (c++[x]).length c2,I ((b1++e).length:Int)] 262:=aG
    have fZ:=dP.kp aj (fun g hg e=>by
                         have:g2=g:=by simpa[Value.ownBlock] using hg
                         omega)
    refine py (KF rfl (An rfl (An rfl (qV (M8 rfl rfl (by omega)) (KE rfl (py (KC ?_)))))));rw[show((k:Int)-(take:Int))=((k-take:Nat):Int) by omega];refine(ih (k-take,.slice (some ⟨g2,0,none⟩) (c++[x]).length c2,b1++e) w5 ⟨by dsimp only;omega,⟨aG,?_,eR⟩,?_,?_,qu⟩ (by dsimp only;omega)).qb
    ·rw[hY];have e1:(c++[y]).length=(c++[x]).length:=by simp
     rw[e1];exact fZ
    ·dsimp only;rw[bT,List.append_assoc]
     congr 1
     rw[←he,show n-(k-take)=(n-k)+take by omega,MW]
     congr 2
     rw[Nat.div_div_eq_div_mul,←Nat.pow_add,show k-take+take=k by omega]
    ·have zw:Kp (WN p (.slice (some ⟨g2,0,none⟩) (c++[x]).length c2)) w2 w5:=((hg.trans ag).kp.trans (av.KT (fun i e=> .inr (by rw[e];rfl)))).trans (aj.KT (fun i e=> .inl e));exact am.Kz zw (fun i hi=>(qu i hi).symm)
   case lZ=>
    refine KQ rfl (fun h0=>?_) (fun h0=>?_)
    ·rw[if_pos (by omega)] at hL;refine KF rfl (An rfl (An rfl (qV (KZ rfl) (qV (KK SW rfl) (qV (KJ LU rfl rfl ai rfl) (KL rfl rfl (Tb (parts:=[(0,.const (Value.int .u8 0))]) (cs:=[_]) (zs:=[Value.int .u8 0]) LU Sf rfl (by kernel_rfl) rfl rfl rfl (by decide)) ?_))))));rintro _ w2 ⟨b2,rfl,⟨bM,af,ak⟩,cH⟩;refine KL rfl rfl (pap LU Sf rfl (by decide) rfl rfl (dr.sl.ext af) cH.rd (by intro c hc;simp at hc;subst hc;rfl) (by rw[Lh];omega) (by rw[Lh];omega)) ?_;rintro bv3 w3 ⟨cI,ax,jO,-⟩;have ar:=ax.KD (af.KD ai) dr.ne;refine qV (KZ rfl) (qV (KK SW rfl) (KR rfl (Mn RJ rfl rfl (Rm cI) ar (by simp)) ?_));rintro w4 ⟨aI,av⟩;replace aI:KP w4 p [bv3,I (b1.length:Int)] 262:=aI;refine py ?_
     have eB:bv3.ownBlock≠some p:=fun e=>by
      rcases jO p e with e| e
      ·exact dr.ne e
      ·have:=af.size;omega
     refine(lY _ _ ⟨rfl,bv3,aI,?_,eB,?_,?_⟩).qb
     ·rw[←hL,List.length_append,List.map_append];exact cI.kp av (fun g hg e=>eB (e▸hg))
     ·exact aN.Kz ((af.kp.trans (ax.KT (fun k e=> .inr e))).trans (av.KT (fun k e=> .inl e))) (fun i hi=>(ie i hi).symm)
     ·intro i hi;rcases hi with e| e
      ·exact ie i (.inl e)
      ·rcases jO i e with e| e
       ·exact ie i (.inr e)
       ·have:=af.size;exact .inr (by omega)
    ·rw[if_neg (by omega)] at hL;refine It ?_;exact(lY _ _ ⟨rfl,bv1,ai,by rw[←hL];exact dr.sl,dr.ne,aN,ie⟩).qb
  ·have:k=0:=by omega
   subst this;refine KO rfl (LZ Tryz.func142 rfl (⟨_,rfl,rfl,_,⟨bv1,?_,fun _=>Iff.rfl⟩,aN,ie⟩));rw[bT,Nat.sub_zero,Nat.pow_zero,Nat.div_one] at dr;exact dr
theorem z2b (v n:Nat)(hn:n≤64)(hv:v<2^n)(w:World):Le Tryz.prog 141 [KV v,I (n:Int)] w fun u w'=>u= .bool true∧w'=w:=by
 refine KA (e:=[(0,_),(1,_)]) Tryz.func141 rfl Tryz.ntmps141 rfl rfl (qN rfl (KE rfl (qM rfl (An rfl (qV (OL rfl rfl) (An rfl (Ng (fun h1=>?_) (fun h1=>?_))))))))
 ·refine qS (qS (qS (qS (qV (LK rfl rfl) (KE rfl (py (KG Tryz.func141 rfl ?_)))))));exact⟨_,rfl,rfl,rfl⟩
 ·refine An rfl (An rfl (qV (Ps n (2^n) rfl rfl (by show n≤64;omega) rfl) ?_));rw[Nat.div_eq_of_lt hv];refine qV (Mc rfl rfl) (qV (Lk rfl rfl) (KE rfl (py (KG Tryz.func141 rfl ?_))));exact⟨_,rfl,by simp[resVal],rfl⟩
theorem Na (h:SG w p bs F)(v n:Nat)(hn:n≤64)(hv:v<2^n)(hl:bs.length+n≤134217728):
  Le Tryz.prog 103 [ptr p 0,KV v,I (n:Int)] w fun u w'=>u=I 0∧WrR p F w w' (bs++bitsN n v):=by
 obtain⟨bv,hM,hF⟩:=id h
 have hB:=hM.KD
 refine KA (e:=[(0,_),(1,_),(2,_)]) Tryz.func103 rfl Tryz.ntmps103 rfl rfl (qN rfl (KE rfl (py (run_seq (KB (qN rfl (An rfl (qV (LO Xr rfl rfl) (KE rfl (py (Kx rfl (qN rfl (An rfl ?_)))))))))))))
 refine qV (LW rfl rfl) (An rfl (Ng (fun h1=>?_) (fun h1=>?_)))
 ·omega
 ·refine An rfl (qV (LH rfl rfl) (qV (Lk rfl rfl) (An rfl (Ng (fun h2=>?_) (fun h2=>?_)))))
  ·omega
  ·refine An rfl (An rfl (L2 [.tmp 18,.tmp 19] zb2 rfl (z2b v n hn hv w) ?_));rintro _ w ⟨rfl,rfl⟩;refine qV ((by first|exact LP rfl|exact Nq rfl)) ?_;refine qV (Lk rfl rfl) (KE rfl (py (Kx rfl (qN rfl (An rfl (An rfl (qV (KZ rfl) (qV (KK Rk rfl) (qV (KJ U3 rfl rfl hB rfl) (qV (M8 rfl rfl (by omega)) (qV (LH rfl rfl) (KE rfl (py ?_)))))))))))));refine Lc.qb (e:=[(0,_),(1,_),(2,_),(6,_),(23,_)]) ?_;refine KQ rfl (fun h3=>?_) (fun h3=>?_)
   ·omega
   ·refine It (KC (qN rfl (An rfl (An rfl (An rfl (L2 [.tmp 31,.tmp 32,.tmp 33] zbT rfl (z4P h v n hn hv (by omega)) ?_))))));rintro _ w1 ⟨rfl,hR⟩;refine qM rfl (KE rfl (py (KG Tryz.func103 rfl ?_)));exact⟨_,rfl,rfl,hR⟩
theorem Rt (h:SG w p bs F):Le Tryz.prog 104 [ptr p 0] w fun u w'=>u= .tuple #[S (L7 bs),I 0]∧w'=w:=by
 obtain⟨bv,hM,hF⟩:=h
 have hB:=hM.KD
 have hS:=hM.sl
 refine KA (e:=[(0,_)]) Tryz.func104 rfl Tryz.ntmps104 rfl rfl (qN rfl (KE rfl (KE rfl (py (run_seq (qN rfl (An rfl (qV (LO Xr rfl rfl) (py (Kx rfl (It (qN rfl (An rfl ?_)))))))))))))
 refine qV (KZ rfl) (qV (KK SW rfl) (qV (KJ LU rfl rfl hB rfl) ?_))
 rcases hS.shape with⟨rfl,h0⟩|⟨g,cap,rfl,jd⟩
 ·have hn:L7 bs=[]:=List.eq_nil_of_length_eq_zero h0;rw[hn];refine qV (zca LU U5 U9 rfl) (KE rfl (KE rfl (py (KG Tryz.func104 rfl ?_))));exact⟨_,rfl,rfl,rfl⟩
 ·refine qV (z92 (l:=L7 bs) LU U5 U9 rfl hS) (KE rfl (KE rfl (py (KG Tryz.func104 rfl ?_))));exact⟨_,rfl,rfl,rfl⟩
theorem Q2 (h:SG w p bs F):Le Tryz.prog 107 [ptr p 0] w fun u w'=>u=I (bs.length:Int)∧w'=w:=by
 obtain⟨bv,hM,hF⟩:=h
 have hB:=hM.KD
 refine KA (e:=[(0,_)]) Tryz.func107 rfl Tryz.ntmps107 rfl rfl (qN rfl (KE rfl (py (run_seq (qN rfl (An rfl (qV (LO Xr rfl rfl) (py (Kx rfl (It (qN rfl (An rfl (qV (KZ rfl) ?_)))))))))))))
 refine qV (KK Rk rfl) (qV (KJ U3 rfl rfl hB rfl) (KE rfl (py (KG Tryz.func107 rfl ?_))))
 exact⟨_,rfl,rfl,rfl⟩
end
def Oz (w:World)(r:Nat)(s:Bytes)(a:Nat):Prop:=KP w r [S s,I (a:Int)] 293∧a≤8*s.length∧s.length≤1000000000
section
variable {w:World}{r:Nat}{s:Bytes}{a:Nat}
theorem Re (s:Bytes)(hs:s.length≤1000000000)(w:World):Le Tryz.prog 145 [S s] w fun v w'=>∃r,v=ptr r 0∧Oz w' r s 0∧Ext w w'∧w.heap.size≤r:=by
 refine KA (e:=[(0,_)]) Tryz.func145 rfl Tryz.ntmps145 rfl rfl (qN rfl (KE rfl (qM rfl (An rfl (qV (Nc (parts:=[(0,.tmp 3)]) (cs:=[_,_]) zc5 rfl z9q rfl rfl) (KL rfl rfl (Mz rfl rfl) ?_))))))
 rintro _ w1 ⟨r,rfl,hr,hx,hB⟩
 refine KE rfl (py (KG Tryz.func145 rfl ?_))
 exact⟨_,rfl,r,rfl,⟨hB,Nat.zero_le _,hs⟩,hx,by omega⟩
theorem OS (h:Oz w r s a):Le Tryz.prog 133 [ptr r 0] w fun v w'=>v=I (a:Int)∧w'=w:=by
 obtain⟨hB,h1,h2⟩:=h
 refine KA (e:=[(0,_)]) Tryz.func133 rfl Tryz.ntmps133 rfl rfl (qN rfl (KE rfl (py (run_seq (qN rfl (An rfl (qV (LO Oi rfl rfl) (py (Kx rfl (It (qN rfl (An rfl (qV (KZ rfl) ?_)))))))))))))
 refine qV (KK PC rfl) (qV (KJ U3 rfl rfl hB rfl) (KE rfl (py (KG Tryz.func133 rfl ?_))))
 exact⟨_,rfl,rfl,rfl⟩
theorem z2W (h:Oz w r s a):Le Tryz.prog 179 [ptr r 0] w fun v w'=>v=I ((8*s.length-a:Nat):Int)∧Ext w w':=by
 obtain⟨hB,h1,h2⟩:=h
 refine KA (e:=[(0,_)]) Tryz.func179 rfl Tryz.ntmps179 rfl rfl (qN rfl (KE rfl (py (run_seq (qN rfl (An rfl (qV (LO Oi rfl rfl) ?_)))))))
 have hg:=Ext.L4 w
 refine py (Kx rfl (It (run_seq (KN (fun w'=>Ext w w') (by kernel_rfl) rfl (KH 0 rfl (KM rfl) hg (KH 1 rfl (KZ rfl) hg (KH 2 rfl (KK Xl rfl) hg (qT 3 rfl (fun _ h=>KJ U9 rfl rfl (h.KD hB) rfl) hg (KH 4 rfl (QE U9 rfl) hg (KH 5 rfl (SD rfl rfl (by omega)) hg (KH 6 rfl (KM rfl) hg (KH 7 rfl (KZ rfl) hg (KH 8 rfl (KK PC rfl) hg ?_)))))))))))))
 refine qT 9 rfl (fun _ h=>KJ U3 rfl rfl (h.KD hB) rfl) hg (KH 10 rfl (M8 rfl rfl (by omega)) hg (KH 11 rfl (ML rfl) hg (qE (KG Tryz.func179 rfl (⟨_,rfl,?_,hg⟩)))))
 simp only[resVal]
 congr 1
 omega
theorem TG (h:Oz w r s a)(k:Nat)(hk:k≤8*s.length):Le Tryz.prog 173 [ptr r 0,I (k:Int)] w fun v w'=>v=I 0∧Oz w' r s k∧Kp (fun i=>i=r) w w':=by
 obtain⟨hB,h1,h2⟩:=h
 refine KA (e:=[(0,_),(1,_)]) Tryz.func173 rfl Tryz.ntmps173 rfl rfl (qN rfl (KE rfl (py (run_seq (KB (qN rfl (An rfl (qV (LO Oi rfl rfl) (KE rfl (py (Kx rfl (qN rfl (An rfl ?_)))))))))))))
 refine qV (LW rfl rfl) (An rfl (Ng (fun c1=>?_) (fun c1=>?_)))
 ·omega
 ·refine An rfl (An rfl (qV (KZ rfl) (qV (KK Xl rfl) (qV (KJ U9 rfl rfl hB rfl) (qV (QE U9 rfl) (qV (SD rfl rfl (by omega)) (qV (LH rfl rfl) (qV (Lk rfl rfl) (KE rfl (py (KQ rfl (fun c2=>?_) (fun c2=>?_))))))))))))
  ·omega
  ·refine It (KC (qN rfl (An rfl (An rfl (qV (KZ rfl) (qV (KK PC rfl) (KR rfl (Mn LC rfl rfl rfl hB (by simp)) ?_)))))));rintro w1 ⟨ai,aN⟩;refine qM rfl (KE rfl (py (KG Tryz.func173 rfl ?_)));exact⟨_,rfl,rfl,⟨ai,hk,h2⟩,aN⟩
theorem z0L {b2 b6 V n:Nat}(h:Oz w r s a)(h2:KP w b2 [ptr r 0] 240)(h6:KP w b6 [KV V] 41)(hn:1≤n)(qv:n≤8-a%8)(hl:a+n≤8*s.length)(hV:V*2^n+2^n≤18446744073709551616)(d1:b6≠r)(d2:b2≠r)(d3:b2≠b6):
  Le Tryz.prog 180 [I (n:Int),ptr b2 0,ptr b6 0] w fun u w'=>u= .tuple #[]∧Oz w' r s (a+n)∧KP w' b6 [KV (V*2^n+valB (((L0 s).drop a).take n))] 41∧KP w' b2 [ptr r 0] 240∧Kp (fun k=>k=b6∨k=r) w w':=by
 obtain⟨hB,ha,hs⟩:=h
 have jc:a&&&7=a%8:=Nat.and_two_pow_sub_one_eq_mod a 3
 obtain⟨c,hc⟩:∃c,s[a / 8]? =some c:=⟨_,List.getElem?_eq_getElem (by omega)⟩
 have hp:=ZE hc qv
 obtain⟨pc,kq⟩:∃pc,valB (((L0 s).drop a).take n)=pc:=⟨_,rfl⟩
 have dM:pc<2^n:=by
  rw[←kq];have h1:=Mk (((L0 s).drop a).take n);rw[List.length_take,List.length_drop,bitsT_length,Nat.min_eq_left (by omega)] at h1;exact h1
 rw[kq] at hp⊢
 have Jv:=c.toNat_lt
 obtain⟨rm,yg⟩:∃rm,8-a%8=rm:=⟨_,rfl⟩
 rw[yg] at hp qv
 have ik:c.toNat&&&(2^rm-1)=c.toNat%2^rm:=Nat.and_two_pow_sub_one_eq_mod _ _
 obtain⟨R,hR⟩:∃R,2^rm=R:=⟨_,rfl⟩
 have sY:1≤R∧R≤256:=by
  rw[←hR];exact⟨Nat.two_pow_pos _,by have:=Nat.pow_le_pow_right (show 0<2 by decide) (show rm≤8 by omega);simpa using this⟩
 rw[hR] at hp ik
 have lG:c.toNat%R≤c.toNat:=Nat.mod_le _ _
 have G3:s.getD (a / 8) 0=c:=by rw[List.getD_eq_getElem?_getD,hc];rfl
 refine KA (e:=[(0,_),(1,_),(2,_)]) Tryz.func180 rfl Tryz.ntmps180 rfl rfl (qN rfl (qV ((by first|exact KJ Oi rfl rfl hB rfl|exact KJ Oi rfl rfl h2 rfl)) ?_))
 refine qV (KZ rfl) (qV (KK PC rfl) (qV ((by first|exact KJ U3 rfl rfl hB rfl|exact KJ U3 rfl rfl h2 rfl)) ?_))
 refine qV (RS rfl rfl (by omega) (by omega)) ?_
 rw[jc]
 refine qV (M8 rfl rfl (by omega)) ?_
 rw[show(8-((a%8:Nat):Int))=((rm:Nat):Int) by omega]
 have hg:=Ext.L4 w
 refine KE rfl (py (run_seq (KN (fun w'=>Ext w w') (by kernel_rfl) rfl (qT 0 rfl (fun _ h=>(by first|exact KJ Oi rfl rfl (h.KD hB) rfl|exact KJ Oi rfl rfl (h.KD h2) rfl)) hg ?_))))
 refine KH 1 rfl (KZ rfl) hg (KH 2 rfl (KK Xl rfl) hg (qT 3 rfl (fun _ h=>(by first|exact KJ U9 rfl rfl (h.KD hB) rfl|exact KJ U9 rfl rfl (h.KD h2) rfl)) hg ?_))
 refine qT 4 rfl (fun _ h=>(by first|exact KJ Oi rfl rfl (h.KD hB) rfl|exact KJ Oi rfl rfl (h.KD h2) rfl)) hg ?_
 refine KH 5 rfl (KZ rfl) hg (KH 6 rfl (KK PC rfl) hg (qT 7 rfl (fun _ h=>(by first|exact KJ U3 rfl rfl (h.KD hB) rfl|exact KJ U3 rfl rfl (h.KD h2) rfl)) hg ?_))
 refine KH 8 rfl (Ra rfl rfl (by omega)) hg (KH 11 rfl (KM rfl) hg (KH 15 rfl (KM rfl) hg (KH 16 rfl (KM rfl) hg (KH 17 rfl (M8 rfl rfl (by omega)) hg ?_))))
 rw[show((a:Int) / 8)=((a / 8:Nat):Int) by omega]
 refine KH 9 rfl (z9K U9 rfl rfl (by omega)) hg (KH 10 rfl ((by first|exact z2t rfl U5 U3 (by decide)|exact Ln rfl U5 U3 (by omega))) hg ?_)
 rw[G3]
 refine KH 12 rfl (zd8 rm R rfl rfl (by omega) hR (by omega)) hg ?_
 rw[show(1*(R:Int))=((R:Nat):Int) by omega]
 refine KH 13 rfl (M8 rfl rfl (by omega)) hg ?_
 rw[show((R:Int)-1)=((R-1:Nat):Int) by omega]
 refine KH 14 rfl (RS rfl rfl (by omega) (by omega)) hg ?_
 rw[ik]
 rw[show((rm:Int)-(n:Int))=((rm-n:Nat):Int) by omega]
 refine KH 18 rfl (Ps (rm-n) (2^(rm-n)) rfl rfl (by show rm-n≤64;omega) rfl) hg ?_
 rw[←hp]
 refine KH 19 rfl (ML rfl) hg (qE (Lc.qb (e:=[(0,_),(1,_),(2,_),(5,_)]) ?_))
 refine qN rfl ?_
 have ai:=hg.KD hB
 have E9:=hg.KD h2
 have yh:=hg.KD h6
 obtain⟨N,hN⟩:∃N,2^n=N:=⟨_,rfl⟩
 rw[hN] at hV dM
 have Jw:1≤N:=by rw[←hN];exact Nat.two_pow_pos _
 obtain⟨M,hM⟩:∃M,V*N=M:=⟨_,rfl⟩
 rw[hM] at hV
 have nC:M |||pc=M+pc:=by
  have:=Nat.two_pow_add_eq_or_of_lt (i:=n) (b:=pc) (by rw[hN];exact dM) V;rw[hN,Nat.mul_comm N V,hM] at this;exact this.symm
 rw[hN,hM]
 have qw:n≤64:=by omega
 refine qV ((by first|exact KJ M3 rfl rfl ai rfl|exact KJ M3 rfl rfl E9 rfl|exact KJ M3 rfl rfl yh rfl)) ?_
 refine An rfl (qV (Mq n N rfl rfl qw hN) ?_)
 rw[hM,Nat.mod_eq_of_lt (show M<18446744073709551616 by omega)]
 refine An rfl (qV ((by first|exact Lw rfl U3 M3 (by omega)|exact MI rfl U3 M3)) ?_)
 refine qV (Vu rfl rfl (by omega) (by omega)) ?_
 rw[nC]
 refine KR rfl (Mn Nf rfl rfl rfl yh (by simp)) ?_
 rintro w2 ⟨zx,am⟩
 have ak:=am.KD ai (Ne.symm d1)
 have zC:=am.KD E9 d3
 refine py (KF rfl (qV ((by first|exact KJ Oi rfl rfl ak rfl|exact KJ Oi rfl rfl zC rfl|exact KJ Oi rfl rfl zx rfl)) ?_))
 refine qV (KZ rfl) (qV (KK PC rfl) (qV ((by first|exact KJ U3 rfl rfl ak rfl|exact KJ U3 rfl rfl zC rfl|exact KJ U3 rfl rfl zx rfl)) ?_))
 refine An rfl (Lz rfl rfl (qV (KZ rfl) (qV (KK PC rfl) (KR rfl (Mn LC rfl rfl rfl ak (by simp)) ?_))))
 rintro w3 ⟨ar,ax⟩
 rw[show((a:Int)+(n:Int))=((a+n:Nat):Int) by omega] at ar
 refine py (LZ Tryz.func180 rfl ?_)
 exact⟨_,rfl,rfl,⟨ar,hl,hs⟩,ax.KD zx d1,ax.KD zC d2,(hg.kp.trans (am.KT (fun k e=> .inl e))).trans (ax.KT (fun k e=> .inr e))⟩
theorem Q0 (h:Oz w r s a)(n:Nat)(hn:n≤64):
  Le Tryz.prog 147 [ptr r 0,I (n:Int)] w fun v w'=>(a+n≤8*s.length∧v= .tuple #[KV (valB (((L0 s).drop a).take n)),I 0]∧Oz w' r s (a+n)∧Kp (fun k=>k=r) w w')∨(8*s.length<a+n∧v= .tuple #[KV 0,I 4]∧Ext w w'):=by
 have gz:=h.1.lt
 obtain⟨-,ha,hs⟩:=id h
 refine KA (e:=[(0,_),(1,_)]) Tryz.func147 rfl Tryz.ntmps147 rfl rfl (qN rfl (KL rfl rfl (Mz rfl (cs:=[ptr r 0]) rfl) ?_))
 rintro _ w1 ⟨b2,rfl,bM,ad,ak⟩
 have h1:Oz w1 r s a:=⟨ad.KD h.1,h.2⟩
 refine KE rfl (KE rfl (py (run_seq (KB (qN rfl (qV (KJ Oi rfl rfl ak rfl) (qV (LO Oi rfl rfl) (KE rfl (py (Kx rfl (qN rfl (An rfl (qV (LW rfl rfl) ?_)))))))))))))
 refine An rfl (Ng (fun c1=>?_) (fun c1=>?_))
 ·omega
 ·refine An rfl (qV (LH rfl rfl) (qV (Lk rfl rfl) (KE rfl (py (KQ rfl (fun c2=>?_) (fun c2=>?_))))))
  ·omega
  ·refine qN rfl (An rfl (qV (KJ Oi rfl rfl ak rfl) (L2 [.tmp 21] zbQ rfl (z2W h1) ?_)));rintro _ w2 ⟨rfl,af⟩;refine qV (LH rfl rfl) (KE rfl (py (KQ rfl (fun c3=>?_) (fun c3=>?_))))
   ·refine qN rfl (KE rfl (KE rfl (py (KG Tryz.func147 rfl ?_))));exact⟨_,rfl,.inr ⟨by omega,rfl,ad.trans af⟩⟩
   ·refine It (KC (qN rfl (KL rfl rfl (MN (cs:=[_]) Nf rfl) ?_)));rintro _ w3 ⟨b6,rfl,nD,ah,aW⟩;replace aW:KP w3 b6 [KV 0] 41:=aW;have aX:=af.trans ah;have c6:=ad.trans aX;have lV:=ad.size;have nE:=af.size;have il:=ak.lt;have cK:a+n≤8*s.length:=by omega
    refine qM rfl (qV (Zw (first:=[]) (caps:=[.tmp 2,.tmp 6]) rfl rfl) (KE rfl (py (run_seq (KB (MQ (α:=Nat) (n) (fun k=>[(1,I (k:Int)),(2,ptr b2 0),(6,ptr b6 0),(7,.func (.func 180) #[] #[ptr b2 0,ptr b6 0])]) (fun k w'=>k≤n∧Oz w' r s (a+(n-k))∧KP w' b6 [KV (valB (((L0 s).drop a).take (n-k)))] 41∧KP w' b2 [ptr r 0] 240∧Kp (fun i=>i=r) w w') (fun k=>k) ?hI ?hround))))))
    case hI=>exact⟨Nat.le_refl _,⟨by rw[Nat.sub_self];exact c6.KD h.1,by omega,hs⟩,by rw[Nat.sub_self];exact aW,aX.KD ak,c6.kp⟩
    case hround=>
     rintro k w4 ⟨hk,g7,qx,zD,av⟩ ih;have zE:=g7.1
     try dsimp only
     refine run_seq (qN rfl (An rfl (qV (LH rfl rfl) (py (KQ rfl (fun aQ=>?_) (fun aQ=>?_))))))
     ·obtain⟨p,hp⟩:∃p,a+(n-k)=p:=⟨_,rfl⟩;rw[hp] at zE g7;have jc:p&&&7=p%8:=Nat.and_two_pow_sub_one_eq_mod p 3;obtain⟨take,lX⟩:∃take,min k (8-p%8)=take:=⟨_,rfl⟩;have qt:1≤take∧take≤k∧take≤8-p%8:=by omega
      refine It (KB (qN rfl (An rfl (qV ((by first|exact KJ Oi rfl rfl zD rfl|exact KJ Oi rfl rfl zE rfl)) ?_))));refine qV (KZ rfl) (qV (KK PC rfl) (qV ((by first|exact KJ U3 rfl rfl zD rfl|exact KJ U3 rfl rfl zE rfl)) ?_));refine qV (RS rfl rfl (by omega) (by omega)) ?_;rw[jc];refine qV (M8 rfl rfl (by omega)) (qV (ymi rfl rfl) ?_);rw[show min (k:Int) (8-((p%8:Nat):Int))=((take:Nat):Int) by omega];obtain⟨V,hV⟩:∃V,valB (((L0 s).drop a).take (n-k))=V:=⟨_,rfl⟩;rw[hV] at qx
      have Ea:V*2^take+2^take≤18446744073709551616:=by
       have h1:=Mk (((L0 s).drop a).take (n-k));rw[hV,List.length_take,List.length_drop,bitsT_length,Nat.min_eq_left (by omega)] at h1;have h2:(V+1)*2^take≤2^(n-k)*2^take:=Nat.mul_le_mul_right _ h1;rw[←Nat.pow_add,Nat.add_mul,Nat.one_mul] at h2;have h3:=Nat.pow_le_pow_right (show 0<2 by decide) (show n-k+take≤64 by omega);have h4:(2:Nat)^64=18446744073709551616:=by decide
       omega
      refine KE rfl (qM rfl (An rfl (An rfl (Mb rfl rfl (N6 (args:=[.tmp 36]) zaL rfl rfl) (z0L g7 zD qx qt.1 qt.2.2 (by omega) Ea (by omega) (by omega) (by omega)) ?_))));rintro _ w5 ⟨rfl,qy,G4,G5,aj⟩;refine py (KF rfl (An rfl (An rfl (qV (M8 rfl rfl (by omega)) (KE rfl (py (KC ?_)))))));rw[show((k:Int)-(take:Int))=((k-take:Nat):Int) by omega];refine(ih (k-take) w5 ⟨by omega,?_,?_,G5,?_⟩ (by omega)).qb
      ·rw[show a+(n-(k-take))=p+take by omega];exact qy
      ·rw[show n-(k-take)=(n-k)+take by omega,List.take_add,MR,hV,List.drop_drop,hp];have hl:(((L0 s).drop p).take take).length=take:=by rw[List.length_take,List.length_drop,bitsT_length];omega
       rw[hl];exact G4
      ·exact av.Kz aj (fun i hi=>hi.elim (fun e=> .inl (by omega)) .inr)
     ·have:k=0:=by omega
      subst this;rw[Nat.sub_zero] at g7 qx;refine KO rfl (qN rfl (qV (KJ M3 rfl rfl qx rfl) (KE rfl (KE rfl (py (KG Tryz.func147 rfl ?_))))));exact⟨_,rfl,.inl ⟨cK,rfl,g7,av⟩⟩
end
def Lr (v:Nat):Nat:=if v=0 then 0 else Nat.log2 v+1
theorem Ry {v:Nat}:v<2^Lr v:=by
 unfold Lr
 split
 ·subst_vars;simp
 ·exact Nat.lt_log2_self
theorem UF {v:Nat}(h:v≠0):2^(Lr v-1)≤v:=by
 unfold Lr
 rw[if_neg h,Nat.add_sub_cancel]
 exact Nat.log2_self_le h
theorem z1h {v n:Nat}(h1:2^n≤v)(h2:v<2^(n+1)):Lr v=n+1:=by
 have hp:=Nat.two_pow_pos n
 have h0:v≠0:=by omega
 unfold Lr
 rw[if_neg h0]
 have:=(Nat.log2_eq_iff h0).2 ⟨h1,h2⟩
 omega
theorem Mj {v n:Nat}(h:v<2^n):Lr v≤n:=by
 by_cases h0:v=0
 ·subst h0;simp[Lr]
 ·have h1:=UF h0;have h2:2^(Lr v-1)<2^n:=by omega
  have h3:=(Nat.pow_lt_pow_iff_right (by decide:1<2)).1 h2;have:Lr v≠0:=by unfold Lr;rw[if_neg h0];omega
  omega
def MB (v K:Nat):Nat×Nat:=
 let s:=Lr (K-1)
 let m:=2^s-K
 if v<m then(v,s-1) else(v+m,s)
def M1 (v K:Nat):List Bool:=bitsN (MB v K).2 (MB v K).1
theorem PH {K:Nat}(hK:1≤K):K≤2^Lr (K-1)∧(1<K→1≤Lr (K-1)∧2^(Lr (K-1)-1)+1≤K):=by
 have h1:=Ry (v:=K-1)
 refine⟨by omega,fun h=>?_⟩
 have h2:=UF (v:=K-1) (by omega)
 refine⟨?_,by omega⟩
 unfold Lr
 rw[if_neg (by omega)];omega
theorem z3s {v K:Nat}(h:v<K):(MB v K).1<2^(MB v K).2:=by
 obtain⟨h1,h2⟩:=PH (K:=K) (by omega)
 unfold MB
 dsimp only
 split
 ·rename_i hm
  by_cases hK:K=1
  ·subst hK;simp[Lr] at hm
  ·obtain⟨h3,h4⟩:=h2 (by omega);have:2^Lr (K-1)=2*2^(Lr (K-1)-1):=by rw[←Nat.pow_succ',show(Lr (K-1)-1).succ=Lr (K-1) by omega]
   dsimp only;omega
 ·dsimp only;omega
theorem z0e {v K:Nat}(h:v<K)(hK:1<K)(rest:List Bool):
  let s:=Lr (K-1)
  let m:=2^s-K
  1≤s∧s-1≤(M1 v K).length∧
  ((valB ((M1 v K).take (s-1))<m∧(M1 v K).length=s-1∧valB ((M1 v K).take (s-1))=v)∨
   (m≤valB ((M1 v K).take (s-1))∧(M1 v K).length=s∧2*valB ((M1 v K).take (s-1))+valB ((M1 v K).drop (s-1))=v+m)):=by
 obtain⟨h1,h2⟩:=PH (K:=K) (by omega)
 obtain⟨h3,h4⟩:=h2 hK
 have h5:2^Lr (K-1)=2*2^(Lr (K-1)-1):=by rw[←Nat.pow_succ',show(Lr (K-1)-1).succ=Lr (K-1) by omega]
 dsimp only
 unfold M1 MB
 dsimp only
 refine⟨h3,?_⟩
 split
 ·rename_i hm
  dsimp only;rw[bitsN_length,List.take_of_length_le (by simp),Ly,Nat.mod_eq_of_lt (by omega)];exact⟨Nat.le_refl _,.inl ⟨hm,rfl,rfl⟩⟩
 ·rename_i hm
  dsimp only;rw[bitsN_length]
  have e:bitsN (Lr (K-1)) (v+(2^Lr (K-1)-K))=bitsN (Lr (K-1)-1) ((v+(2^Lr (K-1)-K)) / 2^1)++bitsN 1 (v+(2^Lr (K-1)-K)):=by
   rw[←MW,show Lr (K-1)-1+1=Lr (K-1) by omega]
  rw[e,List.take_left' (by simp),List.drop_left' (by simp),Ly,Ly,Nat.mod_eq_of_lt (by omega)];exact⟨by omega,.inr ⟨by omega,rfl,by omega⟩⟩
inductive Cd where
 |unary
 |gamma
 |zeta (k:Nat)
def Cd.zeros:Cd→Nat→Nat
 | .unary,v=>v
 | .gamma,v=>Nat.log2 (v+1)
 | .zeta k,v=>Nat.log2 (v+1) / k
def Cd.rest:Cd→Nat→List Bool
 | .unary,_=>[]
 | .gamma,v=>bitsN (Nat.log2 (v+1)) (v+1-2^Nat.log2 (v+1))
 | .zeta k,v=>let h:=Nat.log2 (v+1) / k;M1 (v+1-2^(h*k)) (2^(h*k)*2^k-2^(h*k))
def Cd.enc (c:Cd)(v:Nat):List Bool:=List.replicate (c.zeros v) false++true::c.rest v
theorem Ql {v:Nat}(h:v≤281474976710654):2^Nat.log2 (v+1)≤v+1∧v+1<2^(Nat.log2 (v+1)+1)∧Nat.log2 (v+1)≤47:=by
 have h1:=Nat.log2_self_le (n:=v+1) (by omega)
 have h2:=Nat.lt_log2_self (n:=v+1)
 refine⟨h1,h2,?_⟩
 have h3:2^Nat.log2 (v+1)<2^48:=by
  have:(2:Nat)^48=281474976710656:=by decide
  omega
 have:=(Nat.pow_lt_pow_iff_right (by decide:1<2)).1 h3
 omega
theorem S7 {k v:Nat}(hk:1≤k):let h:=Nat.log2 (v+1) / k;2^(h*k)≤v+1∧v+1-2^(h*k)<2^(h*k)*2^k-2^(h*k)∧1≤2^(h*k)*2^k-2^(h*k):=by
 dsimp only
 have h1:=Nat.log2_self_le (n:=v+1) (by omega)
 have h2:=Nat.lt_log2_self (n:=v+1)
 have h3:Nat.log2 (v+1) / k*k≤Nat.log2 (v+1):=Nat.div_mul_le_self _ _
 have h4:Nat.log2 (v+1)+1≤Nat.log2 (v+1) / k*k+k:=by
  have:=Nat.div_add_mod (Nat.log2 (v+1)) k;have:=Nat.mod_lt (Nat.log2 (v+1)) (show 0<k by omega);have e:=Nat.mul_comm k (Nat.log2 (v+1) / k);omega
 have h5:2^(Nat.log2 (v+1) / k*k)≤2^Nat.log2 (v+1):=Nat.pow_le_pow_right (by decide) h3
 have h6:2^(Nat.log2 (v+1)+1)≤2^(Nat.log2 (v+1) / k*k+k):=Nat.pow_le_pow_right (by decide) h4
 rw[Nat.pow_add 2 (Nat.log2 (v+1) / k*k) k] at h6
 have h7:2≤2^k:=by
  have:=Nat.pow_le_pow_right (show 0<2 by decide) hk
  simpa using this
 have h8:2^(Nat.log2 (v+1) / k*k)*2≤2^(Nat.log2 (v+1) / k*k)*2^k:=Nat.mul_le_mul_left _ h7
 have h9:=Nat.two_pow_pos (Nat.log2 (v+1) / k*k)
 omega
theorem RV {x k:Nat}(h:2^k≤x):Lr x=Lr (x / 2^k)+k:=by
 have hk:=Nat.two_pow_pos k
 have hy:x / 2^k≠0:=by have:=Nat.div_pos h hk;omega
 have h1:=UF hy
 have h2:=Ry (v:=x / 2^k)
 have h0:Lr (x / 2^k)≠0:=by unfold Lr;rw[if_neg hy];omega
 obtain⟨n,hn⟩:∃n,Lr (x / 2^k)=n+1:=⟨Lr (x / 2^k)-1,by omega⟩
 rw[hn] at h1 h2⊢
 rw[Nat.add_sub_cancel] at h1
 have h3:2^(n+k)≤x:=by
  rw[Nat.pow_add];exact Nat.le_trans (Nat.mul_le_mul_right _ h1) (Nat.div_mul_le_self _ _)
 have h4:x<2^(n+k+1):=by
  rw[show n+k+1=(n+1)+k by omega,Nat.pow_add];exact(Nat.div_lt_iff_lt_mul hk).1 h2
 rw[z1h h3 h4];omega
def z8l:Bytes:=[0,1,2,2,3,3,3,3,4,4,4,4,4,4,4,4,5,5,5,5,5,5,5,5,5,5,5,5,5,5,5,5,6,6,6,6,6,6,6,6,6,6,6,6,6,6,6,6,6,6,6,6,6,6,6,6,6,6,6,6,6,6,6,6,7,7,7,7,7,7,7,7,7,7,7,7,7,7,7,7,7,7,7,7,7,7,7,7,7,7,7,7,7,7,7,7,7,7,7,7,7,7,7,7,7,7,7,7,7,7,7,7,7,7,7,7,7,7,7,7,7,7,7,7,7,7,7,7,8,8,8,8,8,8,8,8,8,8,8,8,8,8,8,8,8,8,8,8,8,8,8,8,8,8,8,8,8,8,8,8,8,8,8,8,8,8,8,8,8,8,8,8,8,8,8,8,8,8,8,8,8,8,8,8,8,8,8,8,8,8,8,8,8,8,8,8,8,8,8,8,8,8,8,8,8,8,8,8,8,8,8,8,8,8,8,8,8,8,8,8,8,8,8,8,8,8,8,8,8,8,8,8,8,8,8,8,8,8,8,8,8,8,8,8,8,8,8,8,8,8,8,8,8,8,8,8]
theorem z3L:z8l.length=256:=by decide+kernel
theorem zcl:∀x:Fin 256,(z8l.getD x.val 0).toNat=Lr x.val:=by decide+kernel
section
variable {w:World}
theorem P3 (x:Nat)(hx:x<18446744073709551616)(w:World):Le Tryz.prog 143 [KV x] w fun v w'=>v=I (Lr x:Int)∧w'=w:=by
 refine KA (e:=[(0,_)]) Tryz.func143 rfl Tryz.ntmps143 rfl rfl (qN rfl (KE rfl (py (run_seq (qN rfl (An rfl (qV (OL rfl rfl) (py (Lp (fun e' w'=>w=w'∧∃x1 n1:Nat,e'=[(0,KV x1),(2,I (n1:Int))]∧Lr x=Lr x1+n1∧x1<4294967296∧n1≤32) ?cD (fun cD=>?cQ))))))))))
 case cD=>
  rintro e' w' ⟨rfl,x1,n1,rfl,h1,h2,h3⟩;refine run_seq (qN rfl (An rfl (qV (OL rfl rfl) (py (Lp (fun e' w'=>w=w'∧∃x2 n2:Nat,e'=[(0,KV x2),(2,I (n2:Int))]∧Lr x=Lr x2+n2∧x2<65536∧n2≤48) ?ep (fun ep=>?fh))))))
  case ep=>
   rintro e' w' ⟨rfl,x2,n2,rfl,h4,h5,h6⟩;refine run_seq (qN rfl (An rfl (qV (OL rfl rfl) (py (Lp (fun e' w'=>w=w'∧∃x3 n3:Nat,e'=[(0,KV x3),(2,I (n3:Int))]∧Lr x=Lr x3+n3∧x3<256∧n3≤56) ?aq (fun aq=>?dD))))))
   case aq=>
    rintro e' w' ⟨rfl,x3,n3,rfl,h7,h8,h9⟩;have fg:=zcl ⟨x3,h8⟩;dsimp only at fg;have m4:Lr x3≤8:=Mj (by omega);refine qN rfl (An rfl (An rfl (qV (z6r rfl M3 U5) ?_)));rw[Nat.mod_eq_of_lt h8];refine qV (z9K (l:=z8l) U9 rfl rfl (by rw[z3L];exact h8)) ?_;rw[fg];refine qV ((by first|exact z2t rfl U5 U3 (by decide)|exact Ln rfl U5 U3 (by omega))) ?_;refine Lz rfl rfl (KE rfl (py (KG Tryz.func143 rfl ?_)));exact⟨_,rfl,by simp only[resVal];congr 1;omega,rfl⟩
   case dD=>
    refine KQ rfl (fun hc=>?_) (fun hc=>?_)
    ·refine qN rfl (An rfl (qV (Ps 8 256 rfl rfl (by decide) rfl) (KE rfl (py (KF rfl (An rfl (Lz rfl rfl (KE rfl (py ((aq _ _ ⟨rfl,x2 / 256,n2+8,rfl,?_,?_,?_⟩).qb))))))))))
     ·have e1:=RV (x:=x2) (k:=8) (by omega);rw[show x2 / 2^8=x2 / 256 from rfl] at e1;omega
     ·omega
     ·omega
    ·refine It ?_;exact(aq _ _ ⟨rfl,x2,n2,rfl,h4,by omega,by omega⟩).qb
  case fh=>
   refine KQ rfl (fun hc=>?_) (fun hc=>?_)
   ·refine qN rfl (An rfl (qV (Ps 16 65536 rfl rfl (by decide) rfl) (KE rfl (py (KF rfl (An rfl (Lz rfl rfl (KE rfl (py ((ep _ _ ⟨rfl,x1 / 65536,n1+16,rfl,?_,?_,?_⟩).qb))))))))))
    ·have e1:=RV (x:=x1) (k:=16) (by omega);rw[show x1 / 2^16=x1 / 65536 from rfl] at e1;omega
    ·omega
    ·omega
   ·refine It ?_;exact(ep _ _ ⟨rfl,x1,n1,rfl,h1,by omega,by omega⟩).qb
 case cQ=>
  refine KQ rfl (fun hc=>?_) (fun hc=>?_)
  ·refine qN rfl (An rfl (qV (Ps 32 4294967296 rfl rfl (by decide) rfl) (KE rfl (py (KF rfl (KE rfl (py ((cD _ _ ⟨rfl,x / 4294967296,32,rfl,?_,?_,?_⟩).qb))))))))
   ·exact RV (x:=x) (k:=32) (by omega)
   ·omega
   ·omega
  ·refine It ?_;exact(cD _ _ ⟨rfl,x,0,rfl,by omega,by omega,by omega⟩).qb
/-! ### Codes -/
def Nu:Cd→List Value
 | .unary=>[.int .u8 0,KV 0]
 | .gamma=>[.int .u8 1,KV 0]
 | .zeta k=>[.int .u8 3,KV k]
abbrev XJ (c:Cd):Value:= .agg (Nu c).toArray
def Cd.LS:Cd→Prop
 | .zeta k=>1≤k∧k≤16
 |_=>True
def Cd.most:Cd→Nat
 | .unary=>65535
 |_=>281474976710654
def Cd.p0:Cd→Nat→Nat×Nat
 | .unary,_=>(0,0)
 | .gamma,v=>(v+1-2^Nat.log2 (v+1),Nat.log2 (v+1))
 | .zeta k,v=>let h:=Nat.log2 (v+1) / k;MB (v+1-2^(h*k)) (2^(h*k)*2^k-2^(h*k))
theorem P9 (c:Cd)(hc:c.LS)(w:World):Le Tryz.prog 207 [XJ c] w fun v w'=>v=I 0∧Ext w w':=by
 cases c with
 | unary =>
   refine KA (e:=[(0,_)]) Tryz.func207 rfl Tryz.ntmps207 rfl rfl (qN rfl (KL rfl rfl (Mz rfl (cs:=[.int .u8 0,KV 0]) rfl) ?_));rintro _ w1 ⟨b1,rfl,bT,ad,ai⟩;refine KE rfl (qM rfl (KE rfl (py (run_seq (qN rfl (qV (KK N2 rfl) (qV (KJ U5 rfl rfl ai rfl) (py (KB (run_seq (qN rfl (qV (Mc rfl rfl) (MC ?_)))))))))))));refine KE rfl (py (KS rfl (It (KS rfl (KF rfl (qV (KK Rp rfl) (qV (KJ M3 rfl rfl ai rfl) (qV (Mc rfl rfl) (MC (KE rfl (py (KC (run_seq ?_)))))))))))));refine qN rfl (An rfl (qV ((by first|exact LP rfl|exact Nq rfl)) ?_));refine py (Kx rfl (It (qN rfl (KE rfl (py (KG Tryz.func207 rfl ?_))))))
   exact⟨_,rfl,rfl,ad⟩
 | gamma =>
   refine KA (e:=[(0,_)]) Tryz.func207 rfl Tryz.ntmps207 rfl rfl (qN rfl (KL rfl rfl (Mz rfl (cs:=[.int .u8 1,KV 0]) rfl) ?_));rintro _ w1 ⟨b1,rfl,bT,ad,ai⟩;refine KE rfl (qM rfl (KE rfl (py (run_seq (qN rfl (qV (KK N2 rfl) (qV (KJ U5 rfl rfl ai rfl) (py (KB (run_seq (qN rfl (qV (Mc rfl rfl) (Lq ?_)))))))))))));refine KE rfl (py (Kx rfl (qN rfl (qV (Mc rfl rfl) (MC (KE rfl (py (KS rfl (It (KS rfl (KF rfl (qV (KK Rp rfl) (qV (KJ M3 rfl rfl ai rfl) ?_)))))))))))));refine qV (Mc rfl rfl) (MC (KE rfl (py (KC (run_seq (qN rfl (An rfl (qV ((by first|exact LP rfl|exact Nq rfl)) ?_))))))));refine py (Kx rfl (It (qN rfl (KE rfl (py (KG Tryz.func207 rfl ?_))))))
   exact⟨_,rfl,rfl,ad⟩
 | zeta k =>
   obtain⟨aN,am⟩:1≤k∧k≤16:=hc;refine KA (e:=[(0,_)]) Tryz.func207 rfl Tryz.ntmps207 rfl rfl (qN rfl (KL rfl rfl (Mz rfl (cs:=[.int .u8 3,KV k]) rfl) ?_));rintro _ w1 ⟨b1,rfl,bT,ad,ai⟩;refine KE rfl (qM rfl (KE rfl (py (run_seq (qN rfl (qV (KK N2 rfl) (qV (KJ U5 rfl rfl ai rfl) (py (KB (run_seq (qN rfl (qV (Mc rfl rfl) (Lq ?_)))))))))))));refine KE rfl (py (Kx rfl (qN rfl (qV (Mc rfl rfl) (Lq (KE rfl (py (Kx rfl (KF rfl (qV (Mc rfl rfl) (Lq (KE rfl (py ?_)))))))))))));refine Kx rfl (qN rfl (qV (Mc rfl rfl) (MC (KE rfl (py (KS rfl (KF rfl (qV (KK Rp rfl) (qV (KJ M3 rfl rfl ai rfl) (qV (OL rfl rfl) (MC (An rfl (qV (KK Rp rfl) ?_)))))))))))));refine qV (KJ M3 rfl rfl ai rfl) (qV (Qh rfl rfl) (MC (qV (LK rfl rfl) (KE rfl (py (KC (run_seq (qN rfl (An rfl (qV ((by first|exact LP rfl|exact Nq rfl)) ?_))))))))));refine py (Kx rfl (It (qN rfl (KE rfl (py (KG Tryz.func207 rfl ?_))))));exact⟨_,rfl,rfl,ad⟩
theorem WA (c:Cd)(hc:c.LS)(w:World):Le Tryz.prog 210 [XJ c] w fun v w'=>v=KV c.most∧Ext w w':=by
 cases c with
 | unary =>
   refine KA (e:=[(0,_)]) Tryz.func210 rfl Tryz.ntmps210 rfl rfl (qN rfl (KL rfl rfl (Mz rfl (cs:=[.int .u8 0,KV 0]) rfl) ?_));rintro _ w1 ⟨b1,rfl,bT,ad,ai⟩;refine KE rfl (py (run_seq (KB (qN rfl (qV (La (news:=[.int .u8 0,KV 0]) Nb rfl Ma rfl (ai.cells (n:=2) rfl) rfl) (L2 [.tmp 4] Zt rfl (P9 (.unary) hc w1) ?_))))));rintro _ w2 ⟨rfl,af⟩;have ak:=af.KD ai;refine qV (LQ rfl rfl) (Lq (KE rfl (py (Kx rfl (qN rfl (qV (KK N2 rfl) (qV (KJ U5 rfl rfl ak rfl) (qV (Mc rfl rfl) (MC (KE rfl (py (KS rfl (qN rfl ?_)))))))))))));refine KE rfl (py (KG Tryz.func210 rfl ?_))
   exact⟨_,rfl,rfl,ad.trans af⟩
 | gamma =>
   refine KA (e:=[(0,_)]) Tryz.func210 rfl Tryz.ntmps210 rfl rfl (qN rfl (KL rfl rfl (Mz rfl (cs:=[.int .u8 1,KV 0]) rfl) ?_));rintro _ w1 ⟨b1,rfl,bT,ad,ai⟩;refine KE rfl (py (run_seq (KB (qN rfl (qV (La (news:=[.int .u8 1,KV 0]) Nb rfl Ma rfl (ai.cells (n:=2) rfl) rfl) (L2 [.tmp 4] Zt rfl (P9 (.gamma) hc w1) ?_))))));rintro _ w2 ⟨rfl,af⟩;have ak:=af.KD ai;refine qV (LQ rfl rfl) (Lq (KE rfl (py (Kx rfl (qN rfl (qV (KK N2 rfl) (qV (KJ U5 rfl rfl ak rfl) (qV (Mc rfl rfl) (Lq (KE rfl (py (Kx rfl (qN rfl ?_)))))))))))));refine qV (KK N2 rfl) (qV (KJ U5 rfl rfl ak rfl) (qV (Mc rfl rfl) (Lq (KE rfl (py (Kx rfl (It (KC (qN rfl (KE rfl (py (KG Tryz.func210 rfl ?_))))))))))))
   exact⟨_,rfl,rfl,ad.trans af⟩
 | zeta k =>
   refine KA (e:=[(0,_)]) Tryz.func210 rfl Tryz.ntmps210 rfl rfl (qN rfl (KL rfl rfl (Mz rfl (cs:=[.int .u8 3,KV k]) rfl) ?_));rintro _ w1 ⟨b1,rfl,bT,ad,ai⟩;refine KE rfl (py (run_seq (KB (qN rfl (qV (La (news:=[.int .u8 3,KV k]) Nb rfl Ma rfl (ai.cells (n:=2) rfl) rfl) (L2 [.tmp 4] Zt rfl (P9 (.zeta k) hc w1) ?_))))));rintro _ w2 ⟨rfl,af⟩;have ak:=af.KD ai;refine qV (LQ rfl rfl) (Lq (KE rfl (py (Kx rfl (qN rfl (qV (KK N2 rfl) (qV (KJ U5 rfl rfl ak rfl) (qV (Mc rfl rfl) (Lq (KE rfl (py (Kx rfl (qN rfl ?_)))))))))))));refine qV (KK N2 rfl) (qV (KJ U5 rfl rfl ak rfl) (qV (Mc rfl rfl) (Lq (KE rfl (py (Kx rfl (It (KC (qN rfl (KE rfl (py (KG Tryz.func210 rfl ?_))))))))))));exact⟨_,rfl,rfl,ad.trans af⟩
theorem z3R (c:Cd)(v:Nat)(hc:c.LS)(hv:v≤c.most)(w:World):Le Tryz.prog 200 [XJ c,KV v] w fun u w'=>u= .bool true∧Ext w w':=by
 obtain⟨x,y,cZ⟩:∃x y,Nu c=[x,y]:=by cases c<;>exact⟨_,_,rfl⟩
 refine KA (e:=[(0,_),(1,_)]) Tryz.func200 rfl Tryz.ntmps200 rfl rfl (qN rfl (KL rfl rfl (Mz rfl (cs:=Nu c) rfl) ?_))
 rintro _ w1 ⟨b1,rfl,bT,ad,ai⟩
 refine KE rfl (qM rfl (qV (La (news:=Nu c) Nb rfl Ma rfl (ai.cells (n:=2) (by rw[cZ];rfl)) (by rw[cZ];rfl)) ?_))
 refine L2 [.tmp 5] Zt rfl (P9 c hc w1) ?_
 rintro _ w2 ⟨rfl,af⟩
 have ak:=af.KD ai
 refine qV (Mc rfl rfl) (MC (An rfl (An rfl (qV (La (news:=Nu c) Nb rfl Ma rfl (ak.cells (n:=2) (by rw[cZ];rfl)) (by rw[cZ];rfl)) ?_))))
 refine L2 [.tmp 10] z7w rfl (WA c hc w2) ?_
 rintro _ w3 ⟨rfl,ah⟩
 refine qV (Qh rfl rfl) (MC (qV (LK rfl rfl) (KE rfl (py (KG Tryz.func200 rfl ?_)))))
 exact⟨_,rfl,rfl,(ad.trans af).trans ah⟩
end
section
theorem ZW (v K:Nat)(hK:1≤K)(hv:v<K)(G6:K≤9223372036854775808)(w:World):Le Tryz.prog 215 [KV v,KV K] w fun u w'=>u= .agg #[KV (MB v K).1,I ((MB v K).2:Int)]∧Ext w w':=by
 obtain⟨s,hs⟩:∃s,Lr (K-1)=s:=⟨_,rfl⟩
 have hf:=PH hK
 rw[hs] at hf
 obtain⟨h1,h2⟩:=hf
 have e63:(2:Nat)^63=9223372036854775808:=by decide
 have zF:s≤63:=by rw[←hs];exact Mj (by omega)
 obtain⟨Q,hQ⟩:∃Q,2^s=Q:=⟨_,rfl⟩
 have zH:Q≤9223372036854775808:=by
  have:=Nat.pow_le_pow_right (show 0<2 by decide) zF;omega
 rw[hQ] at h1
 have hP:MB v K=if v<Q-K then(v,s-1) else(v+(Q-K),s):=by unfold MB;rw[hs];dsimp only;rw[hQ]
 refine KA (e:=[(0,_),(1,_)]) Tryz.func215 rfl Tryz.ntmps215 rfl rfl (qN rfl (KL rfl rfl (MN (cs:=[_,_]) NA rfl) ?_))
 rintro _ w1 ⟨b4,rfl,gA,ad,aI⟩
 refine qM rfl (An rfl (qV (QV (n:=1) rfl rfl rfl (by show K<2^64;omega) hK) ?_))
 refine L2 [.tmp 8] Wx rfl (P3 (K-1) (by omega) w1) ?_
 rintro _ w1 ⟨rfl,rfl⟩
 rw[hs]
 refine KE rfl (py (run_seq (qN rfl (An rfl (qV (Mq s Q rfl rfl (by omega) hQ) ?_)))))
 rw[show 1*Q%18446744073709551616=Q by omega]
 refine An rfl (qV (QV rfl rfl rfl (by show Q<2^64;omega) h1) ?_)
 refine KE rfl (qM rfl (An rfl (An rfl (qV (OL rfl rfl) (py (KQ rfl (fun je=>?_) (fun je=>?_)))))))
 ·rw[if_neg (by omega)] at hP;rw[hP];refine qN rfl (An rfl (An rfl (qV (OD rfl rfl) ?_)));rw[Nat.mod_eq_of_lt (show v+(Q-K)<18446744073709551616 by omega)];refine An rfl (qV (Nc (parts:=[(0,.tmp 19),(1,.tmp 20)]) (cs:=[_,_]) NA rfl z4i rfl rfl) (KR rfl (Lo (news:=[KV (v+(Q-K)),I (s:Int)]) NA rfl rfl rfl rfl aI (by simp)) ?_));rintro w2 ⟨ak,am⟩;replace ak:KP w2 b4 [KV (v+(Q-K)),I (s:Int)] 328:=ak;refine py (L8 Tryz.func215 (.cell z41 rfl NA rfl (KP.cells (n:=2) ak (news:=[_,_]) rfl) rfl .nil) ?_);exact⟨_,rfl,rfl,ad.Kz am (fun i hi=>by omega)⟩
 ·rw[if_pos (by omega)] at hP;rw[hP]
  have Eb:K≠1:=fun e=>by
   have e0:s=0:=by rw[←hs,e];rfl
   have e1:Q=1:=by rw[←hQ,e0]
   omega
  have dz:1≤s:=(h2 (by omega)).1;refine It (qN rfl (An rfl (An rfl (qV (M8 rfl rfl (by omega)) ?_))));rw[show((s:Int)-1)=((s-1:Nat):Int) by omega];refine qV (Nc (parts:=[(0,.tmp 22),(1,.tmp 24)]) (cs:=[_,_]) NA rfl z4i rfl rfl) (KR rfl (Lo (news:=[KV v,I ((s-1:Nat):Int)]) NA rfl rfl rfl rfl aI (by simp)) ?_);rintro w2 ⟨ak,am⟩;replace ak:KP w2 b4 [KV v,I ((s-1:Nat):Int)] 328:=ak;refine py (L8 Tryz.func215 (.cell z41 rfl NA rfl (KP.cells (n:=2) ak (news:=[_,_]) rfl) rfl .nil) ?_);exact⟨_,rfl,rfl,ad.Kz am (fun i hi=>by omega)⟩
theorem z2E (n:Nat)(h:n≠0):Lr n-1=Nat.log2 n∧1≤Lr n:=by
 unfold Lr;rw[if_neg h];exact⟨rfl,by omega⟩
theorem VA (c:Cd)(v:Nat)(hc:c.LS)(hv:v≤281474976710654)(w:World):Le Tryz.prog 201 [XJ c,KV v] w fun u w'=>u= .tuple #[I (c.zeros v:Int),.agg #[KV (c.p0 v).1,I ((c.p0 v).2:Int),KV 0,I 0]]∧Ext w w':=by
 obtain⟨l1,l2⟩:=z2E (v+1) (by omega)
 obtain⟨g1,g2,g3⟩:=Ql hv
 obtain⟨b,hb⟩:∃b,Nat.log2 (v+1)=b:=⟨_,rfl⟩
 rw[hb] at l1 g1 g2 g3
 obtain⟨Q,hQ⟩:∃Q,2^b=Q:=⟨_,rfl⟩
 rw[hQ] at g1
 have zI:Q≤281474976710656:=by omega
 obtain⟨x,y,cZ⟩:∃x y,Nu c=[x,y]:=by cases c<;>exact⟨_,_,rfl⟩
 refine KA (e:=[(0,_),(1,_)]) Tryz.func201 rfl Tryz.ntmps201 rfl rfl (qN rfl (KL rfl rfl (Mz rfl (cs:=Nu c) rfl) ?_))
 rintro _ w1 ⟨b2,rfl,bM,ad,ak⟩
 refine KE rfl (KL rfl rfl (MN (cs:=[_,_,_,_]) Pp rfl) ?_)
 rintro _ w2 ⟨b5,rfl,gI,af,aG⟩
 replace aG:KP w2 b5 [KV 0,I 0,KV 0,I 0] 329:=aG
 refine qM rfl (An rfl (qV (OD rfl rfl) ?_))
 rw[show(v+1)%18446744073709551616=v+1 by omega]
 refine KE rfl (qM rfl (An rfl (L2 [.tmp 14] Wx rfl (P3 (v+1) (by omega) w2) ?_)))
 rintro _ w2 ⟨rfl,rfl⟩
 refine qV (M8 rfl rfl (by omega)) ?_
 rw[show((Lr (v+1):Int)-1)=((b:Nat):Int) by omega]
 refine KE rfl (qM rfl (An rfl (An rfl (qV (Mq b Q rfl rfl (by omega) hQ) ?_))))
 rw[show 1*Q%18446744073709551616=Q by omega]
 refine qV (QV rfl rfl rfl (by show v+1<2^64;omega) g1) ?_
 refine An rfl (qV (Nc (parts:=[(0,.tmp 20),(1,.tmp 21)]) (cs:=[_,_]) NA rfl z4i rfl rfl) (KL rfl rfl (MN (cs:=[_,_]) NA rfl) ?_))
 rintro _ w3 ⟨b8,rfl,iU,ah,bU⟩
 refine KR rfl (Lo (news:=[KV (v+1-Q),I (b:Int)]) NA rfl rfl rfl rfl bU (by simp)) ?_
 rintro w4 ⟨qz,av⟩
 replace qz:KP w4 b8 [KV (v+1-Q),I (b:Int)] 328:=qz
 have z1:=ad.size
 have z2:=af.size
 have z3:=ah.size
 have l2':=ak.lt
 have l5':=aG.lt
 have dx:=av.KD (ah.KD (af.KD ak)) (by omega)
 have da:=av.KD (ah.KD aG) (by omega)
 have cF:Ext w w4:=((ad.trans af).trans ah).Kz av (fun i hi=>by omega)
 cases c with
 | unary =>
   replace dx:KP w4 b2 [.int .u8 0,KV 0] 298:=dx;have hg:=Ext.L4 w4;refine py (run_seq (qN rfl (qV (KK N2 rfl) (qV (KJ U5 rfl rfl dx rfl) (py (KB (qN rfl (qV (Mc rfl rfl) (MC (KE rfl (py (KS rfl (run_seq ?_)))))))))))));refine L5 [4] (fun w'=>Ext w4 w') (by kernel_rfl) rfl (qL [1,3,4] 0 rfl (fun _ h=>KM rfl) hg (qL [3,4] 1 rfl (fun _ h=>Ln rfl M3 U3 (by omega)) hg (qL [4] 3 rfl (fun _ h=>ML rfl) hg (qL [4] 2 rfl (fun _ h=>La (news:=[KV 0,I 0,KV 0,I 0]) UZ rfl Pp rfl ((h.KD da).cells (n:=4) rfl) rfl) hg (Lu [4] (by kernel_rfl) (by kernel_rfl) (qO 4 (Lm (i:=4) rfl rfl (Lo (news:=[KV 0,I 0,KV 0,I 0]) Pp rfl rfl rfl rfl (hg.KD da) (by simp)) ?_)))))));rintro w5 ⟨aW,aj⟩;refine⟨trivial,?_⟩;replace aW:KP w5 b5 [KV 0,I 0,KV 0,I 0] 329:=aW;refine qE (Lc.qb (e:=[(1,_),(2,_),(4,_),(5,_)]) ?_);refine L8 Tryz.func201 (.tmp rfl (.cell UZ rfl Pp rfl (KP.cells (n:=4) aW (news:=[_,_,_,_]) rfl) rfl .nil)) ?_
   exact⟨_,rfl,rfl,(cF.trans hg).Kz aj (fun i hi=>by omega)⟩
 | gamma =>
   replace dx:KP w4 b2 [.int .u8 1,KV 0] 298:=dx;have hg:=Ext.L4 w4;refine py (run_seq (qN rfl (qV (KK N2 rfl) (qV (KJ U5 rfl rfl dx rfl) (py (KB (qN rfl (qV (Mc rfl rfl) (Lq (KE rfl (py (Kx rfl (qN rfl ?_)))))))))))));refine qV (Mc rfl rfl) (MC (KE rfl (py (Lc.qb (e:=[(1,_),(2,_),(4,_),(5,_),(6,_),(7,_),(8,_),(24,_),(30,_)]) ?_))));refine KS rfl (run_seq (L5 [4] (fun w'=>Ext w4 w') (by kernel_rfl) rfl (qL [3,4] 0 rfl (fun _ h=>KM rfl) hg (qL [4] 3 rfl (fun _ h=>ML rfl) hg (qL [2,4] 1 rfl (fun _ h=>La (news:=[KV (v+1-Q),I (b:Int)]) z41 rfl NA rfl ((h.KD qz).cells (n:=2) rfl) rfl) hg (qL [4] 2 rfl (fun _ h=>zaE (parts:=[(0,.tmp 33)]) (cs:=[_,_,_,_]) Pp rfl UZ NA rfl rfl) hg (Lu [4] (by kernel_rfl) (by kernel_rfl) (qO 4 (Lm (i:=4) rfl rfl (Lo (news:=[KV (v+1-Q),I (b:Int),KV 0,I 0]) Pp rfl rfl rfl rfl (hg.KD da) (by simp)) ?_)))))))));rintro w5 ⟨aW,aj⟩;refine⟨trivial,?_⟩;replace aW:KP w5 b5 [KV (v+1-Q),I (b:Int),KV 0,I 0] 329:=aW;refine qE (L8 Tryz.func201 (.tmp rfl (.cell UZ rfl Pp rfl (KP.cells (n:=4) aW (news:=[_,_,_,_]) rfl) rfl .nil)) ?_)
   exact⟨_,rfl,by simp[resVal,Cd.zeros,Cd.p0,hb,hQ],(cF.trans hg).Kz aj (fun i hi=>by omega)⟩
 | zeta k =>
   obtain⟨aN,am⟩:1≤k∧k≤16:=hc;have f:=S7 (k:=k) (v:=v) aN;dsimp only at f;rw[hb] at f;obtain⟨h,hh⟩:∃h,b / k=h:=⟨_,rfl⟩;obtain⟨m,hm⟩:∃m,h*k=m:=⟨_,rfl⟩;have G7:m≤b:=by rw[←hm,←hh];exact Nat.div_mul_le_self _ _
   rw[hh,hm] at f;obtain⟨F,hF⟩:∃F,2^m=F:=⟨_,rfl⟩;obtain⟨G,hG⟩:∃G,2^k=G:=⟨_,rfl⟩;rw[hF,hG] at f;obtain⟨f1,f2,f3⟩:=f;obtain⟨E,hE⟩:∃E,F*G=E:=⟨_,rfl⟩
   have zJ:E≤9223372036854775808:=by
    rw[←hE,←hF,←hG,←Nat.pow_add];have:=Nat.pow_le_pow_right (show 0<2 by decide) (show m+k≤63 by omega);have e63:(2:Nat)^63=9223372036854775808:=by decide
    omega
   rw[hE] at f2 f3;have zK:(Cd.zeta k).zeros v=h:=by show Nat.log2 (v+1) / k=h;rw[hb,hh]
   have zL:(Cd.zeta k).p0 v=MB (v+1-F) (E-F):=by
    show MB (v+1-2^(Nat.log2 (v+1) / k*k)) (2^(Nat.log2 (v+1) / k*k)*2^k-2^(Nat.log2 (v+1) / k*k))=_;rw[hb,hh,hm,hF,hG,hE]
   rw[zK,zL];have pD:(h:Int)*(k:Int)=(m:Int):=by rw[←hm];simp
   have fU:(b:Int) / (k:Int)=(h:Int):=by rw[←hh];simp
   replace dx:KP w4 b2 [.int .u8 3,KV k] 298:=dx;refine py (run_seq (qN rfl (qV (KK N2 rfl) (qV (KJ U5 rfl rfl dx rfl) (py (KB (qN rfl (qV (Mc rfl rfl) (Lq (KE rfl (py (Kx rfl (qN rfl ?_)))))))))))));refine qV (Mc rfl rfl) (Lq (KE rfl (py (Lc.qb (e:=[(1,_),(2,_),(4,_),(5,_),(6,_),(7,_),(8,_),(24,_),(30,_)]) ?_))));refine Kx rfl (qN rfl (qV (Mc rfl rfl) (Lq (KE rfl (py (Kx rfl (qN rfl (qV (Mc rfl rfl) (MC (KE rfl (py (KS rfl (qN rfl ?_)))))))))))));refine qV (KK Rp rfl) (qV (KJ M3 rfl rfl dx rfl) (qV (Ln rfl M3 U3 (by omega)) (KE rfl (qM rfl (An rfl (An rfl (qV (Ra rfl rfl (by omega)) ?_)))))));rw[fU];refine KE rfl (qM rfl (An rfl (An rfl (qV (SD rfl rfl (by rw[pD];omega)) ?_))));rw[pD];refine qV (Mq m F rfl rfl (by omega) hF) ?_;rw[show 1*F%18446744073709551616=F by omega];refine KE rfl (py (Lc.qb (e:=[(1,_),(2,_),(4,_),(5,_),(6,_),(9,_),(10,_),(11,_)]) ?_));refine qN rfl (An rfl (An rfl (An rfl (qV (QV rfl rfl rfl (by show v+1<2^64;omega) f1) ?_))));refine An rfl (An rfl (qV (Mq k G rfl rfl (by omega) hG) ?_));rw[hE,Nat.mod_eq_of_lt (show E<18446744073709551616 by omega)];refine An rfl (qV (QV rfl rfl rfl (by show E<2^64;omega) (by omega)) ?_);refine L2 [.tmp 63,.tmp 68] z9R rfl (ZW (v+1-F) (E-F) f3 f2 (by omega) w4) ?_;rintro _ w5 ⟨rfl,aR⟩;refine qV (zaE (parts:=[(0,.tmp 69)]) (cs:=[_,_,_,_]) Pp rfl UZ NA rfl rfl) (KE rfl ?_);have u5:=aR.KD da;refine KR rfl (Lo (news:=[KV (MB (v+1-F) (E-F)).1,I ((MB (v+1-F) (E-F)).2:Int),KV 0,I 0]) Pp rfl rfl rfl rfl u5 (by simp)) ?_;rintro w6 ⟨aW,aS⟩;replace aW:KP w6 b5 [KV (MB (v+1-F) (E-F)).1,I ((MB (v+1-F) (E-F)).2:Int),KV 0,I 0] 329:=aW;refine py (L8 Tryz.func201 (.tmp rfl (.cell UZ rfl Pp rfl (KP.cells (n:=4) aW (news:=[_,_,_,_]) rfl) rfl .nil)) ?_);exact⟨_,rfl,rfl,(cF.trans aR).Kz aS (fun i hi=>by omega)⟩
end
def hiB (w:Nat):Nat→Nat→List Nat→List Bool
 |_,_,[]=>[]
 |len,i,v::r=>List.replicate (v / 2^w+i-len) false++true::hiB w (v / 2^w+i+1) (i+1) r
abbrev Nof (l:List Nat):Prop:=l.Pairwise (·≤·)
def nth1:List Bool→Nat→Option Nat
 |[],_=>none
 |true::l,0=>some 0
 |true::l,k+1=>(nth1 l k).map (·+1)
 |false::l,k=>(nth1 l k).map (·+1)
theorem Pt:∀(z:Nat) (l:List Bool) (k:Nat),nth1 (List.replicate z false++l) k=(nth1 l k).map (·+z)
 |0,l,k=>by simp
 | z + 1, l, k => by
   rw[List.replicate_succ,List.cons_append,nth1,Pt z l k,Option.map_map]
   congr 1
theorem Vx (w:Nat):∀(l:List Nat) (len i k:Nat) (v:Nat),Nof l→l[k]? =some v→(∀x,l.head? =some x→len≤x / 2^w+i)→nth1 (hiB w len i l) k=some (v / 2^w+i+k-len)
 |[],len,i,k,v,_,h,_=>by simp at h
 | x :: r, len, i, 0, v, _, h, hl => by
   simp at h;subst h;have:=hl x rfl;rw[hiB,Pt,nth1]
   simp
 | x :: r, len, i, k + 1, v, hn, h, hl => by
   rw[List.getElem?_cons_succ] at h;obtain⟨n1,n2⟩:=List.pairwise_cons.1 hn;have hx:=hl x rfl;have hxv:x≤v:=n1 v (List.mem_of_getElem? h);have hd:=Nat.div_le_div_right (c:=2^w) hxv
   rw[hiB,Pt,nth1,Vx w r _ (i+1) k v n2 h (fun y hy=>by
    have hxy:x≤y:=n1 y (by cases r with
     |nil=>simp at hy
     |cons a r=>simp at hy;simp[hy])
    have:=Nat.div_le_div_right (c:=2^w) hxy
    omega)]
   simp;omega
theorem Te:∀(l:List Bool) (j p m:Nat),nth1 l j=some p→nth1 (l.drop p) m=(nth1 l (j+m)).map (·-p)
 |[],j,p,m,h=>by simp[nth1] at h
 | true :: l, 0, p, m, h => by
   simp[nth1] at h;subst h
   simp
 | true :: l, j + 1, p, m, h => by
   simp only[nth1,Option.map_eq_some_iff] at h;obtain⟨q,hq,rfl⟩:=h;rw[List.drop_succ_cons,Te l j q m hq,show j+1+m=(j+m)+1 by omega,nth1,Option.map_map]
   congr 1
   funext x;simp
 | false :: l, j, p, m, h => by
   simp only[nth1,Option.map_eq_some_iff] at h;obtain⟨q,hq,rfl⟩:=h;rw[List.drop_succ_cons,Te l j q m hq,nth1,Option.map_map]
   congr 1
   funext x;simp
theorem QY:∀(a b:List Bool) (k:Nat),nth1 (a++b) k=if k<a.count true then nth1 a k else(nth1 b (k-a.count true)).map (·+a.length)
 |[],b,k=>by simp
 |true::a,b,0=>by simp[nth1]
 | true :: a, b, k + 1 => by
   rw[List.cons_append,nth1,QY a b k,List.count_cons_self];split
   ·rename_i h
    rw[if_pos (by omega),nth1]
   ·rename_i h
    rw[if_neg (by omega),Option.map_map,show k+1-(a.count true+1)=k-a.count true by omega]
    congr 1
 | false :: a, b, k => by
   rw[List.cons_append,nth1,QY a b k,List.count_cons_of_ne (by decide)];split
   ·rw[nth1]
   ·rw[Option.map_map]
    congr 1
theorem Uz:∀{l:List Bool} {k p:Nat},nth1 l k=some p→p<l.length∧l[p]? =some true
 |true::l,0,p,h=>by simp[nth1] at h;subst h;simp
 | true :: l, k + 1, p, h => by
   simp only[nth1,Option.map_eq_some_iff] at h;obtain⟨q,hq,rfl⟩:=h;have:=Uz hq
   simp;exact this
 | false :: l, k, p, h => by
   simp only[nth1,Option.map_eq_some_iff] at h;obtain⟨q,hq,rfl⟩:=h;have:=Uz hq
   simp;exact this
 |[],k,p,h=>by simp[nth1] at h
theorem z1U (w:Nat):∀(l:List Nat) (len i:Nat),Nof l→(∀x,l.head? =some x→len≤x / 2^w+i)→∀v,l.getLast? =some v→len+(hiB w len i l).length=v / 2^w+i+l.length
 |[],len,i,_,_,v,h=>by simp at h
 | [x], len, i, _, hl, v, h => by
   simp at h;subst h;have:=hl x rfl
   simp[hiB];omega
 | x :: y :: r, len, i, hn, hl, v, h => by
   obtain⟨n1,n2⟩:=List.pairwise_cons.1 hn;have hx:=hl x rfl;have hxy:=Nat.div_le_div_right (c:=2^w) (n1 y (by simp));have:=z1U w (y::r) (x / 2^w+i+1) (i+1) n2 (fun z hz=>by simp at hz;subst hz;omega) v (by simpa using h);rw[hiB,List.length_append,List.length_replicate,List.length_cons];simp only[List.length_cons] at this⊢;omega
theorem S0 (z:Nat)(r:List Bool):valB (List.replicate z false++true::r)=2^r.length+valB r:=by
 induction z with
 |zero=>simp[valB]
 |succ z ih=>rw[List.replicate_succ,List.cons_append,valB,ih];simp
theorem XI (c:Cd)(v:Nat):c.rest v=bitsN (c.p0 v).2 (c.p0 v).1:=by cases c<;>rfl
theorem Rh (c:Cd)(v:Nat):(c.enc v).length=c.zeros v+1+(c.p0 v).2:=by
 unfold Cd.enc
 rw[List.length_append,List.length_replicate,List.length_cons,XI,bitsN_length];omega
theorem Cd.Uy (c:Cd):c.most≤281474976710654:=by cases c<;>simp[Cd.most]
theorem Qi:∀n:Nat,bitsN n 0=List.replicate n false
 |0=>rfl
 |n+1=>by rw[bitsN,Qi n,List.replicate_succ];simp
theorem z2q (z:Nat):bitsN (z+1) 1=List.replicate z false++[true]:=by
 refine T3 (by simp) ?_
 rw[Ly,S0]
 simp[valB]
theorem R8 {c:Cd}{v:Nat}(hc:c.LS)(hv:v≤c.most):c.zeros v≤65535∧(c.p0 v).2≤63∧(c.p0 v).1<2^(c.p0 v).2:=by
 cases c with
 |unary=>exact⟨hv,by simp[Cd.p0],by simp[Cd.p0]⟩
 | gamma =>
   obtain⟨g1,g2,g3⟩:=Ql hv;refine⟨by show Nat.log2 (v+1)≤_;omega,by show Nat.log2 (v+1)≤_;omega,?_⟩;show v+1-2^Nat.log2 (v+1)<2^Nat.log2 (v+1);rw[Nat.pow_succ] at g2
   omega
 | zeta k =>
   obtain⟨aN,am⟩:1≤k∧k≤16:=hc;obtain⟨g1,g2,g3⟩:=Ql hv;have f:=S7 (k:=k) (v:=v) aN;dsimp only at f;have hd:Nat.log2 (v+1) / k≤Nat.log2 (v+1):=Nat.div_le_self _ _;have hm:Nat.log2 (v+1) / k*k≤Nat.log2 (v+1):=Nat.div_mul_le_self _ _;refine⟨by show Nat.log2 (v+1) / k≤_;omega,?_,?_⟩
   ·show(MB _ _).2≤63
    have h1:Lr (2^(Nat.log2 (v+1) / k*k)*2^k-2^(Nat.log2 (v+1) / k*k)-1)≤63:=by
     refine Mj ?_;have h2:=Nat.pow_le_pow_right (show 0<2 by decide) (show Nat.log2 (v+1) / k*k+k≤63 by omega);rw[Nat.pow_add] at h2;have h3:=f.2.2
     revert h2 h3
     generalize 2^(Nat.log2 (v+1) / k*k)*2^k=E
     generalize 2^(Nat.log2 (v+1) / k*k)=F
     intro h2 h3;omega
    unfold MB;dsimp only;split<;>dsimp only<;>omega
   ·exact z3s f.2.1
section
variable {P:Program}{e:Env}{d:Option Nat}{ty t t' el:TypeId}{pos:String}{aft:Array Edge}{g:Option (Nat×Bool)}{x y:Operand}{w:World}{k:IntKind}{n:Nat}{td:TypeDesc}
theorem zbN {za:Int}[qq:O3 za n]{len size bytes:Nat}{z:Value}{vs:Array Value}(ht:P.underlying t=some (.array len el))(hs:TI P el z size bytes)(hu:P.underlying el=some td)(ha:aggOf td=true)(hx:look e x=some (.agg vs))(hy:look e y=some (.int k za))(hn:n<len):
  Y P e ⟨d,.index t x y,ty,pos,aft,g⟩ (.agg (vs.extract (n*size) (n*size+size))) w w:=fun ρ hρ=>by
 obtain⟨rfl⟩:=qq
 have hs:=hs.size (w:=w)
 simp[execOp,hρ _ _ hx,hρ _ _ hy,Instr.index,asIntOf,run_underlying ht,hn,hs,part,Ow hu,ha]
end
section
theorem Y7 (c:Cd)(v:Nat)(hc:c.LS)(hv:v≤c.most)(w:World):Le Tryz.prog 176 [XJ c,KV v] w fun u w'=>u= .tuple #[I ((c.enc v).length:Int),I 0]∧Ext w w':=by
 obtain⟨x,y,cZ⟩:∃x y,Nu c=[x,y]:=by cases c<;>exact⟨_,_,rfl⟩
 obtain⟨q1,q2,-⟩:=R8 hc hv
 have hl:=Rh c v
 have eJ:=c.Uy
 refine KA (e:=[(0,_),(1,_)]) Tryz.func176 rfl Tryz.ntmps176 rfl rfl (qN rfl (KL rfl rfl (Mz rfl (cs:=Nu c) rfl) ?_))
 rintro _ w1 ⟨b2,rfl,bM,ad,ak⟩
 refine KE rfl (KE rfl (py (run_seq (qN rfl (qV (La (news:=Nu c) Nb rfl Ma rfl (ak.cells (n:=2) (by rw[cZ];rfl)) (by rw[cZ];rfl)) ?_)))))
 refine An rfl (L2 [.tmp 8,.tmp 9] z9y rfl (z3R c v hc hv w1) ?_)
 rintro _ w2 ⟨rfl,af⟩
 refine qV ((by first|exact LP rfl|exact Nq rfl)) ?_
 refine py (Kx rfl (It (qN rfl (qV (La (news:=Nu c) Nb rfl Ma rfl ((af.KD ak).cells (n:=2) (by rw[cZ];rfl)) (by rw[cZ];rfl)) ?_))))
 refine An rfl (L2 [.tmp 13,.tmp 14] z7S rfl (VA c v hc (by omega) w2) ?_)
 rintro _ w3 ⟨rfl,ah⟩
 refine An rfl (qV (Ll rfl rfl) (qV (Ll rfl rfl) (KL rfl rfl (MN (cs:=[_,_,_,_]) Pp rfl) ?_)))
 rintro _ w4 ⟨b7,rfl,kr,aB,bG⟩
 refine KE rfl (KR rfl (Lo (news:=[KV (c.p0 v).1,I ((c.p0 v).2:Int),KV 0,I 0]) Pp rfl rfl rfl rfl bG (by simp)) ?_)
 rintro w5 ⟨gJ,aj⟩
 replace gJ:KP w5 b7 [KV (c.p0 v).1,I ((c.p0 v).2:Int),KV 0,I 0] 329:=gJ
 refine qM rfl (An rfl (Lz rfl rfl (qV (yia UZ NA rfl rfl (by omega)) (qV (KK Uu rfl) (qV (KJ U3 rfl rfl gJ rfl) (Lz rfl rfl (qV (yia UZ NA rfl rfl (by omega)) (qV (KK Uu rfl) (qV (KJ U3 rfl rfl gJ rfl) (Lz rfl rfl (KE rfl (KE rfl (py ?_)))))))))))))
 refine Lc.qb (e:=[(4,_),(5,_)]) ?_
 refine KG Tryz.func176 rfl ?_
 have z1:=ad.size
 have z2:=af.size
 have z3:=ah.size
 refine⟨_,rfl,?_,(((ad.trans af).trans ah).trans aB).Kz aj (fun i hi=>by omega)⟩
 simp only[resVal]
 congr 4
 omega
theorem z4L {w : World}{p : Nat}{bs : List Bool}{F : Nat → Prop}(h : SG w p bs F)(c : Cd)(v : Nat)(hc : c.LS)(hv : v ≤ c.most)(hl : bs.length + (c.enc v).length ≤ 134217728) :
  Le Tryz.prog 177 [ptr p 0,XJ c,KV v] w fun u w'=>u=I 0∧WrR p F w w' (bs++c.enc v):=by
 obtain⟨x,y,cZ⟩:∃x y,Nu c=[x,y]:=by cases c<;>exact⟨_,_,rfl⟩
 obtain⟨q1,q2,q3⟩:=R8 hc hv
 have nB:=Rh c v
 have eJ:=c.Uy
 refine KA (e:=[(0,_),(1,_),(2,_)]) Tryz.func177 rfl Tryz.ntmps177 rfl rfl (qN rfl (KL rfl rfl (Mz rfl (cs:=Nu c) rfl) ?_))
 rintro _ w1 ⟨b4,rfl,gA,ad,aI⟩
 refine KE rfl (py (run_seq (qN rfl (An rfl (qV (LO Xr rfl rfl) (py (Kx rfl (It (qN rfl (qV (La (news:=Nu c) Nb rfl Ma rfl (aI.cells (n:=2) (by rw[cZ];rfl)) (by rw[cZ];rfl)) ?_))))))))))
 refine An rfl (L2 [.tmp 16,.tmp 17] z77 rfl (Y7 c v hc hv w1) ?_)
 rintro _ w2 ⟨rfl,af⟩
 refine An rfl (qV (Ll rfl rfl) (qV (Ll rfl rfl) (KE rfl (KE rfl (py (run_seq (KB (qN rfl (An rfl (qV (LQ rfl rfl) (KE rfl (py (KQ rfl (fun e0=>?_) (fun e0=>?_))))))))))))))
 ·exact absurd rfl e0
 ·refine qN rfl (An rfl (An rfl (L2 [.tmp 27] WJ rfl (Q2 ((h.ext ad).ext af)) ?_))); rintro _ w2 ⟨rfl, rfl⟩; refine qV (M8 rfl rfl (by omega)) (qV (LH rfl rfl) (KE rfl (py (KQ rfl (fun e1 => ?_) (fun e1 => ?_)))))
  ·omega
  ·refine It (KC (qN rfl (qV (La (news := Nu c) Nb rfl Ma rfl ((af.KD aI).cells (n := 2) (by rw [cZ]; rfl)) (by rw [cZ]; rfl)) ?_))); refine An rfl (L2 [.tmp 32, .tmp 33] z7S rfl (VA c v hc (by omega) w2) ?_); rintro _ w3 ⟨rfl, ah⟩; refine An rfl (qV (Ll rfl rfl) (qV (Ll rfl rfl) (KL rfl rfl (MN (cs := [_, _, _, _]) Pp rfl) ?_))); rintro _ w4 ⟨b10, rfl, zM, aB, dU⟩; refine KE rfl (KR rfl (Lo (news := [KV (c.p0 v).1, I ((c.p0 v).2 : Int), KV 0, I 0]) Pp rfl rfl rfl rfl dU (by simp)) ?_); rintro w5 ⟨jP, aj⟩; replace jP : KP w5 b10 [KV (c.p0 v).1, I ((c.p0 v).2 : Int), KV 0, I 0] 329 := jP; have z1 := ad.size; have z2 := af.size; have z3 := ah.size; have bz : Ext w w5 := (((ad.trans af).trans ah).trans aB).Kz aj (fun i hi => by omega); have z5 := bz.size; have l10 := jP.lt; have jf : ∀ i, F i → i < w.heap.size := fun i hi => h.lt hi
   have Ec:∀(F':Nat→Prop),(∀k,F' k→F k∨w5.heap.size≤k)→¬F' b10:=fun F' hf e=>by
    rcases hf b10 e with e| e
    ·have:=jf b10 e;omega
    ·omega
   refine py (Lc.qb (e:=[(0,_),(6,_),(9,_),(10,_)]) ?_);refine run_seq (KB (MQ (α:=Nat×(Nat→Prop)×List Bool) ((c.zeros v,F,bs)) (fun x=>[(0,ptr p 0),(9,I (x.1:Int)),(10,ptr b10 0)]) (fun x w'=>x.1≤c.zeros v∧SG w' p x.2.2 x.2.1∧x.2.2=bs++List.replicate (c.zeros v-x.1) false∧Kp F w w'∧(∀k,x.2.1 k→F k∨w5.heap.size≤k)∧KP w' b10 [KV (c.p0 v).1,I ((c.p0 v).2:Int),KV 0,I 0] 329∧w5.heap.size≤w'.heap.size) (fun x=>x.1) ?hI ?hround))
   case hI=>exact⟨Nat.le_refl _,h.ext bz,by simp,bz.kp,fun _ h=> .inl h,jP,Nat.le_refl _⟩
   case hround =>
    rintro⟨z,F1,b1⟩ w6 ⟨hz,ku,bT,aS,m5,aW,z6⟩ ih;dsimp only at hz ku bT m5;have g8:b1.length=bs.length+(c.zeros v-z):=by rw[bT,List.length_append,List.length_replicate]
    try dsimp only
    refine run_seq (qN rfl (An rfl (qV (LH rfl rfl) (py (KQ rfl (fun aQ=>?_) (fun aQ=>?_))))))
    ·refine It (run_seq (KB (KF rfl (An rfl (L2 [.tmp 41,.const (Value.int .u64 0),.const (Value.int .i64 63)] QQ rfl (Na ku 0 63 (by decide) (by decide) (by omega)) ?_)))));rintro _ w7 ⟨rfl,F7,nF,aA,nG⟩;have bG:=aA.KD aW (Ec F1 m5);have z7:=aA.size;refine py (KC (KF rfl (An rfl (qV (M8 rfl rfl (by omega)) (KE rfl (py ?_))))));rw[show((z:Int)-63)=((z-63:Nat):Int) by omega];refine(ih (z-63,F7,b1++bitsN 63 0) w7 ⟨by dsimp only;omega,nF,?_,?_,?_,bG,by omega⟩ (by dsimp only;omega)).qb
     ·dsimp only;rw[bT,Qi,List.append_assoc,List.replicate_append_replicate,show c.zeros v-z+63=c.zeros v-(z-63) by omega]
     ·exact aS.Kz aA (fun i hi=>(m5 i hi).elim .inr (fun e=> .inl (by omega)))
     ·intro i hi;rcases nG i hi with e| e
      ·exact m5 i e
      ·exact .inr (by omega)
    ·refine KO rfl (run_seq (qN rfl (An rfl (qV (OL rfl rfl) (py (KQ rfl (fun g0=>?_) (fun g0=>?_)))))))
     ·refine KF rfl (An rfl (An rfl (Lz rfl rfl ?_)));rw[show((z:Int)+1)=((z+1:Nat):Int) by omega];refine L2 [.tmp 45,.const (Value.int .u64 1),.tmp 47] QQ rfl (Na ku 1 (z+1) (by omega) (by have:=Nat.pow_le_pow_right (show 0<2 by decide) (show 1≤z+1 by omega);omega) (by omega)) ?_;rintro _ w7 ⟨rfl,F7,nF,aA,nG⟩;have bG:=aA.KD aW (Ec F1 m5);have z7:=aA.size;have zN:Kp F w w7:=aS.Kz aA (fun i hi=>(m5 i hi).elim .inr (fun e=> .inl (by omega)));have zO:∀i,F7 i→F i∨w5.heap.size≤i:=fun i hi=>(nG i hi).elim (m5 i) (fun e=> .inr (by omega))
      have kr:b1++bitsN (z+1) 1=bs++(List.replicate (c.zeros v) false++[true]):=by
       rw[bT,z2q,List.append_assoc]
       congr 1
       rw[←List.append_assoc,List.replicate_append_replicate,show c.zeros v-z+z=c.zeros v by omega]
      rw[kr] at nF;clear ih;refine py (run_seq (qN rfl (qV (La (news:=[KV (c.p0 v).1,I ((c.p0 v).2:Int),KV 0,I 0]) UZ rfl Pp rfl (bG.cells (n:=4) rfl) rfl) (An rfl (py (KB (MQ (α:=Nat×(Nat→Prop)×List Bool) ((0,F7,bs++(List.replicate (c.zeros v) false++[true]))) (fun x=>[(0,ptr p 0),(49,.agg #[KV (c.p0 v).1,I ((c.p0 v).2:Int),KV 0,I 0]),(50,I (x.1:Int))]) (fun x w'=>x.1≤2∧SG w' p x.2.2 x.2.1∧x.2.2=(bs++(List.replicate (c.zeros v) false++[true]))++(if x.1=0 then [] else c.rest v)∧Kp F w w'∧(∀k,x.2.1 k→F k∨w5.heap.size≤k)∧w5.heap.size≤w'.heap.size) (fun x=>2-x.1) ?hI ?hround)))))))
      case hI=>exact⟨by dsimp only;omega,nF,by simp,zN,zO,by omega⟩
      case hround=>
       rintro⟨i,F8,b8⟩ w8 ⟨hi,qA,iU,bj,sZ,z8⟩ ih;dsimp only at hi qA iU sZ
       try dsimp only
       refine qN rfl (qV (LW rfl rfl) (py (run_seq (KQ rfl (fun o4=>?_) (fun o4=>?_)))))
       ·have u7:b8.length≤bs.length+(c.zeros v+1)+(if i=0 then 0 else(c.p0 v).2):=by
         rw[iU];simp only[List.length_append,List.length_replicate,List.length_cons,List.length_nil];split
         ·simp
         ·rw[XI,bitsN_length];omega
        refine It (run_seq (KB (qN rfl ?_)));rcases (show i=0∨i=1 by omega) with rfl|rfl
        ·rw[if_pos rfl] at u7 iU;refine qV (zbN (n:=0) UZ NA z41 rfl rfl rfl (by decide)) ?_;rw[show(#[KV (c.p0 v).1,I ((c.p0 v).2:Int),KV 0,I 0]:Array Value).extract (0*2) (0*2+2)=#[KV (c.p0 v).1,I ((c.p0 v).2:Int)] from rfl];refine KL rfl rfl (MN (cs:=[_,_]) NA rfl) ?_;rintro _ w9 ⟨b12,rfl,zP,eS,ba⟩;refine KR rfl (Lo (news:=[KV (c.p0 v).1,I ((c.p0 v).2:Int)]) NA rfl rfl rfl rfl ba (by simp)) ?_;rintro w10 ⟨dV,au⟩;replace dV:KP w10 b12 [KV (c.p0 v).1,I ((c.p0 v).2:Int)] 328:=dV;have z9:=eS.size;have fi:Ext w8 w10:=eS.Kz au (fun i hi=>by omega);have z10:=fi.size;refine py (KF rfl (An rfl (qV (KK z1z rfl) (qV (KJ M3 rfl rfl dV rfl) (qV (KK Uu rfl) (qV (KJ U3 rfl rfl dV rfl) (L2 [.tmp 53,.tmp 55,.tmp 57] QQ rfl (Na (qA.ext fi) (c.p0 v).1 (c.p0 v).2 (by omega) q3 (by omega)) ?_)))))));rintro _ w11 ⟨rfl,F11,qB,aM,qC⟩;have im:=fi.kp.trans aM;refine py (KC (KF rfl (Lz rfl rfl (An rfl (py ((ih (1,F11,b8++bitsN (c.p0 v).2 (c.p0 v).1) w11 ⟨by dsimp only;omega,qB,?_,?_,?_,?_⟩ (by dsimp only;omega)).qb))))))
         ·dsimp only;rw[iU];rw[List.append_nil,if_neg (by decide),XI]
         ·exact bj.Kz im (fun i hi=>(sZ i hi).elim .inr (fun e=> .inl (by omega)))
         ·intro i hi;rcases qC i hi with e| e
          ·exact sZ i e
          ·exact .inr (by omega)
         ·have:=im.size;omega
        ·rw[if_neg (by decide)] at u7 iU;refine qV (zbN (n:=1) UZ NA z41 rfl rfl rfl (by decide)) ?_;rw[show(#[KV (c.p0 v).1,I ((c.p0 v).2:Int),KV 0,I 0]:Array Value).extract (1*2) (1*2+2)=#[KV 0,I 0] from rfl];refine KL rfl rfl (MN (cs:=[_,_]) NA rfl) ?_;rintro _ w9 ⟨b12,rfl,zP,eS,ba⟩;refine KR rfl (Lo (news:=[KV 0,I 0]) NA rfl rfl rfl rfl ba (by simp)) ?_;rintro w10 ⟨dV,au⟩;replace dV:KP w10 b12 [KV 0,I 0] 328:=dV;have z9:=eS.size;have fi:Ext w8 w10:=eS.Kz au (fun i hi=>by omega);have z10:=fi.size;refine py (KF rfl (An rfl (qV (KK z1z rfl) (qV (KJ M3 rfl rfl dV rfl) (qV (KK Uu rfl) (qV (KJ U3 rfl rfl dV rfl) (L2 [.tmp 53,.tmp 55,.tmp 57] QQ rfl (Na (qA.ext fi) 0 0 (by omega) (by decide) (by omega)) ?_)))))));rintro _ w11 ⟨rfl,F11,qB,aM,qC⟩;have im:=fi.kp.trans aM;refine py (KC (KF rfl (Lz rfl rfl (An rfl (py ((ih (2,F11,b8++bitsN 0 0) w11 ⟨by dsimp only;omega,qB,?_,?_,?_,?_⟩ (by dsimp only;omega)).qb))))))
         ·dsimp only;rw[iU];rw[if_neg (by decide)];simp[bitsN]
         ·exact bj.Kz im (fun i hi=>(sZ i hi).elim .inr (fun e=> .inl (by omega)))
         ·intro i hi;rcases qC i hi with e| e
          ·exact sZ i e
          ·exact .inr (by omega)
         ·have:=im.size;omega
       ·have:i=2:=by omega
        subst this;rw[if_neg (by decide)] at iU;refine KO rfl (qN rfl (KE rfl (py (KG Tryz.func177 rfl (⟨_,rfl,rfl,F8,?_,bj,fun i hi=>(sZ i hi).imp id (fun e=>by omega)⟩)))));rw[iU] at qA;unfold Cd.enc
        simpa using qA
     ·omega
end
structure RgM (w:World)(x r:Nat)(s:Bytes)(a:Nat):Prop where
 KD:KP w x [ptr r 0,.bool false] 336
 rd:Oz w r s a
 ne:x≠r
theorem RgM.ext {w w':World}{x r:Nat}{s:Bytes}{a:Nat}(h:RgM w x r s a)(k:Ext w w'):RgM w' x r s a:=⟨k.KD h.KD,⟨k.KD h.rd.1,h.rd.2⟩,h.ne⟩
section
variable {w:World}{x r:Nat}{s:Bytes}{a:Nat}
theorem Rr (h:RgM w x r s a)(n:Nat)(hn:n≤64)(hl:a+n≤8*s.length):
  Le Tryz.prog 221 [ptr x 0,I (n:Int)] w fun v w'=>v=KV (valB (((L0 s).drop a).take n))∧RgM w' x r s (a+n)∧Kp (fun k=>k=x∨k=r) w w':=by
 obtain⟨hB,hR,bE⟩:=h
 refine KA (e:=[(0,_),(1,_)]) Tryz.func221 rfl Tryz.ntmps221 rfl rfl (qN rfl (KE rfl (qM rfl (An rfl (qV (KZ rfl) (qV (KK z61 rfl) (qV (KJ Oi rfl rfl hB rfl) (An rfl (L2 [.tmp 11,.tmp 12] YZ rfl (Q0 hR n hn) ?_)))))))))
 rintro v1 w1 eT
 obtain⟨rfl,lH,aN⟩:v1= .tuple #[KV (valB (((L0 s).drop a).take n)),I 0]∧Oz w1 r s (a+n)∧Kp (fun k=>k=r) w w1:=by
  rcases eT with⟨-,h⟩|⟨h,-⟩
  ·exact h
  ·omega
 have ai:=aN.KD hB bE
 refine An rfl (qV (Ll rfl rfl) (qV (Ll rfl rfl) (KE rfl (KE rfl (qM rfl (An rfl (An rfl (qV (KZ rfl) (qV (KK UG rfl) (qV (KJ U4 rfl rfl ai rfl) (An rfl (An rfl (qV (LQ rfl rfl) ?_)))))))))))))
 refine Lq (qV (Lk rfl rfl) (qV (KZ rfl) (qV (KK UG rfl) (KR rfl (Mn PS rfl rfl rfl ai (by simp)) ?_))))
 rintro w2 ⟨ak,am⟩
 replace ak:KP w2 x [ptr r 0,.bool false] 336:=ak
 refine py (Lc.qb (e:=[(4,_),(5,_)]) ?_)
 refine qN rfl (An rfl (KE rfl (py (KG Tryz.func221 rfl ?_))))
 exact⟨_,rfl,rfl,⟨ak,⟨am.KD lH.1 (Ne.symm bE),lH.2⟩,bE⟩,(aN.KT (fun k e=> .inr e)).trans (am.KT (fun k e=> .inl e))⟩
theorem S5 (h:RgM w x r s a)(z most:Nat)(rest:List Bool)(hb:(L0 s).drop a=List.replicate z false++true::rest)(hz:z≤most)(hm:most≤65535):
  Le Tryz.prog 219 [ptr x 0,I (most:Int)] w fun v w'=>v=I (z:Int)∧RgM w' x r s (a+z+1)∧Kp (fun k=>k=x∨k=r) w w':=by
 have aD:a+z+1≤8*s.length:=by
  have:=congrArg List.length hb;rw[List.length_drop,bitsT_length,List.length_append,List.length_replicate,List.length_cons] at this;omega
 refine KA (e:=[(0,_),(1,_)]) Tryz.func219 rfl Tryz.ntmps219 rfl rfl (qN rfl (KE rfl (py (run_seq (qN rfl (KE rfl (py (KB (MQ (α:=Nat) (0) (fun n=>[(0,ptr x 0),(1,I (most:Int)),(5,I (n:Int))]) (fun n w'=>n≤z∧RgM w' x r s (a+n)∧Kp (fun k=>k=x∨k=r) w w') (fun n=>z-n) ?hI ?hround)))))))))
 case hI=>exact⟨Nat.zero_le _,h,Kp.refl _ _⟩
 case hround=>
  rintro n w1 ⟨hn,h1,aN⟩ ih;have ai:=h1.KD
  have hd:(L0 s).drop (a+n)=List.replicate (z-n) false++true::rest:=by
   rw[←List.drop_drop,hb,List.drop_append_of_le_length (by simp;omega),List.drop_replicate]
  try dsimp only
  refine run_seq (qN rfl (An rfl (An rfl (qV (Qh rfl rfl) (An rfl (Ng (fun c1=>?_) (fun c1=>?_)))))))
  ·have hv:valB (((L0 s).drop (a+n)).take 1)=if n=z then 1 else 0:=by
    rw[hd];by_cases e:n=z
    ·subst e;rw[Nat.sub_self,if_pos rfl];rfl
    ·rw[if_neg e,show z-n=(z-n-1)+1 by omega,List.replicate_succ];rfl
   refine An rfl (qV (KZ rfl) (qV (KK UG rfl) (qV (KJ U4 rfl rfl ai rfl) (qV ((by first|exact LP rfl|exact Nq rfl)) ?_))));refine qV (LK rfl rfl) (py (KS rfl (It (run_seq (KB (qN rfl (An rfl (L2 [.tmp 18,.const (Value.int .i64 1)] z1M rfl (Rr h1 1 (by decide) (by omega)) ?_))))))));rintro _ w2 ⟨rfl,h2,am⟩;rw[hv];refine qV (Mc rfl rfl) (py (KQ rfl (fun c2=>?_) (fun c2=>?_)))
   ·have Ed:n=z:=by
     by_cases e:n=z
     ·exact e
     ·rw[if_neg e] at c2;simp at c2
    subst Ed;refine qN rfl (An rfl (KE rfl (py (KG Tryz.func219 rfl ?_))));exact⟨_,rfl,rfl,h2,aN.trans am⟩
   ·have Ed:n≠z:=fun e=>by rw[if_pos e] at c2;simp at c2
    refine It (KC (KF rfl (An rfl (Lz rfl rfl (KE rfl (py ?_))))));exact(ih (n+1) w2 ⟨by omega,by rw[←Nat.add_assoc];exact h2,aN.trans am⟩ (by omega)).qb
  ·omega
theorem z0n (h:RgM w x r s a)(z q:Nat)(rest:List Bool)(hb:(L0 s).drop a=List.replicate z false++true::(bitsN z q++rest))(hq:q<2^z)(hz:z≤47):
  Le Tryz.prog 220 [ptr x 0,I 47] w fun v w'=>v=KV (q+2^z-1)∧RgM w' x r s (a+z+1+z)∧Kp (fun k=>k=x∨k=r) w w':=by
 have aD:a+z+1+z≤8*s.length:=by
  have:=congrArg List.length hb;rw[List.length_drop,bitsT_length,List.length_append,List.length_replicate,List.length_cons,List.length_append,bitsN_length] at this;omega
 have hd:(L0 s).drop (a+z+1)=bitsN z q++rest:=by
  rw[show a+z+1=a+(z+1) by omega,←List.drop_drop,hb];rw[←List.drop_drop,List.drop_left' (by simp)];rfl
 have hv:valB (((L0 s).drop (a+z+1)).take z)=q:=by
  rw[hd,List.take_left' (by simp),Ly,Nat.mod_eq_of_lt hq]
 obtain⟨Q,hQ⟩:∃Q,2^z=Q:=⟨_,rfl⟩
 rw[hQ] at hq⊢
 have zI:1≤Q∧Q≤281474976710656:=by
  rw[←hQ];exact⟨Nat.two_pow_pos _,by have:=Nat.pow_le_pow_right (show 0<2 by decide) (show z≤48 by omega);simpa using this⟩
 refine KA (e:=[(0,_),(1,_)]) Tryz.func220 rfl Tryz.ntmps220 rfl rfl (qN rfl (KE rfl (qM rfl (An rfl (An rfl (L2 [.tmp 6,.tmp 7] z3N rfl (S5 h z 47 _ hb hz (by decide)) ?_))))))
 rintro _ w1 ⟨rfl,h1,aN⟩
 have hg:=Ext.L4 w1
 refine KE rfl (py (run_seq (KN (fun w'=>Kp (fun k=>k=x∨k=r) w1 w') (by kernel_rfl) rfl (KH 0 rfl (KM rfl) (hg.kp) (KH 1 rfl (KM rfl) (hg.kp) (KH 3 rfl (KM rfl) (hg.kp) (KH 4 rfl (Mq z Q rfl rfl (by omega) hQ) (hg.kp) ?_)))))))
 rw[show 1*Q%18446744073709551616=Q by omega]
 refine OJ 2 [.tmp 9,.tmp 10] rfl z1M rfl (Rr (h1.ext hg) z (by omega) (by omega)) ?_
 rintro _ w2 ⟨rfl,h2,am⟩
 refine⟨hg.kp.trans am,?_⟩
 rw[hv]
 refine KH 5 rfl (OD rfl rfl) (hg.kp.trans am) ?_
 rw[show(q+Q)%18446744073709551616=q+Q by omega]
 refine KH 6 rfl (QV (n:=1) rfl rfl rfl (by show q+Q<2^64;omega) (by omega)) (hg.kp.trans am) ?_
 refine KH 7 rfl (ML rfl) (hg.kp.trans am) (qE (KG Tryz.func220 rfl ?_))
 exact⟨_,rfl,rfl,h2,aN.trans (hg.kp.trans am)⟩
theorem z0X (h:RgM w x r s a)(v K:Nat)(rest:List Bool)(hb:(L0 s).drop a=M1 v K++rest)(hv:v<K)(G6:K≤9223372036854775808):
  Le Tryz.prog 222 [ptr x 0,KV K] w fun u w'=>u=KV v∧RgM w' x r s (a+(M1 v K).length)∧Kp (fun k=>k=x∨k=r) w w':=by
 have aD:a+(M1 v K).length≤8*s.length:=by
  have:=congrArg List.length hb;have ha:=h.rd.2.1;rw[List.length_drop,bitsT_length,List.length_append] at this;omega
 refine KA (e:=[(0,_),(1,_)]) Tryz.func222 rfl Tryz.ntmps222 rfl rfl (qN rfl (KE rfl (qM rfl (An rfl (qV (QV (n:=1) rfl rfl rfl (by show K<2^64;omega) (by omega)) ?_)))))
 refine L2 [.tmp 9] Wx rfl (P3 (K-1) (by omega) w) ?_
 rintro _ w ⟨rfl,rfl⟩
 refine KE rfl (py (run_seq (qN rfl (An rfl (qV (Mc rfl rfl) (py ?_))))))
 by_cases Eb:K=1
 ·subst Eb;have t8:v=0:=by omega
  subst t8;rw[show Lr (1-1)=0 from rfl];refine KQ rfl (fun c0=>?_) (fun c0=>?_)
  ·refine qN rfl (KE rfl (py (KG Tryz.func222 rfl ?_)));exact⟨_,rfl,rfl,h,Kp.refl _ _⟩
  ·exact absurd rfl c0
 ·have f:=z0e hv (by omega) rest;dsimp only at f;obtain⟨n,hn⟩:∃n,Lr (K-1)=n:=⟨_,rfl⟩;rw[hn] at f⊢;have g:=PH (K:=K) (by omega);rw[hn] at g;obtain⟨Q,hQ⟩:∃Q,2^n=Q:=⟨_,rfl⟩;rw[hQ] at f g;obtain⟨f1,f2,f3⟩:=f
  have zQ:n≤63:=by
   rw[←hn];have e63:(2:Nat)^63=9223372036854775808:=by decide
   exact Mj (by omega)
  have zH:Q≤9223372036854775808:=by
   rw[←hQ];have:=Nat.pow_le_pow_right (show 0<2 by decide) zQ;have e63:(2:Nat)^63=9223372036854775808:=by decide
   omega
  have t1:((L0 s).drop a).take (n-1)=(M1 v K).take (n-1):=by rw[hb,List.take_append_of_le_length f2]
  obtain⟨u,hu⟩:∃u,valB ((M1 v K).take (n-1))=u:=⟨_,rfl⟩
  have qD:u<Q:=by
   have h1:=Mk ((M1 v K).take (n-1));rw[hu,List.length_take] at h1;have h2:=Nat.pow_le_pow_right (show 0<2 by decide) (show min (n-1) (M1 v K).length≤n by omega);omega
  rw[hu] at f3;refine KQ rfl (fun c0=>?_) (fun c0=>?_)
  ·omega
  ·refine It (qN rfl (An rfl (qV (Mq n Q rfl rfl (by omega) hQ) ?_)));rw[show 1*Q%18446744073709551616=Q by omega];refine An rfl (qV (QV rfl rfl rfl (by show Q<2^64;omega) g.1) ?_);refine KE rfl (qM rfl (An rfl (An rfl (qV (M8 rfl rfl (by omega)) ?_))));rw[show((n:Int)-1)=((n-1:Nat):Int) by omega];refine L2 [.tmp 17,.tmp 19] z1M rfl (Rr h (n-1) (by omega) (by omega)) ?_;rintro _ w1 ⟨rfl,h1,aN⟩;rw[t1,hu];refine KE rfl (py (run_seq (qN rfl (An rfl (An rfl (qV (OL rfl rfl) (py (KQ rfl (fun c1=>?_) (fun c1=>?_)))))))))
   ·obtain⟨m1,m2,m3⟩:Q-K≤u∧(M1 v K).length=n∧2*u+valB ((M1 v K).drop (n-1))=v+(Q-K):=by
     rcases f3 with⟨e,-⟩| e
     ·omega
     ·exact e
    have t2:((L0 s).drop (a+(n-1))).take 1=(M1 v K).drop (n-1):=by
     rw[←List.drop_drop,hb,List.drop_append_of_le_length f2,List.take_append_of_le_length (by rw[List.length_drop];omega),List.take_of_length_le (by rw[List.length_drop];omega)]
    have jQ:valB ((M1 v K).drop (n-1))<2:=by
     have:=Mk ((M1 v K).drop (n-1));rw[List.length_drop,m2,show n-(n-1)=1 by omega] at this;exact this
    refine KF rfl (An rfl (qV (Mq 1 2 rfl rfl (by decide) rfl) ?_));rw[show u*2%18446744073709551616=u*2 by omega];refine An rfl (L2 [.tmp 26,.const (Value.int .i64 1)] z1M rfl (Rr h1 1 (by decide) (by omega)) ?_);rintro _ w2 ⟨rfl,h2,am⟩;rw[t2];refine qV (OD rfl rfl) ?_;rw[show(u*2+valB ((M1 v K).drop (n-1)))%18446744073709551616=v+(Q-K) by omega];refine An rfl (qV (QV rfl rfl rfl (by show v+(Q-K)<2^64;omega) (by omega)) ?_);rw[show v+(Q-K)-(Q-K)=v by omega];refine KE rfl (py (Lc.qb (e:=[(4,_),(7,_)]) ?_));refine qN rfl (An rfl (KE rfl (py (KG Tryz.func222 rfl ?_))));rw[m2];exact⟨_,rfl,rfl,by rw[show a+n=a+(n-1)+1 by omega];exact h2,aN.trans am⟩
   ·obtain⟨m1,m2,m3⟩:u<Q-K∧(M1 v K).length=n-1∧u=v:=by
     rcases f3 with e|⟨e,-⟩
     ·exact e
     ·omega
    refine It (qN rfl (An rfl (KE rfl (py (KG Tryz.func222 rfl ?_)))));rw[m2];exact⟨_,rfl,by rw[m3];rfl,h1,aN⟩
end
section
variable {w:World}{x r:Nat}{s:Bytes}{a:Nat}
theorem Y0 (h:RgM w x r s a)(c:Cd)(v:Nat)(hc:c.LS)(hv:v≤c.most)(rest:List Bool)(hb:(L0 s).drop a=c.enc v++rest):
  Le Tryz.prog 209 [ptr x 0,XJ c] w fun u w'=>u=KV v∧RgM w' x r s (a+(c.enc v).length)∧Kp (fun k=>k=x∨k=r) w w':=by
 have nB:=Rh c v
 have eU:=h.KD.lt
 have gz:=h.rd.1.lt
 have aD:a+(c.enc v).length≤8*s.length:=by
  have:=congrArg List.length hb;have ha:=h.rd.2.1;rw[List.length_drop,bitsT_length,List.length_append] at this;omega
 unfold Cd.enc at hb
 rw[List.append_assoc,List.cons_append] at hb
 cases c with
 | unary =>
   refine KA (e:=[(0,_),(1,_)]) Tryz.func209 rfl Tryz.ntmps209 rfl rfl (qN rfl (KL rfl rfl (Mz rfl (cs:=[.int .u8 0,KV 0]) rfl) ?_));rintro _ w1 ⟨b3,rfl,eL,ad,ar⟩;refine KE rfl (py (run_seq (qN rfl (qV (KK N2 rfl) (qV (KJ U5 rfl rfl ar rfl) (py (KB (qN rfl (qV (Mc rfl rfl) (MC (KE rfl (py (KS rfl ?_)))))))))))));refine qN rfl (An rfl (L2 [.tmp 12,.const (Value.int .i64 65535)] z3N rfl (S5 (h.ext ad) v 65535 rest hb hv (by decide)) ?_));rintro _ w2 ⟨rfl,h2,am⟩;have io:v≤65535:=hv;refine qV ((by first|exact Lw rfl U3 M3 (by omega)|exact MI rfl U3 M3)) ?_;refine KE rfl (py (KG Tryz.func209 rfl (⟨_,rfl,rfl,?_,ad.kp.trans am⟩)));have e:(Cd.enc .unary v).length=v+1:=by rw[nB];rfl
   rw[e];exact h2
 | gamma =>
   obtain⟨g1,g2,g3⟩:=Ql hv;obtain⟨z,hz⟩:∃z,Nat.log2 (v+1)=z:=⟨_,rfl⟩;rw[hz] at g1 g2 g3;rw[Nat.pow_succ] at g2
   have ta:(L0 s).drop a=List.replicate z false++true::(bitsN z (v+1-2^z)++rest):=by
    rw[hb];show List.replicate (Nat.log2 (v+1)) false++true::(bitsN (Nat.log2 (v+1)) (v+1-2^Nat.log2 (v+1))++rest)=_;rw[hz]
   have e:(Cd.enc .gamma v).length=z+1+z:=by rw[nB];show Nat.log2 (v+1)+1+Nat.log2 (v+1)=_;rw[hz]
   refine KA (e:=[(0,_),(1,_)]) Tryz.func209 rfl Tryz.ntmps209 rfl rfl (qN rfl (KL rfl rfl (Mz rfl (cs:=[.int .u8 1,KV 0]) rfl) ?_));rintro _ w1 ⟨b3,rfl,eL,ad,ar⟩;refine KE rfl (py (run_seq (qN rfl (qV (KK N2 rfl) (qV (KJ U5 rfl rfl ar rfl) (py (KB (qN rfl (qV (Mc rfl rfl) (Lq (KE rfl (py (Kx rfl ?_)))))))))))));refine qN rfl (qV (Mc rfl rfl) (MC (KE rfl (py (KS rfl (qN rfl (An rfl (L2 [.tmp 17,.const (Value.int .i64 47)] za7 rfl (z0n (h.ext ad) z (v+1-2^z) rest ta (by omega) g3) ?_))))))));rintro _ w2 ⟨rfl,h2,am⟩;rw[show v+1-2^z+2^z-1=v by omega];refine KE rfl (py (KG Tryz.func209 rfl (⟨_,rfl,rfl,?_,ad.kp.trans am⟩)))
   rw[e,show a+(z+1+z)=a+z+1+z by omega];exact h2
 | zeta k =>
   obtain⟨aN,am⟩:1≤k∧k≤16:=hc;obtain⟨g1,g2,g3⟩:=Ql hv;have f:=S7 (k:=k) (v:=v) aN;dsimp only at f;obtain⟨b,u9⟩:∃b,Nat.log2 (v+1)=b:=⟨_,rfl⟩;rw[u9] at f g1 g2 g3;obtain⟨z,hz⟩:∃z,b / k=z:=⟨_,rfl⟩;obtain⟨m,hm⟩:∃m,z*k=m:=⟨_,rfl⟩;have G7:m≤b:=by rw[←hm,←hz];exact Nat.div_mul_le_self _ _
   have zR:z≤47 / k:=by rw[←hz];exact Nat.div_le_div_right g3
   have Jy:47 / k≤47:=Nat.div_le_self _ _;rw[hz,hm] at f
   have ta:(L0 s).drop a=List.replicate z false++true::(M1 (v+1-2^m) (2^m*2^k-2^m)++rest):=by
    rw[hb];show List.replicate (Nat.log2 (v+1) / k) false++true::(M1 (v+1-2^(Nat.log2 (v+1) / k*k)) (2^(Nat.log2 (v+1) / k*k)*2^k-2^(Nat.log2 (v+1) / k*k))++rest)=_;rw[u9,hz,hm]
   obtain⟨F,hF⟩:∃F,2^m=F:=⟨_,rfl⟩;obtain⟨G,hG⟩:∃G,2^k=G:=⟨_,rfl⟩;rw[hF,hG] at f ta;obtain⟨f1,f2,f3⟩:=f;obtain⟨E,hE⟩:∃E,F*G=E:=⟨_,rfl⟩
   have zJ:E≤9223372036854775808:=by
    rw[←hE,←hF,←hG,←Nat.pow_add];have:=Nat.pow_le_pow_right (show 0<2 by decide) (show m+k≤63 by omega);have e63:(2:Nat)^63=9223372036854775808:=by decide
    omega
   rw[hE] at f2 f3 ta
   have e:(Cd.enc (.zeta k) v).length=z+1+(M1 (v+1-F) (E-F)).length:=by
    rw[Cd.enc,List.length_append,List.length_replicate,List.length_cons];show Nat.log2 (v+1) / k+((M1 (v+1-2^(Nat.log2 (v+1) / k*k)) (2^(Nat.log2 (v+1) / k*k)*2^k-2^(Nat.log2 (v+1) / k*k))).length+1)=_;rw[u9,hz,hm,hF,hG,hE];omega
   have hd:(L0 s).drop (a+z+1)=M1 (v+1-F) (E-F)++rest:=by
    rw[show a+z+1=a+(z+1) by omega,←List.drop_drop,ta];rw[←List.drop_drop,List.drop_left' (by simp)];rfl
   have pD:(z:Int)*(k:Int)=(m:Int):=by rw[←hm];simp
   have fU:(47:Int) / (k:Int)=((47 / k:Nat):Int):=by simp
   refine KA (e:=[(0,_),(1,_)]) Tryz.func209 rfl Tryz.ntmps209 rfl rfl (qN rfl (KL rfl rfl (Mz rfl (cs:=[.int .u8 3,KV k]) rfl) ?_));rintro _ w1 ⟨b3,rfl,eL,ad,ar⟩;refine KE rfl (py (run_seq (qN rfl (qV (KK N2 rfl) (qV (KJ U5 rfl rfl ar rfl) (py (KB (qN rfl (qV (Mc rfl rfl) (Lq (KE rfl (py (Kx rfl ?_)))))))))))));refine qN rfl (qV (Mc rfl rfl) (Lq (KE rfl (py (Kx rfl (qN rfl (qV (Mc rfl rfl) (Lq (KE rfl (py (Kx rfl (qN rfl (qV (Mc rfl rfl) ?_)))))))))))));refine MC (KE rfl (py (KS rfl (qN rfl (qV (KK Rp rfl) (qV (KJ M3 rfl rfl ar rfl) (qV (Ln rfl M3 U3 (by omega)) (KE rfl (qM rfl (An rfl (An rfl (qV (Ra rfl rfl (by omega)) ?_))))))))))));rw[fU];refine L2 [.tmp 41,.tmp 43] z3N rfl (S5 (h.ext ad) z (47 / k) _ ta zR (by omega)) ?_;rintro _ w2 ⟨rfl,h2,zS⟩;refine An rfl (qV (SD rfl rfl (by rw[pD];omega)) ?_);rw[pD];refine qV (Mq m F rfl rfl (by omega) hF) ?_;rw[show 1*F%18446744073709551616=F by omega];refine KE rfl (py (Lc.qb (e:=[(0,_),(3,_),(4,_),(6,_),(7,_)]) ?_));refine qN rfl (An rfl (An rfl (An rfl (qV (Mq k G rfl rfl (by omega) hG) ?_))));rw[hE,Nat.mod_eq_of_lt (show E<18446744073709551616 by omega)];refine An rfl (qV (QV rfl rfl rfl (by show E<2^64;omega) (by omega)) ?_);refine L2 [.tmp 48,.tmp 53] zaC rfl (z0X h2 (v+1-F) (E-F) rest hd f2 (by omega)) ?_;rintro _ w3 ⟨rfl,h3,ax⟩;refine An rfl (qV (OD rfl rfl) ?_);rw[show(v+1-F+F)%18446744073709551616=v+1 by omega];refine qV (QV (n:=1) rfl rfl rfl (by show v+1<2^64;omega) (by omega)) ?_;rw[show v+1-1=v by omega];refine KE rfl (py (KG Tryz.func209 rfl (⟨_,rfl,rfl,?_,(ad.kp.trans zS).trans ax⟩)));rw[e,show a+(z+1+(M1 (v+1-F) (E-F)).length)=a+z+1+(M1 (v+1-F) (E-F)).length by omega];exact h3
end
theorem ZF {P:Program}{fn:Func}{tmps:Array Value}{R:Ending→World→Prop}{g:FuncId}{cap args:List Value}{w:World}{S:Value→World→Prop}(o5:CF P g)(hD:z6S P g (args++cap) w S)
  (h:∀u w',S u w'→∃v,(results fn tmps).run P w'= .ok v w'∧R (.returned v) w'):LeavesInM Fence.wide 0 P fn tmps R (marks [.call g cap args]) .returning w:=by
 refine⟨by simp,.inr ⟨(fun h=>by cases h),.func g,cap.toArray,g,(args++cap).toArray,rfl,?_,(fun _ _=>trivial),?_⟩⟩
 ·simp[Dfr.d,invoke,NW o5]
 ·refine CallsDIn.mono hD ?_;rintro x u w1 ⟨rfl,v1,rfl,hS⟩;exact h v1 w1 hS
theorem z2c {P:Program}{f:FuncId}{R:Value→World→Prop}{n:Nat}{k:List Item}{e:Env}{w:World}{fn:Func}{g:FuncId}{cap args:List Value}{S:Value→World→Prop}(hf:P.funcs[f]? =some fn)(o5:CF P g)(hD:z6S P g (args++cap) w S)
  (h:∀u w',S u w'→∃vs,SM P w' e fn.results.toList vs∧S6 R (.returned (resVal vs)) w'):Lc ⟨P,f,R,n,none,[.call g cap args],false⟩ (.code .ret::k) e w:=
 Ym rfl rfl hf fun a ha=>ZF o5 hD fun u w' hs=>by
  obtain⟨vs,h1,h2⟩:=h u w' hs;exact⟨_,Qn ha P w' fn vs h1,h2⟩
theorem ydf {P:Program}{e:Env}{ty:TypeId}{pos:String}{aft:Array Edge}{g:Option (Nat×Bool)}{w:World}{f:FuncId}{x:Operand}{q:List Value}(hv:look e x=some (.func (.func f) #[] q.toArray)):
  ∀ρ:Operand→Value,(∀x v,look e x=some v→ρ x=v)→(execOp ρ ⟨none,.defer ⟨.value x,#[],#[]⟩,ty,pos,aft,g⟩).run P w= .ok (.defer (Dfr.d (.call f q []))) w:=fun ρ hρ=>by
 simp[execOp,resolve,hρ _ _ hv,Dfr.d,Deferred.ofValue]
section
variable {w:World}{r:Nat}{s:Bytes}{a:Nat}
theorem YD {b2 b5 b6:Nat}(hB:KP w b5 [I 0] 35):z6S Tryz.prog 208 [ptr b5 0,ptr b2 0,ptr b6 0] w fun u w'=>w'=w:=by
 refine XV (e:=[(0,_),(1,_),(2,_)]) Tryz.func208 rfl Tryz.ntmps208 rfl rfl (qN rfl (qV (KJ U35 rfl rfl hB rfl) (qV (LQ rfl rfl) (py (KQ rfl (fun c0=>?_) (fun c0=>?_))))))
 ·exact absurd rfl c0
 ·refine It (z4n rfl rfl rfl Tryz.func208 (fun a ha=>⟨_,PE ha _ _ _ _ rfl,?_⟩));exact⟨_,rfl,rfl⟩
theorem Ti (h:Oz w r s a)(c:Cd)(v:Nat)(hc:c.LS)(hv:v≤c.most)(rest:List Bool)(hb:(L0 s).drop a=c.enc v++rest):
  Le Tryz.prog 190 [ptr r 0,XJ c] w fun u w'=>u= .tuple #[KV v,I 0]∧Oz w' r s (a+(c.enc v).length)∧Kp (fun k=>k=r) w w':=by
 obtain⟨x,y,cZ⟩:∃x y,Nu c=[x,y]:=by cases c<;>exact⟨_,_,rfl⟩
 have gz:=h.1.lt
 have eJ:=c.Uy
 refine KA (e:=[(0,_),(1,_)]) Tryz.func190 rfl Tryz.ntmps190 rfl rfl (qN rfl (KL rfl rfl (Mz rfl (cs:=[ptr r 0]) rfl) ?_))
 rintro _ w1 ⟨b2,rfl,bM,ad,ak⟩
 refine KL rfl rfl (Mz rfl (cs:=Nu c) rfl) ?_
 rintro _ w2 ⟨b3,rfl,eL,af,ar⟩
 refine KE rfl (KL rfl rfl (MN (cs:=[_]) z3x rfl) ?_)
 rintro _ w3 ⟨b5,rfl,gI,ah,aG⟩
 replace aG:KP w3 b5 [I 0] 35:=aG
 have h3:Oz w3 r s a:=⟨ah.KD (af.KD (ad.KD h.1)),h.2⟩
 have co:=ah.KD (af.KD ak)
 have g9:=ah.KD ar
 refine py (run_seq (KB (qN rfl (qV (KJ Oi rfl rfl co rfl) (qV (LO Oi rfl rfl) (KE rfl (py (Kx rfl (qN rfl (qV (La (news:=Nu c) Nb rfl Ma rfl (g9.cells (n:=2) (by rw[cZ];rfl)) (by rw[cZ];rfl)) ?_))))))))))
 refine L2 [.tmp 12] Zt rfl (P9 c hc w3) ?_
 rintro _ w4 ⟨rfl,aB⟩
 have h4:Oz w4 r s a:=⟨aB.KD h3.1,h3.2⟩
 have dW:=aB.KD co
 refine qV (LQ rfl rfl) (KE rfl (py (KQ rfl (fun c0=>?_) (fun c0=>?_))))
 ·exact absurd rfl c0
 ·refine It (KC (qN rfl (qV (KJ Oi rfl rfl dW rfl) (L2 [.tmp 15] SZ rfl (OS h4) ?_))));rintro _ w4 ⟨rfl,rfl⟩;refine KL rfl rfl (MN (cs:=[_]) LC rfl) ?_;rintro _ w5 ⟨b6,rfl,nD,aR,aW⟩;refine KR rfl (Mn LC rfl rfl rfl aW (by simp)) ?_;rintro w6 ⟨m6,aS⟩;have z1:=ad.size;have z2:=af.size;have z3:=ah.size;have z4:=aB.size;have z5:=aR.size;have l2:=ak.lt;have l3:=ar.lt;have l5:=aG.lt;have cB:Ext w4 w6:=aR.Kz aS (fun i hi=>by omega);have fj:=cB.KD dW;refine qM rfl (qV (Zw (first:=[]) (caps:=[.tmp 5,.tmp 2,.tmp 6]) rfl rfl) (z8f rfl rfl (ydf rfl) (qM rfl (qV (KJ Oi rfl rfl fj rfl) (qV (Nc (parts:=[(0,.tmp 18)]) (cs:=[_,_]) zaa rfl zbD rfl rfl) (KL rfl rfl (Mz rfl rfl) ?_))))));rintro _ w7 ⟨b7,rfl,kr,bL,bG⟩;replace bG:KP w7 b7 [ptr r 0,.bool false] 336:=bG;have z6:=cB.size;have z7:=bL.size;have o6:Ext w3 w7:=(aB.trans cB).trans bL;have h7:RgM w7 b7 r s a:=⟨bG,⟨o6.KD h3.1,h3.2⟩,by omega⟩;have ip:=o6.KD g9;have jg:=o6.KD aG;refine KE rfl (py (run_seq (qN rfl (An rfl (qV (La (news:=Nu c) Nb rfl Ma rfl (ip.cells (n:=2) (by rw[cZ];rfl)) (by rw[cZ];rfl)) ?_)))));refine L2 [.tmp 21,.tmp 22] za1 rfl (Y0 h7 c v hc hv rest hb) ?_;rintro _ w8 ⟨rfl,h8,bj⟩;have m7:=bj.KD ip (by omega);have zT:=bj.KD jg (by omega);have bU:=h8.KD;refine KE rfl (qM rfl (An rfl (qV (KZ rfl) (qV (KK UG rfl) (qV (KJ U4 rfl rfl bU rfl) (An rfl (An rfl (qV (La (news:=Nu c) Nb rfl Ma rfl (m7.cells (n:=2) (by rw[cZ];rfl)) (by rw[cZ];rfl)) ?_))))))));refine L2 [.tmp 30] z7w rfl (WA c hc w8) ?_;rintro _ w9 ⟨rfl,eS⟩;refine qV (LH rfl rfl) (qV (Lk rfl rfl) (py (Lc.qb (e:=[(4,_),(5,_),(33,_)]) ?_)));refine KQ rfl (fun c1=>?_) (fun c1=>?_)
  ·omega
  ·have zU:=eS.KD zT;refine It (qN rfl (An rfl (KE rfl (KR rfl (Mn z3x rfl rfl rfl zU (by simp)) ?_))));rintro w10 ⟨dU,au⟩;replace dU:KP w10 b5 [I 0] 35:=dU;refine py (z2c Tryz.func190 za6 (YD (b2:=b2) (b6:=b6) dU) ?_);rintro u w' rfl;have tc:Oz w9 r s (a+(c.enc v).length):=⟨eS.KD h8.rd.1,h8.rd.2⟩;refine⟨_,.tmp rfl (.cell1 U35 rfl rfl ((dU).cell _) .nil),_,rfl,rfl,⟨au.KD tc.1 (by omega),tc.2⟩,?_⟩;have gd:Ext w w7:=((ad.trans af).trans ah).trans o6;have m8:Kp (fun k=>k=r) w w8:=gd.kp.Kz bj (fun i hi=>hi.elim (fun e=> .inl (by omega)) .inr);exact(m8.trans eS.kp).Kz au (fun i hi=> .inl (by omega))
end
end Go.Proofs.YtpldpcjdjcgicaaGreatDoor
