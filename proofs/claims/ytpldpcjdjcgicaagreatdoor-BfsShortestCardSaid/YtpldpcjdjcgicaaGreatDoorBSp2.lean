/- Texts Types, Sho, TrS, Byt, TrO, TrG, TrI, TrD, Bit, BiA, BiB, Cod, CoA, CoB, Efp, CoC, CoD, CoE, CoF, one behind the other (what the statement BfsShortest does not use is left out). -/
import Derived.Test.YtpldpcjdjcgicaaGreatDoorRows
import Derived.Test.YtpldpcjdjcgicaaGreatDoorBSp1
import Derived.KernelRfl
import Derived.Lib.AppendZerosOnto
import Derived.Lib.Overlaps
import Derived.Maps.RangeRun
set_option maxHeartbeats 16000000
namespace Go.Proofs.YtpldpcjdjcgicaaGreatDoor
open Go Go.RowKit
set_option maxRecDepth 100000
set_option linter.unusedSimpArgs false
theorem LG:TI Tryz.prog 3 (Value.int .i64 0) 1 8:=Lr (by kernel_rfl)
theorem QX:TI Tryz.prog 4 (Value.bool false) 1 1:=Lr (by kernel_rfl)
theorem SJ:TI Tryz.prog 5 (Value.int .u8 0) 1 1:=Lr (by kernel_rfl)
theorem WR:TI Tryz.prog 9 (Value.string ⟨#[]⟩) 1 16:=Lr (by kernel_rfl)
theorem z92:TI Tryz.prog 26 (Value.pointer none) 1 8:=Lr (by kernel_rfl)
theorem z3Z:TI Tryz.prog 27 (Value.pointer none) 1 8:=Lr (by kernel_rfl)
theorem z6H:TI Tryz.prog 28 (Value.pointer none) 1 8:=Lr (by kernel_rfl)
theorem ZL:TI Tryz.prog 30 (Value.agg #[Value.pointer none,Value.pointer none,Value.pointer none,Value.pointer none,Value.int .i64 0]) 5 40:=Lr (by kernel_rfl)
theorem z3u:TI Tryz.prog 35 (Value.int .i64 0) 1 8:=Lr (by kernel_rfl)
theorem PQ:TI Tryz.prog 41 (Value.int .u64 0) 1 8:=Lr (by kernel_rfl)
theorem OI:TI Tryz.prog 45 (Value.slice none 0 0) 1 24:=Lr (by kernel_rfl)
theorem L8:TI Tryz.prog 46 (Value.int .u32 0) 1 4:=Lr (by kernel_rfl)
theorem z9o:TI Tryz.prog 48 (Value.agg #[Value.int .i64 0,Value.int .i64 0,Value.int .i64 0,Value.int .i64 0,Value.int .i64 0,Value.int .i64 0,Value.int .i64 0]) 7 56:=Lr (by kernel_rfl)
theorem z0H:TI Tryz.prog 51 (Value.slice none 0 0) 1 24:=Lr (by kernel_rfl)
theorem zaH:TI Tryz.prog 55 (Value.pointer none) 1 8:=Lr (by kernel_rfl)
theorem z8T:TI Tryz.prog 62 (Value.nilFunc) 1 8:=Lr (by kernel_rfl)
theorem Zl:TI Tryz.prog 65 (Value.agg #[Value.int .u32 0,Value.int .u32 0]) 2 8:=Lr (by kernel_rfl)
theorem z6i:TI Tryz.prog 69 (Value.agg #[Value.int .i64 0,Value.int .i64 0]) 2 16:=Lr (by kernel_rfl)
theorem MP:TI Tryz.prog 77 (Value.agg #[Value.int .i64 0,Value.int .i64 0,Value.int .i64 0,Value.int .i64 0,Value.int .i64 0]) 5 40:=Lr (by kernel_rfl)
theorem z9B:TI Tryz.prog 80 (Value.pointer none) 1 8:=Lr (by kernel_rfl)
theorem zbn:TI Tryz.prog 86 (Value.agg #[Value.int .i64 0,Value.bool false]) 2 16:=Lr (by kernel_rfl)
theorem zdu:TI Tryz.prog 88 (Value.agg #[Value.int .i64 0,Value.bool false,Value.pointer none,Value.pointer none,Value.bool false]) 5 40:=Lr (by kernel_rfl)
theorem zbx:TI Tryz.prog 89 (Value.pointer none) 1 8:=Lr (by kernel_rfl)
theorem zcq:TI Tryz.prog 90 (Value.map none) 1 8:=Lr (by kernel_rfl)
theorem ze5:TI Tryz.prog 92 (Value.agg #[Value.pointer none,Value.pointer none,Value.pointer none,Value.map none,Value.int .i64 0,Value.int .i64 0,Value.int .i64 0,Value.int .i64 0,Value.int .i64 0,Value.int .i64 0,Value.int .i64 0,Value.bool false]) 12 96:=Lr (by kernel_rfl)
theorem Nh:TI Tryz.prog 97 (Value.agg #[Value.int .i64 0,Value.int .i64 0]) 2 16:=Lr (by kernel_rfl)
theorem z8b:TI Tryz.prog 100 (Value.map none) 1 8:=Lr (by kernel_rfl)
theorem z65:TI Tryz.prog 102 (Value.agg #[Value.slice none 0 0,Value.int .i64 0,Value.int .u8 0]) 3 40:=Lr (by kernel_rfl)
theorem z1X:TI Tryz.prog 104 (Value.agg #[Value.int .i64 0,Value.slice none 0 0,Value.int .i64 0,Value.int .u8 0]) 4 48:=Lr (by kernel_rfl)
theorem z2H:TI Tryz.prog 105 (Value.slice none 0 0) 1 24:=Lr (by kernel_rfl)
theorem zc8:TI Tryz.prog 107 (Value.agg #[Value.int .i64 0,Value.slice none 0 0,Value.int .i64 0,Value.int .u8 0,Value.int .i64 0,Value.int .i64 0,Value.map none,Value.slice none 0 0,Value.bool false,Value.int .i64 0,Value.int .i64 0]) 11 120:=Lr (by kernel_rfl)
theorem z8h:TI Tryz.prog 108 (Value.slice none 0 0) 1 24:=Lr (by kernel_rfl)
theorem zcj:TI Tryz.prog 110 (Value.agg #[Value.int .i64 0,Value.slice none 0 0,Value.slice none 0 0,Value.bool false]) 4 64:=Lr (by kernel_rfl)
theorem Xe:TI Tryz.prog 118 (Value.pointer none) 1 8:=Lr (by kernel_rfl)
theorem OT:TI Tryz.prog 128 (Value.agg #[Value.int .i64 0,Value.int .i64 0,Value.int .i64 0,Value.int .i64 0,Value.int .i64 0,Value.int .i64 0,Value.int .i64 0,Value.int .i64 0]) 8 64:=Lr (by kernel_rfl)
theorem Xg:TI Tryz.prog 130 (Value.nilIface) 1 16:=Lr (by kernel_rfl)
theorem z7S:TI Tryz.prog 131 (Value.pointer none) 1 8:=Lr (by kernel_rfl)
theorem zbM:TI Tryz.prog 133 (Value.agg #[Value.int .i64 0,Value.int .i64 0,Value.int .i64 0,Value.int .i64 0,Value.int .i64 0,Value.int .i64 0,Value.int .i64 0,Value.int .i64 0,Value.nilIface,Value.pointer none]) 10 88:=Lr (by kernel_rfl)
theorem Tp:TI Tryz.prog 135 (Value.agg #[Value.int .i64 0,Value.int .i64 0,Value.int .i64 0]) 3 24:=Lr (by kernel_rfl)
theorem zaA:TI Tryz.prog 137 (Value.agg #[Value.int .i64 0,Value.int .i64 0,Value.int .i64 0,Value.int .i64 0,Value.int .i64 0,Value.pointer none,Value.bool false]) 7 56:=Lr (by kernel_rfl)
theorem S6:TI Tryz.prog 151 (Value.slice none 0 0) 1 24:=Lr (by kernel_rfl)
theorem WK:TI Tryz.prog 154 (Value.int .u8 0) 1 1:=Lr (by kernel_rfl)
theorem za9:TI Tryz.prog 157 (Value.agg #[Value.pointer none,Value.slice none 0 0]) 2 32:=Lr (by kernel_rfl)
theorem z1J:TI Tryz.prog 163 (Value.map none) 1 8:=Lr (by kernel_rfl)
theorem Yv:TI Tryz.prog 165 (Value.agg #[Value.slice none 0 0,Value.map none]) 2 32:=Lr (by kernel_rfl)
theorem zbA:TI Tryz.prog 167 (Value.agg #[Value.int .i64 0,Value.slice none 0 0,Value.map none,Value.slice none 0 0,Value.map none,Value.slice none 0 0,Value.map none,Value.slice none 0 0,Value.map none,Value.int .i64 0,Value.map none]) 11 152:=Lr (by kernel_rfl)
theorem Rv:TI Tryz.prog 173 (Value.agg #[Value.pointer none,Value.int .i64 0,Value.int .i64 0]) 3 24:=Lr (by kernel_rfl)
theorem z8i:TI Tryz.prog 175 (Value.agg #[Value.pointer none,Value.int .i64 0,Value.int .i64 0,Value.slice none 0 0,Value.int .i64 0,Value.int .i64 0,Value.int .u32 0,Value.nilFunc,Value.bool false]) 9 88:=Lr (by kernel_rfl)
theorem zaw:TI Tryz.prog 179 (Value.agg #[Value.pointer none,Value.int .i64 0,Value.int .i64 0,Value.int .i64 0,Value.int .u32 0]) 5 40:=Lr (by kernel_rfl)
theorem z5R:TI Tryz.prog 187 (Value.pointer none) 1 8:=Lr (by kernel_rfl)
theorem z1R:TI Tryz.prog 189 (Value.agg #[Value.string ⟨#[]⟩,Value.bool false]) 2 24:=Lr (by kernel_rfl)
theorem zb1:TI Tryz.prog 191 (Value.agg #[Value.string ⟨#[]⟩,Value.bool false,Value.int .i64 0]) 3 32:=Lr (by kernel_rfl)
theorem z2v:TI Tryz.prog 203 (Value.pointer none) 1 8:=Lr (by kernel_rfl)
theorem Qi:TI Tryz.prog 205 (Value.agg #[Value.int .i64 0,Value.int .i64 0]) 2 16:=Lr (by kernel_rfl)
theorem On:TI Tryz.prog 210 (Value.agg #[Value.int .i64 0,Value.int .u64 0,Value.int .i64 0,Value.int .i64 0]) 4 32:=Lr (by kernel_rfl)
theorem zaj:TI Tryz.prog 223 (Value.agg #[Value.nilIface,Value.int .i64 0,Value.int .i64 0]) 3 32:=Lr (by kernel_rfl)
theorem Lo:TI Tryz.prog 232 (Value.agg #[Value.bool false,Value.bool false,Value.int .i64 0]) 3 16:=Lr (by kernel_rfl)
theorem z8n:TI Tryz.prog 237 (Value.nilFunc) 1 8:=Lr (by kernel_rfl)
theorem Ns:TI Tryz.prog 239 (Value.agg #[Value.int .i64 0,Value.int .i64 0]) 2 16:=Lr (by kernel_rfl)
theorem X3:TI Tryz.prog 240 (Value.pointer none) 1 8:=Lr (by kernel_rfl)
theorem P3:TI Tryz.prog 245 (Value.agg #[Value.int .i64 0,Value.int .i64 0,Value.int .i64 0]) 3 24:=Lr (by kernel_rfl)
theorem LY:TI Tryz.prog 250 (Value.agg #[Value.slice none 0 0,Value.int .i64 0]) 2 32:=Lr (by kernel_rfl)
theorem zaI:TI Tryz.prog 251 (Value.agg #[Value.slice none 0 0,Value.int .i64 0,Value.slice none 0 0,Value.int .i64 0,Value.slice none 0 0,Value.int .i64 0,Value.slice none 0 0,Value.int .i64 0,Value.slice none 0 0,Value.int .i64 0,Value.slice none 0 0,Value.int .i64 0,Value.slice none 0 0,Value.int .i64 0,Value.slice none 0 0,Value.int .i64 0,Value.slice none 0 0,Value.int .i64 0,Value.slice none 0 0,Value.int .i64 0,Value.slice none 0 0,Value.int .i64 0,Value.slice none 0 0,Value.int .i64 0,Value.slice none 0 0,Value.int .i64 0,Value.slice none 0 0,Value.int .i64 0,Value.slice none 0 0,Value.int .i64 0,Value.slice none 0 0,Value.int .i64 0,Value.slice none 0 0,Value.int .i64 0]) 34 544:=Lr (by kernel_rfl)
theorem z8e:TI Tryz.prog 253 (Value.agg #[Value.slice none 0 0,Value.int .i64 0,Value.slice none 0 0,Value.int .i64 0,Value.slice none 0 0,Value.int .i64 0,Value.slice none 0 0,Value.int .i64 0,Value.slice none 0 0,Value.int .i64 0,Value.slice none 0 0,Value.int .i64 0,Value.slice none 0 0,Value.int .i64 0,Value.slice none 0 0,Value.int .i64 0,Value.slice none 0 0,Value.int .i64 0,Value.slice none 0 0,Value.int .i64 0,Value.slice none 0 0,Value.int .i64 0,Value.slice none 0 0,Value.int .i64 0,Value.slice none 0 0,Value.int .i64 0,Value.slice none 0 0,Value.int .i64 0,Value.slice none 0 0,Value.int .i64 0,Value.slice none 0 0,Value.int .i64 0,Value.slice none 0 0,Value.int .i64 0,Value.int .i64 0]) 35 552:=Lr (by kernel_rfl)
theorem zbe:TI Tryz.prog 255 (Value.agg #[Value.int .i64 0,Value.int .i64 0,Value.int .i64 0,Value.int .i64 0,Value.int .i64 0,Value.slice none 0 0,Value.int .i64 0,Value.slice none 0 0,Value.int .i64 0,Value.slice none 0 0,Value.int .i64 0,Value.slice none 0 0,Value.int .i64 0,Value.slice none 0 0,Value.int .i64 0,Value.slice none 0 0,Value.int .i64 0,Value.slice none 0 0,Value.int .i64 0,Value.slice none 0 0,Value.int .i64 0,Value.slice none 0 0,Value.int .i64 0,Value.slice none 0 0,Value.int .i64 0,Value.slice none 0 0,Value.int .i64 0,Value.slice none 0 0,Value.int .i64 0,Value.slice none 0 0,Value.int .i64 0,Value.slice none 0 0,Value.int .i64 0,Value.slice none 0 0,Value.int .i64 0,Value.slice none 0 0,Value.int .i64 0,Value.slice none 0 0,Value.int .i64 0,Value.int .i64 0,Value.pointer none,Value.int .i64 0,Value.int .i64 0]) 43 616:=Lr (by kernel_rfl)
theorem zcD:TI Tryz.prog 262 (Value.agg #[Value.slice none 0 0,Value.int .i64 0]) 2 32:=Lr (by kernel_rfl)
theorem zai:TI Tryz.prog 271 (Value.agg #[Value.int .i64 0,Value.int .u64 0,Value.int .i64 0,Value.int .i64 0,Value.nilIface]) 5 48:=Lr (by kernel_rfl)
theorem z83:TI Tryz.prog 273 (Value.pointer none) 1 8:=Lr (by kernel_rfl)
theorem zaM:TI Tryz.prog 289 (Value.agg #[Value.pointer none,Value.bool false]) 2 16:=Lr (by kernel_rfl)
theorem zbE:TI Tryz.prog 293 (Value.agg #[Value.string ⟨#[]⟩,Value.int .i64 0]) 2 24:=Lr (by kernel_rfl)
theorem z4S:TI Tryz.prog 295 (Value.slice none 0 0) 1 24:=Lr (by kernel_rfl)
theorem Mj:TI Tryz.prog 298 (Value.agg #[Value.int .u8 0,Value.int .u64 0]) 2 16:=Lr (by kernel_rfl)
theorem Qk:TI Tryz.prog 300 (Value.agg #[Value.int .u8 0,Value.int .u64 0,Value.int .u64 0]) 3 24:=Lr (by kernel_rfl)
theorem Ri:TI Tryz.prog 308 (Value.agg #[Value.int .i64 0,Value.string ⟨#[]⟩]) 2 24:=Lr (by kernel_rfl)
theorem VG:TI Tryz.prog 325 (Value.agg #[Value.int .i64 0,Value.int .i64 0]) 2 16:=Lr (by kernel_rfl)
theorem NN:TI Tryz.prog 328 (Value.agg #[Value.int .u64 0,Value.int .i64 0]) 2 16:=Lr (by kernel_rfl)
theorem PC:TI Tryz.prog 329 (Value.agg #[Value.int .u64 0,Value.int .i64 0,Value.int .u64 0,Value.int .i64 0]) 4 32:=Lr (by kernel_rfl)
theorem zbH:TI Tryz.prog 336 (Value.agg #[Value.pointer none,Value.bool false]) 2 16:=Lr (by kernel_rfl)
theorem Za:TI Tryz.prog 355 (Value.int .u64 0) 1 8:=Lr (by kernel_rfl)
theorem z0d:M6 Tryz.prog 30 1 1 1 false:=⟨_,_,_,_,_,Tryz.underlying30,rfl,rfl,z3Z,Tryz.underlying27,rfl⟩
theorem z4A:M6 Tryz.prog 30 2 2 1 false:=⟨_,_,_,_,_,Tryz.underlying30,rfl,rfl,z6H,Tryz.underlying28,rfl⟩
theorem z9q:M6 Tryz.prog 30 4 4 1 false:=⟨_,_,_,_,_,Tryz.underlying30,rfl,rfl,LG,Tryz.underlying3,rfl⟩
theorem ze4:SP Tryz.prog 30 [(0,1),(1,1),(2,1),(3,1),(4,1)]:=⟨_,Tryz.underlying30,fun _=>by simp[z92.size,z3Z.size,z6H.size,LG.size,Sem.run_bind,Sem.run_pure]⟩
theorem z4O:M6 Tryz.prog 48 1 1 1 false:=⟨_,_,_,_,_,Tryz.underlying48,rfl,rfl,LG,Tryz.underlying3,rfl⟩
theorem z5E:M6 Tryz.prog 48 2 2 1 false:=⟨_,_,_,_,_,Tryz.underlying48,rfl,rfl,LG,Tryz.underlying3,rfl⟩
theorem z4W:M6 Tryz.prog 48 3 3 1 false:=⟨_,_,_,_,_,Tryz.underlying48,rfl,rfl,LG,Tryz.underlying3,rfl⟩
theorem zef:SP Tryz.prog 48 [(0,1),(1,1),(2,1),(3,1),(4,1),(5,1),(6,1)]:=⟨_,Tryz.underlying48,fun _=>by simp[LG.size,Sem.run_bind,Sem.run_pure]⟩
theorem z0l:M6 Tryz.prog 65 0 0 1 false:=⟨_,_,_,_,_,Tryz.underlying65,rfl,rfl,L8,Tryz.underlying46,rfl⟩
theorem VT:M6 Tryz.prog 65 1 1 1 false:=⟨_,_,_,_,_,Tryz.underlying65,rfl,rfl,L8,Tryz.underlying46,rfl⟩
theorem TZ:M6 Tryz.prog 69 0 0 1 false:=⟨_,_,_,_,_,Tryz.underlying69,rfl,rfl,LG,Tryz.underlying3,rfl⟩
theorem TS:M6 Tryz.prog 69 1 1 1 false:=⟨_,_,_,_,_,Tryz.underlying69,rfl,rfl,LG,Tryz.underlying3,rfl⟩
theorem zdM:SP Tryz.prog 69 [(0,1),(1,1)]:=⟨_,Tryz.underlying69,fun _=>by simp[LG.size,Sem.run_bind,Sem.run_pure]⟩
theorem Ve:M6 Tryz.prog 77 0 0 1 false:=⟨_,_,_,_,_,Tryz.underlying77,rfl,rfl,LG,Tryz.underlying3,rfl⟩
theorem TU:M6 Tryz.prog 77 1 1 1 false:=⟨_,_,_,_,_,Tryz.underlying77,rfl,rfl,LG,Tryz.underlying3,rfl⟩
theorem z5Q:M6 Tryz.prog 77 2 2 1 false:=⟨_,_,_,_,_,Tryz.underlying77,rfl,rfl,LG,Tryz.underlying3,rfl⟩
theorem z5G:M6 Tryz.prog 77 3 3 1 false:=⟨_,_,_,_,_,Tryz.underlying77,rfl,rfl,LG,Tryz.underlying3,rfl⟩
theorem OD:M6 Tryz.prog 77 4 4 1 false:=⟨_,_,_,_,_,Tryz.underlying77,rfl,rfl,LG,Tryz.underlying3,rfl⟩
theorem z7J:SP Tryz.prog 77 [(0,1),(1,1),(2,1),(3,1),(4,1)]:=⟨_,Tryz.underlying77,fun _=>by simp[LG.size,Sem.run_bind,Sem.run_pure]⟩
theorem Vv:M6 Tryz.prog 86 0 0 1 false:=⟨_,_,_,_,_,Tryz.underlying86,rfl,rfl,LG,Tryz.underlying3,rfl⟩
theorem Y6:M6 Tryz.prog 86 1 1 1 false:=⟨_,_,_,_,_,Tryz.underlying86,rfl,rfl,QX,Tryz.underlying4,rfl⟩
theorem Qx:M6 Tryz.prog 88 0 0 2 true:=⟨_,_,_,_,_,Tryz.underlying88,rfl,rfl,zbn,Tryz.underlying86,rfl⟩
theorem z6b:M6 Tryz.prog 88 1 2 1 false:=⟨_,_,_,_,_,Tryz.underlying88,rfl,rfl,z6H,Tryz.underlying28,rfl⟩
theorem Sr:M6 Tryz.prog 88 2 3 1 false:=⟨_,_,_,_,_,Tryz.underlying88,rfl,rfl,z9B,Tryz.underlying80,rfl⟩
theorem z4M:M6 Tryz.prog 88 3 4 1 false:=⟨_,_,_,_,_,Tryz.underlying88,rfl,rfl,QX,Tryz.underlying4,rfl⟩
theorem zdW:SP Tryz.prog 88 [(0,2),(2,1),(3,1),(4,1)]:=⟨_,Tryz.underlying88,fun _=>by simp[z6H.size,QX.size,z9B.size,zbn.size,Sem.run_bind,Sem.run_pure]⟩
theorem R8:M6 Tryz.prog 92 0 0 1 false:=⟨_,_,_,_,_,Tryz.underlying92,rfl,rfl,z92,Tryz.underlying26,rfl⟩
theorem z04:M6 Tryz.prog 92 1 1 1 false:=⟨_,_,_,_,_,Tryz.underlying92,rfl,rfl,zaH,Tryz.underlying55,rfl⟩
theorem z5n:M6 Tryz.prog 92 2 2 1 false:=⟨_,_,_,_,_,Tryz.underlying92,rfl,rfl,zbx,Tryz.underlying89,rfl⟩
theorem Ss:M6 Tryz.prog 92 3 3 1 false:=⟨_,_,_,_,_,Tryz.underlying92,rfl,rfl,zcq,Tryz.underlying90,rfl⟩
theorem TG:M6 Tryz.prog 92 4 4 7 true:=⟨_,_,_,_,_,Tryz.underlying92,rfl,rfl,z9o,Tryz.underlying48,rfl⟩
theorem z5X:M6 Tryz.prog 92 5 11 1 false:=⟨_,_,_,_,_,Tryz.underlying92,rfl,rfl,QX,Tryz.underlying4,rfl⟩
theorem zdY:SP Tryz.prog 92 [(0,1),(1,1),(2,1),(3,1),(4,7),(11,1)]:=⟨_,Tryz.underlying92,fun _=>by simp[z92.size,QX.size,z9o.size,zaH.size,zbx.size,zcq.size,Sem.run_bind,Sem.run_pure]⟩
theorem MN:M6 Tryz.prog 97 0 0 1 false:=⟨_,_,_,_,_,Tryz.underlying97,rfl,rfl,LG,Tryz.underlying3,rfl⟩
theorem MS:M6 Tryz.prog 97 1 1 1 false:=⟨_,_,_,_,_,Tryz.underlying97,rfl,rfl,LG,Tryz.underlying3,rfl⟩
theorem zdH:SP Tryz.prog 97 [(0,1),(1,1)]:=⟨_,Tryz.underlying97,fun _=>by simp[LG.size,Sem.run_bind,Sem.run_pure]⟩
theorem z7D:M6 Tryz.prog 102 0 0 1 false:=⟨_,_,_,_,_,Tryz.underlying102,rfl,rfl,z0H,Tryz.underlying51,rfl⟩
theorem z7I:M6 Tryz.prog 102 1 1 1 false:=⟨_,_,_,_,_,Tryz.underlying102,rfl,rfl,LG,Tryz.underlying3,rfl⟩
theorem z7t:M6 Tryz.prog 102 2 2 1 false:=⟨_,_,_,_,_,Tryz.underlying102,rfl,rfl,SJ,Tryz.underlying5,rfl⟩
theorem UW:M6 Tryz.prog 104 0 0 1 false:=⟨_,_,_,_,_,Tryz.underlying104,rfl,rfl,LG,Tryz.underlying3,rfl⟩
theorem z7y:M6 Tryz.prog 104 1 1 3 true:=⟨_,_,_,_,_,Tryz.underlying104,rfl,rfl,z65,Tryz.underlying102,rfl⟩
theorem zbD:SP Tryz.prog 104 [(0,1),(1,3)]:=⟨_,Tryz.underlying104,fun _=>by simp[z65.size,LG.size,Sem.run_bind,Sem.run_pure]⟩
theorem S0:M6 Tryz.prog 107 0 0 4 true:=⟨_,_,_,_,_,Tryz.underlying107,rfl,rfl,z1X,Tryz.underlying104,rfl⟩
theorem V7:M6 Tryz.prog 107 1 4 2 true:=⟨_,_,_,_,_,Tryz.underlying107,rfl,rfl,z6i,Tryz.underlying69,rfl⟩
theorem Xx:M6 Tryz.prog 107 2 6 1 false:=⟨_,_,_,_,_,Tryz.underlying107,rfl,rfl,z8b,Tryz.underlying100,rfl⟩
theorem To:M6 Tryz.prog 107 3 7 1 false:=⟨_,_,_,_,_,Tryz.underlying107,rfl,rfl,z2H,Tryz.underlying105,rfl⟩
theorem XT:M6 Tryz.prog 107 4 8 1 false:=⟨_,_,_,_,_,Tryz.underlying107,rfl,rfl,QX,Tryz.underlying4,rfl⟩
theorem z1L:M6 Tryz.prog 107 5 9 1 false:=⟨_,_,_,_,_,Tryz.underlying107,rfl,rfl,LG,Tryz.underlying3,rfl⟩
theorem z2E:M6 Tryz.prog 107 6 10 1 false:=⟨_,_,_,_,_,Tryz.underlying107,rfl,rfl,LG,Tryz.underlying3,rfl⟩
theorem zc4:SP Tryz.prog 107 [(0,4),(4,2),(6,1),(7,1),(8,1),(9,1),(10,1)]:=⟨_,Tryz.underlying107,fun _=>by simp[z8b.size,z1X.size,z2H.size,LG.size,QX.size,z6i.size,Sem.run_bind,Sem.run_pure]⟩
theorem z1P:M6 Tryz.prog 110 0 0 1 false:=⟨_,_,_,_,_,Tryz.underlying110,rfl,rfl,LG,Tryz.underlying3,rfl⟩
theorem Q5:M6 Tryz.prog 110 1 1 1 false:=⟨_,_,_,_,_,Tryz.underlying110,rfl,rfl,z8h,Tryz.underlying108,rfl⟩
theorem z7l:M6 Tryz.prog 110 3 3 1 false:=⟨_,_,_,_,_,Tryz.underlying110,rfl,rfl,QX,Tryz.underlying4,rfl⟩
theorem zcK:SP Tryz.prog 110 [(0,1),(1,1),(2,1),(3,1)]:=⟨_,Tryz.underlying110,fun _=>by simp[z8h.size,LG.size,QX.size,Sem.run_bind,Sem.run_pure]⟩
theorem P7:M6 Tryz.prog 128 0 0 1 false:=⟨_,_,_,_,_,Tryz.underlying128,rfl,rfl,LG,Tryz.underlying3,rfl⟩
theorem XY:M6 Tryz.prog 128 1 1 1 false:=⟨_,_,_,_,_,Tryz.underlying128,rfl,rfl,LG,Tryz.underlying3,rfl⟩
theorem Th:M6 Tryz.prog 128 2 2 5 true:=⟨_,_,_,_,_,Tryz.underlying128,rfl,rfl,MP,Tryz.underlying77,rfl⟩
theorem PT:M6 Tryz.prog 128 3 7 1 false:=⟨_,_,_,_,_,Tryz.underlying128,rfl,rfl,LG,Tryz.underlying3,rfl⟩
theorem z8H:SP Tryz.prog 128 [(0,1),(1,1),(2,5),(7,1)]:=⟨_,Tryz.underlying128,fun _=>by simp[LG.size,MP.size,Sem.run_bind,Sem.run_pure]⟩
theorem RO:M6 Tryz.prog 133 0 0 8 true:=⟨_,_,_,_,_,Tryz.underlying133,rfl,rfl,OT,Tryz.underlying128,rfl⟩
theorem z7a:M6 Tryz.prog 133 1 8 1 false:=⟨_,_,_,_,_,Tryz.underlying133,rfl,rfl,Xg,Tryz.underlying130,rfl⟩
theorem z1F:M6 Tryz.prog 133 2 9 1 false:=⟨_,_,_,_,_,Tryz.underlying133,rfl,rfl,z7S,Tryz.underlying131,rfl⟩
theorem z9O:SP Tryz.prog 133 [(0,8),(8,1),(9,1)]:=⟨_,Tryz.underlying133,fun _=>by simp[OT.size,Xg.size,z7S.size,Sem.run_bind,Sem.run_pure]⟩
theorem Xu:M6 Tryz.prog 135 0 0 1 false:=⟨_,_,_,_,_,Tryz.underlying135,rfl,rfl,LG,Tryz.underlying3,rfl⟩
theorem QL:M6 Tryz.prog 135 1 1 1 false:=⟨_,_,_,_,_,Tryz.underlying135,rfl,rfl,LG,Tryz.underlying3,rfl⟩
theorem Tt:M6 Tryz.prog 135 2 2 1 false:=⟨_,_,_,_,_,Tryz.underlying135,rfl,rfl,LG,Tryz.underlying3,rfl⟩
theorem za3:SP Tryz.prog 135 [(0,1),(1,1),(2,1)]:=⟨_,Tryz.underlying135,fun _=>by simp[LG.size,Sem.run_bind,Sem.run_pure]⟩
theorem Ni:M6 Tryz.prog 137 0 0 3 true:=⟨_,_,_,_,_,Tryz.underlying137,rfl,rfl,Tp,Tryz.underlying135,rfl⟩
theorem UL:M6 Tryz.prog 137 1 3 2 true:=⟨_,_,_,_,_,Tryz.underlying137,rfl,rfl,Nh,Tryz.underlying97,rfl⟩
theorem RI:M6 Tryz.prog 137 2 5 1 false:=⟨_,_,_,_,_,Tryz.underlying137,rfl,rfl,z3Z,Tryz.underlying27,rfl⟩
theorem z2p:M6 Tryz.prog 137 3 6 1 false:=⟨_,_,_,_,_,Tryz.underlying137,rfl,rfl,QX,Tryz.underlying4,rfl⟩
theorem zba:SP Tryz.prog 137 [(0,3),(3,2),(5,1),(6,1)]:=⟨_,Tryz.underlying137,fun _=>by simp[Tp.size,z3Z.size,QX.size,Nh.size,Sem.run_bind,Sem.run_pure]⟩
theorem UH:M6 Tryz.prog 157 1 1 1 false:=⟨_,_,_,_,_,Tryz.underlying157,rfl,rfl,S6,Tryz.underlying151,rfl⟩
theorem LL:M6 Tryz.prog 165 0 0 1 false:=⟨_,_,_,_,_,Tryz.underlying165,rfl,rfl,z0H,Tryz.underlying51,rfl⟩
theorem SQ:M6 Tryz.prog 165 1 1 1 false:=⟨_,_,_,_,_,Tryz.underlying165,rfl,rfl,z1J,Tryz.underlying163,rfl⟩
theorem Nu:M6 Tryz.prog 167 0 0 1 false:=⟨_,_,_,_,_,Tryz.underlying167,rfl,rfl,LG,Tryz.underlying3,rfl⟩
theorem M9:M6 Tryz.prog 167 1 1 2 true:=⟨_,_,_,_,_,Tryz.underlying167,rfl,rfl,Yv,Tryz.underlying165,rfl⟩
theorem MF:M6 Tryz.prog 167 2 3 2 true:=⟨_,_,_,_,_,Tryz.underlying167,rfl,rfl,Yv,Tryz.underlying165,rfl⟩
theorem Mn:M6 Tryz.prog 167 3 5 2 true:=⟨_,_,_,_,_,Tryz.underlying167,rfl,rfl,Yv,Tryz.underlying165,rfl⟩
theorem MC:M6 Tryz.prog 167 4 7 2 true:=⟨_,_,_,_,_,Tryz.underlying167,rfl,rfl,Yv,Tryz.underlying165,rfl⟩
theorem MA:M6 Tryz.prog 167 5 9 1 false:=⟨_,_,_,_,_,Tryz.underlying167,rfl,rfl,LG,Tryz.underlying3,rfl⟩
theorem Va:M6 Tryz.prog 167 6 10 1 false:=⟨_,_,_,_,_,Tryz.underlying167,rfl,rfl,z1J,Tryz.underlying163,rfl⟩
theorem zb9:SP Tryz.prog 167 [(0,1),(1,2),(3,2),(5,2),(7,2),(9,1),(10,1)]:=⟨_,Tryz.underlying167,fun _=>by simp[z1J.size,Yv.size,LG.size,Sem.run_bind,Sem.run_pure]⟩
theorem Q4:M6 Tryz.prog 173 0 0 1 false:=⟨_,_,_,_,_,Tryz.underlying173,rfl,rfl,z3Z,Tryz.underlying27,rfl⟩
theorem Pa:M6 Tryz.prog 173 1 1 2 true:=⟨_,_,_,_,_,Tryz.underlying173,rfl,rfl,Nh,Tryz.underlying97,rfl⟩
theorem z7Y:SP Tryz.prog 173 [(0,1),(1,2)]:=⟨_,Tryz.underlying173,fun _=>by simp[z3Z.size,Nh.size,Sem.run_bind,Sem.run_pure]⟩
theorem Rw:M6 Tryz.prog 175 0 0 3 true:=⟨_,_,_,_,_,Tryz.underlying175,rfl,rfl,Rv,Tryz.underlying173,rfl⟩
theorem NT:M6 Tryz.prog 175 1 3 1 false:=⟨_,_,_,_,_,Tryz.underlying175,rfl,rfl,S6,Tryz.underlying151,rfl⟩
theorem SY:M6 Tryz.prog 175 2 4 1 false:=⟨_,_,_,_,_,Tryz.underlying175,rfl,rfl,LG,Tryz.underlying3,rfl⟩
theorem UO:M6 Tryz.prog 175 3 5 1 false:=⟨_,_,_,_,_,Tryz.underlying175,rfl,rfl,LG,Tryz.underlying3,rfl⟩
theorem Y1:M6 Tryz.prog 175 4 6 1 false:=⟨_,_,_,_,_,Tryz.underlying175,rfl,rfl,L8,Tryz.underlying46,rfl⟩
theorem UK:M6 Tryz.prog 175 5 7 1 false:=⟨_,_,_,_,_,Tryz.underlying175,rfl,rfl,z8T,Tryz.underlying62,rfl⟩
theorem T9:M6 Tryz.prog 175 6 8 1 false:=⟨_,_,_,_,_,Tryz.underlying175,rfl,rfl,QX,Tryz.underlying4,rfl⟩
theorem z8a:SP Tryz.prog 175 [(0,3),(3,1),(4,1),(5,1),(6,1),(7,1),(8,1)]:=⟨_,Tryz.underlying175,fun _=>by simp[S6.size,Rv.size,LG.size,QX.size,L8.size,z8T.size,Sem.run_bind,Sem.run_pure]⟩
theorem Te:M6 Tryz.prog 179 0 0 3 true:=⟨_,_,_,_,_,Tryz.underlying179,rfl,rfl,Rv,Tryz.underlying173,rfl⟩
theorem UY:M6 Tryz.prog 179 1 3 1 false:=⟨_,_,_,_,_,Tryz.underlying179,rfl,rfl,LG,Tryz.underlying3,rfl⟩
theorem z7e:M6 Tryz.prog 179 2 4 1 false:=⟨_,_,_,_,_,Tryz.underlying179,rfl,rfl,L8,Tryz.underlying46,rfl⟩
theorem zcl:SP Tryz.prog 179 [(0,3),(3,1),(4,1)]:=⟨_,Tryz.underlying179,fun _=>by simp[Rv.size,LG.size,L8.size,Sem.run_bind,Sem.run_pure]⟩
theorem Xw:M6 Tryz.prog 189 0 0 1 false:=⟨_,_,_,_,_,Tryz.underlying189,rfl,rfl,WR,Tryz.underlying9,rfl⟩
theorem XJ:M6 Tryz.prog 189 1 1 1 false:=⟨_,_,_,_,_,Tryz.underlying189,rfl,rfl,QX,Tryz.underlying4,rfl⟩
theorem zcP:SP Tryz.prog 189 [(0,1),(1,1)]:=⟨_,Tryz.underlying189,fun _=>by simp[QX.size,WR.size,Sem.run_bind,Sem.run_pure]⟩
theorem QJ:M6 Tryz.prog 191 0 0 2 true:=⟨_,_,_,_,_,Tryz.underlying191,rfl,rfl,z1R,Tryz.underlying189,rfl⟩
theorem z6K:M6 Tryz.prog 191 1 2 1 false:=⟨_,_,_,_,_,Tryz.underlying191,rfl,rfl,LG,Tryz.underlying3,rfl⟩
theorem zcp:SP Tryz.prog 191 [(0,2),(2,1)]:=⟨_,Tryz.underlying191,fun _=>by simp[z1R.size,LG.size,Sem.run_bind,Sem.run_pure]⟩
theorem z6F:M6 Tryz.prog 205 0 0 1 false:=⟨_,_,_,_,_,Tryz.underlying205,rfl,rfl,LG,Tryz.underlying3,rfl⟩
theorem z7C:M6 Tryz.prog 205 1 1 1 false:=⟨_,_,_,_,_,Tryz.underlying205,rfl,rfl,LG,Tryz.underlying3,rfl⟩
theorem Uh:SP Tryz.prog 205 [(0,1),(1,1)]:=⟨_,Tryz.underlying205,fun _=>by simp[LG.size,Sem.run_bind,Sem.run_pure]⟩
theorem SR:M6 Tryz.prog 210 0 0 1 false:=⟨_,_,_,_,_,Tryz.underlying210,rfl,rfl,LG,Tryz.underlying3,rfl⟩
theorem z6O:M6 Tryz.prog 210 1 1 1 false:=⟨_,_,_,_,_,Tryz.underlying210,rfl,rfl,PQ,Tryz.underlying41,rfl⟩
theorem Oo:M6 Tryz.prog 210 2 2 1 false:=⟨_,_,_,_,_,Tryz.underlying210,rfl,rfl,LG,Tryz.underlying3,rfl⟩
theorem SM:M6 Tryz.prog 210 3 3 1 false:=⟨_,_,_,_,_,Tryz.underlying210,rfl,rfl,LG,Tryz.underlying3,rfl⟩
theorem zaC:SP Tryz.prog 210 [(0,1),(1,1),(2,1),(3,1)]:=⟨_,Tryz.underlying210,fun _=>by simp[LG.size,PQ.size,Sem.run_bind,Sem.run_pure]⟩
theorem z6Y:M6 Tryz.prog 223 0 0 1 false:=⟨_,_,_,_,_,Tryz.underlying223,rfl,rfl,Xg,Tryz.underlying130,rfl⟩
theorem z7h:M6 Tryz.prog 223 1 1 1 false:=⟨_,_,_,_,_,Tryz.underlying223,rfl,rfl,LG,Tryz.underlying3,rfl⟩
theorem Xp:M6 Tryz.prog 223 2 2 1 false:=⟨_,_,_,_,_,Tryz.underlying223,rfl,rfl,LG,Tryz.underlying3,rfl⟩
theorem zcC:SP Tryz.prog 223 [(0,1),(1,1),(2,1)]:=⟨_,Tryz.underlying223,fun _=>by simp[Xg.size,LG.size,Sem.run_bind,Sem.run_pure]⟩
theorem z7K:M6 Tryz.prog 232 0 0 1 false:=⟨_,_,_,_,_,Tryz.underlying232,rfl,rfl,QX,Tryz.underlying4,rfl⟩
theorem z7B:M6 Tryz.prog 232 1 1 1 false:=⟨_,_,_,_,_,Tryz.underlying232,rfl,rfl,QX,Tryz.underlying4,rfl⟩
theorem Xv:M6 Tryz.prog 232 2 2 1 false:=⟨_,_,_,_,_,Tryz.underlying232,rfl,rfl,LG,Tryz.underlying3,rfl⟩
theorem QZ:SP Tryz.prog 232 [(0,1),(1,1),(2,1)]:=⟨_,Tryz.underlying232,fun _=>by simp[LG.size,QX.size,Sem.run_bind,Sem.run_pure]⟩
theorem Og:M6 Tryz.prog 239 0 0 1 false:=⟨_,_,_,_,_,Tryz.underlying239,rfl,rfl,LG,Tryz.underlying3,rfl⟩
theorem Nt:M6 Tryz.prog 239 1 1 1 false:=⟨_,_,_,_,_,Tryz.underlying239,rfl,rfl,LG,Tryz.underlying3,rfl⟩
theorem z5g:SP Tryz.prog 239 [(0,1),(1,1)]:=⟨_,Tryz.underlying239,fun _=>by simp[LG.size,Sem.run_bind,Sem.run_pure]⟩
theorem Od:M6 Tryz.prog 245 0 0 1 false:=⟨_,_,_,_,_,Tryz.underlying245,rfl,rfl,LG,Tryz.underlying3,rfl⟩
theorem P4:M6 Tryz.prog 245 1 1 1 false:=⟨_,_,_,_,_,Tryz.underlying245,rfl,rfl,LG,Tryz.underlying3,rfl⟩
theorem UJ:M6 Tryz.prog 245 2 2 1 false:=⟨_,_,_,_,_,Tryz.underlying245,rfl,rfl,LG,Tryz.underlying3,rfl⟩
theorem zcL:SP Tryz.prog 245 [(0,1),(1,1),(2,1)]:=⟨_,Tryz.underlying245,fun _=>by simp[LG.size,Sem.run_bind,Sem.run_pure]⟩
theorem Nw:M6 Tryz.prog 250 0 0 1 false:=⟨_,_,_,_,_,Tryz.underlying250,rfl,rfl,OI,Tryz.underlying45,rfl⟩
theorem Y0:M6 Tryz.prog 250 1 1 1 false:=⟨_,_,_,_,_,Tryz.underlying250,rfl,rfl,LG,Tryz.underlying3,rfl⟩
theorem z7P:SP Tryz.prog 250 [(0,1),(1,1)]:=⟨_,Tryz.underlying250,fun _=>by simp[LG.size,OI.size,Sem.run_bind,Sem.run_pure]⟩
theorem z25:M6 Tryz.prog 253 0 0 34 true:=⟨_,_,_,_,_,Tryz.underlying253,rfl,rfl,zaI,Tryz.underlying251,rfl⟩
theorem Qb:M6 Tryz.prog 253 1 34 1 false:=⟨_,_,_,_,_,Tryz.underlying253,rfl,rfl,LG,Tryz.underlying3,rfl⟩
theorem Ry:M6 Tryz.prog 255 0 0 5 true:=⟨_,_,_,_,_,Tryz.underlying255,rfl,rfl,MP,Tryz.underlying77,rfl⟩
theorem SZ:M6 Tryz.prog 255 1 5 35 true:=⟨_,_,_,_,_,Tryz.underlying255,rfl,rfl,z8e,Tryz.underlying253,rfl⟩
theorem Y7:M6 Tryz.prog 255 2 40 1 false:=⟨_,_,_,_,_,Tryz.underlying255,rfl,rfl,z2v,Tryz.underlying203,rfl⟩
theorem XZ:M6 Tryz.prog 255 3 41 1 false:=⟨_,_,_,_,_,Tryz.underlying255,rfl,rfl,LG,Tryz.underlying3,rfl⟩
theorem z7p:M6 Tryz.prog 255 4 42 1 false:=⟨_,_,_,_,_,Tryz.underlying255,rfl,rfl,LG,Tryz.underlying3,rfl⟩
theorem zb6:SP Tryz.prog 255 [(0,5),(5,35),(40,1),(41,1),(42,1)]:=⟨_,Tryz.underlying255,fun _=>by simp[z2v.size,z8e.size,LG.size,MP.size,Sem.run_bind,Sem.run_pure]⟩
theorem Ts:M6 Tryz.prog 262 0 0 1 false:=⟨_,_,_,_,_,Tryz.underlying262,rfl,rfl,S6,Tryz.underlying151,rfl⟩
theorem RN:M6 Tryz.prog 262 1 1 1 false:=⟨_,_,_,_,_,Tryz.underlying262,rfl,rfl,LG,Tryz.underlying3,rfl⟩
theorem zct:SP Tryz.prog 262 [(0,1),(1,1)]:=⟨_,Tryz.underlying262,fun _=>by simp[S6.size,LG.size,Sem.run_bind,Sem.run_pure]⟩
theorem NB:M6 Tryz.prog 271 0 0 4 true:=⟨_,_,_,_,_,Tryz.underlying271,rfl,rfl,On,Tryz.underlying210,rfl⟩
theorem XK:M6 Tryz.prog 271 1 4 1 false:=⟨_,_,_,_,_,Tryz.underlying271,rfl,rfl,Xg,Tryz.underlying130,rfl⟩
theorem zcR:SP Tryz.prog 271 [(0,4),(4,1)]:=⟨_,Tryz.underlying271,fun _=>by simp[Xg.size,On.size,Sem.run_bind,Sem.run_pure]⟩
theorem z6W:M6 Tryz.prog 289 0 0 1 false:=⟨_,_,_,_,_,Tryz.underlying289,rfl,rfl,X3,Tryz.underlying240,rfl⟩
theorem OM:M6 Tryz.prog 289 1 1 1 false:=⟨_,_,_,_,_,Tryz.underlying289,rfl,rfl,QX,Tryz.underlying4,rfl⟩
theorem zc6:SP Tryz.prog 289 [(0,1),(1,1)]:=⟨_,Tryz.underlying289,fun _=>by simp[X3.size,QX.size,Sem.run_bind,Sem.run_pure]⟩
theorem Y9:M6 Tryz.prog 293 0 0 1 false:=⟨_,_,_,_,_,Tryz.underlying293,rfl,rfl,WR,Tryz.underlying9,rfl⟩
theorem PV:M6 Tryz.prog 293 1 1 1 false:=⟨_,_,_,_,_,Tryz.underlying293,rfl,rfl,LG,Tryz.underlying3,rfl⟩
theorem zcv:SP Tryz.prog 293 [(0,1),(1,1)]:=⟨_,Tryz.underlying293,fun _=>by simp[LG.size,WR.size,Sem.run_bind,Sem.run_pure]⟩
theorem Nj:M6 Tryz.prog 298 0 0 1 false:=⟨_,_,_,_,_,Tryz.underlying298,rfl,rfl,SJ,Tryz.underlying5,rfl⟩
theorem RG:M6 Tryz.prog 298 1 1 1 false:=⟨_,_,_,_,_,Tryz.underlying298,rfl,rfl,PQ,Tryz.underlying41,rfl⟩
theorem z89:SP Tryz.prog 298 [(0,1),(1,1)]:=⟨_,Tryz.underlying298,fun _=>by simp[PQ.size,SJ.size,Sem.run_bind,Sem.run_pure]⟩
theorem z2D:M6 Tryz.prog 300 0 0 2 true:=⟨_,_,_,_,_,Tryz.underlying300,rfl,rfl,Mj,Tryz.underlying298,rfl⟩
theorem z1T:M6 Tryz.prog 300 1 2 1 false:=⟨_,_,_,_,_,Tryz.underlying300,rfl,rfl,PQ,Tryz.underlying41,rfl⟩
theorem z8u:SP Tryz.prog 300 [(0,2),(2,1)]:=⟨_,Tryz.underlying300,fun _=>by simp[Mj.size,PQ.size,Sem.run_bind,Sem.run_pure]⟩
theorem UU:M6 Tryz.prog 308 0 0 1 false:=⟨_,_,_,_,_,Tryz.underlying308,rfl,rfl,LG,Tryz.underlying3,rfl⟩
theorem Xq:M6 Tryz.prog 308 1 1 1 false:=⟨_,_,_,_,_,Tryz.underlying308,rfl,rfl,WR,Tryz.underlying9,rfl⟩
theorem zb5:SP Tryz.prog 308 [(0,1),(1,1)]:=⟨_,Tryz.underlying308,fun _=>by simp[LG.size,WR.size,Sem.run_bind,Sem.run_pure]⟩
theorem XL:M6 Tryz.prog 325 0 0 1 false:=⟨_,_,_,_,_,Tryz.underlying325,rfl,rfl,LG,Tryz.underlying3,rfl⟩
theorem z2x:M6 Tryz.prog 325 1 1 1 false:=⟨_,_,_,_,_,Tryz.underlying325,rfl,rfl,LG,Tryz.underlying3,rfl⟩
theorem zbN:SP Tryz.prog 325 [(0,1),(1,1)]:=⟨_,Tryz.underlying325,fun _=>by simp[LG.size,Sem.run_bind,Sem.run_pure]⟩
theorem z2y:M6 Tryz.prog 328 0 0 1 false:=⟨_,_,_,_,_,Tryz.underlying328,rfl,rfl,PQ,Tryz.underlying41,rfl⟩
theorem UI:M6 Tryz.prog 328 1 1 1 false:=⟨_,_,_,_,_,Tryz.underlying328,rfl,rfl,LG,Tryz.underlying3,rfl⟩
theorem z4K:SP Tryz.prog 328 [(0,1),(1,1)]:=⟨_,Tryz.underlying328,fun _=>by simp[LG.size,PQ.size,Sem.run_bind,Sem.run_pure]⟩
theorem z7b:M6 Tryz.prog 336 0 0 1 false:=⟨_,_,_,_,_,Tryz.underlying336,rfl,rfl,X3,Tryz.underlying240,rfl⟩
theorem UQ:M6 Tryz.prog 336 1 1 1 false:=⟨_,_,_,_,_,Tryz.underlying336,rfl,rfl,QX,Tryz.underlying4,rfl⟩
theorem zcN:SP Tryz.prog 336 [(0,1),(1,1)]:=⟨_,Tryz.underlying336,fun _=>by simp[X3.size,QX.size,Sem.run_bind,Sem.run_pure]⟩
theorem cf6:CF Tryz.prog 6:=⟨_,Tryz.func6,by kernel_rfl,rfl⟩
theorem cf7:CF Tryz.prog 7:=⟨_,Tryz.func7,by kernel_rfl,rfl⟩
theorem cf8:CF Tryz.prog 8:=⟨_,Tryz.func8,by kernel_rfl,rfl⟩
theorem cf9:CF Tryz.prog 9:=⟨_,Tryz.func9,by kernel_rfl,rfl⟩
theorem zcz:CF Tryz.prog 10:=⟨_,Tryz.func10,by kernel_rfl,rfl⟩
theorem z6Z:CF Tryz.prog 11:=⟨_,Tryz.func11,by kernel_rfl,rfl⟩
theorem zbq:CF Tryz.prog 12:=⟨_,Tryz.func12,by kernel_rfl,rfl⟩
theorem zd0:CF Tryz.prog 14:=⟨_,Tryz.func14,by kernel_rfl,rfl⟩
theorem ze1:CF Tryz.prog 15:=⟨_,Tryz.func15,by kernel_rfl,rfl⟩
theorem zdt:CF Tryz.prog 16:=⟨_,Tryz.func16,by kernel_rfl,rfl⟩
theorem zdJ:CF Tryz.prog 17:=⟨_,Tryz.func17,by kernel_rfl,rfl⟩
theorem z9T:CF Tryz.prog 18:=⟨_,Tryz.func18,by kernel_rfl,rfl⟩
theorem zdk:CF Tryz.prog 21:=⟨_,Tryz.func21,by kernel_rfl,rfl⟩
theorem ze7:CF Tryz.prog 22:=⟨_,Tryz.func22,by kernel_rfl,rfl⟩
theorem zcZ:CF Tryz.prog 23:=⟨_,Tryz.func23,by kernel_rfl,rfl⟩
theorem zah:CF Tryz.prog 24:=⟨_,Tryz.func24,by kernel_rfl,rfl⟩
theorem zay:CF Tryz.prog 25:=⟨_,Tryz.func25,by kernel_rfl,rfl⟩
theorem zdX:CF Tryz.prog 26:=⟨_,Tryz.func26,by kernel_rfl,rfl⟩
theorem z8Z:CF Tryz.prog 27:=⟨_,Tryz.func27,by kernel_rfl,rfl⟩
theorem ze2:CF Tryz.prog 28:=⟨_,Tryz.func28,by kernel_rfl,rfl⟩
theorem zbI:CF Tryz.prog 29:=⟨_,Tryz.func29,by kernel_rfl,rfl⟩
theorem zaB:CF Tryz.prog 30:=⟨_,Tryz.func30,by kernel_rfl,rfl⟩
theorem zem:CF Tryz.prog 31:=⟨_,Tryz.func31,by kernel_rfl,rfl⟩
theorem zby:CF Tryz.prog 32:=⟨_,Tryz.func32,by kernel_rfl,rfl⟩
theorem zep:CF Tryz.prog 33:=⟨_,Tryz.func33,by kernel_rfl,rfl⟩
theorem z9n:CF Tryz.prog 34:=⟨_,Tryz.func34,by kernel_rfl,rfl⟩
theorem zbb:CF Tryz.prog 35:=⟨_,Tryz.func35,by kernel_rfl,rfl⟩
theorem zdA:CF Tryz.prog 40:=⟨_,Tryz.func40,by kernel_rfl,rfl⟩
theorem zda:CF Tryz.prog 41:=⟨_,Tryz.func41,by kernel_rfl,rfl⟩
theorem zd5:CF Tryz.prog 42:=⟨_,Tryz.func42,by kernel_rfl,rfl⟩
theorem zd7:CF Tryz.prog 43:=⟨_,Tryz.func43,by kernel_rfl,rfl⟩
theorem YT:CF Tryz.prog 44:=⟨_,Tryz.func44,by kernel_rfl,rfl⟩
theorem zc2:CF Tryz.prog 45:=⟨_,Tryz.func45,by kernel_rfl,rfl⟩
theorem zed:CF Tryz.prog 46:=⟨_,Tryz.func46,by kernel_rfl,rfl⟩
theorem zdc:CF Tryz.prog 47:=⟨_,Tryz.func47,by kernel_rfl,rfl⟩
theorem zei:CF Tryz.prog 48:=⟨_,Tryz.func48,by kernel_rfl,rfl⟩
theorem zdg:CF Tryz.prog 49:=⟨_,Tryz.func49,by kernel_rfl,rfl⟩
theorem zdO:CF Tryz.prog 50:=⟨_,Tryz.func50,by kernel_rfl,rfl⟩
theorem zaq:CF Tryz.prog 51:=⟨_,Tryz.func51,by kernel_rfl,rfl⟩
theorem zej:CF Tryz.prog 52:=⟨_,Tryz.func52,by kernel_rfl,rfl⟩
theorem z7A:CF Tryz.prog 53:=⟨_,Tryz.func53,by kernel_rfl,rfl⟩
theorem zaP:CF Tryz.prog 54:=⟨_,Tryz.func54,by kernel_rfl,rfl⟩
theorem z9x:CF Tryz.prog 55:=⟨_,Tryz.func55,by kernel_rfl,rfl⟩
theorem z9h:CF Tryz.prog 56:=⟨_,Tryz.func56,by kernel_rfl,rfl⟩
theorem zdp:CF Tryz.prog 57:=⟨_,Tryz.func57,by kernel_rfl,rfl⟩
theorem zd2:CF Tryz.prog 58:=⟨_,Tryz.func58,by kernel_rfl,rfl⟩
theorem z9N:CF Tryz.prog 59:=⟨_,Tryz.func59,by kernel_rfl,rfl⟩
theorem z6N:CF Tryz.prog 60:=⟨_,Tryz.func60,by kernel_rfl,rfl⟩
theorem z96:CF Tryz.prog 61:=⟨_,Tryz.func61,by kernel_rfl,rfl⟩
theorem zdz:CF Tryz.prog 62:=⟨_,Tryz.func62,by kernel_rfl,rfl⟩
theorem zaR:CF Tryz.prog 63:=⟨_,Tryz.func63,by kernel_rfl,rfl⟩
theorem zdb:CF Tryz.prog 64:=⟨_,Tryz.func64,by kernel_rfl,rfl⟩
theorem zdD:CF Tryz.prog 65:=⟨_,Tryz.func65,by kernel_rfl,rfl⟩
theorem zdU:CF Tryz.prog 67:=⟨_,Tryz.func67,by kernel_rfl,rfl⟩
theorem zdl:CF Tryz.prog 68:=⟨_,Tryz.func68,by kernel_rfl,rfl⟩
theorem zds:CF Tryz.prog 69:=⟨_,Tryz.func69,by kernel_rfl,rfl⟩
theorem ze6:CF Tryz.prog 70:=⟨_,Tryz.func70,by kernel_rfl,rfl⟩
theorem z94:CF Tryz.prog 71:=⟨_,Tryz.func71,by kernel_rfl,rfl⟩
theorem zd3:CF Tryz.prog 72:=⟨_,Tryz.func72,by kernel_rfl,rfl⟩
theorem zbY:CF Tryz.prog 73:=⟨_,Tryz.func73,by kernel_rfl,rfl⟩
theorem zbm:CF Tryz.prog 74:=⟨_,Tryz.func74,by kernel_rfl,rfl⟩
theorem z9c:CF Tryz.prog 75:=⟨_,Tryz.func75,by kernel_rfl,rfl⟩
theorem z9Z:CF Tryz.prog 76:=⟨_,Tryz.func76,by kernel_rfl,rfl⟩
theorem zdf:CF Tryz.prog 77:=⟨_,Tryz.func77,by kernel_rfl,rfl⟩
theorem zce:CF Tryz.prog 78:=⟨_,Tryz.func78,by kernel_rfl,rfl⟩
theorem zaK:CF Tryz.prog 79:=⟨_,Tryz.func79,by kernel_rfl,rfl⟩
theorem zbc:CF Tryz.prog 80:=⟨_,Tryz.func80,by kernel_rfl,rfl⟩
theorem zaF:CF Tryz.prog 81:=⟨_,Tryz.func81,by kernel_rfl,rfl⟩
theorem zde:CF Tryz.prog 82:=⟨_,Tryz.func82,by kernel_rfl,rfl⟩
theorem zdL:CF Tryz.prog 83:=⟨_,Tryz.func83,by kernel_rfl,rfl⟩
theorem zdr:CF Tryz.prog 84:=⟨_,Tryz.func84,by kernel_rfl,rfl⟩
theorem zbZ:CF Tryz.prog 89:=⟨_,Tryz.func89,by kernel_rfl,rfl⟩
theorem zcW:CF Tryz.prog 90:=⟨_,Tryz.func90,by kernel_rfl,rfl⟩
theorem zdi:CF Tryz.prog 91:=⟨_,Tryz.func91,by kernel_rfl,rfl⟩
theorem zd6:CF Tryz.prog 92:=⟨_,Tryz.func92,by kernel_rfl,rfl⟩
theorem ze8:CF Tryz.prog 93:=⟨_,Tryz.func93,by kernel_rfl,rfl⟩
theorem zdV:CF Tryz.prog 94:=⟨_,Tryz.func94,by kernel_rfl,rfl⟩
theorem zea:CF Tryz.prog 95:=⟨_,Tryz.func95,by kernel_rfl,rfl⟩
theorem zdn:CF Tryz.prog 96:=⟨_,Tryz.func96,by kernel_rfl,rfl⟩
theorem zdy:CF Tryz.prog 97:=⟨_,Tryz.func97,by kernel_rfl,rfl⟩
theorem zdh:CF Tryz.prog 98:=⟨_,Tryz.func98,by kernel_rfl,rfl⟩
theorem zek:CF Tryz.prog 99:=⟨_,Tryz.func99,by kernel_rfl,rfl⟩
theorem zbl:CF Tryz.prog 100:=⟨_,Tryz.func100,by kernel_rfl,rfl⟩
theorem z6c:CF Tryz.prog 101:=⟨_,Tryz.func101,by kernel_rfl,rfl⟩
theorem Vf:CF Tryz.prog 102:=⟨_,Tryz.func102,by kernel_rfl,rfl⟩
theorem Rt:CF Tryz.prog 103:=⟨_,Tryz.func103,by kernel_rfl,rfl⟩
theorem z2G:CF Tryz.prog 104:=⟨_,Tryz.func104,by kernel_rfl,rfl⟩
theorem zcJ:CF Tryz.prog 105:=⟨_,Tryz.func105,by kernel_rfl,rfl⟩
theorem z5z:CF Tryz.prog 106:=⟨_,Tryz.func106,by kernel_rfl,rfl⟩
theorem WL:CF Tryz.prog 107:=⟨_,Tryz.func107,by kernel_rfl,rfl⟩
theorem z7U:CF Tryz.prog 108:=⟨_,Tryz.func108,by kernel_rfl,rfl⟩
theorem z8f:CF Tryz.prog 109:=⟨_,Tryz.func109,by kernel_rfl,rfl⟩
theorem YD:CF Tryz.prog 110:=⟨_,Tryz.func110,by kernel_rfl,rfl⟩
theorem zcc:CF Tryz.prog 111:=⟨_,Tryz.func111,by kernel_rfl,rfl⟩
theorem zaS:CF Tryz.prog 112:=⟨_,Tryz.func112,by kernel_rfl,rfl⟩
theorem zaG:CF Tryz.prog 113:=⟨_,Tryz.func113,by kernel_rfl,rfl⟩
theorem zbK:CF Tryz.prog 114:=⟨_,Tryz.func114,by kernel_rfl,rfl⟩
theorem zax:CF Tryz.prog 115:=⟨_,Tryz.func115,by kernel_rfl,rfl⟩
theorem za0:CF Tryz.prog 116:=⟨_,Tryz.func116,by kernel_rfl,rfl⟩
theorem z9M:CF Tryz.prog 117:=⟨_,Tryz.func117,by kernel_rfl,rfl⟩
theorem zcu:CF Tryz.prog 118:=⟨_,Tryz.func118,by kernel_rfl,rfl⟩
theorem zcS:CF Tryz.prog 121:=⟨_,Tryz.func121,by kernel_rfl,rfl⟩
theorem zbo:CF Tryz.prog 123:=⟨_,Tryz.func123,by kernel_rfl,rfl⟩
theorem za8:CF Tryz.prog 125:=⟨_,Tryz.func125,by kernel_rfl,rfl⟩
theorem zcb:CF Tryz.prog 126:=⟨_,Tryz.func126,by kernel_rfl,rfl⟩
theorem zau:CF Tryz.prog 127:=⟨_,Tryz.func127,by kernel_rfl,rfl⟩
theorem z9V:CF Tryz.prog 128:=⟨_,Tryz.func128,by kernel_rfl,rfl⟩
theorem z7X:CF Tryz.prog 129:=⟨_,Tryz.func129,by kernel_rfl,rfl⟩
theorem zcm:CF Tryz.prog 130:=⟨_,Tryz.func130,by kernel_rfl,rfl⟩
theorem zb3:CF Tryz.prog 131:=⟨_,Tryz.func131,by kernel_rfl,rfl⟩
theorem VD:CF Tryz.prog 132:=⟨_,Tryz.func132,by kernel_rfl,rfl⟩
theorem Tn:CF Tryz.prog 133:=⟨_,Tryz.func133,by kernel_rfl,rfl⟩
theorem z7W:CF Tryz.prog 135:=⟨_,Tryz.func135,by kernel_rfl,rfl⟩
theorem Zb:CF Tryz.prog 136:=⟨_,Tryz.func136,by kernel_rfl,rfl⟩
theorem zbU:CF Tryz.prog 137:=⟨_,Tryz.func137,by kernel_rfl,rfl⟩
theorem z2h:CF Tryz.prog 138:=⟨_,Tryz.func138,by kernel_rfl,rfl⟩
theorem z8G:CF Tryz.prog 139:=⟨_,Tryz.func139,by kernel_rfl,rfl⟩
theorem zbR:CF Tryz.prog 140:=⟨_,Tryz.func140,by kernel_rfl,rfl⟩
theorem zbi:CF Tryz.prog 141:=⟨_,Tryz.func141,by kernel_rfl,rfl⟩
theorem zbs:CF Tryz.prog 142:=⟨_,Tryz.func142,by kernel_rfl,rfl⟩
theorem WY:CF Tryz.prog 143:=⟨_,Tryz.func143,by kernel_rfl,rfl⟩
theorem zbX:CF Tryz.prog 144:=⟨_,Tryz.func144,by kernel_rfl,rfl⟩
theorem z2B:CF Tryz.prog 145:=⟨_,Tryz.func145,by kernel_rfl,rfl⟩
theorem Ue:CF Tryz.prog 146:=⟨_,Tryz.func146,by kernel_rfl,rfl⟩
theorem YM:CF Tryz.prog 147:=⟨_,Tryz.func147,by kernel_rfl,rfl⟩
theorem za1:CF Tryz.prog 148:=⟨_,Tryz.func148,by kernel_rfl,rfl⟩
theorem z1Y:CF Tryz.prog 149:=⟨_,Tryz.func149,by kernel_rfl,rfl⟩
theorem z8l:CF Tryz.prog 150:=⟨_,Tryz.func150,by kernel_rfl,rfl⟩
theorem z81:CF Tryz.prog 151:=⟨_,Tryz.func151,by kernel_rfl,rfl⟩
theorem Sf:CF Tryz.prog 152:=⟨_,Tryz.func152,by kernel_rfl,rfl⟩
theorem NP:CF Tryz.prog 153:=⟨_,Tryz.func153,by kernel_rfl,rfl⟩
theorem zaW:CF Tryz.prog 154:=⟨_,Tryz.func154,by kernel_rfl,rfl⟩
theorem zck:CF Tryz.prog 155:=⟨_,Tryz.func155,by kernel_rfl,rfl⟩
theorem Ol:CF Tryz.prog 157:=⟨_,Tryz.func157,by kernel_rfl,rfl⟩
theorem T5:CF Tryz.prog 158:=⟨_,Tryz.func158,by kernel_rfl,rfl⟩
theorem z8t:CF Tryz.prog 159:=⟨_,Tryz.func159,by kernel_rfl,rfl⟩
theorem Vk:CF Tryz.prog 160:=⟨_,Tryz.func160,by kernel_rfl,rfl⟩
theorem z5D:CF Tryz.prog 161:=⟨_,Tryz.func161,by kernel_rfl,rfl⟩
theorem zbu:CF Tryz.prog 162:=⟨_,Tryz.func162,by kernel_rfl,rfl⟩
theorem z7Z:CF Tryz.prog 163:=⟨_,Tryz.func163,by kernel_rfl,rfl⟩
theorem z7R:CF Tryz.prog 164:=⟨_,Tryz.func164,by kernel_rfl,rfl⟩
theorem zbv:CF Tryz.prog 165:=⟨_,Tryz.func165,by kernel_rfl,rfl⟩
theorem zcO:CF Tryz.prog 166:=⟨_,Tryz.func166,by kernel_rfl,rfl⟩
theorem z8j:CF Tryz.prog 167:=⟨_,Tryz.func167,by kernel_rfl,rfl⟩
theorem ZV:CF Tryz.prog 168:=⟨_,Tryz.func168,by kernel_rfl,rfl⟩
theorem z1Z:CF Tryz.prog 169:=⟨_,Tryz.func169,by kernel_rfl,rfl⟩
theorem YA:CF Tryz.prog 170:=⟨_,Tryz.func170,by kernel_rfl,rfl⟩
theorem zc9:CF Tryz.prog 171:=⟨_,Tryz.func171,by kernel_rfl,rfl⟩
theorem zbC:CF Tryz.prog 172:=⟨_,Tryz.func172,by kernel_rfl,rfl⟩
theorem z5w:CF Tryz.prog 173:=⟨_,Tryz.func173,by kernel_rfl,rfl⟩
theorem zaO:CF Tryz.prog 174:=⟨_,Tryz.func174,by kernel_rfl,rfl⟩
theorem z7N:CF Tryz.prog 175:=⟨_,Tryz.func175,by kernel_rfl,rfl⟩
theorem z8s:CF Tryz.prog 176:=⟨_,Tryz.func176,by kernel_rfl,rfl⟩
theorem z9R:CF Tryz.prog 177:=⟨_,Tryz.func177,by kernel_rfl,rfl⟩
theorem za5:CF Tryz.prog 178:=⟨_,Tryz.func178,by kernel_rfl,rfl⟩
theorem zbf:CF Tryz.prog 179:=⟨_,Tryz.func179,by kernel_rfl,rfl⟩
theorem zam:CF Tryz.prog 180:=⟨_,Tryz.func180,by kernel_rfl,rfl⟩
theorem z8r:CF Tryz.prog 181:=⟨_,Tryz.func181,by kernel_rfl,rfl⟩
theorem z8y:CF Tryz.prog 182:=⟨_,Tryz.func182,by kernel_rfl,rfl⟩
theorem zav:CF Tryz.prog 183:=⟨_,Tryz.func183,by kernel_rfl,rfl⟩
theorem z9W:CF Tryz.prog 184:=⟨_,Tryz.func184,by kernel_rfl,rfl⟩
theorem zbw:CF Tryz.prog 185:=⟨_,Tryz.func185,by kernel_rfl,rfl⟩
theorem za6:CF Tryz.prog 186:=⟨_,Tryz.func186,by kernel_rfl,rfl⟩
theorem zbk:CF Tryz.prog 187:=⟨_,Tryz.func187,by kernel_rfl,rfl⟩
theorem z7Q:CF Tryz.prog 188:=⟨_,Tryz.func188,by kernel_rfl,rfl⟩
theorem z86:CF Tryz.prog 189:=⟨_,Tryz.func189,by kernel_rfl,rfl⟩
theorem z62:CF Tryz.prog 190:=⟨_,Tryz.func190,by kernel_rfl,rfl⟩
theorem zc1:CF Tryz.prog 191:=⟨_,Tryz.func191,by kernel_rfl,rfl⟩
theorem zch:CF Tryz.prog 192:=⟨_,Tryz.func192,by kernel_rfl,rfl⟩
theorem zcB:CF Tryz.prog 193:=⟨_,Tryz.func193,by kernel_rfl,rfl⟩
theorem zaV:CF Tryz.prog 194:=⟨_,Tryz.func194,by kernel_rfl,rfl⟩
theorem Ti:CF Tryz.prog 195:=⟨_,Tryz.func195,by kernel_rfl,rfl⟩
theorem zaX:CF Tryz.prog 196:=⟨_,Tryz.func196,by kernel_rfl,rfl⟩
theorem YF:CF Tryz.prog 197:=⟨_,Tryz.func197,by kernel_rfl,rfl⟩
theorem zac:CF Tryz.prog 198:=⟨_,Tryz.func198,by kernel_rfl,rfl⟩
theorem z7O:CF Tryz.prog 199:=⟨_,Tryz.func199,by kernel_rfl,rfl⟩
theorem zaL:CF Tryz.prog 200:=⟨_,Tryz.func200,by kernel_rfl,rfl⟩
theorem z8d:CF Tryz.prog 201:=⟨_,Tryz.func201,by kernel_rfl,rfl⟩
theorem z8C:CF Tryz.prog 202:=⟨_,Tryz.func202,by kernel_rfl,rfl⟩
theorem zcy:CF Tryz.prog 203:=⟨_,Tryz.func203,by kernel_rfl,rfl⟩
theorem zcn:CF Tryz.prog 204:=⟨_,Tryz.func204,by kernel_rfl,rfl⟩
theorem zan:CF Tryz.prog 205:=⟨_,Tryz.func205,by kernel_rfl,rfl⟩
theorem zbO:CF Tryz.prog 206:=⟨_,Tryz.func206,by kernel_rfl,rfl⟩
theorem Zn:CF Tryz.prog 207:=⟨_,Tryz.func207,by kernel_rfl,rfl⟩
theorem zbF:CF Tryz.prog 208:=⟨_,Tryz.func208,by kernel_rfl,rfl⟩
theorem zb8:CF Tryz.prog 209:=⟨_,Tryz.func209,by kernel_rfl,rfl⟩
theorem z8x:CF Tryz.prog 210:=⟨_,Tryz.func210,by kernel_rfl,rfl⟩
theorem X4:CF Tryz.prog 211:=⟨_,Tryz.func211,by kernel_rfl,rfl⟩
theorem z8M:CF Tryz.prog 212:=⟨_,Tryz.func212,by kernel_rfl,rfl⟩
theorem z5N:CF Tryz.prog 213:=⟨_,Tryz.func213,by kernel_rfl,rfl⟩
theorem z8c:CF Tryz.prog 214:=⟨_,Tryz.func214,by kernel_rfl,rfl⟩
theorem zcA:CF Tryz.prog 215:=⟨_,Tryz.func215,by kernel_rfl,rfl⟩
theorem zbJ:CF Tryz.prog 216:=⟨_,Tryz.func216,by kernel_rfl,rfl⟩
theorem z9Q:CF Tryz.prog 217:=⟨_,Tryz.func217,by kernel_rfl,rfl⟩
theorem z8g:CF Tryz.prog 218:=⟨_,Tryz.func218,by kernel_rfl,rfl⟩
theorem z5q:CF Tryz.prog 219:=⟨_,Tryz.func219,by kernel_rfl,rfl⟩
theorem zap:CF Tryz.prog 220:=⟨_,Tryz.func220,by kernel_rfl,rfl⟩
theorem z2l:CF Tryz.prog 221:=⟨_,Tryz.func221,by kernel_rfl,rfl⟩
theorem zcf:CF Tryz.prog 222:=⟨_,Tryz.func222,by kernel_rfl,rfl⟩
theorem zcQ:CF Tryz.prog 223:=⟨_,Tryz.func223,by kernel_rfl,rfl⟩
theorem zbW:CF Tryz.prog 224:=⟨_,Tryz.func224,by kernel_rfl,rfl⟩
theorem zbB:CF Tryz.prog 225:=⟨_,Tryz.func225,by kernel_rfl,rfl⟩
theorem zcU:CF Tryz.prog 226:=⟨_,Tryz.func226,by kernel_rfl,rfl⟩
theorem z9I:CF Tryz.prog 227:=⟨_,Tryz.func227,by kernel_rfl,rfl⟩
theorem zae:CF Tryz.prog 228:=⟨_,Tryz.func228,by kernel_rfl,rfl⟩
theorem QS:CF Tryz.prog 229:=⟨_,Tryz.func229,by kernel_rfl,rfl⟩
theorem z9J:CF Tryz.prog 230:=⟨_,Tryz.func230,by kernel_rfl,rfl⟩
theorem zcx:CF Tryz.prog 231:=⟨_,Tryz.func231,by kernel_rfl,rfl⟩
theorem z8L:CF Tryz.prog 233:=⟨_,Tryz.func233,by kernel_rfl,rfl⟩
theorem zaa:CF Tryz.prog 234:=⟨_,Tryz.func234,by kernel_rfl,rfl⟩
theorem z9Y:CF Tryz.prog 235:=⟨_,Tryz.func235,by kernel_rfl,rfl⟩
theorem zbT:CF Tryz.prog 237:=⟨_,Tryz.func237,by kernel_rfl,rfl⟩
theorem zab:CF Tryz.prog 238:=⟨_,Tryz.func238,by kernel_rfl,rfl⟩
theorem z5K:CF Tryz.prog 239:=⟨_,Tryz.func239,by kernel_rfl,rfl⟩
theorem zbj:CF Tryz.prog 261:=⟨_,Tryz.func261,by kernel_rfl,rfl⟩
theorem zc7:CF Tryz.prog 262:=⟨_,Tryz.func262,by kernel_rfl,rfl⟩
theorem zar:CF Tryz.prog 264:=⟨_,Tryz.func264,by kernel_rfl,rfl⟩
theorem zcE:CF Tryz.prog 265:=⟨_,Tryz.func265,by kernel_rfl,rfl⟩
set_option linter.all false
section
variable {D:RC}{l:List Oper}{e:Env}{w w':World}{d:Nat}{op:Op}{ty:TypeId}{pos:String}{aft:Array Edge}{g:Option (Nat×Bool)}{v:Value}
theorem qV (hy:Y D.C.P e ⟨some d,op,ty,pos,aft,g⟩ v w w')(h:RL D l ((d,v)::e) w')(ho:QO D e g true=true:=by exact rfl)(hd:Nat.blt d D.C.n=true:=by exact rfl):RL D (⟨some d,op,ty,pos,aft,g⟩::l) e w:=z5A ho hd hy h
theorem qS (h:RL D l ((d,undef)::e) w)(ho:QO D e g false=true:=by exact rfl)(hd:Nat.blt d D.C.n=true:=by exact rfl):RL D (⟨some d,op,ty,pos,aft,g⟩::l) e w:=zcw ho hd h
theorem An {x:Operand}(hx:look e x=some v)(h:RL D l ((d,v)::e) w)(ho:QO D e g true=true:=by exact rfl)(hd:Nat.blt d D.C.n=true:=by exact rfl):RL D (⟨some d,.move x,ty,pos,aft,g⟩::l) e w:=z5A ho hd (KW hx) h
theorem KO {x:Operand}(hx:look e x=some v)(h:RL D l ((d,v)::e) w)(ho:QO D e g true=true:=by exact rfl)(hd:Nat.blt d D.C.n=true:=by exact rfl):RL D (⟨some d,.assign x,ty,pos,aft,g⟩::l) e w:=z5A ho hd (MO hx) h
theorem LH {x y:Operand}{t t':TypeId}{a b:Int}(hx:look e x=some (I a))(hy:look e y=some (I b))(h:RL D l ((d,I (a+b))::e) w)(hb: -9223372036854775808<=a+b/\a+b<=9223372036854775807:=by omega)(ho:QO D e g true=true:=by exact rfl)(hd:Nat.blt d D.C.n=true:=by exact rfl):RL D (⟨some d,.binOp .add t x y t',ty,pos,aft,g⟩::l) e w:=z5A ho hd (PM hx hy hb) h
theorem La {f:FuncId}{vs:List Value}{S:Value->World->Prop}{ts:Array TypeId}(args:List Operand)(hf:CF D.C.P f)(ha:looks e args=some vs)(hc:Lk D.C.P f vs w S)(h:∀v w',S v w'->RL D l ((d,v)::e) w')(ho:QO D e g true=true:=by exact rfl)(hd:Nat.blt d D.C.n=true:=by exact rfl):RL D (⟨some d,.call ⟨.value (.func f),args.toArray,ts⟩,ty,pos,aft,g⟩::l) e w:=Mi ho hd (yc hf ha) hc h
theorem MR {p:Prop}[hp:Decidable p](hr:RL D l ((d,.bool true)::e) w)(h:p:=by first|rfl|assumption|omega|decide):RL D l ((d,.bool (decide p))::e) w:=zbP h hr
theorem Ly {p:Prop}[hp:Decidable p](hr:RL D l ((d,.bool false)::e) w)(h:¬p:=by first|exact fun h=>h rfl|assumption|omega):RL D l ((d,.bool (decide p))::e) w:=z9G h hr
def z5Y:Value->Bool
  | .pointer (some _)=>true
  | .func (.func _) _ _=>true
  |_=>false
theorem L6 {P:Program}{d:Option Nat}{x:Operand}(hx:look e x=some v)(hv:z5Y v=true:=by exact rfl):Y P e ⟨d,.nilCheck x,ty,pos,aft,g⟩ v w w:=by
  unfold z5Y at hv
  split at hv
  · exact ync hx
  · exact zdj hx
  · cases hv
end
section
variable {C:Cx}{k:List Item}{e e':Env}{w:World}{id:Nat}{ops:List Oper}{y:Code}
theorem qR' {ho:QG C.n ops=true}(h:RL ⟨C,ops,k,ho⟩ ops e w):Ll C (.code (.region id ops.toArray false)::k) e w:=KQ ho h
theorem qN {x:Code}(ho:QG C.n ops=true)(h:RL ⟨C,ops,.code x::k,ho⟩ ops e w):Ll C (.code (.seq (.region id ops.toArray false) x)::k) e w:=run_seq (KQ ho h)
theorem MV {α:Type}{c:Code}(x0:α)(E:α->Env)(I:α->World->Prop)(μ:α->Nat)(hI:I x0 w)(round:∀x w,I x w->(∀y w',I y w'->μ y<μ x->Ll C (.inLoop c::k) (E y) w')->Ll C (.code c:: .inLoop c::k) (E x) w)(hE:Sub (E x0) e:=by repeat (first|exact Sub.nil|refine Sub.cons rfl ?_)):Ll C (.code (.loop c)::k) e w:=z5T x0 E I μ hE hI round
theorem Ll.qb (h:Ll C k e w)(hs:Sub e e':=by repeat (first|exact Sub.nil|refine Sub.cons rfl ?_)):Ll C k e' w:=h.sub hs
end
section
variable {D:RC}{k:List Item}{e:Env}{w:World}{id:Nat}{ops:List Oper}{x:Code}
theorem qM {C:Cx}{ops0:List Oper}{h0:QG C.n ops0=true}(ho:QG C.n ops=true)(h:RL ⟨C,ops,.code x::k,ho⟩ ops e w):RL ⟨C,ops0,.code (.seq (.region id ops.toArray false) x)::k,h0⟩ [] e w:=py (run_seq (KQ ho h))
end
section
variable {D:RC}{late:List Nat}{S:World->Prop}{e:Env}{w w':World}{d fuel:Nat}{op:Op}{ty:TypeId}{pos:String}{aft:Array Edge}{g:Option (Nat×Bool)}{listed:Array Bool}{v:Value}
theorem qT (i:Nat)(hi:D.ops[i]? =some ⟨some d,op,ty,pos,aft,g⟩)(hy:∀w,S w->Y D.C.P e ⟨some d,op,ty,pos,aft,g⟩ v w w)(hS:S w)(h:RH D S fuel (listed.setIfInBounds i true) ((d,v)::e) w)
    (hf:ON D.ops listed i=true:=by kernel_rfl) (ho:QO D e g true=true:=by exact rfl) (hd:Nat.blt d D.C.n=true:=by exact rfl):RH D S (fuel+1) listed e w:=z8m hi hf ho hd hy hS h
theorem KR (i:Nat)(hi:D.ops[i]? =some ⟨some d,op,ty,pos,aft,g⟩)(hy:∀{w},Y D.C.P e ⟨some d,op,ty,pos,aft,g⟩ v w w)(hS:S w)(h:RH D S fuel (listed.setIfInBounds i true) ((d,v)::e) w)
    (hf:ON D.ops listed i=true:=by kernel_rfl) (ho:QO D e g true=true:=by exact rfl) (hd:Nat.blt d D.C.n=true:=by exact rfl):RH D S (fuel+1) listed e w:=z8m hi hf ho hd (fun _ _=>hy) hS h
theorem OL {p:Prop}[hp:Decidable p](hr:RH D S fuel listed ((d,.bool true)::e) w)(h:p:=by first|rfl|assumption|omega|decide):RH D S fuel listed ((d,.bool (decide p))::e) w:=zb0 h hr
theorem PA {p:Prop}[hp:Decidable p](hr:RH D S fuel listed ((d,.bool false)::e) w)(h:¬p:=by first|exact fun h=>h rfl|assumption|omega):RH D S fuel listed ((d,.bool (decide p))::e) w:=z9v h hr
theorem qJ (i:Nat)(hi:D.ops[i]? =some ⟨some d,op,ty,pos,aft,g⟩)(hS:S w)(h:RH D S fuel (listed.setIfInBounds i true) ((d,undef)::e) w)
    (hf:ON D.ops listed i=true:=by kernel_rfl) (ho:QO D e g false=true:=by exact rfl) (hd:Nat.blt d D.C.n=true:=by exact rfl):RH D S (fuel+1) listed e w:=zaY hi hf ho hd hS h
theorem qO (i:Nat)(h:Nx D S fuel listed e w i)(hr:Ny D.ops listed [i]=true:=by kernel_rfl):RH D S (fuel+1) listed e w:=zb7 hr h
theorem O2 {f:FuncId}{vs:List Value}{T:Value->World->Prop}{ts:Array TypeId}(i:Nat)(args:List Operand)(hi:D.ops[i]? =some ⟨some d,.call ⟨.value (.func f),args.toArray,ts⟩,ty,pos,aft,g⟩)(hf:CF D.C.P f)(ha:looks e args=some vs)(hc:Lk D.C.P f vs w T)(h:∀v w',T v w'->S w'/\RH D S fuel (listed.setIfInBounds i true) ((d,v)::e) w')
    (hr:Ny D.ops listed [i]=true:=by kernel_rfl) (ho:QO D e g true=true:=by exact rfl) (hd:Nat.blt d D.C.n=true:=by exact rfl):RH D S (fuel+1) listed e w:=zb7 hr (Rj hi ho hd (yc hf ha) hc h)
theorem qE (h:Ll D.C D.k e w)(hr:Ny D.ops listed []=true:=by kernel_rfl):RH D S fuel listed e w:=ze3 hr h
theorem qL (dn:List Nat)(i:Nat)(hi:D.ops[i]? =some ⟨some d,op,ty,pos,aft,g⟩)(hy:∀w,S w->Y D.C.P e ⟨some d,op,ty,pos,aft,g⟩ v w w)(hS:S w)(h:RHL D late S fuel (listed.setIfInBounds i true) ((d,v)::e) w)
    (hf:(ON D.ops listed i&&waits D.ops listed late dn i)=true:=by kernel_rfl) (ho:QO D e g true=true:=by exact rfl) (hd:Nat.blt d D.C.n=true:=by exact rfl):RHL D late S (fuel+1) listed e w:=z9y dn hi hf ho hd hy hS h
end
theorem ML {α:Type}{a b:α}(h:some a=some b):a=b:=Option.some.inj h
def U2:=Tryz.underlying2
def U3:=Tryz.underlying3
def U4:=Tryz.underlying4
def U5:=Tryz.underlying5
def U9:=Tryz.underlying9
def U22:=Tryz.underlying22
def R6:=Tryz.underlying23
def ZY:=Tryz.underlying26
def S4:=Tryz.underlying27
def Z6:=Tryz.underlying28
def U30:=Tryz.underlying30
def Zy:=Tryz.underlying34
def U35:=Tryz.underlying35
def U40:=Tryz.underlying40
def Mq:=Tryz.underlying41
def Li:=Tryz.underlying45
def Mk:=Tryz.underlying46
def Mw:=Tryz.underlying51
def Wo:=Tryz.underlying55
def U62:=Tryz.underlying62
def U65:=Tryz.underlying65
def U69:=Tryz.underlying69
def VA:=Tryz.underlying77
def U80:=Tryz.underlying80
def U89:=Tryz.underlying89
def Yg:=Tryz.underlying90
def YE:=Tryz.underlying97
def YJ:=Tryz.underlying100
def zdZ:=Tryz.underlying102
def Vt:=Tryz.underlying105
def OA:=Tryz.underlying108
def Re:=Tryz.underlying118
def z6E:=Tryz.underlying121
def z7o:=Tryz.underlying126
def z05:=Tryz.underlying128
def Yw:=Tryz.underlying130
def SU:=Tryz.underlying131
def z2Y:=Tryz.underlying135
def M4:=Tryz.underlying151
def z4w:=Tryz.underlying152
def z60:=Tryz.underlying154
def S2:=Tryz.underlying163
def z6h:=Tryz.underlying173
def zaQ:=Tryz.underlying187
def zdN:=Tryz.underlying196
def MZ:=Tryz.underlying197
def XF:=Tryz.underlying203
def zd8:=Tryz.underlying205
def z9A:=Tryz.underlying206
def Z3:=Tryz.underlying210
def z97:=Tryz.underlying212
def zdQ:=Tryz.underlying223
def NK:=Tryz.underlying232
def z7i:=Tryz.underlying237
def YS:=Tryz.underlying239
def Oz:=Tryz.underlying240
def TQ:=Tryz.underlying245
def Qd:=Tryz.underlying250
def zcM:=Tryz.underlying251
def ze0:=Tryz.underlying273
def z9D:=Tryz.underlying274
def UF:=Tryz.underlying295
def Nv:=Tryz.underlying298
def za2:=Tryz.underlying300
def zaJ:=Tryz.underlying308
def z5j:=Tryz.underlying321
def zdB:=Tryz.underlying325
def z4Y:=Tryz.underlying328
def Vg:=Tryz.underlying329
def Yb:=Tryz.underlying355
def PN (w:World)(g:Nat)(cs:List Value)(T:TypeId):Prop:=w.heap[g]? =some (.cells cs.toArray T (0,0))
theorem PN.KN {w:World}{g:Nat}{cs:List Value}{T:TypeId}(h:PN w g cs T):KY w g cs T:=⟨(0,0),h,fun i _ h=>by omega⟩
theorem PN.set {w:World}{g:Nat}{cs:List Value}{T:TypeId}(h:PN w g cs T)(i:Nat)(v:Value):PN (w.setCell ⟨g,i,none⟩ v) g (cs.set i v) T:=by
 unfold PN at h⊢
 simp[World.setCell,Array.getElem?_modify,h]
theorem PN.ext {w w':World}{g:Nat}{cs:List Value}{T:TypeId}(h:PN w g cs T)(k:Ext w w'):PN w' g cs T:=k.heap h id
theorem Sl.row {w:World}{g n cap:Nat}{e:TypeId}{size:Nat}{cs:List Value}(h:Sl w (.slice (some ⟨g,0,none⟩) n cap) e size n cs):∃cur,PN w g cur e/\n<=cap/\cap<=maxLen/\cur.length=cap*size/\cur.take (n*size)=cs:=by
 rcases h.2 with⟨hz,-⟩|⟨g1,cap1,cur,hv,-,hg,hn,hm,hs,ht⟩
 ·cases hz
 ·cases hv;exact⟨cur.toList,by unfold PN;simpa using hg,hn,hm,by simpa using hs,ht⟩
theorem PN.sl {w:World}{g n cap:Nat}{e:TypeId}{size:Nat}{cur:List Value}(h:PN w g cur e)(hn:n<=cap)(hm:cap<=maxLen)(hs:cur.length=cap*size):Sl w (.slice (some ⟨g,0,none⟩) n cap) e size n (cur.take (n*size)):=
 ⟨by rw[List.length_take,hs];exact Nat.min_eq_left (Nat.mul_le_mul_right _ hn),.inr ⟨g,cap,cur.toArray,rfl,Nat.zero_le _,h,hn,hm,by simpa using hs,by simp⟩⟩
theorem PN.cell {w:World}{g i:Nat}{cur:List Value}{e:TypeId}(h:PN w g cur e):w.cell? ⟨g,i,none⟩=cur[i]? :=h.KN.cell i
theorem PN.rd {w:World}{g i n c:Nat}{e:TypeId}{cur:List Value}(h:PN w g cur e)(hl:i+n<=cur.length):Rd w (.slice (some ⟨g,i,none⟩) n c) 1 n ((cur.drop i).take n):=by
 refine⟨by simp;omega,.inr ⟨g,i,c,rfl,fun j u hj=>?_⟩⟩
 rw[h.cell]
 rw[List.getElem?_take] at hj
 split at hj
 ·rwa [List.getElem?_drop] at hj
 ·cases hj
theorem Qm {w:World}{a:Option Addr}{c:Nat}:Rd w (.slice a 0 c) 1 0 []:=⟨rfl,.inl ⟨(a,c),rfl,rfl⟩⟩
theorem Rd.kpz {S:Nat->Prop}{w w':World}{v:Value}{size n:Nat}{cs:List Value}(h:Rd w v size n cs)(k:Kp S w w')(hn:0<n->∀g,v.ownBlock=some g->¬S g):Rd w' v size n cs:=by
 rcases Nat.eq_zero_or_pos n with h0|h0
 ·subst h0;refine⟨h.1,?_⟩;have hl:cs=[]:=List.eq_nil_of_length_eq_zero (by have:=h.1;omega);rcases h.2 with h2|⟨b,off,cap,e,-⟩
  ·exact .inl h2
  ·exact .inr ⟨b,off,cap,e,fun j u hj=>by rw[hl] at hj;simp at hj⟩
 ·exact h.kp k (hn h0)
theorem Rd.ltz {w:World}{v:Value}{size n g:Nat}{cs:List Value}(h:Rd w v size n cs)(hs:0<size)(hn:0<n)(hg:v.ownBlock=some g):g<w.heap.size:=by
 rcases h.2 with⟨c,-,h2⟩|⟨b,off,cap,e,hc⟩
 ·omega
 ·rw[e] at hg;have e2:b=g:=ML hg;subst e2;have hl:0<cs.length:=by rw[h.1];exact Nat.mul_pos hn hs
  exact World.block_lt_of_cell? w _ (hc 0 cs[0] (List.getElem?_eq_getElem hl))
theorem z1m (cs:List Value)(i:Nat):Mh cs i []=cs:=by simp[Mh]
theorem WH (cs vs:List Value)(i:Nat)(h:i+vs.length<=cs.length):(Mh cs i vs).length=cs.length:=by simp[Mh];omega
theorem Wj (cs vs:List Value)(i j:Nat)(h:i+vs.length<=cs.length):(Mh cs i vs)[j]? =if i<=j/\j<i+vs.length then vs[j-i]? else cs[j]? :=by
 unfold Mh
 rw[List.append_assoc]
 by_cases h1:j<i
 ·rw[List.getElem?_append_left (by simp;omega),List.getElem?_take,if_pos h1,if_neg (by omega)]
 ·rw[List.getElem?_append_right (by simp;omega)];have e:(cs.take i).length=i:=by simp;omega
  rw[e];by_cases h2:j<i+vs.length
  ·rw[List.getElem?_append_left (by omega),if_pos ⟨by omega,h2⟩]
  ·rw[List.getElem?_append_right (by omega),List.getElem?_drop,if_neg (by omega)]
   congr 1;omega
theorem Pt {P:Program}{b:Nat}{T:TypeId}(o:Nat):∀(vs:List Value) (i:Nat) (cs:List Value) (w:World),PN w b cs T->o+i+vs.length<=cs.length->(∀v∈vs,v.oneCell'=true)->
  ∃w',(storeCells ⟨b,o,none⟩ vs i).run P w= .ok () w'/\PN w' b (Mh cs (o+i) vs) T/\Kp (fun k=>k=b) w w'
 |[],i,cs,w,hB,_,_=>⟨w,rfl,by simpa[Mh] using hB,Kp.refl _ _⟩
 | v :: r, i, cs, w, hB, hl, h1 => by
   simp only[List.length_cons] at hl;have aO:o+i<cs.length:=by omega
   have hc:w.cell? ⟨b,o+i,none⟩=some cs[o+i]:=by rw[hB.cell];simp[aO]
   have hf:=hB.KN.free aO;obtain⟨w',hr,zv,hk⟩:=Pt (P:=P) o r (i+1) (cs.set (o+i) v) _ (hB.set (o+i) v) (by simp;omega) (fun u hu=>h1 u (List.mem_cons_of_mem _ hu));refine⟨w',?_,?_,(OC w b (o+i) v).trans hk⟩
   ·simp only[storeCells,Sem.run_bind,ME,run_store P w _ v _ (h1 v (List.mem_cons_self ..)),hc,hf]
    simpa using hr
   ·have he:Mh (cs.set (o+i) v) (o+(i+1)) r=Mh cs (o+i) (v::r):=by
     apply List.ext_getElem?;intro j;rw[Wj _ _ _ _ (by simp;omega),Wj _ _ _ _ (by simp;omega)];simp only[List.length_cons];by_cases h2:o+i=j
     ·subst h2;rw[if_neg (by omega),if_pos (by omega)];simp[aO]
     ·by_cases h3:o+i<j/\j<o+i+1+r.length
      ·rw[if_pos (by omega),if_pos (by omega),show j-(o+i)=(j-(o+(i+1)))+1 by omega];simp
      ·rw[if_neg (by omega),if_neg (by omega),List.getElem?_set_ne h2]
    rw[<-he];exact zv
section
variable {P:Program}{e:Env}{d:Option Nat}{ty t t' kt el:TypeId}{pos:String}{aft:Array Edge}{g:Option (Nat×Bool)}{x y u u2:Operand}{w:World}
theorem Ta {z:Value}{size bytes n cap i:Nat}{a:Option Addr}{k:IntKind}{za:Int}[qA:Ob za i](ht:P.underlying t=some (.slice el))(hs:TI P el z size bytes)(hx:look e x=some (.slice a n cap))
  (hy:look e y=some (.int k za)) (h:i<=n) (hc:n<=cap):
  Y P e ⟨d,.slice t x (some y) none none,ty,pos,aft,g⟩ (.slice (if cap=i then a else a.map (·.add (i*size))) (n-i) (cap-i)) w w:=fun ρ hρ=>by
 obtain⟨rfl⟩:=qA
 have co:=hs.size (w:=w)
 have h2:∀w,(Instr.sliceBound (.int k (i:Int)) n .sliceB).run P w= .ok i w:=fun w=>by rw[run_sliceBound _ _ _ _ _ (by omega) (by omega)];simp
 simp[execOp,hρ _ _ hx,hρ _ _ hy,Instr.sliceAt,run_underlying ht,Instr.slice,Instr.sliceBounds,h2,co]
theorem zdS {z:Value}{size bytes n cap i j m:Nat}{a:Option Addr}{k k' k2:IntKind}{za zb zc:Int}[qA:Ob za i][u5:Ob zb j][bK:Ob zc m](ht:P.underlying t=some (.slice el))(hs:TI P el z size bytes)(hx:look e x=some (.slice a n cap))
  (hy:look e y=some (.int k za)) (hu:look e u=some (.int k' zb)) (lJ:look e u2=some (.int k2 zc)) (h:i<=j/\j<=m/\m<=cap):
  Y P e ⟨d,.slice t x (some y) (some u) (some u2),ty,pos,aft,g⟩ (.slice (if m=i then a else a.map (·.add (i*size))) (j-i) (m-i)) w w:=fun ρ hρ=>by
 obtain⟨rfl⟩:=qA
 obtain⟨rfl⟩:=u5
 obtain⟨rfl⟩:=bK
 have co:=hs.size (w:=w)
 have h0:∀w,(Instr.sliceBound (.int k2 (m:Int)) cap .slice3Acap).run P w= .ok m w:=fun w=>by rw[run_sliceBound _ _ _ _ _ (by omega) (by omega)];simp
 have h1:∀w,(Instr.sliceBound (.int k' (j:Int)) m .slice3B).run P w= .ok j w:=fun w=>by rw[run_sliceBound _ _ _ _ _ (by omega) (by omega)];simp
 have h2:∀w,(Instr.sliceBound (.int k (i:Int)) j .slice3C).run P w= .ok i w:=fun w=>by rw[run_sliceBound _ _ _ _ _ (by omega) (by omega)];simp
 simp[execOp,hρ _ _ hx,hρ _ _ hy,hρ _ _ hu,hρ _ _ lJ,Instr.sliceAt,run_underlying ht,Instr.slice,Instr.sliceBounds,h0,h1,h2,co]
theorem Sc (z:Value)(n:Nat)(h:oneV z=true):(Builtin.zeroCells z.cells n).toList=List.replicate n z:=by
 rw[QD h]
 apply List.ext_getElem
 ·simp[Builtin.zeroCells]
 ·intro i h1 h2;simp[Builtin.zeroCells,Nat.mod_one]
theorem zeb {z:Value}{bytes b i n cap:Nat}{T:TypeId}{cs:List Value}(ht:P.underlying t=some (.slice el))(hs:TI P el z 1 bytes)(hz:oneV z=true)(hx:look e x=some (.slice (some ⟨b,i,none⟩) n cap))
  (hB:PN w b cs T) (hi:i+n<=cs.length):
  Yp P e ⟨d,.call ⟨.builtin .clear,#[x],#[t]⟩,ty,pos,aft,g⟩ w fun v w'=>PN w' b (Mh cs i (List.replicate n z)) T/\Kp (fun k=>k=b) w w':=by
 obtain⟨w',hr,zv,hk⟩:=Pt (P:=P) i (List.replicate n z) 0 cs w hB (by simp;omega) (fun u hu=>by rw[(List.mem_replicate.1 hu).2];exact Tr hz)
 rcases Nat.eq_zero_or_pos n with h0|h0
 ·subst h0;refine⟨.tuple #[],w,fun ρ hρ=>?_,by simpa[z1m] using hB,Kp.refl _ _⟩;simp[execOp,resolve,invoke,builtin,hρ _ _ hx,Builtin.clear_,run_underlying ht,go_sem]
 ·refine⟨.tuple #[],w',fun ρ hρ=>?_,by simpa using zv,hk⟩;have G0:=hs.zero (w:=w);obtain⟨k,rfl⟩:∃k,n=k+1:=⟨n-1,by omega⟩
  have hc:(Builtin.clear_ #[t] ty #[.slice (some ⟨b,i,none⟩) (k+1) cap]).run P w= .ok (.tuple #[]) w':=by
   unfold Builtin.clear_;simp only[List.getElem?_toArray,List.getElem?_cons_zero,pure_bind,Sem.run_bind,run_underlying ht,Result.andThen,G0,Sc z _ hz,hr,Sem.run_pure]
  simp[execOp,resolve,invoke,builtin,hρ _ _ hx,hc]
theorem zdR {z u:Value}{size bytes gb n cap m:Nat}{cs news:List Value}(ht:P.underlying t=some (.slice el))(hs:TI P el z size bytes)(co:0<size)
  (hx:look e x=some (.slice (some ⟨gb,0,none⟩) n cap)) (hy:look e y=some u) (hv:Sl w (.slice (some ⟨gb,0,none⟩) n cap) el size n cs) (hu:Rd w u size m news) (h1:∀c∈news,c.oneCell'=true) (hr:n+m<=cap):
  Yp P e ⟨d,.call ⟨.builtin .append,#[x,y],#[t,t]⟩,ty,pos,aft,g⟩ w fun v' w'=>v'= .slice (some ⟨gb,0,none⟩) (n+m) cap/\Sl w' v' el size (n+m) (cs++news)/\Kp (fun k=>k=gb) w w':=by
 obtain⟨i,hi,og,jg,pN⟩:=hs
 subst jg
 rcases hu.2 with⟨⟨ca,c⟩,rfl,rfl⟩|⟨b,off,cap2,rfl,qB⟩
 ·have eD:news=[]:=List.eq_nil_of_length_eq_zero (by simpa using hu.1);subst eD
  have hr:(Builtin.append_ #[t,t] ty #[.slice (some ⟨gb,0,none⟩) n cap,.slice ca 0 c]).run P w= .ok (.slice (some ⟨gb,0,none⟩) n cap) w:=by
   have iY:n<=cap:=by omega
   cases ca
   ·simp[Builtin.append_,run_underlying ht,sizeOf,typeInfo,hi,Builtin.lenOf,Builtin.firstCells,iY,storeCells]
   ·simp[Builtin.append_,run_underlying ht,sizeOf,typeInfo,hi,Builtin.lenOf,Builtin.firstCells,iY,storeCells,loadCells,loadCellsFrom]
  refine⟨_,w,fun ρ hρ=>?_,rfl,by simpa using hv,Kp.refl _ _⟩;simp[execOp,resolve,invoke,builtin,hρ _ _ hx,hρ _ _ hy,hr]
 ·have u7:∀j u,news[j]? =some u->w.cell? ((⟨b,off,none⟩:Addr).add j)=some u:=fun j u hu=>by rw[ME];exact qB j u hu
  obtain⟨w',G1,ym,cD⟩:=run_append_fits (P:=P) w 0 t ty el i i.size ht hi rfl gb n cap cs hv ⟨b,off,none⟩ m cap2 news hu.1 u7 h1 hr;refine⟨_,w',fun ρ hρ=>?_,rfl,ym,(Kp.PH cD).L2 fun k hk=>(ML hk).symm⟩;simp[execOp,resolve,invoke,builtin,hρ _ _ hx,hρ _ _ hy,G1]
end
abbrev Bytes:=List UInt8
abbrev lt (a b:Bytes):Bool:=Op.bytesLess a b
section
variable {P:Program}{e:Env}{d:Option Nat}{ty t t':TypeId}{pos:String}{aft:Array Edge}{g:Option (Nat×Bool)}{x y:Operand}{w:World}{l l':Bytes}
end
def pos (l:List Bytes)(t:Bytes):Nat:=(l.takeWhile (fun k=>lt k t)).length
theorem Vs (cs vs:List Value)(i m:Nat)(h:m<=i)(hl:i<=cs.length):(Mh cs i vs).take m=cs.take m:=by
 unfold Mh
 rw[List.append_assoc,List.take_append_of_le_length (by simp;omega),List.take_take,Nat.min_eq_left h]
theorem z6s {w:World}{sv:Value}{cs:List Value}{i n:Nat}(hS:Sl w sv 3 1 n cs)(gB:∀c∈cs,c.oneCell'=true)(hi:i<n)(hn:n<=8589934592):
  Lk Tryz.prog 183 [sv,I (i:Int),I ((i:Int)+1)] w fun v w'=>Sl w' v 3 1 (n-1) (cs.take i++cs.drop (i+1))/\Kp (fun k=>sv.ownBlock=some k) w w'/\(∀g,v.ownBlock=some g->sv.ownBlock=some g):=by
 have eL:maxLen=9223372036854775807:=rfl
 have aD:=hS.len
 rw[Nat.mul_one] at aD
 obtain⟨g,cap,rfl,iY⟩:∃g cap,sv= .slice (some ⟨g,0,none⟩) n cap/\n<=cap:=by
  rcases hS.shape with⟨e,h0⟩|⟨g,cap,e,h⟩
  ·omega
  ·exact⟨g,cap,e,h⟩
 obtain⟨cur,jh,-,lY,ew,zw⟩:=hS.row
 rw[Nat.mul_one] at ew zw
 rw[show(i:Int)+1=((i+1:Nat):Int) by omega]
 refine KJ (e:=[(0,_),(1,_),(2,_)]) Tryz.func183 rfl Tryz.ntmps183 rfl rfl (qN rfl (KO rfl (qM rfl (An rfl (An rfl (An rfl (An rfl (qV (LM Mw rfl) (qV (zdS Mw LG rfl rfl rfl rfl ⟨by omega,by omega,iY⟩) ?_)))))))))
 refine py (run_seq (qN rfl (An rfl (An rfl (qV (Mr rfl rfl) (Ly (py (KH rfl (It (qN rfl (An rfl (qV (LM Mw rfl) (KO rfl ?_)))))))))))))
 refine py (run_seq (KV (fun w'=>Kp (fun k=>k=g) w w') (by kernel_rfl) rfl ?_))
 have h0:=Ext.Lb w
 refine KR 0 rfl (KW rfl) ((Ext.Lb w).kp) (KR 1 rfl (KW rfl) ((Ext.Lb w).kp) (KR 3 rfl (KW rfl) ((Ext.Lb w).kp) (KR 4 rfl (KW rfl) ((Ext.Lb w).kp) (KR 2 rfl (z5u Mw LG rfl rfl (by omega)) ((Ext.Lb w).kp) (KR 5 rfl (Ta Mw LG rfl rfl (by omega) iY) ((Ext.Lb w).kp) ?_)))))
 have cL:Sl w (.slice (some ⟨g,0,none⟩) i cap) 3 1 i (cs.take i):=by
  have:=jh.sl (n:=i) (by omega) lY (by rw[Nat.mul_one];exact ew);rw[Nat.mul_one,show cur.take i=cs.take i by rw[<-zw,List.take_take,Nat.min_eq_left (by omega)]] at this;exact this
 have tr:(cur.drop (i+1)).take (n-(i+1))=cs.drop (i+1):=by
  rw[<-zw,List.drop_take]
 have hR:Rd w.drew (.slice (if cap=i+1 then some ⟨g,0,none⟩ else(some (⟨g,0,none⟩:Addr)).map (·.add ((i+1)*1))) (n-(i+1)) (cap-(i+1))) 1 (n-(i+1)) (cs.drop (i+1)):=by
  by_cases hc:cap=i+1
  ·rw[if_pos hc,show n-(i+1)=0 by omega,List.drop_eq_nil_of_le (by omega)];exact Qm
  ·rw[if_neg hc,Option.map_some,ME,Nat.zero_add,Nat.mul_one,<-tr];exact(jh.ext h0).rd (by omega)
 refine qO 6 (Um (i:=6) rfl rfl rfl (zdR Mw LG (by decide) rfl rfl (cL.ext h0) hR (fun c hc=>gB c (List.mem_of_mem_drop hc)) (by omega)) ?_)
 rintro _ w1 ⟨rfl,cM,au⟩
 refine⟨h0.kp.trans au,?_⟩
 have e1:i+(n-(i+1))=n-1:=by omega
 rw[e1] at cM⊢
 obtain⟨cur3,u9,G2,G3,ub,ud⟩:=cM.row
 rw[Nat.mul_one] at ub ud
 refine KR 7 rfl (MO rfl) (h0.kp.trans au) (qE (qN rfl (An rfl (An rfl (qV (LM Mw rfl) (An rfl (qV (z8X Mw LG rfl rfl rfl (by omega) (by omega)) (z6p rfl (zeb Mw LG rfl rfl u9 (by omega)) ?_))))))))
 rintro _ w2 ⟨ue,aw⟩
 refine py (Ll.qb (e:=[(0,_),(6,_)]) ?_)
 refine qN rfl (An rfl (KO rfl (py (KP Tryz.func183 rfl ?_))))
 have uf:=ue.sl (n:=n-1) (cap:=cap) (by omega) lY (by rw[WH _ _ _ (by simp;omega),ub,Nat.mul_one])
 rw[Nat.mul_one,Vs _ _ _ _ (by omega) (by omega),ud] at uf
 exact⟨_,rfl,uf,((h0.kp.trans au).trans aw).L2 (fun k hk=>by subst hk;rfl),fun g' cD=>cD⟩
end Go.Proofs.YtpldpcjdjcgicaaGreatDoor
namespace Go.Proofs.YtpldpcjdjcgicaaGreatDoor
open Go Go.RowKit
open Go.ChangeMaps (setBlock)
set_option linter.all false
def NJ {κ:Type}(K:κ->Value)(w:World)(m:Nat)(kv:List (κ×Value)):Prop:=(∃es clock,w.heap[m]? =some (.map es clock)/\Pb K es.toList kv/\(∀e∈es.toList,e.born<clock)/\(es.toList.map (·.born)).Nodup)/\(kv.map (·.1)).Nodup
section
variable {κ:Type}[DecidableEq κ]{K:κ->Value}
theorem NJ.l {w:World}{m:Nat}{kv:List (κ×Value)}(h:NJ K w m kv):S3 K w m kv:=by
 obtain⟨⟨es,c,h1,h2,-,-⟩,h3⟩:=h
 exact⟨⟨es,c,h1,h2⟩,h3⟩
theorem NJ.lt {w:World}{m:Nat}{kv:List (κ×Value)}(h:NJ K w m kv):m<w.heap.size:=h.l.lt
theorem NJ.nd {w:World}{m:Nat}{kv:List (κ×Value)}(h:NJ K w m kv):(kv.map (·.1)).Nodup:=h.2
theorem NJ.kp {S:Nat->Prop}{w w':World}{m:Nat}{kv:List (κ×Value)}(h:NJ K w m kv)(k:Kp S w w')(hn:¬S m):NJ K w' m kv:=by
 obtain⟨⟨es,c,h,he⟩,hd⟩:=h
 exact⟨⟨es,c,k.heap h hn,he⟩,hd⟩
theorem NJ.ext {w w':World}{m:Nat}{kv:List (κ×Value)}(h:NJ K w m kv)(k:Ext w w'):NJ K w' m kv:=h.kp k id
theorem NJ.new {w:World}{m:Nat}(h:w.heap[m]? =some (.map #[] 0)):NJ K w m []:=⟨⟨#[],0,h,rfl,by simp,by simp⟩,by simp⟩
def delL:List (κ×Value)->κ->List (κ×Value)
 |[],_=>[]
 |(a,v)::r,k=>if k=a then r else(a,v)::delL r k
theorem Zd:∀(kv:List (κ×Value)) (k:κ),(delL kv k).Sublist kv
 |[],_=> .slnil
 | (a, v) :: r, k => by
   simp only[delL];split
   ·exact List.sublist_cons_self _ _
   ·exact(Zd r k).cons_cons _
theorem Xf {kv:List (κ×Value)}{k:κ}(h:k∉kv.map (·.1)):getL kv k=none:=by
 induction kv with
 |nil=>rfl
 | cons p r ih =>
   obtain⟨a,u⟩:=p;simp only[List.map_cons,List.mem_cons,not_or] at h;simp only[getL,h.1,if_false];exact ih h.2
theorem zaD {kv:List (κ×Value)}(hn:(kv.map (·.1)).Nodup)(k x:κ):getL (delL kv k) x=if x=k then none else getL kv x:=by
 induction kv with
 |nil=>simp[delL,getL]
 | cons p r ih =>
   obtain⟨a,u⟩:=p;simp only[List.map_cons,List.nodup_cons] at hn;simp only[delL];by_cases h:k=a
   ·subst h;simp only[if_true,getL];by_cases hx:x=k
    ·subst hx;simp[Xf hn.1]
    ·simp[hx]
   ·simp only[h,if_false,getL,ih hn.2];by_cases hx:x=a
    ·subst hx;simp[Ne.symm h]
    ·simp[hx]
theorem Yn {kv:List (κ×Value)}(hn:(kv.map (·.1)).Nodup){k:κ}{v:Value}(h:(k,v)∈kv):getL kv k=some v:=by
 induction kv with
 |nil=>cases h
 | cons p r ih =>
   obtain⟨a,u⟩:=p;simp only[List.map_cons,List.nodup_cons] at hn;rcases List.mem_cons.1 h with e| h
   ·cases e;simp[getL]
   ·have:k≠a:=fun e=>hn.1 (List.mem_map.2 ⟨(k,v),h,e⟩);simp only[getL,this,if_false];exact ih hn.2 h
theorem Uy {td:TypeDesc}(hs:∀a b,Instr.sameNow td (K a) (K b)=some (decide (a=b))):∀{es:List MapEntry} {kv:List (κ×Value)} (i:Nat) {k:κ} {v:Value},Pb K es kv->getL kv k=some v->
  ∃j,Instr.findNow td (K k) es i=some (some (i+j,v))/\j<es.length/\Pb K (es.eraseIdx j) (delL kv k)
 | e :: es, (a, v') :: kv, i, k, v, h, hg => by
   simp only[Pb,List.map_cons,List.cons.injEq,Prod.mk.injEq] at h;simp only[getL] at hg;split at hg
   ·rename_i he
    subst he;cases hg;refine⟨0,by simp[Instr.findNow,h.1.1,hs,h.1.2],by simp,?_⟩;simp only[List.eraseIdx_zero,List.tail_cons,delL,if_true];exact h.2
   ·rename_i bG
    obtain⟨j,h1,h2,h3⟩:=Uy hs (i+1) h.2 hg;refine⟨j+1,?_,by simp;omega,?_⟩
    ·simp only[Instr.findNow,h.1.1,hs,bG,decide_false,h1]
     congr 3;omega
    ·simp only[delL,bG,if_false,List.eraseIdx_cons_succ,Pb,List.map_cons,List.cons.injEq,Prod.mk.injEq]
     exact⟨h.1,h3⟩
 |[],[],_,_,_,_,hg=>by simp[getL] at hg
 |[],_::_,_,_,_,h,_=>by simp[Pb] at h
 |_::_,[],_,_,_,h,_=>by simp[Pb] at h
variable {P:Program}{e:Env}{d:Option Nat}{ty t kt el:TypeId}{pos:String}{aft:Array Edge}{g:Option (Nat×Bool)}{x y u:Operand}{w:World}{m:Nat}{kv:List (κ×Value)}{z:Value}{size bytes:Nat}{k:κ}{v:Value}
theorem z8S (ht:P.underlying t=some (.map kt el))(hK:Ky P kt K)(hx:look e x=some (.map (some m)))(hy:look e y=some (K k))(hu:look e u=some v)(hm:NJ K w m kv):
  Zp P e ⟨d,.mapUpdate t x y u,ty,pos,aft,g⟩ w fun w'=>NJ K w' m (putL kv k v)/\Kp (fun i=>i=m) w w':=by
 have aO:=hm.lt
 obtain⟨⟨es,c,hh,he,bS,bT⟩,hd⟩:=hm
 have qC:=fun b=>hK.same.choose_spec.2.2 w b 9999 k
 have hg:(getObj m).run P w= .ok (.map es c) w:=by simp[getObj,Sem.run,hh]
 have g8:∀o,(setObj m o).run P w= .ok () (w.putObj m o):=fun o=>by simp[setObj,Sem.run,hh,World.putObj]
 cases kD:getL kv k with
 | none =>
   have hf:=Pc (P:=P) (w:=w) hK he kD;refine⟨w.putObj m (.map (es.push {key:=K k,val:=v,born:=c}) (c+1)),fun ρ hρ=>?_,⟨⟨_,_,World.putObj_heap_same aO,?_,?_,?_⟩,?_⟩,Mf w m _⟩
   ·simp[execOp,hρ _ _ hx,hρ _ _ hy,hρ _ _ hu,Instr.mapUpdate,run_underlying ht,hg,qC,hf,g8]
   ·rw[PJ _ _ _ kD]
    simpa[Pb] using he
   ·intro x hx;simp at hx;rcases hx with hx|rfl
    ·have:=bS x (by simpa using hx);omega
    ·simp
   ·simp only[Array.toList_push,List.map_append,List.map_cons,List.map_nil];refine List.nodup_append.2 ⟨bT,by simp,fun a ha b hb iZ=>?_⟩;simp at hb;subst hb;subst iZ;obtain⟨x,hx,E9⟩:=List.mem_map.1 ha;have:=bS x hx;omega
   ·rw[PJ _ _ _ kD,List.map_append,List.nodup_append];refine⟨hd,by simp,fun a ha b hb iZ=>?_⟩;simp at hb;subst hb;subst iZ
    exact VM kD ha
 | some v0 =>
   obtain⟨j,hf,⟨ej,G4,zx⟩,lZ⟩:=P6 (P:=P) (w:=w) hK he kD
   have jW:(es.modify j fun e=>{e with key:=K k,val:=v}).toList.map (·.born)=es.toList.map (·.born):=by
    apply List.ext_getElem?;intro i;simp only[Array.toList_modify,List.getElem?_map,List.getElem?_modify];by_cases gI:j=i
    ·subst gI;simp;cases es[j]?<;>rfl
    ·simp[gI]
   refine⟨w.putObj m (.map (es.modify j fun e=>{e with key:=K k,val:=v}) c),fun ρ hρ=>?_,⟨⟨_,_,World.putObj_heap_same aO,lZ v,?_,?_⟩,?_⟩,Mf w m _⟩
   ·simp[execOp,hρ _ _ hx,hρ _ _ hy,hρ _ _ hu,Instr.mapUpdate,run_underlying ht,hg,qC,hf,g8,G4,zx,Instr.keyThatStays,hK.bits]
   ·intro x hx;have:x.born∈es.toList.map (·.born):=by rw[<-jW];exact List.mem_map.2 ⟨x,hx,rfl⟩
    obtain⟨y,hy,Ea⟩:=List.mem_map.1 this;rw[<-Ea];exact bS y hy
   ·rw[jW];exact bT
   ·rw[X8 _ _ _ (by rw[kD];rfl)];exact hd
theorem z9C (ht:P.underlying t=some (.map kt el))(hK:Ky P kt K)(hx:look e x=some (.map (some m)))(hy:look e y=some (K k))(hm:NJ K w m kv){ts:Array TypeId}(tt:ts[0]? =some t):
  Yp P e ⟨d,.call ⟨.builtin .delete,#[x,y],ts⟩,ty,pos,aft,g⟩ w fun v' w'=>NJ K w' m (delL kv k)/\Kp (fun i=>i=m) w w':=by
 have aO:=hm.lt
 obtain⟨⟨es,c,hh,he,bS,bT⟩,hd⟩:=hm
 obtain⟨⟨td,hu,hs,zC⟩,-⟩:=hK
 have qC:=fun b=>zC w b 9999 k
 have hg:(getObj m).run P w= .ok (.map es c) w:=by simp[getObj,Sem.run,hh]
 have g8:∀o,(setObj m o).run P w= .ok () (w.putObj m o):=fun o=>by simp[setObj,Sem.run,hh,World.putObj]
 have dg:=(Zd kv k).map (·.1)
 cases kD:getL kv k with
 | none =>
   have hf:(Instr.findKey kt (K k) es.toList).run P w= .ok none w:=by simp[Instr.findKey,run_underlying hu,QH hs 0 he kD]
   have jX:delL kv k=kv:=by
    clear he hh hd dg
    induction kv with
    |nil=>rfl
    | cons p r ih =>
      obtain⟨a,u⟩:=p;simp only[getL] at kD;split at kD
      ·cases kD
      ·rename_i bG;simp only[delL,bG,if_false,ih kD]
   refine⟨.tuple #[],w.putObj m (.map es c),fun ρ hρ=>?_,⟨⟨es,c,World.putObj_heap_same aO,by rw[jX];exact he,bS,bT⟩,by rw[jX];exact hd⟩,Mf w m _⟩
   simp[execOp,resolve,invoke,builtin,hρ _ _ hx,hρ _ _ hy,Builtin.delete_,tt,run_underlying ht,hg,qC,hf,g8,Result.andThen]
 | some v0 =>
   obtain⟨j,ug,hj,lZ⟩:=Uy hs 0 he kD
   have hf:(Instr.findKey kt (K k) es.toList).run P w= .ok (some (j,v0)) w:=by
    rw[Nat.zero_add] at ug;simp[Instr.findKey,run_underlying hu,ug]
   have zD:(es.eraseIdxIfInBounds j).toList=es.toList.eraseIdx j:=by
    simp at hj;simp[Array.eraseIdxIfInBounds,hj]
   refine⟨.tuple #[],w.putObj m (.map (es.eraseIdxIfInBounds j) c),fun ρ hρ=>?_,⟨⟨_,c,World.putObj_heap_same aO,by rw[zD];exact lZ,?_,?_⟩,dg.nodup hd⟩,Mf w m _⟩
   ·simp[execOp,resolve,invoke,builtin,hρ _ _ hx,hρ _ _ hy,Builtin.delete_,tt,run_underlying ht,hg,qC,hf,g8,Result.andThen]
   ·rw[zD];exact fun x hx=>bS x ((List.eraseIdx_sublist _ _).subset hx)
   ·rw[zD];exact((List.eraseIdx_sublist _ _).map _).nodup bT
end
def bitsN:Nat->Nat->List Bool
 |0,_=>[]
 |n+1,v=>v.testBit n::bitsN n v
def valB:List Bool->Nat
 |[]=>0
 |b::l=>b.toNat*2^l.length+valB l
@[simp] theorem bitsN_length:∀(n v:Nat),(bitsN n v).length=n
 |0,_=>rfl
 |n+1,v=>by simp[bitsN,bitsN_length n v]
theorem Mv:∀(l:List Bool),valB l<2^l.length
 |[]=>by simp[valB]
 | b :: l => by
   have:=Mv l;simp only[valB,List.length_cons,Nat.pow_succ];have:b.toNat<=1:=by cases b<;>simp
   have:b.toNat*2^l.length<=1*2^l.length:=Nat.mul_le_mul_right _ this;omega
theorem N4:∀(a b:List Bool),valB (a++b)=valB a*2^b.length+valB b
 |[],b=>by simp[valB]
 | x :: a, b => by
   rw[List.cons_append,valB,N4 a b,valB,List.length_append,Nat.pow_add,Nat.add_mul,Nat.mul_assoc];omega
theorem N9:∀(m n v:Nat),bitsN (m+n) v=bitsN m (v / 2^n)++bitsN n v
 |0,n,v=>by simp[bitsN]
 | m + 1, n, v => by
   rw[show m+1+n=(m+n)+1 by omega,bitsN,bitsN,List.cons_append,N9 m n v,Nat.testBit_div_two_pow]
theorem LJ:∀(n v:Nat),valB (bitsN n v)=v%2^n
 |0,v=>by simp[bitsN,valB,Nat.mod_one]
 | n + 1, v => by
   rw[bitsN,valB,bitsN_length,LJ n v,Nat.pow_succ,Nat.mod_mul,Nat.testBit_eq_decide_div_mod_eq];rcases Nat.mod_two_eq_zero_or_one (v / 2^n) with e|e<;>simp[e]<;>omega
theorem Rm:∀{n v u:Nat},v%2^n=u%2^n->bitsN n v=bitsN n u
 |0,_,_,_=>rfl
 | n + 1, v, u, h => by
   have h1:v.testBit n=u.testBit n:=by
    have e1:(v%2^(n+1)).testBit n=v.testBit n:=by rw[Nat.testBit_mod_two_pow];simp
    have e2:(u%2^(n+1)).testBit n=u.testBit n:=by rw[Nat.testBit_mod_two_pow];simp
    rw[<-e1,<-e2,h]
   have h2:v%2^n=u%2^n:=by
    have e1:v%2^(n+1)%2^n=v%2^n:=Nat.mod_mod_of_dvd _ (Nat.pow_dvd_pow 2 (Nat.le_succ n));have e2:u%2^(n+1)%2^n=u%2^n:=Nat.mod_mod_of_dvd _ (Nat.pow_dvd_pow 2 (Nat.le_succ n));rw[<-e1,<-e2,h]
   rw[bitsN,bitsN,h1,Rm h2]
theorem Tg:∀{a b:List Bool},a.length=b.length->valB a=valB b->a=b
 |[],[],_,_=>rfl
 | x :: a, y :: b, hl, hv => by
   have hl':a.length=b.length:=by simpa using hl
   have h1:=Mv a;have h2:=Mv b;rw[valB,valB,hl'] at hv;rw[hl'] at h1
   have hx:x=y:=by
    cases x<;>cases y<;>simp at hv⊢<;>omega
   subst hx;rw[Tg hl' (by omega)]
theorem VE (l:List Bool):bitsN l.length (valB l)=l:=Tg (by simp) (by rw[LJ,Nat.mod_eq_of_lt (Mv l)])
/-! ### Bytes -/
def Lc (s:Bytes):List Bool:=s.flatMap fun c=>bitsN 8 c.toNat
@[simp] theorem bitsT_length (s:Bytes):(Lc s).length=8*s.length:=by
 induction s with
 |nil=>rfl
 |cons c s ih=>simp[Lc] at ih⊢;omega
theorem SX (a b:Bytes):Lc (a++b)=Lc a++Lc b:=by simp[Lc]
def QP (d:List Bool):UInt8:=UInt8.ofNat (valB d*2^(8-d.length))
def Lg (l:List Bool):Bytes:=(List.range ((l.length+7) / 8)).map fun i=>QP ((l.drop (8*i)).take 8)
theorem Lq (l:List Bool):(Lg l).length=(l.length+7) / 8:=by simp[Lg]
theorem SD {c d:List Bool}(hc:c.length%8=0)(h1:1<=d.length)(h8:d.length<=8):Lg (c++d)=Lg c++[QP d]:=by
 obtain⟨m,hm⟩:∃m,c.length=8*m:=⟨c.length / 8,by omega⟩
 unfold Lg
 rw[List.length_append,show(c.length+d.length+7) / 8=m+1 by omega,show(c.length+7) / 8=m by omega,List.range_succ,List.map_append]
 congr 1
 ·apply List.map_congr_left;intro i hi;rw[List.mem_range] at hi;rw[List.drop_append_of_le_length (by omega),List.take_append_of_le_length (by rw[List.length_drop];omega)]
 ·simp only[List.map_cons,List.map_nil];rw[<-hm,List.drop_left,List.take_of_length_le h8]
theorem z3r {d e:List Bool}(h:d.length+e.length<=8):(QP (d++e)).toNat=(QP d).toNat |||(valB e*2^(8-d.length-e.length)):=by
 have h1:=Mv d
 have h2:=Mv e
 have hp:∀(x:List Bool),x.length<=8->valB x*2^(8-x.length)<256:=fun x hx=>by
  have h3:=Mv x;have:valB x*2^(8-x.length)<2^x.length*2^(8-x.length):=Nat.mul_lt_mul_of_pos_right h3 (Nat.two_pow_pos _);rw[<-Nat.pow_add,show x.length+(8-x.length)=8 by omega] at this;exact this
 have e1:(QP (d++e)).toNat=valB (d++e)*2^(8-(d++e).length):=by
  unfold QP;rw[UInt8.toNat_ofNat'];exact Nat.mod_eq_of_lt (hp _ (by rw[List.length_append];omega))
 have e2:(QP d).toNat=valB d*2^(8-d.length):=by
  unfold QP;rw[UInt8.toNat_ofNat'];exact Nat.mod_eq_of_lt (hp _ (by omega))
 rw[e1,e2,N4,List.length_append,Nat.add_mul]
 have h5:valB d*2^e.length*2^(8-(d.length+e.length))=2^(8-d.length)*valB d:=by
  rw[Nat.mul_assoc,<-Nat.pow_add,show e.length+(8-(d.length+e.length))=8-d.length by omega,Nat.mul_comm]
 have h6:valB e*2^(8-(d.length+e.length))<2^(8-d.length):=by
  have:valB e*2^(8-(d.length+e.length))<2^e.length*2^(8-(d.length+e.length)):=Nat.mul_lt_mul_of_pos_right h2 (Nat.two_pow_pos _);rw[<-Nat.pow_add,show e.length+(8-(d.length+e.length))=8-d.length by omega] at this;exact this
 rw[h5,Nat.two_pow_add_eq_or_of_lt h6,Nat.mul_comm (2^(8-d.length)),show 8-d.length-e.length=8-(d.length+e.length) by omega]
theorem z4j:QP []=0:=by decide
theorem Np (l:List Bool):∃z,Lc (Lg l)=l++List.replicate z false/\(l.length+z)%8=0/\z<8:=by
 have key : ∀ (m : Nat) (l : List Bool), l.length <= 8 * m -> ∃ z, Lc (Lg l) = l ++ List.replicate z false /\ (l.length + z) % 8 = 0 /\ z < 8 := by
  intro m
  induction m with
  | zero =>
    intro l h;have:l=[]:=List.eq_nil_of_length_eq_zero (by omega);subst this
    exact⟨0,rfl,rfl,by omega⟩
  | succ m ih =>
    intro l h;by_cases h0:l=[]
    ·subst h0;exact⟨0,rfl,rfl,by omega⟩
    ·have hpos:1<=l.length:=by
      cases l with
      |nil=>exact absurd rfl h0
      |cons a r=>simp
     obtain⟨c,d,rfl,hc,h1,h8⟩:∃c d,l=c++d/\c.length%8=0/\1<=d.length/\d.length<=8:=by
      refine⟨l.take (8*((l.length-1) / 8)),l.drop (8*((l.length-1) / 8)),(List.take_append_drop _ _).symm,?_,?_,?_⟩
      ·rw[List.length_take];omega
      ·rw[List.length_drop];omega
      ·rw[List.length_drop];omega
     rw[List.length_append] at h;obtain⟨z,hz,hm,hl⟩:=ih c (by omega);have hz0:z=0:=by omega
     subst hz0;simp at hz;refine⟨8-d.length,?_,by rw[List.length_append];omega,by omega⟩;rw[SD hc h1 h8,SX,hz,List.append_assoc]
     congr 1
     simp only[Lc,List.flatMap_cons,List.flatMap_nil,List.append_nil]
     have hv:valB (d++List.replicate (8-d.length) false)=valB d*2^(8-d.length):=by
      rw[N4,List.length_replicate]
      have:∀n,valB (List.replicate n false)=0:=fun n=>by
       induction n with
       |zero=>rfl
       |succ n ih=>rw[List.replicate_succ,valB,ih];simp
      rw[this];rfl
     refine Tg (by simp;omega) ?_;rw[LJ,hv];have h3:=Mv d
     have:valB d*2^(8-d.length)<2^8:=by
      have:valB d*2^(8-d.length)<2^d.length*2^(8-d.length):=Nat.mul_lt_mul_of_pos_right h3 (Nat.two_pow_pos _)
      rwa [<-Nat.pow_add,show d.length+(8-d.length)=8 by omega] at this
     unfold QP;rw[UInt8.toNat_ofNat'];rw[Nat.mod_mod,Nat.mod_eq_of_lt this]
 exact key l.length l (by omega)
theorem z0M (c:Nat)(hc:c<256)(room n:Nat)(hr:room<=8)(hn:n<=room):valB (((bitsN 8 c).drop (8-room)).take n)=c%2^room / 2^(room-n):=by
 have e1:bitsN 8 c=bitsN (8-room) (c / 2^room)++bitsN room c:=by rw[<-N9,show 8-room+room=8 by omega]
 have e2:bitsN room c=bitsN n (c / 2^(room-n))++bitsN (room-n) c:=by rw[<-N9,show n+(room-n)=room by omega]
 rw[e1,List.drop_left' (by simp),e2,List.take_left' (by simp),LJ]
 have:c%2^room / 2^(room-n)=c / 2^(room-n)%2^n:=by
  have h2:2^room=2^(room-n)*2^n:=by rw[<-Nat.pow_add,show room-n+n=room by omega]
  rw[h2,Nat.mod_mul_right_div_self]
 rw[this]
theorem OH (c:UInt8)(s:Bytes):Lc (c::s)=bitsN 8 c.toNat++Lc s:=rfl
theorem Oy:∀(k:Nat) (s:Bytes),Lc (s.drop k)=(Lc s).drop (8*k)
 |0,s=>by simp
 |k+1,[]=>by simp[Lc]
 | k + 1, c :: s => by
   have e:(bitsN 8 c.toNat++Lc s).drop (8+8*k)=(Lc s).drop (8*k):=by rw[<-List.drop_drop,List.drop_left' (by simp)]
   rw[List.drop_succ_cons,Oy k s,OH,show 8*(k+1)=8+8*k by omega,e]
theorem PK:∀(k:Nat) (s:Bytes),Lc (s.take k)=(Lc s).take (8*k)
 |0,s=>by simp[Lc]
 |k+1,[]=>by simp[Lc]
 | k + 1, c :: s => by
   have e:(bitsN 8 c.toNat++Lc s).take (8+8*k)=bitsN 8 c.toNat++(Lc s).take (8*k):=by
    have:=List.take_length_add_append (l₁:=bitsN 8 c.toNat) (l₂:=Lc s) (8*k)
    rwa [bitsN_length] at this
   rw[List.take_succ_cons,OH,PK k s,OH,show 8*(k+1)=8+8*k by omega,e]
theorem z6I {s:Bytes}{i:Nat}{c:UInt8}(h:s[i]? =some c):((Lc s).drop (8*i)).take 8=bitsN 8 c.toNat:=by
 rw[<-Oy]
 obtain⟨hi,e⟩:=List.getElem?_eq_some_iff.1 h
 rw[List.drop_eq_getElem_cons hi,e,show Lc (c::s.drop (i+1))=bitsN 8 c.toNat++Lc (s.drop (i+1)) from rfl,List.take_left' (by simp)]
theorem z1D {s:Bytes}{at' n:Nat}{c:UInt8}(h:s[at' / 8]? =some c)(hn:n<=8-at'%8):valB (((Lc s).drop at').take n)=c.toNat%2^(8-at'%8) / 2^(8-at'%8-n):=by
 have h1:=z6I h
 have h2:=z0M c.toNat (by have:=c.toNat_lt;omega) (8-at'%8) n (by omega) hn
 rw[<-h2,<-h1]
 congr 1
 rw[List.drop_take,List.take_take,List.drop_drop,show 8*(at' / 8)+(8-(8-at'%8))=at' by omega]
 congr 1
 omega
theorem z0m {bs e:List Bool}(h1:1<=e.length)(h8:bs.length%8+e.length<=8):∃(c:Bytes) (x y:UInt8),(if bs.length%8=0 then Lg bs++[0] else Lg bs)=c++[x]/\Lg (bs++e)=c++[y]/\y.toNat=(x.toNat |||(valB e*2^(8-bs.length%8-e.length))):=by
 obtain⟨c,d,hcd,hc,hd⟩:∃c d,bs=c++d/\c.length%8=0/\d.length=bs.length%8:=⟨bs.take (8*(bs.length / 8)),bs.drop (8*(bs.length / 8)),(List.take_append_drop _ _).symm,by rw[List.length_take];omega,by rw[List.length_drop];omega⟩
 have hb:=z3r (d:=d) (e:=e) (by omega)
 rw[<-hd]
 refine⟨Lg c,QP d,QP (d++e),?_,?_,hb⟩
 ·by_cases h0:d.length=0
  ·have:d=[]:=List.eq_nil_of_length_eq_zero h0;subst this;rw[if_pos (by simp),hcd,List.append_nil,z4j]
  ·rw[if_neg (by omega),hcd,SD hc (by omega) (by omega)]
 ·rw[hcd,List.append_assoc,SD hc (by rw[List.length_append];omega) (by rw[List.length_append];omega)]
set_option maxRecDepth 100000
abbrev L5 (n:Nat):Value:= .int .u64 (n:Int)
theorem RR {w:World}{v:Value}{T s n}{us:List Value}(h:Sl w v T s n us):oneV v=true:=by
 rcases h.shape with⟨rfl,-⟩|⟨g,c,rfl,-⟩<;>rfl
section
variable {P:Program}{e:Env}{d:Option Nat}{ty t t':TypeId}{pos:String}{aft:Array Edge}{g:Option (Nat×Bool)}{x y:Operand}{w:World}{k:IntKind}{m n:Nat}
theorem Rh (hx:look e x=some (.int k (m:Int)))(hy:look e y=some (.int k (n:Int)))(hs:k.signed=false)(hm:m<2^k.bits)(h:n<=m):Y P e ⟨d,.binOp .sub t x y t',ty,pos,aft,g⟩ (.int k ((m-n:Nat):Int)) w w:=fun ρ hρ=>by
 have h1:(m:Int)-n=((m-n:Nat):Int):=by omega
 have h2:k.wrap ((m-n:Nat):Int)=((m-n:Nat):Int):=W4 hs (by omega)
 simp[execOp,go_sem,hρ _ _ hx,hρ _ _ hy,h1,h2]
theorem z9K {el:TypeId}{c:Nat}(hs:P.underlying t=some (.slice el))(he:P.underlying el=some (.int .u8))(hd:P.underlying t'=some .string)(hx:look e x=some (.slice none 0 c)):Y P e ⟨d,.convert t t' x,ty,pos,aft,g⟩ (S []) w w:=fun ρ hρ=>by
 have hr:(convert t t' (.slice none 0 c)).run P w= .ok (S []) w:=by
  rw[run_convert_bytes_string w t t' el none 0 c hs he hd];rfl
 simp only[execOp,hρ _ _ hx,Sem.run_bind,hr,Result.andThen_ok,Sem.run_pure]
theorem zcV {el:TypeId}{gb n cap:Nat}{l:List UInt8}(hs:P.underlying t=some (.slice el))(he:P.underlying el=some (.int .u8))(hd:P.underlying t'=some .string)(hx:look e x=some (.slice (some ⟨gb,0,none⟩) n cap))(hS:Sl w (.slice (some ⟨gb,0,none⟩) n cap) el 1 n (l.map Oq)):
  Y P e ⟨d,.convert t t' x,ty,pos,aft,g⟩ (S l) w w:=by
 obtain⟨cur,hr,-,-,-,ht⟩:=hS.row
 refine z3f hs he hd hx hr.KN (by rw[List.drop_zero,<-ht,Nat.mul_one]) ?_
 have:=hS.len
 rw[List.length_map] at this
 omega
end
theorem LV {w:World}{b off n cap i:Nat}{vs:List Value}{v:Value}(h:Rd w (.slice (some ⟨b,off,none⟩) n cap) 1 n vs)(hv:vs[i]? =some v):w.cell? ⟨b,off+i*1,none⟩=some v:=by
 rcases h.2 with⟨c,hc,h0⟩|⟨b',off',cap',e,hc⟩
 ·have hi:=(List.getElem?_eq_some_iff.1 hv).1;have:=h.1;omega
 ·cases e;rw[Nat.mul_one];exact hc i v hv
structure WrM (w:World)(p:Nat)(bv:Value)(bs:List Bool):Prop where
 KN:KY w p [bv,I (bs.length:Int)] 262
 sl:Sl w bv 5 1 (Lg bs).length ((Lg bs).map Oq)
 ne:bv.ownBlock≠some p
def WX (p:Nat)(bv:Value)(k:Nat):Prop:=k=p\/bv.ownBlock=some k
def Tv (w:World)(p:Nat)(bs:List Bool)(F:Nat->Prop):Prop:=∃bv,WrM w p bv bs/\∀k,F k↔WX p bv k
def WrR (p:Nat)(F:Nat->Prop)(w w':World)(bs:List Bool):Prop:=∃F',Tv w' p bs F'/\Kp F w w'/\∀k,F' k->F k\/w.heap.size<=k
section
variable {w w':World}{p:Nat}{bs:List Bool}{F S:Nat->Prop}
theorem Tv.lt (h:Tv w p bs F){k:Nat}(hk:F k):k<w.heap.size:=by
 obtain⟨bv,hM,hF⟩:=h
 rcases (hF k).1 hk with e| e
 ·rw[e];exact hM.KN.lt
 ·exact hM.sl.lt e
theorem Tv.kp (h:Tv w p bs F)(k:Kp S w w')(hn:∀i,F i->¬S i):Tv w' p bs F:=by
 obtain⟨bv,hM,hF⟩:=h
 exact⟨bv,⟨k.KN hM.KN (hn p ((hF p).2 (.inl rfl))),hM.sl.kp k (fun g hg=>hn g ((hF g).2 (.inr hg))),hM.ne⟩,hF⟩
theorem Tv.ext (h:Tv w p bs F)(k:Ext w w'):Tv w' p bs F:=h.kp k.kp fun _ _=>id
end
section
variable {w:World}{p:Nat}{bs:List Bool}{F:Nat->Prop}
theorem PD (w:World):Lk Tryz.prog 102 [] w fun v w'=>∃p F,v=ptr p 0/\Tv w' p [] F/\Ext w w'/\∀k,F k->w.heap.size<=k:=by
 refine KJ (e:=[]) Tryz.func102 rfl Tryz.ntmps102 rfl rfl (qN rfl (KO rfl (qM rfl (qV (NA (parts:=[]) (cs:=[_,_]) zcD rfl zct rfl rfl) (KU rfl rfl (MH rfl rfl) ?_)))))
 rintro _ w1 ⟨p,rfl,hp,hx,hB⟩
 refine KO rfl (py (KP Tryz.func102 rfl ?_))
 exact⟨_,rfl,p,_,rfl,⟨_,⟨hB,Sl.nil _ _ _,by simp[Value.ownBlock]⟩,fun _=>Iff.rfl⟩,hx,fun k hk=>by
  rcases hk with e| e
  ·omega
  ·simp[Value.ownBlock] at e⟩
theorem z55 (h:Tv w p bs F)(v n:Nat)(hn:n<=64)(hv:v<2^n)(hl:bs.length+n<=1000000000):
  Lk Tryz.prog 142 [ptr p 0,L5 v,I (n:Int)] w fun u w'=>u= .tuple #[]/\WrR p F w w' (bs++bitsN n v):=by
 obtain⟨bv,hM,hF⟩:=h
 have G5:v<18446744073709551616:=by
  have:=Nat.pow_le_pow_right (show 0<2 by decide) hn;have e:(2:Nat)^64=18446744073709551616:=by decide
  omega
 have eL:maxLen=9223372036854775807:=rfl
 refine KJ (e:=[(0,_),(1,_),(2,_)]) Tryz.func142 rfl Tryz.ntmps142 rfl rfl (KL (MV (α:=Nat×Value×List Bool) ((n,bv,bs)) (fun x=>[(0,ptr p 0),(1,L5 v),(2,I (x.1:Int))]) (fun x w'=>x.1<=n/\WrM w' p x.2.1 x.2.2/\x.2.2=bs++bitsN (n-x.1) (v / 2^x.1)/\Kp F w w'/\(∀k,WX p x.2.1 k->F k\/w.heap.size<=k)) (fun x=>x.1) ?hI ?hround))
 case hI=>exact⟨Nat.le_refl _,hM,by rw[Nat.sub_self];simp[bitsN],Kp.refl _ _,fun k hk=> .inl ((hF k).2 hk)⟩
 case hround =>
  rintro⟨k,bv1,b1⟩ w1 ⟨hk,dw,bS,aM,il⟩ ih;dsimp only at hk dw bS il;have ai:=dw.KN;have G6:b1.length<=bs.length+n:=by rw[bS,List.length_append,bitsN_length];omega
  have ji:b1.length&&&7=b1.length%8:=Nat.and_two_pow_sub_one_eq_mod b1.length 3;have m4:=aM.size;have dT:=ai.lt
  try dsimp only
  refine run_seq (qN rfl (An rfl (qV (LU rfl rfl) (py (KZ rfl (fun aO=>?_) (fun aO=>?_))))))
  ·have g9 : 0 < k := by omega
   obtain⟨take,m5⟩:∃take,min k (8-b1.length%8)=take:=⟨_,rfl⟩;have qD:1<=take/\take<=k/\take<=8-b1.length%8:=by omega
   obtain⟨e,he⟩:∃e,bitsN take (v / 2^(k-take))=e:=⟨_,rfl⟩;have nL:e.length=take:=by rw[<-he];simp
   have Eb:valB e=v / 2^(k-take)%2^take:=by rw[<-he,LJ]
   obtain⟨c,x,y,hL,hY,de⟩:=z0m (bs:=b1) (e:=e) (by omega) (by omega);refine It (KL (run_seq (qN rfl (An rfl (qV (L6 rfl) (qV (KT RN rfl) (qV (KS U3 rfl rfl ai rfl) (qV (S9 rfl rfl (by omega) (by omega)) ?_))))))));rw[ji];refine qV (Mr rfl rfl) (py (Lx (fun e' w'=>e'=[(0,ptr p 0),(1,L5 v),(2,I (k:Int))]/\∃bv2,KY w' p [bv2,I (b1.length:Int)] 262/\Sl w' bv2 5 1 (c++[x]).length ((c++[x]).map Oq)/\bv2.ownBlock≠some p/\Kp F w w'/\∀k,WX p bv2 k->F k\/w.heap.size<=k) ?m6 (fun m6=>?m7)))
   case m6=>
    rintro e' w2 ⟨rfl,bv2,ak,cL,eW,am,qF⟩
    obtain⟨g2,c2,rfl,eM⟩:∃g cp,bv2= .slice (some ⟨g,0,none⟩) (c++[x]).length cp/\(c++[x]).length<=cp:=by
     rcases cL.shape with⟨-,e⟩| h
     ·simp at e
     ·exact h
    have ew:(c++[x]).length=c.length+1:=by simp
    have G7:p≠g2:=fun e=>eW (by rw[e];rfl);have kE:(Lg (b1++e)).length=c.length+1:=by rw[hY];simp
    rw[Lq,List.length_append] at kE;obtain⟨T,hT⟩:∃T,2^take=T:=⟨_,rfl⟩;obtain⟨D,hD⟩:∃D,2^(k-take)=D:=⟨_,rfl⟩;obtain⟨R,hR⟩:∃R,2^(8-b1.length%8-take)=R:=⟨_,rfl⟩;rw[hT,hD] at Eb;rw[nL,hR] at de
    have Ec:1<=T/\T<=256:=by
     rw[<-hT];exact⟨Nat.two_pow_pos _,by have:=Nat.pow_le_pow_right (show 0<2 by decide) (show take<=8 by omega);simpa using this⟩
    have iq:(v / D)&&&(T-1)=v / D%T:=by rw[<-hT];exact Nat.and_two_pow_sub_one_eq_mod _ _
    have JG:v / D<=v:=Nat.div_le_self _ _;have G8:v / D%T<T:=Nat.mod_lt _ (by omega)
    have JH:valB e*R<256:=by
     have h1:=Mv e;rw[nL,hT] at h1;have h2:valB e*R<T*R:=Nat.mul_lt_mul_of_pos_right h1 (by rw[<-hR];exact Nat.two_pow_pos _);have h3:T*R=2^(8-b1.length%8):=by rw[<-hT,<-hR,<-Nat.pow_add,show take+(8-b1.length%8-take)=8-b1.length%8 by omega]
     have h4:=Nat.pow_le_pow_right (show 0<2 by decide) (show 8-b1.length%8<=8 by omega);have h5:(2:Nat)^8=256:=by decide
     omega
    have cI:=x.toNat_lt;refine qN rfl (An rfl (qV (L6 rfl) (qV (KT RN rfl) (qV (KS U3 rfl rfl ak rfl) (qV (S9 rfl rfl (by omega) (by omega)) ?_)))));rw[ji];refine qV (Md rfl rfl (by omega)) ?_;rw[show(8-((b1.length%8:Nat):Int))=((8-b1.length%8:Nat):Int) by omega];refine KO rfl (qM rfl (An rfl (An rfl (qV (ymi rfl rfl) ?_))));rw[show min (k:Int) ((8-b1.length%8:Nat):Int)=((take:Nat):Int) by omega];have hg:=Ext.Lb w2;refine KO rfl (py (run_seq (KV (fun w'=>Ext w2 w') (by kernel_rfl) rfl (KR 0 rfl (KW rfl) hg (KR 1 rfl (KW rfl) hg (KR 2 rfl (KW rfl) hg (KR 3 rfl (Md rfl rfl (by omega)) hg (KR 5 rfl (KW rfl) hg ?_))))))));rw[show((k:Int)-(take:Int))=((k-take:Nat):Int) by omega];refine KR 4 rfl (Ps (k-take) D rfl rfl (by show k-take<=64;omega) hD) hg ?_;refine KR 6 rfl (MD take T rfl rfl (by omega) hT) hg ?_;rw[show(1*T)%18446744073709551616=T by omega];refine KR 7 rfl (Rh (n:=1) rfl rfl rfl (by show T<2^64;omega) (by omega)) hg ?_;refine KR 8 rfl (PF rfl rfl (by omega) (by omega)) hg ?_;rw[iq];refine KR 9 rfl (z7d rfl Mq U5) hg ?_;rw[show v / D%T%256=valB e by rw[Eb];exact Nat.mod_eq_of_lt (Nat.lt_of_lt_of_le G8 Ec.2)];have ao:=hg.KN ak;have cM:=cL.ext hg;have ag:Ext w2.drew w2.drew.drew:=Ext.Lb w2.drew;refine KR 10 rfl (MO rfl) hg (qE (run_seq (Le [19] (fun w'=>Ext w2.drew w') (by kernel_rfl) rfl (qL [1,2,3,10,11,17,18,19] 0 rfl (fun _ h=>KW rfl) ag (qL [2,3,10,11,17,18,19] 1 rfl (fun _ h=>L6 rfl) ag (qL [3,10,11,17,18,19] 2 rfl (fun _ h=>KT Ts rfl) ag (qL [10,11,17,18,19] 3 rfl (fun _ h=>KS M4 rfl rfl (h.KN ao) rfl) ag (qL [5,6,7,8,9,10,11,17,18,19] 4 rfl (fun _ h=>KW rfl) ag (qL [6,7,8,9,10,11,17,18,19] 5 rfl (fun _ h=>L6 rfl) ag (qL [7,8,9,10,11,17,18,19] 6 rfl (fun _ h=>KT Ts rfl) ag (qL [8,9,10,11,17,18,19] 7 rfl (fun _ h=>KS M4 rfl rfl (h.KN ao) rfl) ag (qL [9,10,11,17,18,19] 8 rfl (fun _ h=>LM M4 rfl) ag (qL [16,17,18,19] 12 rfl (fun _ h=>KW rfl) ag ?_)))))))))))));refine qL [15,16,17,18,19] 13 rfl (fun _ h=>KW rfl) ag (qL [15,16,17,18,19] 14 rfl (fun _ h=>KW rfl) ag (qL [16,17,18,19] 15 rfl (fun _ h=>Md rfl rfl (by omega)) ag (qL [10,11,17,18,19] 9 rfl (fun _ h=>Md rfl rfl (by omega)) ag ?_)));rw[show(((c++[x]).length:Int)-1)=((c.length:Nat):Int) by omega];refine qL [11,17,18,19] 10 rfl (fun _ h=>LC M4 SJ rfl rfl (by omega)) ag (qL [17,18,19] 11 rfl (fun _ hS=>Lm U5 rfl rfl (LV (cM.rd.ext hS) (show((c++[x]).map Oq)[c.length]? =some (Oq x) by simp))) ag ?_);rw[show(((8-b1.length%8:Nat):Int)-(take:Int))=((8-b1.length%8-take:Nat):Int) by omega];refine qL [17,18,19] 16 rfl (fun _ h=>zdI (8-b1.length%8-take) R rfl rfl (by omega) hR) ag ?_;rw[show valB e*R%256=valB e*R by omega];refine qL [18,19] 17 rfl (fun _ h=>zdC rfl rfl (by omega) (by omega)) ag (qL [19] 18 rfl (fun _ h=>LC M4 SJ rfl rfl (by omega)) ag (LD [19] (by kernel_rfl) (by kernel_rfl) (qO 19 (Lv (i:=19) rfl rfl (MY SJ rfl rfl rfl (cM.ext ag) (by simp)) ?_))))
    rintro w4 ⟨dU,aw⟩;refine⟨trivial,?_⟩
    rw[show((c++[x]).map Oq).set (0+c.length*1) (.int .u8 ((x.toNat |||valB e*R:Nat):Int))=(c++[y]).map Oq by
     rw[Nat.zero_add,Nat.mul_one,List.map_append,List.map_append,List.set_append_right _ _ (by simp)]
     simp[Oq,de]] at dU
    have aJ:=aw.KN (ag.KN ao) G7;refine qE (qN rfl (An rfl (qV (L6 rfl) (qV (KT RN rfl) (qV (KS U3 rfl rfl aJ rfl) (An rfl (LH rfl rfl (qV (L6 rfl) (qV (KT RN rfl) (L0 rfl (Mt LG rfl rfl rfl aJ (by simp)) ?_))))))))));rintro w5 ⟨aF,aj⟩;rw[show((b1.length:Int)+(take:Int))=(((b1++e).length:Nat):Int) by rw[List.length_append,nL];omega] at aF;replace aF:KY w5 p [.slice (some ⟨g2,0,none⟩) (c++[x]).length c2,I ((b1++e).length:Int)] 262:=aF
    have gd:=dU.kp aj (fun g hg e=>by
                         have:g2=g:=by simpa[Value.ownBlock] using hg
                         omega)
    refine py (KQ rfl (An rfl (An rfl (qV (Md rfl rfl (by omega)) (KO rfl (py (KM ?_)))))));rw[show((k:Int)-(take:Int))=((k-take:Nat):Int) by omega];refine(ih (k-take,.slice (some ⟨g2,0,none⟩) (c++[x]).length c2,b1++e) w5 ⟨by dsimp only;omega,⟨aF,?_,eW⟩,?_,?_,qF⟩ (by dsimp only;omega)).qb
    ·rw[hY];have e1:(c++[y]).length=(c++[x]).length:=by simp
     rw[e1];exact gd
    ·dsimp only;rw[bS,List.append_assoc]
     congr 1
     rw[<-he,show n-(k-take)=(n-k)+take by omega,N9]
     congr 2
     rw[Nat.div_div_eq_div_mul,<-Nat.pow_add,show k-take+take=k by omega]
    ·have zE:Kp (WX p (.slice (some ⟨g2,0,none⟩) (c++[x]).length c2)) w2 w5:=((hg.trans ag).kp.trans (aw.L2 (fun i e=> .inr (by rw[e];rfl)))).trans (aj.L2 (fun i e=> .inl e));exact am.KK zE (fun i hi=>(qF i hi).symm)
   case m7=>
    refine KZ rfl (fun h0=>?_) (fun h0=>?_)
    ·rw[if_pos (by omega)] at hL;refine KQ rfl (An rfl (An rfl (qV (L6 rfl) (qV (KT Ts rfl) (qV (KS M4 rfl rfl ai rfl) (KU rfl rfl (Tx (parts:=[(0,.const (Value.int .u8 0))]) (cs:=[_]) (zs:=[Value.int .u8 0]) M4 SJ rfl (by kernel_rfl) rfl rfl rfl (by decide)) ?_))))));rintro _ w2 ⟨b2,rfl,⟨bT,af,ak⟩,cL⟩;refine KU rfl rfl (pap M4 SJ rfl (by decide) rfl rfl (dw.sl.ext af) cL.rd (by intro c hc;simp at hc;subst hc;rfl) (by rw[Lq];omega) (by rw[Lq];omega)) ?_;rintro bv3 w3 ⟨cM,au,jY,-⟩;have ao:=au.KN (af.KN ai) dw.ne;refine qV (L6 rfl) (qV (KT Ts rfl) (L0 rfl (Mt S6 rfl rfl (RR cM) ao (by simp)) ?_));rintro w4 ⟨aJ,aw⟩;replace aJ:KY w4 p [bv3,I (b1.length:Int)] 262:=aJ;refine py ?_
     have eE:bv3.ownBlock≠some p:=fun e=>by
      rcases jY p e with e| e
      ·exact dw.ne e
      ·have:=af.size;omega
     refine(m6 _ _ ⟨rfl,bv3,aJ,?_,eE,?_,?_⟩).qb
     ·rw[<-hL,List.length_append,List.map_append];exact cM.kp aw (fun g hg e=>eE (e▸hg))
     ·exact aM.KK ((af.kp.trans (au.L2 (fun k e=> .inr e))).trans (aw.L2 (fun k e=> .inl e))) (fun i hi=>(il i hi).symm)
     ·intro i hi;rcases hi with e| e
      ·exact il i (.inl e)
      ·rcases jY i e with e| e
       ·exact il i (.inr e)
       ·have:=af.size;exact .inr (by omega)
    ·rw[if_neg (by omega)] at hL;refine It ?_;exact(m6 _ _ ⟨rfl,bv1,ai,by rw[<-hL];exact dw.sl,dw.ne,aM,il⟩).qb
  ·have:k=0:=by omega
   subst this;refine KX rfl (M8 Tryz.func142 rfl (⟨_,rfl,rfl,_,⟨bv1,?_,fun _=>Iff.rfl⟩,aM,il⟩));rw[bS,Nat.sub_zero,Nat.pow_zero,Nat.div_one] at dw;exact dw
theorem z2U (v n:Nat)(hn:n<=64)(hv:v<2^n)(w:World):Lk Tryz.prog 141 [L5 v,I (n:Int)] w fun u w'=>u= .bool true/\w'=w:=by
 refine KJ (e:=[(0,_),(1,_)]) Tryz.func141 rfl Tryz.ntmps141 rfl rfl (qN rfl (KO rfl (qM rfl (An rfl (qV (Ou rfl rfl) (An rfl (ND (fun h1=>?_) (fun h1=>?_))))))))
 ·refine qS (qS (qS (qS (qV (LR rfl rfl) (KO rfl (py (KP Tryz.func141 rfl ?_)))))));exact⟨_,rfl,rfl,rfl⟩
 ·refine An rfl (An rfl (qV (Ps n (2^n) rfl rfl (by show n<=64;omega) rfl) ?_));rw[Nat.div_eq_of_lt hv];refine qV (Mr rfl rfl) (qV (Ls rfl rfl) (KO rfl (py (KP Tryz.func141 rfl ?_))));exact⟨_,rfl,by simp[resVal],rfl⟩
theorem Nr (h:Tv w p bs F)(v n:Nat)(hn:n<=64)(hv:v<2^n)(hl:bs.length+n<=134217728):
  Lk Tryz.prog 103 [ptr p 0,L5 v,I (n:Int)] w fun u w'=>u=I 0/\WrR p F w w' (bs++bitsN n v):=by
 obtain⟨bv,hM,hF⟩:=id h
 have hB:=hM.KN
 refine KJ (e:=[(0,_),(1,_),(2,_)]) Tryz.func103 rfl Tryz.ntmps103 rfl rfl (qN rfl (KO rfl (py (run_seq (KL (qN rfl (An rfl (qV (LQ XF rfl rfl) (KO rfl (py (KH rfl (qN rfl (An rfl ?_)))))))))))))
 refine qV (LX rfl rfl) (An rfl (ND (fun h1=>?_) (fun h1=>?_)))
 ·omega
 ·refine An rfl (qV (LU rfl rfl) (qV (Ls rfl rfl) (An rfl (ND (fun h2=>?_) (fun h2=>?_)))))
  ·omega
  ·refine An rfl (An rfl (La [.tmp 18,.tmp 19] zbi rfl (z2U v n hn hv w) ?_));rintro _ w ⟨rfl,rfl⟩;refine qV ((by first|exact LN rfl|exact Na rfl)) ?_;refine qV (Ls rfl rfl) (KO rfl (py (KH rfl (qN rfl (An rfl (An rfl (qV (L6 rfl) (qV (KT RN rfl) (qV (KS U3 rfl rfl hB rfl) (qV (Md rfl rfl (by omega)) (qV (LU rfl rfl) (KO rfl (py ?_)))))))))))));refine Ll.qb (e:=[(0,_),(1,_),(2,_),(6,_),(23,_)]) ?_;refine KZ rfl (fun h3=>?_) (fun h3=>?_)
   ·omega
   ·refine It (KM (qN rfl (An rfl (An rfl (An rfl (La [.tmp 31,.tmp 32,.tmp 33] zbs rfl (z55 h v n hn hv (by omega)) ?_))))));rintro _ w1 ⟨rfl,hR⟩;refine qM rfl (KO rfl (py (KP Tryz.func103 rfl ?_)));exact⟨_,rfl,rfl,hR⟩
theorem RK (h:Tv w p bs F):Lk Tryz.prog 104 [ptr p 0] w fun u w'=>u= .tuple #[S (Lg bs),I 0]/\w'=w:=by
 obtain⟨bv,hM,hF⟩:=h
 have hB:=hM.KN
 have hS:=hM.sl
 refine KJ (e:=[(0,_)]) Tryz.func104 rfl Tryz.ntmps104 rfl rfl (qN rfl (KO rfl (KO rfl (py (run_seq (qN rfl (An rfl (qV (LQ XF rfl rfl) (py (KH rfl (It (qN rfl (An rfl ?_)))))))))))))
 refine qV (L6 rfl) (qV (KT Ts rfl) (qV (KS M4 rfl rfl hB rfl) ?_))
 rcases hS.shape with⟨rfl,h0⟩|⟨g,cap,rfl,jj⟩
 ·have hn:Lg bs=[]:=List.eq_nil_of_length_eq_zero h0;rw[hn];refine qV (z9K M4 U5 U9 rfl) (KO rfl (KO rfl (py (KP Tryz.func104 rfl ?_))));exact⟨_,rfl,rfl,rfl⟩
 ·refine qV (zcV (l:=Lg bs) M4 U5 U9 rfl hS) (KO rfl (KO rfl (py (KP Tryz.func104 rfl ?_))));exact⟨_,rfl,rfl,rfl⟩
theorem Qt (h:Tv w p bs F):Lk Tryz.prog 107 [ptr p 0] w fun u w'=>u=I (bs.length:Int)/\w'=w:=by
 obtain⟨bv,hM,hF⟩:=h
 have hB:=hM.KN
 refine KJ (e:=[(0,_)]) Tryz.func107 rfl Tryz.ntmps107 rfl rfl (qN rfl (KO rfl (py (run_seq (qN rfl (An rfl (qV (LQ XF rfl rfl) (py (KH rfl (It (qN rfl (An rfl (qV (L6 rfl) ?_)))))))))))))
 refine qV (KT RN rfl) (qV (KS U3 rfl rfl hB rfl) (KO rfl (py (KP Tryz.func107 rfl ?_))))
 exact⟨_,rfl,rfl,rfl⟩
end
def OQ (w:World)(r:Nat)(s:Bytes)(a:Nat):Prop:=KY w r [S s,I (a:Int)] 293/\a<=8*s.length/\s.length<=1000000000
section
variable {w:World}{r:Nat}{s:Bytes}{a:Nat}
theorem RQ (s:Bytes)(hs:s.length<=1000000000)(w:World):Lk Tryz.prog 145 [S s] w fun v w'=>∃r,v=ptr r 0/\OQ w' r s 0/\Ext w w'/\w.heap.size<=r:=by
 refine KJ (e:=[(0,_)]) Tryz.func145 rfl Tryz.ntmps145 rfl rfl (qN rfl (KO rfl (qM rfl (An rfl (qV (NA (parts:=[(0,.tmp 3)]) (cs:=[_,_]) zbE rfl zcv rfl rfl) (KU rfl rfl (MH rfl rfl) ?_))))))
 rintro _ w1 ⟨r,rfl,hr,hx,hB⟩
 refine KO rfl (py (KP Tryz.func145 rfl ?_))
 exact⟨_,rfl,r,rfl,⟨hB,Nat.zero_le _,hs⟩,hx,by omega⟩
theorem P8 (h:OQ w r s a):Lk Tryz.prog 133 [ptr r 0] w fun v w'=>v=I (a:Int)/\w'=w:=by
 obtain⟨hB,h1,h2⟩:=h
 refine KJ (e:=[(0,_)]) Tryz.func133 rfl Tryz.ntmps133 rfl rfl (qN rfl (KO rfl (py (run_seq (qN rfl (An rfl (qV (LQ Oz rfl rfl) (py (KH rfl (It (qN rfl (An rfl (qV (L6 rfl) ?_)))))))))))))
 refine qV (KT PV rfl) (qV (KS U3 rfl rfl hB rfl) (KO rfl (py (KP Tryz.func133 rfl ?_))))
 exact⟨_,rfl,rfl,rfl⟩
theorem z2Z (h:OQ w r s a):Lk Tryz.prog 179 [ptr r 0] w fun v w'=>v=I ((8*s.length-a:Nat):Int)/\Ext w w':=by
 obtain⟨hB,h1,h2⟩:=h
 refine KJ (e:=[(0,_)]) Tryz.func179 rfl Tryz.ntmps179 rfl rfl (qN rfl (KO rfl (py (run_seq (qN rfl (An rfl (qV (LQ Oz rfl rfl) ?_)))))))
 have hg:=Ext.Lb w
 refine py (KH rfl (It (run_seq (KV (fun w'=>Ext w w') (by kernel_rfl) rfl (KR 0 rfl (KW rfl) hg (KR 1 rfl (L6 rfl) hg (KR 2 rfl (KT Y9 rfl) hg (qT 3 rfl (fun _ h=>KS U9 rfl rfl (h.KN hB) rfl) hg (KR 4 rfl (R1 U9 rfl) hg (KR 5 rfl (Tu rfl rfl (by omega)) hg (KR 6 rfl (KW rfl) hg (KR 7 rfl (L6 rfl) hg (KR 8 rfl (KT PV rfl) hg ?_)))))))))))))
 refine qT 9 rfl (fun _ h=>KS U3 rfl rfl (h.KN hB) rfl) hg (KR 10 rfl (Md rfl rfl (by omega)) hg (KR 11 rfl (MO rfl) hg (qE (KP Tryz.func179 rfl (⟨_,rfl,?_,hg⟩)))))
 simp only[resVal]
 congr 1
 omega
theorem Ub (h:OQ w r s a)(k:Nat)(hk:k<=8*s.length):Lk Tryz.prog 173 [ptr r 0,I (k:Int)] w fun v w'=>v=I 0/\OQ w' r s k/\Kp (fun i=>i=r) w w':=by
 obtain⟨hB,h1,h2⟩:=h
 refine KJ (e:=[(0,_),(1,_)]) Tryz.func173 rfl Tryz.ntmps173 rfl rfl (qN rfl (KO rfl (py (run_seq (KL (qN rfl (An rfl (qV (LQ Oz rfl rfl) (KO rfl (py (KH rfl (qN rfl (An rfl ?_)))))))))))))
 refine qV (LX rfl rfl) (An rfl (ND (fun c1=>?_) (fun c1=>?_)))
 ·omega
 ·refine An rfl (An rfl (qV (L6 rfl) (qV (KT Y9 rfl) (qV (KS U9 rfl rfl hB rfl) (qV (R1 U9 rfl) (qV (Tu rfl rfl (by omega)) (qV (LU rfl rfl) (qV (Ls rfl rfl) (KO rfl (py (KZ rfl (fun c2=>?_) (fun c2=>?_))))))))))))
  ·omega
  ·refine It (KM (qN rfl (An rfl (An rfl (qV (L6 rfl) (qV (KT PV rfl) (L0 rfl (Mt LG rfl rfl rfl hB (by simp)) ?_)))))));rintro w1 ⟨ai,aM⟩;refine qM rfl (KO rfl (py (KP Tryz.func173 rfl ?_)));exact⟨_,rfl,rfl,⟨ai,hk,h2⟩,aM⟩
theorem z00 {b2 b6 V n:Nat}(h:OQ w r s a)(h2:KY w b2 [ptr r 0] 240)(h6:KY w b6 [L5 V] 41)(hn:1<=n)(qG:n<=8-a%8)(hl:a+n<=8*s.length)(hV:V*2^n+2^n<=18446744073709551616)(d1:b6≠r)(d2:b2≠r)(d3:b2≠b6):
  Lk Tryz.prog 180 [I (n:Int),ptr b2 0,ptr b6 0] w fun u w'=>u= .tuple #[]/\OQ w' r s (a+n)/\KY w' b6 [L5 (V*2^n+valB (((Lc s).drop a).take n))] 41/\KY w' b2 [ptr r 0] 240/\Kp (fun k=>k=b6\/k=r) w w':=by
 obtain⟨hB,ha,hs⟩:=h
 have ji:a&&&7=a%8:=Nat.and_two_pow_sub_one_eq_mod a 3
 obtain⟨c,hc⟩:∃c,s[a / 8]? =some c:=⟨_,List.getElem?_eq_getElem (by omega)⟩
 have hp:=z1D hc qG
 obtain⟨pc,kE⟩:∃pc,valB (((Lc s).drop a).take n)=pc:=⟨_,rfl⟩
 have dT:pc<2^n:=by
  rw[<-kE];have h1:=Mv (((Lc s).drop a).take n);rw[List.length_take,List.length_drop,bitsT_length,Nat.min_eq_left (by omega)] at h1;exact h1
 rw[kE] at hp⊢
 have JI:=c.toNat_lt
 obtain⟨rm,yn⟩:∃rm,8-a%8=rm:=⟨_,rfl⟩
 rw[yn] at hp qG
 have iq:c.toNat&&&(2^rm-1)=c.toNat%2^rm:=Nat.and_two_pow_sub_one_eq_mod _ _
 obtain⟨R,hR⟩:∃R,2^rm=R:=⟨_,rfl⟩
 have tv:1<=R/\R<=256:=by
  rw[<-hR];exact⟨Nat.two_pow_pos _,by have:=Nat.pow_le_pow_right (show 0<2 by decide) (show rm<=8 by omega);simpa using this⟩
 rw[hR] at hp iq
 have lK:c.toNat%R<=c.toNat:=Nat.mod_le _ _
 have G9:s.getD (a / 8) 0=c:=by rw[List.getD_eq_getElem?_getD,hc];rfl
 refine KJ (e:=[(0,_),(1,_),(2,_)]) Tryz.func180 rfl Tryz.ntmps180 rfl rfl (qN rfl (qV ((by first|exact KS Oz rfl rfl hB rfl|exact KS Oz rfl rfl h2 rfl)) ?_))
 refine qV (L6 rfl) (qV (KT PV rfl) (qV ((by first|exact KS U3 rfl rfl hB rfl|exact KS U3 rfl rfl h2 rfl)) ?_))
 refine qV (S9 rfl rfl (by omega) (by omega)) ?_
 rw[ji]
 refine qV (Md rfl rfl (by omega)) ?_
 rw[show(8-((a%8:Nat):Int))=((rm:Nat):Int) by omega]
 have hg:=Ext.Lb w
 refine KO rfl (py (run_seq (KV (fun w'=>Ext w w') (by kernel_rfl) rfl (qT 0 rfl (fun _ h=>(by first|exact KS Oz rfl rfl (h.KN hB) rfl|exact KS Oz rfl rfl (h.KN h2) rfl)) hg ?_))))
 refine KR 1 rfl (L6 rfl) hg (KR 2 rfl (KT Y9 rfl) hg (qT 3 rfl (fun _ h=>(by first|exact KS U9 rfl rfl (h.KN hB) rfl|exact KS U9 rfl rfl (h.KN h2) rfl)) hg ?_))
 refine qT 4 rfl (fun _ h=>(by first|exact KS Oz rfl rfl (h.KN hB) rfl|exact KS Oz rfl rfl (h.KN h2) rfl)) hg ?_
 refine KR 5 rfl (L6 rfl) hg (KR 6 rfl (KT PV rfl) hg (qT 7 rfl (fun _ h=>(by first|exact KS U3 rfl rfl (h.KN hB) rfl|exact KS U3 rfl rfl (h.KN h2) rfl)) hg ?_))
 refine KR 8 rfl (RE rfl rfl (by omega)) hg (KR 11 rfl (KW rfl) hg (KR 15 rfl (KW rfl) hg (KR 16 rfl (KW rfl) hg (KR 17 rfl (Md rfl rfl (by omega)) hg ?_))))
 rw[show((a:Int) / 8)=((a / 8:Nat):Int) by omega]
 refine KR 9 rfl (zbL U9 rfl rfl (by omega)) hg (KR 10 rfl ((by first|exact z39 rfl U5 U3 (by decide)|exact Lw rfl U5 U3 (by omega))) hg ?_)
 rw[G9]
 refine KR 12 rfl (zdP rm R rfl rfl (by omega) hR (by omega)) hg ?_
 rw[show(1*(R:Int))=((R:Nat):Int) by omega]
 refine KR 13 rfl (Md rfl rfl (by omega)) hg ?_
 rw[show((R:Int)-1)=((R-1:Nat):Int) by omega]
 refine KR 14 rfl (S9 rfl rfl (by omega) (by omega)) hg ?_
 rw[iq]
 rw[show((rm:Int)-(n:Int))=((rm-n:Nat):Int) by omega]
 refine KR 18 rfl (Ps (rm-n) (2^(rm-n)) rfl rfl (by show rm-n<=64;omega) rfl) hg ?_
 rw[<-hp]
 refine KR 19 rfl (MO rfl) hg (qE (Ll.qb (e:=[(0,_),(1,_),(2,_),(5,_)]) ?_))
 refine qN rfl ?_
 have ai:=hg.KN hB
 have Ed:=hg.KN h2
 have yo:=hg.KN h6
 obtain⟨N,hN⟩:∃N,2^n=N:=⟨_,rfl⟩
 rw[hN] at hV dT
 have JJ:1<=N:=by rw[<-hN];exact Nat.two_pow_pos _
 obtain⟨M,hM⟩:∃M,V*N=M:=⟨_,rfl⟩
 rw[hM] at hV
 have nM:M |||pc=M+pc:=by
  have:=Nat.two_pow_add_eq_or_of_lt (i:=n) (b:=pc) (by rw[hN];exact dT) V;rw[hN,Nat.mul_comm N V,hM] at this;exact this.symm
 rw[hN,hM]
 have qH:n<=64:=by omega
 refine qV ((by first|exact KS Mq rfl rfl ai rfl|exact KS Mq rfl rfl Ed rfl|exact KS Mq rfl rfl yo rfl)) ?_
 refine An rfl (qV (MD n N rfl rfl qH hN) ?_)
 rw[hM,Nat.mod_eq_of_lt (show M<18446744073709551616 by omega)]
 refine An rfl (qV ((by first|exact LF rfl U3 Mq (by omega)|exact N0 rfl U3 Mq)) ?_)
 refine qV (Vn rfl rfl (by omega) (by omega)) ?_
 rw[nM]
 refine L0 rfl (Mt PQ rfl rfl rfl yo (by simp)) ?_
 rintro w2 ⟨zF,am⟩
 have ak:=am.KN ai (Ne.symm d1)
 have zH:=am.KN Ed d3
 refine py (KQ rfl (qV ((by first|exact KS Oz rfl rfl ak rfl|exact KS Oz rfl rfl zH rfl|exact KS Oz rfl rfl zF rfl)) ?_))
 refine qV (L6 rfl) (qV (KT PV rfl) (qV ((by first|exact KS U3 rfl rfl ak rfl|exact KS U3 rfl rfl zH rfl|exact KS U3 rfl rfl zF rfl)) ?_))
 refine An rfl (LH rfl rfl (qV (L6 rfl) (qV (KT PV rfl) (L0 rfl (Mt LG rfl rfl rfl ak (by simp)) ?_))))
 rintro w3 ⟨ao,au⟩
 rw[show((a:Int)+(n:Int))=((a+n:Nat):Int) by omega] at ao
 refine py (M8 Tryz.func180 rfl ?_)
 exact⟨_,rfl,rfl,⟨ao,hl,hs⟩,au.KN zF d1,au.KN zH d2,(hg.kp.trans (am.L2 (fun k e=> .inl e))).trans (au.L2 (fun k e=> .inr e))⟩
theorem Qh (h:OQ w r s a)(n:Nat)(hn:n<=64):
  Lk Tryz.prog 147 [ptr r 0,I (n:Int)] w fun v w'=>(a+n<=8*s.length/\v= .tuple #[L5 (valB (((Lc s).drop a).take n)),I 0]/\OQ w' r s (a+n)/\Kp (fun k=>k=r) w w')\/(8*s.length<a+n/\v= .tuple #[L5 0,I 4]/\Ext w w'):=by
 have gC:=h.1.lt
 obtain⟨-,ha,hs⟩:=id h
 refine KJ (e:=[(0,_),(1,_)]) Tryz.func147 rfl Tryz.ntmps147 rfl rfl (qN rfl (KU rfl rfl (MH rfl (cs:=[ptr r 0]) rfl) ?_))
 rintro _ w1 ⟨b2,rfl,bT,ad,ak⟩
 have h1:OQ w1 r s a:=⟨ad.KN h.1,h.2⟩
 refine KO rfl (KO rfl (py (run_seq (KL (qN rfl (qV (KS Oz rfl rfl ak rfl) (qV (LQ Oz rfl rfl) (KO rfl (py (KH rfl (qN rfl (An rfl (qV (LX rfl rfl) ?_)))))))))))))
 refine An rfl (ND (fun c1=>?_) (fun c1=>?_))
 ·omega
 ·refine An rfl (qV (LU rfl rfl) (qV (Ls rfl rfl) (KO rfl (py (KZ rfl (fun c2=>?_) (fun c2=>?_))))))
  ·omega
  ·refine qN rfl (An rfl (qV (KS Oz rfl rfl ak rfl) (La [.tmp 21] zbf rfl (z2Z h1) ?_)));rintro _ w2 ⟨rfl,af⟩;refine qV (LU rfl rfl) (KO rfl (py (KZ rfl (fun c3=>?_) (fun c3=>?_))))
   ·refine qN rfl (KO rfl (KO rfl (py (KP Tryz.func147 rfl ?_))));exact⟨_,rfl,.inr ⟨by omega,rfl,ad.trans af⟩⟩
   ·refine It (KM (qN rfl (KU rfl rfl (N3 (cs:=[_]) PQ rfl) ?_)));rintro _ w3 ⟨b6,rfl,nN,ah,aN⟩;replace aN:KY w3 b6 [L5 0] 41:=aN;have aX:=af.trans ah;have cE:=ad.trans aX;have m4:=ad.size;have nO:=af.size;have ir:=ak.lt;have ci:a+n<=8*s.length:=by omega
    refine qM rfl (qV (Zj (first:=[]) (caps:=[.tmp 2,.tmp 6]) rfl rfl) (KO rfl (py (run_seq (KL (MV (α:=Nat) (n) (fun k=>[(1,I (k:Int)),(2,ptr b2 0),(6,ptr b6 0),(7,.func (.func 180) #[] #[ptr b2 0,ptr b6 0])]) (fun k w'=>k<=n/\OQ w' r s (a+(n-k))/\KY w' b6 [L5 (valB (((Lc s).drop a).take (n-k)))] 41/\KY w' b2 [ptr r 0] 240/\Kp (fun i=>i=r) w w') (fun k=>k) ?hI ?hround))))))
    case hI=>exact⟨Nat.le_refl _,⟨by rw[Nat.sub_self];exact cE.KN h.1,by omega,hs⟩,by rw[Nat.sub_self];exact aN,aX.KN ak,cE.kp⟩
    case hround=>
     rintro k w4 ⟨hk,ge,qI,zI,aw⟩ ih;have zJ:=ge.1
     try dsimp only
     refine run_seq (qN rfl (An rfl (qV (LU rfl rfl) (py (KZ rfl (fun aO=>?_) (fun aO=>?_))))))
     ·obtain⟨p,hp⟩:∃p,a+(n-k)=p:=⟨_,rfl⟩;rw[hp] at zJ ge;have ji:p&&&7=p%8:=Nat.and_two_pow_sub_one_eq_mod p 3;obtain⟨take,m5⟩:∃take,min k (8-p%8)=take:=⟨_,rfl⟩;have qD:1<=take/\take<=k/\take<=8-p%8:=by omega
      refine It (KL (qN rfl (An rfl (qV ((by first|exact KS Oz rfl rfl zI rfl|exact KS Oz rfl rfl zJ rfl)) ?_))));refine qV (L6 rfl) (qV (KT PV rfl) (qV ((by first|exact KS U3 rfl rfl zI rfl|exact KS U3 rfl rfl zJ rfl)) ?_));refine qV (S9 rfl rfl (by omega) (by omega)) ?_;rw[ji];refine qV (Md rfl rfl (by omega)) (qV (ymi rfl rfl) ?_);rw[show min (k:Int) (8-((p%8:Nat):Int))=((take:Nat):Int) by omega];obtain⟨V,hV⟩:∃V,valB (((Lc s).drop a).take (n-k))=V:=⟨_,rfl⟩;rw[hV] at qI
      have Ee:V*2^take+2^take<=18446744073709551616:=by
       have h1:=Mv (((Lc s).drop a).take (n-k));rw[hV,List.length_take,List.length_drop,bitsT_length,Nat.min_eq_left (by omega)] at h1;have h2:(V+1)*2^take<=2^(n-k)*2^take:=Nat.mul_le_mul_right _ h1;rw[<-Nat.pow_add,Nat.add_mul,Nat.one_mul] at h2;have h3:=Nat.pow_le_pow_right (show 0<2 by decide) (show n-k+take<=64 by omega);have h4:(2:Nat)^64=18446744073709551616:=by decide
       omega
      refine KO rfl (qM rfl (An rfl (An rfl (Mi rfl rfl (Nk (args:=[.tmp 36]) zam rfl rfl) (z00 ge zI qI qD.1 qD.2.2 (by omega) Ee (by omega) (by omega) (by omega)) ?_))));rintro _ w5 ⟨rfl,qK,Ga,Gb,aj⟩;refine py (KQ rfl (An rfl (An rfl (qV (Md rfl rfl (by omega)) (KO rfl (py (KM ?_)))))));rw[show((k:Int)-(take:Int))=((k-take:Nat):Int) by omega];refine(ih (k-take) w5 ⟨by omega,?_,?_,Gb,?_⟩ (by omega)).qb
      ·rw[show a+(n-(k-take))=p+take by omega];exact qK
      ·rw[show n-(k-take)=(n-k)+take by omega,List.take_add,N4,hV,List.drop_drop,hp];have hl:(((Lc s).drop p).take take).length=take:=by rw[List.length_take,List.length_drop,bitsT_length];omega
       rw[hl];exact Ga
      ·exact aw.KK aj (fun i hi=>hi.elim (fun e=> .inl (by omega)) .inr)
     ·have:k=0:=by omega
      subst this;rw[Nat.sub_zero] at ge qI;refine KX rfl (qN rfl (qV (KS Mq rfl rfl qI rfl) (KO rfl (KO rfl (py (KP Tryz.func147 rfl ?_))))));exact⟨_,rfl,.inl ⟨ci,rfl,ge,aw⟩⟩
end
def LB (v:Nat):Nat:=if v=0 then 0 else Nat.log2 v+1
theorem RW {v:Nat}:v<2^LB v:=by
 unfold LB
 split
 ·subst_vars;simp
 ·exact Nat.lt_log2_self
theorem UZ {v:Nat}(h:v≠0):2^(LB v-1)<=v:=by
 unfold LB
 rw[if_neg h,Nat.add_sub_cancel]
 exact Nat.log2_self_le h
theorem z22 {v n:Nat}(h1:2^n<=v)(h2:v<2^(n+1)):LB v=n+1:=by
 have hp:=Nat.two_pow_pos n
 have h0:v≠0:=by omega
 unfold LB
 rw[if_neg h0]
 have:=(Nat.log2_eq_iff h0).2 ⟨h1,h2⟩
 omega
theorem Mu {v n:Nat}(h:v<2^n):LB v<=n:=by
 by_cases h0:v=0
 ·subst h0;simp[LB]
 ·have h1:=UZ h0;have h2:2^(LB v-1)<2^n:=by omega
  have h3:=(Nat.pow_lt_pow_iff_right (by decide:1<2)).1 h2;have:LB v≠0:=by unfold LB;rw[if_neg h0];omega
  omega
def MM (v K:Nat):Nat×Nat:=
 let s:=LB (K-1)
 let m:=2^s-K
 if v<m then(v,s-1) else(v+m,s)
def Mb (v K:Nat):List Bool:=bitsN (MM v K).2 (MM v K).1
theorem Q7 {K:Nat}(hK:1<=K):K<=2^LB (K-1)/\(1<K->1<=LB (K-1)/\2^(LB (K-1)-1)+1<=K):=by
 have h1:=RW (v:=K-1)
 refine⟨by omega,fun h=>?_⟩
 have h2:=UZ (v:=K-1) (by omega)
 refine⟨?_,by omega⟩
 unfold LB
 rw[if_neg (by omega)];omega
theorem z4r {v K:Nat}(h:v<K):(MM v K).1<2^(MM v K).2:=by
 obtain⟨h1,h2⟩:=Q7 (K:=K) (by omega)
 unfold MM
 dsimp only
 split
 ·rename_i hm
  by_cases hK:K=1
  ·subst hK;simp[LB] at hm
  ·obtain⟨h3,h4⟩:=h2 (by omega);have:2^LB (K-1)=2*2^(LB (K-1)-1):=by rw[<-Nat.pow_succ',show(LB (K-1)-1).succ=LB (K-1) by omega]
   dsimp only;omega
 ·dsimp only;omega
theorem z0A {v K:Nat}(h:v<K)(hK:1<K)(rest:List Bool):
  let s:=LB (K-1)
  let m:=2^s-K
  1<=s/\s-1<=(Mb v K).length/\
  ((valB ((Mb v K).take (s-1))<m/\(Mb v K).length=s-1/\valB ((Mb v K).take (s-1))=v)\/
   (m<=valB ((Mb v K).take (s-1))/\(Mb v K).length=s/\2*valB ((Mb v K).take (s-1))+valB ((Mb v K).drop (s-1))=v+m)):=by
 obtain⟨h1,h2⟩:=Q7 (K:=K) (by omega)
 obtain⟨h3,h4⟩:=h2 hK
 have h5:2^LB (K-1)=2*2^(LB (K-1)-1):=by rw[<-Nat.pow_succ',show(LB (K-1)-1).succ=LB (K-1) by omega]
 dsimp only
 unfold Mb MM
 dsimp only
 refine⟨h3,?_⟩
 split
 ·rename_i hm
  dsimp only;rw[bitsN_length,List.take_of_length_le (by simp),LJ,Nat.mod_eq_of_lt (by omega)];exact⟨Nat.le_refl _,.inl ⟨hm,rfl,rfl⟩⟩
 ·rename_i hm
  dsimp only;rw[bitsN_length]
  have e:bitsN (LB (K-1)) (v+(2^LB (K-1)-K))=bitsN (LB (K-1)-1) ((v+(2^LB (K-1)-K)) / 2^1)++bitsN 1 (v+(2^LB (K-1)-K)):=by
   rw[<-N9,show LB (K-1)-1+1=LB (K-1) by omega]
  rw[e,List.take_left' (by simp),List.drop_left' (by simp),LJ,LJ,Nat.mod_eq_of_lt (by omega)];exact⟨by omega,.inr ⟨by omega,rfl,by omega⟩⟩
inductive Cd where
 |unary
 |gamma
 |zeta (k:Nat)
def Cd.zeros:Cd->Nat->Nat
 | .unary,v=>v
 | .gamma,v=>Nat.log2 (v+1)
 | .zeta k,v=>Nat.log2 (v+1) / k
def Cd.rest:Cd->Nat->List Bool
 | .unary,_=>[]
 | .gamma,v=>bitsN (Nat.log2 (v+1)) (v+1-2^Nat.log2 (v+1))
 | .zeta k,v=>let h:=Nat.log2 (v+1) / k;Mb (v+1-2^(h*k)) (2^(h*k)*2^k-2^(h*k))
def Cd.enc (c:Cd)(v:Nat):List Bool:=List.replicate (c.zeros v) false++true::c.rest v
theorem QN {v:Nat}(h:v<=281474976710654):2^Nat.log2 (v+1)<=v+1/\v+1<2^(Nat.log2 (v+1)+1)/\Nat.log2 (v+1)<=47:=by
 have h1:=Nat.log2_self_le (n:=v+1) (by omega)
 have h2:=Nat.lt_log2_self (n:=v+1)
 refine⟨h1,h2,?_⟩
 have h3:2^Nat.log2 (v+1)<2^48:=by
  have:(2:Nat)^48=281474976710656:=by decide
  omega
 have:=(Nat.pow_lt_pow_iff_right (by decide:1<2)).1 h3
 omega
theorem Sv {k v:Nat}(hk:1<=k):let h:=Nat.log2 (v+1) / k;2^(h*k)<=v+1/\v+1-2^(h*k)<2^(h*k)*2^k-2^(h*k)/\1<=2^(h*k)*2^k-2^(h*k):=by
 dsimp only
 have h1:=Nat.log2_self_le (n:=v+1) (by omega)
 have h2:=Nat.lt_log2_self (n:=v+1)
 have h3:Nat.log2 (v+1) / k*k<=Nat.log2 (v+1):=Nat.div_mul_le_self _ _
 have h4:Nat.log2 (v+1)+1<=Nat.log2 (v+1) / k*k+k:=by
  have:=Nat.div_add_mod (Nat.log2 (v+1)) k;have:=Nat.mod_lt (Nat.log2 (v+1)) (show 0<k by omega);have e:=Nat.mul_comm k (Nat.log2 (v+1) / k);omega
 have h5:2^(Nat.log2 (v+1) / k*k)<=2^Nat.log2 (v+1):=Nat.pow_le_pow_right (by decide) h3
 have h6:2^(Nat.log2 (v+1)+1)<=2^(Nat.log2 (v+1) / k*k+k):=Nat.pow_le_pow_right (by decide) h4
 rw[Nat.pow_add 2 (Nat.log2 (v+1) / k*k) k] at h6
 have h7:2<=2^k:=by
  have:=Nat.pow_le_pow_right (show 0<2 by decide) hk
  simpa using this
 have h8:2^(Nat.log2 (v+1) / k*k)*2<=2^(Nat.log2 (v+1) / k*k)*2^k:=Nat.mul_le_mul_left _ h7
 have h9:=Nat.two_pow_pos (Nat.log2 (v+1) / k*k)
 omega
theorem SG {x k:Nat}(h:2^k<=x):LB x=LB (x / 2^k)+k:=by
 have hk:=Nat.two_pow_pos k
 have hy:x / 2^k≠0:=by have:=Nat.div_pos h hk;omega
 have h1:=UZ hy
 have h2:=RW (v:=x / 2^k)
 have h0:LB (x / 2^k)≠0:=by unfold LB;rw[if_neg hy];omega
 obtain⟨n,hn⟩:∃n,LB (x / 2^k)=n+1:=⟨LB (x / 2^k)-1,by omega⟩
 rw[hn] at h1 h2⊢
 rw[Nat.add_sub_cancel] at h1
 have h3:2^(n+k)<=x:=by
  rw[Nat.pow_add];exact Nat.le_trans (Nat.mul_le_mul_right _ h1) (Nat.div_mul_le_self _ _)
 have h4:x<2^(n+k+1):=by
  rw[show n+k+1=(n+1)+k by omega,Nat.pow_add];exact(Nat.div_lt_iff_lt_mul hk).1 h2
 rw[z22 h3 h4];omega
def z8Q:Bytes:=[0,1,2,2,3,3,3,3,4,4,4,4,4,4,4,4,5,5,5,5,5,5,5,5,5,5,5,5,5,5,5,5,6,6,6,6,6,6,6,6,6,6,6,6,6,6,6,6,6,6,6,6,6,6,6,6,6,6,6,6,6,6,6,6,7,7,7,7,7,7,7,7,7,7,7,7,7,7,7,7,7,7,7,7,7,7,7,7,7,7,7,7,7,7,7,7,7,7,7,7,7,7,7,7,7,7,7,7,7,7,7,7,7,7,7,7,7,7,7,7,7,7,7,7,7,7,7,7,8,8,8,8,8,8,8,8,8,8,8,8,8,8,8,8,8,8,8,8,8,8,8,8,8,8,8,8,8,8,8,8,8,8,8,8,8,8,8,8,8,8,8,8,8,8,8,8,8,8,8,8,8,8,8,8,8,8,8,8,8,8,8,8,8,8,8,8,8,8,8,8,8,8,8,8,8,8,8,8,8,8,8,8,8,8,8,8,8,8,8,8,8,8,8,8,8,8,8,8,8,8,8,8,8,8,8,8,8,8,8,8,8,8,8,8,8,8,8,8,8,8,8,8,8,8,8,8]
theorem z5M:z8Q.length=256:=by decide+kernel
theorem zee:∀x:Fin 256,(z8Q.getD x.val 0).toNat=LB x.val:=by decide+kernel
section
variable {w:World}
theorem Pn (x:Nat)(hx:x<18446744073709551616)(w:World):Lk Tryz.prog 143 [L5 x] w fun v w'=>v=I (LB x:Int)/\w'=w:=by
 refine KJ (e:=[(0,_)]) Tryz.func143 rfl Tryz.ntmps143 rfl rfl (qN rfl (KO rfl (py (run_seq (qN rfl (An rfl (qV (Ou rfl rfl) (py (Lx (fun e' w'=>w=w'/\∃x1 n1:Nat,e'=[(0,L5 x1),(2,I (n1:Int))]/\LB x=LB x1+n1/\x1<4294967296/\n1<=32) ?cq (fun cq=>?cJ))))))))))
 case cq=>
  rintro e' w' ⟨rfl,x1,n1,rfl,h1,h2,h3⟩;refine run_seq (qN rfl (An rfl (qV (Ou rfl rfl) (py (Lx (fun e' w'=>w=w'/\∃x2 n2:Nat,e'=[(0,L5 x2),(2,I (n2:Int))]/\LB x=LB x2+n2/\x2<65536/\n2<=48) ?ey (fun ey=>?fk))))))
  case ey=>
   rintro e' w' ⟨rfl,x2,n2,rfl,h4,h5,h6⟩;refine run_seq (qN rfl (An rfl (qV (Ou rfl rfl) (py (Lx (fun e' w'=>w=w'/\∃x3 n3:Nat,e'=[(0,L5 x3),(2,I (n3:Int))]/\LB x=LB x3+n3/\x3<256/\n3<=56) ?ar (fun ar=>?dJ))))))
   case ar=>
    rintro e' w' ⟨rfl,x3,n3,rfl,h7,h8,h9⟩;have fj:=zee ⟨x3,h8⟩;dsimp only at fj;have m8:LB x3<=8:=Mu (by omega);refine qN rfl (An rfl (An rfl (qV (z7d rfl Mq U5) ?_)));rw[Nat.mod_eq_of_lt h8];refine qV (zbL (l:=z8Q) U9 rfl rfl (by rw[z5M];exact h8)) ?_;rw[fj];refine qV ((by first|exact z39 rfl U5 U3 (by decide)|exact Lw rfl U5 U3 (by omega))) ?_;refine LH rfl rfl (KO rfl (py (KP Tryz.func143 rfl ?_)));exact⟨_,rfl,by simp only[resVal];congr 1;omega,rfl⟩
   case dJ=>
    refine KZ rfl (fun hc=>?_) (fun hc=>?_)
    ·refine qN rfl (An rfl (qV (Ps 8 256 rfl rfl (by decide) rfl) (KO rfl (py (KQ rfl (An rfl (LH rfl rfl (KO rfl (py ((ar _ _ ⟨rfl,x2 / 256,n2+8,rfl,?_,?_,?_⟩).qb))))))))))
     ·have e1:=SG (x:=x2) (k:=8) (by omega);rw[show x2 / 2^8=x2 / 256 from rfl] at e1;omega
     ·omega
     ·omega
    ·refine It ?_;exact(ar _ _ ⟨rfl,x2,n2,rfl,h4,by omega,by omega⟩).qb
  case fk=>
   refine KZ rfl (fun hc=>?_) (fun hc=>?_)
   ·refine qN rfl (An rfl (qV (Ps 16 65536 rfl rfl (by decide) rfl) (KO rfl (py (KQ rfl (An rfl (LH rfl rfl (KO rfl (py ((ey _ _ ⟨rfl,x1 / 65536,n1+16,rfl,?_,?_,?_⟩).qb))))))))))
    ·have e1:=SG (x:=x1) (k:=16) (by omega);rw[show x1 / 2^16=x1 / 65536 from rfl] at e1;omega
    ·omega
    ·omega
   ·refine It ?_;exact(ey _ _ ⟨rfl,x1,n1,rfl,h1,by omega,by omega⟩).qb
 case cJ=>
  refine KZ rfl (fun hc=>?_) (fun hc=>?_)
  ·refine qN rfl (An rfl (qV (Ps 32 4294967296 rfl rfl (by decide) rfl) (KO rfl (py (KQ rfl (KO rfl (py ((cq _ _ ⟨rfl,x / 4294967296,32,rfl,?_,?_,?_⟩).qb))))))))
   ·exact SG (x:=x) (k:=32) (by omega)
   ·omega
   ·omega
  ·refine It ?_;exact(cq _ _ ⟨rfl,x,0,rfl,by omega,by omega,by omega⟩).qb
/-! ### Codes -/
def NM:Cd->List Value
 | .unary=>[.int .u8 0,L5 0]
 | .gamma=>[.int .u8 1,L5 0]
 | .zeta k=>[.int .u8 3,L5 k]
abbrev XH (c:Cd):Value:= .agg (NM c).toArray
def Cd.M3:Cd->Prop
 | .zeta k=>1<=k/\k<=16
 |_=>True
def Cd.most:Cd->Nat
 | .unary=>65535
 |_=>281474976710654
def Cd.p0:Cd->Nat->Nat×Nat
 | .unary,_=>(0,0)
 | .gamma,v=>(v+1-2^Nat.log2 (v+1),Nat.log2 (v+1))
 | .zeta k,v=>let h:=Nat.log2 (v+1) / k;MM (v+1-2^(h*k)) (2^(h*k)*2^k-2^(h*k))
theorem Pv (c:Cd)(hc:c.M3)(w:World):Lk Tryz.prog 207 [XH c] w fun v w'=>v=I 0/\Ext w w':=by
 cases c with
 | unary =>
   refine KJ (e:=[(0,_)]) Tryz.func207 rfl Tryz.ntmps207 rfl rfl (qN rfl (KU rfl rfl (MH rfl (cs:=[.int .u8 0,L5 0]) rfl) ?_));rintro _ w1 ⟨b1,rfl,bS,ad,ai⟩;refine KO rfl (qM rfl (KO rfl (py (run_seq (qN rfl (qV (KT Nj rfl) (qV (KS U5 rfl rfl ai rfl) (py (KL (run_seq (qN rfl (qV (Mr rfl rfl) (MR ?_)))))))))))));refine KO rfl (py (L3 rfl (It (L3 rfl (KQ rfl (qV (KT RG rfl) (qV (KS Mq rfl rfl ai rfl) (qV (Mr rfl rfl) (MR (KO rfl (py (KM (run_seq ?_)))))))))))));refine qN rfl (An rfl (qV ((by first|exact LN rfl|exact Na rfl)) ?_));refine py (KH rfl (It (qN rfl (KO rfl (py (KP Tryz.func207 rfl ?_))))))
   exact⟨_,rfl,rfl,ad⟩
 | gamma =>
   refine KJ (e:=[(0,_)]) Tryz.func207 rfl Tryz.ntmps207 rfl rfl (qN rfl (KU rfl rfl (MH rfl (cs:=[.int .u8 1,L5 0]) rfl) ?_));rintro _ w1 ⟨b1,rfl,bS,ad,ai⟩;refine KO rfl (qM rfl (KO rfl (py (run_seq (qN rfl (qV (KT Nj rfl) (qV (KS U5 rfl rfl ai rfl) (py (KL (run_seq (qN rfl (qV (Mr rfl rfl) (Ly ?_)))))))))))));refine KO rfl (py (KH rfl (qN rfl (qV (Mr rfl rfl) (MR (KO rfl (py (L3 rfl (It (L3 rfl (KQ rfl (qV (KT RG rfl) (qV (KS Mq rfl rfl ai rfl) ?_)))))))))))));refine qV (Mr rfl rfl) (MR (KO rfl (py (KM (run_seq (qN rfl (An rfl (qV ((by first|exact LN rfl|exact Na rfl)) ?_))))))));refine py (KH rfl (It (qN rfl (KO rfl (py (KP Tryz.func207 rfl ?_))))))
   exact⟨_,rfl,rfl,ad⟩
 | zeta k =>
   obtain⟨aM,am⟩:1<=k/\k<=16:=hc;refine KJ (e:=[(0,_)]) Tryz.func207 rfl Tryz.ntmps207 rfl rfl (qN rfl (KU rfl rfl (MH rfl (cs:=[.int .u8 3,L5 k]) rfl) ?_));rintro _ w1 ⟨b1,rfl,bS,ad,ai⟩;refine KO rfl (qM rfl (KO rfl (py (run_seq (qN rfl (qV (KT Nj rfl) (qV (KS U5 rfl rfl ai rfl) (py (KL (run_seq (qN rfl (qV (Mr rfl rfl) (Ly ?_)))))))))))));refine KO rfl (py (KH rfl (qN rfl (qV (Mr rfl rfl) (Ly (KO rfl (py (KH rfl (KQ rfl (qV (Mr rfl rfl) (Ly (KO rfl (py ?_)))))))))))));refine KH rfl (qN rfl (qV (Mr rfl rfl) (MR (KO rfl (py (L3 rfl (KQ rfl (qV (KT RG rfl) (qV (KS Mq rfl rfl ai rfl) (qV (Ou rfl rfl) (MR (An rfl (qV (KT RG rfl) ?_)))))))))))));refine qV (KS Mq rfl rfl ai rfl) (qV (Qv rfl rfl) (MR (qV (LR rfl rfl) (KO rfl (py (KM (run_seq (qN rfl (An rfl (qV ((by first|exact LN rfl|exact Na rfl)) ?_))))))))));refine py (KH rfl (It (qN rfl (KO rfl (py (KP Tryz.func207 rfl ?_))))));exact⟨_,rfl,rfl,ad⟩
theorem WM (c:Cd)(hc:c.M3)(w:World):Lk Tryz.prog 210 [XH c] w fun v w'=>v=L5 c.most/\Ext w w':=by
 cases c with
 | unary =>
   refine KJ (e:=[(0,_)]) Tryz.func210 rfl Tryz.ntmps210 rfl rfl (qN rfl (KU rfl rfl (MH rfl (cs:=[.int .u8 0,L5 0]) rfl) ?_));rintro _ w1 ⟨b1,rfl,bS,ad,ai⟩;refine KO rfl (py (run_seq (KL (qN rfl (qV (Lj (news:=[.int .u8 0,L5 0]) Nv rfl Mj rfl (ai.cells (n:=2) rfl) rfl) (La [.tmp 4] Zn rfl (Pv (.unary) hc w1) ?_))))));rintro _ w2 ⟨rfl,af⟩;have ak:=af.KN ai;refine qV (M0 rfl rfl) (Ly (KO rfl (py (KH rfl (qN rfl (qV (KT Nj rfl) (qV (KS U5 rfl rfl ak rfl) (qV (Mr rfl rfl) (MR (KO rfl (py (L3 rfl (qN rfl ?_)))))))))))));refine KO rfl (py (KP Tryz.func210 rfl ?_))
   exact⟨_,rfl,rfl,ad.trans af⟩
 | gamma =>
   refine KJ (e:=[(0,_)]) Tryz.func210 rfl Tryz.ntmps210 rfl rfl (qN rfl (KU rfl rfl (MH rfl (cs:=[.int .u8 1,L5 0]) rfl) ?_));rintro _ w1 ⟨b1,rfl,bS,ad,ai⟩;refine KO rfl (py (run_seq (KL (qN rfl (qV (Lj (news:=[.int .u8 1,L5 0]) Nv rfl Mj rfl (ai.cells (n:=2) rfl) rfl) (La [.tmp 4] Zn rfl (Pv (.gamma) hc w1) ?_))))));rintro _ w2 ⟨rfl,af⟩;have ak:=af.KN ai;refine qV (M0 rfl rfl) (Ly (KO rfl (py (KH rfl (qN rfl (qV (KT Nj rfl) (qV (KS U5 rfl rfl ak rfl) (qV (Mr rfl rfl) (Ly (KO rfl (py (KH rfl (qN rfl ?_)))))))))))));refine qV (KT Nj rfl) (qV (KS U5 rfl rfl ak rfl) (qV (Mr rfl rfl) (Ly (KO rfl (py (KH rfl (It (KM (qN rfl (KO rfl (py (KP Tryz.func210 rfl ?_))))))))))))
   exact⟨_,rfl,rfl,ad.trans af⟩
 | zeta k =>
   refine KJ (e:=[(0,_)]) Tryz.func210 rfl Tryz.ntmps210 rfl rfl (qN rfl (KU rfl rfl (MH rfl (cs:=[.int .u8 3,L5 k]) rfl) ?_));rintro _ w1 ⟨b1,rfl,bS,ad,ai⟩;refine KO rfl (py (run_seq (KL (qN rfl (qV (Lj (news:=[.int .u8 3,L5 k]) Nv rfl Mj rfl (ai.cells (n:=2) rfl) rfl) (La [.tmp 4] Zn rfl (Pv (.zeta k) hc w1) ?_))))));rintro _ w2 ⟨rfl,af⟩;have ak:=af.KN ai;refine qV (M0 rfl rfl) (Ly (KO rfl (py (KH rfl (qN rfl (qV (KT Nj rfl) (qV (KS U5 rfl rfl ak rfl) (qV (Mr rfl rfl) (Ly (KO rfl (py (KH rfl (qN rfl ?_)))))))))))));refine qV (KT Nj rfl) (qV (KS U5 rfl rfl ak rfl) (qV (Mr rfl rfl) (Ly (KO rfl (py (KH rfl (It (KM (qN rfl (KO rfl (py (KP Tryz.func210 rfl ?_))))))))))));exact⟨_,rfl,rfl,ad.trans af⟩
theorem z4v (c:Cd)(v:Nat)(hc:c.M3)(hv:v<=c.most)(w:World):Lk Tryz.prog 200 [XH c,L5 v] w fun u w'=>u= .bool true/\Ext w w':=by
 obtain⟨x,y,de⟩:∃x y,NM c=[x,y]:=by cases c<;>exact⟨_,_,rfl⟩
 refine KJ (e:=[(0,_),(1,_)]) Tryz.func200 rfl Tryz.ntmps200 rfl rfl (qN rfl (KU rfl rfl (MH rfl (cs:=NM c) rfl) ?_))
 rintro _ w1 ⟨b1,rfl,bS,ad,ai⟩
 refine KO rfl (qM rfl (qV (Lj (news:=NM c) Nv rfl Mj rfl (ai.cells (n:=2) (by rw[de];rfl)) (by rw[de];rfl)) ?_))
 refine La [.tmp 5] Zn rfl (Pv c hc w1) ?_
 rintro _ w2 ⟨rfl,af⟩
 have ak:=af.KN ai
 refine qV (Mr rfl rfl) (MR (An rfl (An rfl (qV (Lj (news:=NM c) Nv rfl Mj rfl (ak.cells (n:=2) (by rw[de];rfl)) (by rw[de];rfl)) ?_))))
 refine La [.tmp 10] z8x rfl (WM c hc w2) ?_
 rintro _ w3 ⟨rfl,ah⟩
 refine qV (Qv rfl rfl) (MR (qV (LR rfl rfl) (KO rfl (py (KP Tryz.func200 rfl ?_)))))
 exact⟨_,rfl,rfl,(ad.trans af).trans ah⟩
end
section
theorem z0S (v K:Nat)(hK:1<=K)(hv:v<K)(Gc:K<=9223372036854775808)(w:World):Lk Tryz.prog 215 [L5 v,L5 K] w fun u w'=>u= .agg #[L5 (MM v K).1,I ((MM v K).2:Int)]/\Ext w w':=by
 obtain⟨s,hs⟩:∃s,LB (K-1)=s:=⟨_,rfl⟩
 have hf:=Q7 hK
 rw[hs] at hf
 obtain⟨h1,h2⟩:=hf
 have e63:(2:Nat)^63=9223372036854775808:=by decide
 have zK:s<=63:=by rw[<-hs];exact Mu (by omega)
 obtain⟨Q,hQ⟩:∃Q,2^s=Q:=⟨_,rfl⟩
 have zL:Q<=9223372036854775808:=by
  have:=Nat.pow_le_pow_right (show 0<2 by decide) zK;omega
 rw[hQ] at h1
 have hP:MM v K=if v<Q-K then(v,s-1) else(v+(Q-K),s):=by unfold MM;rw[hs];dsimp only;rw[hQ]
 refine KJ (e:=[(0,_),(1,_)]) Tryz.func215 rfl Tryz.ntmps215 rfl rfl (qN rfl (KU rfl rfl (N3 (cs:=[_,_]) NN rfl) ?_))
 rintro _ w1 ⟨b4,rfl,gh,ad,aJ⟩
 refine qM rfl (An rfl (qV (Rh (n:=1) rfl rfl rfl (by show K<2^64;omega) hK) ?_))
 refine La [.tmp 8] WY rfl (Pn (K-1) (by omega) w1) ?_
 rintro _ w1 ⟨rfl,rfl⟩
 rw[hs]
 refine KO rfl (py (run_seq (qN rfl (An rfl (qV (MD s Q rfl rfl (by omega) hQ) ?_)))))
 rw[show 1*Q%18446744073709551616=Q by omega]
 refine An rfl (qV (Rh rfl rfl rfl (by show Q<2^64;omega) h1) ?_)
 refine KO rfl (qM rfl (An rfl (An rfl (qV (Ou rfl rfl) (py (KZ rfl (fun jk=>?_) (fun jk=>?_)))))))
 ·rw[if_neg (by omega)] at hP;rw[hP];refine qN rfl (An rfl (An rfl (qV (Pp rfl rfl) ?_)));rw[Nat.mod_eq_of_lt (show v+(Q-K)<18446744073709551616 by omega)];refine An rfl (qV (NA (parts:=[(0,.tmp 19),(1,.tmp 20)]) (cs:=[_,_]) NN rfl z4K rfl rfl) (L0 rfl (Lz (news:=[L5 (v+(Q-K)),I (s:Int)]) NN rfl rfl rfl rfl aJ (by simp)) ?_));rintro w2 ⟨ak,am⟩;replace ak:KY w2 b4 [L5 (v+(Q-K)),I (s:Int)] 328:=ak;refine py (Lh Tryz.func215 (.cell z4Y rfl NN rfl (KY.cells (n:=2) ak (news:=[_,_]) rfl) rfl .nil) ?_);exact⟨_,rfl,rfl,ad.KK am (fun i hi=>by omega)⟩
 ·rw[if_pos (by omega)] at hP;rw[hP]
  have Ef:K≠1:=fun e=>by
   have e0:s=0:=by rw[<-hs,e];rfl
   have e1:Q=1:=by rw[<-hQ,e0]
   omega
  have dC:1<=s:=(h2 (by omega)).1;refine It (qN rfl (An rfl (An rfl (qV (Md rfl rfl (by omega)) ?_))));rw[show((s:Int)-1)=((s-1:Nat):Int) by omega];refine qV (NA (parts:=[(0,.tmp 22),(1,.tmp 24)]) (cs:=[_,_]) NN rfl z4K rfl rfl) (L0 rfl (Lz (news:=[L5 v,I ((s-1:Nat):Int)]) NN rfl rfl rfl rfl aJ (by simp)) ?_);rintro w2 ⟨ak,am⟩;replace ak:KY w2 b4 [L5 v,I ((s-1:Nat):Int)] 328:=ak;refine py (Lh Tryz.func215 (.cell z4Y rfl NN rfl (KY.cells (n:=2) ak (news:=[_,_]) rfl) rfl .nil) ?_);exact⟨_,rfl,rfl,ad.KK am (fun i hi=>by omega)⟩
theorem z3i (n:Nat)(h:n≠0):LB n-1=Nat.log2 n/\1<=LB n:=by
 unfold LB;rw[if_neg h];exact⟨rfl,by omega⟩
theorem Vy (c:Cd)(v:Nat)(hc:c.M3)(hv:v<=281474976710654)(w:World):Lk Tryz.prog 201 [XH c,L5 v] w fun u w'=>u= .tuple #[I (c.zeros v:Int),.agg #[L5 (c.p0 v).1,I ((c.p0 v).2:Int),L5 0,I 0]]/\Ext w w':=by
 obtain⟨l1,l2⟩:=z3i (v+1) (by omega)
 obtain⟨g1,g2,g3⟩:=QN hv
 obtain⟨b,hb⟩:∃b,Nat.log2 (v+1)=b:=⟨_,rfl⟩
 rw[hb] at l1 g1 g2 g3
 obtain⟨Q,hQ⟩:∃Q,2^b=Q:=⟨_,rfl⟩
 rw[hQ] at g1
 have zM:Q<=281474976710656:=by omega
 obtain⟨x,y,de⟩:∃x y,NM c=[x,y]:=by cases c<;>exact⟨_,_,rfl⟩
 refine KJ (e:=[(0,_),(1,_)]) Tryz.func201 rfl Tryz.ntmps201 rfl rfl (qN rfl (KU rfl rfl (MH rfl (cs:=NM c) rfl) ?_))
 rintro _ w1 ⟨b2,rfl,bT,ad,ak⟩
 refine KO rfl (KU rfl rfl (N3 (cs:=[_,_,_,_]) PC rfl) ?_)
 rintro _ w2 ⟨b5,rfl,gD,af,aF⟩
 replace aF:KY w2 b5 [L5 0,I 0,L5 0,I 0] 329:=aF
 refine qM rfl (An rfl (qV (Pp rfl rfl) ?_))
 rw[show(v+1)%18446744073709551616=v+1 by omega]
 refine KO rfl (qM rfl (An rfl (La [.tmp 14] WY rfl (Pn (v+1) (by omega) w2) ?_)))
 rintro _ w2 ⟨rfl,rfl⟩
 refine qV (Md rfl rfl (by omega)) ?_
 rw[show((LB (v+1):Int)-1)=((b:Nat):Int) by omega]
 refine KO rfl (qM rfl (An rfl (An rfl (qV (MD b Q rfl rfl (by omega) hQ) ?_))))
 rw[show 1*Q%18446744073709551616=Q by omega]
 refine qV (Rh rfl rfl rfl (by show v+1<2^64;omega) g1) ?_
 refine An rfl (qV (NA (parts:=[(0,.tmp 20),(1,.tmp 21)]) (cs:=[_,_]) NN rfl z4K rfl rfl) (KU rfl rfl (N3 (cs:=[_,_]) NN rfl) ?_))
 rintro _ w3 ⟨b8,rfl,j0,ah,bZ⟩
 refine L0 rfl (Lz (news:=[L5 (v+1-Q),I (b:Int)]) NN rfl rfl rfl rfl bZ (by simp)) ?_
 rintro w4 ⟨qP,aw⟩
 replace qP:KY w4 b8 [L5 (v+1-Q),I (b:Int)] 328:=qP
 have z1:=ad.size
 have z2:=af.size
 have z3:=ah.size
 have l2':=ak.lt
 have l5':=aF.lt
 have dy:=aw.KN (ah.KN (af.KN ak)) (by omega)
 have dh:=aw.KN (ah.KN aF) (by omega)
 have cK:Ext w w4:=((ad.trans af).trans ah).KK aw (fun i hi=>by omega)
 cases c with
 | unary =>
   replace dy:KY w4 b2 [.int .u8 0,L5 0] 298:=dy;have hg:=Ext.Lb w4;refine py (run_seq (qN rfl (qV (KT Nj rfl) (qV (KS U5 rfl rfl dy rfl) (py (KL (qN rfl (qV (Mr rfl rfl) (MR (KO rfl (py (L3 rfl (run_seq ?_)))))))))))));refine Le [4] (fun w'=>Ext w4 w') (by kernel_rfl) rfl (qL [1,3,4] 0 rfl (fun _ h=>KW rfl) hg (qL [3,4] 1 rfl (fun _ h=>Lw rfl Mq U3 (by omega)) hg (qL [4] 3 rfl (fun _ h=>MO rfl) hg (qL [4] 2 rfl (fun _ h=>Lj (news:=[L5 0,I 0,L5 0,I 0]) Vg rfl PC rfl ((h.KN dh).cells (n:=4) rfl) rfl) hg (LD [4] (by kernel_rfl) (by kernel_rfl) (qO 4 (Lv (i:=4) rfl rfl (Lz (news:=[L5 0,I 0,L5 0,I 0]) PC rfl rfl rfl rfl (hg.KN dh) (by simp)) ?_)))))));rintro w5 ⟨aN,aj⟩;refine⟨trivial,?_⟩;replace aN:KY w5 b5 [L5 0,I 0,L5 0,I 0] 329:=aN;refine qE (Ll.qb (e:=[(1,_),(2,_),(4,_),(5,_)]) ?_);refine Lh Tryz.func201 (.tmp rfl (.cell Vg rfl PC rfl (KY.cells (n:=4) aN (news:=[_,_,_,_]) rfl) rfl .nil)) ?_
   exact⟨_,rfl,rfl,(cK.trans hg).KK aj (fun i hi=>by omega)⟩
 | gamma =>
   replace dy:KY w4 b2 [.int .u8 1,L5 0] 298:=dy;have hg:=Ext.Lb w4;refine py (run_seq (qN rfl (qV (KT Nj rfl) (qV (KS U5 rfl rfl dy rfl) (py (KL (qN rfl (qV (Mr rfl rfl) (Ly (KO rfl (py (KH rfl (qN rfl ?_)))))))))))));refine qV (Mr rfl rfl) (MR (KO rfl (py (Ll.qb (e:=[(1,_),(2,_),(4,_),(5,_),(6,_),(7,_),(8,_),(24,_),(30,_)]) ?_))));refine L3 rfl (run_seq (Le [4] (fun w'=>Ext w4 w') (by kernel_rfl) rfl (qL [3,4] 0 rfl (fun _ h=>KW rfl) hg (qL [4] 3 rfl (fun _ h=>MO rfl) hg (qL [2,4] 1 rfl (fun _ h=>Lj (news:=[L5 (v+1-Q),I (b:Int)]) z4Y rfl NN rfl ((h.KN qP).cells (n:=2) rfl) rfl) hg (qL [4] 2 rfl (fun _ h=>zbg (parts:=[(0,.tmp 33)]) (cs:=[_,_,_,_]) PC rfl Vg NN rfl rfl) hg (LD [4] (by kernel_rfl) (by kernel_rfl) (qO 4 (Lv (i:=4) rfl rfl (Lz (news:=[L5 (v+1-Q),I (b:Int),L5 0,I 0]) PC rfl rfl rfl rfl (hg.KN dh) (by simp)) ?_)))))))));rintro w5 ⟨aN,aj⟩;refine⟨trivial,?_⟩;replace aN:KY w5 b5 [L5 (v+1-Q),I (b:Int),L5 0,I 0] 329:=aN;refine qE (Lh Tryz.func201 (.tmp rfl (.cell Vg rfl PC rfl (KY.cells (n:=4) aN (news:=[_,_,_,_]) rfl) rfl .nil)) ?_)
   exact⟨_,rfl,by simp[resVal,Cd.zeros,Cd.p0,hb,hQ],(cK.trans hg).KK aj (fun i hi=>by omega)⟩
 | zeta k =>
   obtain⟨aM,am⟩:1<=k/\k<=16:=hc;have f:=Sv (k:=k) (v:=v) aM;dsimp only at f;rw[hb] at f;obtain⟨h,hh⟩:∃h,b / k=h:=⟨_,rfl⟩;obtain⟨m,hm⟩:∃m,h*k=m:=⟨_,rfl⟩;have Gd:m<=b:=by rw[<-hm,<-hh];exact Nat.div_mul_le_self _ _
   rw[hh,hm] at f;obtain⟨F,hF⟩:∃F,2^m=F:=⟨_,rfl⟩;obtain⟨G,hG⟩:∃G,2^k=G:=⟨_,rfl⟩;rw[hF,hG] at f;obtain⟨f1,f2,f3⟩:=f;obtain⟨E,hE⟩:∃E,F*G=E:=⟨_,rfl⟩
   have zN:E<=9223372036854775808:=by
    rw[<-hE,<-hF,<-hG,<-Nat.pow_add];have:=Nat.pow_le_pow_right (show 0<2 by decide) (show m+k<=63 by omega);have e63:(2:Nat)^63=9223372036854775808:=by decide
    omega
   rw[hE] at f2 f3;have zO:(Cd.zeta k).zeros v=h:=by show Nat.log2 (v+1) / k=h;rw[hb,hh]
   have zP:(Cd.zeta k).p0 v=MM (v+1-F) (E-F):=by
    show MM (v+1-2^(Nat.log2 (v+1) / k*k)) (2^(Nat.log2 (v+1) / k*k)*2^k-2^(Nat.log2 (v+1) / k*k))=_;rw[hb,hh,hm,hF,hG,hE]
   rw[zO,zP];have pO:(h:Int)*(k:Int)=(m:Int):=by rw[<-hm];simp
   have fX:(b:Int) / (k:Int)=(h:Int):=by rw[<-hh];simp
   replace dy:KY w4 b2 [.int .u8 3,L5 k] 298:=dy;refine py (run_seq (qN rfl (qV (KT Nj rfl) (qV (KS U5 rfl rfl dy rfl) (py (KL (qN rfl (qV (Mr rfl rfl) (Ly (KO rfl (py (KH rfl (qN rfl ?_)))))))))))));refine qV (Mr rfl rfl) (Ly (KO rfl (py (Ll.qb (e:=[(1,_),(2,_),(4,_),(5,_),(6,_),(7,_),(8,_),(24,_),(30,_)]) ?_))));refine KH rfl (qN rfl (qV (Mr rfl rfl) (Ly (KO rfl (py (KH rfl (qN rfl (qV (Mr rfl rfl) (MR (KO rfl (py (L3 rfl (qN rfl ?_)))))))))))));refine qV (KT RG rfl) (qV (KS Mq rfl rfl dy rfl) (qV (Lw rfl Mq U3 (by omega)) (KO rfl (qM rfl (An rfl (An rfl (qV (RE rfl rfl (by omega)) ?_)))))));rw[fX];refine KO rfl (qM rfl (An rfl (An rfl (qV (Tu rfl rfl (by rw[pO];omega)) ?_))));rw[pO];refine qV (MD m F rfl rfl (by omega) hF) ?_;rw[show 1*F%18446744073709551616=F by omega];refine KO rfl (py (Ll.qb (e:=[(1,_),(2,_),(4,_),(5,_),(6,_),(9,_),(10,_),(11,_)]) ?_));refine qN rfl (An rfl (An rfl (An rfl (qV (Rh rfl rfl rfl (by show v+1<2^64;omega) f1) ?_))));refine An rfl (An rfl (qV (MD k G rfl rfl (by omega) hG) ?_));rw[hE,Nat.mod_eq_of_lt (show E<18446744073709551616 by omega)];refine An rfl (qV (Rh rfl rfl rfl (by show E<2^64;omega) (by omega)) ?_);refine La [.tmp 63,.tmp 68] zcA rfl (z0S (v+1-F) (E-F) f3 f2 (by omega) w4) ?_;rintro _ w5 ⟨rfl,aR⟩;refine qV (zbg (parts:=[(0,.tmp 69)]) (cs:=[_,_,_,_]) PC rfl Vg NN rfl rfl) (KO rfl ?_);have uh:=aR.KN dh;refine L0 rfl (Lz (news:=[L5 (MM (v+1-F) (E-F)).1,I ((MM (v+1-F) (E-F)).2:Int),L5 0,I 0]) PC rfl rfl rfl rfl uh (by simp)) ?_;rintro w6 ⟨aN,aT⟩;replace aN:KY w6 b5 [L5 (MM (v+1-F) (E-F)).1,I ((MM (v+1-F) (E-F)).2:Int),L5 0,I 0] 329:=aN;refine py (Lh Tryz.func201 (.tmp rfl (.cell Vg rfl PC rfl (KY.cells (n:=4) aN (news:=[_,_,_,_]) rfl) rfl .nil)) ?_);exact⟨_,rfl,rfl,(cK.trans aR).KK aT (fun i hi=>by omega)⟩
end
def hiB (w:Nat):Nat->Nat->List Nat->List Bool
 |_,_,[]=>[]
 |len,i,v::r=>List.replicate (v / 2^w+i-len) false++true::hiB w (v / 2^w+i+1) (i+1) r
abbrev Nof (l:List Nat):Prop:=l.Pairwise (·<=·)
def nth1:List Bool->Nat->Option Nat
 |[],_=>none
 |true::l,0=>some 0
 |true::l,k+1=>(nth1 l k).map (·+1)
 |false::l,k=>(nth1 l k).map (·+1)
theorem PB:∀(z:Nat) (l:List Bool) (k:Nat),nth1 (List.replicate z false++l) k=(nth1 l k).map (·+z)
 |0,l,k=>by simp
 | z + 1, l, k => by
   rw[List.replicate_succ,List.cons_append,nth1,PB z l k,Option.map_map]
   congr 1
theorem VP (w:Nat):∀(l:List Nat) (len i k:Nat) (v:Nat),Nof l->l[k]? =some v->(∀x,l.head? =some x->len<=x / 2^w+i)->nth1 (hiB w len i l) k=some (v / 2^w+i+k-len)
 |[],len,i,k,v,_,h,_=>by simp at h
 | x :: r, len, i, 0, v, _, h, hl => by
   simp at h;subst h;have:=hl x rfl;rw[hiB,PB,nth1]
   simp
 | x :: r, len, i, k + 1, v, hn, h, hl => by
   rw[List.getElem?_cons_succ] at h;obtain⟨n1,n2⟩:=List.pairwise_cons.1 hn;have hx:=hl x rfl;have hxv:x<=v:=n1 v (List.mem_of_getElem? h);have hd:=Nat.div_le_div_right (c:=2^w) hxv
   rw[hiB,PB,nth1,VP w r _ (i+1) k v n2 h (fun y hy=>by
    have hxy:x<=y:=n1 y (by cases r with
     |nil=>simp at hy
     |cons a r=>simp at hy;simp[hy])
    have:=Nat.div_le_div_right (c:=2^w) hxy
    omega)]
   simp;omega
theorem TR:∀(l:List Bool) (j p m:Nat),nth1 l j=some p->nth1 (l.drop p) m=(nth1 l (j+m)).map (·-p)
 |[],j,p,m,h=>by simp[nth1] at h
 | true :: l, 0, p, m, h => by
   simp[nth1] at h;subst h
   simp
 | true :: l, j + 1, p, m, h => by
   simp only[nth1,Option.map_eq_some_iff] at h;obtain⟨q,hq,rfl⟩:=h;rw[List.drop_succ_cons,TR l j q m hq,show j+1+m=(j+m)+1 by omega,nth1,Option.map_map]
   congr 1
   funext x;simp
 | false :: l, j, p, m, h => by
   simp only[nth1,Option.map_eq_some_iff] at h;obtain⟨q,hq,rfl⟩:=h;rw[List.drop_succ_cons,TR l j q m hq,nth1,Option.map_map]
   congr 1
   funext x;simp
theorem Ra:∀(a b:List Bool) (k:Nat),nth1 (a++b) k=if k<a.count true then nth1 a k else(nth1 b (k-a.count true)).map (·+a.length)
 |[],b,k=>by simp
 |true::a,b,0=>by simp[nth1]
 | true :: a, b, k + 1 => by
   rw[List.cons_append,nth1,Ra a b k,List.count_cons_self];split
   ·rename_i h
    rw[if_pos (by omega),nth1]
   ·rename_i h
    rw[if_neg (by omega),Option.map_map,show k+1-(a.count true+1)=k-a.count true by omega]
    congr 1
 | false :: a, b, k => by
   rw[List.cons_append,nth1,Ra a b k,List.count_cons_of_ne (by decide)];split
   ·rw[nth1]
   ·rw[Option.map_map]
    congr 1
theorem UR:∀{l:List Bool} {k p:Nat},nth1 l k=some p->p<l.length/\l[p]? =some true
 |true::l,0,p,h=>by simp[nth1] at h;subst h;simp
 | true :: l, k + 1, p, h => by
   simp only[nth1,Option.map_eq_some_iff] at h;obtain⟨q,hq,rfl⟩:=h;have:=UR hq
   simp;exact this
 | false :: l, k, p, h => by
   simp only[nth1,Option.map_eq_some_iff] at h;obtain⟨q,hq,rfl⟩:=h;have:=UR hq
   simp;exact this
 |[],k,p,h=>by simp[nth1] at h
theorem z1I (w:Nat):∀(l:List Nat) (len i:Nat),Nof l->(∀x,l.head? =some x->len<=x / 2^w+i)->∀v,l.getLast? =some v->len+(hiB w len i l).length=v / 2^w+i+l.length
 |[],len,i,_,_,v,h=>by simp at h
 | [x], len, i, _, hl, v, h => by
   simp at h;subst h;have:=hl x rfl
   simp[hiB];omega
 | x :: y :: r, len, i, hn, hl, v, h => by
   obtain⟨n1,n2⟩:=List.pairwise_cons.1 hn;have hx:=hl x rfl;have hxy:=Nat.div_le_div_right (c:=2^w) (n1 y (by simp));have:=z1I w (y::r) (x / 2^w+i+1) (i+1) n2 (fun z hz=>by simp at hz;subst hz;omega) v (by simpa using h);rw[hiB,List.length_append,List.length_replicate,List.length_cons];simp only[List.length_cons] at this⊢;omega
theorem Sx (z:Nat)(r:List Bool):valB (List.replicate z false++true::r)=2^r.length+valB r:=by
 induction z with
 |zero=>simp[valB]
 |succ z ih=>rw[List.replicate_succ,List.cons_append,valB,ih];simp
theorem XM (c:Cd)(v:Nat):c.rest v=bitsN (c.p0 v).2 (c.p0 v).1:=by cases c<;>rfl
theorem RT (c:Cd)(v:Nat):(c.enc v).length=c.zeros v+1+(c.p0 v).2:=by
 unfold Cd.enc
 rw[List.length_append,List.length_replicate,List.length_cons,XM,bitsN_length];omega
theorem Cd.Vb (c:Cd):c.most<=281474976710654:=by cases c<;>simp[Cd.most]
theorem QC:∀n:Nat,bitsN n 0=List.replicate n false
 |0=>rfl
 |n+1=>by rw[bitsN,QC n,List.replicate_succ];simp
theorem z3g (z:Nat):bitsN (z+1) 1=List.replicate z false++[true]:=by
 refine Tg (by simp) ?_
 rw[LJ,Sx]
 simp[valB]
theorem RU {c:Cd}{v:Nat}(hc:c.M3)(hv:v<=c.most):c.zeros v<=65535/\(c.p0 v).2<=63/\(c.p0 v).1<2^(c.p0 v).2:=by
 cases c with
 |unary=>exact⟨hv,by simp[Cd.p0],by simp[Cd.p0]⟩
 | gamma =>
   obtain⟨g1,g2,g3⟩:=QN hv;refine⟨by show Nat.log2 (v+1)<=_;omega,by show Nat.log2 (v+1)<=_;omega,?_⟩;show v+1-2^Nat.log2 (v+1)<2^Nat.log2 (v+1);rw[Nat.pow_succ] at g2
   omega
 | zeta k =>
   obtain⟨aM,am⟩:1<=k/\k<=16:=hc;obtain⟨g1,g2,g3⟩:=QN hv;have f:=Sv (k:=k) (v:=v) aM;dsimp only at f;have hd:Nat.log2 (v+1) / k<=Nat.log2 (v+1):=Nat.div_le_self _ _;have hm:Nat.log2 (v+1) / k*k<=Nat.log2 (v+1):=Nat.div_mul_le_self _ _;refine⟨by show Nat.log2 (v+1) / k<=_;omega,?_,?_⟩
   ·show(MM _ _).2<=63
    have h1:LB (2^(Nat.log2 (v+1) / k*k)*2^k-2^(Nat.log2 (v+1) / k*k)-1)<=63:=by
     refine Mu ?_;have h2:=Nat.pow_le_pow_right (show 0<2 by decide) (show Nat.log2 (v+1) / k*k+k<=63 by omega);rw[Nat.pow_add] at h2;have h3:=f.2.2
     revert h2 h3
     generalize 2^(Nat.log2 (v+1) / k*k)*2^k=E
     generalize 2^(Nat.log2 (v+1) / k*k)=F
     intro h2 h3;omega
    unfold MM;dsimp only;split<;>dsimp only<;>omega
   ·exact z4r f.2.1
section
variable {P:Program}{e:Env}{d:Option Nat}{ty t t' el:TypeId}{pos:String}{aft:Array Edge}{g:Option (Nat×Bool)}{x y:Operand}{w:World}{k:IntKind}{n:Nat}{td:TypeDesc}
theorem zco {za:Int}[qA:Ob za n]{len size bytes:Nat}{z:Value}{vs:Array Value}(ht:P.underlying t=some (.array len el))(hs:TI P el z size bytes)(hu:P.underlying el=some td)(ha:aggOf td=true)(hx:look e x=some (.agg vs))(hy:look e y=some (.int k za))(hn:n<len):
  Y P e ⟨d,.index t x y,ty,pos,aft,g⟩ (.agg (vs.extract (n*size) (n*size+size))) w w:=fun ρ hρ=>by
 obtain⟨rfl⟩:=qA
 have hs:=hs.size (w:=w)
 simp[execOp,hρ _ _ hx,hρ _ _ hy,Instr.index,asIntOf,run_underlying ht,hn,hs,part,Po hu,ha]
end
section
theorem Ze (c:Cd)(v:Nat)(hc:c.M3)(hv:v<=c.most)(w:World):Lk Tryz.prog 176 [XH c,L5 v] w fun u w'=>u= .tuple #[I ((c.enc v).length:Int),I 0]/\Ext w w':=by
 obtain⟨x,y,de⟩:∃x y,NM c=[x,y]:=by cases c<;>exact⟨_,_,rfl⟩
 obtain⟨q1,q2,-⟩:=RU hc hv
 have hl:=RT c v
 have eL:=c.Vb
 refine KJ (e:=[(0,_),(1,_)]) Tryz.func176 rfl Tryz.ntmps176 rfl rfl (qN rfl (KU rfl rfl (MH rfl (cs:=NM c) rfl) ?_))
 rintro _ w1 ⟨b2,rfl,bT,ad,ak⟩
 refine KO rfl (KO rfl (py (run_seq (qN rfl (qV (Lj (news:=NM c) Nv rfl Mj rfl (ak.cells (n:=2) (by rw[de];rfl)) (by rw[de];rfl)) ?_)))))
 refine An rfl (La [.tmp 8,.tmp 9] zaL rfl (z4v c v hc hv w1) ?_)
 rintro _ w2 ⟨rfl,af⟩
 refine qV ((by first|exact LN rfl|exact Na rfl)) ?_
 refine py (KH rfl (It (qN rfl (qV (Lj (news:=NM c) Nv rfl Mj rfl ((af.KN ak).cells (n:=2) (by rw[de];rfl)) (by rw[de];rfl)) ?_))))
 refine An rfl (La [.tmp 13,.tmp 14] z8d rfl (Vy c v hc (by omega) w2) ?_)
 rintro _ w3 ⟨rfl,ah⟩
 refine An rfl (qV (Lu rfl rfl) (qV (Lu rfl rfl) (KU rfl rfl (N3 (cs:=[_,_,_,_]) PC rfl) ?_)))
 rintro _ w4 ⟨b7,rfl,kF,aB,bE⟩
 refine KO rfl (L0 rfl (Lz (news:=[L5 (c.p0 v).1,I ((c.p0 v).2:Int),L5 0,I 0]) PC rfl rfl rfl rfl bE (by simp)) ?_)
 rintro w5 ⟨gJ,aj⟩
 replace gJ:KY w5 b7 [L5 (c.p0 v).1,I ((c.p0 v).2:Int),L5 0,I 0] 329:=gJ
 refine qM rfl (An rfl (LH rfl rfl (qV (yia Vg NN rfl rfl (by omega)) (qV (KT UI rfl) (qV (KS U3 rfl rfl gJ rfl) (LH rfl rfl (qV (yia Vg NN rfl rfl (by omega)) (qV (KT UI rfl) (qV (KS U3 rfl rfl gJ rfl) (LH rfl rfl (KO rfl (KO rfl (py ?_)))))))))))))
 refine Ll.qb (e:=[(4,_),(5,_)]) ?_
 refine KP Tryz.func176 rfl ?_
 have z1:=ad.size
 have z2:=af.size
 have z3:=ah.size
 refine⟨_,rfl,?_,(((ad.trans af).trans ah).trans aB).KK aj (fun i hi=>by omega)⟩
 simp only[resVal]
 congr 4
 omega
theorem z4y {w : World}{p : Nat}{bs : List Bool}{F : Nat -> Prop}(h : Tv w p bs F)(c : Cd)(v : Nat)(hc : c.M3)(hv : v <= c.most)(hl : bs.length + (c.enc v).length <= 134217728) :
  Lk Tryz.prog 177 [ptr p 0,XH c,L5 v] w fun u w'=>u=I 0/\WrR p F w w' (bs++c.enc v):=by
 obtain⟨x,y,de⟩:∃x y,NM c=[x,y]:=by cases c<;>exact⟨_,_,rfl⟩
 obtain⟨q1,q2,q3⟩:=RU hc hv
 have nL:=RT c v
 have eL:=c.Vb
 refine KJ (e:=[(0,_),(1,_),(2,_)]) Tryz.func177 rfl Tryz.ntmps177 rfl rfl (qN rfl (KU rfl rfl (MH rfl (cs:=NM c) rfl) ?_))
 rintro _ w1 ⟨b4,rfl,gh,ad,aJ⟩
 refine KO rfl (py (run_seq (qN rfl (An rfl (qV (LQ XF rfl rfl) (py (KH rfl (It (qN rfl (qV (Lj (news:=NM c) Nv rfl Mj rfl (aJ.cells (n:=2) (by rw[de];rfl)) (by rw[de];rfl)) ?_))))))))))
 refine An rfl (La [.tmp 16,.tmp 17] z8s rfl (Ze c v hc hv w1) ?_)
 rintro _ w2 ⟨rfl,af⟩
 refine An rfl (qV (Lu rfl rfl) (qV (Lu rfl rfl) (KO rfl (KO rfl (py (run_seq (KL (qN rfl (An rfl (qV (M0 rfl rfl) (KO rfl (py (KZ rfl (fun e0=>?_) (fun e0=>?_))))))))))))))
 ·exact absurd rfl e0
 ·refine qN rfl (An rfl (An rfl (La [.tmp 27] WL rfl (Qt ((h.ext ad).ext af)) ?_))); rintro _ w2 ⟨rfl, rfl⟩; refine qV (Md rfl rfl (by omega)) (qV (LU rfl rfl) (KO rfl (py (KZ rfl (fun e1 => ?_) (fun e1 => ?_)))))
  ·omega
  ·refine It (KM (qN rfl (qV (Lj (news := NM c) Nv rfl Mj rfl ((af.KN aJ).cells (n := 2) (by rw [de]; rfl)) (by rw [de]; rfl)) ?_))); refine An rfl (La [.tmp 32, .tmp 33] z8d rfl (Vy c v hc (by omega) w2) ?_); rintro _ w3 ⟨rfl, ah⟩; refine An rfl (qV (Lu rfl rfl) (qV (Lu rfl rfl) (KU rfl rfl (N3 (cs := [_, _, _, _]) PC rfl) ?_))); rintro _ w4 ⟨b10, rfl, zQ, aB, dK⟩; refine KO rfl (L0 rfl (Lz (news := [L5 (c.p0 v).1, I ((c.p0 v).2 : Int), L5 0, I 0]) PC rfl rfl rfl rfl dK (by simp)) ?_); rintro w5 ⟨jZ, aj⟩; replace jZ : KY w5 b10 [L5 (c.p0 v).1, I ((c.p0 v).2 : Int), L5 0, I 0] 329 := jZ; have z1 := ad.size; have z2 := af.size; have z3 := ah.size; have bB : Ext w w5 := (((ad.trans af).trans ah).trans aB).KK aj (fun i hi => by omega); have z5 := bB.size; have l10 := jZ.lt; have jl : ∀ i, F i -> i < w.heap.size := fun i hi => h.lt hi
   have Eg:∀(F':Nat->Prop),(∀k,F' k->F k\/w5.heap.size<=k)->¬F' b10:=fun F' hf e=>by
    rcases hf b10 e with e| e
    ·have:=jl b10 e;omega
    ·omega
   refine py (Ll.qb (e:=[(0,_),(6,_),(9,_),(10,_)]) ?_);refine run_seq (KL (MV (α:=Nat×(Nat->Prop)×List Bool) ((c.zeros v,F,bs)) (fun x=>[(0,ptr p 0),(9,I (x.1:Int)),(10,ptr b10 0)]) (fun x w'=>x.1<=c.zeros v/\Tv w' p x.2.2 x.2.1/\x.2.2=bs++List.replicate (c.zeros v-x.1) false/\Kp F w w'/\(∀k,x.2.1 k->F k\/w5.heap.size<=k)/\KY w' b10 [L5 (c.p0 v).1,I ((c.p0 v).2:Int),L5 0,I 0] 329/\w5.heap.size<=w'.heap.size) (fun x=>x.1) ?hI ?hround))
   case hI=>exact⟨Nat.le_refl _,h.ext bB,by simp,bB.kp,fun _ h=> .inl h,jZ,Nat.le_refl _⟩
   case hround =>
    rintro⟨z,F1,b1⟩ w6 ⟨hz,kG,bS,aT,m9,aN,z6⟩ ih;dsimp only at hz kG bS m9;have eN:b1.length=bs.length+(c.zeros v-z):=by rw[bS,List.length_append,List.length_replicate]
    try dsimp only
    refine run_seq (qN rfl (An rfl (qV (LU rfl rfl) (py (KZ rfl (fun aO=>?_) (fun aO=>?_))))))
    ·refine It (run_seq (KL (KQ rfl (An rfl (La [.tmp 41,.const (Value.int .u64 0),.const (Value.int .i64 63)] Rt rfl (Nr kG 0 63 (by decide) (by decide) (by omega)) ?_)))));rintro _ w7 ⟨rfl,F7,nP,aA,nQ⟩;have bE:=aA.KN aN (Eg F1 m9);have z7:=aA.size;refine py (KM (KQ rfl (An rfl (qV (Md rfl rfl (by omega)) (KO rfl (py ?_))))));rw[show((z:Int)-63)=((z-63:Nat):Int) by omega];refine(ih (z-63,F7,b1++bitsN 63 0) w7 ⟨by dsimp only;omega,nP,?_,?_,?_,bE,by omega⟩ (by dsimp only;omega)).qb
     ·dsimp only;rw[bS,QC,List.append_assoc,List.replicate_append_replicate,show c.zeros v-z+63=c.zeros v-(z-63) by omega]
     ·exact aT.KK aA (fun i hi=>(m9 i hi).elim .inr (fun e=> .inl (by omega)))
     ·intro i hi;rcases nQ i hi with e| e
      ·exact m9 i e
      ·exact .inr (by omega)
    ·refine KX rfl (run_seq (qN rfl (An rfl (qV (Ou rfl rfl) (py (KZ rfl (fun g0=>?_) (fun g0=>?_)))))))
     ·refine KQ rfl (An rfl (An rfl (LH rfl rfl ?_)));rw[show((z:Int)+1)=((z+1:Nat):Int) by omega];refine La [.tmp 45,.const (Value.int .u64 1),.tmp 47] Rt rfl (Nr kG 1 (z+1) (by omega) (by have:=Nat.pow_le_pow_right (show 0<2 by decide) (show 1<=z+1 by omega);omega) (by omega)) ?_;rintro _ w7 ⟨rfl,F7,nP,aA,nQ⟩;have bE:=aA.KN aN (Eg F1 m9);have z7:=aA.size;have zR:Kp F w w7:=aT.KK aA (fun i hi=>(m9 i hi).elim .inr (fun e=> .inl (by omega)));have zS:∀i,F7 i->F i\/w5.heap.size<=i:=fun i hi=>(nQ i hi).elim (m9 i) (fun e=> .inr (by omega))
      have kF:b1++bitsN (z+1) 1=bs++(List.replicate (c.zeros v) false++[true]):=by
       rw[bS,z3g,List.append_assoc]
       congr 1
       rw[<-List.append_assoc,List.replicate_append_replicate,show c.zeros v-z+z=c.zeros v by omega]
      rw[kF] at nP;clear ih;refine py (run_seq (qN rfl (qV (Lj (news:=[L5 (c.p0 v).1,I ((c.p0 v).2:Int),L5 0,I 0]) Vg rfl PC rfl (bE.cells (n:=4) rfl) rfl) (An rfl (py (KL (MV (α:=Nat×(Nat->Prop)×List Bool) ((0,F7,bs++(List.replicate (c.zeros v) false++[true]))) (fun x=>[(0,ptr p 0),(49,.agg #[L5 (c.p0 v).1,I ((c.p0 v).2:Int),L5 0,I 0]),(50,I (x.1:Int))]) (fun x w'=>x.1<=2/\Tv w' p x.2.2 x.2.1/\x.2.2=(bs++(List.replicate (c.zeros v) false++[true]))++(if x.1=0 then [] else c.rest v)/\Kp F w w'/\(∀k,x.2.1 k->F k\/w5.heap.size<=k)/\w5.heap.size<=w'.heap.size) (fun x=>2-x.1) ?hI ?hround)))))))
      case hI=>exact⟨by dsimp only;omega,nP,by simp,zR,zS,by omega⟩
      case hround=>
       rintro⟨i,F8,b8⟩ w8 ⟨hi,qQ,j0,bh,tw,z8⟩ ih;dsimp only at hi qQ j0 tw
       try dsimp only
       refine qN rfl (qV (LX rfl rfl) (py (run_seq (KZ rfl (fun oh=>?_) (fun oh=>?_)))))
       ·have ui:b8.length<=bs.length+(c.zeros v+1)+(if i=0 then 0 else(c.p0 v).2):=by
         rw[j0];simp only[List.length_append,List.length_replicate,List.length_cons,List.length_nil];split
         ·simp
         ·rw[XM,bitsN_length];omega
        refine It (run_seq (KL (qN rfl ?_)));rcases (show i=0\/i=1 by omega) with rfl|rfl
        ·rw[if_pos rfl] at ui j0;refine qV (zco (n:=0) Vg NN z4Y rfl rfl rfl (by decide)) ?_;rw[show(#[L5 (c.p0 v).1,I ((c.p0 v).2:Int),L5 0,I 0]:Array Value).extract (0*2) (0*2+2)=#[L5 (c.p0 v).1,I ((c.p0 v).2:Int)] from rfl];refine KU rfl rfl (N3 (cs:=[_,_]) NN rfl) ?_;rintro _ w9 ⟨b12,rfl,zT,eX,aZ⟩;refine L0 rfl (Lz (news:=[L5 (c.p0 v).1,I ((c.p0 v).2:Int)]) NN rfl rfl rfl rfl aZ (by simp)) ?_;rintro w10 ⟨dY,ax⟩;replace dY:KY w10 b12 [L5 (c.p0 v).1,I ((c.p0 v).2:Int)] 328:=dY;have z9:=eX.size;have fm:Ext w8 w10:=eX.KK ax (fun i hi=>by omega);have z10:=fm.size;refine py (KQ rfl (An rfl (qV (KT z2y rfl) (qV (KS Mq rfl rfl dY rfl) (qV (KT UI rfl) (qV (KS U3 rfl rfl dY rfl) (La [.tmp 53,.tmp 55,.tmp 57] Rt rfl (Nr (qQ.ext fm) (c.p0 v).1 (c.p0 v).2 (by omega) q3 (by omega)) ?_)))))));rintro _ w11 ⟨rfl,F11,qR,aP,qU⟩;have iu:=fm.kp.trans aP;refine py (KM (KQ rfl (LH rfl rfl (An rfl (py ((ih (1,F11,b8++bitsN (c.p0 v).2 (c.p0 v).1) w11 ⟨by dsimp only;omega,qR,?_,?_,?_,?_⟩ (by dsimp only;omega)).qb))))))
         ·dsimp only;rw[j0];rw[List.append_nil,if_neg (by decide),XM]
         ·exact bh.KK iu (fun i hi=>(tw i hi).elim .inr (fun e=> .inl (by omega)))
         ·intro i hi;rcases qU i hi with e| e
          ·exact tw i e
          ·exact .inr (by omega)
         ·have:=iu.size;omega
        ·rw[if_neg (by decide)] at ui j0;refine qV (zco (n:=1) Vg NN z4Y rfl rfl rfl (by decide)) ?_;rw[show(#[L5 (c.p0 v).1,I ((c.p0 v).2:Int),L5 0,I 0]:Array Value).extract (1*2) (1*2+2)=#[L5 0,I 0] from rfl];refine KU rfl rfl (N3 (cs:=[_,_]) NN rfl) ?_;rintro _ w9 ⟨b12,rfl,zT,eX,aZ⟩;refine L0 rfl (Lz (news:=[L5 0,I 0]) NN rfl rfl rfl rfl aZ (by simp)) ?_;rintro w10 ⟨dY,ax⟩;replace dY:KY w10 b12 [L5 0,I 0] 328:=dY;have z9:=eX.size;have fm:Ext w8 w10:=eX.KK ax (fun i hi=>by omega);have z10:=fm.size;refine py (KQ rfl (An rfl (qV (KT z2y rfl) (qV (KS Mq rfl rfl dY rfl) (qV (KT UI rfl) (qV (KS U3 rfl rfl dY rfl) (La [.tmp 53,.tmp 55,.tmp 57] Rt rfl (Nr (qQ.ext fm) 0 0 (by omega) (by decide) (by omega)) ?_)))))));rintro _ w11 ⟨rfl,F11,qR,aP,qU⟩;have iu:=fm.kp.trans aP;refine py (KM (KQ rfl (LH rfl rfl (An rfl (py ((ih (2,F11,b8++bitsN 0 0) w11 ⟨by dsimp only;omega,qR,?_,?_,?_,?_⟩ (by dsimp only;omega)).qb))))))
         ·dsimp only;rw[j0];rw[if_neg (by decide)];simp[bitsN]
         ·exact bh.KK iu (fun i hi=>(tw i hi).elim .inr (fun e=> .inl (by omega)))
         ·intro i hi;rcases qU i hi with e| e
          ·exact tw i e
          ·exact .inr (by omega)
         ·have:=iu.size;omega
       ·have:i=2:=by omega
        subst this;rw[if_neg (by decide)] at j0;refine KX rfl (qN rfl (KO rfl (py (KP Tryz.func177 rfl (⟨_,rfl,rfl,F8,?_,bh,fun i hi=>(tw i hi).imp id (fun e=>by omega)⟩)))));rw[j0] at qQ;unfold Cd.enc
        simpa using qQ
     ·omega
end
structure RgM (w:World)(x r:Nat)(s:Bytes)(a:Nat):Prop where
 KN:KY w x [ptr r 0,.bool false] 336
 rd:OQ w r s a
 ne:x≠r
theorem RgM.ext {w w':World}{x r:Nat}{s:Bytes}{a:Nat}(h:RgM w x r s a)(k:Ext w w'):RgM w' x r s a:=⟨k.KN h.KN,⟨k.KN h.rd.1,h.rd.2⟩,h.ne⟩
section
variable {w:World}{x r:Nat}{s:Bytes}{a:Nat}
theorem RY (h:RgM w x r s a)(n:Nat)(hn:n<=64)(hl:a+n<=8*s.length):
  Lk Tryz.prog 221 [ptr x 0,I (n:Int)] w fun v w'=>v=L5 (valB (((Lc s).drop a).take n))/\RgM w' x r s (a+n)/\Kp (fun k=>k=x\/k=r) w w':=by
 obtain⟨hB,hR,bG⟩:=h
 refine KJ (e:=[(0,_),(1,_)]) Tryz.func221 rfl Tryz.ntmps221 rfl rfl (qN rfl (KO rfl (qM rfl (An rfl (qV (L6 rfl) (qV (KT z7b rfl) (qV (KS Oz rfl rfl hB rfl) (An rfl (La [.tmp 11,.tmp 12] YM rfl (Qh hR n hn) ?_)))))))))
 rintro v1 w1 eY
 obtain⟨rfl,lL,aM⟩:v1= .tuple #[L5 (valB (((Lc s).drop a).take n)),I 0]/\OQ w1 r s (a+n)/\Kp (fun k=>k=r) w w1:=by
  rcases eY with⟨-,h⟩|⟨h,-⟩
  ·exact h
  ·omega
 have ai:=aM.KN hB bG
 refine An rfl (qV (Lu rfl rfl) (qV (Lu rfl rfl) (KO rfl (KO rfl (qM rfl (An rfl (An rfl (qV (L6 rfl) (qV (KT UQ rfl) (qV (KS U4 rfl rfl ai rfl) (An rfl (An rfl (qV (M0 rfl rfl) ?_)))))))))))))
 refine Ly (qV (Ls rfl rfl) (qV (L6 rfl) (qV (KT UQ rfl) (L0 rfl (Mt QX rfl rfl rfl ai (by simp)) ?_))))
 rintro w2 ⟨ak,am⟩
 replace ak:KY w2 x [ptr r 0,.bool false] 336:=ak
 refine py (Ll.qb (e:=[(4,_),(5,_)]) ?_)
 refine qN rfl (An rfl (KO rfl (py (KP Tryz.func221 rfl ?_))))
 exact⟨_,rfl,rfl,⟨ak,⟨am.KN lL.1 (Ne.symm bG),lL.2⟩,bG⟩,(aM.L2 (fun k e=> .inr e)).trans (am.L2 (fun k e=> .inl e))⟩
theorem Sw (h:RgM w x r s a)(z most:Nat)(rest:List Bool)(hb:(Lc s).drop a=List.replicate z false++true::rest)(hz:z<=most)(hm:most<=65535):
  Lk Tryz.prog 219 [ptr x 0,I (most:Int)] w fun v w'=>v=I (z:Int)/\RgM w' x r s (a+z+1)/\Kp (fun k=>k=x\/k=r) w w':=by
 have aD:a+z+1<=8*s.length:=by
  have:=congrArg List.length hb;rw[List.length_drop,bitsT_length,List.length_append,List.length_replicate,List.length_cons] at this;omega
 refine KJ (e:=[(0,_),(1,_)]) Tryz.func219 rfl Tryz.ntmps219 rfl rfl (qN rfl (KO rfl (py (run_seq (qN rfl (KO rfl (py (KL (MV (α:=Nat) (0) (fun n=>[(0,ptr x 0),(1,I (most:Int)),(5,I (n:Int))]) (fun n w'=>n<=z/\RgM w' x r s (a+n)/\Kp (fun k=>k=x\/k=r) w w') (fun n=>z-n) ?hI ?hround)))))))))
 case hI=>exact⟨Nat.zero_le _,h,Kp.refl _ _⟩
 case hround=>
  rintro n w1 ⟨hn,h1,aM⟩ ih;have ai:=h1.KN
  have hd:(Lc s).drop (a+n)=List.replicate (z-n) false++true::rest:=by
   rw[<-List.drop_drop,hb,List.drop_append_of_le_length (by simp;omega),List.drop_replicate]
  try dsimp only
  refine run_seq (qN rfl (An rfl (An rfl (qV (Qv rfl rfl) (An rfl (ND (fun c1=>?_) (fun c1=>?_)))))))
  ·have hv:valB (((Lc s).drop (a+n)).take 1)=if n=z then 1 else 0:=by
    rw[hd];by_cases e:n=z
    ·subst e;rw[Nat.sub_self,if_pos rfl];rfl
    ·rw[if_neg e,show z-n=(z-n-1)+1 by omega,List.replicate_succ];rfl
   refine An rfl (qV (L6 rfl) (qV (KT UQ rfl) (qV (KS U4 rfl rfl ai rfl) (qV ((by first|exact LN rfl|exact Na rfl)) ?_))));refine qV (LR rfl rfl) (py (L3 rfl (It (run_seq (KL (qN rfl (An rfl (La [.tmp 18,.const (Value.int .i64 1)] z2l rfl (RY h1 1 (by decide) (by omega)) ?_))))))));rintro _ w2 ⟨rfl,h2,am⟩;rw[hv];refine qV (Mr rfl rfl) (py (KZ rfl (fun c2=>?_) (fun c2=>?_)))
   ·have Eh:n=z:=by
     by_cases e:n=z
     ·exact e
     ·rw[if_neg e] at c2;simp at c2
    subst Eh;refine qN rfl (An rfl (KO rfl (py (KP Tryz.func219 rfl ?_))));exact⟨_,rfl,rfl,h2,aM.trans am⟩
   ·have Eh:n≠z:=fun e=>by rw[if_pos e] at c2;simp at c2
    refine It (KM (KQ rfl (An rfl (LH rfl rfl (KO rfl (py ?_))))));exact(ih (n+1) w2 ⟨by omega,by rw[<-Nat.add_assoc];exact h2,aM.trans am⟩ (by omega)).qb
  ·omega
theorem z0h (h:RgM w x r s a)(z q:Nat)(rest:List Bool)(hb:(Lc s).drop a=List.replicate z false++true::(bitsN z q++rest))(hq:q<2^z)(hz:z<=47):
  Lk Tryz.prog 220 [ptr x 0,I 47] w fun v w'=>v=L5 (q+2^z-1)/\RgM w' x r s (a+z+1+z)/\Kp (fun k=>k=x\/k=r) w w':=by
 have aD:a+z+1+z<=8*s.length:=by
  have:=congrArg List.length hb;rw[List.length_drop,bitsT_length,List.length_append,List.length_replicate,List.length_cons,List.length_append,bitsN_length] at this;omega
 have hd:(Lc s).drop (a+z+1)=bitsN z q++rest:=by
  rw[show a+z+1=a+(z+1) by omega,<-List.drop_drop,hb];rw[<-List.drop_drop,List.drop_left' (by simp)];rfl
 have hv:valB (((Lc s).drop (a+z+1)).take z)=q:=by
  rw[hd,List.take_left' (by simp),LJ,Nat.mod_eq_of_lt hq]
 obtain⟨Q,hQ⟩:∃Q,2^z=Q:=⟨_,rfl⟩
 rw[hQ] at hq⊢
 have zM:1<=Q/\Q<=281474976710656:=by
  rw[<-hQ];exact⟨Nat.two_pow_pos _,by have:=Nat.pow_le_pow_right (show 0<2 by decide) (show z<=48 by omega);simpa using this⟩
 refine KJ (e:=[(0,_),(1,_)]) Tryz.func220 rfl Tryz.ntmps220 rfl rfl (qN rfl (KO rfl (qM rfl (An rfl (An rfl (La [.tmp 6,.tmp 7] z5q rfl (Sw h z 47 _ hb hz (by decide)) ?_))))))
 rintro _ w1 ⟨rfl,h1,aM⟩
 have hg:=Ext.Lb w1
 refine KO rfl (py (run_seq (KV (fun w'=>Kp (fun k=>k=x\/k=r) w1 w') (by kernel_rfl) rfl (KR 0 rfl (KW rfl) (hg.kp) (KR 1 rfl (KW rfl) (hg.kp) (KR 3 rfl (KW rfl) (hg.kp) (KR 4 rfl (MD z Q rfl rfl (by omega) hQ) (hg.kp) ?_)))))))
 rw[show 1*Q%18446744073709551616=Q by omega]
 refine O2 2 [.tmp 9,.tmp 10] rfl z2l rfl (RY (h1.ext hg) z (by omega) (by omega)) ?_
 rintro _ w2 ⟨rfl,h2,am⟩
 refine⟨hg.kp.trans am,?_⟩
 rw[hv]
 refine KR 5 rfl (Pp rfl rfl) (hg.kp.trans am) ?_
 rw[show(q+Q)%18446744073709551616=q+Q by omega]
 refine KR 6 rfl (Rh (n:=1) rfl rfl rfl (by show q+Q<2^64;omega) (by omega)) (hg.kp.trans am) ?_
 refine KR 7 rfl (MO rfl) (hg.kp.trans am) (qE (KP Tryz.func220 rfl ?_))
 exact⟨_,rfl,rfl,h2,aM.trans (hg.kp.trans am)⟩
theorem z0P (h:RgM w x r s a)(v K:Nat)(rest:List Bool)(hb:(Lc s).drop a=Mb v K++rest)(hv:v<K)(Gc:K<=9223372036854775808):
  Lk Tryz.prog 222 [ptr x 0,L5 K] w fun u w'=>u=L5 v/\RgM w' x r s (a+(Mb v K).length)/\Kp (fun k=>k=x\/k=r) w w':=by
 have aD:a+(Mb v K).length<=8*s.length:=by
  have:=congrArg List.length hb;have ha:=h.rd.2.1;rw[List.length_drop,bitsT_length,List.length_append] at this;omega
 refine KJ (e:=[(0,_),(1,_)]) Tryz.func222 rfl Tryz.ntmps222 rfl rfl (qN rfl (KO rfl (qM rfl (An rfl (qV (Rh (n:=1) rfl rfl rfl (by show K<2^64;omega) (by omega)) ?_)))))
 refine La [.tmp 9] WY rfl (Pn (K-1) (by omega) w) ?_
 rintro _ w ⟨rfl,rfl⟩
 refine KO rfl (py (run_seq (qN rfl (An rfl (qV (Mr rfl rfl) (py ?_))))))
 by_cases Ef:K=1
 ·subst Ef;have tz:v=0:=by omega
  subst tz;rw[show LB (1-1)=0 from rfl];refine KZ rfl (fun c0=>?_) (fun c0=>?_)
  ·refine qN rfl (KO rfl (py (KP Tryz.func222 rfl ?_)));exact⟨_,rfl,rfl,h,Kp.refl _ _⟩
  ·exact absurd rfl c0
 ·have f:=z0A hv (by omega) rest;dsimp only at f;obtain⟨n,hn⟩:∃n,LB (K-1)=n:=⟨_,rfl⟩;rw[hn] at f⊢;have g:=Q7 (K:=K) (by omega);rw[hn] at g;obtain⟨Q,hQ⟩:∃Q,2^n=Q:=⟨_,rfl⟩;rw[hQ] at f g;obtain⟨f1,f2,f3⟩:=f
  have zU:n<=63:=by
   rw[<-hn];have e63:(2:Nat)^63=9223372036854775808:=by decide
   exact Mu (by omega)
  have zL:Q<=9223372036854775808:=by
   rw[<-hQ];have:=Nat.pow_le_pow_right (show 0<2 by decide) zU;have e63:(2:Nat)^63=9223372036854775808:=by decide
   omega
  have t1:((Lc s).drop a).take (n-1)=(Mb v K).take (n-1):=by rw[hb,List.take_append_of_le_length f2]
  obtain⟨u,hu⟩:∃u,valB ((Mb v K).take (n-1))=u:=⟨_,rfl⟩
  have ol:u<Q:=by
   have h1:=Mv ((Mb v K).take (n-1));rw[hu,List.length_take] at h1;have h2:=Nat.pow_le_pow_right (show 0<2 by decide) (show min (n-1) (Mb v K).length<=n by omega);omega
  rw[hu] at f3;refine KZ rfl (fun c0=>?_) (fun c0=>?_)
  ·omega
  ·refine It (qN rfl (An rfl (qV (MD n Q rfl rfl (by omega) hQ) ?_)));rw[show 1*Q%18446744073709551616=Q by omega];refine An rfl (qV (Rh rfl rfl rfl (by show Q<2^64;omega) g.1) ?_);refine KO rfl (qM rfl (An rfl (An rfl (qV (Md rfl rfl (by omega)) ?_))));rw[show((n:Int)-1)=((n-1:Nat):Int) by omega];refine La [.tmp 17,.tmp 19] z2l rfl (RY h (n-1) (by omega) (by omega)) ?_;rintro _ w1 ⟨rfl,h1,aM⟩;rw[t1,hu];refine KO rfl (py (run_seq (qN rfl (An rfl (An rfl (qV (Ou rfl rfl) (py (KZ rfl (fun c1=>?_) (fun c1=>?_)))))))))
   ·obtain⟨m1,m2,m3⟩:Q-K<=u/\(Mb v K).length=n/\2*u+valB ((Mb v K).drop (n-1))=v+(Q-K):=by
     rcases f3 with⟨e,-⟩| e
     ·omega
     ·exact e
    have t2:((Lc s).drop (a+(n-1))).take 1=(Mb v K).drop (n-1):=by
     rw[<-List.drop_drop,hb,List.drop_append_of_le_length f2,List.take_append_of_le_length (by rw[List.length_drop];omega),List.take_of_length_le (by rw[List.length_drop];omega)]
    have ma:valB ((Mb v K).drop (n-1))<2:=by
     have:=Mv ((Mb v K).drop (n-1));rw[List.length_drop,m2,show n-(n-1)=1 by omega] at this;exact this
    refine KQ rfl (An rfl (qV (MD 1 2 rfl rfl (by decide) rfl) ?_));rw[show u*2%18446744073709551616=u*2 by omega];refine An rfl (La [.tmp 26,.const (Value.int .i64 1)] z2l rfl (RY h1 1 (by decide) (by omega)) ?_);rintro _ w2 ⟨rfl,h2,am⟩;rw[t2];refine qV (Pp rfl rfl) ?_;rw[show(u*2+valB ((Mb v K).drop (n-1)))%18446744073709551616=v+(Q-K) by omega];refine An rfl (qV (Rh rfl rfl rfl (by show v+(Q-K)<2^64;omega) (by omega)) ?_);rw[show v+(Q-K)-(Q-K)=v by omega];refine KO rfl (py (Ll.qb (e:=[(4,_),(7,_)]) ?_));refine qN rfl (An rfl (KO rfl (py (KP Tryz.func222 rfl ?_))));rw[m2];exact⟨_,rfl,rfl,by rw[show a+n=a+(n-1)+1 by omega];exact h2,aM.trans am⟩
   ·obtain⟨m1,m2,m3⟩:u<Q-K/\(Mb v K).length=n-1/\u=v:=by
     rcases f3 with e|⟨e,-⟩
     ·exact e
     ·omega
    refine It (qN rfl (An rfl (KO rfl (py (KP Tryz.func222 rfl ?_)))));rw[m2];exact⟨_,rfl,by rw[m3];rfl,h1,aM⟩
end
section
variable {w:World}{x r:Nat}{s:Bytes}{a:Nat}
theorem ZD (h:RgM w x r s a)(c:Cd)(v:Nat)(hc:c.M3)(hv:v<=c.most)(rest:List Bool)(hb:(Lc s).drop a=c.enc v++rest):
  Lk Tryz.prog 209 [ptr x 0,XH c] w fun u w'=>u=L5 v/\RgM w' x r s (a+(c.enc v).length)/\Kp (fun k=>k=x\/k=r) w w':=by
 have nL:=RT c v
 have eZ:=h.KN.lt
 have gC:=h.rd.1.lt
 have aD:a+(c.enc v).length<=8*s.length:=by
  have:=congrArg List.length hb;have ha:=h.rd.2.1;rw[List.length_drop,bitsT_length,List.length_append] at this;omega
 unfold Cd.enc at hb
 rw[List.append_assoc,List.cons_append] at hb
 cases c with
 | unary =>
   refine KJ (e:=[(0,_),(1,_)]) Tryz.func209 rfl Tryz.ntmps209 rfl rfl (qN rfl (KU rfl rfl (MH rfl (cs:=[.int .u8 0,L5 0]) rfl) ?_));rintro _ w1 ⟨b3,rfl,dZ,ad,ao⟩;refine KO rfl (py (run_seq (qN rfl (qV (KT Nj rfl) (qV (KS U5 rfl rfl ao rfl) (py (KL (qN rfl (qV (Mr rfl rfl) (MR (KO rfl (py (L3 rfl ?_)))))))))))));refine qN rfl (An rfl (La [.tmp 12,.const (Value.int .i64 65535)] z5q rfl (Sw (h.ext ad) v 65535 rest hb hv (by decide)) ?_));rintro _ w2 ⟨rfl,h2,am⟩;have iv:v<=65535:=hv;refine qV ((by first|exact LF rfl U3 Mq (by omega)|exact N0 rfl U3 Mq)) ?_;refine KO rfl (py (KP Tryz.func209 rfl (⟨_,rfl,rfl,?_,ad.kp.trans am⟩)));have e:(Cd.enc .unary v).length=v+1:=by rw[nL];rfl
   rw[e];exact h2
 | gamma =>
   obtain⟨g1,g2,g3⟩:=QN hv;obtain⟨z,hz⟩:∃z,Nat.log2 (v+1)=z:=⟨_,rfl⟩;rw[hz] at g1 g2 g3;rw[Nat.pow_succ] at g2
   have tA:(Lc s).drop a=List.replicate z false++true::(bitsN z (v+1-2^z)++rest):=by
    rw[hb];show List.replicate (Nat.log2 (v+1)) false++true::(bitsN (Nat.log2 (v+1)) (v+1-2^Nat.log2 (v+1))++rest)=_;rw[hz]
   have e:(Cd.enc .gamma v).length=z+1+z:=by rw[nL];show Nat.log2 (v+1)+1+Nat.log2 (v+1)=_;rw[hz]
   refine KJ (e:=[(0,_),(1,_)]) Tryz.func209 rfl Tryz.ntmps209 rfl rfl (qN rfl (KU rfl rfl (MH rfl (cs:=[.int .u8 1,L5 0]) rfl) ?_));rintro _ w1 ⟨b3,rfl,dZ,ad,ao⟩;refine KO rfl (py (run_seq (qN rfl (qV (KT Nj rfl) (qV (KS U5 rfl rfl ao rfl) (py (KL (qN rfl (qV (Mr rfl rfl) (Ly (KO rfl (py (KH rfl ?_)))))))))))));refine qN rfl (qV (Mr rfl rfl) (MR (KO rfl (py (L3 rfl (qN rfl (An rfl (La [.tmp 17,.const (Value.int .i64 47)] zap rfl (z0h (h.ext ad) z (v+1-2^z) rest tA (by omega) g3) ?_))))))));rintro _ w2 ⟨rfl,h2,am⟩;rw[show v+1-2^z+2^z-1=v by omega];refine KO rfl (py (KP Tryz.func209 rfl (⟨_,rfl,rfl,?_,ad.kp.trans am⟩)))
   rw[e,show a+(z+1+z)=a+z+1+z by omega];exact h2
 | zeta k =>
   obtain⟨aM,am⟩:1<=k/\k<=16:=hc;obtain⟨g1,g2,g3⟩:=QN hv;have f:=Sv (k:=k) (v:=v) aM;dsimp only at f;obtain⟨b,uj⟩:∃b,Nat.log2 (v+1)=b:=⟨_,rfl⟩;rw[uj] at f g1 g2 g3;obtain⟨z,hz⟩:∃z,b / k=z:=⟨_,rfl⟩;obtain⟨m,hm⟩:∃m,z*k=m:=⟨_,rfl⟩;have Gd:m<=b:=by rw[<-hm,<-hz];exact Nat.div_mul_le_self _ _
   have zV:z<=47 / k:=by rw[<-hz];exact Nat.div_le_div_right g3
   have JK:47 / k<=47:=Nat.div_le_self _ _;rw[hz,hm] at f
   have tA:(Lc s).drop a=List.replicate z false++true::(Mb (v+1-2^m) (2^m*2^k-2^m)++rest):=by
    rw[hb];show List.replicate (Nat.log2 (v+1) / k) false++true::(Mb (v+1-2^(Nat.log2 (v+1) / k*k)) (2^(Nat.log2 (v+1) / k*k)*2^k-2^(Nat.log2 (v+1) / k*k))++rest)=_;rw[uj,hz,hm]
   obtain⟨F,hF⟩:∃F,2^m=F:=⟨_,rfl⟩;obtain⟨G,hG⟩:∃G,2^k=G:=⟨_,rfl⟩;rw[hF,hG] at f tA;obtain⟨f1,f2,f3⟩:=f;obtain⟨E,hE⟩:∃E,F*G=E:=⟨_,rfl⟩
   have zN:E<=9223372036854775808:=by
    rw[<-hE,<-hF,<-hG,<-Nat.pow_add];have:=Nat.pow_le_pow_right (show 0<2 by decide) (show m+k<=63 by omega);have e63:(2:Nat)^63=9223372036854775808:=by decide
    omega
   rw[hE] at f2 f3 tA
   have e:(Cd.enc (.zeta k) v).length=z+1+(Mb (v+1-F) (E-F)).length:=by
    rw[Cd.enc,List.length_append,List.length_replicate,List.length_cons];show Nat.log2 (v+1) / k+((Mb (v+1-2^(Nat.log2 (v+1) / k*k)) (2^(Nat.log2 (v+1) / k*k)*2^k-2^(Nat.log2 (v+1) / k*k))).length+1)=_;rw[uj,hz,hm,hF,hG,hE];omega
   have hd:(Lc s).drop (a+z+1)=Mb (v+1-F) (E-F)++rest:=by
    rw[show a+z+1=a+(z+1) by omega,<-List.drop_drop,tA];rw[<-List.drop_drop,List.drop_left' (by simp)];rfl
   have pO:(z:Int)*(k:Int)=(m:Int):=by rw[<-hm];simp
   have fX:(47:Int) / (k:Int)=((47 / k:Nat):Int):=by simp
   refine KJ (e:=[(0,_),(1,_)]) Tryz.func209 rfl Tryz.ntmps209 rfl rfl (qN rfl (KU rfl rfl (MH rfl (cs:=[.int .u8 3,L5 k]) rfl) ?_));rintro _ w1 ⟨b3,rfl,dZ,ad,ao⟩;refine KO rfl (py (run_seq (qN rfl (qV (KT Nj rfl) (qV (KS U5 rfl rfl ao rfl) (py (KL (qN rfl (qV (Mr rfl rfl) (Ly (KO rfl (py (KH rfl ?_)))))))))))));refine qN rfl (qV (Mr rfl rfl) (Ly (KO rfl (py (KH rfl (qN rfl (qV (Mr rfl rfl) (Ly (KO rfl (py (KH rfl (qN rfl (qV (Mr rfl rfl) ?_)))))))))))));refine MR (KO rfl (py (L3 rfl (qN rfl (qV (KT RG rfl) (qV (KS Mq rfl rfl ao rfl) (qV (Lw rfl Mq U3 (by omega)) (KO rfl (qM rfl (An rfl (An rfl (qV (RE rfl rfl (by omega)) ?_))))))))))));rw[fX];refine La [.tmp 41,.tmp 43] z5q rfl (Sw (h.ext ad) z (47 / k) _ tA zV (by omega)) ?_;rintro _ w2 ⟨rfl,h2,zW⟩;refine An rfl (qV (Tu rfl rfl (by rw[pO];omega)) ?_);rw[pO];refine qV (MD m F rfl rfl (by omega) hF) ?_;rw[show 1*F%18446744073709551616=F by omega];refine KO rfl (py (Ll.qb (e:=[(0,_),(3,_),(4,_),(6,_),(7,_)]) ?_));refine qN rfl (An rfl (An rfl (An rfl (qV (MD k G rfl rfl (by omega) hG) ?_))));rw[hE,Nat.mod_eq_of_lt (show E<18446744073709551616 by omega)];refine An rfl (qV (Rh rfl rfl rfl (by show E<2^64;omega) (by omega)) ?_);refine La [.tmp 48,.tmp 53] zcf rfl (z0P h2 (v+1-F) (E-F) rest hd f2 (by omega)) ?_;rintro _ w3 ⟨rfl,h3,au⟩;refine An rfl (qV (Pp rfl rfl) ?_);rw[show(v+1-F+F)%18446744073709551616=v+1 by omega];refine qV (Rh (n:=1) rfl rfl rfl (by show v+1<2^64;omega) (by omega)) ?_;rw[show v+1-1=v by omega];refine KO rfl (py (KP Tryz.func209 rfl (⟨_,rfl,rfl,?_,(ad.kp.trans zW).trans au⟩)));rw[e,show a+(z+1+(Mb (v+1-F) (E-F)).length)=a+z+1+(Mb (v+1-F) (E-F)).length by omega];exact h3
end
theorem z0E {P:Program}{fn:Func}{tmps:Array Value}{R:Ending->World->Prop}{g:FuncId}{cap args:List Value}{w:World}{S:Value->World->Prop}(oo:CF P g)(hD:z7n P g (args++cap) w S)
  (h:∀u w',S u w'->∃v,(results fn tmps).run P w'= .ok v w'/\R (.returned v) w'):LeavesInM Fence.wide 0 P fn tmps R (marks [.call g cap args]) .returning w:=by
 refine⟨by simp,.inr ⟨(fun h=>by cases h),.func g,cap.toArray,g,(args++cap).toArray,rfl,?_,(fun _ _=>trivial),?_⟩⟩
 ·simp[Dfr.d,invoke,Of oo]
 ·refine CallsDIn.mono hD ?_;rintro x u w1 ⟨rfl,v1,rfl,hS⟩;exact h v1 w1 hS
theorem z3b {P:Program}{f:FuncId}{R:Value->World->Prop}{n:Nat}{k:List Item}{e:Env}{w:World}{fn:Func}{g:FuncId}{cap args:List Value}{S:Value->World->Prop}(hf:P.funcs[f]? =some fn)(oo:CF P g)(hD:z7n P g (args++cap) w S)
  (h:∀u w',S u w'->∃vs,Td P w' e fn.results.toList vs/\SH R (.returned (resVal vs)) w'):Ll ⟨P,f,R,n,none,[.call g cap args],false⟩ (.code .ret::k) e w:=
 Ys rfl rfl hf fun a ha=>z0E oo hD fun u w' hs=>by
  obtain⟨vs,h1,h2⟩:=h u w' hs;exact⟨_,Qz ha P w' fn vs h1,h2⟩
theorem ydf {P:Program}{e:Env}{ty:TypeId}{pos:String}{aft:Array Edge}{g:Option (Nat×Bool)}{w:World}{f:FuncId}{x:Operand}{q:List Value}(hv:look e x=some (.func (.func f) #[] q.toArray)):
  ∀ρ:Operand->Value,(∀x v,look e x=some v->ρ x=v)->(execOp ρ ⟨none,.defer ⟨.value x,#[],#[]⟩,ty,pos,aft,g⟩).run P w= .ok (.defer (Dfr.d (.call f q []))) w:=fun ρ hρ=>by
 simp[execOp,resolve,hρ _ _ hv,Dfr.d,Deferred.ofValue]
section
variable {w:World}{r:Nat}{s:Bytes}{a:Nat}
theorem YR {b2 b5 b6:Nat}(hB:KY w b5 [I 0] 35):z7n Tryz.prog 208 [ptr b5 0,ptr b2 0,ptr b6 0] w fun u w'=>w'=w:=by
 refine Zm (e:=[(0,_),(1,_),(2,_)]) Tryz.func208 rfl Tryz.ntmps208 rfl rfl (qN rfl (qV (KS U35 rfl rfl hB rfl) (qV (M0 rfl rfl) (py (KZ rfl (fun c0=>?_) (fun c0=>?_))))))
 ·exact absurd rfl c0
 ·refine It (z54 rfl rfl rfl Tryz.func208 (fun a ha=>⟨_,Q1 ha _ _ _ _ rfl,?_⟩));exact⟨_,rfl,rfl⟩
theorem TT (h:OQ w r s a)(c:Cd)(v:Nat)(hc:c.M3)(hv:v<=c.most)(rest:List Bool)(hb:(Lc s).drop a=c.enc v++rest):
  Lk Tryz.prog 190 [ptr r 0,XH c] w fun u w'=>u= .tuple #[L5 v,I 0]/\OQ w' r s (a+(c.enc v).length)/\Kp (fun k=>k=r) w w':=by
 obtain⟨x,y,de⟩:∃x y,NM c=[x,y]:=by cases c<;>exact⟨_,_,rfl⟩
 have gC:=h.1.lt
 have eL:=c.Vb
 refine KJ (e:=[(0,_),(1,_)]) Tryz.func190 rfl Tryz.ntmps190 rfl rfl (qN rfl (KU rfl rfl (MH rfl (cs:=[ptr r 0]) rfl) ?_))
 rintro _ w1 ⟨b2,rfl,bT,ad,ak⟩
 refine KU rfl rfl (MH rfl (cs:=NM c) rfl) ?_
 rintro _ w2 ⟨b3,rfl,dZ,af,ao⟩
 refine KO rfl (KU rfl rfl (N3 (cs:=[_]) z3u rfl) ?_)
 rintro _ w3 ⟨b5,rfl,gD,ah,aF⟩
 replace aF:KY w3 b5 [I 0] 35:=aF
 have h3:OQ w3 r s a:=⟨ah.KN (af.KN (ad.KN h.1)),h.2⟩
 have ct:=ah.KN (af.KN ak)
 have cZ:=ah.KN ao
 refine py (run_seq (KL (qN rfl (qV (KS Oz rfl rfl ct rfl) (qV (LQ Oz rfl rfl) (KO rfl (py (KH rfl (qN rfl (qV (Lj (news:=NM c) Nv rfl Mj rfl (cZ.cells (n:=2) (by rw[de];rfl)) (by rw[de];rfl)) ?_))))))))))
 refine La [.tmp 12] Zn rfl (Pv c hc w3) ?_
 rintro _ w4 ⟨rfl,aB⟩
 have h4:OQ w4 r s a:=⟨aB.KN h3.1,h3.2⟩
 have e8:=aB.KN ct
 refine qV (M0 rfl rfl) (KO rfl (py (KZ rfl (fun c0=>?_) (fun c0=>?_))))
 ·exact absurd rfl c0
 ·refine It (KM (qN rfl (qV (KS Oz rfl rfl e8 rfl) (La [.tmp 15] Tn rfl (P8 h4) ?_))));rintro _ w4 ⟨rfl,rfl⟩;refine KU rfl rfl (N3 (cs:=[_]) LG rfl) ?_;rintro _ w5 ⟨b6,rfl,nN,aR,aN⟩;refine L0 rfl (Mt LG rfl rfl rfl aN (by simp)) ?_;rintro w6 ⟨mb,aT⟩;have z1:=ad.size;have z2:=af.size;have z3:=ah.size;have z4:=aB.size;have z5:=aR.size;have l2:=ak.lt;have l3:=ao.lt;have l5:=aF.lt;have cF:Ext w4 w6:=aR.KK aT (fun i hi=>by omega);have ft:=cF.KN e8;refine qM rfl (qV (Zj (first:=[]) (caps:=[.tmp 5,.tmp 2,.tmp 6]) rfl rfl) (z9w rfl rfl (ydf rfl) (qM rfl (qV (KS Oz rfl rfl ft rfl) (qV (NA (parts:=[(0,.tmp 18)]) (cs:=[_,_]) zbH rfl zcN rfl rfl) (KU rfl rfl (MH rfl rfl) ?_))))));rintro _ w7 ⟨b7,rfl,kF,bL,bE⟩;replace bE:KY w7 b7 [ptr r 0,.bool false] 336:=bE;have z6:=cF.size;have z7:=bL.size;have oq:Ext w3 w7:=(aB.trans cF).trans bL;have h7:RgM w7 b7 r s a:=⟨bE,⟨oq.KN h3.1,h3.2⟩,by omega⟩;have iw:=oq.KN cZ;have jm:=oq.KN aF;refine KO rfl (py (run_seq (qN rfl (An rfl (qV (Lj (news:=NM c) Nv rfl Mj rfl (iw.cells (n:=2) (by rw[de];rfl)) (by rw[de];rfl)) ?_)))));refine La [.tmp 21,.tmp 22] zb8 rfl (ZD h7 c v hc hv rest hb) ?_;rintro _ w8 ⟨rfl,h8,bh⟩;have mc:=bh.KN iw (by omega);have zX:=bh.KN jm (by omega);have bZ:=h8.KN;refine KO rfl (qM rfl (An rfl (qV (L6 rfl) (qV (KT UQ rfl) (qV (KS U4 rfl rfl bZ rfl) (An rfl (An rfl (qV (Lj (news:=NM c) Nv rfl Mj rfl (mc.cells (n:=2) (by rw[de];rfl)) (by rw[de];rfl)) ?_))))))));refine La [.tmp 30] z8x rfl (WM c hc w8) ?_;rintro _ w9 ⟨rfl,eX⟩;refine qV (LU rfl rfl) (qV (Ls rfl rfl) (py (Ll.qb (e:=[(4,_),(5,_),(33,_)]) ?_)));refine KZ rfl (fun c1=>?_) (fun c1=>?_)
  ·omega
  ·have zY:=eX.KN zX;refine It (qN rfl (An rfl (KO rfl (L0 rfl (Mt z3u rfl rfl rfl zY (by simp)) ?_))));rintro w10 ⟨dK,ax⟩;replace dK:KY w10 b5 [I 0] 35:=dK;refine py (z3b Tryz.func190 zbF (YR (b2:=b2) (b6:=b6) dK) ?_);rintro u w' rfl;have tB:OQ w9 r s (a+(c.enc v).length):=⟨eX.KN h8.rd.1,h8.rd.2⟩;refine⟨_,.tmp rfl (.cell1 U35 rfl rfl ((dK).cell _) .nil),_,rfl,rfl,⟨ax.KN tB.1 (by omega),tB.2⟩,?_⟩;have gj:Ext w w7:=((ad.trans af).trans ah).trans oq;have md:Kp (fun k=>k=r) w w8:=gj.kp.KK bh (fun i hi=>hi.elim (fun e=> .inl (by omega)) .inr);exact(md.trans eX.kp).KK ax (fun i hi=> .inl (by omega))
end
end Go.Proofs.YtpldpcjdjcgicaaGreatDoor
