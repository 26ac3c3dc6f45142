/- Merged by program. -/
import Derived.Test.YtbihggbffaigjaaGreatDoorZp1
import Derived.Lib.AppendZerosOnto
import Derived.Lib.Overlaps
import Derived.Maps.RangeRun
set_option linter.all false
set_option maxRecDepth 1000000
set_option maxHeartbeats 16000000
namespace Go.Proofs.YtbihggbffaigjaaGreatDoor
open Go Go.RowKit Go.Proofs.Tryz
set_option linter.unusedSimpArgs false
variable {C:Cx}{D:RC}{F:Nat->Prop}{K b2 b6 bytes cap d' gb i id m off:Nat}{P:Program}{T el kt t t' ty ty':TypeId}{a b za:Int}{aft aft':Array Edge}{agg:Bool}{args cs cur vs:List Value}{bs:List Bool}{f:FuncId}{fn:Func}{g g':Option (Nat×Bool)}{k:IntKind}{ops ops0:List Oper}{p:Prop}{pos':String}{ts:Array TypeId}{v' z:Value}{w w':World}{y:Operand}
def U3:=underlying3
def U4:=underlying4
def U5:=underlying5
def U9:=underlying9
def Xw:=underlying23
def U26:=underlying26
def Zh:=underlying27
def U28:=underlying28
def U30:=underlying30
def Tx:=underlying37
def Va:=underlying39
def SR:=underlying40
def U0:=underlying42
def U55:=underlying55
def U66:=underlying66
def U69:=underlying69
def U71:=underlying71
def U76:=underlying76
def U81:=underlying81
def U85:=underlying85
def U93:=underlying93
def U99:=underlying99
def z1c:=underlying101
def z9g:=underlying103
def TT:=underlying113
def zee:=underlying116
def z0w:=underlying117
def zaQ:=underlying119
def Z1:=underlying124
def zbg:=underlying125
def zg9:=underlying127
def zgN:=underlying129
def z3I:=underlying130
def z9i:=underlying132
def Zd:=underlying133
def zhN:=underlying135
def z2T:=underlying153
def z5B:=underlying155
def z5w:=underlying156
def zh7:=underlying158
def z5k:=underlying162
def zgs:=underlying164
def zp1:=underlying175
def z08:=underlying186
def zdw:=underlying188
def z9u:=underlying190
def z6E:=underlying195
def z8O:=underlying197
def zhr:=underlying202
def zhG:=underlying218
def zjK:=underlying220
def z5u:=underlying229
def zhg:=underlying231
def z2r:=underlying236
def zfr:=underlying249
def VG:=underlying261
def z0a:=underlying268
def zjJ:=underlying269
def zk4:=underlying271
def ze2:=underlying273
def z0l:=underlying276
def zka:=underlying283
def Ye:=underlying289
def zjL:=underlying293
def z5n:=underlying303
def Vy:=underlying314
def zeV:=underlying316
def zjX:=underlying321
def zkd:=underlying332
def zeG:=underlying336
def zhZ:=underlying348
def z9e:=underlying351
def zk8:=underlying366
def SK {t n:Nat}{h:Array Field}{f:Field}{d:TypeDesc}(a:P.underlying t=some (.struct h))(e:h[i]? =some f)(g:f.offset=off)(b:TI P f.type z n bytes)(c:P.underlying f.type=some d)(k:aggOf d=agg):TG P t i off n agg:=⟨h,f,z,bytes,d,a,e,g,b,c,k⟩
def SW (h:P.funcs[f]? =some fn)(c:(fn.name=="runtime.NumGoroutine")=false:=by kernel_rfl)(d:fn.body.isNone=false:=by rfl):CF P f:=⟨fn,h,c,d⟩
theorem T8:TI prog 3 (.int .i64 0) 1 8:=SU y00
theorem Xh:TI prog 4 (.bool false) 1 1:=SU y00
theorem ti5:TI prog 5 (.int .u8 0) 1 1:=SU y00
theorem ti9:TI prog 9 (.string ⟨#[]⟩) 1 16:=SU y00
theorem zk6:TI prog 23 (.slice none 0 0) 1 24:=SU y00
theorem zjr:TI prog 26 (.pointer none) 1 8:=SU y00
theorem zd5:TI prog 27 (.pointer none) 1 8:=SU y00
theorem zdJ:TI prog 28 (.pointer none) 1 8:=SU y00
def z0s:TI prog 30 (.agg #[.pointer none,.pointer none,.pointer none,.pointer none,.int .i64 0]) 5 40:=SU y00
theorem ZA:TI prog 37 (.slice none 0 0) 1 24:=SU y00
theorem YI:TI prog 39 (.int .u64 0) 1 8:=SU y00
theorem VR:TI prog 40 (.slice none 0 0) 1 24:=SU y00
theorem Sy:TI prog 42 (.int .u32 0) 1 4:=SU y00
def znE:TI prog 44 (.pointer none) 1 8:=SU y00
def z0p:TI prog 45 (.int .i64 0) 1 8:=SU y00
theorem zku:TI prog 55 (.nilFunc) 1 8:=SU y00
theorem zlV:TI prog 66 (.pointer none) 1 8:=SU y00
def zcT:TI prog 69 (.agg #[.int .i64 0,.int .i64 0,.int .i64 0,.int .i64 0]) 4 32:=SU y00
def zoD:TI prog 71 (.agg #[.slice none 0 0,.slice none 0 0,.int .i64 0,.slice none 0 0,.slice none 0 0,.slice none 0 0,.slice none 0 0,.slice none 0 0,.int .i64 0,.bool false,.bool false,.bool false]) 12 192:=SU y00
theorem z5H:TI prog 76 (.agg #[.int .i64 0,.int .i64 0,.int .i64 0,.int .i64 0,.int .i64 0,.int .i64 0,.int .i64 0]) 7 56:=SU y00
def z8D:TI prog 81 (.agg #[.int .u32 0,.int .u32 0]) 2 8:=SU y00
theorem zgB:TI prog 85 (.agg #[.int .i64 0,.int .i64 0]) 2 16:=SU y00
theorem Vf:TI prog 93 (.agg #[.int .i64 0,.int .i64 0,.int .i64 0,.int .i64 0,.int .i64 0]) 5 40:=SU y00
theorem z1d:TI prog 99 (.agg #[.int .i64 0,.int .i64 0,.int .i64 0,.bool false,.bool false]) 5 32:=SU y00
def ZZ:TI prog 100 (.pointer none) 1 8:=SU y00
theorem z61:TI prog 101 (.agg #[.pointer none,.pointer none,.pointer none,.pointer none,.pointer none]) 5 40:=SU y00
def zmF:TI prog 103 (.agg #[.int .i64 0,.int .i64 0,.int .i64 0,.bool false,.bool false,.pointer none,.pointer none,.int .i64 0,.pointer none,.pointer none,.pointer none,.pointer none,.pointer none,.bool false,.bool false]) 15 104:=SU y00
def zm4:TI prog 110 (.agg #[.int .i64 0,.int .i64 0,.int .i64 0]) 3 24:=SU y00
theorem z1r:TI prog 113 (.slice none 0 0) 1 24:=SU y00
theorem zio:TI prog 116 (.pointer none) 1 8:=SU y00
theorem zix:TI prog 117 (.map none) 1 8:=SU y00
def zmD:TI prog 119 (.agg #[.pointer none,.pointer none,.pointer none,.map none,.int .i64 0,.int .i64 0,.int .i64 0,.int .i64 0,.int .i64 0,.int .i64 0,.int .i64 0,.bool false]) 12 96:=SU y00
theorem UF:TI prog 124 (.agg #[.int .i64 0,.int .i64 0]) 2 16:=SU y00
theorem zir:TI prog 125 (.map none) 1 8:=SU y00
theorem zf5:TI prog 127 (.agg #[.slice none 0 0,.int .i64 0,.int .u8 0]) 3 40:=SU y00
theorem zbR:TI prog 129 (.agg #[.int .i64 0,.slice none 0 0,.int .i64 0,.int .u8 0]) 4 48:=SU y00
theorem zbO:TI prog 130 (.slice none 0 0) 1 24:=SU y00
def zlU:TI prog 132 (.agg #[.int .i64 0,.slice none 0 0,.int .i64 0,.int .u8 0,.int .i64 0,.int .i64 0,.map none,.slice none 0 0,.bool false,.int .i64 0,.int .i64 0]) 11 120:=SU y00
theorem ziD:TI prog 133 (.slice none 0 0) 1 24:=SU y00
def zmV:TI prog 135 (.agg #[.int .i64 0,.slice none 0 0,.slice none 0 0,.bool false]) 4 64:=SU y00
def z6w:TI prog 143 (.pointer none) 1 8:=SU y00
theorem XI:TI prog 153 (.agg #[.int .i64 0,.int .i64 0,.int .i64 0,.int .i64 0,.int .i64 0,.int .i64 0,.int .i64 0,.int .i64 0]) 8 64:=SU y00
theorem z63:TI prog 155 (.nilIface) 1 16:=SU y00
theorem zif:TI prog 156 (.pointer none) 1 8:=SU y00
def zlZ:TI prog 158 (.agg #[.int .i64 0,.int .i64 0,.int .i64 0,.int .i64 0,.int .i64 0,.int .i64 0,.int .i64 0,.int .i64 0,.nilIface,.pointer none]) 10 88:=SU y00
theorem z2c:TI prog 162 (.agg #[.int .i64 0,.int .i64 0,.int .i64 0]) 3 24:=SU y00
def zmz:TI prog 164 (.agg #[.int .i64 0,.int .i64 0,.int .i64 0,.int .i64 0,.int .i64 0,.pointer none,.bool false]) 7 56:=SU y00
def zih:TI prog 175 (.agg #[.pointer none,.slice none 0 0]) 2 32:=SU y00
def z6b:TI prog 185 (.int .u8 0) 1 1:=SU y00
theorem zcz:TI prog 186 (.map none) 1 8:=SU y00
theorem z7Y:TI prog 188 (.agg #[.slice none 0 0,.map none]) 2 32:=SU y00
def zm1:TI prog 190 (.agg #[.int .i64 0,.slice none 0 0,.map none,.slice none 0 0,.map none,.slice none 0 0,.map none,.slice none 0 0,.map none,.int .i64 0,.map none]) 11 152:=SU y00
theorem z1g:TI prog 195 (.agg #[.pointer none,.int .i64 0,.int .i64 0]) 3 24:=SU y00
def zjd:TI prog 197 (.agg #[.pointer none,.int .i64 0,.int .i64 0,.slice none 0 0,.int .i64 0,.int .i64 0,.int .u32 0,.nilFunc,.bool false]) 9 88:=SU y00
def znC:TI prog 202 (.agg #[.pointer none,.int .i64 0,.int .i64 0,.int .i64 0,.int .u32 0]) 5 40:=SU y00
def zfK:TI prog 216 (.pointer none) 1 8:=SU y00
theorem zcm:TI prog 218 (.agg #[.string ⟨#[]⟩,.bool false]) 2 24:=SU y00
def zlM:TI prog 220 (.agg #[.string ⟨#[]⟩,.bool false,.int .i64 0]) 3 32:=SU y00
theorem zcL:TI prog 229 (.pointer none) 1 8:=SU y00
def Zt:TI prog 231 (.agg #[.int .i64 0,.int .i64 0]) 2 16:=SU y00
theorem Xa:TI prog 236 (.agg #[.int .i64 0,.int .u64 0,.int .i64 0,.int .i64 0]) 4 32:=SU y00
def zn5:TI prog 249 (.agg #[.nilIface,.int .i64 0,.int .i64 0]) 3 32:=SU y00
def SZ:TI prog 261 (.agg #[.bool false,.bool false,.int .i64 0]) 3 16:=SU y00
def Uo:TI prog 268 (.agg #[.slice none 0 0,.int .i64 0]) 2 32:=SU y00
def zmx:TI prog 269 (.agg #[.slice none 0 0,.int .i64 0,.slice none 0 0,.int .i64 0,.slice none 0 0,.int .i64 0,.slice none 0 0,.int .i64 0,.slice none 0 0,.int .i64 0,.slice none 0 0,.int .i64 0,.slice none 0 0,.int .i64 0,.slice none 0 0,.int .i64 0,.slice none 0 0,.int .i64 0,.slice none 0 0,.int .i64 0,.slice none 0 0,.int .i64 0,.slice none 0 0,.int .i64 0,.slice none 0 0,.int .i64 0,.slice none 0 0,.int .i64 0,.slice none 0 0,.int .i64 0,.slice none 0 0,.int .i64 0,.slice none 0 0,.int .i64 0]) 34 544:=SU y00
theorem zj7:TI prog 271 (.agg #[.slice none 0 0,.int .i64 0,.slice none 0 0,.int .i64 0,.slice none 0 0,.int .i64 0,.slice none 0 0,.int .i64 0,.slice none 0 0,.int .i64 0,.slice none 0 0,.int .i64 0,.slice none 0 0,.int .i64 0,.slice none 0 0,.int .i64 0,.slice none 0 0,.int .i64 0,.slice none 0 0,.int .i64 0,.slice none 0 0,.int .i64 0,.slice none 0 0,.int .i64 0,.slice none 0 0,.int .i64 0,.slice none 0 0,.int .i64 0,.slice none 0 0,.int .i64 0,.slice none 0 0,.int .i64 0,.slice none 0 0,.int .i64 0,.int .i64 0]) 35 552:=SU y00
def zni:TI prog 273 (.agg #[.int .i64 0,.int .i64 0,.int .i64 0,.int .i64 0,.int .i64 0,.slice none 0 0,.int .i64 0,.slice none 0 0,.int .i64 0,.slice none 0 0,.int .i64 0,.slice none 0 0,.int .i64 0,.slice none 0 0,.int .i64 0,.slice none 0 0,.int .i64 0,.slice none 0 0,.int .i64 0,.slice none 0 0,.int .i64 0,.slice none 0 0,.int .i64 0,.slice none 0 0,.int .i64 0,.slice none 0 0,.int .i64 0,.slice none 0 0,.int .i64 0,.slice none 0 0,.int .i64 0,.slice none 0 0,.int .i64 0,.slice none 0 0,.int .i64 0,.slice none 0 0,.int .i64 0,.slice none 0 0,.int .i64 0,.int .i64 0,.pointer none,.int .i64 0,.int .i64 0]) 43 616:=SU y00
def XN:TI prog 276 (.agg #[.int .i64 0,.int .i64 0,.int .i64 0]) 3 24:=SU y00
def zky:TI prog 283 (.agg #[.slice none 0 0,.int .i64 0]) 2 32:=SU y00
theorem z6i:TI prog 289 (.pointer none) 1 8:=SU y00
def znO:TI prog 293 (.agg #[.int .i64 0,.int .u64 0,.int .i64 0,.int .i64 0,.nilIface]) 5 48:=SU y00
def ziN:TI prog 295 (.pointer none) 1 8:=SU y00
def ziv:TI prog 301 (.nilFunc) 1 8:=SU y00
def VS:TI prog 303 (.agg #[.int .i64 0,.int .i64 0]) 2 16:=SU y00
def zeF:TI prog 311 (.slice none 0 0) 1 24:=SU y00
theorem Un:TI prog 314 (.agg #[.int .u8 0,.int .u64 0]) 2 16:=SU y00
def Zl:TI prog 316 (.agg #[.int .u8 0,.int .u64 0,.int .u64 0]) 3 24:=SU y00
def zli:TI prog 321 (.agg #[.string ⟨#[]⟩,.int .i64 0]) 2 24:=SU y00
def zl4:TI prog 332 (.agg #[.pointer none,.bool false]) 2 16:=SU y00
def z0h:TI prog 336 (.agg #[.int .i64 0,.string ⟨#[]⟩]) 2 24:=SU y00
def z4Q:TI prog 348 (.agg #[.int .i64 0,.int .i64 0]) 2 16:=SU y00
def Wp:TI prog 351 (.agg #[.int .u64 0,.int .i64 0]) 2 16:=SU y00
def Yv:TI prog 352 (.agg #[.int .u64 0,.int .i64 0,.int .u64 0,.int .i64 0]) 4 32:=SU y00
def zlw:TI prog 366 (.agg #[.pointer none,.bool false]) 2 16:=SU y00
def z9k:TI prog 383 (.int .u64 0) 1 8:=SU y00
def ZC:TG prog 30 1 1 1 false:=SK U30 O O zd5 Zh O
def zbe:TG prog 30 2 2 1 false:=SK U30 O O zdJ U28 O
def z9K:TG prog 30 3 3 1 false:=SK U30 O O zdJ U28 O
def zfl:TG prog 30 4 4 1 false:=SK U30 O O T8 U3 O
def zor:SP prog 30 [(0,1),(1,1),(2,1),(3,1),(4,1)]:=⟨_,U30,λ_=>by simp[zjr.size,zd5.size,zdJ.size,T8.size,y09,y05]⟩
def zb2:TG prog 69 0 0 1 false:=SK U69 O O T8 U3 O
def z9J:TG prog 69 1 1 1 false:=SK U69 O O T8 U3 O
def zjM:TG prog 69 2 2 1 false:=SK U69 O O T8 U3 O
def zjz:TG prog 69 3 3 1 false:=SK U69 O O T8 U3 O
def zbw:TG prog 71 0 0 1 false:=SK U71 O O zk6 Xw O
def zeN:TG prog 71 1 1 1 false:=SK U71 O O zk6 Xw O
def zgC:TG prog 71 2 2 1 false:=SK U71 O O T8 U3 O
def z0f:TG prog 71 3 3 1 false:=SK U71 O O ZA Tx O
def zbu:TG prog 71 4 4 1 false:=SK U71 O O ZA Tx O
def Z6:TG prog 71 5 5 1 false:=SK U71 O O ZA Tx O
def z55:TG prog 71 6 6 1 false:=SK U71 O O ZA Tx O
def Z7:TG prog 71 7 7 1 false:=SK U71 O O ZA Tx O
def zaT:TG prog 71 8 8 1 false:=SK U71 O O T8 U3 O
def zeA:TG prog 71 9 9 1 false:=SK U71 O O Xh U4 O
def z0R:TG prog 71 10 10 1 false:=SK U71 O O Xh U4 O
def VM:TG prog 71 11 11 1 false:=SK U71 O O Xh U4 O
def zol:SP prog 71 [(0,1),(1,1),(2,1),(3,1),(4,1),(5,1),(6,1),(7,1),(8,1),(9,1),(10,1),(11,1)]:=⟨_,U71,λ_=>by simp[zk6.size,T8.size,ZA.size,Xh.size,y09,y05]⟩
def zfR:TG prog 76 1 1 1 false:=SK U76 O O T8 U3 O
def zgn:TG prog 76 2 2 1 false:=SK U76 O O T8 U3 O
def zf1:TG prog 76 3 3 1 false:=SK U76 O O T8 U3 O
def zjn:TG prog 76 4 4 1 false:=SK U76 O O T8 U3 O
def zfy:TG prog 76 5 5 1 false:=SK U76 O O T8 U3 O
def zgz:TG prog 76 6 6 1 false:=SK U76 O O T8 U3 O
def zoq:SP prog 76 [(0,1),(1,1),(2,1),(3,1),(4,1),(5,1),(6,1)]:=⟨_,U76,λ_=>by simp[T8.size,y09,y05]⟩
def zal:TG prog 81 0 0 1 false:=SK U81 O O Sy U0 O
def z4n:TG prog 81 1 1 1 false:=SK U81 O O Sy U0 O
def z2U:TG prog 85 0 0 1 false:=SK U85 O O T8 U3 O
def z2G:TG prog 85 1 1 1 false:=SK U85 O O T8 U3 O
def zoJ:SP prog 85 [(0,1),(1,1)]:=⟨_,U85,λ_=>by simp[T8.size,y09,y05]⟩
def z4N:TG prog 93 0 0 1 false:=SK U93 O O T8 U3 O
def z2V:TG prog 93 1 1 1 false:=SK U93 O O T8 U3 O
def zgq:TG prog 93 2 2 1 false:=SK U93 O O T8 U3 O
def zgd:TG prog 93 3 3 1 false:=SK U93 O O T8 U3 O
def Xt:TG prog 93 4 4 1 false:=SK U93 O O T8 U3 O
def zh1:SP prog 93 [(0,1),(1,1),(2,1),(3,1),(4,1)]:=⟨_,U93,λ_=>by simp[T8.size,y09,y05]⟩
def z73:TG prog 99 0 0 1 false:=SK U99 O O T8 U3 O
def z1x:TG prog 99 1 1 1 false:=SK U99 O O T8 U3 O
def YZ:TG prog 99 2 2 1 false:=SK U99 O O T8 U3 O
def zbt:TG prog 99 3 3 1 false:=SK U99 O O Xh U4 O
def z0z:TG prog 99 4 4 1 false:=SK U99 O O Xh U4 O
def zh4:SP prog 99 [(0,1),(1,1),(2,1),(3,1),(4,1)]:=⟨_,U99,λ_=>by simp[T8.size,Xh.size,y09,y05]⟩
def TJ:TG prog 103 0 0 5 true:=SK z9g O O z1d U99 O
def z0Q:TG prog 103 1 5 1 false:=SK z9g O O zdJ U28 O
def zh0:TG prog 103 2 6 1 false:=SK z9g O O zdJ U28 O
def zbW:TG prog 103 3 7 1 false:=SK z9g O O T8 U3 O
def X5:TG prog 103 4 8 5 true:=SK z9g O O z61 z1c O
def zcw:TG prog 103 5 13 1 false:=SK z9g O O Xh U4 O
def ZR:TG prog 103 6 14 1 false:=SK z9g O O Xh U4 O
def zlH:SP prog 103 [(0,5),(5,1),(6,1),(7,1),(8,5),(13,1),(14,1)]:=⟨_,z9g,λ_=>by simp[z61.size,zdJ.size,T8.size,Xh.size,z1d.size,y09,y05]⟩
def YM:TG prog 119 0 0 1 false:=SK zaQ O O zjr U26 O
def z7k:TG prog 119 1 1 1 false:=SK zaQ O O zlV U66 O
def zbE:TG prog 119 2 2 1 false:=SK zaQ O O zio zee O
def YS:TG prog 119 3 3 1 false:=SK zaQ O O zix z0w O
def ZN:TG prog 119 4 4 7 true:=SK zaQ O O z5H U76 O
def zck:TG prog 119 5 11 1 false:=SK zaQ O O Xh U4 O
def zlo:SP prog 119 [(0,1),(1,1),(2,1),(3,1),(4,7),(11,1)]:=⟨_,zaQ,λ_=>by simp[zio.size,zix.size,zjr.size,Xh.size,zlV.size,z5H.size,y09,y05]⟩
def Us:TG prog 124 0 0 1 false:=SK Z1 O O T8 U3 O
def UI:TG prog 124 1 1 1 false:=SK Z1 O O T8 U3 O
def zmo:SP prog 124 [(0,1),(1,1)]:=⟨_,Z1,λ_=>by simp[T8.size,y09,y05]⟩
def zhP:TG prog 127 0 0 1 false:=SK zg9 O O ZA Tx O
def zhJ:TG prog 127 1 1 1 false:=SK zg9 O O T8 U3 O
def zhO:TG prog 127 2 2 1 false:=SK zg9 O O ti5 U5 O
def z3Y:TG prog 129 0 0 1 false:=SK zgN O O T8 U3 O
def zgG:TG prog 129 1 1 3 true:=SK zgN O O zf5 zg9 O
def znc:SP prog 129 [(0,1),(1,3)]:=⟨_,zgN,λ_=>by simp[zf5.size,T8.size,y09,y05]⟩
def z0W:TG prog 132 0 0 4 true:=SK z9i O O zbR zgN O
def z3X:TG prog 132 1 4 2 true:=SK z9i O O zgB U85 O
def z6S:TG prog 132 2 6 1 false:=SK z9i O O zir zbg O
def z2w:TG prog 132 3 7 1 false:=SK z9i O O zbO z3I O
def z6K:TG prog 132 4 8 1 false:=SK z9i O O Xh U4 O
def zc9:TG prog 132 5 9 1 false:=SK z9i O O T8 U3 O
def zcI:TG prog 132 6 10 1 false:=SK z9i O O T8 U3 O
def zkD:SP prog 132 [(0,4),(4,2),(6,1),(7,1),(8,1),(9,1),(10,1)]:=⟨_,z9i,λ_=>by simp[zir.size,zbR.size,zbO.size,T8.size,Xh.size,zgB.size,y09,y05]⟩
def zcy:TG prog 135 0 0 1 false:=SK zhN O O T8 U3 O
def YY:TG prog 135 1 1 1 false:=SK zhN O O ziD Zd O
def zhy:TG prog 135 3 3 1 false:=SK zhN O O Xh U4 O
def zm2:SP prog 135 [(0,1),(1,1),(2,1),(3,1)]:=⟨_,zhN,λ_=>by simp[ziD.size,T8.size,Xh.size,y09,y05]⟩
def XY:TG prog 153 0 0 1 false:=SK z2T O O T8 U3 O
def z44:TG prog 153 1 1 1 false:=SK z2T O O T8 U3 O
def z2i:TG prog 153 2 2 5 true:=SK z2T O O Vf U93 O
def YO:TG prog 153 3 7 1 false:=SK z2T O O T8 U3 O
def ziX:SP prog 153 [(0,1),(1,1),(2,5),(7,1)]:=⟨_,z2T,λ_=>by simp[T8.size,Vf.size,y09,y05]⟩
def ZB:TG prog 158 0 0 8 true:=SK zh7 O O XI z2T O
def zhs:TG prog 158 1 8 1 false:=SK zh7 O O z63 z5B O
def zbY:TG prog 158 2 9 1 false:=SK zh7 O O zif z5w O
def zlB:SP prog 158 [(0,8),(8,1),(9,1)]:=⟨_,zh7,λ_=>by simp[XI.size,z63.size,zif.size,y09,y05]⟩
def z0T:TG prog 162 0 0 1 false:=SK z5k O O T8 U3 O
def XA:TG prog 162 1 1 1 false:=SK z5k O O T8 U3 O
def ZK:TG prog 162 2 2 1 false:=SK z5k O O T8 U3 O
def zls:SP prog 162 [(0,1),(1,1),(2,1)]:=⟨_,z5k,λ_=>by simp[T8.size,y09,y05]⟩
def Uz:TG prog 164 0 0 3 true:=SK zgs O O z2c z5k O
def z1U:TG prog 164 1 3 2 true:=SK zgs O O UF Z1 O
def ZU:TG prog 164 2 5 1 false:=SK zgs O O zd5 Zh O
def zcd:TG prog 164 3 6 1 false:=SK zgs O O Xh U4 O
def zmg:SP prog 164 [(0,3),(3,2),(5,1),(6,1)]:=⟨_,zgs,λ_=>by simp[UF.size,z2c.size,zd5.size,Xh.size,y09,y05]⟩
def z3Q:TG prog 175 1 1 1 false:=SK zp1 O O z1r TT O
def TH:TG prog 188 0 0 1 false:=SK zdw O O ZA Tx O
def z2q:TG prog 188 1 1 1 false:=SK zdw O O zcz z08 O
def Wf:TG prog 190 0 0 1 false:=SK z9u O O T8 U3 O
def Uf:TG prog 190 1 1 2 true:=SK z9u O O z7Y zdw O
def UT:TG prog 190 2 3 2 true:=SK z9u O O z7Y zdw O
def Uv:TG prog 190 3 5 2 true:=SK z9u O O z7Y zdw O
def UN:TG prog 190 4 7 2 true:=SK z9u O O z7Y zdw O
def UP:TG prog 190 5 9 1 false:=SK z9u O O T8 U3 O
def z4a:TG prog 190 6 10 1 false:=SK z9u O O zcz z08 O
def zl8:SP prog 190 [(0,1),(1,2),(3,2),(5,2),(7,2),(9,1),(10,1)]:=⟨_,z9u,λ_=>by simp[zcz.size,z7Y.size,T8.size,y09,y05]⟩
def YU:TG prog 195 0 0 1 false:=SK z6E O O zd5 Zh O
def XS:TG prog 195 1 1 2 true:=SK z6E O O UF Z1 O
def ziZ:SP prog 195 [(0,1),(1,2)]:=⟨_,z6E,λ_=>by simp[UF.size,zd5.size,y09,y05]⟩
def z0S:TG prog 197 0 0 3 true:=SK z8O O O z1g z6E O
def Ww:TG prog 197 1 3 1 false:=SK z8O O O z1r TT O
def z2o:TG prog 197 2 4 1 false:=SK z8O O O T8 U3 O
def z47:TG prog 197 3 5 1 false:=SK z8O O O T8 U3 O
def z6z:TG prog 197 4 6 1 false:=SK z8O O O Sy U0 O
def z3Z:TG prog 197 5 7 1 false:=SK z8O O O zku U55 O
def z2D:TG prog 197 6 8 1 false:=SK z8O O O Xh U4 O
def zib:SP prog 197 [(0,3),(3,1),(4,1),(5,1),(6,1),(7,1),(8,1)]:=⟨_,z8O,λ_=>by simp[z1r.size,z1g.size,T8.size,Xh.size,Sy.size,zku.size,y09,y05]⟩
def z2E:TG prog 202 0 0 3 true:=SK zhr O O z1g z6E O
def z48:TG prog 202 1 3 1 false:=SK zhr O O T8 U3 O
def zh3:TG prog 202 2 4 1 false:=SK zhr O O Sy U0 O
def zlQ:SP prog 202 [(0,3),(3,1),(4,1)]:=⟨_,zhr,λ_=>by simp[z1g.size,T8.size,Sy.size,y09,y05]⟩
def z6N:TG prog 218 0 0 1 false:=SK zhG O O ti9 U9 O
def z6D:TG prog 218 1 1 1 false:=SK zhG O O Xh U4 O
def zo0:SP prog 218 [(0,1),(1,1)]:=⟨_,zhG,λ_=>by simp[Xh.size,ti9.size,y09,y05]⟩
def ZG:TG prog 220 0 0 2 true:=SK zjK O O zcm zhG O
def zgP:TG prog 220 1 2 1 false:=SK zjK O O T8 U3 O
def zlX:SP prog 220 [(0,2),(2,1)]:=⟨_,zjK,λ_=>by simp[zcm.size,T8.size,y09,y05]⟩
def zhT:TG prog 231 0 0 1 false:=SK zhg O O T8 U3 O
def zgW:TG prog 231 1 1 1 false:=SK zhg O O T8 U3 O
def z3x:SP prog 231 [(0,1),(1,1)]:=⟨_,zhg,λ_=>by simp[T8.size,y09,y05]⟩
def z1T:TG prog 236 0 0 1 false:=SK z2r O O T8 U3 O
def zhh:TG prog 236 1 1 1 false:=SK z2r O O YI Va O
def Xc:TG prog 236 2 2 1 false:=SK z2r O O T8 U3 O
def z1Q:TG prog 236 3 3 1 false:=SK z2r O O T8 U3 O
def znH:SP prog 236 [(0,1),(1,1),(2,1),(3,1)]:=⟨_,z2r,λ_=>by simp[T8.size,YI.size,y09,y05]⟩
def zhM:TG prog 249 0 0 1 false:=SK zfr O O z63 z5B O
def zhz:TG prog 249 1 1 1 false:=SK zfr O O T8 U3 O
def z78:TG prog 249 2 2 1 false:=SK zfr O O T8 U3 O
def zo2:SP prog 249 [(0,1),(1,1),(2,1)]:=⟨_,zfr,λ_=>by simp[z63.size,T8.size,y09,y05]⟩
def zhe:TG prog 261 0 0 1 false:=SK VG O O Xh U4 O
def zhi:TG prog 261 1 1 1 false:=SK VG O O Xh U4 O
def z7q:TG prog 261 2 2 1 false:=SK VG O O T8 U3 O
def z04:SP prog 261 [(0,1),(1,1),(2,1)]:=⟨_,VG,λ_=>by simp[T8.size,Xh.size,y09,y05]⟩
def Wa:TG prog 268 0 0 1 false:=SK z0a O O VR SR O
def z7n:TG prog 268 1 1 1 false:=SK z0a O O T8 U3 O
def ziR:SP prog 268 [(0,1),(1,1)]:=⟨_,z0a,λ_=>by simp[T8.size,VR.size,y09,y05]⟩
def zcr:TG prog 271 0 0 34 true:=SK zk4 O O zmx zjJ O
def YN:TG prog 271 1 34 1 false:=SK zk4 O O T8 U3 O
def z0Z:TG prog 273 0 0 5 true:=SK ze2 O O Vf U93 O
def z2s:TG prog 273 1 5 35 true:=SK ze2 O O zj7 zk4 O
def z6C:TG prog 273 2 40 1 false:=SK ze2 O O zcL z5u O
def z6Q:TG prog 273 3 41 1 false:=SK ze2 O O T8 U3 O
def zha:TG prog 273 4 42 1 false:=SK ze2 O O T8 U3 O
def zl2:SP prog 273 [(0,5),(5,35),(40,1),(41,1),(42,1)]:=⟨_,ze2,λ_=>by simp[zcL.size,zj7.size,T8.size,Vf.size,y09,y05]⟩
def Xd:TG prog 276 0 0 1 false:=SK z0l O O T8 U3 O
def XP:TG prog 276 1 1 1 false:=SK z0l O O T8 U3 O
def z3T:TG prog 276 2 2 1 false:=SK z0l O O T8 U3 O
def zlp:SP prog 276 [(0,1),(1,1),(2,1)]:=⟨_,z0l,λ_=>by simp[T8.size,y09,y05]⟩
def z2f:TG prog 283 0 0 1 false:=SK zka O O z1r TT O
def z0H:TG prog 283 1 1 1 false:=SK zka O O T8 U3 O
def zmh:SP prog 283 [(0,1),(1,1)]:=⟨_,zka,λ_=>by simp[z1r.size,T8.size,y09,y05]⟩
def W7:TG prog 293 0 0 4 true:=SK zjL O O Xa z2r O
def z6X:TG prog 293 1 4 1 false:=SK zjL O O z63 z5B O
def zkT:SP prog 293 [(0,4),(4,1)]:=⟨_,zjL,λ_=>by simp[z63.size,Xa.size,y09,y05]⟩
def X8:TG prog 303 0 0 1 false:=SK z5n O O T8 U3 O
def Wb:TG prog 303 1 1 1 false:=SK z5n O O T8 U3 O
def zfb:SP prog 303 [(0,1),(1,1)]:=⟨_,z5n,λ_=>by simp[T8.size,y09,y05]⟩
def VK:TG prog 314 0 0 1 false:=SK Vy O O ti5 U5 O
def z0C:TG prog 314 1 1 1 false:=SK Vy O O YI Va O
def zj6:SP prog 314 [(0,1),(1,1)]:=⟨_,Vy,λ_=>by simp[YI.size,ti5.size,y09,y05]⟩
def zcn:TG prog 316 0 0 2 true:=SK zeV O O Un Vy O
def zc5:TG prog 316 1 2 1 false:=SK zeV O O YI Va O
def ziw:SP prog 316 [(0,2),(2,1)]:=⟨_,zeV,λ_=>by simp[Un.size,YI.size,y09,y05]⟩
def z7b:TG prog 321 0 0 1 false:=SK zjX O O ti9 U9 O
def YX:TG prog 321 1 1 1 false:=SK zjX O O T8 U3 O
def znM:SP prog 321 [(0,1),(1,1)]:=⟨_,zjX,λ_=>by simp[T8.size,ti9.size,y09,y05]⟩
def zhH:TG prog 332 0 0 1 false:=SK zkd O O z6i Ye O
def Xy:TG prog 332 1 1 1 false:=SK zkd O O Xh U4 O
def znw:SP prog 332 [(0,1),(1,1)]:=⟨_,zkd,λ_=>by simp[z6i.size,Xh.size,y09,y05]⟩
def z4c:TG prog 336 0 0 1 false:=SK zeG O O T8 U3 O
def z6Y:TG prog 336 1 1 1 false:=SK zeG O O ti9 U9 O
def zmv:SP prog 336 [(0,1),(1,1)]:=⟨_,zeG,λ_=>by simp[T8.size,ti9.size,y09,y05]⟩
def z74:TG prog 348 0 0 1 false:=SK zhZ O O T8 U3 O
def zbP:TG prog 348 1 1 1 false:=SK zhZ O O T8 U3 O
def zkI:SP prog 348 [(0,1),(1,1)]:=⟨_,zhZ,λ_=>by simp[T8.size,y09,y05]⟩
def zcc:TG prog 351 0 0 1 false:=SK z9e O O YI Va O
def z3M:TG prog 351 1 1 1 false:=SK z9e O O T8 U3 O
def zfj:SP prog 351 [(0,1),(1,1)]:=⟨_,z9e,λ_=>by simp[T8.size,YI.size,y09,y05]⟩
def zgE:TG prog 366 0 0 1 false:=SK zk8 O O z6i Ye O
def z3U:TG prog 366 1 1 1 false:=SK zk8 O O Xh U4 O
def zmj:SP prog 366 [(0,1),(1,1)]:=⟨_,zk8,λ_=>by simp[z6i.size,Xh.size,y09,y05]⟩
def cf8:=SW func8
def cf9:=SW func9
def zkX:=SW func10
def zkr:=SW func14
def zhQ:=SW func15
def zh6:=SW func16
def zhA:=SW func17
def zjI:=SW func18
def zjG:=SW func19
def zn1:=SW func20
def zmn:=SW func21
def zjC:=SW func22
def zpb:=SW func23
def zny:=SW func24
def zk1:=SW func25
def zoA:=SW func26
def zpl:=SW func27
def zl6:=SW func28
def zgY:=SW func29
def zoO:=SW func30
def zoB:=SW func31
def zoy:=SW func32
def zmQ:=SW func33
def znP:=SW func34
def z3K:=SW func37
def zhR:=SW func38
def zoT:=SW func39
def znK:=SW func40
def zp0:=SW func41
def zbp:=SW func42
def zkf:=SW func43
def zlh:=SW func44
def z1v:=SW func45
def zoP:=SW func46
def zoV:=SW func47
def zp6:=SW func48
def zn2:=SW func49
def zpf:=SW func50
def znN:=SW func51
def z6I:=SW func52
def zpm:=SW func53
def zoK:=SW func54
def zjP:=SW func55
def zgR:=SW func56
def zmU:=SW func57
def zkq:=SW func58
def znW:=SW func59
def zld:=SW func60
def zoF:=SW func61
def zpg:=SW func62
def zov:=SW func63
def zot:=SW func64
def z82:=SW func65
def zmp:=SW func66
def zp4:=SW func67
def zoh:=SW func68
def zpo:=SW func69
def zoM:=SW func70
def zpe:=SW func71
def znI:=SW func72
def zoo:=SW func73
def zaX:=SW func74
def zkQ:=SW func75
def zk3:=SW func76
def zjV:=SW func77
def zn3:=SW func78
def zow:=SW func79
def z8P:=SW func80
def zoR:=SW func81
def zp5:=SW func82
def zfD:=SW func83
def zkK:=SW func84
def zo9:=SW func85
def zoi:=SW func86
def zmA:=SW func87
def zl5:=SW func88
def zpj:=SW func89
def zoY:=SW func90
def zoL:=SW func91
def zpc:=SW func92
def zon:=SW func93
def zoU:=SW func94
def zkt:=SW func95
def zpp:=SW func96
def zn9:=SW func97
def zl7:=SW func98
def zk2:=SW func99
def zg4:=SW func100
def ziO:=SW func101
def znF:=SW func102
def zik:=SW func103
def zj9:=SW func104
def ziU:=SW func105
def ziq:=SW func106
def zlv:=SW func107
def znZ:=SW func108
def zlE:=SW func109
def zmt:=SW func114
def z1l:=SW func115
def zis:=SW func116
def zm7:=SW func117
def zl0:=SW func118
def zj0:=SW func119
def zii:=SW func120
def zkG:=SW func121
def zlx:=SW func122
def zlR:=SW func123
def zn8:=SW func124
def zno:=SW func125
def zlO:=SW func126
def zmN:=SW func127
def znn:=SW func128
def zeY:=SW func129
def z5b:=SW func130
def z0m:=SW func131
def zc1:=SW func132
def zkU:=SW func133
def zfX:=SW func134
def z5Y:=SW func135
def zjf:=SW func136
def zj8:=SW func137
def z7N:=SW func138
def zo5:=SW func139
def zlW:=SW func140
def zng:=SW func141
def zlA:=SW func142
def zmY:=SW func143
def zmb:=SW func144
def zmL:=SW func145
def zlk:=SW func146
def zlS:=SW func147
def zma:=SW func150
def ziJ:=SW func152
def zlj:=SW func153
def zme:=SW func154
def zkB:=SW func156
def zlz:=SW func157
def zmk:=SW func158
def ziT:=SW func160
def z8w:=SW func161
def z4X:=SW func162
def znA:=SW func163
def zbF:=SW func164
def ziY:=SW func165
def zlc:=SW func166
def zlm:=SW func167
def zkz:=SW func168
def z5U:=SW func169
def zmy:=SW func170
def zc7:=SW func171
def z3k:=SW func172
def z9o:=SW func173
def znG:=SW func174
def zbQ:=SW func175
def ziB:=SW func176
def ziA:=SW func177
def z1h:=SW func178
def Wt:=SW func179
def zmP:=SW func180
def znr:=SW func181
def znB:=SW func183
def zie:=SW func184
def zkN:=SW func185
def znl:=SW func186
def z26:=SW func187
def Xf:=SW func188
def z2g:=SW func189
def ziC:=SW func190
def z4M:=SW func191
def zfU:=SW func192
def zmE:=SW func193
def zid:=SW func194
def ziP:=SW func195
def zkS:=SW func196
def z89:=SW func197
def zlJ:=SW func198
def ziE:=SW func199
def zil:=SW func200
def zll:=SW func201
def znQ:=SW func202
def zkJ:=SW func203
def zmZ:=SW func204
def ziy:=SW func205
def zjg:=SW func206
def zo6:=SW func207
def zlG:=SW func208
def zlI:=SW func209
def ziG:=SW func210
def zbT:=SW func211
def z7J:=SW func212
def zo8:=SW func213
def zlN:=SW func214
def zeJ:=SW func215
def znd:=SW func216
def zkA:=SW func217
def zkE:=SW func218
def zje:=SW func219
def z1W:=SW func220
def zkW:=SW func221
def z9l:=SW func222
def zlF:=SW func223
def zjb:=SW func224
def zml:=SW func225
def zi6:=SW func226
def zj5:=SW func227
def zjc:=SW func228
def zeD:=SW func229
def zmM:=SW func230
def znt:=SW func231
def zmO:=SW func232
def zlY:=SW func233
def zm6:=SW func234
def znY:=SW func235
def z81:=SW func236
def ziM:=SW func237
def zlK:=SW func238
def znv:=SW func239
def znJ:=SW func240
def zmq:=SW func241
def zmC:=SW func242
def z65:=SW func243
def zij:=SW func244
def zfC:=SW func245
def zi9:=SW func246
def znh:=SW func247
def znu:=SW func248
def zit:=SW func249
def zf4:=SW func250
def zl9:=SW func251
def zbZ:=SW func252
def zmJ:=SW func253
def zms:=SW func254
def zm8:=SW func255
def zmR:=SW func256
def znp:=SW func257
def zo7:=SW func258
def znX:=SW func259
def ZW:=SW func260
def zlb:=SW func261
def zmH:=SW func262
def ziF:=SW func264
def zlu:=SW func265
def znq:=SW func266
def zna:=SW func268
def znf:=SW func269
def zgo:=SW func270
def znm:=SW func290
def zob:=SW func291
def zmB:=SW func293
def znL:=SW func294
def wtr (ops:List Oper)(i:Nat):List Nat:=(List.range ops.length).foldl (λa j=>match ops[j]? with|some o=>if o.after.any (λx=>Region.binds .any x&&(x.on==i ||a.contains x.on)) then a++[j] else a|none=>a) []
section
variable {l:List Oper}{e:Env}{d:Nat}{op:Op}{pos:String}{v:Value}
def qV (o:Y D.C.P e ⟨some d,op,ty,pos,aft,g⟩ v w w')(h:RL D l ((d,v)::e) w')(j:VN D e g true=true:=by exact rfl)(c:Nat.blt d D.C.n=true:=by exact rfl):RL D (⟨some d,op,ty,pos,aft,g⟩::l) e w:=Z4 j c o h
theorem qS (h:RL D l ((d,undef)::e) w)(j:VN D e g false=true:=by exact rfl)(c:Nat.blt d D.C.n=true:=by exact rfl):RL D (⟨some d,op,ty,pos,aft,g⟩::l) e w:=zn6 j c h
theorem Sf {x:Operand}(o:look e x=some v)(h:RL D l ((d,v)::e) w)(j:VN D e g true=true:=by exact rfl)(c:Nat.blt d D.C.n=true:=by exact rfl):RL D (⟨some d,.move x,ty,pos,aft,g⟩::l) e w:=Z4 j c (ymv o) h
theorem Vj {x:Operand}(o:look e x=some v)(h:RL D l ((d,v)::e) w)(j:VN D e g true=true:=by exact rfl)(c:Nat.blt d D.C.n=true:=by exact rfl):RL D (⟨some d,.assign x,ty,pos,aft,g⟩::l) e w:=Z4 j c (UU o) h
theorem Tr {x:Operand}(c:(look e x,look e y)=(some (I a),some (I b)))(h:RL D l ((d,I (a+b))::e) w)(j:JIq (a+b):=by omega)(q:VN D e g true=true:=by exact rfl)(o:Nat.blt d D.C.n=true:=by exact rfl):RL D (⟨some d,.binOp .add t x y t',ty,pos,aft,g⟩::l) e w:=Z4 q o (YB (congrArg Prod.fst c) (congrArg Prod.snd c) j) h
theorem Sr {S:Value->World->Prop}{args:List Operand}(q:CF D.C.P f)(c:looks e args=some vs)(j:SG D.C.P f vs w S)(h:∀v w',S v w'->RL D l ((d,v)::e) w')(r:VN D e g true=true:=by exact rfl)(o:Nat.blt d D.C.n=true:=by exact rfl):RL D (⟨some d,.call ⟨.value (.func f),args.toArray,ts⟩,ty,pos,aft,g⟩::l) e w:=Uk r o (yc q c) j h
def Ue [hp:Decidable p](hr:RL D l ((d,.bool true)::e) w)(h:p:=by first|rfl|assumption|omega|decide):RL D l ((d,.bool (decide p))::e) w:=zkV h hr
def T0 [hp:Decidable p](hr:RL D l ((d,.bool false)::e) w)(h:¬p:=by first|exact λh=>h O|assumption|omega):RL D l ((d,.bool (decide p))::e) w:=zki h hr
theorem TW {x:Operand}(c:(look e x,look e y)=(some (.int k a),some (.int k b)))(h:RL D l ((d,.bool (decide (a<b)))::e) w)(o:VN D e g true=true:=by exact rfl)(j:Nat.blt d D.C.n=true:=by exact rfl):RL D (⟨some d,.binOp .lss t x y t',ty,pos,aft,g⟩::l) e w:=Z4 o j (ylt (congrArg Prod.fst c) (congrArg Prod.snd c)) h
theorem zle {x:Operand}(c:(look e x,look e y)=(some (.int k a),some (.int k b)))(h:RL D l ((d,.bool (decide (a<=b)))::e) w)(o:VN D e g true=true:=by exact rfl)(j:Nat.blt d D.C.n=true:=by exact rfl):RL D (⟨some d,.binOp .leq t x y t',ty,pos,aft,g⟩::l) e w:=Z4 o j (yle (congrArg Prod.fst c) (congrArg Prod.snd c)) h
theorem Ub {x:Operand}(c:(look e x,look e y)=(some (.int k a),some (.int k b)))(h:RL D l ((d,.bool (decide (b<a)))::e) w)(o:VN D e g true=true:=by exact rfl)(j:Nat.blt d D.C.n=true:=by exact rfl):RL D (⟨some d,.binOp .gtr t x y t',ty,pos,aft,g⟩::l) e w:=Z4 o j (ygt (congrArg Prod.fst c) (congrArg Prod.snd c)) h
theorem WZ {x:Operand}(c:(look e x,look e y)=(some (.int k a),some (.int k b)))(h:RL D l ((d,.bool (decide (b<=a)))::e) w)(o:VN D e g true=true:=by exact rfl)(j:Nat.blt d D.C.n=true:=by exact rfl):RL D (⟨some d,.binOp .geq t x y t',ty,pos,aft,g⟩::l) e w:=Z4 o j (yge (congrArg Prod.fst c) (congrArg Prod.snd c)) h
theorem U7 {x:Operand}(c:(look e x,look e y)=(some (.int k a),some (.int k b)))(h:RL D l ((d,.bool (decide (a=b)))::e) w)(o:VN D e g true=true:=by exact rfl)(j:Nat.blt d D.C.n=true:=by exact rfl):RL D (⟨some d,.binOp .eql t x y t',ty,pos,aft,g⟩::l) e w:=Z4 o j (yeq (congrArg Prod.fst c) (congrArg Prod.snd c)) h
theorem TK {x:Operand}(c:(look e x,look e y)=(some (.int k a),some (.int k b)))(h:RL D l ((d,.bool (decide (a≠b)))::e) w)(o:VN D e g true=true:=by exact rfl)(j:Nat.blt d D.C.n=true:=by exact rfl):RL D (⟨some d,.binOp .neq t x y t',ty,pos,aft,g⟩::l) e w:=Z4 o j (yne (congrArg Prod.fst c) (congrArg Prod.snd c)) h
theorem Uj {c x:Operand}(j:(look e c,look e x)=(some (.bool true),some v))(h:RL D l ((d,v)::e) w)(q:VN D e g true=true:=by exact rfl)(o:Nat.blt d D.C.n=true:=by exact rfl):RL D (⟨some d,.pick c x y,ty,pos,aft,g⟩::l) e w:=Z4 q o (YD (congrArg Prod.fst j) (congrArg Prod.snd j)) h
theorem Td {c x:Operand}(j:(look e c,look e y)=(some (.bool false),some v))(h:RL D l ((d,v)::e) w)(q:VN D e g true=true:=by exact rfl)(o:Nat.blt d D.C.n=true:=by exact rfl):RL D (⟨some d,.pick c x y,ty,pos,aft,g⟩::l) e w:=Z4 q o (Xg (congrArg Prod.fst j) (congrArg Prod.snd j)) h
theorem zex {x:Operand}{vs:Array Value}(c:(look e x,vs[i]?)=(some (.tuple vs),some v))(h:RL D l ((d,v)::e) w)(o:VN D e g true=true:=by exact rfl)(j:Nat.blt d D.C.n=true:=by exact rfl):RL D (⟨some d,.extract x i,ty,pos,aft,g⟩::l) e w:=Z4 o j (UY (congrArg Prod.fst c) (congrArg Prod.snd c)) h
theorem Sn {n b:Nat}{x:Operand}(j:TG D.C.P t i off (n+1) agg)(q:look e x=some (ptr b m))(h:RL D l ((d,ptr b (m+off))::e) w)(o:VN D e g true=true:=by exact rfl)(c:Nat.blt d D.C.n=true:=by exact rfl):RL D (⟨some d,.fieldAddr t x i,ty,pos,aft,g⟩::l) e w:=Z4 o c (SN j q) h
theorem UR {x:Operand}{a:Option Addr}{len:Nat}(ht:D.C.P.underlying t=some (.slice el))(o:look e x=some (.slice a len cap))(h:RL D l ((d,I (len:Int))::e) w)(j:VN D e g true=true:=by exact rfl)(c:Nat.blt d D.C.n=true:=by exact rfl):RL D (⟨some d,.call ⟨.builtin .len,#[x],#[t]⟩,ty,pos,aft,g⟩::l) e w:=Z4 j c (VQ ht o) h
theorem UO {x:Operand}(c:(look e x,look e y)=(some (I a),some (I b)))(h:RL D l ((d,I (a-b))::e) w)(j:JIq (a-b):=by omega)(q:VN D e g true=true:=by exact rfl)(o:Nat.blt d D.C.n=true:=by exact rfl):RL D (⟨some d,.binOp .sub t x y t',ty,pos,aft,g⟩::l) e w:=Z4 q o (ysb (congrArg Prod.fst c) (congrArg Prod.snd c) j) h
theorem Sq {x:Operand}(o:look e x=some v)(h:SI D.C D.k ((d,v)::e) w)(j:VN D e g true=true:=by exact rfl)(c:Nat.blt d D.C.n=true:=by exact rfl):RL D [⟨some d,.assign x,ty,pos,aft,g⟩] e w:=Z4 j c (UU o) (S5 h)
theorem Sz {x:Operand}(o:(look e x,look ((d,v)::e) y)=(some v,some v'))(h:RL D l ((d',v')::(d,v)::e) w)(r:VN D e g true=true:=by exact rfl)(q:Nat.blt d D.C.n=true:=by exact rfl)(j:VN D ((d,v)::e) g' true=true:=by exact rfl)(c:Nat.blt d' D.C.n=true:=by exact rfl):RL D (⟨some d,.move x,ty,pos,aft,g⟩::⟨some d',.move y,ty',pos',aft',g'⟩::l) e w:=Z4 r q (ymv (congrArg Prod.fst o)) (Z4 j c (ymv (congrArg Prod.snd o)) h)
def z9Q:Value->Bool
  | .pointer (some _)=>true
  | .func (.func _) _ _=>true
  |_=>false
theorem Tu {d:Option Nat}{x:Operand}(h:look e x=some v)(c:z9Q v=true:=by exact rfl):Y P e ⟨d,.nilCheck x,ty,pos,aft,g⟩ v w w:=by
  unfold z9Q at c
  split at c
  · exact ync h
  · exact zoI h
  · cases c
theorem SC {x:Operand}(q:look e x=some v)(h:RL D l ((d,v)::e) w)(o:z9Q v=true:=by exact rfl)(j:VN D e g true=true:=by exact rfl)(c:Nat.blt d D.C.n=true:=by exact rfl):RL D (⟨some d,.nilCheck x,ty,pos,aft,g⟩::l) e w:=Z4 j c (Tu q o) h
end
section
variable {k:List Item}{e e':Env}{y:Code}
def qN {x:Code}(c:Vm C.n ops=true)(h:RL ⟨C,ops,.code x::k,c⟩ ops e w):SI C (.code (.seq (.region id ops.toArray false) x)::k) e w:=It (Sg c h)
def UW {α:Type}{c:Code}(h:α)(E:α->Env)(I:α->World->Prop)(μ:α->Nat)(n:I h w)(round:∀x w,I x w->(∀y w',I y w'->μ y<μ x->SI C (.inLoop c::k) (E y) w')->SI C (.code c:: .inLoop c::k) (E x) w)(j:Sub (E h) e:=by repeat (first|exact Sub.nil|refine Sub.cons O ?_)):SI C (.code (.loop c)::k) e w:=zgD h E I μ j n round
def SI.qb (h:SI C k e w)(c:Sub e e':=by repeat (first|exact Sub.nil|refine Sub.cons O ?_)):SI C k e' w:=h.sub c
end
section
variable {k:List Item}{e:Env}{x:Code}
def qM {j:Vm C.n ops0=true}(c:Vm C.n ops=true)(h:RL ⟨C,ops,.code x::k,c⟩ ops e w):RL ⟨C,ops0,.code (.seq (.region id ops.toArray false) x)::k,j⟩ [] e w:=S5 (It (Sg c h))
end
section
variable {late:List Nat}{S:World->Prop}{e:Env}{d fuel:Nat}{op:Op}{pos:String}{listed:Array Bool}{v:Value}
def qT (i:Nat)(hi:D.ops[i]? =some ⟨some d,op,ty,pos,aft,g⟩)(r:∀w,S w->Y D.C.P e ⟨some d,op,ty,pos,aft,g⟩ v w w)(c:S w)(h:RH D S fuel (listed.setIfInBounds i true) ((d,v)::e) w)
    (o:W1 D.ops listed i=true:=by kernel_rfl) (q:VN D e g true=true:=by exact rfl) (j:Nat.blt d D.C.n=true:=by exact rfl):RH D S (fuel+1) listed e w:=zgf hi o q j r c h
def S8 (i:Nat)(hi:D.ops[i]? =some ⟨some d,op,ty,pos,aft,g⟩)(r:∀{w},Y D.C.P e ⟨some d,op,ty,pos,aft,g⟩ v w w)(c:S w)(h:RH D S fuel (listed.setIfInBounds i true) ((d,v)::e) w)
    (o:W1 D.ops listed i=true:=by kernel_rfl) (q:VN D e g true=true:=by exact rfl) (j:Nat.blt d D.C.n=true:=by exact rfl):RH D S (fuel+1) listed e w:=zgf hi o q j (λ_ _=>r) c h
def Xl [hp:Decidable p](hr:RH D S fuel listed ((d,.bool true)::e) w)(h:p:=by first|rfl|assumption|omega|decide):RH D S fuel listed ((d,.bool (decide p))::e) w:=zmS h hr
def WW [hp:Decidable p](hr:RH D S fuel listed ((d,.bool false)::e) w)(h:¬p:=by first|exact λh=>h O|assumption|omega):RH D S fuel listed ((d,.bool (decide p))::e) w:=zjx h hr
theorem Wg {late:List Nat}(rs:List Nat)(h:RH D (λ_=>True) fuel listed e w)(hr:VJ D.ops listed rs=true:=by kernel_rfl)(c:zj3 rs late=true:=by kernel_rfl):RHL D late S fuel listed e w:=zn0 rs hr c h
theorem St {x:Operand}(i:Nat)(hi:D.ops[i]? =some ⟨some d,.move x,ty,pos,aft,g⟩)(r:look e x=some v)(c:S w)(h:RH D S fuel (listed.setIfInBounds i true) ((d,v)::e) w)
    (o:W1 D.ops listed i=true:=by kernel_rfl) (q:VN D e g true=true:=by exact rfl) (j:Nat.blt d D.C.n=true:=by exact rfl):RH D S (fuel+1) listed e w:=zgf hi o q j (λ_ _=>ymv r) c h
theorem qJ (i:Nat)(hi:D.ops[i]? =some ⟨some d,op,ty,pos,aft,g⟩)(c:S w)(h:RH D S fuel (listed.setIfInBounds i true) ((d,undef)::e) w)
    (o:W1 D.ops listed i=true:=by kernel_rfl) (q:VN D e g false=true:=by exact rfl) (j:Nat.blt d D.C.n=true:=by exact rfl):RH D S (fuel+1) listed e w:=znT hi o q j c h
def qO (i:Nat)(h:Nx D S fuel listed e w i)(hr:VJ D.ops listed [i]=true:=by kernel_rfl):RH D S (fuel+1) listed e w:=znz hr h
def VF {T:Value->World->Prop}{args:List Operand}(i:Nat)(hi:D.ops[i]? =some ⟨some d,.call ⟨.value (.func f),args.toArray,ts⟩,ty,pos,aft,g⟩)(q:CF D.C.P f)(c:looks e args=some vs)(j:SG D.C.P f vs w T)(h:∀v w',T v w'->S w'/\RH D S fuel (listed.setIfInBounds i true) ((d,v)::e) w')
    (hr:VJ D.ops listed [i]=true:=by kernel_rfl) (r:VN D e g true=true:=by exact rfl) (o:Nat.blt d D.C.n=true:=by exact rfl):RH D S (fuel+1) listed e w:=znz hr (z0r hi r o (yc q c) j h)
theorem qE (h:SI D.C D.k e w)(hr:VJ D.ops listed []=true:=by kernel_rfl):RH D S fuel listed e w:=zok hr h
def qL (i:Nat)(hi:D.ops[i]? =some ⟨some d,op,ty,pos,aft,g⟩)(r:∀w,S w->Y D.C.P e ⟨some d,op,ty,pos,aft,g⟩ v w w)(c:S w)(h:RHL D late S fuel (listed.setIfInBounds i true) ((d,v)::e) w)
    (o:(W1 D.ops listed i&&waits D.ops listed late (wtr D.ops i) i)=true:=by kernel_rfl) (q:VN D e g true=true:=by exact rfl) (j:Nat.blt d D.C.n=true:=by exact rfl):RHL D late S (fuel+1) listed e w:=zaO _ hi o q j r c h
def SB (i:Nat)(hi:D.ops[i]? =some ⟨some d,op,ty,pos,aft,g⟩)(r:∀{w},Y D.C.P e ⟨some d,op,ty,pos,aft,g⟩ v w w)(c:S w)(h:RHL D late S fuel (listed.setIfInBounds i true) ((d,v)::e) w)
    (o:(W1 D.ops listed i&&waits D.ops listed late (wtr D.ops i) i)=true:=by kernel_rfl) (q:VN D e g true=true:=by exact rfl) (j:Nat.blt d D.C.n=true:=by exact rfl):RHL D late S (fuel+1) listed e w:=zaO _ hi o q j (λ_ _=>r) c h
theorem Te {x:Operand}(i:Nat)(hi:D.ops[i]? =some ⟨some d,.move x,ty,pos,aft,g⟩)(r:look e x=some v)(c:S w)(h:RHL D late S fuel (listed.setIfInBounds i true) ((d,v)::e) w)
    (o:(W1 D.ops listed i&&waits D.ops listed late (wtr D.ops i) i)=true:=by kernel_rfl) (q:VN D e g true=true:=by exact rfl) (j:Nat.blt d D.C.n=true:=by exact rfl):RHL D late S (fuel+1) listed e w:=zaO _ hi o q j (λ_ _=>ymv r) c h
end
section
variable {k:List Item}{e:Env}{l:List Oper}{y y2:Code}{d:Nat}{op op':Op}{pos:String}{v:Value}{x x':Operand}
theorem SE (c:(Vm C.n (⟨some d,.move x,ty,pos,aft,g⟩::l),look e x)=(true,some v))(h:RL ⟨C,⟨some d,.move x,ty,pos,aft,g⟩::l,.code y::k,congrArg Prod.fst c⟩ l ((d,v)::e) w)(o:VN ⟨C,⟨some d,.move x,ty,pos,aft,g⟩::l,.code y::k,congrArg Prod.fst c⟩ e g true=true:=by exact rfl)(j:Nat.blt d C.n=true:=by exact rfl):SI C (.code (.seq (.region id (⟨some d,.move x,ty,pos,aft,g⟩::l).toArray false) y)::k) e w:=qN (congrArg Prod.fst c) (Sf (congrArg Prod.snd c) h o j)
theorem Up {j:Vm C.n ops0=true}(c:(look e x,Vm C.n ops)=(some v,true))(h:RL ⟨C,ops,.code y::k,congrArg Prod.snd c⟩ ops ((d,v)::e) w)(q:VN ⟨C,ops0,.code (.seq (.region id ops.toArray false) y)::k,j⟩ e g true=true:=by exact rfl)(o:Nat.blt d C.n=true:=by exact rfl):RL ⟨C,ops0,.code (.seq (.region id ops.toArray false) y)::k,j⟩ [⟨some d,.assign x,ty,pos,aft,g⟩] e w:=Vj (congrArg Prod.fst c) (qM (congrArg Prod.snd c) h) q o
theorem TV (c:((Vm C.n (⟨some d,.move x,ty,pos,aft,g⟩::⟨some d',.move x',ty',pos',aft',g'⟩::l),look e x),look ((d,v)::e) x')=((true,some v),some v'))(h:RL ⟨C,⟨some d,.move x,ty,pos,aft,g⟩::⟨some d',.move x',ty',pos',aft',g'⟩::l,.code y::k,congrArg (λz=>z.1.1) c⟩ l ((d',v')::(d,v)::e) w)(r:VN ⟨C,⟨some d,.move x,ty,pos,aft,g⟩::⟨some d',.move x',ty',pos',aft',g'⟩::l,.code y::k,congrArg (λz=>z.1.1) c⟩ e g true=true:=by exact rfl)(q:Nat.blt d C.n=true:=by exact rfl)(o:VN ⟨C,⟨some d,.move x,ty,pos,aft,g⟩::⟨some d',.move x',ty',pos',aft',g'⟩::l,.code y::k,congrArg (λz=>z.1.1) c⟩ ((d,v)::e) g' true=true:=by exact rfl)(j:Nat.blt d' C.n=true:=by exact rfl):SI C (.code (.seq (.region id (⟨some d,.move x,ty,pos,aft,g⟩::⟨some d',.move x',ty',pos',aft',g'⟩::l).toArray false) y)::k) e w:=qN (congrArg (λz=>z.1.1) c) (Sf (congrArg (λz=>z.1.2) c) (Sf (congrArg Prod.snd c) h o j) r q)
theorem To (o:(look e x,look ((d,v)::e) x')=(some v,some v'))(h:SI D.C D.k ((d',v')::(d,v)::e) w)(r:VN D e g true=true:=by exact rfl)(q:Nat.blt d D.C.n=true:=by exact rfl)(j:VN D ((d,v)::e) g' true=true:=by exact rfl)(c:Nat.blt d' D.C.n=true:=by exact rfl):RL D [⟨some d,.assign x,ty,pos,aft,g⟩,⟨some d',.assign x',ty',pos',aft',g'⟩] e w:=Vj (congrArg Prod.fst o) (Sq (congrArg Prod.snd o) h j c) r q
theorem Vk {vs c:Array Value}{r:Nat}(q:((look e x,vs[i]?),(look ((d,v)::e) x',c[r]?))=((some (.tuple vs),some v),(some (.tuple c),some v')))(h:RL D l ((d',v')::(d,v)::e) w)(u:VN D e g true=true:=by exact rfl)(s:Nat.blt d D.C.n=true:=by exact rfl)(o:VN D ((d,v)::e) g' true=true:=by exact rfl)(j:Nat.blt d' D.C.n=true:=by exact rfl):RL D (⟨some d,.extract x i,ty,pos,aft,g⟩::⟨some d',.extract x' r,ty',pos',aft',g'⟩::l) e w:=zex (congrArg Prod.fst q) (zex (congrArg Prod.snd q) h o j) u s
theorem SX (c:(Vm C.n (⟨some d,.move x,ty,pos,aft,g⟩::l),look e x)=(true,some v))(h:RL ⟨C,⟨some d,.move x,ty,pos,aft,g⟩::l,.code y:: .code y2::k,congrArg Prod.fst c⟩ l ((d,v)::e) w)(o:VN ⟨C,⟨some d,.move x,ty,pos,aft,g⟩::l,.code y:: .code y2::k,congrArg Prod.fst c⟩ e g true=true:=by exact rfl)(j:Nat.blt d C.n=true:=by exact rfl):SI C (.code (.seq (.seq (.region id (⟨some d,.move x,ty,pos,aft,g⟩::l).toArray false) y) y2)::k) e w:=It (SE c h o j)
theorem Ua (h:RL D l ((d',undef)::(d,undef)::e) w)(q:VN D e g false=true:=by exact rfl)(o:Nat.blt d D.C.n=true:=by exact rfl)(j:VN D ((d,undef)::e) g' false=true:=by exact rfl)(c:Nat.blt d' D.C.n=true:=by exact rfl):RL D (⟨some d,op,ty,pos,aft,g⟩::⟨some d',op',ty',pos',aft',g'⟩::l) e w:=qS (qS h j c) q o
def VP {c:Operand}(j:look e c=some (.bool false))(h:SI C k e w):SI C (.code (.cond c y .skip)::k) e w:=S9 j (S6 h)
theorem TU (c:(Vm C.n [⟨some d,.assign x,ty,pos,aft,g⟩],look e x)=(true,some v))(h:SI C (.code y::k) ((d,v)::e) w)(o:VN ⟨C,[⟨some d,.assign x,ty,pos,aft,g⟩],.code y::k,congrArg Prod.fst c⟩ e g true=true:=by exact rfl)(j:Nat.blt d C.n=true:=by exact rfl):SI C (.code (.seq (.region id ([⟨some d,.assign x,ty,pos,aft,g⟩]:List Oper).toArray false) y)::k) e w:=qN (congrArg Prod.fst c) (Sq (congrArg Prod.snd c) h o j)
theorem TR {q:Vm C.n ops0=true}(c:((look e x',Vm C.n (⟨some d,.move x,ty,pos,aft,g⟩::l)),look ((d',v')::e) x)=((some v',true),some v))(h:RL ⟨C,⟨some d,.move x,ty,pos,aft,g⟩::l,.code y::k,congrArg (λz=>z.1.2) c⟩ l ((d,v)::(d',v')::e) w)(s:VN ⟨C,ops0,.code (.seq (.region id (⟨some d,.move x,ty,pos,aft,g⟩::l).toArray false) y)::k,q⟩ e g' true=true:=by exact rfl)(r:Nat.blt d' C.n=true:=by exact rfl)(o:VN ⟨C,⟨some d,.move x,ty,pos,aft,g⟩::l,.code y::k,congrArg (λz=>z.1.2) c⟩ ((d',v')::e) g true=true:=by exact rfl)(j:Nat.blt d C.n=true:=by exact rfl):RL ⟨C,ops0,.code (.seq (.region id (⟨some d,.move x,ty,pos,aft,g⟩::l).toArray false) y)::k,q⟩ [⟨some d',.assign x',ty',pos',aft',g'⟩] e w:=Up (congrArg Prod.fst c) (Sf (congrArg Prod.snd c) h o j) s r
def Tt {j:Vm C.n ops0=true}{c:Operand}(o:look e c=some (.bool false))(h:SI C k e w):RL ⟨C,ops0,.code (.cond c y .skip)::k,j⟩ [] e w:=S5 (VP o h)
theorem Uw (c:(Vm C.n (⟨some d,.move x,ty,pos,aft,g⟩::l),look e x)=(true,some v))(h:RL ⟨C,⟨some d,.move x,ty,pos,aft,g⟩::l,k,congrArg Prod.fst c⟩ l ((d,v)::e) w)(o:VN ⟨C,⟨some d,.move x,ty,pos,aft,g⟩::l,k,congrArg Prod.fst c⟩ e g true=true:=by exact rfl)(j:Nat.blt d C.n=true:=by exact rfl):SI C (.code (.region id (⟨some d,.move x,ty,pos,aft,g⟩::l).toArray false)::k) e w:=Sg (congrArg Prod.fst c) (Sf (congrArg Prod.snd c) h o j)
def TZ (h:SI C (.code y:: .inBlock id:: .code y2::k) e w):SI C (.code (.seq (.block id y) y2)::k) e w:=It (S7 h)
end
theorem Ux {k:List Item}{e:Env}(S:World->Prop)(c:Vm C.n ops=true)(h:RH ⟨C,ops,k,c⟩ S ops.length (Array.replicate ops.length false) e w.drew)(o:C.P.follows .mixedOrders=true:=by kernel_rfl)(j:calm ops=true:=by rfl):SI C (.code (.region id ops.toArray true)::k) e w:=z8n S o c h j
def UC {α:Type}{a b:α}(h:some a=some b):a=b:=y1i h
def U2:=underlying2
def U20:=underlying20
def U22:=underlying22
def U34:=underlying34
def U44:=underlying44
def U45:=underlying45
def U60:=underlying60
def U61:=underlying61
def z2W:=underlying100
def zo4:=underlying110
def z7c:=underlying143
def zgU:=underlying146
def zgM:=underlying151
def zjN:=underlying172
def zfL:=underlying185
def zm0:=underlying216
def zoQ:=underlying222
def z0e:=underlying223
def zk5:=underlying232
def zjk:=underlying238
def zp3:=underlying295
def zkw:=underlying296
def zlr:=underlying301
def z4y:=underlying311
def zeR:=underlying344
def z5r:=underlying352
def z7E:=underlying383
def YE (w:World)(g:Nat)(cs:List Value)(T:TypeId):Prop:=w.heap[g]? =some (.cells cs.toArray T (0,0))
theorem YE.S4 {g:Nat}(h:YE w g cs T):Sk w g cs T:=⟨(0,0),h,λi _ h=>ω⟩
theorem YE.set {g:Nat}(h:YE w g cs T)(i:Nat)(v:Value):YE (w.setCell ⟨g,i,none⟩ v) g (cs.set i v) T:=by
 unfold YE at h⊢
 simp[World.setCell,y3j,h]
theorem YE.ext {g:Nat}(h:YE w g cs T)(k:Ext w w'):YE w' g cs T:=k.heap h id
def Sl.row {g n:Nat}{e:TypeId}{size:Nat}(h:Sl w (.slice (some ⟨g,0,none⟩) n cap) e size n cs):∃cur,YE w g cur e/\n<=cap/\cap<=maxLen/\cur.length=cap*size/\cur.take (n*size)=cs:=by
 rcases h.2 with⟨r,-⟩|⟨s,c,cur,q,-,hg,l,j,o,ht⟩
 ·cases r
 ·cases q;exact⟨cur.toList,by unfold YE;simpa using hg,l,j,by simpa using o,ht⟩
def YE.sl {g n:Nat}{e:TypeId}{size:Nat}(h:YE w g cur e)(c:n<=cap)(l:cap<=maxLen)(j:cur.length=cap*size):Sl w (.slice (some ⟨g,0,none⟩) n cap) e size n (cur.take (n*size)):=
 ⟨by rw[y0c,j];exact y0A (y0Y _ c),.inr ⟨g,cap,cur.toArray,O,y02 _,h,c,l,by simpa using j,ξ⟩⟩
theorem YE.cell {w:World}{g i:Nat}{cur:List Value}{e:TypeId}(h:YE w g cur e):w.cell? ⟨g,i,none⟩=cur[i]? :=h.S4.cell i
theorem YE.rd {g n c:Nat}{e:TypeId}(h:YE w g cur e)(o:i+n<=cur.length):Rd w (.slice (some ⟨g,i,none⟩) n c) 1 n ((cur.drop i).take n):=by
 refine⟨by simp;omega,.inr ⟨g,i,c,rfl,λj u l=>?_⟩⟩
 rw[h.cell]
 rw[y1K] at l
 split at l
 ·rwa [y1J] at l
 ·cases l
def Zo {a:Option Addr}{c:Nat}:Rd w (.slice a 0 c) 1 0 []:=⟨rfl,.inl ⟨(a,c),rfl,rfl⟩⟩
theorem Rd.kpz {S:Nat->Prop}{v:Value}{size n:Nat}(h:Rd w v size n cs)(k:Kp S w w')(r:0<n->∀g,v.ownBlock=some g->¬S g):Rd w' v size n cs:=by
 rcases y0D n with c|c
 ·subst c;refine⟨h.1,?_⟩;have q:cs=[]:=y0x (by have:=h.1;omega);rcases h.2 with o|⟨b,off,cap,e,-⟩
  ·exact .inl o
  ·exact .inr ⟨b,off,cap,e,λj u l=>by rw[q] at l;simp at l⟩
 ·exact h.kp k (r c)
theorem Rd.ltz {v:Value}{size n g:Nat}(h:Rd w v size n cs)(r:0<size)(q:0<n)(hg:v.ownBlock=some g):g<w.heap.size:=by
 rcases h.2 with⟨c,-,s⟩|⟨b,off,cap,e,l⟩
 ·omega
 ·rw[e] at hg;have j:b=g:=UC hg;subst j;have o:0<cs.length:=by rw[h.1];exact Nat.mul_pos q r
  exact World.block_lt_of_cell? w _ (l 0 cs[0] (y04 o))
theorem zbx (cs:List Value)(i:Nat):Ul cs i []=cs:=by simp[Ul]
theorem z5v (cs vs:List Value)(i:Nat)(h:i+vs.length<=cs.length):(Ul cs i vs).length=cs.length:=by simp[Ul];omega
theorem z5m (cs vs:List Value)(i j:Nat)(h:i+vs.length<=cs.length):(Ul cs i vs)[j]? =if i<=j/\j<i+vs.length then vs[j-i]? else cs[j]? :=by
 unfold Ul
 rw[y06]
 by_cases c:j<i
 ·rw[y0I (by simp;omega),y1K,if_pos c,if_neg ω]
 ·rw[y10 (by simp;omega)];have e:(cs.take i).length=i:=by simp;omega
  rw[e];by_cases l:j<i+vs.length
  ·rw[y0I ω,if_pos ⟨ω,l⟩]
  ·rw[y10 ω,y1J,if_neg ω]
   congr 1;omega
def Yh {P:Program}{b:Nat}{T:TypeId}(o:Nat):∀(vs:List Value)(i:Nat) (cs:List Value) (w:World),YE w b cs T->o+i+vs.length<=cs.length->(∀v∈vs,v.oneCell'=true)->
  ∃w',(storeCells ⟨b,o,none⟩ vs i).run P w= .ok () w'/\YE w' b (Ul cs (o+i) vs) T/\Kp (λk=>k=b) w w'
 |[],i,cs,w,hB,_,_=>⟨w,rfl,by simpa[Ul] using hB,Kp.refl _ _⟩
 | v :: r, i, cs, w, hB, hl, h1 => by
   simp only[y03] at hl;have c:o+i<cs.length:=ω
   have l:w.cell? ⟨b,o+i,none⟩=some cs[o+i]:=by rw[hB.cell];simp[c]
   have q:=hB.S4.free c;obtain⟨w',hr,B,s⟩:=Yh (P:=P) o r (i+1) (cs.set (o+i) v) _ (hB.set (o+i) v) (by simp;omega) (λu A=>h1 u (y0u _ A));refine⟨w',?_,?_,(Xo w b (o+i) v).trans s⟩
   ·simp only[storeCells,y09,UG,run_store P w _ v _ (h1 v (y0s ..)),l,q]
    simpa using hr
   ·have n:Ul (cs.set (o+i) v) (o+(i+1)) r=Ul cs (o+i) (v::r):=by
     apply y1f;intro j;rw[z5m _ _ _ _ (by simp;omega),z5m _ _ _ _ (by simp;omega)];simp only[y03];by_cases h:o+i=j
     ·subst h;rw[if_neg ω,if_pos ω];simp[c]
     ·by_cases E:o+i<j/\j<o+i+1+r.length
      ·rw[if_pos ω,if_pos ω,show j-(o+i)=(j-(o+(i+1)))+1 by omega];simp
      ·rw[if_neg ω,if_neg ω,y0M h]
    rw[<-n];exact B
section
variable {e:Env}{d:Option Nat}{pos:String}{x u u2:Operand}
def z1P {size n:Nat}{a:Option Addr}[uZ:WX za i](ht:P.underlying t=some (.slice el))(o:TI P el z size bytes)(q:look e x=some (.slice a n cap))
  (r:look e y=some (.int k za)) (h:i<=n) (s:n<=cap):
  Y P e ⟨d,.slice t x (some y) none none,ty,pos,aft,g⟩ (.slice (if cap=i then a else a.map (·.add (i*size))) (n-i) (cap-i)) w w:=fun ρ c=>by
 obtain⟨rfl⟩:=uZ
 have j:=o.size (w:=w)
 have l:∀w,(Instr.sliceBound (.int k (i:Int)) n .sliceB).run P w= .ok i w:=λw=>by rw[run_sliceBound _ _ _ _ _ ω ω];simp
 simp[execOp,c _ _ q,c _ _ r,Instr.sliceAt,run_underlying ht,Instr.slice,Instr.sliceBounds,l,j]
def zp8 {size n j:Nat}{a:Option Addr}{k' l:IntKind}{zb o:Int}[uZ:WX za i][zC:WX zb j][cb:WX o m](ht:P.underlying t=some (.slice el))(A:TI P el z size bytes)(E:look e x=some (.slice a n cap))
  (G:look e y=some (.int k za)) (B:look e u=some (.int k' zb)) (H:look e u2=some (.int l o)) (h:i<=j/\j<=m/\m<=cap):
  Y P e ⟨d,.slice t x (some y) (some u) (some u2),ty,pos,aft,g⟩ (.slice (if m=i then a else a.map (·.add (i*size))) (j-i) (m-i)) w w:=fun ρ c=>by
 obtain⟨rfl⟩:=uZ
 obtain⟨rfl⟩:=zC
 obtain⟨rfl⟩:=cb
 have q:=A.size (w:=w)
 have r:∀w,(Instr.sliceBound (.int l (m:Int)) cap .slice3Acap).run P w= .ok m w:=λw=>by rw[run_sliceBound _ _ _ _ _ ω ω];simp
 have s:∀w,(Instr.sliceBound (.int k' (j:Int)) m .slice3B).run P w= .ok j w:=λw=>by rw[run_sliceBound _ _ _ _ _ ω ω];simp
 have v:∀w,(Instr.sliceBound (.int k (i:Int)) j .slice3C).run P w= .ok i w:=λw=>by rw[run_sliceBound _ _ _ _ _ ω ω];simp
 simp[execOp,c _ _ E,c _ _ G,c _ _ B,c _ _ H,Instr.sliceAt,run_underlying ht,Instr.slice,Instr.sliceBounds,r,s,v,q]
theorem z1q (z:Value)(n:Nat)(h:oneV z=true):(Builtin.zeroCells z.cells n).toList=List.replicate n z:=by
 rw[ZT h]
 apply y25
 ·simp[Builtin.zeroCells]
 ·intro i c j;simp[Builtin.zeroCells,y2T]
def zop {b n:Nat}(ht:P.underlying t=some (.slice el))(s:TI P el z 1 bytes)(l:oneV z=true)(j:look e x=some (.slice (some ⟨b,i,none⟩) n cap))
  (hB:YE w b cs T) (hi:i+n<=cs.length):
  Yp P e ⟨d,.call ⟨.builtin .clear,#[x],#[t]⟩,ty,pos,aft,g⟩ w λv w'=>YE w' b (Ul cs i (List.replicate n z)) T/\Kp (λk=>k=b) w w':=by
 obtain⟨w',hr,B,r⟩:=Yh (P:=P) i (List.replicate n z) 0 cs w hB (by simp;omega) (λu A=>by rw[(List.mem_replicate.1 A).2];exact z2y l)
 rcases y0D n with h|h
 ·subst h;refine⟨.tuple #[],w,fun ρ c=>?_,by simpa[zbx] using hB,Kp.refl _ _⟩;simp[execOp,resolve,invoke,builtin,c _ _ j,Builtin.clear_,run_underlying ht,go_sem]
 ·refine⟨.tuple #[],w',fun ρ c=>?_,by simpa using B,r⟩;have o:=s.zero (w:=w);obtain⟨k,rfl⟩:∃k,n=k+1:=⟨n-1,ω⟩
  have q:(Builtin.clear_ #[t] ty #[.slice (some ⟨b,i,none⟩) (k+1) cap]).run P w= .ok (.tuple #[]) w':=by
   unfold Builtin.clear_;simp only[y2a,y1C,pure_bind,y09,run_underlying ht,Result.andThen,o,z1q z _ l,hr,y05]
  simp[execOp,resolve,invoke,builtin,c _ _ j,q]
theorem zog {u:Value}{size n:Nat}{news:List Value}(ht:P.underlying t=some (.slice el))(J:TI P el z size bytes)(Q:0<size)
  (r:look e x=some (.slice (some ⟨gb,0,none⟩) n cap)) (s:look e y=some u) (q:Sl w (.slice (some ⟨gb,0,none⟩) n cap) el size n cs) (l:Rd w u size m news) (H:∀c∈news,c.oneCell'=true) (hr:n+m<=cap):
  Yp P e ⟨d,.call ⟨.builtin .append,#[x,y],#[t,t]⟩,ty,pos,aft,g⟩ w λv' w'=>v'= .slice (some ⟨gb,0,none⟩) (n+m) cap/\Sl w' v' el size (n+m) (cs++news)/\Kp (λk=>k=gb) w w':=by
 obtain⟨i,hi,R,L,S⟩:=J
 subst L
 rcases l.2 with⟨⟨ca,c⟩,rfl,rfl⟩|⟨b,off,h,rfl,M⟩
 ·have G:news=[]:=y0x (by simpa using l.1);subst G
  have hr:(Builtin.append_ #[t,t] ty #[.slice (some ⟨gb,0,none⟩) n cap,.slice ca 0 c]).run P w= .ok (.slice (some ⟨gb,0,none⟩) n cap) w:=by
   have v:n<=cap:=ω
   cases ca
   ·simp[Builtin.append_,run_underlying ht,sizeOf,typeInfo,hi,Builtin.lenOf,Builtin.firstCells,v,storeCells]
   ·simp[Builtin.append_,run_underlying ht,sizeOf,typeInfo,hi,Builtin.lenOf,Builtin.firstCells,v,storeCells,loadCells,loadCellsFrom]
  refine⟨_,w,fun ρ o=>?_,rfl,by simpa using q,Kp.refl _ _⟩;simp[execOp,resolve,invoke,builtin,o _ _ r,o _ _ s,hr]
 ·have N:∀j u,news[j]? =some u->w.cell? ((⟨b,off,none⟩:Addr).add j)=some u:=λj u l=>by rw[UG];exact M j u l
  obtain⟨w',B,A,E⟩:=run_append_fits (P:=P) w 0 t ty el i i.size ht hi O gb n cap cs q ⟨b,off,none⟩ m h news l.1 N H hr;refine⟨_,w',fun ρ o=>?_,rfl,A,(Kp.Yt E).Se λk I=>(UC I).symm⟩;simp[execOp,resolve,invoke,builtin,o _ _ r,o _ _ s,B]
end
abbrev Sa:=List UInt8
abbrev lt (a b:Sa):Bool:=Op.bytesLess a b
section
end
def pos (l:List Sa)(t:Sa):Nat:=(l.takeWhile (λk=>lt k t)).length
theorem z5c (cs vs:List Value)(i m:Nat)(h:m<=i)(c:i<=cs.length):(Ul cs i vs).take m=cs.take m:=by
 unfold Ul
 rw[y06,y1v (by simp;omega),y1n,y0A h]
theorem zeM {j:Value}{n:Nat}(r:Sl w j 3 1 n cs)(W:∀c∈cs,c.oneCell'=true)(hi:i<n)(f:n<=8589934592):
  SG prog 207 [j,I (i:Int),I ((i:Int)+1)] w λv w'=>Sl w' v 3 1 (n-1) (cs.take i++cs.drop (i+1))/\Kp (λk=>j.ownBlock=some k) w w'/\(∀g,v.ownBlock=some g->j.ownBlock=some g):=by
 have b:maxLen=9223372036854775807:=rfl
 have N:=r.len
 rw[y0j] at N
 obtain⟨g,cap,rfl,A⟩:∃g cap,j= .slice (some ⟨g,0,none⟩) n cap/\n<=cap:=by
  rcases r.shape with⟨e,d⟩|⟨g,cap,e,h⟩
  ·omega
  ·exact⟨g,cap,e,h⟩
 obtain⟨cur,B,-,E,x,o⟩:=r.row
 rw[y0j] at x o
 rw[show(i:Int)+1=((i+1:Nat):Int) by omega]
 refine py (e:=[(0,_),(1,_),(2,_)]) func207 O ntmps207 O O<|qN O<|Up O<|Sz O<|Sz O<|UR Tx O<|qV (zp8 Tx T8 O O O O ⟨ω,ω,A⟩) ?_
 refine S5<|It<|TV O<|U7 O<|T0<|Tt O<|SE O<|UR Tx O<|Sq O<|It<|Ux (λw'=>Kp (λk=>k=g) w w') O ?_
 have d:=Ext.Sv w
 refine St 0 O O ((Ext.Sv w).kp)<|St 1 O O ((Ext.Sv w).kp)<|St 3 O O ((Ext.Sv w).kp)<|St 4 O O ((Ext.Sv w).kp)<|S8 2 O (zcq Tx T8 O O ω) ((Ext.Sv w).kp)<|S8 5 O (z1P Tx T8 O O ω A) ((Ext.Sv w).kp) ?_
 have R:Sl w (.slice (some ⟨g,0,none⟩) i cap) 3 1 i (cs.take i):=by
  have:=B.sl (n:=i) ω E (by rw[y0j];exact x);rw[y0j,show cur.take i=cs.take i by rw[<-o,y1n,y0A ω]] at this;exact this
 have L:(cur.drop (i+1)).take (n-(i+1))=cs.drop (i+1):=by
  rw[<-o,y1u]
 have U:Rd w.drew (.slice (if cap=i+1 then some ⟨g,0,none⟩ else(some (⟨g,0,none⟩:Addr)).map (·.add ((i+1)*1))) (n-(i+1)) (cap-(i+1))) 1 (n-(i+1)) (cs.drop (i+1)):=by
  by_cases l:cap=i+1
  ·rw[if_pos l,show n-(i+1)=0 by omega,List.drop_eq_nil_of_le ω];exact Zo
  ·rw[if_neg l,Option.map_some,UG,y0g,y0j,<-L];exact(B.ext d).rd ω
 refine qO 6<|z1Y (i:=6) O O O (zog Tx T8 ψ O O (R.ext d) U (λc l=>W c (y1T l)) ω) ?_
 rintro _ w1⟨rfl,u,q⟩
 refine⟨d.kp.trans q,?_⟩
 have S:i+(n-(i+1))=n-1:=ω
 rw[S] at u⊢
 obtain⟨s,X,Z,a,H,J⟩:=u.row
 rw[y0j] at H J
 refine S8 7 O (UU O) (d.kp.trans q)<|qE<|TV O<|UR Tx O<|Sf O<|qV (zjq Tx T8 O O O ω ω)<|zfP O (zop Tx T8 O O X ω) ?_
 rintro _ w2⟨Y,M⟩
 refine S5<|SI.qb (e:=[(0,_),(6,_)]) ?_
 refine SE O<|Sq O<|S3 func207 O ?_
 have G:=Y.sl (n:=n-1) (cap:=cap) ω E (by rw[z5v _ _ _ (by simp;omega),H,y0j])
 rw[y0j,z5c _ _ _ _ ω ω,J] at G
 exact⟨_,O,G,((d.kp.trans q).trans M).Se (λk V=>by subst V;rfl),λg' Q=>Q⟩
open Go.ChangeMaps (setBlock)
def Wk {κ:Type}(K:κ->Value)(w:World)(m:Nat)(kv:List (κ×Value)):Prop:=(∃h c,w.heap[m]? =some (.map h c)/\XZ K h.toList kv/\(∀e∈h.toList,e.born<c)/\(h.toList.map (·.born)).Nodup)/\(kv.map (·.1)).Nodup
section
variable {κ:Type}[DecidableEq κ]{K:κ->Value}
theorem Wk.l {kv:List (κ×Value)}(h:Wk K w m kv):z0g K w m kv:=by
 obtain⟨⟨j,c,n,o,-,-⟩,q⟩:=h
 exact⟨⟨j,c,n,o⟩,q⟩
def Wk.lt {kv:List (κ×Value)}(h:Wk K w m kv):m<w.heap.size:=h.l.lt
theorem Wk.nd {kv:List (κ×Value)}(h:Wk K w m kv):(kv.map (·.1)).Nodup:=h.2
def Wk.kp {S:Nat->Prop}{kv:List (κ×Value)}(h:Wk K w m kv)(k:Kp S w w')(o:¬S m):Wk K w' m kv:=by
 obtain⟨⟨j,c,h,n⟩,l⟩:=h
 exact⟨⟨j,c,k.heap h o,n⟩,l⟩
theorem Wk.ext {kv:List (κ×Value)}(h:Wk K w m kv)(k:Ext w w'):Wk K w' m kv:=h.kp k id
def Wk.new (h:w.heap[m]? =some (.map #[] 0)):Wk K w m []:=⟨⟨#[],0,h,rfl,ξ,ξ⟩,ξ⟩
def delL:List (κ×Value)->κ->List (κ×Value)
 |[],_=>[]
 |(a,v)::r,k=>if k=a then r else(a,v)::delL r k
def z8G:∀(kv:List (κ×Value)) (k:κ),(delL kv k).Sublist kv
 |[],_=> .slnil
 | (a, v) :: r, k => by
   simp only[delL];split
   ·exact y2g _ _
   ·exact(z8G r k).cons_cons _
theorem z6h {kv:List (κ×Value)}{k:κ}(h:k∉kv.map (·.1)):UM kv k=none:=by
 induction kv with
 |nil=>rfl
 | cons p r c =>
   obtain⟨a,u⟩:=p;simp only[y0o,y0m,not_or] at h;simp only[UM,h.1,if_false];exact c h.2
theorem zkF {kv:List (κ×Value)}(j:(kv.map (·.1)).Nodup)(k x:κ):UM (delL kv k) x=if x=k then none else UM kv x:=by
 induction kv with
 |nil=>simp[delL,UM]
 | cons p r l =>
   obtain⟨a,u⟩:=p;simp only[y0o,y19] at j;simp only[delL];by_cases h:k=a
   ·subst h;simp only[if_true,UM];by_cases c:x=k
    ·subst c;simp[z6h j.1]
    ·simp[c]
   ·simp only[h,if_false,UM,l j.2];by_cases c:x=a
    ·subst c;simp[Ne.symm h]
    ·simp[c]
theorem z8f {kv:List (κ×Value)}(c:(kv.map (·.1)).Nodup){k:κ}{v:Value}(h:(k,v)∈kv):UM kv k=some v:=by
 induction kv with
 |nil=>cases h
 | cons p r j =>
   obtain⟨a,u⟩:=p;simp only[y0o,y19] at c;rcases y0m.1 h with e| h
   ·cases e;simp[UM]
   ·have:k≠a:=λe=>c.1 (y0k.2 ⟨(k,v),h,e⟩);simp only[UM,this,if_false];exact j c.2 h
def z3A {o:TypeDesc}(l:∀a b,Instr.sameNow o (K a) (K b)=some (decide (a=b))):∀{c:List MapEntry} {kv:List (κ×Value)} (i:Nat) {k:κ} {v:Value},XZ K c kv->UM kv k=some v->
  ∃j,Instr.findNow o (K k) c i=some (some (i+j,v))/\j<c.length/\XZ K (c.eraseIdx j) (delL kv k)
 | e :: c, (a, v') :: kv, i, k, v, h, hg => by
   simp only[XZ,y0o,y2p,y29] at h;simp only[UM] at hg;split at hg
   ·rename_i s
    subst s;cases hg;refine⟨0,by simp[Instr.findNow,h.1.1,l,h.1.2],ξ,?_⟩;simp only[List.eraseIdx_zero,List.tail_cons,delL,if_true];exact h.2
   ·rename_i n
    obtain⟨j,q,A,r⟩:=z3A l (i+1) h.2 hg;refine⟨j+1,?_,by simp;omega,?_⟩
    ·simp only[Instr.findNow,h.1.1,l,n,decide_false,q]
     congr 3;omega
    ·simp only[delL,n,if_false,List.eraseIdx_cons_succ,XZ,y0o,y2p,y29]
     exact⟨h.1,r⟩
 |[],[],_,_,_,_,hg=>by simp[UM] at hg
 |[],_::_,_,_,_,h,_=>by simp[XZ] at h
 |_::_,[],_,_,_,h,_=>by simp[XZ] at h
variable {e:Env}{d:Option Nat}{pos:String}{x u:Operand}{kv:List (κ×Value)}{size:Nat}{k:κ}{v:Value}
theorem zkP (ht:P.underlying t=some (.map kt el))(q:look e x=some (.map (some m)))(o:z0g K w m kv):Y P e ⟨d,.call ⟨.builtin .len,#[x],#[t]⟩,ty,pos,aft,g⟩ (I (kv.length:Int)) w w:=fun ρ r=>by
 obtain⟨⟨h,c,l,j⟩,-⟩:=o
 have n:h.size=kv.length:=by
  have:=congrArg List.length j
  simpa using this
 have hg:(getObj m).run P w= .ok (.map h c) w:=by simp[getObj,Sem.run,l]
 simp[execOp,resolve,invoke,builtin,r _ _ q,Builtin.len_,run_underlying ht,hg,goInt,n,go_sem,Result.andThen]
theorem zkj (ht:P.underlying t=some (.map kt el))(s:Ky P kt K)(h:look e x=some (.map (some m)))(A:look e y=some (K k))(S:look e u=some v)(R:Wk K w m kv):
  Zp P e ⟨d,.mapUpdate t x y u,ty,pos,aft,g⟩ w λw'=>Wk K w' m (putL kv k v)/\Kp (λi=>i=m) w w':=by
 have J:=R.lt
 obtain⟨⟨l,c,Q,G,B,L⟩,N⟩:=R
 have W:=λb=>s.same.choose_spec.2.2 w b 9999 k
 have hg:(getObj m).run P w= .ok (.map l c) w:=by simp[getObj,Sem.run,Q]
 have U:∀o,(setObj m o).run P w= .ok () (w.putObj m o):=λo=>by simp[setObj,Sem.run,Q,World.putObj]
 cases q:UM kv k with
 | none =>
   have H:=XR (P:=P) (w:=w) s G q;refine⟨w.putObj m (.map (l.push {key:=K k,val:=v,born:=c}) (c+1)),fun ρ n=>?_,⟨⟨_,_,y21 J,?_,?_,?_⟩,?_⟩,U1 w m _⟩
   ·simp[execOp,n _ _ h,n _ _ A,n _ _ S,Instr.mapUpdate,run_underlying ht,hg,W,H,U]
   ·rw[Yq _ _ _ q]
    simpa[XZ] using G
   ·intro x h;simp at h;rcases h with h|rfl
    ·have:=B x (by simpa using h);omega
    ·simp
   ·simp only[Array.toList_push,y0f,y0o,y1y];refine y0N.2 ⟨L,ξ,λa E b r I=>?_⟩;simp at r;subst r;subst I;obtain⟨x,h,C⟩:=y0k.1 E;have:=B x h;omega
   ·rw[Yq _ _ _ q,y0f,y0N];refine⟨N,ξ,λa E b r I=>?_⟩;simp at r;subst r;subst I
    exact z4K q E
 | some z =>
   obtain⟨j,H,⟨p,Z,X⟩,f⟩:=XQ (P:=P) (w:=w) s G q
   have V:(l.modify j λe=>{e with key:=K k,val:=v}).toList.map (·.born)=l.toList.map (·.born):=by
    apply y1f;intro i;simp only[Array.toList_modify,y0l,List.getElem?_modify];by_cases M:j=i
    ·subst M;simp;cases l[j]?<;>rfl
    ·simp[M]
   refine⟨w.putObj m (.map (l.modify j λe=>{e with key:=K k,val:=v}) c),fun ρ n=>?_,⟨⟨_,_,y21 J,f v,?_,?_⟩,?_⟩,U1 w m _⟩
   ·simp[execOp,n _ _ h,n _ _ A,n _ _ S,Instr.mapUpdate,run_underlying ht,hg,W,H,U,Z,X,Instr.keyThatStays,s.bits]
   ·intro x h;have:x.born∈l.toList.map (·.born):=by rw[<-V];exact y0k.2 ⟨x,h,O⟩
    obtain⟨y,A,Y⟩:=y0k.1 this;rw[<-Y];exact B y A
   ·rw[V];exact L
   ·rw[z6s _ _ _ (by rw[q];rfl)];exact N
theorem zjS (ht:P.underlying t=some (.map kt el))(f:Ky P kt K)(s:look e x=some (.map (some m)))(R:look e y=some (K k))(N:Wk K w m kv)(U:ts[0]? =some t):
  Yp P e ⟨d,.call ⟨.builtin .delete,#[x,y],ts⟩,ty,pos,aft,g⟩ w λv' w'=>Wk K w' m (delL kv k)/\Kp (λi=>i=m) w w':=by
 have H:=N.lt
 obtain⟨⟨h,c,G,q,J,I⟩,B⟩:=N
 obtain⟨⟨F,Q,O,Y⟩,-⟩:=f
 have W:=λb=>Y w b 9999 k
 have hg:(getObj m).run P w= .ok (.map h c) w:=by simp[getObj,Sem.run,G]
 have S:∀o,(setObj m o).run P w= .ok () (w.putObj m o):=λo=>by simp[setObj,Sem.run,G,World.putObj]
 have L:=(z8G kv k).map (·.1)
 cases l:UM kv k with
 | none =>
   have E:(Instr.findKey kt (K k) h.toList).run P w= .ok none w:=by simp[Instr.findKey,run_underlying Q,ZD O 0 q l]
   have V:delL kv k=kv:=by
    clear q G B L
    induction kv with
    |nil=>rfl
    | cons p r z =>
      obtain⟨a,u⟩:=p;simp only[UM] at l;split at l
      ·cases l
      ·rename_i Z;simp only[delL,Z,if_false,z l]
   refine⟨.tuple #[],w.putObj m (.map h c),fun ρ n=>?_,⟨⟨h,c,y21 H,by rw[V];exact q,J,I⟩,by rw[V];exact B⟩,U1 w m _⟩
   simp[execOp,resolve,invoke,builtin,n _ _ s,n _ _ R,Builtin.delete_,U,run_underlying ht,hg,W,E,S,Result.andThen]
 | some D =>
   obtain⟨j,X,M,C⟩:=z3A O 0 q l
   have E:(Instr.findKey kt (K k) h.toList).run P w= .ok (some (j,D)) w:=by
    rw[y0g] at X;simp[Instr.findKey,run_underlying Q,X]
   have A:(h.eraseIdxIfInBounds j).toList=h.toList.eraseIdx j:=by
    simp at M;simp[Array.eraseIdxIfInBounds,M]
   refine⟨.tuple #[],w.putObj m (.map (h.eraseIdxIfInBounds j) c),fun ρ n=>?_,⟨⟨_,c,y21 H,by rw[A];exact C,?_,?_⟩,L.nodup B⟩,U1 w m _⟩
   ·simp[execOp,resolve,invoke,builtin,n _ _ s,n _ _ R,Builtin.delete_,U,run_underlying ht,hg,W,E,S,Result.andThen]
   ·rw[A];exact λx s=>J x ((List.eraseIdx_sublist _ _).subset s)
   ·rw[A];exact((List.eraseIdx_sublist _ _).map _).nodup I
end
def SJ:Nat->Nat->List Bool
 |0,_=>[]
 |n+1,v=>v.testBit n::SJ n v
def T2:List Bool->Nat
 |[]=>0
 |b::l=>b.toNat*2^l.length+T2 l
@[simp] theorem bitsN_length:∀(n v:Nat),(SJ n v).length=n
 |0,_=>rfl
 |n+1,v=>by simp[SJ,bitsN_length n v]
theorem Uy:∀(l:List Bool),T2 l<2^l.length
 |[]=>by simp[T2]
 | b :: l => by
   have:=Uy l;simp only[T2,y03,y1R];have:b.toNat<=1:=by cases b<;>simp
   have:b.toNat*2^l.length<=1*2^l.length:=y0Y _ this;omega
theorem Vq:∀(a b:List Bool),T2 (a++b)=T2 a*2^b.length+T2 b
 |[],b=>by simp[T2]
 | x :: a, b => by
   rw[y0t,T2,Vq a b,T2,y01,y0P,y0r,y23];omega
theorem Vv:∀(m n v:Nat),SJ (m+n) v=SJ m (v / 2^n)++SJ n v
 |0,n,v=>by simp[SJ]
 | m + 1, n, v => by
   rw[show m+1+n=(m+n)+1 by omega,SJ,SJ,y0t,Vv m n v,Nat.testBit_div_two_pow]
theorem TD:∀(n v:Nat),T2 (SJ n v)=v%2^n
 |0,v=>by simp[SJ,T2,y2T]
 | n + 1, v => by
   rw[SJ,T2,bitsN_length,TD n v,y1R,Nat.mod_mul,Nat.testBit_eq_decide_div_mod_eq];rcases y20 (v / 2^n) with e|e<;>simp[e]<;>omega
theorem z0B:∀{n v u:Nat},v%2^n=u%2^n->SJ n v=SJ n u
 |0,_,_,_=>rfl
 | n + 1, v, u, h => by
   have e:v.testBit n=u.testBit n:=by
    have c:(v%2^(n+1)).testBit n=v.testBit n:=by rw[Nat.testBit_mod_two_pow];simp
    have d:(u%2^(n+1)).testBit n=u.testBit n:=by rw[Nat.testBit_mod_two_pow];simp
    rw[<-c,<-d,h]
   have j:v%2^n=u%2^n:=by
    have c:v%2^(n+1)%2^n=v%2^n:=Nat.mod_mod_of_dvd _ (Nat.pow_dvd_pow 2 (Nat.le_succ n));have d:u%2^(n+1)%2^n=u%2^n:=Nat.mod_mod_of_dvd _ (Nat.pow_dvd_pow 2 (Nat.le_succ n));rw[<-c,<-d,h]
   rw[SJ,SJ,e,z0B j]
theorem z2u:∀{a b:List Bool},a.length=b.length->T2 a=T2 b->a=b
 |[],[],_,_=>rfl
 | x :: a, y :: b, hl, hv => by
   have c:a.length=b.length:=by simpa using hl
   have d:=Uy a;have h:=Uy b;rw[T2,T2,c] at hv;rw[c] at d
   have e:x=y:=by
    cases x<;>cases y<;>simp at hv⊢<;>omega
   subst e;rw[z2u c ω]
def z54 (l:List Bool):SJ l.length (T2 l)=l:=z2u ξ (by rw[TD,y0e (Uy l)])
/-! ### Bytes -/
def SA (s:Sa):List Bool:=s.flatMap λc=>SJ 8 c.toNat
@[simp] theorem bitsT_length (s:Sa):(SA s).length=8*s.length:=by
 induction s with
 |nil=>rfl
 |cons c s ih=>simp[SA] at ih⊢;omega
theorem z1R (a b:Sa):SA (a++b)=SA a++SA b:=by simp[SA]
def ZV (d:List Bool):UInt8:=UInt8.ofNat (T2 d*2^(8-d.length))
def SM (l:List Bool):Sa:=(List.range ((l.length+7) / 8)).map λi=>ZV ((l.drop (8*i)).take 8)
theorem T3 (l:List Bool):(SM l).length=(l.length+7) / 8:=by simp[SM]
theorem z1z {c d:List Bool}(l:c.length%8=0)(j:1<=d.length)(e:d.length<=8):SM (c++d)=SM c++[ZV d]:=by
 obtain⟨m,h⟩:∃m,c.length=8*m:=⟨c.length / 8,ω⟩
 unfold SM
 rw[y01,show(c.length+d.length+7) / 8=m+1 by omega,show(c.length+7) / 8=m by omega,y0T,y0f]
 congr 1
 ·apply y0O;intro i hi;rw[y0R] at hi;rw[y1j ω,y1v (by rw[y08];omega)]
 ·simp only[y0o,y1y];rw[<-h,y34,y0B e]
def ze5 {d e:List Bool}(h:d.length+e.length<=8):(ZV (d++e)).toNat=(ZV d).toNat |||(T2 e*2^(8-d.length-e.length)):=by
 have s:=Uy d
 have n:=Uy e
 have c:∀(x:List Bool),x.length<=8->T2 x*2^(8-x.length)<256:=λx u=>by
  have o:=Uy x;have:T2 x*2^(8-x.length)<2^x.length*2^(8-x.length):=y2M o (y0z _);rw[<-y0P,show x.length+(8-x.length)=8 by omega] at this;exact this
 have j:(ZV (d++e)).toNat=T2 (d++e)*2^(8-(d++e).length):=by
  unfold ZV;rw[y3d];exact y0e (c _ (by rw[y01];omega))
 have l:(ZV d).toNat=T2 d*2^(8-d.length):=by
  unfold ZV;rw[y3d];exact y0e (c _ ω)
 rw[j,l,Vq,y01,y0r]
 have q:T2 d*2^e.length*2^(8-(d.length+e.length))=2^(8-d.length)*T2 d:=by
  rw[y23,<-y0P,show e.length+(8-(d.length+e.length))=8-d.length by omega,y0H]
 have r:T2 e*2^(8-(d.length+e.length))<2^(8-d.length):=by
  have:T2 e*2^(8-(d.length+e.length))<2^e.length*2^(8-(d.length+e.length)):=y2M n (y0z _);rw[<-y0P,show e.length+(8-(d.length+e.length))=8-d.length by omega] at this;exact this
 rw[q,y28 r,y0H (2^(8-d.length)),show 8-d.length-e.length=8-(d.length+e.length) by omega]
theorem zeh:ZV []=0:=ψ
theorem VV (l:List Bool):∃z,SA (SM l)=l++List.replicate z false/\(l.length+z)%8=0/\z<8:=by
 have key:∀(m:Nat)(l:List Bool),l.length<=8*m->∃z,SA (SM l)=l++List.replicate z false/\(l.length+z)%8=0/\z<8:=by
  intro m
  induction m with
  | zero =>
    intro l h;have:l=[]:=y0x ω;subst this
    exact⟨0,O,O,ω⟩
  | succ m j =>
    intro l h;by_cases o:l=[]
    ·subst o;exact⟨0,O,O,ω⟩
    ·have q:1<=l.length:=by
      cases l with
      |nil=>exact absurd O o
      |cons a r=>simp
     obtain⟨c,d,rfl,A,u,x⟩:∃c d,l=c++d/\c.length%8=0/\1<=d.length/\d.length<=8:=by
      refine⟨l.take (8*((l.length-1) / 8)),l.drop (8*((l.length-1) / 8)),(y1c _ _).symm,?_,?_,?_⟩
      ·rw[y0c];omega
      ·rw[y08];omega
      ·rw[y08];omega
     rw[y01] at h;obtain⟨z,s,G,E⟩:=j c ω;have e:z=0:=ω
     subst e;simp at s;refine⟨8-d.length,?_,by rw[y01];omega,ω⟩;rw[z1z A u x,z1R,s,y06]
     congr 1
     simp only[SA,y0W,List.flatMap_nil,y0q]
     have B:T2 (d++List.replicate (8-d.length) false)=T2 d*2^(8-d.length):=by
      rw[Vq,y0b]
      have:∀n,T2 (List.replicate n false)=0:=λn=>by
       induction n with
       |zero=>rfl
       |succ n j=>rw[y17,T2,j];simp
      rw[this];rfl
     refine z2u (by simp;omega) ?_;rw[TD,B];have v:=Uy d
     have:T2 d*2^(8-d.length)<2^8:=by
      have:T2 d*2^(8-d.length)<2^d.length*2^(8-d.length):=y2M v (y0z _)
      rwa [<-y0P,show d.length+(8-d.length)=8 by omega] at this
     unfold ZV;rw[y3d];rw[Nat.mod_mod,y0e this]
 exact key l.length l ω
def z9H (c:Nat)(j:c<256)(room n:Nat)(hr:room<=8)(l:n<=room):T2 (((SJ 8 c).drop (8-room)).take n)=c%2^room / 2^(room-n):=by
 have d:SJ 8 c=SJ (8-room) (c / 2^room)++SJ room c:=by rw[<-Vv,show 8-room+room=8 by omega]
 have e:SJ room c=SJ n (c / 2^(room-n))++SJ (room-n) c:=by rw[<-Vv,show n+(room-n)=room by omega]
 rw[d,y11 ξ,e,y1a ξ,TD]
 have:c%2^room / 2^(room-n)=c / 2^(room-n)%2^n:=by
  have h:2^room=2^(room-n)*2^n:=by rw[<-y0P,show room-n+n=room by omega]
  rw[h,Nat.mod_mul_right_div_self]
 rw[this]
theorem Xs (c:UInt8)(s:Sa):SA (c::s)=SJ 8 c.toNat++SA s:=rfl
theorem Xr:∀(k:Nat)(s:Sa),SA (s.drop k)=(SA s).drop (8*k)
 |0,s=>ξ
 |k+1,[]=>by simp[SA]
 | k + 1, c :: s => by
   have e:(SJ 8 c.toNat++SA s).drop (8+8*k)=(SA s).drop (8*k):=by rw[<-y0G,y11 ξ]
   rw[y2j,Xr k s,Xs,show 8*(k+1)=8+8*k by omega,e]
theorem Yn:∀(k:Nat)(s:Sa),SA (s.take k)=(SA s).take (8*k)
 |0,s=>by simp[SA]
 |k+1,[]=>by simp[SA]
 | k + 1, c :: s => by
   have e:(SJ 8 c.toNat++SA s).take (8+8*k)=SJ 8 c.toNat++(SA s).take (8*k):=by
    have:=y3a (l₁:=SJ 8 c.toNat) (l₂:=SA s) (8*k)
    rwa [bitsN_length] at this
   rw[y3x,Xs,Yn k s,Xs,show 8*(k+1)=8+8*k by omega,e]
def zi3 {s:Sa}{c:UInt8}(h:s[i]? =some c):((SA s).drop (8*i)).take 8=SJ 8 c.toNat:=by
 rw[<-Xr]
 obtain⟨hi,e⟩:=y0p.1 h
 rw[y2k hi,e,show SA (c::s.drop (i+1))=SJ 8 c.toNat++SA (s.drop (i+1)) from rfl,y1a ξ]
def zbv {s:Sa}{d n:Nat}{c:UInt8}(h:s[d / 8]? =some c)(l:n<=8-d%8):T2 (((SA s).drop d).take n)=c.toNat%2^(8-d%8) / 2^(8-d%8-n):=by
 have e:=zi3 h
 have j:=z9H c.toNat (by have:=c.toNat_lt;omega) (8-d%8) n ω l
 rw[<-j,<-e]
 congr 1
 rw[y1u,y1n,y0G,show 8*(d / 8)+(8-(8-d%8))=d by omega]
 congr 1
 omega
def zaP {e:List Bool}(q:1<=e.length)(r:bs.length%8+e.length<=8):∃(c:Sa)(x y:UInt8),(if bs.length%8=0 then SM bs++[0] else SM bs)=c++[x]/\SM (bs++e)=c++[y]/\y.toNat=(x.toNat |||(T2 e*2^(8-bs.length%8-e.length))):=by
 obtain⟨c,d,h,j,o⟩:∃c d,bs=c++d/\c.length%8=0/\d.length=bs.length%8:=⟨bs.take (8*(bs.length / 8)),bs.drop (8*(bs.length / 8)),(y1c _ _).symm,by rw[y0c];omega,by rw[y08];omega⟩
 have n:=ze5 (d:=d) (e:=e) ω
 rw[<-o]
 refine⟨SM c,ZV d,ZV (d++e),?_,?_,n⟩
 ·by_cases l:d.length=0
  ·have:d=[]:=y0x l;subst this;rw[if_pos ξ,h,y0q,zeh]
  ·rw[if_neg ω,h,z1z j ω ω]
 ·rw[h,y06,z1z j (by rw[y01];omega) (by rw[y01];omega)]
abbrev Su (n:Nat):Value:= .int .u64 (n:Int)
theorem Wz {v:Value}{T s n}{j:List Value}(h:Sl w v T s n j):oneV v=true:=by
 rcases h.shape with⟨rfl,-⟩|⟨g,c,rfl,-⟩<;>rfl
section
variable {e:Env}{d:Option Nat}{pos:String}{x:Operand}{n:Nat}
def z0q (q:look e x=some (.int k (m:Int)))(r:look e y=some (.int k (n:Int)))(o:k.signed=false)(s:m<2^k.bits)(h:n<=m):Y P e ⟨d,.binOp .sub t x y t',ty,pos,aft,g⟩ (.int k ((m-n:Nat):Int)) w w:=fun ρ c=>by
 have j:(m:Int)-n=((m-n:Nat):Int):=ω
 have l:k.wrap ((m-n:Nat):Int)=((m-n:Nat):Int):=z4t o ω
 simp[execOp,go_sem,c _ _ q,c _ _ r,j,l]
def znS {c:Nat}(l:P.underlying t=some (.slice el))(j:P.underlying el=some (.int .u8))(h:P.underlying t'=some .string)(o:look e x=some (.slice none 0 c)):Y P e ⟨d,.convert t t' x,ty,pos,aft,g⟩ (S []) w w:=fun ρ q=>by
 have hr:(convert t t' (.slice none 0 c)).run P w= .ok (S []) w:=by
  rw[run_convert_bytes_string w t t' el none 0 c l j h];rfl
 simp only[execOp,q _ _ o,y09,hr,y0J,y05]
theorem ziL {n:Nat}{l:List UInt8}(o:P.underlying t=some (.slice el))(j:P.underlying el=some (.int .u8))(h:P.underlying t'=some .string)(q:look e x=some (.slice (some ⟨gb,0,none⟩) n cap))(c:Sl w (.slice (some ⟨gb,0,none⟩) n cap) el 1 n (l.map WD)):
  Y P e ⟨d,.convert t t' x,ty,pos,aft,g⟩ (S l) w w:=by
 obtain⟨cur,hr,-,-,-,ht⟩:=c.row
 refine zbn o j h q hr.S4 (by rw[y0V,<-ht,y0j]) ?_
 have:=c.len
 rw[y0h] at this
 omega
end
def TF {b n:Nat}{v:Value}(h:Rd w (.slice (some ⟨b,off,none⟩) n cap) 1 n vs)(o:vs[i]? =some v):w.cell? ⟨b,off+i*1,none⟩=some v:=by
 rcases h.2 with⟨c,l,s⟩|⟨r,q,j,e,l⟩
 ·have hi:=(y0p.1 o).1;have:=h.1;omega
 ·cases e;rw[y0j];exact l i v o
structure WrM (w:World)(p:Nat)(bv:Value)(bs:List Bool):Prop where
 S4:Sk w p [bv,I (bs.length:Int)] 283
 sl:Sl w bv 5 1 (SM bs).length ((SM bs).map WD)
 ne:bv.ownBlock≠some p
def fpW (p:Nat)(c:Value)(k:Nat):Prop:=k=p\/c.ownBlock=some k
def WrA (w:World)(p:Nat)(bs:List Bool)(F:Nat->Prop):Prop:=∃c,WrM w p c bs/\∀k,F k↔fpW p c k
def WrR (p:Nat)(F:Nat->Prop)(w w':World)(bs:List Bool):Prop:=∃c,WrA w' p bs c/\Kp F w w'/\∀k,c k->F k\/w.heap.size<=k
section
variable {p:Nat}{S:Nat->Prop}
def WrA.lt (h:WrA w p bs F){k:Nat}(l:F k):k<w.heap.size:=by
 obtain⟨o,c,j⟩:=h
 rcases (j k).1 l with e| e
 ·rw[e];exact c.S4.lt
 ·exact c.sl.lt e
theorem WrA.kp (h:WrA w p bs F)(k:Kp S w w')(l:∀i,F i->¬S i):WrA w' p bs F:=by
 obtain⟨o,j,c⟩:=h
 exact⟨o,⟨k.S4 j.S4 (l p ((c p).2 (.inl O))),j.sl.kp k (λg hg=>l g ((c g).2 (.inr hg))),j.ne⟩,c⟩
theorem WrA.ext (h:WrA w p bs F)(k:Ext w w'):WrA w' p bs F:=h.kp k.kp λ_ _=>id
end
section
variable {p:Nat}
theorem Yk (w:World):SG prog 130 [] w λv w'=>∃p F,v=ptr p 0/\WrA w' p [] F/\Ext w w'/\∀k,F k->w.heap.size<=k:=by
 refine py (e:=[]) func130 O ntmps130 O O<|qN O<|Up O<|qV (VI (cs:=[_,_]) zky O zmh O O)<|Sd O O (UD O O) ?_
 rintro _ w1⟨p,rfl,j,h,hB⟩
 refine Sq O<|S3 func130 O ?_
 exact⟨_,rfl,p,_,rfl,⟨_,⟨hB,Sl.nil _ _ _,by simp[Value.ownBlock]⟩,λ_=>y0U⟩,h,λk c=>by
  rcases c with e| e
  ·omega
  ·simp[Value.ownBlock] at e⟩
theorem zfp (h:WrA w p bs F)(v n:Nat)(hn:n<=64)(hv:v<2^n)(hl:bs.length+n<=1000000000):
  SG prog 168 [ptr p 0,Su v,I (n:Int)] w λu w'=>u= .tuple #[]/\WrR p F w w' (bs++SJ n v):=by
 obtain⟨bv,hM,hF⟩:=h
 have Ms:v<18446744073709551616:=by
  have:=y0v (show 0<2 by decide) hn;have e:(2:Nat)^64=18446744073709551616:=ψ
  omega
 have fI:maxLen=9223372036854775807:=rfl
 refine py (e:=[(0,_),(1,_),(2,_)]) func168 O ntmps168 O O<|S7<|UW (α:=Nat×Value×List Bool) (n,bv,bs) (λx=>[(0,ptr p 0),(1,Su v),(2,I (x.1:Int))]) (λx w'=>x.1<=n/\WrM w' p x.2.1 x.2.2/\x.2.2=bs++SJ (n-x.1) (v / 2^x.1)/\Kp F w w'/\(∀k,fpW p x.2.1 k->F k\/w.heap.size<=k)) (λx=>x.1) ?hI ?hround
 case hI=>exact⟨y07 _,hM,by rw[y1w];simp[SJ],Kp.refl _ _,λk a=> .inl ((hF k).2 a)⟩
 case hround =>
  rintro⟨k,J,b1⟩ w1 ⟨a,o,U,Q,A⟩ ih;dsimp only at a o U A;have E:=o.S4;have Mt:b1.length<=bs.length+n:=by rw[U,y01,bitsN_length];omega
  have ld:b1.length&&&7=b1.length%8:=y14 b1.length 3;have mV:=Q.size;have gS:=E.lt
  try dsimp only
  refine SX O<|Ub O<|S5<|So O (λaN=>?_)<|λaN=>?_
  ·have iU : 0 < k := by omega
   obtain⟨take,oN⟩:∃take,min k (8-b1.length%8)=take:=⟨_,O⟩;have vg:1<=take/\take<=k/\take<=8-b1.length%8:=ω
   obtain⟨e,Z⟩:∃e,SJ take (v / 2^(k-take))=e:=⟨_,O⟩;have b:e.length=take:=by rw[<-Z];simp
   have m:T2 e=v / 2^(k-take)%2^take:=by rw[<-Z,TD]
   obtain⟨c,x,y,W,hY,C⟩:=zaP (bs:=b1) (e:=e) ω ω;refine S6 (S7 (SX O (SC O (Sn z0H O (qV (Sc U3 O O E O) (qV (z1k O O ω ω) ?_))))));rw[ld];refine U7 O<|S5<|Tc (λK w'=>K=[(0,ptr p 0),(1,Su v),(2,I (k:Int))]/\∃l,Sk w' p [l,I (b1.length:Int)] 283/\Sl w' l 5 1 (c++[x]).length ((c++[x]).map WD)/\l.ownBlock≠some p/\Kp F w w'/\∀k,fpW p l k->F k\/w.heap.size<=k) ?oO<|λoO=>?oP
   case oO=>
    rintro K w2⟨rfl,l,Y,V,gT,am,qQ⟩
    obtain⟨M,c2,rfl,ff⟩:∃g cp,l= .slice (some ⟨g,0,none⟩) (c++[x]).length cp/\(c++[x]).length<=cp:=by
     rcases V.shape with⟨-,e⟩| h
     ·simp at e
     ·exact h
    have fd:(c++[x]).length=c.length+1:=ξ
    have Mu:p≠M:=λe=>gT (by rw[e];rfl);have kK:(SM (b1++e)).length=c.length+1:=by rw[hY];simp
    rw[T3,y01] at kK;obtain⟨T,s⟩:∃T,2^take=T:=⟨_,O⟩;obtain⟨D,hD⟩:∃D,2^(k-take)=D:=⟨_,O⟩;obtain⟨R,X⟩:∃R,2^(8-b1.length%8-take)=R:=⟨_,O⟩;rw[s,hD] at m;rw[b,X] at C
    have KC:1<=T/\T<=256:=by
     rw[<-s];exact⟨y0z _,by have:=y0v (show 0<2 by decide) (show take<=8 by omega);simpa using this⟩
    have jJ:(v / D)&&&(T-1)=v / D%T:=by rw[<-s];exact y14 _ _
    have QZ:v / D<=v:=y0S _ _;have Mv:v / D%T<T:=y13 _ ω
    have R0:T2 e*R<256:=by
     have h1:=Uy e;rw[b,s] at h1;have h2:T2 e*R<T*R:=y2M h1 (by rw[<-X];exact y0z _);have h3:T*R=2^(8-b1.length%8):=by rw[<-s,<-X,<-y0P,show take+(8-b1.length%8-take)=8-b1.length%8 by omega]
     have h4:=y0v (show 0<2 by decide) (show 8-b1.length%8<=8 by omega);have h5:(2:Nat)^8=256:=ψ
     omega
    have dw:=x.toNat_lt;refine SE O (SC O (Sn z0H O (qV (Sc U3 O O Y O) (qV (z1k O O ω ω) ?_))));rw[ld];refine UO O ?_;rw[show(8-((b1.length%8:Nat):Int))=((8-b1.length%8:Nat):Int) by omega];refine Up O<|Sz O<|qV (ymi O O) ?_;rw[show min (k:Int) ((8-b1.length%8:Nat):Int)=((take:Nat):Int) by omega];have hg:=Ext.Sv w2;refine Sq O (It (Ux (λw'=>Ext w2 w') O (St 0 O O hg (St 1 O O hg (St 2 O O hg (S8 3 O (ysb O O ω) hg (St 5 O O hg ?_)))))));rw[show((k:Int)-(take:Int))=((k-take:Nat):Int) by omega];refine S8 4 O (XE (k-take) D O O (by show k-take<=64;omega) hD) hg ?_;refine S8 6 O (UQ take T O O ω s) hg ?_;rw[show(1*T)%18446744073709551616=T by omega];refine S8 7 O (z0q (n:=1) O O O (by show T<2^64;omega) ω) hg ?_;refine S8 8 O (Yx O O ω ω) hg ?_;rw[jJ];refine S8 9 O (z7z O Va U5) hg ?_;rw[show v / D%T%256=T2 e by rw[m];exact y0e (y2y Mv KC.2)];have H:=hg.S4 Y;have L:=V.ext hg;have j:Ext w2.drew w2.drew.drew:=Ext.Sv w2.drew;refine S8 10 O (UU O) hg (qE (It (Sx [19] (λw'=>Ext w2.drew w') y00 O (Te 0 O O j (SB 1 O (Tu O) j (SB 2 O (SN z2f O) j (qL 3 O (λ_ h=>Sc TT O O (h.S4 H) O) j (Te 4 O O j (SB 5 O (Tu O) j (SB 6 O (SN z2f O) j (qL 7 O (λ_ h=>Sc TT O O (h.S4 H) O) j (SB 8 O (VQ TT O) j (Te 12 O O j ?_)))))))))))));refine Te 13 O O j (Te 14 O O j (SB 15 O (ysb O O ω) j (SB 9 O (ysb O O ω) j ?_)));rw[show(((c++[x]).length:Int)-1)=((c.length:Nat):Int) by omega];refine SB 10 O (Tm TT ti5 O O ω) j (qL 11 O (λ_ hS=>SQ U5 O O (TF (L.rd.ext hS) (show((c++[x]).map WD)[c.length]? =some (WD x) by simp))) j ?_);rw[show(((8-b1.length%8:Nat):Int)-(take:Int))=((8-b1.length%8-take:Nat):Int) by omega];refine SB 16 O (zom (8-b1.length%8-take) R O O ω X) j ?_;rw[show T2 e*R%256=T2 e*R by omega];refine SB 17 O (zoE O O ω ω) j (SB 18 O (Tm TT ti5 O O ω) j (Wg [19] (qO 19 (SY (i:=19) O O (Vl ti5 O O O (L.ext j) ξ) ?_))));rintro w4⟨P,G⟩;refine⟨trivial,?_⟩
    rw[show((c++[x]).map WD).set (0+c.length*1) (.int .u8 ((x.toNat |||T2 e*R:Nat):Int))=(c++[y]).map WD by
     rw[y0g,y0j,y0f,y0f,y22 _ _ ξ]
     simp[WD,C]] at P
    have r:=G.S4 (j.S4 H) Mu;refine qE (SE O (SC O (Sn z0H O (qV (Sc U3 O O r O) (Sf O (Tr O (SC O (Sn z0H O (Sm O (TO T8 O O O r ξ) ?_)))))))));rintro f⟨N,t⟩;rw[show((b1.length:Int)+(take:Int))=(((b1++e).length:Nat):Int) by rw[y01,b];omega] at N;replace N:Sk f p [.slice (some ⟨M,0,none⟩) (c++[x]).length c2,I ((b1++e).length:Int)] 283:=N
    have eN:=P.kp t (λg hg e=>by
                         have:M=g:=by simpa[Value.ownBlock] using hg
                         omega)
    refine S5<|Sg O<|Sz O<|UO O<|Sq O<|S2 ?_;rw[show((k:Int)-(take:Int))=((k-take:Nat):Int) by omega];refine(ih (k-take,.slice (some ⟨M,0,none⟩) (c++[x]).length c2,b1++e) f ⟨by dsimp only;omega,⟨N,?_,gT⟩,?_,?_,qQ⟩ (by dsimp only;omega)).qb
    ·rw[hY];have e1:(c++[y]).length=(c++[x]).length:=ξ
     rw[e1];exact eN
    ·dsimp only;rw[U,y06]
     congr 1
     rw[<-Z,show n-(k-take)=(n-k)+take by omega,Vv]
     congr 2
     rw[Nat.div_div_eq_div_mul,<-y0P,show k-take+take=k by omega]
    ·have ER:Kp (fpW p (.slice (some ⟨M,0,none⟩) (c++[x]).length c2)) w2 f:=((hg.trans j).kp.trans (G.Se (λi e=> .inr (by rw[e];rfl)))).trans (t.Se (λi e=> .inl e));exact am.An ER (λi hi=>(qQ i hi).symm)
   case oP=>
    refine So O (λh0=>?_)<|λh0=>?_
    ·rw[if_pos ω] at W;refine Sg O (Sz O (SC O (Sn z2f O (qV (Sc TT O O E O) (Sd O O (pbs (cs:=[_]) (zs:=[Value.int .u8 0]) TT ti5 O y00 O O O ψ) ?_)))));rintro _ w2⟨b2,rfl,⟨bS,B,Y⟩,V⟩;refine Sd O O (pap TT ti5 O ψ O O (o.sl.ext B) V.rd (by intro c hc;simp at hc;subst hc;rfl) (by rw[T3];omega) (by rw[T3];omega)) ?_;rintro q w3⟨L,z,my,-⟩;have H:=z.S4 (B.S4 E) o.ne;refine SC O (Sn z2f O (Sm O (TO z1r O O (Wz L) H ξ) ?_));rintro w4⟨r,G⟩;replace r:Sk w4 p [q,I (b1.length:Int)] 283:=r;refine S5 ?_
     have fN:q.ownBlock≠some p:=λe=>by
      rcases my p e with e| e
      ·exact o.ne e
      ·have:=B.size;omega
     refine(oO _ _ ⟨O,q,r,?_,fN,?_,?_⟩).qb
     ·rw[<-W,y01,y0f];exact L.kp G (λg hg e=>fN (e▸hg))
     ·exact Q.An ((B.kp.trans (z.Se (λk e=> .inr e))).trans (G.Se (λk e=> .inl e))) (λi hi=>(A i hi).symm)
     ·intro i hi;rcases hi with e| e
      ·exact A i (.inl e)
      ·rcases my i e with e| e
       ·exact A i (.inr e)
       ·have:=B.size;exact .inr ω
    ·rw[if_neg ω] at W;refine S6 ?_;exact(oO _ _ ⟨O,J,E,by rw[<-W];exact o.sl,o.ne,Q,A⟩).qb
  ·have:k=0:=ω
   subst this;refine Sh O<|Tv func168 O (⟨_,O,O,_,⟨J,?_,λ_=>y0U⟩,Q,A⟩);rw[U,y2U,Nat.pow_zero,Nat.div_one] at o;exact o
def zd9 (v n:Nat)(j:n<=64)(h:v<2^n)(w:World):SG prog 167 [Su v,I (n:Int)] w λu w'=>u= .bool true/\w'=w:=by
 refine py (e:=[(0,_),(1,_)]) func167 O ntmps167 O O<|qN O<|TR O<|WZ O<|Sf O<|W4 (λc=>?_)<|λc=>?_
 ·refine Ua<|Ua<|Uj O<|Sq O<|S3 func167 O ?_;exact⟨_,O,O,O⟩
 ·refine Sz O (qV (XE n (2^n) O O (by show n<=64;omega) O) ?_);rw[y2h h];refine U7 O<|Td O<|Sq O<|S3 func167 O ?_;exact⟨_,O,by simp[TC],O⟩
theorem VT (h:WrA w p bs F)(v n:Nat)(c:n<=64)(j:v<2^n)(E:bs.length+n<=134217728):
  SG prog 131 [ptr p 0,Su v,I (n:Int)] w λu w'=>u=I 0/\WrR p F w w' (bs++SJ n v):=by
 obtain⟨A,r,B⟩:=id h
 have hB:=r.S4
 refine py (e:=[(0,_),(1,_),(2,_)]) func131 O ntmps131 O O<|TU O<|TZ<|SE O<|qV (T9 z5u O O)<|Sq O<|S9 O<|SE O<|TW O<|Sf O<|W4 (λl=>?_)<|λl=>?_
 ·omega
 ·refine Sf O<|Ub O<|Td O<|Sf O<|W4 (λo=>?_)<|λo=>?_
  ·omega
  ·refine Sz O<|Sr zlm O (zd9 v n c j w) ?_;rintro _ w⟨rfl,rfl⟩;refine qV (Vn O)<|Td O<|Sq O<|S9 O<|TV O<|SC O<|Sn z0H O<|qV (Sc U3 O O hB O)<|UO O<|Ub O<|Sq O<|SI.qb (e:=[(0,_),(1,_),(2,_),(6,_),(23,_)]) ?_;refine So O (λq=>?_)<|λq=>?_
   ·omega
   ·refine S6 (S2 (TV O (Sf O (Sr zkz O (zfp h v n c j ω) ?_))));rintro _ w1⟨rfl,s⟩;refine qM O<|Sq O<|S3 func131 O ?_;exact⟨_,O,O,s⟩
theorem z18 (h:WrA w p bs F):SG prog 132 [ptr p 0] w λu w'=>u= .tuple #[S (SM bs),I 0]/\w'=w:=by
 obtain⟨r,c,s⟩:=h
 have hB:=c.S4
 have j:=c.sl
 refine py (e:=[(0,_)]) func132 O ntmps132 O O<|qN O<|To O<|SX O<|qV (T9 z5u O O)<|Tt O<|SE O<|SC O<|Sn z2f O<|qV (Sc TT O O hB O) ?_
 rcases j.shape with⟨rfl,o⟩|⟨g,cap,rfl,v⟩
 ·have q:SM bs=[]:=y0x o;rw[q];refine qV (znS TT U5 U9 O)<|To O<|S3 func132 O ?_;exact⟨_,O,O,O⟩
 ·refine qV (ziL (l:=SM bs) TT U5 U9 O j)<|To O<|S3 func132 O ?_;exact⟨_,O,O,O⟩
def Za (h:WrA w p bs F):SG prog 135 [ptr p 0] w λu w'=>u=I (bs.length:Int)/\w'=w:=by
 obtain⟨j,c,l⟩:=h
 have hB:=c.S4
 refine py (e:=[(0,_)]) func135 O ntmps135 O O<|TU O<|SX O<|qV (T9 z5u O O)<|Tt O<|SE O<|SC O<|Sn z0H O<|qV (Sc U3 O O hB O)<|Sq O<|S3 func135 O ?_
 exact⟨_,O,O,O⟩
end
def Xz (w:World)(r:Nat)(s:Sa)(a:Nat):Prop:=Sk w r [S s,I (a:Int)] 321/\a<=8*s.length/\s.length<=1000000000
section
variable {r:Nat}{s:Sa}{a:Nat}
theorem z0Y (s:Sa)(c:s.length<=1000000000)(w:World):SG prog 171 [S s] w λv w'=>∃r,v=ptr r 0/\Xz w' r s 0/\Ext w w'/\w.heap.size<=r:=by
 refine py (e:=[(0,_)]) func171 O ntmps171 O O<|qN O<|TR O<|qV (VI (cs:=[_,_]) zli O znM O O)<|Sd O O (UD O O) ?_
 rintro _ w1⟨r,rfl,hr,d,hB⟩
 refine Sq O<|S3 func171 O ?_
 exact⟨_,O,r,O,⟨hB,y02 _,c⟩,d,ω⟩
def XT (h:Xz w r s a):SG prog 187 [ptr r 0] w λv w'=>v=I (a:Int)/\w'=w:=by
 obtain⟨hB,c,d⟩:=h
 refine py (e:=[(0,_)]) func187 O ntmps187 O O<|TU O<|SX O<|qV (T9 Ye O O)<|Tt O<|SE O<|SC O<|Sn YX O<|qV (Sc U3 O O hB O)<|Sq O<|S3 func187 O ?_
 exact⟨_,O,O,O⟩
def zcP (h:Xz w r s a):SG prog 203 [ptr r 0] w λv w'=>v=I ((8*s.length-a:Nat):Int)/\Ext w w':=by
 obtain⟨hB,c,d⟩:=h
 refine py (e:=[(0,_)]) func203 O ntmps203 O O<|TU O<|SX O<|qV (T9 Ye O O) ?_
 have hg:=Ext.Sv w
 refine Tt O<|It<|Ux (λw'=>Ext w w') O<|St 0 O O hg<|S8 1 O (Tu O) hg<|S8 2 O (SN z7b O) hg<|qT 3 O (λ_ h=>Sc U9 O O (h.S4 hB) O) hg<|S8 4 O (Ys U9 O) hg<|S8 5 O (Zf O O ω) hg<|St 6 O O hg<|S8 7 O (Tu O) hg<|S8 8 O (SN YX O) hg<|qT 9 O (λ_ h=>Sc U3 O O (h.S4 hB) O) hg<|S8 10 O (ysb O O ω) hg ?_
 refine S8 11 O (UU O) hg<|qE<|S3 func203 O (⟨_,O,?_,hg⟩)
 simp only[TC]
 congr 1
 omega
def z2R (h:Xz w r s a)(k:Nat)(l:k<=8*s.length):SG prog 215 [ptr r 0,I (k:Int)] w λv w'=>v=I 0/\Xz w' r s k/\Kp (λi=>i=r) w w':=by
 obtain⟨hB,n,j⟩:=h
 refine py (e:=[(0,_),(1,_)]) func215 O ntmps215 O O<|TU O<|TZ<|SE O<|qV (T9 Ye O O)<|Sq O<|S9 O<|SE O<|TW O<|Sf O<|W4 (λc1=>?_)<|λc1=>?_
 ·omega
 ·refine Sz O<|SC O<|Sn z7b O<|qV (Sc U9 O O hB O)<|qV (Ys U9 O)<|qV (Zf O O ω)<|Ub O<|Td O<|Sq O<|So O (λc2=>?_)<|λc2=>?_
  ·omega
  ·refine S6 (S2 (TV O (SC O (Sn YX O (Sm O (TO T8 O O O hB ξ) ?_)))));rintro w1⟨d,c⟩;refine qM O<|Sq O<|S3 func215 O ?_;exact⟨_,O,O,⟨d,l,j⟩,c⟩
theorem zao {V n:Nat}(h:Xz w r s a)(l:Sk w b2 [ptr r 0] 289)(p:Sk w b6 [Su V] 39)(T:1<=n)(X:n<=8-a%8)(t:a+n<=8*s.length)(Q:V*2^n+2^n<=18446744073709551616)(d1:b6≠r)(d2:b2≠r)(d3:b2≠b6):
  SG prog 204 [I (n:Int),ptr b2 0,ptr b6 0] w λu w'=>u= .tuple #[]/\Xz w' r s (a+n)/\Sk w' b6 [Su (V*2^n+T2 (((SA s).drop a).take n))] 39/\Sk w' b2 [ptr r 0] 289/\Kp (λk=>k=b6\/k=r) w w':=by
 obtain⟨hB,P,y⟩:=h
 have z:a&&&7=a%8:=y14 a 3
 obtain⟨c,S⟩:∃c,s[a / 8]? =some c:=⟨_,y04 ω⟩
 have q:=zbv S X
 obtain⟨j,W⟩:∃j,T2 (((SA s).drop a).take n)=j:=⟨_,O⟩
 have J:j<2^n:=by
  rw[<-W];have L:=Uy (((SA s).drop a).take n);rw[y0c,y08,bitsT_length,y0A ω] at L;exact L
 rw[W] at q⊢
 have F:=c.toNat_lt
 obtain⟨d,Y⟩:∃d,8-a%8=d:=⟨_,O⟩
 rw[Y] at q X
 have U:c.toNat&&&(2^d-1)=c.toNat%2^d:=y14 _ _
 obtain⟨R,A⟩:∃R,2^d=R:=⟨_,O⟩
 have yE:1<=R/\R<=256:=by
  rw[<-A];exact⟨y0z _,by have:=y0v (show 0<2 by decide) (show d<=8 by omega);simpa using this⟩
 rw[A] at q U
 have ol:c.toNat%R<=c.toNat:=Nat.mod_le _ _
 have Z:s.getD (a / 8) 0=c:=by rw[y0C,S];rfl
 refine py (e:=[(0,_),(1,_),(2,_)]) func204 O ntmps204 O O<|qN O<|qV (Sc Ye O O l O)<|SC O<|Sn YX O<|qV (Sc U3 O O hB O)<|qV (z1k O O ω ω) ?_
 rw[z]
 refine UO O ?_
 rw[show(8-((a%8:Nat):Int))=((d:Nat):Int) by omega]
 have hg:=Ext.Sv w
 refine Sq O<|It<|Ux (λw'=>Ext w w') O<|qT 0 O (λ_ h=>(Sc Ye O O (h.S4 l) O)) hg<|S8 1 O (Tu O) hg<|S8 2 O (SN z7b O) hg<|qT 3 O (λ_ h=>(Sc U9 O O (h.S4 hB) O)) hg<|qT 4 O (λ_ h=>(Sc Ye O O (h.S4 l) O)) hg<|S8 5 O (Tu O) hg<|S8 6 O (SN YX O) hg<|qT 7 O (λ_ h=>(Sc U3 O O (h.S4 hB) O)) hg<|S8 8 O (yqu O O ω) hg<|St 11 O O hg<|St 15 O O hg ?_
 refine St 16 O O hg<|S8 17 O (ysb O O ω) hg ?_
 rw[show((a:Int) / 8)=((a / 8:Nat):Int) by omega]
 refine S8 9 O (z8E U9 O O ω) hg<|S8 10 O (z6A O U5 U3 ψ) hg ?_
 rw[Z]
 refine S8 12 O (zp9 d R O O ω A ω) hg ?_
 rw[show(1*(R:Int))=((R:Nat):Int) by omega]
 refine S8 13 O (ysb O O ω) hg ?_
 rw[show((R:Int)-1)=((R-1:Nat):Int) by omega]
 refine S8 14 O (z1k O O ω ω) hg ?_
 rw[U]
 rw[show((d:Int)-(n:Int))=((d-n:Nat):Int) by omega]
 refine S8 18 O (XE (d-n) (2^(d-n)) O O (by show d-n<=64;omega) O) hg ?_
 rw[<-q]
 refine S8 19 O (UU O) hg<|qE<|SI.qb (e:=[(0,_),(1,_),(2,_),(5,_)]) ?_
 refine qN O ?_
 have m:=hg.S4 hB
 have f:=hg.S4 l
 have B:=hg.S4 p
 obtain⟨N,hN⟩:∃N,2^n=N:=⟨_,O⟩
 rw[hN] at Q J
 have K:1<=N:=by rw[<-hN];exact y0z _
 obtain⟨M,o⟩:∃M,V*N=M:=⟨_,O⟩
 rw[o] at Q
 have C:M |||j=M+j:=by
  have:=y28 (i:=n) (b:=j) (by rw[hN];exact J) V;rw[hN,y0H N V,o] at this;exact this.symm
 rw[hN,o]
 have D:n<=64:=ω
 refine qV (Sc Va O O B O)<|Sf O<|qV (UQ n N O O D hN) ?_
 rw[o,y0e (show M<18446744073709551616 by omega)]
 refine Sf O<|qV (TM O U3 Va ω)<|qV (z4i O O ω ω) ?_
 rw[C]
 refine Sm O (TO YI O O O B ξ) ?_
 rintro w2⟨g,v⟩
 have G:=v.S4 m (Ne.symm d1)
 have E:=v.S4 f d3
 refine S5<|Sg O<|qV (Sc Ye O O E O)<|SC O<|Sn YX O<|qV (Sc U3 O O G O)<|Sf O<|Tr O<|SC O<|Sn YX O<|Sm O (TO T8 O O O G ξ) ?_
 rintro w3⟨H,x⟩
 rw[show((a:Int)+(n:Int))=((a+n:Nat):Int) by omega] at H
 refine S5<|Tv func204 O ?_
 exact⟨_,O,O,⟨H,t,y⟩,x.S4 g d1,x.S4 E d2,(hg.kp.trans (v.Se (λk e=> .inl e))).trans (x.Se (λk e=> .inr e))⟩
theorem Zs (h:Xz w r s a)(n:Nat)(K:n<=64):
  SG prog 173 [ptr r 0,I (n:Int)] w λv w'=>(a+n<=8*s.length/\v= .tuple #[Su (T2 (((SA s).drop a).take n)),I 0]/\Xz w' r s (a+n)/\Kp (λk=>k=r) w w')\/(8*s.length<a+n/\v= .tuple #[Su 0,I 4]/\Ext w w'):=by
 have P:=h.1.lt
 obtain⟨-,D,Z⟩:=id h
 refine py (e:=[(0,_),(1,_)]) func173 O ntmps173 O O<|qN O<|Sd O O (UD O (cs:=[ptr r 0]) O) ?_
 rintro _ w1⟨b2,rfl,y,d,j⟩
 have l:Xz w1 r s a:=⟨d.S4 h.1,h.2⟩
 refine To O<|TZ<|qN O<|qV (Sc Ye O O j O)<|qV (T9 Ye O O)<|Sq O<|S9 O<|SE O<|TW O<|Sf O<|W4 (λc1=>?_)<|λc1=>?_
 ·omega
 ·refine Sf O<|Ub O<|Td O<|Sq O<|So O (λc2=>?_)<|λc2=>?_
  ·omega
  ·refine SE O<|qV (Sc Ye O O j O)<|Sr zkJ O (zcP l) ?_;rintro _ w2⟨rfl,u⟩;refine Ub O<|Sq O<|So O (λc3=>?_)<|λc3=>?_
   ·refine qN O<|To O<|S3 func173 O ?_;exact⟨_,O,.inr ⟨ω,O,d.trans u⟩⟩
   ·refine S6<|S2<|qN O<|Sd O O (UK (cs:=[_]) YI O) ?_;rintro _ m⟨b6,rfl,oo,S,q⟩;replace q:Sk m b6 [Su 0] 39:=q;have E:=u.trans S;have H:=d.trans E;have mV:=d.size;have oq:=u.size;have T:=j.lt;have W:a+n<=8*s.length:=ω
    refine qM O<|qV (ymf (first:=[]) (caps:=[.tmp 2,.tmp 6]) O O)<|Sq O<|TZ<|UW (α:=Nat) n (λk=>[(1,I (k:Int)),(2,ptr b2 0),(6,ptr b6 0),(7,.func (.func 204) #[] #[ptr b2 0,ptr b6 0])]) (λk w'=>k<=n/\Xz w' r s (a+(n-k))/\Sk w' b6 [Su (T2 (((SA s).drop a).take (n-k)))] 39/\Sk w' b2 [ptr r 0] 289/\Kp (λi=>i=r) w w') (λk=>k) ?hI ?hround
    case hI=>exact⟨y07 _,⟨by rw[y1w];exact H.S4 h.1,ω,Z⟩,by rw[y1w];exact q,E.S4 j,H.kp⟩
    case hround=>
     rintro k w4⟨F,c,o,A,G⟩ f;have B:=c.1
     try dsimp only
     refine SX O<|Ub O<|S5<|So O (λR=>?_)<|λR=>?_
     ·obtain⟨p,J⟩:∃p,a+(n-k)=p:=⟨_,O⟩;rw[J] at B c;have g:p&&&7=p%8:=y14 p 3;obtain⟨take,oN⟩:∃take,min k (8-p%8)=take:=⟨_,O⟩;have L:1<=take/\take<=k/\take<=8-p%8:=ω
      refine S6 (S7 (SE O (qV (Sc Ye O O A O) (SC O (Sn YX O (qV (Sc U3 O O B O) (qV (z1k O O ω ω) ?_)))))));rw[g];refine UO O<|qV (ymi O O) ?_;rw[show min (k:Int) (8-((p%8:Nat):Int))=((take:Nat):Int) by omega];obtain⟨V,x⟩:∃V,T2 (((SA s).drop a).take (n-k))=V:=⟨_,O⟩;rw[x] at o
      have Q:V*2^take+2^take<=18446744073709551616:=by
       have l:=Uy (((SA s).drop a).take (n-k));rw[x,y0c,y08,bitsT_length,y0A ω] at l;have X:(V+1)*2^take<=2^(n-k)*2^take:=y0Y _ l;rw[<-y0P,y0r,y0Q] at X;have z:=y0v (show 0<2 by decide) (show n-k+take<=64 by omega);have C:(2:Nat)^64=18446744073709551616:=ψ
       omega
      refine Up O (Sz O (Uk O O (Vc zmZ O O) (zao c A o L.1 L.2.2 ω Q ω ω ω) ?_));rintro _ t⟨rfl,b,M,N,U⟩;refine S5<|Sg O<|Sz O<|UO O<|Sq O<|S2 ?_;rw[show((k:Int)-(take:Int))=((k-take:Nat):Int) by omega];refine(f (k-take) t ⟨ω,?_,?_,N,?_⟩ ω).qb
      ·rw[show a+(n-(k-take))=p+take by omega];exact b
      ·rw[show n-(k-take)=(n-k)+take by omega,y2V,Vq,x,y0G,J];have Y:(((SA s).drop p).take take).length=take:=by rw[y0c,y08,bitsT_length];omega
       rw[Y];exact M
      ·exact G.An U (λi hi=>hi.elim (λe=> .inl ω) .inr)
     ·have:k=0:=ω
      subst this;rw[y2U] at c o;refine Sh O<|qN O<|qV (Sc Va O O o O)<|To O<|S3 func173 O ?_;exact⟨_,O,.inl ⟨W,O,c,G⟩⟩
end
def Tp (v:Nat):Nat:=if v=0 then 0 else Nat.log2 v+1
def z0J {v:Nat}:v<2^Tp v:=by
 unfold Tp
 split
 ·subst_vars;simp
 ·exact y3h
def z4b {v:Nat}(h:v≠0):2^(Tp v-1)<=v:=by
 unfold Tp
 rw[if_neg h,y1h]
 exact y2K h
theorem zcl {v n:Nat}(d:2^n<=v)(e:v<2^(n+1)):Tp v=n+1:=by
 have h:=y0z n
 have c:v≠0:=ω
 unfold Tp
 rw[if_neg c]
 have:=(Nat.log2_eq_iff c).2 ⟨d,e⟩
 omega
def UH {v n:Nat}(h:v<2^n):Tp v<=n:=by
 by_cases c:v=0
 ·subst c;simp[Tp]
 ·have e:=z4b c;have d:2^(Tp v-1)<2^n:=ω
  have j:=(y3o (by decide:1<2)).1 d;have:Tp v≠0:=by unfold Tp;rw[if_neg c];omega
  omega
def Vb (v K:Nat):Nat×Nat:=
 let s:=Tp (K-1)
 let m:=2^s-K
 if v<m then(v,s-1) else(v+m,s)
def Uh (v K:Nat):List Bool:=SJ (Vb v K).2 (Vb v K).1
def YQ (e:1<=K):K<=2^Tp (K-1)/\(1<K->1<=Tp (K-1)/\2^(Tp (K-1)-1)+1<=K):=by
 have c:=z0J (v:=K-1)
 refine⟨ω,λh=>?_⟩
 have d:=z4b (v:=K-1) ω
 refine⟨?_,ω⟩
 unfold Tp
 rw[if_neg ω];omega
def zd3 {v:Nat}(h:v<K):(Vb v K).1<2^(Vb v K).2:=by
 obtain⟨j,c⟩:=YQ (K:=K) ω
 unfold Vb
 dsimp only
 split
 ·rename_i e
  by_cases d:K=1
  ·subst d;simp[Tp] at e
  ·obtain⟨l,n⟩:=c ω;have:2^Tp (K-1)=2*2^(Tp (K-1)-1):=by rw[<-Nat.pow_succ',show(Tp (K-1)-1).succ=Tp (K-1) by omega]
   dsimp only;omega
 ·dsimp only;omega
theorem zaV {v:Nat}(h:v<K)(l:1<K)(rest:List Bool):
  let s:=Tp (K-1)
  let m:=2^s-K
  1<=s/\s-1<=(Uh v K).length/\
  ((T2 ((Uh v K).take (s-1))<m/\(Uh v K).length=s-1/\T2 ((Uh v K).take (s-1))=v)\/
   (m<=T2 ((Uh v K).take (s-1))/\(Uh v K).length=s/\2*T2 ((Uh v K).take (s-1))+T2 ((Uh v K).drop (s-1))=v+m)):=by
 obtain⟨n,d⟩:=YQ (K:=K) ω
 obtain⟨j,o⟩:=d l
 have q:2^Tp (K-1)=2*2^(Tp (K-1)-1):=by rw[<-Nat.pow_succ',show(Tp (K-1)-1).succ=Tp (K-1) by omega]
 dsimp only
 unfold Uh Vb
 dsimp only
 refine⟨j,?_⟩
 split
 ·rename_i c
  dsimp only;rw[bitsN_length,y0B ξ,TD,y0e ω];exact⟨y07 _,.inl ⟨c,O,O⟩⟩
 ·rename_i c
  dsimp only;rw[bitsN_length]
  have e:SJ (Tp (K-1)) (v+(2^Tp (K-1)-K))=SJ (Tp (K-1)-1) ((v+(2^Tp (K-1)-K)) / 2^1)++SJ 1 (v+(2^Tp (K-1)-K)):=by
   rw[<-Vv,show Tp (K-1)-1+1=Tp (K-1) by omega]
  rw[e,y1a ξ,y11 ξ,TD,TD,y0e ω];exact⟨ω,.inr ⟨ω,O,ω⟩⟩
inductive Cd where
 |unary
 |gamma
 |zeta (k:Nat)
def Cd.zeros:Cd->Nat->Nat
 | .unary,v=>v
 | .gamma,v=>Nat.log2 (v+1)
 | .zeta k,v=>Nat.log2 (v+1) / k
def Cd.rest:Cd->Nat->List Bool
 | .unary,_=>[]
 | .gamma,v=>SJ (Nat.log2 (v+1)) (v+1-2^Nat.log2 (v+1))
 | .zeta k,v=>let h:=Nat.log2 (v+1) / k;Uh (v+1-2^(h*k)) (2^(h*k)*2^k-2^(h*k))
def Cd.enc (c:Cd)(v:Nat):List Bool:=List.replicate (c.zeros v) false++true::c.rest v
def ZH {v:Nat}(h:v<=281474976710654):2^Nat.log2 (v+1)<=v+1/\v+1<2^(Nat.log2 (v+1)+1)/\Nat.log2 (v+1)<=47:=by
 have c:=y2K (n:=v+1) ω
 have d:=y3h (n:=v+1)
 refine⟨c,d,?_⟩
 have e:2^Nat.log2 (v+1)<2^48:=by
  have:(2:Nat)^48=281474976710656:=ψ
  omega
 have:=(y3o (by decide:1<2)).1 e
 omega
def z1M {k v:Nat}(o:1<=k):let h:=Nat.log2 (v+1) / k;2^(h*k)<=v+1/\v+1-2^(h*k)<2^(h*k)*2^k-2^(h*k)/\1<=2^(h*k)*2^k-2^(h*k):=by
 dsimp only
 have q:=y2K (n:=v+1) ω
 have r:=y3h (n:=v+1)
 have c:Nat.log2 (v+1) / k*k<=Nat.log2 (v+1):=y1O _ _
 have d:Nat.log2 (v+1)+1<=Nat.log2 (v+1) / k*k+k:=by
  have:=y2c (Nat.log2 (v+1)) k;have:=y13 (Nat.log2 (v+1)) (show 0<k by omega);have e:=y0H k (Nat.log2 (v+1) / k);omega
 have s:2^(Nat.log2 (v+1) / k*k)<=2^Nat.log2 (v+1):=y0v ψ c
 have j:2^(Nat.log2 (v+1)+1)<=2^(Nat.log2 (v+1) / k*k+k):=y0v ψ d
 rw[y0P 2 (Nat.log2 (v+1) / k*k) k] at j
 have l:2<=2^k:=by
  have:=y0v (show 0<2 by decide) o
  simpa using this
 have u:2^(Nat.log2 (v+1) / k*k)*2<=2^(Nat.log2 (v+1) / k*k)*2^k:=y39 _ l
 have x:=y0z (Nat.log2 (v+1) / k*k)
 omega
def z1E {x k:Nat}(h:2^k<=x):Tp x=Tp (x / 2^k)+k:=by
 have e:=y0z k
 have j:x / 2^k≠0:=by have:=Nat.div_pos h e;omega
 have c:=z4b j
 have d:=z0J (v:=x / 2^k)
 have r:Tp (x / 2^k)≠0:=by unfold Tp;rw[if_neg j];omega
 obtain⟨n,q⟩:∃n,Tp (x / 2^k)=n+1:=⟨Tp (x / 2^k)-1,ω⟩
 rw[q] at c d⊢
 rw[y1h] at c
 have l:2^(n+k)<=x:=by
  rw[y0P];exact y0d (y0Y _ c) (y1O _ _)
 have o:x<2^(n+k+1):=by
  rw[show n+k+1=(n+1)+k by omega,y0P];exact(y2b e).1 d
 rw[zcl l o];omega
def zjF:Sa:=[0,1,2,2,3,3,3,3,4,4,4,4,4,4,4,4,5,5,5,5,5,5,5,5,5,5,5,5,5,5,5,5,6,6,6,6,6,6,6,6,6,6,6,6,6,6,6,6,6,6,6,6,6,6,6,6,6,6,6,6,6,6,6,6,7,7,7,7,7,7,7,7,7,7,7,7,7,7,7,7,7,7,7,7,7,7,7,7,7,7,7,7,7,7,7,7,7,7,7,7,7,7,7,7,7,7,7,7,7,7,7,7,7,7,7,7,7,7,7,7,7,7,7,7,7,7,7,7,8,8,8,8,8,8,8,8,8,8,8,8,8,8,8,8,8,8,8,8,8,8,8,8,8,8,8,8,8,8,8,8,8,8,8,8,8,8,8,8,8,8,8,8,8,8,8,8,8,8,8,8,8,8,8,8,8,8,8,8,8,8,8,8,8,8,8,8,8,8,8,8,8,8,8,8,8,8,8,8,8,8,8,8,8,8,8,8,8,8,8,8,8,8,8,8,8,8,8,8,8,8,8,8,8,8,8,8,8,8,8,8,8,8,8,8,8,8,8,8,8,8,8,8,8,8,8,8]
theorem zfk:zjF.length=256:=by decide+kernel
def zp7:∀x:Fin 256,(zjF.getD x.val 0).toNat=Tp x.val:=by decide+kernel
section
theorem Y6 (x:Nat)(J:x<18446744073709551616)(w:World):SG prog 169 [Su x] w λv w'=>v=I (Tp x:Int)/\w'=w:=by
 refine py (e:=[(0,_)]) func169 O ntmps169 O O<|TU O<|SX O<|WZ O<|S5<|Tc (λc w'=>w=w'/\∃x1 n1:Nat,c=[(0,Su x1),(2,I (n1:Int))]/\Tp x=Tp x1+n1/\x1<4294967296/\n1<=32) ?bL<|λbL=>?dE
 case bL=>
  rintro c w'⟨rfl,x1,n1,rfl,r,u,A⟩;refine SX O<|WZ O<|S5<|Tc (λc w'=>w=w'/\∃x2 n2:Nat,c=[(0,Su x2),(2,I (n2:Int))]/\Tp x=Tp x2+n2/\x2<65536/\n2<=48) ?dq<|λdq=>?gU
  case dq=>
   rintro c w'⟨rfl,x2,n2,rfl,s,B,E⟩;refine SX O<|WZ O<|S5<|Tc (λc w'=>w=w'/\∃d j:Nat,c=[(0,Su d),(2,I (j:Int))]/\Tp x=Tp d+j/\d<256/\j<=56) ?az<|λaz=>?eO
   case az=>
    rintro c w'⟨rfl,d,j,rfl,G,o,H⟩;have q:=zp7 ⟨d,o⟩;dsimp only at q;have L:Tp d<=8:=UH ω;refine TV O<|qV (z7z O Va U5) ?_;rw[y0e o];refine qV (z8E (l:=zjF) U9 O O (by rw[zfk];exact o)) ?_;rw[q];refine qV (T7 O U5 U3 ω)<|Tr O<|Sq O<|S3 func169 O ?_;exact⟨_,O,by simp only[TC];congr 1;omega,rfl⟩
   case eO=>
    refine So O (λh=>?_)<|λh=>?_
    ·refine SE O<|qV (XE 8 256 O O ψ O)<|Sq O<|Uw O<|Tr O<|Sq O ((az _ _ ⟨O,x2 / 256,n2+8,O,?_,?_,?_⟩).qb)
     ·have n:=z1E (x:=x2) (k:=8) ω;rw[show x2 / 2^8=x2 / 256 from rfl] at n;omega
     ·omega
     ·omega
    ·refine S6 ?_;exact(az _ _ ⟨O,x2,n2,O,s,ω,ω⟩).qb
  case gU=>
   refine So O (λh=>?_)<|λh=>?_
   ·refine SE O<|qV (XE 16 65536 O O ψ O)<|Sq O<|Uw O<|Tr O<|Sq O ((dq _ _ ⟨O,x1 / 65536,n1+16,O,?_,?_,?_⟩).qb)
    ·have n:=z1E (x:=x1) (k:=16) ω;rw[show x1 / 2^16=x1 / 65536 from rfl] at n;omega
    ·omega
    ·omega
   ·refine S6 ?_;exact(dq _ _ ⟨O,x1,n1,O,r,ω,ω⟩).qb
 case dE=>
  refine So O (λh=>?_)<|λh=>?_
  ·refine SE O<|qV (XE 32 4294967296 O O ψ O)<|Sq O<|Sg O<|Sq O ((bL _ _ ⟨O,x / 4294967296,32,O,?_,?_,?_⟩).qb)
   ·exact z1E (x:=x) (k:=32) ω
   ·omega
   ·omega
  ·refine S6 ?_;exact(bL _ _ ⟨O,x,0,O,ω,ω,ω⟩).qb
/-! ### Codes -/
def W5:Cd->List Value
 | .unary=>[.int .u8 0,Su 0]
 | .gamma=>[.int .u8 1,Su 0]
 | .zeta k=>[.int .u8 3,Su k]
abbrev cdV (c:Cd):Value:= .agg (W5 c).toArray
def Cd.U8:Cd->Prop
 | .zeta k=>1<=k/\k<=16
 |_=>True
def Cd.most:Cd->Nat
 | .unary=>65535
 |_=>281474976710654
def Cd.p0:Cd->Nat->Nat×Nat
 | .unary,_=>(0,0)
 | .gamma,v=>(v+1-2^Nat.log2 (v+1),Nat.log2 (v+1))
 | .zeta k,v=>let h:=Nat.log2 (v+1) / k;Vb (v+1-2^(h*k)) (2^(h*k)*2^k-2^(h*k))
theorem Yz (c:Cd)(l:c.U8)(w:World):SG prog 236 [cdV c] w λv w'=>v=I 0/\Ext w w':=by
 cases c with
 | unary =>
   refine py (e:=[(0,_)]) func236 O ntmps236 O O<|qN O<|Sd O O (UD O (cs:=[.int .u8 0,Su 0]) O) ?_;rintro _ w1⟨b1,rfl,j,h,d⟩;refine Up O<|Sq O<|It<|qN O<|Sn VK O<|qV (Sc U5 O O d O)<|S5<|S7<|It<|qN O<|U7 O<|Ue<|Sq O<|Sb O ?_;refine S6<|Sb O<|Sg O<|Sn z0C O<|qV (Sc Va O O d O)<|U7 O<|Ue<|Sq O<|S2<|SX O<|qV (Vn O)<|Tt O<|TU O<|S3 func236 O ?_
   exact⟨_,O,O,h⟩
 | gamma =>
   refine py (e:=[(0,_)]) func236 O ntmps236 O O<|qN O<|Sd O O (UD O (cs:=[.int .u8 1,Su 0]) O) ?_;rintro _ w1⟨b1,rfl,j,h,d⟩;refine Up O<|Sq O<|It<|qN O<|Sn VK O<|qV (Sc U5 O O d O)<|S5<|S7<|It<|qN O<|U7 O<|T0<|Sq O<|S9 O ?_;refine qN O<|U7 O<|Ue<|Sq O<|Sb O<|S6<|Sb O<|Sg O<|Sn z0C O<|qV (Sc Va O O d O)<|U7 O<|Ue<|Sq O<|S2 ?_;refine SX O<|qV (Vn O)<|Tt O<|TU O<|S3 func236 O ?_
   exact⟨_,O,O,h⟩
 | zeta k =>
   obtain⟨n,o⟩:1<=k/\k<=16:=l;refine py (e:=[(0,_)]) func236 O ntmps236 O O<|qN O<|Sd O O (UD O (cs:=[.int .u8 3,Su k]) O) ?_;rintro _ w1⟨b1,rfl,j,h,d⟩;refine Up O<|Sq O<|It<|qN O<|Sn VK O<|qV (Sc U5 O O d O)<|S5<|S7<|It<|qN O<|U7 O<|T0<|Sq O<|S9 O ?_;refine qN O<|U7 O<|T0<|Sq O<|S9 O<|Sg O<|U7 O<|T0<|Sq O<|S9 O<|qN O<|U7 O<|Ue<|Sq O ?_;refine Sb O<|Sg O<|Sn z0C O<|qV (Sc Va O O d O)<|WZ O<|Ue<|Sf O<|Sn z0C O<|qV (Sc Va O O d O)<|zle O<|Ue<|Uj O<|Sq O<|S2 ?_;refine SX O<|qV (Vn O)<|Tt O<|TU O<|S3 func236 O ?_;exact⟨_,O,O,h⟩
theorem z6o (c:Cd)(o:c.U8)(w:World):SG prog 237 [cdV c] w λv w'=>v=Su c.most/\Ext w w':=by
 cases c with
 | unary =>
   refine py (e:=[(0,_)]) func237 O ntmps237 O O<|qN O<|Sd O O (UD O (cs:=[.int .u8 0,Su 0]) O) ?_;rintro _ w1⟨b1,rfl,q,l,h⟩;refine Sq O<|TZ<|qN O<|qV (SO (news:=[.int .u8 0,Su 0]) Vy O Un O (h.cells (n:=2) O) O)<|Sr z81 O (Yz (.unary) o w1) ?_;rintro _ w2⟨rfl,d⟩;have j:=d.S4 h;refine TK O<|T0<|Sq O<|S9 O<|qN O<|Sn VK O<|qV (Sc U5 O O j O)<|U7 O<|Ue<|Sq O<|Sb O<|TU O<|S3 func237 O ?_
   exact⟨_,O,O,l.trans d⟩
 | gamma =>
   refine py (e:=[(0,_)]) func237 O ntmps237 O O<|qN O<|Sd O O (UD O (cs:=[.int .u8 1,Su 0]) O) ?_;rintro _ w1⟨b1,rfl,q,l,h⟩;refine Sq O<|TZ<|qN O<|qV (SO (news:=[.int .u8 1,Su 0]) Vy O Un O (h.cells (n:=2) O) O)<|Sr z81 O (Yz (.gamma) o w1) ?_;rintro _ w2⟨rfl,d⟩;have j:=d.S4 h;refine TK O<|T0<|Sq O<|S9 O<|qN O<|Sn VK O<|qV (Sc U5 O O j O)<|U7 O<|T0<|Sq O<|S9 O<|qN O<|Sn VK O<|qV (Sc U5 O O j O) ?_;refine U7 O<|T0<|Sq O<|VP O<|S2<|TU O<|S3 func237 O ?_
   exact⟨_,O,O,l.trans d⟩
 | zeta k =>
   refine py (e:=[(0,_)]) func237 O ntmps237 O O<|qN O<|Sd O O (UD O (cs:=[.int .u8 3,Su k]) O) ?_;rintro _ w1⟨b1,rfl,q,l,h⟩;refine Sq O<|TZ<|qN O<|qV (SO (news:=[.int .u8 3,Su k]) Vy O Un O (h.cells (n:=2) O) O)<|Sr z81 O (Yz (.zeta k) o w1) ?_;rintro _ w2⟨rfl,d⟩;have j:=d.S4 h;refine TK O<|T0<|Sq O<|S9 O<|qN O<|Sn VK O<|qV (Sc U5 O O j O)<|U7 O<|T0<|Sq O<|S9 O<|qN O<|Sn VK O<|qV (Sc U5 O O j O) ?_;refine U7 O<|T0<|Sq O<|VP O<|S2<|TU O<|S3 func237 O ?_;exact⟨_,O,O,l.trans d⟩
theorem zeE (c:Cd)(v:Nat)(l:c.U8)(A:v<=c.most)(w:World):SG prog 225 [cdV c,Su v] w λu w'=>u= .bool true/\Ext w w':=by
 obtain⟨x,y,d⟩:∃x y,W5 c=[x,y]:=by cases c<;>exact⟨_,_,O⟩
 refine py (e:=[(0,_),(1,_)]) func225 O ntmps225 O O<|qN O<|Sd O O (UD O (cs:=W5 c) O) ?_
 rintro _ w1⟨b1,rfl,s,o,j⟩
 refine Up O<|qV (SO (news:=W5 c) Vy O Un O (j.cells (n:=2) (by rw[d];rfl)) (by rw[d];rfl)) ?_
 refine Sr z81 O (Yz c l w1) ?_
 rintro _ w2⟨rfl,h⟩
 have r:=h.S4 j
 refine U7 O<|Ue<|Sz O<|qV (SO (news:=W5 c) Vy O Un O (r.cells (n:=2) (by rw[d];rfl)) (by rw[d];rfl)) ?_
 refine Sr ziM O (z6o c l w2) ?_
 rintro _ B⟨rfl,q⟩
 refine zle O<|Ue<|Uj O<|Sq O<|S3 func225 O ?_
 exact⟨_,O,O,(o.trans h).trans q⟩
end
section
theorem zbm (v K:Nat)(A:1<=K)(V:v<K)(W:K<=9223372036854775808)(w:World):SG prog 238 [Su v,Su K] w λu w'=>u= .agg #[Su (Vb v K).1,I ((Vb v K).2:Int)]/\Ext w w':=by
 obtain⟨s,d⟩:∃s,Tp (K-1)=s:=⟨_,O⟩
 have B:=YQ A
 rw[d] at B
 obtain⟨x,J⟩:=B
 have H:(2:Nat)^63=9223372036854775808:=ψ
 have E:s<=63:=by rw[<-d];exact UH ω
 obtain⟨Q,j⟩:∃Q,2^s=Q:=⟨_,O⟩
 have N:Q<=9223372036854775808:=by
  have:=y0v (show 0<2 by decide) E;omega
 rw[j] at x
 have h:Vb v K=if v<Q-K then(v,s-1) else(v+(Q-K),s):=by unfold Vb;rw[d];dsimp only;rw[j]
 refine py (e:=[(0,_),(1,_)]) func238 O ntmps238 O O<|qN O<|Sd O O (UK (cs:=[_,_]) Wp O) ?_
 rintro _ w1⟨r,rfl,U,q,o⟩
 refine qM O<|Sf O<|qV (z0q (n:=1) O O O (by show K<2^64;omega) A) ?_
 refine Sr z5U O (Y6 (K-1) ω w1) ?_
 rintro _ w1⟨rfl,rfl⟩
 rw[d]
 refine Sq O<|SX O<|qV (UQ s Q O O ω j) ?_
 rw[show 1*Q%18446744073709551616=Q by omega]
 refine Sf O<|qV (z0q O O O (by show Q<2^64;omega) x) ?_
 refine Up O<|Sz O<|WZ O<|S5<|So O (λL=>?_)<|λL=>?_
 ·rw[if_neg ω] at h;rw[h];refine TV O<|qV (YW O O) ?_;rw[y0e (show v+(Q-K)<18446744073709551616 by omega)];refine Sf O (qV (VI (cs:=[_,_]) Wp O zfj O O) (Sm O (Ta (news:=[Su (v+(Q-K)),I (s:Int)]) Wp O O O O o ξ) ?_));rintro w2⟨c,l⟩;replace c:Sk w2 r [Su (v+(Q-K)),I (s:Int)] 351:=c;refine S5<|SF func238 (.cell z9e O Wp O (Sk.cells (n:=2) c (news:=[_,_]) O) O .nil) ?_;exact⟨_,O,O,q.An l (λi hi=>ω)⟩
 ·rw[if_pos ω] at h;rw[h]
  have M:K≠1:=λe=>by
   have G:s=0:=by rw[<-d,e];rfl
   have S:Q=1:=by rw[<-j,G]
   omega
  have R:1<=s:=(J ω).1;refine S6<|TV O<|UO O ?_;rw[show((s:Int)-1)=((s-1:Nat):Int) by omega];refine qV (VI (cs:=[_,_]) Wp O zfj O O) (Sm O (Ta (news:=[Su v,I ((s-1:Nat):Int)]) Wp O O O O o ξ) ?_);rintro w2⟨c,l⟩;replace c:Sk w2 r [Su v,I ((s-1:Nat):Int)] 351:=c;refine S5<|SF func238 (.cell z9e O Wp O (Sk.cells (n:=2) c (news:=[_,_]) O) O .nil) ?_;exact⟨_,O,O,q.An l (λi hi=>ω)⟩
def zdM (n:Nat)(h:n≠0):Tp n-1=Nat.log2 n/\1<=Tp n:=by
 unfold Tp;rw[if_neg h];exact⟨O,ω⟩
theorem z4J (c:Cd)(v:Nat)(hc:c.U8)(hv:v<=281474976710654)(w:World):SG prog 226 [cdV c,Su v] w λu w'=>u= .tuple #[I (c.zeros v:Int),.agg #[Su (c.p0 v).1,I ((c.p0 v).2:Int),Su 0,I 0]]/\Ext w w':=by
 obtain⟨l1,l2⟩:=zdM (v+1) ω
 obtain⟨V,T,g3⟩:=ZH hv
 obtain⟨b,o⟩:∃b,Nat.log2 (v+1)=b:=⟨_,O⟩
 rw[o] at l1 V T g3
 obtain⟨Q,W⟩:∃Q,2^b=Q:=⟨_,O⟩
 rw[W] at V
 have EU:Q<=281474976710656:=ω
 obtain⟨x,y,dR⟩:∃x y,W5 c=[x,y]:=by cases c<;>exact⟨_,_,O⟩
 refine py (e:=[(0,_),(1,_)]) func226 O ntmps226 O O<|qN O<|Sd O O (UD O (cs:=W5 c) O) ?_
 rintro _ w1⟨b2,rfl,bS,Z,a⟩
 refine Vj O<|Sd O O (UK (cs:=[_,_,_,_]) Yv O) ?_
 rintro _ w2⟨b5,rfl,gC,N,r⟩
 replace r:Sk w2 b5 [Su 0,I 0,Su 0,I 0] 352:=r
 refine qM O<|Sf O<|qV (YW O O) ?_
 rw[show(v+1)%18446744073709551616=v+1 by omega]
 refine TR O<|Sr z5U O (Y6 (v+1) ω w2) ?_
 rintro _ w2⟨rfl,rfl⟩
 refine UO O ?_
 rw[show((Tp (v+1):Int)-1)=((b:Nat):Int) by omega]
 refine Up O<|Sz O<|qV (UQ b Q O O ω W) ?_
 rw[show 1*Q%18446744073709551616=Q by omega]
 refine qV (z0q O O O (by show v+1<2^64;omega) V) ?_
 refine Sf O<|qV (VI (cs:=[_,_]) Wp O zfj O O)<|Sd O O (UK (cs:=[_,_]) Wp O) ?_
 rintro _ w3⟨K,rfl,iH,s,D⟩
 refine Sm O (Ta (news:=[Su (v+1-Q),I (b:Int)]) Wp O O O O D ξ) ?_
 rintro l⟨X,S⟩
 replace X:Sk l K [Su (v+1-Q),I (b:Int)] 351:=X
 have z1:=Z.size
 have z2:=N.size
 have z3:=s.size
 have a0:=a.lt
 have a1:=r.lt
 have j:=S.S4 (s.S4 (N.S4 a)) ω
 have A:=S.S4 (s.S4 r) ω
 have U:Ext w l:=((Z.trans N).trans s).An S (λi hi=>ω)
 cases c with
 | unary =>
   replace j:Sk l b2 [.int .u8 0,Su 0] 314:=j;have hg:=Ext.Sv l;refine S5 (It (qN O (Sn VK O (qV (Sc U5 O O j O) (S5 (S7 (qN O (U7 O (Ue (Sq O (Sb O (It (Sx [4] (λw'=>Ext l w') y00 O ?_)))))))))))));refine Te 0 O O hg (SB 1 O (T7 O Va U3 ω) hg (SB 3 O (UU O) hg (qL 2 O (λ_ h=>SO (news:=[Su 0,I 0,Su 0,I 0]) z5r O Yv O ((h.S4 A).cells (n:=4) O) O) hg (Wg [4] (qO 4 (SY (i:=4) O O (Ta (news:=[Su 0,I 0,Su 0,I 0]) Yv O O O O (hg.S4 A) ξ) ?_))))));rintro M⟨d,R⟩;refine⟨trivial,?_⟩;replace d:Sk M b5 [Su 0,I 0,Su 0,I 0] 352:=d;refine qE<|SI.qb (e:=[(1,_),(2,_),(4,_),(5,_)]) ?_;refine SF func226 (.tmp O (.cell z5r O Yv O (Sk.cells (n:=4) d (news:=[_,_,_,_]) O) O .nil)) ?_
   exact⟨_,O,O,(U.trans hg).An R (λi hi=>ω)⟩
 | gamma =>
   replace j:Sk l b2 [.int .u8 1,Su 0] 314:=j;have hg:=Ext.Sv l;refine S5<|It<|qN O<|Sn VK O<|qV (Sc U5 O O j O)<|S5<|S7<|qN O<|U7 O<|T0<|Sq O<|S9 O<|qN O<|U7 O ?_;refine Ue<|Sq O<|SI.qb (e:=[(1,_),(2,_),(4,_),(5,_),(6,_),(7,_),(8,_),(24,_),(30,_)]) ?_;refine Sb O (It (Sx [4] (λw'=>Ext l w') y00 O (Te 0 O O hg (SB 3 O (UU O) hg (qL 1 O (λ_ h=>SO (news:=[Su (v+1-Q),I (b:Int)]) z9e O Wp O ((h.S4 X).cells (n:=2) O) O) hg (SB 2 O (zjH (parts:=[(0,.tmp 33)]) (cs:=[_,_,_,_]) Yv O z5r Wp O O) hg (Wg [4] (qO 4 (SY (i:=4) O O (Ta (news:=[Su (v+1-Q),I (b:Int),Su 0,I 0]) Yv O O O O (hg.S4 A) ξ) ?_)))))))));rintro M⟨d,R⟩;refine⟨trivial,?_⟩;replace d:Sk M b5 [Su (v+1-Q),I (b:Int),Su 0,I 0] 352:=d;refine qE<|SF func226 (.tmp O (.cell z5r O Yv O (Sk.cells (n:=4) d (news:=[_,_,_,_]) O) O .nil)) ?_
   exact⟨_,O,by simp[TC,Cd.zeros,Cd.p0,o,W],(U.trans hg).An R (λi hi=>ω)⟩
 | zeta k =>
   obtain⟨C,am⟩:1<=k/\k<=16:=hc;have f:=z1M (k:=k) (v:=v) C;dsimp only at f;rw[o] at f;obtain⟨h,q⟩:∃h,b / k=h:=⟨_,O⟩;obtain⟨m,L⟩:∃m,h*k=m:=⟨_,O⟩;have KG:m<=b:=by rw[<-L,<-q];exact y1O _ _
   rw[q,L] at f;obtain⟨F,H⟩:∃F,2^m=F:=⟨_,O⟩;obtain⟨G,J⟩:∃G,2^k=G:=⟨_,O⟩;rw[H,J] at f;obtain⟨f1,f2,f3⟩:=f;obtain⟨E,B⟩:∃E,F*G=E:=⟨_,O⟩
   have EV:E<=9223372036854775808:=by
    rw[<-B,<-H,<-J,<-y0P];have:=y0v (show 0<2 by decide) (show m+k<=63 by omega);have P:(2:Nat)^63=9223372036854775808:=ψ
    omega
   rw[B] at f2 f3;have p:(Cd.zeta k).zeros v=h:=by show Nat.log2 (v+1) / k=h;rw[o,q]
   have t:(Cd.zeta k).p0 v=Vb (v+1-F) (E-F):=by
    show Vb (v+1-2^(Nat.log2 (v+1) / k*k)) (2^(Nat.log2 (v+1) / k*k)*2^k-2^(Nat.log2 (v+1) / k*k))=_;rw[o,q,L,H,J,B]
   rw[p,t];have g:(h:Int)*(k:Int)=(m:Int):=by rw[<-L];simp
   have gN:(b:Int) / (k:Int)=(h:Int):=by rw[<-q];simp
   replace j:Sk l b2 [.int .u8 3,Su k] 314:=j;refine S5<|It<|qN O<|Sn VK O<|qV (Sc U5 O O j O)<|S5<|S7<|qN O<|U7 O<|T0<|Sq O<|S9 O<|qN O<|U7 O ?_;refine T0<|Sq O<|SI.qb (e:=[(1,_),(2,_),(4,_),(5,_),(6,_),(7,_),(8,_),(24,_),(30,_)]) ?_;refine S9 O<|qN O<|U7 O<|T0<|Sq O<|S9 O<|qN O<|U7 O<|Ue<|Sq O<|Sb O<|qN O<|Sn z0C O<|qV (Sc Va O O j O) ?_;refine qV (T7 O Va U3 ω) (Up O (Sz O (qV (yqu O O ω) ?_)));rw[gN];refine Up O (Sz O (qV (Zf O O (by rw[g];omega)) ?_));rw[g];refine qV (UQ m F O O ω H) ?_;rw[show 1*F%18446744073709551616=F by omega];refine Sq O<|SI.qb (e:=[(1,_),(2,_),(4,_),(5,_),(6,_),(9,_),(10,_),(11,_)]) ?_;refine TV O (Sf O (qV (z0q O O O (by show v+1<2^64;omega) f1) ?_));refine Sz O (qV (UQ k G O O ω J) ?_);rw[B,y0e (show E<18446744073709551616 by omega)];refine Sf O (qV (z0q O O O (by show E<2^64;omega) ω) ?_);refine Sr zlK O (zbm (v+1-F) (E-F) f3 f2 ω l) ?_;rintro _ M⟨rfl,Y⟩;refine qV (zjH (parts:=[(0,.tmp 69)]) (cs:=[_,_,_,_]) Yv O z5r Wp O O)<|Vj O ?_;have zK:=Y.S4 A;refine Sm O (Ta (news:=[Su (Vb (v+1-F) (E-F)).1,I ((Vb (v+1-F) (E-F)).2:Int),Su 0,I 0]) Yv O O O O zK ξ) ?_;rintro w6⟨d,z⟩;replace d:Sk w6 b5 [Su (Vb (v+1-F) (E-F)).1,I ((Vb (v+1-F) (E-F)).2:Int),Su 0,I 0] 352:=d;refine S5<|SF func226 (.tmp O (.cell z5r O Yv O (Sk.cells (n:=4) d (news:=[_,_,_,_]) O) O .nil)) ?_;exact⟨_,O,O,(U.trans Y).An z (λi hi=>ω)⟩
end
def hiB (w:Nat):Nat->Nat->List Nat->List Bool
 |_,_,[]=>[]
 |len,i,v::r=>List.replicate (v / 2^w+i-len) false++true::hiB w (v / 2^w+i+1) (i+1) r
abbrev Nof (l:List Nat):Prop:=l.Pairwise (·<=·)
def Vd:List Bool->Nat->Option Nat
 |[],_=>none
 |true::l,0=>some 0
 |true::l,k+1=>(Vd l k).map (·+1)
 |false::l,k=>(Vd l k).map (·+1)
theorem Yd:∀(z:Nat)(l:List Bool) (k:Nat),Vd (List.replicate z false++l) k=(Vd l k).map (·+z)
 |0,l,k=>ξ
 | z + 1, l, k => by
   rw[y17,y0t,Vd,Yd z l k,y2i]
   congr 1
theorem z57 (w:Nat):∀(l:List Nat)(len i k:Nat) (v:Nat),Nof l->l[k]? =some v->(∀x,l.head? =some x->len<=x / 2^w+i)->Vd (hiB w len i l) k=some (v / 2^w+i+k-len)
 |[],len,i,k,v,_,h,_=>by simp at h
 | x :: r, len, i, 0, v, _, h, hl => by
   simp at h;subst h;have:=hl x O;rw[hiB,Yd,Vd]
   simp
 | x :: r, len, i, k + 1, v, hn, h, hl => by
   rw[y1N] at h;obtain⟨n1,n2⟩:=y1o.1 hn;have o:=hl x O;have d:x<=v:=n1 v (y0i h);have n:=y1Q (c:=2^w) d
   rw[hiB,Yd,Vd,z57 w r _ (i+1) k v n2 h (λy j=>by
    have e:x<=y:=n1 y (by cases r with
     |nil=>simp at j
     |cons a r=>simp at j;simp[j])
    have:=y1Q (c:=2^w) e
    omega)]
   simp;omega
theorem z36:∀(l:List Bool)(j p m:Nat),Vd l j=some p->Vd (l.drop p) m=(Vd l (j+m)).map (·-p)
 |[],j,p,m,h=>by simp[Vd] at h
 | true :: l, 0, p, m, h => by
   simp[Vd] at h;subst h
   simp
 | true :: l, j + 1, p, m, h => by
   simp only[Vd,y1W] at h;obtain⟨q,c,rfl⟩:=h;rw[y2j,z36 l j q m c,show j+1+m=(j+m)+1 by omega,Vd,y2i]
   congr 1
   funext x;simp
 | false :: l, j, p, m, h => by
   simp only[Vd,y1W] at h;obtain⟨q,c,rfl⟩:=h;rw[y2j,z36 l j q m c,Vd,y2i]
   congr 1
   funext x;simp
theorem z0v:∀(a b:List Bool)(k:Nat),Vd (a++b) k=if k<a.count true then Vd a k else(Vd b (k-a.count true)).map (·+a.length)
 |[],b,k=>ξ
 |true::a,b,0=>by simp[Vd]
 | true :: a, b, k + 1 => by
   rw[y0t,Vd,z0v a b k,List.count_cons_self];split
   ·rename_i h
    rw[if_pos ω,Vd]
   ·rename_i h
    rw[if_neg ω,y2i,show k+1-(a.count true+1)=k-a.count true by omega]
    congr 1
 | false :: a, b, k => by
   rw[y0t,Vd,z0v a b k,List.count_cons_of_ne ψ];split
   ·rw[Vd]
   ·rw[y2i]
    congr 1
def z3O:∀{l:List Bool} {k p:Nat},Vd l k=some p->p<l.length/\l[p]? =some true
 |true::l,0,p,h=>by simp[Vd] at h;subst h;simp
 | true :: l, k + 1, p, h => by
   simp only[Vd,y1W] at h;obtain⟨q,c,rfl⟩:=h;have:=z3O c
   simp;exact this
 | false :: l, k, p, h => by
   simp only[Vd,y1W] at h;obtain⟨q,c,rfl⟩:=h;have:=z3O c
   simp;exact this
 |[],k,p,h=>by simp[Vd] at h
theorem zci (w:Nat):∀(l:List Nat)(len i:Nat),Nof l->(∀x,l.head? =some x->len<=x / 2^w+i)->∀v,l.getLast? =some v->len+(hiB w len i l).length=v / 2^w+i+l.length
 |[],len,i,_,_,v,h=>by simp at h
 | [x], len, i, _, hl, v, h => by
   simp at h;subst h;have:=hl x O
   simp[hiB];omega
 | x :: y :: r, len, i, hn, hl, v, h => by
   obtain⟨n1,n2⟩:=y1o.1 hn;have j:=hl x O;have e:=y1Q (c:=2^w) (n1 y ξ);have:=zci w (y::r) (x / 2^w+i+1) (i+1) n2 (λz d=>by simp at d;subst d;omega) v (by simpa using h);rw[hiB,y01,y0b,y03];simp only[y03] at this⊢;omega
theorem z1B (z:Nat)(r:List Bool):T2 (List.replicate z false++true::r)=2^r.length+T2 r:=by
 induction z with
 |zero=>simp[T2]
 |succ z c=>rw[y17,y0t,T2,c];simp
theorem z7g (c:Cd)(v:Nat):c.rest v=SJ (c.p0 v).2 (c.p0 v).1:=by cases c<;>rfl
theorem z0G (c:Cd)(v:Nat):(c.enc v).length=c.zeros v+1+(c.p0 v).2:=by
 unfold Cd.enc
 rw[y01,y0b,y03,z7g,bitsN_length];omega
def Cd.z3W (c:Cd):c.most<=281474976710654:=by cases c<;>simp[Cd.most]
theorem ZJ:∀n:Nat,SJ n 0=List.replicate n false
 |0=>rfl
 |n+1=>by rw[SJ,ZJ n,y17];simp
theorem zdO (z:Nat):SJ (z+1) 1=List.replicate z false++[true]:=by
 refine z2u ξ ?_
 rw[TD,z1B]
 simp[T2]
theorem z0L {c:Cd}{v:Nat}(u:c.U8)(j:v<=c.most):c.zeros v<=65535/\(c.p0 v).2<=63/\(c.p0 v).1<2^(c.p0 v).2:=by
 cases c with
 |unary=>exact⟨j,by simp[Cd.p0],by simp[Cd.p0]⟩
 | gamma =>
   obtain⟨r,l,s⟩:=ZH j;refine⟨by show Nat.log2 (v+1)<=_;omega,by show Nat.log2 (v+1)<=_;omega,?_⟩;show v+1-2^Nat.log2 (v+1)<2^Nat.log2 (v+1);rw[y1R] at l
   omega
 | zeta k =>
   obtain⟨q,A⟩:1<=k/\k<=16:=u;obtain⟨r,l,s⟩:=ZH j;have f:=z1M (k:=k) (v:=v) q;dsimp only at f;have G:Nat.log2 (v+1) / k<=Nat.log2 (v+1):=y0S _ _;have H:Nat.log2 (v+1) / k*k<=Nat.log2 (v+1):=y1O _ _;refine⟨by show Nat.log2 (v+1) / k<=_;omega,?_,?_⟩
   ·show(Vb _ _).2<=63
    have B:Tp (2^(Nat.log2 (v+1) / k*k)*2^k-2^(Nat.log2 (v+1) / k*k)-1)<=63:=by
     refine UH ?_;have h:=y0v (show 0<2 by decide) (show Nat.log2 (v+1) / k*k+k<=63 by omega);rw[y0P] at h;have o:=f.2.2
     revert h o
     generalize 2^(Nat.log2 (v+1) / k*k)*2^k=E
     generalize 2^(Nat.log2 (v+1) / k*k)=F
     intro h o;omega
    unfold Vb;dsimp only;split<;>dsimp only<;>omega
   ·exact zd3 f.2.1
section
variable {e:Env}{d:Option Nat}{pos:String}{x:Operand}{n:Nat}{td:TypeDesc}
def zn7 [uZ:WX za n]{len size:Nat}{vs:Array Value}(ht:P.underlying t=some (.array len el))(c:TI P el z size bytes)(o:P.underlying el=some td)(j:aggOf td=true)(q:look e x=some (.agg vs))(r:look e y=some (.int k za))(l:n<len):
  Y P e ⟨d,.index t x y,ty,pos,aft,g⟩ (.agg (vs.extract (n*size) (n*size+size))) w w:=fun ρ h=>by
 obtain⟨rfl⟩:=uZ
 have c:=c.size (w:=w)
 simp[execOp,h _ _ q,h _ _ r,Instr.index,asIntOf,run_underlying ht,l,c,part,WU o,j]
end
section
theorem z7L (c:Cd)(v:Nat)(o:c.U8)(A:v<=c.most)(w:World):SG prog 200 [cdV c,Su v] w λu w'=>u= .tuple #[I ((c.enc v).length:Int),I 0]/\Ext w w':=by
 obtain⟨x,y,h⟩:∃x y,W5 c=[x,y]:=by cases c<;>exact⟨_,_,O⟩
 obtain⟨Q,R,-⟩:=z0L o A
 have M:=z0G c v
 have L:=c.z3W
 refine py (e:=[(0,_),(1,_)]) func200 O ntmps200 O O<|qN O<|Sd O O (UD O (cs:=W5 c) O) ?_
 rintro _ w1⟨b2,rfl,J,q,s⟩
 refine To O<|It<|qN O<|qV (SO (news:=W5 c) Vy O Un O (s.cells (n:=2) (by rw[h];rfl)) (by rw[h];rfl)) ?_
 refine Sf O<|Sr zml O (zeE c v o A w1) ?_
 rintro _ w2⟨rfl,l⟩
 refine qV (Vn O)<|Tt O<|qN O<|qV (SO (news:=W5 c) Vy O Un O ((l.S4 s).cells (n:=2) (by rw[h];rfl)) (by rw[h];rfl)) ?_
 refine Sf O<|Sr zi6 O (z4J c v o ω w2) ?_
 rintro _ S⟨rfl,r⟩
 refine Sf O<|Vk O<|Sd O O (UK (cs:=[_,_,_,_]) Yv O) ?_
 rintro _ U⟨b7,rfl,N,B,G⟩
 refine Vj O<|Sm O (Ta (news:=[Su (c.p0 v).1,I ((c.p0 v).2:Int),Su 0,I 0]) Yv O O O O G ξ) ?_
 rintro H⟨j,E⟩
 replace j:Sk H b7 [Su (c.p0 v).1,I ((c.p0 v).2:Int),Su 0,I 0] 352:=j
 refine qM O<|Sf O<|Tr O<|qV (yia z5r Wp O O ω)<|Sn z3M O<|qV (Sc U3 O O j O)<|Tr O<|qV (yia z5r Wp O O ω)<|Sn z3M O<|qV (Sc U3 O O j O)<|Tr O<|To O<|SI.qb (e:=[(4,_),(5,_)]) ?_
 refine S3 func200 O ?_
 have V:=q.size
 have W:=l.size
 have X:=r.size
 refine⟨_,O,?_,(((q.trans l).trans r).trans B).An E (λi hi=>ω)⟩
 simp only[TC]
 congr 4
 omega
theorem zfh {p:Nat}(h:WrA w p bs F)(c:Cd)(v:Nat)(D:c.U8)(hv:v<=c.most)(hl:bs.length+(c.enc v).length<=134217728):
  SG prog 201 [ptr p 0,cdV c,Su v] w λu w'=>u=I 0/\WrR p F w w' (bs++c.enc v):=by
 obtain⟨x,y,V⟩:∃x y,W5 c=[x,y]:=by cases c<;>exact⟨_,_,O⟩
 obtain⟨q1,q2,q3⟩:=z0L D hv
 have mW:=z0G c v
 have fI:=c.z3W
 refine py (e:=[(0,_),(1,_),(2,_)]) func201 O ntmps201 O O<|qN O<|Sd O O (UD O (cs:=W5 c) O) ?_
 rintro _ w1⟨b4,rfl,fO,b,aG⟩
 refine Sq O<|SX O<|qV (T9 z5u O O)<|Tt O<|qN O<|qV (SO (news:=W5 c) Vy O Un O (aG.cells (n:=2) (by rw[V];rfl)) (by rw[V];rfl)) ?_
 refine Sf O<|Sr zil O (z7L c v D hv w1) ?_
 rintro _ w2⟨rfl,S⟩
 refine Sf O<|Vk O<|To O<|TZ<|SE O<|TK O<|Sq O<|So O (λe0=>?_)<|λe0=>?_
 ·exact absurd O e0
 ·refine TV O<|Sr z5Y O (Za ((h.ext b).ext S)) ?_; rintro _ w2⟨rfl, rfl⟩; refine UO O (Ub O (Sq O (So O (λe1 => ?_) (λe1 => ?_))))
  ·omega
  ·refine S6 (S2 (qN O (qV (SO (news := W5 c) Vy O Un O ((S.S4 aG).cells (n := 2) (by rw [V]; rfl)) (by rw [V]; rfl)) ?_))); refine Sf O (Sr zi6 O (z4J c v D ω w2) ?_); rintro _ w3⟨rfl, ah⟩; refine Sf O (Vk O (Sd O O (UK (cs := [_, _, _, _]) Yv O) ?_)); rintro _ w4⟨j, rfl, zL, aA, eP⟩; refine Vj O (Sm O (Ta (news := [Su (c.p0 v).1, I ((c.p0 v).2 : Int), Su 0, I 0]) Yv O O O O eP ξ) ?_); rintro r⟨W, ai⟩; replace W : Sk r j [Su (c.p0 v).1, I ((c.p0 v).2 : Int), Su 0, I 0] 352 := W; have z1 := b.size; have z2 := S.size; have z3 := ah.size; have C : Ext w r := (((b.trans S).trans ah).trans aA).An ai (λi hi => by omega); have z5 := C.size; have a1 := W.lt; have lw : ∀ i, F i -> i < w.heap.size := λi hi => h.lt hi
   have KH:∀(Y:Nat->Prop),(∀k,Y k->F k\/r.heap.size<=k)->¬Y j:=λY hf e=>by
    rcases hf j e with e| e
    ·have:=lw j e;omega
    ·omega
   refine S5<|SI.qb (e:=[(0,_),(6,_),(9,_),(10,_)]) ?_;refine TZ<|UW (α:=Nat×(Nat->Prop)×List Bool) (c.zeros v,F,bs) (λx=>[(0,ptr p 0),(9,I (x.1:Int)),(10,ptr j 0)]) (λx w'=>x.1<=c.zeros v/\WrA w' p x.2.2 x.2.1/\x.2.2=bs++List.replicate (c.zeros v-x.1) false/\Kp F w w'/\(∀k,x.2.1 k->F k\/r.heap.size<=k)/\Sk w' j [Su (c.p0 v).1,I ((c.p0 v).2:Int),Su 0,I 0] 352/\r.heap.size<=w'.heap.size) (λx=>x.1) ?hI ?hround
   case hI=>exact⟨y07 _,h.ext C,ξ,C.kp,λ_ h=> .inl h,W,y07 _⟩
   case hround =>
    rintro⟨z,F1,b1⟩ w6 ⟨hz,P,U,aI,G,aW,z6⟩ M;dsimp only at hz P U G;have gt:b1.length=bs.length+(c.zeros v-z):=by rw[U,y01,y0b]
    try dsimp only
    refine SX O<|Ub O<|S5<|So O (λaN=>?_)<|λaN=>?_
    ·refine S6 (TZ (Uw O (Sr z0m O (VT P 0 63 ψ ψ ω) ?_)));rintro _ w7⟨rfl,R,X,A,K⟩;have t:=A.S4 aW (KH F1 G);have z7:=A.size;refine S5<|S2<|Uw O<|UO O<|Sq O ?_;rw[show((z:Int)-63)=((z-63:Nat):Int) by omega];refine(M (z-63,R,b1++SJ 63 0) w7 ⟨by dsimp only;omega,X,?_,?_,?_,t,ω⟩ (by dsimp only;omega)).qb
     ·dsimp only;rw[U,ZJ,y06,y2W,show c.zeros v-z+63=c.zeros v-(z-63) by omega]
     ·exact aI.An A (λi hi=>(G i hi).elim .inr (λe=> .inl ω))
     ·intro i hi;rcases K i hi with e| e
      ·exact G i e
      ·exact .inr ω
    ·refine Sh O<|SX O<|WZ O<|S5<|So O (λg0=>?_)<|λg0=>?_
     ·refine Sg O<|Sz O<|Tr O ?_;rw[show((z:Int)+1)=((z+1:Nat):Int) by omega];refine Sr z0m O (VT P 1 (z+1) ω (by have:=y0v (show 0<2 by decide) (show 1<=z+1 by omega);omega) ω) ?_;rintro _ w7⟨rfl,R,X,A,K⟩;have t:=A.S4 aW (KH F1 G);have z7:=A.size;have oR:Kp F w w7:=aI.An A (λi hi=>(G i hi).elim .inr (λe=> .inl ω));have EY:∀i,R i->F i\/r.heap.size<=i:=λi hi=>(K i hi).elim (G i) (λe=> .inr ω)
      have lu:b1++SJ (z+1) 1=bs++(List.replicate (c.zeros v) false++[true]):=by
       rw[U,zdO,y06]
       congr 1
       rw[<-y06,y2W,show c.zeros v-z+z=c.zeros v by omega]
      rw[lu] at X;clear M;refine S5<|It<|qN O<|qV (SO (news:=[Su (c.p0 v).1,I ((c.p0 v).2:Int),Su 0,I 0]) z5r O Yv O (t.cells (n:=4) O) O)<|Sf O<|S5<|S7<|UW (α:=Nat×(Nat->Prop)×List Bool) (0,R,bs++(List.replicate (c.zeros v) false++[true])) (λx=>[(0,ptr p 0),(49,.agg #[Su (c.p0 v).1,I ((c.p0 v).2:Int),Su 0,I 0]),(50,I (x.1:Int))]) (λx w'=>x.1<=2/\WrA w' p x.2.2 x.2.1/\x.2.2=(bs++(List.replicate (c.zeros v) false++[true]))++(if x.1=0 then [] else c.rest v)/\Kp F w w'/\(∀k,x.2.1 k->F k\/r.heap.size<=k)/\r.heap.size<=w'.heap.size) (λx=>2-x.1) ?hI ?hround
      case hI=>exact⟨by dsimp only;omega,X,ξ,oR,EY,ω⟩
      case hround=>
       rintro⟨i,F8,f⟩ w8 ⟨hi,Q,q,a,J,z8⟩ M;dsimp only at hi Q q J
       try dsimp only
       refine qN O<|TW O<|S5<|It<|So O (λn6=>?_)<|λn6=>?_
       ·have zM:f.length<=bs.length+(c.zeros v+1)+(if i=0 then 0 else(c.p0 v).2):=by
         rw[q];simp only[y01,y0b,y03,y1e];split
         ·simp
         ·rw[z7g,bitsN_length];omega
        refine S6<|TZ<|qN O ?_;rcases (show i=0\/i=1 by omega) with rfl|rfl
        ·rw[if_pos O] at zM q;refine qV (zn7 (n:=0) z5r Wp z9e O O O ψ) ?_;rw[show(#[Su (c.p0 v).1,I ((c.p0 v).2:Int),Su 0,I 0]:Array Value).extract (0*2) (0*2+2)=#[Su (c.p0 v).1,I ((c.p0 v).2:Int)] from rfl];refine Sd O O (UK (cs:=[_,_]) Wp O) ?_;rintro _ w9⟨B,rfl,EZ,L,g⟩;refine Sm O (Ta (news:=[Su (c.p0 v).1,I ((c.p0 v).2:Int)]) Wp O O O O g ξ) ?_;rintro l⟨o,Z⟩;replace o:Sk l B [Su (c.p0 v).1,I ((c.p0 v).2:Int)] 351:=o;have z9:=L.size;have E:Ext w8 l:=L.An Z (λi hi=>ω);have a0:=E.size;refine S5 (Uw O (Sn zcc O (qV (Sc Va O O o O) (Sn z3M O (qV (Sc U3 O O o O) (Sr z0m O (VT (Q.ext E) (c.p0 v).1 (c.p0 v).2 ω q3 ω) ?_))))));rintro _ H⟨rfl,s,T,m,vw⟩;have N:=E.kp.trans m;refine S5<|S2<|Sg O<|Tr O<|Sf O<|S5 ((M (1,s,f++SJ (c.p0 v).2 (c.p0 v).1) H ⟨by dsimp only;omega,T,?_,?_,?_,?_⟩ (by dsimp only;omega)).qb)
         ·dsimp only;rw[q];rw[y0q,if_neg ψ,z7g]
         ·exact a.An N (λi hi=>(J i hi).elim .inr (λe=> .inl ω))
         ·intro i hi;rcases vw i hi with e| e
          ·exact J i e
          ·exact .inr ω
         ·have:=N.size;omega
        ·rw[if_neg ψ] at zM q;refine qV (zn7 (n:=1) z5r Wp z9e O O O ψ) ?_;rw[show(#[Su (c.p0 v).1,I ((c.p0 v).2:Int),Su 0,I 0]:Array Value).extract (1*2) (1*2+2)=#[Su 0,I 0] from rfl];refine Sd O O (UK (cs:=[_,_]) Wp O) ?_;rintro _ w9⟨B,rfl,EZ,L,g⟩;refine Sm O (Ta (news:=[Su 0,I 0]) Wp O O O O g ξ) ?_;rintro l⟨o,Z⟩;replace o:Sk l B [Su 0,I 0] 351:=o;have z9:=L.size;have E:Ext w8 l:=L.An Z (λi hi=>ω);have a0:=E.size;refine S5 (Uw O (Sn zcc O (qV (Sc Va O O o O) (Sn z3M O (qV (Sc U3 O O o O) (Sr z0m O (VT (Q.ext E) 0 0 ω ψ ω) ?_))))));rintro _ H⟨rfl,s,T,m,vw⟩;have N:=E.kp.trans m;refine S5<|S2<|Sg O<|Tr O<|Sf O<|S5 ((M (2,s,f++SJ 0 0) H ⟨by dsimp only;omega,T,?_,?_,?_,?_⟩ (by dsimp only;omega)).qb)
         ·dsimp only;rw[q];rw[if_neg ψ];simp[SJ]
         ·exact a.An N (λi hi=>(J i hi).elim .inr (λe=> .inl ω))
         ·intro i hi;rcases vw i hi with e| e
          ·exact J i e
          ·exact .inr ω
         ·have:=N.size;omega
       ·have:i=2:=ω
        subst this;rw[if_neg ψ] at q;refine Sh O (TU O (S3 func201 O (⟨_,O,O,F8,?_,a,λi hi=>(J i hi).imp id (λe=>ω)⟩)));rw[q] at Q;unfold Cd.enc
        simpa using Q
     ·omega
end
structure RgM (w:World)(x r:Nat)(s:Sa)(a:Nat):Prop where
 S4:Sk w x [ptr r 0,.bool false] 366
 rd:Xz w r s a
 ne:x≠r
def RgM.ext {x r:Nat}{s:Sa}{a:Nat}(h:RgM w x r s a)(k:Ext w w'):RgM w' x r s a:=⟨k.S4 h.S4,⟨k.S4 h.rd.1,h.rd.2⟩,h.ne⟩
section
variable {x r:Nat}{s:Sa}{a:Nat}
def z0X (h:RgM w x r s a)(n:Nat)(B:n<=64)(G:a+n<=8*s.length):
  SG prog 252 [ptr x 0,I (n:Int)] w λv w'=>v=Su (T2 (((SA s).drop a).take n))/\RgM w' x r s (a+n)/\Kp (λk=>k=x\/k=r) w w':=by
 obtain⟨hB,A,d⟩:=h
 refine py (e:=[(0,_),(1,_)]) func252 O ntmps252 O O<|qN O<|TR O<|SC O<|Sn zgE O<|qV (Sc Ye O O hB O)<|Sf O<|Sr z9o O (Zs A n B) ?_
 rintro E w1 u
 obtain⟨rfl,q,j⟩:E= .tuple #[Su (T2 (((SA s).drop a).take n)),I 0]/\Xz w1 r s (a+n)/\Kp (λk=>k=r) w w1:=by
  rcases u with⟨-,h⟩|⟨h,-⟩
  ·exact h
  ·omega
 have l:=j.S4 hB d
 refine Sf O<|Vk O<|Vj O<|Up O<|Sz O<|SC O<|Sn z3U O<|qV (Sc U4 O O l O)<|Sz O<|TK O<|T0<|Td O<|SC O<|Sn z3U O ?_
 refine Sm O (TO Xh O O O l ξ) ?_
 rintro w2⟨c,o⟩
 replace c:Sk w2 x [ptr r 0,.bool false] 366:=c
 refine S5<|SI.qb (e:=[(4,_),(5,_)]) ?_
 refine SE O<|Sq O<|S3 func252 O ?_
 exact⟨_,O,O,⟨c,⟨o.S4 q.1 (Ne.symm d),q.2⟩,d⟩,(j.Se (λk e=> .inr e)).trans (o.Se (λk e=> .inl e))⟩
def z1O (h:RgM w x r s a)(z most:Nat)(rest:List Bool)(q:(SA s).drop a=List.replicate z false++true::rest)(L:z<=most)(H:most<=65535):
  SG prog 250 [ptr x 0,I (most:Int)] w λv w'=>v=I (z:Int)/\RgM w' x r s (a+z+1)/\Kp (λk=>k=x\/k=r) w w':=by
 have G:a+z+1<=8*s.length:=by
  have:=congrArg List.length q;rw[y08,bitsT_length,y01,y0b,y03] at this;omega
 refine py (e:=[(0,_),(1,_)]) func250 O ntmps250 O O<|TU O<|It<|TU O<|S7<|UW (α:=Nat) (0) (λn=>[(0,ptr x 0),(1,I (most:Int)),(5,I (n:Int))]) (λn w'=>n<=z/\RgM w' x r s (a+n)/\Kp (λk=>k=x\/k=r) w w') (λn=>z-n) ?hI ?hround
 case hI=>exact⟨y02 _,h,Kp.refl _ _⟩
 case hround=>
  rintro n w1⟨J,l,d⟩ E;have u:=l.S4
  have A:(SA s).drop (a+n)=List.replicate (z-n) false++true::rest:=by
   rw[<-y0G,q,y1j (by simp;omega),List.drop_replicate]
  try dsimp only
  refine It<|TV O<|zle O<|Sf O<|W4 (λc1=>?_)<|λc1=>?_
  ·have B:T2 (((SA s).drop (a+n)).take 1)=if n=z then 1 else 0:=by
    rw[A];by_cases e:n=z
    ·subst e;rw[y1w,if_pos O];rfl
    ·rw[if_neg e,show z-n=(z-n-1)+1 by omega,y17];rfl
   refine Sf O (SC O (Sn z3U O (qV (Sc U4 O O u O) (qV (Vn O) (Uj O (S5 (Sb O (S6 (TZ (SE O (Sr zbZ O (z0X l 1 ψ ω) ?_)))))))))));rintro _ w2⟨rfl,o,j⟩;rw[B];refine U7 O<|S5<|So O (λc2=>?_)<|λc2=>?_
   ·have c:n=z:=by
     by_cases e:n=z
     ·exact e
     ·rw[if_neg e] at c2;simp at c2
    subst c;refine SE O<|Sq O<|S3 func250 O ?_;exact⟨_,O,O,o,d.trans j⟩
   ·have c:n≠z:=λe=>by rw[if_pos e] at c2;simp at c2
    refine S6<|S2<|Uw O<|Tr O<|Sq O ?_;exact(E (n+1) w2 ⟨ω,by rw[<-y1B];exact o,d.trans j⟩ ω).qb
  ·omega
def zaG (h:RgM w x r s a)(z q:Nat)(rest:List Bool)(j:(SA s).drop a=List.replicate z false++true::(SJ z q++rest))(l:q<2^z)(G:z<=47):
  SG prog 251 [ptr x 0,I 47] w λv w'=>v=Su (q+2^z-1)/\RgM w' x r s (a+z+1+z)/\Kp (λk=>k=x\/k=r) w w':=by
 have J:a+z+1+z<=8*s.length:=by
  have:=congrArg List.length j;rw[y08,bitsT_length,y01,y0b,y03,y01,bitsN_length] at this;omega
 have B:(SA s).drop (a+z+1)=SJ z q++rest:=by
  rw[show a+z+1=a+(z+1) by omega,<-y0G,j];rw[<-y0G,y11 ξ];rfl
 have E:T2 (((SA s).drop (a+z+1)).take z)=q:=by
  rw[B,y1a ξ,TD,y0e l]
 obtain⟨Q,d⟩:∃Q,2^z=Q:=⟨_,O⟩
 rw[d] at l⊢
 have H:1<=Q/\Q<=281474976710656:=by
  rw[<-d];exact⟨y0z _,by have:=y0v (show 0<2 by decide) (show z<=48 by omega);simpa using this⟩
 refine py (e:=[(0,_),(1,_)]) func251 O ntmps251 O O<|qN O<|Up O<|Sz O<|Sr zf4 O (z1O h z 47 _ j G ψ) ?_
 rintro _ w1⟨rfl,u,o⟩
 have hg:=Ext.Sv w1
 refine Sq O<|It<|Ux (λw'=>Kp (λk=>k=x\/k=r) w1 w') O<|St 0 O O hg.kp<|St 1 O O hg.kp<|St 3 O O hg.kp<|S8 4 O (UQ z Q O O ω d) hg.kp ?_
 rw[show 1*Q%18446744073709551616=Q by omega]
 refine VF 2 O zbZ O (z0X (u.ext hg) z ω ω) ?_
 rintro _ w2⟨rfl,A,c⟩
 refine⟨hg.kp.trans c,?_⟩
 rw[E]
 refine S8 5 O (YW O O) (hg.kp.trans c) ?_
 rw[show(q+Q)%18446744073709551616=q+Q by omega]
 refine S8 6 O (z0q (n:=1) O O O (by show q+Q<2^64;omega) ω) (hg.kp.trans c) ?_
 refine S8 7 O (UU O) (hg.kp.trans c)<|qE<|S3 func251 O ?_
 exact⟨_,O,O,A,o.trans (hg.kp.trans c)⟩
theorem zaY (h:RgM w x r s a)(v K:Nat)(rest:List Bool)(o:(SA s).drop a=Uh v K++rest)(L:v<K)(X:K<=9223372036854775808):
  SG prog 253 [ptr x 0,Su K] w λu w'=>u=Su v/\RgM w' x r s (a+(Uh v K).length)/\Kp (λk=>k=x\/k=r) w w':=by
 have S:a+(Uh v K).length<=8*s.length:=by
  have:=congrArg List.length o;have U:=h.rd.2.1;rw[y08,bitsT_length,y01] at this;omega
 refine py (e:=[(0,_),(1,_)]) func253 O ntmps253 O O<|qN O<|TR O<|qV (z0q (n:=1) O O O (by show K<2^64;omega) ω) ?_
 refine Sr z5U O (Y6 (K-1) ω w) ?_
 rintro _ w⟨rfl,rfl⟩
 refine Sq O<|SX O<|U7 O<|S5 ?_
 by_cases H:K=1
 ·subst H;have N:v=0:=ω
  subst N;rw[show Tp (1-1)=0 from rfl];refine So O (λc0=>?_)<|λc0=>?_
  ·refine TU O<|S3 func253 O ?_;exact⟨_,O,O,h,Kp.refl _ _⟩
  ·exact absurd O c0
 ·have f:=zaV L ω rest;dsimp only at f;obtain⟨n,q⟩:∃n,Tp (K-1)=n:=⟨_,O⟩;rw[q] at f⊢;have g:=YQ (K:=K) ω;rw[q] at g;obtain⟨Q,l⟩:∃Q,2^n=Q:=⟨_,O⟩;rw[l] at f g;obtain⟨f1,f2,f3⟩:=f
  have I:n<=63:=by
   rw[<-q];have j:(2:Nat)^63=9223372036854775808:=ψ
   exact UH ω
  have R:Q<=9223372036854775808:=by
   rw[<-l];have:=y0v (show 0<2 by decide) I;have j:(2:Nat)^63=9223372036854775808:=ψ
   omega
  have t1:((SA s).drop a).take (n-1)=(Uh v K).take (n-1):=by rw[o,y1v f2]
  obtain⟨u,A⟩:∃u,T2 ((Uh v K).take (n-1))=u:=⟨_,O⟩
  have W:u<Q:=by
   have c:=Uy ((Uh v K).take (n-1));rw[A,y0c] at c;have E:=y0v (show 0<2 by decide) (show min (n-1) (Uh v K).length<=n by omega);omega
  rw[A] at f3;refine So O (λc0=>?_)<|λc0=>?_
  ·omega
  ·refine S6 (SE O (qV (UQ n Q O O ω l) ?_));rw[show 1*Q%18446744073709551616=Q by omega];refine Sf O (qV (z0q O O O (by show Q<2^64;omega) g.1) ?_);refine Up O<|Sz O<|UO O ?_;rw[show((n:Int)-1)=((n-1:Nat):Int) by omega];refine Sr zbZ O (z0X h (n-1) ω ω) ?_;rintro _ w1⟨rfl,c,B⟩;rw[t1,A];refine Sq O<|It<|TV O<|WZ O<|S5<|So O (λc1=>?_)<|λc1=>?_
   ·obtain⟨M,d,G⟩:Q-K<=u/\(Uh v K).length=n/\2*u+T2 ((Uh v K).drop (n-1))=v+(Q-K):=by
     rcases f3 with⟨e,-⟩| e
     ·omega
     ·exact e
    have t2:((SA s).drop (a+(n-1))).take 1=(Uh v K).drop (n-1):=by
     rw[<-y0G,o,y1j f2,y1v (by rw[y08];omega),y0B (by rw[y08];omega)]
    have V:T2 ((Uh v K).drop (n-1))<2:=by
     have:=Uy ((Uh v K).drop (n-1));rw[y08,d,show n-(n-1)=1 by omega] at this;exact this
    refine Uw O (qV (UQ 1 2 O O ψ O) ?_);rw[show u*2%18446744073709551616=u*2 by omega];refine Sf O (Sr zbZ O (z0X c 1 ψ ω) ?_);rintro _ w2⟨rfl,E,J⟩;rw[t2];refine qV (YW O O) ?_;rw[show(u*2+T2 ((Uh v K).drop (n-1)))%18446744073709551616=v+(Q-K) by omega];refine Sf O (qV (z0q O O O (by show v+(Q-K)<2^64;omega) ω) ?_);rw[show v+(Q-K)-(Q-K)=v by omega];refine Sq O<|SI.qb (e:=[(4,_),(7,_)]) ?_;refine SE O<|Sq O<|S3 func253 O ?_;rw[d];exact⟨_,O,O,by rw[show a+n=a+(n-1)+1 by omega];exact E,B.trans J⟩
   ·obtain⟨M,d,G⟩:u<Q-K/\(Uh v K).length=n-1/\u=v:=by
     rcases f3 with e|⟨e,-⟩
     ·exact e
     ·omega
    refine S6<|SE O<|Sq O<|S3 func253 O ?_;rw[d];exact⟨_,O,by rw[G];rfl,c,B⟩
end
section
variable {x r:Nat}{s:Sa}{a:Nat}
theorem z9y (h:RgM w x r s a)(c:Cd)(v:Nat)(y:c.U8)(Q:v<=c.most)(rest:List Bool)(o:(SA s).drop a=c.enc v++rest):
  SG prog 242 [ptr x 0,cdV c] w λu w'=>u=Su v/\RgM w' x r s (a+(c.enc v).length)/\Kp (λk=>k=x\/k=r) w w':=by
 have V:=z0G c v
 have eG:=h.S4.lt
 have iV:=h.rd.1.lt
 have T:a+(c.enc v).length<=8*s.length:=by
  have:=congrArg List.length o;have ha:=h.rd.2.1;rw[y08,bitsT_length,y01] at this;omega
 unfold Cd.enc at o
 rw[y06,y0t] at o
 cases c with
 | unary =>
   refine py (e:=[(0,_),(1,_)]) func242 O ntmps242 O O<|qN O<|Sd O O (UD O (cs:=[.int .u8 0,Su 0]) O) ?_;rintro _ w1⟨b3,rfl,U,j,l⟩;refine Sq O (It (qN O (Sn VK O (qV (Sc U5 O O l O) (S5 (S7 (qN O (U7 O (Ue (Sq O (Sb O (SE O (Sr zf4 O (z1O (h.ext j) v 65535 rest o Q ψ) ?_)))))))))))));rintro _ w2⟨rfl,B,I⟩;have fQ:v<=65535:=Q;refine qV (TM O U3 Va ω)<|Sq O<|S3 func242 O (⟨_,O,O,?_,j.kp.trans I⟩);have e:(Cd.enc .unary v).length=v+1:=by rw[V];rfl
   rw[e];exact B
 | gamma =>
   obtain⟨R,J,A⟩:=ZH Q;obtain⟨z,d⟩:∃z,Nat.log2 (v+1)=z:=⟨_,O⟩;rw[d] at R J A;rw[y1R] at J
   have q:(SA s).drop a=List.replicate z false++true::(SJ z (v+1-2^z)++rest):=by
    rw[o];show List.replicate (Nat.log2 (v+1)) false++true::(SJ (Nat.log2 (v+1)) (v+1-2^Nat.log2 (v+1))++rest)=_;rw[d]
   have e:(Cd.enc .gamma v).length=z+1+z:=by rw[V];show Nat.log2 (v+1)+1+Nat.log2 (v+1)=_;rw[d]
   refine py (e:=[(0,_),(1,_)]) func242 O ntmps242 O O<|qN O<|Sd O O (UD O (cs:=[.int .u8 1,Su 0]) O) ?_;rintro _ w1⟨b3,rfl,U,j,l⟩;refine Sq O<|It<|qN O<|Sn VK O<|qV (Sc U5 O O l O)<|S5<|S7<|qN O<|U7 O<|T0<|Sq O<|S9 O<|qN O<|U7 O ?_;refine Ue (Sq O (Sb O (SE O (Sr zl9 O (zaG (h.ext j) z (v+1-2^z) rest q ω A) ?_))));rintro _ w2⟨rfl,B,I⟩;rw[show v+1-2^z+2^z-1=v by omega];refine Sq O<|S3 func242 O (⟨_,O,O,?_,j.kp.trans I⟩)
   rw[e,show a+(z+1+z)=a+z+1+z by omega];exact B
 | zeta k =>
   obtain⟨Z,I⟩:1<=k/\k<=16:=y;obtain⟨R,J,A⟩:=ZH Q;have f:=z1M (k:=k) (v:=v) Z;dsimp only at f;obtain⟨b,S⟩:∃b,Nat.log2 (v+1)=b:=⟨_,O⟩;rw[S] at f R J A;obtain⟨z,d⟩:∃z,b / k=z:=⟨_,O⟩;obtain⟨m,H⟩:∃m,z*k=m:=⟨_,O⟩;have K:m<=b:=by rw[<-H,<-d];exact y1O _ _
   have X:z<=47 / k:=by rw[<-d];exact y1Q A
   have P:47 / k<=47:=y0S _ _;rw[d,H] at f
   have q:(SA s).drop a=List.replicate z false++true::(Uh (v+1-2^m) (2^m*2^k-2^m)++rest):=by
    rw[o];show List.replicate (Nat.log2 (v+1) / k) false++true::(Uh (v+1-2^(Nat.log2 (v+1) / k*k)) (2^(Nat.log2 (v+1) / k*k)*2^k-2^(Nat.log2 (v+1) / k*k))++rest)=_;rw[S,d,H]
   obtain⟨F,M⟩:∃F,2^m=F:=⟨_,O⟩;obtain⟨G,N⟩:∃G,2^k=G:=⟨_,O⟩;rw[M,N] at f q;obtain⟨f1,f2,f3⟩:=f;obtain⟨E,L⟩:∃E,F*G=E:=⟨_,O⟩
   have D:E<=9223372036854775808:=by
    rw[<-L,<-M,<-N,<-y0P];have:=y0v (show 0<2 by decide) (show m+k<=63 by omega);have i:(2:Nat)^63=9223372036854775808:=ψ
    omega
   rw[L] at f2 f3 q
   have e:(Cd.enc (.zeta k) v).length=z+1+(Uh (v+1-F) (E-F)).length:=by
    rw[Cd.enc,y01,y0b,y03];show Nat.log2 (v+1) / k+((Uh (v+1-2^(Nat.log2 (v+1) / k*k)) (2^(Nat.log2 (v+1) / k*k)*2^k-2^(Nat.log2 (v+1) / k*k))).length+1)=_;rw[S,d,H,M,N,L];omega
   have C:(SA s).drop (a+z+1)=Uh (v+1-F) (E-F)++rest:=by
    rw[show a+z+1=a+(z+1) by omega,<-y0G,q];rw[<-y0G,y11 ξ];rfl
   have W:(z:Int)*(k:Int)=(m:Int):=by rw[<-H];simp
   have p:(47:Int) / (k:Int)=((47 / k:Nat):Int):=ξ
   refine py (e:=[(0,_),(1,_)]) func242 O ntmps242 O O<|qN O<|Sd O O (UD O (cs:=[.int .u8 3,Su k]) O) ?_;rintro _ w1⟨b3,rfl,U,j,l⟩;refine Sq O<|It<|qN O<|Sn VK O<|qV (Sc U5 O O l O)<|S5<|S7<|qN O<|U7 O<|T0<|Sq O<|S9 O<|qN O<|U7 O ?_;refine T0<|Sq O<|S9 O<|qN O<|U7 O<|T0<|Sq O<|S9 O<|qN O<|U7 O<|Ue<|Sq O<|Sb O<|qN O ?_;refine Sn z0C O (qV (Sc Va O O l O) (qV (T7 O Va U3 ω) (Up O (Sz O (qV (yqu O O ω) ?_)))));rw[p];refine Sr zf4 O (z1O (h.ext j) z (47 / k) _ q X ω) ?_;rintro _ w2⟨rfl,B,Y⟩;refine Sf O (qV (Zf O O (by rw[W];omega)) ?_);rw[W];refine qV (UQ m F O O ω M) ?_;rw[show 1*F%18446744073709551616=F by omega];refine Sq O<|SI.qb (e:=[(0,_),(3,_),(4,_),(6,_),(7,_)]) ?_;refine TV O (Sf O (qV (UQ k G O O ω N) ?_));rw[L,y0e (show E<18446744073709551616 by omega)];refine Sf O (qV (z0q O O O (by show E<2^64;omega) ω) ?_);refine Sr zmJ O (zaY B (v+1-F) (E-F) rest C f2 ω) ?_;rintro _ w3⟨rfl,t,g⟩;refine Sf O<|qV (YW O O) ?_;rw[show(v+1-F+F)%18446744073709551616=v+1 by omega];refine qV (z0q (n:=1) O O O (by show v+1<2^64;omega) ω) ?_;rw[show v+1-1=v by omega];refine Sq O<|S3 func242 O (⟨_,O,O,?_,(j.kp.trans Y).trans g⟩);rw[e,show a+(z+1+(Uh (v+1-F) (E-F)).length)=a+z+1+(Uh (v+1-F) (E-F)).length by omega];exact t
end
def zay {tmps:Array Value}{R:Ending->World->Prop}{g:FuncId}{cap:List Value}{S:Value->World->Prop}(j:CF P g)(c:zby P g (args++cap) w S)
  (h:∀u w',S u w'->∃v,(results fn tmps).run P w'= .ok v w'/\R (.returned v) w'):LeavesInM Fence.wide 0 P fn tmps R (marks [.call g cap args]) .returning w:=by
 refine⟨ξ,.inr ⟨(λh=>by cases h),.func g,cap.toArray,g,(args++cap).toArray,rfl,?_,(λ_ _=>trivial),?_⟩⟩
 ·simp[Dfr.d,invoke,Xe j]
 ·refine CallsDIn.mono c ?_;rintro x u w1⟨rfl,l,rfl,e⟩;exact h l w1 e
def z2P {R:Value->World->Prop}{n:Nat}{k:List Item}{e:Env}{g:FuncId}{cap:List Value}{S:Value->World->Prop}(o:P.funcs[f]? =some fn)(v:CF P g)(j:zby P g (args++cap) w S)
  (h:∀u w',S u w'->∃vs,z2p P w' e fn.results.toList vs/\z1b R (.returned (TC vs)) w'):SI ⟨P,f,R,n,none,[.call g cap args],false⟩ (.code .ret::k) e w:=
 z7F O O o λa l=>zay v j λu w' q=>by
  obtain⟨vs,c,d⟩:=h u w' q;exact⟨_,ZM l P w' fn vs c,d⟩
def ydf {e:Env}{pos:String}{x:Operand}{q:List Value}(c:look e x=some (.func (.func f) #[] q.toArray)):
  ∀ρ:Operand->Value,(∀x v,look e x=some v->ρ x=v)->(execOp ρ ⟨none,.defer ⟨.value x,#[],#[]⟩,ty,pos,aft,g⟩).run P w= .ok (.defer (Dfr.d (.call f q []))) w:=fun ρ h=>by
 simp[execOp,resolve,h _ _ c,Dfr.d,Deferred.ofValue]
section
variable {r:Nat}{s:Sa}{a:Nat}
def z8t {b5:Nat}(hB:Sk w b5 [I 0] 45):zby prog 241 [ptr b5 0,ptr b2 0,ptr b6 0] w λu w'=>w'=w:=by
 refine z8g (e:=[(0,_),(1,_),(2,_)]) func241 O ntmps241 O O<|qN O<|qV (Sc U45 O O hB O)<|TK O<|S5<|So O (λc0=>?_)<|λc0=>?_
 ·exact absurd O c0
 ·refine S6<|z4w O O O func241<|λa c=>⟨_,WJ c _ _ _ _ O,?_⟩;exact⟨_,O,O⟩
theorem z3c (h:Xz w r s a)(c:Cd)(v:Nat)(S:c.U8)(hv:v<=c.most)(rest:List Bool)(hb:(SA s).drop a=c.enc v++rest):
  SG prog 229 [ptr r 0,cdV c] w λu w'=>u= .tuple #[Su v,I 0]/\Xz w' r s (a+(c.enc v).length)/\Kp (λk=>k=r) w w':=by
 obtain⟨x,y,d⟩:∃x y,W5 c=[x,y]:=by cases c<;>exact⟨_,_,O⟩
 have iV:=h.1.lt
 have fI:=c.z3W
 refine py (e:=[(0,_),(1,_)]) func229 O ntmps229 O O<|qN O<|Sd O O (UD O (cs:=[ptr r 0]) O) ?_
 rintro _ w1⟨b2,rfl,bS,L,Y⟩
 refine Sd O O (UD O (cs:=W5 c) O) ?_
 rintro _ w2⟨b3,rfl,dS,q,Z⟩
 refine Vj O<|Sd O O (UK (cs:=[_]) z0p O) ?_
 rintro _ G⟨b5,rfl,gC,j,o⟩
 replace o:Sk G b5 [I 0] 45:=o
 have B:Xz G r s a:=⟨j.S4 (q.S4 (L.S4 h.1)),h.2⟩
 have f:=j.S4 (q.S4 Y)
 have m:=j.S4 Z
 refine S5<|TZ<|qN O<|qV (Sc Ye O O f O)<|qV (T9 Ye O O)<|Sq O<|S9 O<|qN O<|qV (SO (news:=W5 c) Vy O Un O (m.cells (n:=2) (by rw[d];rfl)) (by rw[d];rfl)) ?_
 refine Sr z81 O (Yz c S G) ?_
 rintro _ V⟨rfl,l⟩
 have T:Xz V r s a:=⟨l.S4 B.1,B.2⟩
 have p:=l.S4 f
 refine TK O<|Sq O<|So O (λc0=>?_)<|λc0=>?_
 ·exact absurd O c0
 ·refine S6<|S2<|qN O<|qV (Sc Ye O O p O)<|Sr z26 O (XT T) ?_;rintro _ V⟨rfl,rfl⟩;refine Sd O O (UK (cs:=[_]) T8 O) ?_;rintro _ w5⟨b6,rfl,oo,X,F⟩;refine Sm O (TO T8 O O O F ξ) ?_;rintro w6⟨oS,D⟩;have z1:=L.size;have z2:=q.size;have z3:=j.size;have z4:=l.size;have z5:=X.size;have l2:=Y.lt;have l3:=Z.lt;have l5:=o.lt;have N:Ext V w6:=X.An D (λi hi=>ω);have iI:=N.S4 p;refine qM O<|qV (ymf (first:=[]) (caps:=[.tmp 5,.tmp 2,.tmp 6]) O O)<|zaH O O (ydf O)<|qM O<|qV (Sc Ye O O iI O)<|qV (VI (cs:=[_,_]) zlw O zmj O O)<|Sd O O (UD O O) ?_;rintro _ H⟨b7,rfl,lu,b,M⟩;replace M:Sk H b7 [ptr r 0,.bool false] 366:=M;have z6:=N.size;have z7:=b.size;have E:Ext G H:=(l.trans N).trans b;have h7:RgM H b7 r s a:=⟨M,⟨E.S4 B.1,B.2⟩,ω⟩;have g:=E.S4 m;have j7:=E.S4 o;refine Sq O (SX O (qV (SO (news:=W5 c) Vy O Un O (g.cells (n:=2) (by rw[d];rfl)) (by rw[d];rfl)) ?_));refine Sr zmC O (z9y h7 c v S hv rest hb) ?_;rintro _ z⟨rfl,R,J⟩;have P:=J.S4 g ω;have C:=J.S4 j7 ω;have K:=R.S4;refine TR O (SC O (Sn z3U O (qV (Sc U4 O O K O) (Sz O (qV (SO (news:=W5 c) Vy O Un O (P.cells (n:=2) (by rw[d];rfl)) (by rw[d];rfl)) ?_)))));refine Sr ziM O (z6o c S z) ?_;rintro _ w9⟨rfl,Q⟩;refine Ub O<|Td O<|S5<|SI.qb (e:=[(4,_),(5,_),(33,_)]) ?_;refine So O (λc1=>?_)<|λc1=>?_
  ·omega
  ·have rK:=Q.S4 C;refine S6 (SE O (Vj O (Sm O (TO z0p O O O rK ξ) ?_)));rintro U⟨A,W⟩;replace A:Sk U b5 [I 0] 45:=A;refine S5<|z2P func229 zmq (z8t (b2:=b2) (b6:=b6) A) ?_;rintro u w' rfl;have t:Xz w9 r s (a+(c.enc v).length):=⟨Q.S4 R.rd.1,R.rd.2⟩;refine⟨_,.tmp O (.cell1 U45 O O ((A).cell _) .nil),_,O,O,⟨W.S4 t.1 ω,t.2⟩,?_⟩;have lz:Ext w H:=((L.trans q).trans j).trans E;have jM:Kp (λk=>k=r) w z:=lz.kp.An J (λi hi=>hi.elim (λe=> .inl ω) .inr);exact(jM.trans Q.kp).An W (λi hi=> .inl ω)
end
/-! ### Runs -/
def expand:Bool->List Nat->List Bool
 |_,[]=>[]
 |b,n::r=>List.replicate n b++expand (!b) r
theorem z1J:∀(b:Bool)(r s:List Nat),expand b (r++s)=expand b r++expand (if r.length%2=0 then b else !b) s
 |b,[],s=>by simp[expand]
 | b, n :: r, s => by
   rw[y0t,expand,expand,z1J (!b) r s,y06]
   congr 2
   rcases y20 r.length with e| e
   ·rw[if_pos e,if_neg (by rw[y03];omega)]
   ·rw[if_neg ω,if_pos (by rw[y03];omega)];simp
theorem Wq:∀(b:Bool)(r:List Nat),(expand b r).length=r.sum
 |_,[]=>rfl
 |b,n::r=>by rw[expand,y01,y0b,Wq (!b) r,y0L]
def UA (rs:List Nat)(f:Bool):List Nat:=
 let c:=if f !=(rs.length%2==1) then rs++[0] else rs
 c.modify (c.length-1) (·+1)
theorem z0j (l:List Nat)(n:Nat):(l++[n]).modify ((l++[n]).length-1) (·+1)=l++[n+1]:=by
 have key:∀l:List Nat,(l++[n]).modify l.length (·+1)=l++[n+1]:=λl=>by
  induction l with
  |nil=>rfl
  |cons a l c=>simpa using c
 have:(l++[n]).length-1=l.length:=ξ
 rw[this,key]
structure Xk (rs:List Nat)(fs:List Bool):Prop where
 ne:rs≠[]
 exp:expand true rs=fs
 pos:∀n∈rs.drop 1,1<=n
theorem Xk.zero:Xk [0] []:=⟨ξ,rfl,ξ⟩
theorem Xk.step {rs:List Nat}{r:List Bool}(h:Xk rs r)(f:Bool):Xk (UA rs f) (r++[f]):=by
 obtain⟨s,j,o⟩:=h
 obtain⟨l,n,rfl⟩:∃l n,rs=l++[n]:=⟨rs.dropLast,rs.getLast s,(y2v s).symm⟩
 unfold UA
 dsimp only
 have d:(l++[n]).length=l.length+1:=ξ
 rw[d]
 split
 ·rename_i q
  rw[z0j];refine⟨ξ,?_,λk c=>?_⟩
  ·rw[z1J,j,d]
   congr 1
   rcases y20 l.length with e|e<;>cases f<;>simp[expand,e,Nat.add_mod] at q⊢
  ·rw[y1j (by rw[d];omega)] at c;rcases y0y.1 c with c|c
   ·exact o k c
   ·simp at c;omega
 ·rename_i q
  rw[z0j];refine⟨ξ,?_,λk c=>?_⟩
  ·rw[z1J] at j⊢;rw[<-j,y06]
   congr 1
   simp only[expand,y0q,y36]
   congr 1
   rcases y20 l.length with e|e<;>cases f<;>simp[e,Nat.add_mod] at q⊢
  ·cases l with
   |nil=>simp at c
   | cons a l =>
     rw[y0t,y2j,y0V] at c o;rcases y0y.1 c with c|c
     ·exact o k (y1X _ c)
     ·simp at c;omega
def copyL:Bool->List Nat->List Nat->List Nat
 |b,[],ref=>if b then ref else []
 |b,n::r,ref=>(if b then ref.take n else [])++copyL (!b) r (ref.drop n)
def sel:List Nat->List Bool->List Nat
 |x::l,f::fs=>if f then x::sel l fs else sel l fs
 |_,_=>[]
theorem zbK:∀{a b:List Nat} {c gs:List Bool},a.length=c.length->sel (a++b) (c++gs)=sel a c++sel b gs
 |[],b,[],gs,_=>rfl
 | x :: a, b, f :: c, gs, h => by
   have d:a.length=c.length:=by simpa using h
   rw[y0t,y0t,sel,sel,zbK d];cases f<;>simp
theorem z6T:∀(l:List Nat)(b:Bool),sel l (List.replicate l.length b)=if b then l else []
 |[],b=>by cases b<;>rfl
 | x :: l, b => by
   rw[y03,y17,sel,z6T l b];cases b<;>rfl
theorem z8M:∀(b:Bool)(rs:List Nat) (m:Nat) (ref:List Nat),ref.length=(rs++[m]).sum->copyL b rs ref=sel ref (expand b (rs++[m]))
 | b, [], m, ref, h => by
   have d:m=ref.length:=by simpa using h.symm
   subst d;simp only[copyL,y18,expand,y0q]
   rw[z6T]
 | b, n :: rs, m, ref, h => by
   rw[y0t,y0L] at h;have c:(ref.take n).length=n:=by rw[y0c];omega
   rw[copyL,y0t,expand,z8M (!b) rs m (ref.drop n) (by rw[y08];omega)]
   conv=>rhs;rw[<-y1c n ref,zbK (by rw[c,y0b])]
   congr 1
   have:=z6T (ref.take n) b;rw[c] at this;exact this.symm
/-! ### Rows of numbers that follow one another -/
def Tn:Nat->List Nat->Nat
 |_,[]=>0
 |x,y::l=>if y=x+1 then Tn y l+1 else 0
def z0U:∀(x:Nat)(l:List Nat),Tn x l<=l.length
 |_,[]=>y07 _
 | x, y :: l => by
   unfold Tn;split
   ·have:=z0U y l;simp;omega
   ·exact y02 _
theorem ZP:∀(x:Nat)(l:List Nat) (i:Nat),i<Tn x l->l[i]? =some (x+1+i)
 |_,[],i,h=>by simp[Tn] at h
 | x, y :: l, i, h => by
   unfold Tn at h;split at h
   ·rename_i e
    subst e
    cases i with
    |zero=>rfl
    |succ i=>rw[y1N,ZP (x+1) l i ω];congr 1;omega
   ·omega
def z0o:∀(x:Nat)(l:List Nat) (y:Nat),l[Tn x l]? =some y->y≠x+1+Tn x l
 |_,[],y,h=>by simp at h
 | x, z :: l, y, h => by
   unfold Tn at h⊢;split
   ·rename_i e
    rw[if_pos e,y1N] at h;have:=z0o z l y h;omega
   ·rename_i e
    rw[if_neg e,y1C] at h;cases h;omega
def Tq (least:Nat):List Nat->List (Nat×Nat)×List Nat
 |[]=>([],[])
 | x :: l =>
   let n:=Tn x l+1
   let q:=Tq least (l.drop (Tn x l))
   if 0<least/\least<=n then((x,n)::q.1,q.2) else(q.1,x::l.take (Tn x l)++q.2)
termination_by l=>l.length
decreasing_by simp[y08];omega
def Ut (l:List (Nat×Nat)):List Nat:=l.flatMap λp=>(List.range p.2).map (p.1+·)
abbrev Ris (l:List Nat):Prop:=l.Pairwise (·<·)
theorem zeB (x:Nat)(l:List Nat):x::l.take (Tn x l)=(List.range (Tn x l+1)).map (x+·):=by
 apply y1f
 intro i
 have c:=z0U x l
 cases i with
 |zero=>simp
 | succ i =>
   rw[y1N,y1K,y0l];split
   ·rename_i h
    rw[ZP x l i h,y1z ω];simp;omega
   ·rw[y0n (by simp;omega)];rfl
def Xp (least:Nat):∀(l:List Nat),(Ut (Tq least l).1++(Tq least l).2).Perm l
 |[]=>by simp[Tq,Ut]
 | x :: l => by
   have d:=Xp least (l.drop (Tn x l));have e:=zeB x l;have c:x::l=(x::l.take (Tn x l))++l.drop (Tn x l):=by rw[y0t,y1c]
   rw[Tq];split
   ·rw[show Ut ((x,Tn x l+1)::(Tq least (l.drop (Tn x l))).1)=(List.range (Tn x l+1)).map (x+·)++Ut (Tq least (l.drop (Tn x l))).1 by simp[Ut]];rw[<-e,y06]
    conv=>rhs;rw[c]
    exact d.append_left _
   ·conv=>rhs;rw[c]
    refine y3m ?_<|d.append_left _;rw[<-y06,<-y06];exact(List.perm_append_comm).append_right _
 termination_by l=>l.length
 decreasing_by simp[y08];omega
def zig (z:Int):Nat:=if 0<=z then(2*z).toNat else(-2*z-1).toNat
def zag (n:Nat):Int:=if n%2=0 then((n / 2:Nat):Int) else -((n / 2:Nat):Int)-1
theorem zbI (z:Int):zag (zig z)=z:=by
 unfold zig zag
 split
 ·rw[if_pos ω];omega
 ·rw[if_neg ω];omega
def z32 {z:Int}{n:Nat}(c: -(n:Int)<=z)(d:z<(n:Int)):zig z<2*n:=by
 unfold zig
 split<;>omega
structure Vz where
 SH:Nat
 interval:Nat
 zeta:Nat
def UJ (succ ref:List Nat):List Nat:=ref.foldl (λrs y=>UA rs (decide (y∈succ))) [0]
def WT (succ ref:List Nat):Xk (UJ succ ref) (ref.map λy=>decide (y∈succ)):=by
 unfold UJ
 have key:∀(l:List Nat)(rs:List Nat) (c:List Bool),Xk rs c->Xk (l.foldl (λrs y=>UA rs (decide (y∈succ))) rs) (c++l.map λy=>decide (y∈succ)):=by
  intro l
  induction l with
  |nil=>intro rs c h;simpa using h
  | cons y l d =>
    intro rs c h;have:=d _ _ (h.step (decide (y∈succ)))
    simpa using this
 simpa using key ref [0] [] Xk.zero
def SL (succ ref:List Nat):List Nat:=succ.filter λv=>decide (v∉ref)
theorem zcA (P:Nat->Bool):∀l:List Nat,sel l (l.map P)=l.filter P
 |[]=>rfl
 | x :: l => by
   rw[y0o,sel,zcA P l];cases h:P x<;>simp[h]
def zcV (succ ref:List Nat):copyL true (UJ succ ref).dropLast ref=ref.filter λy=>decide (y∈succ):=by
 have h:=WT succ ref
 obtain⟨l,n,e⟩:∃l n,UJ succ ref=l++[n]:=⟨_,_,(y2v h.ne).symm⟩
 rw[e,y2o]
 have c:=h.exp
 rw[e] at c
 have d:ref.length=(l++[n]).sum:=by
  have:=congrArg List.length c;rw[Wq,y0h] at this;exact this.symm
 rw[z8M true l n ref d,c,zcA]
def TP:Nat->List Nat->List (Cd×Nat)
 |_,[]=>[]
 |i,n::r=>(.gamma,n-min i 1)::TP (i+1) r
def Tf (x least:Nat):Option Nat->List (Nat×Nat)->List (Cd×Nat)
 |_,[]=>[]
 |none,p::r=>(.gamma,zig ((p.1:Int)-x))::(.gamma,p.2-least)::Tf x least (some (p.1+p.2-1)) r
 |some e,p::r=>(.gamma,p.1-e-2)::(.gamma,p.2-least)::Tf x least (some (p.1+p.2-1)) r
def Ti (x k:Nat):Option Nat->List Nat->List (Cd×Nat)
 |_,[]=>[]
 |none,v::r=>(.zeta k,zig ((v:Int)-x))::Ti x k (some v) r
 |some u,v::r=>(.zeta k,v-u-1)::Ti x k (some v) r
def V7 (p:Vz)(x:Nat)(succ ref:List Nat)(r:Nat):List (Cd×Nat):=
 (.gamma,succ.length)::if succ=[] then [] else
  (if 0<p.SH then [(.unary,r)] else [])++
  ((if 0<r then(.gamma,(UJ succ ref).length-1)::TP 0 (UJ succ ref).dropLast else [])++
  (if SL succ ref=[] then [] else
   (if 0<p.interval then(.gamma,(Tq p.interval (SL succ ref)).1.length)::Tf x p.interval none (Tq p.interval (SL succ ref)).1 else [])++
   Ti x p.zeta none (Tq p.interval (SL succ ref)).2))
def SD (l:List (Cd×Nat)):List Bool:=l.flatMap λp=>p.1.enc p.2
def zax {succ ref:List Nat}(d:Ris succ)(hr:Ris ref)(p:Nat):(ref.filter (λy=>decide (y∈succ))++(Ut (Tq p (SL succ ref)).1++(Tq p (SL succ ref)).2)).Perm succ:=by
 have c:(ref.filter λy=>decide (y∈succ)).Perm (succ.filter λv=>decide (v∈ref)):=by
  refine(List.perm_ext_iff_of_nodup (hr.imp (λh=>ω) |>.filter _) (d.imp (λh=>ω) |>.filter _)).2 λa=>?_;simp only[y1r,decide_eq_true_eq];exact And.comm
 refine(c.append (Xp p _)).trans ?_
 unfold SL
 have:=List.filter_append_perm (λv=>decide (v∈ref)) succ
 refine y3m ?_ this
 refine y3y _ ?_
 simp
theorem zai {a b:List Nat}(h:a.Perm b)(c:a.Pairwise (·<=·))(d:Ris b):a=b:=
 h.eq_of_pairwise (le:=(·<=·)) (λx y _ _ e j=>ω) c (d.imp (λh=>ω))
def WA (least:Nat):Nat->List (Nat×Nat)->Prop
 |_,[]=>True
 |lo,p::r=>lo<=p.1/\1<=p.2/\least<=p.2/\WA least (p.1+p.2+1) r
def WA.mono {least:Nat}:∀{r:List (Nat×Nat)} {a b:Nat},WA least b r->a<=b->WA least a r
 |[],_,_,_,_=>trivial
 |p::r,a,b,h,hab=>⟨y0d hab h.1,h.2⟩
theorem zaJ {x:Nat}{l:List Nat}(h:Ris (x::l)):∀y∈l.drop (Tn x l),x+Tn x l+2<=y:=by
 intro y B
 obtain⟨j,v,e⟩:=List.mem_iff_getElem.1 B
 rw[List.getElem_drop] at e
 rw[y08] at v
 obtain⟨u,q⟩:=y1o.1 h
 have A:=z0U x l
 have d:Tn x l<l.length:=ω
 obtain⟨z,n⟩:∃z,l[Tn x l]? =some z:=⟨_,y04 d⟩
 have H:=z0o x l z n
 have c:=(y0p.1 n).2
 have E:x+Tn x l<z:=by
  by_cases o:Tn x l=0
  ·have:=u z (y0i n);omega
  ·have hg:=ZP x l (Tn x l-1) ω;obtain⟨r,s⟩:=y0p.1 hg;have:=y1D.1 q (Tn x l-1) (Tn x l) r d ω;rw[s,c] at this;omega
 have G:z<=y:=by
  by_cases o:j=0
  ·subst o;simp at e;rw[<-e,<-c];exact y07 _
  ·have:=y1D.1 q (Tn x l) (Tn x l+j) d ω ω;rw[e,c] at this;omega
 omega
def YR (least:Nat):∀(l:List Nat)(lo:Nat),Ris l->(∀y∈l,lo<=y)->WA least lo (Tq least l).1
 |[],lo,_,_=>by rw[Tq];trivial
 | x :: l, lo, h, hl => by
   have e:=zaJ h;have d:Ris (l.drop (Tn x l)):=(y1o.1 h).2.sublist (y1t _ _);rw[Tq];split
   ·rename_i j
    refine⟨hl x ξ,ω,j.2,YR least _ _ d λy c=>?_⟩;have:=e y c;omega
   ·refine YR least _ _ d λy c=>?_;have:=e y c;have:=hl x ξ;omega
 termination_by l=>l.length
 decreasing_by all_goals (simp[y08];omega)
def Yl (least:Nat):∀(l:List Nat),(Tq least l).2.Sublist l
 |[]=>by rw[Tq];exact y3s _
 | x :: l => by
   have c:=Yl least (l.drop (Tn x l));rw[Tq];split
   ·exact(c.trans (y1t _ _)).cons x
   ·have d:x::l=(x::l.take (Tn x l))++l.drop (Tn x l):=by rw[y0t,y1c]
    conv=>rhs;rw[d]
    exact c.append_left _
 termination_by l=>l.length
 decreasing_by simp[y08];omega
abbrev SV (n:Nat):Value:= .int .u32 (n:Int)
theorem z98 (m:Nat)(h:m<18446744073709551616):m^^^18446744073709551615=18446744073709551615-m:=by
 have c:=congrArg BitVec.toNat (BitVec.xor_allOnes (x:=BitVec.ofNat 64 m))
 rw[y2A,BitVec.toNat_not,BitVec.toNat_allOnes,BitVec.toNat_ofNat] at c
 rw[show(2:Nat)^64=18446744073709551616 from rfl,y0e h] at c
 exact c
section
variable {e:Env}{d:Option Nat}{pos:String}{x:Operand}
def zmK (l:look e x=some (I (m:Int)))(n:look e y=some (I 0))(o:m<2^63):Y P e ⟨d,.binOp .xor t x y t',ty,pos,aft,g⟩ (I (m:Int)) w w:=fun ρ c=>by
 have h:m<2^IntKind.i64.bits:=by simp only[IntKind.bits];omega
 have j:(BitVec.ofInt IntKind.i64.bits 0).toNat=0:=ψ
 simp only[execOp,eqGuard_xor,binOp_xor,intBits_xor,c _ _ l,c _ _ n,pure_bind,y05,bits,y2A,UE h,j,Nat.xor_zero]
 rw[wrap_i64 ⟨ω,ω⟩]
def zn4 (n:look e x=some (I (m:Int)))(o:look e y=some (I (-1)))(q:m<2^63):Y P e ⟨d,.binOp .xor t x y t',ty,pos,aft,g⟩ (I (-(m:Int)-1)) w w:=fun ρ c=>by
 have h:m<2^IntKind.i64.bits:=by simp only[IntKind.bits];omega
 have j:(BitVec.ofInt IntKind.i64.bits (-1)).toNat=18446744073709551615:=ψ
 simp only[execOp,eqGuard_xor,binOp_xor,intBits_xor,c _ _ n,c _ _ o,pure_bind,y05,bits,y2A,UE h,j]
 rw[z98 m ω]
 congr 2
 have l:((18446744073709551615-m:Nat):Int)=-(m:Int)-1+18446744073709551616:=ω
 rw[l]
 simp only[IntKind.wrap,IntKind.bits,IntKind.signed]
 simp
 omega
end
/-! ### Numbers with a sign -/
theorem zc0 (z:Int)(h: -4611686018427387904<=z/\z<4611686018427387904)(w:World):SG prog 224 [I z] w λu w'=>u=Su (zig z)/\w'=w:=by
 rcases Int.lt_or_le z 0 with c|c
 ·obtain⟨n,rfl⟩:∃n:Nat,z=-(n:Int)-1:=⟨(-z-1).toNat,ω⟩;refine py (e:=[(0,_)]) func224 O ntmps224 O O (qN O (TR O (qV (ycv (b:=((18446744073709551615-n:Nat):Int)) O U2 Va (by simp only[IntKind.wrap,IntKind.bits,IntKind.signed];simp;omega)) ?_)));refine qV (UQ 1 2 O O ψ O) (Sf O (qV (ysr 63 O O ψ) ?_));rw[show(-(n:Int)-1) / 2^63=-1 by omega];refine qV (ycv (b:=((18446744073709551615:Nat):Int)) O U2 Va ψ) (qV (z4e O O ω ω) (Sq O (S3 func224 O (⟨_,O,?_,O⟩))));rw[z98 _ ω];simp only[TC]
  congr 2
  unfold zig;rw[if_neg ω];omega
 ·obtain⟨n,rfl⟩:∃n:Nat,z=(n:Int):=⟨z.toNat,ω⟩;refine py (e:=[(0,_)]) func224 O ntmps224 O O (qN O (TR O (qV (TM O U2 Va ω) (qV (UQ 1 2 O O ψ O) (Sf O (qV (XE 63 9223372036854775808 O O ψ O) (qV (TM O U2 Va ω) (qV (z4e O O ω ω) (Sq O (S3 func224 O (⟨_,O,?_,O⟩)))))))))));rw[show n / 9223372036854775808=0 by omega,Nat.xor_zero];simp only[TC]
  congr 2
  unfold zig;rw[if_pos ω];omega
def zbU (n:Nat)(h:n<9223372036854775808)(w:World):SG prog 244 [Su n] w λu w'=>u=I (zag n)/\w'=w:=by
 refine py (e:=[(0,_)]) func244 O ntmps244 O O<|qN O<|TR O<|qV (XE 1 2 O O ψ O)<|qV (T7 O Va U2 ω)<|Sf O<|qV (Yx O O ω ω) ?_
 rw[y2z]
 refine qV (T7 O Va U2 ω) ?_
 rcases y20 n with c|c
 ·rw[c];refine qV (yng O ψ ψ) (qV (zmK O O ω) (Sq O (S3 func244 O (⟨_,O,?_,O⟩))));simp only[TC];unfold zag;rw[if_pos c]
 ·rw[c];refine qV (yng O ψ ψ) (qV (zn4 O O ω) (Sq O (S3 func244 O (⟨_,O,?_,O⟩))));simp only[TC];unfold zag;rw[if_neg ω]
/-! ### The parameters -/
def lpC (p:Vz):List Value:=[I (p.SH:Int),I (p.interval:Int),I (p.zeta:Int)]
abbrev lpV (p:Vz):Value:= .agg (lpC p).toArray
def Vz.U8 (p:Vz):Prop:=p.SH<=16/\(p.interval=0\/2<=p.interval/\p.interval<=64)/\1<=p.zeta/\p.zeta<=16
theorem XG (p:Vz)(l:p.U8)(w:World):SG prog 197 [lpV p] w λu w'=>u=I 0/\Ext w w':=by
 obtain⟨o,q,r,s⟩:=l
 refine py (e:=[(0,_)]) func197 O ntmps197 O O<|qN O<|Sd O O (UD O (cs:=lpC p) O) ?_
 rintro _ w1⟨b1,rfl,n,h,c⟩
 replace c:Sk w1 b1 [I (p.SH:Int),I (p.interval:Int),I (p.zeta:Int)] 276:=c
 refine Sq O<|TZ<|It<|qN O<|Sn Xd O<|qV (Sc U3 O O c O)<|TW O<|T0<|Sf O<|Sn Xd O<|qV (Sc U3 O O c O)<|Ub O<|T0<|Td O ?_
 refine Sq O<|S9 O<|qN O<|Sn z3T O<|qV (Sc U3 O O c O)<|TW O<|T0<|Sf O<|Sn z3T O<|qV (Sc U3 O O c O)<|Ub O<|T0<|Td O<|Sq O ?_
 refine S9 O<|Sg O<|Sn XP O<|qV (Sc U3 O O c O)<|TK O<|W4 (λj=>?_)<|λj=>?_
 ·refine Sf O<|Sn XP O<|qV (Sc U3 O O c O)<|TW O<|T0<|Sf O<|Sn XP O<|qV (Sc U3 O O c O)<|Ub O<|T0<|Td O<|Uj O<|Sq O<|SI.qb (e:=[(2,_),(3,_)]) ?_;refine VP O<|S2<|TU O<|S3 func197 O ?_;exact⟨_,O,O,h⟩
 ·refine Sf O<|Ua<|Ua<|Ua<|Ua<|Td O<|Sq O<|SI.qb (e:=[(2,_),(3,_)]) ?_;refine VP O<|S2<|TU O<|S3 func197 O ?_;exact⟨_,O,O,h⟩
def ZF (n:Nat)(h:n<65536)(w:World):SG prog 211 [I (n:Int)] w λu w'=>u= .bool true/\w'=w:=by
 refine py (e:=[(0,_)]) func211 O ntmps211 O O<|qN O<|TR O<|WZ O<|Ue<|Sz O<|TW O<|Ue<|Uj O<|Sq O<|S3 func211 O ?_
 exact⟨_,O,O,O⟩
structure T4 (l:List Nat):Prop where
 ris:Ris l
 lt:∀y∈l,y<65536
def z6W:∀(l:List Nat)(lo hi:Nat),Ris l->(∀y∈l,lo<=y/\y<hi)->lo<=hi->lo+l.length<=hi
 |[],lo,hi,_,_,h=>h
 | x :: l, lo, hi, hr, hm, h => by
   have c:=(y1o.1 hr);have n:=hm x y0s;have:=z6W l (x+1) hi c.2 (λy j=>⟨c.1 y j,(hm y (y0u _ j)).2⟩) ω;rw[y03];omega
theorem T4.len {l:List Nat}(h:T4 l):l.length<=65536:=by
 have:=z6W l 0 65536 h.ris (λy c=>⟨y02 _,h.lt y c⟩) ψ
 omega
theorem T4.sub {l m:List Nat}(h:T4 l)(c:m.Sublist l):T4 m:=⟨h.ris.sublist c,λy j=>h.lt y (c.subset j)⟩
theorem z0i (v:Value)(l:List Nat)(n:T4 l)(w:World)(hr:Rd w v 1 l.length (l.map SV)):
  SG prog 212 [v] w λu w'=>u= .bool true/\w'=w:=by
 have E:=n.len
 obtain⟨a,cap,rfl,G⟩:=hr.shape
 refine py (e:=[(0,_)]) func212 O ntmps212 O O<|TU O<|SX O<|UR SR O<|Sf O<|S5<|S7<|UW (α:=Nat) (0) (λi=>[(0,.slice a l.length cap),(5,.slice a l.length cap),(6,I (l.length:Int)),(7,I (i:Int))]) (λi w'=>w'=w/\i<=l.length) (λi=>l.length-i) ?hI ?hround
 case hI=>exact⟨O,ω⟩
 case hround=>
  rintro i _⟨rfl,hi⟩ r
  try dsimp only
  refine qN O<|TW O<|S5<|It<|So O (λs=>?_)<|λs=>?_
  ·have j:i<l.length:=ω
   have J:=n.lt l[i] (y1s j);rcases hr.2 with⟨c,-,h⟩|⟨b,off,q,B,o⟩
   ·omega
   cases B;refine S6 (TZ (SE O (qV (Tm SR Sy O O ω) (qV (SQ U0 O O (o (i*1) (SV l[i]) (by simp[j]))) ?_))));refine Vj O<|TR O<|WZ O<|T0<|Sz O<|Ub O<|W4 (λA=>?_)<|λA=>?_
   ·have H:l[i-1]<l[i]:=(y1D.1 n.ris) (i-1) i ω j ω;refine Sz O<|Sz O<|UO O ?_;rw[show(i:Int)-1=((i-1:Nat):Int) by omega];refine qV (Tm SR Sy O O ω) (qV (SQ U0 O O (o ((i-1)*1) (SV l[i-1]) (by simp[show i-1<l.length by omega]))) ?_);refine zle O<|T0<|Uj O<|Td O<|Tt O<|S2<|Sg O<|Tr O<|Sf O<|S5 ?_;exact(r (i+1) _ ⟨O,ω⟩ ω).qb
   ·refine Sf O<|Ua<|Ua<|Ua<|qS<|Td O<|Td O<|Tt O<|S2<|Sg O<|Tr O<|Sf O<|S5 ?_;exact(r (i+1) _ ⟨O,ω⟩ ω).qb
  ·refine Sh O<|TU O<|S3 func212 O ?_;exact⟨_,O,O,O⟩
theorem zer (p:Vz)(A:p.U8)(x:Nat)(J:x<65536)(v u:Value)(l m:List Nat)(r:Nat)(G:T4 l)(H:T4 m)(hr:r<=p.SH)(M:r=0->m=[])(w:World)
  (L:Rd w v 1 l.length (l.map SV)) (q:Rd w u 1 m.length (m.map SV)):
  SG prog 198 [lpV p,I (x:Int),v,u,I (r:Int)] w λo w'=>o= .bool true/\Ext w w':=by
 obtain⟨S,U,V,W⟩:=id A
 refine py (e:=[(0,_),(1,_),(2,_),(3,_),(4,_)]) func198 O ntmps198 O O<|qN O<|Sd O O (UD O (cs:=lpC p) O) ?_
 rintro _ w1⟨b1,rfl,R,h,s⟩
 refine Up O<|qV (SO (news:=lpC p) z0l O XN O (s.cells (n:=3) O) O)<|Sr z89 O (XG p A w1) ?_
 rintro _ w2⟨rfl,c⟩
 have j:=c.S4 s
 replace j:Sk w2 b1 [I (p.SH:Int),I (p.interval:Int),I (p.zeta:Int)] 276:=j
 refine U7 O<|Ue<|Sz O<|Sr zbT O (ZF x J w2) ?_
 rintro _ N⟨rfl,rfl⟩
 refine Uj O<|Sz O<|Sr z7J O (z0i v l G N (L.ext (h.trans c))) ?_
 rintro _ Q⟨rfl,rfl⟩
 refine Uj O<|Sz O<|Sr z7J O (z0i u m H Q (q.ext (h.trans c))) ?_
 rintro _ Z⟨rfl,rfl⟩
 refine Uj O<|Sf O ?_
 obtain⟨X,Y,rfl,-⟩:=q.shape
 refine Sf O<|WZ O<|Ue<|Uj O<|Sz O<|Sn Xd O<|qV (Sc U3 O O j O)<|zle O<|Ue<|Uj O<|Sz O<|Ub O<|W4 (λB=>?_)<|λB=>?_
 ·refine Sf O<|Ua<|qS<|Uj O<|Uj O<|Sq O<|SI.qb (e:=[(10,_)]) ?_;refine S3 func198 O ?_;exact⟨_,O,O,h.trans c⟩
 ·have E:=M ω;subst E;refine Sz O<|UR SR O<|U7 O<|Ue<|Td O<|Uj O<|Sq O<|SI.qb (e:=[(10,_)]) ?_;refine S3 func198 O ?_;exact⟨_,O,O,h.trans c⟩
end Go.Proofs.YtbihggbffaigjaaGreatDoor
