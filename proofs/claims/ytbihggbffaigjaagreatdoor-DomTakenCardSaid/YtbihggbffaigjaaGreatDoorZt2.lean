/- Merged by program. -/
import Derived.Test.YtbihggbffaigjaaGreatDoorRows
import Derived.Test.YtbihggbffaigjaaGreatDoorZt1
import Derived.Lib.AppendZerosOnto
import Derived.Lib.Overlaps
import Derived.Maps.RangeRun
set_option linter.all false
set_option maxRecDepth 1000000
set_option maxHeartbeats 16000000
namespace Go.Proofs.YtbihggbffaigjaaGreatDoor
open Go Go.RowKit Go.Proofs.Tryz
set_option linter.unusedSimpArgs false
variable {C:Cx}{D:RC}{F:Nat->Prop}{K b2 b6 bytes cap d' gb i id m off:Nat}{P:Program}{T el kt t t' ty ty':TypeId}{a b za:Int}{aft aft':Array Edge}{agg:Bool}{args cs cur vs:List Value}{bs:List Bool}{c y:Operand}{f:FuncId}{fn:Func}{g g':Option (Nat×Bool)}{k:IntKind}{op:Op}{ops ops0:List Oper}{p:Prop}{pos':String}{ts:Array TypeId}{v' z:Value}{w w':World}
def U3:=underlying3
def U4:=underlying4
def U5:=underlying5
def U9:=underlying9
def U26:=underlying26
def XG:=underlying27
def U28:=underlying28
def U30:=underlying30
def SF:=underlying37
def SK:=underlying39
def QG:=underlying40
def RO:=underlying42
def U49:=underlying49
def U55:=underlying55
def U66:=underlying66
def U76:=underlying76
def U81:=underlying81
def U85:=underlying85
def Z4:=underlying93
def U99:=underlying99
def z0q:=underlying101
def z5r:=underlying103
def RB:=underlying113
def zbm:=underlying116
def XW:=underlying117
def z7S:=underlying119
def Ww:=underlying124
def z8q:=underlying125
def zcX:=underlying127
def zeD:=underlying129
def z1o:=underlying130
def z6m:=underlying132
def WK:=underlying133
def zen:=underlying135
def z0k:=underlying153
def z3a:=underlying155
def z3h:=underlying156
def ze3:=underlying158
def z1Q:=underlying162
def zcd:=underlying164
def zlT:=underlying175
def XC:=underlying186
def zaL:=underlying188
def z5R:=underlying190
def z4W:=underlying195
def z6T:=underlying197
def zdV:=underlying202
def ze6:=underlying218
def zgS:=underlying220
def z3b:=underlying229
def ze4:=underlying231
def z00:=underlying236
def zc5:=underlying249
def Tj:=underlying261
def Xz:=underlying268
def zh6:=underlying269
def zh5:=underlying271
def za7:=underlying273
def XT:=underlying276
def zht:=underlying283
def VS:=underlying289
def zgL:=underlying293
def z35:=underlying303
def Td:=underlying314
def zca:=underlying316
def zhf:=underlying321
def zhh:=underlying332
def zdB:=underlying336
def zei:=underlying348
def z5a:=underlying351
def zgl:=underlying366
def QD {t n:Nat}{h:Array Field}{f:Field}{d:TypeDesc}(a:P.underlying t=some (.struct h))(e:h[i]? =some f)(g:f.offset=off)(b:TI P f.type z n bytes)(c:P.underlying f.type=some d)(k:aggOf d=agg):RD P t i off n agg:=⟨h,f,z,bytes,d,a,e,g,b,c,k⟩
def QN (h:P.funcs[f]? =some fn)(d:(fn.name=="runtime.NumGoroutine")=false:=by kernel_rfl)(e:fn.body.isNone=false:=by rfl):CF P f:=⟨fn,h,d,e⟩
theorem R8:TI prog 3 (.int .i64 0) 1 8:=QI y00
theorem Wu:TI prog 4 (.bool false) 1 1:=QI y00
theorem YK:TI prog 5 (.int .u8 0) 1 1:=QI y00
theorem ti9:TI prog 9 (.string ⟨#[]⟩) 1 16:=QI y00
theorem zhm:TI prog 26 (.pointer none) 1 8:=QI y00
theorem zaI:TI prog 27 (.pointer none) 1 8:=QI y00
theorem zaS:TI prog 28 (.pointer none) 1 8:=QI y00
def ZM:TI prog 30 (.agg #[.pointer none,.pointer none,.pointer none,.pointer none,.int .i64 0]) 5 40:=QI y00
def z8o:TI prog 37 (.slice none 0 0) 1 24:=QI y00
theorem Uw:TI prog 39 (.int .u64 0) 1 8:=QI y00
theorem VB:TI prog 40 (.slice none 0 0) 1 24:=QI y00
theorem Qn:TI prog 42 (.int .u32 0) 1 4:=QI y00
def zk5:TI prog 44 (.pointer none) 1 8:=QI y00
def z6K:TI prog 45 (.int .i64 0) 1 8:=QI y00
def zhc:TI prog 49 (.agg #[.int .i64 0,.int .i64 0,.int .i64 0]) 3 24:=QI y00
theorem zgw:TI prog 55 (.nilFunc) 1 8:=QI y00
theorem zhT:TI prog 66 (.pointer none) 1 8:=QI y00
theorem z3f:TI prog 76 (.agg #[.int .i64 0,.int .i64 0,.int .i64 0,.int .i64 0,.int .i64 0,.int .i64 0,.int .i64 0]) 7 56:=QI y00
def z5l:TI prog 81 (.agg #[.int .u32 0,.int .u32 0]) 2 8:=QI y00
theorem zci:TI prog 85 (.agg #[.int .i64 0,.int .i64 0]) 2 16:=QI y00
theorem SV:TI prog 93 (.agg #[.int .i64 0,.int .i64 0,.int .i64 0,.int .i64 0,.int .i64 0]) 5 40:=QI y00
theorem YC:TI prog 99 (.agg #[.int .i64 0,.int .i64 0,.int .i64 0,.bool false,.bool false]) 5 32:=QI y00
def YU:TI prog 100 (.pointer none) 1 8:=QI y00
theorem z5W:TI prog 101 (.agg #[.pointer none,.pointer none,.pointer none,.pointer none,.pointer none]) 5 40:=QI y00
def zkn:TI prog 103 (.agg #[.int .i64 0,.int .i64 0,.int .i64 0,.bool false,.bool false,.pointer none,.pointer none,.int .i64 0,.pointer none,.pointer none,.pointer none,.pointer none,.pointer none,.bool false,.bool false]) 15 104:=QI y00
def zhD:TI prog 110 (.agg #[.int .i64 0,.int .i64 0,.int .i64 0]) 3 24:=QI y00
theorem YL:TI prog 113 (.slice none 0 0) 1 24:=QI y00
theorem zfV:TI prog 116 (.pointer none) 1 8:=QI y00
theorem zfA:TI prog 117 (.map none) 1 8:=QI y00
def zhM:TI prog 119 (.agg #[.pointer none,.pointer none,.pointer none,.map none,.int .i64 0,.int .i64 0,.int .i64 0,.int .i64 0,.int .i64 0,.int .i64 0,.int .i64 0,.bool false]) 12 96:=QI y00
theorem Sj:TI prog 124 (.agg #[.int .i64 0,.int .i64 0]) 2 16:=QI y00
theorem zg0:TI prog 125 (.map none) 1 8:=QI y00
theorem zbP:TI prog 127 (.agg #[.slice none 0 0,.int .i64 0,.int .u8 0]) 3 40:=QI y00
theorem z9b:TI prog 129 (.agg #[.int .i64 0,.slice none 0 0,.int .i64 0,.int .u8 0]) 4 48:=QI y00
theorem z9Q:TI prog 130 (.slice none 0 0) 1 24:=QI y00
def zii:TI prog 132 (.agg #[.int .i64 0,.slice none 0 0,.int .i64 0,.int .u8 0,.int .i64 0,.int .i64 0,.map none,.slice none 0 0,.bool false,.int .i64 0,.int .i64 0]) 11 120:=QI y00
theorem zg4:TI prog 133 (.slice none 0 0) 1 24:=QI y00
def zkf:TI prog 135 (.agg #[.int .i64 0,.slice none 0 0,.slice none 0 0,.bool false]) 4 64:=QI y00
def z43:TI prog 143 (.pointer none) 1 8:=QI y00
theorem Vd:TI prog 153 (.agg #[.int .i64 0,.int .i64 0,.int .i64 0,.int .i64 0,.int .i64 0,.int .i64 0,.int .i64 0,.int .i64 0]) 8 64:=QI y00
theorem z3Q:TI prog 155 (.nilIface) 1 16:=QI y00
theorem zga:TI prog 156 (.pointer none) 1 8:=QI y00
def zkL:TI prog 158 (.agg #[.int .i64 0,.int .i64 0,.int .i64 0,.int .i64 0,.int .i64 0,.int .i64 0,.int .i64 0,.int .i64 0,.nilIface,.pointer none]) 10 88:=QI y00
theorem ZJ:TI prog 162 (.agg #[.int .i64 0,.int .i64 0,.int .i64 0]) 3 24:=QI y00
def zkA:TI prog 164 (.agg #[.int .i64 0,.int .i64 0,.int .i64 0,.int .i64 0,.int .i64 0,.pointer none,.bool false]) 7 56:=QI y00
def zfC:TI prog 175 (.agg #[.pointer none,.slice none 0 0]) 2 32:=QI y00
def z3Z:TI prog 185 (.int .u8 0) 1 1:=QI y00
theorem z8O:TI prog 186 (.map none) 1 8:=QI y00
theorem z5T:TI prog 188 (.agg #[.slice none 0 0,.map none]) 2 32:=QI y00
def ziT:TI prog 190 (.agg #[.int .i64 0,.slice none 0 0,.map none,.slice none 0 0,.map none,.slice none 0 0,.map none,.slice none 0 0,.map none,.int .i64 0,.map none]) 11 152:=QI y00
theorem YX:TI prog 195 (.agg #[.pointer none,.int .i64 0,.int .i64 0]) 3 24:=QI y00
def zfu:TI prog 197 (.agg #[.pointer none,.int .i64 0,.int .i64 0,.slice none 0 0,.int .i64 0,.int .i64 0,.int .u32 0,.nilFunc,.bool false]) 9 88:=QI y00
def zku:TI prog 202 (.agg #[.pointer none,.int .i64 0,.int .i64 0,.int .i64 0,.int .u32 0]) 5 40:=QI y00
def zbK:TI prog 216 (.pointer none) 1 8:=QI y00
theorem z9K:TI prog 218 (.agg #[.string ⟨#[]⟩,.bool false]) 2 24:=QI y00
def zhG:TI prog 220 (.agg #[.string ⟨#[]⟩,.bool false,.int .i64 0]) 3 32:=QI y00
theorem z8N:TI prog 229 (.pointer none) 1 8:=QI y00
def WW:TI prog 231 (.agg #[.int .i64 0,.int .i64 0]) 2 16:=QI y00
theorem Ux:TI prog 236 (.agg #[.int .i64 0,.int .u64 0,.int .i64 0,.int .i64 0]) 4 32:=QI y00
def zi8:TI prog 249 (.agg #[.nilIface,.int .i64 0,.int .i64 0]) 3 32:=QI y00
def QJ:TI prog 261 (.agg #[.bool false,.bool false,.int .i64 0]) 3 16:=QI y00
def S4:TI prog 268 (.agg #[.slice none 0 0,.int .i64 0]) 2 32:=QI y00
def ziM:TI prog 269 (.agg #[.slice none 0 0,.int .i64 0,.slice none 0 0,.int .i64 0,.slice none 0 0,.int .i64 0,.slice none 0 0,.int .i64 0,.slice none 0 0,.int .i64 0,.slice none 0 0,.int .i64 0,.slice none 0 0,.int .i64 0,.slice none 0 0,.int .i64 0,.slice none 0 0,.int .i64 0,.slice none 0 0,.int .i64 0,.slice none 0 0,.int .i64 0,.slice none 0 0,.int .i64 0,.slice none 0 0,.int .i64 0,.slice none 0 0,.int .i64 0,.slice none 0 0,.int .i64 0,.slice none 0 0,.int .i64 0,.slice none 0 0,.int .i64 0]) 34 544:=QI y00
theorem zg2:TI prog 271 (.agg #[.slice none 0 0,.int .i64 0,.slice none 0 0,.int .i64 0,.slice none 0 0,.int .i64 0,.slice none 0 0,.int .i64 0,.slice none 0 0,.int .i64 0,.slice none 0 0,.int .i64 0,.slice none 0 0,.int .i64 0,.slice none 0 0,.int .i64 0,.slice none 0 0,.int .i64 0,.slice none 0 0,.int .i64 0,.slice none 0 0,.int .i64 0,.slice none 0 0,.int .i64 0,.slice none 0 0,.int .i64 0,.slice none 0 0,.int .i64 0,.slice none 0 0,.int .i64 0,.slice none 0 0,.int .i64 0,.slice none 0 0,.int .i64 0,.int .i64 0]) 35 552:=QI y00
def zic:TI prog 273 (.agg #[.int .i64 0,.int .i64 0,.int .i64 0,.int .i64 0,.int .i64 0,.slice none 0 0,.int .i64 0,.slice none 0 0,.int .i64 0,.slice none 0 0,.int .i64 0,.slice none 0 0,.int .i64 0,.slice none 0 0,.int .i64 0,.slice none 0 0,.int .i64 0,.slice none 0 0,.int .i64 0,.slice none 0 0,.int .i64 0,.slice none 0 0,.int .i64 0,.slice none 0 0,.int .i64 0,.slice none 0 0,.int .i64 0,.slice none 0 0,.int .i64 0,.slice none 0 0,.int .i64 0,.slice none 0 0,.int .i64 0,.slice none 0 0,.int .i64 0,.slice none 0 0,.int .i64 0,.slice none 0 0,.int .i64 0,.int .i64 0,.pointer none,.int .i64 0,.int .i64 0]) 43 616:=QI y00
def Vr:TI prog 276 (.agg #[.int .i64 0,.int .i64 0,.int .i64 0]) 3 24:=QI y00
def zih:TI prog 283 (.agg #[.slice none 0 0,.int .i64 0]) 2 32:=QI y00
theorem z3M:TI prog 289 (.pointer none) 1 8:=QI y00
def zhQ:TI prog 293 (.agg #[.int .i64 0,.int .u64 0,.int .i64 0,.int .i64 0,.nilIface]) 5 48:=QI y00
def zfc:TI prog 295 (.pointer none) 1 8:=QI y00
def zff:TI prog 301 (.nilFunc) 1 8:=QI y00
def Tw:TI prog 303 (.agg #[.int .i64 0,.int .i64 0]) 2 16:=QI y00
def zd3:TI prog 311 (.slice none 0 0) 1 24:=QI y00
theorem S3:TI prog 314 (.agg #[.int .u8 0,.int .u64 0]) 2 16:=QI y00
def WV:TI prog 316 (.agg #[.int .u8 0,.int .u64 0,.int .u64 0]) 3 24:=QI y00
def zjB:TI prog 321 (.agg #[.string ⟨#[]⟩,.int .i64 0]) 2 24:=QI y00
def zjY:TI prog 332 (.agg #[.pointer none,.bool false]) 2 16:=QI y00
def XO:TI prog 336 (.agg #[.int .i64 0,.string ⟨#[]⟩]) 2 24:=QI y00
def z2s:TI prog 348 (.agg #[.int .i64 0,.int .i64 0]) 2 16:=QI y00
def TZ:TI prog 351 (.agg #[.int .u64 0,.int .i64 0]) 2 16:=QI y00
def VL:TI prog 352 (.agg #[.int .u64 0,.int .i64 0,.int .u64 0,.int .i64 0]) 4 32:=QI y00
def zhI:TI prog 366 (.agg #[.pointer none,.bool false]) 2 16:=QI y00
def z6x:TI prog 383 (.int .u64 0) 1 8:=QI y00
def z1T:RD prog 30 1 1 1 false:=QD U30 O O zaI XG O
def z7d:RD prog 30 2 2 1 false:=QD U30 O O zaS U28 O
def z7W:RD prog 30 3 3 1 false:=QD U30 O O zaS U28 O
def zgH:RD prog 30 4 4 1 false:=QD U30 O O R8 U3 O
def zlY:SP prog 30 [(0,1),(1,1),(2,1),(3,1),(4,1)]:=⟨_,U30,λ_=>by simp[zhm.size,zaI.size,zaS.size,R8.size,y09,y05]⟩
def zgN:RD prog 49 0 0 1 false:=QD U49 O O R8 U3 O
def zhn:RD prog 49 1 1 1 false:=QD U49 O O R8 U3 O
def zgQ:RD prog 49 2 2 1 false:=QD U49 O O R8 U3 O
def zdl:RD prog 76 1 1 1 false:=QD U76 O O R8 U3 O
def zcE:RD prog 76 2 2 1 false:=QD U76 O O R8 U3 O
def zcT:RD prog 76 3 3 1 false:=QD U76 O O R8 U3 O
def zgr:RD prog 76 4 4 1 false:=QD U76 O O R8 U3 O
def zgp:RD prog 76 6 6 1 false:=QD U76 O O R8 U3 O
def zlb:SP prog 76 [(0,1),(1,1),(2,1),(3,1),(4,1),(5,1),(6,1)]:=⟨_,U76,λ_=>by simp[R8.size,y09,y05]⟩
def z8b:RD prog 81 0 0 1 false:=QD U81 O O Qn RO O
def z2C:RD prog 81 1 1 1 false:=QD U81 O O Qn RO O
def z0E:RD prog 85 0 0 1 false:=QD U85 O O R8 U3 O
def z0m:RD prog 85 1 1 1 false:=QD U85 O O R8 U3 O
def zl3:SP prog 85 [(0,1),(1,1)]:=⟨_,U85,λ_=>by simp[R8.size,y09,y05]⟩
def z38:RD prog 93 0 0 1 false:=QD Z4 O O R8 U3 O
def z0h:RD prog 93 1 1 1 false:=QD Z4 O O R8 U3 O
def zcQ:RD prog 93 2 2 1 false:=QD Z4 O O R8 U3 O
def zcx:RD prog 93 3 3 1 false:=QD Z4 O O R8 U3 O
def UX:RD prog 93 4 4 1 false:=QD Z4 O O R8 U3 O
def zee:SP prog 93 [(0,1),(1,1),(2,1),(3,1),(4,1)]:=⟨_,Z4,λ_=>by simp[R8.size,y09,y05]⟩
def z4o:RD prog 99 0 0 1 false:=QD U99 O O R8 U3 O
def Zm:RD prog 99 1 1 1 false:=QD U99 O O R8 U3 O
def Wy:RD prog 99 2 2 1 false:=QD U99 O O R8 U3 O
def z7h:RD prog 99 3 3 1 false:=QD U99 O O Wu U4 O
def z30:RD prog 99 4 4 1 false:=QD U99 O O Wu U4 O
def ze5:SP prog 99 [(0,1),(1,1),(2,1),(3,1),(4,1)]:=⟨_,U99,λ_=>by simp[R8.size,Wu.size,y09,y05]⟩
def RF:RD prog 103 0 0 5 true:=QD z5r O O YC U99 O
def z1O:RD prog 103 1 5 1 false:=QD z5r O O zaS U28 O
def zez:RD prog 103 2 6 1 false:=QD z5r O O zaS U28 O
def z9m:RD prog 103 3 7 1 false:=QD z5r O O R8 U3 O
def VA:RD prog 103 4 8 5 true:=QD z5r O O z5W z0q O
def zf4:RD prog 103 5 13 1 false:=QD z5r O O Wu U4 O
def z4S:RD prog 103 6 14 1 false:=QD z5r O O Wu U4 O
def zhS:SP prog 103 [(0,5),(5,1),(6,1),(7,1),(8,5),(13,1),(14,1)]:=⟨_,z5r,λ_=>by simp[z5W.size,zaS.size,R8.size,Wu.size,YC.size,y09,y05]⟩
def Wi:RD prog 119 0 0 1 false:=QD z7S O O zhm U26 O
def z4A:RD prog 119 1 1 1 false:=QD z7S O O zhT U66 O
def z9d:RD prog 119 2 2 1 false:=QD z7S O O zfV zbm O
def Wr:RD prog 119 3 3 1 false:=QD z7S O O zfA XW O
def Xa:RD prog 119 4 4 7 true:=QD z7S O O z3f U76 O
def z8T:RD prog 119 5 11 1 false:=QD z7S O O Wu U4 O
def zke:SP prog 119 [(0,1),(1,1),(2,1),(3,1),(4,7),(11,1)]:=⟨_,z7S,λ_=>by simp[zfV.size,zfA.size,zhm.size,Wu.size,zhT.size,z3f.size,y09,y05]⟩
def S6:RD prog 124 0 0 1 false:=QD Ww O O R8 U3 O
def Sk:RD prog 124 1 1 1 false:=QD Ww O O R8 U3 O
def zjS:SP prog 124 [(0,1),(1,1)]:=⟨_,Ww,λ_=>by simp[R8.size,y09,y05]⟩
def zem:RD prog 127 0 0 1 false:=QD zcX O O z8o SF O
def zeX:RD prog 127 1 1 1 false:=QD zcX O O R8 U3 O
def zeT:RD prog 127 2 2 1 false:=QD zcX O O YK U5 O
def z1r:RD prog 129 0 0 1 false:=QD zeD O O R8 U3 O
def zef:RD prog 129 1 1 3 true:=QD zeD O O zbP zcX O
def zif:SP prog 129 [(0,1),(1,3)]:=⟨_,zeD,λ_=>by simp[zbP.size,R8.size,y09,y05]⟩
def Ye:RD prog 132 0 0 4 true:=QD z6m O O z9b zeD O
def z1y:RD prog 132 1 4 2 true:=QD z6m O O zci U85 O
def z4F:RD prog 132 2 6 1 false:=QD z6m O O zg0 z8q O
def z05:RD prog 132 3 7 1 false:=QD z6m O O z9Q z1o O
def z4c:RD prog 132 4 8 1 false:=QD z6m O O Wu U4 O
def z9S:RD prog 132 5 9 1 false:=QD z6m O O R8 U3 O
def z9C:RD prog 132 6 10 1 false:=QD z6m O O R8 U3 O
def zib:SP prog 132 [(0,4),(4,2),(6,1),(7,1),(8,1),(9,1),(10,1)]:=⟨_,z6m,λ_=>by simp[zg0.size,z9b.size,z9Q.size,R8.size,Wu.size,zci.size,y09,y05]⟩
def z9q:RD prog 135 0 0 1 false:=QD zen O O R8 U3 O
def Wh:RD prog 135 1 1 1 false:=QD zen O O zg4 WK O
def ze0:RD prog 135 3 3 1 false:=QD zen O O Wu U4 O
def ziB:SP prog 135 [(0,1),(1,1),(2,1),(3,1)]:=⟨_,zen,λ_=>by simp[zg4.size,R8.size,Wu.size,y09,y05]⟩
def Vs:RD prog 153 0 0 1 false:=QD z0k O O R8 U3 O
def z1u:RD prog 153 1 1 1 false:=QD z0k O O R8 U3 O
def ZG:RD prog 153 2 2 5 true:=QD z0k O O SV Z4 O
def Wn:RD prog 153 3 7 1 false:=QD z0k O O R8 U3 O
def zfk:SP prog 153 [(0,1),(1,1),(2,5),(7,1)]:=⟨_,z0k,λ_=>by simp[R8.size,SV.size,y09,y05]⟩
def Xb:RD prog 158 0 0 8 true:=QD ze3 O O Vd z0k O
def zeA:RD prog 158 1 8 1 false:=QD ze3 O O z3Q z3a O
def z9s:RD prog 158 2 9 1 false:=QD ze3 O O zga z3h O
def zi4:SP prog 158 [(0,8),(8,1),(9,1)]:=⟨_,ze3,λ_=>by simp[Vd.size,z3Q.size,zga.size,y09,y05]⟩
def Zw:RD prog 162 0 0 1 false:=QD z1Q O O R8 U3 O
def V7:RD prog 162 1 1 1 false:=QD z1Q O O R8 U3 O
def WY:RD prog 162 2 2 1 false:=QD z1Q O O R8 U3 O
def zks:SP prog 162 [(0,1),(1,1),(2,1)]:=⟨_,z1Q,λ_=>by simp[R8.size,y09,y05]⟩
def Sn:RD prog 164 0 0 3 true:=QD zcd O O ZJ z1Q O
def z0c:RD prog 164 1 3 2 true:=QD zcd O O Sj Ww O
def X8:RD prog 164 2 5 1 false:=QD zcd O O zaI XG O
def z8Q:RD prog 164 3 6 1 false:=QD zcd O O Wu U4 O
def zja:SP prog 164 [(0,3),(3,2),(5,1),(6,1)]:=⟨_,zcd,λ_=>by simp[Sj.size,ZJ.size,zaI.size,Wu.size,y09,y05]⟩
def z1q:RD prog 175 1 1 1 false:=QD zlT O O YL RB O
def Rt:RD prog 188 0 0 1 false:=QD zaL O O z8o SF O
def ZL:RD prog 188 1 1 1 false:=QD zaL O O z8O XC O
def TD:RD prog 190 0 0 1 false:=QD z5R O O R8 U3 O
def RS:RD prog 190 1 1 2 true:=QD z5R O O z5T zaL O
def SC:RD prog 190 2 3 2 true:=QD z5R O O z5T zaL O
def S9:RD prog 190 3 5 2 true:=QD z5R O O z5T zaL O
def Sx:RD prog 190 4 7 2 true:=QD z5R O O z5T zaL O
def Sw:RD prog 190 5 9 1 false:=QD z5R O O R8 U3 O
def z1J:RD prog 190 6 10 1 false:=QD z5R O O z8O XC O
def zkI:SP prog 190 [(0,1),(1,2),(3,2),(5,2),(7,2),(9,1),(10,1)]:=⟨_,z5R,λ_=>by simp[z8O.size,z5T.size,R8.size,y09,y05]⟩
def Wg:RD prog 195 0 0 1 false:=QD z4W O O zaI XG O
def Vx:RD prog 195 1 1 2 true:=QD z4W O O Sj Ww O
def zf9:SP prog 195 [(0,1),(1,2)]:=⟨_,z4W,λ_=>by simp[Sj.size,zaI.size,y09,y05]⟩
def Ym:RD prog 197 0 0 3 true:=QD z6T O O YX z4W O
def U6:RD prog 197 1 3 1 false:=QD z6T O O YL RB O
def Zu:RD prog 197 2 4 1 false:=QD z6T O O R8 U3 O
def z1A:RD prog 197 3 5 1 false:=QD z6T O O R8 U3 O
def z4k:RD prog 197 4 6 1 false:=QD z6T O O Qn RO O
def z1v:RD prog 197 5 7 1 false:=QD z6T O O zgw U55 O
def z08:RD prog 197 6 8 1 false:=QD z6T O O Wu U4 O
def zfH:SP prog 197 [(0,3),(3,1),(4,1),(5,1),(6,1),(7,1),(8,1)]:=⟨_,z6T,λ_=>by simp[YL.size,YX.size,R8.size,Wu.size,Qn.size,zgw.size,y09,y05]⟩
def ZX:RD prog 202 0 0 3 true:=QD zdV O O YX z4W O
def z1x:RD prog 202 1 3 1 false:=QD zdV O O R8 U3 O
def zf2:RD prog 202 2 4 1 false:=QD zdV O O Qn RO O
def zkG:SP prog 202 [(0,3),(3,1),(4,1)]:=⟨_,zdV,λ_=>by simp[YX.size,R8.size,Qn.size,y09,y05]⟩
def z4n:RD prog 218 0 0 1 false:=QD ze6 O O ti9 U9 O
def z4V:RD prog 218 1 1 1 false:=QD ze6 O O Wu U4 O
def zjK:SP prog 218 [(0,1),(1,1)]:=⟨_,ze6,λ_=>by simp[Wu.size,ti9.size,y09,y05]⟩
def Xe:RD prog 220 0 0 2 true:=QD zgS O O z9K ze6 O
def zeW:RD prog 220 1 2 1 false:=QD zgS O O R8 U3 O
def zjP:SP prog 220 [(0,2),(2,1)]:=⟨_,zgS,λ_=>by simp[z9K.size,R8.size,y09,y05]⟩
def zeO:RD prog 231 0 0 1 false:=QD ze4 O O R8 U3 O
def zeB:RD prog 231 1 1 1 false:=QD ze4 O O R8 U3 O
def z1b:SP prog 231 [(0,1),(1,1)]:=⟨_,ze4,λ_=>by simp[R8.size,y09,y05]⟩
def z0e:RD prog 236 0 0 1 false:=QD z00 O O R8 U3 O
def zf1:RD prog 236 1 1 1 false:=QD z00 O O Uw SK O
def UD:RD prog 236 2 2 1 false:=QD z00 O O R8 U3 O
def z06:RD prog 236 3 3 1 false:=QD z00 O O R8 U3 O
def zhB:SP prog 236 [(0,1),(1,1),(2,1),(3,1)]:=⟨_,z00,λ_=>by simp[R8.size,Uw.size,y09,y05]⟩
def zet:RD prog 249 0 0 1 false:=QD zc5 O O z3Q z3a O
def zeN:RD prog 249 1 1 1 false:=QD zc5 O O R8 U3 O
def z4G:RD prog 249 2 2 1 false:=QD zc5 O O R8 U3 O
def zk6:SP prog 249 [(0,1),(1,1),(2,1)]:=⟨_,zc5,λ_=>by simp[z3Q.size,R8.size,y09,y05]⟩
def zeG:RD prog 261 0 0 1 false:=QD Tj O O Wu U4 O
def zep:RD prog 261 1 1 1 false:=QD Tj O O Wu U4 O
def z4x:RD prog 261 2 2 1 false:=QD Tj O O R8 U3 O
def Xm:SP prog 261 [(0,1),(1,1),(2,1)]:=⟨_,Tj,λ_=>by simp[R8.size,Wu.size,y09,y05]⟩
def TG:RD prog 268 0 0 1 false:=QD Xz O O VB QG O
def z4N:RD prog 268 1 1 1 false:=QD Xz O O R8 U3 O
def zg1:SP prog 268 [(0,1),(1,1)]:=⟨_,Xz,λ_=>by simp[R8.size,VB.size,y09,y05]⟩
def z9c:RD prog 271 0 0 34 true:=QD zh5 O O ziM zh6 O
def Wl:RD prog 271 1 34 1 false:=QD zh5 O O R8 U3 O
def Y5:RD prog 273 0 0 5 true:=QD za7 O O SV Z4 O
def z07:RD prog 273 1 5 35 true:=QD za7 O O zg2 zh5 O
def z4M:RD prog 273 2 40 1 false:=QD za7 O O z8N z3b O
def z4f:RD prog 273 3 41 1 false:=QD za7 O O R8 U3 O
def zeZ:RD prog 273 4 42 1 false:=QD za7 O O R8 U3 O
def zjX:SP prog 273 [(0,5),(5,35),(40,1),(41,1),(42,1)]:=⟨_,za7,λ_=>by simp[z8N.size,zg2.size,R8.size,SV.size,y09,y05]⟩
def UG:RD prog 276 0 0 1 false:=QD XT O O R8 U3 O
def Vv:RD prog 276 1 1 1 false:=QD XT O O R8 U3 O
def z1D:RD prog 276 2 2 1 false:=QD XT O O R8 U3 O
def zj3:SP prog 276 [(0,1),(1,1),(2,1)]:=⟨_,XT,λ_=>by simp[R8.size,y09,y05]⟩
def ZC:RD prog 283 0 0 1 false:=QD zht O O YL RB O
def Y3:RD prog 283 1 1 1 false:=QD zht O O R8 U3 O
def zky:SP prog 283 [(0,1),(1,1)]:=⟨_,zht,λ_=>by simp[YL.size,R8.size,y09,y05]⟩
def TC:RD prog 293 0 0 4 true:=QD zgL O O Ux z00 O
def z4g:RD prog 293 1 4 1 false:=QD zgL O O z3Q z3a O
def zjq:SP prog 293 [(0,4),(4,1)]:=⟨_,zgL,λ_=>by simp[z3Q.size,Ux.size,y09,y05]⟩
def UE:RD prog 303 0 0 1 false:=QD z35 O O R8 U3 O
def TK:RD prog 303 1 1 1 false:=QD z35 O O R8 U3 O
def zcY:SP prog 303 [(0,1),(1,1)]:=⟨_,z35,λ_=>by simp[R8.size,y09,y05]⟩
def Tn:RD prog 314 0 0 1 false:=QD Td O O YK U5 O
def Ya:RD prog 314 1 1 1 false:=QD Td O O Uw SK O
def zf6:SP prog 314 [(0,1),(1,1)]:=⟨_,Td,λ_=>by simp[Uw.size,YK.size,y09,y05]⟩
def z8U:RD prog 316 0 0 2 true:=QD zca O O S3 Td O
def z9N:RD prog 316 1 2 1 false:=QD zca O O Uw SK O
def zfv:SP prog 316 [(0,2),(2,1)]:=⟨_,zca,λ_=>by simp[S3.size,Uw.size,y09,y05]⟩
def z4E:RD prog 321 0 0 1 false:=QD zhf O O ti9 U9 O
def Wk:RD prog 321 1 1 1 false:=QD zhf O O R8 U3 O
def zjR:SP prog 321 [(0,1),(1,1)]:=⟨_,zhf,λ_=>by simp[R8.size,ti9.size,y09,y05]⟩
def zeM:RD prog 332 0 0 1 false:=QD zhh O O z3M VS O
def Vb:RD prog 332 1 1 1 false:=QD zhh O O Wu U4 O
def ziX:SP prog 332 [(0,1),(1,1)]:=⟨_,zhh,λ_=>by simp[z3M.size,Wu.size,y09,y05]⟩
def z1H:RD prog 336 0 0 1 false:=QD zdB O O R8 U3 O
def z4z:RD prog 336 1 1 1 false:=QD zdB O O ti9 U9 O
def zk4:SP prog 336 [(0,1),(1,1)]:=⟨_,zdB,λ_=>by simp[R8.size,ti9.size,y09,y05]⟩
def z4C:RD prog 348 0 0 1 false:=QD zei O O R8 U3 O
def z94:RD prog 348 1 1 1 false:=QD zei O O R8 U3 O
def zjp:SP prog 348 [(0,1),(1,1)]:=⟨_,zei,λ_=>by simp[R8.size,y09,y05]⟩
def z97:RD prog 351 0 0 1 false:=QD z5a O O Uw SK O
def z1K:RD prog 351 1 1 1 false:=QD z5a O O R8 U3 O
def zdk:SP prog 351 [(0,1),(1,1)]:=⟨_,z5a,λ_=>by simp[R8.size,Uw.size,y09,y05]⟩
def zeV:RD prog 366 0 0 1 false:=QD zgl O O z3M VS O
def z1N:RD prog 366 1 1 1 false:=QD zgl O O Wu U4 O
def zjT:SP prog 366 [(0,1),(1,1)]:=⟨_,zgl,λ_=>by simp[z3M.size,Wu.size,y09,y05]⟩
def cf8:=QN func8
def cf9:=QN func9
def zed:=QN func10
def zm7:=QN func11
def zkU:=QN func12
def zgK:=QN func14
def ziC:=QN func15
def zlQ:=QN func16
def zkX:=QN func17
def zli:=QN func18
def ziZ:=QN func19
def zm2:=QN func20
def zl4:=QN func22
def zm4:=QN func24
def zhU:=QN func25
def zlX:=QN func28
def zm9:=QN func29
def zlU:=QN func30
def zl6:=QN func31
def zm1:=QN func32
def zhL:=QN func33
def zjZ:=QN func34
def z7O:=QN func37
def ziS:=QN func38
def zlx:=QN func39
def ziq:=QN func40
def zlm:=QN func41
def z7s:=QN func42
def zhg:=QN func43
def zjC:=QN func44
def zeJ:=QN func45
def zl5:=QN func46
def zlB:=QN func47
def zlI:=QN func48
def zjH:=QN func49
def zlo:=QN func50
def zmc:=QN func51
def z4Y:=QN func52
def zlk:=QN func53
def zl0:=QN func54
def zjQ:=QN func55
def zio:=QN func57
def zlj:=QN func61
def zme:=QN func62
def zmd:=QN func63
def zlA:=QN func64
def z5I:=QN func65
def zjU:=QN func66
def zlr:=QN func67
def zma:=QN func68
def zlK:=QN func69
def zll:=QN func70
def zlG:=QN func71
def zjn:=QN func72
def zlC:=QN func73
def zbu:=QN func74
def zjb:=QN func75
def zgX:=QN func76
def zh4:=QN func77
def zir:=QN func78
def zmb:=QN func79
def z5E:=QN func80
def zm3:=QN func81
def zlw:=QN func82
def zco:=QN func83
def ziG:=QN func84
def zjD:=QN func85
def zl9:=QN func86
def zjk:=QN func87
def zhP:=QN func88
def zlN:=QN func91
def zlO:=QN func92
def zlH:=QN func93
def zlc:=QN func94
def zgI:=QN func95
def zlP:=QN func96
def zjo:=QN func97
def zjc:=QN func98
def zha:=QN func99
def zdi:=QN func100
def zfJ:=QN func101
def zjN:=QN func102
def zfS:=QN func103
def zfZ:=QN func104
def zfU:=QN func105
def zfh:=QN func106
def ziQ:=QN func107
def zjs:=QN func108
def zk7:=QN func109
def zjj:=QN func114
def YR:=QN func115
def zfm:=QN func116
def zkl:=QN func117
def zkD:=QN func118
def zg9:=QN func119
def zfz:=QN func120
def zjr:=QN func121
def zkd:=QN func122
def zjf:=QN func124
def ziV:=QN func125
def ziR:=QN func126
def zjE:=QN func127
def ziJ:=QN func128
def zc6:=QN func129
def z2B:=QN func130
def XK:=QN func131
def z9B:=QN func132
def zkv:=QN func133
def zcO:=QN func134
def z3z:=QN func135
def zf8:=QN func136
def zgb:=QN func137
def z6A:=QN func138
def zhz:=QN func139
def zje:=QN func140
def zj0:=QN func141
def zko:=QN func142
def zkj:=QN func143
def zia:=QN func144
def ziF:=QN func145
def ziE:=QN func146
def zhK:=QN func147
def zi5:=QN func150
def zfs:=QN func152
def zjh:=QN func153
def zhN:=QN func154
def zi7:=QN func156
def zhJ:=QN func157
def ziI:=QN func158
def zfl:=QN func160
def z57:=QN func161
def z2t:=QN func162
def zjv:=QN func163
def z9I:=QN func164
def zfK:=QN func165
def zj6:=QN func166
def zij:=QN func167
def zjV:=QN func168
def z3y:=QN func169
def zkw:=QN func170
def z9n:=QN func171
def z1c:=QN func172
def z66:=QN func173
def zkE:=QN func174
def z9y:=QN func175
def zgd:=QN func176
def zgh:=QN func177
def YP:=QN func178
def TT:=QN func179
def zkg:=QN func180
def zkH:=QN func181
def zkp:=QN func183
def zfN:=QN func184
def zj2:=QN func185
def zi3:=QN func186
def Zy:=QN func187
def Uv:=QN func188
def z0f:=QN func189
def zg5:=QN func190
def z2E:=QN func191
def zbH:=QN func192
def zkO:=QN func193
def zfe:=QN func194
def zfL:=QN func195
def zkC:=QN func196
def z6P:=QN func197
def zjl:=QN func198
def zfb:=QN func199
def zfI:=QN func200
def zhZ:=QN func201
def zk8:=QN func202
def ziY:=QN func203
def ziA:=QN func204
def zfB:=QN func205
def zfi:=QN func206
def zi9:=QN func207
def zkY:=QN func208
def zj8:=QN func209
def zfw:=QN func210
def z9i:=QN func211
def z5c:=QN func212
def zkP:=QN func213
def zjm:=QN func214
def zbL:=QN func215
def zjL:=QN func216
def zj7:=QN func217
def zhY:=QN func218
def zgg:=QN func219
def ZF:=QN func220
def zhE:=QN func221
def z5B:=QN func222
def zkN:=QN func223
def zfM:=QN func224
def zhX:=QN func225
def zfq:=QN func226
def zfn:=QN func227
def zg7:=QN func228
def zcp:=QN func229
def zhR:=QN func230
def zkT:=QN func231
def zkt:=QN func232
def zk3:=QN func233
def ziz:=QN func234
def zhV:=QN func235
def z5x:=QN func236
def zfO:=QN func237
def zin:=QN func238
def zkJ:=QN func239
def zjw:=QN func240
def zkK:=QN func241
def zi1:=QN func242
def z42:=QN func243
def zfT:=QN func244
def zcJ:=QN func245
def zfY:=QN func246
def zjg:=QN func247
def zki:=QN func248
def zfW:=QN func249
def zc4:=QN func250
def zk2:=QN func251
def z9j:=QN func252
def zkh:=QN func253
def zil:=QN func254
def zj1:=QN func255
def zjy:=QN func256
def zis:=QN func257
def zj4:=QN func258
def zj5:=QN func259
def Xs:=QN func260
def zjO:=QN func261
def zi0:=QN func262
def zfF:=QN func264
def zjI:=QN func265
def ziN:=QN func266
def zkR:=QN func268
def zhA:=QN func269
def zdI:=QN func270
def zid:=QN func290
def zhy:=QN func291
def zit:=QN func293
def zkx:=QN func294
def wtr (ops:List Oper)(i:Nat):List Nat:=(List.range ops.length).foldl (λa j=>match ops[j]? with|some o=>if o.after.any (λx=>Region.binds .any x&&(x.on==i ||a.contains x.on)) then a++[j] else a|none=>a) []
section
variable {l:List Oper}{e:Env}{d:Nat}{pos:String}{v:Value}
def qV (q:Y D.C.P e ⟨some d,op,ty,pos,aft,g⟩ v w w')(h:RL D l ((d,v)::e) w')(o:Tp D e g true=true:=by exact rfl)(j:Nat.blt d D.C.n=true:=by exact rfl):RL D (⟨some d,op,ty,pos,aft,g⟩::l) e w:=Wx o j q h
theorem qS (h:RL D l ((d,undef)::e) w)(o:Tp D e g false=true:=by exact rfl)(j:Nat.blt d D.C.n=true:=by exact rfl):RL D (⟨some d,op,ty,pos,aft,g⟩::l) e w:=ziw o j h
theorem Q4 {x:Operand}(q:look e x=some v)(h:RL D l ((d,v)::e) w)(o:Tp D e g true=true:=by exact rfl)(j:Nat.blt d D.C.n=true:=by exact rfl):RL D (⟨some d,.move x,ty,pos,aft,g⟩::l) e w:=Wx o j (YN q) h
theorem Tq {x:Operand}(q:look e x=some v)(h:RL D l ((d,v)::e) w)(o:Tp D e g true=true:=by exact rfl)(j:Nat.blt d D.C.n=true:=by exact rfl):RL D (⟨some d,.assign x,ty,pos,aft,g⟩::l) e w:=Wx o j (SG q) h
theorem Ra {x:Operand}(j:(look e x,look e y)=(some (I a),some (I b)))(h:RL D l ((d,I (a+b))::e) w)(o:JIq (a+b):=by omega)(r:Tp D e g true=true:=by exact rfl)(q:Nat.blt d D.C.n=true:=by exact rfl):RL D (⟨some d,.binOp .add t x y t',ty,pos,aft,g⟩::l) e w:=Wx r q (W7 (congrArg Prod.fst j) (congrArg Prod.snd j) o) h
theorem Qj {S:Value->World->Prop}{args:List Operand}(r:CF D.C.P f)(j:looks e args=some vs)(o:Qx D.C.P f vs w S)(h:∀v w',S v w'->RL D l ((d,v)::e) w')(s:Tp D e g true=true:=by exact rfl)(q:Nat.blt d D.C.n=true:=by exact rfl):RL D (⟨some d,.call ⟨.value (.func f),args.toArray,ts⟩,ty,pos,aft,g⟩::l) e w:=S5 s q (yc r j) o h
def SD [hp:Decidable p](j:RL D l ((d,.bool true)::e) w)(h:p:=by first|rfl|assumption|omega|decide):RL D l ((d,.bool (decide p))::e) w:=zkV h j
def QW [hp:Decidable p](j:RL D l ((d,.bool false)::e) w)(h:¬p:=by first|exact λh=>h O|assumption|omega):RL D l ((d,.bool (decide p))::e) w:=zhq h j
theorem RT {x:Operand}(j:(look e x,look e y)=(some (.int k a),some (.int k b)))(h:RL D l ((d,.bool (decide (a<b)))::e) w)(q:Tp D e g true=true:=by exact rfl)(o:Nat.blt d D.C.n=true:=by exact rfl):RL D (⟨some d,.binOp .lss t x y t',ty,pos,aft,g⟩::l) e w:=Wx q o (ylt (congrArg Prod.fst j) (congrArg Prod.snd j)) h
theorem zle {x:Operand}(j:(look e x,look e y)=(some (.int k a),some (.int k b)))(h:RL D l ((d,.bool (decide (a<=b)))::e) w)(q:Tp D e g true=true:=by exact rfl)(o:Nat.blt d D.C.n=true:=by exact rfl):RL D (⟨some d,.binOp .leq t x y t',ty,pos,aft,g⟩::l) e w:=Wx q o (yle (congrArg Prod.fst j) (congrArg Prod.snd j)) h
theorem RR {x:Operand}(j:(look e x,look e y)=(some (.int k a),some (.int k b)))(h:RL D l ((d,.bool (decide (b<a)))::e) w)(q:Tp D e g true=true:=by exact rfl)(o:Nat.blt d D.C.n=true:=by exact rfl):RL D (⟨some d,.binOp .gtr t x y t',ty,pos,aft,g⟩::l) e w:=Wx q o (Zq (congrArg Prod.fst j) (congrArg Prod.snd j)) h
theorem UL {x:Operand}(j:(look e x,look e y)=(some (.int k a),some (.int k b)))(h:RL D l ((d,.bool (decide (b<=a)))::e) w)(q:Tp D e g true=true:=by exact rfl)(o:Nat.blt d D.C.n=true:=by exact rfl):RL D (⟨some d,.binOp .geq t x y t',ty,pos,aft,g⟩::l) e w:=Wx q o (yge (congrArg Prod.fst j) (congrArg Prod.snd j)) h
theorem Ss {x:Operand}(j:(look e x,look e y)=(some (.int k a),some (.int k b)))(h:RL D l ((d,.bool (decide (a=b)))::e) w)(q:Tp D e g true=true:=by exact rfl)(o:Nat.blt d D.C.n=true:=by exact rfl):RL D (⟨some d,.binOp .eql t x y t',ty,pos,aft,g⟩::l) e w:=Wx q o (yeq (congrArg Prod.fst j) (congrArg Prod.snd j)) h
theorem RI {x:Operand}(j:(look e x,look e y)=(some (.int k a),some (.int k b)))(h:RL D l ((d,.bool (decide (a≠b)))::e) w)(q:Tp D e g true=true:=by exact rfl)(o:Nat.blt d D.C.n=true:=by exact rfl):RL D (⟨some d,.binOp .neq t x y t',ty,pos,aft,g⟩::l) e w:=Wx q o (yne (congrArg Prod.fst j) (congrArg Prod.snd j)) h
theorem Sh {x:Operand}(j:(look e c,look e x)=(some (.bool true),some v))(h:RL D l ((d,v)::e) w)(q:Tp D e g true=true:=by exact rfl)(o:Nat.blt d D.C.n=true:=by exact rfl):RL D (⟨some d,.pick c x y,ty,pos,aft,g⟩::l) e w:=Wx q o (WA (congrArg Prod.fst j) (congrArg Prod.snd j)) h
theorem R0 {x:Operand}(j:(look e c,look e y)=(some (.bool false),some v))(h:RL D l ((d,v)::e) w)(q:Tp D e g true=true:=by exact rfl)(o:Nat.blt d D.C.n=true:=by exact rfl):RL D (⟨some d,.pick c x y,ty,pos,aft,g⟩::l) e w:=Wx q o (VF (congrArg Prod.fst j) (congrArg Prod.snd j)) h
theorem zex {x:Operand}{vs:Array Value}(j:(look e x,vs[i]?)=(some (.tuple vs),some v))(h:RL D l ((d,v)::e) w)(q:Tp D e g true=true:=by exact rfl)(o:Nat.blt d D.C.n=true:=by exact rfl):RL D (⟨some d,.extract x i,ty,pos,aft,g⟩::l) e w:=Wx q o (SH (congrArg Prod.fst j) (congrArg Prod.snd j)) h
theorem Qf {n b:Nat}{x:Operand}(o:RD D.C.P t i off (n+1) agg)(r:look e x=some (ptr b m))(h:RL D l ((d,ptr b (m+off))::e) w)(q:Tp D e g true=true:=by exact rfl)(j:Nat.blt d D.C.n=true:=by exact rfl):RL D (⟨some d,.fieldAddr t x i,ty,pos,aft,g⟩::l) e w:=Wx q j (QE o r) h
theorem SS {x:Operand}{a:Option Addr}{len:Nat}(ht:D.C.P.underlying t=some (.slice el))(q:look e x=some (.slice a len cap))(h:RL D l ((d,I (len:Int))::e) w)(o:Tp D e g true=true:=by exact rfl)(j:Nat.blt d D.C.n=true:=by exact rfl):RL D (⟨some d,.call ⟨.builtin .len,#[x],#[t]⟩,ty,pos,aft,g⟩::l) e w:=Wx o j (TM ht q) h
theorem SA {x:Operand}(j:(look e x,look e y)=(some (I a),some (I b)))(h:RL D l ((d,I (a-b))::e) w)(o:JIq (a-b):=by omega)(r:Tp D e g true=true:=by exact rfl)(q:Nat.blt d D.C.n=true:=by exact rfl):RL D (⟨some d,.binOp .sub t x y t',ty,pos,aft,g⟩::l) e w:=Wx r q (YS (congrArg Prod.fst j) (congrArg Prod.snd j) o) h
theorem Qe {x:Operand}(q:look e x=some v)(h:QA D.C D.k ((d,v)::e) w)(o:Tp D e g true=true:=by exact rfl)(j:Nat.blt d D.C.n=true:=by exact rfl):RL D [⟨some d,.assign x,ty,pos,aft,g⟩] e w:=Wx o j (SG q) (PR h)
theorem Qq {x:Operand}(q:(look e x,look ((d,v)::e) y)=(some v,some v'))(h:RL D l ((d',v')::(d,v)::e) w)(s:Tp D e g true=true:=by exact rfl)(r:Nat.blt d D.C.n=true:=by exact rfl)(o:Tp D ((d,v)::e) g' true=true:=by exact rfl)(j:Nat.blt d' D.C.n=true:=by exact rfl):RL D (⟨some d,.move x,ty,pos,aft,g⟩::⟨some d',.move y,ty',pos',aft',g'⟩::l) e w:=Wx s r (YN (congrArg Prod.fst q)) (Wx o j (YN (congrArg Prod.snd q)) h)
def z8K:Value->Bool
  | .pointer (some _)=>true
  | .func (.func _) _ _=>true
  |_=>false
theorem Rs {d:Option Nat}{x:Operand}(j:look e x=some v)(h:z8K v=true:=by exact rfl):Y P e ⟨d,.nilCheck x,ty,pos,aft,g⟩ v w w:=by
  unfold z8K at h
  split at h
  · exact ync j
  · exact zmf j
  · cases h
theorem QC {x:Operand}(r:look e x=some v)(h:RL D l ((d,v)::e) w)(q:z8K v=true:=by exact rfl)(o:Tp D e g true=true:=by exact rfl)(j:Nat.blt d D.C.n=true:=by exact rfl):RL D (⟨some d,.nilCheck x,ty,pos,aft,g⟩::l) e w:=Wx o j (Rs r q) h
end
section
variable {k:List Item}{e e':Env}{y:Code}
def qN {x:Code}(j:T0 C.n ops=true)(h:RL ⟨C,ops,.code x::k,j⟩ ops e w):QA C (.code (.seq (.region id ops.toArray false) x)::k) e w:=It (PY j h)
def SN {α:Type}{c:Code}(h:α)(E:α->Env)(I:α->World->Prop)(μ:α->Nat)(n:I h w)(round:∀x w,I x w->(∀y w',I y w'->μ y<μ x->QA C (.inLoop c::k) (E y) w')->QA C (.code c:: .inLoop c::k) (E x) w)(j:Sub (E h) e:=by repeat (first|exact Sub.nil|refine Sub.cons O ?_)):QA C (.code (.loop c)::k) e w:=zdE h E I μ j n round
def QA.qb (h:QA C k e w)(j:Sub e e':=by repeat (first|exact Sub.nil|refine Sub.cons O ?_)):QA C k e' w:=h.sub j
end
section
variable {k:List Item}{e:Env}{x:Code}
def qM {o:T0 C.n ops0=true}(j:T0 C.n ops=true)(h:RL ⟨C,ops,.code x::k,j⟩ ops e w):RL ⟨C,ops0,.code (.seq (.region id ops.toArray false) x)::k,o⟩ [] e w:=PR (It (PY j h))
end
section
variable {late:List Nat}{S:World->Prop}{e:Env}{d fuel:Nat}{pos:String}{listed:Array Bool}{v:Value}
def qT (i:Nat)(hi:D.ops[i]? =some ⟨some d,op,ty,pos,aft,g⟩)(s:∀w,S w->Y D.C.P e ⟨some d,op,ty,pos,aft,g⟩ v w w)(j:S w)(h:RH D S fuel (listed.setIfInBounds i true) ((d,v)::e) w)
    (q:Ty D.ops listed i=true:=by kernel_rfl) (r:Tp D e g true=true:=by exact rfl) (o:Nat.blt d D.C.n=true:=by exact rfl):RH D S (fuel+1) listed e w:=zbO hi q r o s j h
def PV (i:Nat)(hi:D.ops[i]? =some ⟨some d,op,ty,pos,aft,g⟩)(s:∀{w},Y D.C.P e ⟨some d,op,ty,pos,aft,g⟩ v w w)(j:S w)(h:RH D S fuel (listed.setIfInBounds i true) ((d,v)::e) w)
    (q:Ty D.ops listed i=true:=by kernel_rfl) (r:Tp D e g true=true:=by exact rfl) (o:Nat.blt d D.C.n=true:=by exact rfl):RH D S (fuel+1) listed e w:=zbO hi q r o (λ_ _=>s) j h
def Vn [hp:Decidable p](j:RH D S fuel listed ((d,.bool true)::e) w)(h:p:=by first|rfl|assumption|omega|decide):RH D S fuel listed ((d,.bool (decide p))::e) w:=ziy h j
def Vm [hp:Decidable p](j:RH D S fuel listed ((d,.bool false)::e) w)(h:¬p:=by first|exact λh=>h O|assumption|omega):RH D S fuel listed ((d,.bool (decide p))::e) w:=zgu h j
theorem U0 {late:List Nat}(rs:List Nat)(h:RH D (λ_=>True) fuel listed e w)(n:Tm D.ops listed rs=true:=by kernel_rfl)(j:zfX rs late=true:=by kernel_rfl):RHL D late S fuel listed e w:=zkF rs n j h
theorem Ql {x:Operand}(i:Nat)(hi:D.ops[i]? =some ⟨some d,.move x,ty,pos,aft,g⟩)(s:look e x=some v)(j:S w)(h:RH D S fuel (listed.setIfInBounds i true) ((d,v)::e) w)
    (q:Ty D.ops listed i=true:=by kernel_rfl) (r:Tp D e g true=true:=by exact rfl) (o:Nat.blt d D.C.n=true:=by exact rfl):RH D S (fuel+1) listed e w:=zbO hi q r o (λ_ _=>YN s) j h
theorem qJ (i:Nat)(hi:D.ops[i]? =some ⟨some d,op,ty,pos,aft,g⟩)(j:S w)(h:RH D S fuel (listed.setIfInBounds i true) ((d,undef)::e) w)
    (q:Ty D.ops listed i=true:=by kernel_rfl) (r:Tp D e g false=true:=by exact rfl) (o:Nat.blt d D.C.n=true:=by exact rfl):RH D S (fuel+1) listed e w:=zjd hi q r o j h
def qO (i:Nat)(h:Nx D S fuel listed e w i)(j:Tm D.ops listed [i]=true:=by kernel_rfl):RH D S (fuel+1) listed e w:=ziK j h
def TQ {T:Value->World->Prop}{args:List Operand}(i:Nat)(hi:D.ops[i]? =some ⟨some d,.call ⟨.value (.func f),args.toArray,ts⟩,ty,pos,aft,g⟩)(r:CF D.C.P f)(j:looks e args=some vs)(o:Qx D.C.P f vs w T)(h:∀v w',T v w'->S w'/\RH D S fuel (listed.setIfInBounds i true) ((d,v)::e) w')
    (u:Tm D.ops listed [i]=true:=by kernel_rfl) (s:Tp D e g true=true:=by exact rfl) (q:Nat.blt d D.C.n=true:=by exact rfl):RH D S (fuel+1) listed e w:=ziK u (XH hi s q (yc r j) o h)
theorem qE (h:QA D.C D.k e w)(j:Tm D.ops listed []=true:=by kernel_rfl):RH D S fuel listed e w:=zlu j h
def qL (i:Nat)(hi:D.ops[i]? =some ⟨some d,op,ty,pos,aft,g⟩)(s:∀w,S w->Y D.C.P e ⟨some d,op,ty,pos,aft,g⟩ v w w)(j:S w)(h:RHL D late S fuel (listed.setIfInBounds i true) ((d,v)::e) w)
    (q:(Ty D.ops listed i&&waits D.ops listed late (wtr D.ops i) i)=true:=by kernel_rfl) (r:Tp D e g true=true:=by exact rfl) (o:Nat.blt d D.C.n=true:=by exact rfl):RHL D late S (fuel+1) listed e w:=z6Z _ hi q r o s j h
def Qs (i:Nat)(hi:D.ops[i]? =some ⟨some d,op,ty,pos,aft,g⟩)(s:∀{w},Y D.C.P e ⟨some d,op,ty,pos,aft,g⟩ v w w)(j:S w)(h:RHL D late S fuel (listed.setIfInBounds i true) ((d,v)::e) w)
    (q:(Ty D.ops listed i&&waits D.ops listed late (wtr D.ops i) i)=true:=by kernel_rfl) (r:Tp D e g true=true:=by exact rfl) (o:Nat.blt d D.C.n=true:=by exact rfl):RHL D late S (fuel+1) listed e w:=z6Z _ hi q r o (λ_ _=>s) j h
theorem R1 {x:Operand}(i:Nat)(hi:D.ops[i]? =some ⟨some d,.move x,ty,pos,aft,g⟩)(s:look e x=some v)(j:S w)(h:RHL D late S fuel (listed.setIfInBounds i true) ((d,v)::e) w)
    (q:(Ty D.ops listed i&&waits D.ops listed late (wtr D.ops i) i)=true:=by kernel_rfl) (r:Tp D e g true=true:=by exact rfl) (o:Nat.blt d D.C.n=true:=by exact rfl):RHL D late S (fuel+1) listed e w:=z6Z _ hi q r o (λ_ _=>YN s) j h
end
section
variable {k:List Item}{e:Env}{l:List Oper}{y y2:Code}{d:Nat}{op':Op}{pos:String}{v:Value}{x x':Operand}
theorem Qz (j:(T0 C.n (⟨some d,.move x,ty,pos,aft,g⟩::l),look e x)=(true,some v))(h:RL ⟨C,⟨some d,.move x,ty,pos,aft,g⟩::l,.code y::k,congrArg Prod.fst j⟩ l ((d,v)::e) w)(q:Tp ⟨C,⟨some d,.move x,ty,pos,aft,g⟩::l,.code y::k,congrArg Prod.fst j⟩ e g true=true:=by exact rfl)(o:Nat.blt d C.n=true:=by exact rfl):QA C (.code (.seq (.region id (⟨some d,.move x,ty,pos,aft,g⟩::l).toArray false) y)::k) e w:=qN (congrArg Prod.fst j) (Q4 (congrArg Prod.snd j) h q o)
theorem Sb {o:T0 C.n ops0=true}(j:(look e x,T0 C.n ops)=(some v,true))(h:RL ⟨C,ops,.code y::k,congrArg Prod.snd j⟩ ops ((d,v)::e) w)(r:Tp ⟨C,ops0,.code (.seq (.region id ops.toArray false) y)::k,o⟩ e g true=true:=by exact rfl)(q:Nat.blt d C.n=true:=by exact rfl):RL ⟨C,ops0,.code (.seq (.region id ops.toArray false) y)::k,o⟩ [⟨some d,.assign x,ty,pos,aft,g⟩] e w:=Tq (congrArg Prod.fst j) (qM (congrArg Prod.snd j) h) r q
theorem RK (j:((T0 C.n (⟨some d,.move x,ty,pos,aft,g⟩::⟨some d',.move x',ty',pos',aft',g'⟩::l),look e x),look ((d,v)::e) x')=((true,some v),some v'))(h:RL ⟨C,⟨some d,.move x,ty,pos,aft,g⟩::⟨some d',.move x',ty',pos',aft',g'⟩::l,.code y::k,congrArg (λz=>z.1.1) j⟩ l ((d',v')::(d,v)::e) w)(s:Tp ⟨C,⟨some d,.move x,ty,pos,aft,g⟩::⟨some d',.move x',ty',pos',aft',g'⟩::l,.code y::k,congrArg (λz=>z.1.1) j⟩ e g true=true:=by exact rfl)(r:Nat.blt d C.n=true:=by exact rfl)(q:Tp ⟨C,⟨some d,.move x,ty,pos,aft,g⟩::⟨some d',.move x',ty',pos',aft',g'⟩::l,.code y::k,congrArg (λz=>z.1.1) j⟩ ((d,v)::e) g' true=true:=by exact rfl)(o:Nat.blt d' C.n=true:=by exact rfl):QA C (.code (.seq (.region id (⟨some d,.move x,ty,pos,aft,g⟩::⟨some d',.move x',ty',pos',aft',g'⟩::l).toArray false) y)::k) e w:=qN (congrArg (λz=>z.1.1) j) (Q4 (congrArg (λz=>z.1.2) j) (Q4 (congrArg Prod.snd j) h q o) s r)
theorem Rw (q:(look e x,look ((d,v)::e) x')=(some v,some v'))(h:QA D.C D.k ((d',v')::(d,v)::e) w)(s:Tp D e g true=true:=by exact rfl)(r:Nat.blt d D.C.n=true:=by exact rfl)(o:Tp D ((d,v)::e) g' true=true:=by exact rfl)(j:Nat.blt d' D.C.n=true:=by exact rfl):RL D [⟨some d,.assign x,ty,pos,aft,g⟩,⟨some d',.assign x',ty',pos',aft',g'⟩] e w:=Tq (congrArg Prod.fst q) (Qe (congrArg Prod.snd q) h o j) s r
theorem Tr {vs j:Array Value}{s:Nat}(r:((look e x,vs[i]?),(look ((d,v)::e) x',j[s]?))=((some (.tuple vs),some v),(some (.tuple j),some v')))(h:RL D l ((d',v')::(d,v)::e) w)(A:Tp D e g true=true:=by exact rfl)(u:Nat.blt d D.C.n=true:=by exact rfl)(q:Tp D ((d,v)::e) g' true=true:=by exact rfl)(o:Nat.blt d' D.C.n=true:=by exact rfl):RL D (⟨some d,.extract x i,ty,pos,aft,g⟩::⟨some d',.extract x' s,ty',pos',aft',g'⟩::l) e w:=zex (congrArg Prod.fst r) (zex (congrArg Prod.snd r) h q o) A u
theorem QV (j:(T0 C.n (⟨some d,.move x,ty,pos,aft,g⟩::l),look e x)=(true,some v))(h:RL ⟨C,⟨some d,.move x,ty,pos,aft,g⟩::l,.code y:: .code y2::k,congrArg Prod.fst j⟩ l ((d,v)::e) w)(q:Tp ⟨C,⟨some d,.move x,ty,pos,aft,g⟩::l,.code y:: .code y2::k,congrArg Prod.fst j⟩ e g true=true:=by exact rfl)(o:Nat.blt d C.n=true:=by exact rfl):QA C (.code (.seq (.seq (.region id (⟨some d,.move x,ty,pos,aft,g⟩::l).toArray false) y) y2)::k) e w:=It (Qz j h q o)
theorem Sc (h:RL D l ((d',undef)::(d,undef)::e) w)(r:Tp D e g false=true:=by exact rfl)(q:Nat.blt d D.C.n=true:=by exact rfl)(o:Tp D ((d,undef)::e) g' false=true:=by exact rfl)(j:Nat.blt d' D.C.n=true:=by exact rfl):RL D (⟨some d,op,ty,pos,aft,g⟩::⟨some d',op',ty',pos',aft',g'⟩::l) e w:=qS (qS h o j) r q
def Us (j:look e c=some (.bool false))(h:QA C k e w):QA C (.code (.cond c y .skip)::k) e w:=PW j (PS h)
theorem RY (j:(T0 C.n [⟨some d,.assign x,ty,pos,aft,g⟩],look e x)=(true,some v))(h:QA C (.code y::k) ((d,v)::e) w)(q:Tp ⟨C,[⟨some d,.assign x,ty,pos,aft,g⟩],.code y::k,congrArg Prod.fst j⟩ e g true=true:=by exact rfl)(o:Nat.blt d C.n=true:=by exact rfl):QA C (.code (.seq (.region id ([⟨some d,.assign x,ty,pos,aft,g⟩]:List Oper).toArray false) y)::k) e w:=qN (congrArg Prod.fst j) (Qe (congrArg Prod.snd j) h q o)
theorem RZ {r:T0 C.n ops0=true}(j:((look e x',T0 C.n (⟨some d,.move x,ty,pos,aft,g⟩::l)),look ((d',v')::e) x)=((some v',true),some v))(h:RL ⟨C,⟨some d,.move x,ty,pos,aft,g⟩::l,.code y::k,congrArg (λz=>z.1.2) j⟩ l ((d,v)::(d',v')::e) w)(u:Tp ⟨C,ops0,.code (.seq (.region id (⟨some d,.move x,ty,pos,aft,g⟩::l).toArray false) y)::k,r⟩ e g' true=true:=by exact rfl)(s:Nat.blt d' C.n=true:=by exact rfl)(q:Tp ⟨C,⟨some d,.move x,ty,pos,aft,g⟩::l,.code y::k,congrArg (λz=>z.1.2) j⟩ ((d',v')::e) g true=true:=by exact rfl)(o:Nat.blt d C.n=true:=by exact rfl):RL ⟨C,ops0,.code (.seq (.region id (⟨some d,.move x,ty,pos,aft,g⟩::l).toArray false) y)::k,r⟩ [⟨some d',.assign x',ty',pos',aft',g'⟩] e w:=Sb (congrArg Prod.fst j) (Q4 (congrArg Prod.snd j) h q o) u s
def Ri {j:T0 C.n ops0=true}(o:look e c=some (.bool false))(h:QA C k e w):RL ⟨C,ops0,.code (.cond c y .skip)::k,j⟩ [] e w:=PR (Us o h)
theorem Sv (j:(T0 C.n (⟨some d,.move x,ty,pos,aft,g⟩::l),look e x)=(true,some v))(h:RL ⟨C,⟨some d,.move x,ty,pos,aft,g⟩::l,k,congrArg Prod.fst j⟩ l ((d,v)::e) w)(q:Tp ⟨C,⟨some d,.move x,ty,pos,aft,g⟩::l,k,congrArg Prod.fst j⟩ e g true=true:=by exact rfl)(o:Nat.blt d C.n=true:=by exact rfl):QA C (.code (.region id (⟨some d,.move x,ty,pos,aft,g⟩::l).toArray false)::k) e w:=PY (congrArg Prod.fst j) (Q4 (congrArg Prod.snd j) h q o)
def RU (h:QA C (.code y:: .inBlock id:: .code y2::k) e w):QA C (.code (.seq (.block id y) y2)::k) e w:=It (PT h)
end
theorem Sq {k:List Item}{e:Env}(S:World->Prop)(j:T0 C.n ops=true)(h:RH ⟨C,ops,k,j⟩ S ops.length (Array.replicate ops.length false) e w.drew)(q:C.P.follows .mixedOrders=true:=by kernel_rfl)(o:calm ops=true:=by rfl):QA C (.code (.region id ops.toArray true)::k) e w:=z6G S q j h o
def SJ {α:Type}{a b:α}(h:some a=some b):a=b:=y16 h
def U2:=underlying2
def U20:=underlying20
def U22:=underlying22
def U23:=underlying23
def U34:=underlying34
def U43:=underlying43
def U44:=underlying44
def U45:=underlying45
def z3k:=underlying100
def zik:=underlying110
def z4K:=underlying143
def zeH:=underlying146
def zdW:=underlying151
def zgR:=underlying172
def zbI:=underlying185
def zj9:=underlying216
def zlW:=underlying222
def Xv:=underlying223
def zgG:=underlying232
def zh9:=underlying238
def zlM:=underlying295
def zh1:=underlying296
def zju:=underlying301
def z2y:=underlying311
def zcq:=underlying344
def z2Q:=underlying352
def z5n:=underlying383
def We (w:World)(g:Nat)(cs:List Value)(T:TypeId):Prop:=w.heap[g]? =some (.cells cs.toArray T (0,0))
theorem We.PO {g:Nat}(h:We w g cs T):Q8 w g cs T:=⟨(0,0),h,λi _ h=>ω⟩
theorem We.set {g:Nat}(h:We w g cs T)(i:Nat)(v:Value):We (w.setCell ⟨g,i,none⟩ v) g (cs.set i v) T:=by
 unfold We at h⊢
 simp[World.setCell,y37,h]
theorem We.ext {g:Nat}(h:We w g cs T)(k:Ext w w'):We w' g cs T:=k.heap h id
def Sl.row {g n:Nat}{e:TypeId}{size:Nat}(h:Sl w (.slice (some ⟨g,0,none⟩) n cap) e size n cs):∃cur,We w g cur e/\n<=cap/\cap<=maxLen/\cur.length=cap*size/\cur.take (n*size)=cs:=by
 rcases h.2 with⟨s,-⟩|⟨v,j,cur,r,-,hg,o,l,q,ht⟩
 ·cases s
 ·cases r;exact⟨cur.toList,by unfold We;simpa using hg,o,l,by simpa using q,ht⟩
def We.sl {g n:Nat}{e:TypeId}{size:Nat}(h:We w g cur e)(j:n<=cap)(o:cap<=maxLen)(l:cur.length=cap*size):Sl w (.slice (some ⟨g,0,none⟩) n cap) e size n (cur.take (n*size)):=
 ⟨by rw[y0d,l];exact y0B (y0S _ j),.inr ⟨g,cap,cur.toArray,O,y03 _,h,j,o,by simpa using l,ξ⟩⟩
theorem We.cell {w:World}{g i:Nat}{cur:List Value}{e:TypeId}(h:We w g cur e):w.cell? ⟨g,i,none⟩=cur[i]? :=h.PO.cell i
theorem We.rd {g n c:Nat}{e:TypeId}(h:We w g cur e)(o:i+n<=cur.length):Rd w (.slice (some ⟨g,i,none⟩) n c) 1 n ((cur.drop i).take n):=by
 refine⟨by simp;omega,.inr ⟨g,i,c,rfl,λj u l=>?_⟩⟩
 rw[h.cell]
 rw[y1H] at l
 split at l
 ·rwa [y1M] at l
 ·cases l
def WX {a:Option Addr}{c:Nat}:Rd w (.slice a 0 c) 1 0 []:=⟨rfl,.inl ⟨(a,c),rfl,rfl⟩⟩
theorem Rd.kpz {S:Nat->Prop}{v:Value}{size n:Nat}(h:Rd w v size n cs)(k:Kp S w w')(s:0<n->∀g,v.ownBlock=some g->¬S g):Rd w' v size n cs:=by
 rcases y0D n with l|l
 ·subst l;refine⟨h.1,?_⟩;have r:cs=[]:=y0w (by have:=h.1;omega);rcases h.2 with q|⟨b,off,cap,e,-⟩
  ·exact .inl q
  ·exact .inr ⟨b,off,cap,e,λj u o=>by rw[r] at o;simp at o⟩
 ·exact h.kp k (s l)
theorem Rd.ltz {v:Value}{size n g:Nat}(h:Rd w v size n cs)(r:0<size)(q:0<n)(hg:v.ownBlock=some g):g<w.heap.size:=by
 rcases h.2 with⟨c,-,s⟩|⟨b,off,cap,e,l⟩
 ·omega
 ·rw[e] at hg;have j:b=g:=SJ hg;subst j;have o:0<cs.length:=by rw[h.1];exact Nat.mul_pos q r
  exact World.block_lt_of_cell? w _ (l 0 cs[0] (y07 o))
theorem z8g (cs:List Value)(i:Nat):S1 cs i []=cs:=by simp[S1]
theorem z3e (cs vs:List Value)(i:Nat)(h:i+vs.length<=cs.length):(S1 cs i vs).length=cs.length:=by simp[S1];omega
theorem z2O (cs vs:List Value)(i j:Nat)(h:i+vs.length<=cs.length):(S1 cs i vs)[j]? =if i<=j/\j<i+vs.length then vs[j-i]? else cs[j]? :=by
 unfold S1
 rw[y06]
 by_cases l:j<i
 ·rw[y0K (by simp;omega),y1H,if_pos l,if_neg ω]
 ·rw[y0X (by simp;omega)];have e:(cs.take i).length=i:=by simp;omega
  rw[e];by_cases n:j<i+vs.length
  ·rw[y0K ω,if_pos ⟨ω,n⟩]
  ·rw[y0X ω,y1M,if_neg ω]
   congr 1;omega
def VZ {P:Program}{b:Nat}{T:TypeId}(o:Nat):∀(vs:List Value)(i:Nat) (cs:List Value) (w:World),We w b cs T->o+i+vs.length<=cs.length->(∀v∈vs,v.oneCell'=true)->
  ∃w',(storeCells ⟨b,o,none⟩ vs i).run P w= .ok () w'/\We w' b (S1 cs (o+i) vs) T/\Kp (λk=>k=b) w w'
 |[],i,cs,w,hB,_,_=>⟨w,rfl,by simpa[S1] using hB,Kp.refl _ _⟩
 | v :: r, i, cs, w, hB, hl, h1 => by
   simp only[y02] at hl;have h:o+i<cs.length:=ω
   have n:w.cell? ⟨b,o+i,none⟩=some cs[o+i]:=by rw[hB.cell];simp[h]
   have s:=hB.PO.free h;obtain⟨w',B,G,A⟩:=VZ (P:=P) o r (i+1) (cs.set (o+i) v) _ (hB.set (o+i) v) (by simp;omega) (λu E=>h1 u (y0u _ E));refine⟨w',?_,?_,(UN w b (o+i) v).trans A⟩
   ·simp only[storeCells,y09,So,run_store P w _ v _ (h1 v (y0r ..)),n,s]
    simpa using B
   ·have q:S1 (cs.set (o+i) v) (o+(i+1)) r=S1 cs (o+i) (v::r):=by
     apply y1t;intro j;rw[z2O _ _ _ _ (by simp;omega),z2O _ _ _ _ (by simp;omega)];simp only[y02];by_cases l:o+i=j
     ·subst l;rw[if_neg ω,if_pos ω];simp[h]
     ·by_cases H:o+i<j/\j<o+i+1+r.length
      ·rw[if_pos ω,if_pos ω,show j-(o+i)=(j-(o+(i+1)))+1 by omega];simp
      ·rw[if_neg ω,if_neg ω,y0W l]
    rw[<-q];exact G
section
variable {e:Env}{d:Option Nat}{pos:String}{x u u2:Operand}
def Zs {size n:Nat}{a:Option Addr}[sR:Uu za i](ht:P.underlying t=some (.slice el))(q:TI P el z size bytes)(r:look e x=some (.slice a n cap))
  (s:look e y=some (.int k za)) (h:i<=n) (v:n<=cap):
  Y P e ⟨d,.slice t x (some y) none none,ty,pos,aft,g⟩ (.slice (if cap=i then a else a.map (·.add (i*size))) (n-i) (cap-i)) w w:=fun ρ j=>by
 obtain⟨rfl⟩:=sR
 have l:=q.size (w:=w)
 have o:∀w,(Instr.sliceBound (.int k (i:Int)) n .sliceB).run P w= .ok i w:=λw=>by rw[run_sliceBound _ _ _ _ _ ω ω];simp
 simp[execOp,j _ _ r,j _ _ s,Instr.sliceAt,run_underlying ht,Instr.slice,Instr.sliceBounds,o,l]
def zlS {size n j:Nat}{a:Option Addr}{k' o:IntKind}{zb q:Int}[sR:Uu za i][xm:Uu zb j][bG:Uu q m](ht:P.underlying t=some (.slice el))(B:TI P el z size bytes)(G:look e x=some (.slice a n cap))
  (H:look e y=some (.int k za)) (E:look e u=some (.int k' zb)) (I:look e u2=some (.int o q)) (h:i<=j/\j<=m/\m<=cap):
  Y P e ⟨d,.slice t x (some y) (some u) (some u2),ty,pos,aft,g⟩ (.slice (if m=i then a else a.map (·.add (i*size))) (j-i) (m-i)) w w:=fun ρ l=>by
 obtain⟨rfl⟩:=sR
 obtain⟨rfl⟩:=xm
 obtain⟨rfl⟩:=bG
 have r:=B.size (w:=w)
 have s:∀w,(Instr.sliceBound (.int o (m:Int)) cap .slice3Acap).run P w= .ok m w:=λw=>by rw[run_sliceBound _ _ _ _ _ ω ω];simp
 have v:∀w,(Instr.sliceBound (.int k' (j:Int)) m .slice3B).run P w= .ok j w:=λw=>by rw[run_sliceBound _ _ _ _ _ ω ω];simp
 have A:∀w,(Instr.sliceBound (.int k (i:Int)) j .slice3C).run P w= .ok i w:=λw=>by rw[run_sliceBound _ _ _ _ _ ω ω];simp
 simp[execOp,l _ _ G,l _ _ H,l _ _ E,l _ _ I,Instr.sliceAt,run_underlying ht,Instr.slice,Instr.sliceBounds,s,v,A,r]
theorem YO (z:Value)(n:Nat)(h:oneV z=true):(Builtin.zeroCells z.cells n).toList=List.replicate n z:=by
 rw[WZ h]
 apply y2n
 ·simp[Builtin.zeroCells]
 ·intro i j l;simp[Builtin.zeroCells,y2Z]
def zlF {b n:Nat}(ht:P.underlying t=some (.slice el))(B:TI P el z 1 bytes)(o:oneV z=true)(l:look e x=some (.slice (some ⟨b,i,none⟩) n cap))
  (hB:We w b cs T) (hi:i+n<=cs.length):
  Yp P e ⟨d,.call ⟨.builtin .clear,#[x],#[t]⟩,ty,pos,aft,g⟩ w λv w'=>We w' b (S1 cs i (List.replicate n z)) T/\Kp (λk=>k=b) w w':=by
 obtain⟨w',A,G,s⟩:=VZ (P:=P) i (List.replicate n z) 0 cs w hB (by simp;omega) (λu E=>by rw[(List.mem_replicate.1 E).2];exact ZH o)
 rcases y0D n with j|j
 ·subst j;refine⟨.tuple #[],w,fun ρ h=>?_,by simpa[z8g] using hB,Kp.refl _ _⟩;simp[execOp,resolve,invoke,builtin,h _ _ l,Builtin.clear_,run_underlying ht,go_sem]
 ·refine⟨.tuple #[],w',fun ρ h=>?_,by simpa using G,s⟩;have q:=B.zero (w:=w);obtain⟨k,rfl⟩:∃k,n=k+1:=⟨n-1,ω⟩
  have r:(Builtin.clear_ #[t] ty #[.slice (some ⟨b,i,none⟩) (k+1) cap]).run P w= .ok (.tuple #[]) w':=by
   unfold Builtin.clear_;simp only[y25,y1v,pure_bind,y09,run_underlying ht,Result.andThen,q,YO z _ o,A,y05]
  simp[execOp,resolve,invoke,builtin,h _ _ l,r]
theorem zlE {u:Value}{size n:Nat}{news:List Value}(ht:P.underlying t=some (.slice el))(L:TI P el z size bytes)(R:0<size)
  (s:look e x=some (.slice (some ⟨gb,0,none⟩) n cap)) (v:look e y=some u) (r:Sl w (.slice (some ⟨gb,0,none⟩) n cap) el size n cs) (l:Rd w u size m news) (I:∀c∈news,c.oneCell'=true) (q:n+m<=cap):
  Yp P e ⟨d,.call ⟨.builtin .append,#[x,y],#[t,t]⟩,ty,pos,aft,g⟩ w λv' w'=>v'= .slice (some ⟨gb,0,none⟩) (n+m) cap/\Sl w' v' el size (n+m) (cs++news)/\Kp (λk=>k=gb) w w':=by
 obtain⟨i,hi,S,M,U⟩:=L
 subst M
 rcases l.2 with⟨⟨ca,c⟩,rfl,rfl⟩|⟨b,off,h,rfl,N⟩
 ·have H:news=[]:=y0w (by simpa using l.1);subst H
  have q:(Builtin.append_ #[t,t] ty #[.slice (some ⟨gb,0,none⟩) n cap,.slice ca 0 c]).run P w= .ok (.slice (some ⟨gb,0,none⟩) n cap) w:=by
   have A:n<=cap:=ω
   cases ca
   ·simp[Builtin.append_,run_underlying ht,sizeOf,typeInfo,hi,Builtin.lenOf,Builtin.firstCells,A,storeCells]
   ·simp[Builtin.append_,run_underlying ht,sizeOf,typeInfo,hi,Builtin.lenOf,Builtin.firstCells,A,storeCells,loadCells,loadCellsFrom]
  refine⟨_,w,fun ρ o=>?_,rfl,by simpa using r,Kp.refl _ _⟩;simp[execOp,resolve,invoke,builtin,o _ _ s,o _ _ v,q]
 ·have Q:∀j u,news[j]? =some u->w.cell? ((⟨b,off,none⟩:Addr).add j)=some u:=λj u l=>by rw[So];exact N j u l
  obtain⟨w',E,B,G⟩:=run_append_fits (P:=P) w 0 t ty el i i.size ht hi O gb n cap cs r ⟨b,off,none⟩ m h news l.1 Q I q;refine⟨_,w',fun ρ o=>?_,rfl,B,(Kp.W4 G).PZ λk J=>(SJ J).symm⟩;simp[execOp,resolve,invoke,builtin,o _ _ s,o _ _ v,E]
end
abbrev PU:=List UInt8
abbrev lt (a b:PU):Bool:=Op.bytesLess a b
section
end
def pos (l:List PU)(t:PU):Nat:=(l.takeWhile (λk=>lt k t)).length
theorem z29 (cs vs:List Value)(i m:Nat)(h:m<=i)(d:i<=cs.length):(S1 cs i vs).take m=cs.take m:=by
 unfold S1
 rw[y06,y1n (by simp;omega),y1z,y0B h]
theorem zbS {j:Value}{n:Nat}(r:Sl w j 3 1 n cs)(S:∀c∈cs,c.oneCell'=true)(hi:i<n)(b:n<=8589934592):
  Qx prog 207 [j,I (i:Int),I ((i:Int)+1)] w λv w'=>Sl w' v 3 1 (n-1) (cs.take i++cs.drop (i+1))/\Kp (λk=>j.ownBlock=some k) w w'/\(∀g,v.ownBlock=some g->j.ownBlock=some g):=by
 have a:maxLen=9223372036854775807:=rfl
 have M:=r.len
 rw[y0p] at M
 obtain⟨g,cap,rfl,x⟩:∃g cap,j= .slice (some ⟨g,0,none⟩) n cap/\n<=cap:=by
  rcases r.shape with⟨e,d⟩|⟨g,cap,e,h⟩
  ·omega
  ·exact⟨g,cap,e,h⟩
 obtain⟨cur,A,-,B,f7,o⟩:=r.row
 rw[y0p] at f7 o
 rw[show(i:Int)+1=((i+1:Nat):Int) by omega]
 refine py (e:=[(0,_),(1,_),(2,_)]) func207 O ntmps207 O O<|qN O<|Sb O<|Qq O<|Qq O<|SS SF O<|qV (zlS SF R8 O O O O ⟨ω,ω,x⟩) ?_
 refine PR<|It<|RK O<|Ss O<|QW<|Ri O<|Qz O<|SS SF O<|Qe O<|It<|Sq (λw'=>Kp (λk=>k=g) w w') O ?_
 have d:=Ext.Qm w
 refine Ql 0 O O ((Ext.Qm w).kp)<|Ql 1 O O ((Ext.Qm w).kp)<|Ql 3 O O ((Ext.Qm w).kp)<|Ql 4 O O ((Ext.Qm w).kp)<|PV 2 O (zcg SF R8 O O ω) ((Ext.Qm w).kp)<|PV 5 O (Zs SF R8 O O ω x) ((Ext.Qm w).kp) ?_
 have Q:Sl w (.slice (some ⟨g,0,none⟩) i cap) 3 1 i (cs.take i):=by
  have:=A.sl (n:=i) ω B (by rw[y0p];exact f7);rw[y0p,show cur.take i=cs.take i by rw[<-o,y1z,y0B ω]] at this;exact this
 have J:(cur.drop (i+1)).take (n-(i+1))=cs.drop (i+1):=by
  rw[<-o,y1r]
 have U:Rd w.drew (.slice (if cap=i+1 then some ⟨g,0,none⟩ else(some (⟨g,0,none⟩:Addr)).map (·.add ((i+1)*1))) (n-(i+1)) (cap-(i+1))) 1 (n-(i+1)) (cs.drop (i+1)):=by
  by_cases l:cap=i+1
  ·rw[if_pos l,show n-(i+1)=0 by omega,List.drop_eq_nil_of_le ω];exact WX
  ·rw[if_neg l,Option.map_some,So,y0k,y0p,<-J];exact(A.ext d).rd ω
 refine qO 6<|ZS (i:=6) O O O (zlE SF R8 ψ O O (Q.ext d) U (λc l=>S c (y20 l)) ω) ?_
 rintro _ w1⟨rfl,u,q⟩
 refine⟨d.kp.trans q,?_⟩
 have R:i+(n-(i+1))=n-1:=ω
 rw[R] at u⊢
 obtain⟨s,W,Y,Z,E,G⟩:=u.row
 rw[y0p] at E G
 refine PV 7 O (SG O) (d.kp.trans q)<|qE<|RK O<|SS SF O<|Q4 O<|qV (zgz SF R8 O O O ω ω)<|zce O (zlF SF R8 O O W ω) ?_
 rintro _ w2⟨X,L⟩
 refine PR<|QA.qb (e:=[(0,_),(6,_)]) ?_
 refine Qz O<|Qe O<|PQ func207 O ?_
 have H:=X.sl (n:=n-1) (cap:=cap) ω B (by rw[z3e _ _ _ (by simp;omega),E,y0p])
 rw[y0p,z29 _ _ _ _ ω ω,G] at H
 exact⟨_,O,H,((d.kp.trans q).trans L).PZ (λk V=>by subst V;rfl),λg' N=>N⟩
open Go.ChangeMaps (setBlock)
def TR {κ:Type}(K:κ->Value)(w:World)(m:Nat)(kv:List (κ×Value)):Prop:=(∃j h,w.heap[m]? =some (.map j h)/\Vy K j.toList kv/\(∀e∈j.toList,e.born<h)/\(j.toList.map (·.born)).Nodup)/\(kv.map (·.1)).Nodup
section
variable {κ:Type}[DecidableEq κ]{K:κ->Value}
theorem TR.l {kv:List (κ×Value)}(h:TR K w m kv):XR K w m kv:=by
 obtain⟨⟨j,c,n,o,-,-⟩,q⟩:=h
 exact⟨⟨j,c,n,o⟩,q⟩
def TR.lt {kv:List (κ×Value)}(h:TR K w m kv):m<w.heap.size:=h.l.lt
theorem TR.nd {kv:List (κ×Value)}(h:TR K w m kv):(kv.map (·.1)).Nodup:=h.2
theorem TR.kp {S:Nat->Prop}{kv:List (κ×Value)}(h:TR K w m kv)(k:Kp S w w')(o:¬S m):TR K w' m kv:=by
 obtain⟨⟨j,c,h,n⟩,l⟩:=h
 exact⟨⟨j,c,k.heap h o,n⟩,l⟩
theorem TR.ext {kv:List (κ×Value)}(h:TR K w m kv)(k:Ext w w'):TR K w' m kv:=h.kp k id
def TR.new (h:w.heap[m]? =some (.map #[] 0)):TR K w m []:=⟨⟨#[],0,h,rfl,ξ,ξ⟩,ξ⟩
def delL:List (κ×Value)->κ->List (κ×Value)
 |[],_=>[]
 |(a,v)::r,k=>if k=a then r else(a,v)::delL r k
def z5F:∀(kv:List (κ×Value)) (k:κ),(delL kv k).Sublist kv
 |[],_=> .slnil
 | (a, v) :: r, k => by
   simp only[delL];split
   ·exact y27 _ _
   ·exact(z5F r k).cons_cons _
theorem z3v {kv:List (κ×Value)}{k:κ}(h:k∉kv.map (·.1)):Su kv k=none:=by
 induction kv with
 |nil=>rfl
 | cons p r j =>
   obtain⟨a,u⟩:=p;simp only[y0j,y0h,not_or] at h;simp only[Su,h.1,if_false];exact j h.2
theorem zkM {kv:List (κ×Value)}(l:(kv.map (·.1)).Nodup)(k x:κ):Su (delL kv k) x=if x=k then none else Su kv x:=by
 induction kv with
 |nil=>simp[delL,Su]
 | cons p r n =>
   obtain⟨a,u⟩:=p;simp only[y0j,y11] at l;simp only[delL];by_cases h:k=a
   ·subst h;simp only[if_true,Su];by_cases j:x=k
    ·subst j;simp[z3v l.1]
    ·simp[j]
   ·simp only[h,if_false,Su,n l.2];by_cases j:x=a
    ·subst j;simp[Ne.symm h]
    ·simp[j]
theorem z61 {kv:List (κ×Value)}(j:(kv.map (·.1)).Nodup){k:κ}{v:Value}(h:(k,v)∈kv):Su kv k=some v:=by
 induction kv with
 |nil=>cases h
 | cons p r l =>
   obtain⟨a,u⟩:=p;simp only[y0j,y11] at j;rcases y0h.1 h with e| h
   ·cases e;simp[Su]
   ·have:k≠a:=λe=>j.1 (y0g.2 ⟨(k,v),h,e⟩);simp only[Su,this,if_false];exact l j.2 h
def z18 {q:TypeDesc}(n:∀a b,Instr.sameNow q (K a) (K b)=some (decide (a=b))):∀{l:List MapEntry} {kv:List (κ×Value)} (i:Nat) {k:κ} {v:Value},Vy K l kv->Su kv k=some v->
  ∃j,Instr.findNow q (K k) l i=some (some (i+j,v))/\j<l.length/\Vy K (l.eraseIdx j) (delL kv k)
 | e :: l, (a, v') :: kv, i, k, v, h, hg => by
   simp only[Vy,y0j,y2s,y2e] at h;simp only[Su] at hg;split at hg
   ·rename_i A
    subst A;cases hg;refine⟨0,by simp[Instr.findNow,h.1.1,n,h.1.2],ξ,?_⟩;simp only[List.eraseIdx_zero,List.tail_cons,delL,if_true];exact h.2
   ·rename_i o
    obtain⟨j,r,B,s⟩:=z18 n (i+1) h.2 hg;refine⟨j+1,?_,by simp;omega,?_⟩
    ·simp only[Instr.findNow,h.1.1,n,o,decide_false,r]
     congr 3;omega
    ·simp only[delL,o,if_false,List.eraseIdx_cons_succ,Vy,y0j,y2s,y2e]
     exact⟨h.1,s⟩
 |[],[],_,_,_,_,hg=>by simp[Su] at hg
 |[],_::_,_,_,_,h,_=>by simp[Vy] at h
 |_::_,[],_,_,_,h,_=>by simp[Vy] at h
variable {e:Env}{d:Option Nat}{pos:String}{x u:Operand}{kv:List (κ×Value)}{size:Nat}{k:κ}{v:Value}
theorem zix (ht:P.underlying t=some (.map kt el))(q:look e x=some (.map (some m)))(o:XR K w m kv):Y P e ⟨d,.call ⟨.builtin .len,#[x],#[t]⟩,ty,pos,aft,g⟩ (I (kv.length:Int)) w w:=fun ρ r=>by
 obtain⟨⟨h,c,l,j⟩,-⟩:=o
 have n:h.size=kv.length:=by
  have:=congrArg List.length j
  simpa using this
 have hg:(getObj m).run P w= .ok (.map h c) w:=by simp[getObj,Sem.run,l]
 simp[execOp,resolve,invoke,builtin,r _ _ q,Builtin.len_,run_underlying ht,hg,goInt,n,go_sem,Result.andThen]
theorem zhv (ht:P.underlying t=some (.map kt el))(s:Ky P kt K)(h:look e x=some (.map (some m)))(A:look e y=some (K k))(S:look e u=some v)(R:TR K w m kv):
  Zp P e ⟨d,.mapUpdate t x y u,ty,pos,aft,g⟩ w λw'=>TR K w' m (putL kv k v)/\Kp (λi=>i=m) w w':=by
 have J:=R.lt
 obtain⟨⟨l,c,Q,G,B,L⟩,N⟩:=R
 have W:=λb=>s.same.choose_spec.2.2 w b 9999 k
 have hg:(getObj m).run P w= .ok (.map l c) w:=by simp[getObj,Sem.run,Q]
 have U:∀o,(setObj m o).run P w= .ok () (w.putObj m o):=λo=>by simp[setObj,Sem.run,Q,World.putObj]
 cases q:Su kv k with
 | none =>
   have H:=Vw (P:=P) (w:=w) s G q;refine⟨w.putObj m (.map (l.push {key:=K k,val:=v,born:=c}) (c+1)),fun ρ n=>?_,⟨⟨_,_,y1V J,?_,?_,?_⟩,?_⟩,RJ w m _⟩
   ·simp[execOp,n _ _ h,n _ _ A,n _ _ S,Instr.mapUpdate,run_underlying ht,hg,W,H,U]
   ·rw[VT _ _ _ q]
    simpa[Vy] using G
   ·intro x h;simp at h;rcases h with h|rfl
    ·have:=B x (by simpa using h);omega
    ·simp
   ·simp only[Array.toList_push,y0f,y0j,y1D];refine y0J.2 ⟨L,ξ,λa E b r I=>?_⟩;simp at r;subst r;subst I;obtain⟨x,h,p⟩:=y0g.1 E;have:=B x h;omega
   ·rw[VT _ _ _ q,y0f,y0J];refine⟨N,ξ,λa E b r I=>?_⟩;simp at r;subst r;subst I
    exact z2b q E
 | some C =>
   obtain⟨j,H,⟨z,Z,X⟩,f⟩:=Vt (P:=P) (w:=w) s G q
   have V:(l.modify j λe=>{e with key:=K k,val:=v}).toList.map (·.born)=l.toList.map (·.born):=by
    apply y1t;intro i;simp only[Array.toList_modify,y0m,List.getElem?_modify];by_cases M:j=i
    ·subst M;simp;cases l[j]?<;>rfl
    ·simp[M]
   refine⟨w.putObj m (.map (l.modify j λe=>{e with key:=K k,val:=v}) c),fun ρ n=>?_,⟨⟨_,_,y1V J,f v,?_,?_⟩,?_⟩,RJ w m _⟩
   ·simp[execOp,n _ _ h,n _ _ A,n _ _ S,Instr.mapUpdate,run_underlying ht,hg,W,H,U,Z,X,Instr.keyThatStays,s.bits]
   ·intro x h;have:x.born∈l.toList.map (·.born):=by rw[<-V];exact y0g.2 ⟨x,h,O⟩
    obtain⟨y,A,Y⟩:=y0g.1 this;rw[<-Y];exact B y A
   ·rw[V];exact L
   ·rw[z48 _ _ _ (by rw[q];rfl)];exact N
theorem zgP (ht:P.underlying t=some (.map kt el))(f:Ky P kt K)(s:look e x=some (.map (some m)))(R:look e y=some (K k))(N:TR K w m kv)(U:ts[0]? =some t):
  Yp P e ⟨d,.call ⟨.builtin .delete,#[x,y],ts⟩,ty,pos,aft,g⟩ w λv' w'=>TR K w' m (delL kv k)/\Kp (λi=>i=m) w w':=by
 have H:=N.lt
 obtain⟨⟨h,c,G,q,I,J⟩,B⟩:=N
 obtain⟨⟨F,Q,O,Y⟩,-⟩:=f
 have W:=λb=>Y w b 9999 k
 have hg:(getObj m).run P w= .ok (.map h c) w:=by simp[getObj,Sem.run,G]
 have S:∀o,(setObj m o).run P w= .ok () (w.putObj m o):=λo=>by simp[setObj,Sem.run,G,World.putObj]
 have L:=(z5F kv k).map (·.1)
 cases l:Su kv k with
 | none =>
   have E:(Instr.findKey kt (K k) h.toList).run P w= .ok none w:=by simp[Instr.findKey,run_underlying Q,X7 O 0 q l]
   have V:delL kv k=kv:=by
    clear q G B L
    induction kv with
    |nil=>rfl
    | cons p r z =>
      obtain⟨a,u⟩:=p;simp only[Su] at l;split at l
      ·cases l
      ·rename_i Z;simp only[delL,Z,if_false,z l]
   refine⟨.tuple #[],w.putObj m (.map h c),fun ρ n=>?_,⟨⟨h,c,y1V H,by rw[V];exact q,I,J⟩,by rw[V];exact B⟩,RJ w m _⟩
   simp[execOp,resolve,invoke,builtin,n _ _ s,n _ _ R,Builtin.delete_,U,run_underlying ht,hg,W,E,S,Result.andThen]
 | some D =>
   obtain⟨j,X,M,C⟩:=z18 O 0 q l
   have E:(Instr.findKey kt (K k) h.toList).run P w= .ok (some (j,D)) w:=by
    rw[y0k] at X;simp[Instr.findKey,run_underlying Q,X]
   have A:(h.eraseIdxIfInBounds j).toList=h.toList.eraseIdx j:=by
    simp at M;simp[Array.eraseIdxIfInBounds,M]
   refine⟨.tuple #[],w.putObj m (.map (h.eraseIdxIfInBounds j) c),fun ρ n=>?_,⟨⟨_,c,y1V H,by rw[A];exact C,?_,?_⟩,L.nodup B⟩,RJ w m _⟩
   ·simp[execOp,resolve,invoke,builtin,n _ _ s,n _ _ R,Builtin.delete_,U,run_underlying ht,hg,W,E,S,Result.andThen]
   ·rw[A];exact λx s=>I x ((List.eraseIdx_sublist _ _).subset s)
   ·rw[A];exact((List.eraseIdx_sublist _ _).map _).nodup J
end
def Qu:Nat->Nat->List Bool
 |0,_=>[]
 |n+1,v=>v.testBit n::Qu n v
def QO:List Bool->Nat
 |[]=>0
 |b::l=>b.toNat*2^l.length+QO l
@[simp] theorem bitsN_length:∀(n v:Nat),(Qu n v).length=n
 |0,_=>rfl
 |n+1,v=>by simp[Qu,bitsN_length n v]
theorem Se:∀(l:List Bool),QO l<2^l.length
 |[]=>by simp[QO]
 | b :: l => by
   have:=Se l;simp only[QO,y02,y1J];have:b.toNat<=1:=by cases b<;>simp
   have:b.toNat*2^l.length<=1*2^l.length:=y0S _ this;omega
theorem T7:∀(a b:List Bool),QO (a++b)=QO a*2^b.length+QO b
 |[],b=>by simp[QO]
 | x :: a, b => by
   rw[y0s,QO,T7 a b,QO,y01,y0I,y0q,y1W];omega
theorem Ta:∀(m n v:Nat),Qu (m+n) v=Qu m (v / 2^n)++Qu n v
 |0,n,v=>by simp[Qu]
 | m + 1, n, v => by
   rw[show m+1+n=(m+n)+1 by omega,Qu,Qu,y0s,Ta m n v,Nat.testBit_div_two_pow]
theorem Rl:∀(n v:Nat),QO (Qu n v)=v%2^n
 |0,v=>by simp[Qu,QO,y2Z]
 | n + 1, v => by
   rw[Qu,QO,bitsN_length,Rl n v,y1J,Nat.mod_mul,Nat.testBit_eq_decide_div_mod_eq];rcases y1U (v / 2^n) with e|e<;>simp[e]<;>omega
theorem XN:∀{n v u:Nat},v%2^n=u%2^n->Qu n v=Qu n u
 |0,_,_,_=>rfl
 | n + 1, v, u, h => by
   have j:v.testBit n=u.testBit n:=by
    have d:(v%2^(n+1)).testBit n=v.testBit n:=by rw[Nat.testBit_mod_two_pow];simp
    have e:(u%2^(n+1)).testBit n=u.testBit n:=by rw[Nat.testBit_mod_two_pow];simp
    rw[<-d,<-e,h]
   have l:v%2^n=u%2^n:=by
    have d:v%2^(n+1)%2^n=v%2^n:=Nat.mod_mod_of_dvd _ (Nat.pow_dvd_pow 2 (Nat.le_succ n));have e:u%2^(n+1)%2^n=u%2^n:=Nat.mod_mod_of_dvd _ (Nat.pow_dvd_pow 2 (Nat.le_succ n));rw[<-d,<-e,h]
   rw[Qu,Qu,j,XN l]
theorem ZE:∀{a b:List Bool},a.length=b.length->QO a=QO b->a=b
 |[],[],_,_=>rfl
 | x :: a, y :: b, hl, hv => by
   have d:a.length=b.length:=by simpa using hl
   have e:=Se a;have j:=Se b;rw[QO,QO,d] at hv;rw[d] at e
   have h:x=y:=by
    cases x<;>cases y<;>simp at hv⊢<;>omega
   subst h;rw[ZE d ω]
def z2T (l:List Bool):Qu l.length (QO l)=l:=ZE ξ (by rw[Rl,y0e (Se l)])
/-! ### Bytes -/
def Qo (s:PU):List Bool:=s.flatMap λc=>Qu 8 c.toNat
@[simp] theorem bitsT_length (s:PU):(Qo s).length=8*s.length:=by
 induction s with
 |nil=>rfl
 |cons c s ih=>simp[Qo] at ih⊢;omega
theorem ZB (a b:PU):Qo (a++b)=Qo a++Qo b:=by simp[Qo]
def Xq (d:List Bool):UInt8:=UInt8.ofNat (QO d*2^(8-d.length))
def Qw (l:List Bool):PU:=(List.range ((l.length+7) / 8)).map λi=>Xq ((l.drop (8*i)).take 8)
theorem QP (l:List Bool):(Qw l).length=(l.length+7) / 8:=by simp[Qw]
theorem Zl {c d:List Bool}(l:c.length%8=0)(j:1<=d.length)(e:d.length<=8):Qw (c++d)=Qw c++[Xq d]:=by
 obtain⟨m,h⟩:∃m,c.length=8*m:=⟨c.length / 8,ω⟩
 unfold Qw
 rw[y01,show(c.length+d.length+7) / 8=m+1 by omega,show(c.length+7) / 8=m by omega,y0T,y0f]
 congr 1
 ·apply y0N;intro i hi;rw[y0Q] at hi;rw[y1i ω,y1n (by rw[y08];omega)]
 ·simp only[y0j,y1D];rw[<-h,y2V,y0z e]
def zbr {d e:List Bool}(h:d.length+e.length<=8):(Xq (d++e)).toNat=(Xq d).toNat |||(QO e*2^(8-d.length-e.length)):=by
 have u:=Se d
 have o:=Se e
 have j:∀(x:List Bool),x.length<=8->QO x*2^(8-x.length)<256:=λx v=>by
  have q:=Se x;have:QO x*2^(8-x.length)<2^x.length*2^(8-x.length):=y2Y q (y0y _);rw[<-y0I,show x.length+(8-x.length)=8 by omega] at this;exact this
 have l:(Xq (d++e)).toNat=QO (d++e)*2^(8-(d++e).length):=by
  unfold Xq;rw[y3y];exact y0e (j _ (by rw[y01];omega))
 have n:(Xq d).toNat=QO d*2^(8-d.length):=by
  unfold Xq;rw[y3y];exact y0e (j _ ω)
 rw[l,n,T7,y01,y0q]
 have r:QO d*2^e.length*2^(8-(d.length+e.length))=2^(8-d.length)*QO d:=by
  rw[y1W,<-y0I,show e.length+(8-(d.length+e.length))=8-d.length by omega,y0E]
 have s:QO e*2^(8-(d.length+e.length))<2^(8-d.length):=by
  have:QO e*2^(8-(d.length+e.length))<2^e.length*2^(8-(d.length+e.length)):=y2Y o (y0y _);rw[<-y0I,show e.length+(8-(d.length+e.length))=8-d.length by omega] at this;exact this
 rw[r,y24 s,y0E (2^(8-d.length)),show 8-d.length-e.length=8-(d.length+e.length) by omega]
theorem zaJ:Xq []=0:=ψ
theorem Tt (l:List Bool):∃z,Qo (Qw l)=l++List.replicate z false/\(l.length+z)%8=0/\z<8:=by
 have key:∀(m:Nat)(l:List Bool),l.length<=8*m->∃z,Qo (Qw l)=l++List.replicate z false/\(l.length+z)%8=0/\z<8:=by
  intro m
  induction m with
  | zero =>
    intro l h;have:l=[]:=y0w ω;subst this
    exact⟨0,O,O,ω⟩
  | succ m j =>
    intro l h;by_cases o:l=[]
    ·subst o;exact⟨0,O,O,ω⟩
    ·have q:1<=l.length:=by
      cases l with
      |nil=>exact absurd O o
      |cons a r=>simp
     obtain⟨c,d,rfl,A,u,x⟩:∃c d,l=c++d/\c.length%8=0/\1<=d.length/\d.length<=8:=by
      refine⟨l.take (8*((l.length-1) / 8)),l.drop (8*((l.length-1) / 8)),(y1e _ _).symm,?_,?_,?_⟩
      ·rw[y0d];omega
      ·rw[y08];omega
      ·rw[y08];omega
     rw[y01] at h;obtain⟨z,s,G,E⟩:=j c ω;have e:z=0:=ω
     subst e;simp at s;refine⟨8-d.length,?_,by rw[y01];omega,ω⟩;rw[Zl A u x,ZB,s,y06]
     congr 1
     simp only[Qo,y0V,List.flatMap_nil,y0o]
     have B:QO (d++List.replicate (8-d.length) false)=QO d*2^(8-d.length):=by
      rw[T7,y0b]
      have:∀n,QO (List.replicate n false)=0:=λn=>by
       induction n with
       |zero=>rfl
       |succ n j=>rw[y19,QO,j];simp
      rw[this];rfl
     refine ZE (by simp;omega) ?_;rw[Rl,B];have v:=Se d
     have:QO d*2^(8-d.length)<2^8:=by
      have:QO d*2^(8-d.length)<2^d.length*2^(8-d.length):=y2Y v (y0y _)
      rwa [<-y0I,show d.length+(8-d.length)=8 by omega] at this
     unfold Xq;rw[y3y];rw[Nat.mod_mod,y0e this]
 exact key l.length l ω
def z7w (c:Nat)(j:c<256)(room n:Nat)(o:room<=8)(l:n<=room):QO (((Qu 8 c).drop (8-room)).take n)=c%2^room / 2^(room-n):=by
 have d:Qu 8 c=Qu (8-room) (c / 2^room)++Qu room c:=by rw[<-Ta,show 8-room+room=8 by omega]
 have e:Qu room c=Qu n (c / 2^(room-n))++Qu (room-n) c:=by rw[<-Ta,show n+(room-n)=room by omega]
 rw[d,y10 ξ,e,y1c ξ,Rl]
 have:c%2^room / 2^(room-n)=c / 2^(room-n)%2^n:=by
  have h:2^room=2^(room-n)*2^n:=by rw[<-y0I,show room-n+n=room by omega]
  rw[h,Nat.mod_mul_right_div_self]
 rw[this]
theorem US (c:UInt8)(s:PU):Qo (c::s)=Qu 8 c.toNat++Qo s:=rfl
theorem UM:∀(k:Nat)(s:PU),Qo (s.drop k)=(Qo s).drop (8*k)
 |0,s=>ξ
 |k+1,[]=>by simp[Qo]
 | k + 1, c :: s => by
   have e:(Qu 8 c.toNat++Qo s).drop (8+8*k)=(Qo s).drop (8*k):=by rw[<-y0G,y10 ξ]
   rw[y26,UM k s,US,show 8*(k+1)=8+8*k by omega,e]
theorem VK:∀(k:Nat)(s:PU),Qo (s.take k)=(Qo s).take (8*k)
 |0,s=>by simp[Qo]
 |k+1,[]=>by simp[Qo]
 | k + 1, c :: s => by
   have e:(Qu 8 c.toNat++Qo s).take (8+8*k)=Qu 8 c.toNat++(Qo s).take (8*k):=by
    have:=y3A (l₁:=Qu 8 c.toNat) (l₂:=Qo s) (8*k)
    rwa [bitsN_length] at this
   rw[y3i,US,VK k s,US,show 8*(k+1)=8+8*k by omega,e]
def zeU {s:PU}{c:UInt8}(h:s[i]? =some c):((Qo s).drop (8*i)).take 8=Qu 8 c.toNat:=by
 rw[<-UM]
 obtain⟨hi,e⟩:=y0l.1 h
 rw[y2l hi,e,show Qo (c::s.drop (i+1))=Qu 8 c.toNat++Qo (s.drop (i+1)) from rfl,y1c ξ]
def z7I {s:PU}{d n:Nat}{c:UInt8}(h:s[d / 8]? =some c)(l:n<=8-d%8):QO (((Qo s).drop d).take n)=c.toNat%2^(8-d%8) / 2^(8-d%8-n):=by
 have e:=zeU h
 have j:=z7w c.toNat (by have:=c.toNat_lt;omega) (8-d%8) n ω l
 rw[<-j,<-e]
 congr 1
 rw[y1r,y1z,y0G,show 8*(d / 8)+(8-(8-d%8))=d by omega]
 congr 1
 omega
def z6Y {e:List Bool}(q:1<=e.length)(r:bs.length%8+e.length<=8):∃(c:PU)(x y:UInt8),(if bs.length%8=0 then Qw bs++[0] else Qw bs)=c++[x]/\Qw (bs++e)=c++[y]/\y.toNat=(x.toNat |||(QO e*2^(8-bs.length%8-e.length))):=by
 obtain⟨c,d,h,j,o⟩:∃c d,bs=c++d/\c.length%8=0/\d.length=bs.length%8:=⟨bs.take (8*(bs.length / 8)),bs.drop (8*(bs.length / 8)),(y1e _ _).symm,by rw[y0d];omega,by rw[y08];omega⟩
 have n:=zbr (d:=d) (e:=e) ω
 rw[<-o]
 refine⟨Qw c,Xq d,Xq (d++e),?_,?_,n⟩
 ·by_cases l:d.length=0
  ·have:d=[]:=y0w l;subst this;rw[if_pos ξ,h,y0o,zaJ]
  ·rw[if_neg ω,h,Zl j ω ω]
 ·rw[h,y06,Zl j (by rw[y01];omega) (by rw[y01];omega)]
abbrev Qi (n:Nat):Value:= .int .u64 (n:Int)
theorem Yb {v:Value}{T s n}{j:List Value}(h:Sl w v T s n j):oneV v=true:=by
 rcases h.shape with⟨rfl,-⟩|⟨g,c,rfl,-⟩<;>rfl
section
variable {e:Env}{d:Option Nat}{pos:String}{x:Operand}{n:Nat}
def XM (r:look e x=some (.int k (m:Int)))(s:look e y=some (.int k (n:Int)))(q:k.signed=false)(u:m<2^k.bits)(h:n<=m):Y P e ⟨d,.binOp .sub t x y t',ty,pos,aft,g⟩ (.int k ((m-n:Nat):Int)) w w:=fun ρ j=>by
 have l:(m:Int)-n=((m-n:Nat):Int):=ω
 have o:k.wrap ((m-n:Nat):Int)=((m-n:Nat):Int):=z2g q ω
 simp[execOp,go_sem,j _ _ r,j _ _ s,l,o]
def zji {c:Nat}(o:P.underlying t=some (.slice el))(j:P.underlying el=some (.int .u8))(h:P.underlying t'=some .string)(q:look e x=some (.slice none 0 c)):Y P e ⟨d,.convert t t' x,ty,pos,aft,g⟩ (S []) w w:=fun ρ r=>by
 have l:(convert t t' (.slice none 0 c)).run P w= .ok (S []) w:=by
  rw[run_convert_bytes_string w t t' el none 0 c o j h];rfl
 simp only[execOp,r _ _ q,y09,l,y0H,y05]
theorem zfD {n:Nat}{l:List UInt8}(r:P.underlying t=some (.slice el))(o:P.underlying el=some (.int .u8))(j:P.underlying t'=some .string)(s:look e x=some (.slice (some ⟨gb,0,none⟩) n cap))(h:Sl w (.slice (some ⟨gb,0,none⟩) n cap) el 1 n (l.map Ua)):
  Y P e ⟨d,.convert t t' x,ty,pos,aft,g⟩ (S l) w w:=by
 obtain⟨cur,q,-,-,-,ht⟩:=h.row
 refine z8w r o j s q.PO (by rw[y0U,<-ht,y0p]) ?_
 have:=h.len
 rw[y0n] at this
 omega
end
theorem Rg {b n:Nat}{v:Value}(h:Rd w (.slice (some ⟨b,off,none⟩) n cap) 1 n vs)(o:vs[i]? =some v):w.cell? ⟨b,off+i*1,none⟩=some v:=by
 rcases h.2 with⟨c,l,s⟩|⟨r,q,j,e,l⟩
 ·have hi:=(y0l.1 o).1;have:=h.1;omega
 ·cases e;rw[y0p];exact l i v o
structure WrM (w:World)(p:Nat)(bv:Value)(bs:List Bool):Prop where
 PO:Q8 w p [bv,I (bs.length:Int)] 283
 sl:Sl w bv 5 1 (Qw bs).length ((Qw bs).map Ua)
 ne:bv.ownBlock≠some p
def fpW (p:Nat)(h:Value)(k:Nat):Prop:=k=p\/h.ownBlock=some k
def ZT (w:World)(p:Nat)(bs:List Bool)(F:Nat->Prop):Prop:=∃h,WrM w p h bs/\∀k,F k↔fpW p h k
def WrR (p:Nat)(F:Nat->Prop)(w w':World)(bs:List Bool):Prop:=∃h,ZT w' p bs h/\Kp F w w'/\∀k,h k->F k\/w.heap.size<=k
section
variable {p:Nat}{S:Nat->Prop}
def ZT.lt (h:ZT w p bs F){k:Nat}(o:F k):k<w.heap.size:=by
 obtain⟨q,j,l⟩:=h
 rcases (l k).1 o with e| e
 ·rw[e];exact j.PO.lt
 ·exact j.sl.lt e
theorem ZT.kp (h:ZT w p bs F)(k:Kp S w w')(o:∀i,F i->¬S i):ZT w' p bs F:=by
 obtain⟨q,l,j⟩:=h
 exact⟨q,⟨k.PO l.PO (o p ((j p).2 (.inl O))),l.sl.kp k (λg hg=>o g ((j g).2 (.inr hg))),l.ne⟩,j⟩
theorem ZT.ext (h:ZT w p bs F)(k:Ext w w'):ZT w' p bs F:=h.kp k.kp λ_ _=>id
end
section
variable {p:Nat}
theorem W2 (w:World):Qx prog 130 [] w λv w'=>∃p F,v=ptr p 0/\ZT w' p [] F/\Ext w w'/\∀k,F k->w.heap.size<=k:=by
 refine py (e:=[]) func130 O ntmps130 O O<|qN O<|Sb O<|qV (To (cs:=[_,_]) zih O zky O O)<|PX O O (Sy O O) ?_
 rintro _ w1⟨p,rfl,l,j,hB⟩
 refine Qe O<|PQ func130 O ?_
 exact⟨_,rfl,p,_,rfl,⟨_,⟨hB,Sl.nil _ _ _,by simp[Value.ownBlock]⟩,λ_=>y0R⟩,j,λk h=>by
  rcases h with e| e
  ·omega
  ·simp[Value.ownBlock] at e⟩
theorem zcm (h:ZT w p bs F)(v n:Nat)(hn:n<=64)(hv:v<2^n)(hl:bs.length+n<=1000000000):
  Qx prog 168 [ptr p 0,Qi v,I (n:Int)] w λu w'=>u= .tuple #[]/\WrR p F w w' (bs++Qu n v):=by
 obtain⟨bv,hM,hF⟩:=h
 have Km:v<18446744073709551616:=by
  have:=y0t (show 0<2 by decide) hn;have e:(2:Nat)^64=18446744073709551616:=ψ
  omega
 have fC:maxLen=9223372036854775807:=rfl
 refine py (e:=[(0,_),(1,_),(2,_)]) func168 O ntmps168 O O<|PT<|SN (α:=Nat×Value×List Bool) (n,bv,bs) (λx=>[(0,ptr p 0),(1,Qi v),(2,I (x.1:Int))]) (λx w'=>x.1<=n/\WrM w' p x.2.1 x.2.2/\x.2.2=bs++Qu (n-x.1) (v / 2^x.1)/\Kp F w w'/\(∀k,fpW p x.2.1 k->F k\/w.heap.size<=k)) (λx=>x.1) ?hI ?hround
 case hI=>exact⟨y04 _,hM,by rw[y1w];simp[Qu],Kp.refl _ _,λk a=> .inl ((hF k).2 a)⟩
 case hround =>
  rintro⟨k,J,b1⟩ w1 ⟨a,o,U,Q,A⟩ ih;dsimp only at a o U A;have E:=o.PO;have Kn:b1.length<=bs.length+n:=by rw[U,y01,bitsN_length];omega
  have jY:b1.length&&&7=b1.length%8:=y13 b1.length 3;have nh:=Q.size;have g8:=E.lt
  try dsimp only
  refine QV O<|RR O<|PR<|Qa O (λaO=>?_)<|λaO=>?_
  ·have im : 0 < k := by omega
   obtain⟨take,ni⟩:∃take,min k (8-b1.length%8)=take:=⟨_,O⟩;have sU:1<=take/\take<=k/\take<=8-b1.length%8:=ω
   obtain⟨e,Z⟩:∃e,Qu take (v / 2^(k-take))=e:=⟨_,O⟩;have b:e.length=take:=by rw[<-Z];simp
   have m:QO e=v / 2^(k-take)%2^take:=by rw[<-Z,Rl]
   obtain⟨c,x,y,W,hY,C⟩:=z6Y (bs:=b1) (e:=e) ω ω;refine PS (PT (QV O (QC O (Qf Y3 O (qV (Q0 U3 O O E O) (qV (YH O O ω ω) ?_))))));rw[jY];refine Ss O<|PR<|QT (λK w'=>K=[(0,ptr p 0),(1,Qi v),(2,I (k:Int))]/\∃l,Q8 w' p [l,I (b1.length:Int)] 283/\Sl w' l 5 1 (c++[x]).length ((c++[x]).map Ua)/\l.ownBlock≠some p/\Kp F w w'/\∀k,fpW p l k->F k\/w.heap.size<=k) ?nj<|λnj=>?nq
   case nj=>
    rintro K w2⟨rfl,l,Y,V,g9,am,oV⟩
    obtain⟨M,c2,rfl,fT⟩:∃g cp,l= .slice (some ⟨g,0,none⟩) (c++[x]).length cp/\(c++[x]).length<=cp:=by
     rcases V.shape with⟨-,e⟩| h
     ·simp at e
     ·exact h
    have f7:(c++[x]).length=c.length+1:=ξ
    have Ia:p≠M:=λe=>g9 (by rw[e];rfl);have jL:(Qw (b1++e)).length=c.length+1:=by rw[hY];simp
    rw[QP,y01] at jL;obtain⟨T,s⟩:∃T,2^take=T:=⟨_,O⟩;obtain⟨D,hD⟩:∃D,2^(k-take)=D:=⟨_,O⟩;obtain⟨R,X⟩:∃R,2^(8-b1.length%8-take)=R:=⟨_,O⟩;rw[s,hD] at m;rw[b,X] at C
    have Ib:1<=T/\T<=256:=by
     rw[<-s];exact⟨y0y _,by have:=y0t (show 0<2 by decide) (show take<=8 by omega);simpa using this⟩
    have ja:(v / D)&&&(T-1)=v / D%T:=by rw[<-s];exact y13 _ _
    have OG:v / D<=v:=y0P _ _;have Ko:v / D%T<T:=y0Y _ ω
    have OH:QO e*R<256:=by
     have h1:=Se e;rw[b,s] at h1;have h2:QO e*R<T*R:=y2Y h1 (by rw[<-X];exact y0y _);have h3:T*R=2^(8-b1.length%8):=by rw[<-s,<-X,<-y0I,show take+(8-b1.length%8-take)=8-b1.length%8 by omega]
     have h4:=y0t (show 0<2 by decide) (show 8-b1.length%8<=8 by omega);have h5:(2:Nat)^8=256:=ψ
     omega
    have cE:=x.toNat_lt;refine Qz O (QC O (Qf Y3 O (qV (Q0 U3 O O Y O) (qV (YH O O ω ω) ?_))));rw[jY];refine SA O ?_;rw[show(8-((b1.length%8:Nat):Int))=((8-b1.length%8:Nat):Int) by omega];refine Sb O<|Qq O<|qV (ymi O O) ?_;rw[show min (k:Int) ((8-b1.length%8:Nat):Int)=((take:Nat):Int) by omega];have hg:=Ext.Qm w2;refine Qe O (It (Sq (λw'=>Ext w2 w') O (Ql 0 O O hg (Ql 1 O O hg (Ql 2 O O hg (PV 3 O (YS O O ω) hg (Ql 5 O O hg ?_)))))));rw[show((k:Int)-(take:Int))=((k-take:Nat):Int) by omega];refine PV 4 O (Vl (k-take) D O O (by show k-take<=64;omega) hD) hg ?_;refine PV 6 O (Sz take T O O ω s) hg ?_;rw[show(1*T)%18446744073709551616=T by omega];refine PV 7 O (XM (n:=1) O O O (by show T<2^64;omega) ω) hg ?_;refine PV 8 O (VY O O ω ω) hg ?_;rw[ja];refine PV 9 O (z5M O SK U5) hg ?_;rw[show v / D%T%256=QO e by rw[m];exact y0e (y2Q Ko Ib.2)];have H:=hg.PO Y;have L:=V.ext hg;have j:Ext w2.drew w2.drew.drew:=Ext.Qm w2.drew;refine PV 10 O (SG O) hg (qE (It (Qp [19] (λw'=>Ext w2.drew w') y00 O (R1 0 O O j (Qs 1 O (Rs O) j (Qs 2 O (QE ZC O) j (qL 3 O (λ_ h=>Q0 RB O O (h.PO H) O) j (R1 4 O O j (Qs 5 O (Rs O) j (Qs 6 O (QE ZC O) j (qL 7 O (λ_ h=>Q0 RB O O (h.PO H) O) j (Qs 8 O (TM RB O) j (R1 12 O O j ?_)))))))))))));refine R1 13 O O j (R1 14 O O j (Qs 15 O (YS O O ω) j (Qs 9 O (YS O O ω) j ?_)));rw[show(((c++[x]).length:Int)-1)=((c.length:Nat):Int) by omega];refine Qs 10 O (Rk RB YK O O ω) j (qL 11 O (λ_ hS=>QH U5 O O (Rg (L.rd.ext hS) (show((c++[x]).map Ua)[c.length]? =some (Ua x) by simp))) j ?_);rw[show(((8-b1.length%8:Nat):Int)-(take:Int))=((8-b1.length%8-take:Nat):Int) by omega];refine Qs 16 O (zly (8-b1.length%8-take) R O O ω X) j ?_;rw[show QO e*R%256=QO e*R by omega];refine Qs 17 O (zl7 O O ω ω) j (Qs 18 O (Rk RB YK O O ω) j (U0 [19] (qO 19 (QQ (i:=19) O O (T6 YK O O O (L.ext j) ξ) ?_))));rintro w4⟨P,G⟩;refine⟨trivial,?_⟩
    rw[show((c++[x]).map Ua).set (0+c.length*1) (.int .u8 ((x.toNat |||QO e*R:Nat):Int))=(c++[y]).map Ua by
     rw[y0k,y0p,y0f,y0f,y1Y _ _ ξ]
     simp[Ua,C]] at P
    have r:=G.PO (j.PO H) Ia;refine qE (Qz O (QC O (Qf Y3 O (qV (Q0 U3 O O r O) (Q4 O (Ra O (QC O (Qf Y3 O (Qc O (S0 R8 O O O r ξ) ?_)))))))));rintro f⟨N,t⟩;rw[show((b1.length:Int)+(take:Int))=(((b1++e).length:Nat):Int) by rw[y01,b];omega] at N;replace N:Q8 f p [.slice (some ⟨M,0,none⟩) (c++[x]).length c2,I ((b1++e).length:Int)] 283:=N
    have gd:=P.kp t (λg hg e=>by
                         have:M=g:=by simpa[Value.ownBlock] using hg
                         omega)
    refine PR<|PY O<|Qq O<|SA O<|Qe O<|PN ?_;rw[show((k:Int)-(take:Int))=((k-take:Nat):Int) by omega];refine(ih (k-take,.slice (some ⟨M,0,none⟩) (c++[x]).length c2,b1++e) f ⟨by dsimp only;omega,⟨N,?_,g9⟩,?_,?_,oV⟩ (by dsimp only;omega)).qb
    ·rw[hY];have e1:(c++[y]).length=(c++[x]).length:=ξ
     rw[e1];exact gd
    ·dsimp only;rw[U,y06]
     congr 1
     rw[<-Z,show n-(k-take)=(n-k)+take by omega,Ta]
     congr 2
     rw[Nat.div_div_eq_div_mul,<-y0I,show k-take+take=k by omega]
    ·have lV:Kp (fpW p (.slice (some ⟨M,0,none⟩) (c++[x]).length c2)) w2 f:=((hg.trans j).kp.trans (G.PZ (λi e=> .inr (by rw[e];rfl)))).trans (t.PZ (λi e=> .inl e));exact am.An lV (λi hi=>(oV i hi).symm)
   case nq=>
    refine Qa O (λh0=>?_)<|λh0=>?_
    ·rw[if_pos ω] at W;refine PY O (Qq O (QC O (Qf ZC O (qV (Q0 RB O O E O) (PX O O (YI (cs:=[_]) (zs:=[Value.int .u8 0]) RB YK O y00 O O O ψ) ?_)))));rintro _ w2⟨b2,rfl,⟨bR,B,Y⟩,V⟩;refine PX O O (pap RB YK O ψ O O (o.sl.ext B) V.rd (by intro c hc;simp at hc;subst hc;rfl) (by rw[QP];omega) (by rw[QP];omega)) ?_;rintro q w3⟨L,z,ll,-⟩;have H:=z.PO (B.PO E) o.ne;refine QC O (Qf ZC O (Qc O (S0 YL O O (Yb L) H ξ) ?_));rintro w4⟨r,G⟩;replace r:Q8 w4 p [q,I (b1.length:Int)] 283:=r;refine PR ?_
     have fj:q.ownBlock≠some p:=λe=>by
      rcases ll p e with e| e
      ·exact o.ne e
      ·have:=B.size;omega
     refine(nj _ _ ⟨O,q,r,?_,fj,?_,?_⟩).qb
     ·rw[<-W,y01,y0f];exact L.kp G (λg hg e=>fj (e▸hg))
     ·exact Q.An ((B.kp.trans (z.PZ (λk e=> .inr e))).trans (G.PZ (λk e=> .inl e))) (λi hi=>(A i hi).symm)
     ·intro i hi;rcases hi with e| e
      ·exact A i (.inl e)
      ·rcases ll i e with e| e
       ·exact A i (.inr e)
       ·have:=B.size;exact .inr ω
    ·rw[if_neg ω] at W;refine PS ?_;exact(nj _ _ ⟨O,J,E,by rw[<-W];exact o.sl,o.ne,Q,A⟩).qb
  ·have:k=0:=ω
   subst this;refine Q7 O<|Rj func168 O (⟨_,O,O,_,⟨J,?_,λ_=>y0R⟩,Q,A⟩);rw[U,y2W,Nat.pow_zero,Nat.div_one] at o;exact o
def zaU (v n:Nat)(l:n<=64)(j:v<2^n)(w:World):Qx prog 167 [Qi v,I (n:Int)] w λu w'=>u= .bool true/\w'=w:=by
 refine py (e:=[(0,_),(1,_)]) func167 O ntmps167 O O<|qN O<|RZ O<|UL O<|Q4 O<|TA (λh=>?_)<|λh=>?_
 ·refine Sc<|Sc<|Sh O<|Qe O<|PQ func167 O ?_;exact⟨_,O,O,O⟩
 ·refine Qq O (qV (Vl n (2^n) O O (by show n<=64;omega) O) ?_);rw[y2h j];refine Ss O<|R0 O<|Qe O<|PQ func167 O ?_;exact⟨_,O,by simp[Rn],O⟩
theorem Tv (h:ZT w p bs F)(v n:Nat)(j:n<=64)(l:v<2^n)(G:bs.length+n<=134217728):
  Qx prog 131 [ptr p 0,Qi v,I (n:Int)] w λu w'=>u=I 0/\WrR p F w w' (bs++Qu n v):=by
 obtain⟨B,s,E⟩:=id h
 have hB:=s.PO
 refine py (e:=[(0,_),(1,_),(2,_)]) func131 O ntmps131 O O<|RY O<|RU<|Qz O<|qV (Rm z3b O O)<|Qe O<|PW O<|Qz O<|RT O<|Q4 O<|TA (λo=>?_)<|λo=>?_
 ·omega
 ·refine Q4 O<|RR O<|R0 O<|Q4 O<|TA (λq=>?_)<|λq=>?_
  ·omega
  ·refine Qq O<|Qj zij O (zaU v n j l w) ?_;rintro _ w⟨rfl,rfl⟩;refine qV (Tf O)<|R0 O<|Qe O<|PW O<|RK O<|QC O<|Qf Y3 O<|qV (Q0 U3 O O hB O)<|SA O<|RR O<|Qe O<|QA.qb (e:=[(0,_),(1,_),(2,_),(6,_),(23,_)]) ?_;refine Qa O (λr=>?_)<|λr=>?_
   ·omega
   ·refine PS (PN (RK O (Q4 O (Qj zjV O (zcm h v n j l ω) ?_))));rintro _ w1⟨rfl,A⟩;refine qM O<|Qe O<|PQ func131 O ?_;exact⟨_,O,O,A⟩
theorem Y6 (h:ZT w p bs F):Qx prog 132 [ptr p 0] w λu w'=>u= .tuple #[S (Qw bs),I 0]/\w'=w:=by
 obtain⟨s,j,v⟩:=h
 have hB:=j.PO
 have o:=j.sl
 refine py (e:=[(0,_)]) func132 O ntmps132 O O<|qN O<|Rw O<|QV O<|qV (Rm z3b O O)<|Ri O<|Qz O<|QC O<|Qf ZC O<|qV (Q0 RB O O hB O) ?_
 rcases o.shape with⟨rfl,q⟩|⟨g,cap,rfl,A⟩
 ·have r:Qw bs=[]:=y0w q;rw[r];refine qV (zji RB U5 U9 O)<|Rw O<|PQ func132 O ?_;exact⟨_,O,O,O⟩
 ·refine qV (zfD (l:=Qw bs) RB U5 U9 O o)<|Rw O<|PQ func132 O ?_;exact⟨_,O,O,O⟩
def WG (h:ZT w p bs F):Qx prog 135 [ptr p 0] w λu w'=>u=I (bs.length:Int)/\w'=w:=by
 obtain⟨l,j,o⟩:=h
 have hB:=j.PO
 refine py (e:=[(0,_)]) func135 O ntmps135 O O<|RY O<|QV O<|qV (Rm z3b O O)<|Ri O<|Qz O<|QC O<|Qf Y3 O<|qV (Q0 U3 O O hB O)<|Qe O<|PQ func135 O ?_
 exact⟨_,O,O,O⟩
end
def Va (w:World)(r:Nat)(s:PU)(a:Nat):Prop:=Q8 w r [S s,I (a:Int)] 321/\a<=8*s.length/\s.length<=1000000000
section
variable {r:Nat}{s:PU}{a:Nat}
theorem Yi (s:PU)(d:s.length<=1000000000)(w:World):Qx prog 171 [S s] w λv w'=>∃r,v=ptr r 0/\Va w' r s 0/\Ext w w'/\w.heap.size<=r:=by
 refine py (e:=[(0,_)]) func171 O ntmps171 O O<|qN O<|RZ O<|qV (To (cs:=[_,_]) zjB O zjR O O)<|PX O O (Sy O O) ?_
 rintro _ w1⟨r,rfl,j,h,hB⟩
 refine Qe O<|PQ func171 O ?_
 exact⟨_,O,r,O,⟨hB,y03 _,d⟩,h,ω⟩
def Vz (h:Va w r s a):Qx prog 187 [ptr r 0] w λv w'=>v=I (a:Int)/\w'=w:=by
 obtain⟨hB,d,j⟩:=h
 refine py (e:=[(0,_)]) func187 O ntmps187 O O<|RY O<|QV O<|qV (Rm VS O O)<|Ri O<|Qz O<|QC O<|Qf Wk O<|qV (Q0 U3 O O hB O)<|Qe O<|PQ func187 O ?_
 exact⟨_,O,O,O⟩
def za0 (h:Va w r s a):Qx prog 203 [ptr r 0] w λv w'=>v=I ((8*s.length-a:Nat):Int)/\Ext w w':=by
 obtain⟨hB,d,j⟩:=h
 refine py (e:=[(0,_)]) func203 O ntmps203 O O<|RY O<|QV O<|qV (Rm VS O O) ?_
 have hg:=Ext.Qm w
 refine Ri O<|It<|Sq (λw'=>Ext w w') O<|Ql 0 O O hg<|PV 1 O (Rs O) hg<|PV 2 O (QE z4E O) hg<|qT 3 O (λ_ h=>Q0 U9 O O (h.PO hB) O) hg<|PV 4 O (Wb U9 O) hg<|PV 5 O (WB O O ω) hg<|Ql 6 O O hg<|PV 7 O (Rs O) hg<|PV 8 O (QE Wk O) hg<|qT 9 O (λ_ h=>Q0 U3 O O (h.PO hB) O) hg<|PV 10 O (YS O O ω) hg ?_
 refine PV 11 O (SG O) hg<|qE<|PQ func203 O (⟨_,O,?_,hg⟩)
 simp only[Rn]
 congr 1
 omega
def z0G (h:Va w r s a)(k:Nat)(n:k<=8*s.length):Qx prog 215 [ptr r 0,I (k:Int)] w λv w'=>v=I 0/\Va w' r s k/\Kp (λi=>i=r) w w':=by
 obtain⟨hB,o,l⟩:=h
 refine py (e:=[(0,_),(1,_)]) func215 O ntmps215 O O<|RY O<|RU<|Qz O<|qV (Rm VS O O)<|Qe O<|PW O<|Qz O<|RT O<|Q4 O<|TA (λc1=>?_)<|λc1=>?_
 ·omega
 ·refine Qq O<|QC O<|Qf z4E O<|qV (Q0 U9 O O hB O)<|qV (Wb U9 O)<|qV (WB O O ω)<|RR O<|R0 O<|Qe O<|Qa O (λc2=>?_)<|λc2=>?_
  ·omega
  ·refine PS (PN (RK O (QC O (Qf Wk O (Qc O (S0 R8 O O O hB ξ) ?_)))));rintro w1⟨j,d⟩;refine qM O<|Qe O<|PQ func215 O ?_;exact⟨_,O,O,⟨j,n,l⟩,d⟩
theorem z8J {V n:Nat}(h:Va w r s a)(l:Q8 w b2 [ptr r 0] 289)(p:Q8 w b6 [Qi V] 39)(T:1<=n)(X:n<=8-a%8)(t:a+n<=8*s.length)(Q:V*2^n+2^n<=18446744073709551616)(d1:b6≠r)(d2:b2≠r)(d3:b2≠b6):
  Qx prog 204 [I (n:Int),ptr b2 0,ptr b6 0] w λu w'=>u= .tuple #[]/\Va w' r s (a+n)/\Q8 w' b6 [Qi (V*2^n+QO (((Qo s).drop a).take n))] 39/\Q8 w' b2 [ptr r 0] 289/\Kp (λk=>k=b6\/k=r) w w':=by
 obtain⟨hB,P,y⟩:=h
 have z:a&&&7=a%8:=y13 a 3
 obtain⟨c,S⟩:∃c,s[a / 8]? =some c:=⟨_,y07 ω⟩
 have q:=z7I S X
 obtain⟨j,U⟩:∃j,QO (((Qo s).drop a).take n)=j:=⟨_,O⟩
 have J:j<2^n:=by
  rw[<-U];have L:=Se (((Qo s).drop a).take n);rw[y0d,y08,bitsT_length,y0B ω] at L;exact L
 rw[U] at q⊢
 have F:=c.toNat_lt
 obtain⟨d,Y⟩:∃d,8-a%8=d:=⟨_,O⟩
 rw[Y] at q X
 have W:c.toNat&&&(2^d-1)=c.toNat%2^d:=y13 _ _
 obtain⟨R,A⟩:∃R,2^d=R:=⟨_,O⟩
 have wo:1<=R/\R<=256:=by
  rw[<-A];exact⟨y0y _,by have:=y0t (show 0<2 by decide) (show d<=8 by omega);simpa using this⟩
 rw[A] at q W
 have mS:c.toNat%R<=c.toNat:=Nat.mod_le _ _
 have Z:s.getD (a / 8) 0=c:=by rw[y12,S];rfl
 refine py (e:=[(0,_),(1,_),(2,_)]) func204 O ntmps204 O O<|qN O<|qV (Q0 VS O O l O)<|QC O<|Qf Wk O<|qV (Q0 U3 O O hB O)<|qV (YH O O ω ω) ?_
 rw[z]
 refine SA O ?_
 rw[show(8-((a%8:Nat):Int))=((d:Nat):Int) by omega]
 have hg:=Ext.Qm w
 refine Qe O<|It<|Sq (λw'=>Ext w w') O<|qT 0 O (λ_ h=>(Q0 VS O O (h.PO l) O)) hg<|PV 1 O (Rs O) hg<|PV 2 O (QE z4E O) hg<|qT 3 O (λ_ h=>(Q0 U9 O O (h.PO hB) O)) hg<|qT 4 O (λ_ h=>(Q0 VS O O (h.PO l) O)) hg<|PV 5 O (Rs O) hg<|PV 6 O (QE Wk O) hg<|qT 7 O (λ_ h=>(Q0 U3 O O (h.PO hB) O)) hg<|PV 8 O (Yx O O ω) hg<|Ql 11 O O hg<|Ql 15 O O hg ?_
 refine Ql 16 O O hg<|PV 17 O (YS O O ω) hg ?_
 rw[show((a:Int) / 8)=((a / 8:Nat):Int) by omega]
 refine PV 9 O (z5v U9 O O ω) hg<|PV 10 O (z4O O U5 U3 ψ) hg ?_
 rw[Z]
 refine PV 12 O (zl2 d R O O ω A ω) hg ?_
 rw[show(1*(R:Int))=((R:Nat):Int) by omega]
 refine PV 13 O (YS O O ω) hg ?_
 rw[show((R:Int)-1)=((R-1:Nat):Int) by omega]
 refine PV 14 O (YH O O ω ω) hg ?_
 rw[W]
 rw[show((d:Int)-(n:Int))=((d-n:Nat):Int) by omega]
 refine PV 18 O (Vl (d-n) (2^(d-n)) O O (by show d-n<=64;omega) O) hg ?_
 rw[<-q]
 refine PV 19 O (SG O) hg<|qE<|QA.qb (e:=[(0,_),(1,_),(2,_),(5,_)]) ?_
 refine qN O ?_
 have m:=hg.PO hB
 have f:=hg.PO l
 have B:=hg.PO p
 obtain⟨N,hN⟩:∃N,2^n=N:=⟨_,O⟩
 rw[hN] at Q J
 have K:1<=N:=by rw[<-hN];exact y0y _
 obtain⟨M,o⟩:∃M,V*N=M:=⟨_,O⟩
 rw[o] at Q
 have C:M |||j=M+j:=by
  have:=y24 (i:=n) (b:=j) (by rw[hN];exact J) V;rw[hN,y0E N V,o] at this;exact this.symm
 rw[hN,o]
 have D:n<=64:=ω
 refine qV (Q0 SK O O B O)<|Q4 O<|qV (Sz n N O O D hN) ?_
 rw[o,y0e (show M<18446744073709551616 by omega)]
 refine Q4 O<|qV (Rz O U3 SK ω)<|qV (z2G O O ω ω) ?_
 rw[C]
 refine Qc O (S0 Uw O O O B ξ) ?_
 rintro w2⟨g,v⟩
 have G:=v.PO m (Ne.symm d1)
 have E:=v.PO f d3
 refine PR<|PY O<|qV (Q0 VS O O E O)<|QC O<|Qf Wk O<|qV (Q0 U3 O O G O)<|Q4 O<|Ra O<|QC O<|Qf Wk O<|Qc O (S0 R8 O O O G ξ) ?_
 rintro w3⟨H,x⟩
 rw[show((a:Int)+(n:Int))=((a+n:Nat):Int) by omega] at H
 refine PR<|Rj func204 O ?_
 exact⟨_,O,O,⟨H,t,y⟩,x.PO g d1,x.PO E d2,(hg.kp.trans (v.PZ (λk e=> .inl e))).trans (x.PZ (λk e=> .inr e))⟩
theorem WT (h:Va w r s a)(n:Nat)(F:n<=64):
  Qx prog 173 [ptr r 0,I (n:Int)] w λv w'=>(a+n<=8*s.length/\v= .tuple #[Qi (QO (((Qo s).drop a).take n)),I 0]/\Va w' r s (a+n)/\Kp (λk=>k=r) w w')\/(8*s.length<a+n/\v= .tuple #[Qi 0,I 4]/\Ext w w'):=by
 have K:=h.1.lt
 obtain⟨-,C,b⟩:=id h
 refine py (e:=[(0,_),(1,_)]) func173 O ntmps173 O O<|qN O<|PX O O (Sy O (cs:=[ptr r 0]) O) ?_
 rintro _ w1⟨b2,rfl,t,j,l⟩
 have o:Va w1 r s a:=⟨j.PO h.1,h.2⟩
 refine Rw O<|RU<|qN O<|qV (Q0 VS O O l O)<|qV (Rm VS O O)<|Qe O<|PW O<|Qz O<|RT O<|Q4 O<|TA (λc1=>?_)<|λc1=>?_
 ·omega
 ·refine Q4 O<|RR O<|R0 O<|Qe O<|Qa O (λc2=>?_)<|λc2=>?_
  ·omega
  ·refine Qz O<|qV (Q0 VS O O l O)<|Qj ziY O (za0 o) ?_;rintro _ w2⟨rfl,x⟩;refine RR O<|Qe O<|Qa O (λc3=>?_)<|λc3=>?_
   ·refine qN O<|Rw O<|PQ func173 O ?_;exact⟨_,O,.inr ⟨ω,O,j.trans x⟩⟩
   ·refine PS<|PN<|qN O<|PX O O (SE (cs:=[_]) Uw O) ?_;rintro _ g⟨b6,rfl,oY,U,u⟩;replace u:Q8 g b6 [Qi 0] 39:=u;have E:=x.trans U;have H:=j.trans E;have T:=j.size;have ns:=x.size;have P:=l.lt;have W:a+n<=8*s.length:=ω
    refine qM O<|qV (ymf (first:=[]) (caps:=[.tmp 2,.tmp 6]) O O)<|Qe O<|RU<|SN (α:=Nat) n (λk=>[(1,I (k:Int)),(2,ptr b2 0),(6,ptr b6 0),(7,.func (.func 204) #[] #[ptr b2 0,ptr b6 0])]) (λk w'=>k<=n/\Va w' r s (a+(n-k))/\Q8 w' b6 [Qi (QO (((Qo s).drop a).take (n-k)))] 39/\Q8 w' b2 [ptr r 0] 289/\Kp (λi=>i=r) w w') (λk=>k) ?hI ?hround
    case hI=>exact⟨y04 _,⟨by rw[y1w];exact H.PO h.1,ω,b⟩,by rw[y1w];exact u,E.PO l,H.kp⟩
    case hround=>
     rintro k w4⟨D,d,q,Id,G⟩ c;have B:=d.1
     try dsimp only
     refine QV O<|RR O<|PR<|Qa O (λR=>?_)<|λR=>?_
     ·obtain⟨p,J⟩:∃p,a+(n-k)=p:=⟨_,O⟩;rw[J] at B d;have f:p&&&7=p%8:=y13 p 3;obtain⟨take,ni⟩:∃take,min k (8-p%8)=take:=⟨_,O⟩;have L:1<=take/\take<=k/\take<=8-p%8:=ω
      refine PS (PT (Qz O (qV (Q0 VS O O Id O) (QC O (Qf Wk O (qV (Q0 U3 O O B O) (qV (YH O O ω ω) ?_)))))));rw[f];refine SA O<|qV (ymi O O) ?_;rw[show min (k:Int) (8-((p%8:Nat):Int))=((take:Nat):Int) by omega];obtain⟨V,A⟩:∃V,QO (((Qo s).drop a).take (n-k))=V:=⟨_,O⟩;rw[A] at q
      have M:V*2^take+2^take<=18446744073709551616:=by
       have o:=Se (((Qo s).drop a).take (n-k));rw[A,y0d,y08,bitsT_length,y0B ω] at o;have Y:(V+1)*2^take<=2^(n-k)*2^take:=y0S _ o;rw[<-y0I,y0q,y0O] at Y;have y:=y0t (show 0<2 by decide) (show n-k+take<=64 by omega);have z:(2:Nat)^64=18446744073709551616:=ψ
       omega
      refine Sb O (Qq O (S5 O O (SQ ziA O O) (z8J d Id q L.1 L.2.2 ω M ω ω ω) ?_));rintro _ m⟨rfl,X,N,Q,S⟩;refine PR<|PY O<|Qq O<|SA O<|Qe O<|PN ?_;rw[show((k:Int)-(take:Int))=((k-take:Nat):Int) by omega];refine(c (k-take) m ⟨ω,?_,?_,Q,?_⟩ ω).qb
      ·rw[show a+(n-(k-take))=p+take by omega];exact X
      ·rw[show n-(k-take)=(n-k)+take by omega,y2N,T7,A,y0G,J];have Z:(((Qo s).drop p).take take).length=take:=by rw[y0d,y08,bitsT_length];omega
       rw[Z];exact N
      ·exact G.An S (λi hi=>hi.elim (λe=> .inl ω) .inr)
     ·have:k=0:=ω
      subst this;rw[y2W] at d q;refine Q7 O<|qN O<|qV (Q0 SK O O q O)<|Rw O<|PQ func173 O ?_;exact⟨_,O,.inl ⟨W,O,d,G⟩⟩
end
def R6 (v:Nat):Nat:=if v=0 then 0 else Nat.log2 v+1
def Y4 {v:Nat}:v<2^R6 v:=by
 unfold R6
 split
 ·subst_vars;simp
 ·exact y3v
def z1I {v:Nat}(h:v≠0):2^(R6 v-1)<=v:=by
 unfold R6
 rw[if_neg h,y1h]
 exact y2B h
theorem z9z {v n:Nat}(e:2^n<=v)(h:v<2^(n+1)):R6 v=n+1:=by
 have j:=y0y n
 have d:v≠0:=ω
 unfold R6
 rw[if_neg d]
 have:=(Nat.log2_eq_iff d).2 ⟨e,h⟩
 omega
def Sm {v n:Nat}(h:v<2^n):R6 v<=n:=by
 by_cases d:v=0
 ·subst d;simp[R6]
 ·have j:=z1I d;have e:2^(R6 v-1)<2^n:=ω
  have l:=(y3u (by decide:1<2)).1 e;have:R6 v≠0:=by unfold R6;rw[if_neg d];omega
  omega
def SR (v K:Nat):Nat×Nat:=
 let s:=R6 (K-1)
 let m:=2^s-K
 if v<m then(v,s-1) else(v+m,s)
def RW (v K:Nat):List Bool:=Qu (SR v K).2 (SR v K).1
def Wm (j:1<=K):K<=2^R6 (K-1)/\(1<K->1<=R6 (K-1)/\2^(R6 (K-1)-1)+1<=K):=by
 have d:=Y4 (v:=K-1)
 refine⟨ω,λh=>?_⟩
 have e:=z1I (v:=K-1) ω
 refine⟨?_,ω⟩
 unfold R6
 rw[if_neg ω];omega
def zbb {v:Nat}(h:v<K):(SR v K).1<2^(SR v K).2:=by
 obtain⟨l,d⟩:=Wm (K:=K) ω
 unfold SR
 dsimp only
 split
 ·rename_i j
  by_cases e:K=1
  ·subst e;simp[R6] at j
  ·obtain⟨n,o⟩:=d ω;have:2^R6 (K-1)=2*2^(R6 (K-1)-1):=by rw[<-Nat.pow_succ',show(R6 (K-1)-1).succ=R6 (K-1) by omega]
   dsimp only;omega
 ·dsimp only;omega
theorem z8F {v:Nat}(h:v<K)(n:1<K)(rest:List Bool):
  let s:=R6 (K-1)
  let m:=2^s-K
  1<=s/\s-1<=(RW v K).length/\
  ((QO ((RW v K).take (s-1))<m/\(RW v K).length=s-1/\QO ((RW v K).take (s-1))=v)\/
   (m<=QO ((RW v K).take (s-1))/\(RW v K).length=s/\2*QO ((RW v K).take (s-1))+QO ((RW v K).drop (s-1))=v+m)):=by
 obtain⟨o,j⟩:=Wm (K:=K) ω
 obtain⟨l,q⟩:=j n
 have r:2^R6 (K-1)=2*2^(R6 (K-1)-1):=by rw[<-Nat.pow_succ',show(R6 (K-1)-1).succ=R6 (K-1) by omega]
 dsimp only
 unfold RW SR
 dsimp only
 refine⟨l,?_⟩
 split
 ·rename_i d
  dsimp only;rw[bitsN_length,y0z ξ,Rl,y0e ω];exact⟨y04 _,.inl ⟨d,O,O⟩⟩
 ·rename_i d
  dsimp only;rw[bitsN_length]
  have e:Qu (R6 (K-1)) (v+(2^R6 (K-1)-K))=Qu (R6 (K-1)-1) ((v+(2^R6 (K-1)-K)) / 2^1)++Qu 1 (v+(2^R6 (K-1)-K)):=by
   rw[<-Ta,show R6 (K-1)-1+1=R6 (K-1) by omega]
  rw[e,y1c ξ,y10 ξ,Rl,Rl,y0e ω];exact⟨ω,.inr ⟨ω,O,ω⟩⟩
inductive Cd where
 |unary
 |gamma
 |zeta (k:Nat)
def Cd.zeros:Cd->Nat->Nat
 | .unary,v=>v
 | .gamma,v=>Nat.log2 (v+1)
 | .zeta k,v=>Nat.log2 (v+1) / k
def Cd.rest:Cd->Nat->List Bool
 | .unary,_=>[]
 | .gamma,v=>Qu (Nat.log2 (v+1)) (v+1-2^Nat.log2 (v+1))
 | .zeta k,v=>let h:=Nat.log2 (v+1) / k;RW (v+1-2^(h*k)) (2^(h*k)*2^k-2^(h*k))
def Cd.enc (c:Cd)(v:Nat):List Bool:=List.replicate (c.zeros v) false++true::c.rest v
def X5 {v:Nat}(h:v<=281474976710654):2^Nat.log2 (v+1)<=v+1/\v+1<2^(Nat.log2 (v+1)+1)/\Nat.log2 (v+1)<=47:=by
 have d:=y2B (n:=v+1) ω
 have e:=y3v (n:=v+1)
 refine⟨d,e,?_⟩
 have j:2^Nat.log2 (v+1)<2^48:=by
  have:(2:Nat)^48=281474976710656:=ψ
  omega
 have:=(y3u (by decide:1<2)).1 j
 omega
def Zi {k v:Nat}(q:1<=k):let h:=Nat.log2 (v+1) / k;2^(h*k)<=v+1/\v+1-2^(h*k)<2^(h*k)*2^k-2^(h*k)/\1<=2^(h*k)*2^k-2^(h*k):=by
 dsimp only
 have r:=y2B (n:=v+1) ω
 have s:=y3v (n:=v+1)
 have d:Nat.log2 (v+1) / k*k<=Nat.log2 (v+1):=y1F _ _
 have j:Nat.log2 (v+1)+1<=Nat.log2 (v+1) / k*k+k:=by
  have:=y2b (Nat.log2 (v+1)) k;have:=y0Y (Nat.log2 (v+1)) (show 0<k by omega);have e:=y0E k (Nat.log2 (v+1) / k);omega
 have u:2^(Nat.log2 (v+1) / k*k)<=2^Nat.log2 (v+1):=y0t ψ d
 have l:2^(Nat.log2 (v+1)+1)<=2^(Nat.log2 (v+1) / k*k+k):=y0t ψ j
 rw[y0I 2 (Nat.log2 (v+1) / k*k) k] at l
 have o:2<=2^k:=by
  have:=y0t (show 0<2 by decide) q
  simpa using this
 have x:2^(Nat.log2 (v+1) / k*k)*2<=2^(Nat.log2 (v+1) / k*k)*2^k:=y3x _ o
 have A:=y0y (Nat.log2 (v+1) / k*k)
 omega
def Zc {x k:Nat}(h:2^k<=x):R6 x=R6 (x / 2^k)+k:=by
 have j:=y0y k
 have l:x / 2^k≠0:=by have:=Nat.div_pos h j;omega
 have d:=z1I l
 have e:=Y4 (v:=x / 2^k)
 have s:R6 (x / 2^k)≠0:=by unfold R6;rw[if_neg l];omega
 obtain⟨n,r⟩:∃n,R6 (x / 2^k)=n+1:=⟨R6 (x / 2^k)-1,ω⟩
 rw[r] at d e⊢
 rw[y1h] at d
 have o:2^(n+k)<=x:=by
  rw[y0I];exact y0c (y0S _ d) (y1F _ _)
 have q:x<2^(n+k+1):=by
  rw[show n+k+1=(n+1)+k by omega,y0I];exact(y2a j).1 e
 rw[z9z o q];omega
def zgD:PU:=[0,1,2,2,3,3,3,3,4,4,4,4,4,4,4,4,5,5,5,5,5,5,5,5,5,5,5,5,5,5,5,5,6,6,6,6,6,6,6,6,6,6,6,6,6,6,6,6,6,6,6,6,6,6,6,6,6,6,6,6,6,6,6,6,7,7,7,7,7,7,7,7,7,7,7,7,7,7,7,7,7,7,7,7,7,7,7,7,7,7,7,7,7,7,7,7,7,7,7,7,7,7,7,7,7,7,7,7,7,7,7,7,7,7,7,7,7,7,7,7,7,7,7,7,7,7,7,7,8,8,8,8,8,8,8,8,8,8,8,8,8,8,8,8,8,8,8,8,8,8,8,8,8,8,8,8,8,8,8,8,8,8,8,8,8,8,8,8,8,8,8,8,8,8,8,8,8,8,8,8,8,8,8,8,8,8,8,8,8,8,8,8,8,8,8,8,8,8,8,8,8,8,8,8,8,8,8,8,8,8,8,8,8,8,8,8,8,8,8,8,8,8,8,8,8,8,8,8,8,8,8,8,8,8,8,8,8,8,8,8,8,8,8,8,8,8,8,8,8,8,8,8,8,8,8,8]
theorem zcG:zgD.length=256:=by decide+kernel
def zm5:∀x:Fin 256,(zgD.getD x.val 0).toNat=R6 x.val:=by decide+kernel
section
theorem VE (x:Nat)(L:x<18446744073709551616)(w:World):Qx prog 169 [Qi x] w λv w'=>v=I (R6 x:Int)/\w'=w:=by
 refine py (e:=[(0,_)]) func169 O ntmps169 O O<|RY O<|QV O<|UL O<|PR<|QT (λd w'=>w=w'/\∃x1 n1:Nat,d=[(0,Qi x1),(2,I (n1:Int))]/\R6 x=R6 x1+n1/\x1<4294967296/\n1<=32) ?bF<|λbF=>?du
 case bF=>
  rintro d w'⟨rfl,x1,n1,rfl,s,A,B⟩;refine QV O<|UL O<|PR<|QT (λd w'=>w=w'/\∃x2 n2:Nat,d=[(0,Qi x2),(2,I (n2:Int))]/\R6 x=R6 x2+n2/\x2<65536/\n2<=48) ?cF<|λcF=>?ge
  case cF=>
   rintro d w'⟨rfl,x2,n2,rfl,u,E,G⟩;refine QV O<|UL O<|PR<|QT (λd w'=>w=w'/\∃h n:Nat,d=[(0,Qi h),(2,I (n:Int))]/\R6 x=R6 h+n/\h<256/\n<=56) ?av<|λav=>?dO
   case av=>
    rintro d w'⟨rfl,h,n,rfl,H,q,J⟩;have r:=zm5 ⟨h,q⟩;dsimp only at r;have M:R6 h<=8:=Sm ω;refine RK O<|qV (z5M O SK U5) ?_;rw[y0e q];refine qV (z5v (l:=zgD) U9 O O (by rw[zcG];exact q)) ?_;rw[r];refine qV (QU O U5 U3 ω)<|Ra O<|Qe O<|PQ func169 O ?_;exact⟨_,O,by simp only[Rn];congr 1;omega,rfl⟩
   case dO=>
    refine Qa O (λj=>?_)<|λj=>?_
    ·refine Qz O<|qV (Vl 8 256 O O ψ O)<|Qe O<|Sv O<|Ra O<|Qe O ((av _ _ ⟨O,x2 / 256,n2+8,O,?_,?_,?_⟩).qb)
     ·have o:=Zc (x:=x2) (k:=8) ω;rw[show x2 / 2^8=x2 / 256 from rfl] at o;omega
     ·omega
     ·omega
    ·refine PS ?_;exact(av _ _ ⟨O,x2,n2,O,u,ω,ω⟩).qb
  case ge=>
   refine Qa O (λj=>?_)<|λj=>?_
   ·refine Qz O<|qV (Vl 16 65536 O O ψ O)<|Qe O<|Sv O<|Ra O<|Qe O ((cF _ _ ⟨O,x1 / 65536,n1+16,O,?_,?_,?_⟩).qb)
    ·have o:=Zc (x:=x1) (k:=16) ω;rw[show x1 / 2^16=x1 / 65536 from rfl] at o;omega
    ·omega
    ·omega
   ·refine PS ?_;exact(cF _ _ ⟨O,x1,n1,O,s,ω,ω⟩).qb
 case du=>
  refine Qa O (λj=>?_)<|λj=>?_
  ·refine Qz O<|qV (Vl 32 4294967296 O O ψ O)<|Qe O<|PY O<|Qe O ((bF _ _ ⟨O,x / 4294967296,32,O,?_,?_,?_⟩).qb)
   ·exact Zc (x:=x) (k:=32) ω
   ·omega
   ·omega
  ·refine PS ?_;exact(bF _ _ ⟨O,x,0,O,ω,ω,ω⟩).qb
/-! ### Codes -/
def Tu:Cd->List Value
 | .unary=>[.int .u8 0,Qi 0]
 | .gamma=>[.int .u8 1,Qi 0]
 | .zeta k=>[.int .u8 3,Qi k]
abbrev cdV (c:Cd):Value:= .agg (Tu c).toArray
def Cd.RN:Cd->Prop
 | .zeta k=>1<=k/\k<=16
 |_=>True
def Cd.most:Cd->Nat
 | .unary=>65535
 |_=>281474976710654
def Cd.p0:Cd->Nat->Nat×Nat
 | .unary,_=>(0,0)
 | .gamma,v=>(v+1-2^Nat.log2 (v+1),Nat.log2 (v+1))
 | .zeta k,v=>let h:=Nat.log2 (v+1) / k;SR (v+1-2^(h*k)) (2^(h*k)*2^k-2^(h*k))
theorem VP (c:Cd)(l:c.RN)(w:World):Qx prog 236 [cdV c] w λv w'=>v=I 0/\Ext w w':=by
 cases c with
 | unary =>
   refine py (e:=[(0,_)]) func236 O ntmps236 O O<|qN O<|PX O O (Sy O (cs:=[.int .u8 0,Qi 0]) O) ?_;rintro _ w1⟨b1,rfl,j,h,d⟩;refine Sb O<|Qe O<|It<|qN O<|Qf Tn O<|qV (Q0 U5 O O d O)<|PR<|PT<|It<|qN O<|Ss O<|SD<|Qe O<|Qb O ?_;refine PS<|Qb O<|PY O<|Qf Ya O<|qV (Q0 SK O O d O)<|Ss O<|SD<|Qe O<|PN<|QV O<|qV (Tf O)<|Ri O<|RY O<|PQ func236 O ?_
   exact⟨_,O,O,h⟩
 | gamma =>
   refine py (e:=[(0,_)]) func236 O ntmps236 O O<|qN O<|PX O O (Sy O (cs:=[.int .u8 1,Qi 0]) O) ?_;rintro _ w1⟨b1,rfl,j,h,d⟩;refine Sb O<|Qe O<|It<|qN O<|Qf Tn O<|qV (Q0 U5 O O d O)<|PR<|PT<|It<|qN O<|Ss O<|QW<|Qe O<|PW O ?_;refine qN O<|Ss O<|SD<|Qe O<|Qb O<|PS<|Qb O<|PY O<|Qf Ya O<|qV (Q0 SK O O d O)<|Ss O<|SD<|Qe O<|PN ?_;refine QV O<|qV (Tf O)<|Ri O<|RY O<|PQ func236 O ?_
   exact⟨_,O,O,h⟩
 | zeta k =>
   obtain⟨n,o⟩:1<=k/\k<=16:=l;refine py (e:=[(0,_)]) func236 O ntmps236 O O<|qN O<|PX O O (Sy O (cs:=[.int .u8 3,Qi k]) O) ?_;rintro _ w1⟨b1,rfl,j,h,d⟩;refine Sb O<|Qe O<|It<|qN O<|Qf Tn O<|qV (Q0 U5 O O d O)<|PR<|PT<|It<|qN O<|Ss O<|QW<|Qe O<|PW O ?_;refine qN O<|Ss O<|QW<|Qe O<|PW O<|PY O<|Ss O<|QW<|Qe O<|PW O<|qN O<|Ss O<|SD<|Qe O ?_;refine Qb O<|PY O<|Qf Ya O<|qV (Q0 SK O O d O)<|UL O<|SD<|Q4 O<|Qf Ya O<|qV (Q0 SK O O d O)<|zle O<|SD<|Sh O<|Qe O<|PN ?_;refine QV O<|qV (Tf O)<|Ri O<|RY O<|PQ func236 O ?_;exact⟨_,O,O,h⟩
theorem z47 (c:Cd)(o:c.RN)(w:World):Qx prog 237 [cdV c] w λv w'=>v=Qi c.most/\Ext w w':=by
 cases c with
 | unary =>
   refine py (e:=[(0,_)]) func237 O ntmps237 O O<|qN O<|PX O O (Sy O (cs:=[.int .u8 0,Qi 0]) O) ?_;rintro _ w1⟨b1,rfl,q,l,h⟩;refine Qe O<|RU<|qN O<|qV (QB (news:=[.int .u8 0,Qi 0]) Td O S3 O (h.cells (n:=2) O) O)<|Qj z5x O (VP (.unary) o w1) ?_;rintro _ w2⟨rfl,d⟩;have j:=d.PO h;refine RI O<|QW<|Qe O<|PW O<|qN O<|Qf Tn O<|qV (Q0 U5 O O j O)<|Ss O<|SD<|Qe O<|Qb O<|RY O<|PQ func237 O ?_
   exact⟨_,O,O,l.trans d⟩
 | gamma =>
   refine py (e:=[(0,_)]) func237 O ntmps237 O O<|qN O<|PX O O (Sy O (cs:=[.int .u8 1,Qi 0]) O) ?_;rintro _ w1⟨b1,rfl,q,l,h⟩;refine Qe O<|RU<|qN O<|qV (QB (news:=[.int .u8 1,Qi 0]) Td O S3 O (h.cells (n:=2) O) O)<|Qj z5x O (VP (.gamma) o w1) ?_;rintro _ w2⟨rfl,d⟩;have j:=d.PO h;refine RI O<|QW<|Qe O<|PW O<|qN O<|Qf Tn O<|qV (Q0 U5 O O j O)<|Ss O<|QW<|Qe O<|PW O<|qN O<|Qf Tn O<|qV (Q0 U5 O O j O) ?_;refine Ss O<|QW<|Qe O<|Us O<|PN<|RY O<|PQ func237 O ?_
   exact⟨_,O,O,l.trans d⟩
 | zeta k =>
   refine py (e:=[(0,_)]) func237 O ntmps237 O O<|qN O<|PX O O (Sy O (cs:=[.int .u8 3,Qi k]) O) ?_;rintro _ w1⟨b1,rfl,q,l,h⟩;refine Qe O<|RU<|qN O<|qV (QB (news:=[.int .u8 3,Qi k]) Td O S3 O (h.cells (n:=2) O) O)<|Qj z5x O (VP (.zeta k) o w1) ?_;rintro _ w2⟨rfl,d⟩;have j:=d.PO h;refine RI O<|QW<|Qe O<|PW O<|qN O<|Qf Tn O<|qV (Q0 U5 O O j O)<|Ss O<|QW<|Qe O<|PW O<|qN O<|Qf Tn O<|qV (Q0 U5 O O j O) ?_;refine Ss O<|QW<|Qe O<|Us O<|PN<|RY O<|PQ func237 O ?_;exact⟨_,O,O,l.trans d⟩
theorem zbW (c:Cd)(v:Nat)(l:c.RN)(A:v<=c.most)(w:World):Qx prog 225 [cdV c,Qi v] w λu w'=>u= .bool true/\Ext w w':=by
 obtain⟨x,y,d⟩:∃x y,Tu c=[x,y]:=by cases c<;>exact⟨_,_,O⟩
 refine py (e:=[(0,_),(1,_)]) func225 O ntmps225 O O<|qN O<|PX O O (Sy O (cs:=Tu c) O) ?_
 rintro _ w1⟨b1,rfl,s,o,j⟩
 refine Sb O<|qV (QB (news:=Tu c) Td O S3 O (j.cells (n:=2) (by rw[d];rfl)) (by rw[d];rfl)) ?_
 refine Qj z5x O (VP c l w1) ?_
 rintro _ w2⟨rfl,h⟩
 have r:=h.PO j
 refine Ss O<|SD<|Qq O<|qV (QB (news:=Tu c) Td O S3 O (r.cells (n:=2) (by rw[d];rfl)) (by rw[d];rfl)) ?_
 refine Qj zfO O (z47 c l w2) ?_
 rintro _ B⟨rfl,q⟩
 refine zle O<|SD<|Sh O<|Qe O<|PQ func225 O ?_
 exact⟨_,O,O,(o.trans h).trans q⟩
end
section
theorem z7D (v K:Nat)(B:1<=K)(W:v<K)(X:K<=9223372036854775808)(w:World):Qx prog 238 [Qi v,Qi K] w λu w'=>u= .agg #[Qi (SR v K).1,I ((SR v K).2:Int)]/\Ext w w':=by
 obtain⟨s,h⟩:∃s,R6 (K-1)=s:=⟨_,O⟩
 have E:=Wm B
 rw[h] at E
 obtain⟨A,L⟩:=E
 have J:(2:Nat)^63=9223372036854775808:=ψ
 have G:s<=63:=by rw[<-h];exact Sm ω
 obtain⟨Q,l⟩:∃Q,2^s=Q:=⟨_,O⟩
 have R:Q<=9223372036854775808:=by
  have:=y0t (show 0<2 by decide) G;omega
 rw[l] at A
 have j:SR v K=if v<Q-K then(v,s-1) else(v+(Q-K),s):=by unfold SR;rw[h];dsimp only;rw[l]
 refine py (e:=[(0,_),(1,_)]) func238 O ntmps238 O O<|qN O<|PX O O (SE (cs:=[_,_]) TZ O) ?_
 rintro _ w1⟨x,rfl,V,r,q⟩
 refine qM O<|Q4 O<|qV (XM (n:=1) O O O (by show K<2^64;omega) B) ?_
 refine Qj z3y O (VE (K-1) ω w1) ?_
 rintro _ w1⟨rfl,rfl⟩
 rw[h]
 refine Qe O<|QV O<|qV (Sz s Q O O ω l) ?_
 rw[show 1*Q%18446744073709551616=Q by omega]
 refine Q4 O<|qV (XM O O O (by show Q<2^64;omega) A) ?_
 refine Sb O<|Qq O<|UL O<|PR<|Qa O (λM=>?_)<|λM=>?_
 ·rw[if_neg ω] at j;rw[j];refine RK O<|qV (Wv O O) ?_;rw[y0e (show v+(Q-K)<18446744073709551616 by omega)];refine Q4 O (qV (To (cs:=[_,_]) TZ O zdk O O) (Qc O (QX (news:=[Qi (v+(Q-K)),I (s:Int)]) TZ O O O O q ξ) ?_));rintro w2⟨d,o⟩;replace d:Q8 w2 x [Qi (v+(Q-K)),I (s:Int)] 351:=d;refine PR<|Qy func238 (.cell z5a O TZ O (Q8.cells (n:=2) d (news:=[_,_]) O) O .nil) ?_;exact⟨_,O,O,r.An o (λi hi=>ω)⟩
 ·rw[if_pos ω] at j;rw[j]
  have N:K≠1:=λe=>by
   have H:s=0:=by rw[<-h,e];rfl
   have S:Q=1:=by rw[<-l,H]
   omega
  have U:1<=s:=(L ω).1;refine PS<|RK O<|SA O ?_;rw[show((s:Int)-1)=((s-1:Nat):Int) by omega];refine qV (To (cs:=[_,_]) TZ O zdk O O) (Qc O (QX (news:=[Qi v,I ((s-1:Nat):Int)]) TZ O O O O q ξ) ?_);rintro w2⟨d,o⟩;replace d:Q8 w2 x [Qi v,I ((s-1:Nat):Int)] 351:=d;refine PR<|Qy func238 (.cell z5a O TZ O (Q8.cells (n:=2) d (news:=[_,_]) O) O .nil) ?_;exact⟨_,O,O,r.An o (λi hi=>ω)⟩
def zaz (n:Nat)(h:n≠0):R6 n-1=Nat.log2 n/\1<=R6 n:=by
 unfold R6;rw[if_neg h];exact⟨O,ω⟩
theorem z2N (c:Cd)(v:Nat)(hc:c.RN)(hv:v<=281474976710654)(w:World):Qx prog 226 [cdV c,Qi v] w λu w'=>u= .tuple #[I (c.zeros v:Int),.agg #[Qi (c.p0 v).1,I ((c.p0 v).2:Int),Qi 0,I 0]]/\Ext w w':=by
 obtain⟨l1,l2⟩:=zaz (v+1) ω
 obtain⟨V,g2,g3⟩:=X5 hv
 obtain⟨b,o⟩:∃b,Nat.log2 (v+1)=b:=⟨_,O⟩
 rw[o] at l1 V g2 g3
 obtain⟨Q,W⟩:∃Q,2^b=Q:=⟨_,O⟩
 rw[W] at V
 have Cu:Q<=281474976710656:=ω
 obtain⟨x,y,dJ⟩:∃x y,Tu c=[x,y]:=by cases c<;>exact⟨_,_,O⟩
 refine py (e:=[(0,_),(1,_)]) func226 O ntmps226 O O<|qN O<|PX O O (Sy O (cs:=Tu c) O) ?_
 rintro _ w1⟨b2,rfl,bR,Z,a⟩
 refine Tq O<|PX O O (SE (cs:=[_,_,_,_]) VL O) ?_
 rintro _ w2⟨b5,rfl,gj,N,r⟩
 replace r:Q8 w2 b5 [Qi 0,I 0,Qi 0,I 0] 352:=r
 refine qM O<|Q4 O<|qV (Wv O O) ?_
 rw[show(v+1)%18446744073709551616=v+1 by omega]
 refine RZ O<|Qj z3y O (VE (v+1) ω w2) ?_
 rintro _ w2⟨rfl,rfl⟩
 refine SA O ?_
 rw[show((R6 (v+1):Int)-1)=((b:Nat):Int) by omega]
 refine Sb O<|Qq O<|qV (Sz b Q O O ω W) ?_
 rw[show 1*Q%18446744073709551616=Q by omega]
 refine qV (XM O O O (by show v+1<2^64;omega) V) ?_
 refine Q4 O<|qV (To (cs:=[_,_]) TZ O zdk O O)<|PX O O (SE (cs:=[_,_]) TZ O) ?_
 rintro _ w3⟨K,rfl,gV,s,D⟩
 refine Qc O (QX (news:=[Qi (v+1-Q),I (b:Int)]) TZ O O O O D ξ) ?_
 rintro l⟨X,S⟩
 replace X:Q8 l K [Qi (v+1-Q),I (b:Int)] 351:=X
 have z1:=Z.size
 have z2:=N.size
 have z3:=s.size
 have a0:=a.lt
 have a1:=r.lt
 have j:=S.PO (s.PO (N.PO a)) ω
 have A:=S.PO (s.PO r) ω
 have U:Ext w l:=((Z.trans N).trans s).An S (λi hi=>ω)
 cases c with
 | unary =>
   replace j:Q8 l b2 [.int .u8 0,Qi 0] 314:=j;have hg:=Ext.Qm l;refine PR (It (qN O (Qf Tn O (qV (Q0 U5 O O j O) (PR (PT (qN O (Ss O (SD (Qe O (Qb O (It (Qp [4] (λw'=>Ext l w') y00 O ?_)))))))))))));refine R1 0 O O hg (Qs 1 O (QU O SK U3 ω) hg (Qs 3 O (SG O) hg (qL 2 O (λ_ h=>QB (news:=[Qi 0,I 0,Qi 0,I 0]) z2Q O VL O ((h.PO A).cells (n:=4) O) O) hg (U0 [4] (qO 4 (QQ (i:=4) O O (QX (news:=[Qi 0,I 0,Qi 0,I 0]) VL O O O O (hg.PO A) ξ) ?_))))));rintro M⟨d,R⟩;refine⟨trivial,?_⟩;replace d:Q8 M b5 [Qi 0,I 0,Qi 0,I 0] 352:=d;refine qE<|QA.qb (e:=[(1,_),(2,_),(4,_),(5,_)]) ?_;refine Qy func226 (.tmp O (.cell z2Q O VL O (Q8.cells (n:=4) d (news:=[_,_,_,_]) O) O .nil)) ?_
   exact⟨_,O,O,(U.trans hg).An R (λi hi=>ω)⟩
 | gamma =>
   replace j:Q8 l b2 [.int .u8 1,Qi 0] 314:=j;have hg:=Ext.Qm l;refine PR<|It<|qN O<|Qf Tn O<|qV (Q0 U5 O O j O)<|PR<|PT<|qN O<|Ss O<|QW<|Qe O<|PW O<|qN O<|Ss O ?_;refine SD<|Qe O<|QA.qb (e:=[(1,_),(2,_),(4,_),(5,_),(6,_),(7,_),(8,_),(24,_),(30,_)]) ?_;refine Qb O (It (Qp [4] (λw'=>Ext l w') y00 O (R1 0 O O hg (Qs 3 O (SG O) hg (qL 1 O (λ_ h=>QB (news:=[Qi (v+1-Q),I (b:Int)]) z5a O TZ O ((h.PO X).cells (n:=2) O) O) hg (Qs 2 O (zgy (parts:=[(0,.tmp 33)]) (cs:=[_,_,_,_]) VL O z2Q TZ O O) hg (U0 [4] (qO 4 (QQ (i:=4) O O (QX (news:=[Qi (v+1-Q),I (b:Int),Qi 0,I 0]) VL O O O O (hg.PO A) ξ) ?_)))))))));rintro M⟨d,R⟩;refine⟨trivial,?_⟩;replace d:Q8 M b5 [Qi (v+1-Q),I (b:Int),Qi 0,I 0] 352:=d;refine qE<|Qy func226 (.tmp O (.cell z2Q O VL O (Q8.cells (n:=4) d (news:=[_,_,_,_]) O) O .nil)) ?_
   exact⟨_,O,by simp[Rn,Cd.zeros,Cd.p0,o,W],(U.trans hg).An R (λi hi=>ω)⟩
 | zeta k =>
   obtain⟨z,am⟩:1<=k/\k<=16:=hc;have f:=Zi (k:=k) (v:=v) z;dsimp only at f;rw[o] at f;obtain⟨h,q⟩:∃h,b / k=h:=⟨_,O⟩;obtain⟨m,L⟩:∃m,h*k=m:=⟨_,O⟩;have Kw:m<=b:=by rw[<-L,<-q];exact y1F _ _
   rw[q,L] at f;obtain⟨F,H⟩:∃F,2^m=F:=⟨_,O⟩;obtain⟨G,J⟩:∃G,2^k=G:=⟨_,O⟩;rw[H,J] at f;obtain⟨f1,f2,f3⟩:=f;obtain⟨E,B⟩:∃E,F*G=E:=⟨_,O⟩
   have Cv:E<=9223372036854775808:=by
    rw[<-B,<-H,<-J,<-y0I];have:=y0t (show 0<2 by decide) (show m+k<=63 by omega);have P:(2:Nat)^63=9223372036854775808:=ψ
    omega
   rw[B] at f2 f3;have p:(Cd.zeta k).zeros v=h:=by show Nat.log2 (v+1) / k=h;rw[o,q]
   have t:(Cd.zeta k).p0 v=SR (v+1-F) (E-F):=by
    show SR (v+1-2^(Nat.log2 (v+1) / k*k)) (2^(Nat.log2 (v+1) / k*k)*2^k-2^(Nat.log2 (v+1) / k*k))=_;rw[o,q,L,H,J,B]
   rw[p,t];have g:(h:Int)*(k:Int)=(m:Int):=by rw[<-L];simp
   have T:(b:Int) / (k:Int)=(h:Int):=by rw[<-q];simp
   replace j:Q8 l b2 [.int .u8 3,Qi k] 314:=j;refine PR<|It<|qN O<|Qf Tn O<|qV (Q0 U5 O O j O)<|PR<|PT<|qN O<|Ss O<|QW<|Qe O<|PW O<|qN O<|Ss O ?_;refine QW<|Qe O<|QA.qb (e:=[(1,_),(2,_),(4,_),(5,_),(6,_),(7,_),(8,_),(24,_),(30,_)]) ?_;refine PW O<|qN O<|Ss O<|QW<|Qe O<|PW O<|qN O<|Ss O<|SD<|Qe O<|Qb O<|qN O<|Qf Ya O<|qV (Q0 SK O O j O) ?_;refine qV (QU O SK U3 ω) (Sb O (Qq O (qV (Yx O O ω) ?_)));rw[T];refine Sb O (Qq O (qV (WB O O (by rw[g];omega)) ?_));rw[g];refine qV (Sz m F O O ω H) ?_;rw[show 1*F%18446744073709551616=F by omega];refine Qe O<|QA.qb (e:=[(1,_),(2,_),(4,_),(5,_),(6,_),(9,_),(10,_),(11,_)]) ?_;refine RK O (Q4 O (qV (XM O O O (by show v+1<2^64;omega) f1) ?_));refine Qq O (qV (Sz k G O O ω J) ?_);rw[B,y0e (show E<18446744073709551616 by omega)];refine Q4 O (qV (XM O O O (by show E<2^64;omega) ω) ?_);refine Qj zin O (z7D (v+1-F) (E-F) f3 f2 ω l) ?_;rintro _ M⟨rfl,Y⟩;refine qV (zgy (parts:=[(0,.tmp 69)]) (cs:=[_,_,_,_]) VL O z2Q TZ O O)<|Tq O ?_;have xz:=Y.PO A;refine Qc O (QX (news:=[Qi (SR (v+1-F) (E-F)).1,I ((SR (v+1-F) (E-F)).2:Int),Qi 0,I 0]) VL O O O O xz ξ) ?_;rintro w6⟨d,C⟩;replace d:Q8 w6 b5 [Qi (SR (v+1-F) (E-F)).1,I ((SR (v+1-F) (E-F)).2:Int),Qi 0,I 0] 352:=d;refine PR<|Qy func226 (.tmp O (.cell z2Q O VL O (Q8.cells (n:=4) d (news:=[_,_,_,_]) O) O .nil)) ?_;exact⟨_,O,O,(U.trans Y).An C (λi hi=>ω)⟩
end
def hiB (w:Nat):Nat->Nat->List Nat->List Bool
 |_,_,[]=>[]
 |len,i,v::r=>List.replicate (v / 2^w+i-len) false++true::hiB w (v / 2^w+i+1) (i+1) r
abbrev Nof (l:List Nat):Prop:=l.Pairwise (·<=·)
def SO:List Bool->Nat->Option Nat
 |[],_=>none
 |true::l,0=>some 0
 |true::l,k+1=>(SO l k).map (·+1)
 |false::l,k=>(SO l k).map (·+1)
theorem VO:∀(z:Nat)(l:List Bool) (k:Nat),SO (List.replicate z false++l) k=(SO l k).map (·+z)
 |0,l,k=>ξ
 | z + 1, l, k => by
   rw[y19,y0s,SO,VO z l k,y28]
   congr 1
theorem z2F (w:Nat):∀(l:List Nat)(len i k:Nat) (v:Nat),Nof l->l[k]? =some v->(∀x,l.head? =some x->len<=x / 2^w+i)->SO (hiB w len i l) k=some (v / 2^w+i+k-len)
 |[],len,i,k,v,_,h,_=>by simp at h
 | x :: r, len, i, 0, v, _, h, hl => by
   simp at h;subst h;have:=hl x O;rw[hiB,VO,SO]
   simp
 | x :: r, len, i, k + 1, v, hn, h, hl => by
   rw[y1L] at h;obtain⟨n1,n2⟩:=y1l.1 hn;have o:=hl x O;have d:x<=v:=n1 v (y0i h);have n:=y1N (c:=2^w) d
   rw[hiB,VO,SO,z2F w r _ (i+1) k v n2 h (λy j=>by
    have e:x<=y:=n1 y (by cases r with
     |nil=>simp at j
     |cons a r=>simp at j;simp[j])
    have:=y1N (c:=2^w) e
    omega)]
   simp;omega
theorem z0M:∀(l:List Bool)(j p m:Nat),SO l j=some p->SO (l.drop p) m=(SO l (j+m)).map (·-p)
 |[],j,p,m,h=>by simp[SO] at h
 | true :: l, 0, p, m, h => by
   simp[SO] at h;subst h
   simp
 | true :: l, j + 1, p, m, h => by
   simp only[SO,y1S] at h;obtain⟨q,d,rfl⟩:=h;rw[y26,z0M l j q m d,show j+1+m=(j+m)+1 by omega,SO,y28]
   congr 1
   funext x;simp
 | false :: l, j, p, m, h => by
   simp only[SO,y1S] at h;obtain⟨q,d,rfl⟩:=h;rw[y26,z0M l j q m d,SO,y28]
   congr 1
   funext x;simp
theorem XY:∀(a b:List Bool)(k:Nat),SO (a++b) k=if k<a.count true then SO a k else(SO b (k-a.count true)).map (·+a.length)
 |[],b,k=>ξ
 |true::a,b,0=>by simp[SO]
 | true :: a, b, k + 1 => by
   rw[y0s,SO,XY a b k,List.count_cons_self];split
   ·rename_i h
    rw[if_pos ω,SO]
   ·rename_i h
    rw[if_neg ω,y28,show k+1-(a.count true+1)=k-a.count true by omega]
    congr 1
 | false :: a, b, k => by
   rw[y0s,SO,XY a b k,List.count_cons_of_ne ψ];split
   ·rw[SO]
   ·rw[y28]
    congr 1
def z1L:∀{l:List Bool} {k p:Nat},SO l k=some p->p<l.length/\l[p]? =some true
 |true::l,0,p,h=>by simp[SO] at h;subst h;simp
 | true :: l, k + 1, p, h => by
   simp only[SO,y1S] at h;obtain⟨q,d,rfl⟩:=h;have:=z1L d
   simp;exact this
 | false :: l, k, p, h => by
   simp only[SO,y1S] at h;obtain⟨q,d,rfl⟩:=h;have:=z1L d
   simp;exact this
 |[],k,p,h=>by simp[SO] at h
theorem z9k (w:Nat):∀(l:List Nat)(len i:Nat),Nof l->(∀x,l.head? =some x->len<=x / 2^w+i)->∀v,l.getLast? =some v->len+(hiB w len i l).length=v / 2^w+i+l.length
 |[],len,i,_,_,v,h=>by simp at h
 | [x], len, i, _, hl, v, h => by
   simp at h;subst h;have:=hl x O
   simp[hiB];omega
 | x :: y :: r, len, i, hn, hl, v, h => by
   obtain⟨n1,n2⟩:=y1l.1 hn;have j:=hl x O;have e:=y1N (c:=2^w) (n1 y ξ);have:=z9k w (y::r) (x / 2^w+i+1) (i+1) n2 (λz d=>by simp at d;subst d;omega) v (by simpa using h);rw[hiB,y01,y0b,y02];simp only[y02] at this⊢;omega
theorem Z6 (z:Nat)(r:List Bool):QO (List.replicate z false++true::r)=2^r.length+QO r:=by
 induction z with
 |zero=>simp[QO]
 |succ z d=>rw[y19,y0s,QO,d];simp
theorem z4b (c:Cd)(v:Nat):c.rest v=Qu (c.p0 v).2 (c.p0 v).1:=by cases c<;>rfl
theorem Y2 (c:Cd)(v:Nat):(c.enc v).length=c.zeros v+1+(c.p0 v).2:=by
 unfold Cd.enc
 rw[y01,y0b,y02,z4b,bitsN_length];omega
def Cd.z1F (c:Cd):c.most<=281474976710654:=by cases c<;>simp[Cd.most]
theorem X4:∀n:Nat,Qu n 0=List.replicate n false
 |0=>rfl
 |n+1=>by rw[Qu,X4 n,y19];simp
theorem zaN (z:Nat):Qu (z+1) 1=List.replicate z false++[true]:=by
 refine ZE ξ ?_
 rw[Rl,Z6]
 simp[QO]
theorem Yn {c:Cd}{v:Nat}(u:c.RN)(j:v<=c.most):c.zeros v<=65535/\(c.p0 v).2<=63/\(c.p0 v).1<2^(c.p0 v).2:=by
 cases c with
 |unary=>exact⟨j,by simp[Cd.p0],by simp[Cd.p0]⟩
 | gamma =>
   obtain⟨r,l,s⟩:=X5 j;refine⟨by show Nat.log2 (v+1)<=_;omega,by show Nat.log2 (v+1)<=_;omega,?_⟩;show v+1-2^Nat.log2 (v+1)<2^Nat.log2 (v+1);rw[y1J] at l
   omega
 | zeta k =>
   obtain⟨q,A⟩:1<=k/\k<=16:=u;obtain⟨r,l,s⟩:=X5 j;have f:=Zi (k:=k) (v:=v) q;dsimp only at f;have G:Nat.log2 (v+1) / k<=Nat.log2 (v+1):=y0P _ _;have H:Nat.log2 (v+1) / k*k<=Nat.log2 (v+1):=y1F _ _;refine⟨by show Nat.log2 (v+1) / k<=_;omega,?_,?_⟩
   ·show(SR _ _).2<=63
    have B:R6 (2^(Nat.log2 (v+1) / k*k)*2^k-2^(Nat.log2 (v+1) / k*k)-1)<=63:=by
     refine Sm ?_;have h:=y0t (show 0<2 by decide) (show Nat.log2 (v+1) / k*k+k<=63 by omega);rw[y0I] at h;have o:=f.2.2
     revert h o
     generalize 2^(Nat.log2 (v+1) / k*k)*2^k=E
     generalize 2^(Nat.log2 (v+1) / k*k)=F
     intro h o;omega
    unfold SR;dsimp only;split<;>dsimp only<;>omega
   ·exact zbb f.2.1
section
variable {e:Env}{d:Option Nat}{pos:String}{x:Operand}{n:Nat}{td:TypeDesc}
def zhW [sR:Uu za n]{len size:Nat}{vs:Array Value}(ht:P.underlying t=some (.array len el))(h:TI P el z size bytes)(q:P.underlying el=some td)(l:aggOf td=true)(r:look e x=some (.agg vs))(s:look e y=some (.int k za))(o:n<len):
  Y P e ⟨d,.index t x y,ty,pos,aft,g⟩ (.agg (vs.extract (n*size) (n*size+size))) w w:=fun ρ j=>by
 obtain⟨rfl⟩:=sR
 have h:=h.size (w:=w)
 simp[execOp,j _ _ r,j _ _ s,Instr.index,asIntOf,run_underlying ht,o,h,part,Ur q,l]
end
section
theorem z5V (c:Cd)(v:Nat)(o:c.RN)(A:v<=c.most)(w:World):Qx prog 200 [cdV c,Qi v] w λu w'=>u= .tuple #[I ((c.enc v).length:Int),I 0]/\Ext w w':=by
 obtain⟨x,y,h⟩:∃x y,Tu c=[x,y]:=by cases c<;>exact⟨_,_,O⟩
 obtain⟨Q,R,-⟩:=Yn o A
 have M:=Y2 c v
 have L:=c.z1F
 refine py (e:=[(0,_),(1,_)]) func200 O ntmps200 O O<|qN O<|PX O O (Sy O (cs:=Tu c) O) ?_
 rintro _ w1⟨b2,rfl,J,q,s⟩
 refine Rw O<|It<|qN O<|qV (QB (news:=Tu c) Td O S3 O (s.cells (n:=2) (by rw[h];rfl)) (by rw[h];rfl)) ?_
 refine Q4 O<|Qj zhX O (zbW c v o A w1) ?_
 rintro _ w2⟨rfl,l⟩
 refine qV (Tf O)<|Ri O<|qN O<|qV (QB (news:=Tu c) Td O S3 O ((l.PO s).cells (n:=2) (by rw[h];rfl)) (by rw[h];rfl)) ?_
 refine Q4 O<|Qj zfq O (z2N c v o ω w2) ?_
 rintro _ S⟨rfl,r⟩
 refine Q4 O<|Tr O<|PX O O (SE (cs:=[_,_,_,_]) VL O) ?_
 rintro _ U⟨b7,rfl,N,B,G⟩
 refine Tq O<|Qc O (QX (news:=[Qi (c.p0 v).1,I ((c.p0 v).2:Int),Qi 0,I 0]) VL O O O O G ξ) ?_
 rintro H⟨j,E⟩
 replace j:Q8 H b7 [Qi (c.p0 v).1,I ((c.p0 v).2:Int),Qi 0,I 0] 352:=j
 refine qM O<|Q4 O<|Ra O<|qV (yia z2Q TZ O O ω)<|Qf z1K O<|qV (Q0 U3 O O j O)<|Ra O<|qV (yia z2Q TZ O O ω)<|Qf z1K O<|qV (Q0 U3 O O j O)<|Ra O<|Rw O<|QA.qb (e:=[(4,_),(5,_)]) ?_
 refine PQ func200 O ?_
 have V:=q.size
 have W:=l.size
 have X:=r.size
 refine⟨_,O,?_,(((q.trans l).trans r).trans B).An E (λi hi=>ω)⟩
 simp only[Rn]
 congr 4
 omega
theorem zd1 {p:Nat}(h:ZT w p bs F)(c:Cd)(v:Nat)(D:c.RN)(hv:v<=c.most)(hl:bs.length+(c.enc v).length<=134217728):
  Qx prog 201 [ptr p 0,cdV c,Qi v] w λu w'=>u=I 0/\WrR p F w w' (bs++c.enc v):=by
 obtain⟨x,y,V⟩:∃x y,Tu c=[x,y]:=by cases c<;>exact⟨_,_,O⟩
 obtain⟨q1,q2,q3⟩:=Yn D hv
 have oU:=Y2 c v
 have fC:=c.z1F
 refine py (e:=[(0,_),(1,_),(2,_)]) func201 O ntmps201 O O<|qN O<|PX O O (Sy O (cs:=Tu c) O) ?_
 rintro _ w1⟨b4,rfl,fD,b,aJ⟩
 refine Qe O<|QV O<|qV (Rm z3b O O)<|Ri O<|qN O<|qV (QB (news:=Tu c) Td O S3 O (aJ.cells (n:=2) (by rw[V];rfl)) (by rw[V];rfl)) ?_
 refine Q4 O<|Qj zfI O (z5V c v D hv w1) ?_
 rintro _ w2⟨rfl,S⟩
 refine Q4 O<|Tr O<|Rw O<|RU<|Qz O<|RI O<|Qe O<|Qa O (λe0=>?_)<|λe0=>?_
 ·exact absurd O e0
 ·refine RK O<|Qj z3z O (WG ((h.ext b).ext S)) ?_; rintro _ w2⟨rfl, rfl⟩; refine SA O (RR O (Qe O (Qa O (λe1 => ?_) (λe1 => ?_))))
  ·omega
  ·refine PS (PN (qN O (qV (QB (news := Tu c) Td O S3 O ((S.PO aJ).cells (n := 2) (by rw [V]; rfl)) (by rw [V]; rfl)) ?_))); refine Q4 O (Qj zfq O (z2N c v D ω w2) ?_); rintro _ w3⟨rfl, aj⟩; refine Q4 O (Tr O (PX O O (SE (cs := [_, _, _, _]) VL O) ?_)); rintro _ w4⟨j, rfl, Cz, aD, fH⟩; refine Tq O (Qc O (QX (news := [Qi (c.p0 v).1, I ((c.p0 v).2 : Int), Qi 0, I 0]) VL O O O O fH ξ) ?_); rintro r⟨W, ai⟩; replace W : Q8 r j [Qi (c.p0 v).1, I ((c.p0 v).2 : Int), Qi 0, I 0] 352 := W; have z1 := b.size; have z2 := S.size; have z3 := aj.size; have m : Ext w r := (((b.trans S).trans aj).trans aD).An ai (λi hi => by omega); have z5 := m.size; have a1 := W.lt; have kd : ∀ i, F i -> i < w.heap.size := λi hi => h.lt hi
   have If:∀(Y:Nat->Prop),(∀k,Y k->F k\/r.heap.size<=k)->¬Y j:=λY hf e=>by
    rcases hf j e with e| e
    ·have:=kd j e;omega
    ·omega
   refine PR<|QA.qb (e:=[(0,_),(6,_),(9,_),(10,_)]) ?_;refine RU<|SN (α:=Nat×(Nat->Prop)×List Bool) (c.zeros v,F,bs) (λx=>[(0,ptr p 0),(9,I (x.1:Int)),(10,ptr j 0)]) (λx w'=>x.1<=c.zeros v/\ZT w' p x.2.2 x.2.1/\x.2.2=bs++List.replicate (c.zeros v-x.1) false/\Kp F w w'/\(∀k,x.2.1 k->F k\/r.heap.size<=k)/\Q8 w' j [Qi (c.p0 v).1,I ((c.p0 v).2:Int),Qi 0,I 0] 352/\r.heap.size<=w'.heap.size) (λx=>x.1) ?hI ?hround
   case hI=>exact⟨y04 _,h.ext m,ξ,m.kp,λ_ h=> .inl h,W,y04 _⟩
   case hround =>
    rintro⟨z,F1,b1⟩ w6 ⟨hz,K,U,aL,G,aU,z6⟩ M;dsimp only at hz K U G;have fI:b1.length=bs.length+(c.zeros v-z):=by rw[U,y01,y0b]
    try dsimp only
    refine QV O<|RR O<|PR<|Qa O (λaO=>?_)<|λaO=>?_
    ·refine PS (RU (Sv O (Qj XK O (Tv K 0 63 ψ ψ ω) ?_)));rintro _ w7⟨rfl,R,X,A,P⟩;have C:=A.PO aU (If F1 G);have z7:=A.size;refine PR<|PN<|Sv O<|SA O<|Qe O ?_;rw[show((z:Int)-63)=((z-63:Nat):Int) by omega];refine(M (z-63,R,b1++Qu 63 0) w7 ⟨by dsimp only;omega,X,?_,?_,?_,C,ω⟩ (by dsimp only;omega)).qb
     ·dsimp only;rw[U,X4,y06,y2P,show c.zeros v-z+63=c.zeros v-(z-63) by omega]
     ·exact aL.An A (λi hi=>(G i hi).elim .inr (λe=> .inl ω))
     ·intro i hi;rcases P i hi with e| e
      ·exact G i e
      ·exact .inr ω
    ·refine Q7 O<|QV O<|UL O<|PR<|Qa O (λg0=>?_)<|λg0=>?_
     ·refine PY O<|Qq O<|Ra O ?_;rw[show((z:Int)+1)=((z+1:Nat):Int) by omega];refine Qj XK O (Tv K 1 (z+1) ω (by have:=y0t (show 0<2 by decide) (show 1<=z+1 by omega);omega) ω) ?_;rintro _ w7⟨rfl,R,X,A,P⟩;have C:=A.PO aU (If F1 G);have z7:=A.size;have nu:Kp F w w7:=aL.An A (λi hi=>(G i hi).elim .inr (λe=> .inl ω));have CA:∀i,R i->F i\/r.heap.size<=i:=λi hi=>(P i hi).elim (G i) (λe=> .inr ω)
      have lu:b1++Qu (z+1) 1=bs++(List.replicate (c.zeros v) false++[true]):=by
       rw[U,zaN,y06]
       congr 1
       rw[<-y06,y2P,show c.zeros v-z+z=c.zeros v by omega]
      rw[lu] at X;clear M;refine PR<|It<|qN O<|qV (QB (news:=[Qi (c.p0 v).1,I ((c.p0 v).2:Int),Qi 0,I 0]) z2Q O VL O (C.cells (n:=4) O) O)<|Q4 O<|PR<|PT<|SN (α:=Nat×(Nat->Prop)×List Bool) (0,R,bs++(List.replicate (c.zeros v) false++[true])) (λx=>[(0,ptr p 0),(49,.agg #[Qi (c.p0 v).1,I ((c.p0 v).2:Int),Qi 0,I 0]),(50,I (x.1:Int))]) (λx w'=>x.1<=2/\ZT w' p x.2.2 x.2.1/\x.2.2=(bs++(List.replicate (c.zeros v) false++[true]))++(if x.1=0 then [] else c.rest v)/\Kp F w w'/\(∀k,x.2.1 k->F k\/r.heap.size<=k)/\r.heap.size<=w'.heap.size) (λx=>2-x.1) ?hI ?hround
      case hI=>exact⟨by dsimp only;omega,X,ξ,nu,CA,ω⟩
      case hround=>
       rintro⟨i,F8,f⟩ w8 ⟨hi,Q,q,a,J,z8⟩ M;dsimp only at hi Q q J
       try dsimp only
       refine qN O<|RT O<|PR<|It<|Qa O (λm7=>?_)<|λm7=>?_
       ·have xA:f.length<=bs.length+(c.zeros v+1)+(if i=0 then 0 else(c.p0 v).2):=by
         rw[q];simp only[y01,y0b,y02,y1g];split
         ·simp
         ·rw[z4b,bitsN_length];omega
        refine PS<|RU<|qN O ?_;rcases (show i=0\/i=1 by omega) with rfl|rfl
        ·rw[if_pos O] at xA q;refine qV (zhW (n:=0) z2Q TZ z5a O O O ψ) ?_;rw[show(#[Qi (c.p0 v).1,I ((c.p0 v).2:Int),Qi 0,I 0]:Array Value).extract (0*2) (0*2+2)=#[Qi (c.p0 v).1,I ((c.p0 v).2:Int)] from rfl];refine PX O O (SE (cs:=[_,_]) TZ O) ?_;rintro _ w9⟨B,rfl,CB,L,t⟩;refine Qc O (QX (news:=[Qi (c.p0 v).1,I ((c.p0 v).2:Int)]) TZ O O O O t ξ) ?_;rintro l⟨o,Z⟩;replace o:Q8 l B [Qi (c.p0 v).1,I ((c.p0 v).2:Int)] 351:=o;have z9:=L.size;have E:Ext w8 l:=L.An Z (λi hi=>ω);have a0:=E.size;refine PR (Sv O (Qf z97 O (qV (Q0 SK O O o O) (Qf z1K O (qV (Q0 U3 O O o O) (Qj XK O (Tv (Q.ext E) (c.p0 v).1 (c.p0 v).2 ω q3 ω) ?_))))));rintro _ H⟨rfl,s,T,g,t8⟩;have N:=E.kp.trans g;refine PR<|PN<|PY O<|Ra O<|Q4 O<|PR ((M (1,s,f++Qu (c.p0 v).2 (c.p0 v).1) H ⟨by dsimp only;omega,T,?_,?_,?_,?_⟩ (by dsimp only;omega)).qb)
         ·dsimp only;rw[q];rw[y0o,if_neg ψ,z4b]
         ·exact a.An N (λi hi=>(J i hi).elim .inr (λe=> .inl ω))
         ·intro i hi;rcases t8 i hi with e| e
          ·exact J i e
          ·exact .inr ω
         ·have:=N.size;omega
        ·rw[if_neg ψ] at xA q;refine qV (zhW (n:=1) z2Q TZ z5a O O O ψ) ?_;rw[show(#[Qi (c.p0 v).1,I ((c.p0 v).2:Int),Qi 0,I 0]:Array Value).extract (1*2) (1*2+2)=#[Qi 0,I 0] from rfl];refine PX O O (SE (cs:=[_,_]) TZ O) ?_;rintro _ w9⟨B,rfl,CB,L,t⟩;refine Qc O (QX (news:=[Qi 0,I 0]) TZ O O O O t ξ) ?_;rintro l⟨o,Z⟩;replace o:Q8 l B [Qi 0,I 0] 351:=o;have z9:=L.size;have E:Ext w8 l:=L.An Z (λi hi=>ω);have a0:=E.size;refine PR (Sv O (Qf z97 O (qV (Q0 SK O O o O) (Qf z1K O (qV (Q0 U3 O O o O) (Qj XK O (Tv (Q.ext E) 0 0 ω ψ ω) ?_))))));rintro _ H⟨rfl,s,T,g,t8⟩;have N:=E.kp.trans g;refine PR<|PN<|PY O<|Ra O<|Q4 O<|PR ((M (2,s,f++Qu 0 0) H ⟨by dsimp only;omega,T,?_,?_,?_,?_⟩ (by dsimp only;omega)).qb)
         ·dsimp only;rw[q];rw[if_neg ψ];simp[Qu]
         ·exact a.An N (λi hi=>(J i hi).elim .inr (λe=> .inl ω))
         ·intro i hi;rcases t8 i hi with e| e
          ·exact J i e
          ·exact .inr ω
         ·have:=N.size;omega
       ·have:i=2:=ω
        subst this;rw[if_neg ψ] at q;refine Q7 O (RY O (PQ func201 O (⟨_,O,O,F8,?_,a,λi hi=>(J i hi).imp id (λe=>ω)⟩)));rw[q] at Q;unfold Cd.enc
        simpa using Q
     ·omega
end
structure RgM (w:World)(x r:Nat)(s:PU)(a:Nat):Prop where
 PO:Q8 w x [ptr r 0,.bool false] 366
 rd:Va w r s a
 ne:x≠r
def RgM.ext {x r:Nat}{s:PU}{a:Nat}(h:RgM w x r s a)(k:Ext w w'):RgM w' x r s a:=⟨k.PO h.PO,⟨k.PO h.rd.1,h.rd.2⟩,h.ne⟩
section
variable {x r:Nat}{s:PU}{a:Nat}
def Yd (h:RgM w x r s a)(n:Nat)(E:n<=64)(H:a+n<=8*s.length):
  Qx prog 252 [ptr x 0,I (n:Int)] w λv w'=>v=Qi (QO (((Qo s).drop a).take n))/\RgM w' x r s (a+n)/\Kp (λk=>k=x\/k=r) w w':=by
 obtain⟨hB,B,j⟩:=h
 refine py (e:=[(0,_),(1,_)]) func252 O ntmps252 O O<|qN O<|RZ O<|QC O<|Qf zeV O<|qV (Q0 VS O O hB O)<|Q4 O<|Qj z66 O (WT B n E) ?_
 rintro G w1 A
 obtain⟨rfl,u,l⟩:G= .tuple #[Qi (QO (((Qo s).drop a).take n)),I 0]/\Va w1 r s (a+n)/\Kp (λk=>k=r) w w1:=by
  rcases A with⟨-,h⟩|⟨h,-⟩
  ·exact h
  ·omega
 have o:=l.PO hB j
 refine Q4 O<|Tr O<|Tq O<|Sb O<|Qq O<|QC O<|Qf z1N O<|qV (Q0 U4 O O o O)<|Qq O<|RI O<|QW<|R0 O<|QC O<|Qf z1N O ?_
 refine Qc O (S0 Wu O O O o ξ) ?_
 rintro w2⟨d,q⟩
 replace d:Q8 w2 x [ptr r 0,.bool false] 366:=d
 refine PR<|QA.qb (e:=[(4,_),(5,_)]) ?_
 refine Qz O<|Qe O<|PQ func252 O ?_
 exact⟨_,O,O,⟨d,⟨q.PO u.1 (Ne.symm j),u.2⟩,j⟩,(l.PZ (λk e=> .inr e)).trans (q.PZ (λk e=> .inl e))⟩
def Zb (h:RgM w x r s a)(z most:Nat)(rest:List Bool)(u:(Qo s).drop a=List.replicate z false++true::rest)(M:z<=most)(J:most<=65535):
  Qx prog 250 [ptr x 0,I (most:Int)] w λv w'=>v=I (z:Int)/\RgM w' x r s (a+z+1)/\Kp (λk=>k=x\/k=r) w w':=by
 have H:a+z+1<=8*s.length:=by
  have:=congrArg List.length u;rw[y08,bitsT_length,y01,y0b,y02] at this;omega
 refine py (e:=[(0,_),(1,_)]) func250 O ntmps250 O O<|RY O<|It<|RY O<|PT<|SN (α:=Nat) (0) (λn=>[(0,ptr x 0),(1,I (most:Int)),(5,I (n:Int))]) (λn w'=>n<=z/\RgM w' x r s (a+n)/\Kp (λk=>k=x\/k=r) w w') (λn=>z-n) ?hI ?hround
 case hI=>exact⟨y03 _,h,Kp.refl _ _⟩
 case hround=>
  rintro n w1⟨L,o,j⟩ G;have A:=o.PO
  have B:(Qo s).drop (a+n)=List.replicate (z-n) false++true::rest:=by
   rw[<-y0G,u,y1i (by simp;omega),List.drop_replicate]
  try dsimp only
  refine It<|RK O<|zle O<|Q4 O<|TA (λc1=>?_)<|λc1=>?_
  ·have E:QO (((Qo s).drop (a+n)).take 1)=if n=z then 1 else 0:=by
    rw[B];by_cases e:n=z
    ·subst e;rw[y1w,if_pos O];rfl
    ·rw[if_neg e,show z-n=(z-n-1)+1 by omega,y19];rfl
   refine Q4 O (QC O (Qf z1N O (qV (Q0 U4 O O A O) (qV (Tf O) (Sh O (PR (Qb O (PS (RU (Qz O (Qj z9j O (Yd o 1 ψ ω) ?_)))))))))));rintro _ w2⟨rfl,q,l⟩;rw[E];refine Ss O<|PR<|Qa O (λc2=>?_)<|λc2=>?_
   ·have d:n=z:=by
     by_cases e:n=z
     ·exact e
     ·rw[if_neg e] at c2;simp at c2
    subst d;refine Qz O<|Qe O<|PQ func250 O ?_;exact⟨_,O,O,q,j.trans l⟩
   ·have d:n≠z:=λe=>by rw[if_pos e] at c2;simp at c2
    refine PS<|PN<|Sv O<|Ra O<|Qe O ?_;exact(G (n+1) w2 ⟨ω,by rw[<-y1x];exact q,j.trans l⟩ ω).qb
  ·omega
def z8D (h:RgM w x r s a)(z q:Nat)(rest:List Bool)(l:(Qo s).drop a=List.replicate z false++true::(Qu z q++rest))(o:q<2^z)(H:z<=47):
  Qx prog 251 [ptr x 0,I 47] w λv w'=>v=Qi (q+2^z-1)/\RgM w' x r s (a+z+1+z)/\Kp (λk=>k=x\/k=r) w w':=by
 have L:a+z+1+z<=8*s.length:=by
  have:=congrArg List.length l;rw[y08,bitsT_length,y01,y0b,y02,y01,bitsN_length] at this;omega
 have E:(Qo s).drop (a+z+1)=Qu z q++rest:=by
  rw[show a+z+1=a+(z+1) by omega,<-y0G,l];rw[<-y0G,y10 ξ];rfl
 have G:QO (((Qo s).drop (a+z+1)).take z)=q:=by
  rw[E,y1c ξ,Rl,y0e o]
 obtain⟨Q,j⟩:∃Q,2^z=Q:=⟨_,O⟩
 rw[j] at o⊢
 have J:1<=Q/\Q<=281474976710656:=by
  rw[<-j];exact⟨y0y _,by have:=y0t (show 0<2 by decide) (show z<=48 by omega);simpa using this⟩
 refine py (e:=[(0,_),(1,_)]) func251 O ntmps251 O O<|qN O<|Sb O<|Qq O<|Qj zc4 O (Zb h z 47 _ l H ψ) ?_
 rintro _ w1⟨rfl,A,u⟩
 have hg:=Ext.Qm w1
 refine Qe O<|It<|Sq (λw'=>Kp (λk=>k=x\/k=r) w1 w') O<|Ql 0 O O hg.kp<|Ql 1 O O hg.kp<|Ql 3 O O hg.kp<|PV 4 O (Sz z Q O O ω j) hg.kp ?_
 rw[show 1*Q%18446744073709551616=Q by omega]
 refine TQ 2 O z9j O (Yd (A.ext hg) z ω ω) ?_
 rintro _ w2⟨rfl,B,d⟩
 refine⟨hg.kp.trans d,?_⟩
 rw[G]
 refine PV 5 O (Wv O O) (hg.kp.trans d) ?_
 rw[show(q+Q)%18446744073709551616=q+Q by omega]
 refine PV 6 O (XM (n:=1) O O O (by show q+Q<2^64;omega) ω) (hg.kp.trans d) ?_
 refine PV 7 O (SG O) (hg.kp.trans d)<|qE<|PQ func251 O ?_
 exact⟨_,O,O,B,u.trans (hg.kp.trans d)⟩
theorem z71 (h:RgM w x r s a)(v K:Nat)(rest:List Bool)(q:(Qo s).drop a=RW v K++rest)(M:v<K)(X:K<=9223372036854775808):
  Qx prog 253 [ptr x 0,Qi K] w λu w'=>u=Qi v/\RgM w' x r s (a+(RW v K).length)/\Kp (λk=>k=x\/k=r) w w':=by
 have U:a+(RW v K).length<=8*s.length:=by
  have:=congrArg List.length q;have V:=h.rd.2.1;rw[y08,bitsT_length,y01] at this;omega
 refine py (e:=[(0,_),(1,_)]) func253 O ntmps253 O O<|qN O<|RZ O<|qV (XM (n:=1) O O O (by show K<2^64;omega) ω) ?_
 refine Qj z3y O (VE (K-1) ω w) ?_
 rintro _ w⟨rfl,rfl⟩
 refine Qe O<|QV O<|Ss O<|PR ?_
 by_cases I:K=1
 ·subst I;have R:v=0:=ω
  subst R;rw[show R6 (1-1)=0 from rfl];refine Qa O (λc0=>?_)<|λc0=>?_
  ·refine RY O<|PQ func253 O ?_;exact⟨_,O,O,h,Kp.refl _ _⟩
  ·exact absurd O c0
 ·have f:=z8F M ω rest;dsimp only at f;obtain⟨n,A⟩:∃n,R6 (K-1)=n:=⟨_,O⟩;rw[A] at f⊢;have g:=Wm (K:=K) ω;rw[A] at g;obtain⟨Q,o⟩:∃Q,2^n=Q:=⟨_,O⟩;rw[o] at f g;obtain⟨f1,f2,f3⟩:=f
  have J:n<=63:=by
   rw[<-A];have l:(2:Nat)^63=9223372036854775808:=ψ
   exact Sm ω
  have S:Q<=9223372036854775808:=by
   rw[<-o];have:=y0t (show 0<2 by decide) J;have l:(2:Nat)^63=9223372036854775808:=ψ
   omega
  have t1:((Qo s).drop a).take (n-1)=(RW v K).take (n-1):=by rw[q,y1n f2]
  obtain⟨u,B⟩:∃u,QO ((RW v K).take (n-1))=u:=⟨_,O⟩
  have Y:u<Q:=by
   have d:=Se ((RW v K).take (n-1));rw[B,y0d] at d;have G:=y0t (show 0<2 by decide) (show min (n-1) (RW v K).length<=n by omega);omega
  rw[B] at f3;refine Qa O (λc0=>?_)<|λc0=>?_
  ·omega
  ·refine PS (Qz O (qV (Sz n Q O O ω o) ?_));rw[show 1*Q%18446744073709551616=Q by omega];refine Q4 O (qV (XM O O O (by show Q<2^64;omega) g.1) ?_);refine Sb O<|Qq O<|SA O ?_;rw[show((n:Int)-1)=((n-1:Nat):Int) by omega];refine Qj z9j O (Yd h (n-1) ω ω) ?_;rintro _ w1⟨rfl,d,E⟩;rw[t1,B];refine Qe O<|It<|RK O<|UL O<|PR<|Qa O (λc1=>?_)<|λc1=>?_
   ·obtain⟨N,j,H⟩:Q-K<=u/\(RW v K).length=n/\2*u+QO ((RW v K).drop (n-1))=v+(Q-K):=by
     rcases f3 with⟨e,-⟩| e
     ·omega
     ·exact e
    have t2:((Qo s).drop (a+(n-1))).take 1=(RW v K).drop (n-1):=by
     rw[<-y0G,q,y1i f2,y1n (by rw[y08];omega),y0z (by rw[y08];omega)]
    have W:QO ((RW v K).drop (n-1))<2:=by
     have:=Se ((RW v K).drop (n-1));rw[y08,j,show n-(n-1)=1 by omega] at this;exact this
    refine Sv O (qV (Sz 1 2 O O ψ O) ?_);rw[show u*2%18446744073709551616=u*2 by omega];refine Q4 O (Qj z9j O (Yd d 1 ψ ω) ?_);rintro _ w2⟨rfl,G,L⟩;rw[t2];refine qV (Wv O O) ?_;rw[show(u*2+QO ((RW v K).drop (n-1)))%18446744073709551616=v+(Q-K) by omega];refine Q4 O (qV (XM O O O (by show v+(Q-K)<2^64;omega) ω) ?_);rw[show v+(Q-K)-(Q-K)=v by omega];refine Qe O<|QA.qb (e:=[(4,_),(7,_)]) ?_;refine Qz O<|Qe O<|PQ func253 O ?_;rw[j];exact⟨_,O,O,by rw[show a+n=a+(n-1)+1 by omega];exact G,E.trans L⟩
   ·obtain⟨N,j,H⟩:u<Q-K/\(RW v K).length=n-1/\u=v:=by
     rcases f3 with e|⟨e,-⟩
     ·exact e
     ·omega
    refine PS<|Qz O<|Qe O<|PQ func253 O ?_;rw[j];exact⟨_,O,by rw[H];rfl,d,E⟩
end
section
variable {x r:Nat}{s:PU}{a:Nat}
theorem z65 (h:RgM w x r s a)(c:Cd)(v:Nat)(y:c.RN)(Q:v<=c.most)(rest:List Bool)(o:(Qo s).drop a=c.enc v++rest):
  Qx prog 242 [ptr x 0,cdV c] w λu w'=>u=Qi v/\RgM w' x r s (a+(c.enc v).length)/\Kp (λk=>k=x\/k=r) w w':=by
 have V:=Y2 c v
 have dh:=h.PO.lt
 have io:=h.rd.1.lt
 have T:a+(c.enc v).length<=8*s.length:=by
  have:=congrArg List.length o;have ha:=h.rd.2.1;rw[y08,bitsT_length,y01] at this;omega
 unfold Cd.enc at o
 rw[y06,y0s] at o
 cases c with
 | unary =>
   refine py (e:=[(0,_),(1,_)]) func242 O ntmps242 O O<|qN O<|PX O O (Sy O (cs:=[.int .u8 0,Qi 0]) O) ?_;rintro _ w1⟨b3,rfl,U,j,l⟩;refine Qe O (It (qN O (Qf Tn O (qV (Q0 U5 O O l O) (PR (PT (qN O (Ss O (SD (Qe O (Qb O (Qz O (Qj zc4 O (Zb (h.ext j) v 65535 rest o Q ψ) ?_)))))))))))));rintro _ w2⟨rfl,B,I⟩;have ip:v<=65535:=Q;refine qV (Rz O U3 SK ω)<|Qe O<|PQ func242 O (⟨_,O,O,?_,j.kp.trans I⟩);have e:(Cd.enc .unary v).length=v+1:=by rw[V];rfl
   rw[e];exact B
 | gamma =>
   obtain⟨R,J,A⟩:=X5 Q;obtain⟨z,d⟩:∃z,Nat.log2 (v+1)=z:=⟨_,O⟩;rw[d] at R J A;rw[y1J] at J
   have q:(Qo s).drop a=List.replicate z false++true::(Qu z (v+1-2^z)++rest):=by
    rw[o];show List.replicate (Nat.log2 (v+1)) false++true::(Qu (Nat.log2 (v+1)) (v+1-2^Nat.log2 (v+1))++rest)=_;rw[d]
   have e:(Cd.enc .gamma v).length=z+1+z:=by rw[V];show Nat.log2 (v+1)+1+Nat.log2 (v+1)=_;rw[d]
   refine py (e:=[(0,_),(1,_)]) func242 O ntmps242 O O<|qN O<|PX O O (Sy O (cs:=[.int .u8 1,Qi 0]) O) ?_;rintro _ w1⟨b3,rfl,U,j,l⟩;refine Qe O<|It<|qN O<|Qf Tn O<|qV (Q0 U5 O O l O)<|PR<|PT<|qN O<|Ss O<|QW<|Qe O<|PW O<|qN O<|Ss O ?_;refine SD (Qe O (Qb O (Qz O (Qj zk2 O (z8D (h.ext j) z (v+1-2^z) rest q ω A) ?_))));rintro _ w2⟨rfl,B,I⟩;rw[show v+1-2^z+2^z-1=v by omega];refine Qe O<|PQ func242 O (⟨_,O,O,?_,j.kp.trans I⟩)
   rw[e,show a+(z+1+z)=a+z+1+z by omega];exact B
 | zeta k =>
   obtain⟨Z,I⟩:1<=k/\k<=16:=y;obtain⟨R,J,A⟩:=X5 Q;have f:=Zi (k:=k) (v:=v) Z;dsimp only at f;obtain⟨b,S⟩:∃b,Nat.log2 (v+1)=b:=⟨_,O⟩;rw[S] at f R J A;obtain⟨z,d⟩:∃z,b / k=z:=⟨_,O⟩;obtain⟨m,H⟩:∃m,z*k=m:=⟨_,O⟩;have K:m<=b:=by rw[<-H,<-d];exact y1F _ _
   have X:z<=47 / k:=by rw[<-d];exact y1N A
   have P:47 / k<=47:=y0P _ _;rw[d,H] at f
   have q:(Qo s).drop a=List.replicate z false++true::(RW (v+1-2^m) (2^m*2^k-2^m)++rest):=by
    rw[o];show List.replicate (Nat.log2 (v+1) / k) false++true::(RW (v+1-2^(Nat.log2 (v+1) / k*k)) (2^(Nat.log2 (v+1) / k*k)*2^k-2^(Nat.log2 (v+1) / k*k))++rest)=_;rw[S,d,H]
   obtain⟨F,M⟩:∃F,2^m=F:=⟨_,O⟩;obtain⟨G,N⟩:∃G,2^k=G:=⟨_,O⟩;rw[M,N] at f q;obtain⟨f1,f2,f3⟩:=f;obtain⟨E,L⟩:∃E,F*G=E:=⟨_,O⟩
   have D:E<=9223372036854775808:=by
    rw[<-L,<-M,<-N,<-y0I];have:=y0t (show 0<2 by decide) (show m+k<=63 by omega);have i:(2:Nat)^63=9223372036854775808:=ψ
    omega
   rw[L] at f2 f3 q
   have e:(Cd.enc (.zeta k) v).length=z+1+(RW (v+1-F) (E-F)).length:=by
    rw[Cd.enc,y01,y0b,y02];show Nat.log2 (v+1) / k+((RW (v+1-2^(Nat.log2 (v+1) / k*k)) (2^(Nat.log2 (v+1) / k*k)*2^k-2^(Nat.log2 (v+1) / k*k))).length+1)=_;rw[S,d,H,M,N,L];omega
   have C:(Qo s).drop (a+z+1)=RW (v+1-F) (E-F)++rest:=by
    rw[show a+z+1=a+(z+1) by omega,<-y0G,q];rw[<-y0G,y10 ξ];rfl
   have W:(z:Int)*(k:Int)=(m:Int):=by rw[<-H];simp
   have p:(47:Int) / (k:Int)=((47 / k:Nat):Int):=ξ
   refine py (e:=[(0,_),(1,_)]) func242 O ntmps242 O O<|qN O<|PX O O (Sy O (cs:=[.int .u8 3,Qi k]) O) ?_;rintro _ w1⟨b3,rfl,U,j,l⟩;refine Qe O<|It<|qN O<|Qf Tn O<|qV (Q0 U5 O O l O)<|PR<|PT<|qN O<|Ss O<|QW<|Qe O<|PW O<|qN O<|Ss O ?_;refine QW<|Qe O<|PW O<|qN O<|Ss O<|QW<|Qe O<|PW O<|qN O<|Ss O<|SD<|Qe O<|Qb O<|qN O ?_;refine Qf Ya O (qV (Q0 SK O O l O) (qV (QU O SK U3 ω) (Sb O (Qq O (qV (Yx O O ω) ?_)))));rw[p];refine Qj zc4 O (Zb (h.ext j) z (47 / k) _ q X ω) ?_;rintro _ w2⟨rfl,B,Y⟩;refine Q4 O (qV (WB O O (by rw[W];omega)) ?_);rw[W];refine qV (Sz m F O O ω M) ?_;rw[show 1*F%18446744073709551616=F by omega];refine Qe O<|QA.qb (e:=[(0,_),(3,_),(4,_),(6,_),(7,_)]) ?_;refine RK O (Q4 O (qV (Sz k G O O ω N) ?_));rw[L,y0e (show E<18446744073709551616 by omega)];refine Q4 O (qV (XM O O O (by show E<2^64;omega) ω) ?_);refine Qj zkh O (z71 B (v+1-F) (E-F) rest C f2 ω) ?_;rintro _ w3⟨rfl,t,g⟩;refine Q4 O<|qV (Wv O O) ?_;rw[show(v+1-F+F)%18446744073709551616=v+1 by omega];refine qV (XM (n:=1) O O O (by show v+1<2^64;omega) ω) ?_;rw[show v+1-1=v by omega];refine Qe O<|PQ func242 O (⟨_,O,O,?_,(j.kp.trans Y).trans g⟩);rw[e,show a+(z+1+(RW (v+1-F) (E-F)).length)=a+z+1+(RW (v+1-F) (E-F)).length by omega];exact t
end
def z8t {tmps:Array Value}{R:Ending->World->Prop}{g:FuncId}{cap:List Value}{S:Value->World->Prop}(l:CF P g)(e:z8C P g (args++cap) w S)
  (h:∀u w',S u w'->∃v,(results fn tmps).run P w'= .ok v w'/\R (.returned v) w'):LeavesInM Fence.wide 0 P fn tmps R (marks [.call g cap args]) .returning w:=by
 refine⟨ξ,.inr ⟨(λh=>by cases h),.func g,cap.toArray,g,(args++cap).toArray,rfl,?_,(λ_ _=>trivial),?_⟩⟩
 ·simp[Dfr.d,invoke,Uy l]
 ·refine CallsDIn.mono e ?_;rintro x u w1⟨rfl,n,rfl,j⟩;exact h n w1 j
def z0n {R:Value->World->Prop}{n:Nat}{k:List Item}{e:Env}{g:FuncId}{cap:List Value}{S:Value->World->Prop}(q:P.funcs[f]? =some fn)(x:CF P g)(l:z8C P g (args++cap) w S)
  (h:∀u w',S u w'->∃vs,ZN P w' e fn.results.toList vs/\Yz R (.returned (Rn vs)) w'):QA ⟨P,f,R,n,none,[.call g cap args],false⟩ (.code .ret::k) e w:=
 z6p O O q λa o=>z8t x l λu w' v=>by
  obtain⟨vs,d,j⟩:=h u w' v;exact⟨_,Xg o P w' fn vs d,j⟩
def ydf {e:Env}{pos:String}{x:Operand}{q:List Value}(h:look e x=some (.func (.func f) #[] q.toArray)):
  ∀ρ:Operand->Value,(∀x v,look e x=some v->ρ x=v)->(execOp ρ ⟨none,.defer ⟨.value x,#[],#[]⟩,ty,pos,aft,g⟩).run P w= .ok (.defer (Dfr.d (.call f q []))) w:=fun ρ j=>by
 simp[execOp,resolve,j _ _ h,Dfr.d,Deferred.ofValue]
section
variable {r:Nat}{s:PU}{a:Nat}
def z5G {b5:Nat}(hB:Q8 w b5 [I 0] 45):z8C prog 241 [ptr b5 0,ptr b2 0,ptr b6 0] w λu w'=>w'=w:=by
 refine z5C (e:=[(0,_),(1,_),(2,_)]) func241 O ntmps241 O O<|qN O<|qV (Q0 U45 O O hB O)<|RI O<|PR<|Qa O (λc0=>?_)<|λc0=>?_
 ·exact absurd O c0
 ·refine PS<|z2D O O O func241<|λa d=>⟨_,Up d _ _ _ _ O,?_⟩;exact⟨_,O,O⟩
theorem z0t (h:Va w r s a)(c:Cd)(v:Nat)(S:c.RN)(hv:v<=c.most)(rest:List Bool)(hb:(Qo s).drop a=c.enc v++rest):
  Qx prog 229 [ptr r 0,cdV c] w λu w'=>u= .tuple #[Qi v,I 0]/\Va w' r s (a+(c.enc v).length)/\Kp (λk=>k=r) w w':=by
 obtain⟨x,y,d⟩:∃x y,Tu c=[x,y]:=by cases c<;>exact⟨_,_,O⟩
 have io:=h.1.lt
 have fC:=c.z1F
 refine py (e:=[(0,_),(1,_)]) func229 O ntmps229 O O<|qN O<|PX O O (Sy O (cs:=[ptr r 0]) O) ?_
 rintro _ w1⟨b2,rfl,bR,L,Y⟩
 refine PX O O (Sy O (cs:=Tu c) O) ?_
 rintro _ w2⟨b3,rfl,ev,q,Z⟩
 refine Tq O<|PX O O (SE (cs:=[_]) z6K O) ?_
 rintro _ G⟨b5,rfl,gj,j,o⟩
 replace o:Q8 G b5 [I 0] 45:=o
 have B:Va G r s a:=⟨j.PO (q.PO (L.PO h.1)),h.2⟩
 have b:=j.PO (q.PO Y)
 have g:=j.PO Z
 refine PR<|RU<|qN O<|qV (Q0 VS O O b O)<|qV (Rm VS O O)<|Qe O<|PW O<|qN O<|qV (QB (news:=Tu c) Td O S3 O (g.cells (n:=2) (by rw[d];rfl)) (by rw[d];rfl)) ?_
 refine Qj z5x O (VP c S G) ?_
 rintro _ V⟨rfl,l⟩
 have h4:Va V r s a:=⟨l.PO B.1,B.2⟩
 have m:=l.PO b
 refine RI O<|Qe O<|Qa O (λc0=>?_)<|λc0=>?_
 ·exact absurd O c0
 ·refine PS<|PN<|qN O<|qV (Q0 VS O O m O)<|Qj Zy O (Vz h4) ?_;rintro _ V⟨rfl,rfl⟩;refine PX O O (SE (cs:=[_]) R8 O) ?_;rintro _ w5⟨b6,rfl,oY,X,K⟩;refine Qc O (S0 R8 O O O K ξ) ?_;rintro w6⟨nv,F⟩;have z1:=L.size;have z2:=q.size;have z3:=j.size;have z4:=l.size;have z5:=X.size;have l2:=Y.lt;have l3:=Z.lt;have l5:=o.lt;have M:Ext V w6:=X.An F (λi hi=>ω);have T:=M.PO m;refine qM O<|qV (ymf (first:=[]) (caps:=[.tmp 5,.tmp 2,.tmp 6]) O O)<|z8G O O (ydf O)<|qM O<|qV (Q0 VS O O T O)<|qV (To (cs:=[_,_]) zhI O zjT O O)<|PX O O (Sy O O) ?_;rintro _ H⟨b7,rfl,lu,f,N⟩;replace N:Q8 H b7 [ptr r 0,.bool false] 366:=N;have z6:=M.size;have z7:=f.size;have E:Ext G H:=(l.trans M).trans f;have h7:RgM H b7 r s a:=⟨N,⟨E.PO B.1,B.2⟩,ω⟩;have p:=E.PO g;have kf:=E.PO o;refine Qe O (QV O (qV (QB (news:=Tu c) Td O S3 O (p.cells (n:=2) (by rw[d];rfl)) (by rw[d];rfl)) ?_));refine Qj zi1 O (z65 h7 c v S hv rest hb) ?_;rintro _ z⟨rfl,R,J⟩;have nw:=J.PO p ω;have C:=J.PO kf ω;have P:=R.PO;refine RZ O (QC O (Qf z1N O (qV (Q0 U4 O O P O) (Qq O (qV (QB (news:=Tu c) Td O S3 O (nw.cells (n:=2) (by rw[d];rfl)) (by rw[d];rfl)) ?_)))));refine Qj zfO O (z47 c S z) ?_;rintro _ w9⟨rfl,Q⟩;refine RR O<|R0 O<|PR<|QA.qb (e:=[(4,_),(5,_),(33,_)]) ?_;refine Qa O (λc1=>?_)<|λc1=>?_
  ·omega
  ·have D:=Q.PO C;refine PS (Qz O (Tq O (Qc O (S0 z6K O O O D ξ) ?_)));rintro U⟨A,W⟩;replace A:Q8 U b5 [I 0] 45:=A;refine PR<|z0n func229 zkK (z5G (b2:=b2) (b6:=b6) A) ?_;rintro u w' rfl;have t:Va w9 r s (a+(c.enc v).length):=⟨Q.PO R.rd.1,R.rd.2⟩;refine⟨_,.tmp O (.cell1 U45 O O ((A).cell _) .nil),_,O,O,⟨W.PO t.1 ω,t.2⟩,?_⟩;have kg:Ext w H:=((L.trans q).trans j).trans E;have jd:Kp (λk=>k=r) w z:=kg.kp.An J (λi hi=>hi.elim (λe=> .inl ω) .inr);exact(jd.trans Q.kp).An W (λi hi=> .inl ω)
end
/-! ### Runs -/
def expand:Bool->List Nat->List Bool
 |_,[]=>[]
 |b,n::r=>List.replicate n b++expand (!b) r
theorem Za:∀(b:Bool)(r s:List Nat),expand b (r++s)=expand b r++expand (if r.length%2=0 then b else !b) s
 |b,[],s=>by simp[expand]
 | b, n :: r, s => by
   rw[y0s,expand,expand,Za (!b) r s,y06]
   congr 2
   rcases y1U r.length with e| e
   ·rw[if_pos e,if_neg (by rw[y02];omega)]
   ·rw[if_neg ω,if_pos (by rw[y02];omega)];simp
theorem TV:∀(b:Bool)(r:List Nat),(expand b r).length=r.sum
 |_,[]=>rfl
 |b,n::r=>by rw[expand,y01,y0b,TV (!b) r,y0M]
def Sd (rs:List Nat)(f:Bool):List Nat:=
 let d:=if f !=(rs.length%2==1) then rs++[0] else rs
 d.modify (d.length-1) (·+1)
theorem XZ (l:List Nat)(n:Nat):(l++[n]).modify ((l++[n]).length-1) (·+1)=l++[n+1]:=by
 have key:∀l:List Nat,(l++[n]).modify l.length (·+1)=l++[n+1]:=λl=>by
  induction l with
  |nil=>rfl
  |cons a l d=>simpa using d
 have:(l++[n]).length-1=l.length:=ξ
 rw[this,key]
structure UK (rs:List Nat)(fs:List Bool):Prop where
 ne:rs≠[]
 exp:expand true rs=fs
 pos:∀n∈rs.drop 1,1<=n
theorem UK.zero:UK [0] []:=⟨ξ,rfl,ξ⟩
theorem UK.step {rs:List Nat}{s:List Bool}(h:UK rs s)(f:Bool):UK (Sd rs f) (s++[f]):=by
 obtain⟨u,o,q⟩:=h
 obtain⟨l,n,rfl⟩:∃l n,rs=l++[n]:=⟨rs.dropLast,rs.getLast u,(y2p u).symm⟩
 unfold Sd
 dsimp only
 have j:(l++[n]).length=l.length+1:=ξ
 rw[j]
 split
 ·rename_i r
  rw[XZ];refine⟨ξ,?_,λk d=>?_⟩
  ·rw[Za,o,j]
   congr 1
   rcases y1U l.length with e|e<;>cases f<;>simp[expand,e,Nat.add_mod] at r⊢
  ·rw[y1i (by rw[j];omega)] at d;rcases y0x.1 d with d|d
   ·exact q k d
   ·simp at d;omega
 ·rename_i r
  rw[XZ];refine⟨ξ,?_,λk d=>?_⟩
  ·rw[Za] at o⊢;rw[<-o,y06]
   congr 1
   simp only[expand,y0o,List.replicate_succ']
   congr 1
   rcases y1U l.length with e|e<;>cases f<;>simp[e,Nat.add_mod] at r⊢
  ·cases l with
   |nil=>simp at d
   | cons a l =>
     rw[y0s,y26,y0U] at d q;rcases y0x.1 d with d|d
     ·exact q k (y1X _ d)
     ·simp at d;omega
def copyL:Bool->List Nat->List Nat->List Nat
 |b,[],ref=>if b then ref else []
 |b,n::r,ref=>(if b then ref.take n else [])++copyL (!b) r (ref.drop n)
def sel:List Nat->List Bool->List Nat
 |x::l,f::fs=>if f then x::sel l fs else sel l fs
 |_,_=>[]
theorem z8P:∀{a b:List Nat} {d gs:List Bool},a.length=d.length->sel (a++b) (d++gs)=sel a d++sel b gs
 |[],b,[],gs,_=>rfl
 | x :: a, b, f :: d, gs, h => by
   have e:a.length=d.length:=by simpa using h
   rw[y0s,y0s,sel,sel,z8P e];cases f<;>simp
theorem z4q:∀(l:List Nat)(b:Bool),sel l (List.replicate l.length b)=if b then l else []
 |[],b=>by cases b<;>rfl
 | x :: l, b => by
   rw[y02,y19,sel,z4q l b];cases b<;>rfl
theorem z6M:∀(b:Bool)(rs:List Nat) (m:Nat) (ref:List Nat),ref.length=(rs++[m]).sum->copyL b rs ref=sel ref (expand b (rs++[m]))
 | b, [], m, ref, h => by
   have e:m=ref.length:=by simpa using h.symm
   subst e;simp only[copyL,y14,expand,y0o]
   rw[z4q]
 | b, n :: rs, m, ref, h => by
   rw[y0s,y0M] at h;have d:(ref.take n).length=n:=by rw[y0d];omega
   rw[copyL,y0s,expand,z6M (!b) rs m (ref.drop n) (by rw[y08];omega)]
   conv=>rhs;rw[<-y1e n ref,z8P (by rw[d,y0b])]
   congr 1
   have:=z4q (ref.take n) b;rw[d] at this;exact this.symm
/-! ### Rows of numbers that follow one another -/
def R3:Nat->List Nat->Nat
 |_,[]=>0
 |x,y::l=>if y=x+1 then R3 y l+1 else 0
def Yw:∀(x:Nat)(l:List Nat),R3 x l<=l.length
 |_,[]=>y04 _
 | x, y :: l => by
   unfold R3;split
   ·have:=Yw y l;simp;omega
   ·exact y03 _
theorem Xd:∀(x:Nat)(l:List Nat) (i:Nat),i<R3 x l->l[i]? =some (x+1+i)
 |_,[],i,h=>by simp[R3] at h
 | x, y :: l, i, h => by
   unfold R3 at h;split at h
   ·rename_i e
    subst e
    cases i with
    |zero=>rfl
    |succ i=>rw[y1L,Xd (x+1) l i ω];congr 1;omega
   ·omega
def XJ:∀(x:Nat)(l:List Nat) (y:Nat),l[R3 x l]? =some y->y≠x+1+R3 x l
 |_,[],y,h=>by simp at h
 | x, z :: l, y, h => by
   unfold R3 at h⊢;split
   ·rename_i e
    rw[if_pos e,y1L] at h;have:=XJ z l y h;omega
   ·rename_i e
    rw[if_neg e,y1v] at h;cases h;omega
def R7 (least:Nat):List Nat->List (Nat×Nat)×List Nat
 |[]=>([],[])
 | x :: l =>
   let n:=R3 x l+1
   let q:=R7 least (l.drop (R3 x l))
   if 0<least/\least<=n then((x,n)::q.1,q.2) else(q.1,x::l.take (R3 x l)++q.2)
termination_by l=>l.length
decreasing_by simp[y08];omega
def S7 (l:List (Nat×Nat)):List Nat:=l.flatMap λp=>(List.range p.2).map (p.1+·)
abbrev Ris (l:List Nat):Prop:=l.Pairwise (·<·)
theorem zcZ (x:Nat)(l:List Nat):x::l.take (R3 x l)=(List.range (R3 x l+1)).map (x+·):=by
 apply y1t
 intro i
 have d:=Yw x l
 cases i with
 |zero=>simp
 | succ i =>
   rw[y1L,y1H,y0m];split
   ·rename_i h
    rw[Xd x l i h,y1E ω];simp;omega
   ·rw[y0v (by simp;omega)];rfl
def UP (least:Nat):∀(l:List Nat),(S7 (R7 least l).1++(R7 least l).2).Perm l
 |[]=>by simp[R7,S7]
 | x :: l => by
   have e:=UP least (l.drop (R3 x l));have h:=zcZ x l;have d:x::l=(x::l.take (R3 x l))++l.drop (R3 x l):=by rw[y0s,y1e]
   rw[R7];split
   ·rw[show S7 ((x,R3 x l+1)::(R7 least (l.drop (R3 x l))).1)=(List.range (R3 x l+1)).map (x+·)++S7 (R7 least (l.drop (R3 x l))).1 by simp[S7]];rw[<-h,y06]
    conv=>rhs;rw[d]
    exact e.append_left _
   ·conv=>rhs;rw[d]
    refine y3q ?_<|e.append_left _;rw[<-y06,<-y06];exact(List.perm_append_comm).append_right _
 termination_by l=>l.length
 decreasing_by simp[y08];omega
def zig (z:Int):Nat:=if 0<=z then(2*z).toNat else(-2*z-1).toNat
def zag (n:Nat):Int:=if n%2=0 then((n / 2:Nat):Int) else -((n / 2:Nat):Int)-1
theorem z90 (z:Int):zag (zig z)=z:=by
 unfold zig zag
 split
 ·rw[if_pos ω];omega
 ·rw[if_neg ω];omega
def z0K {z:Int}{n:Nat}(d: -(n:Int)<=z)(e:z<(n:Int)):zig z<2*n:=by
 unfold zig
 split<;>omega
structure Te where
 Qt:Nat
 interval:Nat
 zeta:Nat
def Sr (succ ref:List Nat):List Nat:=ref.foldl (λrs y=>Sd rs (decide (y∈succ))) [0]
def Uk (succ ref:List Nat):UK (Sr succ ref) (ref.map λy=>decide (y∈succ)):=by
 unfold Sr
 have key:∀(l:List Nat)(rs:List Nat) (d:List Bool),UK rs d->UK (l.foldl (λrs y=>Sd rs (decide (y∈succ))) rs) (d++l.map λy=>decide (y∈succ)):=by
  intro l
  induction l with
  |nil=>intro rs d h;simpa using h
  | cons y l e =>
    intro rs d h;have:=e _ _ (h.step (decide (y∈succ)))
    simpa using this
 simpa using key ref [0] [] UK.zero
def Qv (succ ref:List Nat):List Nat:=succ.filter λv=>decide (v∉ref)
theorem z9h (P:Nat->Bool):∀l:List Nat,sel l (l.map P)=l.filter P
 |[]=>rfl
 | x :: l => by
   rw[y0j,sel,z9h P l];cases h:P x<;>simp[h]
def zao (succ ref:List Nat):copyL true (Sr succ ref).dropLast ref=ref.filter λy=>decide (y∈succ):=by
 have h:=Uk succ ref
 obtain⟨l,n,e⟩:∃l n,Sr succ ref=l++[n]:=⟨_,_,(y2p h.ne).symm⟩
 rw[e,y2u]
 have d:=h.exp
 rw[e] at d
 have j:ref.length=(l++[n]).sum:=by
  have:=congrArg List.length d;rw[TV,y0n] at this;exact this.symm
 rw[z6M true l n ref j,d,z9h]
def RA:Nat->List Nat->List (Cd×Nat)
 |_,[]=>[]
 |i,n::r=>(.gamma,n-min i 1)::RA (i+1) r
def QY (x least:Nat):Option Nat->List (Nat×Nat)->List (Cd×Nat)
 |_,[]=>[]
 |none,p::r=>(.gamma,zig ((p.1:Int)-x))::(.gamma,p.2-least)::QY x least (some (p.1+p.2-1)) r
 |some e,p::r=>(.gamma,p.1-e-2)::(.gamma,p.2-least)::QY x least (some (p.1+p.2-1)) r
def QZ (x k:Nat):Option Nat->List Nat->List (Cd×Nat)
 |_,[]=>[]
 |none,v::r=>(.zeta k,zig ((v:Int)-x))::QZ x k (some v) r
 |some u,v::r=>(.zeta k,v-u-1)::QZ x k (some v) r
def SM (p:Te)(x:Nat)(succ ref:List Nat)(r:Nat):List (Cd×Nat):=
 (.gamma,succ.length)::if succ=[] then [] else
  (if 0<p.Qt then [(.unary,r)] else [])++
  ((if 0<r then(.gamma,(Sr succ ref).length-1)::RA 0 (Sr succ ref).dropLast else [])++
  (if Qv succ ref=[] then [] else
   (if 0<p.interval then(.gamma,(R7 p.interval (Qv succ ref)).1.length)::QY x p.interval none (R7 p.interval (Qv succ ref)).1 else [])++
   QZ x p.zeta none (R7 p.interval (Qv succ ref)).2))
def Qr (l:List (Cd×Nat)):List Bool:=l.flatMap λp=>p.1.enc p.2
def z89 {succ ref:List Nat}(j:Ris succ)(e:Ris ref)(p:Nat):(ref.filter (λy=>decide (y∈succ))++(S7 (R7 p (Qv succ ref)).1++(R7 p (Qv succ ref)).2)).Perm succ:=by
 have d:(ref.filter λy=>decide (y∈succ)).Perm (succ.filter λv=>decide (v∈ref)):=by
  refine(List.perm_ext_iff_of_nodup (e.imp (λh=>ω) |>.filter _) (j.imp (λh=>ω) |>.filter _)).2 λa=>?_;simp only[y1o,decide_eq_true_eq];exact And.comm
 refine(d.append (UP p _)).trans ?_
 unfold Qv
 have:=List.filter_append_perm (λv=>decide (v∈ref)) succ
 refine y3q ?_ this
 refine y31 _ ?_
 simp
theorem z77 {a b:List Nat}(h:a.Perm b)(d:a.Pairwise (·<=·))(e:Ris b):a=b:=
 h.eq_of_pairwise (le:=(·<=·)) (λx y _ _ j l=>ω) d (e.imp (λh=>ω))
def Uc (least:Nat):Nat->List (Nat×Nat)->Prop
 |_,[]=>True
 |lo,p::r=>lo<=p.1/\1<=p.2/\least<=p.2/\Uc least (p.1+p.2+1) r
def Uc.mono {least:Nat}:∀{r:List (Nat×Nat)} {a b:Nat},Uc least b r->a<=b->Uc least a r
 |[],_,_,_,_=>trivial
 |p::r,a,b,h,hab=>⟨y0c hab h.1,h.2⟩
theorem z7B {x:Nat}{l:List Nat}(h:Ris (x::l)):∀y∈l.drop (R3 x l),x+R3 x l+2<=y:=by
 intro y E
 obtain⟨j,A,e⟩:=List.mem_iff_getElem.1 E
 rw[List.getElem_drop] at e
 rw[y08] at A
 obtain⟨v,r⟩:=y1l.1 h
 have B:=Yw x l
 have n:R3 x l<l.length:=ω
 obtain⟨z,o⟩:∃z,l[R3 x l]? =some z:=⟨_,y07 n⟩
 have I:=XJ x l z o
 have d:=(y0l.1 o).2
 have G:x+R3 x l<z:=by
  by_cases q:R3 x l=0
  ·have:=v z (y0i o);omega
  ·have hg:=Xd x l (R3 x l-1) ω;obtain⟨s,u⟩:=y0l.1 hg;have:=y1C.1 r (R3 x l-1) (R3 x l) s n ω;rw[u,d] at this;omega
 have H:z<=y:=by
  by_cases q:j=0
  ·subst q;simp at e;rw[<-e,<-d];exact y04 _
  ·have:=y1C.1 r (R3 x l) (R3 x l+j) n ω ω;rw[e,d] at this;omega
 omega
def Wo (least:Nat):∀(l:List Nat)(lo:Nat),Ris l->(∀y∈l,lo<=y)->Uc least lo (R7 least l).1
 |[],lo,_,_=>by rw[R7];trivial
 | x :: l, lo, h, hl => by
   have j:=z7B h;have e:Ris (l.drop (R3 x l)):=(y1l.1 h).2.sublist (y1q _ _);rw[R7];split
   ·rename_i n
    refine⟨hl x ξ,ω,n.2,Wo least _ _ e λy d=>?_⟩;have:=j y d;omega
   ·refine Wo least _ _ e λy d=>?_;have:=j y d;have:=hl x ξ;omega
 termination_by l=>l.length
 decreasing_by all_goals (simp[y08];omega)
def VN (least:Nat):∀(l:List Nat),(R7 least l).2.Sublist l
 |[]=>by rw[R7];exact y3d _
 | x :: l => by
   have d:=VN least (l.drop (R3 x l));rw[R7];split
   ·exact(d.trans (y1q _ _)).cons x
   ·have e:x::l=(x::l.take (R3 x l))++l.drop (R3 x l):=by rw[y0s,y1e]
    conv=>rhs;rw[e]
    exact d.append_left _
 termination_by l=>l.length
 decreasing_by simp[y08];omega
abbrev QL (n:Nat):Value:= .int .u32 (n:Int)
theorem z60 (m:Nat)(h:m<18446744073709551616):m^^^18446744073709551615=18446744073709551615-m:=by
 have j:=congrArg BitVec.toNat (BitVec.xor_allOnes (x:=BitVec.ofNat 64 m))
 rw[y2k,BitVec.toNat_not,BitVec.toNat_allOnes,BitVec.toNat_ofNat] at j
 rw[show(2:Nat)^64=18446744073709551616 from rfl,y0e h] at j
 exact j
section
variable {e:Env}{d:Option Nat}{pos:String}{x:Operand}
def zjW (n:look e x=some (I (m:Int)))(o:look e y=some (I 0))(q:m<2^63):Y P e ⟨d,.binOp .xor t x y t',ty,pos,aft,g⟩ (I (m:Int)) w w:=fun ρ h=>by
 have j:m<2^IntKind.i64.bits:=by simp only[IntKind.bits];omega
 have l:(BitVec.ofInt IntKind.i64.bits 0).toNat=0:=ψ
 simp only[execOp,eqGuard_xor,binOp_xor,intBits_xor,h _ _ n,h _ _ o,pure_bind,y05,bits,y2k,Si j,l,Nat.xor_zero]
 rw[wrap_i64 ⟨ω,ω⟩]
def zkc (o:look e x=some (I (m:Int)))(q:look e y=some (I (-1)))(r:m<2^63):Y P e ⟨d,.binOp .xor t x y t',ty,pos,aft,g⟩ (I (-(m:Int)-1)) w w:=fun ρ h=>by
 have j:m<2^IntKind.i64.bits:=by simp only[IntKind.bits];omega
 have l:(BitVec.ofInt IntKind.i64.bits (-1)).toNat=18446744073709551615:=ψ
 simp only[execOp,eqGuard_xor,binOp_xor,intBits_xor,h _ _ o,h _ _ q,pure_bind,y05,bits,y2k,Si j,l]
 rw[z60 m ω]
 congr 2
 have n:((18446744073709551615-m:Nat):Int)=-(m:Int)-1+18446744073709551616:=ω
 rw[n]
 simp only[IntKind.wrap,IntKind.bits,IntKind.signed]
 simp
 omega
end
/-! ### Numbers with a sign -/
theorem z8X (z:Int)(h: -4611686018427387904<=z/\z<4611686018427387904)(w:World):Qx prog 224 [I z] w λu w'=>u=Qi (zig z)/\w'=w:=by
 rcases Int.lt_or_le z 0 with j|j
 ·obtain⟨n,rfl⟩:∃n:Nat,z=-(n:Int)-1:=⟨(-z-1).toNat,ω⟩;refine py (e:=[(0,_)]) func224 O ntmps224 O O (qN O (RZ O (qV (ycv (b:=((18446744073709551615-n:Nat):Int)) O U2 SK (by simp only[IntKind.wrap,IntKind.bits,IntKind.signed];simp;omega)) ?_)));refine qV (Sz 1 2 O O ψ O) (Q4 O (qV (ysr 63 O O ψ) ?_));rw[show(-(n:Int)-1) / 2^63=-1 by omega];refine qV (ycv (b:=((18446744073709551615:Nat):Int)) O U2 SK ψ) (qV (z2K O O ω ω) (Qe O (PQ func224 O (⟨_,O,?_,O⟩))));rw[z60 _ ω];simp only[Rn]
  congr 2
  unfold zig;rw[if_neg ω];omega
 ·obtain⟨n,rfl⟩:∃n:Nat,z=(n:Int):=⟨z.toNat,ω⟩;refine py (e:=[(0,_)]) func224 O ntmps224 O O (qN O (RZ O (qV (Rz O U2 SK ω) (qV (Sz 1 2 O O ψ O) (Q4 O (qV (Vl 63 9223372036854775808 O O ψ O) (qV (Rz O U2 SK ω) (qV (z2K O O ω ω) (Qe O (PQ func224 O (⟨_,O,?_,O⟩)))))))))));rw[show n / 9223372036854775808=0 by omega,Nat.xor_zero];simp only[Rn]
  congr 2
  unfold zig;rw[if_pos ω];omega
def z9g (n:Nat)(h:n<9223372036854775808)(w:World):Qx prog 244 [Qi n] w λu w'=>u=I (zag n)/\w'=w:=by
 refine py (e:=[(0,_)]) func244 O ntmps244 O O<|qN O<|RZ O<|qV (Vl 1 2 O O ψ O)<|qV (QU O SK U2 ω)<|Q4 O<|qV (VY O O ω ω) ?_
 rw[y2t]
 refine qV (QU O SK U2 ω) ?_
 rcases y1U n with j|j
 ·rw[j];refine qV (yng O ψ ψ) (qV (zjW O O ω) (Qe O (PQ func244 O (⟨_,O,?_,O⟩))));simp only[Rn];unfold zag;rw[if_pos j]
 ·rw[j];refine qV (yng O ψ ψ) (qV (zkc O O ω) (Qe O (PQ func244 O (⟨_,O,?_,O⟩))));simp only[Rn];unfold zag;rw[if_neg ω]
/-! ### The parameters -/
def lpC (p:Te):List Value:=[I (p.Qt:Int),I (p.interval:Int),I (p.zeta:Int)]
abbrev lpV (p:Te):Value:= .agg (lpC p).toArray
def Te.RN (p:Te):Prop:=p.Qt<=16/\(p.interval=0\/2<=p.interval/\p.interval<=64)/\1<=p.zeta/\p.zeta<=16
theorem Vh (p:Te)(n:p.RN)(w:World):Qx prog 197 [lpV p] w λu w'=>u=I 0/\Ext w w':=by
 obtain⟨q,r,s,v⟩:=n
 refine py (e:=[(0,_)]) func197 O ntmps197 O O<|qN O<|PX O O (Sy O (cs:=lpC p) O) ?_
 rintro _ w1⟨b1,rfl,o,j,h⟩
 replace h:Q8 w1 b1 [I (p.Qt:Int),I (p.interval:Int),I (p.zeta:Int)] 276:=h
 refine Qe O<|RU<|It<|qN O<|Qf UG O<|qV (Q0 U3 O O h O)<|RT O<|QW<|Q4 O<|Qf UG O<|qV (Q0 U3 O O h O)<|RR O<|QW<|R0 O ?_
 refine Qe O<|PW O<|qN O<|Qf z1D O<|qV (Q0 U3 O O h O)<|RT O<|QW<|Q4 O<|Qf z1D O<|qV (Q0 U3 O O h O)<|RR O<|QW<|R0 O<|Qe O ?_
 refine PW O<|PY O<|Qf Vv O<|qV (Q0 U3 O O h O)<|RI O<|TA (λl=>?_)<|λl=>?_
 ·refine Q4 O<|Qf Vv O<|qV (Q0 U3 O O h O)<|RT O<|QW<|Q4 O<|Qf Vv O<|qV (Q0 U3 O O h O)<|RR O<|QW<|R0 O<|Sh O<|Qe O<|QA.qb (e:=[(2,_),(3,_)]) ?_;refine Us O<|PN<|RY O<|PQ func197 O ?_;exact⟨_,O,O,j⟩
 ·refine Q4 O<|Sc<|Sc<|Sc<|Sc<|R0 O<|Qe O<|QA.qb (e:=[(2,_),(3,_)]) ?_;refine Us O<|PN<|RY O<|PQ func197 O ?_;exact⟨_,O,O,j⟩
def Xc (n:Nat)(h:n<65536)(w:World):Qx prog 211 [I (n:Int)] w λu w'=>u= .bool true/\w'=w:=by
 refine py (e:=[(0,_)]) func211 O ntmps211 O O<|qN O<|RZ O<|UL O<|SD<|Qq O<|RT O<|SD<|Sh O<|Qe O<|PQ func211 O ?_
 exact⟨_,O,O,O⟩
structure QR (l:List Nat):Prop where
 ris:Ris l
 lt:∀y∈l,y<65536
def z4s:∀(l:List Nat)(lo hi:Nat),Ris l->(∀y∈l,lo<=y/\y<hi)->lo<=hi->lo+l.length<=hi
 |[],lo,hi,_,_,h=>h
 | x :: l, lo, hi, hr, hm, h => by
   have j:=(y1l.1 hr);have o:=hm x y0r;have:=z4s l (x+1) hi j.2 (λy n=>⟨j.1 y n,(hm y (y0u _ n)).2⟩) ω;rw[y02];omega
theorem QR.len {l:List Nat}(h:QR l):l.length<=65536:=by
 have:=z4s l 0 65536 h.ris (λy j=>⟨y03 _,h.lt y j⟩) ψ
 omega
theorem QR.sub {l m:List Nat}(h:QR l)(j:m.Sublist l):QR m:=⟨h.ris.sublist j,λy n=>h.lt y (j.subset n)⟩
theorem XI (v:Value)(l:List Nat)(n:QR l)(w:World)(r:Rd w v 1 l.length (l.map QL)):
  Qx prog 212 [v] w λu w'=>u= .bool true/\w'=w:=by
 have G:=n.len
 obtain⟨a,cap,rfl,H⟩:=r.shape
 refine py (e:=[(0,_)]) func212 O ntmps212 O O<|RY O<|QV O<|SS QG O<|Q4 O<|PR<|PT<|SN (α:=Nat) (0) (λi=>[(0,.slice a l.length cap),(5,.slice a l.length cap),(6,I (l.length:Int)),(7,I (i:Int))]) (λi w'=>w'=w/\i<=l.length) (λi=>l.length-i) ?hI ?hround
 case hI=>exact⟨O,ω⟩
 case hround=>
  rintro i _⟨rfl,hi⟩ s
  try dsimp only
  refine qN O<|RT O<|PR<|It<|Qa O (λA=>?_)<|λA=>?_
  ·have j:i<l.length:=ω
   have L:=n.lt l[i] (y1s j);rcases r.2 with⟨c,-,h⟩|⟨b,off,q,E,o⟩
   ·omega
   cases E;refine PS (RU (Qz O (qV (Rk QG Qn O O ω) (qV (QH RO O O (o (i*1) (QL l[i]) (by simp[j]))) ?_))));refine Tq O<|RZ O<|UL O<|QW<|Qq O<|RR O<|TA (λB=>?_)<|λB=>?_
   ·have J:l[i-1]<l[i]:=(y1C.1 n.ris) (i-1) i ω j ω;refine Qq O<|Qq O<|SA O ?_;rw[show(i:Int)-1=((i-1:Nat):Int) by omega];refine qV (Rk QG Qn O O ω) (qV (QH RO O O (o ((i-1)*1) (QL l[i-1]) (by simp[show i-1<l.length by omega]))) ?_);refine zle O<|QW<|Sh O<|R0 O<|Ri O<|PN<|PY O<|Ra O<|Q4 O<|PR ?_;exact(s (i+1) _ ⟨O,ω⟩ ω).qb
   ·refine Q4 O<|Sc<|Sc<|Sc<|qS<|R0 O<|R0 O<|Ri O<|PN<|PY O<|Ra O<|Q4 O<|PR ?_;exact(s (i+1) _ ⟨O,ω⟩ ω).qb
  ·refine Q7 O<|RY O<|PQ func212 O ?_;exact⟨_,O,O,O⟩
theorem zcl (p:Te)(B:p.RN)(x:Nat)(L:x<65536)(v u:Value)(l m:List Nat)(r:Nat)(H:QR l)(J:QR m)(Y:r<=p.Qt)(N:r=0->m=[])(w:World)
  (M:Rd w v 1 l.length (l.map QL)) (s:Rd w u 1 m.length (m.map QL)):
  Qx prog 198 [lpV p,I (x:Int),v,u,I (r:Int)] w λo w'=>o= .bool true/\Ext w w':=by
 obtain⟨U,V,W,X⟩:=id B
 refine py (e:=[(0,_),(1,_),(2,_),(3,_),(4,_)]) func198 O ntmps198 O O<|qN O<|PX O O (Sy O (cs:=lpC p) O) ?_
 rintro _ w1⟨b1,rfl,S,j,A⟩
 refine Sb O<|qV (QB (news:=lpC p) XT O Vr O (A.cells (n:=3) O) O)<|Qj z6P O (Vh p B w1) ?_
 rintro _ w2⟨rfl,h⟩
 have q:=h.PO A
 replace q:Q8 w2 b1 [I (p.Qt:Int),I (p.interval:Int),I (p.zeta:Int)] 276:=q
 refine Ss O<|SD<|Qq O<|Qj z9i O (Xc x L w2) ?_
 rintro _ Q⟨rfl,rfl⟩
 refine Sh O<|Qq O<|Qj z5c O (XI v l H Q (M.ext (j.trans h))) ?_
 rintro _ R⟨rfl,rfl⟩
 refine Sh O<|Qq O<|Qj z5c O (XI u m J R (s.ext (j.trans h))) ?_
 rintro _ b⟨rfl,rfl⟩
 refine Sh O<|Q4 O ?_
 obtain⟨Z,a,rfl,-⟩:=s.shape
 refine Q4 O<|UL O<|SD<|Sh O<|Qq O<|Qf UG O<|qV (Q0 U3 O O q O)<|zle O<|SD<|Sh O<|Qq O<|RR O<|TA (λE=>?_)<|λE=>?_
 ·refine Q4 O<|Sc<|qS<|Sh O<|Sh O<|Qe O<|QA.qb (e:=[(10,_)]) ?_;refine PQ func198 O ?_;exact⟨_,O,O,j.trans h⟩
 ·have G:=N ω;subst G;refine Qq O<|SS QG O<|Ss O<|SD<|R0 O<|Sh O<|Qe O<|QA.qb (e:=[(10,_)]) ?_;refine PQ func198 O ?_;exact⟨_,O,O,j.trans h⟩
end Go.Proofs.YtbihggbffaigjaaGreatDoor
