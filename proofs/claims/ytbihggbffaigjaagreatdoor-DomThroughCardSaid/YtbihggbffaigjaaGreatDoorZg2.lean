/- Merged by program. -/
import Derived.Test.YtbihggbffaigjaaGreatDoorRows
import Derived.Test.YtbihggbffaigjaaGreatDoorZg1
import Derived.Lib.AppendZerosOnto
import Derived.Lib.Overlaps
import Derived.Maps.RangeRun
set_option linter.all false
set_option maxRecDepth 1000000
set_option maxHeartbeats 16000000
namespace Go.Proofs.YtbihggbffaigjaaGreatDoor
open Go Go.RowKit Go.Proofs.Tryz
set_option linter.unusedSimpArgs false
variable {C:Cx}{D:RC}{F:Nat->Prop}{K b2 b6 bytes cap d' gb i id m off:Nat}{P:Program}{T el kt t t' ty ty':TypeId}{a b za:Int}{aft aft':Array Edge}{agg:Bool}{args cs cur vs:List Value}{bs:List Bool}{c y:Operand}{f:FuncId}{fn:Func}{g g':Option (Nat×Bool)}{k:IntKind}{op:Op}{ops ops0:List Oper}{p:Prop}{pos':String}{ts:Array TypeId}{v' z:Value}{w w':World}
def U3:=underlying3
def U4:=underlying4
def U5:=underlying5
def U9:=underlying9
def U26:=underlying26
def XZ:=underlying27
def U28:=underlying28
def U30:=underlying30
def Rp:=underlying37
def RW:=underlying39
def PS:=underlying40
def R9:=underlying42
def U55:=underlying55
def U66:=underlying66
def U76:=underlying76
def U81:=underlying81
def U85:=underlying85
def Ys:=underlying93
def U99:=underlying99
def z3E:=underlying101
def z5O:=underlying103
def QX:=underlying113
def zb3:=underlying116
def Xd:=underlying117
def z6t:=underlying119
def VU:=underlying124
def z7x:=underlying125
def zbz:=underlying127
def zeH:=underlying129
def z0S:=underlying130
def z4M:=underlying132
def W4:=underlying133
def zdL:=underlying135
def z0g:=underlying153
def z2E:=underlying155
def z2C:=underlying156
def ze4:=underlying158
def z2n:=underlying162
def zbA:=underlying164
def zkU:=underlying175
def WO:=underlying186
def zam:=underlying188
def z4q:=underlying190
def z48:=underlying195
def z4s:=underlying197
def zdX:=underlying202
def zdH:=underlying218
def zh2:=underlying220
def z2M:=underlying229
def zdO:=underlying231
def Zt:=underlying236
def zcH:=underlying249
def Sy:=underlying261
def WT:=underlying268
def zgs:=underlying269
def zgq:=underlying271
def z9Y:=underlying273
def Xf:=underlying276
def zgb:=underlying283
def UU:=underlying289
def zgG:=underlying293
def z2r:=underlying303
def St:=underlying314
def zcx:=underlying316
def zgC:=underlying321
def zgO:=underlying332
def zbN:=underlying336
def zeg:=underlying348
def z5o:=underlying351
def zgT:=underlying366
def PR {t n:Nat}{h:Array Field}{f:Field}{d:TypeDesc}(a:P.underlying t=some (.struct h))(e:h[i]? =some f)(g:f.offset=off)(b:TI P f.type z n bytes)(c:P.underlying f.type=some d)(k:aggOf d=agg):QT P t i off n agg:=⟨h,f,z,bytes,d,a,e,g,b,c,k⟩
def Q7 (h:P.funcs[f]? =some fn)(d:(fn.name=="runtime.NumGoroutine")=false:=by kernel_rfl)(e:fn.body.isNone=false:=by rfl):CF P f:=⟨fn,h,d,e⟩
theorem Qe:TI prog 3 (.int .i64 0) 1 8:=PV Pd
theorem TZ:TI prog 4 (.bool false) 1 1:=PV Pd
theorem YS:TI prog 5 (.int .u8 0) 1 1:=PV Pd
theorem ti9:TI prog 9 (.string ⟨#[]⟩) 1 16:=PV Pd
theorem zgM:TI prog 26 (.pointer none) 1 8:=PV Pd
theorem zaY:TI prog 27 (.pointer none) 1 8:=PV Pd
theorem zaQ:TI prog 28 (.pointer none) 1 8:=PV Pd
def z2D:TI prog 30 (.agg #[.pointer none,.pointer none,.pointer none,.pointer none,.int .i64 0]) 5 40:=PV Pd
def z6A:TI prog 37 (.slice none 0 0) 1 24:=PV Pd
theorem TH:TI prog 39 (.int .u64 0) 1 8:=PV Pd
theorem SJ:TI prog 40 (.slice none 0 0) 1 24:=PV Pd
theorem Py:TI prog 42 (.int .u32 0) 1 4:=PV Pd
def zif:TI prog 44 (.pointer none) 1 8:=PV Pd
def z5N:TI prog 45 (.int .i64 0) 1 8:=PV Pd
theorem zg8:TI prog 55 (.nilFunc) 1 8:=PV Pd
theorem zht:TI prog 66 (.pointer none) 1 8:=PV Pd
theorem z2F:TI prog 76 (.agg #[.int .i64 0,.int .i64 0,.int .i64 0,.int .i64 0,.int .i64 0,.int .i64 0,.int .i64 0]) 7 56:=PV Pd
def z6b:TI prog 81 (.agg #[.int .u32 0,.int .u32 0]) 2 8:=PV Pd
theorem zcW:TI prog 85 (.agg #[.int .i64 0,.int .i64 0]) 2 16:=PV Pd
theorem S8:TI prog 93 (.agg #[.int .i64 0,.int .i64 0,.int .i64 0,.int .i64 0,.int .i64 0]) 5 40:=PV Pd
def z7t:TI prog 96 (.slice none 0 0) 1 24:=PV Pd
theorem zi4:TI prog 99 (.agg #[.int .i64 0,.int .i64 0,.int .i64 0,.bool false,.bool false]) 5 32:=PV Pd
def z0t:TI prog 100 (.pointer none) 1 8:=PV Pd
theorem zdk:TI prog 101 (.agg #[.pointer none,.pointer none,.pointer none,.pointer none,.pointer none]) 5 40:=PV Pd
def zix:TI prog 103 (.agg #[.int .i64 0,.int .i64 0,.int .i64 0,.bool false,.bool false,.pointer none,.pointer none,.int .i64 0,.pointer none,.pointer none,.pointer none,.pointer none,.pointer none,.bool false,.bool false]) 15 104:=PV Pd
theorem Y7:TI prog 113 (.slice none 0 0) 1 24:=PV Pd
theorem zeP:TI prog 116 (.pointer none) 1 8:=PV Pd
theorem zfg:TI prog 117 (.map none) 1 8:=PV Pd
def ziN:TI prog 119 (.agg #[.pointer none,.pointer none,.pointer none,.map none,.int .i64 0,.int .i64 0,.int .i64 0,.int .i64 0,.int .i64 0,.int .i64 0,.int .i64 0,.bool false]) 12 96:=PV Pd
theorem Rw:TI prog 124 (.agg #[.int .i64 0,.int .i64 0]) 2 16:=PV Pd
theorem zfG:TI prog 125 (.map none) 1 8:=PV Pd
theorem zdg:TI prog 127 (.agg #[.slice none 0 0,.int .i64 0,.int .u8 0]) 3 40:=PV Pd
theorem z9l:TI prog 129 (.agg #[.int .i64 0,.slice none 0 0,.int .i64 0,.int .u8 0]) 4 48:=PV Pd
theorem z8W:TI prog 130 (.slice none 0 0) 1 24:=PV Pd
def zhS:TI prog 132 (.agg #[.int .i64 0,.slice none 0 0,.int .i64 0,.int .u8 0,.int .i64 0,.int .i64 0,.map none,.slice none 0 0,.bool false,.int .i64 0,.int .i64 0]) 11 120:=PV Pd
theorem zfE:TI prog 133 (.slice none 0 0) 1 24:=PV Pd
def zki:TI prog 135 (.agg #[.int .i64 0,.slice none 0 0,.slice none 0 0,.bool false]) 4 64:=PV Pd
def z32:TI prog 143 (.pointer none) 1 8:=PV Pd
theorem Up:TI prog 153 (.agg #[.int .i64 0,.int .i64 0,.int .i64 0,.int .i64 0,.int .i64 0,.int .i64 0,.int .i64 0,.int .i64 0]) 8 64:=PV Pd
theorem z3a:TI prog 155 (.nilIface) 1 16:=PV Pd
theorem zfK:TI prog 156 (.pointer none) 1 8:=PV Pd
def zj6:TI prog 158 (.agg #[.int .i64 0,.int .i64 0,.int .i64 0,.int .i64 0,.int .i64 0,.int .i64 0,.int .i64 0,.int .i64 0,.nilIface,.pointer none]) 10 88:=PV Pd
theorem Zs:TI prog 162 (.agg #[.int .i64 0,.int .i64 0,.int .i64 0]) 3 24:=PV Pd
def zkp:TI prog 164 (.agg #[.int .i64 0,.int .i64 0,.int .i64 0,.int .i64 0,.int .i64 0,.pointer none,.bool false]) 7 56:=PV Pd
def zjH:TI prog 175 (.agg #[.pointer none,.slice none 0 0]) 2 32:=PV Pd
def z3p:TI prog 185 (.int .u8 0) 1 1:=PV Pd
theorem z8t:TI prog 186 (.map none) 1 8:=PV Pd
theorem z5U:TI prog 188 (.agg #[.slice none 0 0,.map none]) 2 32:=PV Pd
def ziP:TI prog 190 (.agg #[.int .i64 0,.slice none 0 0,.map none,.slice none 0 0,.map none,.slice none 0 0,.map none,.slice none 0 0,.map none,.int .i64 0,.map none]) 11 152:=PV Pd
theorem Yh:TI prog 195 (.agg #[.pointer none,.int .i64 0,.int .i64 0]) 3 24:=PV Pd
def zg0:TI prog 197 (.agg #[.pointer none,.int .i64 0,.int .i64 0,.slice none 0 0,.int .i64 0,.int .i64 0,.int .u32 0,.nilFunc,.bool false]) 9 88:=PV Pd
def zhW:TI prog 202 (.agg #[.pointer none,.int .i64 0,.int .i64 0,.int .i64 0,.int .u32 0]) 5 40:=PV Pd
def zcf:TI prog 216 (.pointer none) 1 8:=PV Pd
theorem z8i:TI prog 218 (.agg #[.string ⟨#[]⟩,.bool false]) 2 24:=PV Pd
def zhB:TI prog 220 (.agg #[.string ⟨#[]⟩,.bool false,.int .i64 0]) 3 32:=PV Pd
theorem z8C:TI prog 229 (.pointer none) 1 8:=PV Pd
def W3:TI prog 231 (.agg #[.int .i64 0,.int .i64 0]) 2 16:=PV Pd
theorem TU:TI prog 236 (.agg #[.int .i64 0,.int .u64 0,.int .i64 0,.int .i64 0]) 4 32:=PV Pd
def zjj:TI prog 249 (.agg #[.nilIface,.int .i64 0,.int .i64 0]) 3 32:=PV Pd
def PW:TI prog 261 (.agg #[.bool false,.bool false,.int .i64 0]) 3 16:=PV Pd
def Ri:TI prog 268 (.agg #[.slice none 0 0,.int .i64 0]) 2 32:=PV Pd
def zhs:TI prog 269 (.agg #[.slice none 0 0,.int .i64 0,.slice none 0 0,.int .i64 0,.slice none 0 0,.int .i64 0,.slice none 0 0,.int .i64 0,.slice none 0 0,.int .i64 0,.slice none 0 0,.int .i64 0,.slice none 0 0,.int .i64 0,.slice none 0 0,.int .i64 0,.slice none 0 0,.int .i64 0,.slice none 0 0,.int .i64 0,.slice none 0 0,.int .i64 0,.slice none 0 0,.int .i64 0,.slice none 0 0,.int .i64 0,.slice none 0 0,.int .i64 0,.slice none 0 0,.int .i64 0,.slice none 0 0,.int .i64 0,.slice none 0 0,.int .i64 0]) 34 544:=PV Pd
theorem zfV:TI prog 271 (.agg #[.slice none 0 0,.int .i64 0,.slice none 0 0,.int .i64 0,.slice none 0 0,.int .i64 0,.slice none 0 0,.int .i64 0,.slice none 0 0,.int .i64 0,.slice none 0 0,.int .i64 0,.slice none 0 0,.int .i64 0,.slice none 0 0,.int .i64 0,.slice none 0 0,.int .i64 0,.slice none 0 0,.int .i64 0,.slice none 0 0,.int .i64 0,.slice none 0 0,.int .i64 0,.slice none 0 0,.int .i64 0,.slice none 0 0,.int .i64 0,.slice none 0 0,.int .i64 0,.slice none 0 0,.int .i64 0,.slice none 0 0,.int .i64 0,.int .i64 0]) 35 552:=PV Pd
def ziE:TI prog 273 (.agg #[.int .i64 0,.int .i64 0,.int .i64 0,.int .i64 0,.int .i64 0,.slice none 0 0,.int .i64 0,.slice none 0 0,.int .i64 0,.slice none 0 0,.int .i64 0,.slice none 0 0,.int .i64 0,.slice none 0 0,.int .i64 0,.slice none 0 0,.int .i64 0,.slice none 0 0,.int .i64 0,.slice none 0 0,.int .i64 0,.slice none 0 0,.int .i64 0,.slice none 0 0,.int .i64 0,.slice none 0 0,.int .i64 0,.slice none 0 0,.int .i64 0,.slice none 0 0,.int .i64 0,.slice none 0 0,.int .i64 0,.slice none 0 0,.int .i64 0,.slice none 0 0,.int .i64 0,.slice none 0 0,.int .i64 0,.int .i64 0,.pointer none,.int .i64 0,.int .i64 0]) 43 616:=PV Pd
def UA:TI prog 276 (.agg #[.int .i64 0,.int .i64 0,.int .i64 0]) 3 24:=PV Pd
def zhF:TI prog 283 (.agg #[.slice none 0 0,.int .i64 0]) 2 32:=PV Pd
theorem z38:TI prog 289 (.pointer none) 1 8:=PV Pd
def zkd:TI prog 293 (.agg #[.int .i64 0,.int .u64 0,.int .i64 0,.int .i64 0,.nilIface]) 5 48:=PV Pd
def zfL:TI prog 295 (.pointer none) 1 8:=PV Pd
def zeQ:TI prog 301 (.nilFunc) 1 8:=PV Pd
def SH:TI prog 303 (.agg #[.int .i64 0,.int .i64 0]) 2 16:=PV Pd
def zcF:TI prog 311 (.slice none 0 0) 1 24:=PV Pd
theorem Rh:TI prog 314 (.agg #[.int .u8 0,.int .u64 0]) 2 16:=PV Pd
def VZ:TI prog 316 (.agg #[.int .u8 0,.int .u64 0,.int .u64 0]) 3 24:=PV Pd
def zja:TI prog 321 (.agg #[.string ⟨#[]⟩,.int .i64 0]) 2 24:=PV Pd
def ziW:TI prog 332 (.agg #[.pointer none,.bool false]) 2 16:=PV Pd
def Xa:TI prog 336 (.agg #[.int .i64 0,.string ⟨#[]⟩]) 2 24:=PV Pd
def z2u:TI prog 348 (.agg #[.int .i64 0,.int .i64 0]) 2 16:=PV Pd
def Tf:TI prog 351 (.agg #[.int .u64 0,.int .i64 0]) 2 16:=PV Pd
def Vm:TI prog 352 (.agg #[.int .u64 0,.int .i64 0,.int .u64 0,.int .i64 0]) 4 32:=PV Pd
def zjw:TI prog 366 (.agg #[.pointer none,.bool false]) 2 16:=PV Pd
def z5j:TI prog 383 (.int .u64 0) 1 8:=PV Pd
def z7E:QT prog 30 1 1 1 false:=PR U30 O O zaY XZ O
def zgD:QT prog 30 2 2 1 false:=PR U30 O O zaQ U28 O
def zgQ:QT prog 30 3 3 1 false:=PR U30 O O zaQ U28 O
def zgy:QT prog 30 4 4 1 false:=PR U30 O O Qe U3 O
def zlv:SP prog 30 [(0,1),(1,1),(2,1),(3,1),(4,1)]:=⟨_,U30,λ_=>by simp[zgM.size,zaY.size,zaQ.size,Qe.size,y06,y04]⟩
def zcY:QT prog 76 1 1 1 false:=PR U76 O O Qe U3 O
def zco:QT prog 76 2 2 1 false:=PR U76 O O Qe U3 O
def zd5:QT prog 76 3 3 1 false:=PR U76 O O Qe U3 O
def zgv:QT prog 76 4 4 1 false:=PR U76 O O Qe U3 O
def zgx:QT prog 76 6 6 1 false:=PR U76 O O Qe U3 O
def zly:SP prog 76 [(0,1),(1,1),(2,1),(3,1),(4,1),(5,1),(6,1)]:=⟨_,U76,λ_=>by simp[Qe.size,y06,y04]⟩
def z77:QT prog 81 0 0 1 false:=PR U81 O O Py R9 O
def z29:QT prog 81 1 1 1 false:=PR U81 O O Py R9 O
def ZS:QT prog 85 0 0 1 false:=PR U85 O O Qe U3 O
def z0j:QT prog 85 1 1 1 false:=PR U85 O O Qe U3 O
def zlU:SP prog 85 [(0,1),(1,1)]:=⟨_,U85,λ_=>by simp[Qe.size,y06,y04]⟩
def z1X:QT prog 93 0 0 1 false:=PR Ys O O Qe U3 O
def ZO:QT prog 93 1 1 1 false:=PR Ys O O Qe U3 O
def zc5:QT prog 93 2 2 1 false:=PR Ys O O Qe U3 O
def zcR:QT prog 93 3 3 1 false:=PR Ys O O Qe U3 O
def Ua:QT prog 93 4 4 1 false:=PR Ys O O Qe U3 O
def zds:SP prog 93 [(0,1),(1,1),(2,1),(3,1),(4,1)]:=⟨_,Ys,λ_=>by simp[Qe.size,y06,y04]⟩
def zd0:QT prog 99 0 0 1 false:=PR U99 O O Qe U3 O
def z1Z:QT prog 99 1 1 1 false:=PR U99 O O Qe U3 O
def WZ:QT prog 99 2 2 1 false:=PR U99 O O Qe U3 O
def zca:QT prog 99 3 3 1 false:=PR U99 O O TZ U4 O
def z42:QT prog 99 4 4 1 false:=PR U99 O O TZ U4 O
def RA:QT prog 103 0 0 5 true:=PR z5O O O zi4 U99 O
def z3B:QT prog 103 1 5 1 false:=PR z5O O O zaQ U28 O
def zdz:QT prog 103 2 6 1 false:=PR z5O O O zaQ U28 O
def z9g:QT prog 103 3 7 1 false:=PR z5O O O Qe U3 O
def Wo:QT prog 103 4 8 5 true:=PR z5O O O zdk z3E O
def zeM:QT prog 103 5 13 1 false:=PR z5O O O TZ U4 O
def z3G:QT prog 103 6 14 1 false:=PR z5O O O TZ U4 O
def zku:SP prog 103 [(0,5),(5,1),(6,1),(7,1),(8,5),(13,1),(14,1)]:=⟨_,z5O,λ_=>by simp[zdk.size,zaQ.size,Qe.size,TZ.size,zi4.size,y06,y04]⟩
def VN:QT prog 119 0 0 1 false:=PR z6t O O zgM U26 O
def z3K:QT prog 119 1 1 1 false:=PR z6t O O zht U66 O
def z92:QT prog 119 2 2 1 false:=PR z6t O O zeP zb3 O
def VB:QT prog 119 3 3 1 false:=PR z6t O O zfg Xd O
def Ww:QT prog 119 4 4 7 true:=PR z6t O O z2F U76 O
def z8V:QT prog 119 5 11 1 false:=PR z6t O O TZ U4 O
def zhv:SP prog 119 [(0,1),(1,1),(2,1),(3,1),(4,7),(11,1)]:=⟨_,z6t,λ_=>by simp[zeP.size,zfg.size,zgM.size,TZ.size,zht.size,z2F.size,y06,y04]⟩
def Rs:QT prog 124 0 0 1 false:=PR VU O O Qe U3 O
def RB:QT prog 124 1 1 1 false:=PR VU O O Qe U3 O
def zjr:SP prog 124 [(0,1),(1,1)]:=⟨_,VU,λ_=>by simp[Qe.size,y06,y04]⟩
def zeG:QT prog 127 0 0 1 false:=PR zbz O O z6A Rp O
def zeF:QT prog 127 1 1 1 false:=PR zbz O O Qe U3 O
def zdx:QT prog 127 2 2 1 false:=PR zbz O O YS U5 O
def z1e:QT prog 129 0 0 1 false:=PR zeH O O Qe U3 O
def ze9:QT prog 129 1 1 3 true:=PR zeH O O zdg zbz O
def zkr:SP prog 129 [(0,1),(1,3)]:=⟨_,zeH,λ_=>by simp[zdg.size,Qe.size,y06,y04]⟩
def XT:QT prog 132 0 0 4 true:=PR z4M O O z9l zeH O
def z11:QT prog 132 1 4 2 true:=PR z4M O O zcW U85 O
def z3C:QT prog 132 2 6 1 false:=PR z4M O O zfG z7x O
def Ze:QT prog 132 3 7 1 false:=PR z4M O O z8W z0S O
def z3F:QT prog 132 4 8 1 false:=PR z4M O O TZ U4 O
def z94:QT prog 132 5 9 1 false:=PR z4M O O Qe U3 O
def z8s:QT prog 132 6 10 1 false:=PR z4M O O Qe U3 O
def zhM:SP prog 132 [(0,4),(4,2),(6,1),(7,1),(8,1),(9,1),(10,1)]:=⟨_,z4M,λ_=>by simp[zfG.size,z9l.size,z8W.size,Qe.size,TZ.size,zcW.size,y06,y04]⟩
def z8A:QT prog 135 0 0 1 false:=PR zdL O O Qe U3 O
def VL:QT prog 135 1 1 1 false:=PR zdL O O zfE W4 O
def zdR:QT prog 135 3 3 1 false:=PR zdL O O TZ U4 O
def zk0:SP prog 135 [(0,1),(1,1),(2,1),(3,1)]:=⟨_,zdL,λ_=>by simp[zfE.size,Qe.size,TZ.size,y06,y04]⟩
def UH:QT prog 153 0 0 1 false:=PR z0g O O Qe U3 O
def z1b:QT prog 153 1 1 1 false:=PR z0g O O Qe U3 O
def Z9:QT prog 153 2 2 5 true:=PR z0g O O S8 Ys O
def VE:QT prog 153 3 7 1 false:=PR z0g O O Qe U3 O
def zfR:SP prog 153 [(0,1),(1,1),(2,5),(7,1)]:=⟨_,z0g,λ_=>by simp[Qe.size,S8.size,y06,y04]⟩
def Wj:QT prog 158 0 0 8 true:=PR ze4 O O Up z0g O
def zdo:QT prog 158 1 8 1 false:=PR ze4 O O z3a z2E O
def z9h:QT prog 158 2 9 1 false:=PR ze4 O O zfK z2C O
def zjT:SP prog 158 [(0,8),(8,1),(9,1)]:=⟨_,ze4,λ_=>by simp[Up.size,z3a.size,zfK.size,y06,y04]⟩
def z47:QT prog 162 0 0 1 false:=PR z2n O O Qe U3 O
def Wx:QT prog 162 1 1 1 false:=PR z2n O O Qe U3 O
def Zi:QT prog 162 2 2 1 false:=PR z2n O O Qe U3 O
def zhy:SP prog 162 [(0,1),(1,1),(2,1)]:=⟨_,z2n,λ_=>by simp[Qe.size,y06,y04]⟩
def SC:QT prog 164 0 0 3 true:=PR zbA O O Zs z2n O
def z14:QT prog 164 1 3 2 true:=PR zbA O O Rw VU O
def XF:QT prog 164 2 5 1 false:=PR zbA O O zaY XZ O
def z8b:QT prog 164 3 6 1 false:=PR zbA O O TZ U4 O
def zhw:SP prog 164 [(0,3),(3,2),(5,1),(6,1)]:=⟨_,zbA,λ_=>by simp[Rw.size,Zs.size,zaY.size,TZ.size,y06,y04]⟩
def z18:QT prog 175 1 1 1 false:=PR zkU O O Y7 QX O
def QB:QT prog 188 0 0 1 false:=PR zam O O z6A Rp O
def Zy:QT prog 188 1 1 1 false:=PR zam O O z8t WO O
def SW:QT prog 190 0 0 1 false:=PR z4q O O Qe U3 O
def R6:QT prog 190 1 1 2 true:=PR z4q O O z5U zam O
def RT:QT prog 190 2 3 2 true:=PR z4q O O z5U zam O
def Rk:QT prog 190 3 5 2 true:=PR z4q O O z5U zam O
def RM:QT prog 190 4 7 2 true:=PR z4q O O z5U zam O
def RK:QT prog 190 5 9 1 false:=PR z4q O O Qe U3 O
def z1k:QT prog 190 6 10 1 false:=PR z4q O O z8t WO O
def zii:SP prog 190 [(0,1),(1,2),(3,2),(5,2),(7,2),(9,1),(10,1)]:=⟨_,z4q,λ_=>by simp[z8t.size,z5U.size,Qe.size,y06,y04]⟩
def VK:QT prog 195 0 0 1 false:=PR z48 O O zaY XZ O
def UC:QT prog 195 1 1 2 true:=PR z48 O O Rw VU O
def zfx:SP prog 195 [(0,1),(1,2)]:=⟨_,z48,λ_=>by simp[Rw.size,zaY.size,y06,y04]⟩
def Xw:QT prog 197 0 0 3 true:=PR z4s O O Yh z48 O
def Tk:QT prog 197 1 3 1 false:=PR z4s O O Y7 QX O
def YV:QT prog 197 2 4 1 false:=PR z4s O O Qe U3 O
def z1h:QT prog 197 3 5 1 false:=PR z4s O O Qe U3 O
def z3T:QT prog 197 4 6 1 false:=PR z4s O O Py R9 O
def z1i:QT prog 197 5 7 1 false:=PR z4s O O zg8 U55 O
def Zv:QT prog 197 6 8 1 false:=PR z4s O O TZ U4 O
def zfw:SP prog 197 [(0,3),(3,1),(4,1),(5,1),(6,1),(7,1),(8,1)]:=⟨_,z4s,λ_=>by simp[Y7.size,Yh.size,Qe.size,TZ.size,Py.size,zg8.size,y06,y04]⟩
def Z8:QT prog 202 0 0 3 true:=PR zdX O O Yh z48 O
def z1j:QT prog 202 1 3 1 false:=PR zdX O O Qe U3 O
def zdv:QT prog 202 2 4 1 false:=PR zdX O O Py R9 O
def zjd:SP prog 202 [(0,3),(3,1),(4,1)]:=⟨_,zdX,λ_=>by simp[Yh.size,Qe.size,Py.size,y06,y04]⟩
def z3D:QT prog 218 0 0 1 false:=PR zdH O O ti9 U9 O
def z3S:QT prog 218 1 1 1 false:=PR zdH O O TZ U4 O
def ziL:SP prog 218 [(0,1),(1,1)]:=⟨_,zdH,λ_=>by simp[TZ.size,ti9.size,y06,y04]⟩
def Wl:QT prog 220 0 0 2 true:=PR zh2 O O z8i zdH O
def zeu:QT prog 220 1 2 1 false:=PR zh2 O O Qe U3 O
def zi1:SP prog 220 [(0,2),(2,1)]:=⟨_,zh2,λ_=>by simp[z8i.size,Qe.size,y06,y04]⟩
def zeE:QT prog 231 0 0 1 false:=PR zdO O O Qe U3 O
def zeK:QT prog 231 1 1 1 false:=PR zdO O O Qe U3 O
def z0u:SP prog 231 [(0,1),(1,1)]:=⟨_,zdO,λ_=>by simp[Qe.size,y06,y04]⟩
def Zh:QT prog 236 0 0 1 false:=PR Zt O O Qe U3 O
def zdB:QT prog 236 1 1 1 false:=PR Zt O O TH RW O
def TN:QT prog 236 2 2 1 false:=PR Zt O O Qe U3 O
def ZD:QT prog 236 3 3 1 false:=PR Zt O O Qe U3 O
def zjS:SP prog 236 [(0,1),(1,1),(2,1),(3,1)]:=⟨_,Zt,λ_=>by simp[Qe.size,TH.size,y06,y04]⟩
def zes:QT prog 249 0 0 1 false:=PR zcH O O z3a z2E O
def zdT:QT prog 249 1 1 1 false:=PR zcH O O Qe U3 O
def z3Q:QT prog 249 2 2 1 false:=PR zcH O O Qe U3 O
def zio:SP prog 249 [(0,1),(1,1),(2,1)]:=⟨_,zcH,λ_=>by simp[z3a.size,Qe.size,y06,y04]⟩
def zdY:QT prog 261 0 0 1 false:=PR Sy O O TZ U4 O
def ze2:QT prog 261 1 1 1 false:=PR Sy O O TZ U4 O
def z3L:QT prog 261 2 2 1 false:=PR Sy O O Qe U3 O
def WL:SP prog 261 [(0,1),(1,1),(2,1)]:=⟨_,Sy,λ_=>by simp[Qe.size,TZ.size,y06,y04]⟩
def SZ:QT prog 268 0 0 1 false:=PR WT O O SJ PS O
def z4i:QT prog 268 1 1 1 false:=PR WT O O Qe U3 O
def zfs:SP prog 268 [(0,1),(1,1)]:=⟨_,WT,λ_=>by simp[Qe.size,SJ.size,y06,y04]⟩
def z8B:QT prog 271 0 0 34 true:=PR zgq O O zhs zgs O
def VM:QT prog 271 1 34 1 false:=PR zgq O O Qe U3 O
def Xr:QT prog 273 0 0 5 true:=PR z9Y O O S8 Ys O
def YY:QT prog 273 1 5 35 true:=PR z9Y O O zfV zgq O
def z3N:QT prog 273 2 40 1 false:=PR z9Y O O z8C z2M O
def z3w:QT prog 273 3 41 1 false:=PR z9Y O O Qe U3 O
def zdQ:QT prog 273 4 42 1 false:=PR z9Y O O Qe U3 O
def zjJ:SP prog 273 [(0,5),(5,35),(40,1),(41,1),(42,1)]:=⟨_,z9Y,λ_=>by simp[z8C.size,zfV.size,Qe.size,S8.size,y06,y04]⟩
def TT:QT prog 276 0 0 1 false:=PR Xf O O Qe U3 O
def UJ:QT prog 276 1 1 1 false:=PR Xf O O Qe U3 O
def z0V:QT prog 276 2 2 1 false:=PR Xf O O Qe U3 O
def zkk:SP prog 276 [(0,1),(1,1),(2,1)]:=⟨_,Xf,λ_=>by simp[Qe.size,y06,y04]⟩
def Z5:QT prog 283 0 0 1 false:=PR zgb O O Y7 QX O
def Xq:QT prog 283 1 1 1 false:=PR zgb O O Qe U3 O
def zk1:SP prog 283 [(0,1),(1,1)]:=⟨_,zgb,λ_=>by simp[Y7.size,Qe.size,y06,y04]⟩
def SR:QT prog 293 0 0 4 true:=PR zgG O O TU Zt O
def z4k:QT prog 293 1 4 1 false:=PR zgG O O z3a z2E O
def zjc:SP prog 293 [(0,4),(4,1)]:=⟨_,zgG,λ_=>by simp[z3a.size,TU.size,y06,y04]⟩
def TR:QT prog 303 0 0 1 false:=PR z2r O O Qe U3 O
def T0:QT prog 303 1 1 1 false:=PR z2r O O Qe U3 O
def zcv:SP prog 303 [(0,1),(1,1)]:=⟨_,z2r,λ_=>by simp[Qe.size,y06,y04]⟩
def Sz:QT prog 314 0 0 1 false:=PR St O O YS U5 O
def Xx:QT prog 314 1 1 1 false:=PR St O O TH RW O
def zfW:SP prog 314 [(0,1),(1,1)]:=⟨_,St,λ_=>by simp[TH.size,YS.size,y06,y04]⟩
def z9k:QT prog 316 0 0 2 true:=PR zcx O O Rh St O
def z96:QT prog 316 1 2 1 false:=PR zcx O O TH RW O
def zfp:SP prog 316 [(0,2),(2,1)]:=⟨_,zcx,λ_=>by simp[Rh.size,TH.size,y06,y04]⟩
def z4h:QT prog 321 0 0 1 false:=PR zgC O O ti9 U9 O
def VG:QT prog 321 1 1 1 false:=PR zgC O O Qe U3 O
def ziQ:SP prog 321 [(0,1),(1,1)]:=⟨_,zgC,λ_=>by simp[Qe.size,ti9.size,y06,y04]⟩
def zdl:QT prog 332 0 0 1 false:=PR zgO O O z38 UU O
def Uk:QT prog 332 1 1 1 false:=PR zgO O O TZ U4 O
def zhl:SP prog 332 [(0,1),(1,1)]:=⟨_,zgO,λ_=>by simp[z38.size,TZ.size,y06,y04]⟩
def z0T:QT prog 336 0 0 1 false:=PR zbN O O Qe U3 O
def z3x:QT prog 336 1 1 1 false:=PR zbN O O ti9 U9 O
def zhn:SP prog 336 [(0,1),(1,1)]:=⟨_,zbN,λ_=>by simp[Qe.size,ti9.size,y06,y04]⟩
def z4e:QT prog 348 0 0 1 false:=PR zeg O O Qe U3 O
def z8G:QT prog 348 1 1 1 false:=PR zeg O O Qe U3 O
def ziG:SP prog 348 [(0,1),(1,1)]:=⟨_,zeg,λ_=>by simp[Qe.size,y06,y04]⟩
def z8N:QT prog 351 0 0 1 false:=PR z5o O O TH RW O
def z19:QT prog 351 1 1 1 false:=PR z5o O O Qe U3 O
def zbX:SP prog 351 [(0,1),(1,1)]:=⟨_,z5o,λ_=>by simp[Qe.size,TH.size,y06,y04]⟩
def zey:QT prog 366 0 0 1 false:=PR zgT O O z38 UU O
def z1a:QT prog 366 1 1 1 false:=PR zgT O O TZ U4 O
def ziR:SP prog 366 [(0,1),(1,1)]:=⟨_,zgT,λ_=>by simp[z38.size,TZ.size,y06,y04]⟩
def cf8:=Q7 func8
def cf9:=Q7 func9
def ziq:=Q7 func10
def zlV:=Q7 func11
def ziu:=Q7 func12
def zlo:=Q7 func13
def zkS:=Q7 func14
def zli:=Q7 func15
def zl9:=Q7 func17
def zl6:=Q7 func19
def zl2:=Q7 func22
def zlx:=Q7 func24
def zhJ:=Q7 func25
def zlk:=Q7 func28
def zkZ:=Q7 func29
def zlO:=Q7 func30
def zkV:=Q7 func31
def zlP:=Q7 func32
def zj1:=Q7 func33
def zj4:=Q7 func34
def zje:=Q7 func35
def zl5:=Q7 func36
def za4:=Q7 func37
def zhO:=Q7 func38
def zld:=Q7 func39
def zjn:=Q7 func40
def zkO:=Q7 func41
def z6M:=Q7 func42
def zgg:=Q7 func43
def zhi:=Q7 func44
def zk2:=Q7 func45
def zkJ:=Q7 func46
def zlH:=Q7 func47
def zlA:=Q7 func51
def ziA:=Q7 func55
def zkA:=Q7 func57
def zkF:=Q7 func61
def zlZ:=Q7 func62
def zkW:=Q7 func63
def zlj:=Q7 func64
def z4W:=Q7 func65
def zib:=Q7 func66
def zl3:=Q7 func67
def zl8:=Q7 func68
def zlb:=Q7 func69
def zl4:=Q7 func70
def zlL:=Q7 func71
def ziV:=Q7 func72
def zlm:=Q7 func73
def zdt:=Q7 func74
def zjK:=Q7 func75
def zgk:=Q7 func76
def zgR:=Q7 func77
def zlW:=Q7 func78
def zlN:=Q7 func79
def z5r:=Q7 func80
def zlu:=Q7 func81
def zlG:=Q7 func82
def zdD:=Q7 func83
def zlp:=Q7 func84
def zlK:=Q7 func85
def zjz:=Q7 func87
def ziS:=Q7 func88
def zlI:=Q7 func91
def zlM:=Q7 func92
def zlS:=Q7 func93
def zkK:=Q7 func94
def zgZ:=Q7 func95
def zlr:=Q7 func96
def zie:=Q7 func97
def zkw:=Q7 func98
def zh4:=Q7 func99
def zcK:=Q7 func100
def zfC:=Q7 func101
def ziz:=Q7 func102
def zf9:=Q7 func103
def zfm:=Q7 func104
def zfn:=Q7 func105
def zfZ:=Q7 func106
def ziH:=Q7 func107
def zhD:=Q7 func108
def ziZ:=Q7 func109
def zhG:=Q7 func114
def Y4:=Q7 func115
def zft:=Q7 func116
def zhf:=Q7 func117
def zhI:=Q7 func118
def zfP:=Q7 func119
def zf3:=Q7 func120
def zhE:=Q7 func121
def ziF:=Q7 func122
def zkm:=Q7 func124
def zit:=Q7 func125
def zi9:=Q7 func126
def zi2:=Q7 func127
def zi6:=Q7 func128
def zbO:=Q7 func129
def z1V:=Q7 func130
def Xn:=Q7 func131
def z9m:=Q7 func132
def zha:=Q7 func133
def zbZ:=Q7 func134
def z3h:=Q7 func135
def zfd:=Q7 func136
def zfJ:=Q7 func137
def z5K:=Q7 func138
def zi5:=Q7 func139
def zj2:=Q7 func140
def zkx:=Q7 func141
def zhz:=Q7 func142
def zjg:=Q7 func143
def zhR:=Q7 func144
def zhN:=Q7 func145
def zhq:=Q7 func146
def zkn:=Q7 func147
def zis:=Q7 func150
def zfl:=Q7 func152
def ziM:=Q7 func153
def zjN:=Q7 func154
def zhH:=Q7 func156
def zjf:=Q7 func157
def zhp:=Q7 func158
def zeW:=Q7 func160
def z5H:=Q7 func161
def z1Y:=Q7 func162
def ziy:=Q7 func163
def z8x:=Q7 func164
def zfD:=Q7 func165
def ziY:=Q7 func166
def zij:=Q7 func167
def zjX:=Q7 func168
def z3q:=Q7 func169
def zhc:=Q7 func170
def z8H:=Q7 func171
def z0K:=Q7 func172
def z4r:=Q7 func173
def zjR:=Q7 func174
def z8U:=Q7 func175
def zfi:=Q7 func176
def zfB:=Q7 func177
def Yi:=Q7 func178
def Th:=Q7 func179
def zjv:=Q7 func180
def zia:=Q7 func181
def ziI:=Q7 func183
def zfT:=Q7 func184
def zhx:=Q7 func185
def zjY:=Q7 func186
def Zc:=Q7 func187
def TQ:=Q7 func188
def Zn:=Q7 func189
def zfr:=Q7 func190
def z1W:=Q7 func191
def zbY:=Q7 func192
def zil:=Q7 func193
def zfM:=Q7 func194
def zfo:=Q7 func195
def zjx:=Q7 func196
def z5G:=Q7 func197
def zi3:=Q7 func198
def zfO:=Q7 func199
def zfY:=Q7 func200
def zkj:=Q7 func201
def zjD:=Q7 func202
def zid:=Q7 func203
def zkb:=Q7 func204
def zf2:=Q7 func205
def zfk:=Q7 func206
def zih:=Q7 func207
def zhP:=Q7 func208
def zkv:=Q7 func209
def zfv:=Q7 func210
def z9d:=Q7 func211
def z4R:=Q7 func212
def zhd:=Q7 func213
def zjq:=Q7 func214
def zbP:=Q7 func215
def zhh:=Q7 func216
def zkf:=Q7 func217
def zjk:=Q7 func218
def zf0:=Q7 func219
def Zu:=Q7 func220
def ziD:=Q7 func221
def z5Q:=Q7 func222
def ziT:=Q7 func223
def zff:=Q7 func224
def zk9:=Q7 func225
def zeZ:=Q7 func226
def zf5:=Q7 func227
def zfh:=Q7 func228
def zcd:=Q7 func229
def zjO:=Q7 func230
def zjP:=Q7 func231
def zjL:=Q7 func232
def zjA:=Q7 func233
def zhY:=Q7 func234
def zhX:=Q7 func235
def z5X:=Q7 func236
def zeT:=Q7 func237
def zjs:=Q7 func238
def zjQ:=Q7 func239
def zjE:=Q7 func240
def zhL:=Q7 func241
def zjW:=Q7 func242
def z35:=Q7 func243
def zeU:=Q7 func244
def zbF:=Q7 func245
def zeX:=Q7 func246
def ziJ:=Q7 func247
def zk3:=Q7 func248
def zeV:=Q7 func249
def zbv:=Q7 func250
def ziB:=Q7 func251
def z8p:=Q7 func252
def zjt:=Q7 func253
def zju:=Q7 func254
def zin:=Q7 func255
def zjo:=Q7 func256
def zhZ:=Q7 func257
def zjl:=Q7 func258
def zjG:=Q7 func259
def WI:=Q7 func260
def zk6:=Q7 func261
def zjV:=Q7 func262
def zfu:=Q7 func264
def zjZ:=Q7 func265
def zhm:=Q7 func266
def ziw:=Q7 func268
def zjF:=Q7 func269
def zbG:=Q7 func270
def ziC:=Q7 func290
def zjB:=Q7 func291
def zka:=Q7 func293
def zi8:=Q7 func294
def wtr (ops:List Oper)(i:Nat):List Nat:=(List.range ops.length).foldl (λa j=>match ops[j]? with|some o=>if o.after.any (λx=>Region.binds .any x&&(x.on==i ||a.contains x.on)) then a++[j] else a|none=>a) []
section
variable {l:List Oper}{e:Env}{d:Nat}{pos:String}{v:Value}
def qV (q:Y D.C.P e ⟨some d,op,ty,pos,aft,g⟩ v w w')(h:RL D l ((d,v)::e) w')(o:SF D e g true=true:=by exact rfl)(j:Nat.blt d D.C.n=true:=by exact rfl):RL D (⟨some d,op,ty,pos,aft,g⟩::l) e w:=VS o j q h
theorem qS (h:RL D l ((d,undef)::e) w)(o:SF D e g false=true:=by exact rfl)(j:Nat.blt d D.C.n=true:=by exact rfl):RL D (⟨some d,op,ty,pos,aft,g⟩::l) e w:=zhb o j h
theorem Ph {x:Operand}(q:look e x=some v)(h:RL D l ((d,v)::e) w)(o:SF D e g true=true:=by exact rfl)(j:Nat.blt d D.C.n=true:=by exact rfl):RL D (⟨some d,.move x,ty,pos,aft,g⟩::l) e w:=VS o j (Y5 q) h
theorem SO {x:Operand}(q:look e x=some v)(h:RL D l ((d,v)::e) w)(o:SF D e g true=true:=by exact rfl)(j:Nat.blt d D.C.n=true:=by exact rfl):RL D (⟨some d,.assign x,ty,pos,aft,g⟩::l) e w:=VS o j (S6 q) h
theorem Qj {x:Operand}(j:(look e x,look e y)=(some (I a),some (I b)))(h:RL D l ((d,I (a+b))::e) w)(o:JIq (a+b):=by omega)(r:SF D e g true=true:=by exact rfl)(q:Nat.blt d D.C.n=true:=by exact rfl):RL D (⟨some d,.binOp .add t x y t',ty,pos,aft,g⟩::l) e w:=VS r q (Vu (congrArg Prod.fst j) (congrArg Prod.snd j) o) h
theorem Px {S:Value->World->Prop}{args:List Operand}(r:CF D.C.P f)(j:looks e args=some vs)(o:PN D.C.P f vs w S)(h:∀v w',S v w'->RL D l ((d,v)::e) w')(s:SF D e g true=true:=by exact rfl)(q:Nat.blt d D.C.n=true:=by exact rfl):RL D (⟨some d,.call ⟨.value (.func f),args.toArray,ts⟩,ty,pos,aft,g⟩::l) e w:=Rj s q (yc r j) o h
def RO [hp:Decidable p](j:RL D l ((d,.bool true)::e) w)(h:p:=by first|rfl|assumption|omega|decide):RL D l ((d,.bool (decide p))::e) w:=zi7 h j
def Qb [hp:Decidable p](j:RL D l ((d,.bool false)::e) w)(h:¬p:=by first|exact λh=>h O|assumption|omega):RL D l ((d,.bool (decide p))::e) w:=zgY h j
theorem QY {x:Operand}(j:(look e x,look e y)=(some (.int k a),some (.int k b)))(h:RL D l ((d,.bool (decide (a<b)))::e) w)(q:SF D e g true=true:=by exact rfl)(o:Nat.blt d D.C.n=true:=by exact rfl):RL D (⟨some d,.binOp .lss t x y t',ty,pos,aft,g⟩::l) e w:=VS q o (ZQ (congrArg Prod.fst j) (congrArg Prod.snd j)) h
theorem zle {x:Operand}(j:(look e x,look e y)=(some (.int k a),some (.int k b)))(h:RL D l ((d,.bool (decide (a<=b)))::e) w)(q:SF D e g true=true:=by exact rfl)(o:Nat.blt d D.C.n=true:=by exact rfl):RL D (⟨some d,.binOp .leq t x y t',ty,pos,aft,g⟩::l) e w:=VS q o (ZG (congrArg Prod.fst j) (congrArg Prod.snd j)) h
theorem R8 {x:Operand}(j:(look e x,look e y)=(some (.int k a),some (.int k b)))(h:RL D l ((d,.bool (decide (b<a)))::e) w)(q:SF D e g true=true:=by exact rfl)(o:Nat.blt d D.C.n=true:=by exact rfl):RL D (⟨some d,.binOp .gtr t x y t',ty,pos,aft,g⟩::l) e w:=VS q o (YT (congrArg Prod.fst j) (congrArg Prod.snd j)) h
theorem Uj {x:Operand}(j:(look e x,look e y)=(some (.int k a),some (.int k b)))(h:RL D l ((d,.bool (decide (b<=a)))::e) w)(q:SF D e g true=true:=by exact rfl)(o:Nat.blt d D.C.n=true:=by exact rfl):RL D (⟨some d,.binOp .geq t x y t',ty,pos,aft,g⟩::l) e w:=VS q o (yge (congrArg Prod.fst j) (congrArg Prod.snd j)) h
theorem Rx {x:Operand}(j:(look e x,look e y)=(some (.int k a),some (.int k b)))(h:RL D l ((d,.bool (decide (a=b)))::e) w)(q:SF D e g true=true:=by exact rfl)(o:Nat.blt d D.C.n=true:=by exact rfl):RL D (⟨some d,.binOp .eql t x y t',ty,pos,aft,g⟩::l) e w:=VS q o (yeq (congrArg Prod.fst j) (congrArg Prod.snd j)) h
theorem R5 {x:Operand}(j:(look e x,look e y)=(some (.int k a),some (.int k b)))(h:RL D l ((d,.bool (decide (a≠b)))::e) w)(q:SF D e g true=true:=by exact rfl)(o:Nat.blt d D.C.n=true:=by exact rfl):RL D (⟨some d,.binOp .neq t x y t',ty,pos,aft,g⟩::l) e w:=VS q o (yne (congrArg Prod.fst j) (congrArg Prod.snd j)) h
theorem Rr {x:Operand}(j:(look e c,look e x)=(some (.bool true),some v))(h:RL D l ((d,v)::e) w)(q:SF D e g true=true:=by exact rfl)(o:Nat.blt d D.C.n=true:=by exact rfl):RL D (⟨some d,.pick c x y,ty,pos,aft,g⟩::l) e w:=VS q o (Ux (congrArg Prod.fst j) (congrArg Prod.snd j)) h
theorem Ql {x:Operand}(j:(look e c,look e y)=(some (.bool false),some v))(h:RL D l ((d,v)::e) w)(q:SF D e g true=true:=by exact rfl)(o:Nat.blt d D.C.n=true:=by exact rfl):RL D (⟨some d,.pick c x y,ty,pos,aft,g⟩::l) e w:=VS q o (U0 (congrArg Prod.fst j) (congrArg Prod.snd j)) h
theorem zex {x:Operand}{vs:Array Value}(j:(look e x,vs[i]?)=(some (.tuple vs),some v))(h:RL D l ((d,v)::e) w)(q:SF D e g true=true:=by exact rfl)(o:Nat.blt d D.C.n=true:=by exact rfl):RL D (⟨some d,.extract x i,ty,pos,aft,g⟩::l) e w:=VS q o (S9 (congrArg Prod.fst j) (congrArg Prod.snd j)) h
theorem Pr {n b:Nat}{x:Operand}(o:QT D.C.P t i off (n+1) agg)(r:look e x=some (ptr b m))(h:RL D l ((d,ptr b (m+off))::e) w)(q:SF D e g true=true:=by exact rfl)(j:Nat.blt d D.C.n=true:=by exact rfl):RL D (⟨some d,.fieldAddr t x i,ty,pos,aft,g⟩::l) e w:=VS q j (PU o r) h
theorem RQ {x:Operand}{a:Option Addr}{len:Nat}(ht:D.C.P.underlying t=some (.slice el))(q:look e x=some (.slice a len cap))(h:RL D l ((d,I (len:Int))::e) w)(o:SF D e g true=true:=by exact rfl)(j:Nat.blt d D.C.n=true:=by exact rfl):RL D (⟨some d,.call ⟨.builtin .len,#[x],#[t]⟩,ty,pos,aft,g⟩::l) e w:=VS o j (T7 ht q) h
theorem RR {x:Operand}(j:(look e x,look e y)=(some (I a),some (I b)))(h:RL D l ((d,I (a-b))::e) w)(o:JIq (a-b):=by omega)(r:SF D e g true=true:=by exact rfl)(q:Nat.blt d D.C.n=true:=by exact rfl):RL D (⟨some d,.binOp .sub t x y t',ty,pos,aft,g⟩::l) e w:=VS r q (Yf (congrArg Prod.fst j) (congrArg Prod.snd j) o) h
theorem Pq {x:Operand}(q:look e x=some v)(h:PM D.C D.k ((d,v)::e) w)(o:SF D e g true=true:=by exact rfl)(j:Nat.blt d D.C.n=true:=by exact rfl):RL D [⟨some d,.assign x,ty,pos,aft,g⟩] e w:=VS o j (S6 q) (P4 h)
theorem PB {x:Operand}(q:(look e x,look ((d,v)::e) y)=(some v,some v'))(h:RL D l ((d',v')::(d,v)::e) w)(s:SF D e g true=true:=by exact rfl)(r:Nat.blt d D.C.n=true:=by exact rfl)(o:SF D ((d,v)::e) g' true=true:=by exact rfl)(j:Nat.blt d' D.C.n=true:=by exact rfl):RL D (⟨some d,.move x,ty,pos,aft,g⟩::⟨some d',.move y,ty',pos',aft',g'⟩::l) e w:=VS s r (Y5 (congrArg Prod.fst q)) (VS o j (Y5 (congrArg Prod.snd q)) h)
def z7l:Value->Bool
  | .pointer (some _)=>true
  | .func (.func _) _ _=>true
  |_=>false
theorem QL {d:Option Nat}{x:Operand}(j:look e x=some v)(h:z7l v=true:=by exact rfl):Y P e ⟨d,.nilCheck x,ty,pos,aft,g⟩ v w w:=by
  unfold z7l at h
  split at h
  · exact ync j
  · exact zlw j
  · cases h
theorem PQ {x:Operand}(r:look e x=some v)(h:RL D l ((d,v)::e) w)(q:z7l v=true:=by exact rfl)(o:SF D e g true=true:=by exact rfl)(j:Nat.blt d D.C.n=true:=by exact rfl):RL D (⟨some d,.nilCheck x,ty,pos,aft,g⟩::l) e w:=VS o j (QL r q) h
end
section
variable {k:List Item}{e e':Env}{y:Code}
def qN {x:Code}(j:Sg C.n ops=true)(h:RL ⟨C,ops,.code x::k,j⟩ ops e w):PM C (.code (.seq (.region id ops.toArray false) x)::k) e w:=OY (Pc j h)
def RX {α:Type}{c:Code}(h:α)(E:α->Env)(I:α->World->Prop)(μ:α->Nat)(n:I h w)(round:∀x w,I x w->(∀y w',I y w'->μ y<μ x->PM C (.inLoop c::k) (E y) w')->PM C (.code c:: .inLoop c::k) (E x) w)(j:Sub (E h) e:=by repeat (first|exact Sub.nil|refine Sub.cons O ?_)):PM C (.code (.loop c)::k) e w:=zcg h E I μ j n round
def PM.qb (h:PM C k e w)(j:Sub e e':=by repeat (first|exact Sub.nil|refine Sub.cons O ?_)):PM C k e' w:=h.sub j
end
section
variable {k:List Item}{e:Env}{x:Code}
def qM {o:Sg C.n ops0=true}(j:Sg C.n ops=true)(h:RL ⟨C,ops,.code x::k,j⟩ ops e w):RL ⟨C,ops0,.code (.seq (.region id ops.toArray false) x)::k,o⟩ [] e w:=P4 (OY (Pc j h))
end
section
variable {late:List Nat}{S:World->Prop}{e:Env}{d fuel:Nat}{pos:String}{listed:Array Bool}{v:Value}
def qT (i:Nat)(hi:D.ops[i]? =some ⟨some d,op,ty,pos,aft,g⟩)(s:∀w,S w->Y D.C.P e ⟨some d,op,ty,pos,aft,g⟩ v w w)(j:S w)(h:RH D S fuel (listed.setIfInBounds i true) ((d,v)::e) w)
    (q:SU D.ops listed i=true:=by kernel_rfl) (r:SF D e g true=true:=by exact rfl) (o:Nat.blt d D.C.n=true:=by exact rfl):RH D S (fuel+1) listed e w:=zcO hi q r o s j h
def P7 (i:Nat)(hi:D.ops[i]? =some ⟨some d,op,ty,pos,aft,g⟩)(s:∀{w},Y D.C.P e ⟨some d,op,ty,pos,aft,g⟩ v w w)(j:S w)(h:RH D S fuel (listed.setIfInBounds i true) ((d,v)::e) w)
    (q:SU D.ops listed i=true:=by kernel_rfl) (r:SF D e g true=true:=by exact rfl) (o:Nat.blt d D.C.n=true:=by exact rfl):RH D S (fuel+1) listed e w:=zcO hi q r o (λ_ _=>s) j h
def TW [hp:Decidable p](j:RH D S fuel listed ((d,.bool true)::e) w)(h:p:=by first|rfl|assumption|omega|decide):RH D S fuel listed ((d,.bool (decide p))::e) w:=zj8 h j
def TJ [hp:Decidable p](j:RH D S fuel listed ((d,.bool false)::e) w)(h:¬p:=by first|exact λh=>h O|assumption|omega):RH D S fuel listed ((d,.bool (decide p))::e) w:=zgl h j
theorem TV {late:List Nat}(rs:List Nat)(h:RH D (λ_=>True) fuel listed e w)(n:SB D.ops listed rs=true:=by kernel_rfl)(j:zeY rs late=true:=by kernel_rfl):RHL D late S fuel listed e w:=zhe rs n j h
theorem Pu {x:Operand}(i:Nat)(hi:D.ops[i]? =some ⟨some d,.move x,ty,pos,aft,g⟩)(s:look e x=some v)(j:S w)(h:RH D S fuel (listed.setIfInBounds i true) ((d,v)::e) w)
    (q:SU D.ops listed i=true:=by kernel_rfl) (r:SF D e g true=true:=by exact rfl) (o:Nat.blt d D.C.n=true:=by exact rfl):RH D S (fuel+1) listed e w:=zcO hi q r o (λ_ _=>Y5 s) j h
theorem qJ (i:Nat)(hi:D.ops[i]? =some ⟨some d,op,ty,pos,aft,g⟩)(j:S w)(h:RH D S fuel (listed.setIfInBounds i true) ((d,undef)::e) w)
    (q:SU D.ops listed i=true:=by kernel_rfl) (r:SF D e g false=true:=by exact rfl) (o:Nat.blt d D.C.n=true:=by exact rfl):RH D S (fuel+1) listed e w:=zjI hi q r o j h
def qO (i:Nat)(h:Nx D S fuel listed e w i)(j:SB D.ops listed [i]=true:=by kernel_rfl):RH D S (fuel+1) listed e w:=zj5 j h
def Tl {T:Value->World->Prop}{args:List Operand}(i:Nat)(hi:D.ops[i]? =some ⟨some d,.call ⟨.value (.func f),args.toArray,ts⟩,ty,pos,aft,g⟩)(r:CF D.C.P f)(j:looks e args=some vs)(o:PN D.C.P f vs w T)(h:∀v w',T v w'->S w'/\RH D S fuel (listed.setIfInBounds i true) ((d,v)::e) w')
    (u:SB D.ops listed [i]=true:=by kernel_rfl) (s:SF D e g true=true:=by exact rfl) (q:Nat.blt d D.C.n=true:=by exact rfl):RH D S (fuel+1) listed e w:=zj5 u (Xc hi s q (yc r j) o h)
theorem qE (h:PM D.C D.k e w)(j:SB D.ops listed []=true:=by kernel_rfl):RH D S fuel listed e w:=zlY j h
def qL (i:Nat)(hi:D.ops[i]? =some ⟨some d,op,ty,pos,aft,g⟩)(s:∀w,S w->Y D.C.P e ⟨some d,op,ty,pos,aft,g⟩ v w w)(j:S w)(h:RHL D late S fuel (listed.setIfInBounds i true) ((d,v)::e) w)
    (q:(SU D.ops listed i&&waits D.ops listed late (wtr D.ops i) i)=true:=by kernel_rfl) (r:SF D e g true=true:=by exact rfl) (o:Nat.blt d D.C.n=true:=by exact rfl):RHL D late S (fuel+1) listed e w:=z6Y _ hi q r o s j h
def PH (i:Nat)(hi:D.ops[i]? =some ⟨some d,op,ty,pos,aft,g⟩)(s:∀{w},Y D.C.P e ⟨some d,op,ty,pos,aft,g⟩ v w w)(j:S w)(h:RHL D late S fuel (listed.setIfInBounds i true) ((d,v)::e) w)
    (q:(SU D.ops listed i&&waits D.ops listed late (wtr D.ops i) i)=true:=by kernel_rfl) (r:SF D e g true=true:=by exact rfl) (o:Nat.blt d D.C.n=true:=by exact rfl):RHL D late S (fuel+1) listed e w:=z6Y _ hi q r o (λ_ _=>s) j h
theorem Qm {x:Operand}(i:Nat)(hi:D.ops[i]? =some ⟨some d,.move x,ty,pos,aft,g⟩)(s:look e x=some v)(j:S w)(h:RHL D late S fuel (listed.setIfInBounds i true) ((d,v)::e) w)
    (q:(SU D.ops listed i&&waits D.ops listed late (wtr D.ops i) i)=true:=by kernel_rfl) (r:SF D e g true=true:=by exact rfl) (o:Nat.blt d D.C.n=true:=by exact rfl):RHL D late S (fuel+1) listed e w:=z6Y _ hi q r o (λ_ _=>Y5 s) j h
end
section
variable {k:List Item}{e:Env}{l:List Oper}{y y2:Code}{d:Nat}{op':Op}{pos:String}{v:Value}{x x':Operand}
theorem PL (j:(Sg C.n (⟨some d,.move x,ty,pos,aft,g⟩::l),look e x)=(true,some v))(h:RL ⟨C,⟨some d,.move x,ty,pos,aft,g⟩::l,.code y::k,congrArg Prod.fst j⟩ l ((d,v)::e) w)(q:SF ⟨C,⟨some d,.move x,ty,pos,aft,g⟩::l,.code y::k,congrArg Prod.fst j⟩ e g true=true:=by exact rfl)(o:Nat.blt d C.n=true:=by exact rfl):PM C (.code (.seq (.region id (⟨some d,.move x,ty,pos,aft,g⟩::l).toArray false) y)::k) e w:=qN (congrArg Prod.fst j) (Ph (congrArg Prod.snd j) h q o)
theorem Ro {o:Sg C.n ops0=true}(j:(look e x,Sg C.n ops)=(some v,true))(h:RL ⟨C,ops,.code y::k,congrArg Prod.snd j⟩ ops ((d,v)::e) w)(r:SF ⟨C,ops0,.code (.seq (.region id ops.toArray false) y)::k,o⟩ e g true=true:=by exact rfl)(q:Nat.blt d C.n=true:=by exact rfl):RL ⟨C,ops0,.code (.seq (.region id ops.toArray false) y)::k,o⟩ [⟨some d,.assign x,ty,pos,aft,g⟩] e w:=SO (congrArg Prod.fst j) (qM (congrArg Prod.snd j) h) r q
theorem QG (j:((Sg C.n (⟨some d,.move x,ty,pos,aft,g⟩::⟨some d',.move x',ty',pos',aft',g'⟩::l),look e x),look ((d,v)::e) x')=((true,some v),some v'))(h:RL ⟨C,⟨some d,.move x,ty,pos,aft,g⟩::⟨some d',.move x',ty',pos',aft',g'⟩::l,.code y::k,congrArg (λz=>z.1.1) j⟩ l ((d',v')::(d,v)::e) w)(s:SF ⟨C,⟨some d,.move x,ty,pos,aft,g⟩::⟨some d',.move x',ty',pos',aft',g'⟩::l,.code y::k,congrArg (λz=>z.1.1) j⟩ e g true=true:=by exact rfl)(r:Nat.blt d C.n=true:=by exact rfl)(q:SF ⟨C,⟨some d,.move x,ty,pos,aft,g⟩::⟨some d',.move x',ty',pos',aft',g'⟩::l,.code y::k,congrArg (λz=>z.1.1) j⟩ ((d,v)::e) g' true=true:=by exact rfl)(o:Nat.blt d' C.n=true:=by exact rfl):PM C (.code (.seq (.region id (⟨some d,.move x,ty,pos,aft,g⟩::⟨some d',.move x',ty',pos',aft',g'⟩::l).toArray false) y)::k) e w:=qN (congrArg (λz=>z.1.1) j) (Ph (congrArg (λz=>z.1.2) j) (Ph (congrArg Prod.snd j) h q o) s r)
theorem QS (q:(look e x,look ((d,v)::e) x')=(some v,some v'))(h:PM D.C D.k ((d',v')::(d,v)::e) w)(s:SF D e g true=true:=by exact rfl)(r:Nat.blt d D.C.n=true:=by exact rfl)(o:SF D ((d,v)::e) g' true=true:=by exact rfl)(j:Nat.blt d' D.C.n=true:=by exact rfl):RL D [⟨some d,.assign x,ty,pos,aft,g⟩,⟨some d',.assign x',ty',pos',aft',g'⟩] e w:=SO (congrArg Prod.fst q) (Pq (congrArg Prod.snd q) h o j) s r
theorem Ta {vs j:Array Value}{s:Nat}(r:((look e x,vs[i]?),(look ((d,v)::e) x',j[s]?))=((some (.tuple vs),some v),(some (.tuple j),some v')))(h:RL D l ((d',v')::(d,v)::e) w)(A:SF D e g true=true:=by exact rfl)(u:Nat.blt d D.C.n=true:=by exact rfl)(q:SF D ((d,v)::e) g' true=true:=by exact rfl)(o:Nat.blt d' D.C.n=true:=by exact rfl):RL D (⟨some d,.extract x i,ty,pos,aft,g⟩::⟨some d',.extract x' s,ty',pos',aft',g'⟩::l) e w:=zex (congrArg Prod.fst r) (zex (congrArg Prod.snd r) h q o) A u
theorem Qi (j:(Sg C.n (⟨some d,.move x,ty,pos,aft,g⟩::l),look e x)=(true,some v))(h:RL ⟨C,⟨some d,.move x,ty,pos,aft,g⟩::l,.code y:: .code y2::k,congrArg Prod.fst j⟩ l ((d,v)::e) w)(q:SF ⟨C,⟨some d,.move x,ty,pos,aft,g⟩::l,.code y:: .code y2::k,congrArg Prod.fst j⟩ e g true=true:=by exact rfl)(o:Nat.blt d C.n=true:=by exact rfl):PM C (.code (.seq (.seq (.region id (⟨some d,.move x,ty,pos,aft,g⟩::l).toArray false) y) y2)::k) e w:=OY (PL j h q o)
theorem QV (h:RL D l ((d',undef)::(d,undef)::e) w)(r:SF D e g false=true:=by exact rfl)(q:Nat.blt d D.C.n=true:=by exact rfl)(o:SF D ((d,undef)::e) g' false=true:=by exact rfl)(j:Nat.blt d' D.C.n=true:=by exact rfl):RL D (⟨some d,op,ty,pos,aft,g⟩::⟨some d',op',ty',pos',aft',g'⟩::l) e w:=qS (qS h o j) r q
def Tj (j:look e c=some (.bool false))(h:PM C k e w):PM C (.code (.cond c y .skip)::k) e w:=P9 j (P5 h)
theorem Re (j:(Sg C.n [⟨some d,.assign x,ty,pos,aft,g⟩],look e x)=(true,some v))(h:PM C (.code y::k) ((d,v)::e) w)(q:SF ⟨C,[⟨some d,.assign x,ty,pos,aft,g⟩],.code y::k,congrArg Prod.fst j⟩ e g true=true:=by exact rfl)(o:Nat.blt d C.n=true:=by exact rfl):PM C (.code (.seq (.region id ([⟨some d,.assign x,ty,pos,aft,g⟩]:List Oper).toArray false) y)::k) e w:=qN (congrArg Prod.fst j) (Pq (congrArg Prod.snd j) h q o)
theorem Rq {r:Sg C.n ops0=true}(j:((look e x',Sg C.n (⟨some d,.move x,ty,pos,aft,g⟩::l)),look ((d',v')::e) x)=((some v',true),some v))(h:RL ⟨C,⟨some d,.move x,ty,pos,aft,g⟩::l,.code y::k,congrArg (λz=>z.1.2) j⟩ l ((d,v)::(d',v')::e) w)(u:SF ⟨C,ops0,.code (.seq (.region id (⟨some d,.move x,ty,pos,aft,g⟩::l).toArray false) y)::k,r⟩ e g' true=true:=by exact rfl)(s:Nat.blt d' C.n=true:=by exact rfl)(q:SF ⟨C,⟨some d,.move x,ty,pos,aft,g⟩::l,.code y::k,congrArg (λz=>z.1.2) j⟩ ((d',v')::e) g true=true:=by exact rfl)(o:Nat.blt d C.n=true:=by exact rfl):RL ⟨C,ops0,.code (.seq (.region id (⟨some d,.move x,ty,pos,aft,g⟩::l).toArray false) y)::k,r⟩ [⟨some d',.assign x',ty',pos',aft',g'⟩] e w:=Ro (congrArg Prod.fst j) (Ph (congrArg Prod.snd j) h q o) u s
def QC {j:Sg C.n ops0=true}(o:look e c=some (.bool false))(h:PM C k e w):RL ⟨C,ops0,.code (.cond c y .skip)::k,j⟩ [] e w:=P4 (Tj o h)
theorem Ra (j:(Sg C.n (⟨some d,.move x,ty,pos,aft,g⟩::l),look e x)=(true,some v))(h:RL ⟨C,⟨some d,.move x,ty,pos,aft,g⟩::l,k,congrArg Prod.fst j⟩ l ((d,v)::e) w)(q:SF ⟨C,⟨some d,.move x,ty,pos,aft,g⟩::l,k,congrArg Prod.fst j⟩ e g true=true:=by exact rfl)(o:Nat.blt d C.n=true:=by exact rfl):PM C (.code (.region id (⟨some d,.move x,ty,pos,aft,g⟩::l).toArray false)::k) e w:=Pc (congrArg Prod.fst j) (Ph (congrArg Prod.snd j) h q o)
def R0 (h:PM C (.code y:: .inBlock id:: .code y2::k) e w):PM C (.code (.seq (.block id y) y2)::k) e w:=OY (P6 h)
end
theorem RI {k:List Item}{e:Env}(S:World->Prop)(j:Sg C.n ops=true)(h:RH ⟨C,ops,k,j⟩ S ops.length (Array.replicate ops.length false) e w.drew)(q:C.P.follows .mixedOrders=true:=by kernel_rfl)(o:calm ops=true:=by rfl):PM C (.code (.region id ops.toArray true)::k) e w:=z4P S q j h o
def RZ {α:Type}{a b:α}(h:some a=some b):a=b:=y11 h
def U2:=underlying2
def U20:=underlying20
def U22:=underlying22
def Vt:=underlying23
def U34:=underlying34
def U44:=underlying44
def U45:=underlying45
def U95:=underlying95
def U96:=underlying96
def z6g:=underlying100
def z4d:=underlying143
def zea:=underlying146
def zeo:=underlying151
def zgd:=underlying172
def zci:=underlying185
def zkg:=underlying216
def zkG:=underlying222
def WU:=underlying223
def zg7:=underlying232
def zg3:=underlying238
def zlB:=underlying295
def zgi:=underlying296
def zhV:=underlying301
def z1D:=underlying311
def zbL:=underlying344
def z2l:=underlying352
def z5h:=underlying383
def Vv (w:World)(g:Nat)(cs:List Value)(T:TypeId):Prop:=w.heap[g]? =some (.cells cs.toArray T (0,0))
theorem Vv.OZ {g:Nat}(h:Vv w g cs T):Pm w g cs T:=⟨(0,0),h,λi _ h=>ω⟩
theorem Vv.set {g:Nat}(h:Vv w g cs T)(i:Nat)(v:Value):Vv (w.setCell ⟨g,i,none⟩ v) g (cs.set i v) T:=by
 unfold Vv at h⊢
 simp[World.setCell,y3z,h]
theorem Vv.ext {g:Nat}(h:Vv w g cs T)(k:Ext w w'):Vv w' g cs T:=k.heap h id
def Sl.row {g n:Nat}{e:TypeId}{size:Nat}(h:Sl w (.slice (some ⟨g,0,none⟩) n cap) e size n cs):∃cur,Vv w g cur e/\n<=cap/\cap<=maxLen/\cur.length=cap*size/\cur.take (n*size)=cs:=by
 rcases h.2 with⟨s,-⟩|⟨v,j,cur,r,-,hg,o,l,q,ht⟩
 ·cases s
 ·cases r;exact⟨cur.toList,by unfold Vv;simpa using hg,o,l,by simpa using q,ht⟩
def Vv.sl {g n:Nat}{e:TypeId}{size:Nat}(h:Vv w g cur e)(j:n<=cap)(o:cap<=maxLen)(l:cur.length=cap*size):Sl w (.slice (some ⟨g,0,none⟩) n cap) e size n (cur.take (n*size)):=
 ⟨by rw[y0d,l];exact y0B (y1n _ j),.inr ⟨g,cap,cur.toArray,O,y00 _,h,j,o,by simpa using l,ξ⟩⟩
theorem Vv.cell {w:World}{g i:Nat}{cur:List Value}{e:TypeId}(h:Vv w g cur e):w.cell? ⟨g,i,none⟩=cur[i]? :=h.OZ.cell i
theorem Vv.rd {g n c:Nat}{e:TypeId}(h:Vv w g cur e)(o:i+n<=cur.length):Rd w (.slice (some ⟨g,i,none⟩) n c) 1 n ((cur.drop i).take n):=by
 refine⟨by simp;omega,.inr ⟨g,i,c,rfl,λj u l=>?_⟩⟩
 rw[h.cell]
 rw[y1I] at l
 split at l
 ·rwa [y1O] at l
 ·cases l
def W5 {a:Option Addr}{c:Nat}:Rd w (.slice a 0 c) 1 0 []:=⟨rfl,.inl ⟨(a,c),rfl,rfl⟩⟩
theorem Rd.kpz {S:Nat->Prop}{v:Value}{size n:Nat}(h:Rd w v size n cs)(k:Kp S w w')(s:0<n->∀g,v.ownBlock=some g->¬S g):Rd w' v size n cs:=by
 rcases y0y n with l|l
 ·subst l;refine⟨h.1,?_⟩;have r:cs=[]:=y0t (by have:=h.1;omega);rcases h.2 with q|⟨b,off,cap,e,-⟩
  ·exact .inl q
  ·exact .inr ⟨b,off,cap,e,λj u o=>by rw[r] at o;simp at o⟩
 ·exact h.kp k (s l)
theorem Rd.ltz {v:Value}{size n g:Nat}(h:Rd w v size n cs)(r:0<size)(q:0<n)(hg:v.ownBlock=some g):g<w.heap.size:=by
 rcases h.2 with⟨c,-,s⟩|⟨b,off,cap,e,l⟩
 ·omega
 ·rw[e] at hg;have j:b=g:=RZ hg;subst j;have o:0<cs.length:=by rw[h.1];exact Nat.mul_pos q r
  exact World.block_lt_of_cell? w _ (l 0 cs[0] (y03 o))
theorem z88 (cs:List Value)(i:Nat):Rg cs i []=cs:=by simp[Rg]
theorem z2I (cs vs:List Value)(i:Nat)(h:i+vs.length<=cs.length):(Rg cs i vs).length=cs.length:=by simp[Rg];omega
theorem z1n (cs vs:List Value)(i j:Nat)(h:i+vs.length<=cs.length):(Rg cs i vs)[j]? =if i<=j/\j<i+vs.length then vs[j-i]? else cs[j]? :=by
 unfold Rg
 rw[y05]
 by_cases l:j<i
 ·rw[y0C (by simp;omega),y1I,if_pos l,if_neg ω]
 ·rw[y0W (by simp;omega)];have e:(cs.take i).length=i:=by simp;omega
  rw[e];by_cases n:j<i+vs.length
  ·rw[y0C ω,if_pos ⟨ω,n⟩]
  ·rw[y0W ω,y1O,if_neg ω]
   congr 1;omega
def Vf {P:Program}{b:Nat}{T:TypeId}(o:Nat):∀(vs:List Value)(i:Nat) (cs:List Value) (w:World),Vv w b cs T->o+i+vs.length<=cs.length->(∀v∈vs,v.oneCell'=true)->
  ∃w',(storeCells ⟨b,o,none⟩ vs i).run P w= .ok () w'/\Vv w' b (Rg cs (o+i) vs) T/\Kp (λk=>k=b) w w'
 |[],i,cs,w,hB,_,_=>⟨w,rfl,by simpa[Rg] using hB,Kp.refl _ _⟩
 | v :: r, i, cs, w, hB, hl, h1 => by
   simp only[y01] at hl;have h:o+i<cs.length:=ω
   have n:w.cell? ⟨b,o+i,none⟩=some cs[o+i]:=by rw[hB.cell];simp[h]
   have s:=hB.OZ.free h;obtain⟨w',B,G,A⟩:=Vf (P:=P) o r (i+1) (cs.set (o+i) v) _ (hB.set (o+i) v) (by simp;omega) (λu E=>h1 u (y0s _ E));refine⟨w',?_,?_,(U8 w b (o+i) v).trans A⟩
   ·simp only[storeCells,y06,RU,run_store P w _ v _ (h1 v (y0p ..)),n,s]
    simpa using B
   ·have q:Rg (cs.set (o+i) v) (o+(i+1)) r=Rg cs (o+i) (v::r):=by
     apply y0K;intro j;rw[z1n _ _ _ _ (by simp;omega),z1n _ _ _ _ (by simp;omega)];simp only[y01];by_cases l:o+i=j
     ·subst l;rw[if_neg ω,if_pos ω];simp[h]
     ·by_cases H:o+i<j/\j<o+i+1+r.length
      ·rw[if_pos ω,if_pos ω,show j-(o+i)=(j-(o+(i+1)))+1 by omega];simp
      ·rw[if_neg ω,if_neg ω,y0A l]
    rw[<-q];exact G
section
variable {e:Env}{d:Option Nat}{pos:String}{x u u2:Operand}
def Zr {size n:Nat}{a:Option Addr}[sS:TG za i](ht:P.underlying t=some (.slice el))(q:TI P el z size bytes)(r:look e x=some (.slice a n cap))
  (s:look e y=some (.int k za)) (h:i<=n) (v:n<=cap):
  Y P e ⟨d,.slice t x (some y) none none,ty,pos,aft,g⟩ (.slice (if cap=i then a else a.map (·.add (i*size))) (n-i) (cap-i)) w w:=fun ρ j=>by
 obtain⟨rfl⟩:=sS
 have l:=q.size (w:=w)
 have o:∀w,(Instr.sliceBound (.int k (i:Int)) n .sliceB).run P w= .ok i w:=λw=>by rw[run_sliceBound _ _ _ _ _ ω ω];simp
 simp[execOp,j _ _ r,j _ _ s,Instr.sliceAt,run_underlying ht,Instr.slice,Instr.sliceBounds,o,l]
def zkI {size n j:Nat}{a:Option Addr}{k' o:IntKind}{zb q:Int}[sS:TG za i][xa:TG zb j][bT:TG q m](ht:P.underlying t=some (.slice el))(B:TI P el z size bytes)(G:look e x=some (.slice a n cap))
  (H:look e y=some (.int k za)) (E:look e u=some (.int k' zb)) (I:look e u2=some (.int o q)) (h:i<=j/\j<=m/\m<=cap):
  Y P e ⟨d,.slice t x (some y) (some u) (some u2),ty,pos,aft,g⟩ (.slice (if m=i then a else a.map (·.add (i*size))) (j-i) (m-i)) w w:=fun ρ l=>by
 obtain⟨rfl⟩:=sS
 obtain⟨rfl⟩:=xa
 obtain⟨rfl⟩:=bT
 have r:=B.size (w:=w)
 have s:∀w,(Instr.sliceBound (.int o (m:Int)) cap .slice3Acap).run P w= .ok m w:=λw=>by rw[run_sliceBound _ _ _ _ _ ω ω];simp
 have v:∀w,(Instr.sliceBound (.int k' (j:Int)) m .slice3B).run P w= .ok j w:=λw=>by rw[run_sliceBound _ _ _ _ _ ω ω];simp
 have A:∀w,(Instr.sliceBound (.int k (i:Int)) j .slice3C).run P w= .ok i w:=λw=>by rw[run_sliceBound _ _ _ _ _ ω ω];simp
 simp[execOp,l _ _ G,l _ _ H,l _ _ E,l _ _ I,Instr.sliceAt,run_underlying ht,Instr.slice,Instr.sliceBounds,s,v,A,r]
theorem Yl (z:Value)(n:Nat)(h:oneV z=true):(Builtin.zeroCells z.cells n).toList=List.replicate n z:=by
 rw[Wr h]
 apply y1D
 ·simp[Builtin.zeroCells]
 ·intro i j l;simp[Builtin.zeroCells,y2S]
def zkE {b n:Nat}(ht:P.underlying t=some (.slice el))(B:TI P el z 1 bytes)(o:oneV z=true)(l:look e x=some (.slice (some ⟨b,i,none⟩) n cap))
  (hB:Vv w b cs T) (hi:i+n<=cs.length):
  Yp P e ⟨d,.call ⟨.builtin .clear,#[x],#[t]⟩,ty,pos,aft,g⟩ w λv w'=>Vv w' b (Rg cs i (List.replicate n z)) T/\Kp (λk=>k=b) w w':=by
 obtain⟨w',A,G,s⟩:=Vf (P:=P) i (List.replicate n z) 0 cs w hB (by simp;omega) (λu E=>by rw[(List.mem_replicate.1 E).2];exact Zf o)
 rcases y0y n with j|j
 ·subst j;refine⟨.tuple #[],w,fun ρ h=>?_,by simpa[z88] using hB,Kp.refl _ _⟩;simp[execOp,resolve,invoke,builtin,h _ _ l,Builtin.clear_,run_underlying ht,go_sem]
 ·refine⟨.tuple #[],w',fun ρ h=>?_,by simpa using G,s⟩;have q:=B.zero (w:=w);obtain⟨k,rfl⟩:∃k,n=k+1:=⟨n-1,ω⟩
  have r:(Builtin.clear_ #[t] ty #[.slice (some ⟨b,i,none⟩) (k+1) cap]).run P w= .ok (.tuple #[]) w':=by
   unfold Builtin.clear_;simp only[y2f,y1v,pure_bind,y06,run_underlying ht,Result.andThen,q,Yl z _ o,A,y04]
  simp[execOp,resolve,invoke,builtin,h _ _ l,r]
theorem zkQ {u:Value}{size n:Nat}{news:List Value}(ht:P.underlying t=some (.slice el))(L:TI P el z size bytes)(R:0<size)
  (s:look e x=some (.slice (some ⟨gb,0,none⟩) n cap)) (v:look e y=some u) (r:Sl w (.slice (some ⟨gb,0,none⟩) n cap) el size n cs) (l:Rd w u size m news) (I:∀c∈news,c.oneCell'=true) (q:n+m<=cap):
  Yp P e ⟨d,.call ⟨.builtin .append,#[x,y],#[t,t]⟩,ty,pos,aft,g⟩ w λv' w'=>v'= .slice (some ⟨gb,0,none⟩) (n+m) cap/\Sl w' v' el size (n+m) (cs++news)/\Kp (λk=>k=gb) w w':=by
 obtain⟨i,hi,S,M,U⟩:=L
 subst M
 rcases l.2 with⟨⟨ca,c⟩,rfl,rfl⟩|⟨b,off,h,rfl,N⟩
 ·have H:news=[]:=y0t (by simpa using l.1);subst H
  have q:(Builtin.append_ #[t,t] ty #[.slice (some ⟨gb,0,none⟩) n cap,.slice ca 0 c]).run P w= .ok (.slice (some ⟨gb,0,none⟩) n cap) w:=by
   have A:n<=cap:=ω
   cases ca
   ·simp[Builtin.append_,run_underlying ht,sizeOf,typeInfo,hi,Builtin.lenOf,Builtin.firstCells,A,storeCells]
   ·simp[Builtin.append_,run_underlying ht,sizeOf,typeInfo,hi,Builtin.lenOf,Builtin.firstCells,A,storeCells,loadCells,loadCellsFrom]
  refine⟨_,w,fun ρ o=>?_,rfl,by simpa using r,Kp.refl _ _⟩;simp[execOp,resolve,invoke,builtin,o _ _ s,o _ _ v,q]
 ·have Q:∀j u,news[j]? =some u->w.cell? ((⟨b,off,none⟩:Addr).add j)=some u:=λj u l=>by rw[RU];exact N j u l
  obtain⟨w',E,B,G⟩:=run_append_fits (P:=P) w 0 t ty el i i.size ht hi O gb n cap cs r ⟨b,off,none⟩ m h news l.1 Q I q;refine⟨_,w',fun ρ o=>?_,rfl,B,(Kp.Vj G).Pk λk J=>(RZ J).symm⟩;simp[execOp,resolve,invoke,builtin,o _ _ s,o _ _ v,E]
end
abbrev P8:=List UInt8
abbrev lt (a b:P8):Bool:=Op.bytesLess a b
section
end
def pos (l:List P8)(t:P8):Nat:=(l.takeWhile (λk=>lt k t)).length
theorem z27 (cs vs:List Value)(i m:Nat)(h:m<=i)(d:i<=cs.length):(Rg cs i vs).take m=cs.take m:=by
 unfold Rg
 rw[y05,y1r (by simp;omega),y1E,y0B h]
theorem zcN {j:Value}{n:Nat}(r:Sl w j 3 1 n cs)(S:∀c∈cs,c.oneCell'=true)(hi:i<n)(f:n<=8589934592):
  PN prog 207 [j,I (i:Int),I ((i:Int)+1)] w λv w'=>Sl w' v 3 1 (n-1) (cs.take i++cs.drop (i+1))/\Kp (λk=>j.ownBlock=some k) w w'/\(∀g,v.ownBlock=some g->j.ownBlock=some g):=by
 have b:maxLen=9223372036854775807:=rfl
 have L:=r.len
 rw[y0c] at L
 obtain⟨g,cap,rfl,B⟩:∃g cap,j= .slice (some ⟨g,0,none⟩) n cap/\n<=cap:=by
  rcases r.shape with⟨e,d⟩|⟨g,cap,e,h⟩
  ·omega
  ·exact⟨g,cap,e,h⟩
 obtain⟨cur,x,-,E,A,o⟩:=r.row
 rw[y0c] at A o
 rw[show(i:Int)+1=((i+1:Nat):Int) by omega]
 refine py (e:=[(0,_),(1,_),(2,_)]) func207 O ntmps207 O O<|qN O<|Ro O<|PB O<|PB O<|RQ Rp O<|qV (zkI Rp Qe O O O O ⟨ω,ω,B⟩) ?_
 refine P4<|OY<|QG O<|Rx O<|Qb<|QC O<|PL O<|RQ Rp O<|Pq O<|OY<|RI (λw'=>Kp (λk=>k=g) w w') O ?_
 have d:=Ext.Pz w
 refine Pu 0 O O ((Ext.Pz w).kp)<|Pu 1 O O ((Ext.Pz w).kp)<|Pu 3 O O ((Ext.Pz w).kp)<|Pu 4 O O ((Ext.Pz w).kp)<|P7 2 O (zcJ Rp Qe O O ω) ((Ext.Pz w).kp)<|P7 5 O (Zr Rp Qe O O ω B) ((Ext.Pz w).kp) ?_
 have Q:Sl w (.slice (some ⟨g,0,none⟩) i cap) 3 1 i (cs.take i):=by
  have:=x.sl (n:=i) ω E (by rw[y0c];exact A);rw[y0c,show cur.take i=cs.take i by rw[<-o,y1E,y0B ω]] at this;exact this
 have W:(cur.drop (i+1)).take (n-(i+1))=cs.drop (i+1):=by
  rw[<-o,y1y]
 have U:Rd w.drew (.slice (if cap=i+1 then some ⟨g,0,none⟩ else(some (⟨g,0,none⟩:Addr)).map (·.add ((i+1)*1))) (n-(i+1)) (cap-(i+1))) 1 (n-(i+1)) (cs.drop (i+1)):=by
  by_cases l:cap=i+1
  ·rw[if_pos l,show n-(i+1)=0 by omega,List.drop_eq_nil_of_le ω];exact W5
  ·rw[if_neg l,Option.map_some,RU,y09,y0c,<-W];exact(x.ext d).rd ω
 refine qO 6<|z0n (i:=6) O O O (zkQ Rp Qe ψ O O (Q.ext d) U (λc l=>S c (y1S l)) ω) ?_
 rintro _ w1⟨rfl,u,q⟩
 refine⟨d.kp.trans q,?_⟩
 have R:i+(n-(i+1))=n-1:=ω
 rw[R] at u⊢
 obtain⟨s,X,Z,a,G,H⟩:=u.row
 rw[y0c] at G H
 refine P7 7 O (S6 O) (d.kp.trans q)<|qE<|QG O<|RQ Rp O<|Ph O<|qV (zgW Rp Qe O O O ω ω)<|zbT O (zkE Rp Qe O O X ω) ?_
 rintro _ w2⟨Y,M⟩
 refine P4<|PM.qb (e:=[(0,_),(6,_)]) ?_
 refine PL O<|Pq O<|P3 func207 O ?_
 have J:=Y.sl (n:=n-1) (cap:=cap) ω E (by rw[z2I _ _ _ (by simp;omega),G,y0c])
 rw[y0c,z27 _ _ _ _ ω ω,H] at J
 exact⟨_,O,J,((d.kp.trans q).trans M).Pk (λk V=>by subst V;rfl),λg' N=>N⟩
open Go.ChangeMaps (setBlock)
def T6 {κ:Type}(K:κ->Value)(w:World)(m:Nat)(kv:List (κ×Value)):Prop:=(∃j h,w.heap[m]? =some (.map j h)/\UL K j.toList kv/\(∀e∈j.toList,e.born<h)/\(j.toList.map (·.born)).Nodup)/\(kv.map (·.1)).Nodup
section
variable {κ:Type}[DecidableEq κ]{K:κ->Value}
theorem T6.l {kv:List (κ×Value)}(h:T6 K w m kv):X9 K w m kv:=by
 obtain⟨⟨j,c,n,o,-,-⟩,q⟩:=h
 exact⟨⟨j,c,n,o⟩,q⟩
def T6.lt {kv:List (κ×Value)}(h:T6 K w m kv):m<w.heap.size:=h.l.lt
theorem T6.nd {kv:List (κ×Value)}(h:T6 K w m kv):(kv.map (·.1)).Nodup:=h.2
theorem T6.kp {S:Nat->Prop}{kv:List (κ×Value)}(h:T6 K w m kv)(k:Kp S w w')(o:¬S m):T6 K w' m kv:=by
 obtain⟨⟨j,c,h,n⟩,l⟩:=h
 exact⟨⟨j,c,k.heap h o,n⟩,l⟩
theorem T6.ext {kv:List (κ×Value)}(h:T6 K w m kv)(k:Ext w w'):T6 K w' m kv:=h.kp k id
theorem T6.new (h:w.heap[m]? =some (.map #[] 0)):T6 K w m []:=⟨⟨#[],0,h,rfl,ξ,ξ⟩,ξ⟩
def delL:List (κ×Value)->κ->List (κ×Value)
 |[],_=>[]
 |(a,v)::r,k=>if k=a then r else(a,v)::delL r k
def z4u:∀(kv:List (κ×Value)) (k:κ),(delL kv k).Sublist kv
 |[],_=> .slnil
 | (a, v) :: r, k => by
   simp only[delL];split
   ·exact y27 _ _
   ·exact(z4u r k).cons_cons _
theorem z3m {kv:List (κ×Value)}{k:κ}(h:k∉kv.map (·.1)):RJ kv k=none:=by
 induction kv with
 |nil=>rfl
 | cons p r j =>
   obtain⟨a,u⟩:=p;simp only[y0n,y0l,not_or] at h;simp only[RJ,h.1,if_false];exact j h.2
theorem zhu {kv:List (κ×Value)}(l:(kv.map (·.1)).Nodup)(k x:κ):RJ (delL kv k) x=if x=k then none else RJ kv x:=by
 induction kv with
 |nil=>simp[delL,RJ]
 | cons p r n =>
   obtain⟨a,u⟩:=p;simp only[y0n,y10] at l;simp only[delL];by_cases h:k=a
   ·subst h;simp only[if_true,RJ];by_cases j:x=k
    ·subst j;simp[z3m l.1]
    ·simp[j]
   ·simp only[h,if_false,RJ,n l.2];by_cases j:x=a
    ·subst j;simp[Ne.symm h]
    ·simp[j]
theorem z5z {kv:List (κ×Value)}(j:(kv.map (·.1)).Nodup){k:κ}{v:Value}(h:(k,v)∈kv):RJ kv k=some v:=by
 induction kv with
 |nil=>cases h
 | cons p r l =>
   obtain⟨a,u⟩:=p;simp only[y0n,y10] at j;rcases y0l.1 h with e| h
   ·cases e;simp[RJ]
   ·have:k≠a:=λe=>j.1 (y0h.2 ⟨(k,v),h,e⟩);simp only[RJ,this,if_false];exact l j.2 h
def z0r {q:TypeDesc}(n:∀a b,Instr.sameNow q (K a) (K b)=some (decide (a=b))):∀{l:List MapEntry} {kv:List (κ×Value)} (i:Nat) {k:κ} {v:Value},UL K l kv->RJ kv k=some v->
  ∃j,Instr.findNow q (K k) l i=some (some (i+j,v))/\j<l.length/\UL K (l.eraseIdx j) (delL kv k)
 | e :: l, (a, v') :: kv, i, k, v, h, hg => by
   simp only[UL,y0n,y2h,y29] at h;simp only[RJ] at hg;split at hg
   ·rename_i A
    subst A;cases hg;refine⟨0,by simp[Instr.findNow,h.1.1,n,h.1.2],ξ,?_⟩;simp only[List.eraseIdx_zero,List.tail_cons,delL,if_true];exact h.2
   ·rename_i o
    obtain⟨j,r,B,s⟩:=z0r n (i+1) h.2 hg;refine⟨j+1,?_,by simp;omega,?_⟩
    ·simp only[Instr.findNow,h.1.1,n,o,decide_false,r]
     congr 3;omega
    ·simp only[delL,o,if_false,List.eraseIdx_cons_succ,UL,y0n,y2h,y29]
     exact⟨h.1,s⟩
 |[],[],_,_,_,_,hg=>by simp[RJ] at hg
 |[],_::_,_,_,_,h,_=>by simp[UL] at h
 |_::_,[],_,_,_,h,_=>by simp[UL] at h
variable {e:Env}{d:Option Nat}{pos:String}{x u:Operand}{kv:List (κ×Value)}{size:Nat}{k:κ}{v:Value}
theorem zky (ht:P.underlying t=some (.map kt el))(q:look e x=some (.map (some m)))(o:X9 K w m kv):Y P e ⟨d,.call ⟨.builtin .len,#[x],#[t]⟩,ty,pos,aft,g⟩ (I (kv.length:Int)) w w:=fun ρ r=>by
 obtain⟨⟨h,c,l,j⟩,-⟩:=o
 have n:h.size=kv.length:=by
  have:=congrArg List.length j
  simpa using this
 have hg:(getObj m).run P w= .ok (.map h c) w:=by simp[getObj,Sem.run,l]
 simp[execOp,resolve,invoke,builtin,r _ _ q,Builtin.len_,run_underlying ht,hg,goInt,n,go_sem,Result.andThen]
theorem zgr (ht:P.underlying t=some (.map kt el))(s:Ky P kt K)(h:look e x=some (.map (some m)))(A:look e y=some (K k))(S:look e u=some v)(R:T6 K w m kv):
  Zp P e ⟨d,.mapUpdate t x y u,ty,pos,aft,g⟩ w λw'=>T6 K w' m (putL kv k v)/\Kp (λi=>i=m) w w':=by
 have J:=R.lt
 obtain⟨⟨l,c,Q,G,B,L⟩,N⟩:=R
 have W:=λb=>s.same.choose_spec.2.2 w b 9999 k
 have hg:(getObj m).run P w= .ok (.map l c) w:=by simp[getObj,Sem.run,Q]
 have U:∀o,(setObj m o).run P w= .ok () (w.putObj m o):=λo=>by simp[setObj,Sem.run,Q,World.putObj]
 cases q:RJ kv k with
 | none =>
   have H:=UK (P:=P) (w:=w) s G q;refine⟨w.putObj m (.map (l.push {key:=K k,val:=v,born:=c}) (c+1)),fun ρ n=>?_,⟨⟨_,_,y1V J,?_,?_,?_⟩,?_⟩,QW w m _⟩
   ·simp[execOp,n _ _ h,n _ _ A,n _ _ S,Instr.mapUpdate,run_underlying ht,hg,W,H,U]
   ·rw[Vq _ _ _ q]
    simpa[UL] using G
   ·intro x h;simp at h;rcases h with h|rfl
    ·have:=B x (by simpa using h);omega
    ·simp
   ·simp only[Array.toList_push,y0f,y0n,y1u];refine y0L.2 ⟨L,ξ,λa E b r I=>?_⟩;simp at r;subst r;subst I;obtain⟨x,h,p⟩:=y0h.1 E;have:=B x h;omega
   ·rw[Vq _ _ _ q,y0f,y0L];refine⟨N,ξ,λa E b r I=>?_⟩;simp at r;subst r;subst I
    exact z1N q E
 | some C =>
   obtain⟨j,H,⟨z,Z,X⟩,f⟩:=UG (P:=P) (w:=w) s G q
   have V:(l.modify j λe=>{e with key:=K k,val:=v}).toList.map (·.born)=l.toList.map (·.born):=by
    apply y0K;intro i;simp only[Array.toList_modify,y0i,List.getElem?_modify];by_cases M:j=i
    ·subst M;simp;cases l[j]?<;>rfl
    ·simp[M]
   refine⟨w.putObj m (.map (l.modify j λe=>{e with key:=K k,val:=v}) c),fun ρ n=>?_,⟨⟨_,_,y1V J,f v,?_,?_⟩,?_⟩,QW w m _⟩
   ·simp[execOp,n _ _ h,n _ _ A,n _ _ S,Instr.mapUpdate,run_underlying ht,hg,W,H,U,Z,X,Instr.keyThatStays,s.bits]
   ·intro x h;have:x.born∈l.toList.map (·.born):=by rw[<-V];exact y0h.2 ⟨x,h,O⟩
    obtain⟨y,A,Y⟩:=y0h.1 this;rw[<-Y];exact B y A
   ·rw[V];exact L
   ·rw[z30 _ _ _ (by rw[q];rfl)];exact N
theorem zgw (ht:P.underlying t=some (.map kt el))(f:Ky P kt K)(s:look e x=some (.map (some m)))(R:look e y=some (K k))(N:T6 K w m kv)(V:ts[0]? =some t):
  Yp P e ⟨d,.call ⟨.builtin .delete,#[x,y],ts⟩,ty,pos,aft,g⟩ w λv' w'=>T6 K w' m (delL kv k)/\Kp (λi=>i=m) w w':=by
 have H:=N.lt
 obtain⟨⟨h,c,G,q,I,J⟩,B⟩:=N
 obtain⟨⟨F,Q,O,Y⟩,-⟩:=f
 have W:=λb=>Y w b 9999 k
 have hg:(getObj m).run P w= .ok (.map h c) w:=by simp[getObj,Sem.run,G]
 have S:∀o,(setObj m o).run P w= .ok () (w.putObj m o):=λo=>by simp[setObj,Sem.run,G,World.putObj]
 have L:=(z4u kv k).map (·.1)
 cases l:RJ kv k with
 | none =>
   have E:(Instr.findKey kt (K k) h.toList).run P w= .ok none w:=by simp[Instr.findKey,run_underlying Q,Wn O 0 q l]
   have U:delL kv k=kv:=by
    clear q G B L
    induction kv with
    |nil=>rfl
    | cons p r z =>
      obtain⟨a,u⟩:=p;simp only[RJ] at l;split at l
      ·cases l
      ·rename_i Z;simp only[delL,Z,if_false,z l]
   refine⟨.tuple #[],w.putObj m (.map h c),fun ρ n=>?_,⟨⟨h,c,y1V H,by rw[U];exact q,I,J⟩,by rw[U];exact B⟩,QW w m _⟩
   simp[execOp,resolve,invoke,builtin,n _ _ s,n _ _ R,Builtin.delete_,V,run_underlying ht,hg,W,E,S,Result.andThen]
 | some D =>
   obtain⟨j,X,M,C⟩:=z0r O 0 q l
   have E:(Instr.findKey kt (K k) h.toList).run P w= .ok (some (j,D)) w:=by
    rw[y09] at X;simp[Instr.findKey,run_underlying Q,X]
   have A:(h.eraseIdxIfInBounds j).toList=h.toList.eraseIdx j:=by
    simp at M;simp[Array.eraseIdxIfInBounds,M]
   refine⟨.tuple #[],w.putObj m (.map (h.eraseIdxIfInBounds j) c),fun ρ n=>?_,⟨⟨_,c,y1V H,by rw[A];exact C,?_,?_⟩,L.nodup B⟩,QW w m _⟩
   ·simp[execOp,resolve,invoke,builtin,n _ _ s,n _ _ R,Builtin.delete_,V,run_underlying ht,hg,W,E,S,Result.andThen]
   ·rw[A];exact λx s=>I x ((List.eraseIdx_sublist _ _).subset s)
   ·rw[A];exact((List.eraseIdx_sublist _ _).map _).nodup J
end
def PF:Nat->Nat->List Bool
 |0,_=>[]
 |n+1,v=>v.testBit n::PF n v
def PZ:List Bool->Nat
 |[]=>0
 |b::l=>b.toNat*2^l.length+PZ l
@[simp] theorem bitsN_length:∀(n v:Nat),(PF n v).length=n
 |0,_=>rfl
 |n+1,v=>by simp[PF,bitsN_length n v]
theorem RD:∀(l:List Bool),PZ l<2^l.length
 |[]=>by simp[PZ]
 | b :: l => by
   have:=RD l;simp only[PZ,y01,y1L];have:b.toNat<=1:=by cases b<;>simp
   have:b.toNat*2^l.length<=1*2^l.length:=y1n _ this;omega
theorem Sh:∀(a b:List Bool),PZ (a++b)=PZ a*2^b.length+PZ b
 |[],b=>by simp[PZ]
 | x :: a, b => by
   rw[y0q,PZ,Sh a b,PZ,Pe,y0M,y0G,y2d];omega
theorem So:∀(m n v:Nat),PF (m+n) v=PF m (v / 2^n)++PF n v
 |0,n,v=>by simp[PF]
 | m + 1, n, v => by
   rw[show m+1+n=(m+n)+1 by omega,PF,PF,y0q,So m n v,Nat.testBit_div_two_pow]
theorem Qx:∀(n v:Nat),PZ (PF n v)=v%2^n
 |0,v=>by simp[PF,PZ,y2S]
 | n + 1, v => by
   rw[PF,PZ,bitsN_length,Qx n v,y1L,Nat.mod_mul,Nat.testBit_eq_decide_div_mod_eq];rcases y1Q (v / 2^n) with e|e<;>simp[e]<;>omega
theorem Xg:∀{n v u:Nat},v%2^n=u%2^n->PF n v=PF n u
 |0,_,_,_=>rfl
 | n + 1, v, u, h => by
   have j:v.testBit n=u.testBit n:=by
    have d:(v%2^(n+1)).testBit n=v.testBit n:=by rw[Nat.testBit_mod_two_pow];simp
    have e:(u%2^(n+1)).testBit n=u.testBit n:=by rw[Nat.testBit_mod_two_pow];simp
    rw[<-d,<-e,h]
   have l:v%2^n=u%2^n:=by
    have d:v%2^(n+1)%2^n=v%2^n:=Nat.mod_mod_of_dvd _ (Nat.pow_dvd_pow 2 (Nat.le_succ n));have e:u%2^(n+1)%2^n=u%2^n:=Nat.mod_mod_of_dvd _ (Nat.pow_dvd_pow 2 (Nat.le_succ n));rw[<-d,<-e,h]
   rw[PF,PF,j,Xg l]
theorem Z6:∀{a b:List Bool},a.length=b.length->PZ a=PZ b->a=b
 |[],[],_,_=>rfl
 | x :: a, y :: b, hl, hv => by
   have d:a.length=b.length:=by simpa using hl
   have e:=RD a;have j:=RD b;rw[PZ,PZ,d] at hv;rw[d] at e
   have h:x=y:=by
    cases x<;>cases y<;>simp at hv⊢<;>omega
   subst h;rw[Z6 d ω]
def z1K (l:List Bool):PF l.length (PZ l)=l:=Z6 ξ (by rw[Qx,y0g (RD l)])
/-! ### Bytes -/
def PA (s:P8):List Bool:=s.flatMap λc=>PF 8 c.toNat
@[simp] theorem bitsT_length (s:P8):(PA s).length=8*s.length:=by
 induction s with
 |nil=>rfl
 |cons c s ih=>simp[PA] at ih⊢;omega
theorem ZA (a b:P8):PA (a++b)=PA a++PA b:=by simp[PA]
def WH (d:List Bool):UInt8:=UInt8.ofNat (PZ d*2^(8-d.length))
def PJ (l:List Bool):P8:=(List.range ((l.length+7) / 8)).map λi=>WH ((l.drop (8*i)).take 8)
theorem PY (l:List Bool):(PJ l).length=(l.length+7) / 8:=by simp[PJ]
theorem YA {c d:List Bool}(l:c.length%8=0)(j:1<=d.length)(e:d.length<=8):PJ (c++d)=PJ c++[WH d]:=by
 obtain⟨m,h⟩:∃m,c.length=8*m:=⟨c.length / 8,ω⟩
 unfold PJ
 rw[Pe,show(c.length+d.length+7) / 8=m+1 by omega,show(c.length+7) / 8=m by omega,y0P,y0f]
 congr 1
 ·apply y0O;intro i hi;rw[y0H] at hi;rw[y1j ω,y1r (by rw[y07];omega)]
 ·simp only[y0n,y1u];rw[<-h,y2L,y0N e]
def z9n {d e:List Bool}(h:d.length+e.length<=8):(WH (d++e)).toNat=(WH d).toNat |||(PZ e*2^(8-d.length-e.length)):=by
 have u:=RD d
 have o:=RD e
 have j:∀(x:List Bool),x.length<=8->PZ x*2^(8-x.length)<256:=λx v=>by
  have q:=RD x;have:PZ x*2^(8-x.length)<2^x.length*2^(8-x.length):=y2G q (y0v _);rw[<-y0M,show x.length+(8-x.length)=8 by omega] at this;exact this
 have l:(WH (d++e)).toNat=PZ (d++e)*2^(8-(d++e).length):=by
  unfold WH;rw[y3c];exact y0g (j _ (by rw[Pe];omega))
 have n:(WH d).toNat=PZ d*2^(8-d.length):=by
  unfold WH;rw[y3c];exact y0g (j _ ω)
 rw[l,n,Sh,Pe,y0G]
 have r:PZ d*2^e.length*2^(8-(d.length+e.length))=2^(8-d.length)*PZ d:=by
  rw[y2d,<-y0M,show e.length+(8-(d.length+e.length))=8-d.length by omega,y0J]
 have s:PZ e*2^(8-(d.length+e.length))<2^(8-d.length):=by
  have:PZ e*2^(8-(d.length+e.length))<2^e.length*2^(8-(d.length+e.length)):=y2G o (y0v _);rw[<-y0M,show e.length+(8-(d.length+e.length))=8-d.length by omega] at this;exact this
 rw[r,y21 s,y0J (2^(8-d.length)),show 8-d.length-e.length=8-(d.length+e.length) by omega]
theorem z9w:WH []=0:=ψ
theorem SM (l:List Bool):∃z,PA (PJ l)=l++List.replicate z false/\(l.length+z)%8=0/\z<8:=by
 have key:∀(m:Nat)(l:List Bool),l.length<=8*m->∃z,PA (PJ l)=l++List.replicate z false/\(l.length+z)%8=0/\z<8:=by
  intro m
  induction m with
  | zero =>
    intro l h;have:l=[]:=y0t ω;subst this
    exact⟨0,O,O,ω⟩
  | succ m j =>
    intro l h;by_cases o:l=[]
    ·subst o;exact⟨0,O,O,ω⟩
    ·have q:1<=l.length:=by
      cases l with
      |nil=>exact absurd O o
      |cons a r=>simp
     obtain⟨c,d,rfl,A,u,x⟩:∃c d,l=c++d/\c.length%8=0/\1<=d.length/\d.length<=8:=by
      refine⟨l.take (8*((l.length-1) / 8)),l.drop (8*((l.length-1) / 8)),(y1c _ _).symm,?_,?_,?_⟩
      ·rw[y0d];omega
      ·rw[y07];omega
      ·rw[y07];omega
     rw[Pe] at h;obtain⟨z,s,G,E⟩:=j c ω;have e:z=0:=ω
     subst e;simp at s;refine⟨8-d.length,?_,by rw[Pe];omega,ω⟩;rw[YA A u x,ZA,s,y05]
     congr 1
     simp only[PA,y16,List.flatMap_nil,y0o]
     have B:PZ (d++List.replicate (8-d.length) false)=PZ d*2^(8-d.length):=by
      rw[Sh,y08]
      have:∀n,PZ (List.replicate n false)=0:=λn=>by
       induction n with
       |zero=>rfl
       |succ n j=>rw[y12,PZ,j];simp
      rw[this];rfl
     refine Z6 (by simp;omega) ?_;rw[Qx,B];have v:=RD d
     have:PZ d*2^(8-d.length)<2^8:=by
      have:PZ d*2^(8-d.length)<2^d.length*2^(8-d.length):=y2G v (y0v _)
      rwa [<-y0M,show d.length+(8-d.length)=8 by omega] at this
     unfold WH;rw[y3c];rw[Nat.mod_mod,y0g this]
 exact key l.length l ω
def z6S (c:Nat)(j:c<256)(room n:Nat)(o:room<=8)(l:n<=room):PZ (((PF 8 c).drop (8-room)).take n)=c%2^room / 2^(room-n):=by
 have d:PF 8 c=PF (8-room) (c / 2^room)++PF room c:=by rw[<-So,show 8-room+room=8 by omega]
 have e:PF room c=PF n (c / 2^(room-n))++PF (room-n) c:=by rw[<-So,show n+(room-n)=room by omega]
 rw[d,y19 ξ,e,y1f ξ,Qx]
 have:c%2^room / 2^(room-n)=c / 2^(room-n)%2^n:=by
  have h:2^room=2^(room-n)*2^n:=by rw[<-y0M,show room-n+n=room by omega]
  rw[h,Nat.mod_mul_right_div_self]
 rw[this]
theorem Ue (c:UInt8)(s:P8):PA (c::s)=PF 8 c.toNat++PA s:=rfl
theorem Uf:∀(k:Nat)(s:P8),PA (s.drop k)=(PA s).drop (8*k)
 |0,s=>ξ
 |k+1,[]=>by simp[PA]
 | k + 1, c :: s => by
   have e:(PF 8 c.toNat++PA s).drop (8+8*k)=(PA s).drop (8*k):=by rw[<-y0E,y19 ξ]
   rw[y2e,Uf k s,Ue,show 8*(k+1)=8+8*k by omega,e]
theorem Vp:∀(k:Nat)(s:P8),PA (s.take k)=(PA s).take (8*k)
 |0,s=>by simp[PA]
 |k+1,[]=>by simp[PA]
 | k + 1, c :: s => by
   have e:(PF 8 c.toNat++PA s).take (8+8*k)=PF 8 c.toNat++(PA s).take (8*k):=by
    have:=y38 (l₁:=PF 8 c.toNat) (l₂:=PA s) (8*k)
    rwa [bitsN_length] at this
   rw[y3B,Ue,Vp k s,Ue,show 8*(k+1)=8+8*k by omega,e]
def zdV {s:P8}{c:UInt8}(h:s[i]? =some c):((PA s).drop (8*i)).take 8=PF 8 c.toNat:=by
 rw[<-Uf]
 obtain⟨hi,e⟩:=y0m.1 h
 rw[y2r hi,e,show PA (c::s.drop (i+1))=PF 8 c.toNat++PA (s.drop (i+1)) from rfl,y1f ξ]
def z6x {s:P8}{d n:Nat}{c:UInt8}(h:s[d / 8]? =some c)(l:n<=8-d%8):PZ (((PA s).drop d).take n)=c.toNat%2^(8-d%8) / 2^(8-d%8-n):=by
 have e:=zdV h
 have j:=z6S c.toNat (by have:=c.toNat_lt;omega) (8-d%8) n ω l
 rw[<-j,<-e]
 congr 1
 rw[y1y,y1E,y0E,show 8*(d / 8)+(8-(8-d%8))=d by omega]
 congr 1
 omega
def z84 {e:List Bool}(q:1<=e.length)(r:bs.length%8+e.length<=8):∃(c:P8)(x y:UInt8),(if bs.length%8=0 then PJ bs++[0] else PJ bs)=c++[x]/\PJ (bs++e)=c++[y]/\y.toNat=(x.toNat |||(PZ e*2^(8-bs.length%8-e.length))):=by
 obtain⟨c,d,h,j,o⟩:∃c d,bs=c++d/\c.length%8=0/\d.length=bs.length%8:=⟨bs.take (8*(bs.length / 8)),bs.drop (8*(bs.length / 8)),(y1c _ _).symm,by rw[y0d];omega,by rw[y07];omega⟩
 have n:=z9n (d:=d) (e:=e) ω
 rw[<-o]
 refine⟨PJ c,WH d,WH (d++e),?_,?_,n⟩
 ·by_cases l:d.length=0
  ·have:d=[]:=y0t l;subst this;rw[if_pos ξ,h,y0o,z9w]
  ·rw[if_neg ω,h,YA j ω ω]
 ·rw[h,y05,YA j (by rw[Pe];omega) (by rw[Pe];omega)]
abbrev Pt (n:Nat):Value:= .int .u64 (n:Int)
theorem WB {v:Value}{T s n}{j:List Value}(h:Sl w v T s n j):oneV v=true:=by
 rcases h.shape with⟨rfl,-⟩|⟨g,c,rfl,-⟩<;>rfl
section
variable {e:Env}{d:Option Nat}{pos:String}{x:Operand}{n:Nat}
def Xm (r:look e x=some (.int k (m:Int)))(s:look e y=some (.int k (n:Int)))(q:k.signed=false)(u:m<2^k.bits)(h:n<=m):Y P e ⟨d,.binOp .sub t x y t',ty,pos,aft,g⟩ (.int k ((m-n:Nat):Int)) w w:=fun ρ j=>by
 have l:(m:Int)-n=((m-n:Nat):Int):=ω
 have o:k.wrap ((m-n:Nat):Int)=((m-n:Nat):Int):=z1E q ω
 simp[execOp,go_sem,j _ _ r,j _ _ s,l,o]
def zj0 {c:Nat}(o:P.underlying t=some (.slice el))(j:P.underlying el=some (.int .u8))(h:P.underlying t'=some .string)(q:look e x=some (.slice none 0 c)):Y P e ⟨d,.convert t t' x,ty,pos,aft,g⟩ (S []) w w:=fun ρ r=>by
 have l:(convert t t' (.slice none 0 c)).run P w= .ok (S []) w:=by
  rw[run_convert_bytes_string w t t' el none 0 c o j h];rfl
 simp only[execOp,r _ _ q,y06,l,y0D,y04]
theorem zkt {n:Nat}{l:List UInt8}(r:P.underlying t=some (.slice el))(o:P.underlying el=some (.int .u8))(j:P.underlying t'=some .string)(s:look e x=some (.slice (some ⟨gb,0,none⟩) n cap))(h:Sl w (.slice (some ⟨gb,0,none⟩) n cap) el 1 n (l.map TX)):
  Y P e ⟨d,.convert t t' x,ty,pos,aft,g⟩ (S l) w w:=by
 obtain⟨cur,q,-,-,-,ht⟩:=h.row
 refine zb5 r o j s q.OZ (by rw[y13,<-ht,y0c]) ?_
 have:=h.len
 rw[y0k] at this
 omega
end
theorem Qs {b n:Nat}{v:Value}(h:Rd w (.slice (some ⟨b,off,none⟩) n cap) 1 n vs)(o:vs[i]? =some v):w.cell? ⟨b,off+i*1,none⟩=some v:=by
 rcases h.2 with⟨c,l,s⟩|⟨r,q,j,e,l⟩
 ·have hi:=(y0m.1 o).1;have:=h.1;omega
 ·cases e;rw[y0c];exact l i v o
structure WrM (w:World)(p:Nat)(bv:Value)(bs:List Bool):Prop where
 OZ:Pm w p [bv,I (bs.length:Int)] 283
 sl:Sl w bv 5 1 (PJ bs).length ((PJ bs).map TX)
 ne:bv.ownBlock≠some p
def fpW (p:Nat)(h:Value)(k:Nat):Prop:=k=p\/h.ownBlock=some k
def Za (w:World)(p:Nat)(bs:List Bool)(F:Nat->Prop):Prop:=∃h,WrM w p h bs/\∀k,F k↔fpW p h k
def WrR (p:Nat)(F:Nat->Prop)(w w':World)(bs:List Bool):Prop:=∃h,Za w' p bs h/\Kp F w w'/\∀k,h k->F k\/w.heap.size<=k
section
variable {p:Nat}{S:Nat->Prop}
def Za.lt (h:Za w p bs F){k:Nat}(o:F k):k<w.heap.size:=by
 obtain⟨q,j,l⟩:=h
 rcases (l k).1 o with e| e
 ·rw[e];exact j.OZ.lt
 ·exact j.sl.lt e
theorem Za.kp (h:Za w p bs F)(k:Kp S w w')(o:∀i,F i->¬S i):Za w' p bs F:=by
 obtain⟨q,l,j⟩:=h
 exact⟨q,⟨k.OZ l.OZ (o p ((j p).2 (.inl O))),l.sl.kp k (λg hg=>o g ((j g).2 (.inr hg))),l.ne⟩,j⟩
theorem Za.ext (h:Za w p bs F)(k:Ext w w'):Za w' p bs F:=h.kp k.kp λ_ _=>id
end
section
variable {p:Nat}
theorem V7 (w:World):PN prog 130 [] w λv w'=>∃p F,v=ptr p 0/\Za w' p [] F/\Ext w w'/\∀k,F k->w.heap.size<=k:=by
 refine py (e:=[]) func130 O ntmps130 O O<|qN O<|Ro O<|qV (T3 (cs:=[_,_]) zhF O zk1 O O)<|Pb O O (RP O O) ?_
 rintro _ w1⟨p,rfl,l,j,hB⟩
 refine Pq O<|P3 func130 O ?_
 exact⟨_,rfl,p,_,rfl,⟨_,⟨hB,Sl.nil _ _ _,by simp[Value.ownBlock]⟩,λ_=>y0U⟩,j,λk h=>by
  rcases h with e| e
  ·omega
  ·simp[Value.ownBlock] at e⟩
theorem zce (h:Za w p bs F)(v n:Nat)(hn:n<=64)(hv:v<2^n)(hl:bs.length+n<=1000000000):
  PN prog 168 [ptr p 0,Pt v,I (n:Int)] w λu w'=>u= .tuple #[]/\WrR p F w w' (bs++PF n v):=by
 obtain⟨bv,hM,hF⟩:=h
 have JL:v<18446744073709551616:=by
  have:=y0r (show 0<2 by decide) hn;have e:(2:Nat)^64=18446744073709551616:=ψ
  omega
 have eF:maxLen=9223372036854775807:=rfl
 refine py (e:=[(0,_),(1,_),(2,_)]) func168 O ntmps168 O O<|P6<|RX (α:=Nat×Value×List Bool) (n,bv,bs) (λx=>[(0,ptr p 0),(1,Pt v),(2,I (x.1:Int))]) (λx w'=>x.1<=n/\WrM w' p x.2.1 x.2.2/\x.2.2=bs++PF (n-x.1) (v / 2^x.1)/\Kp F w w'/\(∀k,fpW p x.2.1 k->F k\/w.heap.size<=k)) (λx=>x.1) ?hI ?hround
 case hI=>exact⟨y02 _,hM,by rw[y1b];simp[PF],Kp.refl _ _,λk a=> .inl ((hF k).2 a)⟩
 case hround =>
  rintro⟨k,J,b1⟩ w1 ⟨a,o,U,Q,A⟩ ih;dsimp only at a o U A;have E:=o.OZ;have JM:b1.length<=bs.length+n:=by rw[U,Pe,bitsN_length];omega
  have jO:b1.length&&&7=b1.length%8:=y0X b1.length 3;have mY:=Q.size;have gT:=E.lt
  try dsimp only
  refine Qi O<|R8 O<|P4<|Pn O (λaP=>?_)<|λaP=>?_
  ·have ib : 0 < k := by omega
   obtain⟨take,mZ⟩:∃take,min k (8-b1.length%8)=take:=⟨_,O⟩;have sV:1<=take/\take<=k/\take<=8-b1.length%8:=ω
   obtain⟨e,Z⟩:∃e,PF take (v / 2^(k-take))=e:=⟨_,O⟩;have b:e.length=take:=by rw[<-Z];simp
   have m:PZ e=v / 2^(k-take)%2^take:=by rw[<-Z,Qx]
   obtain⟨c,x,y,W,hY,C⟩:=z84 (bs:=b1) (e:=e) ω ω;refine P5 (P6 (Qi O (PQ O (Pr Xq O (qV (Pl U3 O O E O) (qV (Y2 O O ω ω) ?_))))));rw[jO];refine Rx O<|P4<|Qf (λK w'=>K=[(0,ptr p 0),(1,Pt v),(2,I (k:Int))]/\∃l,Pm w' p [l,I (b1.length:Int)] 283/\Sl w' l 5 1 (c++[x]).length ((c++[x]).map TX)/\l.ownBlock≠some p/\Kp F w w'/\∀k,fpW p l k->F k\/w.heap.size<=k) ?n6<|λn6=>?n8
   case n6=>
    rintro K w2⟨rfl,l,Y,V,gj,am,sW⟩
    obtain⟨M,c2,rfl,fg⟩:∃g cp,l= .slice (some ⟨g,0,none⟩) (c++[x]).length cp/\(c++[x]).length<=cp:=by
     rcases V.shape with⟨-,e⟩| h
     ·simp at e
     ·exact h
    have ff:(c++[x]).length=c.length+1:=ξ
    have HV:p≠M:=λe=>gj (by rw[e];rfl);have lI:(PJ (b1++e)).length=c.length+1:=by rw[hY];simp
    rw[PY,Pe] at lI;obtain⟨T,s⟩:∃T,2^take=T:=⟨_,O⟩;obtain⟨D,hD⟩:∃D,2^(k-take)=D:=⟨_,O⟩;obtain⟨R,X⟩:∃R,2^(8-b1.length%8-take)=R:=⟨_,O⟩;rw[s,hD] at m;rw[b,X] at C
    have HW:1<=T/\T<=256:=by
     rw[<-s];exact⟨y0v _,by have:=y0r (show 0<2 by decide) (show take<=8 by omega);simpa using this⟩
    have j5:(v / D)&&&(T-1)=v / D%T:=by rw[<-s];exact y0X _ _
    have NU:v / D<=v:=y0R _ _;have JN:v / D%T<T:=y15 _ ω
    have NV:PZ e*R<256:=by
     have h1:=RD e;rw[b,s] at h1;have h2:PZ e*R<T*R:=y2G h1 (by rw[<-X];exact y0v _);have h3:T*R=2^(8-b1.length%8):=by rw[<-s,<-X,<-y0M,show take+(8-b1.length%8-take)=8-b1.length%8 by omega]
     have h4:=y0r (show 0<2 by decide) (show 8-b1.length%8<=8 by omega);have h5:(2:Nat)^8=256:=ψ
     omega
    have cG:=x.toNat_lt;refine PL O (PQ O (Pr Xq O (qV (Pl U3 O O Y O) (qV (Y2 O O ω ω) ?_))));rw[jO];refine RR O ?_;rw[show(8-((b1.length%8:Nat):Int))=((8-b1.length%8:Nat):Int) by omega];refine Ro O<|PB O<|qV (ymi O O) ?_;rw[show min (k:Int) ((8-b1.length%8:Nat):Int)=((take:Nat):Int) by omega];have hg:=Ext.Pz w2;refine Pq O (OY (RI (λw'=>Ext w2 w') O (Pu 0 O O hg (Pu 1 O O hg (Pu 2 O O hg (P7 3 O (Yf O O ω) hg (Pu 5 O O hg ?_)))))));rw[show((k:Int)-(take:Int))=((k-take:Nat):Int) by omega];refine P7 4 O (Vk (k-take) D O O (by show k-take<=64;omega) hD) hg ?_;refine P7 6 O (RN take T O O ω s) hg ?_;rw[show(1*T)%18446744073709551616=T by omega];refine P7 7 O (Xm (n:=1) O O O (by show T<2^64;omega) ω) hg ?_;refine P7 8 O (Va O O ω ω) hg ?_;rw[j5];refine P7 9 O (zeB O RW U5) hg ?_;rw[show v / D%T%256=PZ e by rw[m];exact y0g (y2A JN HW.2)];have G:=hg.OZ Y;have L:=V.ext hg;have j:Ext w2.drew w2.drew.drew:=Ext.Pz w2.drew;refine P7 10 O (S6 O) hg (qE (OY (PC [19] (λw'=>Ext w2.drew w') Pd O (Qm 0 O O j (PH 1 O (QL O) j (PH 2 O (PU Z5 O) j (qL 3 O (λ_ h=>Pl QX O O (h.OZ G) O) j (Qm 4 O O j (PH 5 O (QL O) j (PH 6 O (PU Z5 O) j (qL 7 O (λ_ h=>Pl QX O O (h.OZ G) O) j (PH 8 O (T7 QX O) j (Qm 12 O O j ?_)))))))))))));refine Qm 13 O O j (Qm 14 O O j (PH 15 O (Yf O O ω) j (PH 9 O (Yf O O ω) j ?_)));rw[show(((c++[x]).length:Int)-1)=((c.length:Nat):Int) by omega];refine PH 10 O (Qc QX YS O O ω) j (qL 11 O (λ_ hS=>PG U5 O O (Qs (L.rd.ext hS) (show((c++[x]).map TX)[c.length]? =some (TX x) by simp))) j ?_);rw[show(((8-b1.length%8:Nat):Int)-(take:Int))=((8-b1.length%8-take:Nat):Int) by omega];refine PH 16 O (zlf (8-b1.length%8-take) R O O ω X) j ?_;rw[show PZ e*R%256=PZ e*R by omega];refine PH 17 O (zlE O O ω ω) j (PH 18 O (Qc QX YS O O ω) j (TV [19] (qO 19 (Q0 (i:=19) O O (Sf YS O O O (L.ext j) ξ) ?_))));rintro w4⟨P,H⟩;refine⟨trivial,?_⟩
    rw[show((c++[x]).map TX).set (0+c.length*1) (.int .u8 ((x.toNat |||PZ e*R:Nat):Int))=(c++[y]).map TX by
     rw[y09,y0c,y0f,y0f,y1F _ _ ξ]
     simp[TX,C]] at P
    have r:=H.OZ (j.OZ G) HV;refine qE (PL O (PQ O (Pr Xq O (qV (Pl U3 O O r O) (Ph O (Qj O (PQ O (Pr Xq O (Po O (QZ Qe O O O r ξ) ?_)))))))));rintro f⟨N,t⟩;rw[show((b1.length:Int)+(take:Int))=(((b1++e).length:Nat):Int) by rw[Pe,b];omega] at N;replace N:Pm f p [.slice (some ⟨M,0,none⟩) (c++[x]).length c2,I ((b1++e).length:Int)] 283:=N
    have fD:=P.kp t (λg hg e=>by
                         have:M=g:=by simpa[Value.ownBlock] using hg
                         omega)
    refine P4<|Pc O<|PB O<|RR O<|Pq O<|An ?_;rw[show((k:Int)-(take:Int))=((k-take:Nat):Int) by omega];refine(ih (k-take,.slice (some ⟨M,0,none⟩) (c++[x]).length c2,b1++e) f ⟨by dsimp only;omega,⟨N,?_,gj⟩,?_,?_,sW⟩ (by dsimp only;omega)).qb
    ·rw[hY];have e1:(c++[y]).length=(c++[x]).length:=ξ
     rw[e1];exact fD
    ·dsimp only;rw[U,y05]
     congr 1
     rw[<-Z,show n-(k-take)=(n-k)+take by omega,So]
     congr 2
     rw[Nat.div_div_eq_div_mul,<-y0M,show k-take+take=k by omega]
    ·have lJ:Kp (fpW p (.slice (some ⟨M,0,none⟩) (c++[x]).length c2)) w2 f:=((hg.trans j).kp.trans (H.Pk (λi e=> .inr (by rw[e];rfl)))).trans (t.Pk (λi e=> .inl e));exact am.It lJ (λi hi=>(sW i hi).symm)
   case n8=>
    refine Pn O (λh0=>?_)<|λh0=>?_
    ·rw[if_pos ω] at W;refine Pc O (PB O (PQ O (Pr Z5 O (qV (Pl QX O O E O) (Pb O O (YD (cs:=[_]) (zs:=[Value.int .u8 0]) QX YS O Pd O O O ψ) ?_)))));rintro _ w2⟨b2,rfl,⟨bU,B,Y⟩,V⟩;refine Pb O O (pap QX YS O ψ O O (o.sl.ext B) V.rd (by intro c hc;simp at hc;subst hc;rfl) (by rw[PY];omega) (by rw[PY];omega)) ?_;rintro q w3⟨L,z,kQ,-⟩;have G:=z.OZ (B.OZ E) o.ne;refine PQ O (Pr Z5 O (Po O (QZ Y7 O O (WB L) G ξ) ?_));rintro w4⟨r,H⟩;replace r:Pm w4 p [q,I (b1.length:Int)] 283:=r;refine P4 ?_
     have fi:q.ownBlock≠some p:=λe=>by
      rcases kQ p e with e| e
      ·exact o.ne e
      ·have:=B.size;omega
     refine(n6 _ _ ⟨O,q,r,?_,fi,?_,?_⟩).qb
     ·rw[<-W,Pe,y0f];exact L.kp H (λg hg e=>fi (e▸hg))
     ·exact Q.It ((B.kp.trans (z.Pk (λk e=> .inr e))).trans (H.Pk (λk e=> .inl e))) (λi hi=>(A i hi).symm)
     ·intro i hi;rcases hi with e| e
      ·exact A i (.inl e)
      ·rcases kQ i e with e| e
       ·exact A i (.inr e)
       ·have:=B.size;exact .inr ω
    ·rw[if_neg ω] at W;refine P5 ?_;exact(n6 _ _ ⟨O,J,E,by rw[<-W];exact o.sl,o.ne,Q,A⟩).qb
  ·have:k=0:=ω
   subst this;refine Pf O<|Qu func168 O (⟨_,O,O,_,⟨J,?_,λ_=>y0U⟩,Q,A⟩);rw[U,y2z,Nat.pow_zero,Nat.div_one] at o;exact o
def z9A (v n:Nat)(l:n<=64)(j:v<2^n)(w:World):PN prog 167 [Pt v,I (n:Int)] w λu w'=>u= .bool true/\w'=w:=by
 refine py (e:=[(0,_),(1,_)]) func167 O ntmps167 O O<|qN O<|Rq O<|Uj O<|Ph O<|SS (λh=>?_)<|λh=>?_
 ·refine QV<|QV<|Rr O<|Pq O<|P3 func167 O ?_;exact⟨_,O,O,O⟩
 ·refine PB O (qV (Vk n (2^n) O O (by show n<=64;omega) O) ?_);rw[y2q j];refine Rx O<|Ql O<|Pq O<|P3 func167 O ?_;exact⟨_,O,by simp[Qy],O⟩
theorem SK (h:Za w p bs F)(v n:Nat)(j:n<=64)(l:v<2^n)(G:bs.length+n<=134217728):
  PN prog 131 [ptr p 0,Pt v,I (n:Int)] w λu w'=>u=I 0/\WrR p F w w' (bs++PF n v):=by
 obtain⟨B,s,E⟩:=id h
 have hB:=s.OZ
 refine py (e:=[(0,_),(1,_),(2,_)]) func131 O ntmps131 O O<|Re O<|R0<|PL O<|qV (Qz z2M O O)<|Pq O<|P9 O<|PL O<|QY O<|Ph O<|SS (λo=>?_)<|λo=>?_
 ·omega
 ·refine Ph O<|R8 O<|Ql O<|Ph O<|SS (λq=>?_)<|λq=>?_
  ·omega
  ·refine PB O<|Px zij O (z9A v n j l w) ?_;rintro _ w⟨rfl,rfl⟩;refine qV (SD O)<|Ql O<|Pq O<|P9 O<|QG O<|PQ O<|Pr Xq O<|qV (Pl U3 O O hB O)<|RR O<|R8 O<|Pq O<|PM.qb (e:=[(0,_),(1,_),(2,_),(6,_),(23,_)]) ?_;refine Pn O (λr=>?_)<|λr=>?_
   ·omega
   ·refine P5 (An (QG O (Ph O (Px zjX O (zce h v n j l ω) ?_))));rintro _ w1⟨rfl,A⟩;refine qM O<|Pq O<|P3 func131 O ?_;exact⟨_,O,O,A⟩
theorem XE (h:Za w p bs F):PN prog 132 [ptr p 0] w λu w'=>u= .tuple #[S (PJ bs),I 0]/\w'=w:=by
 obtain⟨s,j,v⟩:=h
 have hB:=j.OZ
 have o:=j.sl
 refine py (e:=[(0,_)]) func132 O ntmps132 O O<|qN O<|QS O<|Qi O<|qV (Qz z2M O O)<|QC O<|PL O<|PQ O<|Pr Z5 O<|qV (Pl QX O O hB O) ?_
 rcases o.shape with⟨rfl,q⟩|⟨g,cap,rfl,A⟩
 ·have r:PJ bs=[]:=y0t q;rw[r];refine qV (zj0 QX U5 U9 O)<|QS O<|P3 func132 O ?_;exact⟨_,O,O,O⟩
 ·refine qV (zkt (l:=PJ bs) QX U5 U9 O o)<|QS O<|P3 func132 O ?_;exact⟨_,O,O,O⟩
def We (h:Za w p bs F):PN prog 135 [ptr p 0] w λu w'=>u=I (bs.length:Int)/\w'=w:=by
 obtain⟨l,j,o⟩:=h
 have hB:=j.OZ
 refine py (e:=[(0,_)]) func135 O ntmps135 O O<|Re O<|Qi O<|qV (Qz z2M O O)<|QC O<|PL O<|PQ O<|Pr Xq O<|qV (Pl U3 O O hB O)<|Pq O<|P3 func135 O ?_
 exact⟨_,O,O,O⟩
end
def Ul (w:World)(r:Nat)(s:P8)(a:Nat):Prop:=Pm w r [S s,I (a:Int)] 321/\a<=8*s.length/\s.length<=1000000000
section
variable {r:Nat}{s:P8}{a:Nat}
theorem Xs (s:P8)(d:s.length<=1000000000)(w:World):PN prog 171 [S s] w λv w'=>∃r,v=ptr r 0/\Ul w' r s 0/\Ext w w'/\w.heap.size<=r:=by
 refine py (e:=[(0,_)]) func171 O ntmps171 O O<|qN O<|Rq O<|qV (T3 (cs:=[_,_]) zja O ziQ O O)<|Pb O O (RP O O) ?_
 rintro _ w1⟨r,rfl,j,h,hB⟩
 refine Pq O<|P3 func171 O ?_
 exact⟨_,O,r,O,⟨hB,y00 _,d⟩,h,ω⟩
def UF (h:Ul w r s a):PN prog 187 [ptr r 0] w λv w'=>v=I (a:Int)/\w'=w:=by
 obtain⟨hB,d,j⟩:=h
 refine py (e:=[(0,_)]) func187 O ntmps187 O O<|Re O<|Qi O<|qV (Qz UU O O)<|QC O<|PL O<|PQ O<|Pr VG O<|qV (Pl U3 O O hB O)<|Pq O<|P3 func187 O ?_
 exact⟨_,O,O,O⟩
def za7 (h:Ul w r s a):PN prog 203 [ptr r 0] w λv w'=>v=I ((8*s.length-a:Nat):Int)/\Ext w w':=by
 obtain⟨hB,d,j⟩:=h
 refine py (e:=[(0,_)]) func203 O ntmps203 O O<|Re O<|Qi O<|qV (Qz UU O O) ?_
 have hg:=Ext.Pz w
 refine QC O<|OY<|RI (λw'=>Ext w w') O<|Pu 0 O O hg<|P7 1 O (QL O) hg<|P7 2 O (PU z4h O) hg<|qT 3 O (λ_ h=>Pl U9 O O (h.OZ hB) O) hg<|P7 4 O (WW U9 O) hg<|P7 5 O (Y8 O O ω) hg<|Pu 6 O O hg<|P7 7 O (QL O) hg<|P7 8 O (PU VG O) hg<|qT 9 O (λ_ h=>Pl U3 O O (h.OZ hB) O) hg<|P7 10 O (Yf O O ω) hg ?_
 refine P7 11 O (S6 O) hg<|qE<|P3 func203 O (⟨_,O,?_,hg⟩)
 simp only[Qy]
 congr 1
 omega
def ZU (h:Ul w r s a)(k:Nat)(n:k<=8*s.length):PN prog 215 [ptr r 0,I (k:Int)] w λv w'=>v=I 0/\Ul w' r s k/\Kp (λi=>i=r) w w':=by
 obtain⟨hB,o,l⟩:=h
 refine py (e:=[(0,_),(1,_)]) func215 O ntmps215 O O<|Re O<|R0<|PL O<|qV (Qz UU O O)<|Pq O<|P9 O<|PL O<|QY O<|Ph O<|SS (λc1=>?_)<|λc1=>?_
 ·omega
 ·refine PB O<|PQ O<|Pr z4h O<|qV (Pl U9 O O hB O)<|qV (WW U9 O)<|qV (Y8 O O ω)<|R8 O<|Ql O<|Pq O<|Pn O (λc2=>?_)<|λc2=>?_
  ·omega
  ·refine P5 (An (QG O (PQ O (Pr VG O (Po O (QZ Qe O O O hB ξ) ?_)))));rintro w1⟨j,d⟩;refine qM O<|Pq O<|P3 func215 O ?_;exact⟨_,O,O,⟨j,n,l⟩,d⟩
theorem z7s {V n:Nat}(h:Ul w r s a)(l:Pm w b2 [ptr r 0] 289)(p:Pm w b6 [Pt V] 39)(T:1<=n)(X:n<=8-a%8)(t:a+n<=8*s.length)(Q:V*2^n+2^n<=18446744073709551616)(d1:b6≠r)(d2:b2≠r)(d3:b2≠b6):
  PN prog 204 [I (n:Int),ptr b2 0,ptr b6 0] w λu w'=>u= .tuple #[]/\Ul w' r s (a+n)/\Pm w' b6 [Pt (V*2^n+PZ (((PA s).drop a).take n))] 39/\Pm w' b2 [ptr r 0] 289/\Kp (λk=>k=b6\/k=r) w w':=by
 obtain⟨hB,P,y⟩:=h
 have z:a&&&7=a%8:=y0X a 3
 obtain⟨c,S⟩:∃c,s[a / 8]? =some c:=⟨_,y03 ω⟩
 have q:=z6x S X
 obtain⟨j,W⟩:∃j,PZ (((PA s).drop a).take n)=j:=⟨_,O⟩
 have J:j<2^n:=by
  rw[<-W];have L:=RD (((PA s).drop a).take n);rw[y0d,y07,bitsT_length,y0B ω] at L;exact L
 rw[W] at q⊢
 have F:=c.toNat_lt
 obtain⟨d,Y⟩:∃d,8-a%8=d:=⟨_,O⟩
 rw[Y] at q X
 have U:c.toNat&&&(2^d-1)=c.toNat%2^d:=y0X _ _
 obtain⟨R,A⟩:∃R,2^d=R:=⟨_,O⟩
 have wg:1<=R/\R<=256:=by
  rw[<-A];exact⟨y0v _,by have:=y0r (show 0<2 by decide) (show d<=8 by omega);simpa using this⟩
 rw[A] at q U
 have mK:c.toNat%R<=c.toNat:=Nat.mod_le _ _
 have Z:s.getD (a / 8) 0=c:=by rw[y17,S];rfl
 refine py (e:=[(0,_),(1,_),(2,_)]) func204 O ntmps204 O O<|qN O<|qV (Pl UU O O l O)<|PQ O<|Pr VG O<|qV (Pl U3 O O hB O)<|qV (Y2 O O ω ω) ?_
 rw[z]
 refine RR O ?_
 rw[show(8-((a%8:Nat):Int))=((d:Nat):Int) by omega]
 have hg:=Ext.Pz w
 refine Pq O<|OY<|RI (λw'=>Ext w w') O<|qT 0 O (λ_ h=>(Pl UU O O (h.OZ l) O)) hg<|P7 1 O (QL O) hg<|P7 2 O (PU z4h O) hg<|qT 3 O (λ_ h=>(Pl U9 O O (h.OZ hB) O)) hg<|qT 4 O (λ_ h=>(Pl UU O O (h.OZ l) O)) hg<|P7 5 O (QL O) hg<|P7 6 O (PU VG O) hg<|qT 7 O (λ_ h=>(Pl U3 O O (h.OZ hB) O)) hg<|P7 8 O (X5 O O ω) hg<|Pu 11 O O hg<|Pu 15 O O hg ?_
 refine Pu 16 O O hg<|P7 17 O (Yf O O ω) hg ?_
 rw[show((a:Int) / 8)=((a / 8:Nat):Int) by omega]
 refine P7 9 O (zkc U9 O O ω) hg<|P7 10 O (zcz O U5 U3 ψ) hg ?_
 rw[Z]
 refine P7 12 O (zlX d R O O ω A ω) hg ?_
 rw[show(1*(R:Int))=((R:Nat):Int) by omega]
 refine P7 13 O (Yf O O ω) hg ?_
 rw[show((R:Int)-1)=((R-1:Nat):Int) by omega]
 refine P7 14 O (Y2 O O ω ω) hg ?_
 rw[U]
 rw[show((d:Int)-(n:Int))=((d-n:Nat):Int) by omega]
 refine P7 18 O (Vk (d-n) (2^(d-n)) O O (by show d-n<=64;omega) O) hg ?_
 rw[<-q]
 refine P7 19 O (S6 O) hg<|qE<|PM.qb (e:=[(0,_),(1,_),(2,_),(5,_)]) ?_
 refine qN O ?_
 have m:=hg.OZ hB
 have f:=hg.OZ l
 have B:=hg.OZ p
 obtain⟨N,hN⟩:∃N,2^n=N:=⟨_,O⟩
 rw[hN] at Q J
 have K:1<=N:=by rw[<-hN];exact y0v _
 obtain⟨M,o⟩:∃M,V*N=M:=⟨_,O⟩
 rw[o] at Q
 have C:M |||j=M+j:=by
  have:=y21 (i:=n) (b:=j) (by rw[hN];exact J) V;rw[hN,y0J N V,o] at this;exact this.symm
 rw[hN,o]
 have D:n<=64:=ω
 refine qV (Pl RW O O B O)<|Ph O<|qV (RN n N O O D hN) ?_
 rw[o,y0g (show M<18446744073709551616 by omega)]
 refine Ph O<|qV (QH O U3 RW ω)<|qV (z2q O O ω ω) ?_
 rw[C]
 refine Po O (QZ TH O O O B ξ) ?_
 rintro w2⟨g,v⟩
 have G:=v.OZ m (Ne.symm d1)
 have E:=v.OZ f d3
 refine P4<|Pc O<|qV (Pl UU O O E O)<|PQ O<|Pr VG O<|qV (Pl U3 O O G O)<|Ph O<|Qj O<|PQ O<|Pr VG O<|Po O (QZ Qe O O O G ξ) ?_
 rintro w3⟨H,x⟩
 rw[show((a:Int)+(n:Int))=((a+n:Nat):Int) by omega] at H
 refine P4<|Qu func204 O ?_
 exact⟨_,O,O,⟨H,t,y⟩,x.OZ g d1,x.OZ E d2,(hg.kp.trans (v.Pk (λk e=> .inl e))).trans (x.Pk (λk e=> .inr e))⟩
theorem Wf (h:Ul w r s a)(n:Nat)(K:n<=64):
  PN prog 173 [ptr r 0,I (n:Int)] w λv w'=>(a+n<=8*s.length/\v= .tuple #[Pt (PZ (((PA s).drop a).take n)),I 0]/\Ul w' r s (a+n)/\Kp (λk=>k=r) w w')\/(8*s.length<a+n/\v= .tuple #[Pt 0,I 4]/\Ext w w'):=by
 have P:=h.1.lt
 obtain⟨-,D,b⟩:=id h
 refine py (e:=[(0,_),(1,_)]) func173 O ntmps173 O O<|qN O<|Pb O O (RP O (cs:=[ptr r 0]) O) ?_
 rintro _ w1⟨b2,rfl,y,j,l⟩
 have o:Ul w1 r s a:=⟨j.OZ h.1,h.2⟩
 refine QS O<|R0<|qN O<|qV (Pl UU O O l O)<|qV (Qz UU O O)<|Pq O<|P9 O<|PL O<|QY O<|Ph O<|SS (λc1=>?_)<|λc1=>?_
 ·omega
 ·refine Ph O<|R8 O<|Ql O<|Pq O<|Pn O (λc2=>?_)<|λc2=>?_
  ·omega
  ·refine PL O<|qV (Pl UU O O l O)<|Px zid O (za7 o) ?_;rintro _ w2⟨rfl,x⟩;refine R8 O<|Pq O<|Pn O (λc3=>?_)<|λc3=>?_
   ·refine qN O<|QS O<|P3 func173 O ?_;exact⟨_,O,.inr ⟨ω,O,j.trans x⟩⟩
   ·refine P5<|An<|qN O<|Pb O O (S5 (cs:=[_]) TH O) ?_;rintro _ m⟨b6,rfl,oT,U,u⟩;replace u:Pm m b6 [Pt 0] 39:=u;have G:=x.trans U;have J:=j.trans G;have mY:=j.size;have na:=x.size;have T:=l.lt;have X:a+n<=8*s.length:=ω
    refine qM O<|qV (ymf (first:=[]) (caps:=[.tmp 2,.tmp 6]) O O)<|Pq O<|R0<|RX (α:=Nat) n (λk=>[(1,I (k:Int)),(2,ptr b2 0),(6,ptr b6 0),(7,.func (.func 204) #[] #[ptr b2 0,ptr b6 0])]) (λk w'=>k<=n/\Ul w' r s (a+(n-k))/\Pm w' b6 [Pt (PZ (((PA s).drop a).take (n-k)))] 39/\Pm w' b2 [ptr r 0] 289/\Kp (λi=>i=r) w w') (λk=>k) ?hI ?hround
    case hI=>exact⟨y02 _,⟨by rw[y1b];exact J.OZ h.1,ω,b⟩,by rw[y1b];exact u,G.OZ l,J.kp⟩
    case hround=>
     rintro k w4⟨F,d,q,B,H⟩ f;have E:=d.1
     try dsimp only
     refine Qi O<|R8 O<|P4<|Pn O (λS=>?_)<|λS=>?_
     ·obtain⟨p,L⟩:∃p,a+(n-k)=p:=⟨_,O⟩;rw[L] at E d;have g:p&&&7=p%8:=y0X p 3;obtain⟨take,mZ⟩:∃take,min k (8-p%8)=take:=⟨_,O⟩;have M:1<=take/\take<=k/\take<=8-p%8:=ω
      refine P5 (P6 (PL O (qV (Pl UU O O B O) (PQ O (Pr VG O (qV (Pl U3 O O E O) (qV (Y2 O O ω ω) ?_)))))));rw[g];refine RR O<|qV (ymi O O) ?_;rw[show min (k:Int) (8-((p%8:Nat):Int))=((take:Nat):Int) by omega];obtain⟨V,A⟩:∃V,PZ (((PA s).drop a).take (n-k))=V:=⟨_,O⟩;rw[A] at q
      have N:V*2^take+2^take<=18446744073709551616:=by
       have o:=RD (((PA s).drop a).take (n-k));rw[A,y0d,y07,bitsT_length,y0B ω] at o;have Y:(V+1)*2^take<=2^(n-k)*2^take:=y1n _ o;rw[<-y0M,y0G,y1h] at Y;have z:=y0r (show 0<2 by decide) (show n-k+take<=64 by omega);have C:(2:Nat)^64=18446744073709551616:=ψ
       omega
      refine Ro O (PB O (Rj O O (SE zkb O O) (z7s d B q M.1 M.2.2 ω N ω ω ω) ?_));rintro _ t⟨rfl,c,Q,R,W⟩;refine P4<|Pc O<|PB O<|RR O<|Pq O<|An ?_;rw[show((k:Int)-(take:Int))=((k-take:Nat):Int) by omega];refine(f (k-take) t ⟨ω,?_,?_,R,?_⟩ ω).qb
      ·rw[show a+(n-(k-take))=p+take by omega];exact c
      ·rw[show n-(k-take)=(n-k)+take by omega,List.take_add,Sh,A,y0E,L];have Z:(((PA s).drop p).take take).length=take:=by rw[y0d,y07,bitsT_length];omega
       rw[Z];exact Q
      ·exact H.It W (λi hi=>hi.elim (λe=> .inl ω) .inr)
     ·have:k=0:=ω
      subst this;rw[y2z] at d q;refine Pf O<|qN O<|qV (Pl RW O O q O)<|QS O<|P3 func173 O ?_;exact⟨_,O,.inl ⟨X,O,d,H⟩⟩
end
def Qn (v:Nat):Nat:=if v=0 then 0 else Nat.log2 v+1
def XB {v:Nat}:v<2^Qn v:=by
 unfold Qn
 split
 ·subst_vars;simp
 ·exact y3o
def z0X {v:Nat}(h:v≠0):2^(Qn v-1)<=v:=by
 unfold Qn
 rw[if_neg h,y1g]
 exact y2I h
theorem z8a {v n:Nat}(e:2^n<=v)(h:v<2^(n+1)):Qn v=n+1:=by
 have j:=y0v n
 have d:v≠0:=ω
 unfold Qn
 rw[if_neg d]
 have:=(Nat.log2_eq_iff d).2 ⟨e,h⟩
 omega
def Rz {v n:Nat}(h:v<2^n):Qn v<=n:=by
 by_cases d:v=0
 ·subst d;simp[Qn]
 ·have j:=z0X d;have e:2^(Qn v-1)<2^n:=ω
  have l:=(y34 (by decide:1<2)).1 e;have:Qn v≠0:=by unfold Qn;rw[if_neg d];omega
  omega
def S3 (v K:Nat):Nat×Nat:=
 let s:=Qn (K-1)
 let m:=2^s-K
 if v<m then(v,s-1) else(v+m,s)
def Rb (v K:Nat):List Bool:=PF (S3 v K).2 (S3 v K).1
def VA (j:1<=K):K<=2^Qn (K-1)/\(1<K->1<=Qn (K-1)/\2^(Qn (K-1)-1)+1<=K):=by
 have d:=XB (v:=K-1)
 refine⟨ω,λh=>?_⟩
 have e:=z0X (v:=K-1) ω
 refine⟨?_,ω⟩
 unfold Qn
 rw[if_neg ω];omega
def zal {v:Nat}(h:v<K):(S3 v K).1<2^(S3 v K).2:=by
 obtain⟨l,d⟩:=VA (K:=K) ω
 unfold S3
 dsimp only
 split
 ·rename_i j
  by_cases e:K=1
  ·subst e;simp[Qn] at j
  ·obtain⟨n,o⟩:=d ω;have:2^Qn (K-1)=2*2^(Qn (K-1)-1):=by rw[<-Nat.pow_succ',show(Qn (K-1)-1).succ=Qn (K-1) by omega]
   dsimp only;omega
 ·dsimp only;omega
theorem z7v {v:Nat}(h:v<K)(n:1<K)(rest:List Bool):
  let s:=Qn (K-1)
  let m:=2^s-K
  1<=s/\s-1<=(Rb v K).length/\
  ((PZ ((Rb v K).take (s-1))<m/\(Rb v K).length=s-1/\PZ ((Rb v K).take (s-1))=v)\/
   (m<=PZ ((Rb v K).take (s-1))/\(Rb v K).length=s/\2*PZ ((Rb v K).take (s-1))+PZ ((Rb v K).drop (s-1))=v+m)):=by
 obtain⟨o,j⟩:=VA (K:=K) ω
 obtain⟨l,q⟩:=j n
 have r:2^Qn (K-1)=2*2^(Qn (K-1)-1):=by rw[<-Nat.pow_succ',show(Qn (K-1)-1).succ=Qn (K-1) by omega]
 dsimp only
 unfold Rb S3
 dsimp only
 refine⟨l,?_⟩
 split
 ·rename_i d
  dsimp only;rw[bitsN_length,y0N ξ,Qx,y0g ω];exact⟨y02 _,.inl ⟨d,O,O⟩⟩
 ·rename_i d
  dsimp only;rw[bitsN_length]
  have e:PF (Qn (K-1)) (v+(2^Qn (K-1)-K))=PF (Qn (K-1)-1) ((v+(2^Qn (K-1)-K)) / 2^1)++PF 1 (v+(2^Qn (K-1)-K)):=by
   rw[<-So,show Qn (K-1)-1+1=Qn (K-1) by omega]
  rw[e,y1f ξ,y19 ξ,Qx,Qx,y0g ω];exact⟨ω,.inr ⟨ω,O,ω⟩⟩
inductive Cd where
 |unary
 |gamma
 |zeta (k:Nat)
def Cd.zeros:Cd->Nat->Nat
 | .unary,v=>v
 | .gamma,v=>Nat.log2 (v+1)
 | .zeta k,v=>Nat.log2 (v+1) / k
def Cd.rest:Cd->Nat->List Bool
 | .unary,_=>[]
 | .gamma,v=>PF (Nat.log2 (v+1)) (v+1-2^Nat.log2 (v+1))
 | .zeta k,v=>let h:=Nat.log2 (v+1) / k;Rb (v+1-2^(h*k)) (2^(h*k)*2^k-2^(h*k))
def Cd.enc (c:Cd)(v:Nat):List Bool:=List.replicate (c.zeros v) false++true::c.rest v
def Wu {v:Nat}(h:v<=281474976710654):2^Nat.log2 (v+1)<=v+1/\v+1<2^(Nat.log2 (v+1)+1)/\Nat.log2 (v+1)<=47:=by
 have d:=y2I (n:=v+1) ω
 have e:=y3o (n:=v+1)
 refine⟨d,e,?_⟩
 have j:2^Nat.log2 (v+1)<2^48:=by
  have:(2:Nat)^48=281474976710656:=ψ
  omega
 have:=(y34 (by decide:1<2)).1 j
 omega
def Yr {k v:Nat}(q:1<=k):let h:=Nat.log2 (v+1) / k;2^(h*k)<=v+1/\v+1-2^(h*k)<2^(h*k)*2^k-2^(h*k)/\1<=2^(h*k)*2^k-2^(h*k):=by
 dsimp only
 have r:=y2I (n:=v+1) ω
 have s:=y3o (n:=v+1)
 have d:Nat.log2 (v+1) / k*k<=Nat.log2 (v+1):=y1A _ _
 have j:Nat.log2 (v+1)+1<=Nat.log2 (v+1) / k*k+k:=by
  have:=y2n (Nat.log2 (v+1)) k;have:=y15 (Nat.log2 (v+1)) (show 0<k by omega);have e:=y0J k (Nat.log2 (v+1) / k);omega
 have u:2^(Nat.log2 (v+1) / k*k)<=2^Nat.log2 (v+1):=y0r ψ d
 have l:2^(Nat.log2 (v+1)+1)<=2^(Nat.log2 (v+1) / k*k+k):=y0r ψ j
 rw[y0M 2 (Nat.log2 (v+1) / k*k) k] at l
 have o:2<=2^k:=by
  have:=y0r (show 0<2 by decide) q
  simpa using this
 have x:2^(Nat.log2 (v+1) / k*k)*2<=2^(Nat.log2 (v+1) / k*k)*2^k:=Nat.mul_le_mul_left _ o
 have A:=y0v (Nat.log2 (v+1) / k*k)
 omega
def YP {x k:Nat}(h:2^k<=x):Qn x=Qn (x / 2^k)+k:=by
 have j:=y0v k
 have l:x / 2^k≠0:=by have:=Nat.div_pos h j;omega
 have d:=z0X l
 have e:=XB (v:=x / 2^k)
 have s:Qn (x / 2^k)≠0:=by unfold Qn;rw[if_neg l];omega
 obtain⟨n,r⟩:∃n,Qn (x / 2^k)=n+1:=⟨Qn (x / 2^k)-1,ω⟩
 rw[r] at d e⊢
 rw[y1g] at d
 have o:2^(n+k)<=x:=by
  rw[y0M];exact y0b (y1n _ d) (y1A _ _)
 have q:x<2^(n+k+1):=by
  rw[show n+k+1=(n+1)+k by omega,y0M];exact(y26 j).1 e
 rw[z8a o q];omega
def zgJ:P8:=[0,1,2,2,3,3,3,3,4,4,4,4,4,4,4,4,5,5,5,5,5,5,5,5,5,5,5,5,5,5,5,5,6,6,6,6,6,6,6,6,6,6,6,6,6,6,6,6,6,6,6,6,6,6,6,6,6,6,6,6,6,6,6,6,7,7,7,7,7,7,7,7,7,7,7,7,7,7,7,7,7,7,7,7,7,7,7,7,7,7,7,7,7,7,7,7,7,7,7,7,7,7,7,7,7,7,7,7,7,7,7,7,7,7,7,7,7,7,7,7,7,7,7,7,7,7,7,7,8,8,8,8,8,8,8,8,8,8,8,8,8,8,8,8,8,8,8,8,8,8,8,8,8,8,8,8,8,8,8,8,8,8,8,8,8,8,8,8,8,8,8,8,8,8,8,8,8,8,8,8,8,8,8,8,8,8,8,8,8,8,8,8,8,8,8,8,8,8,8,8,8,8,8,8,8,8,8,8,8,8,8,8,8,8,8,8,8,8,8,8,8,8,8,8,8,8,8,8,8,8,8,8,8,8,8,8,8,8,8,8,8,8,8,8,8,8,8,8,8,8,8,8,8,8,8,8]
theorem zc8:zgJ.length=256:=by decide+kernel
def zlF:∀x:Fin 256,(zgJ.getD x.val 0).toNat=Qn x.val:=by decide+kernel
section
theorem UN (x:Nat)(L:x<18446744073709551616)(w:World):PN prog 169 [Pt x] w λv w'=>v=I (Qn x:Int)/\w'=w:=by
 refine py (e:=[(0,_)]) func169 O ntmps169 O O<|Re O<|Qi O<|Uj O<|P4<|Qf (λd w'=>w=w'/\∃x1 n1:Nat,d=[(0,Pt x1),(2,I (n1:Int))]/\Qn x=Qn x1+n1/\x1<4294967296/\n1<=32) ?bI<|λbI=>?cZ
 case bI=>
  rintro d w'⟨rfl,x1,n1,rfl,s,A,B⟩;refine Qi O<|Uj O<|P4<|Qf (λd w'=>w=w'/\∃x2 n2:Nat,d=[(0,Pt x2),(2,I (n2:Int))]/\Qn x=Qn x2+n2/\x2<65536/\n2<=48) ?cY<|λcY=>?gm
  case cY=>
   rintro d w'⟨rfl,x2,n2,rfl,u,E,G⟩;refine Qi O<|Uj O<|P4<|Qf (λd w'=>w=w'/\∃h n:Nat,d=[(0,Pt h),(2,I (n:Int))]/\Qn x=Qn h+n/\h<256/\n<=56) ?aw<|λaw=>?er
   case aw=>
    rintro d w'⟨rfl,h,n,rfl,H,q,J⟩;have r:=zlF ⟨h,q⟩;dsimp only at r;have M:Qn h<=8:=Rz ω;refine QG O<|qV (zeB O RW U5) ?_;rw[y0g q];refine qV (zkc (l:=zgJ) U9 O O (by rw[zc8];exact q)) ?_;rw[r];refine qV (Q8 O U5 U3 ω)<|Qj O<|Pq O<|P3 func169 O ?_;exact⟨_,O,by simp only[Qy];congr 1;omega,rfl⟩
   case er=>
    refine Pn O (λj=>?_)<|λj=>?_
    ·refine PL O<|qV (Vk 8 256 O O ψ O)<|Pq O<|Ra O<|Qj O<|Pq O ((aw _ _ ⟨O,x2 / 256,n2+8,O,?_,?_,?_⟩).qb)
     ·have o:=YP (x:=x2) (k:=8) ω;rw[show x2 / 2^8=x2 / 256 from rfl] at o;omega
     ·omega
     ·omega
    ·refine P5 ?_;exact(aw _ _ ⟨O,x2,n2,O,u,ω,ω⟩).qb
  case gm=>
   refine Pn O (λj=>?_)<|λj=>?_
   ·refine PL O<|qV (Vk 16 65536 O O ψ O)<|Pq O<|Ra O<|Qj O<|Pq O ((cY _ _ ⟨O,x1 / 65536,n1+16,O,?_,?_,?_⟩).qb)
    ·have o:=YP (x:=x1) (k:=16) ω;rw[show x1 / 2^16=x1 / 65536 from rfl] at o;omega
    ·omega
    ·omega
   ·refine P5 ?_;exact(cY _ _ ⟨O,x1,n1,O,s,ω,ω⟩).qb
 case cZ=>
  refine Pn O (λj=>?_)<|λj=>?_
  ·refine PL O<|qV (Vk 32 4294967296 O O ψ O)<|Pq O<|Pc O<|Pq O ((bI _ _ ⟨O,x / 4294967296,32,O,?_,?_,?_⟩).qb)
   ·exact YP (x:=x) (k:=32) ω
   ·omega
   ·omega
  ·refine P5 ?_;exact(bI _ _ ⟨O,x,0,O,ω,ω,ω⟩).qb
/-! ### Codes -/
def SI:Cd->List Value
 | .unary=>[.int .u8 0,Pt 0]
 | .gamma=>[.int .u8 1,Pt 0]
 | .zeta k=>[.int .u8 3,Pt k]
abbrev cdV (c:Cd):Value:= .agg (SI c).toArray
def Cd.R1:Cd->Prop
 | .zeta k=>1<=k/\k<=16
 |_=>True
def Cd.most:Cd->Nat
 | .unary=>65535
 |_=>281474976710654
def Cd.p0:Cd->Nat->Nat×Nat
 | .unary,_=>(0,0)
 | .gamma,v=>(v+1-2^Nat.log2 (v+1),Nat.log2 (v+1))
 | .zeta k,v=>let h:=Nat.log2 (v+1) / k;S3 (v+1-2^(h*k)) (2^(h*k)*2^k-2^(h*k))
theorem UX (c:Cd)(l:c.R1)(w:World):PN prog 236 [cdV c] w λv w'=>v=I 0/\Ext w w':=by
 cases c with
 | unary =>
   refine py (e:=[(0,_)]) func236 O ntmps236 O O<|qN O<|Pb O O (RP O (cs:=[.int .u8 0,Pt 0]) O) ?_;rintro _ w1⟨b1,rfl,j,h,d⟩;refine Ro O<|Pq O<|OY<|qN O<|Pr Sz O<|qV (Pl U5 O O d O)<|P4<|P6<|OY<|qN O<|Rx O<|RO<|Pq O<|Pp O ?_;refine P5<|Pp O<|Pc O<|Pr Xx O<|qV (Pl RW O O d O)<|Rx O<|RO<|Pq O<|An<|Qi O<|qV (SD O)<|QC O<|Re O<|P3 func236 O ?_
   exact⟨_,O,O,h⟩
 | gamma =>
   refine py (e:=[(0,_)]) func236 O ntmps236 O O<|qN O<|Pb O O (RP O (cs:=[.int .u8 1,Pt 0]) O) ?_;rintro _ w1⟨b1,rfl,j,h,d⟩;refine Ro O<|Pq O<|OY<|qN O<|Pr Sz O<|qV (Pl U5 O O d O)<|P4<|P6<|OY<|qN O<|Rx O<|Qb<|Pq O<|P9 O ?_;refine qN O<|Rx O<|RO<|Pq O<|Pp O<|P5<|Pp O<|Pc O<|Pr Xx O<|qV (Pl RW O O d O)<|Rx O<|RO<|Pq O<|An ?_;refine Qi O<|qV (SD O)<|QC O<|Re O<|P3 func236 O ?_
   exact⟨_,O,O,h⟩
 | zeta k =>
   obtain⟨n,o⟩:1<=k/\k<=16:=l;refine py (e:=[(0,_)]) func236 O ntmps236 O O<|qN O<|Pb O O (RP O (cs:=[.int .u8 3,Pt k]) O) ?_;rintro _ w1⟨b1,rfl,j,h,d⟩;refine Ro O<|Pq O<|OY<|qN O<|Pr Sz O<|qV (Pl U5 O O d O)<|P4<|P6<|OY<|qN O<|Rx O<|Qb<|Pq O<|P9 O ?_;refine qN O<|Rx O<|Qb<|Pq O<|P9 O<|Pc O<|Rx O<|Qb<|Pq O<|P9 O<|qN O<|Rx O<|RO<|Pq O ?_;refine Pp O<|Pc O<|Pr Xx O<|qV (Pl RW O O d O)<|Uj O<|RO<|Ph O<|Pr Xx O<|qV (Pl RW O O d O)<|zle O<|RO<|Rr O<|Pq O<|An ?_;refine Qi O<|qV (SD O)<|QC O<|Re O<|P3 func236 O ?_;exact⟨_,O,O,h⟩
theorem z3l (c:Cd)(o:c.R1)(w:World):PN prog 237 [cdV c] w λv w'=>v=Pt c.most/\Ext w w':=by
 cases c with
 | unary =>
   refine py (e:=[(0,_)]) func237 O ntmps237 O O<|qN O<|Pb O O (RP O (cs:=[.int .u8 0,Pt 0]) O) ?_;rintro _ w1⟨b1,rfl,q,l,h⟩;refine Pq O<|R0<|qN O<|qV (PO (news:=[.int .u8 0,Pt 0]) St O Rh O (h.cells (n:=2) O) O)<|Px z5X O (UX (.unary) o w1) ?_;rintro _ w2⟨rfl,d⟩;have j:=d.OZ h;refine R5 O<|Qb<|Pq O<|P9 O<|qN O<|Pr Sz O<|qV (Pl U5 O O j O)<|Rx O<|RO<|Pq O<|Pp O<|Re O<|P3 func237 O ?_
   exact⟨_,O,O,l.trans d⟩
 | gamma =>
   refine py (e:=[(0,_)]) func237 O ntmps237 O O<|qN O<|Pb O O (RP O (cs:=[.int .u8 1,Pt 0]) O) ?_;rintro _ w1⟨b1,rfl,q,l,h⟩;refine Pq O<|R0<|qN O<|qV (PO (news:=[.int .u8 1,Pt 0]) St O Rh O (h.cells (n:=2) O) O)<|Px z5X O (UX (.gamma) o w1) ?_;rintro _ w2⟨rfl,d⟩;have j:=d.OZ h;refine R5 O<|Qb<|Pq O<|P9 O<|qN O<|Pr Sz O<|qV (Pl U5 O O j O)<|Rx O<|Qb<|Pq O<|P9 O<|qN O<|Pr Sz O<|qV (Pl U5 O O j O) ?_;refine Rx O<|Qb<|Pq O<|Tj O<|An<|Re O<|P3 func237 O ?_
   exact⟨_,O,O,l.trans d⟩
 | zeta k =>
   refine py (e:=[(0,_)]) func237 O ntmps237 O O<|qN O<|Pb O O (RP O (cs:=[.int .u8 3,Pt k]) O) ?_;rintro _ w1⟨b1,rfl,q,l,h⟩;refine Pq O<|R0<|qN O<|qV (PO (news:=[.int .u8 3,Pt k]) St O Rh O (h.cells (n:=2) O) O)<|Px z5X O (UX (.zeta k) o w1) ?_;rintro _ w2⟨rfl,d⟩;have j:=d.OZ h;refine R5 O<|Qb<|Pq O<|P9 O<|qN O<|Pr Sz O<|qV (Pl U5 O O j O)<|Rx O<|Qb<|Pq O<|P9 O<|qN O<|Pr Sz O<|qV (Pl U5 O O j O) ?_;refine Rx O<|Qb<|Pq O<|Tj O<|An<|Re O<|P3 func237 O ?_;exact⟨_,O,O,l.trans d⟩
theorem zbK (c:Cd)(v:Nat)(l:c.R1)(A:v<=c.most)(w:World):PN prog 225 [cdV c,Pt v] w λu w'=>u= .bool true/\Ext w w':=by
 obtain⟨x,y,d⟩:∃x y,SI c=[x,y]:=by cases c<;>exact⟨_,_,O⟩
 refine py (e:=[(0,_),(1,_)]) func225 O ntmps225 O O<|qN O<|Pb O O (RP O (cs:=SI c) O) ?_
 rintro _ w1⟨b1,rfl,s,o,j⟩
 refine Ro O<|qV (PO (news:=SI c) St O Rh O (j.cells (n:=2) (by rw[d];rfl)) (by rw[d];rfl)) ?_
 refine Px z5X O (UX c l w1) ?_
 rintro _ w2⟨rfl,h⟩
 have r:=h.OZ j
 refine Rx O<|RO<|PB O<|qV (PO (news:=SI c) St O Rh O (r.cells (n:=2) (by rw[d];rfl)) (by rw[d];rfl)) ?_
 refine Px zeT O (z3l c l w2) ?_
 rintro _ B⟨rfl,q⟩
 refine zle O<|RO<|Rr O<|Pq O<|P3 func225 O ?_
 exact⟨_,O,O,(o.trans h).trans q⟩
end
section
theorem z6F (v K:Nat)(B:1<=K)(W:v<K)(X:K<=9223372036854775808)(w:World):PN prog 238 [Pt v,Pt K] w λu w'=>u= .agg #[Pt (S3 v K).1,I ((S3 v K).2:Int)]/\Ext w w':=by
 obtain⟨s,h⟩:∃s,Qn (K-1)=s:=⟨_,O⟩
 have E:=VA B
 rw[h] at E
 obtain⟨A,L⟩:=E
 have J:(2:Nat)^63=9223372036854775808:=ψ
 have G:s<=63:=by rw[<-h];exact Rz ω
 obtain⟨Q,l⟩:∃Q,2^s=Q:=⟨_,O⟩
 have R:Q<=9223372036854775808:=by
  have:=y0r (show 0<2 by decide) G;omega
 rw[l] at A
 have j:S3 v K=if v<Q-K then(v,s-1) else(v+(Q-K),s):=by unfold S3;rw[h];dsimp only;rw[l]
 refine py (e:=[(0,_),(1,_)]) func238 O ntmps238 O O<|qN O<|Pb O O (S5 (cs:=[_,_]) Tf O) ?_
 rintro _ w1⟨x,rfl,V,r,q⟩
 refine qM O<|Ph O<|qV (Xm (n:=1) O O O (by show K<2^64;omega) B) ?_
 refine Px z3q O (UN (K-1) ω w1) ?_
 rintro _ w1⟨rfl,rfl⟩
 rw[h]
 refine Pq O<|Qi O<|qV (RN s Q O O ω l) ?_
 rw[show 1*Q%18446744073709551616=Q by omega]
 refine Ph O<|qV (Xm O O O (by show Q<2^64;omega) A) ?_
 refine Ro O<|PB O<|Uj O<|P4<|Pn O (λM=>?_)<|λM=>?_
 ·rw[if_neg ω] at j;rw[j];refine QG O<|qV (VD O O) ?_;rw[y0g (show v+(Q-K)<18446744073709551616 by omega)];refine Ph O (qV (T3 (cs:=[_,_]) Tf O zbX O O) (Po O (Qh (news:=[Pt (v+(Q-K)),I (s:Int)]) Tf O O O O q ξ) ?_));rintro w2⟨d,o⟩;replace d:Pm w2 x [Pt (v+(Q-K)),I (s:Int)] 351:=d;refine P4<|PK func238 (.cell z5o O Tf O (Pm.cells (n:=2) d (news:=[_,_]) O) O .nil) ?_;exact⟨_,O,O,r.It o (λi hi=>ω)⟩
 ·rw[if_pos ω] at j;rw[j]
  have N:K≠1:=λe=>by
   have H:s=0:=by rw[<-h,e];rfl
   have U:Q=1:=by rw[<-l,H]
   omega
  have S:1<=s:=(L ω).1;refine P5<|QG O<|RR O ?_;rw[show((s:Int)-1)=((s-1:Nat):Int) by omega];refine qV (T3 (cs:=[_,_]) Tf O zbX O O) (Po O (Qh (news:=[Pt v,I ((s-1:Nat):Int)]) Tf O O O O q ξ) ?_);rintro w2⟨d,o⟩;replace d:Pm w2 x [Pt v,I ((s-1:Nat):Int)] 351:=d;refine P4<|PK func238 (.cell z5o O Tf O (Pm.cells (n:=2) d (news:=[_,_]) O) O .nil) ?_;exact⟨_,O,O,r.It o (λi hi=>ω)⟩
def z9z (n:Nat)(h:n≠0):Qn n-1=Nat.log2 n/\1<=Qn n:=by
 unfold Qn;rw[if_neg h];exact⟨O,ω⟩
theorem z1y (c:Cd)(v:Nat)(hc:c.R1)(hv:v<=281474976710654)(w:World):PN prog 226 [cdV c,Pt v] w λu w'=>u= .tuple #[I (c.zeros v:Int),.agg #[Pt (c.p0 v).1,I ((c.p0 v).2:Int),Pt 0,I 0]]/\Ext w w':=by
 obtain⟨l1,l2⟩:=z9z (v+1) ω
 obtain⟨V,P,T⟩:=Wu hv
 obtain⟨b,o⟩:∃b,Nat.log2 (v+1)=b:=⟨_,O⟩
 rw[o] at l1 V P T
 obtain⟨Q,W⟩:∃Q,2^b=Q:=⟨_,O⟩
 rw[W] at V
 have Cp:Q<=281474976710656:=ω
 obtain⟨x,y,dC⟩:∃x y,SI c=[x,y]:=by cases c<;>exact⟨_,_,O⟩
 refine py (e:=[(0,_),(1,_)]) func226 O ntmps226 O O<|qN O<|Pb O O (RP O (cs:=SI c) O) ?_
 rintro _ w1⟨b2,rfl,bU,Y,Z⟩
 refine SO O<|Pb O O (S5 (cs:=[_,_,_,_]) Vm O) ?_
 rintro _ w2⟨b5,rfl,gp,N,r⟩
 replace r:Pm w2 b5 [Pt 0,I 0,Pt 0,I 0] 352:=r
 refine qM O<|Ph O<|qV (VD O O) ?_
 rw[show(v+1)%18446744073709551616=v+1 by omega]
 refine Rq O<|Px z3q O (UN (v+1) ω w2) ?_
 rintro _ w2⟨rfl,rfl⟩
 refine RR O ?_
 rw[show((Qn (v+1):Int)-1)=((b:Nat):Int) by omega]
 refine Ro O<|PB O<|qV (RN b Q O O ω W) ?_
 rw[show 1*Q%18446744073709551616=Q by omega]
 refine qV (Xm O O O (by show v+1<2^64;omega) V) ?_
 refine Ph O<|qV (T3 (cs:=[_,_]) Tf O zbX O O)<|Pb O O (S5 (cs:=[_,_]) Tf O) ?_
 rintro _ w3⟨C,rfl,j7,s,D⟩
 refine Po O (Qh (news:=[Pt (v+1-Q),I (b:Int)]) Tf O O O O D ξ) ?_
 rintro l⟨t8,S⟩
 replace t8:Pm l C [Pt (v+1-Q),I (b:Int)] 351:=t8
 have z1:=Y.size
 have z2:=N.size
 have z3:=s.size
 have a0:=Z.lt
 have a1:=r.lt
 have j:=S.OZ (s.OZ (N.OZ Z)) ω
 have A:=S.OZ (s.OZ r) ω
 have U:Ext w l:=((Y.trans N).trans s).It S (λi hi=>ω)
 cases c with
 | unary =>
   replace j:Pm l b2 [.int .u8 0,Pt 0] 314:=j;have hg:=Ext.Pz l;refine P4 (OY (qN O (Pr Sz O (qV (Pl U5 O O j O) (P4 (P6 (qN O (Rx O (RO (Pq O (Pp O (OY (PC [4] (λw'=>Ext l w') Pd O ?_)))))))))))));refine Qm 0 O O hg (PH 1 O (Q8 O RW U3 ω) hg (PH 3 O (S6 O) hg (qL 2 O (λ_ h=>PO (news:=[Pt 0,I 0,Pt 0,I 0]) z2l O Vm O ((h.OZ A).cells (n:=4) O) O) hg (TV [4] (qO 4 (Q0 (i:=4) O O (Qh (news:=[Pt 0,I 0,Pt 0,I 0]) Vm O O O O (hg.OZ A) ξ) ?_))))));rintro M⟨d,R⟩;refine⟨trivial,?_⟩;replace d:Pm M b5 [Pt 0,I 0,Pt 0,I 0] 352:=d;refine qE<|PM.qb (e:=[(1,_),(2,_),(4,_),(5,_)]) ?_;refine PK func226 (.tmp O (.cell z2l O Vm O (Pm.cells (n:=4) d (news:=[_,_,_,_]) O) O .nil)) ?_
   exact⟨_,O,O,(U.trans hg).It R (λi hi=>ω)⟩
 | gamma =>
   replace j:Pm l b2 [.int .u8 1,Pt 0] 314:=j;have hg:=Ext.Pz l;refine P4<|OY<|qN O<|Pr Sz O<|qV (Pl U5 O O j O)<|P4<|P6<|qN O<|Rx O<|Qb<|Pq O<|P9 O<|qN O<|Rx O ?_;refine RO<|Pq O<|PM.qb (e:=[(1,_),(2,_),(4,_),(5,_),(6,_),(7,_),(8,_),(24,_),(30,_)]) ?_;refine Pp O (OY (PC [4] (λw'=>Ext l w') Pd O (Qm 0 O O hg (PH 3 O (S6 O) hg (qL 1 O (λ_ h=>PO (news:=[Pt (v+1-Q),I (b:Int)]) z5o O Tf O ((h.OZ t8).cells (n:=2) O) O) hg (PH 2 O (zhr (parts:=[(0,.tmp 33)]) (cs:=[_,_,_,_]) Vm O z2l Tf O O) hg (TV [4] (qO 4 (Q0 (i:=4) O O (Qh (news:=[Pt (v+1-Q),I (b:Int),Pt 0,I 0]) Vm O O O O (hg.OZ A) ξ) ?_)))))))));rintro M⟨d,R⟩;refine⟨trivial,?_⟩;replace d:Pm M b5 [Pt (v+1-Q),I (b:Int),Pt 0,I 0] 352:=d;refine qE<|PK func226 (.tmp O (.cell z2l O Vm O (Pm.cells (n:=4) d (news:=[_,_,_,_]) O) O .nil)) ?_
   exact⟨_,O,by simp[Qy,Cd.zeros,Cd.p0,o,W],(U.trans hg).It R (λi hi=>ω)⟩
 | zeta k =>
   obtain⟨z,am⟩:1<=k/\k<=16:=hc;have f:=Yr (k:=k) (v:=v) z;dsimp only at f;rw[o] at f;obtain⟨h,q⟩:∃h,b / k=h:=⟨_,O⟩;obtain⟨m,L⟩:∃m,h*k=m:=⟨_,O⟩;have I0:m<=b:=by rw[<-L,<-q];exact y1A _ _
   rw[q,L] at f;obtain⟨F,H⟩:∃F,2^m=F:=⟨_,O⟩;obtain⟨G,J⟩:∃G,2^k=G:=⟨_,O⟩;rw[H,J] at f;obtain⟨f1,f2,f3⟩:=f;obtain⟨E,B⟩:∃E,F*G=E:=⟨_,O⟩
   have Cq:E<=9223372036854775808:=by
    rw[<-B,<-H,<-J,<-y0M];have:=y0r (show 0<2 by decide) (show m+k<=63 by omega);have K:(2:Nat)^63=9223372036854775808:=ψ
    omega
   rw[B] at f2 f3;have g:(Cd.zeta k).zeros v=h:=by show Nat.log2 (v+1) / k=h;rw[o,q]
   have p:(Cd.zeta k).p0 v=S3 (v+1-F) (E-F):=by
    show S3 (v+1-2^(Nat.log2 (v+1) / k*k)) (2^(Nat.log2 (v+1) / k*k)*2^k-2^(Nat.log2 (v+1) / k*k))=_;rw[o,q,L,H,J,B]
   rw[g,p];have a:(h:Int)*(k:Int)=(m:Int):=by rw[<-L];simp
   have g8:(b:Int) / (k:Int)=(h:Int):=by rw[<-q];simp
   replace j:Pm l b2 [.int .u8 3,Pt k] 314:=j;refine P4<|OY<|qN O<|Pr Sz O<|qV (Pl U5 O O j O)<|P4<|P6<|qN O<|Rx O<|Qb<|Pq O<|P9 O<|qN O<|Rx O ?_;refine Qb<|Pq O<|PM.qb (e:=[(1,_),(2,_),(4,_),(5,_),(6,_),(7,_),(8,_),(24,_),(30,_)]) ?_;refine P9 O<|qN O<|Rx O<|Qb<|Pq O<|P9 O<|qN O<|Rx O<|RO<|Pq O<|Pp O<|qN O<|Pr Xx O<|qV (Pl RW O O j O) ?_;refine qV (Q8 O RW U3 ω) (Ro O (PB O (qV (X5 O O ω) ?_)));rw[g8];refine Ro O (PB O (qV (Y8 O O (by rw[a];omega)) ?_));rw[a];refine qV (RN m F O O ω H) ?_;rw[show 1*F%18446744073709551616=F by omega];refine Pq O<|PM.qb (e:=[(1,_),(2,_),(4,_),(5,_),(6,_),(9,_),(10,_),(11,_)]) ?_;refine QG O (Ph O (qV (Xm O O O (by show v+1<2^64;omega) f1) ?_));refine PB O (qV (RN k G O O ω J) ?_);rw[B,y0g (show E<18446744073709551616 by omega)];refine Ph O (qV (Xm O O O (by show E<2^64;omega) ω) ?_);refine Px zjs O (z6F (v+1-F) (E-F) f3 f2 ω l) ?_;rintro _ M⟨rfl,X⟩;refine qV (zhr (parts:=[(0,.tmp 69)]) (cs:=[_,_,_,_]) Vm O z2l Tf O O)<|SO O ?_;have xm:=X.OZ A;refine Po O (Qh (news:=[Pt (S3 (v+1-F) (E-F)).1,I ((S3 (v+1-F) (E-F)).2:Int),Pt 0,I 0]) Vm O O O O xm ξ) ?_;rintro w6⟨d,t⟩;replace d:Pm w6 b5 [Pt (S3 (v+1-F) (E-F)).1,I ((S3 (v+1-F) (E-F)).2:Int),Pt 0,I 0] 352:=d;refine P4<|PK func226 (.tmp O (.cell z2l O Vm O (Pm.cells (n:=4) d (news:=[_,_,_,_]) O) O .nil)) ?_;exact⟨_,O,O,(U.trans X).It t (λi hi=>ω)⟩
end
def hiB (w:Nat):Nat->Nat->List Nat->List Bool
 |_,_,[]=>[]
 |len,i,v::r=>List.replicate (v / 2^w+i-len) false++true::hiB w (v / 2^w+i+1) (i+1) r
abbrev Nof (l:List Nat):Prop:=l.Pairwise (·<=·)
def S4:List Bool->Nat->Option Nat
 |[],_=>none
 |true::l,0=>some 0
 |true::l,k+1=>(S4 l k).map (·+1)
 |false::l,k=>(S4 l k).map (·+1)
theorem Vl:∀(z:Nat)(l:List Bool) (k:Nat),S4 (List.replicate z false++l) k=(S4 l k).map (·+z)
 |0,l,k=>ξ
 | z + 1, l, k => by
   rw[y12,y0q,S4,Vl z l k,y22]
   congr 1
theorem z2t (w:Nat):∀(l:List Nat)(len i k:Nat) (v:Nat),Nof l->l[k]? =some v->(∀x,l.head? =some x->len<=x / 2^w+i)->S4 (hiB w len i l) k=some (v / 2^w+i+k-len)
 |[],len,i,k,v,_,h,_=>by simp at h
 | x :: r, len, i, 0, v, _, h, hl => by
   simp at h;subst h;have:=hl x O;rw[hiB,Vl,S4]
   simp
 | x :: r, len, i, k + 1, v, hn, h, hl => by
   rw[y1G] at h;obtain⟨n1,n2⟩:=y1m.1 hn;have o:=hl x O;have d:x<=v:=n1 v (y0j h);have n:=y1M (c:=2^w) d
   rw[hiB,Vl,S4,z2t w r _ (i+1) k v n2 h (λy j=>by
    have e:x<=y:=n1 y (by cases r with
     |nil=>simp at j
     |cons a r=>simp at j;simp[j])
    have:=y1M (c:=2^w) e
    omega)]
   simp;omega
theorem ZL:∀(l:List Bool)(j p m:Nat),S4 l j=some p->S4 (l.drop p) m=(S4 l (j+m)).map (·-p)
 |[],j,p,m,h=>by simp[S4] at h
 | true :: l, 0, p, m, h => by
   simp[S4] at h;subst h
   simp
 | true :: l, j + 1, p, m, h => by
   simp only[S4,y1Y] at h;obtain⟨q,d,rfl⟩:=h;rw[y2e,ZL l j q m d,show j+1+m=(j+m)+1 by omega,S4,y22]
   congr 1
   funext x;simp
 | false :: l, j, p, m, h => by
   simp only[S4,y1Y] at h;obtain⟨q,d,rfl⟩:=h;rw[y2e,ZL l j q m d,S4,y22]
   congr 1
   funext x;simp
theorem WY:∀(a b:List Bool)(k:Nat),S4 (a++b) k=if k<a.count true then S4 a k else(S4 b (k-a.count true)).map (·+a.length)
 |[],b,k=>ξ
 |true::a,b,0=>by simp[S4]
 | true :: a, b, k + 1 => by
   rw[y0q,S4,WY a b k,List.count_cons_self];split
   ·rename_i h
    rw[if_pos ω,S4]
   ·rename_i h
    rw[if_neg ω,y22,show k+1-(a.count true+1)=k-a.count true by omega]
    congr 1
 | false :: a, b, k => by
   rw[y0q,S4,WY a b k,List.count_cons_of_ne ψ];split
   ·rw[S4]
   ·rw[y22]
    congr 1
def z0W:∀{l:List Bool} {k p:Nat},S4 l k=some p->p<l.length/\l[p]? =some true
 |true::l,0,p,h=>by simp[S4] at h;subst h;simp
 | true :: l, k + 1, p, h => by
   simp only[S4,y1Y] at h;obtain⟨q,d,rfl⟩:=h;have:=z0W d
   simp;exact this
 | false :: l, k, p, h => by
   simp only[S4,y1Y] at h;obtain⟨q,d,rfl⟩:=h;have:=z0W d
   simp;exact this
 |[],k,p,h=>by simp[S4] at h
theorem z8Y (w:Nat):∀(l:List Nat)(len i:Nat),Nof l->(∀x,l.head? =some x->len<=x / 2^w+i)->∀v,l.getLast? =some v->len+(hiB w len i l).length=v / 2^w+i+l.length
 |[],len,i,_,_,v,h=>by simp at h
 | [x], len, i, _, hl, v, h => by
   simp at h;subst h;have:=hl x O
   simp[hiB];omega
 | x :: y :: r, len, i, hn, hl, v, h => by
   obtain⟨n1,n2⟩:=y1m.1 hn;have j:=hl x O;have e:=y1M (c:=2^w) (n1 y ξ);have:=z8Y w (y::r) (x / 2^w+i+1) (i+1) n2 (λz d=>by simp at d;subst d;omega) v (by simpa using h);rw[hiB,Pe,y08,y01];simp only[y01] at this⊢;omega
theorem YN (z:Nat)(r:List Bool):PZ (List.replicate z false++true::r)=2^r.length+PZ r:=by
 induction z with
 |zero=>simp[PZ]
 |succ z d=>rw[y12,y0q,PZ,d];simp
theorem z4b (c:Cd)(v:Nat):c.rest v=PF (c.p0 v).2 (c.p0 v).1:=by cases c<;>rfl
theorem XQ (c:Cd)(v:Nat):(c.enc v).length=c.zeros v+1+(c.p0 v).2:=by
 unfold Cd.enc
 rw[Pe,y08,y01,z4b,bitsN_length];omega
def Cd.z0Y (c:Cd):c.most<=281474976710654:=by cases c<;>simp[Cd.most]
theorem Wz:∀n:Nat,PF n 0=List.replicate n false
 |0=>rfl
 |n+1=>by rw[PF,Wz n,y12];simp
theorem zaS (z:Nat):PF (z+1) 1=List.replicate z false++[true]:=by
 refine Z6 ξ ?_
 rw[Qx,YN]
 simp[PZ]
theorem XP {c:Cd}{v:Nat}(u:c.R1)(j:v<=c.most):c.zeros v<=65535/\(c.p0 v).2<=63/\(c.p0 v).1<2^(c.p0 v).2:=by
 cases c with
 |unary=>exact⟨j,by simp[Cd.p0],by simp[Cd.p0]⟩
 | gamma =>
   obtain⟨r,l,s⟩:=Wu j;refine⟨by show Nat.log2 (v+1)<=_;omega,by show Nat.log2 (v+1)<=_;omega,?_⟩;show v+1-2^Nat.log2 (v+1)<2^Nat.log2 (v+1);rw[y1L] at l
   omega
 | zeta k =>
   obtain⟨q,A⟩:1<=k/\k<=16:=u;obtain⟨r,l,s⟩:=Wu j;have f:=Yr (k:=k) (v:=v) q;dsimp only at f;have G:Nat.log2 (v+1) / k<=Nat.log2 (v+1):=y0R _ _;have H:Nat.log2 (v+1) / k*k<=Nat.log2 (v+1):=y1A _ _;refine⟨by show Nat.log2 (v+1) / k<=_;omega,?_,?_⟩
   ·show(S3 _ _).2<=63
    have B:Qn (2^(Nat.log2 (v+1) / k*k)*2^k-2^(Nat.log2 (v+1) / k*k)-1)<=63:=by
     refine Rz ?_;have h:=y0r (show 0<2 by decide) (show Nat.log2 (v+1) / k*k+k<=63 by omega);rw[y0M] at h;have o:=f.2.2
     revert h o
     generalize 2^(Nat.log2 (v+1) / k*k)*2^k=E
     generalize 2^(Nat.log2 (v+1) / k*k)=F
     intro h o;omega
    unfold S3;dsimp only;split<;>dsimp only<;>omega
   ·exact zal f.2.1
section
variable {e:Env}{d:Option Nat}{pos:String}{x:Operand}{n:Nat}{td:TypeDesc}
def zhg [sS:TG za n]{len size:Nat}{vs:Array Value}(ht:P.underlying t=some (.array len el))(h:TI P el z size bytes)(q:P.underlying el=some td)(l:aggOf td=true)(r:look e x=some (.agg vs))(s:look e y=some (.int k za))(o:n<len):
  Y P e ⟨d,.index t x y,ty,pos,aft,g⟩ (.agg (vs.extract (n*size) (n*size+size))) w w:=fun ρ j=>by
 obtain⟨rfl⟩:=sS
 have h:=h.size (w:=w)
 simp[execOp,j _ _ r,j _ _ s,Instr.index,asIntOf,run_underlying ht,o,h,part,Tw q,l]
end
section
theorem z5g (c:Cd)(v:Nat)(o:c.R1)(A:v<=c.most)(w:World):PN prog 200 [cdV c,Pt v] w λu w'=>u= .tuple #[I ((c.enc v).length:Int),I 0]/\Ext w w':=by
 obtain⟨x,y,h⟩:∃x y,SI c=[x,y]:=by cases c<;>exact⟨_,_,O⟩
 obtain⟨Q,R,-⟩:=XP o A
 have M:=XQ c v
 have L:=c.z0Y
 refine py (e:=[(0,_),(1,_)]) func200 O ntmps200 O O<|qN O<|Pb O O (RP O (cs:=SI c) O) ?_
 rintro _ w1⟨b2,rfl,J,q,s⟩
 refine QS O<|OY<|qN O<|qV (PO (news:=SI c) St O Rh O (s.cells (n:=2) (by rw[h];rfl)) (by rw[h];rfl)) ?_
 refine Ph O<|Px zk9 O (zbK c v o A w1) ?_
 rintro _ w2⟨rfl,l⟩
 refine qV (SD O)<|QC O<|qN O<|qV (PO (news:=SI c) St O Rh O ((l.OZ s).cells (n:=2) (by rw[h];rfl)) (by rw[h];rfl)) ?_
 refine Ph O<|Px zeZ O (z1y c v o ω w2) ?_
 rintro _ S⟨rfl,r⟩
 refine Ph O<|Ta O<|Pb O O (S5 (cs:=[_,_,_,_]) Vm O) ?_
 rintro _ U⟨b7,rfl,N,E,G⟩
 refine SO O<|Po O (Qh (news:=[Pt (c.p0 v).1,I ((c.p0 v).2:Int),Pt 0,I 0]) Vm O O O O G ξ) ?_
 rintro H⟨j,B⟩
 replace j:Pm H b7 [Pt (c.p0 v).1,I ((c.p0 v).2:Int),Pt 0,I 0] 352:=j
 refine qM O<|Ph O<|Qj O<|qV (yia z2l Tf O O ω)<|Pr z19 O<|qV (Pl U3 O O j O)<|Qj O<|qV (yia z2l Tf O O ω)<|Pr z19 O<|qV (Pl U3 O O j O)<|Qj O<|QS O<|PM.qb (e:=[(4,_),(5,_)]) ?_
 refine P3 func200 O ?_
 have V:=q.size
 have W:=l.size
 have X:=r.size
 refine⟨_,O,?_,(((q.trans l).trans r).trans E).It B (λi hi=>ω)⟩
 simp only[Qy]
 congr 4
 omega
theorem zcP {p:Nat}(h:Za w p bs F)(c:Cd)(v:Nat)(D:c.R1)(hv:v<=c.most)(hl:bs.length+(c.enc v).length<=134217728):
  PN prog 201 [ptr p 0,cdV c,Pt v] w λu w'=>u=I 0/\WrR p F w w' (bs++c.enc v):=by
 obtain⟨x,y,V⟩:∃x y,SI c=[x,y]:=by cases c<;>exact⟨_,_,O⟩
 obtain⟨q1,q2,q3⟩:=XP D hv
 have oQ:=XQ c v
 have eF:=c.z0Y
 refine py (e:=[(0,_),(1,_),(2,_)]) func201 O ntmps201 O O<|qN O<|Pb O O (RP O (cs:=SI c) O) ?_
 rintro _ w1⟨b4,rfl,g7,b,aF⟩
 refine Pq O<|Qi O<|qV (Qz z2M O O)<|QC O<|qN O<|qV (PO (news:=SI c) St O Rh O (aF.cells (n:=2) (by rw[V];rfl)) (by rw[V];rfl)) ?_
 refine Ph O<|Px zfY O (z5g c v D hv w1) ?_
 rintro _ w2⟨rfl,S⟩
 refine Ph O<|Ta O<|QS O<|R0<|PL O<|R5 O<|Pq O<|Pn O (λe0=>?_)<|λe0=>?_
 ·exact absurd O e0
 ·refine QG O<|Px z3h O (We ((h.ext b).ext S)) ?_; rintro _ w2⟨rfl, rfl⟩; refine RR O (R8 O (Pq O (Pn O (λe1 => ?_) (λe1 => ?_))))
  ·omega
  ·refine P5 (An (qN O (qV (PO (news := SI c) St O Rh O ((S.OZ aF).cells (n := 2) (by rw [V]; rfl)) (by rw [V]; rfl)) ?_))); refine Ph O (Px zeZ O (z1y c v D ω w2) ?_); rintro _ w3⟨rfl, ah⟩; refine Ph O (Ta O (Pb O O (S5 (cs := [_, _, _, _]) Vm O) ?_)); rintro _ w4⟨j, rfl, Ct, ay, fI⟩; refine SO O (Po O (Qh (news := [Pt (c.p0 v).1, I ((c.p0 v).2 : Int), Pt 0, I 0]) Vm O O O O fI ξ) ?_); rintro r⟨W, ai⟩; replace W : Pm r j [Pt (c.p0 v).1, I ((c.p0 v).2 : Int), Pt 0, I 0] 352 := W; have z1 := b.size; have z2 := S.size; have z3 := ah.size; have t : Ext w r := (((b.trans S).trans ah).trans ay).It ai (λi hi => by omega); have z5 := t.size; have a1 := W.lt; have jQ : ∀ i, F i -> i < w.heap.size := λi hi => h.lt hi
   have I1:∀(Y:Nat->Prop),(∀k,Y k->F k\/r.heap.size<=k)->¬Y j:=λY hf e=>by
    rcases hf j e with e| e
    ·have:=jQ j e;omega
    ·omega
   refine P4<|PM.qb (e:=[(0,_),(6,_),(9,_),(10,_)]) ?_;refine R0<|RX (α:=Nat×(Nat->Prop)×List Bool) (c.zeros v,F,bs) (λx=>[(0,ptr p 0),(9,I (x.1:Int)),(10,ptr j 0)]) (λx w'=>x.1<=c.zeros v/\Za w' p x.2.2 x.2.1/\x.2.2=bs++List.replicate (c.zeros v-x.1) false/\Kp F w w'/\(∀k,x.2.1 k->F k\/r.heap.size<=k)/\Pm w' j [Pt (c.p0 v).1,I ((c.p0 v).2:Int),Pt 0,I 0] 352/\r.heap.size<=w'.heap.size) (λx=>x.1) ?hI ?hround
   case hI=>exact⟨y02 _,h.ext t,ξ,t.kp,λ_ h=> .inl h,W,y02 _⟩
   case hround =>
    rintro⟨z,F1,b1⟩ w6 ⟨hz,K,U,aG,G,aJ,z6⟩ M;dsimp only at hz K U G;have fJ:b1.length=bs.length+(c.zeros v-z):=by rw[U,Pe,y08]
    try dsimp only
    refine Qi O<|R8 O<|P4<|Pn O (λaP=>?_)<|λaP=>?_
    ·refine P5 (R0 (Ra O (Px Xn O (SK K 0 63 ψ ψ ω) ?_)));rintro _ w7⟨rfl,R,X,A,P⟩;have m:=A.OZ aJ (I1 F1 G);have z7:=A.size;refine P4<|An<|Ra O<|RR O<|Pq O ?_;rw[show((z:Int)-63)=((z-63:Nat):Int) by omega];refine(M (z-63,R,b1++PF 63 0) w7 ⟨by dsimp only;omega,X,?_,?_,?_,m,ω⟩ (by dsimp only;omega)).qb
     ·dsimp only;rw[U,Wz,y05,y2R,show c.zeros v-z+63=c.zeros v-(z-63) by omega]
     ·exact aG.It A (λi hi=>(G i hi).elim .inr (λe=> .inl ω))
     ·intro i hi;rcases P i hi with e| e
      ·exact G i e
      ·exact .inr ω
    ·refine Pf O<|Qi O<|Uj O<|P4<|Pn O (λg0=>?_)<|λg0=>?_
     ·refine Pc O<|PB O<|Qj O ?_;rw[show((z:Int)+1)=((z+1:Nat):Int) by omega];refine Px Xn O (SK K 1 (z+1) ω (by have:=y0r (show 0<2 by decide) (show 1<=z+1 by omega);omega) ω) ?_;rintro _ w7⟨rfl,R,X,A,P⟩;have m:=A.OZ aJ (I1 F1 G);have z7:=A.size;have ni:Kp F w w7:=aG.It A (λi hi=>(G i hi).elim .inr (λe=> .inl ω));have Cu:∀i,R i->F i\/r.heap.size<=i:=λi hi=>(P i hi).elim (G i) (λe=> .inr ω)
      have kR:b1++PF (z+1) 1=bs++(List.replicate (c.zeros v) false++[true]):=by
       rw[U,zaS,y05]
       congr 1
       rw[<-y05,y2R,show c.zeros v-z+z=c.zeros v by omega]
      rw[kR] at X;clear M;refine P4<|OY<|qN O<|qV (PO (news:=[Pt (c.p0 v).1,I ((c.p0 v).2:Int),Pt 0,I 0]) z2l O Vm O (m.cells (n:=4) O) O)<|Ph O<|P4<|P6<|RX (α:=Nat×(Nat->Prop)×List Bool) (0,R,bs++(List.replicate (c.zeros v) false++[true])) (λx=>[(0,ptr p 0),(49,.agg #[Pt (c.p0 v).1,I ((c.p0 v).2:Int),Pt 0,I 0]),(50,I (x.1:Int))]) (λx w'=>x.1<=2/\Za w' p x.2.2 x.2.1/\x.2.2=(bs++(List.replicate (c.zeros v) false++[true]))++(if x.1=0 then [] else c.rest v)/\Kp F w w'/\(∀k,x.2.1 k->F k\/r.heap.size<=k)/\r.heap.size<=w'.heap.size) (λx=>2-x.1) ?hI ?hround
      case hI=>exact⟨by dsimp only;omega,X,ξ,ni,Cu,ω⟩
      case hround=>
       rintro⟨i,F8,f⟩ w8 ⟨hi,Q,q,a,J,z8⟩ M;dsimp only at hi Q q J
       try dsimp only
       refine qN O<|QY O<|P4<|OY<|Pn O (λpF=>?_)<|λpF=>?_
       ·have xn:f.length<=bs.length+(c.zeros v+1)+(if i=0 then 0 else(c.p0 v).2):=by
         rw[q];simp only[Pe,y08,y01,y1l];split
         ·simp
         ·rw[z4b,bitsN_length];omega
        refine P5<|R0<|qN O ?_;rcases (show i=0\/i=1 by omega) with rfl|rfl
        ·rw[if_pos O] at xn q;refine qV (zhg (n:=0) z2l Tf z5o O O O ψ) ?_;rw[show(#[Pt (c.p0 v).1,I ((c.p0 v).2:Int),Pt 0,I 0]:Array Value).extract (0*2) (0*2+2)=#[Pt (c.p0 v).1,I ((c.p0 v).2:Int)] from rfl];refine Pb O O (S5 (cs:=[_,_]) Tf O) ?_;rintro _ w9⟨B,rfl,Cv,L,C⟩;refine Po O (Qh (news:=[Pt (c.p0 v).1,I ((c.p0 v).2:Int)]) Tf O O O O C ξ) ?_;rintro l⟨o,Z⟩;replace o:Pm l B [Pt (c.p0 v).1,I ((c.p0 v).2:Int)] 351:=o;have z9:=L.size;have E:Ext w8 l:=L.It Z (λi hi=>ω);have a0:=E.size;refine P4 (Ra O (Pr z8N O (qV (Pl RW O O o O) (Pr z19 O (qV (Pl U3 O O o O) (Px Xn O (SK (Q.ext E) (c.p0 v).1 (c.p0 v).2 ω q3 ω) ?_))))));rintro _ H⟨rfl,s,T,g,tc⟩;have N:=E.kp.trans g;refine P4<|An<|Pc O<|Qj O<|Ph O<|P4 ((M (1,s,f++PF (c.p0 v).2 (c.p0 v).1) H ⟨by dsimp only;omega,T,?_,?_,?_,?_⟩ (by dsimp only;omega)).qb)
         ·dsimp only;rw[q];rw[y0o,if_neg ψ,z4b]
         ·exact a.It N (λi hi=>(J i hi).elim .inr (λe=> .inl ω))
         ·intro i hi;rcases tc i hi with e| e
          ·exact J i e
          ·exact .inr ω
         ·have:=N.size;omega
        ·rw[if_neg ψ] at xn q;refine qV (zhg (n:=1) z2l Tf z5o O O O ψ) ?_;rw[show(#[Pt (c.p0 v).1,I ((c.p0 v).2:Int),Pt 0,I 0]:Array Value).extract (1*2) (1*2+2)=#[Pt 0,I 0] from rfl];refine Pb O O (S5 (cs:=[_,_]) Tf O) ?_;rintro _ w9⟨B,rfl,Cv,L,C⟩;refine Po O (Qh (news:=[Pt 0,I 0]) Tf O O O O C ξ) ?_;rintro l⟨o,Z⟩;replace o:Pm l B [Pt 0,I 0] 351:=o;have z9:=L.size;have E:Ext w8 l:=L.It Z (λi hi=>ω);have a0:=E.size;refine P4 (Ra O (Pr z8N O (qV (Pl RW O O o O) (Pr z19 O (qV (Pl U3 O O o O) (Px Xn O (SK (Q.ext E) 0 0 ω ψ ω) ?_))))));rintro _ H⟨rfl,s,T,g,tc⟩;have N:=E.kp.trans g;refine P4<|An<|Pc O<|Qj O<|Ph O<|P4 ((M (2,s,f++PF 0 0) H ⟨by dsimp only;omega,T,?_,?_,?_,?_⟩ (by dsimp only;omega)).qb)
         ·dsimp only;rw[q];rw[if_neg ψ];simp[PF]
         ·exact a.It N (λi hi=>(J i hi).elim .inr (λe=> .inl ω))
         ·intro i hi;rcases tc i hi with e| e
          ·exact J i e
          ·exact .inr ω
         ·have:=N.size;omega
       ·have:i=2:=ω
        subst this;rw[if_neg ψ] at q;refine Pf O (Re O (P3 func201 O (⟨_,O,O,F8,?_,a,λi hi=>(J i hi).imp id (λe=>ω)⟩)));rw[q] at Q;unfold Cd.enc
        simpa using Q
     ·omega
end
structure RgM (w:World)(x r:Nat)(s:P8)(a:Nat):Prop where
 OZ:Pm w x [ptr r 0,.bool false] 366
 rd:Ul w r s a
 ne:x≠r
def RgM.ext {x r:Nat}{s:P8}{a:Nat}(h:RgM w x r s a)(k:Ext w w'):RgM w' x r s a:=⟨k.OZ h.OZ,⟨k.OZ h.rd.1,h.rd.2⟩,h.ne⟩
section
variable {x r:Nat}{s:P8}{a:Nat}
def Xv (h:RgM w x r s a)(n:Nat)(E:n<=64)(H:a+n<=8*s.length):
  PN prog 252 [ptr x 0,I (n:Int)] w λv w'=>v=Pt (PZ (((PA s).drop a).take n))/\RgM w' x r s (a+n)/\Kp (λk=>k=x\/k=r) w w':=by
 obtain⟨hB,B,j⟩:=h
 refine py (e:=[(0,_),(1,_)]) func252 O ntmps252 O O<|qN O<|Rq O<|PQ O<|Pr zey O<|qV (Pl UU O O hB O)<|Ph O<|Px z4r O (Wf B n E) ?_
 rintro G w1 A
 obtain⟨rfl,u,l⟩:G= .tuple #[Pt (PZ (((PA s).drop a).take n)),I 0]/\Ul w1 r s (a+n)/\Kp (λk=>k=r) w w1:=by
  rcases A with⟨-,h⟩|⟨h,-⟩
  ·exact h
  ·omega
 have o:=l.OZ hB j
 refine Ph O<|Ta O<|SO O<|Ro O<|PB O<|PQ O<|Pr z1a O<|qV (Pl U4 O O o O)<|PB O<|R5 O<|Qb<|Ql O<|PQ O<|Pr z1a O ?_
 refine Po O (QZ TZ O O O o ξ) ?_
 rintro w2⟨d,q⟩
 replace d:Pm w2 x [ptr r 0,.bool false] 366:=d
 refine P4<|PM.qb (e:=[(4,_),(5,_)]) ?_
 refine PL O<|Pq O<|P3 func252 O ?_
 exact⟨_,O,O,⟨d,⟨q.OZ u.1 (Ne.symm j),u.2⟩,j⟩,(l.Pk (λk e=> .inr e)).trans (q.Pk (λk e=> .inl e))⟩
def Yz (h:RgM w x r s a)(z most:Nat)(rest:List Bool)(u:(PA s).drop a=List.replicate z false++true::rest)(M:z<=most)(J:most<=65535):
  PN prog 250 [ptr x 0,I (most:Int)] w λv w'=>v=I (z:Int)/\RgM w' x r s (a+z+1)/\Kp (λk=>k=x\/k=r) w w':=by
 have H:a+z+1<=8*s.length:=by
  have:=congrArg List.length u;rw[y07,bitsT_length,Pe,y08,y01] at this;omega
 refine py (e:=[(0,_),(1,_)]) func250 O ntmps250 O O<|Re O<|OY<|Re O<|P6<|RX (α:=Nat) (0) (λn=>[(0,ptr x 0),(1,I (most:Int)),(5,I (n:Int))]) (λn w'=>n<=z/\RgM w' x r s (a+n)/\Kp (λk=>k=x\/k=r) w w') (λn=>z-n) ?hI ?hround
 case hI=>exact⟨y00 _,h,Kp.refl _ _⟩
 case hround=>
  rintro n w1⟨L,o,j⟩ G;have A:=o.OZ
  have B:(PA s).drop (a+n)=List.replicate (z-n) false++true::rest:=by
   rw[<-y0E,u,y1j (by simp;omega),List.drop_replicate]
  try dsimp only
  refine OY<|QG O<|zle O<|Ph O<|SS (λc1=>?_)<|λc1=>?_
  ·have E:PZ (((PA s).drop (a+n)).take 1)=if n=z then 1 else 0:=by
    rw[B];by_cases e:n=z
    ·subst e;rw[y1b,if_pos O];rfl
    ·rw[if_neg e,show z-n=(z-n-1)+1 by omega,y12];rfl
   refine Ph O (PQ O (Pr z1a O (qV (Pl U4 O O A O) (qV (SD O) (Rr O (P4 (Pp O (P5 (R0 (PL O (Px z8p O (Xv o 1 ψ ω) ?_)))))))))));rintro _ w2⟨rfl,q,l⟩;rw[E];refine Rx O<|P4<|Pn O (λc2=>?_)<|λc2=>?_
   ·have d:n=z:=by
     by_cases e:n=z
     ·exact e
     ·rw[if_neg e] at c2;simp at c2
    subst d;refine PL O<|Pq O<|P3 func250 O ?_;exact⟨_,O,O,q,j.trans l⟩
   ·have d:n≠z:=λe=>by rw[if_pos e] at c2;simp at c2
    refine P5<|An<|Ra O<|Qj O<|Pq O ?_;exact(G (n+1) w2 ⟨ω,by rw[<-y1t];exact q,j.trans l⟩ ω).qb
  ·omega
def z7r (h:RgM w x r s a)(z q:Nat)(rest:List Bool)(l:(PA s).drop a=List.replicate z false++true::(PF z q++rest))(o:q<2^z)(H:z<=47):
  PN prog 251 [ptr x 0,I 47] w λv w'=>v=Pt (q+2^z-1)/\RgM w' x r s (a+z+1+z)/\Kp (λk=>k=x\/k=r) w w':=by
 have L:a+z+1+z<=8*s.length:=by
  have:=congrArg List.length l;rw[y07,bitsT_length,Pe,y08,y01,Pe,bitsN_length] at this;omega
 have E:(PA s).drop (a+z+1)=PF z q++rest:=by
  rw[show a+z+1=a+(z+1) by omega,<-y0E,l];rw[<-y0E,y19 ξ];rfl
 have G:PZ (((PA s).drop (a+z+1)).take z)=q:=by
  rw[E,y1f ξ,Qx,y0g o]
 obtain⟨Q,j⟩:∃Q,2^z=Q:=⟨_,O⟩
 rw[j] at o⊢
 have J:1<=Q/\Q<=281474976710656:=by
  rw[<-j];exact⟨y0v _,by have:=y0r (show 0<2 by decide) (show z<=48 by omega);simpa using this⟩
 refine py (e:=[(0,_),(1,_)]) func251 O ntmps251 O O<|qN O<|Ro O<|PB O<|Px zbv O (Yz h z 47 _ l H ψ) ?_
 rintro _ w1⟨rfl,A,u⟩
 have hg:=Ext.Pz w1
 refine Pq O<|OY<|RI (λw'=>Kp (λk=>k=x\/k=r) w1 w') O<|Pu 0 O O hg.kp<|Pu 1 O O hg.kp<|Pu 3 O O hg.kp<|P7 4 O (RN z Q O O ω j) hg.kp ?_
 rw[show 1*Q%18446744073709551616=Q by omega]
 refine Tl 2 O z8p O (Xv (A.ext hg) z ω ω) ?_
 rintro _ w2⟨rfl,B,d⟩
 refine⟨hg.kp.trans d,?_⟩
 rw[G]
 refine P7 5 O (VD O O) (hg.kp.trans d) ?_
 rw[show(q+Q)%18446744073709551616=q+Q by omega]
 refine P7 6 O (Xm (n:=1) O O O (by show q+Q<2^64;omega) ω) (hg.kp.trans d) ?_
 refine P7 7 O (S6 O) (hg.kp.trans d)<|qE<|P3 func251 O ?_
 exact⟨_,O,O,B,u.trans (hg.kp.trans d)⟩
theorem z7i (h:RgM w x r s a)(v K:Nat)(rest:List Bool)(q:(PA s).drop a=Rb v K++rest)(M:v<K)(Y:K<=9223372036854775808):
  PN prog 253 [ptr x 0,Pt K] w λu w'=>u=Pt v/\RgM w' x r s (a+(Rb v K).length)/\Kp (λk=>k=x\/k=r) w w':=by
 have U:a+(Rb v K).length<=8*s.length:=by
  have:=congrArg List.length q;have V:=h.rd.2.1;rw[y07,bitsT_length,Pe] at this;omega
 refine py (e:=[(0,_),(1,_)]) func253 O ntmps253 O O<|qN O<|Rq O<|qV (Xm (n:=1) O O O (by show K<2^64;omega) ω) ?_
 refine Px z3q O (UN (K-1) ω w) ?_
 rintro _ w⟨rfl,rfl⟩
 refine Pq O<|Qi O<|Rx O<|P4 ?_
 by_cases I:K=1
 ·subst I;have R:v=0:=ω
  subst R;rw[show Qn (1-1)=0 from rfl];refine Pn O (λc0=>?_)<|λc0=>?_
  ·refine Re O<|P3 func253 O ?_;exact⟨_,O,O,h,Kp.refl _ _⟩
  ·exact absurd O c0
 ·have f:=z7v M ω rest;dsimp only at f;obtain⟨n,A⟩:∃n,Qn (K-1)=n:=⟨_,O⟩;rw[A] at f⊢;have g:=VA (K:=K) ω;rw[A] at g;obtain⟨Q,o⟩:∃Q,2^n=Q:=⟨_,O⟩;rw[o] at f g;obtain⟨f1,f2,f3⟩:=f
  have J:n<=63:=by
   rw[<-A];have l:(2:Nat)^63=9223372036854775808:=ψ
   exact Rz ω
  have S:Q<=9223372036854775808:=by
   rw[<-o];have:=y0r (show 0<2 by decide) J;have l:(2:Nat)^63=9223372036854775808:=ψ
   omega
  have t1:((PA s).drop a).take (n-1)=(Rb v K).take (n-1):=by rw[q,y1r f2]
  obtain⟨u,B⟩:∃u,PZ ((Rb v K).take (n-1))=u:=⟨_,O⟩
  have X:u<Q:=by
   have d:=RD ((Rb v K).take (n-1));rw[B,y0d] at d;have G:=y0r (show 0<2 by decide) (show min (n-1) (Rb v K).length<=n by omega);omega
  rw[B] at f3;refine Pn O (λc0=>?_)<|λc0=>?_
  ·omega
  ·refine P5 (PL O (qV (RN n Q O O ω o) ?_));rw[show 1*Q%18446744073709551616=Q by omega];refine Ph O (qV (Xm O O O (by show Q<2^64;omega) g.1) ?_);refine Ro O<|PB O<|RR O ?_;rw[show((n:Int)-1)=((n-1:Nat):Int) by omega];refine Px z8p O (Xv h (n-1) ω ω) ?_;rintro _ w1⟨rfl,d,E⟩;rw[t1,B];refine Pq O<|OY<|QG O<|Uj O<|P4<|Pn O (λc1=>?_)<|λc1=>?_
   ·obtain⟨N,j,H⟩:Q-K<=u/\(Rb v K).length=n/\2*u+PZ ((Rb v K).drop (n-1))=v+(Q-K):=by
     rcases f3 with⟨e,-⟩| e
     ·omega
     ·exact e
    have t2:((PA s).drop (a+(n-1))).take 1=(Rb v K).drop (n-1):=by
     rw[<-y0E,q,y1j f2,y1r (by rw[y07];omega),y0N (by rw[y07];omega)]
    have W:PZ ((Rb v K).drop (n-1))<2:=by
     have:=RD ((Rb v K).drop (n-1));rw[y07,j,show n-(n-1)=1 by omega] at this;exact this
    refine Ra O (qV (RN 1 2 O O ψ O) ?_);rw[show u*2%18446744073709551616=u*2 by omega];refine Ph O (Px z8p O (Xv d 1 ψ ω) ?_);rintro _ w2⟨rfl,G,L⟩;rw[t2];refine qV (VD O O) ?_;rw[show(u*2+PZ ((Rb v K).drop (n-1)))%18446744073709551616=v+(Q-K) by omega];refine Ph O (qV (Xm O O O (by show v+(Q-K)<2^64;omega) ω) ?_);rw[show v+(Q-K)-(Q-K)=v by omega];refine Pq O<|PM.qb (e:=[(4,_),(7,_)]) ?_;refine PL O<|Pq O<|P3 func253 O ?_;rw[j];exact⟨_,O,O,by rw[show a+n=a+(n-1)+1 by omega];exact G,E.trans L⟩
   ·obtain⟨N,j,H⟩:u<Q-K/\(Rb v K).length=n-1/\u=v:=by
     rcases f3 with e|⟨e,-⟩
     ·exact e
     ·omega
    refine P5<|PL O<|Pq O<|P3 func253 O ?_;rw[j];exact⟨_,O,by rw[H];rfl,d,E⟩
end
section
variable {x r:Nat}{s:P8}{a:Nat}
theorem z4H (h:RgM w x r s a)(c:Cd)(v:Nat)(y:c.R1)(Q:v<=c.most)(rest:List Bool)(o:(PA s).drop a=c.enc v++rest):
  PN prog 242 [ptr x 0,cdV c] w λu w'=>u=Pt v/\RgM w' x r s (a+(c.enc v).length)/\Kp (λk=>k=x\/k=r) w w':=by
 have V:=XQ c v
 have eg:=h.OZ.lt
 have ic:=h.rd.1.lt
 have T:a+(c.enc v).length<=8*s.length:=by
  have:=congrArg List.length o;have ha:=h.rd.2.1;rw[y07,bitsT_length,Pe] at this;omega
 unfold Cd.enc at o
 rw[y05,y0q] at o
 cases c with
 | unary =>
   refine py (e:=[(0,_),(1,_)]) func242 O ntmps242 O O<|qN O<|Pb O O (RP O (cs:=[.int .u8 0,Pt 0]) O) ?_;rintro _ w1⟨b3,rfl,U,j,l⟩;refine Pq O (OY (qN O (Pr Sz O (qV (Pl U5 O O l O) (P4 (P6 (qN O (Rx O (RO (Pq O (Pp O (PL O (Px zbv O (Yz (h.ext j) v 65535 rest o Q ψ) ?_)))))))))))));rintro _ w2⟨rfl,B,I⟩;have ig:v<=65535:=Q;refine qV (QH O U3 RW ω)<|Pq O<|P3 func242 O (⟨_,O,O,?_,j.kp.trans I⟩);have e:(Cd.enc .unary v).length=v+1:=by rw[V];rfl
   rw[e];exact B
 | gamma =>
   obtain⟨R,J,A⟩:=Wu Q;obtain⟨z,d⟩:∃z,Nat.log2 (v+1)=z:=⟨_,O⟩;rw[d] at R J A;rw[y1L] at J
   have q:(PA s).drop a=List.replicate z false++true::(PF z (v+1-2^z)++rest):=by
    rw[o];show List.replicate (Nat.log2 (v+1)) false++true::(PF (Nat.log2 (v+1)) (v+1-2^Nat.log2 (v+1))++rest)=_;rw[d]
   have e:(Cd.enc .gamma v).length=z+1+z:=by rw[V];show Nat.log2 (v+1)+1+Nat.log2 (v+1)=_;rw[d]
   refine py (e:=[(0,_),(1,_)]) func242 O ntmps242 O O<|qN O<|Pb O O (RP O (cs:=[.int .u8 1,Pt 0]) O) ?_;rintro _ w1⟨b3,rfl,U,j,l⟩;refine Pq O<|OY<|qN O<|Pr Sz O<|qV (Pl U5 O O l O)<|P4<|P6<|qN O<|Rx O<|Qb<|Pq O<|P9 O<|qN O<|Rx O ?_;refine RO (Pq O (Pp O (PL O (Px ziB O (z7r (h.ext j) z (v+1-2^z) rest q ω A) ?_))));rintro _ w2⟨rfl,B,I⟩;rw[show v+1-2^z+2^z-1=v by omega];refine Pq O<|P3 func242 O (⟨_,O,O,?_,j.kp.trans I⟩)
   rw[e,show a+(z+1+z)=a+z+1+z by omega];exact B
 | zeta k =>
   obtain⟨Z,I⟩:1<=k/\k<=16:=y;obtain⟨R,J,A⟩:=Wu Q;have f:=Yr (k:=k) (v:=v) Z;dsimp only at f;obtain⟨b,S⟩:∃b,Nat.log2 (v+1)=b:=⟨_,O⟩;rw[S] at f R J A;obtain⟨z,d⟩:∃z,b / k=z:=⟨_,O⟩;obtain⟨m,H⟩:∃m,z*k=m:=⟨_,O⟩;have K:m<=b:=by rw[<-H,<-d];exact y1A _ _
   have X:z<=47 / k:=by rw[<-d];exact y1M A
   have P:47 / k<=47:=y0R _ _;rw[d,H] at f
   have q:(PA s).drop a=List.replicate z false++true::(Rb (v+1-2^m) (2^m*2^k-2^m)++rest):=by
    rw[o];show List.replicate (Nat.log2 (v+1) / k) false++true::(Rb (v+1-2^(Nat.log2 (v+1) / k*k)) (2^(Nat.log2 (v+1) / k*k)*2^k-2^(Nat.log2 (v+1) / k*k))++rest)=_;rw[S,d,H]
   obtain⟨F,M⟩:∃F,2^m=F:=⟨_,O⟩;obtain⟨G,N⟩:∃G,2^k=G:=⟨_,O⟩;rw[M,N] at f q;obtain⟨f1,f2,f3⟩:=f;obtain⟨E,L⟩:∃E,F*G=E:=⟨_,O⟩
   have D:E<=9223372036854775808:=by
    rw[<-L,<-M,<-N,<-y0M];have:=y0r (show 0<2 by decide) (show m+k<=63 by omega);have i:(2:Nat)^63=9223372036854775808:=ψ
    omega
   rw[L] at f2 f3 q
   have e:(Cd.enc (.zeta k) v).length=z+1+(Rb (v+1-F) (E-F)).length:=by
    rw[Cd.enc,Pe,y08,y01];show Nat.log2 (v+1) / k+((Rb (v+1-2^(Nat.log2 (v+1) / k*k)) (2^(Nat.log2 (v+1) / k*k)*2^k-2^(Nat.log2 (v+1) / k*k))).length+1)=_;rw[S,d,H,M,N,L];omega
   have C:(PA s).drop (a+z+1)=Rb (v+1-F) (E-F)++rest:=by
    rw[show a+z+1=a+(z+1) by omega,<-y0E,q];rw[<-y0E,y19 ξ];rfl
   have W:(z:Int)*(k:Int)=(m:Int):=by rw[<-H];simp
   have p:(47:Int) / (k:Int)=((47 / k:Nat):Int):=ξ
   refine py (e:=[(0,_),(1,_)]) func242 O ntmps242 O O<|qN O<|Pb O O (RP O (cs:=[.int .u8 3,Pt k]) O) ?_;rintro _ w1⟨b3,rfl,U,j,l⟩;refine Pq O<|OY<|qN O<|Pr Sz O<|qV (Pl U5 O O l O)<|P4<|P6<|qN O<|Rx O<|Qb<|Pq O<|P9 O<|qN O<|Rx O ?_;refine Qb<|Pq O<|P9 O<|qN O<|Rx O<|Qb<|Pq O<|P9 O<|qN O<|Rx O<|RO<|Pq O<|Pp O<|qN O ?_;refine Pr Xx O (qV (Pl RW O O l O) (qV (Q8 O RW U3 ω) (Ro O (PB O (qV (X5 O O ω) ?_)))));rw[p];refine Px zbv O (Yz (h.ext j) z (47 / k) _ q X ω) ?_;rintro _ w2⟨rfl,B,Y⟩;refine Ph O (qV (Y8 O O (by rw[W];omega)) ?_);rw[W];refine qV (RN m F O O ω M) ?_;rw[show 1*F%18446744073709551616=F by omega];refine Pq O<|PM.qb (e:=[(0,_),(3,_),(4,_),(6,_),(7,_)]) ?_;refine QG O (Ph O (qV (RN k G O O ω N) ?_));rw[L,y0g (show E<18446744073709551616 by omega)];refine Ph O (qV (Xm O O O (by show E<2^64;omega) ω) ?_);refine Px zjt O (z7i B (v+1-F) (E-F) rest C f2 ω) ?_;rintro _ w3⟨rfl,t,g⟩;refine Ph O<|qV (VD O O) ?_;rw[show(v+1-F+F)%18446744073709551616=v+1 by omega];refine qV (Xm (n:=1) O O O (by show v+1<2^64;omega) ω) ?_;rw[show v+1-1=v by omega];refine Pq O<|P3 func242 O (⟨_,O,O,?_,(j.kp.trans Y).trans g⟩);rw[e,show a+(z+1+(Rb (v+1-F) (E-F)).length)=a+z+1+(Rb (v+1-F) (E-F)).length by omega];exact t
end
def z6z {tmps:Array Value}{R:Ending->World->Prop}{g:FuncId}{cap:List Value}{S:Value->World->Prop}(l:CF P g)(e:z7o P g (args++cap) w S)
  (h:∀u w',S u w'->∃v,(results fn tmps).run P w'= .ok v w'/\R (.returned v) w'):LeavesInM Fence.wide 0 P fn tmps R (marks [.call g cap args]) .returning w:=by
 refine⟨ξ,.inr ⟨(λh=>by cases h),.func g,cap.toArray,g,(args++cap).toArray,rfl,?_,(λ_ _=>trivial),?_⟩⟩
 ·simp[Dfr.d,invoke,TO l]
 ·refine CallsDIn.mono e ?_;rintro x u w1⟨rfl,n,rfl,j⟩;exact h n w1 j
def z0l {R:Value->World->Prop}{n:Nat}{k:List Item}{e:Env}{g:FuncId}{cap:List Value}{S:Value->World->Prop}(q:P.funcs[f]? =some fn)(x:CF P g)(l:z7o P g (args++cap) w S)
  (h:∀u w',S u w'->∃vs,ZB P w' e fn.results.toList vs/\XY R (.returned (Qy vs)) w'):PM ⟨P,f,R,n,none,[.call g cap args],false⟩ (.code .ret::k) e w:=
 z5B O O q λa o=>z6z x l λu w' v=>by
  obtain⟨vs,d,j⟩:=h u w' v;exact⟨_,WA o P w' fn vs d,j⟩
def ydf {e:Env}{pos:String}{x:Operand}{q:List Value}(h:look e x=some (.func (.func f) #[] q.toArray)):
  ∀ρ:Operand->Value,(∀x v,look e x=some v->ρ x=v)->(execOp ρ ⟨none,.defer ⟨.value x,#[],#[]⟩,ty,pos,aft,g⟩).run P w= .ok (.defer (Dfr.d (.call f q []))) w:=fun ρ j=>by
 simp[execOp,resolve,j _ _ h,Dfr.d,Deferred.ofValue]
section
variable {r:Nat}{s:P8}{a:Nat}
def z5t {b5:Nat}(hB:Pm w b5 [I 0] 45):z7o prog 241 [ptr b5 0,ptr b2 0,ptr b6 0] w λu w'=>w'=w:=by
 refine z4X (e:=[(0,_),(1,_),(2,_)]) func241 O ntmps241 O O<|qN O<|qV (Pl U45 O O hB O)<|R5 O<|P4<|Pn O (λc0=>?_)<|λc0=>?_
 ·exact absurd O c0
 ·refine P5<|z2e O O O func241<|λa d=>⟨_,TC d _ _ _ _ O,?_⟩;exact⟨_,O,O⟩
theorem ZK (h:Ul w r s a)(c:Cd)(v:Nat)(S:c.R1)(hv:v<=c.most)(rest:List Bool)(hb:(PA s).drop a=c.enc v++rest):
  PN prog 229 [ptr r 0,cdV c] w λu w'=>u= .tuple #[Pt v,I 0]/\Ul w' r s (a+(c.enc v).length)/\Kp (λk=>k=r) w w':=by
 obtain⟨x,y,d⟩:∃x y,SI c=[x,y]:=by cases c<;>exact⟨_,_,O⟩
 have ic:=h.1.lt
 have eF:=c.z0Y
 refine py (e:=[(0,_),(1,_)]) func229 O ntmps229 O O<|qN O<|Pb O O (RP O (cs:=[ptr r 0]) O) ?_
 rintro _ w1⟨b2,rfl,bU,L,Y⟩
 refine Pb O O (RP O (cs:=SI c) O) ?_
 rintro _ w2⟨b3,rfl,eh,o,Z⟩
 refine SO O<|Pb O O (S5 (cs:=[_]) z5N O) ?_
 rintro _ G⟨b5,rfl,gp,j,l⟩
 replace l:Pm G b5 [I 0] 45:=l
 have E:Ul G r s a:=⟨j.OZ (o.OZ (L.OZ h.1)),h.2⟩
 have b:=j.OZ (o.OZ Y)
 have g:=j.OZ Z
 refine P4<|R0<|qN O<|qV (Pl UU O O b O)<|qV (Qz UU O O)<|Pq O<|P9 O<|qN O<|qV (PO (news:=SI c) St O Rh O (g.cells (n:=2) (by rw[d];rfl)) (by rw[d];rfl)) ?_
 refine Px z5X O (UX c S G) ?_
 rintro _ V⟨rfl,q⟩
 have h4:Ul V r s a:=⟨q.OZ E.1,E.2⟩
 have m:=q.OZ b
 refine R5 O<|Pq O<|Pn O (λc0=>?_)<|λc0=>?_
 ·exact absurd O c0
 ·refine P5<|An<|qN O<|qV (Pl UU O O m O)<|Px Zc O (UF h4) ?_;rintro _ V⟨rfl,rfl⟩;refine Pb O O (S5 (cs:=[_]) Qe O) ?_;rintro _ w5⟨b6,rfl,oT,X,K⟩;refine Po O (QZ Qe O O O K ξ) ?_;rintro w6⟨nq,F⟩;have z1:=L.size;have z2:=o.size;have z3:=j.size;have z4:=q.size;have z5:=X.size;have l2:=Y.lt;have l3:=Z.lt;have l5:=l.lt;have N:Ext V w6:=X.It F (λi hi=>ω);have T:=N.OZ m;refine qM O<|qV (ymf (first:=[]) (caps:=[.tmp 5,.tmp 2,.tmp 6]) O O)<|z6D O O (ydf O)<|qM O<|qV (Pl UU O O T O)<|qV (T3 (cs:=[_,_]) zjw O ziR O O)<|Pb O O (RP O O) ?_;rintro _ H⟨b7,rfl,kR,f,M⟩;replace M:Pm H b7 [ptr r 0,.bool false] 366:=M;have z6:=N.size;have z7:=f.size;have B:Ext G H:=(q.trans N).trans f;have h7:RgM H b7 r s a:=⟨M,⟨B.OZ E.1,E.2⟩,ω⟩;have p:=B.OZ g;have jS:=B.OZ l;refine Pq O (Qi O (qV (PO (news:=SI c) St O Rh O (p.cells (n:=2) (by rw[d];rfl)) (by rw[d];rfl)) ?_));refine Px zjW O (z4H h7 c v S hv rest hb) ?_;rintro _ z⟨rfl,R,J⟩;have ns:=J.OZ p ω;have C:=J.OZ jS ω;have P:=R.OZ;refine Rq O (PQ O (Pr z1a O (qV (Pl U4 O O P O) (PB O (qV (PO (news:=SI c) St O Rh O (ns.cells (n:=2) (by rw[d];rfl)) (by rw[d];rfl)) ?_)))));refine Px zeT O (z3l c S z) ?_;rintro _ w9⟨rfl,Q⟩;refine R8 O<|Ql O<|P4<|PM.qb (e:=[(4,_),(5,_),(33,_)]) ?_;refine Pn O (λc1=>?_)<|λc1=>?_
  ·omega
  ·have D:=Q.OZ C;refine P5 (PL O (SO O (Po O (QZ z5N O O O D ξ) ?_)));rintro U⟨A,W⟩;replace A:Pm U b5 [I 0] 45:=A;refine P4<|z0l func229 zhL (z5t (b2:=b2) (b6:=b6) A) ?_;rintro u w' rfl;have t:Ul w9 r s (a+(c.enc v).length):=⟨Q.OZ R.rd.1,R.rd.2⟩;refine⟨_,.tmp O (.cell1 U45 O O ((A).cell _) .nil),_,O,O,⟨W.OZ t.1 ω,t.2⟩,?_⟩;have jT:Ext w H:=((L.trans o).trans j).trans B;have j9:Kp (λk=>k=r) w z:=jT.kp.It J (λi hi=>hi.elim (λe=> .inl ω) .inr);exact(j9.trans Q.kp).It W (λi hi=> .inl ω)
end
/-! ### Runs -/
def expand:Bool->List Nat->List Bool
 |_,[]=>[]
 |b,n::r=>List.replicate n b++expand (!b) r
theorem YL:∀(b:Bool)(r s:List Nat),expand b (r++s)=expand b r++expand (if r.length%2=0 then b else !b) s
 |b,[],s=>by simp[expand]
 | b, n :: r, s => by
   rw[y0q,expand,expand,YL (!b) r s,y05]
   congr 2
   rcases y1Q r.length with e| e
   ·rw[if_pos e,if_neg (by rw[y01];omega)]
   ·rw[if_neg ω,if_pos (by rw[y01];omega)];simp
theorem Te:∀(b:Bool)(r:List Nat),(expand b r).length=r.sum
 |_,[]=>rfl
 |b,n::r=>by rw[expand,Pe,y08,Te (!b) r,y0I]
def Rt (rs:List Nat)(f:Bool):List Nat:=
 let d:=if f !=(rs.length%2==1) then rs++[0] else rs
 d.modify (d.length-1) (·+1)
theorem Xe (l:List Nat)(n:Nat):(l++[n]).modify ((l++[n]).length-1) (·+1)=l++[n+1]:=by
 have key:∀l:List Nat,(l++[n]).modify l.length (·+1)=l++[n+1]:=λl=>by
  induction l with
  |nil=>rfl
  |cons a l d=>simpa using d
 have:(l++[n]).length-1=l.length:=ξ
 rw[this,key]
structure U6 (rs:List Nat)(fs:List Bool):Prop where
 ne:rs≠[]
 exp:expand true rs=fs
 pos:∀n∈rs.drop 1,1<=n
theorem U6.zero:U6 [0] []:=⟨ξ,rfl,ξ⟩
theorem U6.step {rs:List Nat}{s:List Bool}(h:U6 rs s)(f:Bool):U6 (Rt rs f) (s++[f]):=by
 obtain⟨u,o,q⟩:=h
 obtain⟨l,n,rfl⟩:∃l n,rs=l++[n]:=⟨rs.dropLast,rs.getLast u,(y2v u).symm⟩
 unfold Rt
 dsimp only
 have j:(l++[n]).length=l.length+1:=ξ
 rw[j]
 split
 ·rename_i r
  rw[Xe];refine⟨ξ,?_,λk d=>?_⟩
  ·rw[YL,o,j]
   congr 1
   rcases y1Q l.length with e|e<;>cases f<;>simp[expand,e,Nat.add_mod] at r⊢
  ·rw[y1j (by rw[j];omega)] at d;rcases y0u.1 d with d|d
   ·exact q k d
   ·simp at d;omega
 ·rename_i r
  rw[Xe];refine⟨ξ,?_,λk d=>?_⟩
  ·rw[YL] at o⊢;rw[<-o,y05]
   congr 1
   simp only[expand,y0o,List.replicate_succ']
   congr 1
   rcases y1Q l.length with e|e<;>cases f<;>simp[e,Nat.add_mod] at r⊢
  ·cases l with
   |nil=>simp at d
   | cons a l =>
     rw[y0q,y2e,y13] at d q;rcases y0u.1 d with d|d
     ·exact q k (y1W _ d)
     ·simp at d;omega
def copyL:Bool->List Nat->List Nat->List Nat
 |b,[],ref=>if b then ref else []
 |b,n::r,ref=>(if b then ref.take n else [])++copyL (!b) r (ref.drop n)
def sel:List Nat->List Bool->List Nat
 |x::l,f::fs=>if f then x::sel l fs else sel l fs
 |_,_=>[]
theorem z8h:∀{a b:List Nat} {d gs:List Bool},a.length=d.length->sel (a++b) (d++gs)=sel a d++sel b gs
 |[],b,[],gs,_=>rfl
 | x :: a, b, f :: d, gs, h => by
   have e:a.length=d.length:=by simpa using h
   rw[y0q,y0q,sel,sel,z8h e];cases f<;>simp
theorem z3Z:∀(l:List Nat)(b:Bool),sel l (List.replicate l.length b)=if b then l else []
 |[],b=>by cases b<;>rfl
 | x :: l, b => by
   rw[y01,y12,sel,z3Z l b];cases b<;>rfl
theorem z5D:∀(b:Bool)(rs:List Nat) (m:Nat) (ref:List Nat),ref.length=(rs++[m]).sum->copyL b rs ref=sel ref (expand b (rs++[m]))
 | b, [], m, ref, h => by
   have e:m=ref.length:=by simpa using h.symm
   subst e;simp only[copyL,y18,expand,y0o]
   rw[z3Z]
 | b, n :: rs, m, ref, h => by
   rw[y0q,y0I] at h;have d:(ref.take n).length=n:=by rw[y0d];omega
   rw[copyL,y0q,expand,z5D (!b) rs m (ref.drop n) (by rw[y07];omega)]
   conv=>rhs;rw[<-y1c n ref,z8h (by rw[d,y08])]
   congr 1
   have:=z3Z (ref.take n) b;rw[d] at this;exact this.symm
/-! ### Rows of numbers that follow one another -/
def Qk:Nat->List Nat->Nat
 |_,[]=>0
 |x,y::l=>if y=x+1 then Qk y l+1 else 0
def XV:∀(x:Nat)(l:List Nat),Qk x l<=l.length
 |_,[]=>y02 _
 | x, y :: l => by
   unfold Qk;split
   ·have:=XV y l;simp;omega
   ·exact y00 _
theorem Wk:∀(x:Nat)(l:List Nat) (i:Nat),i<Qk x l->l[i]? =some (x+1+i)
 |_,[],i,h=>by simp[Qk] at h
 | x, y :: l, i, h => by
   unfold Qk at h;split at h
   ·rename_i e
    subst e
    cases i with
    |zero=>rfl
    |succ i=>rw[y1G,Wk (x+1) l i ω];congr 1;omega
   ·omega
def Xb:∀(x:Nat)(l:List Nat) (y:Nat),l[Qk x l]? =some y->y≠x+1+Qk x l
 |_,[],y,h=>by simp at h
 | x, z :: l, y, h => by
   unfold Qk at h⊢;split
   ·rename_i e
    rw[if_pos e,y1G] at h;have:=Xb z l y h;omega
   ·rename_i e
    rw[if_neg e,y1v] at h;cases h;omega
def Qo (least:Nat):List Nat->List (Nat×Nat)×List Nat
 |[]=>([],[])
 | x :: l =>
   let n:=Qk x l+1
   let q:=Qo least (l.drop (Qk x l))
   if 0<least/\least<=n then((x,n)::q.1,q.2) else(q.1,x::l.take (Qk x l)++q.2)
termination_by l=>l.length
decreasing_by simp[y07];omega
def Rm (l:List (Nat×Nat)):List Nat:=l.flatMap λp=>(List.range p.2).map (p.1+·)
abbrev Ris (l:List Nat):Prop:=l.Pairwise (·<·)
theorem zdi (x:Nat)(l:List Nat):x::l.take (Qk x l)=(List.range (Qk x l+1)).map (x+·):=by
 apply y0K
 intro i
 have d:=XV x l
 cases i with
 |zero=>simp
 | succ i =>
   rw[y1G,y1I,y0i];split
   ·rename_i h
    rw[Wk x l i h,y1i ω];simp;omega
   ·rw[y0e (by simp;omega)];rfl
def Ud (least:Nat):∀(l:List Nat),(Rm (Qo least l).1++(Qo least l).2).Perm l
 |[]=>by simp[Qo,Rm]
 | x :: l => by
   have e:=Ud least (l.drop (Qk x l));have h:=zdi x l;have d:x::l=(x::l.take (Qk x l))++l.drop (Qk x l):=by rw[y0q,y1c]
   rw[Qo];split
   ·rw[show Rm ((x,Qk x l+1)::(Qo least (l.drop (Qk x l))).1)=(List.range (Qk x l+1)).map (x+·)++Rm (Qo least (l.drop (Qk x l))).1 by simp[Rm]];rw[<-h,y05]
    conv=>rhs;rw[d]
    exact e.append_left _
   ·conv=>rhs;rw[d]
    refine y36 ?_<|e.append_left _;rw[<-y05,<-y05];exact(List.perm_append_comm).append_right _
 termination_by l=>l.length
 decreasing_by simp[y07];omega
def zig (z:Int):Nat:=if 0<=z then(2*z).toNat else(-2*z-1).toNat
def zag (n:Nat):Int:=if n%2=0 then((n / 2:Nat):Int) else -((n / 2:Nat):Int)-1
theorem z8L (z:Int):zag (zig z)=z:=by
 unfold zig zag
 split
 ·rw[if_pos ω];omega
 ·rw[if_neg ω];omega
def z09 {z:Int}{n:Nat}(d: -(n:Int)<=z)(e:z<(n:Int)):zig z<2*n:=by
 unfold zig
 split<;>omega
structure Sr where
 PE:Nat
 interval:Nat
 zeta:Nat
def RF (succ ref:List Nat):List Nat:=ref.foldl (λrs y=>Rt rs (decide (y∈succ))) [0]
def Tz (succ ref:List Nat):U6 (RF succ ref) (ref.map λy=>decide (y∈succ)):=by
 unfold RF
 have key:∀(l:List Nat)(rs:List Nat) (d:List Bool),U6 rs d->U6 (l.foldl (λrs y=>Rt rs (decide (y∈succ))) rs) (d++l.map λy=>decide (y∈succ)):=by
  intro l
  induction l with
  |nil=>intro rs d h;simpa using h
  | cons y l e =>
    intro rs d h;have:=e _ _ (h.step (decide (y∈succ)))
    simpa using this
 simpa using key ref [0] [] U6.zero
def PI (succ ref:List Nat):List Nat:=succ.filter λv=>decide (v∉ref)
theorem z9a (P:Nat->Bool):∀l:List Nat,sel l (l.map P)=l.filter P
 |[]=>rfl
 | x :: l => by
   rw[y0n,sel,z9a P l];cases h:P x<;>simp[h]
def zb1 (succ ref:List Nat):copyL true (RF succ ref).dropLast ref=ref.filter λy=>decide (y∈succ):=by
 have h:=Tz succ ref
 obtain⟨l,n,e⟩:∃l n,RF succ ref=l++[n]:=⟨_,_,(y2v h.ne).symm⟩
 rw[e,y2g]
 have d:=h.exp
 rw[e] at d
 have j:ref.length=(l++[n]).sum:=by
  have:=congrArg List.length d;rw[Te,y0k] at this;exact this.symm
 rw[z5D true l n ref j,d,z9a]
def QN:Nat->List Nat->List (Cd×Nat)
 |_,[]=>[]
 |i,n::r=>(.gamma,n-min i 1)::QN (i+1) r
def Qd (x least:Nat):Option Nat->List (Nat×Nat)->List (Cd×Nat)
 |_,[]=>[]
 |none,p::r=>(.gamma,zig ((p.1:Int)-x))::(.gamma,p.2-least)::Qd x least (some (p.1+p.2-1)) r
 |some e,p::r=>(.gamma,p.1-e-2)::(.gamma,p.2-least)::Qd x least (some (p.1+p.2-1)) r
def Qg (x k:Nat):Option Nat->List Nat->List (Cd×Nat)
 |_,[]=>[]
 |none,v::r=>(.zeta k,zig ((v:Int)-x))::Qg x k (some v) r
 |some u,v::r=>(.zeta k,v-u-1)::Qg x k (some v) r
def S2 (p:Sr)(x:Nat)(succ ref:List Nat)(r:Nat):List (Cd×Nat):=
 (.gamma,succ.length)::if succ=[] then [] else
  (if 0<p.PE then [(.unary,r)] else [])++
  ((if 0<r then(.gamma,(RF succ ref).length-1)::QN 0 (RF succ ref).dropLast else [])++
  (if PI succ ref=[] then [] else
   (if 0<p.interval then(.gamma,(Qo p.interval (PI succ ref)).1.length)::Qd x p.interval none (Qo p.interval (PI succ ref)).1 else [])++
   Qg x p.zeta none (Qo p.interval (PI succ ref)).2))
def PD (l:List (Cd×Nat)):List Bool:=l.flatMap λp=>p.1.enc p.2
def z7F {succ ref:List Nat}(j:Ris succ)(e:Ris ref)(p:Nat):(ref.filter (λy=>decide (y∈succ))++(Rm (Qo p (PI succ ref)).1++(Qo p (PI succ ref)).2)).Perm succ:=by
 have d:(ref.filter λy=>decide (y∈succ)).Perm (succ.filter λv=>decide (v∈ref)):=by
  refine(List.perm_ext_iff_of_nodup (e.imp (λh=>ω) |>.filter _) (j.imp (λh=>ω) |>.filter _)).2 λa=>?_;simp only[y1a,decide_eq_true_eq];exact And.comm
 refine(d.append (Ud p _)).trans ?_
 unfold PI
 have:=List.filter_append_perm (λv=>decide (v∈ref)) succ
 refine y36 ?_ this
 refine y3e _ ?_
 simp
theorem z6X {a b:List Nat}(h:a.Perm b)(d:a.Pairwise (·<=·))(e:Ris b):a=b:=
 h.eq_of_pairwise (le:=(·<=·)) (λx y _ _ j l=>ω) d (e.imp (λh=>ω))
def Tp (least:Nat):Nat->List (Nat×Nat)->Prop
 |_,[]=>True
 |lo,p::r=>lo<=p.1/\1<=p.2/\least<=p.2/\Tp least (p.1+p.2+1) r
def Tp.mono {least:Nat}:∀{r:List (Nat×Nat)} {a b:Nat},Tp least b r->a<=b->Tp least a r
 |[],_,_,_,_=>trivial
 |p::r,a,b,h,hab=>⟨y0b hab h.1,h.2⟩
theorem z7k {x:Nat}{l:List Nat}(h:Ris (x::l)):∀y∈l.drop (Qk x l),x+Qk x l+2<=y:=by
 intro y E
 obtain⟨j,A,e⟩:=List.mem_iff_getElem.1 E
 rw[List.getElem_drop] at e
 rw[y07] at A
 obtain⟨v,r⟩:=y1m.1 h
 have B:=XV x l
 have n:Qk x l<l.length:=ω
 obtain⟨z,o⟩:∃z,l[Qk x l]? =some z:=⟨_,y03 n⟩
 have I:=Xb x l z o
 have d:=(y0m.1 o).2
 have G:x+Qk x l<z:=by
  by_cases q:Qk x l=0
  ·have:=v z (y0j o);omega
  ·have hg:=Wk x l (Qk x l-1) ω;obtain⟨s,u⟩:=y0m.1 hg;have:=y1z.1 r (Qk x l-1) (Qk x l) s n ω;rw[u,d] at this;omega
 have H:z<=y:=by
  by_cases q:j=0
  ·subst q;simp at e;rw[<-e,<-d];exact y02 _
  ·have:=y1z.1 r (Qk x l) (Qk x l+j) n ω ω;rw[e,d] at this;omega
 omega
def VP (least:Nat):∀(l:List Nat)(lo:Nat),Ris l->(∀y∈l,lo<=y)->Tp least lo (Qo least l).1
 |[],lo,_,_=>by rw[Qo];trivial
 | x :: l, lo, h, hl => by
   have j:=z7k h;have e:Ris (l.drop (Qk x l)):=(y1m.1 h).2.sublist (y1o _ _);rw[Qo];split
   ·rename_i n
    refine⟨hl x ξ,ω,n.2,VP least _ _ e λy d=>?_⟩;have:=j y d;omega
   ·refine VP least _ _ e λy d=>?_;have:=j y d;have:=hl x ξ;omega
 termination_by l=>l.length
 decreasing_by all_goals (simp[y07];omega)
def Vd (least:Nat):∀(l:List Nat),(Qo least l).2.Sublist l
 |[]=>by rw[Qo];exact y30 _
 | x :: l => by
   have d:=Vd least (l.drop (Qk x l));rw[Qo];split
   ·exact(d.trans (y1o _ _)).cons x
   ·have e:x::l=(x::l.take (Qk x l))++l.drop (Qk x l):=by rw[y0q,y1c]
    conv=>rhs;rw[e]
    exact d.append_left _
 termination_by l=>l.length
 decreasing_by simp[y07];omega
abbrev PX (n:Nat):Value:= .int .u32 (n:Int)
theorem z5E (m:Nat)(h:m<18446744073709551616):m^^^18446744073709551615=18446744073709551615-m:=by
 have j:=congrArg BitVec.toNat (BitVec.xor_allOnes (x:=BitVec.ofNat 64 m))
 rw[y2k,BitVec.toNat_not,BitVec.toNat_allOnes,BitVec.toNat_ofNat] at j
 rw[show(2:Nat)^64=18446744073709551616 from rfl,y0g h] at j
 exact j
section
variable {e:Env}{d:Option Nat}{pos:String}{x:Operand}
def zk7 (n:look e x=some (I (m:Int)))(o:look e y=some (I 0))(q:m<2^63):Y P e ⟨d,.binOp .xor t x y t',ty,pos,aft,g⟩ (I (m:Int)) w w:=fun ρ h=>by
 have j:m<2^IntKind.i64.bits:=by simp only[IntKind.bits];omega
 have l:(BitVec.ofInt IntKind.i64.bits 0).toNat=0:=ψ
 simp only[execOp,eqGuard_xor,binOp_xor,intBits_xor,h _ _ n,h _ _ o,pure_bind,y04,bits,y2k,Rv j,l,Nat.xor_zero]
 rw[wrap_i64 ⟨ω,ω⟩]
def zkl (o:look e x=some (I (m:Int)))(q:look e y=some (I (-1)))(r:m<2^63):Y P e ⟨d,.binOp .xor t x y t',ty,pos,aft,g⟩ (I (-(m:Int)-1)) w w:=fun ρ h=>by
 have j:m<2^IntKind.i64.bits:=by simp only[IntKind.bits];omega
 have l:(BitVec.ofInt IntKind.i64.bits (-1)).toNat=18446744073709551615:=ψ
 simp only[execOp,eqGuard_xor,binOp_xor,intBits_xor,h _ _ o,h _ _ q,pure_bind,y04,bits,y2k,Rv j,l]
 rw[z5E m ω]
 congr 2
 have n:((18446744073709551615-m:Nat):Int)=-(m:Int)-1+18446744073709551616:=ω
 rw[n]
 simp only[IntKind.wrap,IntKind.bits,IntKind.signed]
 simp
 omega
end
/-! ### Numbers with a sign -/
theorem z8T (z:Int)(h: -4611686018427387904<=z/\z<4611686018427387904)(w:World):PN prog 224 [I z] w λu w'=>u=Pt (zig z)/\w'=w:=by
 rcases Int.lt_or_le z 0 with j|j
 ·obtain⟨n,rfl⟩:∃n:Nat,z=-(n:Int)-1:=⟨(-z-1).toNat,ω⟩;refine py (e:=[(0,_)]) func224 O ntmps224 O O (qN O (Rq O (qV (ycv (b:=((18446744073709551615-n:Nat):Int)) O U2 RW (by simp only[IntKind.wrap,IntKind.bits,IntKind.signed];simp;omega)) ?_)));refine qV (RN 1 2 O O ψ O) (Ph O (qV (ysr 63 O O ψ) ?_));rw[show(-(n:Int)-1) / 2^63=-1 by omega];refine qV (ycv (b:=((18446744073709551615:Nat):Int)) O U2 RW ψ) (qV (z2w O O ω ω) (Pq O (P3 func224 O (⟨_,O,?_,O⟩))));rw[z5E _ ω];simp only[Qy]
  congr 2
  unfold zig;rw[if_neg ω];omega
 ·obtain⟨n,rfl⟩:∃n:Nat,z=(n:Int):=⟨z.toNat,ω⟩;refine py (e:=[(0,_)]) func224 O ntmps224 O O (qN O (Rq O (qV (QH O U2 RW ω) (qV (RN 1 2 O O ψ O) (Ph O (qV (Vk 63 9223372036854775808 O O ψ O) (qV (QH O U2 RW ω) (qV (z2w O O ω ω) (Pq O (P3 func224 O (⟨_,O,?_,O⟩)))))))))));rw[show n / 9223372036854775808=0 by omega,Nat.xor_zero];simp only[Qy]
  congr 2
  unfold zig;rw[if_pos ω];omega
def z90 (n:Nat)(h:n<9223372036854775808)(w:World):PN prog 244 [Pt n] w λu w'=>u=I (zag n)/\w'=w:=by
 refine py (e:=[(0,_)]) func244 O ntmps244 O O<|qN O<|Rq O<|qV (Vk 1 2 O O ψ O)<|qV (Q8 O RW U2 ω)<|Ph O<|qV (Va O O ω ω) ?_
 rw[y2j]
 refine qV (Q8 O RW U2 ω) ?_
 rcases y1Q n with j|j
 ·rw[j];refine qV (yng O ψ ψ) (qV (zk7 O O ω) (Pq O (P3 func244 O (⟨_,O,?_,O⟩))));simp only[Qy];unfold zag;rw[if_pos j]
 ·rw[j];refine qV (yng O ψ ψ) (qV (zkl O O ω) (Pq O (P3 func244 O (⟨_,O,?_,O⟩))));simp only[Qy];unfold zag;rw[if_neg ω]
/-! ### The parameters -/
def lpC (p:Sr):List Value:=[I (p.PE:Int),I (p.interval:Int),I (p.zeta:Int)]
abbrev lpV (p:Sr):Value:= .agg (lpC p).toArray
def Sr.R1 (p:Sr):Prop:=p.PE<=16/\(p.interval=0\/2<=p.interval/\p.interval<=64)/\1<=p.zeta/\p.zeta<=16
theorem Us (p:Sr)(n:p.R1)(w:World):PN prog 197 [lpV p] w λu w'=>u=I 0/\Ext w w':=by
 obtain⟨q,r,s,v⟩:=n
 refine py (e:=[(0,_)]) func197 O ntmps197 O O<|qN O<|Pb O O (RP O (cs:=lpC p) O) ?_
 rintro _ w1⟨b1,rfl,o,j,h⟩
 replace h:Pm w1 b1 [I (p.PE:Int),I (p.interval:Int),I (p.zeta:Int)] 276:=h
 refine Pq O<|R0<|OY<|qN O<|Pr TT O<|qV (Pl U3 O O h O)<|QY O<|Qb<|Ph O<|Pr TT O<|qV (Pl U3 O O h O)<|R8 O<|Qb<|Ql O ?_
 refine Pq O<|P9 O<|qN O<|Pr z0V O<|qV (Pl U3 O O h O)<|QY O<|Qb<|Ph O<|Pr z0V O<|qV (Pl U3 O O h O)<|R8 O<|Qb<|Ql O<|Pq O ?_
 refine P9 O<|Pc O<|Pr UJ O<|qV (Pl U3 O O h O)<|R5 O<|SS (λl=>?_)<|λl=>?_
 ·refine Ph O<|Pr UJ O<|qV (Pl U3 O O h O)<|QY O<|Qb<|Ph O<|Pr UJ O<|qV (Pl U3 O O h O)<|R8 O<|Qb<|Ql O<|Rr O<|Pq O<|PM.qb (e:=[(2,_),(3,_)]) ?_;refine Tj O<|An<|Re O<|P3 func197 O ?_;exact⟨_,O,O,j⟩
 ·refine Ph O<|QV<|QV<|QV<|QV<|Ql O<|Pq O<|PM.qb (e:=[(2,_),(3,_)]) ?_;refine Tj O<|An<|Re O<|P3 func197 O ?_;exact⟨_,O,O,j⟩
def Wt (n:Nat)(h:n<65536)(w:World):PN prog 211 [I (n:Int)] w λu w'=>u= .bool true/\w'=w:=by
 refine py (e:=[(0,_)]) func211 O ntmps211 O O<|qN O<|Rq O<|Uj O<|RO<|PB O<|QY O<|RO<|Rr O<|Pq O<|P3 func211 O ?_
 exact⟨_,O,O,O⟩
structure Q4 (l:List Nat):Prop where
 ris:Ris l
 lt:∀y∈l,y<65536
def z3R:∀(l:List Nat)(lo hi:Nat),Ris l->(∀y∈l,lo<=y/\y<hi)->lo<=hi->lo+l.length<=hi
 |[],lo,hi,_,_,h=>h
 | x :: l, lo, hi, hr, hm, h => by
   have j:=(y1m.1 hr);have o:=hm x y0p;have:=z3R l (x+1) hi j.2 (λy n=>⟨j.1 y n,(hm y (y0s _ n)).2⟩) ω;rw[y01];omega
theorem Q4.len {l:List Nat}(h:Q4 l):l.length<=65536:=by
 have:=z3R l 0 65536 h.ris (λy j=>⟨y00 _,h.lt y j⟩) ψ
 omega
theorem Q4.sub {l m:List Nat}(h:Q4 l)(j:m.Sublist l):Q4 m:=⟨h.ris.sublist j,λy n=>h.lt y (j.subset n)⟩
theorem Xo (v:Value)(l:List Nat)(n:Q4 l)(w:World)(r:Rd w v 1 l.length (l.map PX)):
  PN prog 212 [v] w λu w'=>u= .bool true/\w'=w:=by
 have G:=n.len
 obtain⟨a,cap,rfl,H⟩:=r.shape
 refine py (e:=[(0,_)]) func212 O ntmps212 O O<|Re O<|Qi O<|RQ PS O<|Ph O<|P4<|P6<|RX (α:=Nat) (0) (λi=>[(0,.slice a l.length cap),(5,.slice a l.length cap),(6,I (l.length:Int)),(7,I (i:Int))]) (λi w'=>w'=w/\i<=l.length) (λi=>l.length-i) ?hI ?hround
 case hI=>exact⟨O,ω⟩
 case hround=>
  rintro i _⟨rfl,hi⟩ s
  try dsimp only
  refine qN O<|QY O<|P4<|OY<|Pn O (λA=>?_)<|λA=>?_
  ·have j:i<l.length:=ω
   have L:=n.lt l[i] (y1d j);rcases r.2 with⟨c,-,h⟩|⟨b,off,q,E,o⟩
   ·omega
   cases E;refine P5 (R0 (PL O (qV (Qc PS Py O O ω) (qV (PG R9 O O (o (i*1) (PX l[i]) (by simp[j]))) ?_))));refine SO O<|Rq O<|Uj O<|Qb<|PB O<|R8 O<|SS (λB=>?_)<|λB=>?_
   ·have J:l[i-1]<l[i]:=(y1z.1 n.ris) (i-1) i ω j ω;refine PB O<|PB O<|RR O ?_;rw[show(i:Int)-1=((i-1:Nat):Int) by omega];refine qV (Qc PS Py O O ω) (qV (PG R9 O O (o ((i-1)*1) (PX l[i-1]) (by simp[show i-1<l.length by omega]))) ?_);refine zle O<|Qb<|Rr O<|Ql O<|QC O<|An<|Pc O<|Qj O<|Ph O<|P4 ?_;exact(s (i+1) _ ⟨O,ω⟩ ω).qb
   ·refine Ph O<|QV<|QV<|QV<|qS<|Ql O<|Ql O<|QC O<|An<|Pc O<|Qj O<|Ph O<|P4 ?_;exact(s (i+1) _ ⟨O,ω⟩ ω).qb
  ·refine Pf O<|Re O<|P3 func212 O ?_;exact⟨_,O,O,O⟩
theorem zbn (p:Sr)(B:p.R1)(x:Nat)(L:x<65536)(v u:Value)(l m:List Nat)(r:Nat)(H:Q4 l)(J:Q4 m)(Y:r<=p.PE)(N:r=0->m=[])(w:World)
  (M:Rd w v 1 l.length (l.map PX)) (s:Rd w u 1 m.length (m.map PX)):
  PN prog 198 [lpV p,I (x:Int),v,u,I (r:Int)] w λo w'=>o= .bool true/\Ext w w':=by
 obtain⟨U,V,W,X⟩:=id B
 refine py (e:=[(0,_),(1,_),(2,_),(3,_),(4,_)]) func198 O ntmps198 O O<|qN O<|Pb O O (RP O (cs:=lpC p) O) ?_
 rintro _ w1⟨b1,rfl,S,j,A⟩
 refine Ro O<|qV (PO (news:=lpC p) Xf O UA O (A.cells (n:=3) O) O)<|Px z5G O (Us p B w1) ?_
 rintro _ w2⟨rfl,h⟩
 have q:=h.OZ A
 replace q:Pm w2 b1 [I (p.PE:Int),I (p.interval:Int),I (p.zeta:Int)] 276:=q
 refine Rx O<|RO<|PB O<|Px z9d O (Wt x L w2) ?_
 rintro _ Q⟨rfl,rfl⟩
 refine Rr O<|PB O<|Px z4R O (Xo v l H Q (M.ext (j.trans h))) ?_
 rintro _ R⟨rfl,rfl⟩
 refine Rr O<|PB O<|Px z4R O (Xo u m J R (s.ext (j.trans h))) ?_
 rintro _ b⟨rfl,rfl⟩
 refine Rr O<|Ph O ?_
 obtain⟨Z,a,rfl,-⟩:=s.shape
 refine Ph O<|Uj O<|RO<|Rr O<|PB O<|Pr TT O<|qV (Pl U3 O O q O)<|zle O<|RO<|Rr O<|PB O<|R8 O<|SS (λE=>?_)<|λE=>?_
 ·refine Ph O<|QV<|qS<|Rr O<|Rr O<|Pq O<|PM.qb (e:=[(10,_)]) ?_;refine P3 func198 O ?_;exact⟨_,O,O,j.trans h⟩
 ·have G:=N ω;subst G;refine PB O<|RQ PS O<|Rx O<|RO<|Ql O<|Rr O<|Pq O<|PM.qb (e:=[(10,_)]) ?_;refine P3 func198 O ?_;exact⟨_,O,O,j.trans h⟩
end Go.Proofs.YtbihggbffaigjaaGreatDoor
