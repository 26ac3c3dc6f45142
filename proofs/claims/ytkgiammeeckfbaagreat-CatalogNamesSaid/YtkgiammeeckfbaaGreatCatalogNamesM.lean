/- CatalogNames: what its calls answer, as lists of blocks; printed by a program of ours (wip/tools/rkprint.py). -/
import Derived.Test.YtkgiammeeckfbaaGreatHkC
namespace Go.Proofs.YtkgiammeeckfbaaGreat
open Go
set_option linter.all false
set_option maxRecDepth 100000
noncomputable def catalogNamesB0 : B := .map [(vi 0, .str 512 0x64c3fbc91000000001000000400000000100000042535457, 0), (vi 1, .str 512 0xa38a0f7b010000000000000000000000010000000000000031484a57, 1), (vi 2, .str 512 0, 2), (vi 3, .str 512 0, 3), (vi 4, .str 512 0, 4), (vi 5, .str 512 0, 5), (vi 6, .str 512 0, 6), (vi 7, .str 512 0, 7), (vi 8, .str 512 0, 8), (vi 9, .str 512 0, 9), (vi 10, .str 512 0, 10), (vi 11, .str 512 0, 11), (vi 12, .str 512 0, 12), (vi 13, .str 512 0, 13), (vi 14, .str 512 0, 14), (vi 15, .str 512 0, 15), (vi 16, .str 512 0, 16), (vi 17, .str 512 1112691799, 17), (vi 18, .str 512 14745599, 18)] 19
noncomputable def catalogNamesB1 : B := cB 92 [vi 0, .nil .sl, vi 0, .int .u8 (.ofNat 0), vi 64, vi 1, .map 6, .nil .sl, .bool false, vi 26, vi 6]
noncomputable def catalogNamesB2 : B := cB 184 [.ptr 7 0, vi 1, vi 16, vu 1, vi 0, vu 1, vi 0, vi 0, .bool false]
noncomputable def catalogNamesB3 : B := cB 68 [vi 16, vi 17, vi 1, vi 19, .ptr 7 0, .ptr 294 0, .ptr 399 0, .ptr 365 0, .ptr 375 0, .bool false]
noncomputable def catalogNamesB4 : B := .byt 64 0 148 false
noncomputable def catalogNamesB5 : B := cB 146 [vi 19, .sl 364 0 64 64 1 false, .nil .sl, .bool false]
noncomputable def catalogNamesB6 : B := .map [] 0
noncomputable def catalogNamesB7 : B := cB 127 [vi 512, vi 0, vi 127, vi 8, vi 0, .map 372, .nil .sl, .map 373, .map 374]
noncomputable def catalogNamesB8 : B := cB 146 [vi 19, .sl 395 0 64 64 1 true, .nil .sl, .bool false]
noncomputable def catalogNamesB9 : B := .byt 64 0x1010100000000000000000000000000000000000000 148 true
noncomputable def catalogNamesB10 : B := cB 230 [vi 4, .nil .sl, .nil .map, .nil .sl, .nil .map, .nil .sl, .nil .map, .nil .sl, .nil .map, vi 0, .map 396]
noncomputable def catalogNamesB11 : B := cB 117 [.ptr 7 0, .ptr 393 0, .ptr 397 0, .map 398, vi 4, vi 0, vi 0, vi 0, vi 0, vi 0, vi 0, .bool false]
noncomputable def catalogNamesB12 : B := .map [(vi 0, .str 512 0x64c3fbc91000000001000000400000000100000042535457, 0), (vi 1, .str 512 0xa38a0f7b010000000000000000000000010000000000000031484a57, 1), (vi 2, .str 512 0, 2), (vi 3, .str 512 0xd6a2f7eb12000000110000001600000003000000010000000000000031444a57, 3), (vi 4, .str 512 0x7803000000130000006101090002010001, 4), (vi 5, .str 512 0x1600000042525457, 5), (vi 6, .str 512 16711679, 6), (vi 7, .str 512 0x15efa7d4010000000000000031434a57, 7), (vi 8, .str 512 0, 8), (vi 9, .str 512 0, 9), (vi 10, .str 512 0, 10), (vi 11, .str 512 0, 11), (vi 12, .str 512 0, 12), (vi 13, .str 512 0, 13), (vi 14, .str 512 0, 14), (vi 15, .str 512 0, 15), (vi 16, .str 512 0, 16), (vi 17, .str 512 1112691799, 17), (vi 18, .str 512 14745599, 18)] 19
noncomputable def catalogNamesB13 : B := cB 92 [vi 0, .nil .sl, vi 0, .int .u8 (.ofNat 0), vi 64, vi 1, .map 6, .sl 732 0 3 3 2 true, .bool false, vi 37, vi 6]
noncomputable def catalogNamesB14 : B := cB 184 [.ptr 7 0, vi 1, vi 16, vu 1, vi 0, vu 2, vi 0, vi 5, .bool false]
noncomputable def catalogNamesB15 : B := cB 68 [vi 16, vi 17, vi 1, vi 19, .ptr 7 0, .ptr 294 0, .ptr 399 0, .ptr 448 0, .ptr 761 0, .bool false]
noncomputable def catalogNamesB16 : B := .map [(vi 22, .ptr 506 0, 0)] 1
noncomputable def catalogNamesB17 : B := .map [(vi 22, vi 1, 0)] 1
noncomputable def catalogNamesB18 : B := cB 127 [vi 512, vi 22, vi 127, vi 8, vi 1, .map 372, .sl 489 0 0 1 1 true, .map 373, .map 374]
noncomputable def catalogNamesB19 : B := cB 146 [vi 19, .sl 395 0 64 64 1 true, .sl 457 0 64 64 1 true, .bool false]
noncomputable def catalogNamesB20 : B := .byt 64 0x101010100000000000000000000000000000000000000 148 true
noncomputable def catalogNamesB21 : B := cB 146 [vi 19, .sl 450 0 64 64 1 true, .nil .sl, .bool false]
noncomputable def catalogNamesB22 : B := cT 3 [vi 0]
noncomputable def catalogNamesB23 : B := cB 130 [.bool true, .sl 510 0 1 1 1 true, .sl 511 0 1 1 1 true, .nil .sl]
noncomputable def catalogNamesB24 : B := cT 9 [.str 2 24833]
noncomputable def catalogNamesB25 : B := cT 9 [.str 9 0x780300000013000000]
noncomputable def catalogNamesB26 : B := cT 167 [vi 22, .str 512 0x7803000000130000006101090002010001, vi 17, .str 512 0x1600000042525457, vi 18, .str 512 16711679]
noncomputable def catalogNamesB27 : B := .map [(vi 22, .ptr 794 0, 0)] 1
noncomputable def catalogNamesB28 : B := cB 127 [vi 512, vi 22, vi 127, vi 8, vi 1, .map 758, .nil .sl, .map 759, .map 760]
noncomputable def catalogNamesB29 : B := cB 130 [.bool true, .sl 775 0 1 1 1 true, .sl 777 0 1 1 1 true, .nil .sl]
noncomputable def catalogNamesB30 : B := cB 26 [.int .u8 (.ofNat 2), .str 1 98, vi 0, vi 0, .str 1 121]
noncomputable def catalogNamesB31 : B := cB 55 [.int .u8 (.ofNat 1), .str 1 97]
noncomputable def catalogNamesB32 : B := .map [(vi 0, .str 512 0x64c3fbc91000000001000000400000000100000042535457, 0), (vi 1, .str 512 0xa38a0f7b010000000000000000000000010000000000000031484a57, 1), (vi 2, .str 512 0, 2), (vi 3, .str 512 0xd6a2f7eb12000000110000001600000003000000010000000000000031444a57, 3), (vi 4, .str 512 0x7803000000130000006101090002010001, 4), (vi 5, .str 512 0x1600000042525457, 5), (vi 6, .str 512 16711679, 6), (vi 7, .str 512 0x15efa7d4010000000000000031434a57, 7), (vi 8, .str 512 0x7f10e4ff12000000110000001700000003000000020000000000000031444a57, 8), (vi 9, .str 512 0x7900000000000000006202090002010001, 9), (vi 10, .str 512 0x1700000042525457, 10), (vi 11, .str 512 14811135, 11), (vi 12, .str 512 0x9484ddcc020000000000000031434a57, 12), (vi 13, .str 512 0, 13), (vi 14, .str 512 0, 14), (vi 15, .str 512 0, 15), (vi 16, .str 512 0, 16), (vi 17, .str 512 0x1600000042525457, 17), (vi 18, .str 512 16711679, 18), (vi 22, .str 512 0x7803000000130000006101090002010001, 19)] 20
noncomputable def catalogNamesB33 : B := cB 92 [vi 0, .nil .sl, vi 0, .int .u8 (.ofNat 0), vi 64, vi 1, .map 6, .sl 1281 0 3 3 2 true, .bool false, vi 48, vi 6]
noncomputable def catalogNamesB34 : B := cB 184 [.ptr 7 0, vi 1, vi 16, vu 1, vi 0, vu 3, vi 0, vi 10, .bool false]
noncomputable def catalogNamesB35 : B := cB 68 [vi 16, vi 17, vi 1, vi 19, .ptr 7 0, .ptr 294 0, .ptr 399 0, .ptr 944 0, .ptr 1322 0, .bool false]
noncomputable def catalogNamesB36 : B := cB 146 [vi 19, .sl 395 0 64 64 1 true, .sl 953 0 64 64 1 true, .bool false]
noncomputable def catalogNamesB37 : B := .byt 64 0x10000000000000000000000000000000000000000000000 148 true
noncomputable def catalogNamesB38 : B := .map [(vi 23, .ptr 1048 0, 1)] 2
noncomputable def catalogNamesB39 : B := .map [(vi 23, vi 1, 1)] 2
noncomputable def catalogNamesB40 : B := cB 127 [vi 512, vi 23, vi 127, vi 8, vi 1, .map 758, .sl 1031 0 0 1 1 true, .map 759, .map 760]
noncomputable def catalogNamesB41 : B := cT 9 [.str 0 0]
noncomputable def catalogNamesB42 : B := cB 130 [.bool true, .sl 775 0 0 1 1 true, .sl 777 0 0 1 1 true, .nil .sl]
noncomputable def catalogNamesB43 : B := cB 146 [vi 19, .sl 946 0 64 64 1 true, .nil .sl, .bool false]
noncomputable def catalogNamesB44 : B := cB 130 [.bool true, .sl 1052 0 1 1 1 true, .sl 1053 0 1 1 1 true, .nil .sl]
noncomputable def catalogNamesB45 : B := cT 9 [.str 2 25090]
noncomputable def catalogNamesB46 : B := cT 9 [.str 9 0x790000000000000000]
noncomputable def catalogNamesB47 : B := cT 167 [vi 23, .str 512 0x7900000000000000006202090002010001, vi 17, .str 512 0x1700000042525457, vi 18, .str 512 14811135]
noncomputable def catalogNamesB48 : B := .map [(vi 23, .ptr 1355 0, 0)] 1
noncomputable def catalogNamesB49 : B := .map [(vi 23, vi 1, 0)] 1
noncomputable def catalogNamesB50 : B := cB 127 [vi 512, vi 23, vi 127, vi 8, vi 1, .map 1319, .nil .sl, .map 1320, .map 1321]
noncomputable def catalogNamesB51 : B := cB 130 [.bool true, .sl 1336 0 1 1 1 true, .sl 1338 0 1 1 1 true, .nil .sl]
/-- wattle/wattlelaw29.put -/
noncomputable def catalogNamesM0 : Memo := ⟨13, [.ptr 354 0, .int .u8 (.ofNat 1), .str 1 97, .agg [vi 19, vi 3], .str 1 120], 414, [(6, catalogNamesB0), (7, catalogNamesB1), (294, catalogNamesB2), (354, catalogNamesB3), (364, catalogNamesB4), (365, catalogNamesB5), (372, catalogNamesB6), (373, catalogNamesB6), (374, catalogNamesB6), (375, catalogNamesB7), (393, catalogNamesB8), (395, catalogNamesB9), (396, catalogNamesB6), (397, catalogNamesB10), (398, catalogNamesB6), (399, catalogNamesB11)], vi 0, 800, [(6, some catalogNamesB12), (7, some catalogNamesB13), (294, some catalogNamesB14), (354, some catalogNamesB15), (372, some catalogNamesB16), (373, some catalogNamesB17), (375, some catalogNamesB18), (393, some catalogNamesB19), (395, some catalogNamesB20), (448, some catalogNamesB21), (450, some catalogNamesB20), (457, some catalogNamesB9), (489, some catalogNamesB22), (506, some catalogNamesB23), (510, some catalogNamesB24), (511, some catalogNamesB25), (732, some catalogNamesB26), (758, some catalogNamesB27), (759, some catalogNamesB6), (760, some catalogNamesB17), (761, some catalogNamesB28), (775, some catalogNamesB24), (777, some catalogNamesB25), (794, some catalogNamesB29)]⟩
/-- (*wattle/catalog.Store).Commit -/
noncomputable def catalogNamesM1 : Memo := ⟨6, [.ptr 354 0, .agg [.sl 896 0 1 1 5 false, .sl 897 0 1 1 2 false]], 898, [(6, catalogNamesB12), (7, catalogNamesB13), (294, catalogNamesB14), (354, catalogNamesB15), (393, catalogNamesB19), (395, catalogNamesB20), (396, catalogNamesB6), (397, catalogNamesB10), (398, catalogNamesB6), (399, catalogNamesB11), (448, catalogNamesB21), (450, catalogNamesB20), (457, catalogNamesB9), (732, catalogNamesB26), (758, catalogNamesB27), (759, catalogNamesB6), (760, catalogNamesB17), (761, catalogNamesB28), (775, catalogNamesB24), (777, catalogNamesB25), (794, catalogNamesB29), (896, catalogNamesB30), (897, catalogNamesB31)], vi 0, 1361, [(6, some catalogNamesB32), (7, some catalogNamesB33), (294, some catalogNamesB34), (354, some catalogNamesB35), (393, some catalogNamesB36), (395, some catalogNamesB37), (758, some catalogNamesB38), (759, some catalogNamesB39), (761, some catalogNamesB40), (775, some catalogNamesB41), (777, some catalogNamesB41), (794, some catalogNamesB42), (944, some catalogNamesB43), (946, some catalogNamesB37), (953, some catalogNamesB20), (1031, some catalogNamesB22), (1048, some catalogNamesB44), (1052, some catalogNamesB45), (1053, some catalogNamesB46), (1281, some catalogNamesB47), (1319, some catalogNamesB48), (1320, some catalogNamesB6), (1321, some catalogNamesB49), (1322, some catalogNamesB50), (1336, some catalogNamesB45), (1338, some catalogNamesB46), (1355, some catalogNamesB51)]⟩
end Go.Proofs.YtkgiammeeckfbaaGreat
