/- Texts of a proof, joined by a program (merge.py): TlTab TfBase TfDraw TfDrawW TfNm TfNmS TfNmT TfNmU. -/
import Derived.Test.YtgdckdmamepaeaaGreatDoorT04
import Derived.Test.YtgdckdmamepaeaaGreatDoorProg
set_option linter.all false
/- TlTab -/
namespace Go.TL.Tryz
open Go Go.TL
def tab : Tab := (.node (.node (.node (.node (.node (.node (.node (.node (.node .leaf 0 ⟨.tuple [], 1, false, 0, none⟩ .leaf) 1 ⟨.other, 1, false, 8, some [.any]⟩ .leaf) 2 ⟨.int .i64, 1, false, 8, some [.t (.int .i64 0)]⟩ (.node (.node .leaf 3 ⟨.int .i64, 1, false, 8, some [.t (.int .i64 0)]⟩ .leaf) 4 ⟨.bool, 1, false, 1, some [.t (.bool false)]⟩ .leaf)) 5 ⟨.int .u8, 1, false, 1, some [.t (.int .u8 0)]⟩ (.node (.node (.node .leaf 6 ⟨.int .u8, 1, false, 1, some [.t (.int .u8 0)]⟩ .leaf) 7 ⟨.struct [(0, 2), (1, 3), (2, 4), (3, 6)], 4, true, 24, some [.t (.int .i64 0), .t (.int .i64 0), .t (.bool false), .t (.int .u8 0)]⟩ .leaf) 8 ⟨.struct [(0, 2), (1, 3), (2, 4), (3, 6)], 4, true, 24, some [.t (.int .i64 0), .t (.int .i64 0), .t (.bool false), .t (.int .u8 0)]⟩ (.node .leaf 9 ⟨.str, 1, false, 16, some [.t (.str [])]⟩ .leaf))) 10 ⟨.str, 1, false, 16, some [.t (.str [])]⟩ (.node (.node (.node (.node .leaf 11 ⟨.str, 1, false, 16, some [.t (.str [])]⟩ .leaf) 12 ⟨.int .u64, 1, false, 8, some [.t (.int .u64 0)]⟩ .leaf) 13 ⟨.struct [(0, 9), (1, 12)], 2, true, 24, some [.t (.str []), .t (.int .u64 0)]⟩ (.node .leaf 14 ⟨.struct [(0, 9), (1, 12)], 2, true, 24, some [.t (.str []), .t (.int .u64 0)]⟩ .leaf)) 15 ⟨.other, 1, false, 8, none⟩ (.node (.node (.node .leaf 16 ⟨.other, 1, false, 8, none⟩ .leaf) 17 ⟨.other, 1, false, 8, none⟩ .leaf) 18 ⟨.struct [(0, 17)], 1, true, 8, none⟩ (.node .leaf 19 ⟨.struct [(0, 17)], 1, true, 8, none⟩ .leaf)))) 21 ⟨.int .i32, 1, false, 4, some [.t (.int .i32 0)]⟩ (.node (.node (.node (.node (.node .leaf 22 ⟨.slice 5, 1, false, 24, some [.nil]⟩ .leaf) 23 ⟨.slice 39, 1, false, 24, some [.nil]⟩ .leaf) 24 ⟨.slice 101, 1, false, 24, some [.nil]⟩ (.node (.node .leaf 25 ⟨.slice 148, 1, false, 24, some [.nil]⟩ .leaf) 26 ⟨.struct [(0, 3), (1, 4), (2, 3), (3, 4), (4, 3), (5, 23), (6, 24), (7, 24), (8, 24), (9, 25), (10, 25)], 11, true, 184, some [.t (.int .i64 0), .t (.bool false), .t (.int .i64 0), .t (.bool false), .t (.int .i64 0), .nil, .nil, .nil, .nil, .nil, .nil]⟩ .leaf)) 27 ⟨.struct [(0, 3), (1, 4), (2, 3), (3, 4), (4, 3), (5, 23), (6, 24), (7, 24), (8, 24), (9, 25), (10, 25)], 11, true, 184, some [.t (.int .i64 0), .t (.bool false), .t (.int .i64 0), .t (.bool false), .t (.int .i64 0), .nil, .nil, .nil, .nil, .nil, .nil]⟩ (.node (.node (.node .leaf 28 ⟨.tuple [27, 3], 1, false, 0, none⟩ .leaf) 29 ⟨.other, 1, false, 8, some [.any]⟩ .leaf) 30 ⟨.other, 1, false, 8, some [.any]⟩ (.node .leaf 31 ⟨.other, 1, false, 8, some [.any]⟩ .leaf))) 32 ⟨.other, 1, false, 8, some [.any]⟩ (.node (.node (.node (.node .leaf 33 ⟨.other, 1, false, 8, some [.any]⟩ .leaf) 34 ⟨.other, 1, false, 8, some [.any]⟩ .leaf) 35 ⟨.slice 22, 1, false, 24, some [.nil]⟩ (.node .leaf 36 ⟨.struct [(0, 35)], 1, true, 24, some [.nil]⟩ .leaf)) 37 ⟨.struct [(0, 35)], 1, true, 24, some [.nil]⟩ (.node (.node (.node .leaf 38 ⟨.struct [(0, 37), (1, 3)], 2, true, 32, some [.nil, .t (.int .i64 0)]⟩ .leaf) 39 ⟨.struct [(0, 37), (1, 3)], 2, true, 32, some [.nil, .t (.int .i64 0)]⟩ .leaf) 40 ⟨.other, 1, false, 8, some [.any]⟩ (.node .leaf 41 ⟨.struct [(0, 35)], 1, true, 24, some [.nil]⟩ .leaf))))) 42 ⟨.slice 221, 1, false, 24, some [.nil]⟩ (.node (.node (.node (.node (.node (.node .leaf 43 ⟨.struct [(0, 41), (1, 42)], 2, true, 48, some [.nil, .nil]⟩ .leaf) 44 ⟨.struct [(0, 41), (1, 42)], 2, true, 48, some [.nil, .nil]⟩ .leaf) 45 ⟨.slice 166, 1, false, 24, some [.nil]⟩ (.node (.node .leaf 46 ⟨.struct [(0, 3), (1, 44), (3, 44), (5, 45)], 6, true, 128, some [.t (.int .i64 0), .nil, .nil, .nil, .nil, .nil]⟩ .leaf) 47 ⟨.struct [(0, 3), (1, 44), (3, 44), (5, 45)], 6, true, 128, some [.t (.int .i64 0), .nil, .nil, .nil, .nil, .nil]⟩ .leaf)) 48 ⟨.other, 1, false, 8, some [.any]⟩ (.node (.node (.node .leaf 49 ⟨.other, 1, false, 8, some [.any]⟩ .leaf) 50 ⟨.struct [(0, 37), (1, 24)], 2, true, 48, some [.nil, .nil]⟩ .leaf) 51 ⟨.struct [(0, 37), (1, 24)], 2, true, 48, some [.nil, .nil]⟩ (.node .leaf 52 ⟨.slice 111, 1, false, 24, some [.nil]⟩ .leaf))) 53 ⟨.struct [(0, 3), (1, 51), (3, 51), (5, 52)], 6, true, 128, some [.t (.int .i64 0), .nil, .nil, .nil, .nil, .nil]⟩ (.node (.node (.node (.node .leaf 54 ⟨.struct [(0, 3), (1, 51), (3, 51), (5, 52)], 6, true, 128, some [.t (.int .i64 0), .nil, .nil, .nil, .nil, .nil]⟩ .leaf) 55 ⟨.other, 1, false, 8, some [.any]⟩ .leaf) 56 ⟨.other, 1, false, 8, some [.any]⟩ (.node .leaf 57 ⟨.other, 1, false, 8, some [.any]⟩ .leaf)) 58 ⟨.slice 191, 1, false, 24, some [.nil]⟩ (.node (.node (.node .leaf 59 ⟨.struct [(0, 47), (6, 58), (7, 3)], 8, true, 160, some [.t (.int .i64 0), .nil, .nil, .nil, .nil, .nil, .nil, .t (.int .i64 0)]⟩ .leaf) 60 ⟨.struct [(0, 47), (6, 58), (7, 3)], 8, true, 160, some [.t (.int .i64 0), .nil, .nil, .nil, .nil, .nil, .nil, .t (.int .i64 0)]⟩ .leaf) 61 ⟨.other, 1, false, 8, some [.any]⟩ (.node .leaf 62 ⟨.other, 1, false, 8, some [.any]⟩ .leaf)))) 63 ⟨.slice 126, 1, false, 24, some [.nil]⟩ (.node (.node (.node (.node (.node .leaf 64 ⟨.struct [(0, 54), (6, 63), (7, 3)], 8, true, 160, some [.t (.int .i64 0), .nil, .nil, .nil, .nil, .nil, .nil, .t (.int .i64 0)]⟩ .leaf) 65 ⟨.struct [(0, 54), (6, 63), (7, 3)], 8, true, 160, some [.t (.int .i64 0), .nil, .nil, .nil, .nil, .nil, .nil, .t (.int .i64 0)]⟩ .leaf) 66 ⟨.other, 1, false, 8, some [.any]⟩ (.node (.node .leaf 67 ⟨.other, 1, false, 8, some [.any]⟩ .leaf) 68 ⟨.other, 1, false, 8, some [.any]⟩ .leaf)) 69 ⟨.slice 241, 1, false, 24, some [.nil]⟩ (.node (.node (.node .leaf 70 ⟨.struct [(0, 3), (1, 3), (2, 69)], 3, true, 40, some [.t (.int .i64 0), .t (.int .i64 0), .nil]⟩ .leaf) 71 ⟨.struct [(0, 3), (1, 3), (2, 69)], 3, true, 40, some [.t (.int .i64 0), .t (.int .i64 0), .nil]⟩ .leaf) 72 ⟨.slice 44, 1, false, 24, some [.nil]⟩ (.node .leaf 73 ⟨.slice 3, 1, false, 24, some [.nil]⟩ .leaf))) 74 ⟨.struct [(0, 60), (8, 71), (11, 72), (12, 73), (13, 73)], 14, true, 272, some [.t (.int .i64 0), .nil, .nil, .nil, .nil, .nil, .nil, .t (.int .i64 0), .t (.int .i64 0), .t (.int .i64 0), .nil, .nil, .nil, .nil]⟩ (.node (.node (.node (.node .leaf 75 ⟨.struct [(0, 60), (8, 71), (11, 72), (12, 73), (13, 73)], 14, true, 272, some [.t (.int .i64 0), .nil, .nil, .nil, .nil, .nil, .nil, .t (.int .i64 0), .t (.int .i64 0), .t (.int .i64 0), .nil, .nil, .nil, .nil]⟩ .leaf) 76 ⟨.other, 1, false, 8, some [.any]⟩ .leaf) 77 ⟨.other, 1, false, 8, some [.any]⟩ (.node .leaf 78 ⟨.slice 196, 1, false, 24, some [.nil]⟩ .leaf)) 79 ⟨.struct [(0, 3), (1, 3), (2, 78)], 3, true, 40, some [.t (.int .i64 0), .t (.int .i64 0), .nil]⟩ (.node (.node (.node .leaf 80 ⟨.struct [(0, 3), (1, 3), (2, 78)], 3, true, 40, some [.t (.int .i64 0), .t (.int .i64 0), .nil]⟩ .leaf) 81 ⟨.slice 51, 1, false, 24, some [.nil]⟩ .leaf) 82 ⟨.struct [(0, 65), (8, 80), (11, 81), (12, 73), (13, 73)], 14, true, 272, some [.t (.int .i64 0), .nil, .nil, .nil, .nil, .nil, .nil, .t (.int .i64 0), .t (.int .i64 0), .t (.int .i64 0), .nil, .nil, .nil, .nil]⟩ (.node .leaf 83 ⟨.struct [(0, 65), (8, 80), (11, 81), (12, 73), (13, 73)], 14, true, 272, some [.t (.int .i64 0), .nil, .nil, .nil, .nil, .nil, .nil, .t (.int .i64 0), .t (.int .i64 0), .t (.int .i64 0), .nil, .nil, .nil, .nil]⟩ .leaf)))))) 84 ⟨.other, 1, false, 8, some [.any]⟩ (.node (.node (.node (.node (.node (.node (.node .leaf 85 ⟨.other, 1, false, 8, some [.any]⟩ .leaf) 86 ⟨.other, 1, false, 8, some [.any]⟩ .leaf) 87 ⟨.other, 1, false, 8, none⟩ (.node (.node .leaf 88 ⟨.other, 1, false, 8, some [.any]⟩ .leaf) 89 ⟨.other, 1, false, 8, some [.any]⟩ .leaf)) 90 ⟨.other, 1, false, 8, some [.any]⟩ (.node (.node (.node .leaf 91 ⟨.other, 1, false, 8, some [.any]⟩ .leaf) 92 ⟨.other, 1, false, 8, some [.any]⟩ .leaf) 93 ⟨.tuple [37, 4], 1, false, 0, none⟩ (.node .leaf 94 ⟨.other, 1, false, 8, some [.any]⟩ .leaf))) 95 ⟨.other, 1, false, 8, some [.any]⟩ (.node (.node (.node (.node .leaf 96 ⟨.other, 1, false, 8, some [.any]⟩ .leaf) 97 ⟨.other, 1, false, 8, some [.any]⟩ .leaf) 98 ⟨.other, 1, false, 8, some [.any]⟩ (.node .leaf 99 ⟨.slice 24, 1, false, 24, some [.nil]⟩ .leaf)) 100 ⟨.struct [(0, 37), (1, 3), (2, 3), (3, 3), (4, 37), (5, 22), (6, 73)], 7, true, 120, some [.nil, .t (.int .i64 0), .t (.int .i64 0), .t (.int .i64 0), .nil, .nil, .nil]⟩ (.node (.node (.node .leaf 101 ⟨.struct [(0, 37), (1, 3), (2, 3), (3, 3), (4, 37), (5, 22), (6, 73)], 7, true, 120, some [.nil, .t (.int .i64 0), .t (.int .i64 0), .t (.int .i64 0), .nil, .nil, .nil]⟩ .leaf) 102 ⟨.slice 9, 1, false, 24, some [.nil]⟩ .leaf) 103 ⟨.other, 1, false, 8, some [.any]⟩ (.node .leaf 104 ⟨.other, 1, false, 8, some [.any]⟩ .leaf)))) 105 ⟨.other, 1, false, 8, some [.any]⟩ (.node (.node (.node (.node (.node .leaf 106 ⟨.other, 1, false, 8, some [.any]⟩ .leaf) 107 ⟨.other, 1, false, 8, some [.any]⟩ .leaf) 108 ⟨.other, 1, false, 8, some [.any]⟩ (.node (.node .leaf 109 ⟨.other, 1, false, 8, some [.any]⟩ .leaf) 110 ⟨.struct [(0, 3), (1, 22), (2, 22), (3, 3), (4, 4)], 5, true, 72, some [.t (.int .i64 0), .nil, .nil, .t (.int .i64 0), .t (.bool false)]⟩ .leaf)) 111 ⟨.struct [(0, 3), (1, 22), (2, 22), (3, 3), (4, 4)], 5, true, 72, some [.t (.int .i64 0), .nil, .nil, .t (.int .i64 0), .t (.bool false)]⟩ (.node (.node (.node .leaf 112 ⟨.other, 1, false, 8, some [.any]⟩ .leaf) 113 ⟨.other, 1, false, 8, some [.any]⟩ .leaf) 114 ⟨.other, 1, false, 8, some [.any]⟩ (.node .leaf 115 ⟨.other, 1, false, 8, some [.any]⟩ .leaf))) 116 ⟨.other, 1, false, 8, some [.any]⟩ (.node (.node (.node (.node .leaf 117 ⟨.other, 1, false, 8, some [.any]⟩ .leaf) 118 ⟨.other, 1, false, 8, some [.any]⟩ .leaf) 119 ⟨.other, 1, false, 8, some [.any]⟩ (.node .leaf 120 ⟨.other, 1, false, 8, some [.any]⟩ .leaf)) 121 ⟨.other, 1, false, 8, some [.any]⟩ (.node (.node (.node .leaf 122 ⟨.other, 1, false, 8, some [.any]⟩ .leaf) 123 ⟨.other, 1, false, 8, some [.any]⟩ .leaf) 124 ⟨.other, 1, false, 8, some [.any]⟩ (.node .leaf 125 ⟨.struct [(0, 3), (1, 27), (12, 3), (13, 22), (14, 22), (15, 3)], 16, true, 256, some [.t (.int .i64 0), .t (.int .i64 0), .t (.bool false), .t (.int .i64 0), .t (.bool false), .t (.int .i64 0), .nil, .nil, .nil, .nil, .nil, .nil, .t (.int .i64 0), .nil, .nil, .t (.int .i64 0)]⟩ .leaf))))) 126 ⟨.struct [(0, 3), (1, 27), (12, 3), (13, 22), (14, 22), (15, 3)], 16, true, 256, some [.t (.int .i64 0), .t (.int .i64 0), .t (.bool false), .t (.int .i64 0), .t (.bool false), .t (.int .i64 0), .nil, .nil, .nil, .nil, .nil, .nil, .t (.int .i64 0), .nil, .nil, .t (.int .i64 0)]⟩ (.node (.node (.node (.node (.node (.node .leaf 127 ⟨.other, 1, false, 8, some [.any]⟩ .leaf) 128 ⟨.other, 1, false, 8, some [.any]⟩ .leaf) 129 ⟨.other, 1, false, 8, some [.any]⟩ (.node (.node .leaf 130 ⟨.other, 1, false, 8, some [.any]⟩ .leaf) 131 ⟨.other, 1, false, 8, some [.any]⟩ .leaf)) 132 ⟨.other, 1, false, 8, some [.any]⟩ (.node (.node (.node .leaf 133 ⟨.other, 1, false, 8, some [.any]⟩ .leaf) 134 ⟨.other, 1, false, 8, some [.any]⟩ .leaf) 135 ⟨.other, 1, false, 8, some [.any]⟩ (.node .leaf 136 ⟨.other, 1, false, 8, some [.any]⟩ .leaf))) 137 ⟨.other, 1, false, 8, some [.any]⟩ (.node (.node (.node (.node .leaf 138 ⟨.other, 1, false, 8, some [.any]⟩ .leaf) 139 ⟨.other, 1, false, 8, some [.any]⟩ .leaf) 140 ⟨.other, 1, false, 8, some [.any]⟩ (.node .leaf 141 ⟨.other, 1, false, 8, some [.any]⟩ .leaf)) 142 ⟨.struct [(0, 22), (1, 3), (2, 3)], 3, true, 40, some [.nil, .t (.int .i64 0), .t (.int .i64 0)]⟩ (.node (.node (.node .leaf 143 ⟨.struct [(0, 22), (1, 3), (2, 3)], 3, true, 40, some [.nil, .t (.int .i64 0), .t (.int .i64 0)]⟩ .leaf) 144 ⟨.other, 1, false, 8, some [.any]⟩ .leaf) 145 ⟨.other, 1, false, 8, some [.any]⟩ (.node .leaf 146 ⟨.other, 1, false, 8, some [.any]⟩ .leaf)))) 147 ⟨.struct [(0, 101), (7, 3), (8, 4)], 9, true, 136, some [.nil, .t (.int .i64 0), .t (.int .i64 0), .t (.int .i64 0), .nil, .nil, .nil, .t (.int .i64 0), .t (.bool false)]⟩ (.node (.node (.node (.node (.node .leaf 148 ⟨.struct [(0, 101), (7, 3), (8, 4)], 9, true, 136, some [.nil, .t (.int .i64 0), .t (.int .i64 0), .t (.int .i64 0), .nil, .nil, .nil, .t (.int .i64 0), .t (.bool false)]⟩ .leaf) 149 ⟨.other, 1, false, 8, some [.any]⟩ .leaf) 150 ⟨.other, 1, false, 8, some [.any]⟩ (.node (.node .leaf 151 ⟨.other, 1, false, 8, some [.any]⟩ .leaf) 152 ⟨.int .u64, 1, false, 8, some [.t (.int .u64 0)]⟩ .leaf)) 153 ⟨.other, 1, false, 8, some [.any]⟩ (.node (.node (.node .leaf 154 ⟨.other, 1, false, 8, some [.any]⟩ .leaf) 155 ⟨.other, 1, false, 8, some [.any]⟩ .leaf) 156 ⟨.other, 1, false, 8, some [.any]⟩ (.node .leaf 157 ⟨.other, 1, false, 8, some [.any]⟩ .leaf))) 158 ⟨.other, 1, false, 8, some [.any]⟩ (.node (.node (.node (.node .leaf 159 ⟨.other, 1, false, 8, some [.any]⟩ .leaf) 160 ⟨.other, 1, false, 8, some [.any]⟩ .leaf) 161 ⟨.other, 1, false, 8, some [.any]⟩ (.node .leaf 162 ⟨.slice 25, 1, false, 24, some [.nil]⟩ .leaf)) 163 ⟨.other, 1, false, 8, some [.any]⟩ (.node (.node (.node .leaf 164 ⟨.other, 1, false, 8, some [.any]⟩ .leaf) 165 ⟨.other, 1, false, 8, some [.any]⟩ .leaf) 166 ⟨.struct [(0, 3), (1, 22), (2, 22), (3, 3), (4, 4)], 5, true, 72, some [.t (.int .i64 0), .nil, .nil, .t (.int .i64 0), .t (.bool false)]⟩ (.node .leaf 167 ⟨.other, 1, false, 8, some [.any]⟩ .leaf))))))) 168 ⟨.other, 1, false, 8, some [.any]⟩ (.node (.node (.node (.node (.node (.node (.node (.node .leaf 169 ⟨.other, 1, false, 8, some [.any]⟩ .leaf) 170 ⟨.other, 1, false, 8, some [.any]⟩ .leaf) 171 ⟨.other, 1, false, 8, some [.any]⟩ (.node (.node .leaf 172 ⟨.other, 1, false, 8, some [.any]⟩ .leaf) 173 ⟨.other, 1, false, 8, some [.any]⟩ .leaf)) 174 ⟨.other, 1, false, 8, some [.any]⟩ (.node (.node (.node .leaf 175 ⟨.other, 1, false, 8, some [.any]⟩ .leaf) 176 ⟨.other, 1, false, 8, some [.any]⟩ .leaf) 177 ⟨.other, 1, false, 8, some [.any]⟩ (.node .leaf 178 ⟨.other, 1, false, 8, some [.any]⟩ .leaf))) 179 ⟨.other, 1, false, 8, some [.any]⟩ (.node (.node (.node (.node .leaf 180 ⟨.other, 1, false, 8, some [.any]⟩ .leaf) 181 ⟨.other, 1, false, 8, some [.any]⟩ .leaf) 182 ⟨.other, 1, false, 8, some [.any]⟩ (.node .leaf 183 ⟨.other, 1, false, 8, some [.any]⟩ .leaf)) 184 ⟨.other, 1, false, 8, some [.any]⟩ (.node (.node (.node .leaf 185 ⟨.other, 1, false, 8, some [.any]⟩ .leaf) 186 ⟨.slice 302, 1, false, 24, some [.nil]⟩ .leaf) 187 ⟨.slice 305, 1, false, 24, some [.nil]⟩ (.node .leaf 188 ⟨.struct [(0, 3), (1, 4), (2, 3), (3, 4), (4, 3), (5, 186), (6, 42), (7, 42), (8, 42), (9, 187), (10, 187)], 11, true, 184, some [.t (.int .i64 0), .t (.bool false), .t (.int .i64 0), .t (.bool false), .t (.int .i64 0), .nil, .nil, .nil, .nil, .nil, .nil]⟩ .leaf)))) 189 ⟨.struct [(0, 3), (1, 4), (2, 3), (3, 4), (4, 3), (5, 186), (6, 42), (7, 42), (8, 42), (9, 187), (10, 187)], 11, true, 184, some [.t (.int .i64 0), .t (.bool false), .t (.int .i64 0), .t (.bool false), .t (.int .i64 0), .nil, .nil, .nil, .nil, .nil, .nil]⟩ (.node (.node (.node (.node (.node .leaf 190 ⟨.struct [(0, 3), (1, 189), (12, 3), (13, 22), (14, 22), (15, 3)], 16, true, 256, some [.t (.int .i64 0), .t (.int .i64 0), .t (.bool false), .t (.int .i64 0), .t (.bool false), .t (.int .i64 0), .nil, .nil, .nil, .nil, .nil, .nil, .t (.int .i64 0), .nil, .nil, .t (.int .i64 0)]⟩ .leaf) 191 ⟨.struct [(0, 3), (1, 189), (12, 3), (13, 22), (14, 22), (15, 3)], 16, true, 256, some [.t (.int .i64 0), .t (.int .i64 0), .t (.bool false), .t (.int .i64 0), .t (.bool false), .t (.int .i64 0), .nil, .nil, .nil, .nil, .nil, .nil, .t (.int .i64 0), .nil, .nil, .t (.int .i64 0)]⟩ .leaf) 192 ⟨.other, 1, false, 8, some [.any]⟩ (.node (.node .leaf 193 ⟨.other, 1, false, 8, some [.any]⟩ .leaf) 194 ⟨.other, 1, false, 8, some [.any]⟩ .leaf)) 195 ⟨.struct [(0, 37), (1, 3), (2, 3), (3, 24), (4, 3), (5, 3), (6, 3)], 7, true, 88, some [.nil, .t (.int .i64 0), .t (.int .i64 0), .nil, .t (.int .i64 0), .t (.int .i64 0), .t (.int .i64 0)]⟩ (.node (.node (.node .leaf 196 ⟨.struct [(0, 37), (1, 3), (2, 3), (3, 24), (4, 3), (5, 3), (6, 3)], 7, true, 88, some [.nil, .t (.int .i64 0), .t (.int .i64 0), .nil, .t (.int .i64 0), .t (.int .i64 0), .t (.int .i64 0)]⟩ .leaf) 197 ⟨.other, 1, false, 8, some [.any]⟩ .leaf) 198 ⟨.other, 1, false, 8, some [.any]⟩ (.node .leaf 199 ⟨.other, 1, false, 8, some [.any]⟩ .leaf))) 200 ⟨.other, 1, false, 8, some [.any]⟩ (.node (.node (.node (.node .leaf 201 ⟨.other, 1, false, 8, some [.any]⟩ .leaf) 202 ⟨.other, 1, false, 8, some [.any]⟩ .leaf) 203 ⟨.other, 1, false, 8, some [.any]⟩ (.node .leaf 204 ⟨.other, 1, false, 8, some [.any]⟩ .leaf)) 205 ⟨.other, 1, false, 8, some [.any]⟩ (.node (.node (.node .leaf 206 ⟨.other, 1, false, 8, some [.any]⟩ .leaf) 207 ⟨.other, 1, false, 8, some [.any]⟩ .leaf) 208 ⟨.other, 1, false, 8, some [.any]⟩ (.node .leaf 209 ⟨.other, 1, false, 8, some [.any]⟩ .leaf))))) 210 ⟨.other, 1, false, 8, some [.any]⟩ (.node (.node (.node (.node (.node (.node .leaf 211 ⟨.other, 1, false, 8, some [.any]⟩ .leaf) 212 ⟨.other, 1, false, 8, some [.any]⟩ .leaf) 213 ⟨.other, 1, false, 8, some [.any]⟩ (.node (.node .leaf 214 ⟨.other, 1, false, 8, some [.any]⟩ .leaf) 216 ⟨.other, 1, false, 8, some [.any]⟩ .leaf)) 217 ⟨.other, 1, false, 8, some [.any]⟩ (.node (.node (.node .leaf 218 ⟨.other, 1, false, 8, some [.any]⟩ .leaf) 219 ⟨.other, 1, false, 8, some [.any]⟩ .leaf) 220 ⟨.struct [(0, 41), (1, 3), (2, 3), (3, 3), (4, 41), (5, 22), (6, 73)], 7, true, 120, some [.nil, .t (.int .i64 0), .t (.int .i64 0), .t (.int .i64 0), .nil, .nil, .nil]⟩ (.node .leaf 221 ⟨.struct [(0, 41), (1, 3), (2, 3), (3, 3), (4, 41), (5, 22), (6, 73)], 7, true, 120, some [.nil, .t (.int .i64 0), .t (.int .i64 0), .t (.int .i64 0), .nil, .nil, .nil]⟩ .leaf))) 222 ⟨.other, 1, false, 8, some [.any]⟩ (.node (.node (.node (.node .leaf 223 ⟨.other, 1, false, 8, some [.any]⟩ .leaf) 224 ⟨.other, 1, false, 8, some [.any]⟩ .leaf) 225 ⟨.other, 1, false, 8, some [.any]⟩ (.node .leaf 226 ⟨.other, 1, false, 8, some [.any]⟩ .leaf)) 227 ⟨.other, 1, false, 8, some [.any]⟩ (.node (.node (.node .leaf 228 ⟨.other, 1, false, 8, some [.any]⟩ .leaf) 229 ⟨.other, 1, false, 8, some [.any]⟩ .leaf) 230 ⟨.other, 1, false, 8, some [.any]⟩ (.node .leaf 231 ⟨.other, 1, false, 8, some [.any]⟩ .leaf)))) 232 ⟨.other, 1, false, 8, some [.any]⟩ (.node (.node (.node (.node (.node .leaf 233 ⟨.other, 1, false, 8, some [.any]⟩ .leaf) 234 ⟨.other, 1, false, 8, some [.any]⟩ .leaf) 235 ⟨.other, 1, false, 8, some [.any]⟩ (.node (.node .leaf 236 ⟨.other, 1, false, 8, some [.any]⟩ .leaf) 237 ⟨.other, 1, false, 8, some [.any]⟩ .leaf)) 238 ⟨.other, 1, false, 8, some [.any]⟩ (.node (.node (.node .leaf 239 ⟨.other, 1, false, 8, some [.any]⟩ .leaf) 240 ⟨.struct [(0, 41), (1, 3), (2, 3), (3, 42), (4, 3), (5, 3), (6, 3)], 7, true, 88, some [.nil, .t (.int .i64 0), .t (.int .i64 0), .nil, .t (.int .i64 0), .t (.int .i64 0), .t (.int .i64 0)]⟩ .leaf) 241 ⟨.struct [(0, 41), (1, 3), (2, 3), (3, 42), (4, 3), (5, 3), (6, 3)], 7, true, 88, some [.nil, .t (.int .i64 0), .t (.int .i64 0), .nil, .t (.int .i64 0), .t (.int .i64 0), .t (.int .i64 0)]⟩ (.node .leaf 242 ⟨.other, 1, false, 8, some [.any]⟩ .leaf))) 243 ⟨.other, 1, false, 8, some [.any]⟩ (.node (.node (.node (.node .leaf 244 ⟨.other, 1, false, 8, some [.any]⟩ .leaf) 245 ⟨.array 24 5, 24, true, 24, some [.t (.int .u8 0), .t (.int .u8 0), .t (.int .u8 0), .t (.int .u8 0), .t (.int .u8 0), .t (.int .u8 0), .t (.int .u8 0), .t (.int .u8 0), .t (.int .u8 0), .t (.int .u8 0), .t (.int .u8 0), .t (.int .u8 0), .t (.int .u8 0), .t (.int .u8 0), .t (.int .u8 0), .t (.int .u8 0), .t (.int .u8 0), .t (.int .u8 0), .t (.int .u8 0), .t (.int .u8 0), .t (.int .u8 0), .t (.int .u8 0), .t (.int .u8 0), .t (.int .u8 0)]⟩ .leaf) 246 ⟨.int .u64, 1, false, 8, some [.t (.int .u64 0)]⟩ (.node .leaf 247 ⟨.other, 1, false, 8, some [.any]⟩ .leaf)) 248 ⟨.other, 1, false, 8, some [.any]⟩ (.node (.node (.node .leaf 249 ⟨.tuple [22, 9], 1, false, 0, none⟩ .leaf) 250 ⟨.other, 1, false, 8, some [.any]⟩ .leaf) 251 ⟨.other, 1, false, 8, none⟩ (.node .leaf 252 ⟨.struct [(0, 251), (1, 22)], 2, true, 32, none⟩ .leaf)))))) 253 ⟨.struct [(0, 251), (1, 22)], 2, true, 32, none⟩ (.node (.node (.node (.node (.node (.node (.node .leaf 254 ⟨.other, 1, false, 8, some [.any]⟩ .leaf) 257 ⟨.tuple [3, 256], 1, false, 0, none⟩ .leaf) 258 ⟨.other, 1, false, 8, some [.any]⟩ (.node (.node .leaf 259 ⟨.int .u32, 1, false, 4, some [.t (.int .u32 0)]⟩ .leaf) 260 ⟨.array 8 259, 8, true, 32, some [.t (.int .u32 0), .t (.int .u32 0), .t (.int .u32 0), .t (.int .u32 0), .t (.int .u32 0), .t (.int .u32 0), .t (.int .u32 0), .t (.int .u32 0)]⟩ .leaf)) 261 ⟨.other, 1, false, 8, some [.any]⟩ (.node (.node (.node .leaf 262 ⟨.other, 1, false, 8, some [.any]⟩ .leaf) 263 ⟨.other, 1, false, 8, none⟩ .leaf) 264 ⟨.slice 259, 1, false, 24, some [.nil]⟩ (.node .leaf 265 ⟨.struct [(0, 264), (1, 260)], 9, true, 56, some [.nil, .t (.int .u32 0), .t (.int .u32 0), .t (.int .u32 0), .t (.int .u32 0), .t (.int .u32 0), .t (.int .u32 0), .t (.int .u32 0), .t (.int .u32 0)]⟩ .leaf))) 266 ⟨.struct [(0, 264), (1, 260)], 9, true, 56, some [.nil, .t (.int .u32 0), .t (.int .u32 0), .t (.int .u32 0), .t (.int .u32 0), .t (.int .u32 0), .t (.int .u32 0), .t (.int .u32 0), .t (.int .u32 0)]⟩ (.node (.node (.node (.node .leaf 267 ⟨.slice 246, 1, false, 24, some [.nil]⟩ .leaf) 268 ⟨.other, 1, false, 8, some [.any]⟩ .leaf) 269 ⟨.other, 1, false, 8, some [.any]⟩ (.node .leaf 270 ⟨.other, 1, false, 8, some [.any]⟩ .leaf)) 271 ⟨.other, 1, false, 8, some [.any]⟩ (.node (.node (.node .leaf 272 ⟨.other, 1, false, 8, some [.any]⟩ .leaf) 273 ⟨.other, 1, false, 8, some [.any]⟩ .leaf) 274 ⟨.other, 1, false, 8, some [.any]⟩ (.node .leaf 275 ⟨.other, 1, false, 8, some [.any]⟩ .leaf)))) 276 ⟨.other, 1, false, 8, some [.any]⟩ (.node (.node (.node (.node (.node .leaf 277 ⟨.other, 1, false, 8, some [.any]⟩ .leaf) 278 ⟨.other, 1, false, 8, some [.any]⟩ .leaf) 279 ⟨.tuple [21, 3], 1, false, 0, none⟩ (.node (.node .leaf 280 ⟨.other, 1, false, 8, some [.any]⟩ .leaf) 281 ⟨.other, 1, false, 8, some [.any]⟩ .leaf)) 282 ⟨.other, 1, false, 8, some [.any]⟩ (.node (.node (.node .leaf 283 ⟨.other, 1, false, 8, some [.any]⟩ .leaf) 284 ⟨.other, 1, false, 8, some [.any]⟩ .leaf) 285 ⟨.other, 1, false, 8, some [.any]⟩ (.node .leaf 286 ⟨.array 20 246, 20, true, 160, some [.t (.int .u64 0), .t (.int .u64 0), .t (.int .u64 0), .t (.int .u64 0), .t (.int .u64 0), .t (.int .u64 0), .t (.int .u64 0), .t (.int .u64 0), .t (.int .u64 0), .t (.int .u64 0), .t (.int .u64 0), .t (.int .u64 0), .t (.int .u64 0), .t (.int .u64 0), .t (.int .u64 0), .t (.int .u64 0), .t (.int .u64 0), .t (.int .u64 0), .t (.int .u64 0), .t (.int .u64 0)]⟩ .leaf))) 287 ⟨.array 65 5, 65, true, 65, some [.t (.int .u8 0), .t (.int .u8 0), .t (.int .u8 0), .t (.int .u8 0), .t (.int .u8 0), .t (.int .u8 0), .t (.int .u8 0), .t (.int .u8 0), .t (.int .u8 0), .t (.int .u8 0), .t (.int .u8 0), .t (.int .u8 0), .t (.int .u8 0), .t (.int .u8 0), .t (.int .u8 0), .t (.int .u8 0), .t (.int .u8 0), .t (.int .u8 0), .t (.int .u8 0), .t (.int .u8 0), .t (.int .u8 0), .t (.int .u8 0), .t (.int .u8 0), .t (.int .u8 0), .t (.int .u8 0), .t (.int .u8 0), .t (.int .u8 0), .t (.int .u8 0), .t (.int .u8 0), .t (.int .u8 0), .t (.int .u8 0), .t (.int .u8 0), .t (.int .u8 0), .t (.int .u8 0), .t (.int .u8 0), .t (.int .u8 0), .t (.int .u8 0), .t (.int .u8 0), .t (.int .u8 0), .t (.int .u8 0), .t (.int .u8 0), .t (.int .u8 0), .t (.int .u8 0), .t (.int .u8 0), .t (.int .u8 0), .t (.int .u8 0), .t (.int .u8 0), .t (.int .u8 0), .t (.int .u8 0), .t (.int .u8 0), .t (.int .u8 0), .t (.int .u8 0), .t (.int .u8 0), .t (.int .u8 0), .t (.int .u8 0), .t (.int .u8 0), .t (.int .u8 0), .t (.int .u8 0), .t (.int .u8 0), .t (.int .u8 0), .t (.int .u8 0), .t (.int .u8 0), .t (.int .u8 0), .t (.int .u8 0), .t (.int .u8 0)]⟩ (.node (.node (.node (.node .leaf 288 ⟨.other, 1, false, 8, some [.any]⟩ .leaf) 289 ⟨.other, 1, false, 8, none⟩ .leaf) 290 ⟨.other, 1, false, 8, some [.any]⟩ (.node .leaf 291 ⟨.array 64 259, 64, true, 256, some [.t (.int .u32 0), .t (.int .u32 0), .t (.int .u32 0), .t (.int .u32 0), .t (.int .u32 0), .t (.int .u32 0), .t (.int .u32 0), .t (.int .u32 0), .t (.int .u32 0), .t (.int .u32 0), .t (.int .u32 0), .t (.int .u32 0), .t (.int .u32 0), .t (.int .u32 0), .t (.int .u32 0), .t (.int .u32 0), .t (.int .u32 0), .t (.int .u32 0), .t (.int .u32 0), .t (.int .u32 0), .t (.int .u32 0), .t (.int .u32 0), .t (.int .u32 0), .t (.int .u32 0), .t (.int .u32 0), .t (.int .u32 0), .t (.int .u32 0), .t (.int .u32 0), .t (.int .u32 0), .t (.int .u32 0), .t (.int .u32 0), .t (.int .u32 0), .t (.int .u32 0), .t (.int .u32 0), .t (.int .u32 0), .t (.int .u32 0), .t (.int .u32 0), .t (.int .u32 0), .t (.int .u32 0), .t (.int .u32 0), .t (.int .u32 0), .t (.int .u32 0), .t (.int .u32 0), .t (.int .u32 0), .t (.int .u32 0), .t (.int .u32 0), .t (.int .u32 0), .t (.int .u32 0), .t (.int .u32 0), .t (.int .u32 0), .t (.int .u32 0), .t (.int .u32 0), .t (.int .u32 0), .t (.int .u32 0), .t (.int .u32 0), .t (.int .u32 0), .t (.int .u32 0), .t (.int .u32 0), .t (.int .u32 0), .t (.int .u32 0), .t (.int .u32 0), .t (.int .u32 0), .t (.int .u32 0), .t (.int .u32 0)]⟩ .leaf)) 292 ⟨.other, 1, false, 8, some [.any]⟩ (.node (.node (.node .leaf 293 ⟨.other, 1, false, 8, some [.any]⟩ .leaf) 294 ⟨.other, 1, false, 8, some [.any]⟩ .leaf) 295 ⟨.other, 1, false, 8, some [.any]⟩ (.node .leaf 296 ⟨.other, 1, false, 8, some [.any]⟩ .leaf))))) 297 ⟨.other, 1, false, 8, some [.any]⟩ (.node (.node (.node (.node (.node (.node .leaf 298 ⟨.tuple [3, 3], 1, false, 0, none⟩ .leaf) 299 ⟨.other, 1, false, 8, some [.any]⟩ .leaf) 300 ⟨.other, 1, false, 8, some [.any]⟩ (.node (.node .leaf 301 ⟨.struct [(0, 41), (1, 3)], 2, true, 32, some [.nil, .t (.int .i64 0)]⟩ .leaf) 302 ⟨.struct [(0, 41), (1, 3)], 2, true, 32, some [.nil, .t (.int .i64 0)]⟩ .leaf)) 303 ⟨.other, 1, false, 8, some [.any]⟩ (.node (.node (.node .leaf 304 ⟨.struct [(0, 221), (7, 3), (8, 4)], 9, true, 136, some [.nil, .t (.int .i64 0), .t (.int .i64 0), .t (.int .i64 0), .nil, .nil, .nil, .t (.int .i64 0), .t (.bool false)]⟩ .leaf) 305 ⟨.struct [(0, 221), (7, 3), (8, 4)], 9, true, 136, some [.nil, .t (.int .i64 0), .t (.int .i64 0), .t (.int .i64 0), .nil, .nil, .nil, .t (.int .i64 0), .t (.bool false)]⟩ .leaf) 306 ⟨.other, 1, false, 8, some [.any]⟩ (.node .leaf 307 ⟨.other, 1, false, 8, some [.any]⟩ .leaf))) 308 ⟨.other, 1, false, 8, some [.any]⟩ (.node (.node (.node (.node .leaf 309 ⟨.other, 1, false, 8, some [.any]⟩ .leaf) 310 ⟨.other, 1, false, 8, some [.any]⟩ .leaf) 311 ⟨.tuple [259, 259], 1, false, 0, none⟩ (.node .leaf 312 ⟨.other, 1, false, 8, some [.any]⟩ .leaf)) 313 ⟨.other, 1, false, 8, some [.any]⟩ (.node (.node (.node .leaf 315 ⟨.other, 1, false, 8, some [.any]⟩ .leaf) 316 ⟨.other, 1, false, 8, some [.any]⟩ .leaf) 317 ⟨.tuple [246, 246], 1, false, 0, none⟩ (.node .leaf 318 ⟨.other, 1, false, 8, some [.any]⟩ .leaf)))) 319 ⟨.other, 1, false, 8, some [.any]⟩ (.node (.node (.node (.node (.node .leaf 320 ⟨.array 256 5, 256, true, 256, none⟩ .leaf) 321 ⟨.struct [(0, 5), (1, 5)], 2, true, 2, some [.t (.int .u8 0), .t (.int .u8 0)]⟩ .leaf) 322 ⟨.struct [(0, 5), (1, 5)], 2, true, 2, some [.t (.int .u8 0), .t (.int .u8 0)]⟩ (.node (.node .leaf 323 ⟨.array 16 322, 32, true, 32, some [.t (.int .u8 0), .t (.int .u8 0), .t (.int .u8 0), .t (.int .u8 0), .t (.int .u8 0), .t (.int .u8 0), .t (.int .u8 0), .t (.int .u8 0), .t (.int .u8 0), .t (.int .u8 0), .t (.int .u8 0), .t (.int .u8 0), .t (.int .u8 0), .t (.int .u8 0), .t (.int .u8 0), .t (.int .u8 0), .t (.int .u8 0), .t (.int .u8 0), .t (.int .u8 0), .t (.int .u8 0), .t (.int .u8 0), .t (.int .u8 0), .t (.int .u8 0), .t (.int .u8 0), .t (.int .u8 0), .t (.int .u8 0), .t (.int .u8 0), .t (.int .u8 0), .t (.int .u8 0), .t (.int .u8 0), .t (.int .u8 0), .t (.int .u8 0)]⟩ .leaf) 324 ⟨.array 32 5, 32, true, 32, some [.t (.int .u8 0), .t (.int .u8 0), .t (.int .u8 0), .t (.int .u8 0), .t (.int .u8 0), .t (.int .u8 0), .t (.int .u8 0), .t (.int .u8 0), .t (.int .u8 0), .t (.int .u8 0), .t (.int .u8 0), .t (.int .u8 0), .t (.int .u8 0), .t (.int .u8 0), .t (.int .u8 0), .t (.int .u8 0), .t (.int .u8 0), .t (.int .u8 0), .t (.int .u8 0), .t (.int .u8 0), .t (.int .u8 0), .t (.int .u8 0), .t (.int .u8 0), .t (.int .u8 0), .t (.int .u8 0), .t (.int .u8 0), .t (.int .u8 0), .t (.int .u8 0), .t (.int .u8 0), .t (.int .u8 0), .t (.int .u8 0), .t (.int .u8 0)]⟩ .leaf)) 325 ⟨.array 64 5, 64, true, 64, some [.t (.int .u8 0), .t (.int .u8 0), .t (.int .u8 0), .t (.int .u8 0), .t (.int .u8 0), .t (.int .u8 0), .t (.int .u8 0), .t (.int .u8 0), .t (.int .u8 0), .t (.int .u8 0), .t (.int .u8 0), .t (.int .u8 0), .t (.int .u8 0), .t (.int .u8 0), .t (.int .u8 0), .t (.int .u8 0), .t (.int .u8 0), .t (.int .u8 0), .t (.int .u8 0), .t (.int .u8 0), .t (.int .u8 0), .t (.int .u8 0), .t (.int .u8 0), .t (.int .u8 0), .t (.int .u8 0), .t (.int .u8 0), .t (.int .u8 0), .t (.int .u8 0), .t (.int .u8 0), .t (.int .u8 0), .t (.int .u8 0), .t (.int .u8 0), .t (.int .u8 0), .t (.int .u8 0), .t (.int .u8 0), .t (.int .u8 0), .t (.int .u8 0), .t (.int .u8 0), .t (.int .u8 0), .t (.int .u8 0), .t (.int .u8 0), .t (.int .u8 0), .t (.int .u8 0), .t (.int .u8 0), .t (.int .u8 0), .t (.int .u8 0), .t (.int .u8 0), .t (.int .u8 0), .t (.int .u8 0), .t (.int .u8 0), .t (.int .u8 0), .t (.int .u8 0), .t (.int .u8 0), .t (.int .u8 0), .t (.int .u8 0), .t (.int .u8 0), .t (.int .u8 0), .t (.int .u8 0), .t (.int .u8 0), .t (.int .u8 0), .t (.int .u8 0), .t (.int .u8 0), .t (.int .u8 0), .t (.int .u8 0)]⟩ (.node (.node (.node .leaf 326 ⟨.struct [(0, 17), (1, 17), (2, 17), (3, 9)], 4, true, 40, none⟩ .leaf) 327 ⟨.struct [(0, 17), (1, 17), (2, 17), (3, 9)], 4, true, 40, none⟩ .leaf) 328 ⟨.array 0 16, 0, true, 0, some []⟩ (.node .leaf 331 ⟨.other, 1, false, 8, some [.any]⟩ .leaf))) 332 ⟨.int .u8, 1, false, 1, some [.t (.int .u8 0)]⟩ (.node (.node (.node (.node .leaf 333 ⟨.int .u8, 1, false, 1, some [.t (.int .u8 0)]⟩ .leaf) 334 ⟨.other, 1, false, 8, some [.any]⟩ .leaf) 335 ⟨.int .i32, 1, false, 4, some [.t (.int .i32 0)]⟩ (.node .leaf 336 ⟨.int .i32, 1, false, 4, some [.t (.int .i32 0)]⟩ .leaf)) 337 ⟨.struct [(0, 12), (1, 12), (2, 259), (3, 332), (4, 5), (5, 5), (6, 333), (7, 334), (8, 289), (9, 335), (10, 336)], 11, true, 48, none⟩ (.node (.node (.node .leaf 338 ⟨.struct [(0, 12), (1, 12), (2, 259), (3, 332), (4, 5), (5, 5), (6, 333), (7, 334), (8, 289), (9, 335), (10, 336)], 11, true, 48, none⟩ .leaf) 339 ⟨.other, 1, false, 8, some [.any]⟩ .leaf) 340 ⟨.other, 1, false, 8, some [.any]⟩ (.node .leaf 341 ⟨.other, 1, false, 8, some [.any]⟩ .leaf))))))))
def tf (n : Nat) : Option TI := tab.find n
def v2 : List Nat := []
def v3 : List Nat := [0, 2, 3, 4, 5, 6, 7, 8, 27, 45, 52]
def v4 : List Nat := [0, 1, 2, 3, 4, 5, 6, 11, 21, 26]
def v5 : List Nat := [0, 1, 2, 3, 4, 5, 6, 11, 21, 26]
def v6 : List Nat := [0, 1, 2, 3, 4, 5, 6, 11, 21, 26]
def v7 : List Nat := [0, 2, 3, 4]
def v8 : List Nat := [0, 1, 2, 4, 12]
def v9 : List Nat := [0, 1, 2]
def v10 : List Nat := [0, 1, 2]
def v11 : List Nat := [0, 1, 2, 3, 4, 5, 6, 8, 11, 13, 34, 35, 36, 37, 41, 42, 43, 44]
def v12 : List Nat := [0, 1, 2]
def v13 : List Nat := [0, 1, 2, 3, 4]
def v14 : List Nat := [0, 1, 2, 4, 10, 16, 22]
def v15 : List Nat := [0, 1, 2, 3, 4, 46, 51, 79, 105]
def v16 : List Nat := [0, 1, 2, 3]
def v17 : List Nat := [0, 1, 2, 3, 4, 42, 44, 45, 46, 47, 97]
def v18 : List Nat := [0, 1, 2, 3, 4, 9, 15, 21, 27]
def v19 : List Nat := [0, 1, 2, 4, 10, 16]
def v20 : List Nat := [0, 1, 2, 3, 26, 31, 40]
def v21 : List Nat := [0, 1, 2, 3]
def v22 : List Nat := [0, 1, 2]
def v23 : List Nat := [0, 1, 2, 3, 4, 10, 16, 21]
def v24 : List Nat := [0, 1, 2, 4, 10, 16, 22, 28, 34]
def v25 : List Nat := [0, 1, 2]
def v26 : List Nat := [0, 1, 2, 3]
def v27 : List Nat := [0, 1, 2]
def v28 : List Nat := [0, 1, 2, 3, 4, 10, 16, 22, 28, 34]
def v29 : List Nat := [0, 2, 3, 4, 15]
def v30 : List Nat := [0, 2, 3, 7, 9, 16, 24, 30, 36, 42, 53, 62]
def v31 : List Nat := [0, 1, 4, 5, 6, 7, 8, 10, 12]
def v32 : List Nat := [0, 2]
def v33 : List Nat := [0, 1, 2, 4]
def v34 : List Nat := [0, 1, 2, 54, 82, 85]
def v35 : List Nat := [0, 1, 2, 3, 4, 5, 6, 7, 8, 9, 10, 18, 22, 33, 72, 86, 109]
def v36 : List Nat := [0, 2, 3, 4, 7, 11, 24]
def v37 : List Nat := [0, 1, 4]
def v38 : List Nat := [0, 1, 2, 3, 5, 6, 10, 19, 20, 21, 22]
def v39 : List Nat := [0, 2, 3, 4, 5, 6, 7, 8, 9, 14]
def v40 : List Nat := [0, 2]
def v41 : List Nat := [0, 1, 2, 3, 5, 7, 9, 10, 11, 12, 26, 34, 43, 44, 45, 46]
def v42 : List Nat := [0, 1, 2, 36, 64, 66, 67, 77]
def v43 : List Nat := [0, 1, 2, 3, 4, 6, 8, 10, 12, 14, 22, 26, 50, 51, 52, 53, 81, 82, 83, 84, 87, 88, 89, 90, 105, 106, 107, 108, 111, 112, 113, 114]
def v44 : List Nat := [0, 1, 2, 5]
def v45 : List Nat := [0, 1, 2, 4, 10, 16]
def v46 : List Nat := [0, 1, 4, 5, 11, 15, 25]
def v47 : List Nat := [0, 1, 2, 3, 4, 5, 15, 20, 60, 63, 71]
def v48 : List Nat := [0, 1, 2, 3, 4, 5, 6, 18, 41, 49, 56]
def v49 : List Nat := [0]
def v50 : List Nat := [0]
def v51 : List Nat := [0, 1, 2, 4]
def v52 : List Nat := [0, 1, 2, 3, 4]
def v53 : List Nat := [0, 1, 2]
def v54 : List Nat := [0, 1, 2, 3]
def v55 : List Nat := [0, 1, 2]
def v56 : List Nat := [0, 1, 2, 3]
def v57 : List Nat := [0, 2, 3, 4, 11]
def v58 : List Nat := [0, 1, 2, 6]
def v59 : List Nat := [0, 1, 2, 3, 4, 5, 21, 23, 24, 25, 26, 50, 53, 61, 72]
def v60 : List Nat := [0, 1, 2, 3, 4]
def v61 : List Nat := [0]
def v62 : List Nat := [0]
def v63 : List Nat := [0, 1, 2, 4]
def v64 : List Nat := [0, 1, 2, 3, 4]
def v65 : List Nat := [0, 1, 2]
def v66 : List Nat := [0, 1, 2]
def v67 : List Nat := [0, 1, 2]
def v68 : List Nat := [0, 1, 2, 3, 4, 10, 16]
def v69 : List Nat := [0, 1, 4, 5, 10, 14, 26]
def v70 : List Nat := [0, 1, 4, 5, 11, 15, 25]
def v71 : List Nat := [0, 1, 2, 4, 5, 44, 74, 100]
def v72 : List Nat := [0, 2, 3, 4, 11]
def v73 : List Nat := [0, 1, 3, 4]
def v74 : List Nat := [0, 1, 2, 5]
def v75 : List Nat := [0, 1, 4, 5, 10, 14, 26]
def v76 : List Nat := [0, 1, 2, 4, 10]
def v77 : List Nat := [0, 1, 4, 5, 11, 15, 25]
def v78 : List Nat := [0, 1, 4, 10]
def v79 : List Nat := [0, 1, 2, 3, 4, 5, 29, 34, 42, 43, 44, 45, 46, 47, 48, 49, 50, 51, 52, 53, 54, 55, 56, 57, 58, 59, 60, 61, 62, 63, 64, 65, 66, 67, 68, 69, 70, 71, 72, 73, 74, 75, 76, 77, 78, 79, 80, 81, 82, 83, 84, 85, 86, 87, 88, 89, 90, 91, 92, 93, 94, 95, 96, 97, 98, 99, 100, 101, 102, 103, 104, 105, 106, 107, 108, 109, 110, 111, 112, 113, 131, 155, 158, 169]
def v80 : List Nat := [0, 1, 4, 5, 15, 19, 41]
def v81 : List Nat := [0, 2, 3, 11, 15, 29]
def v82 : List Nat := [0, 1, 2, 3]
def v83 : List Nat := [0, 2, 3, 4, 11]
def v84 : List Nat := [0, 2, 3, 4, 11]
def v85 : List Nat := [0, 1, 2, 3, 4, 28, 30, 31, 32, 33, 57]
def v86 : List Nat := [0, 1, 4]
def v87 : List Nat := [0, 2]
def v88 : List Nat := [0, 1, 2, 3, 4, 9, 14, 20]
def v89 : List Nat := [0, 1, 4, 5, 10, 14, 26]
def v90 : List Nat := [0, 1, 4, 5, 10, 14, 25]
def v91 : List Nat := [0, 2, 3, 4, 5, 6, 7, 8, 9, 31, 36, 49, 60, 78, 92]
def v92 : List Nat := [0, 1, 4]
def v93 : List Nat := [0, 1, 4]
def v94 : List Nat := [0, 2, 3, 7, 9, 17, 22, 28, 34, 40, 45]
def v95 : List Nat := [0, 2, 3, 16, 24, 33]
def v96 : List Nat := [0, 2, 3, 34]
def v97 : List Nat := [0, 1, 2, 3, 5, 8, 9, 10, 11]
def v98 : List Nat := [0, 1, 2, 3, 7, 12, 21]
def v99 : List Nat := [0, 2]
def v100 : List Nat := [0, 2, 3, 6, 10, 18]
def v101 : List Nat := [0, 2, 3, 6, 10, 18]
def v102 : List Nat := [0, 1, 4, 5, 14]
def v103 : List Nat := [0, 1, 3, 4, 5, 10]
def v104 : List Nat := [0, 1, 3, 4, 7]
def v105 : List Nat := [0, 1, 2, 4, 6, 7]
def v106 : List Nat := [0, 1, 4]
def v107 : List Nat := [0, 1, 4, 7]
def v108 : List Nat := [0, 2, 3, 4, 5, 8, 9, 10, 11, 20]
def v109 : List Nat := [0, 1, 2]
def v110 : List Nat := [0, 2]
def v111 : List Nat := [0, 2, 5]
def v112 : List Nat := [0, 2]
def v113 : List Nat := [0, 2]
def v114 : List Nat := [0, 2]
def v115 : List Nat := [0, 2]
def v116 : List Nat := [0, 2]
def v117 : List Nat := [0, 2]
def v118 : List Nat := [0, 2, 3, 5, 6, 8, 9, 10, 11, 12, 20, 25, 26, 27, 28]
def v119 : List Nat := [0, 1, 2, 3, 5, 8, 9, 10, 11]
def v120 : List Nat := [0, 1, 2, 4]
def v121 : List Nat := [0, 1, 2]
def v122 : List Nat := [0, 1, 2, 3, 4, 8, 15]
def v123 : List Nat := [0, 1, 2, 4, 10]
def v124 : List Nat := [0, 1, 4, 5, 11, 15, 25]
def v125 : List Nat := [0, 1, 2, 4, 10, 16]
def v126 : List Nat := [0, 1, 2]
def v127 : List Nat := [0, 1, 2, 3, 4, 5]
def v128 : List Nat := [0, 1, 2, 3, 4, 5, 12, 19]
def v129 : List Nat := [0, 1, 4, 5, 11, 15, 34]
def v130 : List Nat := [0, 1, 4, 9, 14]
def v131 : List Nat := [0, 2, 3]
def v132 : List Nat := [0, 2]
def v133 : List Nat := [0, 2]
def v134 : List Nat := [0, 2, 3, 11, 15, 52]
def v135 : List Nat := [0, 1, 3, 4, 5, 9, 18]
def v136 : List Nat := [0, 2]
def v137 : List Nat := [0, 1, 3, 4]
def v138 : List Nat := [0, 2, 3, 4, 6]
def v139 : List Nat := [0, 1, 2, 3]
def v140 : List Nat := [0, 2, 3, 4, 11]
def v141 : List Nat := [0, 1, 2, 3]
def v142 : List Nat := [0, 1, 3, 4]
def v143 : List Nat := [0, 1, 2, 3, 4, 5, 6, 22, 29]
def v144 : List Nat := [0, 1, 2, 3, 4]
def v145 : List Nat := [0, 1, 2, 3, 4, 5]
def v146 : List Nat := [0, 1, 2, 3, 4, 6, 7, 9, 12, 13, 14, 15, 31]
def v147 : List Nat := [0, 1, 2, 3, 4, 5, 6, 15, 38]
def v148 : List Nat := [0, 2, 3, 5, 7, 8, 9, 10]
def v149 : List Nat := [0, 2]
def v150 : List Nat := [0, 2]
def v151 : List Nat := [0, 2]
def v152 : List Nat := [0, 1, 4]
def v153 : List Nat := [0, 1, 4]
def v154 : List Nat := [0, 1, 2, 3, 4]
def v155 : List Nat := [0, 1, 2]
def v156 : List Nat := [0, 1, 3, 4]
def v157 : List Nat := [0, 2, 3]
def v158 : List Nat := [0, 1, 2, 3, 4, 10]
def v159 : List Nat := [0, 1, 4, 5, 10, 14, 26]
def v160 : List Nat := [0, 1, 2, 3, 4, 9, 15, 21, 26, 31]
def v161 : List Nat := [0, 1, 2, 4, 10, 16, 22]
def v162 : List Nat := [0, 1, 2]
def v163 : List Nat := [0, 1, 2, 3]
def v164 : List Nat := [0, 1, 4]
def v165 : List Nat := [0, 1, 2, 3]
def v166 : List Nat := [0, 1, 2]
def v167 : List Nat := [0, 1, 2, 3, 20, 23]
def v168 : List Nat := [0, 1, 2, 3, 4, 9, 15, 20, 26, 32, 37]
def v169 : List Nat := [0, 1, 4, 5, 11, 15, 25]
def v170 : List Nat := [0, 2, 3, 4]
def v171 : List Nat := [0, 1, 2, 3, 4, 5]
def v172 : List Nat := [0, 2, 3, 11, 15, 77]
def v173 : List Nat := [0, 2, 3, 4, 11]
def v174 : List Nat := [0, 1, 3, 4]
def v175 : List Nat := [0, 1, 2, 3, 4, 46, 49]
def v176 : List Nat := [0, 1, 2, 3, 4]
def v177 : List Nat := [0, 1, 4]
def v178 : List Nat := [0, 1, 2, 3]
def v179 : List Nat := [0, 1, 3, 4]
def v180 : List Nat := [0, 1, 3, 4]
def v181 : List Nat := [0, 2]
def v182 : List Nat := [0, 1, 4, 5, 10, 14, 26]
def v183 : List Nat := [0, 2]
def v184 : List Nat := [0, 1, 4, 5, 9, 10, 21, 23, 36]
def v185 : List Nat := [0, 2, 3, 7, 9, 13, 21, 28, 37]
def v186 : List Nat := [0, 2]
def v187 : List Nat := [0, 1, 4, 5, 6, 7, 13]
def v188 : List Nat := [0, 2, 4]
def v189 : List Nat := [0, 1, 2, 3, 16, 19]
def v190 : List Nat := [0, 1, 4, 5, 14]
def v191 : List Nat := [0, 1, 2, 3, 10, 27]
def v192 : List Nat := [0, 1, 2, 3, 8, 9, 10, 11, 13, 16, 21, 37, 42]
def v193 : List Nat := [0, 1, 4]
def v194 : List Nat := [0, 1, 3, 4]
def v195 : List Nat := [0, 1, 4, 5, 6, 7, 9, 11, 17, 23, 34]
def v196 : List Nat := [0, 1, 4, 5, 7, 8, 10, 12, 13, 15, 22, 29, 39, 40, 41, 42, 49, 63, 64, 65, 66]
def v197 : List Nat := [0, 2, 3, 5, 8, 9, 10, 11]
def v198 : List Nat := [0, 2]
def v199 : List Nat := [0, 1, 3, 4]
def v200 : List Nat := [0, 1, 2, 3, 6, 20]
def v201 : List Nat := [0, 1, 4, 6, 16]
def v202 : List Nat := [0, 1, 2, 3, 4, 5, 10]
def v203 : List Nat := [0, 1, 2, 3, 5, 6, 13, 21, 22, 23, 24]
def v204 : List Nat := [0, 1, 4, 5, 11, 15, 25]
def v205 : List Nat := [0, 1, 2, 4, 10, 16, 22, 28]
def v206 : List Nat := [0, 1, 4, 10]
def v207 : List Nat := [0, 1, 2, 5, 13, 16, 19, 23, 28, 31, 35, 39, 42, 64]
def v208 : List Nat := [0, 1, 4, 7, 10]
def v209 : List Nat := [0, 2, 3, 4, 5, 6, 9, 14, 27, 47, 57]
def v210 : List Nat := [0, 1, 2, 4]
def v211 : List Nat := [0, 2, 3, 4, 5, 6, 7, 8, 9, 18, 26, 41, 52]
def v212 : List Nat := [0, 2, 4]
def v213 : List Nat := [0, 2, 3, 4, 11]
def v214 : List Nat := [0, 1, 2, 3]
def v215 : List Nat := [0, 2, 3, 4, 11]
def v216 : List Nat := [0, 1, 2, 3]
def v217 : List Nat := [0, 2]
def v218 : List Nat := [0, 2, 3, 5, 6, 7, 8, 9, 14]
def v219 : List Nat := [0, 1, 4, 5, 6, 11, 12, 13, 16, 19]
def v220 : List Nat := [0, 1, 4]
def v221 : List Nat := [0, 1, 2, 6, 7, 8, 9, 14, 15, 16, 17, 18, 30]
def v222 : List Nat := [0, 1, 4]
def v223 : List Nat := [0, 1, 3, 4]
def v224 : List Nat := [0, 2]
def v225 : List Nat := [0, 1, 4, 5, 7, 8, 9, 16]
def v226 : List Nat := [0, 1, 2, 4]
def v227 : List Nat := [0, 2, 3, 4, 5, 6, 7, 8, 10, 13, 14, 15, 16, 32, 48, 63, 77, 78, 79]
def v228 : List Nat := [0, 2, 3, 9]
def v229 : List Nat := [0, 1, 4, 5, 10, 14, 26]
def v230 : List Nat := [0, 1, 2, 3, 4, 10, 15, 20, 25, 31, 37, 43]
def v231 : List Nat := [0, 1, 4, 5, 10, 14, 25]
def v232 : List Nat := [0, 1, 2, 4, 10, 16, 22, 28, 34, 40]
def v233 : List Nat := [0, 1, 2, 3]
def v234 : List Nat := [0, 1, 4, 5, 7, 8, 9, 16]
def v235 : List Nat := [0, 1, 2]
def v236 : List Nat := [0, 1, 2, 3, 4, 9, 14, 19, 24, 29, 35, 41, 47, 53, 59, 65]
def v237 : List Nat := [0, 1, 2, 4, 10, 16]
def v238 : List Nat := [0, 1, 2, 3]
def v239 : List Nat := [0, 1, 2, 3]
def v240 : List Nat := [0, 2, 3, 4, 12, 13, 14, 15, 16, 59]
def v241 : List Nat := [0, 1, 4, 5, 7, 8, 9, 16]
def v242 : List Nat := [0, 1, 4]
def v243 : List Nat := [0, 1, 2, 3]
def v244 : List Nat := [0, 1, 4]
def v245 : List Nat := [0, 1, 3]
def v246 : List Nat := [0, 1, 2, 3, 4, 10, 15, 20, 26, 31, 36, 41]
def v247 : List Nat := [0, 1, 4, 5, 6, 7, 15, 22, 26]
def v248 : List Nat := [0, 1, 4, 5, 6, 9, 15, 25]
def v249 : List Nat := [0, 1, 4, 5, 6, 7, 8, 9, 10, 11, 12, 13, 14, 15, 16, 17, 18, 19, 22, 25, 33, 40, 41, 46, 52, 69, 75, 84, 105, 114, 121, 138, 144, 153, 174, 189, 196]
def v250 : List Nat := [0, 1, 4]
def v251 : List Nat := [0, 1, 3]
def v252 : List Nat := [0, 2, 4]
def v253 : List Nat := [0, 2, 3]
def v254 : List Nat := [0, 1, 4, 5, 6, 7, 8, 9, 10, 11, 12, 13, 14, 15, 16, 20, 99, 139, 161]
def v255 : List Nat := [0, 1, 2, 3, 4, 10, 11, 12, 13, 14, 15, 16, 17, 18, 28, 30, 34, 46, 68, 89, 94]
def v256 : List Nat := [0, 1, 7, 21]
def v257 : List Nat := [0, 1, 4, 5]
def v258 : List Nat := [0, 2]
def v259 : List Nat := [0, 2]
def v260 : List Nat := [0, 1, 4]
def v261 : List Nat := [0, 1, 2, 3]
def v262 : List Nat := [0, 2]
def v263 : List Nat := [0, 2, 3, 4, 11, 25]
def v264 : List Nat := [0]
def v265 : List Nat := [0, 1, 2, 4, 5, 6, 7, 8, 9, 10, 11, 12, 13, 14, 15, 16, 17, 18, 19, 21, 60, 104, 194]
def v266 : List Nat := [0, 2]
def v268 : List Nat := [0, 1, 4]
def v269 : List Nat := [0, 1, 3]
def v270 : List Nat := [0, 2, 3, 4, 9, 15, 20]
def v271 : List Nat := [0, 1, 4, 5, 6, 8, 18]
def v272 : List Nat := [0, 1, 4, 5, 6, 8, 9, 10, 11, 12, 13, 14, 15, 16, 18, 19, 35, 88, 89, 187, 188]
def v273 : List Nat := [0, 1, 4, 5, 11, 15, 25]
def v274 : List Nat := [0, 1, 4, 5, 11, 15, 25]
def v275 : List Nat := [0, 2, 3, 4, 11]
def v276 : List Nat := [0, 2, 3, 4, 11]
def v277 : List Nat := [0, 1, 4, 5, 10, 14, 26]
def v278 : List Nat := [0, 1, 4, 5, 10, 14, 26]
def v279 : List Nat := [0, 1, 4, 5, 7, 8, 9, 16]
def v280 : List Nat := [0, 1, 4, 5, 7, 8, 9, 16]
def v281 : List Nat := [0, 2, 3, 5, 6, 7, 8, 9, 13]
def v282 : List Nat := [0, 2, 3, 4, 5, 10, 18]
def v284 : List Nat := [0, 1, 4]
def v286 : List Nat := [0, 2]
def v287 : List Nat := [0, 1, 4, 5, 6, 7, 8, 9, 10, 20, 42, 47, 84]
def v288 : List Nat := [0, 1, 4, 5, 7, 8, 9, 16]
def v289 : List Nat := [0, 2]
def v290 : List Nat := [0, 2, 4, 8, 14]
def v291 : List Nat := [0, 2, 3]
def v292 : List Nat := [0, 2]
def v293 : List Nat := [0, 2]
def v294 : List Nat := [0, 6, 19]
def v295 : List Nat := [0, 1, 4]
def v296 : List Nat := [0, 1, 4, 5, 7, 8, 9, 16]
def v297 : List Nat := [0, 1, 4]
def v298 : List Nat := [0, 2, 3]
def v299 : List Nat := [0, 1, 4, 5, 7, 8, 9, 16]
def v300 : List Nat := [0, 1, 4]
def v301 : List Nat := [0, 1, 3]
def v302 : List Nat := [0, 1, 2, 6, 7, 8, 9, 10, 11, 12, 13, 21]
def v303 : List Nat := [0, 1, 2, 6, 7, 8, 10, 20, 26, 27, 28, 29]
def v304 : List Nat := [0, 1, 4]
def v305 : List Nat := [0, 1, 4, 5]
def v306 : List Nat := [0, 1, 2, 4, 10]
def v307 : List Nat := [0, 1, 2, 4, 10]
def v308 : List Nat := [0, 1, 2, 3]
def v309 : List Nat := [0, 1, 2, 3]
def v310 : List Nat := [0, 1, 2, 3, 4, 10, 15]
def v311 : List Nat := [0, 1, 2, 3, 4, 10, 15, 20]
def v312 : List Nat := [0, 2, 3, 4, 5, 6, 7, 8, 9, 10, 11, 12, 16, 24, 47, 60, 62, 79, 81, 103]
def v313 : List Nat := [0, 2, 4, 6]
def v315 : List Nat := [0, 2, 3, 4, 5, 6, 7, 8, 12, 26, 31]
def v316 : List Nat := [0, 2, 4]
def v317 : List Nat := [0, 2, 4]
def v320 : List Nat := [0, 1, 4, 5, 7, 8, 9, 16]
def v321 : List Nat := [0, 1, 4, 5, 6, 7, 8, 9, 10, 11, 12, 13]
def v352 : List Nat := []
end Go.TL.Tryz

/- TfBase -/
namespace Go.TL.Tryz
open Go Go.TL Go.Proofs

def md (n : Nat) : Md := (bif leB n 95 then (bif leB n 31 then (bif leB n 11 then (bif leB n 7 then (bif eqB n 7 then ⟨[], false⟩ else ⟨[], true⟩) else (bif leB n 8 then (bif eqB n 8 then ⟨[], false⟩ else ⟨[], true⟩) else (bif eqB n 11 then ⟨[], false⟩ else ⟨[], true⟩))) else (bif leB n 29 then (bif eqB n 29 then ⟨[], false⟩ else ⟨[], true⟩) else (bif leB n 30 then (bif eqB n 30 then ⟨[some []], false⟩ else ⟨[], true⟩) else (bif eqB n 31 then ⟨[some []], false⟩ else ⟨[], true⟩)))) else (bif leB n 91 then (bif leB n 33 then (bif eqB n 33 then ⟨[], false⟩ else ⟨[], true⟩) else (bif leB n 36 then (bif eqB n 36 then ⟨[], false⟩ else ⟨[], true⟩) else (bif eqB n 91 then ⟨[some []], false⟩ else ⟨[], true⟩))) else (bif leB n 93 then (bif leB n 92 then (bif eqB n 92 then ⟨[some []], false⟩ else ⟨[], true⟩) else (bif eqB n 93 then ⟨[some []], false⟩ else ⟨[], true⟩)) else (bif leB n 94 then (bif eqB n 94 then ⟨[some []], false⟩ else ⟨[], true⟩) else (bif eqB n 95 then ⟨[some []], false⟩ else ⟨[], true⟩))))) else (bif leB n 131 then (bif leB n 103 then (bif leB n 96 then (bif eqB n 96 then ⟨[some []], false⟩ else ⟨[], true⟩) else (bif leB n 97 then (bif eqB n 97 then ⟨[], false⟩ else ⟨[], true⟩) else (bif eqB n 103 then ⟨[some [(0, 1)]], true⟩ else ⟨[], true⟩))) else (bif leB n 105 then (bif eqB n 105 then ⟨[some [(0, 1)]], true⟩ else ⟨[], true⟩) else (bif leB n 106 then (bif eqB n 106 then ⟨[], false⟩ else ⟨[], true⟩) else (bif eqB n 131 then ⟨[], false⟩ else ⟨[], true⟩)))) else (bif leB n 185 then (bif leB n 183 then (bif eqB n 183 then ⟨[some []], false⟩ else ⟨[], true⟩) else (bif leB n 184 then (bif eqB n 184 then ⟨[some []], false⟩ else ⟨[], true⟩) else (bif eqB n 185 then ⟨[some []], false⟩ else ⟨[], true⟩))) else (bif leB n 192 then (bif leB n 187 then (bif eqB n 187 then ⟨[some []], false⟩ else ⟨[], true⟩) else (bif eqB n 192 then ⟨[], false⟩ else ⟨[], true⟩)) else (bif leB n 201 then (bif eqB n 201 then ⟨[some []], true⟩ else ⟨[], true⟩) else (bif eqB n 209 then ⟨[], false⟩ else ⟨[], true⟩))))))
/-- The program, as the walks know it. -/
structure Prg (P : Program) : Prop where
  eq : P = Tryz.prog
  mixed : P.follows .mixedOrders = true
  tab : TabOk P tf
set_option maxRecDepth 20000 in
theorem fn_at {P : Program} (h : Prg P) {f : Nat} {fn : Func} (hf : Tryz.prog.funcs[f]? = some fn) : P.funcs[f]? = some fn := by rw [h.eq]; exact hf


/-- What is to be shown on the side. -/
structure Side (p : Prop) : Prop where
  h : p
theorem and_side {A B : Prop} (h : Side A) (k : B) : A ∧ B := ⟨h.h, k⟩
theorem dt_side {α : Type} {Φ : α → Prop} {X : (α → Prop) → Prop} {c : Prop} (h : Side c) (k : Dt Φ X) : Dt Φ (fun Q => c ∧ X Q) := dt_and h.h k

theorem cast_ex (n : Nat) : ∃ i : Int, (n : Int) = i := ⟨_, rfl⟩
theorem encB_ex (l : List UInt8) : ∃ es, encB l = es := ⟨_, rfl⟩
theorem encB_len {l : List UInt8} {es : List (List T)} (h : encB l = es) : es.length = l.length := by subst h; simp [encB]
theorem enc_app {l m : List UInt8} {es fs : List (List T)} (h : encB l = es) (k : encB m = fs) : encB (l ++ m) = es ++ fs := by subst h; subst k; simp [encB]
theorem u8_i64 (y : UInt8) : IntKind.i64.wrap (y.toNat : Int) = y.toNat := wrap_id (by have := y.toNat_lt; simp [IntKind.has, IntKind.min, IntKind.max, IntKind.signed, IntKind.bits]; omega)
theorem addI {a b : Int} (h1 : -9223372036854775808 ≤ a + b) (h2 : a + b ≤ 9223372036854775807) : iopS .add .i64 a b = a + b := wrap_id (by simp [IntKind.has, IntKind.min, IntKind.max, IntKind.signed, IntKind.bits]; omega)
theorem subI {a b : Int} (h1 : -9223372036854775808 ≤ a - b) (h2 : a - b ≤ 9223372036854775807) : iopS .sub .i64 a b = a - b := wrap_id (by simp [IntKind.has, IntKind.min, IntKind.max, IntKind.signed, IntKind.bits]; omega)
theorem mulI {a b : Int} (h1 : -9223372036854775808 ≤ a * b) (h2 : a * b ≤ 9223372036854775807) : iopS .mul .i64 a b = a * b := wrap_id (by simp [IntKind.has, IntKind.min, IntKind.max, IntKind.signed, IntKind.bits]; omega)
/-- The byte of a number. -/
def byteOf (v : Int) : UInt8 := UInt8.ofNat (v % 256).toNat
theorem byteOf_wrap (v : Int) : ((byteOf v).toNat : Int) = IntKind.u8.wrap v := by
  have h : (v % 256).toNat < 256 := by omega
  simp only [byteOf, UInt8.toNat_ofNat', IntKind.wrap, IntKind.signed, IntKind.bits]
  simp
  omega
theorem enc_byteOf (v : Int) : encB [byteOf v] = [[.int .u8 (IntKind.u8.wrap v)]] := by simp [encB, byteOf_wrap]
theorem enc_one {x : UInt8} {xx : Int} (h : (x.toNat : Int) = xx) : encB [x] = [[.int .u8 xx]] := by subst h; rfl
theorem room_of {k : Nat} {es : List (List T)} (h : es.length * (k + 1) ≤ 70368744177664) : std.room k es := h
theorem wid_byte (l : List UInt8) : std.wid 1 (encB l) := by intro x hx; obtain ⟨y, _, rfl⟩ := List.mem_map.1 hx; rfl
theorem wid_one (t : T) : std.wid 1 [[t]] := by intro x hx; simp at hx; subst hx; rfl
/-- A byte as a number. -/
def iB (x : UInt8) : Int := x.toNat
theorem iB_lo (x : UInt8) : 0 ≤ iB x := Int.natCast_nonneg _
theorem iB_hi (x : UInt8) : iB x ≤ 255 := by have := x.toNat_lt; simp only [iB]; omega
theorem iB_byteOf {v : Int} (h : 0 ≤ v ∧ v ≤ 255) : iB (byteOf v) = v := by rw [iB, byteOf_wrap]; exact wrap_id (by simp [IntKind.has, IntKind.min, IntKind.max, IntKind.signed, IntKind.bits]; omega)
theorem byteOf_iB (x : UInt8) : byteOf (iB x) = x := by
  have := x.toNat_lt
  simp only [byteOf, iB]
  rw [Int.emod_eq_of_lt (by omega) (by omega)]
  simp
theorem iB_inj {x y : UInt8} (h : iB x = iB y) : x = y := by rw [← byteOf_iB x, h, byteOf_iB]
theorem encB_iB (l : List UInt8) : encB l = l.map fun x => [.int .u8 (iB x)] := rfl
theorem iB_wrap64 (x : UInt8) : IntKind.i64.wrap (iB x) = iB x := u8_i64 x
theorem enc_iB {x : UInt8} {xx : Int} (h : iB x = xx) : encB [x] = [[.int .u8 xx]] := by subst h; rfl
/-- An element of a list of bytes. -/
theorem get_byte {ar : Ar} (har : ar = std) {b : List UInt8} {es : List (List T)} {i : Int} {K : List T → Prop} (hes : encB b = es) (h : 0 ≤ i ∧ i.toNat < b.length)
    (k : ∀ (x : UInt8) (xx : Int), b[i.toNat]? = some x → iB x = xx → K [.int .u8 xx]) : GetP ar es i K := by
  have hl : i.toNat < b.length := h.2
  subst har; subst hes
  refine ⟨by simp [std, encB]; omega, ?_⟩
  have := k b[i.toNat] _ (List.getElem?_eq_getElem hl) rfl
  simpa [std, encB, hl, iB] using this
theorem get_at {ar : Ar} (har : ar = std) {b : List UInt8} {es : List (List T)} {i xx : Int} {x : UInt8} {K : List T → Prop} (hes : encB b = es) (hx : b[i.toNat]? = some x) (hxx : iB x = xx) (h : 0 ≤ i) (k : K [.int .u8 xx]) : GetP ar es i K :=
  get_byte har hes ⟨h, (List.getElem?_eq_some_iff.1 hx).1⟩ fun y yy h1 h2 => by rw [hx] at h1; injection h1 with h1; subst h1; rw [← h2, hxx]; exact k
theorem lt_len {ar : Ar} (har : ar = std) {es : List (List T)} {i : Int} (h : ar.icmp .lss i (ar.len es) = true) (h0 : 0 ≤ i) : i.toNat < es.length := by
  subst har; simp [std, icmpS] at h; omega
theorem ge_len {ar : Ar} (har : ar = std) {es : List (List T)} {i : Int} (h : ar.icmp .lss i (ar.len es) = false) (h0 : 0 ≤ i) : es.length ≤ i.toNat := by
  subst har; simp [std, icmpS] at h; omega
theorem get_lt {ar : Ar} (har : ar = std) {b : List UInt8} {es : List (List T)} {i : Int} {K : List T → Prop} (hes : encB b = es) (h : ar.icmp .lss i (ar.len es) = true) (h0 : 0 ≤ i)
    (k : ∀ (x : UInt8) (xx : Int), b[i.toNat]? = some x → iB x = xx → K [.int .u8 xx]) : GetP ar es i K :=
  get_byte har hes ⟨h0, by rw [← encB_len hes]; exact lt_len har h h0⟩ k
theorem bytes_intro {b : List UInt8} {es : List (List T)} {K : List UInt8 → Prop} (hes : encB b = es) (k : K b) : BytesP es K := ⟨b, hes.symm, k⟩

theorem enc_set {l : List UInt8} {es : List (List T)} (hes : encB l = es) {i : Nat} {y : UInt8} {yy : Int} (hy : iB y = yy) : es.modify i (fun e => setAt e 0 [.int .u8 yy]) = encB (l.set i y) := by
  subst hes; subst hy
  apply List.ext_getElem?
  intro j
  simp only [encB, List.getElem?_modify, List.getElem?_map, List.getElem?_set, List.length_map]
  by_cases h : i = j
  · subst h
    by_cases hi : i < l.length
    · simp [hi, setAt, iB]
    · simp [hi]
  · simp [h]
theorem side_inb {ar : Ar} (har : ar = std) {l : List UInt8} {es : List (List T)} (hes : encB l = es) {i : Int} {x : UInt8} (hx : l[i.toNat]? = some x) (h : 0 ≤ i) : Side (ar.inb i es) := by
  have hl := (List.getElem?_eq_some_iff.1 hx).1
  have := encB_len hes
  subst har
  exact ⟨by simp [std]; omega⟩
theorem app_nil {ar : Ar} (har : ar = std) (es : List (List T)) : ar.app [] es = es := by subst har; rfl
theorem side_app {ar : Ar} (har : ar = std) {l m : List UInt8} {es fs : List (List T)} (h : encB l = es) (k : encB m = fs) (hn : l.length + m.length ≤ 1000000000) : Side (ar.room 1 (ar.app es fs) ∧ ar.wid 1 fs) := by
  subst har; subst h; subst k
  exact ⟨by simp [std, encB]; omega, wid_byte m⟩
theorem side_new {ar : Ar} (har : ar = std) {m : List UInt8} {fs : List (List T)} (k : encB m = fs) (hn : m.length ≤ 1000000000) : Side (ar.room 1 fs ∧ ar.wid 1 fs) := by
  subst har; subst k
  exact ⟨by simp [std, encB]; omega, wid_byte m⟩
theorem side_app0 {ar : Ar} (har : ar = std) {m : List UInt8} {fs : List (List T)} (k : encB m = fs) (hn : m.length ≤ 1000000000) : Side (ar.room 1 (ar.app [] fs) ∧ ar.wid 1 fs) := by
  subst har; subst k
  exact ⟨by simp [std, encB]; omega, wid_byte m⟩
theorem side_one {ar : Ar} (har : ar = std) {l : List UInt8} {es : List (List T)} {t : T} (h : encB l = es) (hn : l.length ≤ 1000000000) : Side (ar.room 1 (ar.app es [[t]]) ∧ ar.wid 1 [[t]]) := by
  subst har; subst h
  exact ⟨by simp [std, encB]; omega, wid_one t⟩
theorem side_lt {ar : Ar} (har : ar = std) {es : List (List T)} {i : Int} (h : ar.icmp .lss i (ar.len es) = true) (h0 : 0 ≤ i) : Side (ar.inb i es) := by
  subst har; simp [std, icmpS] at h
  exact ⟨by simp [std]; omega⟩
theorem side_sh {ar : Ar} (har : ar = std) {n : Int} (h : 0 ≤ n) : Side (ar.shok n) := by subst har; exact ⟨h⟩
theorem side_flat {ar : Ar} (har : ar = std) {l : List UInt8} {es : List (List T)} (h : encB l = es) : Side (ar.flat es) := by
  subst har; subst h
  refine ⟨fun x hx t ht => ?_⟩
  obtain ⟨y, _, rfl⟩ := List.mem_map.1 hx
  simp at ht; subst ht; rfl
theorem side_sbig {ar : Ar} (har : ar = std) {s : List UInt8} (h : s.length ≤ 1000000000) : Side (ar.sbig s) := by subst har; exact ⟨by simp [std]; omega⟩
theorem get_str {ar : Ar} (har : ar = std) (m : Nat) {es : List (List T)} {i : Int} {K : List T → Prop} (h : 0 ≤ i ∧ i.toNat < es.length) (hall : ∀ e ∈ es, ∃ s, e = [.str s] ∧ s.length ≤ m) (k : ∀ s, s.length ≤ m → K [.str s]) : GetP ar es i K := by
  subst har
  refine ⟨by simp [std]; omega, ?_⟩
  obtain ⟨s, h1, h2⟩ := hall es[i.toNat] (List.getElem_mem h.2)
  have := k s h2
  rw [← h1] at this
  simpa [std, h.2] using this
theorem dt_get_str {α : Type} {Φ : α → Prop} {ar : Ar} (har : ar = std) (m : Nat) {es : List (List T)} {i : Int} {K : List T → (α → Prop) → Prop} (h : 0 ≤ i ∧ i.toNat < es.length) (hall : ∀ e ∈ es, ∃ s, e = [.str s] ∧ s.length ≤ m) (k : ∀ s, s.length ≤ m → Dt Φ (K [.str s])) : Dt Φ (fun Q => GetP ar es i fun x => K x Q) := by
  obtain ⟨s, h1, h2⟩ := hall es[i.toNat] (List.getElem_mem h.2)
  subst har
  exact dt_get (v := [.str s]) (by simp [std]; omega) (by rw [← h1]; simp [std, h.2]) (k s h2)
theorem side_ix {ar : Ar} (har : ar = std) {es : List (List T)} {i : Int} (h : 0 ≤ i ∧ i.toNat < es.length) : Side (ar.inb i es) := by subst har; exact ⟨by simp [std]; omega⟩
theorem side_make {ar : Ar} (har : ar = std) {n : Int} (h0 : 0 ≤ n) (h : n ≤ 1000000000) : Side (ar.mkroom 1 n) := by
  subst har; exact ⟨⟨h0, by show n * (((1 : Nat) : Int) + 1) ≤ 2 ^ 46; omega⟩⟩
theorem add_std {ar : Ar} (har : ar = std) {a b : Int} (h1 : -9223372036854775808 ≤ a + b) (h2 : a + b ≤ 9223372036854775807) : ar.iop .add .i64 a b = a + b := by subst har; exact addI h1 h2
theorem byteOf_add (a b : Int) : iB (byteOf (a + b)) = iopS .add .u8 a b := byteOf_wrap _
/-- A list of numbers. -/
def encI (l : List Int) : List (List T) := l.map fun n => [.int .i64 n]
theorem encI_len {l : List Int} {es : List (List T)} (h : encI l = es) : es.length = l.length := by subst h; simp [encI]
theorem encI_app {l m : List Int} {es fs : List (List T)} (h : encI l = es) (k : encI m = fs) : encI (l ++ m) = es ++ fs := by subst h; subst k; simp [encI]
theorem side_oneI {ar : Ar} (har : ar = std) {l : List Int} {es : List (List T)} {t : T} (h : encI l = es) (hn : l.length ≤ 1000000000) : Side (ar.room 8 (ar.app es [[t]]) ∧ ar.wid 1 [[t]]) := by
  have := encI_len h
  subst har
  exact ⟨by simp [std]; omega, wid_one t⟩
theorem get_int {ar : Ar} (har : ar = std) {b : List Int} {es : List (List T)} {i : Int} {K : List T → Prop} (hes : encI b = es) (h : 0 ≤ i ∧ i.toNat < b.length)
    (k : ∀ (x : Int), b[i.toNat]? = some x → K [.int .i64 x]) : GetP ar es i K := by
  have hl : i.toNat < b.length := h.2
  subst har; subst hes
  refine ⟨by simp [std, encI]; omega, ?_⟩
  have := k b[i.toNat] (List.getElem?_eq_getElem hl)
  simpa [std, encI, hl] using this
/-- A list of labels. -/
def encN (n : List (List UInt8)) : List (List T) := n.map fun l => [.sl (encB l)]
theorem encN_len {l : List (List UInt8)} {es : List (List T)} (h : encN l = es) : es.length = l.length := by subst h; simp [encN]
theorem encN_app {l m : List (List UInt8)} {es fs : List (List T)} (h : encN l = es) (k : encN m = fs) : encN (l ++ m) = es ++ fs := by subst h; subst k; simp [encN]
theorem encN_one {x : List UInt8} {xx : List (List T)} (h : encB x = xx) : encN [x] = [[.sl xx]] := by subst h; rfl
theorem wid_encN (l : List (List UInt8)) : std.wid 1 (encN l) := by intro x hx; obtain ⟨y, _, rfl⟩ := List.mem_map.1 hx; rfl
theorem side_oneN {ar : Ar} (har : ar = std) {l : List (List UInt8)} {es : List (List T)} {t : T} (h : encN l = es) (hn : l.length ≤ 1000000000) : Side (ar.room 24 (ar.app es [[t]]) ∧ ar.wid 1 [[t]]) := by
  have := encN_len h
  subst har
  exact ⟨by simp [std]; omega, wid_one t⟩
theorem get_label {ar : Ar} (har : ar = std) {n : List (List UInt8)} {es : List (List T)} {i : Int} {K : List T → Prop} (hes : encN n = es) (h : 0 ≤ i ∧ i.toNat < n.length)
    (k : ∀ (x : List UInt8) (xx : List (List T)), n[i.toNat]? = some x → encB x = xx → K [.sl xx]) : GetP ar es i K := by
  have hl : i.toNat < n.length := h.2
  subst har; subst hes
  refine ⟨by simp [std, encN]; omega, ?_⟩
  have := k n[i.toNat] _ (List.getElem?_eq_getElem hl) rfl
  simpa [std, encN, hl] using this
theorem get_atN {ar : Ar} (har : ar = std) {b : List (List UInt8)} {es xx : List (List T)} {i : Int} {x : List UInt8} {K : List T → Prop} (hes : encN b = es) (hx : b[i.toNat]? = some x) (hxx : encB x = xx) (h : 0 ≤ i) (k : K [.sl xx]) : GetP ar es i K :=
  get_label har hes ⟨h, (List.getElem?_eq_some_iff.1 hx).1⟩ fun y yy h1 h2 => by rw [hx] at h1; injection h1 with h1; subst h1; rw [← h2, hxx]; exact k
theorem get_ltN {ar : Ar} (har : ar = std) {b : List (List UInt8)} {es : List (List T)} {i : Int} {K : List T → Prop} (hes : encN b = es) (h : ar.icmp .lss i (ar.len es) = true) (h0 : 0 ≤ i)
    (k : ∀ (x : List UInt8) (xx : List (List T)), b[i.toNat]? = some x → encB x = xx → K [.sl xx]) : GetP ar es i K :=
  get_label har hes ⟨h0, by rw [← encN_len hes]; exact lt_len har h h0⟩ k

end Go.TL.Tryz

/- TfDraw -/
namespace Go.TL.Tryz
open Go Go.TL Go.Proofs
variable {P : Program}



def curH (h : Int) : Int := iopS .add .i64 (iopS .mul .i64 h 6364136223846793005) 1442695040888963407
def curX (h : Int) : Int := iopS .and .i64 (iopS .xor .i64 (iopS .shr .i64 h 33) (iopS .shr .i64 h 45)) 255
/-- One byte of a draw: the number, the place, the mix. -/
def byteS (b : List UInt8) (i : Nat) (h : Int) : Int × Nat × Int :=
  if i < b.length then (iopS .and .i64 (iopS .add .i64 (curX (curH h)) (b.getD i 0).toNat) 255, i + 1, curH h) else (curX (curH h), i, curH h)
set_option maxRecDepth 20000 in
theorem fn96 : Tryz.prog.funcs[96]? = some Tryz.f96 := rfl
set_option maxRecDepth 3000 in
theorem byte_ok (hP : Prg P) {b : List UInt8} {i : Nat} {h : Int} {es : List (List T)} (hes : encB b = es) :
    ACall P 96 [.one (.ptr 0 0)] [(0, .box [.t (.sl es), .t (.int .i64 i), .t (.int .i64 h)] false)]
      (fun r ob => ∃ (v : Int) (i' : Nat) (h' : Int), byteS b i h = (v, i', h') ∧ r = .one (.t (.int .i64 v)) ∧ ob = [(0, .box [.t (.sl es), .t (.int .i64 i'), .t (.int .i64 h')] false)]) := by
  refine acall_fn (md := md) [none] v96 hP.mixed hP.tab (fn_at hP fn96) 1 rfl (by decide +kernel) rfl ?_
  intro ar har
  generalize hii : (i : Int) = ii
  cbv
  repeat' (first | (intro; cbv) | (refine ChkP.mk (by rfl) ?_; cbv) | (refine And.intro (by subst har; simp [std]; done) ?_) | (refine br_intro ?_ ?_ <;> intro <;> cbv))
  · rename_i hlt
    have hli : i < b.length := by subst har; subst hes; subst hii; simp [std, encB, icmpS] at hlt; exact hlt
    have hx : ar.get es ii = [.int .u8 (b.getD i 0).toNat] := by subst har; subst hes; subst hii; simp [std, encB, hli]
    refine ⟨by subst har; subst hes; subst hii; simp [std, encB, hli], ?_⟩
    rw [hx]
    generalize hb : (((b.getD i 0).toNat : Nat) : Int) = bb
    cbv
    repeat' (first | (intro; cbv) | (refine ChkP.mk (by rfl) ?_; cbv) | (refine And.intro (by subst har; simp [std]; done) ?_) | (refine br_intro ?_ ?_ <;> intro <;> cbv))
    have hbig : ar.big es := by assumption
    subst har; simp only [std] at *
    subst hes; subst hii
    have hbig : b.length ≤ 2 ^ 63 - 1 := by simpa [encB] using hbig
    have e : iopS .add .i64 (i : Int) 1 = ((i + 1 : Nat) : Int) := wrap_id (by simp [IntKind.has, IntKind.min, IntKind.max, IntKind.signed, IntKind.bits]; omega)
    refine ⟨_, i + 1, _, by simp only [byteS, if_pos hli]; rfl, ?_, ?_⟩
    · rw [← hb, u8_i64]; rfl
    · rw [e]; rfl
  · rename_i hlt
    subst har; simp only [std] at *
    subst hes; subst hii
    have hln : ¬ i < b.length := by simp [encB, icmpS] at hlt; omega
    refine ⟨_, i, _, by simp only [byteS, if_neg hln]; rfl, rfl, rfl⟩

/-- A number below a bound. -/
def belowS (b : List UInt8) (i : Nat) (h n : Int) : Int × Nat × Int :=
  if n ≤ 0 then (0, i, h) else
  if n ≤ 256 then match byteS b i h with
    | (x, i, h) => (x.tmod n, i, h)
  else match byteS b i h with
    | (x, i, h) => match byteS b i h with
      | (y, i, h) => match byteS b i h with
        | (z, i, h) => match byteS b i h with
          | (w, i, h) => ((iopS .add .i64 (iopS .add .i64 (iopS .add .i64 (iopS .mul .i64 x 16777216) (iopS .mul .i64 y 65536)) (iopS .mul .i64 z 256)) w).tmod n, i, h)
set_option maxRecDepth 20000 in
theorem fn31 : Tryz.prog.funcs[31]? = some Tryz.f31 := rfl
set_option maxRecDepth 3000 in
theorem below_ok (hP : Prg P) {b : List UInt8} {i : Nat} {h n : Int} {es : List (List T)} (hes : encB b = es) :
    ACall P 31 [.one (.ptr 0 0), .one (.t (.int .i64 n))] [(0, .box [.t (.sl es), .t (.int .i64 i), .t (.int .i64 h)] false)]
      (fun r ob => ∃ (v : Int) (i' : Nat) (h' : Int), belowS b i h n = (v, i', h') ∧ r = .one (.t (.int .i64 v)) ∧ ob = [(0, .box [.t (.sl es), .t (.int .i64 i'), .t (.int .i64 h')] false)]) := by
  refine acall_fn (md := md) [none] v31 hP.mixed hP.tab (fn_at hP fn31) 2 rfl (by decide +kernel) rfl ?_
  intro ar har
  generalize hii : (i : Int) = ii
  cbv
  repeat' (first | (intro; cbv) | (refine ChkP.mk (by rfl) ?_; cbv) | (refine br_intro ?_ ?_ <;> intro <;> cbv))
  · rename_i h0
    subst har; subst hii; simp [std, icmpS] at h0
    exact ⟨_, i, _, by simp only [belowS, if_pos h0], rfl, rfl⟩
  · rename_i h0 h1
    subst hii
    refine ⟨(byte_ok hP hes).mono ?_⟩
    rintro r ob ⟨v, i1, h1', hv, rfl, rfl⟩
    generalize hii : (i1 : Int) = ii
    cbv
    repeat' (first | (intro; cbv) | (refine ChkP.mk (by rfl) ?_; cbv) | (refine br_intro ?_ ?_ <;> intro <;> cbv))
    subst har; subst hii; simp only [std, icmpS, decide_eq_true_eq, decide_eq_false_iff_not] at *
    refine ⟨by omega, _, i1, h1', ?_, rfl, rfl⟩
    rw [belowS, if_neg h0, if_pos h1, hv]; rfl
  · rename_i h0 h1
    subst hii
    refine ⟨(byte_ok hP hes).mono ?_⟩
    rintro r ob ⟨v1, i1, h1', hv1, rfl, rfl⟩
    generalize hii : (i1 : Int) = ii
    cbv
    subst hii
    refine ⟨(byte_ok hP hes).mono ?_⟩
    rintro r ob ⟨v2, i2, h2', hv2, rfl, rfl⟩
    generalize hii : (i2 : Int) = ii
    cbv
    subst hii
    refine ⟨(byte_ok hP hes).mono ?_⟩
    rintro r ob ⟨v3, i3, h3', hv3, rfl, rfl⟩
    generalize hii : (i3 : Int) = ii
    cbv
    subst hii
    refine ⟨(byte_ok hP hes).mono ?_⟩
    rintro r ob ⟨v4, i4, h4', hv4, rfl, rfl⟩
    generalize hii : (i4 : Int) = ii
    cbv
    repeat' (first | (intro; cbv) | (refine ChkP.mk (by rfl) ?_; cbv) | (refine br_intro ?_ ?_ <;> intro <;> cbv))
    subst har; subst hii; simp only [std, icmpS, decide_eq_true_eq, decide_eq_false_iff_not] at *
    refine ⟨by omega, _, i4, h4', ?_, rfl, rfl⟩
    rw [belowS, if_neg h0, if_neg h1]
    simp only [hv1, hv2, hv3, hv4]
    rfl

/-- Does a number below a bound come out as 0? -/
def onceS (b : List UInt8) (i : Nat) (h n : Int) : Bool × Nat × Int := match belowS b i h n with
  | (v, i, h) => (v == 0, i, h)
set_option maxRecDepth 20000 in
theorem fn92 : Tryz.prog.funcs[92]? = some Tryz.f92 := rfl
set_option maxRecDepth 3000 in
theorem once_ok (hP : Prg P) {b : List UInt8} {i : Nat} {h n : Int} {es : List (List T)} (hes : encB b = es) :
    ACall P 92 [.one (.ptr 0 0), .one (.t (.int .i64 n))] [(0, .box [.t (.sl es), .t (.int .i64 i), .t (.int .i64 h)] false)]
      (fun r ob => ∃ (v : Bool) (i' : Nat) (h' : Int), onceS b i h n = (v, i', h') ∧ r = .one (.t (.bool v)) ∧ ob = [(0, .box [.t (.sl es), .t (.int .i64 i'), .t (.int .i64 h')] false)]) := by
  refine acall_fn (md := md) [none] v92 hP.mixed hP.tab (fn_at hP fn92) 2 rfl (by decide +kernel) rfl ?_
  intro ar har
  generalize hii : (i : Int) = ii
  cbv
  subst hii
  refine ⟨(below_ok hP hes).mono ?_⟩
  rintro r ob ⟨v, i1, h1', hv, rfl, rfl⟩
  generalize hii : (i1 : Int) = ii
  cbv
  subst har; subst hii; simp only [std, icmpS] at *
  exact ⟨⟨_, i1, h1', by simp only [onceS, hv], rfl, rfl⟩⟩

theorem and255 (a : Int) : 0 ≤ iopS .and .i64 a 255 ∧ iopS .and .i64 a 255 ≤ 255 := by
  have h : (BitVec.ofInt 64 a &&& BitVec.ofInt 64 255).toNat ≤ 255 := by
    rw [BitVec.toNat_and]; exact Nat.and_le_right
  generalize hk : (BitVec.ofInt 64 a &&& BitVec.ofInt 64 255).toNat = k at h
  have h2 : IntKind.i64.has (k : Int) := by simp [IntKind.has, IntKind.min, IntKind.max, IntKind.signed, IntKind.bits]; omega
  have e : iopS .and .i64 a 255 = (k : Int) := by
    show IntKind.i64.wrap (((BitVec.ofInt 64 a &&& BitVec.ofInt 64 255).toNat : Nat) : Int) = k
    rw [hk]; exact wrap_id h2
  rw [e]; omega
theorem byteS_lt {b : List UInt8} {i : Nat} {h v : Int} {i' : Nat} {h' : Int} (e : byteS b i h = (v, i', h')) : 0 ≤ v ∧ v ≤ 255 := by
  unfold byteS at e
  split at e <;> injection e with e _ <;> subst e <;> exact and255 _

theorem iop_add_id {a b : Int} (h : IntKind.i64.has (a + b)) : iopS .add .i64 a b = a + b := wrap_id h
theorem iop_mul_id {a b : Int} (h : IntKind.i64.has (a * b)) : iopS .mul .i64 a b = a * b := wrap_id h
theorem has_i64 {a : Int} (h : -(2 ^ 63) ≤ a) (h2 : a < 2 ^ 63) : IntKind.i64.has a := by simp [IntKind.has, IntKind.min, IntKind.max, IntKind.signed, IntKind.bits]; omega
theorem belowS_lt {b : List UInt8} {i : Nat} {h n v : Int} {i' : Nat} {h' : Int} (e : belowS b i h n = (v, i', h')) (hn : 0 < n) : 0 ≤ v ∧ v < n := by
  unfold belowS at e
  rw [if_neg (by omega)] at e
  split at e
  · generalize hq : byteS b i h = q at e
    obtain ⟨x, i1, h1⟩ := q
    simp only at e
    injection e with e _; subst e
    have := byteS_lt hq
    exact ⟨Int.tmod_nonneg _ this.1, Int.tmod_lt_of_pos _ hn⟩
  · generalize hq : byteS b i h = q at e
    obtain ⟨x, i1, h1⟩ := q
    simp only at e
    generalize hq2 : byteS b i1 h1 = q at e
    obtain ⟨y, i2, h2⟩ := q
    simp only at e
    generalize hq3 : byteS b i2 h2 = q at e
    obtain ⟨z, i3, h3⟩ := q
    simp only at e
    generalize hq4 : byteS b i3 h3 = q at e
    obtain ⟨u, i4, h4⟩ := q
    simp only at e
    injection e with e _; subst e
    have a1 := byteS_lt hq
    have a2 := byteS_lt hq2
    have a3 := byteS_lt hq3
    have a4 := byteS_lt hq4
    rw [iop_mul_id (has_i64 (by omega) (by omega)), iop_mul_id (a := y) (has_i64 (by omega) (by omega)), iop_mul_id (a := z) (has_i64 (by omega) (by omega)), iop_add_id (a := x * 16777216) (b := y * 65536) (has_i64 (by omega) (by omega)), iop_add_id (b := z * 256) (has_i64 (by omega) (by omega)), iop_add_id (has_i64 (by omega) (by omega))]
    exact ⟨Int.tmod_nonneg _ (by omega), Int.tmod_lt_of_pos _ hn⟩

def pickS (b : List UInt8) (i : Nat) (h : Int) (l : List Int) : Int × Nat × Int := match belowS b i h l.length with
  | (v, i, h) => (l.getD v.toNat 0, i, h)
set_option maxRecDepth 20000 in
theorem fn93 : Tryz.prog.funcs[93]? = some Tryz.f93 := rfl
set_option maxRecDepth 3000 in
theorem pick_ok (hP : Prg P) {b : List UInt8} {i : Nat} {h : Int} {es : List (List T)} (hes : encB b = es) {l : List Int} {ls : List (List T)} (hl : encI l = ls) (hne : l ≠ []) :
    ACall P 93 [.one (.ptr 0 0), .one (.t (.sl ls))] [(0, .box [.t (.sl es), .t (.int .i64 i), .t (.int .i64 h)] false)]
      (fun r ob => ∃ (v : Int) (i' : Nat) (h' : Int), pickS b i h l = (v, i', h') ∧ r = .one (.t (.int .i64 v)) ∧ ob = [(0, .box [.t (.sl es), .t (.int .i64 i'), .t (.int .i64 h')] false)]) := by
  refine acall_fn (md := md) [none] v93 hP.mixed hP.tab (fn_at hP fn93) 2 rfl (by decide +kernel) rfl ?_
  intro ar har
  generalize hii : (i : Int) = ii
  cbv
  intro _
  cbv
  subst hii
  refine ⟨(below_ok hP hes).mono ?_⟩
  rintro r ob ⟨v, i1, h1', hv, rfl, rfl⟩
  generalize hii : (i1 : Int) = ii
  cbv
  have hv : belowS b i h l.length = (v, i1, h1') := by subst har; subst hl; simpa [std, encI] using hv
  have hpos : 0 < l.length := List.length_pos_iff.2 hne
  have hb := belowS_lt hv (by omega)
  have hlt : v.toNat < l.length := by omega
  have hx : ar.get ls v = [.int .i64 (l.getD v.toNat 0)] := by subst har; subst hl; simp [std, encI, hlt]
  refine ⟨by subst har; subst hl; simp [std, encI]; omega, ?_⟩
  rw [hx]
  generalize hy : l.getD v.toNat 0 = y
  cbv
  subst hii
  exact ⟨⟨_, i1, h1', by simp only [pickS, hv, hy], rfl, rfl⟩⟩

end Go.TL.Tryz

/- TfDrawW -/
namespace Go.TL.Tryz
open Go Go.TL Go.Proofs
variable {P : Program}

theorem byte_dd (hP : Prg P) {b : List UInt8} {h ii : Int} {es : List (List T)} (hes : encB b = es) (hii : 0 ≤ ii) :
    DCall P 96 [.one (.ptr 0 0)] [(0, .box [.t (.sl es), .t (.int .i64 ii), .t (.int .i64 h)] false)]
      (fun r ob => ∃ (v : Int) (ii' h' : Int), 0 ≤ v ∧ v ≤ 255 ∧ 0 ≤ ii' ∧ r = .one (.t (.int .i64 v)) ∧ ob = [(0, .box [.t (.sl es), .t (.int .i64 ii'), .t (.int .i64 h')] false)]) := by
  obtain ⟨i, rfl⟩ := Int.eq_ofNat_of_zero_le hii
  obtain ⟨v, i', h', hv⟩ : ∃ v i' h', byteS b i h = (v, i', h') := ⟨_, _, _, rfl⟩
  refine ⟨_, _, ⟨v, i', h', (byteS_lt hv).1, (byteS_lt hv).2, Int.natCast_nonneg _, rfl, rfl⟩, (byte_ok hP hes).mono ?_⟩
  rintro r ob ⟨v1, i1, h1, hv1, rfl, rfl⟩
  rw [hv] at hv1; injection hv1 with e1 e2; injection e2 with e2 e3; subst e1; subst e2; subst e3
  exact ⟨rfl, rfl⟩
theorem below_dd (hP : Prg P) {b : List UInt8} {h n ii : Int} {es : List (List T)} (hes : encB b = es) (hii : 0 ≤ ii) :
    DCall P 31 [.one (.ptr 0 0), .one (.t (.int .i64 n))] [(0, .box [.t (.sl es), .t (.int .i64 ii), .t (.int .i64 h)] false)]
      (fun r ob => ∃ (v : Int) (ii' h' : Int), (0 < n → 0 ≤ v ∧ v < n) ∧ (n ≤ 0 → v = 0) ∧ 0 ≤ ii' ∧ r = .one (.t (.int .i64 v)) ∧ ob = [(0, .box [.t (.sl es), .t (.int .i64 ii'), .t (.int .i64 h')] false)]) := by
  obtain ⟨i, rfl⟩ := Int.eq_ofNat_of_zero_le hii
  obtain ⟨v, i', h', hv⟩ : ∃ v i' h', belowS b i h n = (v, i', h') := ⟨_, _, _, rfl⟩
  refine ⟨_, _, ⟨v, i', h', fun hn => belowS_lt hv hn, fun hn => ?_, Int.natCast_nonneg _, rfl, rfl⟩, (below_ok hP hes).mono ?_⟩
  · rw [belowS, if_pos hn] at hv
    exact (congrArg Prod.fst hv).symm
  rintro r ob ⟨v1, i1, h1, hv1, rfl, rfl⟩
  rw [hv] at hv1; injection hv1 with e1 e2; injection e2 with e2 e3; subst e1; subst e2; subst e3
  exact ⟨rfl, rfl⟩
/-- With an answer that is known ahead. -/
theorem below_d (hP : Prg P) {b : List UInt8} {h n ii : Int} {es : List (List T)} (hes : encB b = es) (hii : 0 ≤ ii) : ∃ v ii' h', 0 ≤ ii' ∧ (0 < n → 0 ≤ v ∧ v < n) ∧
    ACall P 31 [.one (.ptr 0 0), .one (.t (.int .i64 n))] [(0, .box [.t (.sl es), .t (.int .i64 ii), .t (.int .i64 h)] false)] (fun r ob => r = .one (.t (.int .i64 v)) ∧ ob = [(0, .box [.t (.sl es), .t (.int .i64 ii'), .t (.int .i64 h')] false)]) := by
  obtain ⟨i, rfl⟩ := Int.eq_ofNat_of_zero_le hii
  obtain ⟨v, i', h', hv⟩ : ∃ v i' h', belowS b i h n = (v, i', h') := ⟨_, _, _, rfl⟩
  refine ⟨v, i', h', Int.natCast_nonneg _, fun hn => belowS_lt hv hn, (below_ok hP hes).mono ?_⟩
  rintro r ob ⟨v1, i1, h1, hv1, rfl, rfl⟩
  rw [hv] at hv1; injection hv1 with e1 e2; injection e2 with e2 e3; subst e1; subst e2; subst e3
  exact ⟨rfl, rfl⟩
theorem once_dd (hP : Prg P) {b : List UInt8} {h n ii : Int} {es : List (List T)} (hes : encB b = es) (hii : 0 ≤ ii) :
    DCall P 92 [.one (.ptr 0 0), .one (.t (.int .i64 n))] [(0, .box [.t (.sl es), .t (.int .i64 ii), .t (.int .i64 h)] false)]
      (fun r ob => ∃ (v : Bool) (ii' h' : Int), 0 ≤ ii' ∧ r = .one (.t (.bool v)) ∧ ob = [(0, .box [.t (.sl es), .t (.int .i64 ii'), .t (.int .i64 h')] false)]) := by
  obtain ⟨i, rfl⟩ := Int.eq_ofNat_of_zero_le hii
  obtain ⟨v, i', h', hv⟩ : ∃ v i' h', onceS b i h n = (v, i', h') := ⟨_, _, _, rfl⟩
  refine ⟨_, _, ⟨v, i', h', Int.natCast_nonneg _, rfl, rfl⟩, (once_ok hP hes).mono ?_⟩
  rintro r ob ⟨v1, i1, h1, hv1, rfl, rfl⟩
  rw [hv] at hv1; injection hv1 with e1 e2; injection e2 with e2 e3; subst e1; subst e2; subst e3
  exact ⟨rfl, rfl⟩
theorem ints_of {ls : List (List T)} (hl : ∀ x ∈ ls, ∃ n, x = [.int .i64 n]) : ∃ l, encI l = ls := by
  induction ls with
  | nil => exact ⟨[], rfl⟩
  | cons x r ih =>
    obtain ⟨l, hl'⟩ := ih fun y hy => hl y (List.mem_cons_of_mem _ hy)
    obtain ⟨n, rfl⟩ := hl x (List.mem_cons_self ..)
    exact ⟨n :: l, by simp [encI] at hl' ⊢; exact hl'⟩
theorem pick_dd (hP : Prg P) {b : List UInt8} {h ii : Int} {es ls : List (List T)} (hes : encB b = es) (hii : 0 ≤ ii) (hl : ∀ x ∈ ls, ∃ n, x = [.int .i64 n]) (hne : ls ≠ []) :
    DCall P 93 [.one (.ptr 0 0), .one (.t (.sl ls))] [(0, .box [.t (.sl es), .t (.int .i64 ii), .t (.int .i64 h)] false)]
      (fun r ob => ∃ (v : Int) (ii' h' : Int), [.int .i64 v] ∈ ls ∧ 0 ≤ ii' ∧ r = .one (.t (.int .i64 v)) ∧ ob = [(0, .box [.t (.sl es), .t (.int .i64 ii'), .t (.int .i64 h')] false)]) := by
  obtain ⟨i, rfl⟩ := Int.eq_ofNat_of_zero_le hii
  obtain ⟨l, rfl⟩ := ints_of hl
  have hne2 : l ≠ [] := fun e => hne (by rw [e]; rfl)
  obtain ⟨v, i', h', hv⟩ : ∃ v i' h', pickS b i h l = (v, i', h') := ⟨_, _, _, rfl⟩
  refine ⟨_, _, ⟨v, i', h', ?_, Int.natCast_nonneg _, rfl, rfl⟩, (pick_ok hP hes rfl hne2).mono ?_⟩
  rotate_left
  · rintro r ob ⟨v1, i1, h1, hv1, rfl, rfl⟩
    rw [hv] at hv1; injection hv1 with e1 e2; injection e2 with e2 e3; subst e1; subst e2; subst e3
    exact ⟨rfl, rfl⟩
  unfold pickS at hv
  generalize hb : belowS b i h l.length = q at hv
  obtain ⟨u, i1, h1⟩ := q
  simp only at hv
  injection hv with e _; subst e
  have hpos : 0 < l.length := List.length_pos_iff.2 hne2
  have := belowS_lt hb (by omega)
  have hlt : u.toNat < l.length := by omega
  simp [encI, List.getD, List.getElem?_eq_getElem hlt]

set_option maxRecDepth 20000 in
theorem fn29 : Tryz.prog.funcs[29]? = some Tryz.f29 := rfl
set_option maxHeartbeats 40000000 in
set_option maxRecDepth 3000 in
theorem new_w (hP : Prg P) {code : List UInt8} {es : List (List T)} (hes : encB code = es) : ACall P 29 [.one (.t (.sl es))] []
    (fun r ob => ∃ h : Int, r = .one (.ptr 32 0) ∧ ob = [(32, .box [.t (.sl es), .t (.int .i64 0), .t (.int .i64 h)] false)]) := by
  refine acall_fn (md := md) [some []] v29 hP.mixed hP.tab (fn_at hP fn29) 1 rfl (by decide +kernel) rfl ?_
  intro ar har
  cbv
  repeat' (first | (intro; cbv) | (with_reducible refine and_side ?_ ?_; rotate_left; try cbv) | (refine ChkP.mk (by decide +kernel) ?_; cbv) | (refine br_intro ?_ ?_ <;> intro <;> cbv) | (refine get_at har (by assumption) (by assumption) (by assumption) (by assumption) ?_; cbv) | (refine get_lt har (by assumption) (by assumption) (by assumption) ?_; intro x xx hx hxx; cbv) | (refine get_atN har (by assumption) (by assumption) (by assumption) (by assumption) ?_; cbv) | (refine get_ltN har (by assumption) (by assumption) (by assumption) ?_; intro x xx hx hxx; cbv) | (refine get_atI har (by assumption) (by assumption) (by decide) ?_; cbv) | (refine get_twoA har (by assumption) (by assumption) (by decide) ?_; intro x hx; cbv) | (refine get_twoB har (by assumption) (by assumption) (by decide) ?_; intro x hx; cbv) | (refine bytes_intro (by assumption) ?_; cbv) | (exact side_lt har (by assumption) (by assumption)) | (exact side_inb har (by assumption) (by assumption) (by assumption)) | (exact side_sh har (by decide)) | (exact side_app har (by assumption) (by assumption) (by omega)) | (exact side_app0 har (by assumption) (by omega)) | (exact side_new har (by assumption) (by omega)) | (exact side_one har (by assumption) (by omega)) | (exact side_oneN har (by assumption) (by omega)) | (exact side_flat har (by assumption)) | (exact side_sbig har (by omega)) | (refine side_sbig har ?_; simp; done) | (exact side_oneI har (by assumption) (by omega)) | (refine side_ix har ?_; simp; done) | (refine side_ix har ?_; simp; omega))
  refine LoopP.mk (Int × Int) [0, 3, 4] [] (fun x => ⟨[(0, .one (.t (.sl es))), (3, .one (.t (.int .i64 x.1))), (4, .one (.t (.int .i64 x.2)))], []⟩) (fun x => 0 ≤ x.2 ∧ x.2 ≤ 4000) (fun x => 4000 - x.2.toNat) (?x, 0) ?e ?f ?g
  case e => rfl
  case f => simp
  case g =>
    rintro ⟨hh, ii⟩ ⟨hi0, hi⟩
    dsimp only at hi0 hi
    cbv
    repeat' (first | (intro; cbv) | (with_reducible refine and_side ?_ ?_; rotate_left; try cbv) | (refine ChkP.mk (by decide +kernel) ?_; cbv) | (refine br_intro ?_ ?_ <;> intro <;> cbv) | (refine get_at har (by assumption) (by assumption) (by assumption) (by assumption) ?_; cbv) | (refine get_lt har (by assumption) (by assumption) (by assumption) ?_; intro x xx hx hxx; cbv) | (refine get_atN har (by assumption) (by assumption) (by assumption) (by assumption) ?_; cbv) | (refine get_ltN har (by assumption) (by assumption) (by assumption) ?_; intro x xx hx hxx; cbv) | (refine get_atI har (by assumption) (by assumption) (by decide) ?_; cbv) | (refine get_twoA har (by assumption) (by assumption) (by decide) ?_; intro x hx; cbv) | (refine get_twoB har (by assumption) (by assumption) (by decide) ?_; intro x hx; cbv) | (refine bytes_intro (by assumption) ?_; cbv) | (exact side_lt har (by assumption) (by assumption)) | (exact side_inb har (by assumption) (by assumption) (by assumption)) | (exact side_sh har (by decide)) | (exact side_app har (by assumption) (by assumption) (by omega)) | (exact side_app0 har (by assumption) (by omega)) | (exact side_new har (by assumption) (by omega)) | (exact side_one har (by assumption) (by omega)) | (exact side_oneN har (by assumption) (by omega)) | (exact side_flat har (by assumption)) | (exact side_sbig har (by omega)) | (refine side_sbig har ?_; simp; done) | (exact side_oneI har (by assumption) (by omega)) | (refine side_ix har ?_; simp; done) | (refine side_ix har ?_; simp; omega))
    · subst har; simp only [std, icmpS, decide_eq_true_eq, decide_eq_false_iff_not] at *
      rw [addI (a := ii) (b := 1) (by omega) (by omega)]
      refine ⟨(_, ii + 1), rfl, ⟨?_, ?_⟩, ?_⟩
      · dsimp only; omega
      · dsimp only; omega
      · dsimp only; omega
    · exact ⟨⟨_, rfl, rfl⟩⟩
    · exact ⟨⟨_, rfl, rfl⟩⟩
end Go.TL.Tryz

/- TfNm -/
namespace Go.TL.Tryz
open Go Go.TL Go.Proofs
variable {P : Program}

set_option maxRecDepth 20000 in
theorem fn187 : Tryz.prog.funcs[187]? = some Tryz.f187 := rfl
set_option maxHeartbeats 40000000 in
set_option maxRecDepth 3000 in
theorem some_dd (hP : Prg P) {b : List UInt8} {h n ii : Int} {es : List (List T)} (hes : encB b = es) (hii : 0 ≤ ii) (hn : 0 ≤ n ∧ n ≤ 100) :
    DCall P 187 [.one (.ptr 0 0), .one (.t (.int .i64 n))] [(0, .box [.t (.sl es), .t (.int .i64 ii), .t (.int .i64 h)] false)]
      (fun r ob => ∃ (l : List UInt8) (ls : List (List T)) (ii' h' : Int), encB l = ls ∧ l.length ≤ n.toNat ∧ 0 ≤ ii' ∧ r = .one (.row 32 0) ∧ ob = [(0, .box [.t (.sl es), .t (.int .i64 ii'), .t (.int .i64 h')] false), (32, .row 1 ls 0 [0] false)]) := by
  refine dt_acall (dt_eval (fun Q h => acall_fn (md := md) [some [(0, 1)]] v187 hP.mixed hP.tab (fn_at hP fn187) 2 rfl (by decide +kernel) rfl h) (dt_ar fun ar har => ?_))
  refine dt_eval (fun Q h => by cbv; exact h) ?_
  repeat' (first | (refine dt_fact ?_; refine dt_eval (fun Q h => by cbv; exact h) ?_) | (refine dt_br ?_ ?_ <;> intro <;> refine dt_eval (fun Q h => by cbv; exact h) ?_) | (refine dt_chk (by decide +kernel) ?_; refine dt_eval (fun Q h => by cbv; exact h) ?_) | (with_reducible refine dt_side ?_ ?_; rotate_left; try (refine dt_eval (fun Q h => by cbv; exact h) ?_)) | (exact side_lt har (by assumption) (by assumption)) | (exact side_inb har (by assumption) (by assumption) (by assumption)) | (exact side_sh har (by decide)) | (exact side_app har (by assumption) (by assumption) (by omega)) | (exact side_app0 har (by assumption) (by omega)) | (exact side_new har (by assumption) (by omega)) | (exact side_one har (by assumption) (by omega)) | (exact side_oneN har (by assumption) (by omega)) | (exact side_flat har (by assumption)) | (exact side_sbig har (by omega)) | (refine side_sbig har ?_; simp; done) | (exact side_oneI har (by assumption) (by omega)) | (refine side_ix har ?_; simp; done) | (refine side_ix har ?_; simp; omega) | (refine dt_call (below_dd hP (by assumption) (by omega)) ?_; rintro r ob ⟨v, ii, h, hv0, hv1, hii, rfl, rfl⟩; refine dt_eval (fun Q h => by cbv; exact h) ?_) | (refine dt_calld (below_dd hP (by assumption) (by omega)) ?_; rintro r ob ⟨v, ii, h, hv0, hv1, hii, rfl, rfl⟩; refine dt_eval (fun Q h => by cbv; exact h) ?_) | (refine dt_call (byte_dd hP (by assumption) (by omega)) ?_; rintro r ob ⟨v, ii, h, hv0, hv1, hii, rfl, rfl⟩; refine dt_eval (fun Q h => by cbv; exact h) ?_) | (refine dt_calld (byte_dd hP (by assumption) (by omega)) ?_; rintro r ob ⟨v, ii, h, hv0, hv1, hii, rfl, rfl⟩; refine dt_eval (fun Q h => by cbv; exact h) ?_))
  refine dt_loop_start [] [.tmp 5 0 1 12] ?_
  cbv
  refine LoopDR.mk (List UInt8 × List (List T) × Int × Int × Int) (fun x => ([(7, .one (.t (.int .i64 x.2.2.1)))], [(0, .box [.t (.sl es), .t (.int .i64 x.2.2.2.1), .t (.int .i64 x.2.2.2.2)] false), (16, .row 1 x.2.1 0 [0] false)]))
    (fun x => encB x.1 = x.2.1 ∧ x.1.length = x.2.2.1.toNat ∧ 0 ≤ x.2.2.1 ∧ x.2.2.1 ≤ v ∧ 0 ≤ x.2.2.2.1) (fun x => v.toNat - x.2.2.1.toNat) ([], [], 0, ii, h) ?e ?f ?g
  case e => kernel_rfl
  case f => dsimp only; exact ⟨rfl, rfl, by omega, by omega, hii⟩
  case g =>
    intro x hx
    obtain ⟨l, ls, k, ii, h⟩ := x
    have hl : encB l = ls := hx.1
    have hn1 : l.length = k.toNat := hx.2.1
    have hk : 0 ≤ k ∧ k ≤ v ∧ 0 ≤ ii := hx.2.2
    clear hx
    refine dt_eval (fun Q h => by cbv; exact h) ?_
    repeat' (first | (refine dt_fact ?_; refine dt_eval (fun Q h => by cbv; exact h) ?_) | (refine dt_br ?_ ?_ <;> intro <;> refine dt_eval (fun Q h => by cbv; exact h) ?_) | (refine dt_chk (by decide +kernel) ?_; refine dt_eval (fun Q h => by cbv; exact h) ?_) | (with_reducible refine dt_side ?_ ?_; rotate_left; try (refine dt_eval (fun Q h => by cbv; exact h) ?_)) | (exact side_lt har (by assumption) (by assumption)) | (exact side_inb har (by assumption) (by assumption) (by assumption)) | (exact side_sh har (by decide)) | (exact side_app har (by assumption) (by assumption) (by omega)) | (exact side_app0 har (by assumption) (by omega)) | (exact side_new har (by assumption) (by omega)) | (exact side_one har (by assumption) (by omega)) | (exact side_oneN har (by assumption) (by omega)) | (exact side_flat har (by assumption)) | (exact side_sbig har (by omega)) | (refine side_sbig har ?_; simp; done) | (exact side_oneI har (by assumption) (by omega)) | (refine side_ix har ?_; simp; done) | (refine side_ix har ?_; simp; omega) | (refine dt_call (byte_dd hP (by assumption) (by omega)) ?_; rintro r ob ⟨v, ii, h, hv0, hv1, hii, rfl, rfl⟩; refine dt_eval (fun Q h => by cbv; exact h) ?_) | (refine dt_calld (byte_dd hP (by assumption) (by omega)) ?_; rintro r ob ⟨v, ii, h, hv0, hv1, hii, rfl, rfl⟩; refine dt_eval (fun Q h => by cbv; exact h) ?_))
    · refine dt_back ?_
      subst har; simp only [std, icmpS, decide_eq_true_eq, decide_eq_false_iff_not, Bool.not_eq_true', Bool.not_eq_false', bne_iff_ne, ne_eq, bne_eq_false_iff_eq, beq_iff_eq, beq_eq_false_iff_ne, Int.not_lt, Int.not_le, Bool.not_true, Bool.not_false, reduceCtorEq] at *
      rw [addI (a := k) (b := 1) (by omega) (by omega)]
      exact ⟨(l ++ [byteOf v], ls ++ [[.int .u8 (IntKind.u8.wrap v)]], k + 1, ii, h), by kernel_rfl, ⟨enc_app hl (enc_byteOf v), by simp; omega, by dsimp only; omega, by dsimp only; omega, hii⟩, by dsimp only; omega⟩
    · exact dt_ret ⟨l, ls, ii, h, hl, by omega, hk.2.2, rfl, rfl⟩
end Go.TL.Tryz

/- TfNmS -/
namespace Go.TL.Tryz
open Go Go.TL Go.Proofs
variable {P : Program}

def chOk (n : Int) : Bool := decide (97 ≤ n ∧ n ≤ 122 ∨ 48 ≤ n ∧ n ≤ 57 ∨ n = 45)
def labelOk (l : List UInt8) : Bool := decide (1 ≤ l.length) && (decide (l.length ≤ 15) && l.all fun x => chOk (iB x))
def nameOk (n : List (List UInt8)) : Bool := decide (n.length ≤ 6) && n.all labelOk

theorem all_take_succ {α : Type} {p : α → Bool} {l : List α} {i : Nat} {x : α} (hx : l[i]? = some x) (h : (l.take i).all p = true) (hp : p x = true) : (l.take (i + 1)).all p = true := by
  rw [List.take_add_one, hx]; simp [h, hp]
theorem all_bad {α : Type} {p : α → Bool} {l : List α} {i : Nat} {x : α} (hx : l[i]? = some x) (hp : p x = false) : l.all p = false := by
  rw [List.all_eq_false]; exact ⟨x, List.mem_of_getElem? hx, by simp [hp]⟩
theorem take_all {α : Type} {l : List α} {i : Nat} (h : l.length ≤ i) : l.take i = l := List.take_of_length_le h

set_option maxRecDepth 20000 in
theorem fn134 : Tryz.prog.funcs[134]? = some Tryz.f134 := rfl
set_option maxHeartbeats 40000000 in
set_option maxRecDepth 3000 in
theorem sLabelOk (hP : Prg P) {l : List UInt8} {ls : List (List T)} (hl : encB l = ls) : ACall P 134 [.one (.t (.sl ls))] [] (fun r ob => r = .one (.t (.bool (labelOk l))) ∧ ob = []) := by
  refine acall_fn (md := md) [none] v134 hP.mixed hP.tab (fn_at hP fn134) 1 rfl (by decide +kernel) rfl ?_
  intro ar har
  cbv
  repeat' (first | (intro; cbv) | (with_reducible refine and_side ?_ ?_; rotate_left; try cbv) | (refine ChkP.mk (by decide +kernel) ?_; cbv) | (refine br_intro ?_ ?_ <;> intro <;> cbv) | (refine get_at har (by assumption) (by assumption) (by assumption) (by assumption) ?_; cbv) | (refine get_lt har (by assumption) (by assumption) (by assumption) ?_; intro x xx hx hxx; cbv) | (refine get_atN har (by assumption) (by assumption) (by assumption) (by assumption) ?_; cbv) | (refine get_ltN har (by assumption) (by assumption) (by assumption) ?_; intro x xx hx hxx; cbv) | (refine get_atI har (by assumption) (by assumption) (by decide) ?_; cbv) | (refine get_twoA har (by assumption) (by assumption) (by decide) ?_; intro x hx; cbv) | (refine get_twoB har (by assumption) (by assumption) (by decide) ?_; intro x hx; cbv) | (refine bytes_intro (by assumption) ?_; cbv) | (exact side_lt har (by assumption) (by assumption)) | (exact side_inb har (by assumption) (by assumption) (by assumption)) | (exact side_sh har (by decide)) | (exact side_app har (by assumption) (by assumption) (by omega)) | (exact side_app0 har (by assumption) (by omega)) | (exact side_new har (by assumption) (by omega)) | (exact side_one har (by assumption) (by omega)) | (exact side_oneN har (by assumption) (by omega)) | (exact side_flat har (by assumption)) | (exact side_sbig har (by omega)) | (refine side_sbig har ?_; simp; done) | (exact side_oneI har (by assumption) (by omega)) | (refine side_ix har ?_; simp; done) | (refine side_ix har ?_; simp; omega))
  · subst har; simp only [std, icmpS, decide_eq_true_eq, decide_eq_false_iff_not, Bool.not_eq_true', Bool.not_eq_false', bne_iff_ne, ne_eq, bne_eq_false_iff_eq, beq_iff_eq, beq_eq_false_iff_ne, Int.not_lt, Int.not_le, Bool.not_true, Bool.not_false, reduceCtorEq] at *
    refine ⟨⟨?_, rfl⟩⟩
    have := encB_len hl
    simp [labelOk, show ¬ (1 ≤ l.length) by omega]
  · subst har; simp only [std, icmpS, decide_eq_true_eq, decide_eq_false_iff_not, Bool.not_eq_true', Bool.not_eq_false', bne_iff_ne, ne_eq, bne_eq_false_iff_eq, beq_iff_eq, beq_eq_false_iff_ne, Int.not_lt, Int.not_le, Bool.not_true, Bool.not_false, reduceCtorEq] at *
    refine ⟨⟨?_, rfl⟩⟩
    have := encB_len hl
    simp [labelOk, show ¬ (l.length ≤ 15) by omega]
  rename_i h1 _ h2
  refine LoopP.mk Int [0, 2, 3] [] (fun i => ⟨[(0, .one (.t (.sl ls))), (2, .one (.t (.bool false))), (3, .one (.t (.int .i64 i)))], []⟩) (fun i => 0 ≤ i ∧ ((l.take i.toNat).all fun x => chOk (iB x)) = true) (fun i => l.length - i.toNat) 0 ?e ?f ?g
  case e => rfl
  case f => simp
  case g =>
    intro i hi
    have hi0 : 0 ≤ i := hi.1
    have hi1 : ((l.take i.toNat).all fun x => chOk (iB x)) = true := hi.2
    clear hi
    cbv
    repeat' (first | (intro; cbv) | (with_reducible refine and_side ?_ ?_; rotate_left; try cbv) | (refine ChkP.mk (by decide +kernel) ?_; cbv) | (refine br_intro ?_ ?_ <;> intro <;> cbv) | (refine get_at har (by assumption) (by assumption) (by assumption) (by assumption) ?_; cbv) | (refine get_lt har (by assumption) (by assumption) (by assumption) ?_; intro x xx hx hxx; cbv) | (refine get_atN har (by assumption) (by assumption) (by assumption) (by assumption) ?_; cbv) | (refine get_ltN har (by assumption) (by assumption) (by assumption) ?_; intro x xx hx hxx; cbv) | (refine get_atI har (by assumption) (by assumption) (by decide) ?_; cbv) | (refine get_twoA har (by assumption) (by assumption) (by decide) ?_; intro x hx; cbv) | (refine get_twoB har (by assumption) (by assumption) (by decide) ?_; intro x hx; cbv) | (refine bytes_intro (by assumption) ?_; cbv) | (exact side_lt har (by assumption) (by assumption)) | (exact side_inb har (by assumption) (by assumption) (by assumption)) | (exact side_sh har (by decide)) | (exact side_app har (by assumption) (by assumption) (by omega)) | (exact side_app0 har (by assumption) (by omega)) | (exact side_new har (by assumption) (by omega)) | (exact side_one har (by assumption) (by omega)) | (exact side_oneN har (by assumption) (by omega)) | (exact side_flat har (by assumption)) | (exact side_sbig har (by omega)) | (refine side_sbig har ?_; simp; done) | (exact side_oneI har (by assumption) (by omega)) | (refine side_ix har ?_; simp; done) | (refine side_ix har ?_; simp; omega))
    all_goals have hlen := encB_len hl
    all_goals subst har; simp only [std, icmpS, decide_eq_true_eq, decide_eq_false_iff_not, Bool.not_eq_true', Bool.not_eq_false', bne_iff_ne, ne_eq, bne_eq_false_iff_eq, beq_iff_eq, beq_eq_false_iff_ne, Int.not_lt, Int.not_le, Bool.not_true, Bool.not_false, reduceCtorEq] at *
    all_goals first
      | (refine ⟨⟨?_, rfl⟩⟩; rw [show labelOk l = false by simp only [labelOk, all_bad (p := fun x => chOk (iB x)) hx (by rw [hxx]; simp [chOk]; omega), Bool.and_false]]; done)
      | (rw [addI (a := i) (b := 1) (by omega) (by omega)]
         exact ⟨i + 1, by kernel_rfl, ⟨by omega, by rw [show (i + 1).toNat = i.toNat + 1 by omega]; exact all_take_succ hx hi1 (by rw [hxx]; simp [chOk]; omega)⟩, by omega⟩)
      | skip
    rw [take_all (by omega)] at hi1
    exact ⟨⟨by simp only [labelOk, hi1, decide_eq_true (show 1 ≤ l.length by omega), decide_eq_true (show l.length ≤ 15 by omega), Bool.and_true], rfl⟩⟩
end Go.TL.Tryz

/- TfNmT -/
namespace Go.TL.Tryz
open Go Go.TL Go.Proofs
variable {P : Program}

set_option maxRecDepth 20000 in
theorem fn98 : Tryz.prog.funcs[98]? = some Tryz.f98 := rfl
set_option maxHeartbeats 40000000 in
set_option maxRecDepth 3000 in
theorem sNameOk (hP : Prg P) {n : List (List UInt8)} {ns : List (List T)} (hn : encN n = ns) : ACall P 98 [.agg [.t (.sl ns)]] [] (fun r ob => r = .one (.t (.bool (nameOk n))) ∧ ob = []) := by
  refine acall_fn (md := md) [none] v98 hP.mixed hP.tab (fn_at hP fn98) 1 rfl (by decide +kernel) rfl ?_
  intro ar har
  cbv
  repeat' (first | (intro; cbv) | (with_reducible refine and_side ?_ ?_; rotate_left; try cbv) | (refine ChkP.mk (by decide +kernel) ?_; cbv) | (refine br_intro ?_ ?_ <;> intro <;> cbv) | (refine get_at har (by assumption) (by assumption) (by assumption) (by assumption) ?_; cbv) | (refine get_lt har (by assumption) (by assumption) (by assumption) ?_; intro x xx hx hxx; cbv) | (refine get_atN har (by assumption) (by assumption) (by assumption) (by assumption) ?_; cbv) | (refine get_ltN har (by assumption) (by assumption) (by assumption) ?_; intro x xx hx hxx; cbv) | (refine get_atI har (by assumption) (by assumption) (by decide) ?_; cbv) | (refine get_twoA har (by assumption) (by assumption) (by decide) ?_; intro x hx; cbv) | (refine get_twoB har (by assumption) (by assumption) (by decide) ?_; intro x hx; cbv) | (refine bytes_intro (by assumption) ?_; cbv) | (exact side_lt har (by assumption) (by assumption)) | (exact side_inb har (by assumption) (by assumption) (by assumption)) | (exact side_sh har (by decide)) | (exact side_app har (by assumption) (by assumption) (by omega)) | (exact side_app0 har (by assumption) (by omega)) | (exact side_new har (by assumption) (by omega)) | (exact side_one har (by assumption) (by omega)) | (exact side_oneN har (by assumption) (by omega)) | (exact side_flat har (by assumption)) | (exact side_sbig har (by omega)) | (refine side_sbig har ?_; simp; done) | (exact side_oneI har (by assumption) (by omega)) | (refine side_ix har ?_; simp; done) | (refine side_ix har ?_; simp; omega))
  · have hlen := encN_len hn
    subst har; simp only [std, icmpS, decide_eq_true_eq, decide_eq_false_iff_not, Bool.not_eq_true', Bool.not_eq_false', bne_iff_ne, ne_eq, bne_eq_false_iff_eq, beq_iff_eq, beq_eq_false_iff_ne, Int.not_lt, Int.not_le, Bool.not_true, Bool.not_false, reduceCtorEq] at *
    exact ⟨⟨by simp only [nameOk, decide_eq_false (show ¬ n.length ≤ 6 by omega), Bool.false_and], rfl⟩⟩
  rename_i h1
  refine LoopP.mk Int [1, 2, 3] [] (fun i => ⟨[(1, .one (.ptr 16 0)), (2, .one (.t (.bool false))), (3, .one (.t (.int .i64 i)))], [(16, .box [.t (.sl ns)] false)]⟩) (fun i => 0 ≤ i ∧ (n.take i.toNat).all labelOk = true) (fun i => n.length - i.toNat) 0 ?e ?f ?g
  case e => rfl
  case f => simp
  case g =>
    intro i hi
    have hi0 : 0 ≤ i := hi.1
    have hi1 : (n.take i.toNat).all labelOk = true := hi.2
    clear hi
    cbv
    repeat' (first | (intro; cbv) | (with_reducible refine and_side ?_ ?_; rotate_left; try cbv) | (refine ChkP.mk (by decide +kernel) ?_; cbv) | (refine br_intro ?_ ?_ <;> intro <;> cbv) | (refine get_at har (by assumption) (by assumption) (by assumption) (by assumption) ?_; cbv) | (refine get_lt har (by assumption) (by assumption) (by assumption) ?_; intro x xx hx hxx; cbv) | (refine get_atN har (by assumption) (by assumption) (by assumption) (by assumption) ?_; cbv) | (refine get_ltN har (by assumption) (by assumption) (by assumption) ?_; intro x xx hx hxx; cbv) | (refine get_atI har (by assumption) (by assumption) (by decide) ?_; cbv) | (refine get_twoA har (by assumption) (by assumption) (by decide) ?_; intro x hx; cbv) | (refine get_twoB har (by assumption) (by assumption) (by decide) ?_; intro x hx; cbv) | (refine bytes_intro (by assumption) ?_; cbv) | (exact side_lt har (by assumption) (by assumption)) | (exact side_inb har (by assumption) (by assumption) (by assumption)) | (exact side_sh har (by decide)) | (exact side_app har (by assumption) (by assumption) (by omega)) | (exact side_app0 har (by assumption) (by omega)) | (exact side_new har (by assumption) (by omega)) | (exact side_one har (by assumption) (by omega)) | (exact side_oneN har (by assumption) (by omega)) | (exact side_flat har (by assumption)) | (exact side_sbig har (by omega)) | (refine side_sbig har ?_; simp; done) | (exact side_oneI har (by assumption) (by omega)) | (refine side_ix har ?_; simp; done) | (refine side_ix har ?_; simp; omega) | (refine call_intro (sLabelOk hP (by assumption)) ?_; rintro r ob ⟨rfl, rfl⟩; generalize hv : labelOk _ = v; cbv) | (refine calld_intro (sLabelOk hP (by assumption)) ?_; generalize hv : labelOk _ = v; cbv))
    all_goals have hlen := encN_len hn
    all_goals subst har; simp only [std, icmpS, decide_eq_true_eq, decide_eq_false_iff_not, Bool.not_eq_true', Bool.not_eq_false', bne_iff_ne, ne_eq, bne_eq_false_iff_eq, beq_iff_eq, beq_eq_false_iff_ne, Int.not_lt, Int.not_le, Bool.not_true, Bool.not_false, reduceCtorEq] at *
    · exact ⟨⟨by simp only [nameOk, all_bad (p := labelOk) hx (by rw [hv]; assumption), Bool.and_false], rfl⟩⟩
    · rw [addI (a := i) (b := 1) (by omega) (by omega)]
      exact ⟨i + 1, by kernel_rfl, ⟨by omega, by rw [show (i + 1).toNat = i.toNat + 1 by omega]; exact all_take_succ hx hi1 (by rw [hv]; assumption)⟩, by omega⟩
    · rw [take_all (by omega)] at hi1
      exact ⟨⟨by simp only [nameOk, hi1, decide_eq_true (show n.length ≤ 6 by omega), Bool.and_true], rfl⟩⟩

def lowCh (x : UInt8) : UInt8 := if 65 ≤ iB x ∧ iB x ≤ 90 then byteOf (iB x + 32) else x
def lower (l : List UInt8) : List UInt8 := l.map lowCh
theorem lower_len (l : List UInt8) : (lower l).length = l.length := by simp [lower]
theorem low_step {l m : List UInt8} {i : Nat} {x : UInt8} (hm : m = (l.take i).map lowCh ++ l.drop i) (hx : m[i]? = some x) : l[i]? = some x ∧ m.set i (lowCh x) = (l.take (i + 1)).map lowCh ++ l.drop (i + 1) := by
  have hi : i < m.length := (List.getElem?_eq_some_iff.1 hx).1
  have hl : i < l.length := by rw [hm] at hi; simp at hi; omega
  have hlx : l[i]? = some x := by
    rw [hm, List.getElem?_append_right (by simp; omega)] at hx
    simpa [List.getElem?_drop, Nat.min_eq_left (Nat.le_of_lt hl)] using hx
  refine ⟨hlx, ?_⟩
  have : l.drop i = x :: l.drop (i + 1) := by
    rw [List.drop_eq_getElem_cons hl]
    rw [List.getElem?_eq_getElem hl] at hlx
    injection hlx with e; rw [e]
  rw [List.take_add_one, hlx, hm, this, List.set_append]
  simp [Nat.min_eq_left (Nat.le_of_lt hl)]
theorem List.set_getElem?_self {α : Type} {l : List α} {i : Nat} {x : α} (h : l[i]? = some x) : l.set i x = l := by
  obtain ⟨h1, h2⟩ := List.getElem?_eq_some_iff.1 h
  rw [← h2]; exact List.set_getElem_self h1
set_option maxRecDepth 20000 in
theorem fn263 : Tryz.prog.funcs[263]? = some Tryz.f263 := rfl
set_option maxHeartbeats 40000000 in
set_option maxRecDepth 3000 in
theorem sLower (hP : Prg P) {l : List UInt8} {ls : List (List T)} (hl : encB l = ls) (hb : l.length ≤ 1000000) : ACall P 263 [.one (.t (.sl ls))] [] (fun r ob => r = .one (.row 32 0) ∧ ob = [(32, .row 1 (encB (lower l)) 0 [0] false)]) := by
  refine acall_fn (md := md) [some [(0, 1)]] v263 hP.mixed hP.tab (fn_at hP fn263) 1 rfl (by decide +kernel) rfl ?_
  intro ar har
  cbv
  repeat' (first | (intro; cbv) | (with_reducible refine and_side ?_ ?_; rotate_left; try cbv) | (refine ChkP.mk (by decide +kernel) ?_; cbv) | (refine br_intro ?_ ?_ <;> intro <;> cbv) | (refine get_at har (by assumption) (by assumption) (by assumption) (by assumption) ?_; cbv) | (refine get_lt har (by assumption) (by assumption) (by assumption) ?_; intro x xx hx hxx; cbv) | (refine get_atN har (by assumption) (by assumption) (by assumption) (by assumption) ?_; cbv) | (refine get_ltN har (by assumption) (by assumption) (by assumption) ?_; intro x xx hx hxx; cbv) | (refine get_atI har (by assumption) (by assumption) (by decide) ?_; cbv) | (refine get_twoA har (by assumption) (by assumption) (by decide) ?_; intro x hx; cbv) | (refine get_twoB har (by assumption) (by assumption) (by decide) ?_; intro x hx; cbv) | (refine bytes_intro (by assumption) ?_; cbv) | (exact side_lt har (by assumption) (by assumption)) | (exact side_inb har (by assumption) (by assumption) (by assumption)) | (exact side_sh har (by decide)) | (exact side_app har (by assumption) (by assumption) (by omega)) | (exact side_app0 har (by assumption) (by omega)) | (exact side_new har (by assumption) (by omega)) | (exact side_one har (by assumption) (by omega)) | (exact side_oneN har (by assumption) (by omega)) | (exact side_flat har (by assumption)) | (exact side_sbig har (by omega)) | (refine side_sbig har ?_; simp; done) | (exact side_oneI har (by assumption) (by omega)) | (refine side_ix har ?_; simp; done) | (refine side_ix har ?_; simp; omega))
  refine LoopP.mk (List UInt8 × List (List T) × Int) [3, 4] [] (fun x => ⟨[(3, .one (.row 16 0)), (4, .one (.t (.int .i64 x.2.2)))], [(16, .row 1 x.2.1 0 [0] false)]⟩)
    (fun x => encB x.1 = x.2.1 ∧ 0 ≤ x.2.2 ∧ x.1 = (l.take x.2.2.toNat).map lowCh ++ l.drop x.2.2.toNat) (fun x => l.length - x.2.2.toNat) (l, ?y, 0) ?e ?f ?g
  case e => rfl
  case f => subst har; exact ⟨hl, Int.le_refl 0, by simp⟩
  case g =>
    intro x hx
    obtain ⟨m, ms, i⟩ := x
    have hm : encB m = ms := hx.1
    have hi0 : 0 ≤ i := hx.2.1
    have hmm : m = (l.take i.toNat).map lowCh ++ l.drop i.toNat := hx.2.2
    clear hx
    cbv
    repeat' (first | (intro; cbv) | (with_reducible refine and_side ?_ ?_; rotate_left; try cbv) | (refine ChkP.mk (by decide +kernel) ?_; cbv) | (refine br_intro ?_ ?_ <;> intro <;> cbv) | (refine get_at har (by assumption) (by assumption) (by assumption) (by assumption) ?_; cbv) | (refine get_lt har (by assumption) (by assumption) (by assumption) ?_; intro x xx hx hxx; cbv) | (refine get_atN har (by assumption) (by assumption) (by assumption) (by assumption) ?_; cbv) | (refine get_ltN har (by assumption) (by assumption) (by assumption) ?_; intro x xx hx hxx; cbv) | (refine get_atI har (by assumption) (by assumption) (by decide) ?_; cbv) | (refine get_twoA har (by assumption) (by assumption) (by decide) ?_; intro x hx; cbv) | (refine get_twoB har (by assumption) (by assumption) (by decide) ?_; intro x hx; cbv) | (refine bytes_intro (by assumption) ?_; cbv) | (exact side_lt har (by assumption) (by assumption)) | (exact side_inb har (by assumption) (by assumption) (by assumption)) | (exact side_sh har (by decide)) | (exact side_app har (by assumption) (by assumption) (by omega)) | (exact side_app0 har (by assumption) (by omega)) | (exact side_new har (by assumption) (by omega)) | (exact side_one har (by assumption) (by omega)) | (exact side_oneN har (by assumption) (by omega)) | (exact side_flat har (by assumption)) | (exact side_sbig har (by omega)) | (refine side_sbig har ?_; simp; done) | (exact side_oneI har (by assumption) (by omega)) | (refine side_ix har ?_; simp; done) | (refine side_ix har ?_; simp; omega))
    all_goals have hlen := encB_len hm
    all_goals have hml : m.length = l.length := by rw [hmm]; simp; omega
    · subst har; simp only [std, icmpS, decide_eq_true_eq, decide_eq_false_iff_not, Bool.not_eq_true', Bool.not_eq_false', bne_iff_ne, ne_eq, bne_eq_false_iff_eq, beq_iff_eq, beq_eq_false_iff_ne, Int.not_lt, Int.not_le, Bool.not_true, Bool.not_false, reduceCtorEq] at *
      obtain ⟨s1, s2⟩ := low_step hmm hx
      rw [addI (a := i) (b := 1) (by omega) (by omega), enc_set hm (byteOf_add xx 32)]
      rw [lowCh, if_pos (by omega), hxx] at s2
      exact ⟨(m.set i.toNat (byteOf (xx + 32)), encB (m.set i.toNat (byteOf (xx + 32))), i + 1), by kernel_rfl, ⟨rfl, by dsimp only; omega, by dsimp only; rw [s2, show (i + 1).toNat = i.toNat + 1 by omega]⟩, by dsimp only; omega⟩
    iterate 2
      · subst har; simp only [std, icmpS, decide_eq_true_eq, decide_eq_false_iff_not, Bool.not_eq_true', Bool.not_eq_false', bne_iff_ne, ne_eq, bne_eq_false_iff_eq, beq_iff_eq, beq_eq_false_iff_ne, Int.not_lt, Int.not_le, Bool.not_true, Bool.not_false, reduceCtorEq] at *
        obtain ⟨s1, s2⟩ := low_step hmm hx
        rw [addI (a := i) (b := 1) (by omega) (by omega)]
        rw [lowCh, if_neg (by omega), List.set_getElem?_self hx] at s2
        exact ⟨(m, ms, i + 1), by kernel_rfl, ⟨hm, by dsimp only; omega, by dsimp only; rw [show (i + 1).toNat = i.toNat + 1 by omega, ← s2]⟩, by dsimp only; omega⟩
    · subst har; simp only [std, icmpS, decide_eq_true_eq, decide_eq_false_iff_not, Bool.not_eq_true', Bool.not_eq_false', bne_iff_ne, ne_eq, bne_eq_false_iff_eq, beq_iff_eq, beq_eq_false_iff_ne, Int.not_lt, Int.not_le, Bool.not_true, Bool.not_false, reduceCtorEq] at *
      refine ⟨⟨rfl, ?_⟩⟩
      rw [← hm, hmm, List.take_of_length_le (by omega), List.drop_of_length_le (by omega), List.append_nil]; rfl
end Go.TL.Tryz

/- TfNmU -/
namespace Go.TL.Tryz
open Go Go.TL Go.Proofs
variable {P : Program}

def splitL : List UInt8 → List UInt8 → List (List UInt8)
  | [], lab => if lab = [] then [] else [lower lab]
  | c :: r, lab => if c = 46 then lower lab :: splitL r [] else splitL r (lab ++ [c])
def nameOfB (b : List UInt8) : List (List UInt8) := if b = [] then [[]] else splitL b []
def nameRead (b : List UInt8) : List (List UInt8) × Bool :=
  if b = [46] then ([], true) else if nameOk (nameOfB b) then (nameOfB b, true) else ([], false)
/-- What is still to come. -/
def restL (b r lab : List UInt8) : List (List UInt8) := if b = [] then [[]] else splitL r lab

theorem drop_at {α : Type} {b : List α} {i : Nat} {x : α} (hx : b[i]? = some x) : b.drop i = x :: b.drop (i + 1) := by
  obtain ⟨h1, h2⟩ := List.getElem?_eq_some_iff.1 hx
  rw [List.drop_eq_getElem_cons h1, h2]
theorem ne_nil_at {α : Type} {b : List α} {i : Nat} {x : α} (hx : b[i]? = some x) : b ≠ [] := by intro e; rw [e] at hx; simp at hx
theorem rd_step {b lab : List UInt8} {n : List (List UInt8)} {i : Nat} {x : UInt8} {xx : Int} (hx : b[i]? = some x) (hxx : iB x = xx) (h46 : ¬ xx = 46) (h : n ++ restL b (b.drop i) lab = nameOfB b) : n ++ restL b (b.drop (i + 1)) (lab ++ [x]) = nameOfB b := by
  have : x ≠ 46 := fun e => h46 (by rw [← hxx, e]; rfl)
  rw [restL, if_neg (ne_nil_at hx), drop_at hx, splitL, if_neg this] at h
  rw [restL, if_neg (ne_nil_at hx)]; exact h
theorem rd_dot {b lab : List UInt8} {n : List (List UInt8)} {i : Nat} {x : UInt8} {xx : Int} (hx : b[i]? = some x) (hxx : iB x = xx) (h46 : xx = 46) (h : n ++ restL b (b.drop i) lab = nameOfB b) : n ++ [lower lab] ++ restL b (b.drop (i + 1)) [] = nameOfB b := by
  have : x = 46 := iB_inj (by rw [hxx, h46]; rfl)
  rw [restL, if_neg (ne_nil_at hx), drop_at hx, splitL, if_pos this] at h
  rw [restL, if_neg (ne_nil_at hx), List.append_assoc]; exact h
theorem rd_end {b lab : List UInt8} {n : List (List UInt8)} {i : Nat} (hi : b.length ≤ i) (hb : b = [] ∨ lab ≠ []) (hc : b = [] → n = [] ∧ lab = []) (h : n ++ restL b (b.drop i) lab = nameOfB b) : n ++ [lower lab] = nameOfB b := by
  by_cases e : b = []
  · obtain ⟨rfl, rfl⟩ := hc e; subst e; rfl
  · rw [restL, if_neg e, List.drop_of_length_le hi, splitL, if_neg (hb.resolve_left e)] at h; exact h
theorem rd_end0 {b : List UInt8} {n : List (List UInt8)} {i : Nat} (hi : b.length ≤ i) (hb : b ≠ []) (h : n ++ restL b (b.drop i) [] = nameOfB b) : n = nameOfB b := by
  rw [restL, if_neg hb, List.drop_of_length_le hi, splitL, if_pos rfl, List.append_nil] at h; exact h
def rdK (b : List UInt8) (r : A) (ob : Obs) : Prop := r = .tup [.agg [.row 32 0], .one (.t (.bool (nameRead b).2))] ∧ ob = [(32, .row 1 (encN (nameRead b).1) 0 [0] false)]
theorem rd_true {b : List UInt8} {n : List (List UInt8)} {ns : List (List T)} (h1 : ¬ b = [46]) (hn : encN n = ns) (e : n = nameOfB b) (hv : nameOk n = true) :
    rdK b (.tup [.agg [.row 32 0], .one (.t (.bool true))]) [(32, .row 1 ns 0 [0] false)] := by
  unfold rdK; rw [nameRead, if_neg h1, ← e, if_pos hv, ← hn]; exact ⟨rfl, rfl⟩
theorem rd_false {b : List UInt8} {n : List (List UInt8)} (h1 : ¬ b = [46]) (e : n = nameOfB b) (hv : nameOk n = false) :
    rdK b (.tup [.agg [.row 32 0], .one (.t (.bool false))]) [(32, .row 1 [] 0 [0] false)] := by
  unfold rdK; rw [nameRead, if_neg h1, ← e, if_neg (by rw [hv]; simp)]; exact ⟨rfl, rfl⟩
set_option maxRecDepth 20000 in
theorem fn209 : Tryz.prog.funcs[209]? = some Tryz.f209 := rfl
set_option maxHeartbeats 40000000 in
set_option maxRecDepth 3000 in
theorem sNameRead (hP : Prg P) {b : List UInt8} {es : List (List T)} (hl : encB b = es) (hb : b.length ≤ 900000) :
    ACall P 209 [.one (.t (.sl es))] [] (fun r ob => r = .tup [.agg [.row 32 0], .one (.t (.bool (nameRead b).2))] ∧ ob = [(32, .row 1 (encN (nameRead b).1) 0 [0] false)]) := by
  refine acall_fn (md := md) [some [(0, 1)], none] v209 hP.mixed hP.tab (fn_at hP fn209) 1 rfl (by decide +kernel) rfl ?_
  intro ar har
  cbv
  repeat' (first | (intro; cbv) | (with_reducible refine and_side ?_ ?_; rotate_left; try cbv) | (refine ChkP.mk (by decide +kernel) ?_; cbv) | (refine br_intro ?_ ?_ <;> intro <;> cbv) | (refine get_at har (by assumption) (by assumption) (by assumption) (by assumption) ?_; cbv) | (refine get_lt har (by assumption) (by assumption) (by assumption) ?_; intro x xx hx hxx; cbv) | (refine get_atN har (by assumption) (by assumption) (by assumption) (by assumption) ?_; cbv) | (refine get_ltN har (by assumption) (by assumption) (by assumption) ?_; intro x xx hx hxx; cbv) | (refine get_atI har (by assumption) (by assumption) (by decide) ?_; cbv) | (refine get_twoA har (by assumption) (by assumption) (by decide) ?_; intro x hx; cbv) | (refine get_twoB har (by assumption) (by assumption) (by decide) ?_; intro x hx; cbv) | (refine bytes_intro (by assumption) ?_; cbv) | (exact side_lt har (by assumption) (by assumption)) | (exact side_inb har (by assumption) (by assumption) (by assumption)) | (exact side_sh har (by decide)) | (exact side_app har (by assumption) (by assumption) (by omega)) | (exact side_app0 har (by assumption) (by omega)) | (exact side_new har (by assumption) (by omega)) | (exact side_one har (by assumption) (by omega)) | (exact side_oneN har (by assumption) (by omega)) | (exact side_flat har (by assumption)) | (exact side_sbig har (by omega)) | (refine side_sbig har ?_; simp; done) | (exact side_oneI har (by assumption) (by omega)) | (refine side_ix har ?_; simp; done) | (refine side_ix har ?_; simp; omega))
  · subst har; simp only [std, icmpS, decide_eq_true_eq, decide_eq_false_iff_not, Bool.not_eq_true', Bool.not_eq_false', bne_iff_ne, ne_eq, bne_eq_false_iff_eq, beq_iff_eq, beq_eq_false_iff_ne, Int.not_lt, Int.not_le, Bool.not_true, Bool.not_false, reduceCtorEq] at *
    rename_i h1
    exact ⟨⟨by simp only [nameRead, if_pos h1], by simp only [nameRead, if_pos h1]; rfl⟩⟩
  rename_i h1
  have h1 : b ≠ [46] := by subst har; simpa [std] using h1
  refine LoopP.mk (List UInt8 × List (List T) × List (List UInt8) × List (List T) × Int) [0, 2, 3, 4, 5, 6] [.cell 4 0 1 12, .tmp 5 0 1 13]
    (fun x => ⟨[(0, .one (.t (.sl es))), (2, .one (.ptr 16 0)), (3, .one (.t (.bool false))), (4, .one (.ptr 17 0)), (5, .one (.row 18 0)), (6, .one (.t (.int .i64 x.2.2.2.2)))],
      [(16, .box [.nil] false), (17, .box [.row 19 0] false), (18, .row 1 x.2.1 0 [0] false), (19, .row 1 x.2.2.2.1 0 [0] false)]⟩)
    (fun x => x.2.2.2.2.toNat ≤ b.length + 1 ∧ encB x.1 = x.2.1 ∧ encN x.2.2.1 = x.2.2.2.1 ∧ 0 ≤ x.2.2.2.2 ∧ x.1.length ≤ x.2.2.2.2.toNat ∧ x.2.2.1.length ≤ x.2.2.2.2.toNat ∧
      (x.2.2.2.2.toNat ≤ b.length ∧ x.2.2.1 ++ restL b (b.drop x.2.2.2.2.toNat) x.1 = nameOfB b ∧ (b = [] → x.2.2.1 = [] ∧ x.1 = []) ∨ x.2.2.2.2.toNat = b.length + 1 ∧ x.2.2.1 = nameOfB b))
    (fun x => b.length + 1 - x.2.2.2.2.toNat) ([], [], [], [], 0) ?e ?f ?g
  case e => kernel_rfl
  case f => exact ⟨by simp, rfl, rfl, Int.le_refl _, by simp, by simp, .inl ⟨by simp, by simp [restL, nameOfB], fun _ => ⟨rfl, rfl⟩⟩⟩
  case g =>
    intro x hx
    obtain ⟨lab, labs, n, ns, i⟩ := x
    have hib : i.toNat ≤ b.length + 1 := hx.1
    replace hx := hx.2
    have hlab : encB lab = labs := hx.1
    have hn : encN n = ns := hx.2.1
    have hi0 : 0 ≤ i := hx.2.2.1
    have hb1 : lab.length ≤ i.toNat := hx.2.2.2.1
    have hb2 : n.length ≤ i.toNat := hx.2.2.2.2.1
    have hin : (i.toNat ≤ b.length ∧ n ++ restL b (b.drop i.toNat) lab = nameOfB b ∧ (b = [] → n = [] ∧ lab = []) ∨ i.toNat = b.length + 1 ∧ n = nameOfB b) := hx.2.2.2.2.2
    clear hx
    cbv
    repeat' (first | (intro; cbv) | (with_reducible refine and_side ?_ ?_; rotate_left; try cbv) | (refine ChkP.mk (by decide +kernel) ?_; cbv) | (refine br_intro ?_ ?_ <;> intro <;> cbv) | (refine get_at har (by assumption) (by assumption) (by assumption) (by assumption) ?_; cbv) | (refine get_lt har (by assumption) (by assumption) (by assumption) ?_; intro x xx hx hxx; cbv) | (refine get_atN har (by assumption) (by assumption) (by assumption) (by assumption) ?_; cbv) | (refine get_ltN har (by assumption) (by assumption) (by assumption) ?_; intro x xx hx hxx; cbv) | (refine get_atI har (by assumption) (by assumption) (by decide) ?_; cbv) | (refine get_twoA har (by assumption) (by assumption) (by decide) ?_; intro x hx; cbv) | (refine get_twoB har (by assumption) (by assumption) (by decide) ?_; intro x hx; cbv) | (refine bytes_intro (by assumption) ?_; cbv) | (exact side_lt har (by assumption) (by assumption)) | (exact side_inb har (by assumption) (by assumption) (by assumption)) | (exact side_sh har (by decide)) | (exact side_app har (by assumption) (by assumption) (by omega)) | (exact side_app0 har (by assumption) (by omega)) | (exact side_new har (by assumption) (by omega)) | (exact side_one har (by assumption) (by omega)) | (exact side_oneN har (by assumption) (by omega)) | (exact side_flat har (by assumption)) | (exact side_sbig har (by omega)) | (refine side_sbig har ?_; simp; done) | (exact side_oneI har (by assumption) (by omega)) | (refine side_ix har ?_; simp; done) | (refine side_ix har ?_; simp; omega) | (refine call_intro (sLower hP (by assumption) (by omega)) ?_; rintro r ob ⟨rfl, rfl⟩; generalize hms : encB (lower _) = ms; cbv) | (refine calld_intro (sLower hP (by assumption) (by omega)) ?_; generalize hms : encB (lower _) = ms; cbv) | (refine call_intro (sNameOk hP (by assumption)) ?_; rintro r ob ⟨rfl, rfl⟩; generalize hv : nameOk _ = v; cbv) | (refine calld_intro (sNameOk hP (by assumption)) ?_; generalize hv : nameOk _ = v; cbv))
    all_goals have hlen := encB_len hl
    all_goals have hlen2 := encB_len hlab
    all_goals subst har; simp only [std, icmpS, decide_eq_true_eq, decide_eq_false_iff_not, Bool.not_eq_true', Bool.not_eq_false', bne_iff_ne, ne_eq, bne_eq_false_iff_eq, beq_iff_eq, beq_eq_false_iff_ne, Int.not_lt, Int.not_le, Bool.not_true, Bool.not_false, reduceCtorEq] at *
    all_goals rcases hin with ⟨q1, q2, q3⟩ | ⟨q1, q2⟩
    all_goals first
      | (exfalso; omega)
      | skip
    all_goals first
      | (rw [addI (a := i) (b := 1) (by omega) (by omega)]
         exact ⟨(lab ++ [x], labs ++ [[.int .u8 xx]], n, ns, i + 1), by kernel_rfl, ⟨by dsimp only; omega, enc_app hlab (enc_iB hxx), hn, by dsimp only; omega, by simp; omega, by dsimp only; omega,
           .inl ⟨by dsimp only; omega, by dsimp only; rw [show (i + 1).toNat = i.toNat + 1 by omega]; exact rd_step hx hxx (by assumption) q2, fun e => absurd e (ne_nil_at hx)⟩⟩, by dsimp only; omega⟩)
      | (rw [addI (a := i) (b := 1) (by omega) (by omega)]
         exact ⟨([], [], n ++ [lower lab], ns ++ [[.sl ms]], i + 1), by kernel_rfl, ⟨by dsimp only; omega, rfl, encN_app hn (encN_one hms), by dsimp only; omega, by simp, by simp; omega,
           .inl ⟨by dsimp only; omega, by dsimp only; rw [show (i + 1).toNat = i.toNat + 1 by omega]; exact rd_dot hx hxx (by assumption) q2, fun e => absurd e (ne_nil_at hx)⟩⟩, by dsimp only; omega⟩)
      | (rw [addI (a := i) (b := 1) (by omega) (by omega)]
         have hbl : b = [] ∨ lab ≠ [] := by
           by_cases e : lab = []
           · exact .inl (List.eq_nil_of_length_eq_zero (by have e2 : lab.length = 0 := (congrArg List.length e).trans rfl; omega))
           · exact .inr e
         exact ⟨([], [], n ++ [lower lab], ns ++ [[.sl ms]], i + 1), by kernel_rfl, ⟨by dsimp only; omega, rfl, encN_app hn (encN_one hms), by dsimp only; omega, by simp, by simp; omega,
           .inr ⟨by dsimp only; omega, rd_end (by omega) hbl q3 q2⟩⟩, by dsimp only; omega⟩)
      | exact ⟨rd_true h1 hn q2 (by rw [hv]; assumption)⟩
      | exact ⟨rd_false h1 q2 (by rw [hv]; assumption)⟩
      | (have hlab0 : lab = [] := List.eq_nil_of_length_eq_zero (by omega)
         subst hlab0
         have q4 := rd_end0 (by omega) (by intro e; subst e; simp at hlen; omega) q2
         first
           | exact ⟨rd_true h1 hn q4 (by rw [hv]; assumption)⟩
           | exact ⟨rd_false h1 q4 (by rw [hv]; assumption)⟩)
end Go.TL.Tryz
