/- The types of the seat's program, as the evaluator takes them. -/
import Derived.Test.YtfmeopnankeaeaaProg
import Derived.Test.YtfmeopnankeaeaaTA
set_option linter.unusedSimpArgs false
set_option linter.unusedVariables false
set_option linter.unusedSectionVars false
namespace Go.Proofs.Ytfmeopnankeaeaa
def ti : TypeId → TI
  | 1 => ⟨.other, false, 1, 8, [.nilFunc], none⟩
  | 2 => ⟨(.int .i64), false, 1, 8, [.int .i64 0], none⟩
  | 3 => ⟨(.int .i64), false, 1, 8, [.int .i64 0], some .int⟩
  | 4 => ⟨.bool, false, 1, 1, [.bool false], none⟩
  | 5 => ⟨(.int .u8), false, 1, 1, [.int .u8 0], some .byte⟩
  | 6 => ⟨(.int .u8), false, 1, 1, [.int .u8 0], none⟩
  | 7 => ⟨(.st [(0, 2), (1, 3), (2, 4), (3, 6)]), true, 4, 24, [.int .i64 0, .int .i64 0, .bool false, .int .u8 0], none⟩
  | 8 => ⟨(.st [(0, 2), (1, 3), (2, 4), (3, 6)]), true, 4, 24, [.int .i64 0, .int .i64 0, .bool false, .int .u8 0], none⟩
  | 9 => ⟨.str, false, 1, 16, [.string ⟨#[]⟩], some .str⟩
  | 10 => ⟨.str, false, 1, 16, [.string ⟨#[]⟩], none⟩
  | 11 => ⟨.str, false, 1, 16, [.string ⟨#[]⟩], none⟩
  | 12 => ⟨(.int .u64), false, 1, 8, [.int .u64 0], none⟩
  | 13 => ⟨(.st [(0, 9), (1, 12)]), true, 2, 24, [.string ⟨#[]⟩, .int .u64 0], none⟩
  | 14 => ⟨(.st [(0, 9), (1, 12)]), true, 2, 24, [.string ⟨#[]⟩, .int .u64 0], none⟩
  | 15 => ⟨(.ptr 150), false, 1, 8, [.pointer none], none⟩
  | 16 => ⟨(.ptr 153), false, 1, 8, [.pointer none], none⟩
  | 17 => ⟨(.ptr 163), false, 1, 8, [.pointer none], none⟩
  | 18 => ⟨(.st [(0, 17)]), true, 1, 8, [.pointer none], none⟩
  | 19 => ⟨(.st [(0, 17)]), true, 1, 8, [.pointer none], none⟩
  | 20 => ⟨.iface, false, 1, 16, [.nilIface], none⟩
  | 21 => ⟨(.int .i32), false, 1, 4, [.int .i32 0], none⟩
  | 22 => ⟨(.sl 9), false, 1, 24, [.slice none 0 0], none⟩
  | 23 => ⟨(.arr 2 22), true, 2, 48, [.slice none 0 0, .slice none 0 0], none⟩
  | 24 => ⟨(.sl 102), false, 1, 24, [.slice none 0 0], none⟩
  | 25 => ⟨(.st [(0, 23), (2, 24)]), true, 3, 72, [.slice none 0 0, .slice none 0 0, .slice none 0 0], none⟩
  | 26 => ⟨(.st [(0, 23), (2, 24)]), true, 3, 72, [.slice none 0 0, .slice none 0 0, .slice none 0 0], none⟩
  | 27 => ⟨.other, false, 1, 8, [.nilFunc], none⟩
  | 28 => ⟨(.sl 88), false, 1, 24, [.slice none 0 0], none⟩
  | 29 => ⟨(.st [(0, 23), (2, 28)]), true, 3, 72, [.slice none 0 0, .slice none 0 0, .slice none 0 0], none⟩
  | 30 => ⟨(.st [(0, 23), (2, 28)]), true, 3, 72, [.slice none 0 0, .slice none 0 0, .slice none 0 0], none⟩
  | 31 => ⟨.other, false, 1, 8, [.nilFunc], none⟩
  | 32 => ⟨.other, false, 1, 8, [.nilFunc], none⟩
  | 33 => ⟨.other, false, 1, 8, [.nilFunc], none⟩
  | 34 => ⟨.other, false, 1, 8, [.nilFunc], none⟩
  | 35 => ⟨.other, false, 1, 8, [.nilFunc], none⟩
  | 36 => ⟨.other, false, 1, 8, [.nilFunc], none⟩
  | 37 => ⟨.other, false, 1, 8, [.nilFunc], none⟩
  | 39 => ⟨.other, false, 1, 8, [.nilFunc], none⟩
  | 40 => ⟨.other, false, 1, 8, [.nilFunc], none⟩
  | 41 => ⟨.other, false, 1, 8, [.nilFunc], none⟩
  | 42 => ⟨.other, false, 1, 8, [.nilFunc], none⟩
  | 43 => ⟨(.sl 3), false, 1, 24, [.slice none 0 0], none⟩
  | 44 => ⟨.other, false, 1, 8, [.nilFunc], none⟩
  | 45 => ⟨.other, false, 1, 8, [.nilFunc], none⟩
  | 46 => ⟨.other, false, 1, 8, [.nilFunc], none⟩
  | 47 => ⟨.other, false, 1, 8, [.nilFunc], none⟩
  | 48 => ⟨.other, false, 1, 8, [.nilFunc], none⟩
  | 49 => ⟨(.st [(0, 3), (1, 3), (2, 3)]), true, 3, 24, [.int .i64 0, .int .i64 0, .int .i64 0], none⟩
  | 50 => ⟨(.st [(0, 3), (1, 3), (2, 3)]), true, 3, 24, [.int .i64 0, .int .i64 0, .int .i64 0], some .ptr⟩
  | 52 => ⟨.other, false, 1, 8, [.nilFunc], none⟩
  | 53 => ⟨(.st [(0, 3), (1, 3), (2, 3)]), true, 3, 24, [.int .i64 0, .int .i64 0, .int .i64 0], some .ptr⟩
  | 54 => ⟨.other, false, 1, 8, [.nilFunc], none⟩
  | 55 => ⟨.other, false, 1, 8, [.nilFunc], none⟩
  | 56 => ⟨(.sl 139), false, 1, 24, [.slice none 0 0], none⟩
  | 57 => ⟨(.sl 142), false, 1, 24, [.slice none 0 0], none⟩
  | 58 => ⟨(.sl 50), false, 1, 24, [.slice none 0 0], none⟩
  | 59 => ⟨(.st [(0, 3), (1, 56), (2, 57), (3, 58), (4, 4), (5, 43), (6, 3)]), true, 7, 120, [.int .i64 0, .slice none 0 0, .slice none 0 0, .slice none 0 0, .bool false, .slice none 0 0, .int .i64 0], none⟩
  | 60 => ⟨(.st [(0, 3), (1, 56), (2, 57), (3, 58), (4, 4), (5, 43), (6, 3)]), true, 7, 120, [.int .i64 0, .slice none 0 0, .slice none 0 0, .slice none 0 0, .bool false, .slice none 0 0, .int .i64 0], none⟩
  | 61 => ⟨(.st [(0, 26), (3, 60), (10, 4)]), true, 11, 200, [.slice none 0 0, .slice none 0 0, .slice none 0 0, .int .i64 0, .slice none 0 0, .slice none 0 0, .slice none 0 0, .bool false, .slice none 0 0, .int .i64 0, .bool false], none⟩
  | 62 => ⟨(.st [(0, 26), (3, 60), (10, 4)]), true, 11, 200, [.slice none 0 0, .slice none 0 0, .slice none 0 0, .int .i64 0, .slice none 0 0, .slice none 0 0, .slice none 0 0, .bool false, .slice none 0 0, .int .i64 0, .bool false], none⟩
  | 63 => ⟨.other, false, 1, 8, [.nilFunc], none⟩
  | 64 => ⟨.other, false, 1, 8, [.nilFunc], none⟩
  | 65 => ⟨(.sl 125), false, 1, 24, [.slice none 0 0], none⟩
  | 66 => ⟨(.sl 127), false, 1, 24, [.slice none 0 0], none⟩
  | 67 => ⟨(.sl 53), false, 1, 24, [.slice none 0 0], none⟩
  | 68 => ⟨(.st [(0, 3), (1, 65), (2, 66), (3, 67), (4, 4), (5, 43), (6, 3)]), true, 7, 120, [.int .i64 0, .slice none 0 0, .slice none 0 0, .slice none 0 0, .bool false, .slice none 0 0, .int .i64 0], none⟩
  | 69 => ⟨(.st [(0, 3), (1, 65), (2, 66), (3, 67), (4, 4), (5, 43), (6, 3)]), true, 7, 120, [.int .i64 0, .slice none 0 0, .slice none 0 0, .slice none 0 0, .bool false, .slice none 0 0, .int .i64 0], none⟩
  | 70 => ⟨(.st [(0, 30), (3, 69), (10, 4)]), true, 11, 200, [.slice none 0 0, .slice none 0 0, .slice none 0 0, .int .i64 0, .slice none 0 0, .slice none 0 0, .slice none 0 0, .bool false, .slice none 0 0, .int .i64 0, .bool false], none⟩
  | 71 => ⟨(.st [(0, 30), (3, 69), (10, 4)]), true, 11, 200, [.slice none 0 0, .slice none 0 0, .slice none 0 0, .int .i64 0, .slice none 0 0, .slice none 0 0, .slice none 0 0, .bool false, .slice none 0 0, .int .i64 0, .bool false], none⟩
  | 72 => ⟨.other, false, 1, 8, [.nilFunc], none⟩
  | 73 => ⟨.other, false, 1, 8, [.nilFunc], none⟩
  | 74 => ⟨.other, false, 1, 8, [.nilFunc], none⟩
  | 75 => ⟨.other, false, 1, 8, [.nilFunc], none⟩
  | 76 => ⟨.other, false, 1, 8, [.nilFunc], none⟩
  | 77 => ⟨.other, false, 1, 8, [.nilFunc], none⟩
  | 78 => ⟨(.sl 5), false, 1, 24, [.slice none 0 0], none⟩
  | 79 => ⟨.other, false, 1, 8, [.nilFunc], none⟩
  | 80 => ⟨.other, false, 1, 8, [.nilFunc], none⟩
  | 81 => ⟨.other, false, 1, 8, [.nilFunc], none⟩
  | 82 => ⟨.other, false, 1, 8, [.nilFunc], none⟩
  | 83 => ⟨.other, false, 1, 8, [.nilFunc], none⟩
  | 84 => ⟨.other, false, 1, 8, [.nilFunc], none⟩
  | 85 => ⟨.other, false, 1, 8, [.nilFunc], none⟩
  | 86 => ⟨.other, false, 1, 8, [.nilFunc], none⟩
  | 87 => ⟨(.st [(0, 3), (1, 3), (2, 9)]), true, 3, 32, [.int .i64 0, .int .i64 0, .string ⟨#[]⟩], none⟩
  | 88 => ⟨(.st [(0, 3), (1, 3), (2, 9)]), true, 3, 32, [.int .i64 0, .int .i64 0, .string ⟨#[]⟩], some .late⟩
  | 89 => ⟨.other, false, 1, 8, [.nilFunc], none⟩
  | 90 => ⟨.other, false, 1, 8, [.nilFunc], none⟩
  | 91 => ⟨.other, false, 1, 8, [.nilFunc], none⟩
  | 92 => ⟨(.ptr 9), false, 1, 8, [.pointer none], none⟩
  | 93 => ⟨.other, false, 1, 8, [.nilFunc], none⟩
  | 95 => ⟨.other, false, 1, 8, [.nilFunc], none⟩
  | 96 => ⟨.other, false, 1, 8, [.nilFunc], none⟩
  | 97 => ⟨.other, false, 1, 8, [.nilFunc], none⟩
  | 98 => ⟨.other, false, 1, 8, [.nilFunc], none⟩
  | 99 => ⟨.other, false, 1, 8, [.nilFunc], none⟩
  | 100 => ⟨.other, false, 1, 8, [.nilFunc], none⟩
  | 101 => ⟨.other, false, 1, 8, [.nilFunc], none⟩
  | 102 => ⟨(.st [(0, 3), (1, 3), (2, 9)]), true, 3, 32, [.int .i64 0, .int .i64 0, .string ⟨#[]⟩], some .late⟩
  | 103 => ⟨.other, false, 1, 8, [.nilFunc], none⟩
  | 104 => ⟨.other, false, 1, 8, [.nilFunc], none⟩
  | 105 => ⟨.other, false, 1, 8, [.nilFunc], none⟩
  | 106 => ⟨.other, false, 1, 8, [.nilFunc], none⟩
  | 107 => ⟨.other, false, 1, 8, [.nilFunc], none⟩
  | 108 => ⟨.other, false, 1, 8, [.nilFunc], none⟩
  | 109 => ⟨.other, false, 1, 8, [.nilFunc], none⟩
  | 110 => ⟨.other, false, 1, 8, [.nilFunc], none⟩
  | 111 => ⟨.other, false, 1, 8, [.nilFunc], none⟩
  | 112 => ⟨.other, false, 1, 8, [.nilFunc], none⟩
  | 113 => ⟨(.ptr 30), false, 1, 8, [.pointer none], none⟩
  | 115 => ⟨.other, false, 1, 8, [.nilFunc], none⟩
  | 116 => ⟨.other, false, 1, 8, [.nilFunc], none⟩
  | 117 => ⟨.other, false, 1, 8, [.nilFunc], none⟩
  | 118 => ⟨.other, false, 1, 8, [.nilFunc], none⟩
  | 119 => ⟨.other, false, 1, 8, [.nilFunc], none⟩
  | 120 => ⟨.other, false, 1, 8, [.nilFunc], none⟩
  | 121 => ⟨.other, false, 1, 8, [.nilFunc], none⟩
  | 122 => ⟨.other, false, 1, 8, [.nilFunc], none⟩
  | 123 => ⟨(.arr 8 53), true, 24, 192, [.int .i64 0, .int .i64 0, .int .i64 0, .int .i64 0, .int .i64 0, .int .i64 0, .int .i64 0, .int .i64 0, .int .i64 0, .int .i64 0, .int .i64 0, .int .i64 0, .int .i64 0, .int .i64 0, .int .i64 0, .int .i64 0, .int .i64 0, .int .i64 0, .int .i64 0, .int .i64 0, .int .i64 0, .int .i64 0, .int .i64 0, .int .i64 0], none⟩
  | 124 => ⟨(.st [(0, 9), (1, 3), (2, 9), (3, 123), (27, 53), (30, 4)]), true, 31, 264, [.string ⟨#[]⟩, .int .i64 0, .string ⟨#[]⟩, .int .i64 0, .int .i64 0, .int .i64 0, .int .i64 0, .int .i64 0, .int .i64 0, .int .i64 0, .int .i64 0, .int .i64 0, .int .i64 0, .int .i64 0, .int .i64 0, .int .i64 0, .int .i64 0, .int .i64 0, .int .i64 0, .int .i64 0, .int .i64 0, .int .i64 0, .int .i64 0, .int .i64 0, .int .i64 0, .int .i64 0, .int .i64 0, .int .i64 0, .int .i64 0, .int .i64 0, .bool false], none⟩
  | 125 => ⟨(.st [(0, 9), (1, 3), (2, 9), (3, 123), (27, 53), (30, 4)]), true, 31, 264, [.string ⟨#[]⟩, .int .i64 0, .string ⟨#[]⟩, .int .i64 0, .int .i64 0, .int .i64 0, .int .i64 0, .int .i64 0, .int .i64 0, .int .i64 0, .int .i64 0, .int .i64 0, .int .i64 0, .int .i64 0, .int .i64 0, .int .i64 0, .int .i64 0, .int .i64 0, .int .i64 0, .int .i64 0, .int .i64 0, .int .i64 0, .int .i64 0, .int .i64 0, .int .i64 0, .int .i64 0, .int .i64 0, .int .i64 0, .int .i64 0, .int .i64 0, .bool false], some .cset⟩
  | 126 => ⟨(.st [(0, 3), (1, 3), (2, 3)]), true, 3, 24, [.int .i64 0, .int .i64 0, .int .i64 0], none⟩
  | 127 => ⟨(.st [(0, 3), (1, 3), (2, 3)]), true, 3, 24, [.int .i64 0, .int .i64 0, .int .i64 0], some .ent⟩
  | 128 => ⟨.other, false, 1, 8, [.nilFunc], none⟩
  | 129 => ⟨.other, false, 1, 8, [.nilFunc], none⟩
  | 130 => ⟨.other, false, 1, 8, [.nilFunc], none⟩
  | 131 => ⟨.other, false, 1, 8, [.nilFunc], none⟩
  | 132 => ⟨.other, false, 1, 8, [.nilFunc], none⟩
  | 133 => ⟨.other, false, 1, 8, [.nilFunc], none⟩
  | 134 => ⟨.other, false, 1, 8, [.nilFunc], none⟩
  | 135 => ⟨.other, false, 1, 8, [.nilFunc], none⟩
  | 136 => ⟨.other, false, 1, 8, [.nilFunc], none⟩
  | 137 => ⟨(.arr 8 50), true, 24, 192, [.int .i64 0, .int .i64 0, .int .i64 0, .int .i64 0, .int .i64 0, .int .i64 0, .int .i64 0, .int .i64 0, .int .i64 0, .int .i64 0, .int .i64 0, .int .i64 0, .int .i64 0, .int .i64 0, .int .i64 0, .int .i64 0, .int .i64 0, .int .i64 0, .int .i64 0, .int .i64 0, .int .i64 0, .int .i64 0, .int .i64 0, .int .i64 0], none⟩
  | 138 => ⟨(.st [(0, 9), (1, 3), (2, 9), (3, 137), (27, 50), (30, 4)]), true, 31, 264, [.string ⟨#[]⟩, .int .i64 0, .string ⟨#[]⟩, .int .i64 0, .int .i64 0, .int .i64 0, .int .i64 0, .int .i64 0, .int .i64 0, .int .i64 0, .int .i64 0, .int .i64 0, .int .i64 0, .int .i64 0, .int .i64 0, .int .i64 0, .int .i64 0, .int .i64 0, .int .i64 0, .int .i64 0, .int .i64 0, .int .i64 0, .int .i64 0, .int .i64 0, .int .i64 0, .int .i64 0, .int .i64 0, .int .i64 0, .int .i64 0, .int .i64 0, .bool false], none⟩
  | 139 => ⟨(.st [(0, 9), (1, 3), (2, 9), (3, 137), (27, 50), (30, 4)]), true, 31, 264, [.string ⟨#[]⟩, .int .i64 0, .string ⟨#[]⟩, .int .i64 0, .int .i64 0, .int .i64 0, .int .i64 0, .int .i64 0, .int .i64 0, .int .i64 0, .int .i64 0, .int .i64 0, .int .i64 0, .int .i64 0, .int .i64 0, .int .i64 0, .int .i64 0, .int .i64 0, .int .i64 0, .int .i64 0, .int .i64 0, .int .i64 0, .int .i64 0, .int .i64 0, .int .i64 0, .int .i64 0, .int .i64 0, .int .i64 0, .int .i64 0, .int .i64 0, .bool false], some .cset⟩
  | 140 => ⟨.other, false, 1, 8, [.nilFunc], none⟩
  | 141 => ⟨.other, false, 1, 8, [.nilFunc], none⟩
  | 142 => ⟨(.st [(0, 3), (1, 3), (2, 3)]), true, 3, 24, [.int .i64 0, .int .i64 0, .int .i64 0], some .ent⟩
  | 143 => ⟨.other, false, 1, 8, [.nilFunc], none⟩
  | 144 => ⟨.other, false, 1, 8, [.nilFunc], none⟩
  | 145 => ⟨.other, false, 1, 8, [.nilFunc], none⟩
  | 146 => ⟨.other, false, 1, 8, [.nilFunc], none⟩
  | 147 => ⟨.other, false, 1, 8, [.nilFunc], none⟩
  | 148 => ⟨.other, false, 1, 8, [.nilFunc], none⟩
  | 149 => ⟨(.st [(0, 17), (1, 17), (2, 17), (3, 9)]), true, 4, 40, [.pointer none, .pointer none, .pointer none, .string ⟨#[]⟩], none⟩
  | 150 => ⟨(.st [(0, 17), (1, 17), (2, 17), (3, 9)]), true, 4, 40, [.pointer none, .pointer none, .pointer none, .string ⟨#[]⟩], none⟩
  | 151 => ⟨(.arr 0 16), true, 0, 0, [], none⟩
  | 152 => ⟨(.st [(0, 151)]), true, 0, 0, [], none⟩
  | 153 => ⟨(.st [(0, 151)]), true, 0, 0, [], none⟩
  | 154 => ⟨.other, false, 1, 8, [.nilFunc], none⟩
  | 155 => ⟨(.int .u32), false, 1, 4, [.int .u32 0], none⟩
  | 156 => ⟨(.int .u8), false, 1, 1, [.int .u8 0], none⟩
  | 157 => ⟨(.int .u8), false, 1, 1, [.int .u8 0], none⟩
  | 158 => ⟨.other, false, 1, 8, [.nilFunc], none⟩
  | 159 => ⟨(.ptr 5), false, 1, 8, [.pointer none], none⟩
  | 160 => ⟨(.int .i32), false, 1, 4, [.int .i32 0], none⟩
  | 161 => ⟨(.int .i32), false, 1, 4, [.int .i32 0], none⟩
  | 162 => ⟨(.st [(0, 12), (1, 12), (2, 155), (3, 156), (4, 5), (5, 5), (6, 157), (7, 158), (8, 159), (9, 160), (10, 161)]), true, 11, 48, [.int .u64 0, .int .u64 0, .int .u32 0, .int .u8 0, .int .u8 0, .int .u8 0, .int .u8 0, .nilFunc, .pointer none, .int .i32 0, .int .i32 0], none⟩
  | 163 => ⟨(.st [(0, 12), (1, 12), (2, 155), (3, 156), (4, 5), (5, 5), (6, 157), (7, 158), (8, 159), (9, 160), (10, 161)]), true, 11, 48, [.int .u64 0, .int .u64 0, .int .u32 0, .int .u8 0, .int .u8 0, .int .u8 0, .int .u8 0, .nilFunc, .pointer none, .int .i32 0, .int .i32 0], none⟩
  | 164 => ⟨.other, false, 1, 8, [.nilFunc], none⟩
  | 165 => ⟨.other, false, 1, 8, [.nilFunc], none⟩
  | _ => ⟨.other, false, 0, 0, [], none⟩
theorem ti_1 : ti 1 = ⟨.other, false, 1, 8, [.nilFunc], none⟩ := rfl
theorem ti_2 : ti 2 = ⟨(.int .i64), false, 1, 8, [.int .i64 0], none⟩ := rfl
theorem ti_3 : ti 3 = ⟨(.int .i64), false, 1, 8, [.int .i64 0], some .int⟩ := rfl
theorem ti_4 : ti 4 = ⟨.bool, false, 1, 1, [.bool false], none⟩ := rfl
theorem ti_5 : ti 5 = ⟨(.int .u8), false, 1, 1, [.int .u8 0], some .byte⟩ := rfl
theorem ti_6 : ti 6 = ⟨(.int .u8), false, 1, 1, [.int .u8 0], none⟩ := rfl
theorem ti_7 : ti 7 = ⟨(.st [(0, 2), (1, 3), (2, 4), (3, 6)]), true, 4, 24, [.int .i64 0, .int .i64 0, .bool false, .int .u8 0], none⟩ := rfl
theorem ti_8 : ti 8 = ⟨(.st [(0, 2), (1, 3), (2, 4), (3, 6)]), true, 4, 24, [.int .i64 0, .int .i64 0, .bool false, .int .u8 0], none⟩ := rfl
theorem ti_9 : ti 9 = ⟨.str, false, 1, 16, [.string ⟨#[]⟩], some .str⟩ := rfl
theorem ti_10 : ti 10 = ⟨.str, false, 1, 16, [.string ⟨#[]⟩], none⟩ := rfl
theorem ti_11 : ti 11 = ⟨.str, false, 1, 16, [.string ⟨#[]⟩], none⟩ := rfl
theorem ti_12 : ti 12 = ⟨(.int .u64), false, 1, 8, [.int .u64 0], none⟩ := rfl
theorem ti_13 : ti 13 = ⟨(.st [(0, 9), (1, 12)]), true, 2, 24, [.string ⟨#[]⟩, .int .u64 0], none⟩ := rfl
theorem ti_14 : ti 14 = ⟨(.st [(0, 9), (1, 12)]), true, 2, 24, [.string ⟨#[]⟩, .int .u64 0], none⟩ := rfl
theorem ti_15 : ti 15 = ⟨(.ptr 150), false, 1, 8, [.pointer none], none⟩ := rfl
theorem ti_16 : ti 16 = ⟨(.ptr 153), false, 1, 8, [.pointer none], none⟩ := rfl
theorem ti_17 : ti 17 = ⟨(.ptr 163), false, 1, 8, [.pointer none], none⟩ := rfl
theorem ti_18 : ti 18 = ⟨(.st [(0, 17)]), true, 1, 8, [.pointer none], none⟩ := rfl
theorem ti_19 : ti 19 = ⟨(.st [(0, 17)]), true, 1, 8, [.pointer none], none⟩ := rfl
theorem ti_20 : ti 20 = ⟨.iface, false, 1, 16, [.nilIface], none⟩ := rfl
theorem ti_21 : ti 21 = ⟨(.int .i32), false, 1, 4, [.int .i32 0], none⟩ := rfl
theorem ti_22 : ti 22 = ⟨(.sl 9), false, 1, 24, [.slice none 0 0], none⟩ := rfl
theorem ti_23 : ti 23 = ⟨(.arr 2 22), true, 2, 48, [.slice none 0 0, .slice none 0 0], none⟩ := rfl
theorem ti_24 : ti 24 = ⟨(.sl 102), false, 1, 24, [.slice none 0 0], none⟩ := rfl
theorem ti_25 : ti 25 = ⟨(.st [(0, 23), (2, 24)]), true, 3, 72, [.slice none 0 0, .slice none 0 0, .slice none 0 0], none⟩ := rfl
theorem ti_26 : ti 26 = ⟨(.st [(0, 23), (2, 24)]), true, 3, 72, [.slice none 0 0, .slice none 0 0, .slice none 0 0], none⟩ := rfl
theorem ti_27 : ti 27 = ⟨.other, false, 1, 8, [.nilFunc], none⟩ := rfl
theorem ti_28 : ti 28 = ⟨(.sl 88), false, 1, 24, [.slice none 0 0], none⟩ := rfl
theorem ti_29 : ti 29 = ⟨(.st [(0, 23), (2, 28)]), true, 3, 72, [.slice none 0 0, .slice none 0 0, .slice none 0 0], none⟩ := rfl
theorem ti_30 : ti 30 = ⟨(.st [(0, 23), (2, 28)]), true, 3, 72, [.slice none 0 0, .slice none 0 0, .slice none 0 0], none⟩ := rfl
theorem ti_31 : ti 31 = ⟨.other, false, 1, 8, [.nilFunc], none⟩ := rfl
theorem ti_32 : ti 32 = ⟨.other, false, 1, 8, [.nilFunc], none⟩ := rfl
theorem ti_33 : ti 33 = ⟨.other, false, 1, 8, [.nilFunc], none⟩ := rfl
theorem ti_34 : ti 34 = ⟨.other, false, 1, 8, [.nilFunc], none⟩ := rfl
theorem ti_35 : ti 35 = ⟨.other, false, 1, 8, [.nilFunc], none⟩ := rfl
theorem ti_36 : ti 36 = ⟨.other, false, 1, 8, [.nilFunc], none⟩ := rfl
theorem ti_37 : ti 37 = ⟨.other, false, 1, 8, [.nilFunc], none⟩ := rfl
theorem ti_39 : ti 39 = ⟨.other, false, 1, 8, [.nilFunc], none⟩ := rfl
theorem ti_40 : ti 40 = ⟨.other, false, 1, 8, [.nilFunc], none⟩ := rfl
theorem ti_41 : ti 41 = ⟨.other, false, 1, 8, [.nilFunc], none⟩ := rfl
theorem ti_42 : ti 42 = ⟨.other, false, 1, 8, [.nilFunc], none⟩ := rfl
theorem ti_43 : ti 43 = ⟨(.sl 3), false, 1, 24, [.slice none 0 0], none⟩ := rfl
theorem ti_44 : ti 44 = ⟨.other, false, 1, 8, [.nilFunc], none⟩ := rfl
theorem ti_45 : ti 45 = ⟨.other, false, 1, 8, [.nilFunc], none⟩ := rfl
theorem ti_46 : ti 46 = ⟨.other, false, 1, 8, [.nilFunc], none⟩ := rfl
theorem ti_47 : ti 47 = ⟨.other, false, 1, 8, [.nilFunc], none⟩ := rfl
theorem ti_48 : ti 48 = ⟨.other, false, 1, 8, [.nilFunc], none⟩ := rfl
theorem ti_49 : ti 49 = ⟨(.st [(0, 3), (1, 3), (2, 3)]), true, 3, 24, [.int .i64 0, .int .i64 0, .int .i64 0], none⟩ := rfl
theorem ti_50 : ti 50 = ⟨(.st [(0, 3), (1, 3), (2, 3)]), true, 3, 24, [.int .i64 0, .int .i64 0, .int .i64 0], some .ptr⟩ := rfl
theorem ti_52 : ti 52 = ⟨.other, false, 1, 8, [.nilFunc], none⟩ := rfl
theorem ti_53 : ti 53 = ⟨(.st [(0, 3), (1, 3), (2, 3)]), true, 3, 24, [.int .i64 0, .int .i64 0, .int .i64 0], some .ptr⟩ := rfl
theorem ti_54 : ti 54 = ⟨.other, false, 1, 8, [.nilFunc], none⟩ := rfl
theorem ti_55 : ti 55 = ⟨.other, false, 1, 8, [.nilFunc], none⟩ := rfl
theorem ti_56 : ti 56 = ⟨(.sl 139), false, 1, 24, [.slice none 0 0], none⟩ := rfl
theorem ti_57 : ti 57 = ⟨(.sl 142), false, 1, 24, [.slice none 0 0], none⟩ := rfl
theorem ti_58 : ti 58 = ⟨(.sl 50), false, 1, 24, [.slice none 0 0], none⟩ := rfl
theorem ti_59 : ti 59 = ⟨(.st [(0, 3), (1, 56), (2, 57), (3, 58), (4, 4), (5, 43), (6, 3)]), true, 7, 120, [.int .i64 0, .slice none 0 0, .slice none 0 0, .slice none 0 0, .bool false, .slice none 0 0, .int .i64 0], none⟩ := rfl
theorem ti_60 : ti 60 = ⟨(.st [(0, 3), (1, 56), (2, 57), (3, 58), (4, 4), (5, 43), (6, 3)]), true, 7, 120, [.int .i64 0, .slice none 0 0, .slice none 0 0, .slice none 0 0, .bool false, .slice none 0 0, .int .i64 0], none⟩ := rfl
theorem ti_61 : ti 61 = ⟨(.st [(0, 26), (3, 60), (10, 4)]), true, 11, 200, [.slice none 0 0, .slice none 0 0, .slice none 0 0, .int .i64 0, .slice none 0 0, .slice none 0 0, .slice none 0 0, .bool false, .slice none 0 0, .int .i64 0, .bool false], none⟩ := rfl
theorem ti_62 : ti 62 = ⟨(.st [(0, 26), (3, 60), (10, 4)]), true, 11, 200, [.slice none 0 0, .slice none 0 0, .slice none 0 0, .int .i64 0, .slice none 0 0, .slice none 0 0, .slice none 0 0, .bool false, .slice none 0 0, .int .i64 0, .bool false], none⟩ := rfl
theorem ti_63 : ti 63 = ⟨.other, false, 1, 8, [.nilFunc], none⟩ := rfl
theorem ti_64 : ti 64 = ⟨.other, false, 1, 8, [.nilFunc], none⟩ := rfl
theorem ti_65 : ti 65 = ⟨(.sl 125), false, 1, 24, [.slice none 0 0], none⟩ := rfl
theorem ti_66 : ti 66 = ⟨(.sl 127), false, 1, 24, [.slice none 0 0], none⟩ := rfl
theorem ti_67 : ti 67 = ⟨(.sl 53), false, 1, 24, [.slice none 0 0], none⟩ := rfl
theorem ti_68 : ti 68 = ⟨(.st [(0, 3), (1, 65), (2, 66), (3, 67), (4, 4), (5, 43), (6, 3)]), true, 7, 120, [.int .i64 0, .slice none 0 0, .slice none 0 0, .slice none 0 0, .bool false, .slice none 0 0, .int .i64 0], none⟩ := rfl
theorem ti_69 : ti 69 = ⟨(.st [(0, 3), (1, 65), (2, 66), (3, 67), (4, 4), (5, 43), (6, 3)]), true, 7, 120, [.int .i64 0, .slice none 0 0, .slice none 0 0, .slice none 0 0, .bool false, .slice none 0 0, .int .i64 0], none⟩ := rfl
theorem ti_70 : ti 70 = ⟨(.st [(0, 30), (3, 69), (10, 4)]), true, 11, 200, [.slice none 0 0, .slice none 0 0, .slice none 0 0, .int .i64 0, .slice none 0 0, .slice none 0 0, .slice none 0 0, .bool false, .slice none 0 0, .int .i64 0, .bool false], none⟩ := rfl
theorem ti_71 : ti 71 = ⟨(.st [(0, 30), (3, 69), (10, 4)]), true, 11, 200, [.slice none 0 0, .slice none 0 0, .slice none 0 0, .int .i64 0, .slice none 0 0, .slice none 0 0, .slice none 0 0, .bool false, .slice none 0 0, .int .i64 0, .bool false], none⟩ := rfl
theorem ti_72 : ti 72 = ⟨.other, false, 1, 8, [.nilFunc], none⟩ := rfl
theorem ti_73 : ti 73 = ⟨.other, false, 1, 8, [.nilFunc], none⟩ := rfl
theorem ti_74 : ti 74 = ⟨.other, false, 1, 8, [.nilFunc], none⟩ := rfl
theorem ti_75 : ti 75 = ⟨.other, false, 1, 8, [.nilFunc], none⟩ := rfl
theorem ti_76 : ti 76 = ⟨.other, false, 1, 8, [.nilFunc], none⟩ := rfl
theorem ti_77 : ti 77 = ⟨.other, false, 1, 8, [.nilFunc], none⟩ := rfl
theorem ti_78 : ti 78 = ⟨(.sl 5), false, 1, 24, [.slice none 0 0], none⟩ := rfl
theorem ti_79 : ti 79 = ⟨.other, false, 1, 8, [.nilFunc], none⟩ := rfl
theorem ti_80 : ti 80 = ⟨.other, false, 1, 8, [.nilFunc], none⟩ := rfl
theorem ti_81 : ti 81 = ⟨.other, false, 1, 8, [.nilFunc], none⟩ := rfl
theorem ti_82 : ti 82 = ⟨.other, false, 1, 8, [.nilFunc], none⟩ := rfl
theorem ti_83 : ti 83 = ⟨.other, false, 1, 8, [.nilFunc], none⟩ := rfl
theorem ti_84 : ti 84 = ⟨.other, false, 1, 8, [.nilFunc], none⟩ := rfl
theorem ti_85 : ti 85 = ⟨.other, false, 1, 8, [.nilFunc], none⟩ := rfl
theorem ti_86 : ti 86 = ⟨.other, false, 1, 8, [.nilFunc], none⟩ := rfl
theorem ti_87 : ti 87 = ⟨(.st [(0, 3), (1, 3), (2, 9)]), true, 3, 32, [.int .i64 0, .int .i64 0, .string ⟨#[]⟩], none⟩ := rfl
theorem ti_88 : ti 88 = ⟨(.st [(0, 3), (1, 3), (2, 9)]), true, 3, 32, [.int .i64 0, .int .i64 0, .string ⟨#[]⟩], some .late⟩ := rfl
theorem ti_89 : ti 89 = ⟨.other, false, 1, 8, [.nilFunc], none⟩ := rfl
theorem ti_90 : ti 90 = ⟨.other, false, 1, 8, [.nilFunc], none⟩ := rfl
theorem ti_91 : ti 91 = ⟨.other, false, 1, 8, [.nilFunc], none⟩ := rfl
theorem ti_92 : ti 92 = ⟨(.ptr 9), false, 1, 8, [.pointer none], none⟩ := rfl
theorem ti_93 : ti 93 = ⟨.other, false, 1, 8, [.nilFunc], none⟩ := rfl
theorem ti_95 : ti 95 = ⟨.other, false, 1, 8, [.nilFunc], none⟩ := rfl
theorem ti_96 : ti 96 = ⟨.other, false, 1, 8, [.nilFunc], none⟩ := rfl
theorem ti_97 : ti 97 = ⟨.other, false, 1, 8, [.nilFunc], none⟩ := rfl
theorem ti_98 : ti 98 = ⟨.other, false, 1, 8, [.nilFunc], none⟩ := rfl
theorem ti_99 : ti 99 = ⟨.other, false, 1, 8, [.nilFunc], none⟩ := rfl
theorem ti_100 : ti 100 = ⟨.other, false, 1, 8, [.nilFunc], none⟩ := rfl
theorem ti_101 : ti 101 = ⟨.other, false, 1, 8, [.nilFunc], none⟩ := rfl
theorem ti_102 : ti 102 = ⟨(.st [(0, 3), (1, 3), (2, 9)]), true, 3, 32, [.int .i64 0, .int .i64 0, .string ⟨#[]⟩], some .late⟩ := rfl
theorem ti_103 : ti 103 = ⟨.other, false, 1, 8, [.nilFunc], none⟩ := rfl
theorem ti_104 : ti 104 = ⟨.other, false, 1, 8, [.nilFunc], none⟩ := rfl
theorem ti_105 : ti 105 = ⟨.other, false, 1, 8, [.nilFunc], none⟩ := rfl
theorem ti_106 : ti 106 = ⟨.other, false, 1, 8, [.nilFunc], none⟩ := rfl
theorem ti_107 : ti 107 = ⟨.other, false, 1, 8, [.nilFunc], none⟩ := rfl
theorem ti_108 : ti 108 = ⟨.other, false, 1, 8, [.nilFunc], none⟩ := rfl
theorem ti_109 : ti 109 = ⟨.other, false, 1, 8, [.nilFunc], none⟩ := rfl
theorem ti_110 : ti 110 = ⟨.other, false, 1, 8, [.nilFunc], none⟩ := rfl
theorem ti_111 : ti 111 = ⟨.other, false, 1, 8, [.nilFunc], none⟩ := rfl
theorem ti_112 : ti 112 = ⟨.other, false, 1, 8, [.nilFunc], none⟩ := rfl
theorem ti_113 : ti 113 = ⟨(.ptr 30), false, 1, 8, [.pointer none], none⟩ := rfl
theorem ti_115 : ti 115 = ⟨.other, false, 1, 8, [.nilFunc], none⟩ := rfl
theorem ti_116 : ti 116 = ⟨.other, false, 1, 8, [.nilFunc], none⟩ := rfl
theorem ti_117 : ti 117 = ⟨.other, false, 1, 8, [.nilFunc], none⟩ := rfl
theorem ti_118 : ti 118 = ⟨.other, false, 1, 8, [.nilFunc], none⟩ := rfl
theorem ti_119 : ti 119 = ⟨.other, false, 1, 8, [.nilFunc], none⟩ := rfl
theorem ti_120 : ti 120 = ⟨.other, false, 1, 8, [.nilFunc], none⟩ := rfl
theorem ti_121 : ti 121 = ⟨.other, false, 1, 8, [.nilFunc], none⟩ := rfl
theorem ti_122 : ti 122 = ⟨.other, false, 1, 8, [.nilFunc], none⟩ := rfl
theorem ti_123 : ti 123 = ⟨(.arr 8 53), true, 24, 192, [.int .i64 0, .int .i64 0, .int .i64 0, .int .i64 0, .int .i64 0, .int .i64 0, .int .i64 0, .int .i64 0, .int .i64 0, .int .i64 0, .int .i64 0, .int .i64 0, .int .i64 0, .int .i64 0, .int .i64 0, .int .i64 0, .int .i64 0, .int .i64 0, .int .i64 0, .int .i64 0, .int .i64 0, .int .i64 0, .int .i64 0, .int .i64 0], none⟩ := rfl
theorem ti_124 : ti 124 = ⟨(.st [(0, 9), (1, 3), (2, 9), (3, 123), (27, 53), (30, 4)]), true, 31, 264, [.string ⟨#[]⟩, .int .i64 0, .string ⟨#[]⟩, .int .i64 0, .int .i64 0, .int .i64 0, .int .i64 0, .int .i64 0, .int .i64 0, .int .i64 0, .int .i64 0, .int .i64 0, .int .i64 0, .int .i64 0, .int .i64 0, .int .i64 0, .int .i64 0, .int .i64 0, .int .i64 0, .int .i64 0, .int .i64 0, .int .i64 0, .int .i64 0, .int .i64 0, .int .i64 0, .int .i64 0, .int .i64 0, .int .i64 0, .int .i64 0, .int .i64 0, .bool false], none⟩ := rfl
theorem ti_125 : ti 125 = ⟨(.st [(0, 9), (1, 3), (2, 9), (3, 123), (27, 53), (30, 4)]), true, 31, 264, [.string ⟨#[]⟩, .int .i64 0, .string ⟨#[]⟩, .int .i64 0, .int .i64 0, .int .i64 0, .int .i64 0, .int .i64 0, .int .i64 0, .int .i64 0, .int .i64 0, .int .i64 0, .int .i64 0, .int .i64 0, .int .i64 0, .int .i64 0, .int .i64 0, .int .i64 0, .int .i64 0, .int .i64 0, .int .i64 0, .int .i64 0, .int .i64 0, .int .i64 0, .int .i64 0, .int .i64 0, .int .i64 0, .int .i64 0, .int .i64 0, .int .i64 0, .bool false], some .cset⟩ := rfl
theorem ti_126 : ti 126 = ⟨(.st [(0, 3), (1, 3), (2, 3)]), true, 3, 24, [.int .i64 0, .int .i64 0, .int .i64 0], none⟩ := rfl
theorem ti_127 : ti 127 = ⟨(.st [(0, 3), (1, 3), (2, 3)]), true, 3, 24, [.int .i64 0, .int .i64 0, .int .i64 0], some .ent⟩ := rfl
theorem ti_128 : ti 128 = ⟨.other, false, 1, 8, [.nilFunc], none⟩ := rfl
theorem ti_129 : ti 129 = ⟨.other, false, 1, 8, [.nilFunc], none⟩ := rfl
theorem ti_130 : ti 130 = ⟨.other, false, 1, 8, [.nilFunc], none⟩ := rfl
theorem ti_131 : ti 131 = ⟨.other, false, 1, 8, [.nilFunc], none⟩ := rfl
theorem ti_132 : ti 132 = ⟨.other, false, 1, 8, [.nilFunc], none⟩ := rfl
theorem ti_133 : ti 133 = ⟨.other, false, 1, 8, [.nilFunc], none⟩ := rfl
theorem ti_134 : ti 134 = ⟨.other, false, 1, 8, [.nilFunc], none⟩ := rfl
theorem ti_135 : ti 135 = ⟨.other, false, 1, 8, [.nilFunc], none⟩ := rfl
theorem ti_136 : ti 136 = ⟨.other, false, 1, 8, [.nilFunc], none⟩ := rfl
theorem ti_137 : ti 137 = ⟨(.arr 8 50), true, 24, 192, [.int .i64 0, .int .i64 0, .int .i64 0, .int .i64 0, .int .i64 0, .int .i64 0, .int .i64 0, .int .i64 0, .int .i64 0, .int .i64 0, .int .i64 0, .int .i64 0, .int .i64 0, .int .i64 0, .int .i64 0, .int .i64 0, .int .i64 0, .int .i64 0, .int .i64 0, .int .i64 0, .int .i64 0, .int .i64 0, .int .i64 0, .int .i64 0], none⟩ := rfl
theorem ti_138 : ti 138 = ⟨(.st [(0, 9), (1, 3), (2, 9), (3, 137), (27, 50), (30, 4)]), true, 31, 264, [.string ⟨#[]⟩, .int .i64 0, .string ⟨#[]⟩, .int .i64 0, .int .i64 0, .int .i64 0, .int .i64 0, .int .i64 0, .int .i64 0, .int .i64 0, .int .i64 0, .int .i64 0, .int .i64 0, .int .i64 0, .int .i64 0, .int .i64 0, .int .i64 0, .int .i64 0, .int .i64 0, .int .i64 0, .int .i64 0, .int .i64 0, .int .i64 0, .int .i64 0, .int .i64 0, .int .i64 0, .int .i64 0, .int .i64 0, .int .i64 0, .int .i64 0, .bool false], none⟩ := rfl
theorem ti_139 : ti 139 = ⟨(.st [(0, 9), (1, 3), (2, 9), (3, 137), (27, 50), (30, 4)]), true, 31, 264, [.string ⟨#[]⟩, .int .i64 0, .string ⟨#[]⟩, .int .i64 0, .int .i64 0, .int .i64 0, .int .i64 0, .int .i64 0, .int .i64 0, .int .i64 0, .int .i64 0, .int .i64 0, .int .i64 0, .int .i64 0, .int .i64 0, .int .i64 0, .int .i64 0, .int .i64 0, .int .i64 0, .int .i64 0, .int .i64 0, .int .i64 0, .int .i64 0, .int .i64 0, .int .i64 0, .int .i64 0, .int .i64 0, .int .i64 0, .int .i64 0, .int .i64 0, .bool false], some .cset⟩ := rfl
theorem ti_140 : ti 140 = ⟨.other, false, 1, 8, [.nilFunc], none⟩ := rfl
theorem ti_141 : ti 141 = ⟨.other, false, 1, 8, [.nilFunc], none⟩ := rfl
theorem ti_142 : ti 142 = ⟨(.st [(0, 3), (1, 3), (2, 3)]), true, 3, 24, [.int .i64 0, .int .i64 0, .int .i64 0], some .ent⟩ := rfl
theorem ti_143 : ti 143 = ⟨.other, false, 1, 8, [.nilFunc], none⟩ := rfl
theorem ti_144 : ti 144 = ⟨.other, false, 1, 8, [.nilFunc], none⟩ := rfl
theorem ti_145 : ti 145 = ⟨.other, false, 1, 8, [.nilFunc], none⟩ := rfl
theorem ti_146 : ti 146 = ⟨.other, false, 1, 8, [.nilFunc], none⟩ := rfl
theorem ti_147 : ti 147 = ⟨.other, false, 1, 8, [.nilFunc], none⟩ := rfl
theorem ti_148 : ti 148 = ⟨.other, false, 1, 8, [.nilFunc], none⟩ := rfl
theorem ti_149 : ti 149 = ⟨(.st [(0, 17), (1, 17), (2, 17), (3, 9)]), true, 4, 40, [.pointer none, .pointer none, .pointer none, .string ⟨#[]⟩], none⟩ := rfl
theorem ti_150 : ti 150 = ⟨(.st [(0, 17), (1, 17), (2, 17), (3, 9)]), true, 4, 40, [.pointer none, .pointer none, .pointer none, .string ⟨#[]⟩], none⟩ := rfl
theorem ti_151 : ti 151 = ⟨(.arr 0 16), true, 0, 0, [], none⟩ := rfl
theorem ti_152 : ti 152 = ⟨(.st [(0, 151)]), true, 0, 0, [], none⟩ := rfl
theorem ti_153 : ti 153 = ⟨(.st [(0, 151)]), true, 0, 0, [], none⟩ := rfl
theorem ti_154 : ti 154 = ⟨.other, false, 1, 8, [.nilFunc], none⟩ := rfl
theorem ti_155 : ti 155 = ⟨(.int .u32), false, 1, 4, [.int .u32 0], none⟩ := rfl
theorem ti_156 : ti 156 = ⟨(.int .u8), false, 1, 1, [.int .u8 0], none⟩ := rfl
theorem ti_157 : ti 157 = ⟨(.int .u8), false, 1, 1, [.int .u8 0], none⟩ := rfl
theorem ti_158 : ti 158 = ⟨.other, false, 1, 8, [.nilFunc], none⟩ := rfl
theorem ti_159 : ti 159 = ⟨(.ptr 5), false, 1, 8, [.pointer none], none⟩ := rfl
theorem ti_160 : ti 160 = ⟨(.int .i32), false, 1, 4, [.int .i32 0], none⟩ := rfl
theorem ti_161 : ti 161 = ⟨(.int .i32), false, 1, 4, [.int .i32 0], none⟩ := rfl
theorem ti_162 : ti 162 = ⟨(.st [(0, 12), (1, 12), (2, 155), (3, 156), (4, 5), (5, 5), (6, 157), (7, 158), (8, 159), (9, 160), (10, 161)]), true, 11, 48, [.int .u64 0, .int .u64 0, .int .u32 0, .int .u8 0, .int .u8 0, .int .u8 0, .int .u8 0, .nilFunc, .pointer none, .int .i32 0, .int .i32 0], none⟩ := rfl
theorem ti_163 : ti 163 = ⟨(.st [(0, 12), (1, 12), (2, 155), (3, 156), (4, 5), (5, 5), (6, 157), (7, 158), (8, 159), (9, 160), (10, 161)]), true, 11, 48, [.int .u64 0, .int .u64 0, .int .u32 0, .int .u8 0, .int .u8 0, .int .u8 0, .int .u8 0, .nilFunc, .pointer none, .int .i32 0, .int .i32 0], none⟩ := rfl
theorem ti_164 : ti 164 = ⟨.other, false, 1, 8, [.nilFunc], none⟩ := rfl
theorem ti_165 : ti 165 = ⟨.other, false, 1, 8, [.nilFunc], none⟩ := rfl
end Go.Proofs.Ytfmeopnankeaeaa
